import Derived.Test.YtblkblclmbhjiaaGreatM13
set_option linter.unusedVariables false
set_option linter.unusedSimpArgs false
set_option maxHeartbeats 40000000
set_option maxRecDepth 100000
open Go.Proofs.Tryz
abbrev af8:=@Go.Exit.noGoto_ret
namespace Go.Proofs.YtblkblclmbhjiaaGreat.Vf
open Go.RowKit ak.Vm
open ak hiding aL an aj
open Ma (dx bQ aU vb aA aQ)
def Mq (w:World) (iz:Value) (p:aO) (T:Map) (pc:Nat) (e:Ending) (w':World):Prop:=
 e= .returned (ι (cO p T pc))/\da iz.ownBlock.toList w w'/\(cO p T pc=0->∃mv,ii w' iz p.code.length (iE p T pc) mv)
theorem mu {P:Program} {fn:Func} {R:Ending->World->Prop} {A:Array Value} {w:World} {t:Tmp} (h:fn.results=#[.tmp t]) (hR:R (.returned (A.getD t undef)) w):Exit.noGoto (bodyPost P fn R) .ret {tmps:=A,defers:=[]} w:=by rw [af8];exact eP h hR
theorem Mr {p:aO} {x:Ins} (dK:gI p x=true) (h:x.op=34\/x.op=35\/x.op=32\/x.op=40\/x.op=41\/x.op=38\/x.op=39):qu p x.a:=by
 have key:∀k,x.op.toNat=k->(bY k).getD 0 0=1->qu p x.a:=fun k e e1=>by have:=(dW dK e).1;rw [e1] at this;have:=cX this;exact ⟨this.1,this.2.1⟩
 rcases h with h|h|h|h|h|h|h
 ·exact key 34 (by rw [h];rfl) rfl
 ·exact key 35 (by rw [h];rfl) rfl
 ·exact key 32 (by rw [h];rfl) rfl
 ·exact key 40 (by rw [h];rfl) rfl
 ·exact key 41 (by rw [h];rfl) rfl
 ·exact key 38 (by rw [h];rfl) rfl
 ·exact key 39 (by rw [h];rfl) rfl
theorem RM {p:aO} {x:Ins} (dK:gI p x=true) (h:x.op=38\/x.op=39):qu p x.c:=by
 have key:∀k,x.op.toNat=k->(bY k).getD 2 0=1->qu p x.c:=fun k e e1=>by have:=(dW dK e).2.2.1;rw [e1] at this;have:=cX this;exact ⟨this.1,this.2.1⟩
 rcases h with h|h
 ·exact key 38 (by rw [h];rfl) rfl
 ·exact key 39 (by rw [h];rfl) rfl
theorem Ms {p:aO} {x:Ins} (dK:gI p x=true) (h:x.op=22\/x.op=23\/x.op=25\/x.op=26):0<=x.a/\x.a < p.code.length:=by
 have key:∀k,x.op.toNat=k->(bY k).getD 0 0=8->0<=x.a/\x.a < p.code.length:=fun k e e1=>by have:=(dW dK e).1;rw [e1] at this;exact js this
 rcases h with h|h|h|h
 ·exact key 22 (by rw [h];rfl) rfl
 ·exact key 23 (by rw [h];rfl) rfl
 ·exact key 25 (by rw [h];rfl) rfl
 ·exact key 26 (by rw [h];rfl) rfl
theorem wq:(prog.info? 233).map (·.size)=some 13:=by kernel_rfl
theorem wu (th:Bool) (s:Std) (a:Option Addr) (n c:Nat):∀v∈(bU th s (.slice a n c)).toList,v.oneCell'=true:=by simp [bU,Value.oneCell']
theorem Mt {p:aO} {T:Map} {pc:Nat} {x:Ins} {ty lo:List Nat} (h:cC p T pc x ty lo=true) (OX:x.op=26):0 < lo.length:=by
 cases lo with
 |cons t l=>simp
 |nil=>exfalso;unfold cC at h;simp [OX] at h
theorem vA (pc:Nat) (x:Ins) (s:Std):(cm pc x s).length<=2:=by
 unfold cm
 repeat' split
 all_goals simp
theorem TT {pc:Nat} {x:Ins} {s:Std} {w:Nat×Std} (h:w∈cm pc x s):w.2.lo.length<=s.lo.length+1:=by
 unfold cm at h
 repeat' split at h
 all_goals (simp at h)
 all_goals (first|(rcases h with rfl|rfl<;>simp)|(subst h;simp)|skip)
 all_goals omega
theorem Al {n:Nat} (l:List (Nat×Std)):(l.any fun w=>decide (n<=w.1))=true↔∃i,i < l.length/\n<=(l.getD i eh).1:=by
 rw [List.any_eq_true];constructor
 ·rintro ⟨w,hw,h⟩;obtain ⟨i,hi,e⟩:=agd hw;refine ⟨i,hi,?_⟩;rw [afS,afP hi];simp only [Option.getD_some,e];simpa using h
 ·rintro ⟨i,hi,h⟩;rw [afS,afP hi] at h;exact ⟨_,af6 hi,by simpa using h⟩
theorem yB (T:Map) (l:List (Nat×Std)):(jh l&&yI T l)=true↔Cq T l l.length:=by
 have at_:∀(l:List (Nat×Std)) k,(hk:k < l.length)->l.getD k eh=l[k]:=fun l k hk=>by rw [afS,afP hk];rfl
 have self:∀l:List (Nat×Std),jh l=true↔∀k,k < l.length->∀j,j < k->(l.getD j eh).1=(l.getD k eh).1->(l.getD j eh).2=(l.getD k eh).2:=by
  intro l
  induction l with
  |nil=>simp [jh]
  |cons w l ih=>
   rw [jh,afW,ih,agb];constructor
   ·rintro ⟨h1,h2⟩ k hk j hj;cases k with
    |zero=>omega
    |succ k=>
     have uK:k < l.length:=by simpa using hk
     cases j with
     |zero=>
      intro e;have:=h1 l[k] (af6 uK);simp only [Bool.or_eq_true,beq_iff_eq,agc,afX] at this;rw [List.getD_cons_succ,at_ l k uK] at e ⊢;simp only [List.getD_cons_zero] at e ⊢;rcases this with h|h
      ·exact absurd e.symm h
      ·exact h.symm
     |succ j=>rw [List.getD_cons_succ,List.getD_cons_succ];exact h2 k uK j omm
   ·intro h;refine ⟨fun v hv=>?_,fun k hk j hj=>by have:=h (k+1) (by simpa using hk) (j+1) omm;rwa [List.getD_cons_succ,List.getD_cons_succ] at this⟩;obtain ⟨k,hk,e⟩:=agd hv;have:=h (k+1) (by simpa using hk) 0 omm;rw [List.getD_cons_succ,List.getD_cons_zero,at_ l k hk,e] at this;simp only [Bool.or_eq_true,beq_iff_eq,agc,afX];by_cases e2:v.1=w.1
    ·exact .inr (this e2.symm).symm
    ·exact .inl e2
 rw [afW,self];unfold yI Cq;rw [agb];constructor
 ·rintro ⟨h1,h2⟩ k hk;refine ⟨h1 k hk,fun s hs=>?_⟩;have:=h2 l[k] (af6 hk);rw [at_ l k hk] at hs ⊢;rw [hs] at this;simpa using this
 ·intro h;refine ⟨fun k hk=>(h k hk).1,fun v hv=>?_⟩;obtain ⟨k,hk,e⟩:=agd hv;have:=(h k hk).2;rw [at_ l k hk,e] at this;cases hT:T v.1 with
  |none=>rfl
  |some s=>simpa using this s hT
def RL1 (w:World) (vb pc:Nat) (cx cs:Array Value) (a:Act) (W:World):Prop:=
 ∃(J:Nat->Value) (bx bs:Nat),a=FK J/\J 0=ρ vb/\J 1=ι pc/\J 5=ρ bx/\J 6=ρ bs/\Hid (ay W bx 40 cx)/\Hid (ay W bs 233 cs)/\Hid (bx≠bs/\w.heap.size<=bx/\w.heap.size<=bs)/\Hid (Below w.heap.size w W)
section
variable {w:World} {K:Kp} {p:aO} {iz:Value} {vb:Nat} {T:Map} {mv:Nat->Value} {pc:Nat}
theorem agY {p:Prop} (h:p:=by
 refine mu rfl ?_;rw [hA];exact ⟨by rw [HE.o],da.ah (HW.o.trans (ui.mono HW.o.size)),fun h=>by rw [HE.o] at h;cases h⟩):p:=h
theorem adN {p:Prop} (h:p:=by
 intro wz bR;exact qU):p:=h
theorem acp {p:Prop} (h:p:=by
 go_wp2_with fail;refine mu rfl ?_;exact ⟨by rw [HE.o];rfl,da.ah HW.o,fun h=>by rw [HE.o] at h;cases h⟩):p:=h
theorem ET (h:fP w K p) (hv:ay w vb 230 (qR K p iz)) (hs:ii w iz p.code.length T mv) (tk:VM p T) (nj:pc < p.code.length) (hlen:p.code.length<=262144) (cW:iP (ai p pc)=true) (dK:gI p (ai p pc)=true):
 Calls prog 173 #[ρ vb,ι pc] w (Mq w iz p T pc):=by
 obtain ⟨cb,wk,zF,kc,q1,q2,VU,c0,c1,c2,c3,c4⟩:∃b off cap,K.c= .slice (some (π b off)) p.code.length cap/\p.code.length<=cap/\cap<=maxLen/\b < w.heap.size/\
  w.cell? (π b (off+pc*5))=some (ι (ai p pc).op)/\w.cell? (π b (off+pc*5+1))=some (ι (ai p pc).a)/\w.cell? (π b (off+pc*5+2))=some (ι (ai p pc).b)/\w.cell? (π b (off+pc*5+3))=some (ι (ai p pc).c)/\w.cell? (π b (off+pc*5+4))=some (ι (ai p pc).d):=by
  obtain ⟨b,off,cap,e,h1,h2,c0,c1,c2,c3,c4⟩:=h.ins nj;exact ⟨b,off,cap,e,h1,h2,aS c0,c0,c1,c2,c3,c4⟩
 obtain ⟨A,cap,rfl,a1,a2,a3,s0,s1,s2,s3,s4,s5,s6,s7,s8,s9,JF,FE,zz⟩:=hs.RD nj;obtain ⟨ma,mc,VK,-,-⟩:=aV.val (hs.more pc nj);obtain ⟨-,-,-,-,-,v5,v6⟩:=hv.c7;have lv:=hv.lt;rw [kc] at v5;rw [VK] at zz;have H:=ae h;have HV:=ae hv;have HS:=ae hs;have TK:=ae tk;have Pc:=ae VK;clear h hv hs tk VK;generalize hx:ai p pc=x at*;have HX:=ae hx;clear hx;generalize fj:eV T pc=s at*;have kV:=ae fj;have Aj:=ae fj;have GC:=ae nj;clear fj;have hB:=ag7 w;generalize tO:fH s.ty=tb at*;have qX:=ae tO;clear tO;generalize Cm:bE s.lo=lc at*;have uy:=ae Cm;clear Cm;generalize Ae:s.lo.length=ln at*;have oH:=ae Ae;clear Ae;generalize Ai:s.ha=ha at*;have JG:=ae Ai;clear Ai;generalize zZ:ln - 8=n8 at*;have Oa:=ae zZ;clear zZ;go_enter func173,ntmps173;go_wp2_with fail;go_step3;go_wp2_with fail;refine wp_mono (Q:=fun e a W=>e=Exit.normal/\RL1 w vb pc #[ι x.op,ι x.a,ι x.b,ι x.c,ι x.d] #[.bool (T pc).isSome,.string tb,ι (lc 0),ι (lc 1),ι (lc 2),ι (lc 3),ι (lc 4),ι (lc 5),ι (lc 6),ι (lc 7),ι ln,ι ha,.slice ma n8 mc] a W) ?_ ?_
 ·refine Mk.bF (S:=fun wx=>Below w.heap.size w wx) krr (au _ w 1) (fun al=>?_);refine Mk.tk 0 (v:=?_) rfl ?_ aas ?_;rotate_left
  ·exact adN
  refine Mk.pt ?_;refine Mk.tk 1 (v:=?_) rfl ?_ aas ?_;rotate_left
  ·exact adN
  refine Mk.pt ?_;refine Mk.tk 2 (v:=?_) rfl ?_ aas ?_;rotate_left
  ·exact adN
  refine Mk.pt ?_;refine Mk.tk 3 (v:=?_) rfl ?_ aas ?_;rotate_left
  ·exact adN
  refine Mk.pt ?_;refine Mk.tk 4 (v:=?_) rfl ?_ aas ?_;rotate_left
  ·intro wz bR;have key:∀b i v,b < w.heap.size->w.cell? (π b i)=some v->wz.cell? (π b i)=some v:=fun b i v hb hc=>(afG (bR.block _ hb)).trans hc;have y0:=key _ _ _ lv v5;exact qU
  refine Mk.pt ?_;refine Mk.tk 5 (v:=?_) rfl ?_ aas ?_;rotate_left
  ·exact adN
  refine Mk.pt ?_;refine Mk.tk 6 (v:=?_) rfl ?_ aas ?_;rotate_left
  ·exact adN
  refine Mk.pt ?_;refine Mk.tk 7 (v:=?_) rfl ?_ aas ?_;rotate_left
  ·intro wz bR;have key:∀b i v,b < w.heap.size->w.cell? (π b i)=some v->wz.cell? (π b i)=some v:=fun b i v hb hc=>(afG (bR.block _ hb)).trans hc;have y0:=key _ _ _ VU c0;have y1:=key _ _ _ VU c1;have y2:=key _ _ _ VU c2;have y3:=key _ _ _ VU c3;have y4:=key _ _ _ VU c4;exact qU
  refine Mk.pt ?_;refine Mk.tk 8 (v:=?_) rfl ?_ aas ?_;rotate_left
  ·exact adN
  refine Mk.pt ?_;refine Mk.tk 9 (v:=?_) rfl ?_ aas ?_;rotate_left
  ·exact adN
  refine Mk.pt ?_;refine Mk.tk 10 (v:=?_) rfl ?_ aas ?_;rotate_left
  ·exact adN
  refine Mk.pt ?_;refine Mk.tk 11 (v:=?_) rfl ?_ aas ?_;rotate_left
  ·intro wz bR;have key:∀b i v,b < w.heap.size->w.cell? (π b i)=some v->wz.cell? (π b i)=some v:=fun b i v hb hc=>(afG (bR.block _ hb)).trans hc;have y0:=key _ _ _ lv v6;exact qU
  refine Mk.pt ?_;refine Mk.tk 12 (v:=?_) rfl ?_ aas ?_;rotate_left
  ·exact adN
  refine Mk.pt ?_;refine Mk.tk 13 (v:=?_) rfl ?_ aas ?_;rotate_left
  ·exact adN
  refine Mk.pt ?_;refine Mk.tk 14 (v:=?_) rfl ?_ aas ?_;rotate_left
  ·intro wz bR;have key:∀b i v,b < w.heap.size->w.cell? (π b i)=some v->wz.cell? (π b i)=some v:=fun b i v hb hc=>(afG (bR.block _ hb)).trans hc;exact qX5
  refine Mk.pt ?_;refine afR (rs:=[15,16]) krr smm ?_;refine afJ rfl (fun K hK=>?_) (afJ rfl (fun K hK=>?_) af1);refine QX ?_;go_simp;refine hK.out _ _ (al.alloc al.size _) (fun al=>?_);clear hK K;refine Mk.pt ?_;refine afR (rs:=[16]) krr smm ?_;refine afJ rfl (fun K hK=>?_) af1;refine QX ?_;go_simp;refine hK.out _ _ (al.alloc al.size _) (fun al=>?_);clear hK K;refine Mk.pt ?_;refine afR (rs:=[17]) krr smm ?_;refine afJ rfl (fun K hK=>?_) af1;refine QX ?_;go_simp;refine hK.out _ _ (((au _ w 1).alloc (afF _) _).alloc smm _) (fun al=>?_);clear hK K;refine Mk.pt ?_;refine afR (rs:=[18]) krr smm ?_;refine afJ rfl (fun K hK=>?_) af1;refine QX ?_;go_simp;refine hK.out _ _ (((au _ w 1).alloc (afF _) _).alloc smm _) (fun al=>?_);clear hK K;refine Mk.pt ?_;refine afZ krr ⟨rfl,?_⟩ _;clear al;rotate_left;refine QX ?_;go_simp;refine hK.out _ _ (al.alloc al.size _) (fun al=>?_);clear hK K;refine Mk.pt ?_;refine afR (rs:=[15]) krr smm ?_;refine afJ rfl (fun K hK=>?_) af1;refine QX ?_;go_simp;refine hK.out _ _ (al.alloc al.size _) (fun al=>?_);clear hK K;refine Mk.pt ?_;refine afR (rs:=[17]) krr smm ?_;refine afJ rfl (fun K hK=>?_) af1;refine QX ?_;go_simp;refine hK.out _ _ (((au _ w 1).alloc (afF _) _).alloc smm _) (fun al=>?_);clear hK K;refine Mk.pt ?_;refine afR (rs:=[18]) krr smm ?_;refine afJ rfl (fun K hK=>?_) af1;refine QX ?_;go_simp;refine hK.out _ _ (((au _ w 1).alloc (afF _) _).alloc smm _) (fun al=>?_);clear hK K;refine Mk.pt ?_;refine afZ krr ⟨rfl,?_⟩ _;clear al
  all_goals
   refine ⟨rfl,?_⟩
   first
   |exact ⟨_,w.heap.size,w.heap.size+1,FK.of _ rfl,rfl,rfl,rfl,rfl,ae (((ay.new w _ _).alloc _).drewN 1),ae ((ay.a_ smm).drewN 1),ae ⟨omm,omm,omm⟩,ae ((hB _ _ _ _).trans (au _ _ 1))⟩
   |exact ⟨_,w.heap.size+1,w.heap.size,FK.of _ rfl,rfl,rfl,rfl,rfl,ae ((ay.a_ smm).drewN 1),ae (((ay.new w _ _).alloc _).drewN 1),ae ⟨omm,omm,omm⟩,ae ((hB _ _ _ _).trans (au _ _ 1))⟩
 ·rintro e a W ⟨rfl,J,bx,bs,rfl,j0,j1,j5,j6,KX,KS,rM,HW⟩;have sd:=ae rM.o.1;have y_:=ae rM.o.2.2;unfold FK;rw [j0,j1,j5,j6];clear j0 j1 j5 j6 rM v5 v6 lv nj VU a3 c0 c1 c2 c3 c4 s0 s1 s2 s3 s4 s5 s6 s7 s8 s9 JF FE zz q1 q2 kc hB;cases hT:T pc with
  |none=>have HE:=ae (show cO p T pc=99 by unfold cO;rw [hT]);rw [hT] at KS;change Hid (ay W bs 233 #[.bool false,.string tb,ι (lc 0),ι (lc 1),ι (lc 2),ι (lc 3),ι (lc 4),ι (lc 5),ι (lc 6),ι (lc 7),ι ln,ι ha,.slice ma n8 mc]) at KS;obtain ⟨d0,d1,d2,d3,d4⟩:=KX.o.c5;obtain ⟨e0,e1,e2,e3,e4,e5,e6,e7,e8,e9,Dl,Dm,Dn⟩:=KS.o.nN;have lx:=KX.o.lt;have ls:=KS.o.lt;have fs:=KS.o.frozen;exact acp
  |some st=>
   have hss:eV T pc=st:=by unfold eV;rw [hT];rfl
   obtain rfl:st=s:=hss.symm.trans kV.o;rw [hT] at KS;change Hid (ay W bs 233 #[.bool true,.string tb,ι (lc 0),ι (lc 1),ι (lc 2),ι (lc 3),ι (lc 4),ι (lc 5),ι (lc 6),ι (lc 7),ι ln,ι ha,.slice ma n8 mc]) at KS;have hle:cO p T pc=if !dU p x st.ha then 96 else if bM x st.ty≠0 then bM x st.ty else if !cJ p x then 92 else if !cC p T pc x (aT x st.ty) st.lo then 95 else if (cm pc x ⟨aT x st.ty,st.lo,be p x st.ha⟩).any (fun w=>decide (p.code.length<=w.1)) then 98 else if !(jh (cm pc x ⟨aT x st.ty,st.lo,be p x st.ha⟩)&&yI T (cm pc x ⟨aT x st.ty,st.lo,be p x st.ha⟩)) then 94 else 0:=by unfold cO;rw [hT,HX.o]
   have TU:iE p T pc=oP T (cm pc x ⟨aT x st.ty,st.lo,be p x st.ha⟩):=by unfold iE;rw [hT,HX.o]
   have Cr:=ae hle;have HLM:=ae TU;have aeK:0<=x.op/\x.op<=41:=by unfold iP aF at cW;simpa using cW
   have HQA:=ae (fun h=>Mr dK h);have HQC:=ae (fun h=>RM dK h);have HXA:=ae (fun h=>Ms dK h);have tlo:=TK.o.loops pc st hT;have tty:=TK.o.ty pc st hT;have Yr:=TK.o.len pc st hT;have tha:=TK.o.ha pc st hT;have JH:=ae (fun V (hb:Below w.heap.size w V)=>PH (x:=x) (ha:=st.ha) (H.o.aB (da.ah hb)) (HV.o.of (hb.block _ HV.o.lt)) (fun h=>HQA.o (by simp [h])) tha);have hmr:∃a n c,mv pc= .slice a n c:=⟨_,_,_,Pc.o⟩;have PT:=ae (fun V=>PN V (vv:=ρ vb) (mv:=mv pc) true (s:=st) (x:=x) aeK.1 aeK.2 Yr tty hmr);have VV:=ae (fun V (hb:Below w.heap.size w V)=>PI (x:=x) (H.o.aB (da.ah hb)) (HV.o.of (hb.block _ HV.o.lt)) (fun h=>HQA.o (by rcases h with h|h|h|h|h<;>simp [h])) (fun h=>HQC.o h));have EU:=ae (fun V (hb:Below w.heap.size w V) (ht:eI (aT x st.ty))=>Ac (s:=⟨aT x st.ty,st.lo,st.ha⟩) (x:=x) (pc:=pc) (T:=T) (smv:=mv pc) (H.o.aB (da.ah hb)) (HV.o.of (hb.block _ HV.o.lt)) (HS.o.aB (da.ah hb)) (by have h1:=HS.o.more pc GC.o;rw [Aj.o] at h1;exact h1.aB (da.ah hb)) ⟨GC.o,aeK.1,fun h=>HXA.o h,tlo,ht,fun q s hq=>⟨TK.o.loops q s hq,TK.o.ty q s hq⟩,hlen⟩);have HHO:=ae (fun V (hb:Below w.heap.size w V)=>TE (x:=x) (ha:=st.ha) (H.o.aB (da.ah hb)) (HV.o.of (hb.block _ HV.o.lt)) (fun h=>HQA.o (by simp [h])));have HMM:=ae (show cZ w (mv pc) st.lo from by have h1:=HS.o.more pc GC.o;rw [Aj.o] at h1;exact h1);have sL:=ae (Gy TK.o.loops st.lo pc tlo);have LZ:=ae (Cn (x:=x) (ty:=st.ty) omm tty);have HTH:=ae tha;have HT:=ae hT;rw [Pc.o] at PT EU;rw [JG.o] at JH EU HHO;unfold aQ aA at JH VV HHO;unfold aQ aA cT bU at PT EU;dsimp only at EU;rw [qX.o,uy.o,oH.o,JG.o] at PT;rw [uy.o,oH.o] at EU;rw [JG.o] at Cr HLM;clear hle TU hT hss kV hmr tlo tty Yr tha cW dK;obtain ⟨d0,d1,d2,d3,d4⟩:=KX.o.c5;obtain ⟨e0,e1,e2,e3,e4,e5,e6,e7,e8,e9,Dl,Dm,Dn⟩:=KS.o.nN;have lx:=KX.o.lt;have ls:=KS.o.lt;have fs:=KS.o.frozen;cases hh:dU p x ha with
   |false=>
    have HE:=ae (show cO p T pc=96 by rw [Cr.o,hh];rfl);rw [hh] at JH;go_wp2_with fail
    with_reducible refine (JH.o _ HW.o).mono ?_
    rintro e W1 ⟨rfl,hb⟩;clear d0 d1 d2 d3 d4 e0 e1 e2 e3 e4 e5 e6 e7 e8 e9 Dl Dm Dn lx ls fs;replace KX:=ae (KX.o.of (hb.block _ KX.o.lt));replace KS:=ae (KS.o.of (hb.block _ KS.o.lt));replace HW:=ae (HW.o.trans (hb.mono HW.o.size));clear hb;exact acp
   |true=>
    have VW:=ae hh;rw [hh] at JH;go_wp2_with fail
    with_reducible refine (JH.o _ HW.o).mono ?_
    rintro e W1 ⟨rfl,hb⟩;clear d0 d1 d2 d3 d4 e0 e1 e2 e3 e4 e5 e6 e7 e8 e9 Dl Dm Dn lx ls fs;replace KX:=ae (KX.o.of (hb.block _ KX.o.lt));replace KS:=ae (KS.o.of (hb.block _ KS.o.lt));replace HW:=ae (HW.o.trans (hb.mono HW.o.size));clear hb;obtain ⟨d0,d1,d2,d3,d4⟩:=KX.o.c5;obtain ⟨e0,e1,e2,e3,e4,e5,e6,e7,e8,e9,Dl,Dm,Dn⟩:=KS.o.nN;have lx:=KX.o.lt;have ls:=KS.o.lt;have fs:=KS.o.frozen;go_wp2_with fail
    with_reducible refine (PT.o _).mono ?_
    rintro e W2 ⟨s',rfl,lO,hb⟩;clear d0 d1 d2 d3 d4 e0 e1 e2 e3 e4 e5 e6 e7 e8 e9 Dl Dm Dn lx ls fs;replace KX:=ae (KX.o.of (hb.block _ KX.o.lt));replace KS:=ae (KS.o.of (hb.block _ KS.o.lt));replace HW:=ae (HW.o.trans (hb.mono HW.o.size));clear hb;obtain ⟨d0,d1,d2,d3,d4⟩:=KX.o.c5;obtain ⟨e0,e1,e2,e3,e4,e5,e6,e7,e8,e9,Dl,Dm,Dn⟩:=KS.o.nN;have lx:=KX.o.lt;have ls:=KS.o.lt;have fs:=KS.o.frozen;by_cases RN:bM x st.ty=0
    case neg=>
     have abi:(bM x st.ty !=0)=true:=by simpa using RN
     have HE:=ae (show cO p T pc=bM x st.ty by rw [Cr.o,VW.o];simp [RN]);have HNZ:=ae RN;unfold cT;generalize bM x st.ty=te at*;clear lO RN e0 e1 e2 e3 e4 e5 e6 e7 e8 e9 Dl Dm Dn fs;go_wp2_with (refine fM rfl 233 (.tmp 6) (.tmp 46) rfl bs (bU true s' (.slice ma n8 mc)) rfl rfl KS.o rfl wq (wu _ _ _ _ _) ?_;intro W3 iO IT);refine mu rfl ?_;exact ⟨by rw [HE.o];rfl,da.ah (HW.o.trans (IT.below HW.o.size (by have:=y_.o;simp;exact this))),fun h=>absurd (HE.o.symm.trans h) HNZ.o⟩
    case pos=>
     obtain rfl:=lO RN;rw [RN];have Ys:=ae RN;clear lO RN;unfold cT;have Yt:=ae (show bU true ⟨aT x st.ty,st.lo,st.ha⟩ (.slice ma n8 mc)=#[.bool true,.string (fH (aT x st.ty)),ι (lc 0),ι (lc 1),ι (lc 2),ι (lc 3),ι (lc 4),ι (lc 5),ι (lc 6),ι (lc 7),ι ln,ι ha,.slice ma n8 mc] from by unfold bU;rw [uy.o,oH.o,JG.o]);generalize Yu:fH (aT x st.ty)=tb2 at*;have Yv:=ae Yu;clear Yu e0 e1 e2 e3 e4 e5 e6 e7 e8 e9 Dl Dm Dn fs;cases hk:cJ p x with
     |false=>
      have HE:=ae (show cO p T pc=92 by rw [Cr.o,VW.o,Ys.o,hk];rfl);rw [hk] at VV;go_wp2_with ((refine fM rfl 233 (.tmp 6) (.tmp 46) rfl bs (bU true ⟨aT x st.ty,st.lo,st.ha⟩ (.slice ma n8 mc)) rfl rfl KS.o rfl wq (wu _ _ _ _ _) ?_;intro W3 iO IT;rw [Yt.o] at iO;replace KX:=ae (KX.o.aB IT (by have:=sd.o;simp;exact this));replace HW:=ae (HW.o.trans (IT.below HW.o.size (by have:=y_.o;simp;exact this)));replace KS:=ae iO;replace d0:W3.cell? (π bx 0)=some (ι x.op):=KX.o.cell 0;replace d1:W3.cell? (π bx 1)=some (ι x.a):=KX.o.cell 1;replace d2:W3.cell? (π bx 2)=some (ι x.b):=KX.o.cell 2;replace d3:W3.cell? (π bx 3)=some (ι x.c):=KX.o.cell 3;replace d4:W3.cell? (π bx 4)=some (ι x.d):=KX.o.cell 4;replace lx:=KX.o.lt;clear iO IT ls))
      with_reducible refine (VV.o _ HW.o).mono ?_
      rintro e W4 ⟨rfl,hb⟩;clear d0 d1 d2 d3 d4 lx;replace KX:=ae (KX.o.of (hb.block _ KX.o.lt));replace KS:=ae (KS.o.of (hb.block _ KS.o.lt));replace HW:=ae (HW.o.trans (hb.mono HW.o.size));clear hb;exact acp
     |true=>
      have HKT:=ae hk;rw [hk] at VV;go_wp2_with ((refine fM rfl 233 (.tmp 6) (.tmp 46) rfl bs (bU true ⟨aT x st.ty,st.lo,st.ha⟩ (.slice ma n8 mc)) rfl rfl KS.o rfl wq (wu _ _ _ _ _) ?_;intro W3 iO IT;rw [Yt.o] at iO;replace KX:=ae (KX.o.aB IT (by have:=sd.o;simp;exact this));replace HW:=ae (HW.o.trans (IT.below HW.o.size (by have:=y_.o;simp;exact this)));replace KS:=ae iO;replace d0:W3.cell? (π bx 0)=some (ι x.op):=KX.o.cell 0;replace d1:W3.cell? (π bx 1)=some (ι x.a):=KX.o.cell 1;replace d2:W3.cell? (π bx 2)=some (ι x.b):=KX.o.cell 2;replace d3:W3.cell? (π bx 3)=some (ι x.c):=KX.o.cell 3;replace d4:W3.cell? (π bx 4)=some (ι x.d):=KX.o.cell 4;replace lx:=KX.o.lt;clear iO IT ls))
      with_reducible refine (VV.o _ HW.o).mono ?_
      rintro e W4 ⟨rfl,hb⟩;clear d0 d1 d2 d3 d4 lx;replace KX:=ae (KX.o.of (hb.block _ KX.o.lt));replace KS:=ae (KS.o.of (hb.block _ KS.o.lt));replace HW:=ae (HW.o.trans (hb.mono HW.o.size));clear hb;obtain ⟨d0,d1,d2,d3,d4⟩:=KX.o.c5;obtain ⟨e0,e1,e2,e3,e4,e5,e6,e7,e8,e9,Dl,Dm,Dn⟩:=KS.o.nN;have lx:=KX.o.lt;have ls:=KS.o.lt;have fs:=KS.o.frozen;obtain ⟨jb,hjb⟩:∃z,cC p T pc x (aT x st.ty) st.lo=z:=⟨_,rfl⟩;have Yw:=ae hjb;rw [hjb] at EU;clear hjb;cases jb with
      |false=>
       have HE:=ae (show cO p T pc=95 by rw [Cr.o,VW.o,Ys.o,HKT.o,Yw.o];rfl);go_wp2_with fail
       with_reducible refine (EU.o _ HW.o LZ.o).mono ?_
       rintro e W5 ⟨rfl,hb⟩;clear d0 d1 d2 d3 d4 e0 e1 e2 e3 e4 e5 e6 e7 e8 e9 Dl Dm Dn lx ls fs;replace KX:=ae (KX.o.of (hb.block _ KX.o.lt));replace KS:=ae (KS.o.of (hb.block _ KS.o.lt));replace HW:=ae (HW.o.trans (hb.mono HW.o.size));clear hb;exact acp
      |true=>
       go_wp2_with fail
       with_reducible refine (EU.o _ HW.o LZ.o).mono ?_
       rintro e W5 ⟨rfl,hb⟩;clear d0 d1 d2 d3 d4 e0 e1 e2 e3 e4 e5 e6 e7 e8 e9 Dl Dm Dn lx ls fs;replace KX:=ae (KX.o.of (hb.block _ KX.o.lt));replace KS:=ae (KS.o.of (hb.block _ KS.o.lt));replace HW:=ae (HW.o.trans (hb.mono HW.o.size));clear hb;obtain ⟨d0,d1,d2,d3,d4⟩:=KX.o.c5;obtain ⟨e0,e1,e2,e3,e4,e5,e6,e7,e8,e9,Dl,Dm,Dn⟩:=KS.o.nN;have lx:=KX.o.lt;have ls:=KS.o.lt;have fs:=KS.o.frozen;have GD:=ae (fun V (hb:Below w.heap.size w V)=>TN V (pc:=pc) (x:=x) (s:=⟨aT x st.ty,st.lo,be p x ha⟩) (smv:= .slice ma n8 mc) (by rw [<-Pc.o];exact HMM.o.aB (da.ah hb)) (by have:=GC.o;omega) aeK.1 (fun h=>(HXA.o h).1) (by show st.lo.length<=_;have:=sL.o;have:=GC.o;omega) (fun h=>Mt Yw.o h));unfold aQ aA cT bU at GD;dsimp only at GD;rw [Yv.o,uy.o,oH.o] at GD
       try rw [Oa.o] at GD
       rw [<-JG.o] at GD;rw [JG.o] at GD;have TV:=vA pc x ⟨aT x st.ty,st.lo,be p x ha⟩;have Yx:WOk (cm pc x ⟨aT x st.ty,st.lo,be p x ha⟩):=fun i hi=>by
        have hm:(cm pc x ⟨aT x st.ty,st.lo,be p x ha⟩).getD i eh∈cm pc x ⟨aT x st.ty,st.lo,be p x ha⟩:=by rw [afS,afP hi];exact af6 hi
        refine ⟨by rw [(Ag hm).1];exact LZ.o,?_⟩;have h1:=TT hm;have h2:=sL.o;have h3:=GC.o;show _<=_;dsimp only at h1;omega
       have aaE:=ae Yx;generalize cm pc x ⟨aT x st.ty,st.lo,be p x ha⟩=wl at*;clear Yx;go_wp2_with fail
       with_reducible refine (HHO.o _ HW.o).mono ?_
       rintro e W6 ⟨rfl,hb⟩;clear d0 d1 d2 d3 d4 e0 e1 e2 e3 e4 e5 e6 e7 e8 e9 Dl Dm Dn lx ls fs;replace KX:=ae (KX.o.of (hb.block _ KX.o.lt));replace KS:=ae (KS.o.of (hb.block _ KS.o.lt));replace HW:=ae (HW.o.trans (hb.mono HW.o.size));clear hb;obtain ⟨d0,d1,d2,d3,d4⟩:=KX.o.c5;obtain ⟨e0,e1,e2,e3,e4,e5,e6,e7,e8,e9,Dl,Dm,Dn⟩:=KS.o.nN;have lx:=KX.o.lt;have ls:=KS.o.lt;have fs:=KS.o.frozen;generalize υ:be p x ha=hd9 at*;clear υ;go_wp2_with fail;have hB7:Below w.heap.size w (W6.setCell (π bs 11) (ι hd9)):=HW.o.setCell (p:=(π bs 11)) y_.o _;generalize (W6.setCell (π bs 11) (ι hd9))=W7 at*;replace HW:=ae hB7;clear hB7 KX KS;clear d0 d1 d2 d3 d4 e0 e1 e2 e3 e4 e5 e6 e7 e8 e9 Dl Dm Dn lx ls fs
       with_reducible refine (GD.o _ HW.o).mono ?_
       rintro e W8 ⟨lv,tP,rfl,hy,hb,fo⟩;obtain ⟨la,TW,GB,-,-⟩:=hy.row.val;subst GB;have HY:=ae hy;have h67:=HW.o.size;have aaF:=ae (fun b hb=>afM h67 (fo b hb));replace HW:=ae (HW.o.trans (hb.mono HW.o.size));have HP8:=ae (H.o.aB (da.ah HW.o));have HV8:=ae (HV.o.of (HW.o.block _ HV.o.lt));have HS8:=ae (HS.o.aB (da.ah HW.o));have VQ:Hid (∀q s,T q=some s->eI s.ty/\s.lo.length<=1000000000):=ae fun q s hq=>⟨TK.o.ty q s hq,by
        have h1:=Gy TK.o.loops s.lo q (TK.o.loops q s hq);have h2:=TK.o.lt q s hq;omega⟩
       have PR:Hid (∀i,i < wl.length->∀b,(tP i).ownBlock=some b->b≠A):=ae fun i hi b hb e=>by
        subst e;rcases HY.o.off i hi _ hb with h1|h1
        ·exact HS.o.off pc GC.o b (by rw [Pc.o];exact h1) rfl
        ·have h2:b < w.heap.size:=(HS.o.row.slice).2.2.2;omega
       have ES:Hid (∀b,(Value.slice la wl.length TW).ownBlock=some b->b≠A):=ae fun b hb e=>by subst e;have h1:=aaF.o b hb;have h2:b < w.heap.size:=(HS.o.row.slice).2.2.2;omega
       have Yy:Hid (vb≠A):=ae fun e=>by subst e;exact HS.o.row.eF HV.o dee rfl
       clear hy hb fo h67 HS H HMM JH PT VV EU HHO GD;go_wp2_with fail;refine lk1 (w1:=W8) (pc:=pc) HP8 HV8 HY TV (fun A9 W9 hA ui hex=>?_) (fun J9 W9 j0 j1 j8 ui Yz=>?_) ⟨_,0,FK.of _ rfl,rfl,rfl,rfl,rfl,rfl,rfl,afO _,rfl,ae (afL _ _)⟩
       ·have HE:=ae (show cO p T pc=98 from by rw [Cr.o,VW.o,Ys.o,HKT.o,Yw.o,(Al wl).2 hex];rfl);exact agY
       ·have PU:=ae Yz;have Dp:=ae ui;unfold FK;rw [j0,j1,j8];clear j0 j1 j8 Yz ui;go_wp2_with fail;go_step3;go_wp2_with fail;refine lk2 (w1:=W8) (pc:=pc) (mv:=mv) HV8 HS8 VQ HY aaE TV PU ?_ ?_ ?_;rotate_left 2
        ·exact ⟨_,0,FK.of _ rfl,rfl,rfl,rfl,rfl,rfl,rfl,afO _,rfl,Dp⟩
        ·intro A9 W10 hA ui hex;have HAN:=ae (show wl.any (fun w=>decide (p.code.length<=w.1))=false from by
          rw [agk];intro h;obtain ⟨i,hi,h2⟩:=(Al wl).1 h;have:=PU.o i hi;omega)
         have HE:=ae (show cO p T pc=94 from by
          rw [Cr.o,VW.o,Ys.o,HKT.o,Yw.o,HAN.o,show (jh wl&&yI T wl)=false from by rw [agk];exact fun h=>hex ((yB T wl).1 h)];rfl)
         exact agY
        ·intro J10 W10 j0 j1 j8 ui hme;have HME:=ae hme;have Mu:=ae ui;unfold FK;rw [j0,j8];clear j0 j1 j8 hme ui;go_wp2_with fail;have aaG:=ae (HV8.o.of (Mu.o.block _ HV8.o.lt));have vP:=ae (HY.o.aB (da.ah Mu.o));refine lk4 (w1:=W10) aaG Yy vP ES PR (by have h2:=(HS8.o.row.slice).2.2.2;have:=Mu.o.size;omega) TV PU (fun J11 W11 Mg hF hS=>?_) ⟨_,0,FK.of _ rfl,rfl,rfl,rfl,rfl,afO _,rfl,ae (da.refl _ _),mv,ae (by rw [List.take_zero];exact HS8.o.aB (da.ah Mu.o))⟩;have HF:=ae hF;have aaH:=ae hS;unfold FK;clear hF hS;go_wp2_with fail;refine mu rfl ?_;have HAN:=ae (show wl.any (fun w=>decide (p.code.length<=w.1))=false from by
          rw [agk];intro h;obtain ⟨i,hi,h2⟩:=(Al wl).1 h;have:=PU.o i hi;omega)
         have HE:=ae (show cO p T pc=0 from by
          rw [Cr.o,VW.o,Ys.o,HKT.o,Yw.o,HAN.o,(yB T wl).2 HME.o];rfl)
         exact ⟨by rw [HE.o];rfl,(da.ah (HW.o.trans (Mu.o.mono HW.o.size))).trans HF.o,fun _=>⟨Mg,by rw [HLM.o];exact aaH.o⟩⟩
theorem MJ (p:aO) (j:Nat):(dx p j).oneCell'=true:=by
 unfold dx;dsimp only
 repeat' split
 all_goals rfl
theorem IZ (p:aO) (j:Nat):(bQ p j).oneCell'=true:=by
 unfold bQ;dsimp only
 repeat' split
 all_goals rfl
def Own (w W:World) (E:TypeId) (size n:Nat) (v:Value) (g:Nat->Value):Prop:=Row W E size v n g/\mN w.heap.size W.heap.size v
theorem Own.later {w W W':World} {E:TypeId} {size n:Nat} {v:Value} {g:Nat->Value} (h:Own w W E size n v g) (b:Below W.heap.size W W'):Own w W' E size n v g:=
 ⟨h.1.aB (da.ah (S:=[]) b) smm,h.2.mono (afF _) b.size⟩
structure MK (w W:World) (K:Kp) (p:aO):Prop where
 g:Own w W 4 1 p.ap.length K.g (fun i=> .bool (p.ap.getD i false))
 v:Own w W 122 3 p.vars.length K.v (dx p)
 t:Own w W 3 1 p.aW.length K.t (aU p.aW)
 o:Own w W 3 1 p.on.length K.o (aU p.on)
 c:Own w W 40 5 p.code.length K.c (bQ p)
theorem Own.fin {w W W':World} {E T:TypeId} {size n:Nat} {v:Value} {g:Nat->Value} {cs:Array Value} (h:Own w W E size n v g) (hz:ay W (w.heap.size+1) T cs) (ht:E≠T) (f:da [w.heap.size+1] W W'):Own w W' E size n v g:=
 ⟨h.1.aB f (fun b hb hm=>Row.eF h.1 hz ht (by simp at hm;subst hm;exact hb)),h.2.mono (afF _) f.size⟩
def Cx (w:World) (p:aO) (e:Ending) (w':World):Prop:=∃K,e= .returned (pV K p)/\MK w w' K p/\Below w.heap.size w w'
def Mod (p:aO):Prop:=p.ap.length<=1000000000/\p.vars.length<=1000000000/\p.aW.length<=1000000000/\p.on.length<=1000000000/\p.code.length<=1000000000
def T6 (w V:World) (x0 x1 x2 x3 x4 x5:Value):Prop:=V.cell? (π w.heap.size 0)=some x0/\V.cell? (π w.heap.size 1)=some x1/\V.cell? (π w.heap.size 2)=some x2/\V.cell? (π w.heap.size 3)=some x3/\V.cell? (π w.heap.size 4)=some x4/\V.cell? (π w.heap.size 5)=some x5
def ZB (w V:World):Prop:=Below w.heap.size w V/\ay V (w.heap.size+1) 27 #[ν,ν,ν,ν,ι 0,ν]
def ClT (w V:World) (x0 x1 x2 x3 x4 x5:Value) (E:TypeId) (size n:Nat) (g:Nat->Value) (e:Ending) (V':World):Prop:=(∃x y z,e= .returned (.slice x y z)/\Hid (Own w V' E size n (.slice x y z) g))/\T6 w V' x0 x1 x2 x3 x4 x5/\Hid (Below V.heap.size V V')/\Hid (ZB w V')/\V'.cell? (π (w.heap.size+1) 0)=some ν/\V'.cell? (π (w.heap.size+1) 1)=some ν/\V'.cell? (π (w.heap.size+1) 2)=some ν/\V'.cell? (π (w.heap.size+1) 3)=some ν/\V'.cell? (π (w.heap.size+1) 4)=some (ι 0)/\V'.cell? (π (w.heap.size+1) 5)=some ν/\(∀o,V'.frozen? (π (w.heap.size+1) o)=false)/\w.heap.size+1 < V'.heap.size
theorem cl1 {w V:World} {x0 x1 x2 x3 x4 x5 av:Value} {f:FuncId} {E:TypeId} {size n:Nat} {g:Nat->Value} (hb:Hid (ZB w V)) (hs:T6 w V x0 x1 x2 x3 x4 x5) (hc:Calls prog f #[av] V (sQ V E size n g)):
 Calls prog f #[av] V (ClT w V x0 x1 x2 x3 x4 x5 E size n g):=by
 refine hc.mono ?_;rintro e V' ⟨v',rfl,hr,qq,hi⟩;obtain ⟨x,y,z,rfl⟩:∃x y z,v'= .slice x y z:=by obtain ⟨x,z,e,-⟩:=(aV.D9 hr).val;exact ⟨x,_,z,e⟩
 have hz:=hb.o.2.of (qq.block _ hb.o.2.lt);have key:∀i v,V.cell? (π w.heap.size i)=some v->V'.cell? (π w.heap.size i)=some v:=fun i v hc=>(afG (qq.block _ (aS hc))).trans hc;exact ⟨⟨x,y,z,rfl,ae ⟨hr,hi.mono hb.o.1.size (afF _)⟩⟩,⟨key _ _ hs.1,key _ _ hs.2.1,key _ _ hs.2.2.1,key _ _ hs.2.2.2.1,key _ _ hs.2.2.2.2.1,key _ _ hs.2.2.2.2.2⟩,ae qq,ae ⟨hb.o.1.trans (qq.mono hb.o.1.size),hz⟩,hz.cell 0,hz.cell 1,hz.cell 2,hz.cell 3,hz.cell 4,hz.cell 5,hz.frozen,hz.lt⟩
theorem Ub (w:World) {K:Kp} {p:aO} (h:fP w K p) (hm:Mod p):Calls prog 54 #[pV K p] w (Cx w p):=by
 obtain ⟨⟨ga,gc,g1,g2,g3⟩,⟨va,vc,v1,v2,v3⟩,⟨ta,tc,t1,t2,t3⟩,⟨oa,oc,o1,o2,o3⟩,⟨ca,cc,c1,c2,c3⟩⟩:=h.sl;obtain ⟨FJ,qV,hm3,Wd,GJ⟩:=hm;have H:=ae h;obtain ⟨kg,kv,kt,ko,kc⟩:=K;dsimp only at g1 v1 t1 o1 c1;subst g1 v1 t1 o1 c1;have CL:∀{f:FuncId} {E:TypeId} {size n:Nat} {g:Nat->Value} {av:Value},(∀V,Below w.heap.size w V->Calls prog f #[av] V (sQ V E size n g))->Hid (∀V,Hid (ZB w V)->T6 w V (.slice ga p.ap.length gc) (.slice va p.vars.length vc) (.slice ta p.aW.length tc) (.slice oa p.on.length oc) (ι p.aJ) (.slice ca p.code.length cc)->Calls prog f #[av] V (ClT w V (.slice ga p.ap.length gc) (.slice va p.vars.length vc) (.slice ta p.aW.length tc) (.slice oa p.on.length oc) (ι p.aJ) (.slice ca p.code.length cc) E size n g)):=fun hc=>ae fun V hb hs=>cl1 hb hs (hc V hb.o.1);have C1:=CL (av:= .slice ga p.ap.length gc) fun V b=>EF ((H.o.aB (da.ah b)).g) omm (fun j _=>rfl);have C2:=CL (av:= .slice va p.vars.length vc) fun V b=>IF ((H.o.aB (da.ah b)).v) omm (fun j _=>MJ p j);have C3:=CL (av:= .slice ta p.aW.length tc) fun V b=>pN ((H.o.aB (da.ah b)).t) omm (fun j _=>rfl);have C4:=CL (av:= .slice oa p.on.length oc) fun V b=>pN ((H.o.aB (da.ah b)).o) omm (fun j _=>rfl);have C5:=CL (av:= .slice ca p.code.length cc) fun V b=>IH ((H.o.aB (da.ah b)).cd) omm (fun j _=>IZ p j);have dQ:Below w.heap.size w (((w.alloc (.cells #[.slice ga p.ap.length gc,.slice va p.vars.length vc,.slice ta p.aW.length tc,.slice oa p.on.length oc,ι p.aJ,.slice ca p.code.length cc] 27)).alloc (.cells #[ν,ν,ν,ν,ι 0,ν] 27)).drew):=(((afL _ _).alloc (afF _) _).alloc smm _).trans (au _ _ 1);have k0:ay (((w.alloc (.cells #[.slice ga p.ap.length gc,.slice va p.vars.length vc,.slice ta p.aW.length tc,.slice oa p.on.length oc,ι p.aJ,.slice ca p.code.length cc] 27)).alloc (.cells #[ν,ν,ν,ν,ι 0,ν] 27)).drew) w.heap.size 27 #[.slice ga p.ap.length gc,.slice va p.vars.length vc,.slice ta p.aW.length tc,.slice oa p.on.length oc,ι p.aJ,.slice ca p.code.length cc]:=((ay.new w _ _).alloc _).drewN 1;have k1:ay (((w.alloc (.cells #[.slice ga p.ap.length gc,.slice va p.vars.length vc,.slice ta p.aW.length tc,.slice oa p.on.length oc,ι p.aJ,.slice ca p.code.length cc] 27)).alloc (.cells #[ν,ν,ν,ν,ι 0,ν] 27)).drew) (w.heap.size+1) 27 #[ν,ν,ν,ν,ι 0,ν]:=(ay.a_ smm).drewN 1;have gp:=ae (And.intro dQ k1);have sS:(((w.alloc (.cells #[.slice ga p.ap.length gc,.slice va p.vars.length vc,.slice ta p.aW.length tc,.slice oa p.on.length oc,ι p.aJ,.slice ca p.code.length cc] 27)).alloc (.cells #[ν,ν,ν,ν,ι 0,ν] 27)).drew).cell? (π w.heap.size 0)=some (.slice ga p.ap.length gc)/\(((w.alloc (.cells #[.slice ga p.ap.length gc,.slice va p.vars.length vc,.slice ta p.aW.length tc,.slice oa p.on.length oc,ι p.aJ,.slice ca p.code.length cc] 27)).alloc (.cells #[ν,ν,ν,ν,ι 0,ν] 27)).drew).cell? (π w.heap.size 1)=some (.slice va p.vars.length vc)/\(((w.alloc (.cells #[.slice ga p.ap.length gc,.slice va p.vars.length vc,.slice ta p.aW.length tc,.slice oa p.on.length oc,ι p.aJ,.slice ca p.code.length cc] 27)).alloc (.cells #[ν,ν,ν,ν,ι 0,ν] 27)).drew).cell? (π w.heap.size 2)=some (.slice ta p.aW.length tc)/\(((w.alloc (.cells #[.slice ga p.ap.length gc,.slice va p.vars.length vc,.slice ta p.aW.length tc,.slice oa p.on.length oc,ι p.aJ,.slice ca p.code.length cc] 27)).alloc (.cells #[ν,ν,ν,ν,ι 0,ν] 27)).drew).cell? (π w.heap.size 3)=some (.slice oa p.on.length oc)/\(((w.alloc (.cells #[.slice ga p.ap.length gc,.slice va p.vars.length vc,.slice ta p.aW.length tc,.slice oa p.on.length oc,ι p.aJ,.slice ca p.code.length cc] 27)).alloc (.cells #[ν,ν,ν,ν,ι 0,ν] 27)).drew).cell? (π w.heap.size 4)=some (ι p.aJ)/\(((w.alloc (.cells #[.slice ga p.ap.length gc,.slice va p.vars.length vc,.slice ta p.aW.length tc,.slice oa p.on.length oc,ι p.aJ,.slice ca p.code.length cc] 27)).alloc (.cells #[ν,ν,ν,ν,ι 0,ν] 27)).drew).cell? (π w.heap.size 5)=some (.slice ca p.code.length cc):=⟨k0.cell 0,k0.cell 1,k0.cell 2,k0.cell 3,k0.cell 4,k0.cell 5⟩;clear k0 k1 dQ h g2 g3 v2 v3 t2 t3 o2 o3 c2 c3;unfold pV;dsimp only;go_enter func54,ntmps54;go_wp2_with fail;generalize (w.alloc (.cells #[.slice ga p.ap.length gc,.slice va p.vars.length vc,.slice ta p.aW.length tc,.slice oa p.on.length oc,ι p.aJ,.slice ca p.code.length cc] 27)).alloc (.cells #[ν,ν,ν,ν,ι 0,ν] 27)=W0 at*;refine Gd.region [18] (fun _=>True) (fun wx=>wx.cell? (π w.heap.size 0)=some (.slice ga p.ap.length gc)/\wx.cell? (π w.heap.size 1)=some (.slice va p.vars.length vc)/\wx.cell? (π w.heap.size 2)=some (.slice ta p.aW.length tc)/\wx.cell? (π w.heap.size 3)=some (.slice oa p.on.length oc)/\wx.cell? (π w.heap.size 4)=some (ι p.aJ)/\wx.cell? (π w.heap.size 5)=some (.slice ca p.code.length cc)) krr ⟨trivial,sS⟩ (fun al=>?_);generalize W0.drew=V0 at*;refine Mk.gtA 0 ?_;refine Mk.gtA 1 ?_;refine Mk.gtA 3 ?_;refine Mk.gtA 4 ?_;refine Mk.gtA 6 ?_;refine Mk.gtA 7 ?_;refine Mk.gtA 9 ?_;refine Mk.gtA 10 ?_;refine Mk.gtA 12 ?_;refine Mk.gtA 13 ?_;refine Mk.gtA 14 ?_;refine Mk.gtA 15 ?_;refine Gd.ready (rs:=[2]) krr smm ?_;refine Gd.cU.cons rfl (fun K hK=>?_) Gd.cU.nil;refine QX ?_;go_simp;go_at_call 98;refine (C1.o _ gp sS).mono ?_;rintro e w1 ⟨⟨x1,y1,z1,rfl,hO1⟩,yz,KK,VH,-⟩;clear C1;clear al;refine hK.out _ _ ⟨trivial,yz⟩ (fun al=>?_);clear hK K;refine Mk.pt ?_;refine Gd.ready (rs:=[5]) krr smm ?_;refine Gd.cU.cons rfl (fun K hK=>?_) Gd.cU.nil;refine QX ?_;go_simp;go_at_call 99;refine (C2.o _ VH yz).mono ?_;rintro e w2 ⟨⟨x2,y2,z2,rfl,hO2⟩,Ck,hL2,hQ2,-⟩;clear C2 VH;clear al;refine hK.out _ _ ⟨trivial,Ck⟩ (fun al=>?_);clear hK K;refine Mk.pt ?_;refine Gd.ready (rs:=[8]) krr smm ?_;refine Gd.cU.cons rfl (fun K hK=>?_) Gd.cU.nil;refine QX ?_;go_simp;go_at_call 55;refine (C3.o _ hQ2 Ck).mono ?_;rintro e w3 ⟨⟨x3,y3,z3,rfl,hO3⟩,Gl,We,N0,-⟩;clear C3 hQ2;clear al;refine hK.out _ _ ⟨trivial,Gl⟩ (fun al=>?_);clear hK K;refine Mk.pt ?_;refine Gd.ready (rs:=[11]) krr smm ?_;refine Gd.cU.cons rfl (fun K hK=>?_) Gd.cU.nil;refine QX ?_;go_simp;go_at_call 55;refine (C4.o _ N0 Gl).mono ?_;rintro e w4 ⟨⟨x4,y4,z4,rfl,hO4⟩,Lz,Uc,hQ4,-⟩;clear C4 N0;clear al;refine hK.out _ _ ⟨trivial,Lz⟩ (fun al=>?_);clear hK K;refine Mk.pt ?_;refine Gd.ready (rs:=[16]) krr smm ?_;refine Gd.cU.cons rfl (fun K hK=>?_) Gd.cU.nil;refine QX ?_;go_simp;go_at_call 100;refine (C5.o _ hQ4 Lz).mono ?_;rintro e w5 ⟨⟨x5,y5,z5,rfl,hO5⟩,Dc,YV,P5,gA,jF,r_,hz3,hz4,hz5,hzf,hzl⟩;clear C5 hQ4;clear al;refine hK.out _ _ ⟨trivial,Dc⟩ (fun al=>?_);clear hK K;refine Mk.pt ?_;refine Gd.ready (rs:=[17]) krr smm ?_;refine Gd.cU.cons rfl (fun K hK=>?_) Gd.cU.nil;refine QX ?_;go_simp;refine hK.out _ _ al (fun al=>?_);clear hK K;refine Mk.pt ?_;refine Gd.ready (rs:=[18]) krr smm ?_;refine Gd.cU.last rfl krr (fun K hK=>?_) Gd.cU.nil;refine QX ?_;go_simp;refine hK.out _ _ trivial ?_;clear hK K;refine Mk.pt ?_;refine Gd.done krr ⟨rfl,?_⟩ _;clear al;go_wp2_with fail;have f9:da [w.heap.size+1] w5 _:=(((((((da.refl [w.heap.size+1] w5).setCell (p:=(π (w.heap.size+1) 0)) smm (.slice x1 y1 z1)).setCell (p:=(π (w.heap.size+1) 1)) smm (.slice x2 y2 z2)).setCell (p:=(π (w.heap.size+1) 2)) smm (.slice x3 y3 z3)).setCell (p:=(π (w.heap.size+1) 3)) smm (.slice x4 y4 z4)).setCell (p:=(π (w.heap.size+1) 4)) smm (ι p.aJ)).setCell (p:=(π (w.heap.size+1) 5)) smm (.slice x5 y5 z5));have b9:=((((((P5.o.2.set 0 (.slice x1 y1 z1)).set 1 (.slice x2 y2 z2)).set 2 (.slice x3 y3 z3)).set 3 (.slice x4 y4 z4)).set 4 (ι p.aJ)).set 5 (.slice x5 y5 z5));simp only [List.setIfInBounds_toArray,List.set_cons_zero,List.set_cons_succ] at b9;have L1:=(hL2.o.trans (We.o.mono hL2.o.size)).trans ((Uc.o.trans (YV.o.mono Uc.o.size)).mono (afM hL2.o.size We.o.size));have L2:=(We.o.trans (Uc.o.mono We.o.size)).trans (YV.o.mono (afM We.o.size Uc.o.size));have L3:=Uc.o.trans (YV.o.mono Uc.o.size);have P9:MK w ((((((w5.setCell (π (w.heap.size+1) 0) (.slice x1 y1 z1)).setCell (π (w.heap.size+1) 1) (.slice x2 y2 z2)).setCell (π (w.heap.size+1) 2) (.slice x3 y3 z3)).setCell (π (w.heap.size+1) 3) (.slice x4 y4 z4)).setCell (π (w.heap.size+1) 4) (ι p.aJ)).setCell (π (w.heap.size+1) 5) (.slice x5 y5 z5)) ⟨.slice x1 y1 z1,.slice x2 y2 z2,.slice x3 y3 z3,.slice x4 y4 z4,.slice x5 y5 z5⟩ p:=
  ⟨(hO1.o.later L1).fin P5.o.2 dee f9,(hO2.o.later L2).fin P5.o.2 dee f9,(hO3.o.later L3).fin P5.o.2 dee f9,(hO4.o.later YV.o).fin P5.o.2 dee f9,hO5.o.fin P5.o.2 dee f9⟩
 have B9:=P5.o.1.trans (f9.below (B:=w.heap.size) P5.o.1.size smm);generalize ((((((w5.setCell (π (w.heap.size+1) 0) (.slice x1 y1 z1)).setCell (π (w.heap.size+1) 1) (.slice x2 y2 z2)).setCell (π (w.heap.size+1) 2) (.slice x3 y3 z3)).setCell (π (w.heap.size+1) 3) (.slice x4 y4 z4)).setCell (π (w.heap.size+1) 4) (ι p.aJ)).setCell (π (w.heap.size+1) 5) (.slice x5 y5 z5))=W9 at*;obtain ⟨i0,i1,i2,i3,i4,i5⟩:=b9.c6;clear b9 f9 L1 L2 L3 hO1 hO2 hO3 hO4 hO5 KK hL2 We Uc YV P5 yz Ck Gl Lz Dc gA jF r_ hz3 hz4 hz5 hzf hzl;refine afI ?_ rfl ⟨_,rfl,P9,B9⟩;simp [results,results54,go_sem,i0,i1,i2,i3,i4,i5,pV]
end
end Go.Proofs.YtblkblclmbhjiaaGreat.Vf
section
namespace ak.Vm
theorem gZ {a b:Nat} (hb:b<=MS):bC a b<=MS:=by unfold bC;split<;>omega
theorem rQ (a b:Nat):dV a b<=MS:=by unfold dV;split<;>omega
theorem IU {p:aO} {g:Nat->Nat} (hg:∀i,g i<=MS) (pc:Nat):km p g pc<=MS:=by
 unfold km;dsimp only;split
 ·decide
 split
 ·exact gZ (hg _)
 split
 ·exact gZ (by have:=hg (pc+1);have:=hg (ai p pc).a.toNat;omega)
 split
 ·exact gZ (gZ (hg _))
 ·exact gZ (hg _)
theorem rR (p:aO):∀k i,dw p k i<=MS
 |0,_=>afO _
 |k+1,i=>by
  unfold dw;rw [cG];split
  ·exact IU (rR p k) _
  ·exact rR p k i
theorem ww {p:aO} {j:Nat} (h:j < p.code.length):dw p (p.code.length - j)=aL (dw p (p.code.length - (j+1))) j (km p (dw p (p.code.length - (j+1))) j):=by rw [show p.code.length - j=(p.code.length - (j+1))+1 by omega];show aL _ (p.code.length - 1 - (p.code.length - (j+1))) _=_;rw [show p.code.length - 1 - (p.code.length - (j+1))=j by omega]
end ak.Vm
namespace Go.Proofs.YtblkblclmbhjiaaGreat.Vf
open Go.RowKit ak.Vm
open ak hiding aL an aj
open Ma (dx bQ aU vb aA aQ lG)
def FF (J:Nat->Value):Act:={tmps:=#[J 0,J 1,J 2,J 3,J 4,J 5,J 6,J 7,J 8,J 9,J 10,J 11,J 12,J 13,J 14,J 15,J 16,J 17,J 18,J 19,J 20,J 21,J 22,J 23,J 24,J 25,J 26,J 27,J 28,J 29,J 30,J 31,J 32,J 33,J 34,J 35,J 36,J 37,J 38,J 39,J 40,J 41,J 42,J 43,J 44,J 45,J 46,J 47,J 48,J 49,J 50,J 51,J 52,J 53,J 54,J 55,J 56,J 57,J 58,J 59,J 60,J 61,J 62,J 63,J 64,J 65,J 66,J 67,J 68,J 69,J 70,J 71,J 72,J 73,J 74,J 75,J 76,J 77,J 78,J 79,J 80,J 81,J 82,J 83,J 84,J 85,J 86,J 87,J 88,J 89,J 90,J 91,J 92,J 93,J 94,J 95,J 96,J 97],defers:=[]}
theorem FF.of (A:Array Value) (h:A=(FF fun k=>A.getD k undef).tmps):({tmps:=A,defers:=[]}:Act)=FF fun k=>A.getD k undef:=by rw [h];rfl
def gC (g:Nat->Nat) (i:Nat):Value:=ι (g i:Nat)
theorem YB {P:Program} {fn:Func} {R:Ending->World->Prop} {A:Array Value} {w:World} {t:Tmp} (h:fn.results=#[.tmp t]) (hR:R (.returned (A.getD t undef)) w):Exit.noGoto (bodyPost P fn R) .ret {tmps:=A,defers:=[]} w:=by rw [Exit.noGoto_ret];exact eP h hR
def FuS (w:World) (p:aO) (vb:Nat) (cv:Value) (fb fc:Nat) (a:Act) (W:World):Prop:=
 ∃(J:Nat->Value) (m:Nat),a=FF J/\J 0=ρ vb/\J 3=cv/\J 4= .slice (some (π fb 0)) p.code.length fc/\J 5=ι ((m:Int) - 1)/\m<=p.code.length/\Hid (w.heap.size<=fb/\Below w.heap.size w W/\Row W 3 1 (.slice (some (π fb 0)) p.code.length fc) p.code.length (gC (dw p (p.code.length - m))))
def rS (w:World) (p:aO) (e:Ending) (w':World):Prop:=∃fb fc,e= .returned (.slice (some (π fb 0)) p.code.length fc)/\w.heap.size<=fb/\Below w.heap.size w w'/\Row w' 3 1 (.slice (some (π fb 0)) p.code.length fc) p.code.length (gC (jP p))
section
variable {w:World} {K:Kp} {p:aO} {iz:Value} {vb:Nat}
theorem adQ {p:Prop} (h:p:=by
 go_wp2;go_step3;exact ⟨rfl,⟨fb,fc,_,j,FF.of _ rfl,rfl,rfl,(by rw [HN.o];rfl),rfl,(by rw [HN.o];omega),ae (by rw [HN.o];exact zD.o _ fg.o _ mP.o.symm)⟩,by simp [intOf]⟩):p:=h
theorem adP {p:Prop} (h:p:=by
 go_wp2_with fail;refine (xr.o _).mono ?_;rintro e W1 ⟨rfl,rfl⟩;go_wp2;go_step3;exact ⟨rfl,⟨fb,fc,_,j,FF.of _ rfl,rfl,rfl,(by rw [HN.o];rfl),rfl,(by rw [HN.o];omega),ae (by rw [HN.o];exact rT.o _ _ (_) (mP.o.symm))⟩,by simp [intOf]⟩):p:=h
theorem EW (h:fP w K p) (hv:ay w vb 230 (qR K p iz)) (hlen:p.code.length<=262144) (dK:Am p):
 Calls prog 174 #[ρ vb] w (rS w p):=by
 have v5:w.cell? (π vb 5)=some K.c:=hv.cell 5;have lv:=hv.lt;obtain ⟨ca,cc,kc,RQ,Cl⟩:=aV.val h.cd;rw [kc] at v5;have H:=ae h;have xj:=ae kc;have iM:=ae dK;have iW:Hid (8*p.code.length<=281474976710656/\p.code.length<=maxLen):=ae ⟨omm,by unfold maxLen;omega⟩;have EY:Hid (∀V (b:Nat),b<=MS->Calls prog 249 #[ι 1,ι b] V fun e w'=>e= .returned (ι (bC 1 b))/\w'=V):=ae fun V b hb=>L6 V 1 b dee hb;have HPM:=ae (fun V (a b:Nat) ha hb=>L6 V a b ha hb);have HTM:=ae (fun V (a b:Nat) ha hb=>PF V a b ha hb);clear h hv kc dK;generalize hn:p.code.length=n at*;have HN:=ae hn;clear hn;go_enter func174,ntmps174;go_wp2_with fail;refine lG 0 (fun a' wr=>∃fb fc,FuS w p vb (.slice ca n cc) fb fc a' wr) (fun a' _=>(intOf (a'.tmps.getD 5 undef)+1).toNat) rfl ?_ ?_
 ·rintro a' W ⟨fb,fc,J,m,rfl,j0,j3,j4,j5,hm,HF⟩;rw [HN.o] at j4 hm HF;unfold FF;rw [j0,j3,j4,j5];clear j0 j3 j4 j5;by_cases VC:m=0
  ·subst VC;have HE:=ae (show rS w p (.returned (.slice (some (π fb 0)) n fc)) W from ⟨fb,fc,by rw [HN.o],HF.o.1,HF.o.2.1,by rw [HN.o];have h:=HF.o.2.2;rw [Nat.sub_zero] at h;unfold jP;rw [HN.o];exact h⟩);go_wp2_with fail;refine YB rfl ?_;exact HE.o
  obtain ⟨j,rfl⟩:∃j,m=j+1:=⟨m - 1,omm⟩;have w1:(((j+1:Nat):Int) - 1)=(j:Int):=omm;have w2:IntKind.i64.wrap ((j:Int) - 1)=(j:Int) - 1:=afU _ coo;rw [w1];clear w1 VC;have hj:j < n:=omm;obtain ⟨b,off,cap,e,-,-,c0,c1,c2,c3,c4⟩:=(H.o.aB (da.ah HF.o.2.1)).ins (i:=j) (by rw [HN.o];exact hj);rw [xj.o,HN.o] at e;simp only [afH] at e;obtain ⟨rfl,-,rfl⟩:=e;have kV:=ae (ww (p:=p) (j:=j) (by rw [HN.o];exact hj));rw [HN.o] at kV;have h_:∀i,i < n->W.cell? (π fb i)=some (ι (dw p (n - (j+1)) i:Nat)):=fun i hi=>HF.o.2.2.cell (o:=i) omm;have Mv:∀i,dw p (n - (j+1)) i<=MS:=rR p _;have RR:fb < W.heap.size:=(HF.o.2.2.slice).2.2.2;have tM:∀o,W.frozen? (π fb o)=false:=fun o=>HF.o.2.2.frozen o;have lb:=aS c0;have zD:=ae (fun (V:World) (hb:Below W.heap.size W V) (v:Nat) (hv:v=km p (dw p (n - (j+1))) j)=>show w.heap.size<=fb/\Below w.heap.size w (V.setCell (π fb j) (ι v))/\Row (V.setCell (π fb j) (ι v)) 3 1 (.slice (some (π fb 0)) n fc) n (gC (dw p (n - j))) from by
   refine ⟨HF.o.1,(HF.o.2.1.trans (hb.mono HF.o.2.1.size)).setCell HF.o.1 _,?_⟩;rw [kV.o];have hr:=(HF.o.2.2.aB (da.ah (S:=[]) hb) smm).set (o:=j) omm (ι v);refine hr.congr fun o ho=>?_;unfold gC;rw [cG];by_cases e:o=j
   ·subst e;rw [afE rfl,afE rfl,hv]
   ·rw [abH e,abH e])
  have rT:=ae (fun (cs:Array Value) (T:TypeId) (v:Nat) (hv:v=km p (dw p (n - (j+1))) j)=>show w.heap.size<=fb/\Below w.heap.size w ((W.setCell (π fb j) (ι v)).alloc (.cells cs T))/\Row ((W.setCell (π fb j) (ι v)).alloc (.cells cs T)) 3 1 (.slice (some (π fb 0)) n fc) n (gC (dw p (n - j))) from by
   obtain ⟨h1,h2,h3⟩:=zD.o W (afL _ _) v hv;exact ⟨h1,h2.alloc h2.size _,h3.alloc _⟩)
  have p_:=ae (fun (V:World) (hb:Below W.heap.size W V)=>HF.o.2.2.aB (da.ah (S:=[]) hb) smm);have cj:=h_ j hj;have hx:=iM.o j (by rw [HN.o];exact hj);rw [HN.o] at hx;have HJ2:=ae (show ∀k,(ai p (j+1))=k->(ai p (j+1))=k from fun _ h=>h);have NR:km p (dw p (n - (j+1))) j=if (ai p j).op=0\/(ai p j).op=27 then 1 else if (ai p j).op=22 then bC 1 (dw p (n - (j+1)) (ai p j).a.toNat) else if (ai p j).op=23 then bC 1 (max (dw p (n - (j+1)) (j+1)) (dw p (n - (j+1)) (ai p j).a.toNat)) else if (ai p j).op=24 then bC (bC 1 (dV (ai p j).a.toNat (bC 1 (dw p (n - (j+1)) (j+2))))) (bC 1 (dw p (n - (j+1)) (ai p (j+1)).a.toNat)) else bC 1 (dw p (n - (j+1)) (j+1)):=rfl;have mP:=ae NR;clear NR;have JE:=ae HF.o.2.1;generalize dw p (n - (j+1))=g at*;have HG:=ae Mv;have ug:=ae h_;clear Mv h_;obtain ⟨Oe,IV,tL,Jl⟩:=hx;obtain ⟨op,cW⟩:∃z,(ai p j).op=z:=⟨_,rfl⟩;obtain ⟨xa,wT⟩:∃z,(ai p j).a=z:=⟨_,rfl⟩;obtain ⟨xb,jK⟩:∃z,(ai p j).b=z:=⟨_,rfl⟩;obtain ⟨xc,YC⟩:∃z,(ai p j).c=z:=⟨_,rfl⟩;obtain ⟨xd,Q3⟩:∃z,(ai p j).d=z:=⟨_,rfl⟩;rw [cW] at c0 Oe IV tL Jl mP;rw [wT] at c1 IV tL mP;rw [jK] at c2;rw [YC] at c3;rw [Q3] at c4;clear cW wT jK YC Q3;have dC:=ae (fun cs T=>(afL W.heap.size W).alloc (afF _) (.cells cs T));by_cases o1:op=0\/op=27
  ·rw [afE o1] at mP;rcases o1 with rfl|rfl
   all_goals
    go_wp2;go_step3;exact ⟨rfl,⟨fb,fc,_,j,FF.of _ rfl,rfl,rfl,(by rw [HN.o];rfl),rfl,(by rw [HN.o];omega),ae (by rw [HN.o];exact rT.o _ _ (1) (mP.o.symm))⟩,by simp [intOf]⟩
  rw [abH o1] at mP;have o0:(op==0)=false:=by simp;exact fun h=>o1 (.inl h)
  have TX:(op==27)=false:=by simp;exact fun h=>o1 (.inr h)
  by_cases o2:op=22
  ·subst o2;rw [afE rfl] at mP;obtain ⟨a1,a2⟩:=IV (.inl rfl);obtain ⟨xm,rfl⟩:=afN a1;have TY:xm < n:=omm;have VX:=ug.o xm TY;have xr:=ae (fun V=>EY.o V (g xm) (HG.o _));rw [Int.toNat_natCast] at mP;generalize g xm=gx at*;exact adP
  rw [abH o2] at mP;have o22:(op==22)=false:=by simpa using o2
  have PV:j+1 < n:=Jl (fun h=>o1 (.inl h)) (fun h=>o1 (.inr h)) o2;have w4:IntKind.i64.wrap ((j:Int)+1)=((j+1:Nat):Int):=by rw [afU _ coo];omega
  have VY:=ug.o (j+1) PV;by_cases o3:op=23
  ·subst o3;rw [afE rfl] at mP;obtain ⟨a1,a2⟩:=IV (.inr rfl);obtain ⟨xm,rfl⟩:=afN a1;have TY:xm < n:=omm;have VX:=ug.o xm TY;rw [Int.toNat_natCast] at mP;have GF:max ((g (j+1):Nat):Int) ((g xm:Nat):Int)=((max (g (j+1)) (g xm):Nat):Int):=omm;have xr:=ae (fun V=>EY.o V (max (g (j+1)) (g xm)) (by have:=HG.o (j+1);have:=HG.o xm;omega));generalize hmx:max (g (j+1)) (g xm)=mx at*;generalize g (j+1)=gx at*;generalize g xm=gy at*;have eN:=dC.o #[ι 23,ι xm,ι xb,ι xc,ι xd] 40;have kx:ay (W.alloc (.cells #[ι 23,ι xm,ι xb,ι xc,ι xd] 40)) W.heap.size 40 #[ι 23,ι xm,ι xb,ι xc,ι xd]:=ay.new _ _ _;go_wp2_with fail;obtain ⟨W1,Ak⟩:∃W1,W1=W.alloc (.cells #[ι 23,ι xm,ι xb,ι xc,ι xd] 40):=⟨_,rfl⟩;rw [<-Ak] at eN kx ⊢;have d1:W1.cell? (π W.heap.size 1)=some (ι xm):=kx.cell 1;have key:∀b o v,W.cell? (π b o)=some v->W1.cell? (π b o)=some v:=fun b o v h=>(afG (eN.block _ (aS h))).trans h;replace cj:=key _ _ _ cj;replace VY:=key _ _ _ VY;replace VX:=key _ _ _ VX;have jg:=ae eN;clear Ak kx eN key c0 c1 c2 c3 c4 tM;generalize eO:W.heap.size=bx at*;clear eO;have El:0<=(j:Int)+1:=omm;have Dq:(j:Int)+1 < (n:Int):=omm;have BM:((j:Int)+1).toNat=j+1:=omm;refine wp_region_still_tail 15 krr krr ?_;simp only [List.take_succ_cons,List.take_zero,List.drop_succ_cons,List.drop_zero]
   iterate 13 still_step
   still_call (xr.o _)
   still_step
   refine wpStill_nil ?_;change wpList _ _ _ _ _ (W1.drewN 1);have dn:=jg.o.trans (au _ W1 1);have cj9:(W1.drewN 1).cell? (π fb j)=some (ι (g j:Nat)):=cj;have tM:∀o,(W1.drewN 1).frozen? (π fb o)=false:=fun o=>(p_.o _ dn).frozen o;have fg:=ae dn;clear dn cj VY VX El Dq BM;generalize W1.drewN 1=V0 at*;exact adQ
  rw [abH o3] at mP;have o23:(op==23)=false:=by simpa using o3
  by_cases o4:op=24
  ·subst o4;rw [afE rfl] at mP;obtain ⟨a1,a2,TZ,t1,t2⟩:=tL rfl;obtain ⟨xm,rfl⟩:=afN a1;have xle:xm<=4194304:=omm;have T0:=ug.o (j+2) TZ;obtain ⟨b2,EJ,z_,e2,-,-,-,e1,-⟩:=(H.o.aB (da.ah JE.o)).ins (i:=j+1) (by rw [HN.o];exact PV);rw [xj.o,HN.o] at e2;simp only [afH,af5,Addr.mk.injEq] at e2;obtain ⟨⟨rfl,rfl,-⟩,-,-⟩:=e2;obtain ⟨tm,YD⟩:=afN t1;have tlt:tm < n:=omm;rw [YD] at e1 mP;have ct9:=ug.o tm tlt;rw [Int.toNat_natCast,Int.toNat_natCast] at mP;have xr:=ae (fun V=>EY.o V (g (j+2)) (HG.o _));have JA:=ae (fun V=>HTM.o V xm (bC 1 (g (j+2))) (by unfold MS;omega) (gZ (HG.o _)));have HP3:=ae (fun V=>EY.o V (dV xm (bC 1 (g (j+2)))) (rQ _ _));have VZ:=ae (fun V=>EY.o V (g tm) (HG.o _));have N5:=ae (fun V=>HPM.o V (bC 1 (dV xm (bC 1 (g (j+2))))) (bC 1 (g tm)) (gZ (rQ _ _)) (gZ (HG.o _)));clear YD t1 t2 a1 a2 Oe IV tL Jl VY;generalize bC (bC 1 (dV xm (bC 1 (g (j+2))))) (bC 1 (g tm))=r5 at*;generalize bC 1 (dV xm (bC 1 (g (j+2))))=r3 at*;generalize dV xm (bC 1 (g (j+2)))=r2 at*;generalize bC 1 (g (j+2))=r1 at*;generalize bC 1 (g tm)=r4 at*;generalize g (j+2)=gx at*;generalize g tm=gy at*;have eN:=dC.o #[ι 24,ι xm,ι xb,ι xc,ι xd] 40;have kx:ay (W.alloc (.cells #[ι 24,ι xm,ι xb,ι xc,ι xd] 40)) W.heap.size 40 #[ι 24,ι xm,ι xb,ι xc,ι xd]:=ay.new _ _ _;go_wp2_with fail;obtain ⟨W1,Ak⟩:∃W1,W1=W.alloc (.cells #[ι 24,ι xm,ι xb,ι xc,ι xd] 40):=⟨_,rfl⟩;rw [<-Ak] at eN kx ⊢;have d1:W1.cell? (π W.heap.size 1)=some (ι xm):=kx.cell 1;have key:∀b o v,W.cell? (π b o)=some v->W1.cell? (π b o)=some v:=fun b o v h=>(afG (eN.block _ (aS h))).trans h;replace cj:=key _ _ _ cj;replace T0:=key _ _ _ T0;replace ct9:=key _ _ _ ct9;replace e1:=key _ _ _ e1;have jg:=ae eN;clear Ak kx eN key c0 c1 c2 c3 c4 tM;generalize eO:W.heap.size=bx at*;clear eO;have El:0<=(j:Int)+1:=omm;have Dq:(j:Int)+1 < (n:Int):=omm;have BM:((j:Int)+1).toNat=j+1:=omm;have xf:0<=(j:Int)+2:=omm;have hs5:(j:Int)+2 < (n:Int):=omm;have hs6:((j:Int)+2).toNat=j+2:=omm;have w6:IntKind.i64.wrap ((j:Int)+2)=(j:Int)+2:=afU _ coo;refine wp_region_still_tail 24 krr krr ?_;simp only [List.take_succ_cons,List.take_zero,List.drop_succ_cons,List.drop_zero]
   iterate 9 still_step
   still_call (xr.o _)
   still_call (JA.o _)
   still_call (HP3.o _)
   iterate 9 still_step
   still_call (VZ.o _)
   still_call (N5.o _)
   still_step
   refine wpStill_nil ?_;change wpList _ _ _ _ _ (W1.drewN 1);have dn:=jg.o.trans (au _ W1 1);have cj9:(W1.drewN 1).cell? (π fb j)=some (ι (g j:Nat)):=cj;have tM:∀o,(W1.drewN 1).frozen? (π fb o)=false:=fun o=>(p_.o _ dn).frozen o;have fg:=ae dn;clear dn cj T0 ct9 e1 El Dq BM xf hs5 hs6;generalize W1.drewN 1=V0 at*;exact adQ
  rw [abH o4] at mP;have RT:(op==24)=false:=by simpa using o4
  have xr:=ae (fun V=>EY.o V (g (j+1)) (HG.o _));generalize bC 1 (g (j+1))=r1 at*;generalize g (j+1)=gx at*;clear o1 o2 o3 o4 Oe IV tL Jl;exact adP
 ·intro hp;go_wp2_with (refine kz rfl (.tmp 13) (.tmp 13) 24 rfl 3 underlying24 b_ rfl .i64 .i64 _ _ n rfl rfl rfl rfl iW.o.1 iW.o.2 ?_;intro W0 T4 dQ);have tz:=ae T4;have gp:=ae dQ;have w3:IntKind.i64.wrap ((n:Int) - 1)=(n:Int) - 1:=afU _ coo;clear T4 dQ;go_wp2;go_step3;simp only [Exit.then]
  apply_assumption
  refine hp _ _ ⟨w.heap.size,n,_,n,FF.of _ rfl,rfl,rfl,by rw [HN.o];rfl,rfl,by rw [HN.o];exact afF _,ae ⟨afF _,gp.o,?_⟩⟩;rw [HN.o,Nat.sub_self];exact tz.o
end
end Go.Proofs.YtblkblclmbhjiaaGreat.Vf
end
namespace Go.Proofs.YtblkblclmbhjiaaGreat.Vf
open Go.RowKit ak.Vm
open ak hiding aL an aj
open Ma (dx bQ aU vb aA aQ)
def FR (J:Nat->Value):Act:={tmps:=#[J 0,J 1,J 2,J 3,J 4,J 5,J 6,J 7,J 8,J 9,J 10,J 11,J 12,J 13,J 14,J 15,J 16,J 17,J 18,J 19,J 20,J 21,J 22,J 23,J 24,J 25,J 26,J 27,J 28,J 29,J 30,J 31,J 32,J 33,J 34,J 35,J 36,J 37,J 38,J 39,J 40,J 41,J 42,J 43,J 44,J 45,J 46,J 47,J 48,J 49,J 50,J 51,J 52,J 53,J 54,J 55,J 56,J 57,J 58,J 59,J 60,J 61,J 62,J 63,J 64,J 65,J 66,J 67,J 68,J 69,J 70,J 71,J 72,J 73,J 74,J 75,J 76,J 77,J 78,J 79,J 80,J 81,J 82,J 83,J 84,J 85,J 86,J 87,J 88,J 89,J 90,J 91,J 92,J 93,J 94,J 95,J 96,J 97,J 98,J 99,J 100,J 101,J 102,J 103,J 104,J 105,J 106,J 107,J 108,J 109,J 110,J 111,J 112,J 113,J 114],defers:=[]}
theorem FR.of (A:Array Value) (h:A=(FR fun k=>A.getD k undef).tmps):({tmps:=A,defers:=[]}:Act)=FR fun k=>A.getD k undef:=by rw [h];rfl
noncomputable def rnL (k:Nat):Code:=((kQ (Tryz.f91.body.getD .skip))[k]?).getD .skip
def GG (w:World) (p:aO) (e:Ending) (w':World):Prop:=∃vv wB ms,e= .returned (.tuple #[vv,.agg #[wB,ι ms],.agg #[ι (aZ p).1,ι (aZ p).2]])/\(∃x y z,wB= .slice x y z)/\Below w.heap.size w w'/\(∀b,wB.ownBlock=some b->w.heap.size<=b)/\
 ((aZ p).1=0->ms=(bN p p.aJ:Nat)/\aV w' 1 wB p.on.length (fun i=> ι (bN p (p.on.getD i 0):Nat)))
section
variable {w:World} {K:Kp} {p:aO}
def RB (pb vb:Nat) (bl:List Int) (W4:World) (a:Act) (W:World):Prop:=∃(J:Nat->Value) (bv:Value),a=FR J/\J 1=ρ pb/\J 3=ρ (pb+1)/\J 4=ρ (pb+1+1)/\J 6=ρ vb/\J 7=bv/\
 Hid (Row W 3 1 bv bl.length (aU bl))/\Hid (mN W4.heap.size W.heap.size bv)/\Hid (Below W4.heap.size W4 W)
theorem Cs (l:List Int) (n:Int) {W:World} {v:Value} (h:Row W 3 1 v (l.length+1) (gU (l.length*1) (aU l) fun _=> ι n)):Row W 3 1 v (l++[n]).length (aU (l++[n])):=by
 rw [age];refine h.congr fun o ho=>?_;unfold gU aU;rw [Nat.mul_one];by_cases e:o < l.length
 ·rw [afE e,afS,afS,agh e]
 ·obtain rfl:o=l.length:=omm;rw [abH omm,afS,agf (afF _)];simp
theorem IW:(prog.info? 233).map (fun i=>(i.zero,i.size,i.bytes))=some (some (cT false TG ν),13,128):=by kernel_rfl
theorem GH {R:Ending->World->Prop} {A:Array Value} {W:World} {cb fb:Nat} {x y u v vv:Value} (h2:A.getD 2 undef=vv) (h3:A.getD 3 undef=ρ cb) (h4:A.getD 4 undef=ρ fb) (kc:ay W cb 97 #[x,y]) (kf:ay W fb 99 #[u,v])
 (hR:R (.returned (.tuple #[vv,.agg #[x,y],.agg #[u,v]])) W):Exit.noGoto (bodyPost prog Tryz.f91 R) .ret {tmps:=A,defers:=[]} W:=by
 obtain ⟨c0,c1⟩:=kc.c2;obtain ⟨f0,f1⟩:=kf.c2;rw [af8];rw [agn] at h2 h3 h4;refine afI (v:= .tuple #[vv,.agg #[x,y],.agg #[u,v]]) ?_ rfl hR;simp [results,results91,go_sem,h2,h3,h4,c0,c1,f0,f1]
theorem An {A:Array Value} {W:World} {pb:Nat} (hpb:w.heap.size=pb) (h2:A.getD 2 undef= .pointer none) (h3:A.getD 3 undef=ρ (pb+1)) (h4:A.getD 4 undef=ρ (pb+1+1)) (kc:ay W (pb+1) 97 #[ν,ι 0]) (kf:ay W (pb+1+1) 99 #[ι 0,ι 0])
 (hb:Below pb w W) {e at_:Int} (hv:aZ p=(e,at_)) (bz:e≠0):Exit.noGoto (bodyPost prog Tryz.f91 (GG w p)) .ret {tmps:=A,defers:=[]} ((((W.setCell (π (pb+1) 0) ν).setCell (π (pb+1) 1) (ι 0)).setCell (π (pb+1+1) 0) (ι e)).setCell (π (pb+1+1) 1) (ι at_)):=by
 subst hpb;have n1:w.heap.size+1≠w.heap.size+1+1:=omm;refine GH h2 h3 h4 ((((kc.set 0 ν).set 1 (ι 0)).other n1 0 (ι e)).other n1 1 (ι at_)) ((((kf.other n1.symm 0 ν).other n1.symm 1 (ι 0)).set 0 (ι e)).set 1 (ι at_)) ?_;refine ⟨.pointer none,ν,0,by rw [hv],⟨_,_,_,rfl⟩,(((hb.setCell (p:=(π (w.heap.size+1) 0)) smm _).setCell (p:=(π (w.heap.size+1) 1)) smm _).setCell (p:=(π (w.heap.size+1+1) 0)) sso _).setCell (p:=(π (w.heap.size+1+1) 1)) sso _,(fun b hb=>by cases hb),fun h=>?_⟩;rw [hv] at h;exact absurd h bz
def xu (bl:List Int) (i:Nat):Map:=fun pc=>if (bl.take i).contains (pc:Int) then some ⟨[],[],0⟩ else none
theorem gw (bl:List Int) {i:Nat} (h:i < bl.length):bl.take (i+1)=bl.take i++[bl.getD i 0]:=by rw [agA h,afS,afP h];rfl
theorem PW {bl:List Int} {i:Nat} (h:i < bl.length) (hn:bl.getD i 0 < 0):xu bl (i+1)=xu bl i:=by
 funext pc;unfold xu;rw [gw bl h];generalize bl.getD i 0=z at*;have:((bl.take i++[z]).contains (pc:Int))=(bl.take i).contains (pc:Int):=by rw [af7];simp;omega
 rw [this]
theorem Mw {bl:List Int} {i m:Nat} (h:i < bl.length) (hn:bl.getD i 0=m):xu bl (i+1)=aL (xu bl i) m (some ⟨[],[],0⟩):=by
 funext pc;rw [cG];unfold xu;rw [gw bl h,hn];by_cases e:pc=m
 ·subst e;rw [afE rfl,afE smm]
 ·rw [abH e];have:((bl.take i++[(m:Int)]).contains (pc:Int))=(bl.take i).contains (pc:Int):=by rw [af7];simp;omega
  rw [this]
theorem fp {β:Type} (f:Nat->β) (i:Nat):aL f i (f i)=f:=by
 funext j;rw [cG];split
 ·next e=>rw [e]
 ·rfl
def RN1 (W4:World) (p:aO) (pb vb A:Nat) (bv:Value) (bl:List Int) (m:Nat) (a:Act) (W:World):Prop:=
 ∃(J:Nat->Value) (i:Nat),a=FR J/\J 1=ρ pb/\J 3=ρ (pb+1)/\J 4=ρ (pb+1+1)/\J 6=ρ vb/\J 7=bv/\J 37=bv/\J 38=ι bl.length/\J 39=ι i/\
  i<=bl.length/\m+i=bl.length+1/\Hid (da [A] W4 W)/\Hid (ii W (.slice (some (π A 0)) p.code.length p.code.length) p.code.length (xu bl i) (fun _=> ν))
section
variable {W4:World} {pb vb A:Nat} {bv:Value} {bl:List Int} {Q:Exit->Act->World->Prop}
theorem rn1 (HV:Hid (ay W4 vb 230 (qR K p (.slice (some (π A 0)) p.code.length p.code.length)))) (sd:Hid (vb≠A)) (Og:Hid (Row W4 3 1 bv bl.length (aU bl))) (HBA:Hid (∀b,bv.ownBlock=some b->b≠A)) (hl:bl.length<=17) (iM:Hid (∀i,i < bl.length->-1<=bl.getD i 0/\bl.getD i 0 < p.code.length)) (hlen:p.code.length<=262144)
 (eZ:∀(J:Nat->Value) W,J 1=ρ pb->J 3=ρ (pb+1)->J 4=ρ (pb+1+1)->J 6=ρ vb->J 7=bv->da [A] W4 W->ii W (.slice (some (π A 0)) p.code.length p.code.length) p.code.length (xu bl bl.length) (fun _=> ν)->Q (.exit 0) (FR J) W)
 {a:Act} {W:World} (h:RN1 W4 p pb vb A bv bl (bl.length+1) a W):(Code.loop (rnL 0)).wp prog Q a W:=by
 refine Mk.aP (fun m a W=>RN1 W4 p pb vb A bv bl m a W) (bl.length+1) h ?_ ?_
 ·rintro a W ⟨J,i,-,-,-,-,-,-,-,-,-,h1,h2,-⟩;omega
 rintro m a0 W ⟨J,i,rfl,j1,j3,j4,j6,j7,j37,j38,j39,hi,hm,HF,HS⟩;unfold FR
 conv=>arg 2;whnf
 have w2:=ag5 i omm;rw [j1,j3,j4,j6,j7,j37,j38,j39];clear j1 j3 j4 j6 j7 j37 j38 j39;by_cases a8:i < bl.length
 ·obtain ⟨b,cap,RU,q1,q2,lb⟩:=Og.o.some omm;have EZ:=ae RU;have hr:=Og.o;rw [RU] at hr;have c0:W.cell? (π b i)=some (ι (bl.getD i 0)):=(afG (HF.o.block _ lb (by have:=HBA.o b (by rw [RU];rfl);simpa using this))).trans (hr.cell (o:=i) omm);have lbW:b < W.heap.size:=afQ lb HF.o.size;have dK:=iM.o i a8;have dh:=ae a8;clear hr RU lb;rw [EZ.o];obtain ⟨z,hz⟩:∃z,bl.getD i 0=z:=⟨_,rfl⟩;rw [hz] at c0 dK;have HZ:=ae hz;clear hz;by_cases gA:0<=z
  ·obtain ⟨n,rfl⟩:=afN gA;have hn:n < p.code.length:=omm;have hv:ay W vb 230 (qR K p (.slice (some (π A 0)) p.code.length p.code.length)):=HV.o.aB HF.o (by have:=sd.o;simpa using this);have v6:W.cell? (π vb 6)=some (.slice (some (π A 0)) p.code.length p.code.length):=hv.cell 6;have Yi:=hv.lt;have tM:∀o,W.frozen? (π A o)=false:=fun o=>HS.o.row.frozen o;have hAl:A < W.heap.size:=(HS.o.row.slice).2.2.2;have hold:∀k,k < 13->∃v,W.cell? (π A (n*13+k))=some v:=fun k hk=>⟨_,HS.o.row.cell (o:=n*13+k) omm⟩;obtain ⟨u0,o0⟩:=hold 0 omm;obtain ⟨u1,o1⟩:=hold 1 omm;obtain ⟨u2,o2⟩:=hold 2 omm;obtain ⟨u3,o3⟩:=hold 3 omm;obtain ⟨u4,o4⟩:=hold 4 omm;obtain ⟨u5,o5⟩:=hold 5 omm;obtain ⟨u6,o6⟩:=hold 6 omm;obtain ⟨u7,o7⟩:=hold 7 omm;obtain ⟨u8,o8⟩:=hold 8 omm;obtain ⟨u9,o9⟩:=hold 9 omm;obtain ⟨u10,VR⟩:=hold 10 omm;obtain ⟨u11,VS⟩:=hold 11 omm;obtain ⟨u12,VT⟩:=hold 12 omm;simp only [Nat.add_zero] at o0;have HP:=ae (ii.put (s:=⟨[],[],0⟩) (mz:=ν) HS.o hn (.inl ⟨rfl,rfl⟩) (fun b hb=>by cases hb) rfl);clear hold hv;go_wp2_with fail
   try rw [<-EZ.o]
   refine ⟨_,i+1,FR.of _ rfl,rfl,rfl,rfl,rfl,(by first|rfl|exact EZ.o),(by first|rfl|exact EZ.o),rfl,rfl,dh.o,omm,ae (HF.o.trans HP.o.2),ae ?_⟩;rw [Mw dh.o HZ.o,<-fp (fun _=>Value.slice none 0 0) n];exact HP.o.1
  ·have hd:decide (0<=z)=false:=by simpa using gA
   have HZ0:=ae gA;clear gA;go_wp2_with fail
   try rw [<-EZ.o]
   refine ⟨_,i+1,FR.of _ rfl,rfl,rfl,rfl,rfl,(by first|rfl|exact EZ.o),(by first|rfl|exact EZ.o),rfl,rfl,dh.o,omm,HF,ae ?_⟩;rw [PW dh.o (by rw [HZ.o];have:=HZ0.o;omega)];exact HS.o
 ·obtain rfl:i=bl.length:=omm;clear a8;go_wp2_with fail;exact Eq.mpr (afK (fun a=>Q (.exit 0) a W) (FR.of _ rfl)) (eZ _ _ rfl rfl rfl rfl rfl HF.o HS.o)
def RN2 (w W5:World) (p:aO) (pb vb A:Nat) (bv:Value) (m:Nat) (a:Act) (W:World):Prop:=
 ∃(J:Nat->Value) (i:Nat),a=FR J/\J 1=ρ pb/\J 3=ρ (pb+1)/\J 4=ρ (pb+1+1)/\J 6=ρ vb/\J 7=bv/\J 55=ι p.code.length/\J 56=ι i/\
  i<=p.code.length/\m+i=p.code.length+1/\Hid (da [A] W5 W)/\∃T mv,Hid (ii W (.slice (some (π A 0)) p.code.length p.code.length) p.code.length T mv)/\Hid (VM p T)/\Hid (looks p p.code.length 0 (db p)=looks p (p.code.length - i) i T)
theorem rn2 {W5:World} (H:Hid (fP w K p)) (RH:Hid (w.heap.size<=A)) (HW5:Hid (Below w.heap.size w W5)) (HV:Hid (ay W5 vb 230 (qR K p (.slice (some (π A 0)) p.code.length p.code.length)))) (sd:Hid (vb≠A)) (YE:Hid (∀i,i∈p.code->iP i=true/\gI p i=true)) (hlen:p.code.length<=262144)
 (gO:∀(A9:Array Value) W (i:Nat) (e:Int),A9.getD 2 undef= .pointer none->A9.getD 3 undef=ρ (pb+1)->A9.getD 4 undef=ρ (pb+1+1)->da [A] W5 W->e≠0->looks p p.code.length 0 (db p)= .inl (e,i)->Q .ret {tmps:=A9,defers:=[]} ((((W.setCell (π (pb+1) 0) ν).setCell (π (pb+1) 1) (ι 0)).setCell (π (pb+1+1) 0) (ι e)).setCell (π (pb+1+1) 1) (ι i)))
 (xj:Hid (ay W5 (pb+1) 97 #[ν,ι 0])) (Lx:Hid (ay W5 (pb+1+1) 99 #[ι 0,ι 0])) (HCA:Hid (pb+1+1 < A))
 (eZ:∀(J:Nat->Value) W T,J 1=ρ pb->J 3=ρ (pb+1)->J 4=ρ (pb+1+1)->J 6=ρ vb->J 7=bv->da [A] W5 W->looks p p.code.length 0 (db p)= .inr T->Q (.exit 2) (FR J) W)
 {a:Act} {W:World} (h:RN2 w W5 p pb vb A bv (p.code.length+1) a W):(Code.loop (rnL 1)).wp prog Q a W:=by
 refine Mk.aP (fun m a W=>RN2 w W5 p pb vb A bv m a W) (p.code.length+1) h ?_ ?_
 ·rintro a W ⟨J,i,-,-,-,-,-,-,-,-,h1,h2,-⟩;omega
 rintro m a0 W ⟨J,i,rfl,j1,j3,j4,j6,j7,j55,j56,hi,hm,HF,T,mv,HS,HT,tR⟩;unfold FR
 conv=>arg 2;whnf
 have w2:=ag5 i omm;rw [j1,j3,j4,j6,j7,j55,j56];clear j1 j3 j4 j6 j7 j55 j56;by_cases a8:i < p.code.length
 ·have wP:Below w.heap.size w W:=HW5.o.trans (HF.o.below HW5.o.size (by have:=RH.o;simpa using this));have uy:=ae (ET (H.o.aB (da.ah wP)) (HV.o.aB HF.o (by have:=sd.o;simpa using this)) HS.o HT.o a8 hlen (YE.o _ (ei a8)).1 (YE.o _ (ei a8)).2);have dh:=ae a8;have El:looks p (p.code.length - i) i T=if cO p T i=0 then looks p (p.code.length - (i+1)) (i+1) (iE p T i) else .inl (cO p T i,i):=by rw [show p.code.length - i=(p.code.length - (i+1))+1 by omega];rfl
  have tC:=ae El;have hle:=EQ HT.o (pc:=i) (by have:=(YE.o _ (ei a8)).1;unfold iP aF at this;simp at this;exact this.2);have y_:=ae hle;clear El wP a8 hle;go_wp2_with fail
  with_reducible refine uy.o.mono ?_
  rintro e W6 ⟨rfl,r8,fj⟩;have Jn:=ae (HF.o.trans r8);have kV:=ae fj;clear r8 fj uy;by_cases he:cO p T i=0
  ·rw [he];have HE:=ae he;clear he;go_wp2_with fail;obtain ⟨Mg,Bl⟩:=kV.o HE.o;refine ⟨_,i+1,FR.of _ rfl,rfl,rfl,rfl,rfl,rfl,rfl,rfl,dh.o,omm,Jn,iE p T i,Mg,ae Bl,ae (y_.o HE.o),ae ?_⟩;rw [tR.o,tC.o,afE HE.o]
  ·have hb:(cO p T i !=0)=true:=by simpa using he
   have HE:=ae he;have Iw:=ae (show looks p p.code.length 0 (db p)= .inl (cO p T i,i) by rw [tR.o,tC.o,abH he]);have kc:=xj.o.aB Jn.o (by have:=HCA.o;simp;omega);have kf:=Lx.o.aB Jn.o (by have:=HCA.o;simp;omega);obtain ⟨z0,z1⟩:=kc.c2;obtain ⟨z2,z3⟩:=kf.c2;have z4:=kc.frozen;have z5:=kf.frozen;have z6:=kf.lt;clear kc kf he;generalize cO p T i=le at*;go_wp2_with fail;exact gO _ _ _ _ rfl rfl rfl Jn.o HE.o Iw.o
 ·obtain rfl:i=p.code.length:=omm;clear a8;go_wp2_with fail;exact Eq.mpr (afK (fun a=>Q (.exit 2) a W) (FR.of _ rfl)) (eZ _ _ T rfl rfl rfl rfl rfl HF.o (by rw [tR.o,Nat.sub_self];rfl))
def xw (p:aO) (bl:List Int) (k:Nat):Value:=ι (bN p (bl.getD k 0):Nat)
theorem uz (p:aO) (bl:List Int) {i:Nat} {W:World} {v:Value} {n:Int} (hn:n=(bN p (bl.getD i 0):Nat)) (h:Row W 3 1 v (i+1) (gU i (xw p bl) fun _=> ι n)):Row W 3 1 v (i+1) (xw p bl):=by
 refine h.congr fun o ho=>?_;unfold gU;by_cases e:o < i
 ·rw [afE e]
 ·rw [abH e];obtain rfl:o=i:=omm;subst hn;rfl
theorem mw (p:aO) (bl:List Int) {i:Nat} (h:i < bl.length):bk p (bl.drop i)=if MF < bN p (bl.getD i 0) then some (bl.getD i 0) else bk p (bl.drop (i+1)):=by rw [agu h,afS,afP h];rfl
def RN3 (W7:World) (p:aO) (pb vb:Nat) (bv fv:Value) (bl:List Int) (m:Nat) (a:Act) (W:World):Prop:=
 ∃(J:Nat->Value) (i:Nat) (lv:Value),a=FR J/\J 1=ρ pb/\J 3=ρ (pb+1)/\J 4=ρ (pb+1+1)/\J 6=ρ vb/\J 12=fv/\J 13=lv/\J 71=bv/\J 72=ι bl.length/\J 73=ι i/\
  i<=bl.length/\m+i=bl.length+1/\Hid (Below W7.heap.size W7 W)/\Hid (Row W 3 1 lv i (xw p bl))/\Hid (∀b,lv.ownBlock=some b->W7.heap.size<=b)/\Hid (bk p bl=bk p (bl.drop i))
theorem adR {p:Prop} (h:p:=by
 have F1:=ae f1;have F2:=ae f2;have F3:=ae f3;clear bq hf hv f1 f2 f3;go_wp2_with fail
 try rw [<-EZ.o]
 refine ⟨_,i+1,v',FR.of _ rfl,rfl,rfl,rfl,rfl,rfl,rfl,(by first|rfl|exact EZ.o),rfl,rfl,dh.o,omm,F1,F2,F3,nC⟩):p:=h
theorem rn3 {W7:World} {fb fc:Nat} (Og:Hid (Row W7 3 1 bv bl.length (aU bl))) (HFV:Hid (Row W7 3 1 (.slice (some (π fb 0)) p.code.length fc) p.code.length (gC (jP p)))) (hl:bl.length<=17) (iM:Hid (∀i,i < bl.length->-1<=bl.getD i 0/\bl.getD i 0 < p.code.length)) (hlen:p.code.length<=262144)
 (xj:Hid (ay W7 (pb+1) 97 #[ν,ι 0])) (Lx:Hid (ay W7 (pb+1+1) 99 #[ι 0,ι 0]))
 (gO:∀(A9:Array Value) W (n:Int),A9.getD 2 undef= .pointer none->A9.getD 3 undef=ρ (pb+1)->A9.getD 4 undef=ρ (pb+1+1)->Below W7.heap.size W7 W->bk p bl=some n->Q .ret {tmps:=A9,defers:=[]} ((((W.setCell (π (pb+1) 0) ν).setCell (π (pb+1) 1) (ι 0)).setCell (π (pb+1+1) 0) (ι 97)).setCell (π (pb+1+1) 1) (ι n)))
 (eZ:∀(J:Nat->Value) W lv,J 1=ρ pb->J 3=ρ (pb+1)->J 4=ρ (pb+1+1)->J 6=ρ vb->J 13=lv->Below W7.heap.size W7 W->Row W 3 1 lv bl.length (xw p bl)->(∀b,lv.ownBlock=some b->W7.heap.size<=b)->bk p bl=none->Q (.exit 4) (FR J) W)
 {a:Act} {W:World} (h:RN3 W7 p pb vb bv (.slice (some (π fb 0)) p.code.length fc) bl (bl.length+1) a W):(Code.loop (rnL 2)).wp prog Q a W:=by
 refine Mk.aP (fun m a W=>RN3 W7 p pb vb bv (.slice (some (π fb 0)) p.code.length fc) bl m a W) (bl.length+1) h ?_ ?_
 ·rintro a W ⟨J,i,lv,-,-,-,-,-,-,-,-,-,-,h1,h2,-⟩;omega
 rintro m a0 W ⟨J,i,lv,rfl,j1,j3,j4,j6,tQ,Dr,Yf,Yg,Yh,hi,hm,HB,HR,HO,HE⟩;unfold FR
 conv=>arg 2;whnf
 have w2:=ag5 i omm;rw [j1,j3,j4,j6,tQ,Dr,Yf,Yg,Yh];clear j1 j3 j4 j6 tQ Dr Yf Yg Yh;by_cases a8:i < bl.length
 ·obtain ⟨b,cap,RU,q1,q2,lb⟩:=Og.o.some omm;have EZ:=ae RU;have hr:=Og.o.aB (da.ah (S:=[]) HB.o) smm;rw [RU] at hr;have c0:W.cell? (π b i)=some (ι (bl.getD i 0)):=hr.cell (o:=i) omm;have lbW:b < W.heap.size:=aS c0;have dK:=iM.o i a8;have dh:=ae a8;have Ao:=ae (mw p bl a8);have iW:Hid (i+1<=maxLen/\(i+1)*8<=140737488355328):=ae ⟨by unfold maxLen;omega,omm⟩;have hlz:EZ.o=EZ.o:=rfl;clear hr RU lb hlz;rw [EZ.o];have ir:∃la ln lc,lv= .slice la ln lc:=by rcases HR.o.val with ⟨h,-⟩|⟨_,_,h,-⟩<;>exact ⟨_,_,_,h⟩
  obtain ⟨z,hz⟩:∃z,bl.getD i 0=z:=⟨_,rfl⟩;rw [hz] at c0 dK Ao;have HZ:=ae hz;clear hz;have fin:∀(n:Int) (V:World) (v':Value) (w1:World),Below W.heap.size W V->n=(bN p z:Nat)->Row w1 3 1 v' (i+1) (gU i (xw p bl) fun _=> ι n)->da lv.ownBlock.toList V w1->(v'.ownBlock=lv.ownBlock\/v'.ownBlock=some V.heap.size)->
   Below W7.heap.size W7 w1/\Row w1 3 1 v' (i+1) (xw p bl)/\(∀b,v'.ownBlock=some b->W7.heap.size<=b):=fun n V v' w1 hv hn hr hf ho=>by
   have h1:Below W7.heap.size W7 V:=HB.o.trans (hv.mono HB.o.size);refine ⟨h1.trans (hf.below h1.size (fun b hb=>HO.o b (by simpa using hb))),uz p bl (by rw [HZ.o];exact hn) hr,fun b hb=>?_⟩;rcases ho with h|h
   ·exact HO.o b (by rw [<-h];exact hb)
   ·rw [h] at hb;have:=af0 hb;have:=h1.size;omega
  have Ct:=ae fin;clear fin;by_cases gA:z < 0
  ·have sT:(0:Int)=(bN p z:Nat):=by unfold bN;rw [afE gA];rfl
   have Gs:=ae sT;have nC:=ae (show bk p bl=bk p (bl.drop (i+1)) by rw [HE.o,Ao.o,abH (by have:=Gs.o;unfold MF;omega)]);have hd:decide (z < 0)=true:=by simpa using gA
   clear sT gA;go_wp2_with (at_builtin;refine cz rfl _ _ 24 rfl 3 underlying24 b_ rfl dee lv i (xw p bl) rfl (HR.o.alloc _) (π W.heap.size 0) 1 1 (fun _=> ι 0) rfl ?zT (fun _ _=>rfl) iW.o.1 iW.o.2 ?_)
   case zT=>intro j hj;obtain rfl:j=0:=omm;exact (ay.new W 3 #[ι 0]).cell 0
   intro v' w1 bq hf hv;obtain ⟨f1,f2,f3⟩:=Ct.o 0 _ v' w1 ((afL _ _).alloc (afF _) _) Gs.o bq hf (by simpa using hv);exact adR
  ·obtain ⟨n,rfl⟩:=afN (by omega:0<=z);have hn:n < p.code.length:=omm;have YF:W.cell? (π fb n)=some (ι (jP p n:Nat)):=(HFV.o.aB (da.ah (S:=[]) HB.o) smm).cell (o:=n) omm;have sT:bN p (n:Int)=jP p n:=by unfold bN;rw [abH omm];rfl
   rw [sT] at Ao Ct;have lfb:=aS YF;clear gA;generalize jP p n=fu at*;clear sT;by_cases qd:MF < fu
   ·have nC:=ae (show bk p bl=some (n:Int) by rw [HE.o,Ao.o,afE qd]);have Cu:1152921504606846976 < fu:=qd;have kc:=xj.o.of (HB.o.block _ xj.o.lt);have kf:=Lx.o.of (HB.o.block _ Lx.o.lt);obtain ⟨z0,z1⟩:=kc.c2;obtain ⟨z2,z3⟩:=kf.c2;have z4:=kc.frozen;have z5:=kf.frozen;have z6:=kf.lt;clear kc kf qd;go_wp2_with fail;exact gO _ _ _ rfl rfl rfl HB.o nC.o
   ·have nC:=ae (show bk p bl=bk p (bl.drop (i+1)) by rw [HE.o,Ao.o,abH qd]);have Cu:¬1152921504606846976 < fu:=qd;have YG:fu<=1152921504606846976:=omm;clear qd Cu;go_wp2_with (at_builtin;refine cz rfl _ _ 24 rfl 3 underlying24 b_ rfl dee lv i (xw p bl) rfl (HR.o.alloc _) (π W.heap.size 0) 1 1 (fun _=> ι (fu:Nat)) rfl ?zT (fun _ _=>rfl) iW.o.1 iW.o.2 ?_)
    case zT=>intro j hj;obtain rfl:j=0:=omm;exact (ay.new W 3 #[ι (fu:Nat)]).cell 0
    intro v' w1 bq hf hv;obtain ⟨f1,f2,f3⟩:=Ct.o (fu:Nat) _ v' w1 ((afL _ _).alloc (afF _) _) rfl bq hf (by simpa using hv);exact adR
 ·obtain rfl:i=bl.length:=omm;clear a8;go_wp2_with fail;exact Eq.mpr (afK (fun a=>Q (.exit 4) a W) (FR.of _ rfl)) (eZ _ _ _ rfl rfl rfl rfl rfl HB.o HR.o HO.o (by rw [HE.o,List.drop_length];rfl))
end
end
end Go.Proofs.YtblkblclmbhjiaaGreat.Vf
