import Derived.Test.YtblkblclmbhjiaaGreatX5
import Derived.Laws.CopyRow
set_option linter.all false
set_option maxHeartbeats 40000000
set_option maxRecDepth 100000
open Go.Proofs.Tryz
open Option renaming some->H,none->K7
open Go renaming Value->UL,World->UK
open Go.Value renaming slice->to
open Go.Obj renaming cells->QP
open Go.Ending renaming returned->C8
open Go.World renaming cell?->UJ
abbrev ja:=@Go.Exit.noGoto_ret
open Go.RowKit aj.Vm
open aj hiding aR an ak
namespace Go.Vf
open Ma (dP ci aX vb aI aV)
def acI(w:UK)(jg:UL)(p:aQ)(T:Map)(pc:Nat)(e:Ending)(w':UK):Prop:=
 e=C8 (Y (dl p T pc))/\aA jg.ownBlock.toList w w'/\(dl p T pc=0->∃mv,iM w' jg p.code.length (jp p T pc) mv)
def wj{P:Program}{fn:Func}{R:Ending->UK->Prop}{A:Array UL}{w:UK}{t:Tmp}(h:fn.results=#[.tmp t])(hR:R (C8 (A.getD t undef)) w):Exit.noGoto (bodyPost P fn R) .ret {tmps:=A,defers:=[]} w:=by rw[ja];exact fy h hR
def PQ{p:aQ}{x:Ins}(fD:ir p x=true)(h:x.op=34\/x.op=35\/x.op=32\/x.op=40\/x.op=41\/x.op=38\/x.op=39):rT p x.a:=by
 have key:∀k,x.op.toNat=k->(cC k).getD 0 0=1->rT p x.a:=λk e e1=>by have:=(gV fD e).1;rw[e1]at this;have:=ej this;exact⟨this.1,this.2.1⟩
 rcases h with h|h|h|h|h|h|h
 ·exact key 34 (by rw[h];rfl) rfl
 ·exact key 35 (by rw[h];rfl) rfl
 ·exact key 32 (by rw[h];rfl) rfl
 ·exact key 40 (by rw[h];rfl) rfl
 ·exact key 41 (by rw[h];rfl) rfl
 ·exact key 38 (by rw[h];rfl) rfl
 ·exact key 39 (by rw[h];rfl) rfl
def WH{p:aQ}{x:Ins}(fD:ir p x=true)(h:x.op=38\/x.op=39):rT p x.c:=by
 have key:∀k,x.op.toNat=k->(cC k).getD 2 0=1->rT p x.c:=λk e e1=>by have:=(gV fD e).2.2.1;rw[e1]at this;have:=ej this;exact⟨this.1,this.2.1⟩
 rcases h with h|h
 ·exact key 38 (by rw[h];rfl) rfl
 ·exact key 39 (by rw[h];rfl) rfl
def PR{p:aQ}{x:Ins}(fD:ir p x=true)(h:x.op=22\/x.op=23\/x.op=25\/x.op=26):0<=x.a/\x.a<p.code.length:=by
 have key:∀k,x.op.toNat=k->(cC k).getD 0 0=8->0<=x.a/\x.a<p.code.length:=λk e e1=>by have:=(gV fD e).1;rw[e1]at this;exact kG this
 rcases h with h|h|h|h
 ·exact key 22 (by rw[h];rfl) rfl
 ·exact key 23 (by rw[h];rfl) rfl
 ·exact key 25 (by rw[h];rfl) rfl
 ·exact key 26 (by rw[h];rfl) rfl
def zk:(prog.info? 233).map (·.size)=H 13:=by kernel_rfl
def zm(th:Bool)(s:Std)(a:Option Addr)(n c:Nat):∀v∈(cQ th s (to a n c)).toList,v.oneCell'=true:=by simp[cQ,Value.oneCell']
def acH{p:aQ}{T:Map}{pc:Nat}{x:Ins}{ty lo:List Nat}(h:cP p T pc x ty lo=true)(SG:x.op=26):0<lo.length:=by
 cases lo with
 |cons t l=>simp
 |nil=>exfalso;unfold cP at h;simp[SG]at h
def yT(pc:Nat)(x:Ins)(s:Std):(cH pc x s).length<=2:=by
 unfold cH
 repeat' split
 all_goals simp
def acG{pc:Nat}{x:Ins}{s:Std}{w:Nat×Std}(h:w∈cH pc x s):w.2.lo.length<=s.lo.length+1:=by
 unfold cH at h
 repeat' split at h
 all_goals (simp at h)
 all_goals (first|(rcases h with rfl|rfl<;>simp)|(subst h;simp)|skip)
 all_goals omega
def CX{n:Nat}(l:List (Nat×Std)):(l.any λw=>decide (n<=w.1))=true↔∃i,i<l.length/\n<=(l.getD i eP).1:=by
 rw[List.any_eq_true];constructor
 ·rintro⟨w,hw,h⟩;obtain⟨i,hi,e⟩:=yZ hw;refine⟨i,hi,?_⟩;rw[aY,fq hi];simp only[Option.getD_some,e];simpa using h
 ·rintro⟨i,hi,h⟩;rw[aY,fq hi]at h;exact⟨_,jO hi,by simpa using h⟩
def Bh(T:Map)(l:List (Nat×Std)):(kq l&&m_ T l)=true↔Ff T l l.length:=by
 have at_:∀(l:List (Nat×Std)) k,(hk:k<l.length)->l.getD k eP=l[k]:=λl k hk=>by rw[aY,fq hk];rfl
 have self:∀l:List (Nat×Std),kq l=true↔∀k,k<l.length->∀j,j<k->(l.getD j eP).1=(l.getD k eP).1->(l.getD j eP).2=(l.getD k eP).2:=by
  intro l
  induction l with
  |nil=>simp[kq]
  |cons w l ih=>
   rw[kq,fp,ih,qM];constructor
   ·rintro⟨h1,h2⟩ k hk j hj;cases k with
    |zero=>omega
    |succ k=>
     have xE:k<l.length:=by simpa using hk
     cases j with
     |zero=>
      intro e;have:=h1 l[k] (jO xE);simp only[Bool.or_eq_true,beq_iff_eq,ij,ft]at this;rw[List.getD_cons_succ,at_ l k xE]at e ⊢;simp only[List.getD_cons_zero]at e ⊢;rcases this with h|h
      ·exact absurd e.symm h
      ·exact h.symm
     |succ j=>rw[List.getD_cons_succ,List.getD_cons_succ];exact h2 k xE j O
   ·intro h;refine⟨λv hv=>?_,λk hk j hj=>by have:=h (k+1) (by simpa using hk) (j+1) O;rwa[List.getD_cons_succ,List.getD_cons_succ]at this⟩;obtain⟨k,hk,e⟩:=yZ hv;have:=h (k+1) (by simpa using hk) 0 O;rw[List.getD_cons_succ,List.getD_cons_zero,at_ l k hk,e]at this;simp only[Bool.or_eq_true,beq_iff_eq,ij,ft];by_cases e2:v.1=w.1
    ·exact .inr (this e2.symm).symm
    ·exact .inl e2
 rw[fp,self];unfold m_ Ff;rw[qM];constructor
 ·rintro⟨h1,h2⟩ k hk;refine⟨h1 k hk,λs hs=>?_⟩;have:=h2 l[k] (jO hk);rw[at_ l k hk]at hs ⊢;rw[hs]at this;simpa using this
 ·intro h;refine⟨λk hk=>(h k hk).1,λv hv=>?_⟩;obtain⟨k,hk,e⟩:=yZ hv;have:=(h k hk).2;rw[at_ l k hk,e]at this;cases hT:T v.1 with
  |none=>rfl
  |some s=>simpa using this s hT
def RL1(w:UK)(vb pc:Nat)(cx cs:Array UL)(a:Act)(W:UK):Prop:=
 ∃(J:Nat->UL) (bx bs:Nat),a=FK J/\J 0=UI vb/\J 1=Y pc/\J 5=UI bx/\J 6=UI bs/\Hid (aF W bx 40 cx)/\Hid (aF W bs 233 cs)/\Hid (bx≠bs/\w.heap.size<=bx/\w.heap.size<=bs)/\Hid (Below w.heap.size w W)
section
variable {w:UK}{K:Kp}{p:aQ}{jg:UL}{vb:Nat}{T:Map}{mv:Nat->UL}{pc:Nat}
def Mu{p:Prop}(h:p:=by
 refine wj rfl ?_;rw[hA];exact⟨by rw[HE.o],aA.af (HW.o.trans (wZ.mono HW.o.size)),λh=>by rw[HE.o]at h;cases h⟩):p:=h
def zn{p:Prop}(h:p:=by
 intro wz fj;exact qj):p:=h
def TW{p:Prop}(h:p:=by
 go_wp2_with fail;refine wj rfl ?_;exact⟨by rw[HE.o];rfl,aA.af HW.o,λh=>by rw[HE.o]at h;cases h⟩):p:=h
def Iy(h:fW w K p)(hv:aF w vb 230 (sM K p jg))(hs:iM w jg p.code.length T mv)(tk:TOk p T)(oT:pc<p.code.length)(hlen:p.code.length<=262144)(dW:jH (al p pc)=true)(fD:ir p (al p pc)=true):
 Calls prog 173 #[UI vb,Y pc] w (acI w jg p T pc):=by
 obtain⟨cb,ze,Cj,kc,q1,q2,ccb,c0,c1,c2,c3,c4⟩:∃b off cap,K.c=to (H (G b off)) p.code.length cap/\p.code.length<=cap/\cap<=maxLen/\b<w.heap.size/\
  UJ w (G b (off+pc*5))=H (Y (al p pc).op)/\UJ w (G b (off+pc*5+1))=H (Y (al p pc).a)/\UJ w (G b (off+pc*5+2))=H (Y (al p pc).b)/\UJ w (G b (off+pc*5+3))=H (Y (al p pc).c)/\UJ w (G b (off+pc*5+4))=H (Y (al p pc).d):=by
  obtain⟨b,off,cap,e,h1,h2,c0,c1,c2,c3,c4⟩:=h.ins oT;exact⟨b,off,cap,e,h1,h2,aH c0,c0,c1,c2,c3,c4⟩
 obtain⟨A,cap,rfl,a1,a2,a3,s0,s1,s2,s3,s4,s5,s6,s7,s8,s9,RM,MV,Eu⟩:=hs.Wy oT;obtain⟨ma,mc,hmv,-,-⟩:=aZ.val (hs.more pc oT);obtain⟨-,-,-,-,-,v5,v6⟩:=hv.c7;have lv:=hv.lt;rw[kc]at v5;rw[hmv]at Eu;have a0f:=Z h;have HV:=Z hv;have HS:=Z hs;have TK:=Z tk;have SB:=Z hmv;clear h hv hs tk hmv;generalize hx:al p pc=x at*;have HX:=Z hx;clear hx;generalize fL:fA T pc=s at*;have lN:=Z fL;have Gn:=Z fL;have Dy:=Z oT;clear fL;have hB:=KJ w;generalize v_:gE s.ty=tb at*;have ub:=Z v_;clear v_;generalize Fc:bI s.lo=lc at*;have CN:=Z Fc;clear Fc;generalize CO:s.lo.length=ln at*;have sD:=Z CO;clear CO;generalize CU:s.ha=ha at*;have Nk:=Z CU;clear CU;generalize CG:ln-8=n8 at*;have RK:=Z CG;clear CG;go_enter func173,ntmps173;go_wp2;go_step3;go_wp2;refine wp_mono (Q:=λe a W=>e=Exit.normal/\RL1 w vb pc #[Y x.op,Y x.a,Y x.b,Y x.c,Y x.d] #[.bool (T pc).isSome,.string tb,Y (lc 0),Y (lc 1),Y (lc 2),Y (lc 3),Y (lc 4),Y (lc 5),Y (lc 6),Y (lc 7),Y ln,Y ha,to ma n8 mc] a W) ?_ ?_
 ·refine Mk.bH (S:=λwx=>Below w.heap.size w wx) bh (az _ w 1) (λau=>?_);refine Mk.tk 0 (v:=?_) rfl ?_ cY ?_;rotate_left
  ·exact zn
  refine Mk.pt ?_;refine Mk.tk 1 (v:=?_) rfl ?_ cY ?_;rotate_left
  ·exact zn
  refine Mk.pt ?_;refine Mk.tk 2 (v:=?_) rfl ?_ cY ?_;rotate_left
  ·exact zn
  refine Mk.pt ?_;refine Mk.tk 3 (v:=?_) rfl ?_ cY ?_;rotate_left
  ·exact zn
  refine Mk.pt ?_;refine Mk.tk 4 (v:=?_) rfl ?_ cY ?_;rotate_left
  ·intro wz fj;have key:∀b i v,b<w.heap.size->UJ w (G b i)=H v->UJ wz (G b i)=H v:=λb i v X hc=>(dN (fj.block _ X)).trans hc;have y0:=key _ _ _ lv v5;exact qj
  refine Mk.pt ?_;refine Mk.tk 5 (v:=?_) rfl ?_ cY ?_;rotate_left
  ·exact zn
  refine Mk.pt ?_;refine Mk.tk 6 (v:=?_) rfl ?_ cY ?_;rotate_left
  ·exact zn
  refine Mk.pt ?_;refine Mk.tk 7 (v:=?_) rfl ?_ cY ?_;rotate_left
  ·intro wz fj;have key:∀b i v,b<w.heap.size->UJ w (G b i)=H v->UJ wz (G b i)=H v:=λb i v X hc=>(dN (fj.block _ X)).trans hc;have y0:=key _ _ _ ccb c0;have y1:=key _ _ _ ccb c1;have y2:=key _ _ _ ccb c2;have y3:=key _ _ _ ccb c3;have y4:=key _ _ _ ccb c4;exact qj
  refine Mk.pt ?_;refine Mk.tk 8 (v:=?_) rfl ?_ cY ?_;rotate_left
  ·exact zn
  refine Mk.pt ?_;refine Mk.tk 9 (v:=?_) rfl ?_ cY ?_;rotate_left
  ·exact zn
  refine Mk.pt ?_;refine Mk.tk 10 (v:=?_) rfl ?_ cY ?_;rotate_left
  ·exact zn
  refine Mk.pt ?_;refine Mk.tk 11 (v:=?_) rfl ?_ cY ?_;rotate_left
  ·intro wz fj;have key:∀b i v,b<w.heap.size->UJ w (G b i)=H v->UJ wz (G b i)=H v:=λb i v X hc=>(dN (fj.block _ X)).trans hc;have y0:=key _ _ _ lv v6;exact qj
  refine Mk.pt ?_;refine Mk.tk 12 (v:=?_) rfl ?_ cY ?_;rotate_left
  ·exact zn
  refine Mk.pt ?_;refine Mk.tk 13 (v:=?_) rfl ?_ cY ?_;rotate_left
  ·exact zn
  refine Mk.pt ?_;refine Mk.tk 14 (v:=?_) rfl ?_ cY ?_;rotate_left
  ·intro wz fj;have key:∀b i v,b<w.heap.size->UJ w (G b i)=H v->UJ wz (G b i)=H v:=λb i v X hc=>(dN (fj.block _ X)).trans hc;exact qX2
  refine Mk.pt ?_;refine fk (rs:=[15,16]) bh ay ?_;refine bZ rfl (λK hK=>?_) (bZ rfl (λK hK=>?_) cz);refine fH ?_;go_simp;refine hK.out _ _ (au.alloc au.size _) (λau=>?_);clear hK K;refine Mk.pt ?_;refine fk (rs:=[16]) bh ay ?_;refine bZ rfl (λK hK=>?_) cz;refine fH ?_;go_simp;refine hK.out _ _ (au.alloc au.size _) (λau=>?_);clear hK K;refine Mk.pt ?_;refine fk (rs:=[17]) bh ay ?_;refine bZ rfl (λK hK=>?_) cz;refine fH ?_;go_simp;refine hK.out _ _ (((az _ w 1).alloc (aL _) _).alloc ay _) (λau=>?_);clear hK K;refine Mk.pt ?_;refine fk (rs:=[18]) bh ay ?_;refine bZ rfl (λK hK=>?_) cz;refine fH ?_;go_simp;refine hK.out _ _ (((az _ w 1).alloc (aL _) _).alloc ay _) (λau=>?_);clear hK K;refine Mk.pt ?_;refine nW bh ⟨rfl,?_⟩ _;clear au;rotate_left;refine fH ?_;go_simp;refine hK.out _ _ (au.alloc au.size _) (λau=>?_);clear hK K;refine Mk.pt ?_;refine fk (rs:=[15]) bh ay ?_;refine bZ rfl (λK hK=>?_) cz;refine fH ?_;go_simp;refine hK.out _ _ (au.alloc au.size _) (λau=>?_);clear hK K;refine Mk.pt ?_;refine fk (rs:=[17]) bh ay ?_;refine bZ rfl (λK hK=>?_) cz;refine fH ?_;go_simp;refine hK.out _ _ (((az _ w 1).alloc (aL _) _).alloc ay _) (λau=>?_);clear hK K;refine Mk.pt ?_;refine fk (rs:=[18]) bh ay ?_;refine bZ rfl (λK hK=>?_) cz;refine fH ?_;go_simp;refine hK.out _ _ (((az _ w 1).alloc (aL _) _).alloc ay _) (λau=>?_);clear hK K;refine Mk.pt ?_;refine nW bh ⟨rfl,?_⟩ _;clear au
  all_goals
   refine⟨rfl,?_⟩
   first
   |exact⟨_,w.heap.size,w.heap.size+1,FK.of _ rfl,rfl,rfl,rfl,rfl,Z (((aF.new w _ _).alloc _).drewN 1),Z ((aF.bR ay).drewN 1),Z ⟨O,O,O⟩,Z ((hB _ _ _ _).trans (az _ _ 1))⟩
   |exact⟨_,w.heap.size+1,w.heap.size,FK.of _ rfl,rfl,rfl,rfl,rfl,Z ((aF.bR ay).drewN 1),Z (((aF.new w _ _).alloc _).drewN 1),Z ⟨O,O,O⟩,Z ((hB _ _ _ _).trans (az _ _ 1))⟩
 ·rintro e a W ⟨rfl,J,bx,bs,rfl,j0,j1,j5,j6,KX,KS,tW,HW⟩;have sU:=Z tW.o.1;have BL:=Z tW.o.2.2;unfold FK;rw[j0,j1,j5,j6];clear j0 j1 j5 j6 tW v5 v6 lv oT ccb a3 c0 c1 c2 c3 c4 s0 s1 s2 s3 s4 s5 s6 s7 s8 s9 RM MV Eu q1 q2 kc hB;cases hT:T pc with
  |none=>have HE:=Z (show dl p T pc=99 by unfold dl;rw[hT]);rw[hT]at KS;change Hid (aF W bs 233 #[.bool false,.string tb,Y (lc 0),Y (lc 1),Y (lc 2),Y (lc 3),Y (lc 4),Y (lc 5),Y (lc 6),Y (lc 7),Y ln,Y ha,to ma n8 mc])at KS;obtain⟨d0,d1,d2,d3,d4⟩:=KX.o.c5;obtain⟨e0,e1,e2,e3,e4,e5,e6,e7,e8,e9,Gk,Gl,Gm⟩:=KS.o.ri;have lx:=KX.o.lt;have ls:=KS.o.lt;have fs:=KS.o.frozen;exact TW
  |some st=>
   have hss:fA T pc=st:=by unfold fA;rw[hT];rfl
   obtain rfl:st=s:=hss.symm.trans lN.o;rw[hT]at KS;change Hid (aF W bs 233 #[.bool true,.string tb,Y (lc 0),Y (lc 1),Y (lc 2),Y (lc 3),Y (lc 4),Y (lc 5),Y (lc 6),Y (lc 7),Y ln,Y ha,to ma n8 mc])at KS;have hle:dl p T pc=if !fo p x st.ha then 96 else if bQ x st.ty≠0 then bQ x st.ty else if !c_ p x then 92 else if !cP p T pc x (a_ x st.ty) st.lo then 95 else if(cH pc x ⟨a_ x st.ty,st.lo,bE p x st.ha⟩).any (λw=>decide (p.code.length<=w.1))then 98 else if !(kq (cH pc x ⟨a_ x st.ty,st.lo,bE p x st.ha⟩)&&m_ T (cH pc x ⟨a_ x st.ty,st.lo,bE p x st.ha⟩))then 94 else 0:=by unfold dl;rw[hT,HX.o]
   have Dz:jp p T pc=qL T (cH pc x ⟨a_ x st.ty,st.lo,bE p x st.ha⟩):=by unfold jp;rw[hT,HX.o]
   have Fg:=Z hle;have HLM:=Z Dz;have UQ:0<=x.op/\x.op<=41:=by unfold jH aO at dW;simpa using dW
   have HQA:=Z (λh=>PQ fD h);have HQC:=Z (λh=>WH fD h);have HXA:=Z (λh=>PR fD h);have tlo:=TK.o.loops pc st hT;have tty:=TK.o.ty pc st hT;have TU:=TK.o.len pc st hT;have tha:=TK.o.ha pc st hT;have Nl:=Z (λV (X:Below w.heap.size w V)=>afX (x:=x) (ha:=st.ha) (a0f.o.aG (aA.af X)) (HV.o.of (X.block _ HV.o.lt)) (λh=>HQA.o (by simp[h])) tha);have hmr:∃a n c,mv pc=to a n c:=⟨_,_,_,SB.o⟩;have TY:=Z (λV=>abH V (vv:=UI vb) (mv:=mv pc) true (s:=st) (x:=x) UQ.1 UQ.2 TU tty hmr);have HKI:=Z (λV (X:Below w.heap.size w V)=>agA (x:=x) (a0f.o.aG (aA.af X)) (HV.o.of (X.block _ HV.o.lt)) (λh=>HQA.o (by rcases h with h|h|h|h|h<;>simp[h])) (λh=>HQC.o h));have Iz:=Z (λV (X:Below w.heap.size w V) (ht:fe (a_ x st.ty))=>CK (s:=⟨a_ x st.ty,st.lo,st.ha⟩) (x:=x) (pc:=pc) (T:=T) (smv:=mv pc) (a0f.o.aG (aA.af X)) (HV.o.of (X.block _ HV.o.lt)) (HS.o.aG (aA.af X)) (by have h1:=HS.o.more pc Dy.o;rw[Gn.o]at h1;exact h1.aG (aA.af X)) ⟨Dy.o,UQ.1,λh=>HXA.o h,tlo,ht,λq s hq=>⟨TK.o.loops q s hq,TK.o.ty q s hq⟩,hlen⟩);have HHO:=Z (λV (X:Below w.heap.size w V)=>agB (x:=x) (ha:=st.ha) (a0f.o.aG (aA.af X)) (HV.o.of (X.block _ HV.o.lt)) (λh=>HQA.o (by simp[h])));have HMM:=Z (show dx w (mv pc) st.lo from by have h1:=HS.o.more pc Dy.o;rw[Gn.o]at h1;exact h1);have Hl:=Z (J0 TK.o.loops st.lo pc tlo);have Px:=Z (Fe (x:=x) (ty:=st.ty) O tty);have HTH:=Z tha;have HT:=Z hT;rw[SB.o]at TY Iz;rw[Nk.o]at Nl Iz HHO;unfold aV aI at Nl HKI HHO;unfold aV aI dY cQ at TY Iz;dsimp only at Iz;rw[ub.o,CN.o,sD.o,Nk.o]at TY;rw[CN.o,sD.o]at Iz;rw[Nk.o]at Fg HLM;clear hle Dz hT hss lN hmr tlo tty TU tha dW fD;obtain⟨d0,d1,d2,d3,d4⟩:=KX.o.c5;obtain⟨e0,e1,e2,e3,e4,e5,e6,e7,e8,e9,Gk,Gl,Gm⟩:=KS.o.ri;have lx:=KX.o.lt;have ls:=KS.o.lt;have fs:=KS.o.frozen;cases hh:fo p x ha with
   |false=>
    have HE:=Z (show dl p T pc=96 by rw[Fg.o,hh];rfl);rw[hh]at Nl;go_wp2_with fail
    with_reducible refine(Nl.o _ HW.o).mono ?_
    rintro e W1 ⟨rfl,X⟩;clear d0 d1 d2 d3 d4 e0 e1 e2 e3 e4 e5 e6 e7 e8 e9 Gk Gl Gm lx ls fs;replace KX:=Z (KX.o.of (X.block _ KX.o.lt));replace KS:=Z (KS.o.of (X.block _ KS.o.lt));replace HW:=Z (HW.o.trans (X.mono HW.o.size));clear X;exact TW
   |true=>
    have HHT:=Z hh;rw[hh]at Nl;go_wp2_with fail
    with_reducible refine(Nl.o _ HW.o).mono ?_
    rintro e W1 ⟨rfl,X⟩;clear d0 d1 d2 d3 d4 e0 e1 e2 e3 e4 e5 e6 e7 e8 e9 Gk Gl Gm lx ls fs;replace KX:=Z (KX.o.of (X.block _ KX.o.lt));replace KS:=Z (KS.o.of (X.block _ KS.o.lt));replace HW:=Z (HW.o.trans (X.mono HW.o.size));clear X;obtain⟨d0,d1,d2,d3,d4⟩:=KX.o.c5;obtain⟨e0,e1,e2,e3,e4,e5,e6,e7,e8,e9,Gk,Gl,Gm⟩:=KS.o.ri;have lx:=KX.o.lt;have ls:=KS.o.lt;have fs:=KS.o.frozen;go_wp2_with fail
    with_reducible refine(TY.o _).mono ?_
    rintro e W2 ⟨s',rfl,yv,X⟩;clear d0 d1 d2 d3 d4 e0 e1 e2 e3 e4 e5 e6 e7 e8 e9 Gk Gl Gm lx ls fs;replace KX:=Z (KX.o.of (X.block _ KX.o.lt));replace KS:=Z (KS.o.of (X.block _ KS.o.lt));replace HW:=Z (HW.o.trans (X.mono HW.o.size));clear X;obtain⟨d0,d1,d2,d3,d4⟩:=KX.o.c5;obtain⟨e0,e1,e2,e3,e4,e5,e6,e7,e8,e9,Gk,Gl,Gm⟩:=KS.o.ri;have lx:=KX.o.lt;have ls:=KS.o.lt;have fs:=KS.o.frozen;by_cases WI:bQ x st.ty=0
    case neg=>
     have afd:(bQ x st.ty !=0)=true:=by simpa using WI
     have HE:=Z (show dl p T pc=bQ x st.ty by rw[Fg.o,HHT.o];simp[WI]);have HNZ:=Z WI;unfold dY;generalize bQ x st.ty=te at*;clear yv WI e0 e1 e2 e3 e4 e5 e6 e7 e8 e9 Gk Gl Gm fs;go_wp2_with (refine uf rfl 233 (.tmp 6) (.tmp 46) rfl bs (cQ true s' (to ma n8 mc)) rfl rfl KS.o rfl zk (zm _ _ _ _ _) ?_;intro W3 l8 DA);refine wj rfl ?_;exact⟨by rw[HE.o];rfl,aA.af (HW.o.trans (DA.below HW.o.size (by have:=BL.o;simp;exact this))),λh=>absurd (HE.o.symm.trans h) HNZ.o⟩
    case pos=>
     obtain rfl:=yv WI;rw[WI];have HTE:=Z WI;clear yv WI;unfold dY;have TT:=Z (show cQ true ⟨a_ x st.ty,st.lo,st.ha⟩ (to ma n8 mc)=#[.bool true,.string (gE (a_ x st.ty)),Y (lc 0),Y (lc 1),Y (lc 2),Y (lc 3),Y (lc 4),Y (lc 5),Y (lc 6),Y (lc 7),Y ln,Y ha,to ma n8 mc]from by unfold cQ;rw[CN.o,sD.o,Nk.o]);generalize y7:gE (a_ x st.ty)=tb2 at*;have y6:=Z y7;clear y7 e0 e1 e2 e3 e4 e5 e6 e7 e8 e9 Gk Gl Gm fs;cases hk:c_ p x with
     |false=>
      have HE:=Z (show dl p T pc=92 by rw[Fg.o,HHT.o,HTE.o,hk];rfl);rw[hk]at HKI;go_wp2_with ((refine uf rfl 233 (.tmp 6) (.tmp 46) rfl bs (cQ true ⟨a_ x st.ty,st.lo,st.ha⟩ (to ma n8 mc)) rfl rfl KS.o rfl zk (zm _ _ _ _ _) ?_;intro W3 l8 DA;rw[TT.o]at l8;replace KX:=Z (KX.o.aG DA (by have:=sU.o;simp;exact this));replace HW:=Z (HW.o.trans (DA.below HW.o.size (by have:=BL.o;simp;exact this)));replace KS:=Z l8;replace d0:UJ W3 (G bx 0)=H (Y x.op):=KX.o.cell 0;replace d1:UJ W3 (G bx 1)=H (Y x.a):=KX.o.cell 1;replace d2:UJ W3 (G bx 2)=H (Y x.b):=KX.o.cell 2;replace d3:UJ W3 (G bx 3)=H (Y x.c):=KX.o.cell 3;replace d4:UJ W3 (G bx 4)=H (Y x.d):=KX.o.cell 4;replace lx:=KX.o.lt;clear l8 DA ls))
      with_reducible refine(HKI.o _ HW.o).mono ?_
      rintro e W4 ⟨rfl,X⟩;clear d0 d1 d2 d3 d4 lx;replace KX:=Z (KX.o.of (X.block _ KX.o.lt));replace KS:=Z (KS.o.of (X.block _ KS.o.lt));replace HW:=Z (HW.o.trans (X.mono HW.o.size));clear X;exact TW
     |true=>
      have HKT:=Z hk;rw[hk]at HKI;go_wp2_with ((refine uf rfl 233 (.tmp 6) (.tmp 46) rfl bs (cQ true ⟨a_ x st.ty,st.lo,st.ha⟩ (to ma n8 mc)) rfl rfl KS.o rfl zk (zm _ _ _ _ _) ?_;intro W3 l8 DA;rw[TT.o]at l8;replace KX:=Z (KX.o.aG DA (by have:=sU.o;simp;exact this));replace HW:=Z (HW.o.trans (DA.below HW.o.size (by have:=BL.o;simp;exact this)));replace KS:=Z l8;replace d0:UJ W3 (G bx 0)=H (Y x.op):=KX.o.cell 0;replace d1:UJ W3 (G bx 1)=H (Y x.a):=KX.o.cell 1;replace d2:UJ W3 (G bx 2)=H (Y x.b):=KX.o.cell 2;replace d3:UJ W3 (G bx 3)=H (Y x.c):=KX.o.cell 3;replace d4:UJ W3 (G bx 4)=H (Y x.d):=KX.o.cell 4;replace lx:=KX.o.lt;clear l8 DA ls))
      with_reducible refine(HKI.o _ HW.o).mono ?_
      rintro e W4 ⟨rfl,X⟩;clear d0 d1 d2 d3 d4 lx;replace KX:=Z (KX.o.of (X.block _ KX.o.lt));replace KS:=Z (KS.o.of (X.block _ KS.o.lt));replace HW:=Z (HW.o.trans (X.mono HW.o.size));clear X;obtain⟨d0,d1,d2,d3,d4⟩:=KX.o.c5;obtain⟨e0,e1,e2,e3,e4,e5,e6,e7,e8,e9,Gk,Gl,Gm⟩:=KS.o.ri;have lx:=KX.o.lt;have ls:=KS.o.lt;have fs:=KS.o.frozen;obtain⟨jb,hjb⟩:∃z,cP p T pc x (a_ x st.ty) st.lo=z:=⟨_,rfl⟩;have HJB:=Z hjb;rw[hjb]at Iz;clear hjb;cases jb with
      |false=>
       have HE:=Z (show dl p T pc=95 by rw[Fg.o,HHT.o,HTE.o,HKT.o,HJB.o];rfl);go_wp2_with fail
       with_reducible refine(Iz.o _ HW.o Px.o).mono ?_
       rintro e W5 ⟨rfl,X⟩;clear d0 d1 d2 d3 d4 e0 e1 e2 e3 e4 e5 e6 e7 e8 e9 Gk Gl Gm lx ls fs;replace KX:=Z (KX.o.of (X.block _ KX.o.lt));replace KS:=Z (KS.o.of (X.block _ KS.o.lt));replace HW:=Z (HW.o.trans (X.mono HW.o.size));clear X;exact TW
      |true=>
       go_wp2_with fail
       with_reducible refine(Iz.o _ HW.o Px.o).mono ?_
       rintro e W5 ⟨rfl,X⟩;clear d0 d1 d2 d3 d4 e0 e1 e2 e3 e4 e5 e6 e7 e8 e9 Gk Gl Gm lx ls fs;replace KX:=Z (KX.o.of (X.block _ KX.o.lt));replace KS:=Z (KS.o.of (X.block _ KS.o.lt));replace HW:=Z (HW.o.trans (X.mono HW.o.size));clear X;obtain⟨d0,d1,d2,d3,d4⟩:=KX.o.c5;obtain⟨e0,e1,e2,e3,e4,e5,e6,e7,e8,e9,Gk,Gl,Gm⟩:=KS.o.ri;have lx:=KX.o.lt;have ls:=KS.o.lt;have fs:=KS.o.frozen;have Kf:=Z (λV (X:Below w.heap.size w V)=>acJ V (pc:=pc) (x:=x) (s:=⟨a_ x st.ty,st.lo,bE p x ha⟩) (smv:=to ma n8 mc) (by rw[<-SB.o];exact HMM.o.aG (aA.af X)) (by have:=Dy.o;omega) UQ.1 (λh=>(HXA.o h).1) (by show st.lo.length<=_;have:=Hl.o;have:=Dy.o;omega) (λh=>acH HJB.o h));unfold aV aI dY cQ at Kf;dsimp only at Kf;rw[y6.o,CN.o,sD.o]at Kf
       try rw[RK.o]at Kf
       rw[<-Nk.o]at Kf;rw[Nk.o]at Kf;have Zt:=yT pc x ⟨a_ x st.ty,st.lo,bE p x ha⟩;have CS:WOk (cH pc x ⟨a_ x st.ty,st.lo,bE p x ha⟩):=λi hi=>by
        have hm:(cH pc x ⟨a_ x st.ty,st.lo,bE p x ha⟩).getD i eP∈cH pc x ⟨a_ x st.ty,st.lo,bE p x ha⟩:=by rw[aY,fq hi];exact jO hi
        refine⟨by rw[(CR hm).1];exact Px.o,?_⟩;have h1:=acG hm;have h2:=Hl.o;have h3:=Dy.o;show _<=_;dsimp only at h1;omega
       have aen:=Z CS;generalize cH pc x ⟨a_ x st.ty,st.lo,bE p x ha⟩=wl at*;clear CS;go_wp2_with fail
       with_reducible refine(HHO.o _ HW.o).mono ?_
       rintro e W6 ⟨rfl,X⟩;clear d0 d1 d2 d3 d4 e0 e1 e2 e3 e4 e5 e6 e7 e8 e9 Gk Gl Gm lx ls fs;replace KX:=Z (KX.o.of (X.block _ KX.o.lt));replace KS:=Z (KS.o.of (X.block _ KS.o.lt));replace HW:=Z (HW.o.trans (X.mono HW.o.size));clear X;obtain⟨d0,d1,d2,d3,d4⟩:=KX.o.c5;obtain⟨e0,e1,e2,e3,e4,e5,e6,e7,e8,e9,Gk,Gl,Gm⟩:=KS.o.ri;have lx:=KX.o.lt;have ls:=KS.o.lt;have fs:=KS.o.frozen;generalize hhd:bE p x ha=hd9 at*;clear hhd;go_wp2_with fail;have hB7:Below w.heap.size w (W6.setCell (G bs 11) (Y hd9)):=HW.o.setCell (p:=(G bs 11)) BL.o _;generalize(W6.setCell (G bs 11) (Y hd9))=W7 at*;replace HW:=Z hB7;clear hB7 KX KS;clear d0 d1 d2 d3 d4 e0 e1 e2 e3 e4 e5 e6 e7 e8 e9 Gk Gl Gm lx ls fs
       with_reducible refine(Kf.o _ HW.o).mono ?_
       rintro e W8 ⟨lv,wb,rfl,hy,X,gp⟩;obtain⟨la,Zu,Kd,-,-⟩:=hy.row.val;subst Kd;have HY:=Z hy;have h67:=HW.o.size;have aeo:=Z (λb X=>cU h67 (gp b X));replace HW:=Z (HW.o.trans (X.mono HW.o.size));have HP8:=Z (a0f.o.aG (aA.af HW.o));have HV8:=Z (HV.o.of (HW.o.block _ HV.o.lt));have HS8:=Z (HS.o.aG (aA.af HW.o));have HTO:Hid (∀q s,T q=H s->fe s.ty/\s.lo.length<=1000000000):=Z λq s hq=>⟨TK.o.ty q s hq,by
        have h1:=J0 TK.o.loops s.lo q (TK.o.loops q s hq);have h2:=TK.o.lt q s hq;omega⟩
       have Ke:Hid (∀i,i<wl.length->∀b,(wb i).ownBlock=H b->b≠A):=Z λi hi b X e=>by
        subst e;rcases HY.o.off i hi _ X with h1|h1
        ·exact HS.o.off pc Dy.o b (by rw[SB.o];exact h1) rfl
        ·have h2:b<w.heap.size:=(HS.o.row.slice).2.2.2;omega
       have TV:Hid (∀b,(Value.slice la wl.length Zu).ownBlock=H b->b≠A):=Z λb X e=>by subst e;have h1:=aeo.o b X;have h2:b<w.heap.size:=(HS.o.row.slice).2.2.2;omega
       have HVA:Hid (vb≠A):=Z λe=>by subst e;exact HS.o.row.eZ HV.o bd rfl
       clear hy X gp h67 HS a0f HMM Nl TY HKI Iz HHO Kf;go_wp2_with fail;refine lk1 (w1:=W8) (pc:=pc) HP8 HV8 HY Zt (λA9 W9 hA wZ hex=>?_) (λacF W9 j0 j1 j8 wZ Iu=>?_) ⟨_,0,FK.of _ rfl,rfl,rfl,rfl,rfl,rfl,rfl,cK _,rfl,Z (aB _ _)⟩
       ·have HE:=Z (show dl p T pc=98 from by rw[Fg.o,HHT.o,HTE.o,HKT.o,HJB.o,(CX wl).2 hex];rfl);exact Mu
       ·have TZ:=Z Iu;have IA:=Z wZ;unfold FK;rw[j0,j1,j8];clear j0 j1 j8 Iu wZ;go_wp2;go_step3;go_wp2_with fail;refine lk2 (w1:=W8) (pc:=pc) (mv:=mv) HV8 HS8 HTO HY aen Zt TZ ?_ ?_ ?_;rotate_left 2
        ·exact⟨_,0,FK.of _ rfl,rfl,rfl,rfl,rfl,rfl,rfl,cK _,rfl,IA⟩
        ·intro A9 W10 hA wZ hex;have HAN:=Z (show wl.any (λw=>decide (p.code.length<=w.1))=false from by
          rw[vV];intro h;obtain⟨i,hi,h2⟩:=(CX wl).1 h;have:=TZ.o i hi;omega)
         have HE:=Z (show dl p T pc=94 from by
          rw[Fg.o,HHT.o,HTE.o,HKT.o,HJB.o,HAN.o,show(kq wl&&m_ T wl)=false from by rw[vV];exact λh=>hex ((Bh T wl).1 h)];rfl)
         exact Mu
        ·intro J10 W10 j0 j1 j8 wZ hme;have HME:=Z hme;have Fh:=Z wZ;unfold FK;rw[j0,j8];clear j0 j1 j8 hme wZ;go_wp2_with fail;have aep:=Z (HV8.o.of (Fh.o.block _ HV8.o.lt));have yH:=Z (HY.o.aG (aA.af Fh.o));refine lk4 (w1:=W10) aep HVA yH TV Ke (by have h2:=(HS8.o.row.slice).2.2.2;have:=Fh.o.size;omega) Zt TZ (λJ11 W11 PH hF hS=>?_) ⟨_,0,FK.of _ rfl,rfl,rfl,rfl,rfl,cK _,rfl,Z (aA.refl _ _),mv,Z (by rw[List.take_zero];exact HS8.o.aG (aA.af Fh.o))⟩;have HF:=Z hF;have aeq:=Z hS;unfold FK;clear hF hS;go_wp2_with fail;refine wj rfl ?_;have HAN:=Z (show wl.any (λw=>decide (p.code.length<=w.1))=false from by
          rw[vV];intro h;obtain⟨i,hi,h2⟩:=(CX wl).1 h;have:=TZ.o i hi;omega)
         have HE:=Z (show dl p T pc=0 from by
          rw[Fg.o,HHT.o,HTE.o,HKT.o,HJB.o,HAN.o,(Bh T wl).2 HME.o];rfl)
         exact⟨by rw[HE.o];rfl,(aA.af (HW.o.trans (Fh.o.mono HW.o.size))).trans HF.o,λ_=>⟨PH,by rw[HLM.o];exact aeq.o⟩⟩
end
end Go.Vf
namespace aj.Vm
open Go Go.RowKit
def acD{F:Fence}{nn:Nat}{P:Program}{w:UK}{ops:Array Oper}{rest:List Oper}{o:Oper}{a:Act}{Q:Exit->Act->UK->Prop}(Bz:o.guard=K7)(s x:Operand)(t:TypeId)
 (ho:o.op= .call {callee:= .builtin .append,args:=#[s,x],argTypes:=#[t,t]})
 (e:TypeId) {size bytes:Nat} {z:UL} (ht:P.underlying t=H (.slice e)) (hi:(P.info? e).map (λi=>(i.zero,i.size,i.bytes))=H (H z,size,bytes)) (Nz:z.cells.size=size) (kw:0<size)
 (v:UL) (n:Nat) (g:Nat->UL) (hs:a.eval s=v) (bo:Row w e size v n g)
 (ad:Addr) (m c:Nat) (f:Nat->UL) (hx:a.eval x=to (H ad) m c) (qt:∀j,j<m*size->UJ w (ad.add j)=H (f j)) (h1:∀j,j<m*size->(f j).oneCell'=true)
 (RV:n+m<=maxLen) (mP:(n+m)*bytes<=140737488355328)
 (h:∀v' w',Row w' e size v' (n+m) (fY (n*size) g f)->aA v.ownBlock.toList w w'->(v'.ownBlock=v.ownBlock\/v'.ownBlock=H w.heap.size)->wpListIn F nn P ops Q rest (a.put o.dst v') w'):wpListIn F nn P ops Q (o::rest) a w:=by
 refine wpListIn_plain Bz λK hK'=>?_;obtain⟨i,FU,vG,MU,NA⟩:=info_parts hi;obtain⟨v',w',hr,h2,h3,-,h5⟩:=run_append_own_at (P:=P) w 0 t o.type e i z size bytes ht FU vG MU NA Nz kw v n (eY (n*size) g) bo ad m c (eY (m*size) f) (by rw[fO])
  (λj u hu=>by
    have hj:j<m*size:=by
     rcases Nat.lt_or_ge j (m*size)with be|Rb
     ·exact be
     ·exact YQ
    rw[nN f hj]at hu;cases hu;exact qt j hj)
  (λu hu=>by
    unfold eY at hu;obtain⟨j,hj,rfl⟩:=List.mem_map.1 hu;exact h1 j (List.mem_range.1 hj)) RV mP (cK _)
 unfold Oper.wpIn;refine⟨?_,?_⟩
 ·simp[Oper.about,ho,resolve,Target.leads,Sem.run_pure]
 ·rw[Oper.semAt_plain F _ _ (by rw[ho];intro c XH;cases XH)];simp[execOp,ho,resolve,invoke,builtin,hs,hx,hr,Result.andThen];refine hK' _ _ (h v' w' ?_ (eK h3) h5);unfold Row;rw[Nat.add_mul,xA];exact h2
def jr{P:Program}{w:UK}{ops:Array Oper}{rest:List Oper}{o:Oper}{a:Act}{Q:Exit->Act->UK->Prop}
 (hg:o.guard=K7) (l c:Operand) (t:TypeId) (dW:o.op=Op.makeSlice t l c)
 (e:TypeId) {bytes:Nat} {z:UL} (h1:P.underlying t=H (.slice e)) (hi:(P.info? e).map (λi=>(i.zero,i.size,i.bytes))=H (H z,1,bytes)) (hz:z.cells=#[z])
 (kl kc:IntKind) (L C:Int) (n:Nat) (hl:a.eval l= .int kl L) (hc:a.eval c= .int kc C) (hL:L=(n:Int)) (hC:C=(n:Int)) (b2:bytes*n<=281474976710656) (b3:n<=maxLen)
 (hK:∀w',Row w' e 1 (to (H (G w.heap.size 0)) n n) n (λ_=>z)->Below w.heap.size w w'->wpList P ops Q rest (a.put o.dst (to (H (G w.heap.size 0)) n n)) w'):
 wpList P ops Q (o::rest) a w:=by
 obtain⟨i,FU,vG,MU,NA⟩:=info_parts hi;refine wpList_make_full w hg l c t dW 0 e i z 1 h1 FU vG MU kl kc L C n hl hc hL hC (by rw[NA];exact b2) b3 (cK _) λw' hw yk=>hK w' ?_ ?_
 ·unfold Row;have:(madeCells z.cells (n*1)).toList=eY (n*1) (λ_=>z):=by rw[hz];unfold madeCells eY;simp;intro a _;rw[Nat.mod_one];rfl
  rw[<-this];exact hw
 ·have F:=eK yk;exact F.below (Nat.le_refl _) ay
end aj.Vm
section
namespace aj.Vm
def iG{a b:Nat}(X:b<=MS):bG a b<=MS:=by unfold bG;split<;>omega
def ug(a b:Nat):eM a b<=MS:=by unfold eM;split<;>omega
def acC{p:aQ}{g:Nat->Nat}(hg:∀i,g i<=MS)(pc:Nat):lP p g pc<=MS:=by
 unfold lP;dsimp only;split
 ·decide
 split
 ·exact iG (hg _)
 split
 ·exact iG (by have:=hg (pc+1);have:=hg (al p pc).a.toNat;omega)
 split
 ·exact iG (iG (hg _))
 ·exact iG (hg _)
def uh(p:aQ):∀k i,dQ p k i<=MS
 |0,_=>cK _
 |k+1,i=>by
  unfold dQ;rw[dq];split
  ·exact acC (uh p k) _
  ·exact uh p k i
def zo{p:aQ}{j:Nat}(h:j<p.code.length):dQ p (p.code.length-j)=aR (dQ p (p.code.length - (j+1))) j (lP p (dQ p (p.code.length - (j+1))) j):=by rw[show p.code.length-j=(p.code.length - (j+1))+1 by omega];show aR _ (p.code.length-1 - (p.code.length - (j+1))) _=_;rw[show p.code.length-1 - (p.code.length - (j+1))=j by omega]
end aj.Vm
namespace Go.Vf
open Ma (dP ci aX vb aI aV ny)
def FF(J:Nat->UL):Act:={tmps:=#[J 0,J 1,J 2,J 3,J 4,J 5,J 6,J 7,J 8,J 9,J 10,J 11,J 12,J 13,J 14,J 15,J 16,J 17,J 18,J 19,J 20,J 21,J 22,J 23,J 24,J 25,J 26,J 27,J 28,J 29,J 30,J 31,J 32,J 33,J 34,J 35,J 36,J 37,J 38,J 39,J 40,J 41,J 42,J 43,J 44,J 45,J 46,J 47,J 48,J 49,J 50,J 51,J 52,J 53,J 54,J 55,J 56,J 57,J 58,J 59,J 60,J 61,J 62,J 63,J 64,J 65,J 66,J 67,J 68,J 69,J 70,J 71,J 72,J 73,J 74,J 75,J 76,J 77,J 78,J 79,J 80,J 81,J 82,J 83,J 84,J 85,J 86,J 87,J 88,J 89,J 90,J 91,J 92,J 93,J 94,J 95,J 96,J 97],defers:=[]}
def FF.of(A:Array UL)(h:A=(FF λk=>A.getD k undef).tmps):({tmps:=A,defers:=[]}:Act)=FF λk=>A.getD k undef:=by rw[h];rfl
def gC(g:Nat->Nat)(i:Nat):UL:=Y (g i:Nat)
def TS{P:Program}{fn:Func}{R:Ending->UK->Prop}{A:Array UL}{w:UK}{t:Tmp}(h:fn.results=#[.tmp t])(hR:R (C8 (A.getD t undef)) w):Exit.noGoto (bodyPost P fn R) .ret {tmps:=A,defers:=[]} w:=by rw[Exit.noGoto_ret];exact fy h hR
def FuS(w:UK)(p:aQ)(vb:Nat)(cv:UL)(fb fc:Nat)(a:Act)(W:UK):Prop:=
 ∃(J:Nat->UL) (m:Nat),a=FF J/\J 0=UI vb/\J 3=cv/\J 4=to (H (G fb 0)) p.code.length fc/\J 5=Y ((m:Int) - 1)/\m<=p.code.length/\Hid (w.heap.size<=fb/\Below w.heap.size w W/\Row W 3 1 (to (H (G fb 0)) p.code.length fc) p.code.length (gC (dQ p (p.code.length-m))))
def ui(w:UK)(p:aQ)(e:Ending)(w':UK):Prop:=∃fb fc,e=C8 (to (H (G fb 0)) p.code.length fc)/\w.heap.size<=fb/\Below w.heap.size w w'/\Row w' 3 1 (to (H (G fb 0)) p.code.length fc) p.code.length (gC (lB p))
section
variable {w:UK}{K:Kp}{p:aQ}{jg:UL}{vb:Nat}
def PO{p:Prop}(h:p:=by
 go_wp2;go_step3;exact⟨rfl,⟨fb,fc,_,j,FF.of _ rfl,rfl,rfl,(by rw[HN.o];rfl),rfl,(by rw[HN.o];omega),Z (by rw[HN.o];exact Ex.o _ eF.o _ qg.o.symm)⟩,by simp[Proofs.intOf]⟩):p:=h
def TQ{p:Prop}(h:p:=by
 go_wp2_with fail;refine(Fi.o _).mono ?_;rintro e W1 ⟨rfl,rfl⟩;go_wp2;go_step3;exact⟨rfl,⟨fb,fc,_,j,FF.of _ rfl,rfl,rfl,(by rw[HN.o];rfl),rfl,(by rw[HN.o];omega),Z (by rw[HN.o];exact Kg.o _ _ (_) (qg.o.symm))⟩,by simp[Proofs.intOf]⟩):p:=h
def IB(h:fW w K p)(hv:aF w vb 230 (sM K p jg))(hlen:p.code.length<=262144)(fD:CY p):
 Calls prog 174 #[UI vb] w (ui w p):=by
 have v5:UJ w (G vb 5)=H K.c:=hv.cell 5;have lv:=hv.lt;obtain⟨ca,cc,kc,WK,Fb⟩:=aZ.val h.cd;rw[kc]at v5;have a0f:=Z h;have B0:=Z kc;have me:=Z fD;have jN:Hid (8*p.code.length<=281474976710656/\p.code.length<=maxLen):=Z ⟨O,by unfold maxLen;omega⟩;have IC:Hid (∀V (b:Nat),b<=MS->Calls prog 249 #[Y 1,Y b] V λe w'=>e=C8 (Y (bG 1 b))/\w'=V):=Z λV b X=>Pz V 1 b bd X;have HPM:=Z (λV (a b:Nat) ha X=>Pz V a b ha X);have HTM:=Z (λV (a b:Nat) ha X=>afW V a b ha X);clear h hv kc fD;generalize hn:p.code.length=n at*;have HN:=Z hn;clear hn;go_enter func174,ntmps174;go_wp2_with fail;refine ny 0 (λa' wr=>∃fb fc,FuS w p vb (to ca n cc) fb fc a' wr) (λa' _=>(Proofs.intOf (a'.tmps.getD 5 undef)+1).toNat) rfl ?_ ?_
 ·rintro a' W ⟨fb,fc,J,m,rfl,j0,j3,j4,j5,hm,HF⟩;rw[HN.o]at j4 hm HF;unfold FF;rw[j0,j3,j4,j5];clear j0 j3 j4 j5;by_cases hm0:m=0
  ·subst hm0;have HE:=Z (show ui w p (C8 (to (H (G fb 0)) n fc)) W from⟨fb,fc,by rw[HN.o],HF.o.1,HF.o.2.1,by rw[HN.o];have h:=HF.o.2.2;rw[Nat.sub_zero]at h;unfold lB;rw[HN.o];exact h⟩);go_wp2_with fail;refine TS rfl ?_;exact HE.o
  obtain⟨j,rfl⟩:∃j,m=j+1:=⟨m-1,O⟩;have w1:(((j+1:Nat):Int) - 1)=(j:Int):=O;have w2:IntKind.i64.wrap ((j:Int) - 1)=(j:Int) - 1:=bJ _ lI;rw[w1];clear w1 hm0;have hj:j<n:=O;obtain⟨b,off,cap,e,-,-,c0,c1,c2,c3,c4⟩:=(a0f.o.aG (aA.af HF.o.2.1)).ins (i:=j) (by rw[HN.o];exact hj);rw[B0.o,HN.o]at e;simp only[cM]at e;obtain⟨rfl,-,rfl⟩:=e;have lN:=Z (zo (p:=p) (j:=j) (by rw[HN.o];exact hj));rw[HN.o]at lN;have gU:∀i,i<n->UJ W (G fb i)=H (Y (dQ p (n - (j+1)) i:Nat)):=λi hi=>HF.o.2.2.cell (o:=i) O;have PU:∀i,dQ p (n - (j+1)) i<=MS:=uh p _;have WL:fb<W.heap.size:=(HF.o.2.2.slice).2.2.2;have vT:∀o,W.frozen? (G fb o)=false:=λo=>HF.o.2.2.frozen o;have lb:=aH c0;have Ex:=Z (λ(V:UK) (X:Below W.heap.size W V) (v:Nat) (hv:v=lP p (dQ p (n - (j+1))) j)=>show w.heap.size<=fb/\Below w.heap.size w (V.setCell (G fb j) (Y v))/\Row (V.setCell (G fb j) (Y v)) 3 1 (to (H (G fb 0)) n fc) n (gC (dQ p (n-j)))from by
   refine⟨HF.o.1,(HF.o.2.1.trans (X.mono HF.o.2.1.size)).setCell HF.o.1 _,?_⟩;rw[lN.o];have hr:=(HF.o.2.2.aG (aA.af (S:=[]) X) ay).set (o:=j) O (Y v);refine hr.congr λo ho=>?_;unfold gC;rw[dq];by_cases e:o=j
   ·subst e;rw[bk rfl,bk rfl,hv]
   ·rw[aw e,aw e])
  have Kg:=Z (λ(cs:Array UL) (T:TypeId) (v:Nat) (hv:v=lP p (dQ p (n - (j+1))) j)=>show w.heap.size<=fb/\Below w.heap.size w ((W.setCell (G fb j) (Y v)).alloc (QP cs T))/\Row ((W.setCell (G fb j) (Y v)).alloc (QP cs T)) 3 1 (to (H (G fb 0)) n fc) n (gC (dQ p (n-j)))from by
   obtain⟨h1,h2,h3⟩:=Ex.o W (aB _ _) v hv;exact⟨h1,h2.alloc h2.size _,h3.alloc _⟩)
  have pY:=Z (λ(V:UK) (X:Below W.heap.size W V)=>HF.o.2.2.aG (aA.af (S:=[]) X) ay);have cj:=gU j hj;have hx:=me.o j (by rw[HN.o];exact hj);rw[HN.o]at hx;have HJ2:=Z (show∀k,(al p (j+1))=k->(al p (j+1))=k from λ_ h=>h);have Rw:lP p (dQ p (n - (j+1))) j=if(al p j).op=0\/(al p j).op=27 then 1 else if(al p j).op=22 then bG 1 (dQ p (n - (j+1)) (al p j).a.toNat)else if(al p j).op=23 then bG 1 (max (dQ p (n - (j+1)) (j+1)) (dQ p (n - (j+1)) (al p j).a.toNat))else if(al p j).op=24 then bG (bG 1 (eM (al p j).a.toNat (bG 1 (dQ p (n - (j+1)) (j+2))))) (bG 1 (dQ p (n - (j+1)) (al p (j+1)).a.toNat))else bG 1 (dQ p (n - (j+1)) (j+1)):=rfl;have qg:=Z Rw;clear Rw;have Nj:=Z HF.o.2.1;generalize dQ p (n - (j+1))=g at*;have HG:=Z PU;have yM:=Z gU;clear PU gU;obtain⟨RN,Kh,uU,GO⟩:=hx;obtain⟨op,dW⟩:∃z,(al p j).op=z:=⟨_,rfl⟩;obtain⟨xa,zJ⟩:∃z,(al p j).a=z:=⟨_,rfl⟩;obtain⟨xb,kW⟩:∃z,(al p j).b=z:=⟨_,rfl⟩;obtain⟨xc,hxc⟩:∃z,(al p j).c=z:=⟨_,rfl⟩;obtain⟨xd,Vv⟩:∃z,(al p j).d=z:=⟨_,rfl⟩;rw[dW]at c0 RN Kh uU GO qg;rw[zJ]at c1 Kh uU qg;rw[kW]at c2;rw[hxc]at c3;rw[Vv]at c4;clear dW zJ kW hxc Vv;have cR:=Z (λcs T=>(aB W.heap.size W).alloc (aL _) (QP cs T));by_cases o1:op=0\/op=27
  ·rw[bk o1]at qg;rcases o1 with rfl|rfl
   all_goals
    go_wp2;go_step3;exact⟨rfl,⟨fb,fc,_,j,FF.of _ rfl,rfl,rfl,(by rw[HN.o];rfl),rfl,(by rw[HN.o];omega),Z (by rw[HN.o];exact Kg.o _ _ (1) (qg.o.symm))⟩,by simp[Proofs.intOf]⟩
  rw[aw o1]at qg;have o0:(op==0)=false:=by simp;exact λh=>o1 (.inl h)
  have Zv:(op==27)=false:=by simp;exact λh=>o1 (.inr h)
  by_cases o2:op=22
  ·subst o2;rw[bk rfl]at qg;obtain⟨a1,a2⟩:=Kh (.inl rfl);obtain⟨xm,rfl⟩:=dz a1;have Zw:xm<n:=O;have ca9:=yM.o xm Zw;have Fi:=Z (λV=>IC.o V (g xm) (HG.o _));rw[Int.toNat_natCast]at qg;generalize g xm=gx at*;exact TQ
  rw[aw o2]at qg;have o22:(op==22)=false:=by simpa using o2
  have hj1:j+1<n:=GO (λh=>o1 (.inl h)) (λh=>o1 (.inr h)) o2;have w4:IntKind.i64.wrap ((j:Int)+1)=((j+1:Nat):Int):=by rw[bJ _ lI];omega
  have cj1:=yM.o (j+1) hj1;by_cases o3:op=23
  ·subst o3;rw[bk rfl]at qg;obtain⟨a1,a2⟩:=Kh (.inr rfl);obtain⟨xm,rfl⟩:=dz a1;have Zw:xm<n:=O;have ca9:=yM.o xm Zw;rw[Int.toNat_natCast]at qg;have Zx:max ((g (j+1):Nat):Int) ((g xm:Nat):Int)=((max (g (j+1)) (g xm):Nat):Int):=O;have Fi:=Z (λV=>IC.o V (max (g (j+1)) (g xm)) (by have:=HG.o (j+1);have:=HG.o xm;omega));generalize hmx:max (g (j+1)) (g xm)=mx at*;generalize g (j+1)=gx at*;generalize g xm=gy at*;have fI:=cR.o #[Y 23,Y xm,Y xb,Y xc,Y xd] 40;have kx:aF (W.alloc (QP #[Y 23,Y xm,Y xb,Y xc,Y xd] 40)) W.heap.size 40 #[Y 23,Y xm,Y xb,Y xc,Y xd]:=aF.new _ _ _;go_wp2_with fail;obtain⟨W1,CW⟩:∃W1,W1=W.alloc (QP #[Y 23,Y xm,Y xb,Y xc,Y xd] 40):=⟨_,rfl⟩;rw[<-CW]at fI kx ⊢;have d1:UJ W1 (G W.heap.size 1)=H (Y xm):=kx.cell 1;have key:∀b o v,UJ W (G b o)=H v->UJ W1 (G b o)=H v:=λb o v h=>(dN (fI.block _ (aH h))).trans h;replace cj:=key _ _ _ cj;replace cj1:=key _ _ _ cj1;replace ca9:=key _ _ _ ca9;have kE:=Z fI;clear CW kx fI key c0 c1 c2 c3 c4 vT;generalize gu:W.heap.size=bx at*;clear gu;have JG:0<=(j:Int)+1:=O;have Bj:(j:Int)+1<(n:Int):=O;have Dq:((j:Int)+1).toNat=j+1:=O;refine wp_region_still_tail 15 bh bh ?_;simp only[List.take_succ_cons,List.take_zero,List.drop_succ_cons,List.drop_zero]
   iterate 13 still_step
   still_call (Fi.o _)
   still_step
   refine wpStill_nil ?_;change wpList _ _ _ _ _ (W1.drewN 1);have dC:=kE.o.trans (az _ W1 1);have cj9:(W1.drewN 1).cell? (G fb j)=H (Y (g j:Nat)):=cj;have vT:∀o,(W1.drewN 1).frozen? (G fb o)=false:=λo=>(pY.o _ dC).frozen o;have eF:=Z dC;clear dC cj cj1 ca9 JG Bj Dq;generalize W1.drewN 1=V0 at*;exact PO
  rw[aw o3]at qg;have o23:(op==23)=false:=by simpa using o3
  by_cases o4:op=24
  ·subst o4;rw[bk rfl]at qg;obtain⟨a1,a2,hj2,t1,t2⟩:=uU rfl;obtain⟨xm,rfl⟩:=dz a1;have xle:xm<=4194304:=O;have Zy:=yM.o (j+2) hj2;obtain⟨b2,Ip,CH,e2,-,-,-,e1,-⟩:=(a0f.o.aG (aA.af Nj.o)).ins (i:=j+1) (by rw[HN.o];exact hj1);rw[B0.o,HN.o]at e2;simp only[cM,im,Addr.mk.injEq]at e2;obtain⟨⟨rfl,rfl,-⟩,-,-⟩:=e2;obtain⟨tm,htm⟩:=dz t1;have tlt:tm<n:=O;rw[htm]at e1 qg;have Zz:=yM.o tm tlt;rw[Int.toNat_natCast,Int.toNat_natCast]at qg;have Fi:=Z (λV=>IC.o V (g (j+2)) (HG.o _));have Nb:=Z (λV=>HTM.o V xm (bG 1 (g (j+2))) (by unfold MS;omega) (iG (HG.o _)));have HP3:=Z (λV=>IC.o V (eM xm (bG 1 (g (j+2)))) (ug _ _));have HP4:=Z (λV=>IC.o V (g tm) (HG.o _));have Wk:=Z (λV=>HPM.o V (bG 1 (eM xm (bG 1 (g (j+2))))) (bG 1 (g tm)) (iG (ug _ _)) (iG (HG.o _)));clear htm t1 t2 a1 a2 RN Kh uU GO cj1;generalize bG (bG 1 (eM xm (bG 1 (g (j+2))))) (bG 1 (g tm))=r5 at*;generalize bG 1 (eM xm (bG 1 (g (j+2))))=r3 at*;generalize eM xm (bG 1 (g (j+2)))=r2 at*;generalize bG 1 (g (j+2))=r1 at*;generalize bG 1 (g tm)=r4 at*;generalize g (j+2)=gx at*;generalize g tm=gy at*;have fI:=cR.o #[Y 24,Y xm,Y xb,Y xc,Y xd] 40;have kx:aF (W.alloc (QP #[Y 24,Y xm,Y xb,Y xc,Y xd] 40)) W.heap.size 40 #[Y 24,Y xm,Y xb,Y xc,Y xd]:=aF.new _ _ _;go_wp2_with fail;obtain⟨W1,CW⟩:∃W1,W1=W.alloc (QP #[Y 24,Y xm,Y xb,Y xc,Y xd] 40):=⟨_,rfl⟩;rw[<-CW]at fI kx ⊢;have d1:UJ W1 (G W.heap.size 1)=H (Y xm):=kx.cell 1;have key:∀b o v,UJ W (G b o)=H v->UJ W1 (G b o)=H v:=λb o v h=>(dN (fI.block _ (aH h))).trans h;replace cj:=key _ _ _ cj;replace Zy:=key _ _ _ Zy;replace Zz:=key _ _ _ Zz;replace e1:=key _ _ _ e1;have kE:=Z fI;clear CW kx fI key c0 c1 c2 c3 c4 vT;generalize gu:W.heap.size=bx at*;clear gu;have JG:0<=(j:Int)+1:=O;have Bj:(j:Int)+1<(n:Int):=O;have Dq:((j:Int)+1).toNat=j+1:=O;have xZ:0<=(j:Int)+2:=O;have hs5:(j:Int)+2<(n:Int):=O;have hs6:((j:Int)+2).toNat=j+2:=O;have w6:IntKind.i64.wrap ((j:Int)+2)=(j:Int)+2:=bJ _ lI;refine wp_region_still_tail 24 bh bh ?_;simp only[List.take_succ_cons,List.take_zero,List.drop_succ_cons,List.drop_zero]
   iterate 9 still_step
   still_call (Fi.o _)
   still_call (Nb.o _)
   still_call (HP3.o _)
   iterate 9 still_step
   still_call (HP4.o _)
   still_call (Wk.o _)
   still_step
   refine wpStill_nil ?_;change wpList _ _ _ _ _ (W1.drewN 1);have dC:=kE.o.trans (az _ W1 1);have cj9:(W1.drewN 1).cell? (G fb j)=H (Y (g j:Nat)):=cj;have vT:∀o,(W1.drewN 1).frozen? (G fb o)=false:=λo=>(pY.o _ dC).frozen o;have eF:=Z dC;clear dC cj Zy Zz e1 JG Bj Dq xZ hs5 hs6;generalize W1.drewN 1=V0 at*;exact PO
  rw[aw o4]at qg;have WM:(op==24)=false:=by simpa using o4
  have Fi:=Z (λV=>IC.o V (g (j+1)) (HG.o _));generalize bG 1 (g (j+1))=r1 at*;generalize g (j+1)=gx at*;clear o1 o2 o3 o4 RN Kh uU GO;exact TQ
 ·intro hp;go_wp2_with (refine jr rfl (.tmp 13) (.tmp 13) 24 rfl 3 underlying24 ck rfl .i64 .i64 _ _ n rfl rfl rfl rfl jN.o.1 jN.o.2 ?_;intro W0 ZA ep);have vJ:=Z ZA;have eV:=Z ep;have w3:IntKind.i64.wrap ((n:Int) - 1)=(n:Int) - 1:=bJ _ lI;clear ZA ep;go_wp2;go_step3;simp only[Exit.then]
  apply_assumption
  refine hp _ _ ⟨w.heap.size,n,_,n,FF.of _ rfl,rfl,rfl,by rw[HN.o];rfl,rfl,by rw[HN.o];exact aL _,Z ⟨aL _,eV.o,?_⟩⟩;rw[HN.o,Nat.sub_self];exact vJ.o
end
end Go.Vf
end
namespace aj.Vm
open Go Go.RowKit aj
def bO{P:Program}{w:UK}{ops:Array Oper}{o:Oper}{a:Act}{K:Act->UK->Prop}{Q:Exit->Act->UK->Prop}{E:Prop}
 (hg:o.guard=K7) (l c:Operand) (t:TypeId) (dW:o.op=Op.makeSlice t l c)
 (e:TypeId) {size bytes:Nat} {z:UL} (h1:P.underlying t=H (.slice e)) (hi:(P.info? e).map (λi=>(i.zero,i.size,i.bytes))=H (H z,size,bytes)) (hz:z.cells.size=size) (hs:0<size)
 (kl kc:IntKind) (L C:Int) (n:Nat) (hl:a.eval l= .int kl L) (hc:a.eval c= .int kc C) (hL:L=(n:Int)) (hC:C=(n:Int)) (b2:bytes*n<=281474976710656) (b3:n<=maxLen)
 (hK:∀w',Row w' e size (to (H (G w.heap.size 0)) n n) n (λo=>z.cells.getD (o % size) undef)->Below w.heap.size w w'->K (a.put o.dst (to (H (G w.heap.size 0)) n n)) w'):
 if Region.wanted o (yielded ops a.tmps)=true then Oper.wp P o a w K Q else E:=by
 have hw:Region.wanted o (yielded ops a.tmps)=true:=by simp[Region.wanted,hg]
 rw[if_pos hw];obtain⟨i,FU,vG,MU,NA⟩:=info_parts hi;obtain⟨w',wJ,r1,r2⟩:=run_make_full (P:=P) w 0 t e i z size h1 FU vG MU kl kc n (by rw[NA];exact b2) b3 (cK _);have hK2:=hK w' (by
  unfold Row;have:(madeCells z.cells (n*size)).toList=eY (n*size) (λo=>z.cells.getD (o % size) undef):=by
   unfold madeCells eY;rw[hz];simp only[Array.toList_map,Array.toList_range];refine List.map_congr_left λi _=>?_;have be:i % size<z.cells.size:=by rw[hz];exact Nat.mod_lt _ hs
   simp[Array.getD,be]
  rw[<-this];exact r1) ((eK r2).below (Nat.le_refl _) ay)
 subst hL;subst hC;unfold Oper.wp;simp[execOp,dW,hl,hc,wJ,Result.andThen];exact hK2
end aj.Vm
section
def T0{p:Prop}(h:p:=by
 rintro a W ⟨J,i,-,-,-,-,-,-,-,-,h1,h2,-⟩;omega):p:=h
namespace Go.Vf
open Ma (dP ci aX vb aI aV)
def FR(J:Nat->UL):Act:={tmps:=#[J 0,J 1,J 2,J 3,J 4,J 5,J 6,J 7,J 8,J 9,J 10,J 11,J 12,J 13,J 14,J 15,J 16,J 17,J 18,J 19,J 20,J 21,J 22,J 23,J 24,J 25,J 26,J 27,J 28,J 29,J 30,J 31,J 32,J 33,J 34,J 35,J 36,J 37,J 38,J 39,J 40,J 41,J 42,J 43,J 44,J 45,J 46,J 47,J 48,J 49,J 50,J 51,J 52,J 53,J 54,J 55,J 56,J 57,J 58,J 59,J 60,J 61,J 62,J 63,J 64,J 65,J 66,J 67,J 68,J 69,J 70,J 71,J 72,J 73,J 74,J 75,J 76,J 77,J 78,J 79,J 80,J 81,J 82,J 83,J 84,J 85,J 86,J 87,J 88,J 89,J 90,J 91,J 92,J 93,J 94,J 95,J 96,J 97,J 98,J 99,J 100,J 101,J 102,J 103,J 104,J 105,J 106,J 107,J 108,J 109,J 110,J 111,J 112,J 113,J 114],defers:=[]}
def FR.of(A:Array UL)(h:A=(FR λk=>A.getD k undef).tmps):({tmps:=A,defers:=[]}:Act)=FR λk=>A.getD k undef:=by rw[h];rfl
noncomputable def rnL(k:Nat):Code:=((mF (Proofs.Tryz.f91.body.getD .skip))[k]?).getD .skip
def Ki(w:UK)(p:aQ)(e:Ending)(w':UK):Prop:=∃vv w_ ms,e=C8 (.tuple #[vv,.agg #[w_,Y ms],.agg #[Y (aW p).1,Y (aW p).2]])/\(∃x y z,w_=to x y z)/\Below w.heap.size w w'/\(∀b,w_.ownBlock=H b->w.heap.size<=b)/\
 ((aW p).1=0->ms=(bU p p.aT:Nat)/\aZ w' 1 w_ p.on.length (λi=> Y (bU p (p.on.getD i 0):Nat)))
section
variable {w:UK}{K:Kp}{p:aQ}
def RB(pb vb:Nat)(bl:List Int)(W4:UK)(a:Act)(W:UK):Prop:=∃(J:Nat->UL) (bv:UL),a=FR J/\J 1=UI pb/\J 3=UI (pb+1)/\J 4=UI (pb+1+1)/\J 6=UI vb/\J 7=bv/\
 Hid (Row W 3 1 bv bl.length (aX bl))/\Hid (vu W4.heap.size W.heap.size bv)/\Hid (Below W4.heap.size W4 W)
def Fj(l:List Int)(n:Int){W:UK}{v:UL}(h:Row W 3 1 v (l.length+1) (fY (l.length*1) (aX l) λ_=> Y n)):Row W 3 1 v (l++[n]).length (aX (l++[n])):=by
 rw[qS];refine h.congr λo ho=>?_;unfold fY aX;rw[Nat.mul_one];by_cases e:o<l.length
 ·rw[bk e,aY,aY,oK e]
 ·obtain rfl:o=l.length:=O;rw[aw O,aY,jy (aL _)];simp
def acB:(prog.info? 233).map (λi=>(i.zero,i.size,i.bytes))=H (H (dY false Zb Pl),13,128):=by kernel_rfl
def Kj{R:Ending->UK->Prop}{A:Array UL}{W:UK}{cb fb:Nat}{x y u v vv:UL}(h2:A.getD 2 undef=vv)(h3:A.getD 3 undef=UI cb)(h4:A.getD 4 undef=UI fb)(kc:aF W cb 97 #[x,y])(kf:aF W fb 99 #[u,v])
 (hR:R (C8 (.tuple #[vv,.agg #[x,y],.agg #[u,v]])) W):Exit.noGoto (bodyPost prog Proofs.Tryz.f91 R) .ret {tmps:=A,defers:=[]} W:=by
 obtain⟨c0,c1⟩:=kc.c2;obtain⟨f0,f1⟩:=kf.c2;rw[ja];rw[oL]at h2 h3 h4;refine bK (v:= .tuple #[vv,.agg #[x,y],.agg #[u,v]]) ?_ rfl hR;simp[results,results91,go_sem,h2,h3,h4,c0,c1,f0,f1]
def CZ{A:Array UL}{W:UK}{pb:Nat}(hpb:w.heap.size=pb)(h2:A.getD 2 undef= .pointer K7)(h3:A.getD 3 undef=UI (pb+1))(h4:A.getD 4 undef=UI (pb+1+1))(kc:aF W (pb+1) 97 #[Pl,Y 0])(kf:aF W (pb+1+1) 99 #[Y 0,Y 0])
 (X:Below pb w W) {e at_:Int} (hv:aW p=(e,at_)) (bm:e≠0):Exit.noGoto (bodyPost prog Proofs.Tryz.f91 (Ki w p)) .ret {tmps:=A,defers:=[]} ((((W.setCell (G (pb+1) 0) Pl).setCell (G (pb+1) 1) (Y 0)).setCell (G (pb+1+1) 0) (Y e)).setCell (G (pb+1+1) 1) (Y at_)):=by
 subst hpb;have n1:w.heap.size+1≠w.heap.size+1+1:=O;refine Kj h2 h3 h4 ((((kc.set 0 Pl).set 1 (Y 0)).other n1 0 (Y e)).other n1 1 (Y at_)) ((((kf.other n1.symm 0 Pl).other n1.symm 1 (Y 0)).set 0 (Y e)).set 1 (Y at_)) ?_;refine⟨.pointer K7,Pl,0,by rw[hv],⟨_,_,_,rfl⟩,(((X.setCell (p:=(G (w.heap.size+1) 0)) ay _).setCell (p:=(G (w.heap.size+1) 1)) ay _).setCell (p:=(G (w.heap.size+1+1) 0)) jz _).setCell (p:=(G (w.heap.size+1+1) 1)) jz _,(λb X=>by cases X),λh=>?_⟩;rw[hv]at h;exact absurd h bm
def Ab(bl:List Int)(i:Nat):Map:=λpc=>if(bl.take i).contains (pc:Int)then H ⟨[],[],0⟩else K7
def gZ(bl:List Int){i:Nat}(h:i<bl.length):bl.take (i+1)=bl.take i++[bl.getD i 0]:=by rw[AJ h,aY,fq h];rfl
def acA{bl:List Int}{i:Nat}(h:i<bl.length)(hn:bl.getD i 0<0):Ab bl (i+1)=Ab bl i:=by
 funext pc;unfold Ab;rw[gZ bl h];generalize bl.getD i 0=z at*;have:((bl.take i++[z]).contains (pc:Int))=(bl.take i).contains (pc:Int):=by rw[pO];simp;omega
 rw[this]
def acz{bl:List Int}{i m:Nat}(h:i<bl.length)(hn:bl.getD i 0=m):Ab bl (i+1)=aR (Ab bl i) m (H ⟨[],[],0⟩):=by
 funext pc;rw[dq];unfold Ab;rw[gZ bl h,hn];by_cases e:pc=m
 ·subst e;rw[bk rfl,bk ay]
 ·rw[aw e];have:((bl.take i++[(m:Int)]).contains (pc:Int))=(bl.take i).contains (pc:Int):=by rw[pO];simp;omega
  rw[this]
def fR{β:Type}(f:Nat->β)(i:Nat):aR f i (f i)=f:=by
 funext j;rw[dq];split
 ·next e=>rw[e]
 ·rfl
def RN1(W4:UK)(p:aQ)(pb vb A:Nat)(bv:UL)(bl:List Int)(m:Nat)(a:Act)(W:UK):Prop:=
 ∃(J:Nat->UL) (i:Nat),a=FR J/\J 1=UI pb/\J 3=UI (pb+1)/\J 4=UI (pb+1+1)/\J 6=UI vb/\J 7=bv/\J 37=bv/\J 38=Y bl.length/\J 39=Y i/\
  i<=bl.length/\m+i=bl.length+1/\Hid (aA [A] W4 W)/\Hid (iM W (to (H (G A 0)) p.code.length p.code.length) p.code.length (Ab bl i) (λ_=> Pl))
section
variable {W4:UK}{pb vb A:Nat}{bv:UL}{bl:List Int}{Q:Exit->Act->UK->Prop}
def rn1(HV:Hid (aF W4 vb 230 (sM K p (to (H (G A 0)) p.code.length p.code.length))))(sU:Hid (vb≠A))(DB:Hid (Row W4 3 1 bv bl.length (aX bl)))(HBA:Hid (∀b,bv.ownBlock=H b->b≠A))(hl:bl.length<=17)(me:Hid (∀i,i<bl.length->-1<=bl.getD i 0/\bl.getD i 0<p.code.length))(hlen:p.code.length<=262144)
 (d_:∀(J:Nat->UL) W,J 1=UI pb->J 3=UI (pb+1)->J 4=UI (pb+1+1)->J 6=UI vb->J 7=bv->aA [A] W4 W->iM W (to (H (G A 0)) p.code.length p.code.length) p.code.length (Ab bl bl.length) (λ_=> Pl)->Q (.exit 0) (FR J) W)
 {a:Act} {W:UK} (h:RN1 W4 p pb vb A bv bl (bl.length+1) a W):(Code.loop (rnL 0)).wp prog Q a W:=by
 refine Mk.aN (λm a W=>RN1 W4 p pb vb A bv bl m a W) (bl.length+1) h ?_ ?_
 ·rintro a W ⟨J,i,-,-,-,-,-,-,-,-,-,h1,h2,-⟩;omega
 rintro m a0 W ⟨J,i,rfl,j1,j3,j4,j6,j7,j37,j38,j39,hi,hm,HF,HS⟩;unfold FR
 conv=>arg 2;whnf
 have w2:=mO i O;rw[j1,j3,j4,j6,j7,j37,j38,j39];clear j1 j3 j4 j6 j7 j37 j38 j39;by_cases be:i<bl.length
 ·obtain⟨b,cap,ebv,q1,q2,lb⟩:=DB.o.some O;have Mz:=Z ebv;have hr:=DB.o;rw[ebv]at hr;have c0:UJ W (G b i)=H (Y (bl.getD i 0)):=(dN (HF.o.block _ lb (by have:=HBA.o b (by rw[ebv];rfl);simpa using this))).trans (hr.cell (o:=i) O);have lbW:b<W.heap.size:=eJ lb HF.o.size;have fD:=me.o i be;have dE:=Z be;clear hr ebv lb;rw[Mz.o];obtain⟨z,hz⟩:∃z,bl.getD i 0=z:=⟨_,rfl⟩;rw[hz]at c0 fD;have HZ:=Z hz;clear hz;by_cases jn:0<=z
  ·obtain⟨n,rfl⟩:=dz jn;have hn:n<p.code.length:=O;have hv:aF W vb 230 (sM K p (to (H (G A 0)) p.code.length p.code.length)):=HV.o.aG HF.o (by have:=sU.o;simpa using this);have v6:UJ W (G vb 6)=H (to (H (G A 0)) p.code.length p.code.length):=hv.cell 6;have lv0:=hv.lt;have vT:∀o,W.frozen? (G A o)=false:=λo=>HS.o.row.frozen o;have hAl:A<W.heap.size:=(HS.o.row.slice).2.2.2;have hold:∀k,k<13->∃v,UJ W (G A (n*13+k))=H v:=λk hk=>⟨_,HS.o.row.cell (o:=n*13+k) O⟩;obtain⟨u0,o0⟩:=hold 0 O;obtain⟨u1,o1⟩:=hold 1 O;obtain⟨u2,o2⟩:=hold 2 O;obtain⟨u3,o3⟩:=hold 3 O;obtain⟨u4,o4⟩:=hold 4 O;obtain⟨acQ,o5⟩:=hold 5 O;obtain⟨acN,o6⟩:=hold 6 O;obtain⟨acM,o7⟩:=hold 7 O;obtain⟨u8,o8⟩:=hold 8 O;obtain⟨u9,o9⟩:=hold 9 O;obtain⟨u10,o10⟩:=hold 10 O;obtain⟨u11,o11⟩:=hold 11 O;obtain⟨u12,o12⟩:=hold 12 O;simp only[Nat.add_zero]at o0;have HP:=Z (iM.put (s:=⟨[],[],0⟩) (mz:=Pl) HS.o hn (.inl ⟨rfl,rfl⟩) (λb X=>by cases X) rfl);clear hold hv;go_wp2_with fail
   try rw[<-Mz.o]
   refine⟨_,i+1,FR.of _ rfl,rfl,rfl,rfl,rfl,(by first|rfl|exact Mz.o),(by first|rfl|exact Mz.o),rfl,rfl,dE.o,O,Z (HF.o.trans HP.o.2),Z ?_⟩;rw[acz dE.o HZ.o,<-fR (λ_=>Value.slice K7 0 0) n];exact HP.o.1
  ·have hd:decide (0<=z)=false:=by simpa using jn
   have HZ0:=Z jn;clear jn;go_wp2_with fail
   try rw[<-Mz.o]
   refine⟨_,i+1,FR.of _ rfl,rfl,rfl,rfl,rfl,(by first|rfl|exact Mz.o),(by first|rfl|exact Mz.o),rfl,rfl,dE.o,O,HF,Z ?_⟩;rw[acA dE.o (by rw[HZ.o];have:=HZ0.o;omega)];exact HS.o
 ·obtain rfl:i=bl.length:=O;clear be;go_wp2;exact Eq.mpr (bu (λa=>Q (.exit 0) a W) (FR.of _ rfl)) (d_ _ _ rfl rfl rfl rfl rfl HF.o HS.o)
def RN2(w W5:UK)(p:aQ)(pb vb A:Nat)(bv:UL)(m:Nat)(a:Act)(W:UK):Prop:=
 ∃(J:Nat->UL) (i:Nat),a=FR J/\J 1=UI pb/\J 3=UI (pb+1)/\J 4=UI (pb+1+1)/\J 6=UI vb/\J 7=bv/\J 55=Y p.code.length/\J 56=Y i/\
  i<=p.code.length/\m+i=p.code.length+1/\Hid (aA [A] W5 W)/\∃T mv,Hid (iM W (to (H (G A 0)) p.code.length p.code.length) p.code.length T mv)/\Hid (TOk p T)/\Hid (looks p p.code.length 0 (dA p)=looks p (p.code.length-i) i T)
def rn2{W5:UK}(a0f:Hid (fW w K p))(WB:Hid (w.heap.size<=A))(HW5:Hid (Below w.heap.size w W5))(HV:Hid (aF W5 vb 230 (sM K p (to (H (G A 0)) p.code.length p.code.length))))(sU:Hid (vb≠A))(HCD:Hid (∀i,i∈p.code->jH i=true/\ir p i=true))(hlen:p.code.length<=262144)
 (iU:∀(A9:Array UL) W (i:Nat) (e:Int),A9.getD 2 undef= .pointer K7->A9.getD 3 undef=UI (pb+1)->A9.getD 4 undef=UI (pb+1+1)->aA [A] W5 W->e≠0->looks p p.code.length 0 (dA p)= .inl (e,i)->Q .ret {tmps:=A9,defers:=[]} ((((W.setCell (G (pb+1) 0) Pl).setCell (G (pb+1) 1) (Y 0)).setCell (G (pb+1+1) 0) (Y e)).setCell (G (pb+1+1) 1) (Y i)))
 (B0:Hid (aF W5 (pb+1) 97 #[Pl,Y 0])) (SP:Hid (aF W5 (pb+1+1) 99 #[Y 0,Y 0])) (HCA:Hid (pb+1+1<A))
 (d_:∀(J:Nat->UL) W T,J 1=UI pb->J 3=UI (pb+1)->J 4=UI (pb+1+1)->J 6=UI vb->J 7=bv->aA [A] W5 W->looks p p.code.length 0 (dA p)= .inr T->Q (.exit 2) (FR J) W)
 {a:Act} {W:UK} (h:RN2 w W5 p pb vb A bv (p.code.length+1) a W):(Code.loop (rnL 1)).wp prog Q a W:=by
 refine Mk.aN (λm a W=>RN2 w W5 p pb vb A bv m a W) (p.code.length+1) h ?_ ?_
 ·exact T0
 rintro m a0 W ⟨J,i,rfl,j1,j3,j4,j6,j7,j55,j56,hi,hm,HF,T,mv,HS,HT,uj⟩;unfold FR
 conv=>arg 2;whnf
 have w2:=mO i O;rw[j1,j3,j4,j6,j7,j55,j56];clear j1 j3 j4 j6 j7 j55 j56;by_cases be:i<p.code.length
 ·have CQ:Below w.heap.size w W:=HW5.o.trans (HF.o.below HW5.o.size (by have:=WB.o;simpa using this));have CN:=Z (Iy (a0f.o.aG (aA.af CQ)) (HV.o.aG HF.o (by have:=sU.o;simpa using this)) HS.o HT.o be hlen (HCD.o _ (gj be)).1 (HCD.o _ (gj be)).2);have dE:=Z be;have JG:looks p (p.code.length-i) i T=if dl p T i=0 then looks p (p.code.length - (i+1)) (i+1) (jp p T i)else .inl (dl p T i,i):=by rw[show p.code.length-i=(p.code.length - (i+1))+1 by omega];rfl
  have tu:=Z JG;have hle:=acY HT.o (pc:=i) (by have:=(HCD.o _ (gj be)).1;unfold jH aO at this;simp at this;exact this.2);have BL:=Z hle;clear JG CQ be hle;go_wp2_with fail
  with_reducible refine CN.o.mono ?_
  rintro e W6 ⟨rfl,tp,fL⟩;have MZ:=Z (HF.o.trans tp);have lN:=Z fL;clear tp fL CN;by_cases he:dl p T i=0
  ·rw[he];have HE:=Z he;clear he;go_wp2_with fail;obtain⟨PH,Ea⟩:=lN.o HE.o;refine⟨_,i+1,FR.of _ rfl,rfl,rfl,rfl,rfl,rfl,rfl,rfl,dE.o,O,MZ,jp p T i,PH,Z Ea,Z (BL.o HE.o),Z ?_⟩;rw[uj.o,tu.o,bk HE.o]
  ·have X:(dl p T i !=0)=true:=by simpa using he
   have HE:=Z he;have Ry:=Z (show looks p p.code.length 0 (dA p)= .inl (dl p T i,i)by rw[uj.o,tu.o,aw he]);have kc:=B0.o.aG MZ.o (by have:=HCA.o;simp;omega);have kf:=SP.o.aG MZ.o (by have:=HCA.o;simp;omega);obtain⟨z0,z1⟩:=kc.c2;obtain⟨z2,z3⟩:=kf.c2;have z4:=kc.frozen;have z5:=kf.frozen;have z6:=kf.lt;clear kc kf he;generalize dl p T i=le at*;go_wp2;exact iU _ _ _ _ rfl rfl rfl MZ.o HE.o Ry.o
 ·obtain rfl:i=p.code.length:=O;clear be;go_wp2;exact Eq.mpr (bu (λa=>Q (.exit 2) a W) (FR.of _ rfl)) (d_ _ _ T rfl rfl rfl rfl rfl HF.o (by rw[uj.o,Nat.sub_self];rfl))
def Ac(p:aQ)(bl:List Int)(k:Nat):UL:=Y (bU p (bl.getD k 0):Nat)
def xh(p:aQ)(bl:List Int){i:Nat}{W:UK}{v:UL}{n:Int}(hn:n=(bU p (bl.getD i 0):Nat))(h:Row W 3 1 v (i+1) (fY i (Ac p bl) λ_=> Y n)):Row W 3 1 v (i+1) (Ac p bl):=by
 refine h.congr λo ho=>?_;unfold fY;by_cases e:o<i
 ·rw[bk e]
 ·rw[aw e];obtain rfl:o=i:=O;subst hn;rfl
def nY(p:aQ)(bl:List Int){i:Nat}(h:i<bl.length):bt p (bl.drop i)=if MF<bU p (bl.getD i 0)then H (bl.getD i 0)else bt p (bl.drop (i+1)):=by rw[qU h,aY,fq h];rfl
def RN3(W7:UK)(p:aQ)(pb vb:Nat)(bv fv:UL)(bl:List Int)(m:Nat)(a:Act)(W:UK):Prop:=
 ∃(J:Nat->UL) (i:Nat) (lv:UL),a=FR J/\J 1=UI pb/\J 3=UI (pb+1)/\J 4=UI (pb+1+1)/\J 6=UI vb/\J 12=fv/\J 13=lv/\J 71=bv/\J 72=Y bl.length/\J 73=Y i/\
  i<=bl.length/\m+i=bl.length+1/\Hid (Below W7.heap.size W7 W)/\Hid (Row W 3 1 lv i (Ac p bl))/\Hid (∀b,lv.ownBlock=H b->W7.heap.size<=b)/\Hid (bt p bl=bt p (bl.drop i))
def PN{p:Prop}(h:p:=by
 have F1:=Z f1;have F2:=Z f2;have F3:=Z f3;clear bo hf hv f1 f2 f3;go_wp2_with fail
 try rw[<-Mz.o]
 refine⟨_,i+1,v',FR.of _ rfl,rfl,rfl,rfl,rfl,rfl,rfl,(by first|rfl|exact Mz.o),rfl,rfl,dE.o,O,F1,F2,F3,pX⟩):p:=h
def rn3{W7:UK}{fb fc:Nat}(DB:Hid (Row W7 3 1 bv bl.length (aX bl)))(HFV:Hid (Row W7 3 1 (to (H (G fb 0)) p.code.length fc) p.code.length (gC (lB p))))(hl:bl.length<=17)(me:Hid (∀i,i<bl.length->-1<=bl.getD i 0/\bl.getD i 0<p.code.length))(hlen:p.code.length<=262144)
 (B0:Hid (aF W7 (pb+1) 97 #[Pl,Y 0])) (SP:Hid (aF W7 (pb+1+1) 99 #[Y 0,Y 0]))
 (iU:∀(A9:Array UL) W (n:Int),A9.getD 2 undef= .pointer K7->A9.getD 3 undef=UI (pb+1)->A9.getD 4 undef=UI (pb+1+1)->Below W7.heap.size W7 W->bt p bl=H n->Q .ret {tmps:=A9,defers:=[]} ((((W.setCell (G (pb+1) 0) Pl).setCell (G (pb+1) 1) (Y 0)).setCell (G (pb+1+1) 0) (Y 97)).setCell (G (pb+1+1) 1) (Y n)))
 (d_:∀(J:Nat->UL) W lv,J 1=UI pb->J 3=UI (pb+1)->J 4=UI (pb+1+1)->J 6=UI vb->J 13=lv->Below W7.heap.size W7 W->Row W 3 1 lv bl.length (Ac p bl)->(∀b,lv.ownBlock=H b->W7.heap.size<=b)->bt p bl=K7->Q (.exit 4) (FR J) W)
 {a:Act} {W:UK} (h:RN3 W7 p pb vb bv (to (H (G fb 0)) p.code.length fc) bl (bl.length+1) a W):(Code.loop (rnL 2)).wp prog Q a W:=by
 refine Mk.aN (λm a W=>RN3 W7 p pb vb bv (to (H (G fb 0)) p.code.length fc) bl m a W) (bl.length+1) h ?_ ?_
 ·rintro a W ⟨J,i,lv,-,-,-,-,-,-,-,-,-,-,h1,h2,-⟩;omega
 rintro m a0 W ⟨J,i,lv,rfl,j1,j3,j4,j6,pn,rJ,j71,j72,j73,hi,hm,HB,HR,HO,HE⟩;unfold FR
 conv=>arg 2;whnf
 have w2:=mO i O;rw[j1,j3,j4,j6,pn,rJ,j71,j72,j73];clear j1 j3 j4 j6 pn rJ j71 j72 j73;by_cases be:i<bl.length
 ·obtain⟨b,cap,ebv,q1,q2,lb⟩:=DB.o.some O;have Mz:=Z ebv;have hr:=DB.o.aG (aA.af (S:=[]) HB.o) ay;rw[ebv]at hr;have c0:UJ W (G b i)=H (Y (bl.getD i 0)):=hr.cell (o:=i) O;have lbW:b<W.heap.size:=aH c0;have fD:=me.o i be;have dE:=Z be;have Fk:=Z (nY p bl be);have jN:Hid (i+1<=maxLen/\(i+1)*8<=140737488355328):=Z ⟨by unfold maxLen;omega,O⟩;have hlz:Mz.o=Mz.o:=rfl;clear hr ebv lb hlz;rw[Mz.o];have iE:∃la ln lc,lv=to la ln lc:=by rcases HR.o.val with⟨h,-⟩|⟨_,_,h,-⟩<;>exact⟨_,_,_,h⟩
  obtain⟨z,hz⟩:∃z,bl.getD i 0=z:=⟨_,rfl⟩;rw[hz]at c0 fD Fk;have HZ:=Z hz;clear hz;have fin:∀(n:Int) (V:UK) (v':UL) (w1:UK),Below W.heap.size W V->n=(bU p z:Nat)->Row w1 3 1 v' (i+1) (fY i (Ac p bl) λ_=> Y n)->aA lv.ownBlock.toList V w1->(v'.ownBlock=lv.ownBlock\/v'.ownBlock=H V.heap.size)->
   Below W7.heap.size W7 w1/\Row w1 3 1 v' (i+1) (Ac p bl)/\(∀b,v'.ownBlock=H b->W7.heap.size<=b):=λn V v' w1 hv hn hr hf ho=>by
   have h1:Below W7.heap.size W7 V:=HB.o.trans (hv.mono HB.o.size);refine⟨h1.trans (hf.below h1.size (λb X=>HO.o b (by simpa using X))),xh p bl (by rw[HZ.o];exact hn) hr,λb X=>?_⟩;rcases ho with h|h
   ·exact HO.o b (by rw[<-h];exact X)
   ·rw[h]at X;have:=sd X;have:=h1.size;omega
  have ID:=Z fin;clear fin;by_cases jn:z<0
  ·have sO:(0:Int)=(bU p z:Nat):=by unfold bU;rw[bk jn];rfl
   have JN:=Z sO;have pX:=Z (show bt p bl=bt p (bl.drop (i+1))by rw[HE.o,Fk.o,aw (by have:=JN.o;unfold MF;omega)]);have hd:decide (z<0)=true:=by simpa using jn
   clear sO jn;go_wp2_with (at_builtin;refine bX rfl _ _ 24 rfl 3 underlying24 ck rfl bd lv i (Ac p bl) rfl (HR.o.alloc _) (G W.heap.size 0) 1 1 (λ_=> Y 0) rfl ?zZ (λ_ _=>rfl) jN.o.1 jN.o.2 ?_)
   case zZ=>intro j hj;obtain rfl:j=0:=O;exact(aF.new W 3 #[Y 0]).cell 0
   intro v' w1 bo hf hv;obtain⟨f1,f2,f3⟩:=ID.o 0 _ v' w1 ((aB _ _).alloc (aL _) _) JN.o bo hf (by simpa using hv);exact PN
  ·obtain⟨n,rfl⟩:=dz (by omega:0<=z);have hn:n<p.code.length:=O;have hfc:UJ W (G fb n)=H (Y (lB p n:Nat)):=(HFV.o.aG (aA.af (S:=[]) HB.o) ay).cell (o:=n) O;have sO:bU p (n:Int)=lB p n:=by unfold bU;rw[aw O];rfl
   rw[sO]at Fk ID;have lfb:=aH hfc;clear jn;generalize lB p n=fu at*;clear sO;by_cases z_:MF<fu
   ·have pX:=Z (show bt p bl=H (n:Int)by rw[HE.o,Fk.o,bk z_]);have IE:1152921504606846976<fu:=z_;have kc:=B0.o.of (HB.o.block _ B0.o.lt);have kf:=SP.o.of (HB.o.block _ SP.o.lt);obtain⟨z0,z1⟩:=kc.c2;obtain⟨z2,z3⟩:=kf.c2;have z4:=kc.frozen;have z5:=kf.frozen;have z6:=kf.lt;clear kc kf z_;go_wp2;exact iU _ _ _ rfl rfl rfl HB.o pX.o
   ·have pX:=Z (show bt p bl=bt p (bl.drop (i+1))by rw[HE.o,Fk.o,aw z_]);have IE:¬1152921504606846976<fu:=z_;have Zh:fu<=1152921504606846976:=O;clear z_ IE;go_wp2_with (at_builtin;refine bX rfl _ _ 24 rfl 3 underlying24 ck rfl bd lv i (Ac p bl) rfl (HR.o.alloc _) (G W.heap.size 0) 1 1 (λ_=> Y (fu:Nat)) rfl ?zZ (λ_ _=>rfl) jN.o.1 jN.o.2 ?_)
    case zZ=>intro j hj;obtain rfl:j=0:=O;exact(aF.new W 3 #[Y (fu:Nat)]).cell 0
    intro v' w1 bo hf hv;obtain⟨f1,f2,f3⟩:=ID.o (fu:Nat) _ v' w1 ((aB _ _).alloc (aL _) _) rfl bo hf (by simpa using hv);exact PN
 ·obtain rfl:i=bl.length:=O;clear be;go_wp2;exact Eq.mpr (bu (λa=>Q (.exit 4) a W) (FR.of _ rfl)) (d_ _ _ _ rfl rfl rfl rfl rfl HB.o HR.o HO.o (by rw[HE.o,List.drop_length];rfl))
end
end
end Go.Vf
end
section
def qX5{p:Prop}(h:p:=by
 have y0:=key _ _ _ lp p0;have y1:=key _ _ _ lp p1;have y2:=key _ _ _ lp p2;have y3:=key _ _ _ lp p3;have y4:=key _ _ _ lp p4;have y5:=key _ _ _ lp p5;exact qj):p:=h
def PM{p:Prop}(h:p:=by
 have key:∀b i v,b<W1.heap.size->UJ W1 (G b i)=H v->UJ wz (G b i)=H v:=λb i v X hc=>(dN (fj.block _ X)).trans hc;exact qX5):p:=h
namespace Go.Vf
open Ma (dP ci aX vb aI aV)
section
variable {w:UK}{K:Kp}{p:aQ}
def PW{p:Prop}(h:p:=by
 intro wz fj;have y0:=(dN (fj.block _ lp JL.o)).trans q3;exact qj):p:=h
def WO{p:Prop}(h:p:=by
 have h2:=(fE OF b X).2;rcases YN with h|h
 ·exact⟨T4 b (by rw[<-h];exact X),h2⟩
 ·rw[h]at X;have h3:=sd X;have h4:=au.size;exact⟨O,h2⟩):p:=h
def iO{p:Prop}(h:p:=by
 intro wz fj;exact qj):p:=h
def acr(h:fW w K p):Calls prog 91 #[pV K p] w (Ki w p):=by
 obtain⟨⟨ga,gc,g1,g2,g3⟩,⟨va,vc,v1,v2,v3⟩,⟨ta,tc,t1,t2,t3⟩,⟨oa,oc,o1,o2,o3⟩,⟨ca,cc,c1,c2,c3⟩⟩:=h.sl;have Nn:=Z (λV (X:Below w.heap.size w V)=>CF (w:=V) (h.aG (aA.af X)));have a0f:=Z h;have HK:=Z (And.intro g1 (And.intro v1 (And.intro t1 (And.intro o1 c1))));unfold pV at Nn ⊢;rw[g1,v1,t1,o1,c1]at Nn ⊢;have hB:∀cs T vF T2 cs3 T3,Below w.heap.size w (((w.alloc (QP cs T)).alloc (QP vF T2)).alloc (QP cs3 T3)):=λcs T vF T2 cs3 T3=>(((aB _ _).alloc (aL _) _).alloc ay _).alloc jz _;have HB:=Z hB;clear h hB g1 v1 t1 o1 c1 g2 g3 v2 v3 t2 t3 o2 o3 c2 c3;go_enter func91,ntmps91;have kp:aF (((w.alloc (QP #[to ga p.bw.length gc,to va p.vars.length vc,to ta p.aS.length tc,to oa p.on.length oc,Y p.aT,to ca p.code.length cc] 27)).alloc (QP #[Pl,Y 0] 97)).alloc (QP #[Y 0,Y 0] 99)) w.heap.size 27 #[to ga p.bw.length gc,to va p.vars.length vc,to ta p.aS.length tc,to oa p.on.length oc,Y p.aT,to ca p.code.length cc]:=((aF.new w _ _).alloc _).alloc _;have kc:aF (((w.alloc (QP #[to ga p.bw.length gc,to va p.vars.length vc,to ta p.aS.length tc,to oa p.on.length oc,Y p.aT,to ca p.code.length cc] 27)).alloc (QP #[Pl,Y 0] 97)).alloc (QP #[Y 0,Y 0] 99)) (w.heap.size+1) 97 #[Pl,Y 0]:=(aF.bR ay).alloc _;have kf:aF (((w.alloc (QP #[to ga p.bw.length gc,to va p.vars.length vc,to ta p.aS.length tc,to oa p.on.length oc,Y p.aT,to ca p.code.length cc] 27)).alloc (QP #[Pl,Y 0] 97)).alloc (QP #[Y 0,Y 0] 99)) (w.heap.size+1+1) 99 #[Y 0,Y 0]:=aF.bR ay;have ru:(((w.alloc (QP #[to ga p.bw.length gc,to va p.vars.length vc,to ta p.aS.length tc,to oa p.on.length oc,Y p.aT,to ca p.code.length cc] 27)).alloc (QP #[Pl,Y 0] 97)).alloc (QP #[Y 0,Y 0] 99)).heap.size=w.heap.size+1+1+1:=by simp
 have ep:=HB.o #[to ga p.bw.length gc,to va p.vars.length vc,to ta p.aS.length tc,to oa p.on.length oc,Y p.aT,to ca p.code.length cc] 27 #[Pl,Y 0] 97 #[Y 0,Y 0] 99;go_wp2;go_step3;go_wp2_with fail;generalize(((w.alloc (QP #[to ga p.bw.length gc,to va p.vars.length vc,to ta p.aS.length tc,to oa p.on.length oc,Y p.aT,to ca p.code.length cc] 27)).alloc (QP #[Pl,Y 0] 97)).alloc (QP #[Y 0,Y 0] 99))=W0 at*
 with_reducible refine(Nn.o _ ep).mono ?_
 rintro e W1 ⟨rfl,X⟩;have kp1:=kp.of (X.block _ kp.lt);have WK:=kc.of (X.block _ kc.lt);have ZC:=kf.of (X.block _ kf.lt);have cR:=Z (ep.trans (X.mono ep.size));have tu:Hid (w.heap.size+1+1+1<=W1.heap.size):=Z (by have:=X.size;omega);clear kp kc kf X ep ru HB;generalize hpb:w.heap.size=pb at*;have T5:=Z hpb;clear hpb;by_cases sr:bq p=0
 case neg=>
  have hv:aW p=(bq p,0):=by unfold aW;rw[bk sr]
  have HV:=Z hv;have bm:(bq p !=0)=true:=by simpa using sr
  have hz:bq p≠0:=sr;have HZ:=Z hz;generalize bq p=ce at*;clear hv hz sr;obtain⟨c0,c1⟩:=WK.c2;obtain⟨f0,f1⟩:=ZC.c2;have z1:=WK.frozen;have z2:=ZC.frozen;have l2:=ZC.lt;have KC:=Z WK;have KF:=Z ZC;clear WK ZC kp1;go_wp2;exact CZ T5.o rfl rfl rfl KC.o KF.o cR.o HV.o HZ.o
 rw[sr];obtain⟨tb,qT⟩:=cE sr;have TY:=Z tb;have me:=Z qT;have hlen:p.code.length<=262144:=tb.code;have hon:p.on.length<=16:=by rw[tb.on];exact tb.g
 have T7:=Z sr;have KP:=Z kp1;have KC:=Z WK;have KF:=Z ZC;obtain⟨p0,p1,p2,p3,p4,p5⟩:=kp1.c6;have jN:Hid (128*p.code.length<=281474976710656/\p.code.length<=maxLen):=Z ⟨O,by unfold maxLen;omega⟩;clear kp1 WK ZC tb qT sr Nn;go_wp2_with fail;have lp:=KP.o.lt;refine Mk.bH (S:=λwx=>Below W1.heap.size W1 wx) bh (az _ W1 1) (λau=>?_);refine Mk.tk 0 (v:=?_) rfl ?_ cY ?_;rotate_left
 ·intro wz fj;exact PM
 refine Mk.pt ?_;refine Mk.tk 1 (v:=?_) rfl ?_ cY ?_;rotate_left
 ·exact iO
 refine Mk.pt ?_;refine Mk.tk 2 (v:=?_) rfl ?_ cY ?_;rotate_left
 ·intro wz fj;have key:∀b i v,b<W1.heap.size->UJ W1 (G b i)=H v->UJ wz (G b i)=H v:=λb i v X hc=>(dN (fj.block _ X)).trans hc;have y0:=key _ _ _ lp p5;exact qj
 refine Mk.pt ?_;refine Mk.tk 3 (v:=?_) rfl ?_ cY ?_;rotate_left
 ·exact iO
 refine Mk.pt ?_;refine fk (rs:=[4]) bh ay ?_;refine bZ rfl (λK hK=>?_) cz;refine bO rfl (.tmp 26) (.tmp 26) 228 rfl 233 underlying228 acB rfl bd .i64 .i64 _ _ p.code.length rfl rfl rfl rfl jN.o.1 jN.o.2 ?_;intro W3 Tt pz;have ET:=au.trans (pz.mono au.size);clear au;refine hK.out _ _ ET (λau=>?_);clear hK K;refine Mk.pt ?_;refine Mk.tk 5 (v:=?_) rfl ?_ cY ?_;rotate_left
 ·exact iO
 refine Mk.pt ?_;refine fk (rs:=[6]) bh ay ?_;refine bZ rfl (λK hK=>?_) cz;refine fH ?_;go_simp;refine hK.out _ _ (au.alloc au.size _) (λau=>?_);clear hK K;refine Mk.pt ?_;refine Mk.tk 7 (v:=?_) rfl ?_ cY ?_;rotate_left
 ·exact iO
 refine Mk.pt ?_;refine nW bh ⟨rfl,?_⟩ _;clear au;have hAW:W1.drew.heap.size=W1.heap.size:=rfl;have ZD:Below W1.heap.size W1 W3:=ET;have fL:iM W3 (to (H (G W1.heap.size 0)) p.code.length p.code.length) p.code.length (λ_=>K7) (λ_=> Pl):=⟨Tt.congr λo ho=>rfl,λi hi=> .inl ⟨rfl,rfl⟩,λi hi b X=>by cases X⟩;have hvs:W3.heap.size<(W3.alloc (QP #[to ga p.bw.length gc,to va p.vars.length vc,to ta p.aS.length tc,to oa p.on.length oc,Y p.aT,to ca p.code.length cc,to (H (G W1.heap.size 0)) p.code.length p.code.length] 230)).heap.size:=by simp
 have kv:aF (W3.alloc (QP #[to ga p.bw.length gc,to va p.vars.length vc,to ta p.aS.length tc,to oa p.on.length oc,Y p.aT,to ca p.code.length cc,to (H (G W1.heap.size 0)) p.code.length p.code.length] 230)) W3.heap.size 230 #[to ga p.bw.length gc,to va p.vars.length vc,to ta p.aS.length tc,to oa p.on.length oc,Y p.aT,to ca p.code.length cc,to (H (G W1.heap.size 0)) p.code.length p.code.length]:=aF.new _ _ _;have OE:=fL.aG ((aA.refl [] W3).alloc (QP #[to ga p.bw.length gc,to va p.vars.length vc,to ta p.aS.length tc,to oa p.on.length oc,Y p.aT,to ca p.code.length cc,to (H (G W1.heap.size 0)) p.code.length p.code.length] 230));have wM:Below W1.heap.size W1 (W3.alloc (QP #[to ga p.bw.length gc,to va p.vars.length vc,to ta p.aS.length tc,to oa p.on.length oc,Y p.aT,to ca p.code.length cc,to (H (G W1.heap.size 0)) p.code.length p.code.length] 230)):=ZD.alloc ZD.size _;have Aa:W1.heap.size<W3.heap.size:=(Tt.slice).2.2.2;clear Tt pz ET ZD fL hAW;generalize hW4:W3.alloc (QP #[to ga p.bw.length gc,to va p.vars.length vc,to ta p.aS.length tc,to oa p.on.length oc,Y p.aT,to ca p.code.length cc,to (H (G W1.heap.size 0)) p.code.length p.code.length] 230)=W4 at*;clear hW4;replace KP:=Z (KP.o.of (wM.block _ KP.o.lt));replace KC:=Z (KC.o.of (wM.block _ KC.o.lt));replace KF:=Z (KF.o.of (wM.block _ KF.o.lt));replace cR:=Z (cR.o.trans (wM.mono (by have:=tu.o;omega)));have HA:Hid (pb+1+1+1<=W1.heap.size):=tu;have hvA:W1.heap.size≠W3.heap.size:=O;generalize W1.heap.size=A at*;generalize W3.heap.size=ZE at*;have KV:Hid (aF W4 ZE 230 (sM K p (to (H (G A 0)) p.code.length p.code.length))):=Z (by
  obtain⟨e1,e2,e3,e4,e5⟩:=HK.o;unfold sM;rw[e1,e2,e3,e4,e5];exact kv)
 have lN:=Z OE;have OG:=Z hvs;have HNV:=Z hvA;have Eo:=Z Aa;clear kv OE hvs hvA wM Aa p0 p1 p2 p3 p4 p5 lp;obtain⟨-,-,-,q3,q4⟩:=KP.o.c5;have lp:=KP.o.lt;have yM:=Z (λV (X:Below w.heap.size w V)=>mM (w:=V) (v:=to oa p.on.length oc) (n:=p.on.length) (g:=aX p.on) (by have h1:=a0f.o.o;rw[HK.o.2.2.2.1]at h1;exact h1.aG (aA.af X)) O (λ_ _=>rfl));rw[T5.o]at yM;go_wp2;refine wp_mono (Q:=λe a W=>e=Exit.normal/\RB pb ZE (p.on++[p.aT]) W4 a W) ?_ ?_
 ·have TP:Hid (pb<=W4.heap.size):=Z (by have:=HA.o;have:=Eo.o;have:=OG.o;omega);refine Mk.bH (S:=λwx=>Below W4.heap.size W4 wx) bh (az _ W4 1) (λau=>?_);generalize World.drew _=V0 at*;refine Mk.tk 0 (v:=?_) rfl ?_ cY ?_;rotate_left
  ·exact iO
  refine Mk.pt ?_;refine Mk.tk 1 (v:=?_) rfl ?_ cY ?_;rotate_left
  ·intro wz fj;have key:∀b i v,b<W4.heap.size->UJ W4 (G b i)=H v->UJ wz (G b i)=H v:=λb i v X hc=>(dN (fj.block _ X)).trans hc;have y0:=key _ _ _ lp q3;exact qj
  refine Mk.pt ?_;refine Mk.tk 3 (v:=?_) rfl ?_ cY ?_;rotate_left
  ·exact iO
  refine Mk.pt ?_;refine Mk.tk 4 (v:=?_) rfl ?_ cY ?_;rotate_left
  ·intro wz fj;have key:∀b i v,b<W4.heap.size->UJ W4 (G b i)=H v->UJ wz (G b i)=H v:=λb i v X hc=>(dN (fj.block _ X)).trans hc;have y0:=key _ _ _ lp q4;exact qj
  refine Mk.pt ?_;refine fk (rs:=[2,5]) bh ay ?_;refine bZ rfl (λK hK=>?_) (bZ rfl (λK hK=>?_) cz);refine fH ?_;go_simp;go_at_call 55;refine(yM.o _ (cR.o.trans (au.mono TP.o))).mono ?_;rintro e wc ⟨xv,rfl,hxr,kW,hxi⟩;have hSc:=au.trans (kW.mono au.size);have T4:∀b,xv.ownBlock=H b->W4.heap.size<=b:=λb X=>cU au.size (hxi b X).1;clear au;refine hK.out _ _ hSc (λau=>?_);clear hK K;refine Mk.pt ?_;refine fk (rs:=[5]) bh ay ?_;refine bZ rfl (λK hK=>?_) cz;refine fH ?_;go_simp;have nb:aF (wc.alloc (QP #[Y p.aT] 3)) wc.heap.size 3 #[Y p.aT]:=aF.new _ _ _;refine hK.out _ _ (au.alloc au.size _) (λau=>?_);clear hK K;refine Mk.pt ?_;refine fk (rs:=[6]) bh ay ?_;refine bZ rfl (λK hK=>?_) cz;refine cJ rfl (.tmp 32) (.tmp 35) 24 rfl 3 underlying24 ck rfl bd xv p.on.length (aX p.on) rfl (hxr.alloc _) (G wc.heap.size 0) 1 1 (λ_=> Y p.aT) rfl (λj hj=>by obtain rfl:j=0:=O;exact nb.cell 0) (λ_ _=>rfl) (by unfold maxLen;omega) O ?_;intro bv W5 OF RQ YN;have uM:Below W4.heap.size W4 W5:=au.trans (RQ.below (B:=W4.heap.size) au.size (λb X=>by
   have h1:xv.ownBlock=H b:=by simpa using X
   exact T4 b h1))
  have ZF:vu W4.heap.size W5.heap.size bv:=λb X=>by exact WO
  have hr6:=Fj p.on p.aT OF;clear au OF RQ YN;refine hK.out _ _ uM (λau=>?_);clear hK K;refine Mk.pt ?_;refine Mk.tk 7 (v:=?_) rfl ?_ cY ?_;rotate_left
  ·exact iO
  refine Mk.pt ?_;refine nW bh ⟨rfl,?_⟩ _;clear au;exact⟨rfl,_,bv,FR.of _ rfl,rfl,rfl,rfl,rfl,rfl,Z hr6,Z ZF,Z uM⟩;rotate_left;refine fH ?_;go_simp;have nb:aF (V0.alloc (QP #[Y p.aT] 3)) V0.heap.size 3 #[Y p.aT]:=aF.new _ _ _;refine hK.out _ _ (au.alloc au.size _) (λau=>?_);clear hK K;refine Mk.pt ?_;refine fk (rs:=[2]) bh ay ?_;refine bZ rfl (λK hK=>?_) cz;refine fH ?_;go_simp;go_at_call 55;refine(yM.o _ (cR.o.trans (au.mono TP.o))).mono ?_;rintro e wc ⟨xv,rfl,hxr,kW,hxi⟩;have hSc:=au.trans (kW.mono au.size);have T4:∀b,xv.ownBlock=H b->W4.heap.size<=b:=λb X=>cU au.size (hxi b X).1;clear au;refine hK.out _ _ hSc (λau=>?_);clear hK K;refine Mk.pt ?_;refine fk (rs:=[6]) bh ay ?_;refine bZ rfl (λK hK=>?_) cz;refine cJ rfl (.tmp 32) (.tmp 35) 24 rfl 3 underlying24 ck rfl bd xv p.on.length (aX p.on) rfl hxr (G V0.heap.size 0) 1 1 (λ_=> Y p.aT) rfl (λj hj=>by obtain rfl:j=0:=O;exact(nb.of (kW.block _ nb.lt)).cell 0) (λ_ _=>rfl) (by unfold maxLen;omega) O ?_;intro bv W5 OF RQ YN;have uM:Below W4.heap.size W4 W5:=au.trans (RQ.below (B:=W4.heap.size) au.size (λb X=>by
   have h1:xv.ownBlock=H b:=by simpa using X
   exact T4 b h1))
  have ZF:vu W4.heap.size W5.heap.size bv:=λb X=>by exact WO
  have hr6:=Fj p.on p.aT OF;clear au OF RQ YN;refine hK.out _ _ uM (λau=>?_);clear hK K;refine Mk.pt ?_;refine Mk.tk 7 (v:=?_) rfl ?_ cY ?_;rotate_left
  ·exact iO
  refine Mk.pt ?_;refine nW bh ⟨rfl,?_⟩ _;clear au;exact⟨rfl,_,bv,FR.of _ rfl,rfl,rfl,rfl,rfl,rfl,Z hr6,Z ZF,Z uM⟩
 rintro e a5 W5 ⟨rfl,J,bv,rfl,j1,j3,j4,j6,j7,DB,HIB,nU⟩;unfold FR;rw[j1,j3,j4,j6,j7];clear j1 j3 j4 j6 j7 q3 q4 lp;have Fq:Hid ((p.on++[p.aT]).length=p.on.length+1):=Z ay;have WQ:(p.on++[p.aT]).length<=17:=by have:=Fq.o;omega
 have PK:Hid (∀i,i<(p.on++[p.aT]).length->-1<=(p.on++[p.aT]).getD i 0/\(p.on++[p.aT]).getD i 0<p.code.length):=Z λi hi=>by
  have hm:(p.on++[p.aT]).getD i 0∈p.on++[p.aT]:=by rw[aY,fq hi];exact jO hi
  rcases List.mem_append.1 hm with h|h
  ·have:=TY.o.ons _ h;omega
  ·rw[List.mem_singleton.1 h];have:=TY.o.aT;omega
 have KC5:=Z (KC.o.of (nU.o.block _ KC.o.lt));have ZG:=Z (KF.o.of (nU.o.block _ KF.o.lt));have KP5:=Z (KP.o.of (nU.o.block _ KP.o.lt));have KV5:=Z (KV.o.of (nU.o.block _ KV.o.lt));have aer:=Z (lN.o.aG (aA.af nU.o));have HBA:Hid (∀b,bv.ownBlock=H b->b≠A):=Z λb X e=>by have:=(HIB.o b X).1;have:=OG.o;have:=Eo.o;omega
 have HVA:Hid (ZE≠A):=Z λe=>HNV.o e.symm;have T8:Hid (pb+1+1<A):=Z (by have:=HA.o;omega);have PX:Hid (Below w.heap.size w W5):=Z (by have h1:=nU.o.size;rw[T5.o];exact cR.o.trans (nU.o.mono (by have:=HA.o;have:=Eo.o;have:=OG.o;omega)));have WB:Hid (w.heap.size<=A):=Z (by rw[T5.o];have:=HA.o;omega);have GZ:∃x y z,bv=to x y z:=by rcases DB.o.val with⟨h,-⟩|⟨_,_,h,-⟩<;>exact⟨_,_,_,h⟩
 have aes:∃la lc,bv=to la (p.on++[p.aT]).length lc:=by
  rcases DB.o.val with⟨h,h0⟩|⟨_,_,h,-⟩
  ·have:=Fq.o;omega
  ·exact⟨_,_,h⟩
 obtain⟨la,lc,rfl⟩:=aes;clear GZ;generalize wD:p.on++[p.aT]=bl at*;have PZ:=Z wD;clear wD;go_wp2_with fail;refine rn1 (bl:=bl) (vb:=ZE) (pb:=pb) (A:=A) (W4:=W5) KV5 HVA DB HBA WQ PK hlen (λJ6 W6 j1 j3 j4 j6 j7 hF hS=>?_) ⟨_,0,FR.of _ rfl,rfl,rfl,rfl,rfl,rfl,rfl,rfl,rfl,cK _,rfl,Z (aA.refl _ _),Z (aer.o)⟩;have MZ:=Z hF;have No:=Z hS;have k5:=KP5.o.aG MZ.o (by have:=T8.o;simp;omega);have q5:UJ W6 (G pb 5)=H (to ca p.code.length cc):=k5.cell 5;have lp:=k5.lt;unfold FR;rw[j1,j3,j4,j6,j7];clear j1 j3 j4 j6 j7 hF hS k5;have HT0:Hid (TOk p (dA p)):=Z (acX TY.o);have HSB:Hid (iM W6 (to (H (G A 0)) p.code.length p.code.length) p.code.length (dA p) (λ_=> Pl)):=Z (by
  have h1:=No.o;rw[show Ab bl bl.length=dA p from by funext pc;unfold Ab dA;rw[List.take_length,PZ.o]]at h1;exact h1)
 go_wp2_with fail;refine rn2 (vb:=ZE) (pb:=pb) (A:=A) (W5:=W5) (bv:=to la bl.length lc) a0f WB PX KV5 HVA me hlen (λA9 W7 i e h2 h3 h4 hF bm Np=>?_) KC5 ZG T8 (λacx W7 T j1 j3 j4 j6 j7 hF Np=>?_) ⟨_,0,FR.of _ rfl,rfl,rfl,rfl,rfl,rfl,rfl,rfl,cK _,rfl,MZ,_,_,HSB,HT0,Z (by rw[Nat.sub_zero])⟩
 ·have hv:aW p=(e,(i:Int)):=by unfold aW;rw[aw (by rw[T7.o];simp),Np]
  refine CZ T5.o h2 h3 h4 (KC5.o.aG hF (by have:=T8.o;simp;omega)) (ZG.o.aG hF (by have:=T8.o;simp;omega)) ?_ hv bm;rw[<-T5.o];exact PX.o.trans (hF.below PX.o.size (by have:=WB.o;simpa using this))
 have Rk:=Z hF;have uj:=Z Np;have EJ:=Z (PX.o.trans (Rk.o.below PX.o.size (by have:=WB.o;simpa using this)));have KP7:=Z (KP5.o.aG Rk.o (by have:=T8.o;simp;omega));have KC7:=Z (KC5.o.aG Rk.o (by have:=T8.o;simp;omega));have KF7:=Z (ZG.o.aG Rk.o (by have:=T8.o;simp;omega));have KV7:=Z (KV5.o.aG Rk.o (by have:=HVA.o;simpa using this));have aet:=Z (DB.o.aG Rk.o (λb X=>by have:=HBA.o b X;simpa using this));have HFI:Hid (CY p):=Z (Bi T7.o uj.o);have HFL:=Z (IB (a0f.o.aG (aA.af EJ.o)) KV7.o hlen HFI.o);unfold FR;rw[j1,j3,j4,j6,j7];clear j1 j3 j4 j6 j7 hF Np q5 lp;go_wp2_with fail
 with_reducible refine HFL.o.mono ?_
 rintro e W8 ⟨fb,fc,rfl,WL,OK,bo⟩;have HFB:=Z bo;have P0:=Z OK;have KP8:=Z (KP7.o.of (P0.o.block _ KP7.o.lt));have KC8:=Z (KC7.o.of (P0.o.block _ KC7.o.lt));have KF8:=Z (KF7.o.of (P0.o.block _ KF7.o.lt));have aeu:=Z (aet.o.aG (aA.af (S:=[]) P0.o) ay);have P4:=Z (EJ.o.trans (P0.o.mono EJ.o.size));clear bo WL OK HFL;go_wp2;go_step3;go_wp2_with fail;refine rn3 (bl:=bl) (vb:=ZE) (pb:=pb) (W7:=W8) aeu HFB WQ PK hlen KC8 KF8 (λA9 W9 n h2 h3 h4 X sO=>?_) (λacF W9 lv j1 j3 j4 j6 rJ X uS jo sO=>?_) ⟨_,0,Pl,FR.of _ rfl,rfl,rfl,rfl,rfl,rfl,rfl,rfl,rfl,rfl,cK _,rfl,Z (aB _ _),Z (Row.nil _ _ _ _),Z (λb X=>by cases X),Z (by rw[List.drop_zero])⟩
 ·have hv:aW p=(97,n):=by unfold aW;rw[aw (by rw[T7.o];simp),uj.o,PZ.o,sO]
  refine CZ T5.o h2 h3 h4 (KC8.o.of (X.block _ KC8.o.lt)) (KF8.o.of (X.block _ KF8.o.lt)) ?_ hv bd;rw[<-T5.o];exact P4.o.trans (X.mono P4.o.size)
 have aev:=Z (λb X=>cU P4.o.size (jo b X));clear jo;obtain⟨lb,Zu,rfl,l1,l2,l3⟩:=uS.some (by have:=Fq.o;omega);have HV:=Z (show aW p=(0,0)from by unfold aW;rw[aw (by rw[T7.o];simp),uj.o,PZ.o,sO]);have HRL:=Z uS;have Ms:=Z (P4.o.trans (X.mono P4.o.size));have kp9:=KP8.o.of (X.block _ KP8.o.lt);have KC9:=Z (KC8.o.of (X.block _ KC8.o.lt));have KF9:=Z (KF8.o.of (X.block _ KF8.o.lt));have q3:UJ W9 (G pb 3)=H (to oa p.on.length oc):=kp9.cell 3;have lp:=kp9.lt;have Lj:bl.length=p.on.length+1:=Fq.o;have lc9:UJ W9 (G lb p.on.length)=H (Y (bU p (bl.getD p.on.length 0):Nat)):=uS.cell (o:=p.on.length) O;have hms:bl.getD p.on.length 0=p.aT:=by rw[<-PZ.o,aY,jy (aL _)];simp
 rw[hms]at lc9;rw[Lj]at l1 rJ;unfold FR;rw[j1,j3,j4,j6,rJ];clear j1 j3 j4 j6 rJ X uS sO kp9 Lj hms;obtain⟨em,qB⟩:∃z,bU p p.aT=z:=⟨_,rfl⟩;rw[qB]at lc9;have WA:=Z qB;clear qB;go_wp2_with fail;have afe:p.on.length<=Zu:=O;have hx9:(p.on.length:Int)<(p.on.length:Int)+1:=O;have JL:Hid (pb∉[pb+1,pb+1+1]):=Z jz;have Hu:Hid (lb∉[pb+1,pb+1+1]):=Z (by
  have h1:=HRL.o.eZ KC9.o bd;have h2:=HRL.o.eZ KF9.o bd;simp only[fh,List.not_mem_nil,or_false,not_or];exact⟨λe=>h1 (by rw[e];rfl),λe=>h2 (by rw[e];rfl)⟩)
 have pY:=Z (λ(V:UK) (hf:aA [pb+1,pb+1+1] W9 V)=>show aZ V 1 (to (H (G lb 0)) p.on.length p.on.length) p.on.length (λi=> Y (bU p (p.on.getD i 0):Nat))from by
  have h1:=(HRL.o.aG hf (λb X=>by have:lb=b:=sd X;rw[<-this];exact Hu.o));refine .inr ⟨(G lb 0),p.on.length,rfl,aL _,by unfold maxLen;omega,λo ho=>⟨rfl,?_⟩⟩;have h2:=h1.cell (o:=o) (by have:=Fq.o;omega);rw[Nat.zero_add,h2];unfold Ac;rw[<-PZ.o,aY,oK O,<-aY])
 refine Mk.bH (S:=λwx=>aA [pb+1,pb+1+1] W9 wx) bh (aA.af (az _ W9 1)) (λau=>?_);have DC:=Z (KC9.o.drewN 1);have Bk:=Z (KF9.o.drewN 1);change Hid (aF W9.drew _ _ _)at DC;change Hid (aF W9.drew _ _ _)at Bk;generalize World.drew _=V0 at*;refine Mk.tk 0 (v:=?_) rfl ?_ cY ?_;rotate_left
 ·exact iO
 refine Mk.pt ?_;refine Mk.tk 1 (v:=?_) rfl ?_ cY ?_;rotate_left
 ·exact iO
 refine Mk.pt ?_;refine Mk.tk 2 (v:=?_) rfl ?_ cY ?_;rotate_left
 ·exact iO
 refine Mk.pt ?_;refine Mk.tk 3 (v:=?_) rfl ?_ cY ?_;rotate_left
 ·exact PW
 refine Mk.pt ?_;refine Mk.tk 4 (v:=?_) rfl ?_ cY ?_;rotate_left
 ·exact iO
 refine Mk.pt ?_;refine Mk.tk 5 (v:=?_) rfl ?_ cY ?_;rotate_left
 ·exact iO
 refine Mk.pt ?_;refine Mk.tk 6 (v:=?_) rfl ?_ cY ?_;rotate_left
 ·exact PW
 refine Mk.pt ?_;refine Mk.tk 7 (v:=?_) rfl ?_ cY ?_;rotate_left
 ·exact iO
 refine Mk.pt ?_;refine Mk.tk 8 (v:=?_) rfl ?_ cY ?_;rotate_left
 ·exact iO
 refine Mk.pt ?_;refine Mk.tk 9 (v:=?_) rfl ?_ cY ?_;rotate_left
 ·exact iO
 refine Mk.pt ?_;refine Mk.tk 10 (v:=?_) rfl ?_ cY ?_;rotate_left
 ·exact iO
 refine Mk.pt ?_;refine Mk.tk 11 (v:=?_) rfl ?_ cY ?_;rotate_left
 ·exact PW
 refine Mk.pt ?_;refine Mk.tk 12 (v:=?_) rfl ?_ cY ?_;rotate_left
 ·exact iO
 refine Mk.pt ?_;refine Mk.tk 13 (v:=?_) rfl ?_ cY ?_;rotate_left
 ·exact iO
 refine Mk.pt ?_;refine Mk.tk 14 (v:=?_) rfl ?_ cY ?_;rotate_left
 ·intro wz fj;have y0:=(dN (fj.block _ (aH lc9) Hu.o)).trans lc9;exact qj
 refine Mk.pt ?_;refine Mk.tk 15 (v:=?_) rfl ?_ cY ?_;rotate_left
 ·exact iO
 refine Mk.pt ?_;refine Mk.tk 16 (v:=?_) rfl ?_ cY ?_;rotate_left
 ·exact iO
 refine Mk.pt ?_;refine Mk.tk 17 (v:=?_) rfl ?_ cY ?_;rotate_left
 ·exact iO
 refine Mk.pt ?_;have NN:Hid (pb+1≠pb+1+1):=Z O;have z0:=DC.o.cell 0;have z1:=DC.o.cell 1;have z2:=Bk.o.cell 0;have z3:=Bk.o.cell 1;have z4:=DC.o.frozen;have z5:=Bk.o.frozen;have z6:=Bk.o.lt;simp only[List.getElem?_toArray,List.getElem?_cons_zero,List.getElem?_cons_succ]at z0 z1 z2 z3;refine fk (rs:=[18]) bh ay ?_;refine bZ rfl (λK hK=>?_) cz;refine fH ?_;go_simp;refine hK.out _ _ ((au.setCell (p:=(G (pb+1) 0)) ay (to (H (G lb 0)) p.on.length p.on.length)).setCell (p:=(G (pb+1) 1)) ay (Y (em:Nat))) (λau=>?_);clear hK K;refine Mk.pt ?_;refine fk (rs:=[19]) bh ay ?_;refine bZ rfl (λK hK=>?_) cz;refine fH ?_;go_simp;refine hK.out _ _ ((au.setCell (p:=(G (pb+1+1) 0)) ay (Y 0)).setCell (p:=(G (pb+1+1) 1)) ay (Y 0)) (λau=>?_);clear hK K;refine Mk.pt ?_;refine nW bh ⟨rfl,?_⟩ _;have tp:=au;clear au;go_wp2_with fail;refine Kj (cb:=pb+1) (fb:=pb+1+1) rfl rfl rfl ((((DC.o.set 0 (to (H (G lb 0)) p.on.length p.on.length)).set 1 (Y (em:Nat))).other NN.o 0 (Y 0)).other NN.o 1 (Y 0)) ((((Bk.o.other NN.o.symm 0 (to (H (G lb 0)) p.on.length p.on.length)).other NN.o.symm 1 (Y (em:Nat))).set 0 (Y 0)).set 1 (Y 0)) ?_;refine⟨UI ZE,to (H (G lb 0)) p.on.length p.on.length,(em:Nat),by rw[HV.o];rfl,⟨_,_,_,rfl⟩,Ms.o.trans (tp.below Ms.o.size (by rw[T5.o];simp;omega)),(λb X=>aev.o b X),λ_=>⟨by rw[WA.o],?_⟩⟩;exact pY.o _ tp
def zp(w:UK)(p:aQ)(e:Ending)(w':UK):Prop:=∃w_ ms,e=C8 (.tuple #[.agg #[w_,Y ms],.agg #[Y (aW p).1,Y (aW p).2]])/\(∃x y z,w_=to x y z)/\Below w.heap.size w w'/\
 ((aW p).1=0->ms=(bU p p.aT:Nat)/\aZ w' 1 w_ p.on.length (λi=> Y (bU p (p.on.getD i 0):Nat)))
def IF(h:fW w K p):Calls prog 44 #[pV K p] w (zp w p):=by
 have HR:=Z (λV (X:Below w.heap.size w V)=>acr (w:=V) (h.aG (aA.af X)));obtain⟨⟨ga,gc,g1,g2,g3⟩,⟨va,vc,v1,v2,v3⟩,⟨ta,tc,t1,t2,t3⟩,⟨oa,oc,o1,o2,o3⟩,⟨ca,cc,c1,c2,c3⟩⟩:=h.sl;unfold pV at HR ⊢;rw[g1,v1,t1,o1,c1]at HR ⊢;have hB:∀cs T vF T2 cs3 T3,Below w.heap.size w (((w.alloc (QP cs T)).alloc (QP vF T2)).alloc (QP cs3 T3)):=λcs T vF T2 cs3 T3=>(((aB _ _).alloc (aL _) _).alloc ay _).alloc jz _;have kc:aF (((w.alloc (QP #[to ga p.bw.length gc,to va p.vars.length vc,to ta p.aS.length tc,to oa p.on.length oc,Y p.aT,to ca p.code.length cc] 27)).alloc (QP #[Pl,Y 0] 97)).alloc (QP #[Y 0,Y 0] 99)) (w.heap.size+1) 97 #[Pl,Y 0]:=(aF.bR ay).alloc _;have kf:aF (((w.alloc (QP #[to ga p.bw.length gc,to va p.vars.length vc,to ta p.aS.length tc,to oa p.on.length oc,Y p.aT,to ca p.code.length cc] 27)).alloc (QP #[Pl,Y 0] 97)).alloc (QP #[Y 0,Y 0] 99)) (w.heap.size+1+1) 99 #[Y 0,Y 0]:=aF.bR ay;have ru:(((w.alloc (QP #[to ga p.bw.length gc,to va p.vars.length vc,to ta p.aS.length tc,to oa p.on.length oc,Y p.aT,to ca p.code.length cc] 27)).alloc (QP #[Pl,Y 0] 97)).alloc (QP #[Y 0,Y 0] 99)).heap.size=w.heap.size+1+1+1:=by simp
 have ep:=hB #[to ga p.bw.length gc,to va p.vars.length vc,to ta p.aS.length tc,to oa p.on.length oc,Y p.aT,to ca p.code.length cc] 27 #[Pl,Y 0] 97 #[Y 0,Y 0] 99;clear h hB g1 v1 t1 o1 c1 g2 g3 v2 v3 t2 t3 o2 o3 c2 c3;go_enter func44,ntmps44;go_wp2_with fail;generalize(((w.alloc (QP #[to ga p.bw.length gc,to va p.vars.length vc,to ta p.aS.length tc,to oa p.on.length oc,Y p.aT,to ca p.code.length cc] 27)).alloc (QP #[Pl,Y 0] 97)).alloc (QP #[Y 0,Y 0] 99))=W0 at*
 with_reducible refine(HR.o _ ep).mono ?_
 rintro e W1 ⟨vv,w_,ms,rfl,⟨x9,y9,z9,rfl⟩,X,Jd,hco⟩;have Rl:Hid (∀b,(Value.slice x9 y9 z9).ownBlock=H b->w.heap.size+1+1+1<=b):=Z λb h=>by have:=Jd b h;omega
 clear Jd;have TL:=Z hco;have cR:=Z (ep.trans (X.mono ep.size));have KC:=Z (kc.of (X.block _ kc.lt));have KF:=Z (kf.of (X.block _ kf.lt));have JG:w.heap.size+1+1+1<=W1.heap.size:=by have:=X.size;omega
 clear hco X kc kf ru ep HR;obtain⟨e1,he1⟩:∃z,(aW p).1=z:=⟨_,rfl⟩;obtain⟨e2,Na⟩:∃z,(aW p).2=z:=⟨_,rfl⟩;rw[he1]at TL;rw[he1,Na];have HE:=Z (And.intro he1 Na);clear he1 Na;go_wp2_with fail;have k2:aF ((W1.alloc (QP #[to x9 y9 z9,Y ms] 97)).alloc (QP #[Y e1,Y e2] 99)) W1.heap.size 97 #[to x9 y9 z9,Y ms]:=(aF.new _ _ _).alloc _;have k3:aF ((W1.alloc (QP #[to x9 y9 z9,Y ms] 97)).alloc (QP #[Y e1,Y e2] 99)) (W1.heap.size+1) 99 #[Y e1,Y e2]:=aF.bR ay;have dC:Below W1.heap.size W1 ((W1.alloc (QP #[to x9 y9 z9,Y ms] 97)).alloc (QP #[Y e1,Y e2] 99)):=((aB _ _).alloc (aL _) _).alloc ay _;generalize(W1.alloc (QP #[to x9 y9 z9,Y ms] 97)).alloc (QP #[Y e1,Y e2] 99)=W2 at*;obtain⟨n0,n1⟩:=k2.c2;obtain⟨n2,n3⟩:=k3.c2;have KC2:=Z (KC.o.of (dC.block _ KC.o.lt));have KF2:=Z (KF.o.of (dC.block _ KF.o.lt));have eF:=Z (cR.o.trans (dC.mono cR.o.size));have zH:Hid (w.heap.size+1+1+1<=W1.heap.size):=Z JG;have ls2:=k3.lt;have sg:Hid (aA [] W1 W2):=Z (aA.af dC);clear k2 k3 dC;generalize iD:W1.heap.size=s1 at*;clear iD;refine Mk.bH (S:=λwx=>aA [w.heap.size+1,w.heap.size+1+1] W2 wx) bh (aA.af (az _ W2 1)) (λau=>?_);have DC:=Z (KC2.o.drewN 1);have Bk:=Z (KF2.o.drewN 1);change Hid (aF W2.drew _ _ _)at DC;change Hid (aF W2.drew _ _ _)at Bk;generalize World.drew _=V0 at*;refine Mk.tk 0 (v:=?_) rfl ?_ cY ?_;rotate_left
 ·intro wz fj;have y0:=(dN (fj.block _ (aH n0) (by have:=zH.o;simp only[fh,List.not_mem_nil,or_false,not_or];omega))).trans n0;have y1:=(dN (fj.block _ (aH n1) (by have:=zH.o;simp only[fh,List.not_mem_nil,or_false,not_or];omega))).trans n1;exact qj
 refine Mk.pt ?_;refine Mk.tk 1 (v:=?_) rfl ?_ cY ?_;rotate_left
 ·intro wz fj;have y0:=(dN (fj.block _ (aH n2) (by have:=zH.o;simp only[fh,List.not_mem_nil,or_false,not_or];omega))).trans n2;have y1:=(dN (fj.block _ (aH n3) (by have:=zH.o;simp only[fh,List.not_mem_nil,or_false,not_or];omega))).trans n3;exact qj
 refine Mk.pt ?_;have NN:Hid (w.heap.size+1≠w.heap.size+1+1):=Z O;have z0:=DC.o.cell 0;have z1:=DC.o.cell 1;have z2:=Bk.o.cell 0;have z3:=Bk.o.cell 1;have z4:=DC.o.frozen;have z5:=Bk.o.frozen;have z6:=Bk.o.lt;simp only[List.getElem?_toArray,List.getElem?_cons_zero,List.getElem?_cons_succ]at z0 z1 z2 z3;refine fk (rs:=[2]) bh ay ?_;refine bZ rfl (λK hK=>?_) cz;refine fH ?_;go_simp;refine hK.out _ _ ((au.setCell (p:=(G (w.heap.size+1) 0)) ay (to x9 y9 z9)).setCell (p:=(G (w.heap.size+1) 1)) ay (Y ms)) (λau=>?_);clear hK K;refine Mk.pt ?_;refine fk (rs:=[3]) bh ay ?_;refine bZ rfl (λK hK=>?_) cz;refine fH ?_;go_simp;refine hK.out _ _ ((au.setCell (p:=(G (w.heap.size+1+1) 0)) ay (Y e1)).setCell (p:=(G (w.heap.size+1+1) 1)) ay (Y e2)) (λau=>?_);clear hK K;refine Mk.pt ?_;refine nW bh ⟨rfl,?_⟩ _;have P5:=au;clear au;go_wp2_with fail;have kc9:=((((DC.o.set 0 (to x9 y9 z9)).set 1 (Y ms)).other NN.o 0 (Y e1)).other NN.o 1 (Y e2));have kf9:=((((Bk.o.other NN.o.symm 0 (to x9 y9 z9)).other NN.o.symm 1 (Y ms)).set 0 (Y e1)).set 1 (Y e2));generalize((((V0.setCell (G (w.heap.size+1) 0) (to x9 y9 z9)).setCell (G (w.heap.size+1) 1) (Y ms)).setCell (G (w.heap.size+1+1) 0) (Y e1)).setCell (G (w.heap.size+1+1) 1) (Y e2))=W9 at*;obtain⟨c0,c1⟩:=kc9.c2;obtain⟨f0,f1⟩:=kf9.c2;refine bK (v:= .tuple #[.agg #[to x9 y9 z9,Y ms],.agg #[Y e1,Y e2]]) ?_ rfl ⟨to x9 y9 z9,ms,by rw[HE.o.1,HE.o.2],⟨_,_,_,rfl⟩,eF.o.trans (P5.below eF.o.size jz),λh=>?_⟩
 ·simp[results,results44,go_sem,c0,c1,f0,f1]
 ·obtain⟨h1,h2⟩:=TL.o (by rw[<-h];exact HE.o.1.symm);refine⟨h1,rz (aZ.aG h2 sg.o) P5 (λb X=>?_)⟩;have h3:=Rl.o b X;simp only[fh,List.not_mem_nil,or_false,not_or];omega
end
end Go.Vf
end
namespace Go.Vf
def qX(n:Int):Bool:=decide (n<1)||decide (1048576<n)
def ZH{p:Prop}(h:p:=by
 rw[hf];clear hf;go_enter func97,ntmps97;go_wp2;go_ret;exact⟨rfl,rfl⟩):p:=h
def vh(w:UK)(n:Int):Calls prog 97 #[Y n] w (λe w'=>e=C8 (.bool (qX n))/\w'=w):=by
 by_cases h1:n<1
 ·have hf:qX n=true:=by simp[qX,h1]
  exact ZH
 ·by_cases h2:1048576<n
  ·have hf:qX n=true:=by simp[qX,h2]
   exact ZH
  ·have hf:qX n=false:=by simp[qX,h1,h2]
   exact ZH
def adL(w:UK){K:Kp}{p:aQ}(h:fW w K p):Calls prog 12 #[pV K p] w (λe w'=>e=C8 (.bool (decide (p.code.length<=3000)))/\Below w.heap.size w w'):=by obtain⟨⟨ga,gc,g1,g2,g3⟩,⟨va,vc,v1,v2,v3⟩,⟨ta,tc,t1,t2,t3⟩,⟨oa,oc,o1,o2,o3⟩,⟨ca,cc,c1,c2,c3⟩⟩:=h.sl;unfold pV;rw[g1,v1,t1,o1,c1];have hB:=qq w;clear g1 g2 g3 v1 v2 v3 t1 t2 t3 o1 o2 o3 c1 c2 c3 h;go_enter func12,ntmps12;go_wp2;go_ret;refine⟨?_,hB _ _⟩;show Ending.returned (.bool (decide ((p.code.length:Int)<=3000)))=_;congr 2;rw[decide_eq_decide];omega
open Ma (dP ci aX vb)
def nZ(p:aQ)(c:Cp)(q:Nat):Bool:= !qX (c.aK.getD q 0)&&(p.bw.getD q false||decide (c.aK.getD q 0<=c.size))
def ia(p:aQ)(c:Cp):Bool:= !qX c.size&&decide (c.aK.length=p.bw.length)&&decide (∀q,q<p.bw.length->nZ p c q=true)
def Bl{p:aQ}{c:Cp}(h:ia p c=true):ow p c:=by
 unfold ia at h;simp only[fp,ft]at h;obtain⟨⟨h1,h2⟩,h3⟩:=h;have out:∀n,qX n=false->1<=n/\n<=1048576:=λn h=>by unfold qX at h;simp at h;omega
 have hs:=out c.size (by simpa using h1);refine⟨hs.1,hs.2,h2,λq hq=>?_⟩;have:=h3 q hq;unfold nZ at this;simp only[fp]at this;exact out _ (by simpa using this.1)
def cV(c:Cp)(qv:UL):UL:= .agg #[Y c.size,qv]
def oz(p:aQ)(c:Cp)(k:Nat):Nat:=cT k λq=>if p.bw.getD q false then 0 else(c.aK.getD q 0).toNat
def qh(p:aQ)(c:Cp)(k:Nat):Nat:=cT k λq=>if p.bw.getD q false then(c.aK.getD q 0).toNat else 0
def Fl(p:aQ)(c:Cp):dw (aC p c)=min (oz p c p.bw.length) c.size.toNat+qh p c p.bw.length:=rfl
def FrF(pb cb:Nat)(r g:Nat)(qv:UL)(n i:Nat)(a:Act):Prop:=∃J:Nat->UL,a={tmps:=#[J 0,J 1,UI pb,UI cb,J 4,J 5,.func (.func 97) #[] #[],Y r,Y g,J 9,J 10,J 11,J 12,J 13,J 14,J 15,J 16,J 17,J 18,J 19,J 20,J 21,J 22,J 23,J 24,J 25,qv,Y n,Y i,J 29,J 30,J 31,J 32,J 33,J 34,J 35,J 36,J 37,J 38,J 39,J 40,J 41,J 42,J 43,J 44,J 45,J 46,J 47,J 48,J 49,J 50,J 51,J 52,J 53,J 54,J 55,J 56,J 57,J 58,J 59,J 60,J 61,J 62,J 63,J 64,J 65,J 66,J 67,J 68,J 69,J 70,J 71,J 72],defers:=[]}
def zq(p:aQ)(c:Cp):UL:= .tuple #[Y (if ia p c=true then(dw (aC p c):Nat)else 0),.bool (ia p c&&decide (dw (aC p c)<=4194304))]
def uk{p:aQ}{c:Cp}(h:ia p c=false):zq p c= .tuple #[Y 0,.bool false]:=by unfold zq;rw[h];rfl
def acw(w:UK)(p:aQ)(c:Cp)(qv:UL)(gv:UL)(P:UK->Prop)(m:Nat)(a:Act)(W:UK):Prop:=
 ∃i,i<=p.bw.length/\m+i=p.bw.length+1/\FrF w.heap.size (w.heap.size+1) (oz p c i) (qh p c i) qv p.bw.length i a/\Hid (Below w.heap.size w W)/\Hid (P W)/\Hid (∀j,j<i->nZ p c j=true)/\oz p c i<=i*1048576/\qh p c i<=i*1048576
def PJ{p:Prop}(h:p:=by
 go_enter func53,ntmps53;go_wp2_with fail;refine(Gh.o _).mono ?_;rintro e w' ⟨rfl,rfl⟩;go_wp2;go_ret2;exact⟨rfl,hB _ _ _ _⟩):p:=h
def IG(w:UK){K:Kp}{p:aQ}{c:Cp}{qv:UL}(h:fW w K p)(hq:aZ w 1 qv c.aK.length (aX c.aK))(hg:p.bw.length<=16):
 Calls prog 53 #[pV K p,cV c qv] w (λe w'=>e=C8 (zq p c)/\Below w.heap.size w w'):=by
 obtain⟨⟨ga,gc,g1,g2,g3⟩,⟨va,vc,v1,v2,v3⟩,⟨ta,tc,t1,t2,t3⟩,⟨oa,oc,o1,o2,o3⟩,⟨ca,cc,c1,c2,c3⟩⟩:=h.sl;obtain⟨qa,qc,rfl,q2,q3⟩:=hq.val;have a0f:=Z h;have HQ:=Z hq;obtain⟨kg,kv,kt,ko,kc⟩:=K;dsimp only at g1 v1 t1 o1 c1;subst g1 v1 t1 o1 c1;have hB:=KJ w;have HO:=Z (λV n=>vh V n);unfold pV cV;dsimp only;clear h hq g2 g3 v2 v3 t2 t3 o2 o3 c2 c3;by_cases s1:qX c.size=true
 ·have HF:=Z (uk (show ia p c=false by unfold ia;rw[s1];rfl));rw[HF.o];have Gh:=Z (λV=>s1▸vh V c.size);clear HO s1;exact PJ
 have DE:qX c.size=false:=by simpa using s1
 have Gh:=Z (λV=>DE▸vh V c.size);have HS:=Z DE;have kw:1<=c.size/\c.size<=1048576:=by unfold qX at DE;simp at DE;omega
 clear s1 DE;by_cases l1:c.aK.length=p.bw.length
 case neg=>have HF:=Z (uk (show ia p c=false by unfold ia;simp[l1]));rw[HF.o];clear HO;exact PJ
 case pos=>
  rw[l1]at q2 HQ ⊢;have HL:=Z l1;clear l1;go_enter func53,ntmps53;go_wp2_with fail;refine(Gh.o _).mono ?_;rintro e w' ⟨rfl,rfl⟩;go_wp2_with fail;have nG:=Z (And.intro (((aF.new w 27 #[to ga p.bw.length gc,to va p.vars.length vc,to ta p.aS.length tc,to oa p.on.length oc,Y p.aT,to ca p.code.length cc]).alloc (QP #[Y c.size,to qa p.bw.length qc] 29))) (aF.bR (w:=w.alloc (QP #[to ga p.bw.length gc,to va p.vars.length vc,to ta p.aS.length tc,to oa p.on.length oc,Y p.aT,to ca p.code.length cc] 27)) (b:=w.heap.size+1) (T:=29) (cs:=#[Y c.size,to qa p.bw.length qc]) ay));refine Mk.aN (acw w p c (to qa p.bw.length qc) (to ga p.bw.length gc) (λW=>aF W w.heap.size 27 #[to ga p.bw.length gc,to va p.vars.length vc,to ta p.aS.length tc,to oa p.on.length oc,Y p.aT,to ca p.code.length cc]/\aF W (w.heap.size+1) 29 #[Y c.size,to qa p.bw.length qc])) (p.bw.length+1) ?start ?zero ?round
  case start=>exact⟨0,cK _,O,qi rfl,Z (hB _ _ _ _),nG,Z (λj hj=>absurd hj O),aL _,aL _⟩
  case zero=>exact λa W hh=>by obtain⟨q,h1,h2,_⟩:=hh;omega
  clear nG Gh
  case round=>
   rintro m a0 W ⟨i,hi,hm,⟨J,rfl⟩,HB,HP,HA,hr,M7⟩;obtain⟨k1,k2⟩:=HP.o;have e0:=k1.c1;have e1:=k2.c1;have l1:=k1.lt;have l2:=k2.lt;clear k1 k2;have hmul:(i+1)*1048576=i*1048576+1048576:=Nat.succ_mul _ _;have ZI:=Z hmul;clear hmul;have Ib:oz p c (i+1)=oz p c i+(if p.bw.getD i false then 0 else(c.aK.getD i 0).toNat):=rfl;have xK:qh p c (i+1)=qh p c i+(if p.bw.getD i false then(c.aK.getD i 0).toNat else 0):=rfl;by_cases be:i<p.bw.length
   ·obtain⟨b,off,cap,hv,-,-,X,hc⟩:=(HQ.o.aG (aA.af HB.o)).some O O;simp only[cM]at hv;obtain⟨rfl,-,rfl⟩:=hv;have c0:UJ W (G b (off+i))=H (Y (c.aK.getD i 0)):=hc i O;obtain⟨gb,aff,ov,hv,-,-,d0⟩:=(a0f.o.aG (aA.af HB.o)).gh be;simp only[cM]at hv;obtain⟨rfl,-,rfl⟩:=hv;clear hc X;have hqk:nZ p c i=(!qX (c.aK.getD i 0)&&(p.bw.getD i false||decide (c.aK.getD i 0<=c.size))):=rfl;have bad:nZ p c i=false->ia p c=false:=λe=>by
     unfold ia;have:decide (∀q,q<p.bw.length->nZ p c q=true)=false:=by rw[ij];intro h;rw[h i be]at e;cases e
     rw[this,Bool.and_false]
    generalize hn:c.aK.getD i 0=n at*;generalize Jo:p.bw.getD i false=acv at*;have yL:=Z (HO.o W n);cases ho:qX n with
    |true=>have HF:=Z (uk (bad (by rw[hqk,ho];rfl)));rw[ho]at yL;clear bad hqk Ib xK ho hn Jo;go_wp2_with fail;refine yL.o.mono ?_;rintro e w' ⟨rfl,rfl⟩;go_wp2;go_ret2;exact⟨by rw[HF.o];rfl,HB.o⟩
    |false=>
     have hni:1<=n/\n<=1048576:=by unfold qX at ho;simp at ho;omega
     rw[ho]at yL;obtain⟨nn,rfl⟩:=dz (show 0<=n by omega);have Tx:nn<=1048576:=O;have tW:=Z Tx;clear Tx;cases acv with
     |true=>
      simp at Ib xK;have HU1:=Z Ib;have MA:=Z xK;have HQK:=Z (show nZ p c i=true by rw[hqk,ho];rfl);clear bad hqk Ib xK ho hn Jo;go_wp2_with fail;refine yL.o.mono ?_;rintro e w' ⟨rfl,rfl⟩;go_wp2;refine⟨i+1,O,O,?_,HB,HP,Z λj hj=>?_,?_,?_⟩
      ·rw[HU1.o,MA.o];exact qi rfl
      ·by_cases e:j=i
       ·subst e;exact HQK.o
       ·exact HA.o j O
      ·rw[HU1.o,ZI.o];exact cU hr (dK _ _)
      ·rw[MA.o,ZI.o];exact Nat.add_le_add M7 tW.o
     |false=>
      simp at Ib xK;have HU1:=Z Ib;have MA:=Z xK;by_cases hs:(nn:Int)<=c.size
      ·have HQK:=Z (show nZ p c i=true by rw[hqk,ho];simp[hs]);clear bad hqk Ib xK ho hn Jo;go_wp2_with fail;refine yL.o.mono ?_;rintro e w' ⟨rfl,rfl⟩;go_wp2;refine⟨i+1,O,O,?_,HB,HP,Z λj hj=>?_,?_,?_⟩
       ·rw[HU1.o,MA.o];exact qi rfl
       ·by_cases e:j=i
        ·subst e;exact HQK.o
        ·exact HA.o j O
       ·rw[HU1.o,ZI.o];exact Nat.add_le_add hr tW.o
       ·rw[MA.o,ZI.o];exact cU M7 (dK _ _)
      ·have HF:=Z (uk (bad (by rw[hqk,ho];simp[hs])));clear bad hqk Ib xK ho hn Jo;go_wp2_with fail;refine yL.o.mono ?_;rintro e w' ⟨rfl,rfl⟩;go_wp2_with fail;refine TD rfl ?_;exact⟨by rw[HF.o];rfl,HB.o⟩
   ·obtain rfl:i=p.bw.length:=O;have yv:ia p c=true:=by unfold ia;rw[HS.o,HL.o];simp;exact HA.o
    have HF:=Z (show zq p c= .tuple #[Y ((min (oz p c p.bw.length) c.size.toNat+qh p c p.bw.length:Nat):Int),.bool (decide (min (oz p c p.bw.length) c.size.toNat+qh p c p.bw.length<=4194304))]by
     unfold zq;rw[yv,Fl];rfl)
    clear Ib xK yv;have KK:min ((oz p c p.bw.length:Nat):Int) c.size=((min (oz p c p.bw.length) c.size.toNat:Nat):Int):=O;have I9:min (oz p c p.bw.length) c.size.toNat<=1048576:=O;generalize hr9:oz p c p.bw.length=r9 at*;generalize hg9:qh p c p.bw.length=g9 at*;go_wp2_with fail;refine TD rfl ?_;have e:decide (((min r9 c.size.toNat:Nat):Int)+(g9:Int)<=4194304)=decide (min r9 c.size.toNat+g9<=4194304):=by rw[decide_eq_decide];omega
    exact⟨by rw[HF.o,<-e];rfl,HB.o⟩
end Go.Vf
section
def TR{p:Prop}(h:p:=by
 rintro a W ⟨J,i,-,-,-,-,-,-,h1,h2,-⟩;omega):p:=h
namespace aj.Vm
open Go Go.RowKit aj
def acs{P:Program}{ops:Array Oper}{rest:List Oper}{op:Oper}{a:Act}{w:UK}{Q:Exit->Act->UK->Prop}(Bz:op.guard=K7)(ty:TypeId)(x y:Operand)(ho:op.op= .store ty x y)
 (b o:Nat) {T:TypeId} {CC:Array UL} (cells:Array UL) (hx:a.eval x= .pointer (H (G b o))) (hy:a.eval y= .agg cells) (X:aF w b T CC) (kw:o+cells.size<=CC.size) (hi:(P.info? ty).map (·.size)=H cells.size) (h1:∀v∈cells.toList,v.oneCell'=true)
 (h:∀w',aF w' b T (CC.toList.take o++cells.toList++CC.toList.drop (o+cells.size)).toArray->aA [b] w w'->wpList P ops Q rest (a.put op.dst undef) w'):wpList P ops Q (op::rest) a w:=
 wpList_plain Bz λK hK=>by
  have hr:=run_storeCells_at P b o T cells.toList 0 CC w X (by simpa using kw) h1;have wJ:(storeVar ty (G b o) (.agg cells)).run P w= .ok () (w.setRow b (CC.toList.take o++cells.toList++CC.toList.drop (o+cells.size)).toArray):=by
   cases hq:P.info? ty with
   |none=>simp[hq]at hi
   |some i=>
    have hs:cells.size=i.size:=by simp[hq]at hi;omega
    simp only[Nat.add_zero,Array.length_toList]at hr;simp[storeVar,Go.sizeOf,typeInfo,hq,Value.cells,hs,hr]
  have:=hK _ _ (h _ (setRow_heap w b CC _ T (0,0) X) ⟨rfl,rfl,rfl,ay,λk _ hk=>setRow_other w b k _ (by simpa using hk)⟩);unfold Oper.wp execOp;simp only[ho,hx,hy,Instr.storeAt,Instr.sureAddr,Sem.run_bind,Sem.run_pure,Result.andThen_ok,wJ];exact this
end aj.Vm
namespace Go.Ma
def bj(mb n:Nat):UL:= .func (.func (EY n)) #[UI mb] #[]
def Po(mb:Nat):Array UL:=#[bj mb 0,bj mb 1,bj mb 2,bj mb 3,bj mb 4,bj mb 5,bj mb 6,bj mb 7,bj mb 8,bj mb 9,bj mb 10,bj mb 11,bj mb 12,bj mb 13,bj mb 14,bj mb 15,bj mb 16,bj mb 17,bj mb 18,bj mb 19,bj mb 20,bj mb 21,bj mb 22,bj mb 23,bj mb 24,bj mb 25,bj mb 26,bj mb 27,bj mb 28,bj mb 29,bj mb 30,bj mb 31,bj mb 32,bj mb 33,bj mb 34,bj mb 35,bj mb 36,bj mb 37,bj mb 38,bj mb 39,bj mb 40,bj mb 41]
def adK(mb:Nat):∀v∈(Po mb).toList,v.oneCell'=true:=by simp[Po,bj,Value.oneCell']
def acp:(prog.info? 110).map (·.size)=H 42:=by kernel_rfl
def wX{w:UK}{mb:Nat}{v:Nat->UL}(X:aF w mb 113 #[v 0,v 1,v 2,v 3,v 4,v 5,v 6,v 7,v 8,v 9,v 10,v 11,v 12,v 13,v 14,v 15,v 16,v 17,v 18,v 19,v 20,v 21,v 22,v 23,v 24,v 25,v 26,v 27,v 28,v 29,v 30,v 31,v 32,v 33,v 34,v 35,v 36,v 37,v 38,v 39,v 40,v 41,v 42,v 43,v 44,v 45,v 46,v 47,v 48,v 49,v 50,v 51,v 52,v 53,v 54,v 55,v 56,v 57,v 58,v 59,v 60]):
 Calls prog 58 #[UI mb] w (λe w'=>e=C8 (.tuple #[])/\aA [mb] w w'/\aF w' mb 113 #[v 0,v 1,v 2,v 3,v 4,v 5,v 6,v 7,v 8,v 9,v 10,v 11,v 12,v 13,v 14,v 15,v 16,v 17,bj mb 0,bj mb 1,bj mb 2,bj mb 3,bj mb 4,bj mb 5,bj mb 6,bj mb 7,bj mb 8,bj mb 9,bj mb 10,bj mb 11,bj mb 12,bj mb 13,bj mb 14,bj mb 15,bj mb 16,bj mb 17,bj mb 18,bj mb 19,bj mb 20,bj mb 21,bj mb 22,bj mb 23,bj mb 24,bj mb 25,bj mb 26,bj mb 27,bj mb 28,bj mb 29,bj mb 30,bj mb 31,bj mb 32,bj mb 33,bj mb 34,bj mb 35,bj mb 36,bj mb 37,bj mb 38,bj mb 39,bj mb 40,bj mb 41,v 60]):=by
 have HB:=Z X;have z_:∀(fn:Fn) (first cap:Array UL) (w:UK),(Instr.makeFunc fn first cap).run prog w= .ok (.func fn first cap) w:=λ_ _ _ _=>rfl;clear X;go_enter func58,ntmps58;go_wp2_with (refine acs rfl 110 (.tmp 89) (.tmp 87) rfl mb 18 (Po mb) ?a1 ?a2 HB.o ?a3 acp (adK mb) ?a4)
 case a2=>rfl
 case a3=>show 18+42<=61;omega
 intro w1 gm MX;have HK:=Z gm;have HF:=Z MX;clear gm MX;go_wp2_with fail;refine bodyPost_end (dJ rfl _ _ _) rfl ⟨rfl,HF.o,?_⟩;exact HK.o
end Go.Ma
end
namespace Go.Ma
open Vf (Kp fW pV aZ cV ia zq Fm sJ zp iw)
def FN(J:Nat->UL):Act:={tmps:=#[J 0,J 1,J 2,J 3,J 4,J 5,J 6,J 7,J 8,J 9,J 10,J 11,J 12,J 13,J 14,J 15,J 16,J 17,J 18,J 19,J 20,J 21,J 22,J 23,J 24,J 25,J 26,J 27,J 28,J 29,J 30,J 31,J 32,J 33,J 34,J 35,J 36,J 37,J 38,J 39,J 40,J 41,J 42,J 43,J 44,J 45,J 46,J 47,J 48,J 49,J 50,J 51,J 52,J 53,J 54,J 55,J 56,J 57,J 58,J 59,J 60,J 61,J 62,J 63,J 64,J 65,J 66,J 67,J 68,J 69,J 70,J 71,J 72,J 73,J 74,J 75,J 76,J 77,J 78,J 79,J 80,J 81,J 82],defers:=[]}
def FN.of(A:Array UL)(h:A=(FN λk=>A.getD k undef).tmps):({tmps:=A,defers:=[]}:Act)=FN λk=>A.getD k undef:=by rw[h];rfl
noncomputable def nwL(k:Nat):Code:=Mk.iS Proofs.Tryz.f16.body k
def mC(v:Nat->UL):Array UL:=#[v 0,v 1,v 2,v 3,v 4,v 5,v 6,v 7,v 8,v 9,v 10,v 11,v 12,v 13,v 14,v 15,v 16,v 17,v 18,v 19,v 20,v 21,v 22,v 23,v 24,v 25,v 26,v 27,v 28,v 29,v 30,v 31,v 32,v 33,v 34,v 35,v 36,v 37,v 38,v 39,v 40,v 41,v 42,v 43,v 44,v 45,v 46,v 47,v 48,v 49,v 50,v 51,v 52,v 53,v 54,v 55,v 56,v 57,v 58,v 59,v 60]
def mi(p:aQ)(c:Cp):Bool:=ia p c&&decide (dw (aC p c)<=4194304)
def acf(w:UK)(p:aQ)(c:Cp)(e:Ending)(w':UK):Prop:=Below w.heap.size w w'/\
 (((aW p).1≠0/\e=C8 (.tuple #[.pointer K7,Y (aW p).1]))\/((aW p).1=0/\mi p c=false/\e=C8 (.tuple #[.pointer K7,Y 45]))\/
  ((aW p).1=0/\mi p c=true/\∃(C:Co) (RO:List Nat) (K:Kc),e=C8 (.tuple #[UI C.mb,Y 0])/\Mx w' C RO K p c (zs p) ⟨0,0,0,0⟩ 0 (.pointer K7)/\Gi K C.mb p c/\(∀b,b∈C.l++RO->w.heap.size<=b)))
def WT{w:UK}{e:TypeId}{size n:Nat}{v:UL}{g:Nat->UL}(h:Row w e size v n g):∃a m c,v=to a m c:=by rcases h.val with⟨e,-⟩|⟨_,_,e,-⟩<;>exact⟨_,_,_,e⟩
def Qa{P:Program}{fn:Func}{R:Ending->UK->Prop}{A:Array UL}{w:UK}{t u:Tmp}(h:fn.results=#[.tmp t,.tmp u])(hR:R (C8 (.tuple #[A.getD t undef,A.getD u undef])) w):Exit.noGoto (bodyPost P fn R) .ret {tmps:=A,defers:=[]} w:=by rw[ja];exact Vf.TD h hR
def Gj(v:Nat->UL)(o:Nat)(x:UL):Nat->UL:=λi=>if i=o then x else v i
def acy(v:Nat->UL)(a b:UL):(mC (Gj v 11 a)).setIfInBounds 11 b=mC (Gj v 11 b):=rfl
def vrC(p:aQ)(j:Nat):UL:=Y (p.vars.getD j ⟨0,0,0⟩).init
def NL(V7:UK)(p:aQ)(va:UL)(mb:Nat)(v:Nat->UL)(m:Nat)(a:Act)(W:UK):Prop:=∃(J:Nat->UL) (i:Nat) (vs:UL),a=FN J/\J 10=UI mb/\J 62=va/\J 63=Y p.vars.length/\J 64=Y i/\i<=p.vars.length/\m+i=p.vars.length+1/\
 Hid (aA [mb] V7 W)/\Hid (Row W 3 1 vs i (vrC p))/\Hid (∀b,vs.ownBlock=H b->V7.heap.size<=b)/\Hid (aF W mb 113 (mC (Gj v 11 vs)))
def C7{p:Prop}(h:p:=by
 obtain⟨-,y0,y1⟩:=fj;exact qj):p:=h
def nw1{V7:UK}{p:aQ}{va:Option Addr}{vc mb:Nat}{v:Nat->UL}{Q:Exit->Act->UK->Prop}(HV:Hid (aZ V7 3 (to va p.vars.length vc) p.vars.length (dP p)))(HM:Hid (∃cs,aF V7 mb 113 cs))(hl:p.vars.length<=16)
 (d_:∀(J:Nat->UL) W vs,J 10=UI mb->aA [mb] V7 W->Row W 3 1 vs p.vars.length (vrC p)->(∀b,vs.ownBlock=H b->V7.heap.size<=b)->aF W mb 113 (mC (Gj v 11 vs))->Q (.exit 0) (FN J) W)
 (HVM:Hid (∀b off c,0<p.vars.length->Value.slice va p.vars.length vc=to (H (G b off)) p.vars.length c->b≠mb))
 {a:Act} {W:UK} (h:NL V7 p (to va p.vars.length vc) mb v (p.vars.length+1) a W):(Code.loop (nwL 0)).wp prog Q a W:=by
 refine Mk.aN (λm a W=>NL V7 p (to va p.vars.length vc) mb v m a W) (p.vars.length+1) h ?_ ?_
 ·rintro a W ⟨J,i,vs,-,-,-,-,-,h1,h2,-⟩;omega
 rintro m a0 W ⟨J,i,vs,rfl,nM,j62,j63,j64,hi,hm,HF,HR,HO,HB⟩;unfold FN
 conv=>arg 2;whnf
 have w2:=mO i O;rw[nM,j62,j63,j64];clear nM j62 j63 j64;by_cases be:i<p.vars.length
 ·obtain⟨b,off,cap,e,q1,q2,lb,hc⟩:=HV.o.some O O;have hbm:=HVM.o b off cap O e;simp only[cM]at e;obtain⟨rfl,-,rfl⟩:=e;have gU:∀k,k<3->UJ W (G b (off+i*3+k))=H (dP p (i*3+k)):=λk hk=>by have h9:=hc (i*3+k) O;rw[<-Nat.add_assoc]at h9;exact(dN (HF.o.block _ lb (by simpa using hbm))).trans h9
  have c0:=gU 0 O;have c1:=gU 1 O;have c2:=gU 2 O;obtain⟨x,hx⟩:∃x,p.vars.getD i ⟨0,0,0⟩=x:=⟨_,rfl⟩;have Oz:dP p (i*3+0)=Y x.init/\dP p (i*3+1)=Y x.lo/\dP p (i*3+2)=Y x.hi:=by unfold dP;rw[show(i*3+0) / 3=i by omega,show(i*3+1) / 3=i by omega,show(i*3+2) / 3=i by omega,show(i*3+0) % 3=0 by omega,show(i*3+1) % 3=1 by omega,show(i*3+2) % 3=2 by omega,hx];exact⟨rfl,rfl,rfl⟩
  rw[Oz.1,Nat.add_zero]at c0;rw[Oz.2.1]at c1;rw[Oz.2.2]at c2;have HX:=Z hx;have dE:=Z be;clear hx Oz gU hc q2;obtain⟨sa,sn,sc,rfl⟩:=WT HR.o;have lb2:=aH c0;obtain⟨W1,CW⟩:∃W1,W1=W.alloc (QP #[Y x.init,Y x.lo,Y x.hi] 122):=⟨_,rfl⟩;have k1:aF W1 W.heap.size 122 #[Y x.init,Y x.lo,Y x.hi]:=by rw[CW];exact aF.new _ _ _
  have fI:Below W.heap.size W W1:=by rw[CW];exact(aB _ _).alloc (aL _) _
  have Jl:=HB.o.of (fI.block _ HB.o.lt);have Dt:=HR.o.aG (aA.af (S:=[]) fI) ay;have TO:UJ W1 (G mb 11)=H (to sa sn sc):=Jl.cell 11;have z0:=k1.c1;have Mr:mb∉(Value.slice sa sn sc).ownBlock.toList:=λhh=>HR.o.eZ HB.o bd (by simpa using hh);have TM:W.heap.size∉(Value.slice sa sn sc).ownBlock.toList:=λhh=>by have:=(fE HR.o W.heap.size (by simpa using hh)).2;omega
  have HN:=Z (And.intro Mr TM);have Dn:=Z Jl;have Dk:=Z Dt;have HFW:=Z ((aA.af (S:=[mb]) fI));have zH:=Z fI.size;have lm:=Jl.lt;have lk:=k1.lt;have jN:Hid (i+1<=maxLen/\(i+1)*8<=140737488355328):=Z ⟨by unfold maxLen;omega,O⟩;clear k1 fI Jl Dt Mr TM;go_wp2_with fail;rw[<-CW];clear CW c0 c1 c2 lb2 lb;generalize GZ:W.heap.size=vb at*;have HVB:=Z GZ;clear GZ;refine Gd.region [11] (λ_=>True) (λwx=>UJ wx (G mb 11)=H (to sa sn sc)/\UJ wx (G vb 0)=H (Y x.init)) bh ⟨trivial,TO,z0⟩ (λau=>?_);have HD:=Z (az W1.heap.size W1 1);change Hid (Below W1.heap.size W1 W1.drew)at HD;generalize W1.drew=V0 at*;refine Mk.Rr 0 (v:=?_) rfl (λwz fj=>?_) au ?_;rotate_left
  ·exact C7
  refine Mk.pt ?_;refine Mk.Rr 1 (v:=?_) rfl (λwz fj=>?_) au ?_;rotate_left
  ·exact C7
  refine Mk.pt ?_;refine Mk.Rr 2 (v:=?_) rfl (λwz fj=>?_) au ?_;rotate_left
  ·exact C7
  refine Mk.pt ?_;refine Mk.Rr 3 (v:=?_) rfl (λwz fj=>?_) au ?_;rotate_left
  ·exact C7
  refine Mk.pt ?_;refine Mk.Rr 4 (v:=?_) rfl (λwz fj=>?_) au ?_;rotate_left
  ·exact C7
  refine Mk.pt ?_;refine Mk.Rr 5 (v:=?_) rfl (λwz fj=>?_) au ?_;rotate_left
  ·exact C7
  refine Mk.pt ?_;refine Mk.Rr 6 (v:=?_) rfl (λwz fj=>?_) au ?_;rotate_left
  ·exact C7
  refine Mk.pt ?_;refine Mk.Yb (rs:=[7]) (Gd.eC.cons rfl (λK hK=>?_) Gd.eC.nil);refine fH ?_;go_simp;have dC:Below W1.heap.size W1 (V0.alloc (QP #[Y x.init] 3)):=HD.o.alloc HD.o.size _;have Bj:(V0.alloc (QP #[Y x.init] 3)).cell? (G mb 11)=H (to sa sn sc)/\(V0.alloc (QP #[Y x.init] 3)).cell? (G vb 0)=H (Y x.init):=⟨(dN (dC.block _ lm)).trans TO,(dN (dC.block _ lk)).trans z0⟩;clear au;refine hK.out _ _ ⟨trivial,Bj⟩ (λau=>?_);clear hK K;refine Mk.pt ?_;refine Mk.Yb (rs:=[8]) (Gd.eC.cons rfl (λK hK=>?_) Gd.eC.nil);refine cJ rfl (.tmp 72) (.tmp 75) 24 rfl 3 underlying24 Vf.ck rfl bd (to sa sn sc) i (vrC p) (by simp[Act.eval,Act.put]) (Dk.o.aG (aA.af (S:=[]) dC) ay) (G V0.heap.size 0) 1 1 (λ_=> Y x.init) (by simp[Act.eval,Act.put]) ?_ (λj _=>rfl) jN.o.1 jN.o.2 ?_
  ·intro j hj;obtain rfl:j=0:=O;exact(aF.new V0 3 #[Y x.init]).cell 0
  intro v2 w2 r2 f2 i2;obtain⟨WU,WV,WW,rfl⟩:=WT r2;have Dq:UJ w2 (G mb 11)=H (to sa sn sc)/\UJ w2 (G vb 0)=H (Y x.init):=⟨(dN (f2.block _ (aH Bj.1) HN.o.1)).trans Bj.1,(dN (f2.block _ (aH Bj.2) HN.o.2)).trans Bj.2⟩;have jZ:=(Dn.o.of (dC.block _ Dn.o.lt)).aG f2 HN.o.1;have nI:=Z jZ;have sR:=Z (show Row w2 3 1 (to WU WV WW) (i+1) (vrC p)from r2.congr (λo ho=>by
   unfold fY vrC;by_cases e:o<i*1
   ·rw[bk e]
   ·rw[aw e];obtain rfl:o=i:=O;rw[HX.o]))
  have Ay:=Z (show aA [mb] V7 (w2.setCell (G mb 11) (to WU WV WW))from by
   have g1:aA [mb] V7 (V0.alloc (QP #[Y x.init] 3)):=(HF.o.trans HFW.o).trans (aA.af dC);have g2:aA [mb] V7 w2:=⟨f2.os.trans g1.os,f2.tape.trans g1.tape,f2.output.trans g1.output,cU g1.size f2.size,λk hk hn=>(f2.block k (eJ hk g1.size) (λhm=>by have:=HO.o k (by simpa using hm);omega)).trans (g1.block k hk hn)⟩;exact g2.setCell (p:=(G mb 11)) ay _)
  have yL:=Z (show∀b,(Value.slice WU WV WW).ownBlock=H b->V7.heap.size<=b from λb X=>by
   rcases i2 with h|h
   ·exact HO.o b (by rw[<-h];exact X)
   ·rw[h]at X;have h1:=sd X;have h2:=dC.size;have h3:=HF.o.size;have h4:=HFW.o.size;simp only[aM]at h1 h2;omega)
  obtain⟨y0,y1⟩:=Dq;have ET:UJ w2 (G mb 11)=H (to sa sn sc)/\UJ w2 (G vb 0)=H (Y x.init):=⟨y0,y1⟩;have fz:=jZ.frozen;have ZP:=jZ.lt;clear au jZ r2 f2 i2 Bj dC;refine hK.out _ _ ⟨trivial,ET⟩ (λau=>?_);clear hK K;refine Mk.pt ?_;refine Mk.Rr 9 (v:=?_) rfl (λwz fj=>?_) au ?_;rotate_left
  ·exact C7
  refine Mk.pt ?_;refine Mk.Rr 10 (v:=?_) rfl (λwz fj=>?_) au ?_;rotate_left
  ·exact C7
  refine Mk.pt ?_;refine Mk.Yb (rs:=[11]) (Gd.eC.last rfl bh (λK hK=>?_) Gd.eC.nil);refine fH ?_;go_simp;refine hK.out _ _ trivial ?_;clear hK K;refine Mk.pt ?_;refine Gd.done bh ⟨rfl,?_⟩ _;have eF:=Z (show aF (w2.setCell (G mb 11) (to WU WV WW)) mb 113 (mC (Gj v 11 (to WU WV WW)))by rw[<-acy v (to sa sn sc)];exact nI.o.set 11 _);have HR3:=Z (sR.o.other (c:=mb) (λe=>(sR.o.eZ nI.o bd) e) 11 (to WU WV WW));clear au y0 y1 ET fz ZP;go_wp2;exact⟨_,i+1,_,FN.of _ rfl,rfl,rfl,rfl,rfl,dE.o,O,Ay,HR3,yL,eF⟩
 ·obtain rfl:i=p.vars.length:=O;clear be;go_wp2;exact Eq.mpr (bu (λa=>Q (.exit 0) a W) (FN.of _ rfl)) (d_ _ _ _ rfl HF.o HR.o HO.o HB.o)
def ZQ(K:Kp)(p:aQ)(c:Cp)(qs:UL)(nd:Int)(z:UL):Nat->UL:=λi=>if i<18 then(#[K.g,K.v,K.t,K.o,Y p.aT,K.c,Y c.size,qs,Y nd,.pointer K7,.pointer K7,Pl,Y 0,Y 0,Y 0,Y 0,Y 0,Y 0]:Array UL).getD i undef else if i<60 then z else .pointer K7
def RN2(w W2:UK)(p:aQ)(c:Cp)(nd:Int)(a:Act)(W:UK):Prop:=∃(J:Nat->UL) (K:Kp) (qs z:UL) (mb:Nat),a=FN J/\J 2=UI w.heap.size/\J 8=Y nd/\J 10=UI mb/\Hid (Below W2.heap.size W2 W)/\Hid (Vf.P7 W2 W K p)/\Hid (Vf.Own W2 W 3 1 c.aK.length qs (aX c.aK))/\Hid (aF W mb 113 (mC (ZQ K p c qs nd z)))/\Hid (W2.heap.size<=mb)
def ace{w W5 W6 V6 W7 V7 W9:UK}{K1:Kp}{p:aQ}{c:Cp}{qs vs:UL}{mb:Nat}(sr:bq p=0)(tb:tM p)(yv:mi p c=true)(jo:∃W2:UK,w.heap.size<=W2.heap.size/\Vf.P7 W2 W5 K1 p/\Vf.Own W2 W5 3 1 c.aK.length qs (aX c.aK)/\W2.heap.size<=mb)(CQ:Below w.heap.size w W5)
 (WS:∃cs,aF W5 mb 113 cs) (f6:aA [] W5 W6) (ha6:eB.bS W6 (W5.heap.size+1) Pl (to (H (G W5.heap.size 0)) p.bw.length p.bw.length) (dw (aC p c)) p.bw.length eB.BR) (g6:aA [mb] W6 V6)
 (f7:aA [] V6 W7) (hi7:Ix.cX W7 (V6.heap.size+1) V6.heap.size (dw (aC p c)) 0 (λ_=>K7)) (hz7:W7.heap.size=V6.heap.size+2) (g7:aA [mb] W7 V7) (hs7:V7.heap.size=W7.heap.size) (g9:aA [mb] V7 W9) (hvs:Row W9 3 1 vs p.vars.length (vrC p)) (hvl:∀b,vs.ownBlock=H b->V7.heap.size<=b)
 (hmc:aF W9 mb 113 (iJ ⟨K1.g,K1.v,K1.t,K1.o,K1.c,qs,dw (aC p c),λn=>bj mb n⟩ ⟨mb,W5.heap.size+1,V6.heap.size+1,V6.heap.size,Pl,to (H (G W5.heap.size 0)) p.bw.length p.bw.length,vs⟩ p c 0 ⟨0,0,0,0⟩ 0 (.pointer K7))):
 Below w.heap.size w W9/\∃(C:Co) (RO:List Nat) (K:Kc),C.mb=mb/\Mx W9 C RO K p c (zs p) ⟨0,0,0,0⟩ 0 (.pointer K7)/\Gi K C.mb p c/\(∀b,b∈C.l++RO->w.heap.size<=b):=by
 obtain⟨W2,h2,Gp,hqo,oR⟩:=jo;obtain⟨cs5,WS⟩:=WS;have I9:=WS.lt;have up:∀{a0c a0a:UK},aA [] a0c a0a->aA [mb] a0c a0a:=λf=>f.mono ay;have f59:aA [mb] W5 W9:=((((up f6).trans g6).trans (up f7)).trans g7).trans g9;have afg:W5.heap.size+1<W6.heap.size:=by obtain⟨R,A,hc,-⟩:=ha6;exact hc.head.lt
 have s6:=g6.size;have s9:=g9.size;have MC:∀{E:TypeId} {size n:Nat} {v:UL} {g:Nat->UL},Vf.Own W2 W5 E size n v g->E≠113->Row W9 E size v n g/\(∀b,b∈vb v->W2.heap.size<=b/\b<W5.heap.size/\b≠mb):=λh hE=>by have bm:∀b,b∈vb _->b≠mb:=λb X e=>h.1.eZ WS hE (by rw[<-e];exact aU.1 X);exact⟨h.1.aG f59 (λb X=>by have:=bm b (aU.2 X);simpa using this),λb X=>⟨(h.2 b (aU.1 X)).1,(h.2 b (aU.1 X)).2,bm b X⟩⟩
 obtain⟨rg,afZ⟩:=MC Gp.g bd;obtain⟨rv,acd⟩:=MC Gp.v bd;obtain⟨rt,it⟩:=MC Gp.t bd;obtain⟨ro,acb⟩:=MC Gp.o bd;obtain⟨rc,aca⟩:=MC Gp.c bd;obtain⟨ab9,ab8⟩:=MC hqo bd;have hRO:∀b,b∈vb K1.g++vb K1.v++vb K1.t++vb K1.o++vb K1.c++vb qs->W2.heap.size<=b/\b<W5.heap.size/\b≠mb:=by
  intro b X;simp only[dV]at X;rcases X with((((X|X)|X)|X)|X)|X
  ·exact afZ b X
  ·exact acd b X
  ·exact it b X
  ·exact acb b X
  ·exact aca b X
  ·exact ab8 b X
 have GZ:∀b,b∈vb vs->V7.heap.size<=b/\b<W9.heap.size:=λb X=>⟨hvl b (aU.1 X),(fE hvs b (aU.1 X)).2⟩;have hvn:(vb vs).Nodup:=by unfold vb;cases vs.ownBlock<;>simp
 have Io:=yv;unfold mi at Io;simp only[fp,ft]at Io;have kw:W5.heap.size<=W9.heap.size:=f59.size;refine⟨CQ.trans (f59.below CQ.size jz),⟨mb,W5.heap.size+1,V6.heap.size+1,V6.heap.size,Pl,to (H (G W5.heap.size 0)) p.bw.length p.bw.length,vs⟩,vb K1.g++vb K1.v++vb K1.t++vb K1.o++vb K1.c++vb qs,⟨K1.g,K1.v,K1.t,K1.o,K1.c,qs,dw (aC p c),λn=>bj mb n⟩,rfl,⟨⟨hmc,⟨rg,rv,rt,ro,rc,ab9,?_⟩,?_,?_,hvs⟩,⟨?_,?_,?_,?_⟩⟩,⟨Vf.Bl Io.1,rfl,Io.2,sr,λn _=>rfl⟩,?_⟩
 ·intro b X;simp only[dV];rcases X with X|X|X|X|X|X<;>simp[X]
 ·refine ha6.aG (((g6.trans (up f7)).trans g7).trans g9) ?_;intro b X;simp only[bp,Value.ownBlock,Option.toList,fh,List.nil_append,List.not_mem_nil,or_false]at X;rcases X with rfl|rfl<;>simp<;>omega
 ·have h0:e_ p (zs p).a=0:=eB.xQ _;show Ix.cX W9 (V6.heap.size+1) V6.heap.size (dw (aC p c)) (e_ p (zs p).a) (zs p).f;rw[h0];have e1:V6.heap.size+1≠mb:=O;have e2:V6.heap.size≠mb:=O;exact hi7.aG (g7.trans g9) ⟨by simpa using e1,by simpa using e2⟩
 ·simp only[Co.l,bp,Value.ownBlock,Option.toList,List.nil_append,List.cons_append];simp only[List.nodup_cons,fh,dV,List.not_mem_nil,or_false,not_or];refine⟨⟨O,O,O,O,λh=>?_⟩,⟨O,O,O,λh=>?_⟩,⟨O,O,λh=>?_⟩,⟨O,λh=>?_⟩,λh=>?_,hvn⟩
  all_goals (have:=(GZ _ h).1;omega)
 ·intro b X;simp only[Co.l,bp,Value.ownBlock,Option.toList,List.nil_append,List.cons_append,fh,dV,List.not_mem_nil,or_false]at X;rcases X with rfl|rfl|rfl|rfl|rfl|X
  ·omega
  ·omega
  ·omega
  ·omega
  ·omega
  ·exact(GZ b X).2
 ·intro b X hr;have h1:=hRO b hr;simp only[Co.l,bp,Value.ownBlock,Option.toList,List.nil_append,List.cons_append,fh,dV,List.not_mem_nil,or_false]at X;rcases X with rfl|rfl|rfl|rfl|rfl|X
  ·exact h1.2.2 rfl
  ·omega
  ·omega
  ·omega
  ·omega
  ·have:=(GZ b X).1;omega
 ·intro b X;have:=hRO b X;omega
 ·intro b X;rw[dV]at X;rcases X with X|X
  ·simp only[Co.l,bp,Value.ownBlock,Option.toList,List.nil_append,List.cons_append,fh,dV,List.not_mem_nil,or_false]at X;have:=CQ.size;rcases X with rfl|rfl|rfl|rfl|rfl|X
   ·omega
   ·omega
   ·omega
   ·omega
   ·omega
   ·have:=(GZ b X).1;omega
  ·have:=(hRO b X).1;omega
def Ef{w:UK}{K:Kp}{p:aQ}{c:Cp}{qv:UL}(h:fW w K p)(hq:aZ w 1 qv c.aK.length (aX c.aK)):Calls prog 16 #[pV K p,cV c qv] w (acf w p c):=by
 obtain⟨⟨ga,gc,g1,g2,g3⟩,⟨va,vc,v1,v2,v3⟩,⟨ta,tc,t1,t2,t3⟩,⟨oa,oc,o1,o2,o3⟩,⟨ca,cc,c1,c2,c3⟩⟩:=h.sl;obtain⟨qa,qc,rfl,-,-⟩:=hq.val;have LW:=Z (λV (X:Below w.heap.size w V)=>Vf.IF (w:=V) (h.aG (aA.af X)));have HFT:=Z (λV (X:Below w.heap.size w V) hg=>Vf.IG V (c:=c) (h.aG (aA.af X)) (hq.aG (aA.af X)) hg);have HTW:=Z (λV (X:Below w.heap.size w V) hm=>Vf.acu V (h.aG (aA.af X)) hm);have yM:=Z (λV (X:Below w.heap.size w V) hn=>Vf.mM (w:=V) (hq.aG (aA.af X)) hn (λ_ _=>rfl));have a0f:=Z h;have HQ:=Z hq;obtain⟨W0,kX⟩:∃W0,W0=(w.alloc (QP #[to ga p.bw.length gc,to va p.vars.length vc,to ta p.aS.length tc,to oa p.on.length oc,Y p.aT,to ca p.code.length cc] 27)).alloc (QP #[Y c.size,to qa c.aK.length qc] 29):=⟨_,rfl⟩;have kp:aF W0 w.heap.size 27 #[to ga p.bw.length gc,to va p.vars.length vc,to ta p.aS.length tc,to oa p.on.length oc,Y p.aT,to ca p.code.length cc]:=by rw[kX];exact(aF.new _ _ _).alloc _
 have kc:aF W0 (w.heap.size+1) 29 #[Y c.size,to qa c.aK.length qc]:=by rw[kX];exact aF.bR ay
 have ep:Below w.heap.size w W0:=by rw[kX];exact((aB _ _).alloc (aL _) _).alloc ay _
 have HKV:=Z v1;unfold pV cV at*;rw[g1,v1,t1,o1,c1]at LW HFT HTW ⊢;clear h hq g1 v1 t1 o1 c1 g2 g3 v2 v3 t2 t3 o2 o3 c2 c3;go_enter func16,ntmps16;go_wp2_with fail;rw[<-kX];refine(LW.o _ ep).mono ?_;rintro e W1 ⟨w_,ms,rfl,⟨x9,y9,z9,rfl⟩,X,h1⟩;have KP:=Z (kp.of (X.block _ kp.lt));have KC:=Z (kc.of (X.block _ kc.lt));have cR:=Z (ep.trans (X.mono ep.size));have tu:=Z (show w.heap.size+1<W1.heap.size by have:=X.size;have:=kc.lt;omega);have H1:=Z h1;clear kp kc X ep kX h1 LW;obtain⟨ve,ZR⟩:∃v,aW p=v:=⟨_,rfl⟩;have Ua:=Z ZR;rw[ZR]at H1 ⊢;obtain⟨e1,e2⟩:=ve;clear ZR;dsimp only;obtain⟨p0,p1,p2,p3,p4,p5⟩:=KP.o.c6;obtain⟨k0,k1⟩:=KC.o.c2;have lp:=KP.o.lt;have lc:=KC.o.lt;have ZS:=Z (λcs T vF T2=>(cR.o.alloc cR.o.size (QP cs T)).alloc (by simp;have:=cR.o.size;omega) (QP vF T2));by_cases he:e1=0
 case neg=>
  have bm:(e1 !=0)=true:=by simpa using he
  have HE:=Z he;clear he;go_wp2;go_quiet (fail);go_wp2_with fail;refine Qa rfl ?_;exact⟨(ZS.o _ _ _ _).trans (az _ _ _),.inl ⟨by rw[Ua.o];exact HE.o,by rw[Ua.o];rfl⟩⟩
 subst he;have Nn:=Z (show bq p=0 by
  by_cases h0:bq p=0
  ·exact h0
  ·have:=Ua.o;unfold aW at this;rw[bk h0]at this;exact absurd (Prod.mk.inj this).1 h0)
 have TB:=Z (cE Nn.o).1;have zt:=TB.o.g;have Ub:=Z (λV X=>HFT.o V X zt);unfold zq at Ub;have HNK:=Z (show(ia p c&&decide (dw (aC p c)<=4194304))=mi p c from rfl);rw[HNK.o]at Ub;generalize gP:(if ia p c=true then((dw (aC p c):Nat):Int)else 0)=nd at*;have M0:=Z gP;clear gP zt HFT;go_wp2_with fail;refine(Ub.o _ (ZS.o _ _ _ _)).mono ?_;rintro e W2 ⟨rfl,X⟩;have dC:Below W1.heap.size W1 W2:=(((aB _ _).alloc (aL _) _).alloc ay _).trans (X.mono jz);have KP2:=Z (KP.o.of (dC.block _ KP.o.lt));have KC2:=Z (KC.o.of (dC.block _ KC.o.lt));have eF:=Z (cR.o.trans (dC.mono cR.o.size));have wL:=Z (show w.heap.size+1<W2.heap.size by have:=tu.o;have:=dC.size;omega);clear X dC p0 p1 p2 p3 p4 p5 k0 k1 lp lc ZS Ub;cases yv:mi p c with
 |false=>have Ad:=Z yv;clear yv;go_wp2_with fail;refine Qa rfl ?_;exact⟨eF.o,.inr (.inl ⟨by rw[Ua.o],Ad.o,rfl⟩)⟩
 |true=>
 have Ad:=Z yv;clear yv;obtain⟨p0,p1,p2,p3,p4,p5⟩:=KP2.o.c6;obtain⟨k0,k1⟩:=KC2.o.c2;have lp:=KP2.o.lt;have lc:=KC2.o.lt;have aew:=Z (show Vf.Mod p from⟨by have:=TB.o.g;omega,by have:=TB.o.v;omega,by have:=TB.o.t;omega,by have:=TB.o.on;have:=TB.o.g;omega,by have:=TB.o.code;omega⟩);have HQ8:=Z (show c.aK.length*8<=140737488355328 by
  have h:=Ad.o;unfold mi ia at h;simp only[fp,ft]at h;have:=h.1.1.2;have:=TB.o.g;omega)
 have Zg:=Z (show nd=((dw (aC p c):Nat):Int)/\dw (aC p c)<=4194304 by
  have h:=Ad.o;unfold mi at h;simp only[fp,ft]at h;rw[<-M0.o,bk h.1];exact⟨rfl,h.2⟩)
 have PG:=Z (λV (X:Below W2.heap.size W2 V)=>HTW.o V (eF.o.trans (X.mono eF.o.size)) aew.o);have p9:=Z (λV (X:Below W2.heap.size W2 V)=>yM.o V (eF.o.trans (X.mono eF.o.size)) HQ8.o);clear HTW yM;go_wp2;refine wp_mono (Q:=λe a W=>e=Exit.normal/\RN2 w W2 p c nd a W) ?_ ?_
 ·refine Mk.bH (S:=λwx=>Below W2.heap.size W2 wx) bh (az _ W2 1) (λau=>?_);refine Mk.tk 0 (v:=?_) rfl (λwz fj=>?_) au ?_;rotate_left
  ·have key:∀b i v,b<W2.heap.size->UJ W2 (G b i)=H v->UJ wz (G b i)=H v:=λb i v X hc=>(dN (fj.block _ X)).trans hc;exact qX5
  refine Mk.pt ?_;refine Mk.fC 2 ?_;refine Mk.tk 3 (v:=?_) rfl (λwz fj=>?_) au ?_;rotate_left
  ·have key:∀b i v,b<W2.heap.size->UJ W2 (G b i)=H v->UJ wz (G b i)=H v:=λb i v X hc=>(dN (fj.block _ X)).trans hc;have y0:=key _ _ _ lc k0;exact qj
  refine Mk.pt ?_;refine Mk.fC 4 ?_;refine Mk.tk 5 (v:=?_) rfl (λwz fj=>?_) au ?_;rotate_left
  ·have key:∀b i v,b<W2.heap.size->UJ W2 (G b i)=H v->UJ wz (G b i)=H v:=λb i v X hc=>(dN (fj.block _ X)).trans hc;have y0:=key _ _ _ lc k1;exact qj
  refine Mk.pt ?_;refine Mk.fC 8 ?_;refine Mk.oD (rs:=[1]) (bZ rfl (λK9 hK=>?_) cz);refine fH ?_;go_simp;refine(PG.o _ au).mono ?_;rintro e Wt ⟨K1,rfl,Gp,hbt⟩;obtain⟨kg,kv,kt,ko,kc⟩:=K1;obtain⟨ag,mg,cg,eg⟩:=WT Gp.g.1;obtain⟨av,mv,cv,ev⟩:=WT Gp.v.1;obtain⟨at_,mt,ct,et⟩:=WT Gp.t.1;obtain⟨ao,mo,co,eo⟩:=WT Gp.o.1;obtain⟨ac,mc,cc9,ec⟩:=WT Gp.c.1;dsimp only at eg ev et eo ec;subst eg ev et eo ec;unfold pV;dsimp only;have hS:=au.trans (hbt.mono au.size);have afh:=au.size;clear au;refine hK.out _ _ hS (λau=>?_);clear hK K9;refine Mk.pt ?_;refine Mk.oD (rs:=[6]) (bZ rfl (λK9 hK=>?_) cz);refine fH ?_;go_simp;refine(p9.o _ au).mono ?_;rintro e ab7 ⟨qs,rfl,hrq,hbq,hiq⟩;obtain⟨aq,mq,cq,rfl⟩:=WT hrq;have hS:=au.trans (hbq.mono au.size);have p8:=au.size;clear au;refine hK.out _ _ hS (λau=>?_);clear hK K9;refine Mk.pt ?_;refine Mk.fC 7 ?_;refine Mk.fC 9 ?_;refine Mk.oD (rs:=[10]) (bZ rfl (λK9 hK=>?_) cz);refine fH ?_;go_simp;refine hK.out _ _ (au.alloc au.size _) (λau=>?_);clear hK K9;refine Mk.pt ?_;refine Mk.fC 11 ?_;refine nW bh ⟨rfl,rfl,_,⟨to ag mg cg,to av mv cv,to at_ mt ct,to ao mo co,to ac mc cc9⟩,to aq mq cq,.nilFunc,_,FN.of _ rfl,rfl,rfl,rfl,Z au,Z ?_,Z ⟨hrq.alloc _,hiq.mono p8 ay⟩,Z ?_,Z (cU p8 hbq.size)⟩ _
  ·have h0:Vf.P7 W2 Wt ⟨to ag mg cg,to av mv cv,to at_ mt ct,to ao mo co,to ac mc cc9⟩ p:=⟨Gp.g,Gp.v,Gp.t,Gp.o,Gp.c⟩;have wD:Below Wt.heap.size Wt (ab7.alloc (QP #[to ag mg cg,to av mv cv,to at_ mt ct,to ao mo co,Y p.aT,to ac mc cc9,Y c.size,to aq mq cq,Y nd,.pointer K7,.pointer K7,Pl,Y 0,Y 0,Y 0,Y 0,Y 0,Y 0,.nilFunc,.nilFunc,.nilFunc,.nilFunc,.nilFunc,.nilFunc,.nilFunc,.nilFunc,.nilFunc,.nilFunc,.nilFunc,.nilFunc,.nilFunc,.nilFunc,.nilFunc,.nilFunc,.nilFunc,.nilFunc,.nilFunc,.nilFunc,.nilFunc,.nilFunc,.nilFunc,.nilFunc,.nilFunc,.nilFunc,.nilFunc,.nilFunc,.nilFunc,.nilFunc,.nilFunc,.nilFunc,.nilFunc,.nilFunc,.nilFunc,.nilFunc,.nilFunc,.nilFunc,.nilFunc,.nilFunc,.nilFunc,.nilFunc,.pointer K7] 113)):=hbq.alloc hbq.size _;exact⟨h0.g.later wD,h0.v.later wD,h0.t.later wD,h0.o.later wD,h0.c.later wD⟩
  ·exact aF.new _ _ _
 rintro e a W5 ⟨rfl,J,K1,qs,z,mb,rfl,j2,j8,nM,nU,HPO,HQS,wI,jN⟩;clear p0 p1 p2 p3 p4 p5 k0 k1 lp lc PG p9;unfold FN;have hN:=Zg.o.1;rw[j2,j8,nM,hN];have hN4:=Zg.o.2;subst hN;clear j2 j8 nM M0;have ZT:=Z (eF.o.trans (nU.o.mono eF.o.size));have KP5:=Z (KP2.o.of (nU.o.block _ KP2.o.lt));have HWL:=Z (show w.heap.size≠mb by have:=wL.o;have:=jN.o;omega);have p0:=KP5.o.c1;have lp:=KP5.o.lt;have zt:=TB.o.g;have HAR:=Z (λV=>eB.Ef (dw (aC p c)) p.bw.length V hN4 O);have HIX:=Z (λV=>Ix.Z2 (dw (aC p c)) V hN4);generalize hNN:dw (aC p c)=N at*;have tW:=Z hNN;clear hNN;go_wp2_with fail;refine(HAR.o W5).mono ?_;rintro e W6 ⟨rfl,f6,ha6⟩;have km6:aF W6 mb 113 (mC (ZQ K1 p c qs N z)):=wI.o.aG f6 ay;have m9:UJ W6 (G mb 9)=H (.pointer K7):=km6.cell 9;have fz6:=km6.frozen;have lm6:=km6.lt;have Uc:=Z (show aF (W6.setCell (G mb 9) (UI (W5.heap.size+1))) mb 113 (mC (Gj (ZQ K1 p c qs N z) 9 (UI (W5.heap.size+1))))from km6.set 9 _);have We:=Z (show aA [mb] W6 (W6.setCell (G mb 9) (UI (W5.heap.size+1)))from(aA.refl _ _).setCell (p:=(G mb 9)) ay _);have MZ:=Z f6;have HA6:=Z ha6;clear f6 ha6 km6 p0 lp;go_wp2_with fail;obtain⟨V6,hV6⟩:∃V,V=W6.setCell (G mb 9) (UI (W5.heap.size+1)):=⟨_,rfl⟩;rw[<-hV6]at Uc We ⊢;clear m9 fz6 lm6 hV6;refine(HIX.o V6).mono ?_;rintro r W7 ⟨rfl,f7,hi7,hz7⟩;have km7:aF W7 mb 113 (mC (Gj (ZQ K1 p c qs N z) 9 (UI (W5.heap.size+1)))):=Uc.o.aG f7 ay;have m10:UJ W7 (G mb 10)=H (.pointer K7):=km7.cell 10;have fz7:=km7.frozen;have lm7:=km7.lt;have ZU:aA [mb] W5 W7:=(((aA.mono MZ.o ay).trans We.o).trans (aA.mono f7 ay));have kp7:=KP5.o.aG ZU (by have:=HWL.o;simpa using this);have p1:UJ W7 (G w.heap.size 1)=H (to va p.vars.length vc):=kp7.cell 1;have lp:=kp7.lt;have HG7:=Z (show aA [mb] W7 (W7.setCell (G mb 10) (UI (V6.heap.size+1)))from(aA.refl _ _).setCell (p:=(G mb 10)) ay _);have HM7:=Z (show aF (W7.setCell (G mb 10) (UI (V6.heap.size+1))) mb 113 (mC (Gj (Gj (ZQ K1 p c qs N z) 9 (UI (W5.heap.size+1))) 10 (UI (V6.heap.size+1))))from km7.set 10 _);have Rk:=Z f7;have HI7:=Z hi7;have HZ7:=Z hz7;have aex:=Z ZU;have hnw:=HWL.o;clear f7 hi7 hz7 km7 ZU kp7;go_wp2_with fail;obtain⟨V7,hV7⟩:∃V,V=W7.setCell (G mb 10) (UI (V6.heap.size+1)):=⟨_,rfl⟩;have HS7:=Z (show V7.heap.size=W7.heap.size by rw[hV7];simp);rw[<-hV7]at HG7 HM7 ⊢;clear m10 fz7 lm7 p1 lp hV7 hnw;have HVR:=Z (show aZ V7 3 (to va p.vars.length vc) p.vars.length (dP p)by
  have h0:=a0f.o.v;rw[HKV.o]at h0;exact h0.aG (aA.af (ZT.o.trans ((aex.o.trans HG7.o).below ZT.o.size (by have:=jN.o;have:=eF.o.size;simp;omega)))))
 refine nw1 (V7:=V7) (mb:=mb) (v:=Gj (Gj (ZQ K1 p c qs N z) 9 (UI (W5.heap.size+1))) 10 (UI (V6.heap.size+1))) HVR (Z ⟨_,HM7.o⟩) TB.o.v (λJ W8 vs nM ZV hr8 ho8 OK=>?_) (Z (λb off cp hn e=>?_)) ⟨_,0,Pl,FN.of _ rfl,rfl,rfl,rfl,rfl,cK _,O,Z (aA.refl _ _),Z (Row.nil _ _ _ _),Z (λb X=>by cases X),Z HM7.o⟩;rotate_left
 ·have h0:=a0f.o.v;rw[HKV.o]at h0;obtain⟨b',Zp,oh,e',-,-,hl,-⟩:=h0.some hn O;rw[e]at e';simp only[cM,im,Addr.mk.injEq]at e';have:=jN.o;have:=eF.o.size;omega
 unfold FN;rw[nM];have HF8:=Z ZV;have HR8:=Z hr8;have HO8:=Z ho8;have ub:=Z (wX (v:=Gj (Gj (Gj (ZQ K1 p c qs N z) 9 (UI (W5.heap.size+1))) 10 (UI (V6.heap.size+1))) 11 vs) OK);have aey:=Z (λe=>hr8.eZ OK bd e);clear nM ZV hr8 ho8 OK;go_wp2_with fail;refine ub.o.mono ?_;rintro e W9 ⟨rfl,P5,wZ⟩;have iz:=ace (w:=w) (c:=c) Nn.o TB.o Ad.o ⟨W2,eF.o.size,HPO.o,HQS.o,jN.o⟩ ZT.o ⟨_,wI.o⟩ MZ.o (by rw[tW.o];exact HA6.o) We.o Rk.o (by rw[tW.o];exact HI7.o) HZ7.o HG7.o HS7.o (HF8.o.trans P5) (HR8.o.aG P5 (λb X hm=>aey.o (by simp at hm;rw[<-hm];exact X))) HO8.o (by rw[tW.o];exact wZ);have HD:=Z iz;clear iz P5 wZ ub;go_wp2_with fail;refine Qa rfl ?_;obtain⟨h1,C,RO,K9,rfl,h3,h4,h5⟩:=HD.o;exact⟨h1,.inr (.inr ⟨by rw[Ua.o],Ad.o,C,RO,K9,rfl,h3,h4,h5⟩)⟩
end Go.Ma
section
def zM{p:Prop}(h:p:=by
 go_wp2;exact Eq.mpr (bu (λa=>Code.wp prog Zf _ a w5) (FP.of _ rfl)) (ab6 HM.o HV.o HS.o HH.o HI.o hk Ud.o HX.o nU.o cY (λk=>Array.getD _ k undef))):p:=h
namespace Go.Ma
def Ue:Nat->Code->Code
 |0,c=>c
 |n+1,.seq _ b=>Ue n b
 |_,c=>c
def FP(bx:Nat)(X:Bool)(D:List Deferred)(J:Nat->UL):Act:={tmps:=#[J 0,J 1,UI bx,J 3,UI (bx+1),UI (bx+1+1+1),.bool X,J 7,J 8,J 9,J 10,J 11,J 12,J 13,J 14,J 15,J 16,J 17,J 18,J 19,J 20,J 21,J 22,J 23,J 24,J 25,J 26,J 27,J 28,J 29,J 30,J 31,J 32,J 33,J 34,J 35,J 36,J 37,J 38,J 39,J 40,J 41,J 42,J 43,J 44,J 45,J 46,J 47,J 48,J 49,J 50,J 51,J 52,J 53,J 54,J 55,J 56,J 57,J 58,J 59,J 60,J 61,J 62,J 63,J 64,J 65,J 66,J 67,J 68,J 69,J 70,J 71,J 72,J 73,J 74,J 75,J 76,J 77,J 78,J 79,J 80,J 81,J 82,J 83,J 84,J 85,J 86,J 87,J 88,J 89,J 90,J 91,J 92,J 93,J 94,J 95,J 96,J 97,J 98,J 99,J 100,J 101,J 102,J 103,J 104,J 105,J 106,J 107,J 108,J 109,J 110,J 111,J 112,J 113,J 114,J 115,J 116,J 117,J 118],defers:=D}
def FP.of{bx:Nat}{X:Bool}{D:List Deferred}(A:Array UL)(h:A=(FP bx X D λk=>A.getD k undef).tmps):({tmps:=A,defers:=D}:Act)=FP bx X D λk=>A.getD k undef:=by rw[h];rfl
def DD(bx:Nat):List Deferred:=[{target:= .fn (.func 61) #[UI bx,UI (bx+1+1+1),UI (bx+1)],args:=#[]}]
def Uf(bx:Nat)(X:Bool)(a:Act):Prop:=∃J,a=FP bx X (DD bx) J
noncomputable def PF:Code:=Ue 5 (Proofs.Tryz.f17.body.getD .skip)
noncomputable def Zf:Code:=match Ue 4 (Proofs.Tryz.f17.body.getD .skip)with| .seq a _=>a|c=>c
noncomputable def aez:Code:=Ue 8 (Proofs.Tryz.f17.body.getD .skip)
def half(t:dZ)(X:Bool):dZ:=if X then{t with xX:=wrap64 (t.xX+1)}else{t with mW:=wrap64 (t.mW+1)}
def ab5{w:UK}{ta:Option Addr}{n sx:Nat}{g:Nat->UL}(h:Row w 46 1 (to ta n sx) n g):Calls prog 63 #[to ta n sx] w (λe w'=>e=C8 (to ta n n)/\w=w'):=by
 rcases h.val with⟨e,h0⟩|⟨b,cap,e,h1,-,-⟩
 ·simp only[cM]at e;obtain⟨rfl,rfl,rfl⟩:=e;exact ac4 w
 ·simp only[cM]at e;obtain⟨rfl,-,rfl⟩:=e;exact agp w h1
section
variable {w w7:UK}{C C1:Co}{RO pS:List Nat}{K:Kc}{p:aQ}{c:Cp}{t:dZ}{used:Int}{s s1:St}{bx key us:Nat}{told:List Nat}{ta:Option Addr}{sx:Nat}{X:Bool}{T:Map}{wN:Int}
def ab4(h:Mx w C RO K p c s t used (.pointer K7))(a0e:Over w w7 bx C C1 pS K p c s1 t us (to ta told.length sx) told 0 (.bool false) Pl (Y 0))(hT:jc p c s key=0)(hN:nr p c s key=s1)(hH:rG p c s key=X)(hL:rR p c s key=told)(hU:(uz p c s key).1=us)(J:Nat->UL):
 Code.wp prog aez (bodyPostD prog Proofs.Tryz.f17 (je w C RO K p c t s key)) (FP bx X (DD bx) J) w7:=by
 have HH:=Z h;have HO:=Z a0e;have HX:=Z (show _/\_/\_/\_/\_ from⟨hT,hN,hH,hL,hU⟩);clear h a0e hT hN hH hL hU
 conv=>arg 2;whnf
 refine wp_seq ?_;refine wp_mono (Q:=λe a V=>e=Exit.normal/\Uf bx X a/\Over w V bx C C1 pS K p c s1 (half t X) us (to ta told.length sx) told 0 (.bool false) Pl (Y 0)) ?_ ?_
 ·have d2:=HO.o.b2.c1;have e13:UJ w7 (G C.mb 13)=H (Y t.xX):=by rw[<-HO.o.mb];exact HO.o.mx.m.bg.cell 13
  have e14:UJ w7 (G C.mb 14)=H (Y t.mW):=by rw[<-HO.o.mb];exact HO.o.mx.m.bg.cell 14
  have fm:∀o,w7.frozen? (G C.mb o)=false:=by rw[<-HO.o.mb];exact HO.o.mx.m.bg.frozen
  unfold FP DD;cases X with
  |true=>
   go_wp2
   first|exact⟨rfl,⟨_,FP.of _ rfl⟩,HO.o.rH 13 (Y (wrap64 (t.xX+1))) (t':=half t true) (used':=us) rfl⟩|exact⟨⟨_,FP.of _ rfl⟩,HO.o.rH 13 (Y (wrap64 (t.xX+1))) (t':=half t true) (used':=us) rfl⟩
  |false=>
   go_wp2
   first|exact⟨rfl,⟨_,FP.of _ rfl⟩,HO.o.rH 14 (Y (wrap64 (t.mW+1))) (t':=half t false) (used':=us) rfl⟩|exact⟨⟨_,FP.of _ rfl⟩,HO.o.rH 14 (Y (wrap64 (t.mW+1))) (t':=half t false) (used':=us) rfl⟩
 rintro e a w8 ⟨rfl,⟨ab3,rfl⟩,O8⟩;simp only[Exit.then];have d2:=O8.b2.c1;have g5:=O8.b5.c1;have g5t:UJ w8 (G (bx+1+1) 5)=H (to ta told.length sx):=by obtain⟨cs,q1,q2,q3⟩:=O8.rb;exact(q1.cell 5).trans q2
 have e15:UJ w8 (G C.mb 15)=H (Y (half t X).Ga):=by rw[<-O8.mb];exact O8.mx.m.bg.cell 15
 have fm:∀o,w8.frozen? (G C.mb o)=false:=by rw[<-O8.mb];exact O8.mx.m.bg.frozen
 have nmr:bx+1+1≠C.mb:=λe=>O8.nc (by rw[e,<-O8.mb];simp[Co.l]);have nm4:bx+1≠C.mb:=λe=>O8.mx.cr (b:=bx+1) (O8.ro _ ay) (by rw[e,<-O8.mb];simp[Co.l]);have HO8:=Z O8;clear O8;unfold FP DD;go_wp2;go_region;have O9:=(HO8.o.rH 15 (Y (wrap64 ((half t X).Ga+told.length))) (t':={half t X with Ga:=wrap64 ((half t X).Ga+told.length)}) (used':=us) rfl).draw 1;change Over w (w8.setCell (G C.mb 15) (Y (wrap64 ((half t X).Ga+told.length)))).drew bx C C1 pS K p c _ _ _ _ _ _ _ _ _ at O9;clear d2 g5 g5t e15 fm HO8;generalize(w8.setCell (G C.mb 15) (Y (wrap64 ((half t X).Ga+told.length)))).drew=w9 at*;have g5:=O9.b5.c1;have g5t:UJ w9 (G (bx+1+1) 5)=H (to ta told.length sx):=by obtain⟨cs,q1,q2,q3⟩:=O9.rb;exact(q1.cell 5).trans q2
 have b4f:∀o,w9.frozen? (G (bx+1) o)=false:=O9.b4.frozen;obtain⟨b40,b41,b42⟩:=O9.b4.c3;have HO9:=Z O9;clear O9 nmr nm4;go_wp2_with fail;refine(ab5 HO9.o.td).mono ?_;rintro e w8' ⟨rfl,rfl⟩;have hUN:=Z (HO9.o.close HH.o (bT.refl _ _) HO9.o.mx (sF _ (bx+1) (.bool X) (to ta told.length told.length) (Y 0)) (sG HO9.o.b4 (.bool X) (to ta told.length told.length) (Y 0)));go_wp2_with fail;refine leaves_cons (f:=61) (args:=#[UI bx,UI (bx+1+1+1),UI (bx+1)]) ay (by simp[go_sem]) ?_;refine hUN.o.mono ?_;rintro e u' w10 ⟨rfl,rfl,C2,k3,m3,kb,td,tn⟩;obtain⟨Qe,Cv,hh,htd,Vw⟩:=HX.o;obtain⟨a0,a1,a2⟩:=kb.c3;have oY:=Z (show je w C RO K p c t s key (C8 (.agg #[.bool X,to ta told.length told.length,Y 0])) w10 from by
  refine⟨to ta told.length told.length,C2,?_,k3,?_,?_,λb X=>tn b (by cases ta with
   |none=>simp[vb,Value.ownBlock]at X
   |some a=>exact X)⟩
  ·rw[Qe,bk rfl,hh]
  ·rw[Cv,Qe,bk rfl,hh,htd,Vw];have e:tX t X told={half t X with Ga:=wrap64 ((half t X).Ga+told.length)}:=by unfold tX half;cases X<;>rfl
   rw[e];exact m3
  ·rw[Qe,bk rfl,htd];rcases td.val with⟨e,h0⟩|⟨b,cap,e,h1,-,-⟩
   ·simp only[cM]at e;exact .inl ⟨by rw[e.1,h0],List.length_eq_zero_iff.1 h0⟩
   ·simp only[cM]at e;obtain⟨rfl,-,rfl⟩:=e;obtain⟨cs,zB⟩:=td.dS;exact .inr ⟨b,cs,rfl,zB,λi hi=>(zB.cell i).symm.trans (td.cell (o:=i) O)⟩)
 clear hUN k3 m3 kb td tn HO9;refine⟨.agg #[.bool X,to ta told.length told.length,Y 0],?_,oY.o⟩;simp[results,results17,go_sem,a0,a1,a2]
def Uh(w:UK)(bx:Nat)(C:Co)(K:Kc)(p:aQ)(c:Cp)(s:St)(t:dZ)(key:Nat)(V:UK):Prop:=∃C1 pS ta sx,Over w V bx C C1 pS K p c (uz p c s key).2.1 t (uz p c s key).1 (to ta (uz p c s key).2.2.told.length sx) (uz p c s key).2.2.told (uz p c s key).2.2.bY (.bool false) Pl (Y 0)/\
 ((uz p c s key).2.2.bY≠0->∃U hv jv,U.rb=bx+1+1/\cS V C1 U pS K p c t (uz p c s key).1 hv jv (uz p c s key).2.1 (uz p c s key).2.2)
def ab2{V:UK}{tv:UL}{n:Nat}{g:Nat->UL}(h:Row V 46 1 tv n g):∃ta sx,tv=to ta n sx:=by
 rcases h.val with⟨e,h0⟩|⟨b,cap,e,-⟩
 ·exact⟨K7,0,by rw[e,h0]⟩
 ·exact⟨_,_,e⟩
def ka{p:Prop}(h:p:=by
 go_wp2
 first|exact⟨rfl,rfl,⟨_,FP.of _ rfl⟩⟩|exact⟨rfl,⟨_,FP.of _ rfl⟩⟩|exact⟨_,FP.of _ rfl⟩):p:=h
def ab1{w6:UK}(M:Gi K C.mb p c)(V:Env p c T)(hS:nw p)(h:Mx w C RO K p c s t used (.pointer K7))(hI:Inv (aC p c) s)(hk:key<18446744073709551616)(hH:rG p c s key=X)(hX:OO p c s key=wN)(B6:zY w w6 bx C K p c s t 0 key wN (UI (bx+1+1)))(J:Nat->UL):
 Code.wp prog PF (bodyPostD prog Proofs.Tryz.f17 (je w C RO K p c t s key)) (FP bx X [] J) w6:=by
 have z_:∀(fn:Fn) (first cap:Array UL) (w:UK),(Instr.makeFunc fn first cap).run prog w= .ok (.func fn first cap) w:=λ_ _ _ _=>rfl;have HM:=Z M;have HV:=Z V;have HS:=Z hS;have HH:=Z h;have HI:=Z hI;have HX:=Z hX;have Ud:=Z hH;have wk:=Z B6;clear M V hS h hI hX hH B6
 conv=>arg 2;whnf
 refine wp_seq ?_;refine wp_mono (Q:=λe a V=>e=Exit.normal/\V=w6/\Uf bx X a) ?_ ?_
 ·unfold FP;exact ka
 rintro e a V ⟨rfl,rfl,⟨a1c,rfl⟩⟩;simp only[Exit.then];refine wp_seq ?_;refine wp_mono (Q:=λe a V=>e=Exit.normal/\Uf bx X a/\Uh w bx C K p c s t key V) ?_ ?_
 ·have d2:=wk.o.b2.c1;have d5:=wk.o.b5.c1;have r1:UJ V (G (bx+1+1) 1)=H (Y wN):=wk.o.rb.cell 1;by_cases qw:wN<0
  ·have Rb:¬0<=wN:=O;have HR:=Z (show Uh w bx C K p c s t key V from by
    have jn:uz p c s key=(0,(s,iB key 0)):=by unfold uz;rw[HX.o,bk qw]
    unfold Uh;rw[jn];exact⟨C,_,K7,0,wk.o.YR,λh=>absurd rfl h⟩)
   unfold FP DD;go_wp2
   first|exact⟨rfl,⟨_,FP.of _ rfl⟩,HR.o⟩|exact⟨⟨_,FP.of _ rfl⟩,HR.o⟩
  ·have Rb:0<=wN:=O;obtain⟨a,rfl⟩:∃a:Nat,wN=a:=⟨wN.toNat,O⟩;have N_:yN V V C.mb (bx+1+1) (bx::(bx+1)::(bx+1+1+1)::Ma.rest w C) K p c t T s (s,iB key a) jC:=by have fQ:=at_mem HV.o HI.o key;rw[HX.o]at fQ;have Zc:=Cg HV.o fQ Rb key;have hl:=EF HV.o HS.o fQ Rb key;rw[Int.toNat_natCast]at Zc hl;exact⟨0,_,_,_,λb X=>X,⟨C,_,_,_,rfl,rfl,wk.o.all⟩,Kept.refl _ _,Zc,yG HI.o hk a,⟨aL _,aL _,aL _,aL _⟩,hl,by rw[Nat.zero_add],O⟩
   have HR:=Z (ac7 HM.o HV.o N_);have HZ:=Z (show uz p c s key=lR p c jC (s,iB key a)by unfold uz;rw[HX.o,aw O,Int.toNat_natCast]);clear N_;unfold FP DD;go_wp2_with fail;refine HR.o.mono ?_;rintro e w7 ⟨rfl,pS,ho,fD,hkp⟩;have HRZ:=Z (show Uh w bx C K p c s t key w7 from by
    obtain⟨C1,tv,a0e,U,hv,jv,oE,A⟩:=wk.o.ran fD ho hkp;rw[<-HZ.o]at a0e A;obtain⟨ta,sx,rfl⟩:=ab2 a0e.td;exact⟨C1,pS,ta,sx,a0e,λ_=>⟨U,hv,jv,oE,A⟩⟩)
   clear HR fD ho hkp d2 d5 r1;go_wp2
   first|exact⟨rfl,⟨_,FP.of _ rfl⟩,HRZ.o⟩|exact⟨⟨_,FP.of _ rfl⟩,HRZ.o⟩
 rintro e a w7 ⟨rfl,⟨J2,rfl⟩,C1,pS,ta,sx,a0e,hA⟩;simp only[Exit.then];have g5:=a0e.b5.c1;have g6:UJ w7 (G (bx+1+1) 6)=H (Y (uz p c s key).2.2.bY):=by obtain⟨cs,q1,q2,q3⟩:=a0e.rb;exact(q1.cell 6).trans q3
 have HO:=Z a0e;have HA:=Z hA;clear a0e hA wk;generalize hz:uz p c s key=z at*;have HZ:=Z hz;clear hz;by_cases vQ:z.2.2.bY=0
 ·rw[vQ]at g6 HO;have HT:=Z vQ;clear vQ HA;refine wp_seq ?_;refine wp_mono (Q:=λe a V=>e=Exit.normal/\V=w7/\Uf bx X a) ?_ ?_
  ·unfold FP DD;exact ka
  rintro e a V ⟨rfl,rfl,⟨J3,rfl⟩⟩;simp only[Exit.then];have Qe:jc p c s key=0:=by unfold jc;rw[HZ.o,HT.o]
  exact ab4 HH.o HO.o Qe (by unfold nr;rw[Qe,bk rfl,HZ.o]) Ud.o (by unfold rR;rw[HZ.o]) (by rw[HZ.o]) J3
 ·have afi:(z.2.2.bY==0)=false:=by simpa using vQ
  have afj:(z.2.2.bY !=0)=true:=by simpa using vQ
  have HAA:=Z (HA.o vQ);generalize Te:z.2.2.bY=tt at*;obtain⟨b40,b41,b42⟩:=HO.o.b4.c3;have b4f:∀o,w7.frozen? (G (bx+1) o)=false:=HO.o.b4.frozen;unfold FP DD;go_wp2_with fail;rw[pF HO.o.b4 rfl,pF HO.o.b4 rfl,pF HO.o.b4 rfl];have sO:=QS HV.o HS.o HI.o hk;rw[HZ.o]at sO;obtain⟨Qg,aeA,-,-,Qh,-⟩:=sO;have hjl:z.2.2.bz.length<1000000:=by have:=Qh.bz;unfold jC at aeA;omega
  obtain⟨U,hv,jv,oE,A⟩:=HAA.o;have hUA:=agG (s0:=s) (b2:=bx) (b5:=bx+1+1+1) (b4:=bx+1) (by rw[HO.o.mb];exact HM.o) A Qg.inv Qg.zX (by rw[Te];exact vQ) hjl (by rw[HO.o.mb];exact HO.o.b2) (by rw[oE];exact HO.o.b5) HO.o.b4 (HO.o.ro _ ay) (HO.o.ro _ ay);refine leaves_cons (f:=61) (args:=#[UI bx,UI (bx+1+1+1),UI (bx+1)]) ay (by simp[go_sem]) ?_;refine hUA.mono ?_;rintro e u' w9 ⟨rfl,rfl,C2,wz,k1,k2,kf,kb⟩;obtain⟨k3,m3⟩:=HO.o.Pf HH.o k1 k2;obtain⟨k4,m4⟩:=yQ HH.o HO.o.at_ k3 m3 (k2.cr (HO.o.ro _ ay)) kf;have Qe:jc p c s key=tt:=by unfold jc;rw[HZ.o,Te]
  have Cv:nr p c s key=s:=by unfold nr;rw[Qe,aw vQ]
  obtain⟨a0,a1,a2⟩:=kb.c3;rw[Te]at a2;have oY:=Z (show je w C RO K p c t s key (C8 (.agg #[.bool false,Pl,Y tt])) w9 from by
   refine⟨Pl,C2,?_,k4,?_,?_,?_⟩
   ·rw[Qe,aw vQ]
   ·rw[Cv,Qe,aw vQ,HZ.o];exact m4
   ·rw[Qe,aw vQ];exact .inl ⟨rfl,rfl⟩
   ·exact λb X=>by simp[vb,Value.ownBlock]at X)
  clear k1 k2 kf kb k3 m3 k4 m4 hUA Qg Qh;refine⟨.agg #[.bool false,Pl,Y tt],?_,oY.o⟩;simp[results,results17,go_sem,a0,a1,a2]
def ab6{w5:UK}{Kk:Act->UK->Prop}(M:Gi K C.mb p c)(V:Env p c T)(hS:nw p)(h:Mx w C RO K p c s t used (.pointer K7))(hI:Inv (aC p c) s)(hk:key<18446744073709551616)(hH:rG p c s key=X)(hX:OO p c s key=wN)(B5:zY w w5 bx C K p c s t used key wN (.pointer K7))(hK:∀a V,Code.wp prog PF (bodyPostD prog Proofs.Tryz.f17 (je w C RO K p c t s key)) a V->Kk a V)(J:Nat->UL):
 Code.wp prog Zf (Exit.then Kk (bodyPostD prog Proofs.Tryz.f17 (je w C RO K p c t s key))) (FP bx X [] J) w5:=by
 have nU:=Z B5;have HT:=Z (λw6 (B6:zY w w6 bx C K p c s t 0 key wN (UI (bx+1+1))) J=>hK _ _ (ab1 M V hS h hI hk hH hX B6 J));clear M V hS h hI hk hH hX hK;have d2:=B5.b2.c1;have d5:=B5.b5.c1;have f60:∀o,w5.frozen? (G C.mb o)=false:=B5.mx.m.bg.frozen;have sS:UJ w5 (G C.mb 60)=H (.pointer K7):=B5.mx.m.bg.cell 60;have m17:UJ w5 (G C.mb 17)=H (Y used):=B5.mx.m.bg.cell 17;have nm:bx≠C.mb:=λe=>B5.mx.cr (b:=bx) ay (by rw[e];simp[Co.l]);have nm5:bx+1+1+1≠C.mb:=λe=>B5.mx.cr (b:=bx+1+1+1) ay (by rw[e];simp[Co.l]);clear B5;unfold FP
 conv=>arg 2;whnf
 go_wp2;go_region;have B6:=nU.o.enter.draw 1;change zY w ((w5.setCell (G C.mb 60) (UI (bx+1+1))).setCell (G C.mb 17) (Y 0)).drew bx C K p c s t 0 key wN (UI (bx+1+1))at B6;simp only[Exit.then];exact Eq.mpr (bu (λa=>Kk a _) (FP.of _ rfl)) (HT.o _ B6 (λk=>Array.getD _ k undef))
end
end Go.Ma
end
namespace Go.Ma
open eB (bS bL eN)
open Ix (cX)
section
variable {w w' wr:UK}{C C' C1:Co}{U U':Ru}{RO RO' pS:List Nat}{K:Kc}{p:aQ}{c:Cp}{t t':dZ}{used used':Int}{hv hv':UL}{jv kT:Nat->UL}{s s' s0 s1:St}{t0:dZ}{Bb:Int}{r r':Rn}{rv rv':UL}{mb rb bx:Nat}{T:Map}{st:Std}
def wm(M:Gi K C.mb p c)(V:Env p c T)(hS:nw p)(h:Mx w C RO K p c s t used (.pointer K7))(hI:Inv (aC p c) s){key:Nat}(hk:key<18446744073709551616)(hf:s.f key=K7):
 Calls prog 17 #[UI C.mb,.int .u64 key] w (je w C RO K p c t s key):=by
 have z_:∀(fn:Fn) (first cap:Array UL) (w:UK),(Instr.makeFunc fn first cap).run prog w= .ok (.func fn first cap) w:=λ_ _ _ _=>rfl;have m4:UJ w (G C.mb 4)=H (Y p.aT):=h.m.bg.cell 4;have lm:C.mb<w.heap.size:=h.m.bg.lt;have B4:=B7 h key p.aT;have HM:=Z M;have HV:=Z V;have HS:=Z hS;have HI:=Z hI;have HF:=Z hf;have m10:((((w.alloc (QP #[UI C.mb] 35)).alloc (QP #[.bool false,Pl,Y 0] 44)).alloc (QP #[.int .u64 key,Y p.aT,Pl,Pl,Pl,Pl,Y 0,Pl,.bool false] 126)).alloc (QP #[UI (w.heap.size+1+1)] 111)).cell? (G C.mb 10)=H (UI C.xb):=B4.mx.m.bg.cell 10;have HG:=Z (Ix.AI B4.mx.m.ix (key:=key) hf);have jK:=Z B4;have Ud:=Z (show rG p c s key=false by unfold rG;rw[hf]);have HH:=Z h;clear M V hS hI hf B4 h
 go_enter_defers func17,ntmps17
 go_wp2_with fail;refine HG.o.mono ?_;rintro e w5 ⟨rfl,n5,rfl⟩;have B5:=jK.o.draw n5;have nU:=Z B5;clear jK HG m10 m4 lm;generalize gu:w.heap.size=bx at*;generalize World.drewN _ _=w5 at*;clear gu;have HX:=Z (show OO p c s key=p.aT by unfold OO;rw[HF.o]);clear B5;exact zM
end
end Go.Ma
