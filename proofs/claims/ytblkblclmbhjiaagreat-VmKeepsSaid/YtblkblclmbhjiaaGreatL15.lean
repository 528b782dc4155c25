/- Of the proof that VmKeeps holds: a key keeps its node, what traps leaves no trace. No condition. -/
import Derived.Test.YtblkblclmbhjiaaGreatL14
set_option linter.unusedVariables false
set_option linter.unusedSimpArgs false
set_option maxHeartbeats 40000000
set_option maxRecDepth 100000
namespace Go.Proofs.YtblkblclmbhjiaaGreat.Vf
open Go.RowKit ak.Vm
open ak hiding aL an aj
open Ma (dx bQ aU vb)
theorem adG {p:Prop} (h:p:=by
 go_enter Tryz.func321,Tryz.ntmps321;go_wp2;exact bodyPost_ret (results_tmp rfl _ _ _) rfl ⟨rfl,rfl⟩):p:=h
theorem Me (w:World) (ao:Option Addr) {n cap:Nat} (h:n<=cap) (h0:ao=none->n=0/\cap=0):Calls Tryz.prog 321 #[.slice ao n cap] w (fun e w'=>e= .returned (.slice ao n n)/\w'=w):=by
 cases ao with
 |none=>obtain ⟨rfl,rfl⟩:=h0 rfl;exact adG
 |some a=>obtain ⟨b,off,sp⟩:=a;exact adG
theorem qS {P:Program} {w:World} {ops:Array Oper} {rest:List Oper} {o:Oper} {a:Act} {Q:Exit->Act->World->Prop} (Ie:o.guard=none) (s x:Operand) (t:TypeId)
 (ho:o.op= .call {callee:= .builtin .append,args:=#[s,x],argTypes:=#[t,t]})
 (e:TypeId) {bytes:Nat} {z:Value} (ht:P.underlying t=some (.slice e)) (hi:(P.info? e).map (fun i=>(i.zero,i.size,i.bytes))=some (some z,1,bytes)) (O7:z.cells.size=1)
 (ao:Option Addr) (n:Nat) (g:Nat->Value) (hs:a.eval s= .slice ao n n) (bq:aV w 1 (.slice ao n n) n g)
 (ad:Addr) (c:Nat) (y:Value) (hx:a.eval x= .slice (some ad) 1 c) (oZ:w.cell? ad=some y) (h1:y.oneCell'=true)
 (O_:n+1<=maxLen) (og:(n+1)*bytes<=140737488355328)
 (h:∀v' w',Row w' e 1 v' (n+1) (gU n g fun _=>y)->ax [] w w'->(∀b,v'.ownBlock=some b->w.heap.size<=b)->wpList P ops Q rest (a.put o.dst v') w'):wpList P ops Q (o::rest) a w:=by
 obtain ⟨i,NT,AH,NU,NV⟩:=info_parts hi;refine wpList_append_grows w Ie s x t ho e i z 1 bytes ht NT AH NU NV O7 (by decide) ao n n (eE n g) hs ?_ (by rw [eM,Nat.mul_one]) ?_ ad 1 c [y] hx rfl ?_ ?_ (by omega) O_ og ?_
 ·rintro rfl;rcases bq with ⟨h,h'⟩|⟨_,_,h,_⟩
  ·simp at h;exact ⟨h,h⟩
  ·simp at h
 ·rintro b rfl j u hu;have hj:j < n:=by
   rcases Nat.lt_or_ge j n with a8|uR
   ·exact a8
   ·rw [List.getElem?_eq_none (by rw [eM];exact uR)] at hu;cases hu
  rw [lR g hj] at hu;cases hu;rcases bq with ⟨h,-⟩|⟨a',cap,hv,q1,q2,q3⟩
  ·simp at h
  ·simp only [Value.slice.injEq,Option.some.injEq] at hv;obtain ⟨rfl,-,rfl⟩:=hv;obtain ⟨e1,e2⟩:=q3 j (by omega);obtain ⟨c_,off,sp⟩:=b;dsimp only at e1;subst e1;rw [Addr.add_lit];exact e2
 ·intro j u hu;cases j with
  |zero=>
   simp at hu;subst hu;have:ad.add 0=ad:=by unfold Addr.add;split<;>simp_all
   rw [this];exact oZ
  |succ j=>simp at hu
 ·intro u hu;simp at hu;subst hu;exact h1
 ·intro v' w' hr hg;refine h v' w' ?_ (eJ hg) (fun b hb=>(World.ownsRow.lt hr b hb).1);unfold Row;have e1:eE ((n+1)*1) (gU n g fun _=>y)=eE n g++[y]:=by rw [Nat.mul_one,vF n 1 g (fun _=>y)];rfl
  rw [e1];exact hr.mono (Nat.zero_le _)
theorem TL (w:World) {mv:Value} (th:Bool) {s:Std} (oh:Nat) (h:cZ w mv s.lo) (hl:s.lo.length<=1000000000):Calls Tryz.prog 302 #[cT th s mv,ι oh] w (ow w mv th {s with lo:=oh::s.lo}):=by
 obtain ⟨ty,lo,ha⟩:=s;dsimp only at h hl;obtain ⟨ma,mc,rfl,m1,m2⟩:=aV.val h;have H:=ae h;have a8:(oh::lo).length=lo.length+1:=rfl;have L7:=vC oh lo;by_cases h8:lo.length < 8
 ·have hm:cZ w (.slice ma (lo.length - 8) mc) (oh::lo):=by
   have e:lo.length - 8=0:=by omega
   have e2:(oh::lo).length - 8=0:=by omega
   unfold cZ at h ⊢;rw [e] at h;rw [e2,e];exact aV.zero h
  have HM:=ae hm;unfold cT bU ow;dsimp only;unfold cT bU;dsimp only;have e:lo.length=0\/lo.length=1\/lo.length=2\/lo.length=3\/lo.length=4\/lo.length=5\/lo.length=6\/lo.length=7:=by omega
  have hB:∀cs T,Below w.heap.size w (w.alloc (.cells cs T)):=fun cs T=>(Below.refl _ _).alloc (Nat.le_refl _) _;generalize fH ty=tb;rw [a8];clear h hm m1 m2 H;simp only [L7];generalize bE lo=lc at*;generalize hLL:oh::lo=LL at*;clear hLL;rcases e with e|e|e|e|e|e|e|e
  all_goals
   simp only [e] at HM ⊢;clear L7 a8 hl h8;go_enter Tryz.func302,Tryz.ntmps302;go_wp2_with fail;refine bodyPost_ret ?_ rfl ⟨.slice ma 0 mc,rfl,HM.o.aB (ax.ah ((hB _ _).alloc (by simp only [aE];omega) _)),(hB _ _).alloc (by simp only [aE];omega) _,fun _ hb=> .inl (by simpa [Value.ownBlock] using hb)⟩;simp [results,Tryz.results302,go_sem]
 ·have GY:ma=none->lo.length - 8=0/\mc=0:=by
   rintro rfl;rcases H.o with ⟨h,h'⟩|⟨_,_,h,_⟩
   ·simp at h;omega
   ·simp at h
  have BQ:aV w 1 (.slice ma (lo.length - 8) (lo.length - 8)) (lo.length - 8) (fun i=> ι (bE lo (8+i))):=by
   rcases H.o with ⟨h,h'⟩|⟨a',cap,h,q1,q2,q3⟩
   ·simp only [Value.slice.injEq] at h;obtain ⟨rfl,h1,h2⟩:=h;rw [h1];exact .inl ⟨rfl,rfl⟩
   ·simp only [Value.slice.injEq] at h;obtain ⟨rfl,-,rfl⟩:=h;exact .inr ⟨a',_,rfl,Nat.le_refl _,by omega,q3⟩
  have JE:=ae BQ;have ug:=ae (fun V=>Me V ma m1 GY);have HCT:=ae L7;have HL:=ae hl;unfold cT bU ow;dsimp only;unfold cT bU;dsimp only;have hB:∀cs T,Below w.heap.size w (w.alloc (.cells cs T)):=fun cs T=>(Below.refl _ _).alloc (Nat.le_refl _) _;rw [a8];simp only [L7];rw [if_neg (by omega),if_neg (by omega),if_neg (by omega),if_neg (by omega),if_neg (by omega),if_neg (by omega),if_neg (by omega),if_neg (by omega)];generalize fH ty=tb;have w1:IntKind.i64.wrap ((lo.length:Int)+1)=((lo.length+1:Nat):Int):=by rw [IntWalk.i64_in _ (by constructor<;>omega)];omega
  clear h BQ L7 GY H;generalize zZ:lo.length - 8=n8 at*;have Oa:=ae zZ;clear zZ;generalize Cm:bE lo=lc at*;have uy:=ae Cm;clear Cm;generalize Ov:lo.length=n0 at*;have HN0:=ae Ov;clear Ov;have h9:¬n0 < 8:=h8;clear h8 a8;go_enter Tryz.func302,Tryz.ntmps302;go_wp2_with fail;refine (ug.o _).mono ?_;rintro e w' ⟨rfl,rfl⟩;go_wp2_with (at_builtin;refine qS rfl _ _ 24 rfl 3 Tryz.underlying24 b_ rfl ma n8 (fun i=> ι (lc (8+i))) rfl (JE.o.aB ((((ax.refl [] w).alloc _).alloc _).alloc _)) (π (w.heap.size+1+1) 0) 1 (ι oh) rfl ?zT rfl ?ED ?EE ?_)
  case zT=>exact (ay.a_ (by simp)).cell 0
  case ED=>have:=Oa.o;have:=HL.o;unfold maxLen;omega
  case EE=>have:=Oa.o;have:=HL.o;omega
  intro v' w1 r1 f1 i1;obtain ⟨va,vc,rfl,-,-⟩:=(aV.D9 r1).val;have k1:ay w1 w.heap.size 233 #[.bool th,.string tb,ι (lc 0),ι (lc 1),ι (lc 2),ι (lc 3),ι (lc 4),ι (lc 5),ι (lc 6),ι (lc 7),ι n0,ι ha,.slice ma n8 mc]:=(((ay.new w _ _).alloc _).alloc _).aB f1 (by simp);have k2:ay w1 (w.heap.size+1) 233 #[.bool false,.string ⟨#[]⟩,ι 0,ι 0,ι 0,ι 0,ι 0,ι 0,ι 0,ι 0,ι 0,ι 0,ν]:=((ay.a_ (by simp)).alloc _).aB f1 (by simp);have eN:Below w.heap.size w w1:=((((Below.refl _ w).alloc (Nat.le_refl _) _).alloc (by simp only [aE];omega) _).alloc (by simp only [aE];omega) _).trans (f1.below (by simp only [aE];omega) (by simp));have HI1:=ae (fun b (hb:(Value.slice va (n8+1) vc).ownBlock=some b)=>show w.heap.size<=b by have:=i1 b hb;(try simp only [aE] at this);omega);have hmo:∀W',ax [w.heap.size,w.heap.size+1] w1 W'->cZ W' (.slice va (n8+1) vc) (oh::lo):=by
   intro W' f;have r2:=r1.aB f (fun b hb hc=>by have:=i1 b hb;(try simp only [aE] at this);simp at hc;omega);have h1:=aV.D9 r2;unfold cZ;have EM:(oh::lo).length - 8=n8+1:=by have a1:=Oa.o;have a2:=HN0.o;show lo.length+1 - 8=n8+1;omega
   rw [EM];refine h1.congr fun o ho=>?_;unfold gU;rw [HCT.o];have a1:=Oa.o;by_cases zN:o < n8
   ·rw [if_pos zN,if_neg (by omega)]
   ·rw [if_neg zN,if_pos (by omega)]
  have HMO:=ae hmo;have dC:=ae eN;have kY:=ae k2;obtain ⟨p0,p1,p2,p3,p4,p5,p6,p7,p8,p9,θ,p11,p12⟩:=k1.nN;obtain ⟨z0,z1,z2,z3,z4,z5,z6,z7,z8,z9,TM,Ob,z12⟩:=k2.nN;have fz1:=k1.frozen;have fz2:=k2.frozen;have l1:=k1.lt;have l2:=k2.lt;clear r1 f1 i1 k1 k2 hmo eN JE ug hB;go_wp2_with fail;have kA:=kY.o.aB (w':=((w1.setCell (π w.heap.size 12) (.slice va (n8+1) vc)).setCell (π w.heap.size 10) (ι ((n0:Int)+1)))) (((ax.refl [w.heap.size] w1).setCell (by simp) _).setCell (by simp) _) (by simp);have b9:=(((((((((((((kA.set 0 (.bool th)).set 1 (.string tb)).set 2 (ι (lc 0))).set 3 (ι (lc 1))).set 4 (ι (lc 2))).set 5 (ι (lc 3))).set 6 (ι (lc 4))).set 7 (ι (lc 5))).set 8 (ι (lc 6))).set 9 (ι (lc 7))).set 10 (ι ((n0:Int)+1))).set 11 (ι ha)).set 12 (.slice va (n8+1) vc));simp only [List.setIfInBounds_toArray,List.set_cons_zero,List.set_cons_succ] at b9;have f9:ax [w.heap.size,w.heap.size+1] w1 _:=((((((((((((((((ax.refl [w.heap.size,w.heap.size+1] w1).setCell (p:=(π w.heap.size 12)) (by simp) (.slice va (n8+1) vc)).setCell (p:=(π w.heap.size 10)) (by simp) (ι ((n0:Int)+1))).setCell (p:=(π (w.heap.size+1) 0)) (by simp) (.bool th)).setCell (p:=(π (w.heap.size+1) 1)) (by simp) (.string tb)).setCell (p:=(π (w.heap.size+1) 2)) (by simp) (ι (lc 0))).setCell (p:=(π (w.heap.size+1) 3)) (by simp) (ι (lc 1))).setCell (p:=(π (w.heap.size+1) 4)) (by simp) (ι (lc 2))).setCell (p:=(π (w.heap.size+1) 5)) (by simp) (ι (lc 3))).setCell (p:=(π (w.heap.size+1) 6)) (by simp) (ι (lc 4))).setCell (p:=(π (w.heap.size+1) 7)) (by simp) (ι (lc 5))).setCell (p:=(π (w.heap.size+1) 8)) (by simp) (ι (lc 6))).setCell (p:=(π (w.heap.size+1) 9)) (by simp) (ι (lc 7))).setCell (p:=(π (w.heap.size+1) 10)) (by simp) (ι ((n0:Int)+1))).setCell (p:=(π (w.heap.size+1) 11)) (by simp) (ι ha)).setCell (p:=(π (w.heap.size+1) 12)) (by simp) (.slice va (n8+1) vc));have m9:=HMO.o _ f9;have Tw:=dC.o.trans (f9.below (B:=w.heap.size) dC.o.size (by simp));generalize (((((((((((((((w1.setCell (π w.heap.size 12) (.slice va (n8+1) vc)).setCell (π w.heap.size 10) (ι ((n0:Int)+1))).setCell (π (w.heap.size+1) 0) (.bool th)).setCell (π (w.heap.size+1) 1) (.string tb)).setCell (π (w.heap.size+1) 2) (ι (lc 0))).setCell (π (w.heap.size+1) 3) (ι (lc 1))).setCell (π (w.heap.size+1) 4) (ι (lc 2))).setCell (π (w.heap.size+1) 5) (ι (lc 3))).setCell (π (w.heap.size+1) 6) (ι (lc 4))).setCell (π (w.heap.size+1) 7) (ι (lc 5))).setCell (π (w.heap.size+1) 8) (ι (lc 6))).setCell (π (w.heap.size+1) 9) (ι (lc 7))).setCell (π (w.heap.size+1) 10) (ι ((n0:Int)+1))).setCell (π (w.heap.size+1) 11) (ι ha)).setCell (π (w.heap.size+1) 12) (.slice va (n8+1) vc))=W9 at*;obtain ⟨i0,i1,i2,i3,i4,i5,i6,i7,i8,i9,i10,i11,i12⟩:=b9.nN;clear b9 f9 kA p0 p1 p2 p3 p4 p5 p6 p7 p8 p9 θ p11 p12 z0 z1 z2 z3 z4 z5 z6 z7 z8 z9 TM Ob z12 fz1 fz2;refine bodyPost_ret ?_ rfl ⟨.slice va (n8+1) vc,rfl,m9,Tw,fun b hb=> .inr (HI1.o b hb)⟩;simp [results,Tryz.results302,go_sem,i0,i1,i2,i3,i4,i5,i6,i7,i8,i9,i10,i11,i12]
end Go.Proofs.YtblkblclmbhjiaaGreat.Vf
namespace Go.Proofs.YtblkblclmbhjiaaGreat.Vf
open Go.RowKit ak.Vm
open ak hiding aL an aj
open Ma (dx bQ aU vb aA aQ)
def qR (K:Kp) (p:aO) (iz:Value):Array Value:=#[K.g,K.v,K.t,K.o,ι p.aJ,K.c,iz]
def qu (p:aO) (n:Int):Prop:=0<=n/\n < p.ap.length
theorem bw {w:World} {K:Kp} {p:aO} (h:fP w K p) {n:Int} (hq:qu p n):∃(m b off cap:Nat),n=m/\m < p.ap.length/\K.g= .slice (some (π b off)) p.ap.length cap/\b < w.heap.size/\w.cell? (π b (off+m))=some (.bool (bj p n)):=by
 obtain ⟨m,rfl⟩:=Int.eq_ofNat_of_zero_le hq.1;have hm:m < p.ap.length:=by have:=hq.2;omega
 obtain ⟨b,off,cap,e,q1,q2,c⟩:=h.gh hm;exact ⟨m,b,off,cap,rfl,hm,e,aS c,by unfold bj;simpa using c⟩
section
variable {w:World} {K:Kp} {p:aO} {iz:Value} {vb:Nat} {x:Ins} {ha:Nat}
theorem adD {p:Prop} (h:p:=by
 go_wp2_with fail;go_ret;exact ⟨rfl,hB _ _⟩):p:=h
theorem acO {p:Prop} (h:p:=by
 go_wp2_with fail;go_quiet (fail);go_wp2_with fail;go_ret;exact ⟨rfl,hC _ _ _⟩):p:=h
theorem acN {p:Prop} (h:p:=by
 go_enter Tryz.func246,Tryz.ntmps246;go_wp2_with fail;go_ret;exact ⟨by simp [be],hB _ _⟩):p:=h
theorem TE (h:fP w K p) (hv:ay w vb 230 (qR K p iz)) (hq:x.op=34->qu p x.a):Calls Tryz.prog 246 #[ρ vb,aQ x,ι ha] w (fun e w'=>e= .returned (ι (be p x ha))/\Below w.heap.size w w'):=by
 obtain ⟨op,xa,xb,xc,xd⟩:=x;unfold aQ aA;dsimp only;have hB:∀cs T,Below w.heap.size w (w.alloc (.cells cs T)):=fun cs T=>(Below.refl _ _).alloc (Nat.le_refl _) _;have hC:∀cs T k,Below w.heap.size w ((w.alloc (.cells cs T)).drewN k):=fun cs T k=>(hB cs T).trans (au _ _ k);have lv:=hv.lt;dsimp only at hq;by_cases o1:op=36
 ·subst o1;exact acN
 by_cases o2:op=35
 ·subst o2;exact acN
 by_cases o3:op=37
 ·subst o3;exact acN
 by_cases o4:op=34
 ·subst o4;replace hq:=hq rfl;obtain ⟨m,gb,off,cap,rfl,hm,hk,rl,gc⟩:=bw h hq;have v0:=hv.c1;rw [hk] at v0;have hf:be p ⟨34,(m:Int),xb,xc,xd⟩ ha=if bj p m then 1 else 2:=by simp [be]
  rw [hf];clear hf hk h hv hq;cases hg:bj p m with
  |false=>rw [hg] at gc;clear hg;go_enter Tryz.func246,Tryz.ntmps246;exact acO
  |true=>rw [hg] at gc;clear hg;go_enter Tryz.func246,Tryz.ntmps246;exact acO
 ·have hf:be p ⟨op,xa,xb,xc,xd⟩ ha=ha:=by simp [be,o1,o2,o3,o4]
  rw [hf];clear hf;go_enter Tryz.func246,Tryz.ntmps246;exact adD
theorem acm {p:Prop} (h:p:=by
 rcases hh with rfl|rfl|rfl|rfl
 all_goals
  go_enter Tryz.func242,Tryz.ntmps242;go_wp2_with fail;go_ret;exact ⟨by simp [dU],hB _ _⟩):p:=h
theorem adE {p:Prop} (h:p:=by
 rcases hh with rfl|rfl|rfl|rfl
 all_goals
  go_enter Tryz.func242,Tryz.ntmps242;go_wp2_with fail;go_ret;exact ⟨by simp<;>omega,hB _ _⟩):p:=h
theorem adC {p:Prop} (h:p:=by
 rw [hg] at gc;clear hg;rcases hh with rfl|rfl|rfl|rfl
 all_goals
  go_enter Tryz.func242,Tryz.ntmps242;go_wp2_with fail;go_quiet (fail);go_wp2_with fail;go_ret;exact ⟨by simp,hC _ _ _⟩):p:=h
theorem PH (h:fP w K p) (hv:ay w vb 230 (qR K p iz)) (hq:x.op=35->qu p x.a) (h3:ha<=3):Calls Tryz.prog 242 #[ρ vb,aQ x,ι ha] w (fun e w'=>e= .returned (.bool (dU p x ha))/\Below w.heap.size w w'):=by
 obtain ⟨op,xa,xb,xc,xd⟩:=x;unfold aQ aA;dsimp only;have hB:∀cs T,Below w.heap.size w (w.alloc (.cells cs T)):=fun cs T=>(Below.refl _ _).alloc (Nat.le_refl _) _;have hC:∀cs T k,Below w.heap.size w ((w.alloc (.cells cs T)).drewN k):=fun cs T k=>(hB cs T).trans (au _ _ k);have lv:=hv.lt;dsimp only at hq;have hh:ha=0\/ha=1\/ha=2\/ha=3:=by omega
 clear h3;by_cases o1:op=36
 ·subst o1;exact acm
 by_cases o2:op=37
 ·subst o2;exact acm
 by_cases o3:op=35
 ·subst o3;replace hq:=hq rfl;obtain ⟨m,gb,off,cap,rfl,hm,hk,rl,gc⟩:=bw h hq;have v0:=hv.c1;rw [hk] at v0;have hf:dU p ⟨35,(m:Int),xb,xc,xd⟩ ha=if bj p m then ha==1||ha==3 else ha==2:=by simp [dU]
  rw [hf];clear hf hk h hv hq;cases hg:bj p m with
  |false=>exact adC
  |true=>exact adC
 by_cases o4:op=28\/op=29\/op=30
 ·have hf:dU p ⟨op,xa,xb,xc,xd⟩ ha=true:=by unfold dU;rw [if_neg o1,if_neg o2,if_neg o3,if_pos o4]
  rw [hf];clear hf hh;rcases o4 with rfl|rfl|rfl
  all_goals
   go_enter Tryz.func242,Tryz.ntmps242;exact adD
 ·have hf:dU p ⟨op,xa,xb,xc,xd⟩ ha=((decide (1<=op)&&decide (op<=21))||ha==0):=by unfold dU;rw [if_neg o1,if_neg o2,if_neg o3,if_neg o4]
  rw [hf];have o5:¬op=28:=fun e=>o4 (.inl e);have o6:¬op=29:=fun e=>o4 (.inr (.inl e));have o7:¬op=30:=fun e=>o4 (.inr (.inr e));clear hf o4 hq;by_cases r1:1<=op
  ·by_cases r2:op<=21
   ·clear hh;go_enter Tryz.func242,Tryz.ntmps242;go_wp2_with fail;go_ret;exact ⟨by simp [r1,r2],hB _ _⟩
   ·exact adE
  ·exact adE
theorem acP {p:Prop} (h:p:=by
 obtain ⟨m,gb,off,cap,rfl,hm,hk,rl,gc⟩:=bw h hq;have v0:=hv.c1;rw [hk] at v0;rw [hf];clear hf hk h hv hq kO;generalize bj p m=g1 at*;cases g1
 all_goals
  go_enter Tryz.func244,Tryz.ntmps244;exact adD):p:=h
theorem PI (h:fP w K p) (hv:ay w vb 230 (qR K p iz)) (hq:x.op=32\/x.op=40\/x.op=41\/x.op=38\/x.op=39->qu p x.a) (kO:x.op=38\/x.op=39->qu p x.c):Calls Tryz.prog 244 #[ρ vb,aQ x] w (fun e w'=>e= .returned (.bool (cJ p x))/\Below w.heap.size w w'):=by
 obtain ⟨op,xa,xb,xc,xd⟩:=x;unfold aQ aA;dsimp only;have hB:∀cs T,Below w.heap.size w (w.alloc (.cells cs T)):=fun cs T=>(Below.refl _ _).alloc (Nat.le_refl _) _;have hC:∀cs T k,Below w.heap.size w ((w.alloc (.cells cs T)).drewN k):=fun cs T k=>(hB cs T).trans (au _ _ k);have lv:=hv.lt;dsimp only at hq kO;by_cases o1:op=32
 ·subst o1;have hf:∀n:Int,cJ p ⟨32,n,xb,xc,xd⟩= !bj p n:=fun n=>by simp [cJ]
  replace hq:=hq (by simp);exact acP
 by_cases o2:op=40
 ·subst o2;have hf:∀n:Int,cJ p ⟨40,n,xb,xc,xd⟩= !bj p n:=fun n=>by simp [cJ]
  replace hq:=hq (by simp);exact acP
 by_cases o3:op=41
 ·subst o3;have hf:∀n:Int,cJ p ⟨41,n,xb,xc,xd⟩=bj p n:=fun n=>by simp [cJ]
  replace hq:=hq (by simp);exact acP
 by_cases o4:op=38
 ·subst o4;have hf:∀n n2:Int,cJ p ⟨38,n,xb,n2,xd⟩=(bj p n==bj p n2):=fun n n2=>by simp [cJ]
  replace hq:=hq (by simp);replace kO:=kO (by simp);obtain ⟨m,gb,off,cap,rfl,hm,hk,rl,gc⟩:=bw h hq;obtain ⟨m2,gb2,EJ,z_,rfl,qV,jd,TF,gc2⟩:=bw h kO;have v0:=hv.c1;rw [hk] at v0 jd;simp only [Value.slice.injEq,Option.some.injEq,Addr.mk.injEq] at jd;obtain ⟨⟨rfl,rfl,-⟩,-,rfl⟩:=jd;rw [hf];clear hf hk h hv hq kO;generalize bj p m=g1 at*;generalize bj p m2=g2 at*;cases g1
  all_goals
   cases g2
   all_goals
    go_enter Tryz.func244,Tryz.ntmps244;exact acO
 by_cases o5:op=39
 ·subst o5;have hf:∀n n2:Int,cJ p ⟨39,n,xb,n2,xd⟩=(!bj p n&&bj p n2):=fun n n2=>by simp [cJ]
  replace hq:=hq (by simp);replace kO:=kO (by simp);obtain ⟨m,gb,off,cap,rfl,hm,hk,rl,gc⟩:=bw h hq;obtain ⟨m2,gb2,EJ,z_,rfl,qV,jd,TF,gc2⟩:=bw h kO;have v0:=hv.c1;rw [hk] at v0 jd;simp only [Value.slice.injEq,Option.some.injEq,Addr.mk.injEq] at jd;obtain ⟨⟨rfl,rfl,-⟩,-,rfl⟩:=jd;rw [hf];clear hf hk h hv hq kO;generalize bj p m=g1 at*;generalize bj p m2=g2 at*;cases g1
  all_goals
   cases g2
   all_goals
    go_enter Tryz.func244,Tryz.ntmps244;exact adD
 ·have hf:cJ p ⟨op,xa,xb,xc,xd⟩=true:=by simp [cJ,o1,o2,o3,o4,o5]
  obtain ⟨ga,gcp,hk,-,-⟩:=h.g.val;have v0:=hv.c1;rw [hk] at v0;rw [hf];clear hf hk h hv hq kO;go_enter Tryz.func244,Tryz.ntmps244;exact adD
end
def StI (w V:World) (x0 x1 x2 x3 x4 x5 x6 x7 x8 x9 Ot Wz WA x13:Value):Prop:=V.cell? (π w.heap.size 1)=some x0/\V.cell? (π (w.heap.size+1) 0)=some x1/\V.cell? (π (w.heap.size+1) 1)=some x2/\V.cell? (π (w.heap.size+1) 2)=some x3/\V.cell? (π (w.heap.size+1) 3)=some x4/\V.cell? (π (w.heap.size+1) 4)=some x5/\V.cell? (π (w.heap.size+1) 5)=some x6/\V.cell? (π (w.heap.size+1) 6)=some x7/\V.cell? (π (w.heap.size+1) 7)=some x8/\V.cell? (π (w.heap.size+1) 8)=some x9/\V.cell? (π (w.heap.size+1) 9)=some Ot/\V.cell? (π (w.heap.size+1) 10)=some Wz/\V.cell? (π (w.heap.size+1) 11)=some WA/\V.cell? (π (w.heap.size+1) 12)=some x13
def StK (w V:World) (x0 x1 x2 x3 x4 x5 x6 x7 x8 x9 Ot Wz WA x13:Value) (q:Addr) (y:Value):Prop:=V.cell? (π w.heap.size 1)=some x0/\V.cell? (π (w.heap.size+1) 0)=some x1/\V.cell? (π (w.heap.size+1) 1)=some x2/\V.cell? (π (w.heap.size+1) 2)=some x3/\V.cell? (π (w.heap.size+1) 3)=some x4/\V.cell? (π (w.heap.size+1) 4)=some x5/\V.cell? (π (w.heap.size+1) 5)=some x6/\V.cell? (π (w.heap.size+1) 6)=some x7/\V.cell? (π (w.heap.size+1) 7)=some x8/\V.cell? (π (w.heap.size+1) 8)=some x9/\V.cell? (π (w.heap.size+1) 9)=some Ot/\V.cell? (π (w.heap.size+1) 10)=some Wz/\V.cell? (π (w.heap.size+1) 11)=some WA/\V.cell? (π (w.heap.size+1) 12)=some x13/\V.cell? q=some y
def TG:Std:=⟨[],[],0⟩
def eV (T:Map) (i:Nat):Std:=(T i).getD TG
def stC (T:Map) (mv:Nat->Value) (o:Nat):Value:=(bU (T (o / 13)).isSome (eV T (o / 13)) (mv (o / 13))).getD (o % 13) undef
structure ii (w:World) (iz:Value) (n:Nat) (T:Map) (mv:Nat->Value):Prop where
 row:Row w 233 13 iz n (stC T mv)
 more:∀i,i < n->cZ w (mv i) (eV T i).lo
 off:∀i,i < n->∀b,(mv i).ownBlock=some b->iz.ownBlock≠some b
section
variable {w w':World} {iz:Value} {n:Nat} {T:Map} {mv:Nat->Value}
theorem ii.aB (h:ii w iz n T mv) (f:ax [] w w'):ii w' iz n T mv:=⟨h.row.aB f (by simp),fun i hi=>(h.more i hi).aB f,h.off⟩
theorem ii.RD (h:ii w iz n T mv) {i:Nat} (hi:i < n):∃b cap,iz= .slice (some (π b 0)) n cap/\n<=cap/\cap<=maxLen/\b < w.heap.size/\
 w.cell? (π b (i*13))=some (.bool (T i).isSome)/\w.cell? (π b (i*13+1))=some (.string (fH (eV T i).ty))/\
 w.cell? (π b (i*13+2))=some (ι (bE (eV T i).lo 0))/\w.cell? (π b (i*13+3))=some (ι (bE (eV T i).lo 1))/\w.cell? (π b (i*13+4))=some (ι (bE (eV T i).lo 2))/\
 w.cell? (π b (i*13+5))=some (ι (bE (eV T i).lo 3))/\w.cell? (π b (i*13+6))=some (ι (bE (eV T i).lo 4))/\w.cell? (π b (i*13+7))=some (ι (bE (eV T i).lo 5))/\
 w.cell? (π b (i*13+8))=some (ι (bE (eV T i).lo 6))/\w.cell? (π b (i*13+9))=some (ι (bE (eV T i).lo 7))/\w.cell? (π b (i*13+10))=some (ι (eV T i).lo.length)/\
 w.cell? (π b (i*13+11))=some (ι (eV T i).ha)/\w.cell? (π b (i*13+12))=some (mv i):=by
 obtain ⟨b,cap,rfl,h1,h2,h3⟩:=h.row.some (by omega);have key:∀k,k < 13->w.cell? (π b (i*13+k))=some ((bU (T i).isSome (eV T i) (mv i)).getD k undef):=fun k hk=>by have e:=h.row.cell (o:=i*13+k) (by omega);rw [e];unfold stC;rw [show (i*13+k) / 13=i by omega,show (i*13+k) % 13=k by omega]
 exact ⟨b,cap,rfl,h1,h2,h3,key 0 (by omega),key 1 (by omega),key 2 (by omega),key 3 (by omega),key 4 (by omega),key 5 (by omega),key 6 (by omega),key 7 (by omega),key 8 (by omega),key 9 (by omega),key 10 (by omega),key 11 (by omega),key 12 (by omega)⟩
end
theorem Gy {p:aO} {T:Map} (hT:∀q s,T q=some s->de p T q s.lo):∀(l:List Nat) (q:Nat),de p T q l->l.length<=q:=by
 intro l
 induction l with
 |nil=>intro q _;exact Nat.zero_le _
 |cons t l ih=>intro q h;obtain ⟨h1,-,s,h2,rfl⟩:=h;have:=ih t (hT t s h2);simp only [List.length_cons];omega
theorem TH (p:aO) (n:Int):Aa p.on.length (fun i=>p.on.getD i 0) n=p.on.contains n:=by
 unfold Aa;rw [Bool.eq_iff_iff];simp only [Bool.not_eq_true',decide_eq_false_iff_not,List.contains_iff_mem];constructor
 ·intro h;apply Classical.byContradiction;intro hn;refine h fun i hi e=>hn ?_;rw [<-e,List.getD_eq_getElem?_getD,List.getElem?_eq_getElem hi];exact List.getElem_mem hi
 ·intro h hn;obtain ⟨i,hi,e⟩:=List.getElem_of_mem h;refine hn i hi ?_;rw [List.getD_eq_getElem?_getD,List.getElem?_eq_getElem hi];exact e
def Mb (p:aO) (xa:Int):List Nat->Bool
 |[]=>false
 |t::_=>decide (xa=(ai p t).a)
def EL (T:Map) (xa:Int) (ty:List Nat):List Nat->Bool
 |[]=>false
 |t::l=>decide (xa=t)&&(match T t with|some s=>decide (s.ty=ty/\s.lo=l)|none=>decide (ty=[]/\l=[]))
structure aaA (p:aO) (T:Map) (pc:Nat) (x:Ins) (s:Std):Prop where
 nj:pc < p.code.length
 cW:0<=x.op
 wT:x.op=22\/x.op=23\/x.op=25\/x.op=26->0<=x.a/\x.a < p.code.length
 iF:de p T pc s.lo
 Vu:eI s.ty
 hT:∀q st,T q=some st->de p T q st.lo/\eI st.ty
 len:p.code.length<=262144
section
variable {w:World} {K:Kp} {p:aO} {iz:Value} {vb:Nat} {T:Map} {mv:Nat->Value} {pc:Nat} {x:Ins} {s:Std} {smv:Value}
theorem adF {p:Prop} (h:p:=by
 unfold aQ aA cT bU;dsimp only;rw [HF.o];generalize fH ty=tb;generalize bE lo=lc;rcases hj with rfl|rfl|rfl|rfl
 all_goals
  exact acn):p:=h
theorem aco {p:Prop} (h:p:=by
 unfold aQ aA cT bU;dsimp only;generalize fH ty=tb;generalize bE lo=lc;exact acn):p:=h
theorem acn {p:Prop} (h:p:=by
 go_enter Tryz.func245,Tryz.ntmps245;go_wp2_with fail;refine eP rfl ?_;exact ⟨rfl,hB _ _ _ _⟩):p:=h
theorem Ac (h:fP w K p) (hv:ay w vb 230 (qR K p iz)) (hs:ii w iz p.code.length T mv) (hm:cZ w smv s.lo) (J:aaA p T pc x s):
 Calls Tryz.prog 245 #[ρ vb,ι pc,aQ x,cT true s smv] w (fun e w'=>e= .returned (.bool (cC p T pc x s.ty s.lo))/\Below w.heap.size w w'):=by
 obtain ⟨op,xa,xb,xc,xd⟩:=x;obtain ⟨ty,lo,ha⟩:=s;obtain ⟨nj,cW,wT,iF,Vu,hT,hlen⟩:=J;dsimp only at cW wT iF Vu hm;obtain ⟨ma,mc,rfl,m1,m2⟩:=aV.val hm;have Hh:=Gy (fun q s h=>(hT q s h).1) lo pc iF;have X9:pc < 262144:=by omega
 have hB:∀cs T mV T2,Below w.heap.size w ((w.alloc (.cells cs T)).alloc (.cells mV T2)):=fun cs T mV T2=>((Below.refl _ _).alloc (Nat.le_refl _) _).alloc (by simp) _;obtain ⟨v0,-,-,v3,v4,v5,v6⟩:=hv.c7;have lv:=hv.lt;obtain ⟨cb,wk,zF,kc,q1,q2,lcb,-⟩:=h.cd.some (by omega) (by omega);have INS:∀i,i < p.code.length->w.cell? (π cb (wk+i*5))=some (ι (ai p i).op)/\w.cell? (π cb (wk+i*5+1))=some (ι (ai p i).a):=by intro i hi;obtain ⟨b,off,cap,hv,-,-,c0,c1,-⟩:=h.ins hi;rw [kc] at hv;simp only [Value.slice.injEq,Option.some.injEq,Addr.mk.injEq] at hv;obtain ⟨⟨rfl,rfl,-⟩,-,-⟩:=hv;exact ⟨c0,c1⟩
 have IM:=ae INS;rw [kc] at v5;clear INS;by_cases hj:op=22\/op=23\/op=25\/op=26
 ·obtain ⟨a0,a1⟩:=wT hj;obtain ⟨m,rfl⟩:=Int.eq_ofNat_of_zero_le a0;have Fo:m < p.code.length:=by omega
  obtain ⟨c0,-⟩:=IM.o m Fo;by_cases h1:m<=pc
  ·have HF:=ae (show cC p T pc ⟨op,m,xb,xc,xd⟩ ty lo=false by unfold cC;rw [if_pos ⟨hj,.inl (by dsimp only;omega)⟩]);clear hv hs hm iF hT h q1 q2 m1 m2;exact adF
  ·have yq:cC p T pc ⟨op,m,xb,xc,xd⟩ ty lo=if (ai p m).op=25 then false else if op=25 then decide (0 < pc)&&decide ((ai p (pc - 1)).op=24)&&decide (p.aJ≠pc)&& !p.on.contains (pc:Int) else if op=26 then Mb p m lo else true:=by
    unfold cC;dsimp only [Int.toNat_natCast];by_cases e:(ai p m).op=25
    ·rw [if_pos ⟨hj,.inr e⟩,if_pos e]
    ·rw [if_neg (by rintro ⟨-,h'|h'⟩;omega;exact e h'),if_neg (show ¬op=24 by omega),if_neg e];rcases hj with rfl|rfl|rfl|rfl<;>cases lo<;>rfl
   by_cases h2:(ai p m).op=25
   ·have HF:=ae (show cC p T pc ⟨op,m,xb,xc,xd⟩ ty lo=false by rw [yq,if_pos h2]);rw [h2] at c0;clear hv hs iF hT h q1 q2 m1 m2 yq h2;exact adF
   rw [if_neg h2] at yq;generalize (ai p m).op=om at c0 h2;rw [yq];have HT:=ae hT;have HM:=ae hm;have HH:=ae h;clear yq hT h hs;by_cases o5:op=25
   ·subst o5;rw [if_pos rfl];by_cases hp0:pc=0
    ·subst hp0;unfold aQ aA cT bU;dsimp only;generalize fH ty=tb;generalize bE lo=lc;go_enter Tryz.func245,Tryz.ntmps245;go_wp2_with fail;refine eP rfl ?_;exact ⟨by simp,hB _ _ _ _⟩
    ·have w2:IntKind.i64.wrap ((pc:Int) - 1)=((pc - 1:Nat):Int):=by rw [IntWalk.i64_in _ (by constructor<;>omega)];omega
     have e1:decide (0 < pc)=true:=by simp<;>omega
     have hpp:0 < pc:=by omega
     have TI:pc - 1 < p.code.length:=by omega
     rw [e1];generalize pc - 1=k at*;obtain ⟨d0,-⟩:=IM.o k TI;by_cases d24:(ai p k).op=24
     ·rw [d24] at d0;rw [d24];by_cases hmi:p.aJ=(pc:Int)
      ·have hr:∀b:Bool,(true&&decide ((24:Int)=24)&&decide (p.aJ≠(pc:Int))&&b)=false:=fun b=>by simp [hmi]
       rw [hr];rw [hmi] at v4;exact aco
      ·have hr:∀b:Bool,(true&&decide ((24:Int)=24)&&decide (p.aJ≠(pc:Int))&&b)=b:=fun b=>by have e9:decide (p.aJ≠(pc:Int))=true:=decide_eq_true hmi;rw [e9];cases b<;>rfl
       rw [hr,<-TH];have PJ:=ae (fun V (f:ax [] w V)=>Ab (w:=V) (f:=fun i=>p.on.getD i 0) (HH.o.aB f).o (pc:Int));obtain ⟨oa,oc,ko,-,-⟩:=HH.o.o.val;rw [ko] at v3 PJ;generalize p.aJ=pm at*;generalize Aa p.on.length (fun i=>p.on.getD i 0) (pc:Int)=hb at*;unfold aQ aA cT bU;dsimp only;generalize fH ty=tb;generalize bE lo=lc;go_enter Tryz.func245,Tryz.ntmps245;go_wp2_with fail;refine (PJ.o _ ((ax.ah (hB _ _ _ _)))).mono ?_;rintro e w' ⟨rfl,rfl⟩;cases hb
       ·go_wp2_with fail;refine eP rfl ?_;have e9:(pm !=(pc:Int))=true:=by simp [hmi]
        exact ⟨by rw [show (!false)=true from rfl,<-e9];rfl,hB _ _ _ _⟩
       ·go_wp2_with fail;refine eP rfl ?_;exact ⟨rfl,hB _ _ _ _⟩
     ·have hr:∀b c:Bool,(true&&decide ((ai p k).op=24)&&b&&c)=false:=fun b c=>by simp [d24]
      rw [hr];generalize (ai p k).op=ok at d0 d24;unfold aQ aA cT bU;dsimp only;generalize fH ty=tb;generalize bE lo=lc;go_enter Tryz.func245,Tryz.ntmps245;go_wp2_with fail;refine eP rfl ?_;exact ⟨by simp [d24],hB _ _ _ _⟩
   rw [if_neg o5];by_cases o6:op=26
   ·subst o6;rw [if_pos rfl];have iM:Hid (∀V,Below w.heap.size w V->Calls Tryz.prog 300 #[cT true ⟨ty,lo,ha⟩ (.slice ma (lo.length - 8) mc)] V (fun e w'=>e= .returned (ι (ov lo))/\Below V.heap.size V w')):=ae (fun V hb=>Gv V true (s:=⟨ty,lo,ha⟩) (aV.aB HM.o (ax.ah hb)) (by dsimp only;omega));clear v0 v3 v4 v6 HM;unfold aQ aA cT bU;dsimp only;unfold cT bU at iM;dsimp only at iM;generalize fH ty=tb at*;cases lo with
    |nil=>
     rw [show Mb p m []=false from rfl];rw [show ov []= -1 from rfl] at iM;generalize bE []=lc at*;generalize ([]:List Nat).length=ln at*;generalize ln - 8=n8 at*;have Cj:ay (((w.alloc (.cells #[ι 26,ι m,ι xb,ι xc,ι xd] 40)).alloc (.cells #[.bool true,.string tb,ι (lc 0),ι (lc 1),ι (lc 2),ι (lc 3),ι (lc 4),ι (lc 5),ι (lc 6),ι (lc 7),ι ln,ι ha,.slice ma n8 mc] 233)).drew) w.heap.size 40 #[ι 26,ι m,ι xb,ι xc,ι xd]:=((ay.new w _ _).alloc _).drewN 1;have fq:ay (((w.alloc (.cells #[ι 26,ι m,ι xb,ι xc,ι xd] 40)).alloc (.cells #[.bool true,.string tb,ι (lc 0),ι (lc 1),ι (lc 2),ι (lc 3),ι (lc 4),ι (lc 5),ι (lc 6),ι (lc 7),ι ln,ι ha,.slice ma n8 mc] 233)).drew) (w.heap.size+1) 233 #[.bool true,.string tb,ι (lc 0),ι (lc 1),ι (lc 2),ι (lc 3),ι (lc 4),ι (lc 5),ι (lc 6),ι (lc 7),ι ln,ι ha,.slice ma n8 mc]:=(ay.a_ (by simp)).drewN 1;have sS:StI w (((w.alloc (.cells #[ι 26,ι m,ι xb,ι xc,ι xd] 40)).alloc (.cells #[.bool true,.string tb,ι (lc 0),ι (lc 1),ι (lc 2),ι (lc 3),ι (lc 4),ι (lc 5),ι (lc 6),ι (lc 7),ι ln,ι ha,.slice ma n8 mc] 233)).drew) (ι m) (.bool true) (.string tb) (ι (lc 0)) (ι (lc 1)) (ι (lc 2)) (ι (lc 3)) (ι (lc 4)) (ι (lc 5)) (ι (lc 6)) (ι (lc 7)) (ι ln) (ι ha) (.slice ma n8 mc):=⟨Cj.cell 1,fq.cell 0,fq.cell 1,fq.cell 2,fq.cell 3,fq.cell 4,fq.cell 5,fq.cell 6,fq.cell 7,fq.cell 8,fq.cell 9,fq.cell 10,fq.cell 11,fq.cell 12⟩;have gp:Hid (Below w.heap.size w ((w.alloc (.cells #[ι 26,ι m,ι xb,ι xc,ι xd] 40)).alloc (.cells #[.bool true,.string tb,ι (lc 0),ι (lc 1),ι (lc 2),ι (lc 3),ι (lc 4),ι (lc 5),ι (lc 6),ι (lc 7),ι ln,ι ha,.slice ma n8 mc] 233)).drew):=ae ((hB #[ι 26,ι m,ι xb,ι xc,ι xd] 40 #[.bool true,.string tb,ι (lc 0),ι (lc 1),ι (lc 2),ι (lc 3),ι (lc 4),ι (lc 5),ι (lc 6),ι (lc 7),ι ln,ι ha,.slice ma n8 mc] 233).trans (au _ _ 1));have C1:Hid (∀V:World,Hid (Below w.heap.size w V)->(StI w V (ι m) (.bool true) (.string tb) (ι (lc 0)) (ι (lc 1)) (ι (lc 2)) (ι (lc 3)) (ι (lc 4)) (ι (lc 5)) (ι (lc 6)) (ι (lc 7)) (ι ln) (ι ha) (.slice ma n8 mc))->Calls Tryz.prog 300 #[.agg #[.bool true,.string tb,ι (lc 0),ι (lc 1),ι (lc 2),ι (lc 3),ι (lc 4),ι (lc 5),ι (lc 6),ι (lc 7),ι ln,ι ha,.slice ma n8 mc]] V fun e V'=>e= .returned (ι (-1))/\(StI w V' (ι m) (.bool true) (.string tb) (ι (lc 0)) (ι (lc 1)) (ι (lc 2)) (ι (lc 3)) (ι (lc 4)) (ι (lc 5)) (ι (lc 6)) (ι (lc 7)) (ι ln) (ι ha) (.slice ma n8 mc))/\Hid (Below w.heap.size w V')):=by refine ae fun V hb hs=>(iM.o V hb.o).mono ?_;rintro e V' ⟨rfl,qq⟩;have key:∀b i v,V.cell? (π b i)=some v->V'.cell? (π b i)=some v:=fun b i v hc=>(World.cell?_of_block (qq.block _ (aS hc))).trans hc;exact ⟨rfl,⟨key _ _ _ hs.1,key _ _ _ hs.2.1,key _ _ _ hs.2.2.1,key _ _ _ hs.2.2.2.1,key _ _ _ hs.2.2.2.2.1,key _ _ _ hs.2.2.2.2.2.1,key _ _ _ hs.2.2.2.2.2.2.1,key _ _ _ hs.2.2.2.2.2.2.2.1,key _ _ _ hs.2.2.2.2.2.2.2.2.1,key _ _ _ hs.2.2.2.2.2.2.2.2.2.1,key _ _ _ hs.2.2.2.2.2.2.2.2.2.2.1,key _ _ _ hs.2.2.2.2.2.2.2.2.2.2.2.1,key _ _ _ hs.2.2.2.2.2.2.2.2.2.2.2.2.1,key _ _ _ hs.2.2.2.2.2.2.2.2.2.2.2.2.2⟩,ae (hb.o.trans (qq.mono hb.o.size))⟩
     clear Cj fq iM;go_enter Tryz.func245,Tryz.ntmps245;go_wp2_with fail;refine Mk.bF (S:=(fun wx=>wx.cell? (π w.heap.size 1)=some (ι m)/\wx.cell? (π (w.heap.size+1) 0)=some (.bool true)/\wx.cell? (π (w.heap.size+1) 1)=some (.string tb)/\wx.cell? (π (w.heap.size+1) 2)=some (ι (lc 0))/\wx.cell? (π (w.heap.size+1) 3)=some (ι (lc 1))/\wx.cell? (π (w.heap.size+1) 4)=some (ι (lc 2))/\wx.cell? (π (w.heap.size+1) 5)=some (ι (lc 3))/\wx.cell? (π (w.heap.size+1) 6)=some (ι (lc 4))/\wx.cell? (π (w.heap.size+1) 7)=some (ι (lc 5))/\wx.cell? (π (w.heap.size+1) 8)=some (ι (lc 6))/\wx.cell? (π (w.heap.size+1) 9)=some (ι (lc 7))/\wx.cell? (π (w.heap.size+1) 10)=some (ι ln)/\wx.cell? (π (w.heap.size+1) 11)=some (ι ha)/\wx.cell? (π (w.heap.size+1) 12)=some (.slice ma n8 mc))) (by kernel_rfl) sS (fun al=>?_);generalize World.drew _=V0 at*;refine Mk.bL 0 ?_;refine wpAnyH_ready (rs:=[1]) (by kernel_rfl) (by simp) ?_;refine AllReadyH.cons rfl (fun K hK=>?_) AllReadyH.nil;refine QX ?_;go_simp;go_at_call 300;refine (C1.o _ gp sS).mono ?_;rintro e w1 ⟨rfl,yz,VH⟩;clear al;refine hK.out _ _ yz (fun al=>?_);clear hK K;refine Mk.pt ?_;refine Mk.bL 2 ?_;refine Mk.bL 3 ?_;refine Mk.OV 4 ?_;refine Mk.OV 5 ?_;refine Mk.OV 6 ?_;refine Mk.OV 7 ?_;refine Mk.OV 8 ?_;refine Mk.OV 9 ?_;refine Mk.OV 10 ?_;refine Mk.OV 11 ?_;refine Mk.OV 12 ?_;refine Mk.bL 13 ?_;refine Mk.bL 14 ?_;refine wpAnyH_done (by kernel_rfl) ⟨rfl,?_⟩ _;clear al;go_wp2_with fail;refine eP rfl ?_;exact ⟨rfl,VH.o⟩
    |cons t l=>
     have htl:=iF.1;obtain ⟨-,ca0⟩:=IM.o t (by omega);rw [show Mb p m (t::l)=decide ((m:Int)=(ai p t).a) from rfl];rw [show ov (t::l)=(t:Int) from rfl] at iM;have VB:t < p.code.length:=by omega
     clear iF;generalize bE (t::l)=lc at*;generalize (t::l).length=ln at*;generalize ln - 8=n8 at*;generalize (ai p t).a=ca at*;have Cj:ay (((w.alloc (.cells #[ι 26,ι m,ι xb,ι xc,ι xd] 40)).alloc (.cells #[.bool true,.string tb,ι (lc 0),ι (lc 1),ι (lc 2),ι (lc 3),ι (lc 4),ι (lc 5),ι (lc 6),ι (lc 7),ι ln,ι ha,.slice ma n8 mc] 233)).drew) w.heap.size 40 #[ι 26,ι m,ι xb,ι xc,ι xd]:=((ay.new w _ _).alloc _).drewN 1;have fq:ay (((w.alloc (.cells #[ι 26,ι m,ι xb,ι xc,ι xd] 40)).alloc (.cells #[.bool true,.string tb,ι (lc 0),ι (lc 1),ι (lc 2),ι (lc 3),ι (lc 4),ι (lc 5),ι (lc 6),ι (lc 7),ι ln,ι ha,.slice ma n8 mc] 233)).drew) (w.heap.size+1) 233 #[.bool true,.string tb,ι (lc 0),ι (lc 1),ι (lc 2),ι (lc 3),ι (lc 4),ι (lc 5),ι (lc 6),ι (lc 7),ι ln,ι ha,.slice ma n8 mc]:=(ay.a_ (by simp)).drewN 1;have jd:(((w.alloc (.cells #[ι 26,ι m,ι xb,ι xc,ι xd] 40)).alloc (.cells #[.bool true,.string tb,ι (lc 0),ι (lc 1),ι (lc 2),ι (lc 3),ι (lc 4),ι (lc 5),ι (lc 6),ι (lc 7),ι ln,ι ha,.slice ma n8 mc] 233)).drew).cell? (π cb (wk+t*5+1))=some (ι ca):=(World.cell?_of_block (((hB _ _ _ _).trans (au _ _ 1)).block _ lcb)).trans ca0;have sS:StK w (((w.alloc (.cells #[ι 26,ι m,ι xb,ι xc,ι xd] 40)).alloc (.cells #[.bool true,.string tb,ι (lc 0),ι (lc 1),ι (lc 2),ι (lc 3),ι (lc 4),ι (lc 5),ι (lc 6),ι (lc 7),ι ln,ι ha,.slice ma n8 mc] 233)).drew) (ι m) (.bool true) (.string tb) (ι (lc 0)) (ι (lc 1)) (ι (lc 2)) (ι (lc 3)) (ι (lc 4)) (ι (lc 5)) (ι (lc 6)) (ι (lc 7)) (ι ln) (ι ha) (.slice ma n8 mc) (π cb (wk+t*5+1)) (ι ca):=⟨Cj.cell 1,fq.cell 0,fq.cell 1,fq.cell 2,fq.cell 3,fq.cell 4,fq.cell 5,fq.cell 6,fq.cell 7,fq.cell 8,fq.cell 9,fq.cell 10,fq.cell 11,fq.cell 12,jd⟩;have gp:Hid (Below w.heap.size w ((w.alloc (.cells #[ι 26,ι m,ι xb,ι xc,ι xd] 40)).alloc (.cells #[.bool true,.string tb,ι (lc 0),ι (lc 1),ι (lc 2),ι (lc 3),ι (lc 4),ι (lc 5),ι (lc 6),ι (lc 7),ι ln,ι ha,.slice ma n8 mc] 233)).drew):=ae ((hB #[ι 26,ι m,ι xb,ι xc,ι xd] 40 #[.bool true,.string tb,ι (lc 0),ι (lc 1),ι (lc 2),ι (lc 3),ι (lc 4),ι (lc 5),ι (lc 6),ι (lc 7),ι ln,ι ha,.slice ma n8 mc] 233).trans (au _ _ 1));have C1:Hid (∀V:World,Hid (Below w.heap.size w V)->(StK w V (ι m) (.bool true) (.string tb) (ι (lc 0)) (ι (lc 1)) (ι (lc 2)) (ι (lc 3)) (ι (lc 4)) (ι (lc 5)) (ι (lc 6)) (ι (lc 7)) (ι ln) (ι ha) (.slice ma n8 mc) (π cb (wk+t*5+1)) (ι ca))->Calls Tryz.prog 300 #[.agg #[.bool true,.string tb,ι (lc 0),ι (lc 1),ι (lc 2),ι (lc 3),ι (lc 4),ι (lc 5),ι (lc 6),ι (lc 7),ι ln,ι ha,.slice ma n8 mc]] V fun e V'=>e= .returned (ι (t))/\(StK w V' (ι m) (.bool true) (.string tb) (ι (lc 0)) (ι (lc 1)) (ι (lc 2)) (ι (lc 3)) (ι (lc 4)) (ι (lc 5)) (ι (lc 6)) (ι (lc 7)) (ι ln) (ι ha) (.slice ma n8 mc) (π cb (wk+t*5+1)) (ι ca))/\Hid (Below w.heap.size w V')):=by refine ae fun V hb hs=>(iM.o V hb.o).mono ?_;rintro e V' ⟨rfl,qq⟩;have key:∀b i v,V.cell? (π b i)=some v->V'.cell? (π b i)=some v:=fun b i v hc=>(World.cell?_of_block (qq.block _ (aS hc))).trans hc;exact ⟨rfl,⟨key _ _ _ hs.1,key _ _ _ hs.2.1,key _ _ _ hs.2.2.1,key _ _ _ hs.2.2.2.1,key _ _ _ hs.2.2.2.2.1,key _ _ _ hs.2.2.2.2.2.1,key _ _ _ hs.2.2.2.2.2.2.1,key _ _ _ hs.2.2.2.2.2.2.2.1,key _ _ _ hs.2.2.2.2.2.2.2.2.1,key _ _ _ hs.2.2.2.2.2.2.2.2.2.1,key _ _ _ hs.2.2.2.2.2.2.2.2.2.2.1,key _ _ _ hs.2.2.2.2.2.2.2.2.2.2.2.1,key _ _ _ hs.2.2.2.2.2.2.2.2.2.2.2.2.1,key _ _ _ hs.2.2.2.2.2.2.2.2.2.2.2.2.2.1,key _ _ _ hs.2.2.2.2.2.2.2.2.2.2.2.2.2.2⟩,ae (hb.o.trans (qq.mono hb.o.size))⟩
     clear Cj fq jd iM;go_enter Tryz.func245,Tryz.ntmps245;go_wp2_with fail;refine Mk.bF (S:=(fun wx=>wx.cell? (π w.heap.size 1)=some (ι m)/\wx.cell? (π (w.heap.size+1) 0)=some (.bool true)/\wx.cell? (π (w.heap.size+1) 1)=some (.string tb)/\wx.cell? (π (w.heap.size+1) 2)=some (ι (lc 0))/\wx.cell? (π (w.heap.size+1) 3)=some (ι (lc 1))/\wx.cell? (π (w.heap.size+1) 4)=some (ι (lc 2))/\wx.cell? (π (w.heap.size+1) 5)=some (ι (lc 3))/\wx.cell? (π (w.heap.size+1) 6)=some (ι (lc 4))/\wx.cell? (π (w.heap.size+1) 7)=some (ι (lc 5))/\wx.cell? (π (w.heap.size+1) 8)=some (ι (lc 6))/\wx.cell? (π (w.heap.size+1) 9)=some (ι (lc 7))/\wx.cell? (π (w.heap.size+1) 10)=some (ι ln)/\wx.cell? (π (w.heap.size+1) 11)=some (ι ha)/\wx.cell? (π (w.heap.size+1) 12)=some (.slice ma n8 mc)/\wx.cell? (π cb (wk+t*5+1))=some (ι ca))) (by kernel_rfl) sS (fun al=>?_);generalize World.drew _=V0 at*;refine Mk.bL 0 ?_;refine wpAnyH_ready (rs:=[1]) (by kernel_rfl) (by simp) ?_;refine AllReadyH.cons rfl (fun K hK=>?_) AllReadyH.nil;refine QX ?_;go_simp;go_at_call 300;refine (C1.o _ gp sS).mono ?_;rintro e w1 ⟨rfl,yz,VH⟩;clear al;refine hK.out _ _ yz (fun al=>?_);clear hK K;refine Mk.pt ?_;refine Mk.bL 2 ?_;refine Mk.bL 3 ?_;refine Mk.bL 4 ?_;refine Mk.bL 5 ?_;refine Mk.bL 6 ?_;refine Mk.bL 7 ?_;refine wpAnyH_ready (rs:=[8]) (by kernel_rfl) (by simp) ?_;refine AllReadyH.cons rfl (fun K hK=>?_) AllReadyH.nil;refine QX ?_;go_simp;go_at_call 300;refine (C1.o _ VH yz).mono ?_;rintro e w2 ⟨rfl,Ck,hQ2⟩;clear al;refine hK.out _ _ Ck (fun al=>?_);clear hK K;refine Mk.pt ?_;refine Mk.bL 9 ?_;refine Mk.bL 10 ?_;refine Mk.bL 11 ?_;refine Mk.bL 12 ?_;refine Mk.bL 13 ?_;refine Mk.bL 14 ?_;refine wpAnyH_done (by kernel_rfl) ⟨rfl,?_⟩ _;clear al;go_wp2_with fail;refine eP rfl ?_;exact ⟨show Ending.returned (.bool ((m:Int)==ca))=_ by congr 2,hQ2.o⟩
   ·rw [if_neg o6];have ho:op=22\/op=23:=by omega
    unfold aQ aA cT bU;dsimp only;generalize fH ty=tb;generalize bE lo=lc;rcases ho with rfl|rfl
    all_goals
     exact acn
 ·have n22:¬op=22:=fun e=>hj (.inl e);have n23:¬op=23:=fun e=>hj (.inr (.inl e));have n25:¬op=25:=fun e=>hj (.inr (.inr (.inl e)));have n26:¬op=26:=fun e=>hj (.inr (.inr (.inr e)));have yq:cC p T pc ⟨op,xa,xb,xc,xd⟩ ty lo=if op=24 then decide (pc+1 < p.code.length)&&decide ((ai p (pc+1)).op=25) else if op=27 then EL T xa ty lo else if op=0 then lo.isEmpty else true:=by unfold cC;dsimp only;rw [if_neg (by rintro ⟨h',-⟩;exact hj h'),if_neg n25,if_neg n26];cases lo<;>rfl
  rw [yq];have HT:=ae hT;have HM:=ae hm;have HH:=ae h;clear yq hT h hj wT;by_cases o4:op=24
  ·subst o4;rw [if_pos rfl];have w2:IntKind.i64.wrap ((pc:Int)+1)=((pc+1:Nat):Int):=by rw [IntWalk.i64_in _ (by constructor<;>omega)];omega
   by_cases a8:pc+1 < p.code.length
   ·obtain ⟨d0,-⟩:=IM.o (pc+1) a8;have e1:decide (pc+1 < p.code.length)=true:=by simp [a8]
    rw [e1];generalize (ai p (pc+1)).op=ok at d0 ⊢;by_cases ho:ok=25
    ·subst ho;exact aco
    ·have hr:(true&&decide (ok=25))=false:=by simp [ho]
     rw [hr];unfold aQ aA cT bU;dsimp only;generalize fH ty=tb;generalize bE lo=lc;go_enter Tryz.func245,Tryz.ntmps245;go_wp2_with fail;refine eP rfl ?_;exact ⟨by simp [ho],hB _ _ _ _⟩
   ·have hr:∀b:Bool,(decide (pc+1 < p.code.length)&&b)=false:=fun b=>by simp [a8]
    rw [hr];exact aco
  rw [if_neg o4];by_cases o7:op=27
  ·subst o7;rw [if_pos rfl];have iM:Hid (∀V,Below w.heap.size w V->Calls Tryz.prog 300 #[cT true ⟨ty,lo,ha⟩ (.slice ma (lo.length - 8) mc)] V (fun e w'=>e= .returned (ι (ov lo))/\Below V.heap.size V w')):=ae (fun V hb=>Gv V true (s:=⟨ty,lo,ha⟩) (aV.aB HM.o (ax.ah hb)) (by dsimp only;omega));cases lo with
   |nil=>rw [show EL T xa ty []=false from rfl];rw [show ov []= -1 from rfl] at iM;clear HM HT HH IM hs v0 v3 v4 v6;unfold aQ aA cT bU;dsimp only;unfold cT bU at iM;dsimp only at iM;generalize fH ty=tb at*;generalize bE []=lc at*;generalize ([]:List Nat).length=ln at*;generalize ln - 8=n8 at*;go_enter Tryz.func245,Tryz.ntmps245;go_wp2_with fail;refine (iM.o _ (hB _ _ _ _)).mono ?_;rintro e w1 ⟨rfl,hb⟩;have dC:=ae ((hB _ _ _ _).trans (hb.mono (show w.heap.size<=_ by simp only [aE];omega)));clear hb;go_wp2_with fail;refine eP rfl ?_;exact ⟨rfl,dC.o⟩
   |cons t l=>
    rw [show ov (t::l)=(t:Int) from rfl] at iM;obtain ⟨htp,-,st,fj,KT⟩:=id iF;have htn:t < p.code.length:=by omega
    have hag:EL T xa ty (t::l)=(decide (xa=t)&&decide (st.ty=ty/\st.lo=l)):=by show (decide (xa=t)&&(match T t with|some s=>decide (s.ty=ty/\s.lo=l)|none=>decide (ty=[]/\l=[])))=_;rw [fj]
    rw [hag];have hsa:eV T t=st:=by unfold eV;rw [fj];rfl
    have his:(T t).isSome=true:=by rw [fj];rfl
    have kV:=ae (fun V (hb:Below w.heap.size w V)=>(ii.aB hs (ax.ah hb)).RD htn);have HMR:=ae (fun V (hb:Below w.heap.size w V)=>(hs.more t htn).aB (ax.ah hb));rw [his,hsa] at kV;rw [hsa] at HMR;have VI:Hid (∀V,Below w.heap.size w V->Calls Tryz.prog 301 #[cT true ⟨ty,t::l,ha⟩ (.slice ma ((t::l).length - 8) mc)] V (ow V (.slice ma ((t::l).length - 8) mc) true ⟨ty,l,ha⟩)):=ae (fun V hb=>yy V true (s:=⟨ty,t::l,ha⟩) (cZ.aB HM.o (ax.ah hb)) (by simp) (by dsimp only;omega));have Xa:=(HT.o t st fj).2;have nT:=Gy (fun q s h=>(HT.o q s h).1) st.lo t (HT.o t st fj).1;have TJ:=ae (fun (V:World) (Dk TC:Value) (h1:cZ V Dk st.lo) (h2:cZ V TC l)=>EK (w:=V) true true (s:=st) (s2:=⟨ty,l,st.ha⟩) h1 h2 Xa Vu (by omega) (by simp only [List.length_cons] at Hh;dsimp only;omega));have wm:decide (st=(⟨ty,l,st.ha⟩:Std))=decide (st.ty=ty/\st.lo=l):=by
     rw [decide_eq_decide];constructor
     ·intro h;rw [h];exact ⟨rfl,rfl⟩
     ·rintro ⟨h1,h2⟩;cases st;dsimp only at h1 h2 ⊢;rw [h1,h2]
    rw [wm] at TJ;generalize decide (st.ty=ty/\st.lo=l)=res at*;have HV:Hid (∀V,Below w.heap.size w V->V.cell? (π vb 6)=some iz/\vb < V.heap.size):=ae (fun V hb=>by have:=hv.of (hb.block _ hv.lt);exact ⟨this.cell 6,this.lt⟩);have iW:=ae (fun V (hb:Below w.heap.size w V)=>HM.o.aB (ax.ah hb));clear hag hsa his fj KT HM HT HH IM hs v0 v3 v4 v6 Xa nT wm iF Vu hv hlen nj X9 Hh;unfold aQ aA cT bU;dsimp only;unfold cT bU at iM VI TJ;dsimp only at iM VI TJ;generalize tO:fH ty=tb at*;have qX:=ae tO;clear tO;generalize bE (t::l)=lc at*;generalize (t::l).length=ln at*;generalize ln - 8=n8 at*;go_enter Tryz.func245,Tryz.ntmps245;go_wp2_with fail;refine (iM.o _ (hB _ _ _ _)).mono ?_;rintro e w1 ⟨rfl,hb⟩;have FU:Below w.heap.size w w1:=(hB _ _ _ _).trans (hb.mono (show w.heap.size<=_ by simp only [aE];omega));have kx:ay w1 w.heap.size 40 #[ι 27,ι xa,ι xb,ι xc,ι xd]:=((ay.new w _ _).alloc _).of (hb.block _ (by simp only [aE];omega));have ks:ay w1 (w.heap.size+1) 233 #[.bool true,.string tb,ι (lc 0),ι (lc 1),ι (lc 2),ι (lc 3),ι (lc 4),ι (lc 5),ι (lc 6),ι (lc 7),ι ln,ι ha,.slice ma n8 mc]:=(ay.a_ (by simp)).of (hb.block _ (by simp only [aE];omega));have d1:w1.cell? (π w.heap.size 1)=some (ι xa):=kx.cell 1;have lx:=kx.lt;have ly:=ks.lt;obtain ⟨e0,e1,e2,e3,e4,e5,e6,e7,e8,e9,Dl,Dm,Dn⟩:=ks.nN;have dC:=ae FU;clear hb FU kx ks iM;by_cases hx:xa=(t:Int)
    ·obtain ⟨v6,VJ⟩:=HV.o w1 dC.o;obtain ⟨A,cap,rfl,a1,a2,a3,g0,g1,g2,g3,g4,g5,g6,g7,g8,g9,g10,g11,g12⟩:=kV.o w1 dC.o;have Db:=HMR.o w1 dC.o;obtain ⟨ka,Cl,VK,-,-⟩:=aV.val Db;rw [VK] at g12 Db HMR;have HXT:=ae (show (decide (xa=(t:Int))&&res)=res by simp [hx]);rw [hx] at d1;clear hx VK Db;generalize fH st.ty=tb2 at*;generalize bE st.lo=mW at*;generalize st.lo.length=RE at*;generalize st.ha=Gx at*;go_wp2_with fail;refine (VI.o _ ((dC.o.alloc dC.o.size _))).mono ?_;rintro e w2 ⟨TC,rfl,qV,dn,-⟩;obtain ⟨na,nc,Ad,-,-⟩:=aV.val qV;rw [Ad] at qV;dsimp only at qV Ad;subst Ad;have kin:ay w2 w1.heap.size 233 #[.bool true,.string tb2,ι (mW 0),ι (mW 1),ι (mW 2),ι (mW 3),ι (mW 4),ι (mW 5),ι (mW 6),ι (mW 7),ι RE,ι Gx,.slice ka (RE - 8) Cl]:=(ay.new w1 _ _).of (dn.block _ (by simp));obtain ⟨f0,f1,f2,f3,f4,f5,f6,f7,f8,f9,f10,f11,f12⟩:=kin.nN;have Xc:=kin.lt;have fg:=ae ((dC.o.alloc dC.o.size _).trans (dn.mono (Nat.le_trans dC.o.size (by simp))));have Mc:=ae qV;have Pc:=ae (HMR.o w2 fg.o);generalize w1.heap.size=ib at*;unfold cT bU;dsimp only;generalize bE l=lcm at*;generalize l.length=lm at*;generalize lm - 8=n9 at*;rw [qX.o];go_wp2_with fail;refine (TJ.o _ _ _ (cZ.aB Pc.o ((ax.refl [] w2).alloc _)) (cZ.aB Mc.o ((ax.refl [] w2).alloc _))).mono ?_;rintro e w3 ⟨rfl,wN⟩;have ki:=ae ((fg.o.alloc fg.o.size _).trans (wN.mono (Nat.le_trans fg.o.size (by simp))));clear wN;go_wp2_with fail;refine eP rfl ?_;exact ⟨by rw [HXT.o];rfl,ki.o⟩
    ·have HXT:=ae (show (decide (xa=(t:Int))&&res)=false by simp [hx]);have aba:(xa !=(t:Int))=true:=by simp [hx]
     go_wp2_with fail;refine eP rfl ?_;exact ⟨by rw [HXT.o];rfl,dC.o⟩
  rw [if_neg o7];by_cases o0:op=0
  ·subst o0;rw [if_pos rfl];cases lo with
   |nil=>unfold aQ aA cT bU;dsimp only;generalize fH ty=tb;generalize bE []=lc;exact acn
   |cons t l=>
    have bz:(((t::l).length:Nat):Int)≠0:=by simp<;>omega
    unfold aQ aA cT bU;dsimp only;generalize fH ty=tb;generalize bE (t::l)=lc;have X_:(t::l).isEmpty=false:=rfl;rw [X_];generalize (t::l).length=ln at*;have Md:¬ln=0:=by omega
    go_enter Tryz.func245,Tryz.ntmps245;go_wp2_with fail;refine eP rfl ?_;exact ⟨by simp [Md],hB _ _ _ _⟩
  ·rw [if_neg o0];exact aco
end
end Go.Proofs.YtblkblclmbhjiaaGreat.Vf
