import Derived.Test.YtblkblclmbhjiaaGreatX8
import Derived.Great.BuildSlice
import Derived.Laws.StructEq
set_option linter.all false
set_option maxHeartbeats 40000000
set_option maxRecDepth 100000
open Go.Proofs.Tryz
open Option renaming some->H,none->K7
open Go renaming Value->UL,World->UK
open Go.Value renaming slice->to
open Go.Obj renaming cells->QP
open Go.Ending renaming returned->C8
open Go.World renaming cell?->UJ
open Go.RowKit aj.Vm
open aj hiding aR an ak
namespace Go.Vf
open Ma (dP ci aX vb aI aV)
def nu(p:aQ):Prop:=p.bw.length*1<=140737488355328/\p.vars.length*24<=140737488355328/\p.aS.length*8<=140737488355328/\p.on.length*8<=140737488355328/\p.code.length*40<=140737488355328
def FX(J:Nat->UL):Act:={tmps:=#[J 0,J 1,J 2,J 3,J 4,J 5,J 6,J 7,J 8,J 9,J 10,J 11,J 12,J 13,J 14,J 15,J 16,J 17,J 18,J 19,J 20,J 21,J 22,J 23,J 24,J 25],defers:=[]}
def QJ(J:Nat->UL)(s:Nat)(v:UL):Nat->UL:=λx=>if x=s then v else J x
def ob:Nat->Nat
 |0=>0
 |1=>4
 |2=>8
 |3=>12
 |_=>18
def oa:Nat->Nat
 |0=>3
 |1=>7
 |2=>11
 |3=>15
 |_=>21
def tyE:Nat->TypeId
 |0=>4
 |1=>122
 |2=>3
 |3=>3
 |_=>40
def szE:Nat->Nat
 |0=>1
 |1=>3
 |2=>1
 |3=>1
 |_=>5
def nnE(p:aQ):Nat->Nat
 |0=>p.bw.length
 |1=>p.vars.length
 |2=>p.aS.length
 |3=>p.on.length
 |_=>p.code.length
def ggE(p:aQ):Nat->Nat->UL
 |0=>(λi=> .bool (p.bw.getD i false))
 |1=>(dP p)
 |2=>(aX p.aS)
 |3=>(aX p.on)
 |_=>(ci p)
def tkL:List Nat:=[1,2,5,6,9,10,13,14,16,17,19,20]
def fxL:List Nat:=[2,5,9,13,17,20,23]
def agW(A:Array UL)(h:A=(FX λk=>A.getD k undef).tmps):({tmps:=A,defers:=[]}:Act)=FX λk=>A.getD k undef:=by rw[h];rfl
def Xu:∀k,k<5->ob k<22/\ob k∉tkL/\ob k+3∉fxL/\∀j,j<5->ob k≠oa j/\(ob k=ob j->k=j):=by decide
def PB:∀k,k<5->oa k<22/\oa k∉tkL/\oa k+3∉fxL/\∀j,j<5->(oa k=oa j->k=j):=by decide
def agI:∀s,s∈fxL->s≠25:=by decide
structure TI(w:UK)(p:aQ)(f:Nat->UL)(l:Array Bool)(J:Nat->UL)(W:UK):Prop where
 sz:l.size=24
 tk:∀i,i∈tkL->l.getD i false=true
 n23:¬l.getD 23 false=true
 rO:Below w.heap.size w W
 zb:aF W (w.heap.size+1) 27 #[Pl,Pl,Pl,Pl,Y 0,Pl]
 fx:∀s,s∈fxL->J s=f s
 e:∀k,k<5->l.getD (ob k) false=true->∃b,J (ob k+3)=to (H (G b 0)) 0 0/\w.heap.size<=b/\aF W b (tyE k) #[]
 a:∀k,k<5->l.getD (oa k) false=true->Own w W (tyE k) (szE k) (nnE p k) (J (oa k+3)) (ggE p k)/\l.getD (ob k) false=true
 c:l.getD 22 false=true->J 25= .agg #[J 6,J 10,J 14,J 18,J 20,J 24]/\∀k,k<5->l.getD (oa k) false=true
section
variable {w W W':UK}{p:aQ}{f J:Nat->UL}{l:Array Bool}
def TI.built(h:TI w p f l J W){k:Nat}(hk:k<5):TI w p f (l.setIfInBounds (ob k) true) (QJ J (ob k+3) (to (H (G W.heap.size 0)) 0 0)) (W.alloc (QP #[] (tyE k))):=by
 obtain⟨k1,k2,k3,k4⟩:=Xu k hk;have hs:=h.sz;have X:Below W.heap.size W (W.alloc (QP #[] (tyE k))):=(aB _ _).alloc (aL _) _;have gs:∀j,(l.setIfInBounds (ob k) true).getD j false=if j=ob k then true else l.getD j false:=λj=>Mk.q9 O;refine⟨by simpa using hs,λi hi=>?_,?_,h.rO.trans (X.mono h.rO.size),h.zb.aG (aA.af (S:=[]) X) ay,λs hs=>?_,λj hj hd=>?_,λj hj hd=>?_,λhd=>?_⟩
 ·rw[gs];split
  ·rfl
  ·exact h.tk i hi
 ·rw[gs,aw O];exact h.n23
 ·unfold QJ;rw[aw (λe=>k3 (by rw[<-e];exact hs))];exact h.fx s hs
 ·unfold QJ;rw[gs]at hd;by_cases e:j=k
  ·subst e;rw[bk rfl];exact⟨_,rfl,h.rO.size,aF.new _ _ _⟩
  ·have e1:ob j≠ob k:=λe1=>e ((k4 j hj).2 e1.symm).symm;rw[aw e1]at hd;rw[aw O];obtain⟨b,h1,h2,h3⟩:=h.e j hj hd;exact⟨b,h1,h2,h3.alloc _⟩
 ·unfold QJ;have e1:=(k4 j hj).1;rw[gs,aw (Ne.symm e1)]at hd;rw[aw O];refine⟨(h.a j hj hd).1.later X,?_⟩;rw[gs];split
  ·rfl
  ·exact(h.a j hj hd).2
 ·rw[gs,aw O]at hd;obtain⟨h1,h2⟩:=h.c hd;have q:∀j,j<5->oa j+3≠ob k+3:=λj hj e=>(k4 j hj).1 O;refine⟨?_,λj hj=>?_⟩
  ·unfold QJ;rw[aw (show 25≠ob k+3 by omega),aw (show 6≠ob k+3 from q 0 O),aw (show 10≠ob k+3 from q 1 O),aw (show 14≠ob k+3 from q 2 O),aw (show 18≠ob k+3 from q 3 O),aw (λe=>k3 (by rw[<-e];decide)),aw (show 24≠ob k+3 from q 4 O)];exact h1
  ·rw[gs,aw (Ne.symm (k4 j hj).1)];exact h2 j hj
def TI.app(h:TI w p f l J W){k:Nat}(hk:k<5){v:UL}(hn:¬l.getD (oa k) false=true)(iL:l.getD (ob k) false=true)(hr:Row W' (tyE k) (szE k) v (nnE p k) (ggE p k))(X:Below W.heap.size W W')(hi:vu w.heap.size W'.heap.size v):TI w p f (l.setIfInBounds (oa k) true) (QJ J (oa k+3) v) W':=by
 obtain⟨k1,k2,k3,k4⟩:=PB k hk;have hs:=h.sz;have gs:∀j,(l.setIfInBounds (oa k) true).getD j false=if j=oa k then true else l.getD j false:=λj=>Mk.q9 O;refine⟨by simpa using hs,λi hi=>?_,?_,h.rO.trans (X.mono h.rO.size),h.zb.aG (aA.af (S:=[]) X) ay,λs hs=>?_,λj hj hd=>?_,λj hj hd=>?_,λhd=>?_⟩
 ·rw[gs];split
  ·rfl
  ·exact h.tk i hi
 ·rw[gs,aw O];exact h.n23
 ·unfold QJ;rw[aw (λe=>k3 (by rw[<-e];exact hs))];exact h.fx s hs
 ·unfold QJ;have e1:=((Xu j hj).2.2.2 k hk).1;rw[gs,aw e1]at hd;rw[aw O];obtain⟨b,h1,h2,h3⟩:=h.e j hj hd;exact⟨b,h1,h2,h3.aG (aA.af (S:=[]) X) ay⟩
 ·unfold QJ;rw[gs]at hd;by_cases e:j=k
  ·subst e;rw[bk rfl,gs,aw ((Xu j hj).2.2.2 j hj).1];exact⟨⟨hr,hi⟩,iL⟩
  ·have e1:oa j≠oa k:=λe1=>e (k4 j hj e1.symm).symm;rw[aw e1]at hd;rw[aw O,gs,aw ((Xu j hj).2.2.2 k hk).1];exact⟨(h.a j hj hd).1.later X,(h.a j hj hd).2⟩
 ·rw[gs,aw O]at hd;exact absurd ((h.c hd).2 k hk) hn
def TI.Q0(h:TI w p f l J W){k:Nat}(hk:k<5){v:UL}{b:Nat}(h0:l.getD (oa k) true=false)(iL:l.getD (ob k) false=true)(e2:w.heap.size<=b)(hr:Row W' (tyE k) (szE k) v (nnE p k) (ggE p k))(X:Below W.heap.size W W')(h3:∀b',v.ownBlock=H b'->b'=b\/W.heap.size<=b'):TI w p f (l.setIfInBounds (oa k) true) (QJ J (oa k+3) v) W':=by
 refine h.app hk (λe=>by have:=Mk.nX e;exact absurd (this.symm.trans h0) ay) iL hr X λb' jV=>?_;have:=(fE hr b' jV).2;rcases h3 b' jV with rfl|h9
 ·exact⟨e2,this⟩
 ·exact⟨cU h.rO.size h9,this⟩
def TI.all(h:TI w p f l J W)(hd:∀k,k<5->l.getD (oa k) false=true):TI w p f (l.setIfInBounds 22 true) (QJ J 25 (.agg #[J 6,J 10,J 14,J 18,J 20,J 24])) W:=by
 have hs:=h.sz;have gs:∀j,(l.setIfInBounds 22 true).getD j false=if j=22 then true else l.getD j false:=λj=>Mk.q9 O;refine⟨by simpa using hs,λi hi=>?_,?_,h.rO,h.zb,λs hs=>?_,λj hj hd=>?_,λj hj hd=>?_,λ_=>⟨rfl,λj hj=>?_⟩⟩
 ·rw[gs];split
  ·rfl
  ·exact h.tk i hi
 ·rw[gs,aw O];exact h.n23
 ·unfold QJ;rw[aw (agI s hs)];exact h.fx s hs
 ·have:=(Xu j hj).1;unfold QJ;rw[gs,aw O]at hd;rw[aw O];exact h.e j hj hd
 ·have:=(PB j hj).1;have:=(Xu j hj).1;unfold QJ;rw[gs,aw O]at hd;rw[aw O,gs,aw O];exact h.a j hj hd
 ·have:=(PB j hj).1;rw[gs,aw O];exact hd j hj
def TI.done(h:TI w p f l J W)(hd:l.getD 22 false=true):∀j,j<24->(l.setIfInBounds 23 true).getD j false=true:=by
 intro j hj;have hs9:=h.sz;have c2:=(h.c hd).2;have A:=λk hk=>h.a k hk (c2 k hk);rw[Mk.q9 O];split
 ·rfl
 ·rcases(by omega:j=0\/j=1\/j=2\/j=3\/j=4\/j=5\/j=6\/j=7\/j=8\/j=9\/j=10\/j=11\/j=12\/j=13\/j=14\/j=15\/j=16\/j=17\/j=18\/j=19\/j=20\/j=21\/j=22)with rfl|rfl|rfl|rfl|rfl|rfl|rfl|rfl|rfl|rfl|rfl|rfl|rfl|rfl|rfl|rfl|rfl|rfl|rfl|rfl|rfl|rfl|rfl
  ·exact(A 0 bd).2
  ·exact h.tk 1 bd
  ·exact h.tk 2 bd
  ·exact c2 0 bd
  ·exact(A 1 bd).2
  ·exact h.tk 5 bd
  ·exact h.tk 6 bd
  ·exact c2 1 bd
  ·exact(A 2 bd).2
  ·exact h.tk 9 bd
  ·exact h.tk 10 bd
  ·exact c2 2 bd
  ·exact(A 3 bd).2
  ·exact h.tk 13 bd
  ·exact h.tk 14 bd
  ·exact c2 3 bd
  ·exact h.tk 16 bd
  ·exact h.tk 17 bd
  ·exact(A 4 bd).2
  ·exact h.tk 19 bd
  ·exact h.tk 20 bd
  ·exact c2 4 bd
  ·exact hd
def aaW:(prog.info? 4).map (λi=>(i.zero,i.size,i.bytes))=H (H (.bool false),1,1):=by kernel_rfl
def aaV:(prog.info? 122).map (λi=>(i.zero,i.size,i.bytes))=H (H (.agg #[Y 0,Y 0,Y 0]),3,24):=by kernel_rfl
def UB:(prog.info? 3).map (λi=>(i.zero,i.size,i.bytes))=H (H (Y 0),1,8):=by kernel_rfl
def aav:(prog.info? 40).map (λi=>(i.zero,i.size,i.bytes))=H (H (.agg #[Y 0,Y 0,Y 0,Y 0,Y 0]),5,40):=by kernel_rfl
def aaU(w:UK)(p:aQ)(l:Array Bool)(J:Nat->UL)(W:UK):Prop:=∃x1 y1 z1 x2 y2 z2 x3 y3 z3 x4 y4 z4 x5 y5 z5,J 2=UI (w.heap.size+1)/\(∀j,j<24->l.getD j false=true)/\Below w.heap.size w W/\aF W (w.heap.size+1) 27 #[to x1 y1 z1,to x2 y2 z2,to x3 y3 z3,to x4 y4 z4,Y p.aT,to x5 y5 z5]/\
 P7 w W ⟨to x1 y1 z1,to x2 y2 z2,to x3 y3 z3,to x4 y4 z4,to x5 y5 z5⟩ p
def Own.sl{w W:UK}{E:TypeId}{size n:Nat}{v:UL}{g:Nat->UL}(h:Own w W E size n v g):∃x y z,v=to x y z:=by obtain⟨x,z,e,-⟩:=(aZ.vd h.1).val;exact⟨x,_,z,e⟩
def dj{p:Prop}(h:p:=by
 rcases(by omega:k=0\/k=1\/k=2\/k=3\/k=4)with rfl|rfl|rfl|rfl|rfl<;>exact absurd hd bd):p:=h
def afT(w:UK){K:Kp}{p:aQ}(h:fW w K p)(hm:nu p):Calls prog 15 #[pV K p] w (Fm w p):=by
 obtain⟨⟨ga,gc,g1,g2,g3⟩,⟨va,vc,v1,v2,v3⟩,⟨ta,tc,t1,t2,t3⟩,⟨X4,oc,o1,o2,o3⟩,⟨ca,cc,c1,c2,c3⟩⟩:=h.sl;obtain⟨Jl,rD,hm3,hm4,WS⟩:=hm;have a0f:=Z h;obtain⟨kg,kv,kt,ko,kc⟩:=K;dsimp only at g1 v1 t1 o1 c1;subst g1 v1 t1 o1 c1;obtain⟨W0,kX⟩:∃W0,W0=(w.alloc (QP #[to ga p.bw.length gc,to va p.vars.length vc,to ta p.aS.length tc,to X4 p.on.length oc,Y p.aT,to ca p.code.length cc] 27)).alloc (QP #[Pl,Pl,Pl,Pl,Y 0,Pl] 27):=⟨_,rfl⟩;have eV:=Z (show Below w.heap.size w W0.drew by rw[kX];exact(((aB _ _).alloc (aL _) _).alloc ay _).trans (az _ _ 1));have k0:aF W0.drew w.heap.size 27 #[to ga p.bw.length gc,to va p.vars.length vc,to ta p.aS.length tc,to X4 p.on.length oc,Y p.aT,to ca p.code.length cc]:=by rw[kX];exact((aF.new w _ _).alloc _).drewN 1
 have uw:=Z (show aF W0.drew (w.heap.size+1) 27 #[Pl,Pl,Pl,Pl,Y 0,Pl]by rw[kX];exact(aF.bR ay).drewN 1);have ru:T6 w W0.drew (to ga p.bw.length gc) (to va p.vars.length vc) (to ta p.aS.length tc) (to X4 p.on.length oc) (Y p.aT) (to ca p.code.length cc):=⟨k0.cell 0,k0.cell 1,k0.cell 2,k0.cell 3,k0.cell 4,k0.cell 5⟩;clear k0 h g2 g3 v2 v3 t2 t3 o2 o3 c2 c3;unfold pV;dsimp only;go_enter func15,ntmps15;go_wp2_with fail;rw[<-kX];clear kX;refine Mk.bH (S:=λwx=>UJ wx (G w.heap.size 0)=H (to ga p.bw.length gc)/\UJ wx (G w.heap.size 1)=H (to va p.vars.length vc)/\UJ wx (G w.heap.size 2)=H (to ta p.aS.length tc)/\UJ wx (G w.heap.size 3)=H (to X4 p.on.length oc)/\UJ wx (G w.heap.size 4)=H (Y p.aT)/\UJ wx (G w.heap.size 5)=H (to ca p.code.length cc)) bh ru (λau=>?_);generalize W0.drew=V0 at*;refine Mk.fC 1 ?_;refine Mk.fC 2 ?_;refine Mk.fC 5 ?_;refine Mk.fC 6 ?_;refine Mk.fC 9 ?_;refine Mk.fC 10 ?_;refine Mk.fC 13 ?_;refine Mk.fC 14 ?_;refine Mk.fC 16 ?_;refine Mk.fC 17 ?_;refine Mk.fC 19 ?_;refine Mk.fC 20 ?_;have uo:∀W W':UK,T6 w W (to ga p.bw.length gc) (to va p.vars.length vc) (to ta p.aS.length tc) (to X4 p.on.length oc) (Y p.aT) (to ca p.code.length cc)->Below W.heap.size W W'->T6 w W' (to ga p.bw.length gc) (to va p.vars.length vc) (to ta p.aS.length tc) (to X4 p.on.length oc) (Y p.aT) (to ca p.code.length cc):=λW W' hS X=>⟨(dN (X.block _ (aH hS.1))).trans hS.1,(dN (X.block _ (aH hS.2.1))).trans hS.2.1,(dN (X.block _ (aH hS.2.2.1))).trans hS.2.2.1,(dN (X.block _ (aH hS.2.2.2.1))).trans hS.2.2.2.1,(dN (X.block _ (aH hS.2.2.2.2.1))).trans hS.2.2.2.2.1,(dN (X.block _ (aH hS.2.2.2.2.2))).trans hS.2.2.2.2.2⟩;refine Mk.Pg (I:=λl a W=>T6 w W (to ga p.bw.length gc) (to va p.vars.length vc) (to ta p.aS.length tc) (to X4 p.on.length oc) (Y p.aT) (to ca p.code.length cc)/\((∃J,a=FX J/\TI w p (λs=>if s=2 then UI (w.heap.size+1)else if s=5 then to ga p.bw.length gc else if s=9 then to va p.vars.length vc else if s=13 then to ta p.aS.length tc else if s=17 then to X4 p.on.length oc else if s=20 then Y p.aT else to ca p.code.length cc) l J W)\/∃J,a=FX J/\aaU w p l J W)) ?step ?fin _ _ _ _ bd ?ini
 case ini=>
  refine⟨by assumption,.inl ⟨_,agW _ rfl,⟨rfl,bd,bd,eV.o,uw.o,λs hs=>?_,λk hk hd=>?_,λk hk hd=>?_,λhd=>absurd hd bd⟩⟩⟩
  ·simp only[fxL,fh,List.not_mem_nil,or_false]at hs;rcases hs with rfl|rfl|rfl|rfl|rfl|rfl|rfl<;>rfl
  ·exact dj
  ·exact dj
 case fin=>
  rintro l a W ⟨hS,hI⟩ hr;rcases hI with⟨J,rfl,h⟩|⟨J,rfl,te⟩
  ·exact absurd (Mk.afs bh h.sz hr 23 bd) h.n23
  obtain⟨x1,y1,z1,x2,y2,z2,x3,y3,z3,x4,y4,z4,x5,y5,z5,m2,-,B9,b9,P9⟩:=te;obtain⟨i0,i1,i2,i3,i4,i5⟩:=b9.c6;clear b9 hS au eV uw a0f uo hr;refine⟨rfl,?_⟩;unfold FX;rw[m2];go_wp2_with fail;refine bK ?_ rfl ⟨_,rfl,P9,B9⟩;simp[results,results15,go_sem,i0,i1,i2,i3,i4,i5,pV]
 case step=>
  rintro l a W i ⟨hS,hI⟩ hi;obtain⟨h0,o,ho,hd⟩:=mem_ready.1 hi;have be:i<24:=(Array.getElem?_eq_some_iff.1 ho).1;rcases hI with⟨J,rfl,h⟩|⟨J,rfl,te⟩;rotate_left
  ·obtain⟨x1,y1,z1,x2,y2,z2,x3,y3,z3,x4,y4,z4,x5,y5,z5,-,f_,-⟩:=te;exact absurd (Mk.nX (f_ i be)) (by rw[h0];simp)
  rcases(by omega:i=0\/i=1\/i=2\/i=3\/i=4\/i=5\/i=6\/i=7\/i=8\/i=9\/i=10\/i=11\/i=12\/i=13\/i=14\/i=15\/i=16\/i=17\/i=18\/i=19\/i=20\/i=21\/i=22\/i=23)with rfl|rfl|rfl|rfl|rfl|rfl|rfl|rfl|rfl|rfl|rfl|rfl|rfl|rfl|rfl|rfl|rfl|rfl|rfl|rfl|rfl|rfl|rfl|rfl
  ·refine Gd.step rfl (Mk.xf 22 4 rfl rfl underlying22 bh ?_);exact⟨uo _ _ hS ((aB _ _).alloc (aL _) _),uo _ _ hS ((aB _ _).alloc (aL _) _),.inl ⟨_,rfl,h.built (k:=0) bd⟩⟩
  ·exact absurd h0 (by rw[Mk.nX (h.tk 1 bd)];simp)
  ·exact absurd h0 (by rw[Mk.nX (h.tk 2 bd)];simp)
  ·have d:=Mk.dep 0 ho hd bh;obtain⟨b,e1,e2,e3⟩:=h.e 0 bd d;refine Gd.step rfl (Mk.sm (.tmp 3) (.tmp 5) 22 rfl rfl 4 underlying22 aaW rfl bd b p.bw.length _ (λi=> .bool (p.bw.getD i false)) e1 e3 (h.fx 5 bd) ((a0f.o.aG (aA.af h.rO)).g) (λj _=>rfl) O λv' w' r1 r2 r3=>⟨uo _ _ hS r2,uo _ _ hS r2,.inl ⟨_,rfl,h.Q0 (k:=0) bd h0 d e2 r1 r2 r3⟩⟩)
  ·refine Gd.step rfl (Mk.xf 23 122 rfl rfl underlying23 bh ?_);exact⟨uo _ _ hS ((aB _ _).alloc (aL _) _),uo _ _ hS ((aB _ _).alloc (aL _) _),.inl ⟨_,rfl,h.built (k:=1) bd⟩⟩
  ·exact absurd h0 (by rw[Mk.nX (h.tk 5 bd)];simp)
  ·exact absurd h0 (by rw[Mk.nX (h.tk 6 bd)];simp)
  ·have d:=Mk.dep 4 ho hd bh;obtain⟨b,e1,e2,e3⟩:=h.e 1 bd d;refine Gd.step rfl (Mk.sm (.tmp 7) (.tmp 9) 23 rfl rfl 122 underlying23 aaV rfl bd b p.vars.length _ (dP p) e1 e3 (h.fx 9 bd) ((a0f.o.aG (aA.af h.rO)).v) (λj _=>P6 p j) O λv' w' r1 r2 r3=>⟨uo _ _ hS r2,uo _ _ hS r2,.inl ⟨_,rfl,h.Q0 (k:=1) bd h0 d e2 r1 r2 r3⟩⟩)
  ·refine Gd.step rfl (Mk.xf 24 3 rfl rfl underlying24 bh ?_);exact⟨uo _ _ hS ((aB _ _).alloc (aL _) _),uo _ _ hS ((aB _ _).alloc (aL _) _),.inl ⟨_,rfl,h.built (k:=2) bd⟩⟩
  ·exact absurd h0 (by rw[Mk.nX (h.tk 9 bd)];simp)
  ·exact absurd h0 (by rw[Mk.nX (h.tk 10 bd)];simp)
  ·have d:=Mk.dep 8 ho hd bh;obtain⟨b,e1,e2,e3⟩:=h.e 2 bd d;refine Gd.step rfl (Mk.sm (.tmp 11) (.tmp 13) 24 rfl rfl 3 underlying24 UB rfl bd b p.aS.length _ (aX p.aS) e1 e3 (h.fx 13 bd) ((a0f.o.aG (aA.af h.rO)).t) (λj _=>rfl) O λv' w' r1 r2 r3=>⟨uo _ _ hS r2,uo _ _ hS r2,.inl ⟨_,rfl,h.Q0 (k:=2) bd h0 d e2 r1 r2 r3⟩⟩)
  ·refine Gd.step rfl (Mk.xf 24 3 rfl rfl underlying24 bh ?_);exact⟨uo _ _ hS ((aB _ _).alloc (aL _) _),uo _ _ hS ((aB _ _).alloc (aL _) _),.inl ⟨_,rfl,h.built (k:=3) bd⟩⟩
  ·exact absurd h0 (by rw[Mk.nX (h.tk 13 bd)];simp)
  ·exact absurd h0 (by rw[Mk.nX (h.tk 14 bd)];simp)
  ·have d:=Mk.dep 12 ho hd bh;obtain⟨b,e1,e2,e3⟩:=h.e 3 bd d;refine Gd.step rfl (Mk.sm (.tmp 15) (.tmp 17) 24 rfl rfl 3 underlying24 UB rfl bd b p.on.length _ (aX p.on) e1 e3 (h.fx 17 bd) ((a0f.o.aG (aA.af h.rO)).o) (λj _=>rfl) O λv' w' r1 r2 r3=>⟨uo _ _ hS r2,uo _ _ hS r2,.inl ⟨_,rfl,h.Q0 (k:=3) bd h0 d e2 r1 r2 r3⟩⟩)
  ·exact absurd h0 (by rw[Mk.nX (h.tk 16 bd)];simp)
  ·exact absurd h0 (by rw[Mk.nX (h.tk 17 bd)];simp)
  ·refine Gd.step rfl (Mk.xf 25 40 rfl rfl underlying25 bh ?_);exact⟨uo _ _ hS ((aB _ _).alloc (aL _) _),uo _ _ hS ((aB _ _).alloc (aL _) _),.inl ⟨_,rfl,h.built (k:=4) bd⟩⟩
  ·exact absurd h0 (by rw[Mk.nX (h.tk 19 bd)];simp)
  ·exact absurd h0 (by rw[Mk.nX (h.tk 20 bd)];simp)
  ·have d:=Mk.dep 18 ho hd bh;obtain⟨b,e1,e2,e3⟩:=h.e 4 bd d;refine Gd.step rfl (Mk.sm (.tmp 21) (.tmp 23) 25 rfl rfl 40 underlying25 aav rfl bd b p.code.length _ (ci p) e1 e3 (h.fx 23 bd) ((a0f.o.aG (aA.af h.rO)).cd) (λj _=>MB p j) O λv' w' r1 r2 r3=>⟨uo _ _ hS r2,uo _ _ hS r2,.inl ⟨_,rfl,h.Q0 (k:=4) bd h0 d e2 r1 r2 r3⟩⟩)
  ·have d:∀k,k<5->l.getD (oa k) false=true:=λk hk=>by
    rcases(by omega:k=0\/k=1\/k=2\/k=3\/k=4)with rfl|rfl|rfl|rfl|rfl
    ·exact Mk.dep 3 ho hd bh
    ·exact Mk.dep 7 ho hd bh
    ·exact Mk.dep 11 ho hd bh
    ·exact Mk.dep 15 ho hd bh
    ·exact Mk.dep 21 ho hd bh
   obtain⟨x1,y1,z1,s1⟩:=(h.a 0 bd (d 0 bd)).1.sl;obtain⟨x2,y2,z2,s2⟩:=(h.a 1 bd (d 1 bd)).1.sl;obtain⟨x3,y3,z3,s3⟩:=(h.a 2 bd (d 2 bd)).1.sl;obtain⟨x4,y4,z4,s4⟩:=(h.a 3 bd (d 3 bd)).1.sl;obtain⟨x5,y5,z5,s5⟩:=(h.a 4 bd (d 4 bd)).1.sl;have m6:J 6=to x1 y1 z1:=s1;have m10:J 10=to x2 y2 z2:=s2;have m14:J 14=to x3 y3 z3:=s3;have m18:J 18=to x4 y4 z4:=s4;have m24:J 24=to x5 y5 z5:=s5;have m20:J 20=Y p.aT:=h.fx 20 bd;refine(show∀K:Act->UK->Prop,K (FX (QJ J 25 (.agg #[J 6,J 10,J 14,J 18,J 20,J 24]))) W->wpOp _ _ _ _ K _ _ from λK hK=>Gd.step rfl ?_) _ ⟨hS,hS,.inl ⟨_,rfl,h.all d⟩⟩;rw[m6,m10,m14,m18,m20,m24]at hK;clear s1 s2 s3 s4 s5 hS h d hd ho h0 be hi uo au eV uw a0f;unfold FX;rw[m6,m10,m14,m18,m20,m24];refine fH ?_;go_simp;rw[<-m6,<-m10,<-m14,<-m18,<-m20,<-m24]at hK ⊢;exact hK
  ·have d22:=Mk.dep 22 ho hd bh;obtain⟨c1,c2⟩:=h.c d22;have A:=λk hk=>h.a k hk (c2 k hk);obtain⟨x1,y1,z1,s1⟩:=(A 0 bd).1.sl;have o1:Own w W (tyE 0) (szE 0) (nnE p 0) (to x1 y1 z1) (ggE p 0):=s1▸(A 0 bd).1;obtain⟨x2,y2,z2,s2⟩:=(A 1 bd).1.sl;have o2:Own w W (tyE 1) (szE 1) (nnE p 1) (to x2 y2 z2) (ggE p 1):=s2▸(A 1 bd).1;obtain⟨x3,y3,z3,s3⟩:=(A 2 bd).1.sl;have o3:Own w W (tyE 2) (szE 2) (nnE p 2) (to x3 y3 z3) (ggE p 2):=s3▸(A 2 bd).1;obtain⟨x4,y4,z4,s4⟩:=(A 3 bd).1.sl;have o4:Own w W (tyE 3) (szE 3) (nnE p 3) (to x4 y4 z4) (ggE p 3):=s4▸(A 3 bd).1;obtain⟨x5,y5,z5,s5⟩:=(A 4 bd).1.sl;have o5:Own w W (tyE 4) (szE 4) (nnE p 4) (to x5 y5 z5) (ggE p 4):=s5▸(A 4 bd).1;have m6:J 6=to x1 y1 z1:=s1;have m10:J 10=to x2 y2 z2:=s2;have m14:J 14=to x3 y3 z3:=s3;have m18:J 18=to x4 y4 z4:=s4;have m24:J 24=to x5 y5 z5:=s5;have m20:J 20=Y p.aT:=h.fx 20 bd;have m2:J 2=UI (w.heap.size+1):=h.fx 2 bd;rw[m6,m10,m14,m18,m20,m24]at c1;have i0:=h.zb.cell 0;have fz:=h.zb.frozen;have lt:=h.zb.lt;obtain⟨W9,hW9⟩:∃W9,W9=((((((W.setCell (G (w.heap.size+1) 0) (to x1 y1 z1)).setCell (G (w.heap.size+1) 1) (to x2 y2 z2)).setCell (G (w.heap.size+1) 2) (to x3 y3 z3)).setCell (G (w.heap.size+1) 3) (to x4 y4 z4)).setCell (G (w.heap.size+1) 4) (Y p.aT)).setCell (G (w.heap.size+1) 5) (to x5 y5 z5)):=⟨_,rfl⟩;have f9:aA [w.heap.size+1] W W9:=by rw[hW9];exact((((((aA.refl [w.heap.size+1] W).setCell ay _).setCell ay _).setCell ay _).setCell ay _).setCell ay _).setCell ay _
   have b9:aF W9 (w.heap.size+1) 27 #[to x1 y1 z1,to x2 y2 z2,to x3 y3 z3,to x4 y4 z4,Y p.aT,to x5 y5 z5]:=by rw[hW9];have b:=((((((h.zb.set 0 (to x1 y1 z1)).set 1 (to x2 y2 z2)).set 2 (to x3 y3 z3)).set 3 (to x4 y4 z4)).set 4 (Y p.aT)).set 5 (to x5 y5 z5));simp only[List.setIfInBounds_toArray,List.set_cons_zero,List.set_cons_succ]at b;exact b
   have P9:P7 w W9 ⟨to x1 y1 z1,to x2 y2 z2,to x3 y3 z3,to x4 y4 z4,to x5 y5 z5⟩ p:=
    ⟨o1.fin h.zb bd f9,o2.fin h.zb bd f9,o3.fin h.zb bd f9,o4.fin h.zb bd f9,o5.fin h.zb bd f9⟩
   have B9:=h.rO.trans (f9.below (B:=w.heap.size) h.rO.size ay);have f_:=h.done d22;have zQ:∀o v,UJ W (G w.heap.size o)=H v->UJ W9 (G w.heap.size o)=H v:=λo v hc=>(dN (f9.block _ (aH hc) ay)).trans hc;have hS9:T6 w W9 (to ga p.bw.length gc) (to va p.vars.length vc) (to ta p.aS.length tc) (to X4 p.on.length oc) (Y p.aT) (to ca p.code.length cc):=⟨zQ _ _ hS.1,zQ _ _ hS.2.1,zQ _ _ hS.2.2.1,zQ _ _ hS.2.2.2.1,zQ _ _ hS.2.2.2.2.1,zQ _ _ hS.2.2.2.2.2⟩;refine(show∀K:Act->UK->Prop,K (FX J) W9->wpOp _ _ _ _ K _ _ from λK hK=>Gd.step rfl ?_) _ ⟨hS9,hS9,.inr ⟨_,rfl,x1,y1,z1,x2,y2,z2,x3,y3,z3,x4,y4,z4,x5,y5,z5,m2,f_,B9,b9,P9⟩⟩;obtain⟨jn,nQ,qm,ZK,hz4,hz5⟩:=h.zb.c6;clear hS h hd ho h0 be hi uo au eV uw a0f f_ hS9 B9 P9 b9 f9 zQ A c2 d22 s1 s2 s3 s4 s5 o1 o2 o3 o4 o5 m6 m10 m14 m18 m20 m24 i0;unfold FX at hK ⊢;rw[m2,c1]at hK ⊢;rw[hW9]at hK;refine fH ?_;go_simp;exact hK
end
end Go.Vf
namespace Go.Rv
def Bq(t:Nat):UInt8:=if t=1 then 110 else if t=2 then 98 else 63
def fM(ty:List Nat):ByteArray:=⟨(ty.reverse.map Bq).toArray⟩
def nC(ty:List Nat):(fM ty).size=ty.length:=by simp[fM,ByteArray.size]
def aaT(ty:List Nat)(k:Nat):(fM ty).extract 0 (ty.length-k)=fM (ty.drop k):=by apply ByteArray.ext;simp only[fM,ByteArray.data_extract,List.extract_toArray,List.extract_eq_take_drop,List.drop_zero,Nat.sub_zero];congr 1;rw[List.reverse_drop,List.map_take]
def adY(ty:List Nat){k:Nat}(h:k<=ty.length):(fM ty).extract (ty.length-k) ty.length=fM (ty.take k):=by apply ByteArray.ext;simp only[fM,ByteArray.data_extract,List.extract_toArray,List.extract_eq_take_drop];congr 1;rw[List.reverse_take,List.map_drop];exact List.take_of_length_le ay
def adX(a b:List Nat):fM a++fM b=fM (b++a):=by apply ByteArray.ext;simp[fM,ByteArray.data_append]
def Kx{a b:Nat}(ha:a=1\/a=2)(X:b=1\/b=2):Bq a=Bq b↔a=b:=by rcases ha with rfl|rfl<;>rcases X with rfl|rfl<;>decide
def aaS{a b:List Nat}(ha:fe a)(X:fe b)(h:fM a=fM b):a=b:=by
 have e:a.reverse.map Bq=b.reverse.map Bq:=by have:=bu ByteArray.data h;simpa[fM]using this
 have key:∀(l m:List Nat),fe l->fe m->l.map Bq=m.map Bq->l=m:=by
  intro l
  induction l with
  |nil=>intro m _ _ h;cases m with
   |nil=>rfl
   |cons _ _=>simp at h
  |cons x l ih=>
   intro m hl hm h;cases m with
   |nil=>simp at h
   |cons y m=>simp only[List.map_cons,List.cons.injEq]at h;rw[(Kx (hl x ay) (hm y ay)).1 h.1,ih m (λt ht=>hl t (by simp[ht])) (λt ht=>hm t (by simp[ht])) h.2]
 have:=key a.reverse b.reverse (λt ht=>ha t (by simpa using ht)) (λt ht=>X t (by simpa using ht)) e;exact List.reverse_inj.1 this
def IW{a b:List Nat}(ha:fe a)(X:fe b):((fM a).toList=(fM b).toList)=(a=b):=propext ⟨λh=>aaS ha X (by
 rw[ByteArray.toList_eq,ByteArray.toList_eq]at h;exact ByteArray.ext (Array.toList_inj.1 h)),λh=>by rw[h]⟩
def Cs(w:UK){op:Int}(h0:0<=op)(h1:op<42):Calls prog 317 #[Y op] w (λe w'=>e=C8 (.string (fM (b_ op.toNat)))/\w'=w):=by
 obtain⟨n,rfl⟩:=dz h0;have e:n=0\/n=1\/n=2\/n=3\/n=4\/n=5\/n=6\/n=7\/n=8\/n=9\/n=10\/n=11\/n=12\/n=13\/n=14\/n=15\/n=16\/n=17\/n=18\/n=19\/n=20\/n=21\/n=22\/n=23\/n=24\/n=25\/n=26\/n=27\/n=28\/n=29\/n=30\/n=31\/n=32\/n=33\/n=34\/n=35\/n=36\/n=37\/n=38\/n=39\/n=40\/n=41:=O;clear h0 h1;rcases e with rfl|rfl|rfl|rfl|rfl|rfl|rfl|rfl|rfl|rfl|rfl|rfl|rfl|rfl|rfl|rfl|rfl|rfl|rfl|rfl|rfl|rfl|rfl|rfl|rfl|rfl|rfl|rfl|rfl|rfl|rfl|rfl|rfl|rfl|rfl|rfl|rfl|rfl|rfl|rfl|rfl|rfl
 all_goals
  go_enter func317,ntmps317;go_wp2;exact Tw
def fg(op:Nat):List Nat:=if cG op=0 then[]else[cG op]
def tV(w:UK){op:Int}(h0:0<=op)(h1:op<42):Calls prog 318 #[Y op] w (λe w'=>e=C8 (.string (fM (fg op.toNat)))/\w'=w):=by
 obtain⟨n,rfl⟩:=dz h0;have e:n=0\/n=1\/n=2\/n=3\/n=4\/n=5\/n=6\/n=7\/n=8\/n=9\/n=10\/n=11\/n=12\/n=13\/n=14\/n=15\/n=16\/n=17\/n=18\/n=19\/n=20\/n=21\/n=22\/n=23\/n=24\/n=25\/n=26\/n=27\/n=28\/n=29\/n=30\/n=31\/n=32\/n=33\/n=34\/n=35\/n=36\/n=37\/n=38\/n=39\/n=40\/n=41:=O;clear h0 h1;rcases e with rfl|rfl|rfl|rfl|rfl|rfl|rfl|rfl|rfl|rfl|rfl|rfl|rfl|rfl|rfl|rfl|rfl|rfl|rfl|rfl|rfl|rfl|rfl|rfl|rfl|rfl|rfl|rfl|rfl|rfl|rfl|rfl|rfl|rfl|rfl|rfl|rfl|rfl|rfl|rfl|rfl|rfl
 all_goals
  go_enter func318,ntmps318;go_wp2;exact Tw
def JH(w:UK)(a b:Nat)(ha:a<=MS)(X:b<=MS):Calls prog 233 #[Y a,Y b] w λe w'=>e=C8 (Y (bG a b))/\w'=w:=by
 unfold MS at ha X;have w1:IntKind.i64.wrap (4611686018427387904 - (b:Int))=4611686018427387904 - (b:Int):=bJ _ lI;by_cases h:4611686018427387904-b<a
 ·have e:bG a b=4611686018427387904:=by unfold bG MS;rw[bk h]
  have h2:((4611686018427387904:Int) - b<a)=True:=by simp;omega
  rw[e];clear e h;go_enter func233,ntmps233;go_wp2;exact Tw
 ·have e:bG a b=a+b:=by unfold bG MS;rw[aw h]
  have h2:((4611686018427387904:Int) - b<a)=False:=by simp;omega
  have w2:IntKind.i64.wrap ((a:Int)+(b:Int))=((a+b:Nat):Int):=by rw[bJ _ lI];omega
  rw[e];clear e h;go_enter func233,ntmps233;go_wp2;go_ret;exact⟨ay,rfl⟩
def aaR{a b:Nat}(ha:0<a):MS / a<b↔¬a*b<=MS:=by rw[Nat.div_lt_iff_lt_mul ha,Nat.not_le,Nat.mul_comm]
def QO{p:Prop}(h:p:=by
 go_enter func234,ntmps234;go_wp2;go_ret;exact⟨ay,rfl⟩):p:=h
def adb(w:UK)(a b:Nat)(ha:a<=MS)(X:b<=MS):Calls prog 234 #[Y a,Y b] w λe w'=>e=C8 (Y (eM a b))/\w'=w:=by
 by_cases h0:a=0
 ·subst h0;have e:eM 0 b=0:=by unfold eM;rw[Nat.zero_mul];rfl
  have w2:IntKind.i64.wrap ((0:Int)*(b:Int))=0:=by rw[Int.zero_mul];rfl
  unfold MS at X;rw[e];clear e ha;exact QO
 ·have Cm:0<a:=O;have ht:=aaR (a:=a) (b:=b) Cm;have hp2:(0:Int)<a:=O;have hd:(4611686018427387904:Int) / (a:Int)=((4611686018427387904 / a:Nat):Int):=by simp
  have hle:4611686018427387904 / a<=4611686018427387904:=Nat.div_le_self _ _;unfold MS at ha X ht;generalize 4611686018427387904 / a=q at*;by_cases h:a*b<=4611686018427387904
  ·have e:eM a b=a*b:=by unfold eM MS;rw[bk h]
   have h2:¬q<b:=λh'=>ht.1 h' h;have w2:IntKind.i64.wrap ((a:Int)*(b:Int))=((a*b:Nat):Int):=by rw[<-Int.natCast_mul,bJ _ lI]
   rw[e];have h3:(q<b)=False:=by simpa using h2
   generalize a*b=x at*;clear e ht h h2;exact QO
  ·have e:eM a b=4611686018427387904:=by unfold eM MS;rw[aw h]
   have h2:q<b:=ht.2 h;have h3:(q<b)=True:=by simpa using h2
   rw[e];clear e ht h h2;exact QO
open Ma (dP ci aX vb aI aV)
open Vf (Kp fW pV rT bN aZ)
def IY(K:Kp)(p:aQ)(jg lH kM:UL):Array UL:=#[K.g,K.v,K.t,K.o,Y p.aT,K.c,jg,lH,kM]
section
variable {w:UK}{K:Kp}{p:aQ}{jg lH kM:UL}{lb:Nat}{x:Ins}{ha:Nat}
def mf{p:Prop}(h:p:=by
 rcases hh with rfl|rfl|rfl|rfl
 all_goals
  go_enter func291,ntmps291;go_wp2;go_ret2;exact⟨by simp[eT],HB.o _ _⟩):p:=h
def Pb{p:Prop}(h:p:=by
 go_enter func291,ntmps291;go_wp2;go_quiet (fail);go_wp2;go_quiet (fail);go_wp2;go_ret2;exact⟨by rw[H16.o];rfl,by first|exact HC.o _ _ _|exact(HC.o _ _ _).trans (az _ _ _)⟩):p:=h
def aaQ(h:fW w K p)(hl:aF w lb 260 (IY K p jg lH kM))(hq:x.op=35\/x.op=34->rT p x.a)(h3:ha<=3):
 Calls prog 291 #[UI lb,aV x,Y ha] w (λe w'=>e=C8 (.tuple #[.bool (eT p x ha).1,Y (eT p x ha).2])/\Below w.heap.size w w'):=by
 obtain⟨op,xa,xb,xc,xd⟩:=x;unfold aV aI;dsimp only at hq ⊢;have hB:=qq w;have hC:∀cs T k,Below w.heap.size w ((w.alloc (QP cs T)).drewN k):=λcs T k=>(hB cs T).trans (az _ _ k);have ll:=hl.lt;have v0:=hl.c1;have hh:ha=0\/ha=1\/ha=2\/ha=3:=O;have HB:=Z hB;have HC:=Z hC;clear hB hC h3 hl;by_cases o1:op=36
 ·subst o1;clear hq v0 ll;exact mf
 by_cases o2:op=37
 ·subst o2;clear hq v0 ll;exact mf
 by_cases o3:op=35\/op=34
 ·obtain⟨m,gb,off,cap,rfl,hm,hk,vK,gc⟩:=bN h (hq o3);rw[hk]at v0;clear hk h hq;generalize hg:bF p m=g at*;have HG:=Z hg;clear hg;rcases o3 with rfl|rfl
  ·have e35:((35:Int)==34)=false:=rfl;cases g
   all_goals
    rcases hh with rfl|rfl|rfl|rfl
    all_goals
     go_enter func291,ntmps291;go_wp2;go_quiet (fail);go_wp2;go_ret2;exact⟨by simp[eT,HG.o],HC.o _ _ _⟩
  ·have e35:((34:Int)==35)=false:=rfl;cases g
   all_goals
    rcases hh with rfl|rfl|rfl|rfl
    all_goals
     go_enter func291,ntmps291;go_wp2;go_quiet (fail);go_wp2;go_quiet (fail);go_wp2;go_ret2;exact⟨by simp[eT,HG.o],by first|exact HC.o _ _ _|exact(HC.o _ _ _).trans (az _ _ _)⟩
 clear h hq v0 ll;have e36:(op==36)=false:=by simpa using o1
 have e37:(op==37)=false:=by simpa using o2
 have e35:(op==35)=false:=by simp;exact λh=>o3 (.inl h)
 have e34:(op==34)=false:=by simp;exact λh=>o3 (.inr h)
 have Vl:∀n:Int,eT p ⟨op,xa,xb,xc,xd⟩ n=if(1<=op/\op<=21)\/op=28\/op=29\/op=30 then(true,n)else(decide (n=0),0):=by intro n;unfold eT;dsimp only;rw[aw o1,aw o2,aw (λh=>o3 (.inl h)),aw (λh=>o3 (.inr h))]
 clear o1 o2 o3;by_cases r:(1<=op/\op<=21)\/op=28\/op=29\/op=30
 ·simp only[bk r]at Vl;have H16:=Z Vl;clear Vl hh;rcases r with⟨r1,r2⟩|rfl|rfl|rfl
  all_goals
   exact Pb
 ·simp only[aw r]at Vl;have H16:=Z Vl;simp only[not_or]at r;obtain⟨r1,r2,r3,r4⟩:=r;have r5:op<1\/21<op:=O;have e28:(op==28)=false:=by simpa using r2
  have e29:(op==29)=false:=by simpa using r3
  have e30:(op==30)=false:=by simpa using r4
  clear Vl r1 r2 r3 r4;rcases hh with rfl|rfl|rfl|rfl
  all_goals
   rcases r5 with r5|r5
   all_goals
    exact Pb
variable {vb:Nat}
def UG{p:Prop}(h:p:=by
 go_enter func293,ntmps293;go_wp2;go_ret;exact⟨rfl,hB _ _⟩):p:=h
def UF{p:Prop}(h:p:=by
 obtain⟨m,gb,off,cap,rfl,hm,hk,vK,gc⟩:=bN h hq;have v0:=hv.c1;rw[hk]at v0;rw[hf];clear hf hk h hv hq nH;generalize bF p m=g1 at*;cases g1
 all_goals
  exact UG):p:=h
def aaP(h:fW w K p)(hv:aF w vb 260 (IY K p jg lH kM))(hq:x.op=32\/x.op=40\/x.op=41\/x.op=38\/x.op=39->rT p x.a)(nH:x.op=38\/x.op=39->rT p x.c):Calls prog 293 #[UI vb,aV x] w (λe w'=>e=C8 (.bool (c_ p x))/\Below w.heap.size w w'):=by
 obtain⟨op,xa,xb,xc,xd⟩:=x;unfold aV aI;dsimp only;have hB:=qq w;have hC:∀cs T k,Below w.heap.size w ((w.alloc (QP cs T)).drewN k):=λcs T k=>(hB cs T).trans (az _ _ k);have lv:=hv.lt;dsimp only at hq nH;by_cases o1:op=32
 ·subst o1;have hf:∀n:Int,c_ p ⟨32,n,xb,xc,xd⟩= !bF p n:=λn=>by simp[c_]
  replace hq:=hq ay;exact UF
 by_cases o2:op=40
 ·subst o2;have hf:∀n:Int,c_ p ⟨40,n,xb,xc,xd⟩= !bF p n:=λn=>by simp[c_]
  replace hq:=hq ay;exact UF
 by_cases o3:op=41
 ·subst o3;have hf:∀n:Int,c_ p ⟨41,n,xb,xc,xd⟩=bF p n:=λn=>by simp[c_]
  replace hq:=hq ay;exact UF
 by_cases o4:op=38
 ·subst o4;have hf:∀n n2:Int,c_ p ⟨38,n,xb,n2,xd⟩=(bF p n==bF p n2):=λn n2=>by simp[c_]
  replace hq:=hq ay;replace nH:=nH ay;obtain⟨m,gb,off,cap,rfl,hm,hk,vK,gc⟩:=bN h hq;obtain⟨m2,gb2,Ip,CH,rfl,rD,jZ,Za,gc2⟩:=bN h nH;have v0:=hv.c1;rw[hk]at v0 jZ;simp only[cM,im,Addr.mk.injEq]at jZ;obtain⟨⟨rfl,rfl,-⟩,-,rfl⟩:=jZ;rw[hf];clear hf hk h hv hq nH;generalize bF p m=g1 at*;generalize bF p m2=g2 at*;cases g1
  all_goals
   cases g2
   all_goals
    go_enter func293,ntmps293;go_wp2;go_quiet (fail);go_wp2;go_ret;exact⟨rfl,hC _ _ _⟩
 by_cases o5:op=39
 ·subst o5;have hf:∀n n2:Int,c_ p ⟨39,n,xb,n2,xd⟩=(!bF p n&&bF p n2):=λn n2=>by simp[c_]
  replace hq:=hq ay;replace nH:=nH ay;obtain⟨m,gb,off,cap,rfl,hm,hk,vK,gc⟩:=bN h hq;obtain⟨m2,gb2,Ip,CH,rfl,rD,jZ,Za,gc2⟩:=bN h nH;have v0:=hv.c1;rw[hk]at v0 jZ;simp only[cM,im,Addr.mk.injEq]at jZ;obtain⟨⟨rfl,rfl,-⟩,-,rfl⟩:=jZ;rw[hf];clear hf hk h hv hq nH;generalize bF p m=g1 at*;generalize bF p m2=g2 at*;cases g1
  all_goals
   cases g2
   all_goals
    exact UG
 ·have hf:c_ p ⟨op,xa,xb,xc,xd⟩=true:=by simp[c_,o1,o2,o3,o4,o5]
  obtain⟨ga,gcp,hk,-,-⟩:=h.g.val;have v0:=hv.c1;rw[hk]at v0;rw[hf];clear hf hk h hv hq nH;exact UG
def se{p:Prop}(h:p:=by
 go_enter func319,ntmps319;go_wp2;go_ret;exact⟨rfl,rfl⟩):p:=h
def Hw(h:fW w K p)(hv:aF w vb 260 (IY K p jg lH kM))(n:Int):Calls prog 319 #[UI vb,Y n] w (λe w'=>e=C8 (.bool (h_ p n))/\w'=w):=by
 have v5:UJ w (G vb 5)=H K.c:=hv.cell 5;have lv:=hv.lt;obtain⟨ca,cc,kc,q1,q2⟩:=aZ.val h.cd;rw[kc]at v5;by_cases h0:0<=n
 ·obtain⟨m,rfl⟩:=dz h0;by_cases h1:m<p.code.length
  ·obtain⟨b,off,cap,e,q3,q4,c0,-⟩:=h.ins h1;rw[kc]at e;simp only[cM]at e;obtain⟨rfl,-,rfl⟩:=e;have ht:h_ p m=decide ((al p m).op=25):=by unfold h_;simp[h1]
   rw[ht];have lb:=aH c0;generalize(al p m).op=op at*;clear ht kc hv h;by_cases o:op=25
   ·subst o;exact se
   ·have hd:decide (op=25)=false:=by simpa using o
    rw[hd];go_enter func319,ntmps319;go_wp2;go_ret;exact⟨by simp[o],rfl⟩
  ·have ht:h_ p m=false:=by unfold h_;simp[h1]
   rw[ht];clear ht kc hv h;exact se
 ·have ht:h_ p n=false:=by unfold h_;simp[h0]
  rw[ht];clear ht kc hv h;exact se
def YJ{p:Prop}(h:p:=by
 have HF:=Z (show br p 7 n=false by unfold br aO jA jB;simp;omega);exact pj):p:=h
def EW{p:Prop}(h:p:=by
 have HF:=Z (show br p 5 n=false by unfold br aO jA jB;simp;omega);exact pj):p:=h
def EU{p:Prop}(h:p:=by
 have HF:=Z (show br p 8 n=false by unfold br aO jA jB;simp;omega);exact pj):p:=h
def LV{p:Prop}(h:p:=by
 have HF:=Z (show br p 3 n=false by unfold br aO jA jB;simp;omega);exact pj):p:=h
def LU{p:Prop}(h:p:=by
 have HF:=Z (show br p 2 n=false by unfold br aO jA jB;simp;omega);exact pj):p:=h
def H_{p:Prop}(h:p:=by
 have HF:=Z (show br p 1 n=false by unfold br aO jA jB;simp;omega);exact pj):p:=h
def pj{p:Prop}(h:p:=by
 go_enter func290,ntmps290;go_wp2;go_ret;exact⟨by rw[HF.o];rfl,HB.o _ _⟩):p:=h
def IG(h:fW w K p)(kind:Nat)(n:Int)(hk:kind<=8):Calls prog 290 #[pV K p,Y kind,Y n] w (λe w'=>e=C8 (.bool (br p kind n))/\Below w.heap.size w w'):=by
 obtain⟨⟨ga,gc,g1,g2,g3⟩,⟨va,vc,v1,v2,v3⟩,⟨ta,tc,t1,t2,t3⟩,⟨oa,oc,o1,o2,o3⟩,⟨ca,cc,c1,c2,c3⟩⟩:=h.sl;unfold pV;rw[g1,v1,t1,o1,c1];have hB:=qq w;have HB:=Z hB;clear g1 g2 g3 v1 v2 v3 t1 t2 t3 o1 o2 o3 c1 c2 c3 h hB;have e:kind=0\/(kind=1\/kind=2\/kind=3\/kind=8)\/(kind=4\/kind=6)\/kind=5\/kind=7:=O;clear hk;rcases e with rfl|(rfl|rfl|rfl|rfl)|(rfl|rfl)|rfl|rfl
 ·by_cases h0:n=0
  ·subst h0;have HF:=Z (show br p 0 0=true by unfold br aO jA jB;simp);exact pj
  ·have e0:(n==0)=false:=by simpa using h0
   have HF:=Z (show br p 0 n=false by unfold br aO jA jB;simp;omega);clear h0;exact pj
 ·by_cases h0:0<=n
  ·by_cases h1:n<p.bw.length
   ·have HF:=Z (show br p 1 n=true by unfold br aO jA jB;simp;omega);exact pj
   ·exact H_
  ·exact H_
 ·by_cases h0:0<=n
  ·by_cases h1:n<p.vars.length
   ·have HF:=Z (show br p 2 n=true by unfold br aO jA jB;simp;omega);exact pj
   ·exact LU
  ·exact LU
 ·by_cases h0:0<=n
  ·by_cases h1:n<p.aS.length
   ·have HF:=Z (show br p 3 n=true by unfold br aO jA jB;simp;omega);exact pj
   ·exact LV
  ·exact LV
 ·by_cases h0:0<=n
  ·by_cases h1:n<p.code.length
   ·have HF:=Z (show br p 8 n=true by unfold br aO jA jB;simp;omega);exact pj
   ·exact EU
  ·exact EU
 ·by_cases h0:n=0
  ·subst h0;have HF:=Z (show br p 4 0=true by unfold br aO jA jB;simp);exact pj
  ·have e0:(n==0)=false:=by simpa using h0
   by_cases h1:n=1
   ·subst h1;have HF:=Z (show br p 4 1=true by unfold br aO jA jB;simp);exact pj
   ·have e1:(n==1)=false:=by simpa using h1
    have HF:=Z (show br p 4 n=false by unfold br aO jA jB;simp;omega);clear h0 h1;exact pj
 ·by_cases h0:n=0
  ·subst h0;have HF:=Z (show br p 6 0=true by unfold br aO jA jB;simp);exact pj
  ·have e0:(n==0)=false:=by simpa using h0
   by_cases h1:n=1
   ·subst h1;have HF:=Z (show br p 6 1=true by unfold br aO jA jB;simp);exact pj
   ·have e1:(n==1)=false:=by simpa using h1
    have HF:=Z (show br p 6 n=false by unfold br aO jA jB;simp;omega);clear h0 h1;exact pj
 ·by_cases h0: -1073741824<=n
  ·by_cases h1:n<=1073741824
   ·have HF:=Z (show br p 5 n=true by unfold br aO jA jB;simp;omega);exact pj
   ·exact EW
  ·exact EW
 ·by_cases h0:0<=n
  ·by_cases h1:n<=4194304
   ·have HF:=Z (show br p 7 n=true by unfold br aO jA jB;simp;omega);exact pj
   ·exact YJ
  ·exact YJ
def FrV(v:UL)(i:Nat)(a:Act):Prop:=∃J:Nat->UL,a={tmps:=#[v,J 1,J 2,Y i,J 4,J 5,J 6,J 7,J 8,J 9,J 10,J 11,J 12,J 13,J 14,J 15,J 16,J 17,J 18,J 19,J 20,J 21,J 22,J 23,J 24,J 25,J 26,J 27,J 28,J 29,J 30,J 31,J 32,J 33,J 34,J 35,J 36,J 37,J 38,J 39,J 40,J 41,J 42,J 43,J 44,J 45,J 46,J 47,J 48,J 49],defers:=[]}
def Ps(w:UK)(p:aQ)(v:UL)(m:Nat)(a:Act)(W:UK):Prop:=∃i,i<=p.vars.length/\m+i=p.vars.length+1/\FrV v i a/\Hid (∃k,W=w.drewN k)/\Hid (∀j,j<i->nV (p.vars.getD j ⟨0,0,0⟩)=true)
def UT{p:Prop}(h:p:=by
 go_wp2;go_quiet (fail);go_wp2;go_ret;exact⟨by rw[HF.o];rfl,⟨_,by rw[Jn]⟩⟩):p:=h
def aa4(h:fW w K p)(hl:p.vars.length<=16):Calls prog 286 #[K.v] w (λe w'=>e=C8 (.bool (p.vars.all nV))/\∃k,w'=w.drewN k):=by
 obtain⟨va,vc,v1,-,-⟩:=aZ.val h.v;have a0f:=Z h;have HV:=Z v1;rw[v1];clear h v1;go_enter func286,ntmps286;go_wp2;refine Mk.aN (Ps w p (to va p.vars.length vc)) (p.vars.length+1) ⟨0,cK _,O,qi rfl,Z ⟨0,rfl⟩,Z (λj hj=>absurd hj O)⟩ (λa W hh=>by obtain⟨i,h1,h2,-⟩:=hh;omega) ?_;rintro m a W ⟨i,hi,hm,⟨J,rfl⟩,HW,HA⟩;obtain⟨k0,rfl⟩:=HW.o;have w2:=mO i O;by_cases be:i<p.vars.length
 ·obtain⟨b,off,cap,hv,q1,q2,wD,c0,c1,c2⟩:=a0f.o.vr be;rw[HV.o]at hv;simp only[cM]at hv;obtain⟨rfl,-,rfl⟩:=hv;have dE:=Z be;have bad:∀r,nV (p.vars.getD i ⟨0,0,0⟩)=r->(r=false->p.vars.all nV=false):=λr e hr=>by subst hr;rw[vV];intro f_;rw[qM]at f_;have:=f_ (p.vars.getD i ⟨0,0,0⟩) (by rw[aY,fq be];exact jO be);rw[this]at e;cases e
  have De:=Z bad;generalize hx:p.vars.getD i ⟨0,0,0⟩=x at*;have HX:=Z hx;have Nh:nV x=(decide (x.lo<=x.init)&&decide (x.init<=x.hi)&&decide (-1073741824<=x.lo)&&decide (x.hi<=1073741824)):=rfl;have Ad:=Z Nh;clear bad hx Nh;by_cases k1:x.lo<=x.init
  case neg=>have HF:=Z (De.o false (by rw[Ad.o];simp[k1]) rfl);exact UT
  by_cases k2:x.init<=x.hi
  case neg=>have HF:=Z (De.o false (by rw[Ad.o];simp[k2]) rfl);exact UT
  by_cases k3: -1073741824<=x.lo
  case neg=>have HF:=Z (De.o false (by rw[Ad.o];simp[k3]) rfl);exact UT
  by_cases k4:x.hi<=1073741824
  case neg=>have HF:=Z (De.o false (by rw[Ad.o];simp[k4]) rfl);exact UT
  go_wp2;go_quiet (fail);go_wp2;refine⟨i+1,dE.o,O,qi rfl,Z ⟨_,by first|rfl|rw[Jn]⟩,Z λj hj=>?_⟩;by_cases e:j=i
  ·subst e;rw[HX.o,Ad.o];simp[k1,k2,k3,k4]
  ·exact HA.o j O
 ·obtain rfl:i=p.vars.length:=O;have HF:=Z (show p.vars.all nV=true from by
   rw[qM];intro v hv;obtain⟨j,hj,e⟩:=yZ hv;have:=HA.o j hj;rw[aY,fq hj]at this;simpa[e]using this)
  clear be;go_wp2;go_ret;exact⟨by rw[HF.o];rfl,⟨_,rfl⟩⟩
def aa3(w:UK)(x:Ins):Calls prog 289 #[aV x] w (λe w'=>e=C8 (.agg #[Y x.a,Y x.b,Y x.c,Y x.d])/\Below w.heap.size w w'):=by unfold aV aI;go_enter func289,ntmps289;go_wp2;exact bK (v:= .agg #[Y x.a,Y x.b,Y x.c,Y x.d]) (by simp[results,results289,go_sem]) rfl ⟨rfl,((aB _ _).alloc (aL _) _).alloc ay _⟩
def FW(J:Nat->UL):Act:={tmps:=#[J 0,J 1,J 2,J 3,J 4,J 5,J 6,J 7,J 8,J 9,J 10,J 11,J 12,J 13,J 14,J 15,J 16,J 17,J 18,J 19,J 20,J 21,J 22],defers:=[]}
def FW.of(A:Array UL)(h:A=(FW λk=>A.getD k undef).tmps):({tmps:=A,defers:=[]}:Act)=FW λk=>A.getD k undef:=by rw[h];rfl
def kC(g:Nat->Int)(i j:Nat):UL:=Y (if j<i then g j else 0)
def Df(nm:ByteArray)(g:Nat->Int)(i:Nat):Array UL:=#[.string nm,kC g i 0,kC g i 1,kC g i 2,kC g i 3]
def aa2(nm:ByteArray)(g:Nat->Int){i:Nat}(h:i<4):(Df nm g i).setIfInBounds (1+i) (Y (g i))=Df nm g (i+1):=by have:i=0\/i=1\/i=2\/i=3:=O;rcases this with rfl|rfl|rfl|rfl<;>simp[Df,kC]
def ady(w:UK)(nm:ByteArray)(v:UL)(n:Nat)(g:Nat->Int)(m:Nat)(a:Act)(W:UK):Prop:=∃(J:Nat->UL) (i:Nat),a=FW J/\J 1=v/\J 4=UI w.heap.size/\J 5=UI (w.heap.size+1)/\J 6=Y i/\i<=n/\m+i=n+1/\Hid (Below w.heap.size w W)/\
 Hid (aF W (w.heap.size+1) 306 (Df nm g i))/\Hid (aF W w.heap.size 306 #[.string ⟨#[]⟩,Y 0,Y 0,Y 0,Y 0])
def FE{w:UK}(nm:ByteArray){v:UL}{n:Nat}{g:Nat->Int}(h:aZ w 1 v n (λi=> Y (g i)))(hn:n<=4):
 Calls prog 316 #[.string nm,v] w (λe w'=>e=C8 (.agg (Df nm g n))/\Below w.heap.size w w'):=by
 have HR:=Z h;obtain⟨va,vc,rfl,-,-⟩:=aZ.val h;have k0:aF ((w.alloc (QP #[.string ⟨#[]⟩,Y 0,Y 0,Y 0,Y 0] 306)).alloc (QP #[.string nm,Y 0,Y 0,Y 0,Y 0] 306)) w.heap.size 306 #[.string ⟨#[]⟩,Y 0,Y 0,Y 0,Y 0]:=(aF.new w _ _).alloc _;have k1:aF ((w.alloc (QP #[.string ⟨#[]⟩,Y 0,Y 0,Y 0,Y 0] 306)).alloc (QP #[.string nm,Y 0,Y 0,Y 0,Y 0] 306)) (w.heap.size+1) 306 (Df nm g 0):=aF.bR ay;have K0:=Z k0;have K1:=Z k1;clear h k0 k1;go_enter func316,ntmps316;go_wp2;refine Mk.aN (ady w nm (to va n vc) n g) (n+1) ⟨_,0,FW.of _ rfl,rfl,rfl,rfl,rfl,cK _,O,Z (((aB _ _).alloc (aL _) _).alloc ay _),K1,K0⟩ (λa W hh=>by obtain⟨J,i,-,-,-,-,-,h1,h2,-⟩:=hh;omega) ?_;rintro m a W ⟨J,i,rfl,j1,j4,j5,j6,hi,hm,HB,HK,HZ⟩;have w2:=mO i O;unfold FW;rw[j1,j4,j5,j6];clear j1 j4 j5 j6 K0 K1;by_cases be:i<n
 ·obtain⟨b,off,cap,hv,-,-,X,hc⟩:=aZ.some (HR.o.aG (aA.af HB.o)) O O;simp only[cM]at hv;obtain⟨rfl,-,rfl⟩:=hv;have c0:UJ W (G b (off+i))=H (Y (g i)):=hc i O;have lb:=aH c0;have ho:∃u,UJ W (G (w.heap.size+1) (1+i))=H u:=by have hz:(Df nm g i).size=5:=rfl;exact⟨_,(HK.o.cell (1+i)).trans (tR (show 1+i<(Df nm g i).size by omega))⟩
  obtain⟨u,hu⟩:=ho;have fz:=HK.o.frozen;have lx:=HK.o.lt;have HS:=Z (HK.o.set (1+i) (Y (g i)));have dE:=Z be;have NA:(i:Int)<4:=O;clear hc;go_wp2;refine⟨_,i+1,FW.of _ rfl,rfl,rfl,rfl,rfl,dE.o,O,Z (HB.o.setCell (p:=(G (w.heap.size+1) (1+i))) ay _),Z ?_,Z (HZ.o.other O _ _)⟩;rw[<-aa2 nm g O];exact HS.o
 ·obtain rfl:i=n:=O;have HF:=Z (show Df nm g i=#[.string nm,Y (if 0<i then g 0 else 0),Y (if 1<i then g 1 else 0),Y (if 2<i then g 2 else 0),Y (if 3<i then g 3 else 0)]from rfl);have hk:=HK.o;rw[HF.o]at hk;generalize(if 0<i then g 0 else 0)=g0 at*;generalize(if 1<i then g 1 else 0)=g1 at*;generalize(if 2<i then g 2 else 0)=g2 at*;generalize(if 3<i then g 3 else 0)=g3 at*;obtain⟨c0,c1,c2,c3,c4⟩:=hk.c5;obtain⟨z0,z1,z2,z3,z4⟩:=HZ.o.c5;have fz:=HZ.o.frozen;have a1q:=HZ.o.lt;clear be hk;go_wp2_with fail;refine bK (v:= .agg #[.string nm,Y g0,Y g1,Y g2,Y g3]) ?_ rfl ⟨by rw[HF.o],((((HB.o.setCell (p:=(G w.heap.size 0)) (aL _) _).setCell (p:=(G w.heap.size 1)) (aL _) _).setCell (p:=(G w.heap.size 2)) (aL _) _).setCell (p:=(G w.heap.size 3)) (aL _) _).setCell (p:=(G w.heap.size 4)) (aL _) _⟩;simp[results,results316,go_sem,c0,c1,c2,c3,c4,z0,z1,z2,z3,z4]
def af6(W:UK)(nm:ByteArray):Calls prog 316 #[.string nm,Pl] W (λe w'=>e=C8 (.agg #[.string nm,Y 0,Y 0,Y 0,Y 0])/\Below W.heap.size W w'):=
 FE nm (g:=λ_=>0) (.inl ⟨rfl,rfl⟩) O
def eY{W:UK}{l:List Int}{cs:Array UL}(hc:cs=(l.map (Value.int .i64)).toArray)(hl:l.length<=4):aZ (W.alloc (QP cs 3)) 1 (to (H (G W.heap.size 0)) l.length l.length) l.length (λi=> Y (l.getD i 0)):=by refine .inr ⟨_,_,rfl,aL _,by unfold maxLen;omega,λo ho=>⟨rfl,?_⟩⟩;have h1:aF (W.alloc (QP cs 3)) W.heap.size 3 cs:=aF.new _ _ _;have h2:=h1.cell (0+o);rw[h2,hc,Nat.zero_add];have:o<l.length:=O;simp[aY,this]
def rB{W w':UK}{x:Obj}(h:Below (W.alloc x).heap.size (W.alloc x) w'):Below W.heap.size W w':=((aB _ _).alloc (aL _) _).trans (h.mono ay)
def aaa(W:UK)(nm:ByteArray)(a:Int):Calls prog 316 #[.string nm,to (H (G W.heap.size 0)) 1 1] (W.alloc (QP #[Y a] 3)) (λe w'=>e=C8 (.agg #[.string nm,Y a,Y 0,Y 0,Y 0])/\Below W.heap.size W w'):=
 (FE nm (eY (l:=[a]) rfl ay) ay).mono λe w' h=>⟨h.1,rB h.2⟩
def aab(W:UK)(nm:ByteArray)(a b:Int):Calls prog 316 #[.string nm,to (H (G W.heap.size 0)) 2 2] (W.alloc (QP #[Y a,Y b] 3)) (λe w'=>e=C8 (.agg #[.string nm,Y a,Y b,Y 0,Y 0])/\Below W.heap.size W w'):=
 (FE nm (eY (l:=[a,b]) rfl ay) ay).mono λe w' h=>⟨h.1,rB h.2⟩
def aac(W:UK)(nm:ByteArray)(a b c:Int):Calls prog 316 #[.string nm,to (H (G W.heap.size 0)) 3 3] (W.alloc (QP #[Y a,Y b,Y c] 3)) (λe w'=>e=C8 (.agg #[.string nm,Y a,Y b,Y c,Y 0])/\Below W.heap.size W w'):=
 (FE nm (eY (l:=[a,b,c]) rfl ay) ay).mono λe w' h=>⟨h.1,rB h.2⟩
def aad(W:UK)(nm:ByteArray)(a b c d:Int):Calls prog 316 #[.string nm,to (H (G W.heap.size 0)) 4 4] (W.alloc (QP #[Y a,Y b,Y c,Y d] 3)) (λe w'=>e=C8 (.agg #[.string nm,Y a,Y b,Y c,Y d])/\Below W.heap.size W w'):=
 (FE nm (eY (l:=[a,b,c,d]) rfl ay) ay).mono λe w' h=>⟨h.1,rB h.2⟩
def nmB:List ByteArray:=[⟨#[101,110,100]⟩,⟨#[110,117,109]⟩,⟨#[98,111,111,108]⟩,⟨#[118,97,114]⟩,⟨#[108,101,110]⟩,⟨#[99,97,112]⟩,⟨#[115,105,122,101]⟩,⟨#[116,111,116,97,108]⟩,⟨#[97,116]⟩,⟨#[116,97,103,120]⟩,⟨#[116,97,103,101,110,100]⟩,⟨#[109,105,110]⟩,⟨#[109,97,120]⟩,⟨#[110,101,103]⟩,⟨#[110,111,116]⟩,⟨#[109,117,108]⟩,⟨#[100,105,118]⟩,⟨#[97,100,100]⟩,⟨#[115,117,98]⟩,⟨#[101,113]⟩,⟨#[108,116]⟩,⟨#[108,101]⟩,⟨#[106,117,109,112]⟩,⟨#[101,108,115,101]⟩,⟨#[108,111,111,112]⟩,⟨#[116,117,114,110]⟩,⟨#[113,117,105,116]⟩,⟨#[97,103,97,105,110]⟩,⟨#[115,101,116]⟩,⟨#[109,97,114,107,120]⟩,⟨#[109,97,114,107,101,110,100]⟩,⟨#[105,110,115,101,114,116]⟩,⟨#[109,111,118,101]⟩,⟨#[102,111,114,103,101,116]⟩,⟨#[116,97,107,101]⟩,⟨#[103,105,118,101]⟩,⟨#[116,101,108,108]⟩,⟨#[108,111,111,115,101]⟩,⟨#[115,104,105,102,116]⟩,⟨#[115,112,105,108,108]⟩,⟨#[101,118,105,99,116]⟩,⟨#[100,114,111,112]⟩]
def ixL:List Nat:=[1,3,5,7,9,11,12,13,15,17,19,20,21,22,23,24,25,26,27,28,29,30,32,34,36,38,40,42,44,46,48,50,52,53,55,57,58,59,61,63,65,67]
def QE(i:Nat):UL:= .agg #[.string (nmB.getD i ⟨#[]⟩),Y ((cC i).getD 0 0:Nat),Y ((cC i).getD 1 0:Nat),Y ((cC i).getD 2 0:Nat),Y ((cC i).getD 3 0:Nat)]
def og:List UL:=(List.range 42).map QE
def FI(o:Nat):UL:=if o % 5=0 then .string (nmB.getD (o / 5) ⟨#[]⟩)else Y ((cC (o / 5)).getD (o % 5-1) 0:Nat)
def adV:og.length=42:=by simp[og]
def Br:∀v∈og,v.cells.size=5:=by intro v hv;obtain⟨i,-,rfl⟩:=List.mem_map.1 hv;rfl
def aaN{o:Nat}(ho:o<42*5):(og.flatMap λv=>v.cells.toList).toArray[o]? =H (FI o):=by
 have h:=Great.flat_get (s:=5) O og Br o;have h1:og[o / 5]? =H (QE (o / 5)):=by have:o / 5<42:=O;simp[og,this]
 have e:(og.flatMap λv=>v.cells.toList).toArray[o]? =(og.flatMap λv=>v.cells.toList)[o]? :=by simp
 rw[e,h,h1];have:o % 5=0\/o % 5=1\/o % 5=2\/o % 5=3\/o % 5=4:=O;rcases this with h|h|h|h|h<;>simp[FI,QE,h,Value.cells]
def aaM(w:UK)(e:Ending)(w':UK):Prop:=∃b,e=C8 (to (H (G b 0)) 42 42)/\aZ w' 5 (to (H (G b 0)) 42 42) 42 FI/\Below w.heap.size w w'
def tz:(prog.info? 306).map (·.size)=H 5:=by kernel_rfl
def aaL:((prog.info? 306).bind (·.zero)).isSome=true:=by kernel_rfl
def acE:prog.underlying 301=H (.slice 306):=by kernel_rfl
def aaK{o:Oper}{a:Act}{w0 w:UK}{K:Act->UK->Prop}{Q:Exit->Act->UK->Prop}(parts:Array (Nat×Operand))(ho:o.op= .buildSlice 301 42 parts)(hB:Below w0.heap.size w0 w)
 (aaf:parts.toList=(List.range 42).map λi=>(i,Operand.tmp (ixL.getD i 0))) (sO:(List.range 42).map (λi=>a.eval (.tmp (ixL.getD i 0)))=og)
 (h:∀W' b,aZ W' 5 (to (H (G b 0)) 42 42) 42 FI->Below w0.heap.size w0 W'->K (a.put o.dst (to (H (G b 0)) 42 42)) W'):o.wp prog a w K Q:=by
 cases hie:prog.info? 306 with
 |none=>have:=tz;simp[hie]at this
 |some ie=>
  have kw:=tz;have hz:=aaL;simp only[hie,Option.map_some,im,Option.bind_some]at kw hz;obtain⟨z,hzz⟩:=Option.isSome_iff_exists.1 hz;refine wp_buildSlice 301 306 42 parts ho (og.flatMap λv=>v.cells.toList).toArray ie z acE hie hzz (by rw[kw];omega) (by rw[kw];omega) ?_ ?_
  ·have e1:(parts.map λ(i,x)=>(i,a.eval x)).toList=(og.zipIdx 0).map λx=>(x.2,x.1):=by
    rw[Array.toList_map,aaf,List.map_map,<-sO];apply List.ext_getElem
    ·simp
    ·intro i h1 h2;simp
   rw[e1,kw];exact Great.fill_whole O og _ Br (by rw[adV];simp)
  refine h _ _ (.inr ⟨_,_,rfl,aL _,by unfold maxLen;omega,λo ho=>⟨rfl,?_⟩⟩) (hB.alloc hB.size _);have h1:=(aF.new w 306 (og.flatMap λv=>v.cells.toList).toArray).cell (0+o);rw[h1,Nat.zero_add];exact aaN ho
def wX(w:UK):Calls prog 288 #[] w (aaM w):=by have hB:=aB w.heap.size w;go_enter func288,ntmps288;go_wp2_with (first|(with_reducible refine(af6 _ _).mono ?_;rintro e W9 ⟨rfl,X⟩;replace hB:=hB.trans (X.mono hB.size);clear X)|(with_reducible refine(aaa _ _ _).mono ?_;rintro e W9 ⟨rfl,X⟩;replace hB:=hB.trans (X.mono hB.size);clear X)|(with_reducible refine(aab _ _ _ _).mono ?_;rintro e W9 ⟨rfl,X⟩;replace hB:=hB.trans (X.mono hB.size);clear X)|(with_reducible refine(aac _ _ _ _ _).mono ?_;rintro e W9 ⟨rfl,X⟩;replace hB:=hB.trans (X.mono hB.size);clear X)|(with_reducible refine(aad _ _ _ _ _ _).mono ?_;rintro e W9 ⟨rfl,X⟩;replace hB:=hB.trans (X.mono hB.size);clear X));refine aaK (w0:=w) _ rfl hB bh bh ?_;intro W' b hR hB';have HB:=Z hB';have HR:=Z hR;clear hB' hR hB;go_wp2;go_ret;exact⟨_,rfl,HR.o,HB.o⟩
def Hv{p:Prop}(h:p:=by
 have HF:=Z (show aO n 1 255=false by unfold aO;simp;omega);go_enter func315,ntmps315;exact Vd):p:=h
def Vd{p:Prop}(h:p:=by
 go_wp2;go_ret;exact⟨by rw[HF.o];rfl,rfl⟩):p:=h
def aeO(w:UK)(n:Int):Calls prog 315 #[Y n,Y 1,Y 255] w (λe w'=>e=C8 (.bool (aO n 1 255))/\w'=w):=by
 by_cases h1:1<=n
 ·by_cases h2:n<=255
  ·have HF:=Z (show aO n 1 255=true by unfold aO;simp;omega);go_enter func315,ntmps315;exact Vd
  ·exact Hv
 ·exact Hv
def FT(J:Nat->UL):Act:={tmps:=#[J 0,J 1,J 2,J 3,J 4,J 5,J 6,J 7,J 8,J 9,J 10,J 11,J 12,J 13,J 14,J 15],defers:=[]}
def FT.of(A:Array UL)(h:A=(FT λk=>A.getD k undef).tmps):({tmps:=A,defers:=[]}:Act)=FT λk=>A.getD k undef:=by rw[h];rfl
def Pt(w:UK)(p:aQ)(v:UL)(m:Nat)(a:Act)(W:UK):Prop:=∃(J:Nat->UL) (i:Nat),a=FT J/\J 0=v/\J 3=Y i/\i<=p.aS.length/\m+i=p.aS.length+1/\W=w/\Hid (∀j,j<i->aO (p.aS.getD j 0) 1 255=true)
def aan(h:fW w K p)(hl:p.aS.length<=4):Calls prog 287 #[K.t] w (λe w'=>e=C8 (.bool (p.aS.all λt=>aO t 1 255))/\w'=w):=by
 have HT:=Z h.t;obtain⟨ta,tc,t1,-,-⟩:=aZ.val h.t;have HV:=Z t1;rw[t1]at HT ⊢;clear h t1;go_enter func287,ntmps287;go_wp2;refine Mk.aN (Pt w p (to ta p.aS.length tc)) (p.aS.length+1) ⟨_,0,FT.of _ rfl,rfl,rfl,cK _,O,rfl,Z (λj hj=>absurd hj O)⟩ (λa W hh=>by obtain⟨J,i,-,-,-,h1,h2,-⟩:=hh;omega) ?_;rintro m a W ⟨J,i,rfl,j0,j3,hi,hm,rfl,HA⟩;have w2:=mO i O;unfold FT;rw[j0,j3];clear j0 j3;by_cases be:i<p.aS.length
 ·obtain⟨b,off,cap,hv,-,-,X,hc⟩:=aZ.some HT.o O O;simp only[cM]at hv;obtain⟨rfl,-,rfl⟩:=hv;have c0:UJ W (G b (off+i))=H (Y (p.aS.getD i 0)):=hc i O;clear hc;have dE:=Z be;obtain⟨x,hx⟩:∃x,p.aS.getD i 0=x:=⟨_,rfl⟩;rw[hx]at c0;have HX:=Z hx;clear hx;obtain⟨r,hr⟩:∃r,aO x 1 255=r:=⟨_,rfl⟩;have HTO:=Z (λV=>hr▸aeO V x);have HR:=Z hr;clear hr;go_wp2_with fail;refine(HTO.o _).mono ?_;rintro e W1 ⟨rfl,rfl⟩;cases r with
  |false=>
   have HF:=Z (show(p.aS.all λt=>aO t 1 255)=false from by
    rw[vV];intro f_;rw[qM]at f_;have:=f_ (p.aS.getD i 0) (by rw[aY,fq dE.o];exact jO dE.o);rw[HX.o,HR.o]at this;cases this)
   exact Vd
  |true=>
   go_wp2;refine⟨_,i+1,FT.of _ rfl,rfl,rfl,dE.o,O,rfl,Z λj hj=>?_⟩;by_cases e:j=i
   ·subst e;rw[HX.o];exact HR.o
   ·exact HA.o j O
 ·obtain rfl:i=p.aS.length:=O;have HF:=Z (show(p.aS.all λt=>aO t 1 255)=true from by
   rw[qM];intro v hv;obtain⟨j,hj,e⟩:=yZ hv;have:=HA.o j hj;rw[aY,fq hj]at this;simpa[e]using this)
  clear be;exact Vd
end
end Go.Rv
namespace Go.Rv
open Ma (aI aV)
def adW(ty:List Nat)(w:UK){k j:Nat}(hj:j<k)(hk:k<=ty.length)(ht:fe ty):(Instr.index 9 (.string (fM (ty.take k))) (Y ((k-1-j:Nat):Int))).run prog w= .ok (.int .u8 ((Bq (ty.getD j 0)).toNat:Nat)) w:=by
 have hs:(fM (ty.take k)).size=k:=by rw[nC,List.length_take];omega
 have hi:0<=((k-1-j:Nat):Int)/\((k-1-j:Nat):Int)<((fM (ty.take k)).size:Int):=O;rw[run_index_string w _ _ _ _ underlying9,dif_pos hi];simp only[Int.toNat_natCast];have e:(fM (ty.take k))[k-1-j]'O=Bq (ty.getD j 0):=by
  show(fM (ty.take k)).data[k-1-j]'_=_;have h2:((ty.take k).reverse.map Bq)[k-1-j]? =H (Bq (ty.getD j 0)):=by rw[List.getElem?_map,List.getElem?_reverse (by rw[List.length_take];omega)];rw[show(ty.take k).length-1 - (k-1-j)=j by rw[List.length_take];omega,List.getElem?_take_of_lt hj,fq O,aY,fq (show j<ty.length by omega)];rfl
  have h3:(fM (ty.take k)).data[k-1-j]? =H (Bq (ty.getD j 0)):=by show((ty.take k).reverse.map Bq).toArray[k-1-j]? =_;rw[List.getElem?_toArray];exact h2
  exact(Array.getElem?_eq_some_iff.1 h3).2
 rw[e]
def IZ(w:UK)(x:Ins)(ty:List Nat)(e:Ending)(w':UK):Prop:=e=C8 (.tuple #[.string (fM (cL x ty).2),Y (cL x ty).1])/\Below w.heap.size w w'
def LX{p:Prop}(h:p:=by
 go_enter func292,ntmps292;go_wp2_with fail;refine(HT.o _).mono ?_;rintro e w' ⟨rfl,rfl⟩;go_wp2;go_ret2;exact⟨rfl,HB.o _ _⟩):p:=h
def aaO(w:UK){x:Ins}{ty:List Nat}(h0:0<=x.op)(h1:x.op<42)(hl:ty.length<=256)(ht:fe ty):
 Calls prog 292 #[aV x,.string (fM ty)] w (IZ w x ty):=by
 have HO:=Z (rfl:cL x ty=cL x ty);obtain⟨op,xa,xb,xc,xd⟩:=x;dsimp only at h0 h1;have HT:=Z (λV=>Cs V h0 h1);have HG:=Z (λV=>tV V h0 h1);have HS:=Z (nC ty);have hB:=qq w;have hC:∀cs T k,Below w.heap.size w ((w.alloc (QP cs T)).drewN k):=λcs T k=>(hB cs T).trans (az _ _ k);have HB:=Z hB;have HC:=Z hC;have Ka:=Z ht;have hz:op=0->b_ op.toNat=[]:=λh=>by rw[h];rfl
 have uQ:op=19↔op.toNat=19:=O;have Ks:=u_ op.toNat;clear hB hC ht h0 h1;unfold aV aI IZ;dsimp only;generalize hk:b_ op.toNat=tk at*;have Gs:(fM tk).size=tk.length:=nC tk;have Zd:tk.length<=2:=by rcases Ks with rfl|rfl|rfl|rfl|⟨-,rfl⟩<;>simp
 have hu:cL ⟨op,xa,xb,xc,xd⟩ ty=(if ty.length<tk.length\/(op=0/\tk.length<ty.length)then(93,[])else if 256<(fg op.toNat++ty.drop tk.length).length then(93,[])else if op=19 then(if ty.getD 0 0≠ty.getD 1 0 then(94,[])else(0,fg op.toNat++ty.drop tk.length))else if ty.take tk.length≠tk then(94,[])else(0,fg op.toNat++ty.drop tk.length)):=by unfold cL;dsimp only;rw[hk];rfl
 have HU:=Z hu;have HK:=Z hk;clear hu hk;have e2:(fM ty).size=ty.length:=HS.o;by_cases c1:ty.length<tk.length
 ·have MA:=Z (show cL ⟨op,xa,xb,xc,xd⟩ ty=(93,[])by rw[HU.o,bk (.inl c1)]);have w1:IntKind.i64.wrap ((ty.length:Int) - (tk.length:Int))=(ty.length:Int) - (tk.length:Int):=bJ _ lI;rw[MA.o];generalize fM ty=tb at*;generalize fM tk=tkb at*;generalize ty.length=n at*;generalize tk.length=k at*;clear Ks uQ hz HG HO;exact LX
 by_cases c2:op=0/\tk.length<ty.length
 ·obtain⟨rfl,c2⟩:=c2;have MA:=Z (show cL ⟨0,xa,xb,xc,xd⟩ ty=(93,[])by rw[HU.o,bk (.inr ⟨rfl,c2⟩)]);have w1:IntKind.i64.wrap ((ty.length:Int) - (tk.length:Int))=((ty.length-tk.length:Nat):Int):=by rw[bJ _ lI];omega
  rw[MA.o];have c3:0<ty.length-tk.length:=O;generalize fM ty=tb at*;generalize fM tk=tkb at*;generalize ty.length-tk.length=nk at*;generalize ty.length=n at*;generalize tk.length=k at*;clear Ks uQ hz HG HO;exact LX
 have xK:cL ⟨op,xa,xb,xc,xd⟩ ty=(if 256<(fg op.toNat++ty.drop tk.length).length then(93,[])else if op=19 then(if ty.getD 0 0≠ty.getD 1 0 then(94,[])else(0,fg op.toNat++ty.drop tk.length))else if ty.take tk.length≠tk then(94,[])else(0,fg op.toNat++ty.drop tk.length)):=by rw[HU.o,aw (by simp only[not_or];exact⟨c1,c2⟩)]
 have w1:IntKind.i64.wrap ((ty.length:Int) - (tk.length:Int))=((ty.length-tk.length:Nat):Int):=by rw[bJ _ lI];omega
 have Yo:=adY ty (k:=tk.length) O;have hX:=aaT ty tk.length;have hxs:(fM (ty.drop tk.length)).size=ty.length-tk.length:=by rw[nC,List.length_drop]
 have hgs:(fM (fg op.toNat)).size=(fg op.toNat).length:=nC _;have afu:(fg op.toNat).length<=1:=by unfold fg;split<;>simp
 have hXG:fM (ty.drop tk.length)++fM (fg op.toNat)=fM (fg op.toNat++ty.drop tk.length):=adX _ _;have hlz:=nC (fg op.toNat++ty.drop tk.length);have htz:=nC (ty.take tk.length);have HR:=Z (λ(w:UK) (j:Nat) (hj:j<tk.length)=>adW ty w hj O Ka.o);have RH:=Z (λ(h:fe tk)=>IW (Ka.o.take tk.length) h);have AB:(fg op.toNat++ty.drop tk.length).length<=257:=by rw[qS,List.length_drop];unfold fg;split<;>simp<;>omega
 have c4:op=0/\ty.length=tk.length\/op≠0:=by
  by_cases o:op=0
  ·exact .inl ⟨o,by have:¬tk.length<ty.length:=λh=>c2 ⟨o,h⟩;omega⟩
  ·exact .inr o
 have MA:=Z xK;have hnk:ty.length-tk.length<=ty.length:=O;clear xK c2 HU HO;have Js:=Z Ks;have HZ:=Z hz;clear Ks hz;generalize hLb:fM (fg op.toNat++ty.drop tk.length)=lb at*;generalize hTb:fM (ty.take tk.length)=tpb at*;generalize hGb:fM (fg op.toNat)=gb at*;generalize hXb:fM (ty.drop tk.length)=xb9 at*;generalize hGl:(fg op.toNat).length=gl at*;have Xl:=Z hGl;have Zk:=Z hXb;have HLB:=Z hLb;have ub:=Z hTb;have HGB:=Z hGb;clear hLb hTb hGb hXb hGl;generalize v_:fM ty=tb at*;generalize Ks:fM tk=tkb at*;have y6:=Z v_;have afv:=Z Ks;clear v_ Ks;generalize U0:ty.length-tk.length=nk at*;have HNK:=Z U0;clear U0;generalize hn9:ty.length=n at*;have HN:=Z hn9;clear hn9;generalize hk9:tk.length=k at*;have Vi:=Z hk9;clear hk9;have pR:k<=n:=O;generalize La:(fg op.toNat++ty.drop k).length=ll at*;have HLL:=Z La;clear La c1;have c6:((op==0)=true/\decide (0<nk)=false)\/(op==0)=false:=by
  rcases c4 with⟨h,h2⟩|h
  ·exact .inl ⟨by simpa using h,by have:=HNK.o;simp;omega⟩
  ·exact .inr (by simpa using h)
 clear c4;rcases c6 with⟨c4,c7⟩|c4
 all_goals
  go_enter func292,ntmps292;go_wp2_with fail;refine(HT.o _).mono ?_;rintro e w' ⟨rfl,rfl⟩;go_wp2;go_quiet ((go_at_call 318;exact Calls.quiet_of_same (HG.o _)));by_cases c5:256<ll
  ·have HE:=Z (show cL _ ty=(93,[])from by rw[MA.o,bk c5]);clear uQ;go_wp2;go_ret2;exact⟨by rw[HE.o];rfl,HC.o _ _ _⟩
  by_cases o19:op=19
  ·subst o19
   try (exact absurd c4 bd)
   all_goals
    have e2:tk=[3,3]:=HK.o.symm;have k2:k=2:=by rw[<-Vi.o,e2];rfl
    have r0:∀V:UK,(Instr.index 9 (.string tpb) (Y 1)).run prog V= .ok (.int .u8 ((Bq (ty.getD 0 0)).toNat:Nat)) V:=λV=>by have:=HR.o V 0 O;rw[k2]at this;exact this
    have r1:∀V:UK,(Instr.index 9 (.string tpb) (Y 0)).run prog V= .ok (.int .u8 ((Bq (ty.getD 1 0)).toNat:Nat)) V:=λV=>by have:=HR.o V 1 O;rw[k2]at this;exact this
    have h0:=Ka.o.at (j:=0) (by have:=HN.o;omega);have h1:=Ka.o.at (j:=1) (by have:=HN.o;omega);have hch:=Kx h1 h0;have HE:=Z (show cL ⟨19,xa,xb,xc,xd⟩ ty=if ty.getD 0 0≠ty.getD 1 0 then(94,[])else(0,fg (Int.toNat 19)++ty.drop k)by rw[MA.o,aw c5,bk rfl]);generalize ty.getD 0 0=t0 at*;generalize ty.getD 1 0=t1 at*;clear uQ e2 k2 h0 h1;by_cases hq:t0=t1
    ·subst hq;have pX:=Z (show cL ⟨19,xa,xb,xc,xd⟩ ty=(0,fg (Int.toNat 19)++ty.drop k)by rw[HE.o,aw ay]);clear hch;generalize(Bq t0).toNat=u0 at*;go_wp2;go_quiet (fail);go_wp2;go_ret2;exact⟨by rw[pX.o,<-HLB.o];rfl,(HC.o _ _ _).trans (az _ _ _)⟩
    ·have pX:=Z (show cL ⟨19,xa,xb,xc,xd⟩ ty=(94,[])by rw[HE.o,bk hq]);have bm:¬(Bq t1).toNat=(Bq t0).toNat:=λh=>hq (hch.1 (UInt8.toNat_inj.1 h)).symm;clear hch hq;generalize(Bq t0).toNat=u0 at*;generalize(Bq t1).toNat=u1 at*;go_wp2;go_quiet (fail);go_wp2;go_ret2;exact⟨by rw[pX.o];rfl,(HC.o _ _ _).trans (az _ _ _)⟩
  ·have ho:(op==19)=false:=by simpa using o19
   have Ks:fe tk:=by
    have hh:tk=[]\/tk=[1]\/tk=[2]\/tk=[1,1]:=by
     rcases Js.o with h|h|h|h|⟨h,-⟩
     ·exact .inl h
     ·exact .inr (.inl h)
     ·exact .inr (.inr (.inl h))
     ·exact .inr (.inr (.inr h))
     ·exact absurd (uQ.2 h) o19
    rcases hh with rfl|rfl|rfl|rfl<;>intro t ht<;>simp at ht<;>simp[ht]
   have xu:=RH.o Ks;have HE:=Z (show cL ⟨op,xa,xb,xc,xd⟩ ty=if ty.take k≠tk then(94,[])else(0,fg (Int.toNat op)++ty.drop k)by rw[MA.o,aw c5,aw o19]);clear Ks uQ o19;by_cases hq:ty.take k=tk
   ·have pX:=Z (show cL ⟨op,xa,xb,xc,xd⟩ ty=(0,fg (Int.toNat op)++ty.drop k)by rw[HE.o,aw (by simp[hq])]);have X:(tpb.toList==tkb.toList)=true:=by rw[beq_iff_eq,xu];exact hq
    clear xu hq;go_wp2;go_ret2;exact⟨by rw[pX.o,<-HLB.o];rfl,HC.o _ _ _⟩
   ·have pX:=Z (show cL ⟨op,xa,xb,xc,xd⟩ ty=(94,[])by rw[HE.o,bk hq]);have X:(tpb.toList==tkb.toList)=false:=by rw[beq_eq_false_iff_ne,ne_eq,xu];exact hq
    clear xu hq;go_wp2;go_ret2;exact⟨by rw[pX.o];rfl,HC.o _ _ _⟩
open Ma (dP ci aX vb)
open Vf (Kp fW pV rT bN aZ)
def oB(s:mh):UL:= .agg #[.string (fM s.ty),Y s.loop,Y s.hand,.bool s.kV]
def Fz(f:Nat->mh)(o:Nat):UL:=(#[.string (fM (f (o / 4)).ty),Y (f (o / 4)).loop,Y (f (o / 4)).hand,.bool (f (o / 4)).kV]:Array UL).getD (o % 4) undef
structure rU(w:UK)(K:Kp)(p:aQ)(lb:Nat)(jg lH kM:UL)(L:lE):Prop where
 dS:aF w lb 260 (IY K p jg lH kM)
 at_:Row w 262 4 jg p.code.length (Fz L.at_)
 up:Row w 3 1 lH p.code.length (λi=> Y (L.up i))
 st:Row w 4 1 kM p.code.length (λi=> .bool (fU p i))
section
variable {w w':UK}{K:Kp}{p:aQ}{jg lH kM:UL}{lb:Nat}{L:lE}{x:Ins}
def rU.aG(h:rU w K p lb jg lH kM L)(f:aA [] w w'):rU w' K p lb jg lH kM L:=⟨h.dS.aG f ay,h.at_.aG f ay,h.up.aG f ay,h.st.aG f ay⟩
def rU.Wy(h:rU w K p lb jg lH kM L){i:Nat}(hi:i<p.code.length):∃b cap,jg=to (H (G b 0)) p.code.length cap/\p.code.length<=cap/\cap<=maxLen/\b<w.heap.size/\
 UJ w (G b (i*4))=H (.string (fM (L.at_ i).ty))/\UJ w (G b (i*4+1))=H (Y (L.at_ i).loop)/\UJ w (G b (i*4+2))=H (Y (L.at_ i).hand)/\UJ w (G b (i*4+3))=H (.bool (L.at_ i).kV):=by
 obtain⟨b,cap,e,h1,h2,h3⟩:=h.at_.some O;have hr:=h.at_;rw[e]at hr;have key:∀k,k<4->UJ w (G b (i*4+k))=H ((#[.string (fM (L.at_ i).ty),Y (L.at_ i).loop,Y (L.at_ i).hand,.bool (L.at_ i).kV]:Array UL).getD k undef):=λk hk=>by have e:=hr.cell (o:=i*4+k) O;rw[e];unfold Fz;rw[show(i*4+k) / 4=i by omega,show(i*4+k) % 4=k by omega]
 exact⟨b,cap,e,h1,h2,h3,key 0 O,key 1 O,key 2 O,key 3 O⟩
def rU.start(h:rU w K p lb jg lH kM L){i:Nat}(hi:i<p.code.length):∃b cap,kM=to (H (G b 0)) p.code.length cap/\p.code.length<=cap/\b<w.heap.size/\UJ w (G b i)=H (.bool (fU p i)):=by obtain⟨b,cap,e,h1,h2,h3⟩:=h.st.some O;have hr:=h.st;rw[e]at hr;exact⟨b,cap,e,h1,h3,hr.cell O⟩
def rU.upc(h:rU w K p lb jg lH kM L){i:Nat}(hi:i<p.code.length):∃b cap,lH=to (H (G b 0)) p.code.length cap/\p.code.length<=cap/\b<w.heap.size/\UJ w (G b i)=H (Y (L.up i)):=by obtain⟨b,cap,e,h1,h2,h3⟩:=h.up.some O;have hr:=h.up;rw[e]at hr;exact⟨b,cap,e,h1,h3,hr.cell O⟩
structure JOk(p:aQ)(L:lE)(pc:Nat)(x:Ins)(ty:List Nat)(loop:Int):Prop where
 pc:pc<p.code.length
 len:p.code.length<=262144
 lp:loop<p.code.length
 ty:fe ty
 lt:∀n,fe (L.at_ n).ty
def QT(w:UK)(b:Bool)(e:Ending)(w':UK):Prop:=e=C8 (.bool b)/\Below w.heap.size w w'
def UP{p:Prop}(h:p:=by
 go_enter func294,ntmps294;exact O6):p:=h
def QL{p:Prop}(h:p:=by
 go_enter func294,ntmps294;go_wp2;go_ret;exact⟨by rw[HJ.o];rfl,HB.o _ _ _ _⟩):p:=h
def MJ{p:Prop}(h:p:=by
 go_enter func294,ntmps294;go_wp2_with fail;refine(GV.o _ _ _ _).mono ?_;rintro e w' ⟨rfl,rfl⟩;exact O6):p:=h
def O6{p:Prop}(h:p:=by
 go_wp2;go_quiet (fail);go_wp2;go_ret;exact⟨by rw[HJ.o];rfl,HC.o _ _ _ _ _⟩):p:=h
def I2{p:Prop}(h:p:=by
 go_enter func294,ntmps294;go_wp2_with fail;refine(GV.o _ _ _ _).mono ?_;rintro e w' ⟨rfl,rfl⟩;go_wp2;go_ret;exact⟨by rw[HJ.o];rfl,HB.o _ _ _ _⟩):p:=h
def CK{pc:Nat}{ty:List Nat}{loop:Int}(h:fW w K p)(hl:rU w K p lb jg lH kM L)(hx:al p pc=x)(J:JOk p L pc x ty loop):
 Calls prog 294 #[UI lb,Y pc,.agg #[.string (fM ty),Y loop,Y 0,.bool false]] w (QT w (iC p L pc x ty loop)):=by
 obtain⟨jpc,afw,jlp,jty,jlt⟩:=J;obtain⟨cb,ze,Cj,kc,q1,q2,c0,c1,c2,c3,c4⟩:=h.ins jpc;rw[hx]at c0 c1 c2 c3 c4;have lc:=aH c0;obtain⟨-,-,-,-,-,v5,v6,-,v8⟩:=hl.dS.c9;have ll:=hl.dS.lt;rw[kc]at v5;have hB:=KJ w;have hC:∀cs T vF T2 k,Below w.heap.size w (((w.alloc (QP cs T)).alloc (QP vF T2)).drewN k):=λcs T vF T2 k=>(hB cs T vF T2).trans (az _ _ k);have HB:=Z hB;have HC:=Z hC;have HT:=Z (λcs T vF T2 n=>Hw (h.aG (aA.af (hB cs T vF T2))) (hl.dS.of ((hB cs T vF T2).block _ ll)) n);have a0f:=Z h;have HL:=Z hl;have B0:=Z kc;clear h hl hB hC kc;obtain⟨op,xa,xb,xc,xd⟩:=x;have HX:=Z hx;clear hx;unfold QT;dsimp only at*;have hj:∀a0c,a0c=iC p L pc ⟨op,xa,xb,xc,xd⟩ ty loop->a0c=iC p L pc ⟨op,xa,xb,xc,xd⟩ ty loop:=λ_ h=>h;clear hj;by_cases o1:op=22\/op=23\/op=25\/op=26
 ·by_cases o2:xa<=pc
  ·have HJ:=Z (show iC p L pc ⟨op,xa,xb,xc,xd⟩ ty loop=false from by unfold iC;rw[bk ⟨o1,.inl o2⟩]);rcases o1 with rfl|rfl|rfl|rfl
   all_goals
    exact QL
  have o3:(pc:Int)<xa:=O;clear o2;cases o4:h_ p xa with
  |true=>
   have HJ:=Z (show iC p L pc ⟨op,xa,xb,xc,xd⟩ ty loop=false from by unfold iC;rw[bk ⟨o1,.inr o4⟩]);have GV:=Z (λcs T vF T2=>o4▸HT.o cs T vF T2 xa);clear o4;rcases o1 with rfl|rfl|rfl|rfl
   all_goals
    exact I2
  |false=>
   have GV:=Z (λcs T vF T2=>o4▸HT.o cs T vF T2 xa);have Sq:¬((op=22\/op=23\/op=25\/op=26)/\(xa<=pc\/h_ p xa=true)):=by rintro⟨-,h|h⟩;omega;rw[o4]at h;cases h
   have mH:iC p L pc ⟨op,xa,xb,xc,xd⟩ ty loop=(if op=25 then decide (0<pc)&&decide ((al p (pc-1)).op=24)&& !fU p pc else if op=24 then h_ p ((pc:Int)+1)else if op=26 then decide (0<=loop)&&decide (xa=(al p loop.toNat).a)else if op=27 then decide (0<=loop)&&decide (xa=loop)&&decide (ty=(L.at_ loop.toNat).ty)else if op=0 then decide (loop<0)else true):=by unfold iC;rw[aw Sq]
   have Iz:=Z mH;clear o4 Sq mH;rcases o1 with rfl|rfl|rfl|rfl
   ·have HJ:=Z (show iC p L pc ⟨22,xa,xb,xc,xd⟩ ty loop=true from by rw[Iz.o];rfl);exact I2
   ·have HJ:=Z (show iC p L pc ⟨23,xa,xb,xc,xd⟩ ty loop=true from by rw[Iz.o];rfl);exact I2
   ·have mH:=Iz.o;rw[bk rfl]at mH;by_cases p0:0<pc
    ·obtain⟨m,rfl⟩:∃m,pc=m+1:=⟨pc-1,O⟩;have w1:IntKind.i64.wrap (((m+1:Nat):Int) - 1)=(m:Int):=by rw[bJ _ lI];omega
     obtain⟨cb2,adj,adk,Fb,-,-,e0,-⟩:=a0f.o.ins (i:=m) O;rw[B0.o]at Fb;simp only[cM,im,Addr.mk.injEq]at Fb;obtain⟨⟨rfl,rfl,-⟩,-,rfl⟩:=Fb;simp only[Nat.add_sub_cancel]at mH;rw[show decide (0<m+1)=true by simp,Bool.true_and]at mH;generalize(al p m).op=op2 at*;by_cases p1:op2=24
     ·subst p1;obtain⟨sb,afx,es,s1,s2,s3⟩:=HL.o.start jpc;rw[es]at v8;simp only[decide_true,Bool.true_and]at mH;cases hs:fU p (m+1)with
      |true=>rw[hs]at s3 mH;have HJ:=Z mH;clear mH hs;exact I2
      |false=>rw[hs]at s3 mH;have HJ:=Z mH;clear mH hs;exact I2
     ·have p2:(op2==24)=false:=by simpa using p1
      rw[show decide (op2=24)=false by simpa using p1,Bool.false_and]at mH;have HJ:=Z mH;clear mH p1;exact I2
    ·obtain rfl:pc=0:=O;simp only[Nat.zero_mul,Nat.add_zero]at c0 c1 c2 c3 c4;have HJ:=Z (show _=false from mH.trans ay);clear mH;exact I2
   ·have mH:=Iz.o;rw[aw bd,aw bd,bk rfl]at mH;by_cases p0:0<=loop
    ·obtain⟨m,rfl⟩:=dz p0;obtain⟨cb2,adj,adk,Fb,-,-,-,e1,-⟩:=a0f.o.ins (i:=m) O;rw[B0.o]at Fb;simp only[cM,im,Addr.mk.injEq]at Fb;obtain⟨⟨rfl,rfl,-⟩,-,rfl⟩:=Fb;obtain⟨a2,JZ⟩:∃z,(al p m).a=z:=⟨_,rfl⟩;rw[JZ]at e1;replace mH:=mH.trans (show _=decide (xa=a2)by simp[JZ]);clear JZ Iz;by_cases p1:xa=a2
     ·subst p1;have HJ:=Z (show _=true from mH.trans ay);clear mH;exact MJ
     ·have HJ:=Z (show _=false from mH.trans (by simpa using p1));have p2:(xa==a2)=false:=by simpa using p1
      clear mH p1;exact MJ
    ·have HJ:=Z (show _=false from mH.trans (by simp[p0]));have p1:decide (0<=loop)=false:=by simpa using p0
     clear mH p0;exact MJ
 have Sq:¬((op=22\/op=23\/op=25\/op=26)/\(xa<=pc\/h_ p xa=true)):=λh=>o1 h.1;have mH:iC p L pc ⟨op,xa,xb,xc,xd⟩ ty loop=(if op=25 then decide (0<pc)&&decide ((al p (pc-1)).op=24)&& !fU p pc else if op=24 then h_ p ((pc:Int)+1)else if op=26 then decide (0<=loop)&&decide (xa=(al p loop.toNat).a)else if op=27 then decide (0<=loop)&&decide (xa=loop)&&decide (ty=(L.at_ loop.toNat).ty)else if op=0 then decide (loop<0)else true):=by unfold iC;rw[aw Sq]
 simp only[not_or]at o1;obtain⟨n22,n23,n25,n26⟩:=o1;have e22:(op==22)=false:=by simpa using n22
 have e23:(op==23)=false:=by simpa using n23
 have e25:(op==25)=false:=by simpa using n25
 have e26:(op==26)=false:=by simpa using n26
 rw[aw n25,aw n26]at mH;clear Sq;by_cases WM:op=24
 ·subst WM;have HJ:=Z (mH.trans (bk rfl));have w1:IntKind.i64.wrap ((pc:Int)+1)=(pc:Int)+1:=bJ _ lI;clear mH n22 n23 n25 n26;rw[HJ.o];have HT3:=Z (λcs T vF T2=>HT.o cs T vF T2 ((pc:Int)+1));clear HJ HT;generalize h_ p ((pc:Int)+1)=tb9 at*;go_enter func294,ntmps294;go_wp2_with fail;refine(HT3.o _ _ _ _).mono ?_;rintro e w' ⟨rfl,rfl⟩;go_wp2;go_ret;exact⟨rfl,HB.o _ _ _ _⟩
 rw[aw WM]at mH;have e24:(op==24)=false:=by simpa using WM
 by_cases Zv:op=27
 ·subst Zv;rw[bk rfl]at mH;clear n22 n23 n25 n26 WM;by_cases p0:0<=loop
  ·obtain⟨m,rfl⟩:=dz p0;simp only[Int.toNat_natCast,p0,decide_true,Bool.true_and]at mH;obtain⟨ab,qW,ea,a1,a2,a3,s0,-⟩:=HL.o.Wy (i:=m) O;rw[ea]at v6;have xu:=IW jty (jlt m);clear ea;by_cases p1:xa=(m:Int)
   ·subst p1;simp only[decide_true,Bool.true_and]at mH;by_cases p2:ty=(L.at_ m).ty
    ·have HJ:=Z (show _=true from mH.trans (by simpa using p2));have e9:((fM ty).toList==(fM (L.at_ m).ty).toList)=true:=by rw[beq_iff_eq,xu];exact p2
     clear mH p2 xu jty jlt;generalize fM (L.at_ m).ty=t2 at*;generalize fM ty=t1 at*;exact UP
    ·have HJ:=Z (show _=false from mH.trans (by simpa using p2));have e9:((fM ty).toList==(fM (L.at_ m).ty).toList)=false:=by rw[beq_eq_false_iff_ne,ne_eq,xu];exact p2
     clear mH p2 xu jty jlt;generalize fM (L.at_ m).ty=t2 at*;generalize fM ty=t1 at*;exact UP
   ·have HJ:=Z (show _=false from mH.trans (by simp[p1]));have p2:(xa==(m:Int))=false:=by simpa using p1
    clear mH p1 xu;exact UP
  ·have HJ:=Z (show _=false from mH.trans (by simp[p0]));have p1:decide (0<=loop)=false:=by simpa using p0
   clear mH p0;exact UP
 rw[aw Zv]at mH;have e27:(op==27)=false:=by simpa using Zv
 by_cases o0:op=0
 ·subst o0;have HJ:=Z (mH.trans (bk rfl));clear mH n22 n23 n25 n26 WM Zv;exact QL
 have HJ:=Z (mH.trans (aw o0));have e0:(op==0)=false:=by simpa using o0
 clear mH n22 n23 n25 n26 WM Zv o0;exact QL
end
end Go.Rv
section
def qX6{p:Prop}(h:p:=by
 rcases h1 with h1|h1
 ·cases h1
 ·simp;intro e;subst e;exact h1 (by rw[X];rfl)):p:=h
namespace Go.Rv
open Ma (dP ci aX vb aI aV)
open Vf (Kp fW pV rT bN aZ)
def FA{W:UK}{E:TypeId}{A cap n z:Nat}{g:Nat->UL}(h:Row W E 4 (to (H (G A 0)) n cap) n g)(hz:z<n)(v0 v1 v2 v3:UL):
 Row ((((W.setCell (G A (z*4)) v0).setCell (G A (z*4+1)) v1).setCell (G A (z*4+2)) v2).setCell (G A (z*4+3)) v3) E 4 (to (H (G A 0)) n cap) n (λo=>if o / 4=z then(#[v0,v1,v2,v3]:Array UL).getD (o % 4) undef else g o):=by
 refine Row.congr ((((h.set (o:=z*4) O v0).set (o:=z*4+1) O v1).set (o:=z*4+2) O v2).set (o:=z*4+3) O v3) ?_;intro o ho;by_cases e:o / 4=z
 ·rw[bk e];obtain⟨k,hk,rfl⟩:∃k,k<4/\o=z*4+k:=⟨o % 4,O,O⟩;rw[show(z*4+k) % 4=k by omega];have:k=0\/k=1\/k=2\/k=3:=O;rcases this with rfl|rfl|rfl|rfl<;>simp
 ·rw[aw e]
  repeat rw[aw O]
section
variable {w w':UK}{K:Kp}{p:aQ}{lH kM:UL}{lb A cap:Nat}{L:lE}
def rU.put(h:rU w K p lb (to (H (G A 0)) p.code.length cap) lH kM L){z:Nat}(hz:z<p.code.length)(s:mh){W':UK}
 (e:W'=((((w.setCell (G A (z*4)) (.string (fM s.ty))).setCell (G A (z*4+1)) (Y s.loop)).setCell (G A (z*4+2)) (Y s.hand)).setCell (G A (z*4+3)) (.bool s.kV))):
 rU W' K p lb (to (H (G A 0)) p.code.length cap) lH kM {L with at_:=aR L.at_ z s}/\aA [A] w W':=by
 subst e;have f:aA [A] w ((((w.setCell (G A (z*4)) (.string (fM s.ty))).setCell (G A (z*4+1)) (Y s.loop)).setCell (G A (z*4+2)) (Y s.hand)).setCell (G A (z*4+3)) (.bool s.kV)):=
  ((((aA.refl [A] w).setCell (p:=(G A (z*4))) ay _).setCell (p:=(G A (z*4+1))) ay _).setCell (p:=(G A (z*4+2))) ay _).setCell (p:=(G A (z*4+3))) ay _
 have nb:lb∉[A]:=by have:=h.at_.eZ h.dS bd;simp;intro e;exact this (by rw[e];rfl)
 have aeg:∀b,lH.ownBlock=H b->b∉[A]:=λb X=>by have h1:=h.at_.ne h.up bd;exact qX6
 have ns:∀b,kM.ownBlock=H b->b∉[A]:=λb X=>by have h1:=h.at_.ne h.st bd;exact qX6
 refine⟨⟨h.dS.aG f nb,(FA h.at_ hz _ _ _ _).congr λo ho=>?_,h.up.aG f aeg,h.st.aG f ns⟩,f⟩;unfold Fz;by_cases e:o / 4=z
 ·rw[bk e,e];dsimp only;rw[an]
 ·rw[aw e];dsimp only;rw[ak _ _ e]
end
end Go.Rv
end
namespace Go.Rv
open Ma (dP ci aX vb aI aV)
open Vf (Kp fW pV rT bN aZ)
def eqS(s t:mh)(hs:fe s.ty)(ht:fe t.ty)(w:UK):(binOp .eql 262 (oB s) (oB t)).run prog w= .ok (.bool (decide (s=t))) w:=by
 obtain⟨a,b,c,d⟩:=s;obtain⟨a',b',c',d'⟩:=t;have hq:=IW hs ht;dsimp only at hq;have nH:(((fM a).toList==(fM a').toList):Bool)=decide (a=a'):=by rw[pO,beq_iff_eq,hq,ft]
 unfold oB;dsimp only;have u3:=underlying3;have q3:=isAgg3;have z3:=sizeOf3;have u4:=underlying4;have q4:=isAgg4;have z4:=sizeOf4;have u9:=underlying9;have a1p:=isAgg9;have z9:=sizeOf9;rw[run_eql_struct];have hu:prog.underlying 262=H (.struct (prog.fieldsOf 262)):=by kernel_rfl
 have fL:prog.stoodInHeld 262=false:=by kernel_rfl
 have hf:=hu.symm.trans underlying262;simp only[im,TypeDesc.struct.injEq]at hf;rw[run_equalIn_agg _ _ _ _ _ hu fL,hf];clear hf hu fL;simp only[Op.eqFields];go_simp;by_cases h1:a=a'
 ·subst h1;by_cases h2:b=b'
  ·subst h2;by_cases h3:c=c'
   ·subst h3;cases d<;>cases d'<;>simp
   ·simp[h3]
  ·simp[h2]
 ·simp[h1]
section
variable {w:UK}{K:Kp}{p:aQ}{lH kM:UL}{lb A cap:Nat}{L:lE}
def uq(L:lE)(z:Nat)(s:mh):Bool×lE:=if(L.at_ z).kV then(decide (L.at_ z=s),L)else(true,{L with at_:=aR L.at_ z s})
def Ky(w:UK)(K:Kp)(p:aQ)(lb A cap:Nat)(lH kM:UL)(L:lE)(z:Nat)(s:mh)(e:Ending)(w':UK):Prop:=
 e=C8 (.bool (uq L z s).1)/\(∃W,Below w.heap.size w W/\aA [A] W w')/\rU w' K p lb (to (H (G A 0)) p.code.length cap) lH kM (uq L z s).2
def As(hl:rU w K p lb (to (H (G A 0)) p.code.length cap) lH kM L){z:Nat}(hz:z<p.code.length){s:mh}(hs:fe s.ty)(ht:fe (L.at_ z).ty):
 Calls prog 296 #[UI lb,Y z,oB s] w (Ky w K p lb A cap lH kM L z s):=by
 have hq:=eqS (L.at_ z) s ht hs;have v6:UJ w (G lb 6)=H (to (H (G A 0)) p.code.length cap):=hl.dS.cell 6;have ll:=hl.dS.lt;obtain⟨b,oh,e,h1,h2,h3,c0,c1,c2,c3⟩:=hl.Wy hz;simp only[cM,im,Addr.mk.injEq]at e;obtain⟨⟨rfl,-,-⟩,-,rfl⟩:=e;have HL:=Z hl;have HZ:=Z hz;have HB:=Z (λcs T=>(aB w.heap.size w).alloc (aL _) (QP cs T));have vT:∀o,w.frozen? (G A o)=false:=λo=>hl.at_.frozen o;cases hg:(L.at_ z).kV with
 |true=>rw[hg]at c3;have HG:=Z (show uq L z s=(decide (L.at_ z=s),L)by unfold uq;rw[hg];rfl);unfold oB at hq ⊢;obtain⟨dd,zg⟩:∃d,decide (L.at_ z=s)=d:=⟨_,rfl⟩;rw[zg]at hq HG;rw[hg]at hq;clear hg hl zg vT;generalize fM (L.at_ z).ty=t1 at*;generalize(L.at_ z).loop=l1 at*;generalize(L.at_ z).hand=h1' at*;generalize fM s.ty=t2 at*;generalize s.loop=l2 at*;generalize s.hand=h2' at*;generalize s.kV=g2 at*;go_enter func296,ntmps296;go_wp2;go_quiet (fail);go_wp2;go_ret;exact⟨by rw[HG.o];rfl,⟨_,(HB.o _ _).trans (az _ _ _),aA.refl _ _⟩,by rw[HG.o];exact(HL.o.aG ((aA.refl [] w).alloc _)).aG (aA.af (az _ _ _))⟩
 |false=>
  rw[hg]at c3;have HG:=Z (show uq L z s=(true,{L with at_:=aR L.at_ z s})by unfold uq;rw[hg];rfl);have Mv:=Z (λ(V:UK) (X:Below w.heap.size w V)=>rU.put (hl.aG (aA.af X)) hz s rfl);have fI:=HB.o #[.string (fM s.ty),Y s.loop,Y s.hand,.bool s.kV] 262;have kx:aF (w.alloc (QP #[.string (fM s.ty),Y s.loop,Y s.hand,.bool s.kV] 262)) w.heap.size 262 #[.string (fM s.ty),Y s.loop,Y s.hand,.bool s.kV]:=aF.new _ _ _;clear hg hl hq;unfold oB;generalize fM (L.at_ z).ty=t1 at*;generalize(L.at_ z).loop=l1 at*;generalize(L.at_ z).hand=h1' at*;generalize fM s.ty=t2 at*;generalize s.loop=l2 at*;generalize s.hand=h2' at*;generalize s.kV=g2 at*;go_enter func296,ntmps296;go_wp2_with fail;obtain⟨W1,CW⟩:∃W1,W1=w.alloc (QP #[.string t2,Y l2,Y h2',.bool g2] 262):=⟨_,rfl⟩;rw[<-CW]at fI kx ⊢;have key:∀b o v,UJ w (G b o)=H v->UJ W1 (G b o)=H v:=λb o v h=>(dN (fI.block _ (aH h))).trans h;replace c0:=key _ _ _ c0;replace c1:=key _ _ _ c1;replace c2:=key _ _ _ c2;replace c3:=key _ _ _ c3;replace v6:=key _ _ _ v6;obtain⟨d0,d1,d2,d3⟩:=kx.c4;have cR:=Z fI;clear CW kx key fI vT;generalize gu:w.heap.size=bx at*;have kE:=Z gu;clear gu
  go_still_tail 7,bh
  change wpList _ _ _ _ _ (W1.drewN 1);have dC:=cR.o.trans (az _ W1 1);have vT:∀o,(W1.drewN 1).frozen? (G A o)=false:=λo=>(World.frozen?_of_block (dC.block _ h3)).trans (HL.o.at_.frozen o);have HP:=Z (Mv.o (W1.drewN 1) dC);have eF:=Z dC;have o0:(W1.drewN 1).cell? (G A (z*4))=H (.string t1):=c0;have o1:(W1.drewN 1).cell? (G A (z*4+1))=H (Y l1):=c1;have o2:(W1.drewN 1).cell? (G A (z*4+2))=H (Y h1'):=c2;have o3:(W1.drewN 1).cell? (G A (z*4+3))=H (.bool false):=c3;clear dC c0 c1 c2 c3 d0 d1 d2 d3 v6;generalize W1.drewN 1=V0 at*;go_wp2;go_ret;exact⟨by rw[HG.o];rfl,⟨V0,by rw[kE.o];exact eF.o,HP.o.2⟩,by rw[HG.o];exact HP.o.1⟩
def FG(J:Nat->UL):Act:={tmps:=#[J 0,J 1,J 2,J 3,J 4,J 5,J 6,J 7,J 8,J 9,J 10,J 11,J 12,J 13,J 14,J 15,J 16,J 17,J 18,J 19,J 20,J 21,J 22,J 23,J 24,J 25,J 26,J 27,J 28,J 29,J 30,J 31,J 32,J 33,J 34,J 35,J 36,J 37,J 38,J 39,J 40,J 41,J 42,J 43,J 44,J 45,J 46,J 47,J 48,J 49,J 50,J 51,J 52,J 53,J 54,J 55,J 56,J 57,J 58,J 59,J 60,J 61,J 62,J 63,J 64,J 65,J 66,J 67,J 68,J 69,J 70,J 71,J 72,J 73,J 74,J 75,J 76,J 77,J 78,J 79,J 80,J 81,J 82,J 83,J 84,J 85,J 86],defers:=[]}
def FG.of(A:Array UL)(h:A=(FG λk=>A.getD k undef).tmps):({tmps:=A,defers:=[]}:Act)=FG λk=>A.getD k undef:=by rw[h];rfl
def zW:Nat×mh:=(0,s0)
structure kj(W:UK)(lo:Nat)(nv wv:UL)(l:List (Nat×mh)):Prop where
 n:Row W 3 1 nv l.length (λi=> Y ((l.getD i zW).1:Nat))
 s:Row W 262 4 wv l.length (Fz λi=>(l.getD i zW).2)
 nl:∀b,nv.ownBlock=H b->lo<=b
 wl:∀b,wv.ownBlock=H b->lo<=b
def kj.one{W:UK}{lo bn bs:Nat}{a:Nat}{s:mh}{cn cs:Array UL}(kn:aF W bn 3 cn)(ks:aF W bs 262 cs)(h1:lo<=bn)(h2:lo<=bs)(en:cn=#[Y a])(es:cs=#[.string (fM s.ty),Y s.loop,Y s.hand,.bool s.kV]):
 kj W lo (to (H (G bn 0)) 1 1) (to (H (G bs 0)) 1 1) [(a,s)]:=by
 subst en es;refine⟨Row.made kn rfl bd (λi hi=>?_),Row.made ks rfl bd (λo ho=>?_),λb X=>by cases X;exact h1,λb X=>by cases X;exact h2⟩
 ·obtain rfl:i=0:=O;rfl
 ·have:o=0\/o=1\/o=2\/o=3:=O;rcases this with rfl|rfl|rfl|rfl<;>rfl
def kj.two{W:UK}{lo bn bs:Nat}{a b:Nat}{s t:mh}{cn cs:Array UL}(kn:aF W bn 3 cn)(ks:aF W bs 262 cs)(h1:lo<=bn)(h2:lo<=bs)(en:cn=#[Y a,Y b])(es:cs=#[.string (fM s.ty),Y s.loop,Y s.hand,.bool s.kV,.string (fM t.ty),Y t.loop,Y t.hand,.bool t.kV]):
 kj W lo (to (H (G bn 0)) 2 2) (to (H (G bs 0)) 2 2) [(a,s),(b,t)]:=by
 subst en es;refine⟨Row.made kn rfl bd (λi hi=>?_),Row.made ks rfl bd (λo ho=>?_),λb X=>by cases X;exact h1,λb X=>by cases X;exact h2⟩
 ·have:i=0\/i=1:=O;rcases this with rfl|rfl<;>rfl
 ·have:o=0\/o=1\/o=2\/o=3\/o=4\/o=5\/o=6\/o=7:=O;rcases this with rfl|rfl|rfl|rfl|rfl|rfl|rfl|rfl<;>rfl
def kj.nil(W:UK)(lo:Nat):kj W lo Pl Pl []:=⟨Row.nil _ _ _ _,Row.nil _ _ _ _,λb X=>(by cases X),λb X=>(by cases X)⟩
def kj.low{W:UK}{lo tZ:Nat}{nv wv:UL}{l:List (Nat×mh)}(h:kj W lo nv wv l)(hh:tZ<=lo):kj W tZ nv wv l:=⟨h.n,h.s,λb X=>cU hh (h.nl b X),λb X=>cU hh (h.wl b X)⟩
def RG(V:UK)(l:List (Nat×mh))(a:Act)(W:UK):Prop:=∃(J:Nat->UL) (nv wv:UL),a=FG J/\J 6=nv/\J 7=wv/\Hid (Below V.heap.size V W)/\Hid (kj W V.heap.size nv wv l)
def zC(w:UK)(K:Kp)(p:aQ)(lb:Nat)(jg lH kM:UL)(L:lE)(pc:Nat)(x:Ins)(s:mh)(e:Ending)(w':UK):Prop:=∃nv wv,e=C8 (.tuple #[nv,wv])/\aA lH.ownBlock.toList w w'/\rU w' K p lb jg lH kM (gA L pc x s.loop)/\kj w' w.heap.size nv wv (eH (gA L pc x s.loop) pc x s)
def KD{P:Program}{fn:Func}{R:Ending->UK->Prop}{A:Array UL}{w:UK}{t u:Tmp}(h:fn.results=#[.tmp t,.tmp u])(hR:R (C8 (.tuple #[A.getD t undef,A.getD u undef])) w):Exit.noGoto (bodyPost P fn R) .ret {tmps:=A,defers:=[]} w:=by rw[Exit.noGoto_ret];exact Vf.TD h hR
def rU.adl{w:UK}{K:Kp}{p:aQ}{lb U cap:Nat}{jg kM:UL}{L:lE}(h:rU w K p lb jg (to (H (G U 0)) p.code.length cap) kM L){z:Nat}(hz:z<p.code.length)(n:Int):
 rU (w.setCell (G U z) (Y n)) K p lb jg (to (H (G U 0)) p.code.length cap) kM {L with up:=aR L.up z n}/\aA [U] w (w.setCell (G U z) (Y n)):=by
 have f:aA [U] w (w.setCell (G U z) (Y n)):=(aA.refl [U] w).setCell (p:=(G U z)) ay _;have nb:lb∉[U]:=by have:=h.up.eZ h.dS bd;simp;intro e;exact this (by rw[e];rfl)
 have na:∀b,jg.ownBlock=H b->b∉[U]:=λb X=>by have h1:=h.up.ne h.at_ bd;exact qX6
 have ns:∀b,kM.ownBlock=H b->b∉[U]:=λb X=>by have h1:=h.up.ne h.st bd;exact qX6
 refine⟨⟨h.dS.aG f nb,h.at_.aG f na,(h.up.set (o:=z) O (Y n)).congr λo ho=>?_,h.st.aG f ns⟩,f⟩;show _=Y (aR L.up z n o);rw[dq];by_cases e:o=z
 ·rw[bk e,bk e]
 ·rw[aw e,aw e]
variable {jg:UL}{x:Ins}
def O5{p:Prop}(h:p:=by
 have y0:=key _ _ _ Xm;have y1:=key _ _ _ DE;have y2:=key _ _ _ Xn;have y3:=key _ _ _ Xo;exact qj):p:=h
def O4{p:Prop}(h:p:=by
 have key:∀b i v,UJ V2 (G b i)=H v->UJ wz (G b i)=H v:=λb i v hc=>(dN (fj.block _ (aH hc))).trans hc;exact O5):p:=h
def EZ{p:Prop}(h:p:=by
 have key:∀b i v,UJ V2 (G b i)=H v->UJ wz (G b i)=H v:=λb i v hc=>(dN (fj.block _ (aH hc))).trans hc;have y0:=key _ _ _ t0';have y1:=key _ _ _ t1';have y2:=key _ _ _ t2';have y3:=key _ _ _ t3';exact qj):p:=h
def lq{p:Prop}(h:p:=by
 rintro e a W ⟨rfl,J,nv,wv,rfl,j6,j7,IA,HW9⟩;unfold FG;rw[j6,j7];clear j6 j7;go_wp2_with fail;refine KD rfl ?_;exact QY.o _ _ _ _ HW.o HU.o IA.o HW9.o):p:=h
def qo{p:Prop}(h:p:=by
 have key:∀b i v,UJ V (G b i)=H v->UJ wz (G b i)=H v:=λb i v hc=>(dN (fj.block _ (aH hc))).trans hc;exact O5):p:=h
def YK{p:Prop}(h:p:=by
 refine Mk.tk 3 (v:=?_) rfl (λwz fj=>?_) au ?_;rotate_left
 ·exact qo
 refine Mk.pt ?_;refine Mk.oD (rs:=[2,4]) (bZ rfl (λK9 hK=>?_) (bZ rfl (λK9 hK=>?_) cz))
 ·refine fH ?_;go_simp;refine hK.out _ _ (au.alloc au.size _) (λau=>?_);clear hK K9;refine Mk.pt ?_;refine Mk.fC 5 ?_;refine Mk.oD (rs:=[4]) (bZ rfl (λK9 hK=>?_) cz);refine fH ?_;go_simp;refine hK.out _ _ (au.alloc au.size _) (λau=>?_);clear hK K9;refine Mk.pt ?_;refine Mk.fC 6 ?_;refine nW bh ⟨rfl,rfl,_,_,_,FG.of _ rfl,rfl,rfl,Z au,Z ?_⟩ _;exact kj.one ((aF.new _ _ _).alloc _) (aF.bR ay) ay ay rfl rfl
 ·refine fH ?_;go_simp;refine hK.out _ _ (au.alloc au.size _) (λau=>?_);clear hK K9;refine Mk.pt ?_;refine Mk.oD (rs:=[2]) (bZ rfl (λK9 hK=>?_) cz);refine fH ?_;go_simp;refine hK.out _ _ (au.alloc au.size _) (λau=>?_);clear hK K9;refine Mk.pt ?_;refine Mk.fC 5 ?_;refine Mk.fC 6 ?_;refine nW bh ⟨rfl,rfl,_,_,_,FG.of _ rfl,rfl,rfl,Z au,Z ?_⟩ _;exact kj.one (aF.bR ay) ((aF.new _ _ _).alloc _) ay ay rfl rfl):p:=h
def QF{p:Prop}(h:p:=by
 refine Mk.pt ?_;refine Mk.oD (rs:=[4,7]) (bZ rfl (λK9 hK=>?_) (bZ rfl (λK9 hK=>?_) cz))
 ·refine fH ?_;go_simp;refine hK.out _ _ (au.alloc au.size _) (λau=>?_);clear hK K9;refine Mk.pt ?_;refine Mk.fC 8 ?_;refine Mk.oD (rs:=[7]) (bZ rfl (λK9 hK=>?_) cz);refine fH ?_;go_simp;refine hK.out _ _ (au.alloc au.size _) (λau=>?_);clear hK K9;refine Mk.pt ?_;refine Mk.fC 9 ?_;refine nW bh ⟨rfl,rfl,_,_,_,FG.of _ rfl,rfl,rfl,Z au,Z ?_⟩ _;exact kj.two ((aF.new _ _ _).alloc _) (aF.bR ay) ay ay rfl rfl
 ·refine fH ?_;go_simp;refine hK.out _ _ (au.alloc au.size _) (λau=>?_);clear hK K9;refine Mk.pt ?_;refine Mk.oD (rs:=[4]) (bZ rfl (λK9 hK=>?_) cz);refine fH ?_;go_simp;refine hK.out _ _ (au.alloc au.size _) (λau=>?_);clear hK K9;refine Mk.pt ?_;refine Mk.fC 8 ?_;refine Mk.fC 9 ?_;refine nW bh ⟨rfl,rfl,_,_,_,FG.of _ rfl,rfl,rfl,Z au,Z ?_⟩ _;exact kj.two (aF.bR ay) ((aF.new _ _ _).alloc _) ay ay rfl rfl):p:=h
def aa6{pc:Nat}{s:mh}(h:fW w K p)(hl:rU w K p lb jg lH kM L)(hx:al p pc=x)(oT:pc<p.code.length)(hlen:p.code.length<=262144)(zJ:(x.op=22\/x.op=23\/x.op=25\/x.op=26)->0<=x.a/\x.a<p.code.length)(EB:x.op=26->0<=s.loop/\s.loop<p.code.length):
 Calls prog 295 #[UI lb,Y pc,oB s] w (zC w K p lb jg lH kM L pc x s):=by
 obtain⟨cb,ze,Cj,kc,q1,q2,c0,c1,c2,c3,c4⟩:=h.ins oT;rw[hx]at c0 c1 c2 c3 c4;have lc:=aH c0;obtain⟨-,-,-,-,-,v5,-,v7⟩:=hl.dS.c8;have ll:=hl.dS.lt;rw[kc]at v5;have HL:=Z hl;clear h hl kc hx;obtain⟨op,xa,xb,xc,xd⟩:=x;dsimp only at c0 c1 c2 c3 c4 zJ EB;obtain⟨V,hV⟩:∃V,V=(w.alloc (QP #[.string (fM s.ty),Y s.loop,Y s.hand,.bool s.kV] 262)).alloc (QP #[Y op,Y xa,Y xb,Y xc,Y xd] 40):=⟨_,rfl⟩;have ks:aF V w.heap.size 262 #[.string (fM s.ty),Y s.loop,Y s.hand,.bool s.kV]:=by rw[hV];exact(aF.new _ _ _).alloc _
 have kx:aF V (w.heap.size+1) 40 #[Y op,Y xa,Y xb,Y xc,Y xd]:=by rw[hV];exact aF.bR ay
 have X:Below w.heap.size w V:=by rw[hV];exact((aB _ _).alloc (aL _) _).alloc ay _
 have HB:=Z X;have HKS:=Z ks;have La:=Z (HL.o.aG (aA.af X));obtain⟨Xm,DE,Xn,Xo⟩:=ks.c4;obtain⟨x0',QZ⟩:=kx.c2;have v7':UJ V (G lb 7)=H lH:=(dN (X.block _ ll)).trans v7;have ll':lb<V.heap.size:=eJ ll X.size;have lS:=ks.lt;have lX:=kx.lt;have w1:IntKind.i64.wrap ((pc:Int)+1)=((pc+1:Nat):Int):=by rw[bJ _ lI];omega
 have hE:=Z X;have HP:=Z (rfl:pc=pc);have QY:=Z (λW (nv wv:UL) (l:List (Nat×mh)) (hw:eH (gA L pc ⟨op,xa,xb,xc,xd⟩ s.loop) pc ⟨op,xa,xb,xc,xd⟩ s=l) (hu:gA L pc ⟨op,xa,xb,xc,xd⟩ s.loop=L) (X:Below V.heap.size V W) (h:kj W V.heap.size nv wv l)=>show zC w K p lb jg lH kM L pc ⟨op,xa,xb,xc,xd⟩ s (C8 (.tuple #[nv,wv])) W from
  ⟨nv,wv,rfl,((aA.af (S:=[]) HB.o).trans (aA.af X)).mono ay,by rw[hu];exact La.o.aG (aA.af X),by rw[hu]at hw ⊢;rw[hw];exact⟨h.n,h.s,λb e=>cU HB.o.size (h.nl b e),λb e=>cU HB.o.size (h.wl b e)⟩⟩)
 by_cases o1:op=0\/op=27
 ·have HW:=Z (show eH (gA L pc ⟨op,xa,xb,xc,xd⟩ s.loop) pc ⟨op,xa,xb,xc,xd⟩ s=[]by unfold eH;rw[bk o1]);have HU:=Z (show gA L pc ⟨op,xa,xb,xc,xd⟩ s.loop=L by unfold gA;rw[aw (by dsimp only;omega)]);rcases o1 with rfl|rfl
  all_goals
   unfold oB;go_enter func295,ntmps295;go_wp2_with fail;rw[<-hV];refine KD rfl ?_;exact QY.o _ _ _ _ HW.o HU.o (aB _ _) (kj.nil _ _)
 have e0:(op==0)=false:=by simp;omega
 have e27:(op==27)=false:=by simp;omega
 by_cases o2:op=22
 ·subst o2;obtain⟨xm,rfl⟩:=dz (zJ ay).1;have HW:=Z (show eH (gA L pc ⟨22,xm,xb,xc,xd⟩ s.loop) pc ⟨22,xm,xb,xc,xd⟩ s=[(xm,s)]by unfold eH;simp);have HU:=Z (show gA L pc ⟨22,xm,xb,xc,xd⟩ s.loop=L by unfold gA;simp);unfold oB;go_enter func295,ntmps295;go_wp2_with fail;rw[<-hV];clear hV c0 c1 c2 c3 c4 lc v5 v7 ll ks kx X hlen oT q1 q2;generalize w.heap.size=bx at*;refine wp_mono (Q:=λe a W=>e=Exit.normal/\RG V [(xm,s)] a W) ?_ ?_
  ·refine Mk.bH (S:=λwx=>Below V.heap.size V wx) bh (az _ V 1) (λau=>?_);refine Mk.fC 0 ?_;refine Mk.tkL 1 QZ ?_;exact YK
  ·exact lq
 have e22:(op==22)=false:=by simp;omega
 by_cases o3:op=23
 ·subst o3;obtain⟨xm,rfl⟩:=dz (zJ ay).1;have HW:=Z (show eH (gA L pc ⟨23,xm,xb,xc,xd⟩ s.loop) pc ⟨23,xm,xb,xc,xd⟩ s=[(pc+1,s),(xm,s)]by unfold eH;simp);have HU:=Z (show gA L pc ⟨23,xm,xb,xc,xd⟩ s.loop=L by unfold gA;simp);unfold oB;go_enter func295,ntmps295;go_wp2_with fail;rw[<-hV];clear hV c0 c1 c2 c3 c4 lc v5 v7 ll ks kx X hlen oT q1 q2;generalize w.heap.size=bx at*;refine wp_mono (Q:=λe a W=>e=Exit.normal/\RG V [(pc+1,s),(xm,s)] a W) ?_ ?_
  ·refine Mk.bH (S:=λwx=>Below V.heap.size V wx) bh (az _ V 1) (λau=>?_);refine Mk.fC 0 ?_;refine Mk.fC 1 ?_;refine Mk.fC 2 ?_;refine Mk.tkL 3 QZ ?_;refine Mk.tk 5 (v:=?_) rfl (λwz fj=>?_) au ?_;rotate_left
   ·exact qo
   refine Mk.pt ?_;refine Mk.tk 6 (v:=?_) rfl (λwz fj=>?_) au ?_;rotate_left
   ·exact qo
   exact QF
  ·exact lq
 have e23:(op==23)=false:=by simp;omega
 by_cases o4:op=25
 ·subst o4;obtain⟨xm,rfl⟩:=dz (zJ ay).1;have HU:=Z (show gA L pc ⟨25,xm,xb,xc,xd⟩ s.loop={L with up:=aR L.up pc s.loop}by unfold gA;simp);have HW:=Z (show eH (gA L pc ⟨25,xm,xb,xc,xd⟩ s.loop) pc ⟨25,xm,xb,xc,xd⟩ s=[(pc+1,{s with loop:=(pc:Int)}),(xm,s)]by unfold eH;simp);obtain⟨U,UR,hu,u1,u2,u3⟩:=HL.o.upc oT;have FQ:UJ V (G U pc)=H (Y (L.up pc)):=(dN (X.block _ u2)).trans u3;have Dy:=Z oT;rw[hu]at v7';have HUV:=Z hu;have aa5:U<V.heap.size:=eJ u2 X.size;have hUX:Hid (U<w.heap.size):=Z u2;have Mv:=Z (λ(a0b:UK) (hz:Below V.heap.size V a0b)=>(show rU a0b K p lb jg (to (H (G U 0)) p.code.length UR) kM L by rw[<-hu];exact La.o.aG (aA.af hz)).adl oT s.loop);have adq:=Z (λa0b W (nv wv:UL) (l:List (Nat×mh)) (hw:eH (gA L pc ⟨25,xm,xb,xc,xd⟩ s.loop) pc ⟨25,xm,xb,xc,xd⟩ s=l) (f:aA [U] V a0b) (hz:rU a0b K p lb jg (to (H (G U 0)) p.code.length UR) kM {L with up:=aR L.up pc s.loop}) (X:Below a0b.heap.size a0b W) (h:kj W a0b.heap.size nv wv l)=>show zC w K p lb jg lH kM L pc ⟨25,xm,xb,xc,xd⟩ s (C8 (.tuple #[nv,wv])) W from
   ⟨nv,wv,rfl,by rw[HUV.o];exact((aA.af HB.o).trans f).trans (aA.af X),by rw[HU.o,HUV.o];exact hz.aG (aA.af X),by rw[hw];exact h.low (cU HB.o.size f.size)⟩)
  clear u2 u3 hu;unfold oB;go_enter func295,ntmps295;go_wp2_with fail;rw[<-hV];clear hV c0 c1 c2 c3 c4 lc v5 v7 ll ks kx X hlen oT q1 q2;generalize w.heap.size=bx at*;have oT:=Dy.o
  go_still_tail 8,bh
  change wpList _ _ _ _ _ (V.drewN 1);have dC:=az V.heap.size V 1;have hP:=Mv.o _ dC;have Fi:=Z hP.1;have Nb:=Z hP.2;have vT:∀o,(V.drewN 1).frozen? (G U o)=false:=λo=>by have h9:=(La.o.aG (aA.af dC)).up;rw[HUV.o]at h9;exact h9.frozen o
  replace FQ:(V.drewN 1).cell? (G U pc)=H (Y (L.up pc)):=FQ;replace Xm:(V.drewN 1).cell? (G bx 0)=H (.string (fM s.ty)):=Xm;replace DE:(V.drewN 1).cell? (G bx 1)=H (Y s.loop):=DE;replace Xn:(V.drewN 1).cell? (G bx 2)=H (Y s.hand):=Xn;replace Xo:(V.drewN 1).cell? (G bx 3)=H (.bool s.kV):=Xo;replace QZ:(V.drewN 1).cell? (G (bx+1) 1)=H (Y xm):=QZ;have eF:=Z dC;have GU:=Z (And.intro lS lX);clear dC hP x0' v7' aa5 lS lX ll';replace lS:bx<(V.drewN 1).heap.size:=GU.o.1;replace lX:bx+1<(V.drewN 1).heap.size:=GU.o.2;have xy:bx≠U:=by have:=hUX.o;omega
  have Cv:bx+1≠U:=by have:=hUX.o;omega
  generalize V.drewN 1=V0 at*;go_wp2_with fail;obtain⟨V2,D7⟩:∃V2,V2=(V0.setCell (G U pc) (Y s.loop)).alloc (QP #[.string (fM s.ty),Y pc,Y s.hand,.bool s.kV] 262):=⟨_,rfl⟩;rw[<-D7];have k9:aF V2 V0.heap.size 262 #[.string (fM s.ty),Y pc,Y s.hand,.bool s.kV]:=by rw[D7];exact aF.bR ay
  have f9:aA [U] V0 V2:=by rw[D7];exact Nb.o.alloc _
  have HF9:=Z ((aA.af (S:=[U]) eF.o).trans f9);have HL9:=Z (show rU V2 K p lb jg (to (H (G U 0)) p.code.length UR) kM {L with up:=aR L.up pc s.loop}by rw[D7];exact Fi.o.aG ((aA.refl [] _).alloc _));have uu:∀b o v,b≠U->UJ V0 (G b o)=H v->UJ V2 (G b o)=H v:=λb o v hn hc=>(dN (f9.block _ (aH hc) (by simpa using hn))).trans hc;replace Xm:=uu _ _ _ xy Xm;replace DE:=uu _ _ _ xy DE;replace Xn:=uu _ _ _ xy Xn;replace Xo:=uu _ _ _ xy Xo;replace QZ:=uu _ _ _ Cv QZ;obtain⟨t0',t1',t2',t3'⟩:=k9.c4;clear D7 k9 f9 uu Fi Nb vT FQ lS lX;generalize V0.heap.size=b9 at*;refine wp_mono (Q:=λe a W=>e=Exit.normal/\RG V2 [(pc+1,{s with loop:=(pc:Int)}),(xm,s)] a W) ?_ ?_
  ·refine Mk.bH (S:=λwx=>Below V2.heap.size V2 wx) bh (az _ V2 1) (λau=>?_);refine Mk.fC 0 ?_;refine Mk.fC 1 ?_;refine Mk.fC 2 ?_;refine Mk.tkL 3 QZ ?_;refine Mk.tk 5 (v:=?_) rfl (λwz fj=>?_) au ?_;rotate_left
   ·exact EZ
   refine Mk.pt ?_;refine Mk.tk 6 (v:=?_) rfl (λwz fj=>?_) au ?_;rotate_left
   ·exact O4
   exact QF
  ·rintro e a W ⟨rfl,J,nv,wv,rfl,j6,j7,IA,HW9⟩;unfold FG;rw[j6,j7];clear j6 j7;go_wp2_with fail;refine KD rfl ?_;exact adq.o _ _ _ _ _ HW.o HF9.o HL9.o IA.o HW9.o
 have e25:(op==25)=false:=by simp;omega
 by_cases o5:op=26
 ·subst o5;obtain⟨xm,rfl⟩:=dz (zJ ay).1;obtain⟨lm,Dz⟩:=dz (EB rfl).1;have be:lm<p.code.length:=by have:=(EB rfl).2;omega
  have HU:=Z (show gA L pc ⟨26,xm,xb,xc,xd⟩ s.loop=L by unfold gA;simp);have HW:=Z (show eH (gA L pc ⟨26,xm,xb,xc,xd⟩ s.loop) pc ⟨26,xm,xb,xc,xd⟩ s=[(pc+1,s),(xm,{s with loop:=L.up lm})]by rw[HU.o];unfold eH;simp[Dz]);obtain⟨U,UR,hu,u1,u2,u3⟩:=HL.o.upc be;have FQ:UJ V (G U lm)=H (Y (L.up lm)):=(dN (X.block _ u2)).trans u3;rw[hu]at v7';rw[Dz]at DE;have HLM:=Z Dz;have OG:=Z (show V.heap.size=w.heap.size+1+1 by rw[hV];simp);clear u2 u3 hu EB zJ Dz;unfold oB;go_enter func295,ntmps295;go_wp2_with fail;rw[<-hV];clear hV c0 c1 c2 c3 c4 lc v5 v7 ll ks kx X hlen oT q1 q2;generalize w.heap.size=bx at*;obtain⟨V1,Kv⟩:∃V1,V1=V.alloc (QP #[.string (fM s.ty),Y s.loop,Y s.hand,.bool s.kV] 262):=⟨_,rfl⟩;rw[<-Kv];have k9:aF V1 (bx+1+1) 262 #[.string (fM s.ty),Y s.loop,Y s.hand,.bool s.kV]:=by rw[Kv,<-OG.o];exact aF.new _ _ _
  have fI:Below V.heap.size V V1:=by rw[Kv];exact(aB _ _).alloc (aL _) _
  have uu:∀b o v,UJ V (G b o)=H v->(V1.drewN 1).cell? (G b o)=H v:=λb o v hc=>(dN (fI.block _ (aH hc))).trans hc;have US:∀b o v,UJ V (G b o)=H v->UJ V1 (G b o)=H v:=uu;have Vi:=Z k9;have cR:=Z fI;have S8:=Z (And.intro (uu _ _ _ Xm) (And.intro (uu _ _ _ DE) (And.intro (uu _ _ _ Xn) (And.intro (uu _ _ _ Xo) (uu _ _ _ QZ)))));replace v7':=US _ _ _ v7';replace FQ:=US _ _ _ FQ;replace DE:=US _ _ _ DE;replace ll':lb<V1.heap.size:=eJ ll' fI.size;have lS2:bx<V1.heap.size:=eJ lS fI.size;have HN9:=Z (And.intro lS lX);have l9:=k9.lt;clear Kv uu US Xm Xn Xo x0' QZ lS lX fI k9
  go_still_tail 9,bh
  change wpList _ _ _ _ _ (V1.drewN 1);have k8:aF (V1.drewN 1) (bx+1+1) 262 #[.string (fM s.ty),Y s.loop,Y s.hand,.bool s.kV]:=Vi.o.drewN 1;obtain⟨t0',t1',t2',t3'⟩:=k8.c4;have vT:=k8.frozen;have eF:=Z (cR.o.trans ((az _ V1 1).mono cR.o.size));have HK8:=Z k8;replace l9:=k8.lt;clear k8 v7' FQ ll' lS2 DE;generalize V1.drewN 1=V0 at*;go_wp2_with fail;obtain⟨V2,D7⟩:∃V2,V2=V0.setCell (G (bx+1+1) 1) (Y (L.up lm)):=⟨_,rfl⟩;rw[<-D7];have k7:aF V2 (bx+1+1) 262 #[.string (fM s.ty),Y (L.up lm),Y s.hand,.bool s.kV]:=by rw[D7];exact HK8.o.set 1 _
  have iy:=Z (show Below V.heap.size V V2 by rw[D7];exact eF.o.setCell (p:=(G (bx+1+1) 1)) (by show V.heap.size<=bx+1+1;rw[OG.o];exact aL _) _);have f9:aA [bx+1+1] V0 V2:=by rw[D7];exact(aA.refl _ _).setCell (p:=(G (bx+1+1) 1)) ay _
  have MM:∀b o v,b<V.heap.size->UJ V0 (G b o)=H v->UJ V2 (G b o)=H v:=λb o v hn hc=>(dN (f9.block _ (aH hc) (by have:=OG.o;simp;omega))).trans hc;have Xm:=MM _ _ _ HN9.o.1 S8.o.1;have DE:=MM _ _ _ HN9.o.1 S8.o.2.1;have Xn:=MM _ _ _ HN9.o.1 S8.o.2.2.1;have Xo:=MM _ _ _ HN9.o.1 S8.o.2.2.2.1;have QZ:=MM _ _ _ HN9.o.2 S8.o.2.2.2.2;rw[<-HLM.o]at DE;replace t0':UJ V2 (G (bx+1+1) 0)=H (.string (fM s.ty)):=k7.cell 0;replace t1':UJ V2 (G (bx+1+1) 1)=H (Y (L.up lm)):=k7.cell 1;replace t2':UJ V2 (G (bx+1+1) 2)=H (Y s.hand):=k7.cell 2;replace t3':UJ V2 (G (bx+1+1) 3)=H (.bool s.kV):=k7.cell 3;clear D7 k7 f9 MM vT l9 HK8 Vi S8;refine wp_mono (Q:=λe a W=>e=Exit.normal/\RG V2 [(pc+1,s),(xm,{s with loop:=L.up lm})] a W) ?_ ?_
  ·refine Mk.bH (S:=λwx=>Below V2.heap.size V2 wx) bh (az _ V2 1) (λau=>?_);refine Mk.fC 0 ?_;refine Mk.fC 1 ?_;refine Mk.fC 2 ?_;refine Mk.tkL 3 QZ ?_;refine Mk.tk 5 (v:=?_) rfl (λwz fj=>?_) au ?_;rotate_left
   ·exact O4
   refine Mk.pt ?_;refine Mk.tk 6 (v:=?_) rfl (λwz fj=>?_) au ?_;rotate_left
   ·exact EZ
   exact QF
  ·rintro e a W ⟨rfl,J,nv,wv,rfl,j6,j7,IA,HW9⟩;unfold FG;rw[j6,j7];clear j6 j7;go_wp2_with fail;refine KD rfl ?_;exact QY.o _ _ _ _ HW.o HU.o (iy.o.trans (IA.o.mono iy.o.size)) (HW9.o.low iy.o.size)
 have e26:(op==26)=false:=by simp;omega
 have HW:=Z (show eH (gA L pc ⟨op,xa,xb,xc,xd⟩ s.loop) pc ⟨op,xa,xb,xc,xd⟩ s=[(pc+1,s)]by unfold eH;dsimp only;rw[aw o1,aw o2,aw o3,aw o4,aw o5]);have HU:=Z (show gA L pc ⟨op,xa,xb,xc,xd⟩ s.loop=L by unfold gA;dsimp only;rw[aw o4]);clear o1 o2 o3 o4 o5 zJ EB;unfold oB;go_enter func295,ntmps295;go_wp2_with fail;rw[<-hV];clear hV c0 c1 c2 c3 c4 lc v5 v7 ll ks kx X hlen oT q1 q2;generalize w.heap.size=bx at*;refine wp_mono (Q:=λe a W=>e=Exit.normal/\RG V [(pc+1,s)] a W) ?_ ?_
 ·refine Mk.bH (S:=λwx=>Below V.heap.size V wx) bh (az _ V 1) (λau=>?_);refine Mk.fC 0 ?_;refine Mk.fC 1 ?_;exact YK
 ·exact lq
end
open Vf (iw nL dG ue pf mE)
def FC(J:Nat->UL):Act:={tmps:=#[J 0,J 1,J 2,J 3,J 4,J 5,J 6,J 7,J 8,J 9,J 10,J 11,J 12,J 13,J 14,J 15,J 16,J 17,J 18,J 19,J 20,J 21,J 22,J 23,J 24,J 25,J 26,J 27,J 28,J 29,J 30,J 31,J 32,J 33,J 34,J 35,J 36,J 37,J 38,J 39,J 40,J 41,J 42,J 43,J 44,J 45,J 46,J 47,J 48,J 49,J 50,J 51,J 52,J 53,J 54,J 55,J 56,J 57,J 58,J 59,J 60,J 61,J 62,J 63,J 64,J 65,J 66,J 67,J 68,J 69,J 70,J 71,J 72,J 73,J 74,J 75,J 76,J 77,J 78,J 79,J 80,J 81,J 82,J 83,J 84,J 85,J 86,J 87,J 88,J 89,J 90,J 91,J 92,J 93,J 94,J 95,J 96,J 97,J 98,J 99,J 100,J 101,J 102,J 103,J 104,J 105,J 106,J 107,J 108,J 109,J 110,J 111,J 112,J 113,J 114,J 115,J 116,J 117,J 118,J 119,J 120,J 121,J 122,J 123,J 124,J 125,J 126,J 127,J 128,J 129,J 130,J 131],defers:=[]}
def FC.of(A:Array UL)(h:A=(FC λk=>A.getD k undef).tmps):({tmps:=A,defers:=[]}:Act)=FC λk=>A.getD k undef:=by rw[h];rfl
noncomputable def ckL(k:Nat):Code:=Mk.iS Proofs.Tryz.f231.body k
noncomputable def ckI:Code:=Mk.iS (H (match ckL 1 with| .loop c=>c|c=>c)) 0
def wj{P:Program}{fn:Func}{R:Ending->UK->Prop}{A:Array UL}{w:UK}{t:Tmp}(h:fn.results=#[.tmp t])(hR:R (C8 (A.getD t undef)) w):Exit.noGoto (bodyPost P fn R) .ret {tmps:=A,defers:=[]} w:=by rw[Exit.noGoto_ret];exact Vf.fy h hR
def zD{α:Type}(d:α){f:α->Bool}{l:List α}:l.all f=true↔∀i,i<l.length->f (l.getD i d)=true:=by
 rw[qM];constructor
 ·intro h i hi;rw[aY,fq hi];exact h _ (jO hi)
 ·intro h x hx;obtain⟨i,hi,rfl⟩:=yZ hx;have:=h i hi;rwa[aY,fq hi]at this
section
variable {w:UK}{K:Kp}{p:aQ}{Q:Exit->Act->UK->Prop}{oa ca:Option Addr}{oc cc no:Nat}
def C1(w:UK)(K:Kp)(p:aQ)(m:Nat)(a:Act)(W:UK):Prop:=∃(J:Nat->UL) (i:Nat),a=FC J/\J 1=UI w.heap.size/\J 3=Y i/\i<=p.on.length/\m+i=p.on.length+1/\Hid (Below w.heap.size w W)/\Hid (aF W w.heap.size 27 (iw K p))/\Hid (∀j,j<i->aO (p.on.getD j 0) (-1) ((p.code.length:Int) - 1)=true)
def Xp{p:Prop}(h:p:=by
 have HG:=Z (show aO z (-1) ((p.code.length:Int) - 1)=false by unfold aO;simp;omega);go_wp2;go_quiet (fail);go_wp2;exact iU _ _ rfl (HB.o.trans (az _ _ _)) ⟨i,dE.o,by rw[HZ.o];exact HG.o⟩):p:=h
def ck1(a0f:Hid (fW w K p))(hko:K.o=to oa no oc)(hkc:K.c=to ca p.code.length cc)(Sq:no=p.on.length)(hn:p.on.length<=16)(hc:p.code.length<=262144)
 (iU:∀(A:Array UL) W,A.getD 2 undef=Y 85->Below w.heap.size w W->(∃j,j<p.on.length/\aO (p.on.getD j 0) (-1) ((p.code.length:Int) - 1)=false)->Q .ret {tmps:=A,defers:=[]} W)
 (d_:∀(J:Nat->UL) W,J 1=UI w.heap.size->Below w.heap.size w W->aF W w.heap.size 27 (iw K p)->(∀j,j<p.on.length->aO (p.on.getD j 0) (-1) ((p.code.length:Int) - 1)=true)->Q (.exit 0) (FC J) W)
 {a:Act} {W:UK} (h:C1 w K p (p.on.length+1) a W):(Code.loop (ckL 0)).wp prog Q a W:=by
 subst Sq;refine Mk.aN (λm a W=>C1 w K p m a W) (p.on.length+1) h ?_ ?_
 ·rintro a W ⟨J,i,-,-,-,h1,h2,-⟩;omega
 rintro m a0 W ⟨J,i,rfl,j1,j3,hi,hm,HB,HK,HA⟩;unfold FC
 conv=>arg 2;whnf
 have w2:=mO i O;rw[j1,j3];clear j1 j3;obtain⟨-,-,-,f3,-,f5⟩:=HK.o.c6;have lw:=HK.o.lt;rw[hkc]at f5;by_cases be:i<p.on.length
 ·obtain⟨b,off,cap,ho,q1,q2,lb,c⟩:=(a0f.o.o.aG (aA.af HB.o)).some O O;rw[ho]at f3;have c0:UJ W (G b (off+i))=H (Y (p.on.getD i 0)):=c i O;have dE:=Z be;clear c ho;obtain⟨z,hz⟩:∃z,p.on.getD i 0=z:=⟨_,rfl⟩;rw[hz]at c0;have HZ:=Z hz;clear hz;by_cases h1: -1<=z
  ·by_cases h2:z<p.code.length
   ·have HG:=Z (show aO z (-1) ((p.code.length:Int) - 1)=true by unfold aO;simp;omega);go_wp2;go_quiet (fail);go_wp2;refine⟨_,i+1,FC.of _ rfl,rfl,rfl,dE.o,O,Z (HB.o.trans (az _ _ _)),Z (HK.o.drewN _),Z λj hj=>?_⟩;by_cases e:j=i
    ·subst e;rw[HZ.o];exact HG.o
    ·exact HA.o j O
   ·exact Xp
  ·exact Xp
 ·obtain rfl:i=p.on.length:=O;clear be;rw[hko]at f3;go_wp2;exact Eq.mpr (bu (λa=>Q (.exit 0) a W) (FC.of _ rfl)) (d_ _ _ rfl HB.o HK.o HA.o)
def C3(w:UK)(K:Kp)(p:aQ)(i:Nat)(x:Ins)(tb ib nb:Nat)(m:Nat)(a:Act)(W:UK):Prop:=∃(J:Nat->UL) (k:Nat),a=FC J/\J 1=UI w.heap.size/\J 4=to (H (G tb 0)) 42 42/\J 5=Y i/\J 6=UI ib/\J 7=UI nb/\J 8=Y k/\k<=4/\m+k=5/\
 Hid (Below w.heap.size w W)/\Hid (aF W w.heap.size 27 (iw K p))/\Hid (aZ W 5 (to (H (G tb 0)) 42 42) 42 FI)/\Hid (aF W ib 40 #[Y x.op,Y x.a,Y x.b,Y x.c,Y x.d])/\Hid (aF W nb 116 #[Y x.a,Y x.b,Y x.c,Y x.d])/\Hid (∀k',k'<k->br p (dG x k') (nL x k')=true)
def adU:∀n,n<42->∀k,k<4->(cC n).getD k 0<=8:=by decide
def ck3(a0f:Hid (fW w K p)){x:Ins}{i tb ib nb:Nat}(dW:0<=x.op/\x.op<42)
 (iU:∀(A:Array UL) W,A.getD 2 undef=Y 92->Below w.heap.size w W->ir p x=false->Q .ret {tmps:=A,defers:=[]} W)
 (d_:∀(J:Nat->UL) W,J 1=UI w.heap.size->J 4=to (H (G tb 0)) 42 42->J 5=Y i->Below w.heap.size w W->aF W w.heap.size 27 (iw K p)->aZ W 5 (to (H (G tb 0)) 42 42) 42 FI->ir p x=true->Q (.exit 4) (FC J) W)
 {a:Act} {W:UK} (h:C3 w K p i x tb ib nb 5 a W):(Code.loop ckI).wp prog Q a W:=by
 obtain⟨n,hn⟩:=dz dW.1;have E_:n<42:=O;have HN:=Z (show x.op.toNat=n by omega);refine Mk.aN (λm a W=>C3 w K p i x tb ib nb m a W) 5 h ?_ ?_
 ·rintro a W ⟨J,k,-,-,-,-,-,-,-,h1,h2,-⟩;omega
 rintro m a0 W ⟨J,k,rfl,j1,j4,j5,j6,j7,j8,hk,hm,HB,HK,HT,HX,HO,HA⟩;unfold FC
 conv=>arg 2;whnf
 have w2:IntKind.i64.wrap ((k:Int)+1)=((k+1:Nat):Int):=by rw[bJ _ lI];omega
 rw[j1,j4,j5,j6,j7,j8];clear j1 j4 j5 j6 j7 j8;by_cases be:k<4
 ·obtain⟨⟨ga,gc,g1,g2,g3⟩,⟨va,vc,v1,v2,v3⟩,⟨ta,tc,t1,t2,t3⟩,⟨oa,oc,o1,o2,o3⟩,⟨ca,cc,c1,c2,c3⟩⟩:=a0f.o.sl;obtain⟨f0,f1,f2,f3,f4,f5⟩:=HK.o.c6;have lw:=HK.o.lt;have d0:UJ W (G ib 0)=H (Y n):=by have h:=HX.o.cell 0;rw[hn]at h;exact h
  have lx:=HX.o.lt;have n0:UJ W (G nb k)=H (Y (nL x k)):=by rw[HO.o.cell];have e:k=0\/k=1\/k=2\/k=3:=O;rcases e with rfl|rfl|rfl|rfl<;>rfl
  have ln:=HO.o.lt;obtain⟨b',Zp,oh,et,-,-,lt,ec⟩:=HT.o.some O O;simp only[cM,im,Addr.mk.injEq]at et;obtain⟨⟨rfl,rfl,-⟩,-,-⟩:=et;have Py:dG x k=(cC n).getD k 0:=by unfold dG;rw[HN.o]
  have e0:UJ W (G tb (n*5+1+k))=H (Y (dG x k:Nat)):=by have h:=ec (n*5+1+k) O;rw[Nat.zero_add]at h;rw[h,Py];unfold FI;rw[aw O,show(n*5+1+k) / 5=n by omega,show(n*5+1+k) % 5-1=k by omega]
  have afy:(n:Int)<42:=O;have Dp:(k:Int)<4:=O;have hk8:dG x k<=8:=by rw[Py];exact adU n E_ k be
  have HF:=Z (λV (X:Below w.heap.size w V)=>IG (w:=V) (a0f.o.aG (aA.af X)) (dG x k) (nL x k) hk8);have De:=Z (λe=>pf (p:=p) (x:=x) (j:=k) be e);unfold pV at HF;rw[g1,v1,t1,o1,c1]at HF;rw[g1]at f0;rw[v1]at f1;rw[t1]at f2;rw[o1]at f3;rw[c1]at f5;obtain⟨dd,zg⟩:∃d,br p (dG x k) (nL x k)=d:=⟨_,rfl⟩;rw[zg]at HF De;have Zq:=Z (show∀k',k'=k->br p (dG x k') (nL x k')=dd from λk' e=>by rw[e];exact zg);have dE:=Z be;clear zg Py ec hk8 g1 g2 g3 v1 v2 v3 t1 t2 t3 o1 o2 o3 c1 c2 c3;generalize dG x k=abo at*;generalize nL x k=od at*;go_wp2;refine Mk.bH (S:=λwx=>Below W.heap.size W wx) bh (az _ W 1) (λau=>?_);refine Mk.tk 0 (v:=?_) rfl (λwz fj=>?_) au ?_;rotate_left
  ·have key:∀b i v,b<W.heap.size->UJ W (G b i)=H v->UJ wz (G b i)=H v:=λb i v X hc=>(dN (fj.block _ X)).trans hc;have y0:=key _ _ _ lw f0;have y1:=key _ _ _ lw f1;have y2:=key _ _ _ lw f2;have y3:=key _ _ _ lw f3;have y4:=key _ _ _ lw f4;have y5:=key _ _ _ lw f5;exact qj
  refine Mk.pt ?_;refine Mk.fC 1 ?_;refine Mk.fC 2 ?_;refine Mk.tk 3 (v:=?_) rfl (λwz fj=>?_) au ?_;rotate_left
  ·have key:∀b i v,b<W.heap.size->UJ W (G b i)=H v->UJ wz (G b i)=H v:=λb i v X hc=>(dN (fj.block _ X)).trans hc;have y0:=key _ _ _ lx d0;exact qj
  refine Mk.pt ?_;refine Mk.fC 4 ?_;refine Mk.fC 5 ?_;refine Mk.fC 6 ?_;refine Mk.fC 7 ?_;refine Mk.tk 8 (v:=?_) rfl (λwz fj=>?_) au ?_;rotate_left
  ·have key:∀b i v,b<W.heap.size->UJ W (G b i)=H v->UJ wz (G b i)=H v:=λb i v X hc=>(dN (fj.block _ X)).trans hc;have y0:=key _ _ _ lt e0;exact qj
  refine Mk.pt ?_;refine Mk.fC 9 ?_;refine Mk.fC 10 ?_;refine Mk.tk 11 (v:=?_) rfl (λwz fj=>?_) au ?_;rotate_left
  ·have key:∀b i v,b<W.heap.size->UJ W (G b i)=H v->UJ wz (G b i)=H v:=λb i v X hc=>(dN (fj.block _ X)).trans hc;have y0:=key _ _ _ ln n0;exact qj
  refine Mk.pt ?_;refine Mk.oD (rs:=[12]) (bZ rfl (λK9 hK=>?_) cz);refine fH ?_;go_simp
  with_reducible refine(HF.o _ (HB.o.trans (au.mono HB.o.size))).mono ?_
  rintro e W1 ⟨rfl,fI⟩;have dC:=au.trans (fI.mono au.size);clear au;refine hK.out _ _ dC (λau=>?_);clear hK K9;refine Mk.pt ?_;refine Mk.fC 13 ?_;refine nW bh ⟨rfl,?_⟩ _;clear au f0 f1 f2 f3 f4 f5 d0 n0 e0 lw lx ln lt HF;have cR:=Z (HB.o.trans (dC.mono HB.o.size));have uw:=Z (HK.o.of (dC.block _ HK.o.lt));have xI:=Z (HX.o.of (dC.block _ HX.o.lt));have Gh:=Z (HO.o.of (dC.block _ HO.o.lt));have M4:=Z (HT.o.aG (aA.af dC));clear fI dC;cases dd with
  |false=>have HG:=Z (De.o rfl);clear De;go_wp2;exact iU _ _ rfl cR.o HG.o
  |true=>
   clear De;go_wp2;refine⟨_,k+1,FC.of _ rfl,rfl,rfl,rfl,rfl,rfl,rfl,dE.o,O,cR,uw,M4,xI,Gh,Z λk' xE=>?_⟩;by_cases e:k'=k
   ·exact Zq.o k' e
   ·exact HA.o k' O
 ·obtain rfl:k=4:=O;clear be;have HG:=Z (ue (p:=p) (x:=x) HA.o);go_wp2;exact Eq.mpr (bu (λa=>Q (.exit 4) a W) (FC.of _ rfl)) (d_ _ _ rfl rfl rfl HB.o HK.o HT.o HG.o)
def C2(w:UK)(K:Kp)(p:aQ)(tb:Nat)(m:Nat)(a:Act)(W:UK):Prop:=∃(J:Nat->UL) (i:Nat),a=FC J/\J 1=UI w.heap.size/\J 4=to (H (G tb 0)) 42 42/\J 5=Y i/\i<=p.code.length/\m+i=p.code.length+1/\Hid (Below w.heap.size w W)/\Hid (aF W w.heap.size 27 (iw K p))/\Hid (aZ W 5 (to (H (G tb 0)) 42 42) 42 FI)/\Hid (dH p p.code=dH p (p.code.drop i))
def ck2(a0f:Hid (fW w K p)){tb:Nat}(hc:p.code.length<=262144)
 (iU:∀(A:Array UL) W (e:Int),A.getD 2 undef=Y e->Below w.heap.size w W->dH p p.code=e->Q .ret {tmps:=A,defers:=[]} W)
 (d_:∀(J:Nat->UL) W,Below w.heap.size w W->dH p p.code=0->Q (.exit 2) (FC J) W)
 {a:Act} {W:UK} (h:C2 w K p tb (p.code.length+1) a W):(Code.loop (ckL 1)).wp prog Q a W:=by
 refine Mk.aN (λm a W=>C2 w K p tb m a W) (p.code.length+1) h ?_ ?_
 ·rintro a W ⟨J,i,-,-,-,-,h1,h2,-⟩;omega
 rintro m a0 W ⟨J,i,rfl,j1,j4,j5,hi,hm,HB,HK,HT,HE⟩;unfold FC
 conv=>arg 2;whnf
 have w2:=mO i O;rw[j1,j4,j5];clear j1 j4 j5;have f5:UJ W (G w.heap.size 5)=H K.c:=HK.o.cell 5;have lw:=HK.o.lt;by_cases be:i<p.code.length
 ·obtain⟨b,off,cap,ho,q1,q2,c0,c1,c2,c3,c4⟩:=(a0f.o.aG (aA.af HB.o)).ins be;rw[ho]at f5;have lN:=Z (mE be);have dE:=Z be;have HOP:=Z (λV=>aa3 V (al p i));unfold aV aI at HOP;have HOO:=Z (show∀x,al p i=x->x=al p i from λx h=>h.symm);generalize hx:al p i=x at*;have HX:=Z hx;clear hx ho q1 q2 HOO;have HAL:=Z ((HB.o.alloc HB.o.size (QP #[Y x.op,Y x.a,Y x.b,Y x.c,Y x.d] 40)));by_cases o0:0<=x.op
  ·have e0:decide (x.op<0)=false:=by simpa using o0
   by_cases o1:x.op<42
   ·have Ad:=Z (And.intro o0 o1);have RC:=Z (show dH p (p.code.drop i)=if ir p x then dH p (p.code.drop (i+1))else 92 by rw[lN.o,show jH x=true by unfold jH aO;simp;omega];rfl);have e1:decide (42<=x.op)=false:=by simp;omega
    clear lN;go_wp2_with fail;refine(HOP.o _).mono ?_;rintro e W1 ⟨rfl,X⟩;have fI:Below W.heap.size W W1:=((aB _ W).alloc (aL _) _).trans (X.mono ay);have cR:=Z (HB.o.trans (fI.mono HB.o.size));have uw:=Z (HK.o.of (fI.block _ HK.o.lt));have M4:=Z (HT.o.aG (aA.af fI));have KX:=Z (show aF W1 W.heap.size 40 #[Y x.op,Y x.a,Y x.b,Y x.c,Y x.d]from(aF.new W _ _).of (X.block _ ay));clear X fI c0 c1 c2 c3 c4 f5 lw HAL e0 e1 o0 o1;go_wp2_with fail;have zH:=Z cR.o.size;refine ck3 (tb:=tb) (ib:=W.heap.size) (nb:=W1.heap.size) a0f Ad.o (λA W3 Aa zh hex=>?_) (λJ3 W3 j1 j4 j5 zh hK3 hT3 yv=>?_) ⟨_,0,FC.of _ rfl,rfl,rfl,rfl,rfl,rfl,rfl,cK _,rfl,Z (cR.o.alloc cR.o.size _),Z (uw.o.alloc _),Z (M4.o.aG ((aA.refl [] _).alloc _)),Z (KX.o.alloc _),Z (aF.new _ _ _),Z (λk hk=>absurd hk O)⟩
    ·exact iU A W3 92 Aa zh (by rw[HE.o,RC.o,hex];rfl)
    ·unfold FC;rw[j1,j4,j5];clear j1 j4 j5;have iy:=Z zh;have Dw:=Z hK3;have HT3:=Z hT3;have HG:=Z (show dH p p.code=dH p (p.code.drop (i+1))by rw[HE.o,RC.o,yv];rfl);clear zh hK3 hT3 yv;go_wp2;exact⟨_,i+1,FC.of _ rfl,rfl,rfl,rfl,dE.o,O,iy,Dw,HT3,HG⟩
   ·have RC:=Z (show dH p (p.code.drop i)=91 by rw[lN.o,show jH x=false by unfold jH aO;simp;omega];rfl);have e1:decide (42<=x.op)=true:=by simp;omega
    clear lN;go_wp2;exact iU _ _ 91 rfl HAL.o (by rw[HE.o,RC.o])
  ·have RC:=Z (show dH p (p.code.drop i)=91 by rw[lN.o,show jH x=false by unfold jH aO;simp;omega];rfl);have e0:decide (x.op<0)=true:=by simp;omega
   clear lN;go_wp2;exact iU _ _ 91 rfl HAL.o (by rw[HE.o,RC.o])
 ·obtain rfl:i=p.code.length:=O;clear be;obtain⟨ca,cc,ec,-,-⟩:=aZ.val a0f.o.cd;rw[ec]at f5;have HG:=Z (show dH p p.code=0 by have h:=HE.o;rw[List.drop_length]at h;rw[h];rfl);go_wp2;exact Eq.mpr (bu (λa=>Q (.exit 2) a W) (FC.of _ rfl)) (d_ _ _ HB.o HG.o)
end
section
variable {w:UK}{K:Kp}{p:aQ}
def CF(h:fW w K p):Calls prog 231 #[pV K p] w (λe w'=>e=C8 (Y (bq p))/\Below w.heap.size w w'):=by
 obtain⟨⟨ga,gc,g1,g2,g3⟩,⟨va,vc,v1,v2,v3⟩,⟨ta,tc,t1,t2,t3⟩,⟨oa,oc,o1,o2,o3⟩,⟨ca,cc,c1,c2,c3⟩⟩:=h.sl;obtain⟨kg,kv,kt,ko,kc⟩:=K;dsimp only at g1 v1 t1 o1 c1;subst g1 v1 t1 o1 c1;have a0f:=Z h;have Tv:aF (w.alloc (QP (iw ⟨to ga p.bw.length gc,to va p.vars.length vc,to ta p.aS.length tc,to oa p.on.length oc,to ca p.code.length cc⟩ p) 27)) w.heap.size 27 (iw ⟨to ga p.bw.length gc,to va p.vars.length vc,to ta p.aS.length tc,to oa p.on.length oc,to ca p.code.length cc⟩ p):=aF.new w _ _;have ep:Below w.heap.size w (w.alloc (QP (iw ⟨to ga p.bw.length gc,to va p.vars.length vc,to ta p.aS.length tc,to oa p.on.length oc,to ca p.code.length cc⟩ p) 27)):=(aB _ _).alloc (aL _) _;have CV:Hid (p.vars.length<=16->Calls prog 286 #[to va p.vars.length vc] (w.alloc (QP (iw ⟨to ga p.bw.length gc,to va p.vars.length vc,to ta p.aS.length tc,to oa p.on.length oc,to ca p.code.length cc⟩ p) 27)) (λe w'=>e=C8 (.bool (p.vars.all nV))/\Below w.heap.size w w'/\aF w' w.heap.size 27 (iw ⟨to ga p.bw.length gc,to va p.vars.length vc,to ta p.aS.length tc,to oa p.on.length oc,to ca p.code.length cc⟩ p))):=
  Z λh2=>(aa4 (h.aG (aA.af ep)) h2).mono λe w' hh=>by obtain⟨h1,k,rfl⟩:=hh;exact⟨h1,ep.trans (az _ _ k),Tv.drewN k⟩
 have eV:=Z ep;unfold pV;unfold iw at CV;dsimp only at CV ⊢;clear h Tv ep g2 g3 v2 v3 t2 t3 o2 o3;have m5:=Z c2;have m6:=Z c3;by_cases h1:p.bw.length<=16
 case neg=>go_enter func231,ntmps231;go_wp2;go_ret;exact⟨by simp[bq,cm,h1],eV.o⟩
 by_cases h2:p.vars.length<=16
 case neg=>go_enter func231,ntmps231;go_wp2;go_ret;exact⟨by simp[bq,cm,h2],eV.o⟩
 by_cases h3:p.aS.length<=4
 case neg=>go_enter func231,ntmps231;go_wp2;go_ret;exact⟨by simp[bq,cm,h3],eV.o⟩
 have CT:Hid (∀W,Below w.heap.size w W->Calls prog 287 #[to ta p.aS.length tc] W (λe w'=>e=C8 (.bool (p.aS.all λt=>aO t 1 255))/\w'=W)):=Z λW X=>by have h9:=aan (a0f.o.aG (aA.af X)) h3;exact h9
 by_cases h4:p.vars.all nV=true
 case neg=>
  have hF:(p.vars.all nV)=false:=by simpa using h4
  have HF:=Z (show bq p=85 by unfold bq cm;rw[hF];simp);rw[hF]at CV;clear h4 hF;go_enter func231,ntmps231;go_wp2_with fail;refine(CV.o h2).mono ?_;rintro e W1 ⟨rfl,X,hk⟩;obtain⟨f0,f1,f2,f3,f4,f5⟩:=hk.c6;have lw:=hk.lt;have HB:=Z X;have HK:=Z hk;clear X hk CV eV;exact lU
 rw[h4]at CV;by_cases h5:(p.aS.all λt=>aO t 1 255)=true
 case neg=>
  have hF:((p.aS.all λt=>aO t 1 255))=false:=by simpa using h5
  have HF:=Z (show bq p=85 by unfold bq cm;rw[hF];simp);rw[hF]at CT;clear h5 hF;go_enter func231,ntmps231;go_wp2_with fail;refine(CV.o h2).mono ?_;rintro e W1 ⟨rfl,X,hk⟩;obtain⟨f0,f1,f2,f3,f4,f5⟩:=hk.c6;have lw:=hk.lt;have HB:=Z X;have HK:=Z hk;clear X hk CV eV;go_wp2_with fail;refine(CT.o _ HB.o).mono ?_;rintro e W2 ⟨rfl,rfl⟩;clear CT;exact lU
 rw[h5]at CT;by_cases h6:p.on.length=p.bw.length
 case neg=>go_enter func231,ntmps231;go_wp2_with fail;refine(CV.o h2).mono ?_;rintro e W1 ⟨rfl,X,hk⟩;obtain⟨f0,f1,f2,f3,f4,f5⟩:=hk.c6;have lw:=hk.lt;have HB:=Z X;have HK:=Z hk;clear X hk CV eV;go_wp2_with fail;refine(CT.o _ HB.o).mono ?_;rintro e W2 ⟨rfl,rfl⟩;clear CT;go_wp2;go_ret;exact⟨by simp[bq,cm,h6],HB.o⟩
 simp only[h6]at CV a0f;by_cases h7:p.code.length<=262144
 case neg=>go_enter func231,ntmps231;go_wp2_with fail;refine(CV.o h2).mono ?_;rintro e W1 ⟨rfl,X,hk⟩;obtain⟨f0,f1,f2,f3,f4,f5⟩:=hk.c6;have lw:=hk.lt;have HB:=Z X;have HK:=Z hk;clear X hk CV eV;go_wp2_with fail;refine(CT.o _ HB.o).mono ?_;rintro e W2 ⟨rfl,rfl⟩;clear CT;go_wp2;go_ret;exact⟨by simp[bq,cm,h7],HB.o⟩
 by_cases h8: -1<=p.aT
 case neg=>go_enter func231,ntmps231;go_wp2_with fail;refine(CV.o h2).mono ?_;rintro e W1 ⟨rfl,X,hk⟩;obtain⟨f0,f1,f2,f3,f4,f5⟩:=hk.c6;have lw:=hk.lt;have HB:=Z X;have HK:=Z hk;clear X hk CV eV;go_wp2_with fail;refine(CT.o _ HB.o).mono ?_;rintro e W2 ⟨rfl,rfl⟩;clear CT;go_wp2;go_ret;exact⟨by unfold bq cm aO;simp[show¬(-1<=p.aT)by omega],HB.o⟩
 by_cases h9:p.aT<p.code.length
 case neg=>go_enter func231,ntmps231;go_wp2_with fail;refine(CV.o h2).mono ?_;rintro e W1 ⟨rfl,X,hk⟩;obtain⟨f0,f1,f2,f3,f4,f5⟩:=hk.c6;have lw:=hk.lt;have HB:=Z X;have HK:=Z hk;clear X hk CV eV;go_wp2_with fail;refine(CT.o _ HB.o).mono ?_;rintro e W2 ⟨rfl,rfl⟩;clear CT;go_wp2;go_ret;exact⟨by unfold bq cm aO;simp[show¬p.aT<=(p.code.length:Int) - 1 by omega],HB.o⟩
 go_enter func231,ntmps231;go_wp2_with fail;refine(CV.o h2).mono ?_;rintro e W1 ⟨rfl,X,hk⟩;obtain⟨f0,f1,f2,f3,f4,f5⟩:=hk.c6;have lw:=hk.lt;have HB:=Z X;have HK:=Z hk;clear X hk CV eV;go_wp2_with fail;refine(CT.o _ HB.o).mono ?_;rintro e W2 ⟨rfl,rfl⟩;clear CT;go_wp2_with fail;clear f0 f1 f2 f3 f4 f5 lw;have ub:=Z (show cm p=(p.on.all λn=>aO n (-1) ((p.code.length:Int) - 1))by
  have e9:aO p.aT (-1) ((p.code.length:Int) - 1)=true:=by unfold aO;simp;omega
  unfold cm;rw[h4,h5,e9];simp[h1,h2,h3,h6,h7])
 refine ck1 (no:=p.bw.length) a0f rfl rfl h6.symm O h7 (λA W3 Aa zh hex=>?_) (λJ3 W3 j1 zh hK3 Aa=>?_) ⟨_,0,FC.of _ rfl,rfl,rfl,cK _,O,HB,HK,Z (λj hj=>absurd hj O)⟩
 ·simp only[Exit.inBlock,Exit.then];have HF:=Z (show bq p=85 by
   obtain⟨j,hj,e⟩:=hex;unfold bq;have:(p.on.all λn=>aO n (-1) ((p.code.length:Int) - 1))=false:=by rw[vV];intro f_;rw[zD (0:Int)]at f_;rw[f_ j hj]at e;cases e
   rw[ub.o,this];rfl)
  refine Vf.fy (P:=prog) (fn:=Proofs.Tryz.f231) rfl ?_;exact⟨by rw[Aa,HF.o],zh⟩
 ·have HF:=Z (show bq p=dH p p.code by
   unfold bq;have:(p.on.all λn=>aO n (-1) ((p.code.length:Int) - 1))=true:=by rw[zD (0:Int)];exact Aa
   rw[ub.o,this];rfl)
  have iy:=Z zh;have Dw:=Z hK3;unfold FC;rw[j1];clear Aa zh hK3 j1 ub HB HK;go_wp2_with fail;refine(wX W3).mono ?_;rintro e W4 ⟨tb,rfl,hr,X⟩;have jK:=Z (iy.o.trans (X.mono iy.o.size));have HK4:=Z (Dw.o.of (X.block _ Dw.o.lt));have HR4:=Z hr;clear X hr;go_wp2_with fail;refine ck2 (tb:=tb) a0f h7 (λA W3 e Aa zh he=>?_) (λJ3 W3 zh he=>?_) ⟨_,0,FC.of _ rfl,rfl,rfl,rfl,cK _,O,jK,HK4,HR4,Z (by rw[List.drop_zero])⟩
  ·simp only[Exit.inBlock,Exit.then];refine Vf.fy (P:=prog) (fn:=Proofs.Tryz.f231) rfl ?_;exact⟨by rw[Aa,HF.o,he],zh⟩
  ·have HE:=Z (show bq p=0 by rw[HF.o,he]);have IA:=Z zh;unfold FC;clear he zh;go_wp2_with fail;refine Vf.fy (P:=prog) (fn:=Proofs.Tryz.f231) rfl ?_;exact⟨by rw[HE.o];rfl,IA.o⟩
end
end Go.Rv
namespace Go.Rv
open Ma (dP ci aX vb aI aV)
open Vf (Kp fW pV rT bN aZ)
def FP(J:Nat->UL):Act:={tmps:=#[J 0,J 1,J 2,J 3,J 4,J 5,J 6,J 7,J 8,J 9,J 10,J 11,J 12,J 13,J 14,J 15,J 16,J 17,J 18,J 19,J 20,J 21,J 22,J 23,J 24,J 25,J 26,J 27,J 28,J 29,J 30,J 31,J 32,J 33,J 34,J 35,J 36,J 37,J 38,J 39,J 40,J 41,J 42,J 43,J 44,J 45,J 46,J 47,J 48,J 49,J 50,J 51,J 52,J 53,J 54,J 55,J 56,J 57,J 58,J 59,J 60,J 61,J 62,J 63,J 64,J 65,J 66,J 67,J 68,J 69,J 70,J 71,J 72,J 73,J 74,J 75,J 76,J 77,J 78,J 79,J 80,J 81,J 82,J 83,J 84,J 85,J 86,J 87,J 88,J 89,J 90,J 91,J 92,J 93,J 94,J 95,J 96,J 97,J 98,J 99,J 100,J 101,J 102,J 103,J 104,J 105,J 106,J 107,J 108,J 109,J 110,J 111,J 112,J 113,J 114,J 115,J 116,J 117,J 118,J 119,J 120,J 121,J 122,J 123,J 124,J 125,J 126,J 127,J 128,J 129,J 130,J 131,J 132,J 133,J 134,J 135,J 136,J 137,J 138,J 139,J 140,J 141,J 142,J 143,J 144],defers:=[]}
def FP.of(A:Array UL)(h:A=(FP λk=>A.getD k undef).tmps):({tmps:=A,defers:=[]}:Act)=FP λk=>A.getD k undef:=by rw[h];rfl
noncomputable def plL(k:Nat):Code:=Mk.iS Proofs.Tryz.f232.body k
def aeN(s t:mh)(hs:fe s.ty)(ht:fe t.ty)(w:UK):(binOp .neq 262 (oB s) (oB t)).run prog w= .ok (.bool (!decide (s=t))) w:=by
 have h:=eqS s t hs ht w;unfold oB at h ⊢;rw[run_eql_struct]at h;rw[run_neq_struct];cases hr:(Op.equalIn 10000 262 (.agg #[.string (fM s.ty),Y s.loop,Y s.hand,.bool s.kV]) (.agg #[.string (fM t.ty),Y t.loop,Y t.hand,.bool t.kV])).run prog w with
 |ok b w'=>rw[hr]at h;simp only[Result.andThen]at h ⊢;simp only[Result.ok.injEq,Value.bool.injEq]at h;rw[h.1,h.2]
 |halt x w'=>rw[hr]at h;simp[Result.andThen]at h
def af1{α:Type}(d:α)(l:List α){i:Nat}(hi:i<l.length):l.drop i=l.getD i d::l.drop (i+1):=by rw[qU hi,aY,fq hi];rfl
section
variable {w W0:UK}{K:Kp}{p:aQ}{lH kM nv wv:UL}{lb A qW pc lo:Nat}{L:lE}{l:List (Nat×mh)}{Q:Exit->Act->UK->Prop}
def kj.aG{W W':UK}{S:List Nat}(h:kj W lo nv wv l)(f:aA S W W')(hS:∀b,b∈S->b<lo):kj W' lo nv wv l:=
 ⟨h.n.aG f (λb X hm=>by have:=h.nl b X;have:=hS b hm;omega),h.s.aG f (λb X hm=>by have:=h.wl b X;have:=hS b hm;omega),h.nl,h.wl⟩
def kj.Nt{W:UK}(h:kj W lo nv wv l){i:Nat}(hi:i<l.length):∃b cap b' oh,nv=to (H (G b 0)) l.length cap/\wv=to (H (G b' 0)) l.length oh/\l.length<=cap/\l.length<=oh/\lo<=b/\lo<=b'/\UJ W (G b i)=H (Y ((l.getD i zW).1:Nat))/\
 UJ W (G b' (i*4))=H (.string (fM (l.getD i zW).2.ty))/\UJ W (G b' (i*4+1))=H (Y (l.getD i zW).2.loop)/\UJ W (G b' (i*4+2))=H (Y (l.getD i zW).2.hand)/\UJ W (G b' (i*4+3))=H (.bool (l.getD i zW).2.kV):=by
 obtain⟨b,cap,e,h1,-,-⟩:=h.n.some O;obtain⟨b',oh,e',h1',-,-⟩:=h.s.some O;have hn:=h.n;have hs:=h.s;rw[e]at hn;rw[e']at hs;have key:∀k,k<4->UJ W (G b' (i*4+k))=H ((#[.string (fM (l.getD i zW).2.ty),Y (l.getD i zW).2.loop,Y (l.getD i zW).2.hand,.bool (l.getD i zW).2.kV]:Array UL).getD k undef):=λk hk=>by have e:=hs.cell (o:=i*4+k) O;rw[e];unfold Fz;rw[show(i*4+k) / 4=i by omega,show(i*4+k) % 4=k by omega]
 exact⟨b,cap,b',oh,e,e',h1,h1',h.nl b (by rw[e];rfl),h.wl b' (by rw[e'];rfl),hn.cell O,key 0 O,key 1 O,key 2 O,key 3 O⟩
def kj.val{W:UK}(h:kj W lo nv wv l):∃a c a' c',nv=to a l.length c/\wv=to a' l.length c':=by
 have key:∀{e:TypeId} {k:Nat} {v:UL} {g:Nat->UL},Row W e k v l.length g->∃a c,v=to a l.length c:=λh=>by
  rcases h.val with⟨e,h0⟩|⟨b,cap,e,-⟩
  ·rw[h0];exact⟨K7,0,e⟩
  ·exact⟨_,_,e⟩
 obtain⟨a,c,e⟩:=key h.n;obtain⟨a',c',e'⟩:=key h.s;exact⟨a,c,a',c',e,e'⟩
def P1(W0:UK)(lb pc:Nat)(nv wv:UL)(l:List (Nat×mh))(p:aQ)(m:Nat)(a:Act)(W:UK):Prop:=∃(J:Nat->UL) (i:Nat),a=FP J/\J 0=UI lb/\J 1=Y pc/\J 11=nv/\J 12=wv/\J 13=Y i/\i<=l.length/\m+i=l.length+1/\Hid (Below W0.heap.size W0 W)/\Hid (∀j,j<i->(l.getD j zW).1≠p.code.length)
def pl1(a0f:Hid (fW w K p))(HL:Hid (aF W0 lb 260 (IY K p (to (H (G A 0)) p.code.length qW) lH kM)))(HW:Hid (kj W0 lo nv wv l))(hl:l.length<=2)
 (iU:∀(B:Array UL) W,B.getD 4 undef=Y 98->Below W0.heap.size W0 W->(∃j,j<l.length/\(l.getD j zW).1=p.code.length)->Q .ret {tmps:=B,defers:=[]} W)
 (d_:∀(J:Nat->UL) W,J 0=UI lb->J 1=Y pc->J 11=nv->J 12=wv->Below W0.heap.size W0 W->(∀j,j<l.length->(l.getD j zW).1≠p.code.length)->Q (.exit 0) (FP J) W)
 {a:Act} {W:UK} (h:P1 W0 lb pc nv wv l p (l.length+1) a W):(Code.loop (plL 0)).wp prog Q a W:=by
 refine Mk.aN (λm a W=>P1 W0 lb pc nv wv l p m a W) (l.length+1) h ?_ ?_
 ·exact TR
 rintro m a0 W ⟨J,i,rfl,j0,j1,oG,pn,rJ,hi,hm,HB,HA⟩;unfold FP
 conv=>arg 2;whnf
 have w2:=mO i O;rw[j0,j1,oG,pn,rJ];clear j0 j1 oG pn rJ;obtain⟨ca,cc,kc,-,-⟩:=aZ.val a0f.o.cd;have M_:=HL.o.of (HB.o.block _ HL.o.lt);have v5:UJ W (G lb 5)=H K.c:=M_.cell 5;have lv:=M_.lt;rw[kc]at v5;clear M_ kc;by_cases be:i<l.length
 ·obtain⟨b,cap,b',oh,en,ew,q1,q2,-,-,c0,-⟩:=(HW.o.aG (S:=[]) (aA.af HB.o) ay).Nt be;have Bs:=Z en;have Bt:=Z ew;have dE:=Z be;rw[Bs.o,Bt.o];clear en ew;obtain⟨z,hz⟩:∃z,(l.getD i zW).1=z:=⟨_,rfl⟩;rw[hz]at c0;have HZ:=Z hz;clear hz;by_cases h1:z=p.code.length
  ·have e1:((z:Int)==(p.code.length:Int))=true:=by simp;omega
   have HG:=Z h1;clear h1;go_wp2;go_quiet (fail);go_wp2;exact iU _ _ rfl (HB.o.trans (az _ _ _)) ⟨i,dE.o,by rw[HZ.o];exact HG.o⟩
  ·have e1:((z:Int)==(p.code.length:Int))=false:=by simp;omega
   have HG:=Z h1;clear h1;go_wp2;go_quiet (fail);go_wp2_with fail
   try rw[<-Bs.o]
   try rw[<-Bt.o]
   refine⟨_,i+1,FP.of _ rfl,rfl,rfl,(by first|rfl|exact Bs.o.symm),(by first|rfl|exact Bt.o.symm),rfl,dE.o,O,Z (HB.o.trans (az _ _ _)),Z λj hj=>?_⟩;by_cases e:j=i
   ·subst e;rw[HZ.o];exact HG.o
   ·exact HA.o j O
 ·obtain rfl:i=l.length:=O;clear be;obtain⟨a,c,a',c',en,ew⟩:=HW.o.val;have Bs:=Z en;have Bt:=Z ew;rw[Bs.o,Bt.o];clear en ew;go_wp2;exact Eq.mpr (bu (λa=>Q (.exit 0) a W) (FP.of _ rfl)) (d_ _ _ rfl rfl Bs.o.symm Bt.o.symm HB.o HA.o)
def zE(L:lE)(w:Nat×mh):Bool:= !(L.at_ w.1).kV||decide (L.at_ w.1=w.2)
def P2(W0:UK)(lb pc:Nat)(nv wv:UL)(l:List (Nat×mh))(L:lE)(m:Nat)(a:Act)(W:UK):Prop:=∃(J:Nat->UL) (i:Nat),a=FP J/\J 0=UI lb/\J 1=Y pc/\J 11=nv/\J 12=wv/\J 14=Y i/\i<=l.length/\m+i=l.length+1/\Hid (Below W0.heap.size W0 W)/\Hid (∀j,j<i->zE L (l.getD j zW)=true)
def Hz{p:Prop}(h:p:=by
 go_wp2;go_quiet (fail);go_wp2_with fail
 try rw[<-Bs.o]
 try rw[<-Bt.o]
 refine⟨_,i+1,FP.of _ rfl,rfl,rfl,(by first|rfl|exact Bs.o.symm),(by first|rfl|exact Bt.o.symm),rfl,dE.o,O,Z (HB.o.trans (az _ _ _)),Z λj hj=>?_⟩;by_cases e:j=i
 ·subst e;exact HG.o
 ·exact HA.o j O):p:=h
def pl2(HL:Hid (rU W0 K p lb (to (H (G A 0)) p.code.length qW) lH kM L))(HO:Hid (mr p L))(HW:Hid (kj W0 lo nv wv l))(hl:l.length<=2)(me:Hid (∀j,j<l.length->(l.getD j zW).1<p.code.length/\n_ p (l.getD j zW).2))
 (iU:∀(B:Array UL) W,B.getD 4 undef=Y 94->Below W0.heap.size W0 W->(∃j,j<l.length/\zE L (l.getD j zW)=false)->Q .ret {tmps:=B,defers:=[]} W)
 (d_:∀(J:Nat->UL) W,J 0=UI lb->J 1=Y pc->J 11=nv->J 12=wv->Below W0.heap.size W0 W->(∀j,j<l.length->zE L (l.getD j zW)=true)->Q (.exit 2) (FP J) W)
 {a:Act} {W:UK} (h:P2 W0 lb pc nv wv l L (l.length+1) a W):(Code.loop (plL 1)).wp prog Q a W:=by
 refine Mk.aN (λm a W=>P2 W0 lb pc nv wv l L m a W) (l.length+1) h ?_ ?_
 ·exact TR
 rintro m a0 W ⟨J,i,rfl,j0,j1,oG,pn,lY,hi,hm,HB,HA⟩;unfold FP
 conv=>arg 2;whnf
 have w2:=mO i O;rw[j0,j1,oG,pn,lY];clear j0 j1 oG pn lY;have hLW:=HL.o.aG (aA.af HB.o);have v6:UJ W (G lb 6)=H (to (H (G A 0)) p.code.length qW):=hLW.dS.cell 6;have lv:=hLW.dS.lt;by_cases be:i<l.length
 ·obtain⟨b,cap,b',oh,en,ew,q1,q2,-,-,c0,d0,d1,d2,d3⟩:=(HW.o.aG (S:=[]) (aA.af HB.o) ay).Nt be;have Bs:=Z en;have Bt:=Z ew;have dE:=Z be;rw[Bs.o,Bt.o];clear en ew;obtain⟨jn,nQ⟩:=me.o i be;have HMT:=Z (show zE L (l.getD i zW)=(!(L.at_ (l.getD i zW).1).kV||decide (L.at_ (l.getD i zW).1=(l.getD i zW).2))from rfl);have sU:=Z (aeN (L.at_ (l.getD i zW).1) (l.getD i zW).2 (HO.o.at_ _).ty nQ.ty);obtain⟨z,hz⟩:∃z,(l.getD i zW).1=z:=⟨_,rfl⟩;obtain⟨s,hs⟩:∃s,(l.getD i zW).2=s:=⟨_,rfl⟩;rw[hz]at c0 jn HMT sU;rw[hs]at d0 d1 d2 d3 HMT sU;obtain⟨b2,CH,eA,a1,a2,a3,s0,s1,s2,s3⟩:=hLW.Wy jn;simp only[cM,im,Addr.mk.injEq]at eA;obtain⟨⟨rfl,-,-⟩,-,rfl⟩:=eA;clear hz hs nQ;have DI:(z:Int)<p.code.length:=O;cases hg:(L.at_ z).kV with
  |false=>rw[hg]at s3;have HG:=Z (show zE L (l.getD i zW)=true by rw[HMT.o,hg];rfl);clear sU hg;generalize(L.at_ z).ty=t1 at*;generalize(L.at_ z).loop=l1 at*;generalize(L.at_ z).hand=h1 at*;exact Hz
  |true=>
   rw[hg]at s3;obtain⟨dd,zg⟩:∃d,decide (L.at_ z=s)=d:=⟨_,rfl⟩;have HG:=Z (show zE L (l.getD i zW)=dd by rw[HMT.o,hg,zg];rfl);rw[zg]at sU;have bm:∀V,(binOp .neq 262 (oB (L.at_ z)) (oB s)).run prog V= .ok (.bool (!dd)) V:=sU.o;unfold oB at bm;rw[hg]at bm;clear sU hg zg HMT;generalize fM (L.at_ z).ty=t1 at*;generalize(L.at_ z).loop=l1 at*;generalize(L.at_ z).hand=h1 at*;generalize fM s.ty=t2 at*;generalize s.loop=l2 at*;generalize s.hand=h2 at*;generalize s.kV=g2 at*;cases dd with
   |true=>exact Hz
   |false=>go_wp2_with fail;go_quiet (fail);go_wp2;exact iU _ _ rfl (HB.o.trans (az _ _ _)) ⟨i,dE.o,HG.o⟩
 ·obtain rfl:i=l.length:=O;clear be hLW;obtain⟨a,c,a',c',en,ew⟩:=HW.o.val;have Bs:=Z en;have Bt:=Z ew;rw[Bs.o,Bt.o];clear en ew;go_wp2;exact Eq.mpr (bu (λa=>Q (.exit 2) a W) (FP.of _ rfl)) (d_ _ _ rfl rfl Bs.o.symm Bt.o.symm HB.o HA.o)
def P3(W0:UK)(K:Kp)(lb pc A qW:Nat)(lH kM nv wv:UL)(l:List (Nat×mh))(p:aQ)(L:lE)(m:Nat)(a:Act)(W:UK):Prop:=∃(J:Nat->UL) (i:Nat) (L':lE),a=FP J/\J 0=UI lb/\J 1=Y pc/\J 11=nv/\J 12=wv/\J 15=Y i/\i<=l.length/\m+i=l.length+1/\Hid (aA [A] W0 W)/\Hid (rU W K p lb (to (H (G A 0)) p.code.length qW) lH kM L')/\Hid (mr p L')/\Hid (eX L l=eX L' (l.drop i))
def aaJ{p:aQ}{L:lE}{v:Nat×mh}{l:List (Nat×mh)}(K:mr p L)(hs:n_ p v.2):((uq L v.1 v.2).1=true->eX L (v::l)=eX (uq L v.1 v.2).2 l/\mr p (uq L v.1 v.2).2)/\((uq L v.1 v.2).1=false->eX L (v::l)=K7):=by
 rw[show eX L (v::l)=(if(L.at_ v.1).kV then(if L.at_ v.1=v.2 then eX L l else K7)else eX {L with at_:=aR L.at_ v.1 v.2} l)from rfl];unfold uq;cases hg:(L.at_ v.1).kV with
 |false=>exact⟨λ_=>⟨ay,Kz K _ hs⟩,λh=>by simp at h⟩
 |true=>
  by_cases e:L.at_ v.1=v.2
  ·exact⟨λ_=>⟨by simp[e],by simpa using K⟩,λh=>by simp[e]at h⟩
  ·exact⟨λh=>by simp[e]at h,λ_=>by simp[e]⟩
def pl3(TV:Hid (A<lo/\lb≠A))(HW:Hid (kj W0 lo nv wv l))(hl:l.length<=2)(me:Hid (∀j,j<l.length->(l.getD j zW).1<p.code.length/\n_ p (l.getD j zW).2))
 (iU:∀(B:Array UL) W,B.getD 4 undef=Y 94->aA [A] W0 W->eX L l=K7->Q .ret {tmps:=B,defers:=[]} W)
 (d_:∀(J:Nat->UL) W L',aA [A] W0 W->rU W K p lb (to (H (G A 0)) p.code.length qW) lH kM L'->eX L l=H L'->Q (.exit 4) (FP J) W)
 {a:Act} {W:UK} (h:P3 W0 K lb pc A qW lH kM nv wv l p L (l.length+1) a W):(Code.loop (plL 2)).wp prog Q a W:=by
 refine Mk.aN (λm a W=>P3 W0 K lb pc A qW lH kM nv wv l p L m a W) (l.length+1) h ?_ ?_
 ·rintro a W ⟨J,i,L',-,-,-,-,-,-,h1,h2,-⟩;omega
 rintro m a0 W ⟨J,i,L',rfl,j0,j1,oG,pn,qp,hi,hm,HF,HL,HO,HLY⟩;unfold FP
 conv=>arg 2;whnf
 have w2:=mO i O;rw[j0,j1,oG,pn,qp];clear j0 j1 oG pn qp;by_cases be:i<l.length
 ·obtain⟨b,cap,b',oh,en,ew,q1,q2,lb1,lb2,c0,d0,d1,d2,d3⟩:=(HW.o.aG (S:=[A]) HF.o (by simp;exact TV.o.1)).Nt be;have hNA:b≠A:=by have:=TV.o.1;omega
  have hWA:b'≠A:=by have:=TV.o.1;omega
  have Bs:=Z en;have Bt:=Z ew;have dE:=Z be;rw[Bs.o,Bt.o];clear en ew lb1 lb2;obtain⟨jn,nQ⟩:=me.o i be;have Xl:=Z (aaJ (l:=l.drop (i+1)) HO.o nQ);have HDR:=Z (af1 zW l be);have HC:=Z (λV (X:Below W.heap.size W V)=>As (w:=V) (HL.o.aG (aA.af X)) jn nQ.ty (HO.o.at_ _).ty);obtain⟨z,hz⟩:∃z,(l.getD i zW).1=z:=⟨_,rfl⟩;obtain⟨s,hs⟩:∃s,(l.getD i zW).2=s:=⟨_,rfl⟩;rw[hz]at c0 Xl HC;rw[hs]at d0 d1 d2 d3 Xl HC;have Ry:=Z (show eX L l=eX L' ((l.getD i zW)::l.drop (i+1))by rw[HLY.o,HDR.o]);rw[show l.getD i zW=(z,s)from Prod.ext hz hs]at Ry;rw[show l.getD i zW=(z,s)from Prod.ext hz hs]at Xl;clear hz hs jn nQ;have HEZ:=Z (rfl:uq L' z s=uq L' z s);obtain⟨g,hg⟩:∃g,uq L' z s=g:=⟨_,rfl⟩;obtain⟨gb,gL⟩:=g;unfold Ky oB at HC;rw[hg]at HC Xl
  try dsimp only at HC Xl
  clear hg HEZ;generalize fM s.ty=t2 at*;generalize s.loop=l2 at*;generalize s.hand=h2 at*;generalize s.kV=g2 at*;go_wp2;refine Mk.bH (S:=λwx=>aA [A] W wx) bh ((aA.af (S:=[A]) (az _ W 1))) (λau=>?_);have HD:=Z (az W.heap.size W 1);change Hid (Below W.heap.size W W.drew)at HD;refine Mk.fC 0 ?_;refine Mk.fC 1 ?_;refine Mk.fC 2 ?_;refine Mk.fC 3 ?_;refine Mk.tk 4 (v:=?_) rfl (λwz fj=>?_) au ?_;rotate_left
  ·have key:∀b i v,b≠A->UJ W (G b i)=H v->UJ wz (G b i)=H v:=λb i v hn hc=>(dN (fj.block _ (aH hc) (by simpa using hn))).trans hc;have y0:=key _ _ _ hNA c0;exact qj
  refine Mk.pt ?_;refine Mk.fC 5 ?_;refine Mk.fC 6 ?_;refine Mk.fC 7 ?_;refine Mk.tk 8 (v:=?_) rfl (λwz fj=>?_) au ?_;rotate_left
  ·have key:∀b i v,b≠A->UJ W (G b i)=H v->UJ wz (G b i)=H v:=λb i v hn hc=>(dN (fj.block _ (aH hc) (by simpa using hn))).trans hc;have y0:=key _ _ _ hWA d0;have y1:=key _ _ _ hWA d1;have y2:=key _ _ _ hWA d2;have y3:=key _ _ _ hWA d3;exact qj
  refine Mk.pt ?_;refine Mk.oD (rs:=[9]) (bZ rfl (λK9 hK=>?_) cz);refine fH ?_;go_simp
  with_reducible refine(HC.o _ HD.o).mono ?_
  rintro e W1 ⟨rfl,⟨W9,wZ,P5⟩,hl9⟩;have MX:=au.trans ((aA.af (S:=[A]) wZ).trans P5);clear au;refine hK.out _ _ MX (λau=>?_);clear hK K9;refine Mk.pt ?_;refine Mk.fC 10 ?_;refine nW bh ⟨rfl,?_⟩ _;have E7:=Z (HF.o.trans MX);have Nc:=Z hl9;clear au MX wZ P5 hl9 c0 d0 d1 d2 d3 HC;cases gb with
  |false=>have HG:=Z (show eX L l=K7 from Ry.o.trans (Xl.o.2 rfl));go_wp2;exact iU _ _ rfl E7.o HG.o
  |true=>
   have HG:=Z (Xl.o.1 rfl);go_wp2_with fail
   try rw[<-Bs.o]
   try rw[<-Bt.o]
   exact⟨_,i+1,gL,FP.of _ rfl,rfl,rfl,(by first|rfl|exact Bs.o.symm),(by first|rfl|exact Bt.o.symm),rfl,dE.o,O,E7,Nc,Z HG.o.2,Z (Ry.o.trans HG.o.1)⟩
 ·obtain rfl:i=l.length:=O;clear be;obtain⟨a,c,a',c',en,ew⟩:=HW.o.val;rw[en,ew];have Xq:=HLY.o;rw[List.drop_length]at Xq;have HG:=Z (show eX L l=H L' from Xq);clear Xq en ew;go_wp2;exact Eq.mpr (bu (λa=>Q (.exit 4) a W) (FP.of _ rfl)) (d_ _ _ _ HF.o HL.o HG.o)
def aaI(L:lE)(pc:Nat)(x:Ins)(s:mh):(eH L pc x s).length<=2:=by
 unfold eH
 repeat' split
 all_goals simp
def aaH{p:aQ}{L:lE}{pc:Nat}{x:Ins}{s:mh}(oT:pc<p.code.length)(hx:(x.op=22\/x.op=23\/x.op=25\/x.op=26)->0<=x.a/\x.a<p.code.length){w:Nat×mh}(hw:w∈eH L pc x s):w.1<=p.code.length:=by
 unfold eH at hw;split at hw
 ·simp at hw
 split at hw
 ·next h=>simp at hw;subst hw;have:=hx O;dsimp only;omega
 split at hw
 ·next h=>simp at hw;have:=hx O;rcases hw with rfl|rfl<;>dsimp only<;>omega
 split at hw
 ·next h=>simp at hw;have:=hx O;rcases hw with rfl|rfl<;>dsimp only<;>omega
 split at hw
 ·next h=>simp at hw;have:=hx O;rcases hw with rfl|rfl<;>dsimp only<;>omega
 ·simp at hw;subst hw;dsimp only;omega
def I5{α:Type}(d:α){l:List α}{i:Nat}(hi:i<l.length):l.getD i d∈l:=by rw[aY,fq hi];exact jO hi
def Q4{α:Type}(d:α){f:α->Bool}{l:List α}:l.any f=true↔∃i,i<l.length/\f (l.getD i d)=true:=by
 rw[List.any_eq_true];constructor
 ·rintro⟨x,hx,h⟩;obtain⟨i,hi,rfl⟩:=yZ hx;exact⟨i,hi,by rw[aY,fq hi];exact h⟩
 ·rintro⟨i,hi,h⟩;exact⟨_,I5 d hi,h⟩
def vy(w:UK)(K:Kp)(p:aQ)(lb A qW:Nat)(lH kM:UL)(L:lE)(pc:Nat)(e:Ending)(w':UK):Prop:=e=C8 (Y (cA p L pc).1)/\aA (A::lH.ownBlock.toList) w w'/\((cA p L pc).1=0->rU w' K p lb (to (H (G A 0)) p.code.length qW) lH kM (cA p L pc).2)
def zy{p:Prop}(h:p:=by
 go_wp2_with fail;refine Vf.wj rfl ?_;exact⟨by rw[HE.o];rfl,aA.af HB.o,λh=>by rw[HE.o]at h;cases h⟩):p:=h
def aaG(h:fW w K p)(hl:rU w K p lb (to (H (G A 0)) p.code.length qW) lH kM L)(ho:mr p L)(oT:pc<p.code.length)(hlen:p.code.length<=262144)(dW:jH (al p pc)=true)(fD:ir p (al p pc)=true):
 Calls prog 232 #[UI lb,Y pc] w (vy w K p lb A qW lH kM L pc):=by
 obtain⟨cb,ze,Cj,kc,q1,q2,c0,c1,c2,c3,c4⟩:=h.ins oT;have lc:=aH c0;obtain⟨-,-,-,-,-,v5,v6⟩:=hl.dS.c7;have ll:=hl.dS.lt;rw[kc]at v5;obtain⟨b,oh,e,a1,a2,a3,s0,s1,s2,s3⟩:=hl.Wy oT;simp only[cM,im,Addr.mk.injEq]at e;obtain⟨⟨rfl,-,-⟩,-,rfl⟩:=e;have HAW:=Z a3;have a0f:=Z h;have HL:=Z hl;have HO:=Z ho;have Dy:=Z oT;have tK:=Z hlen;have S6:Hid (0<=(al p pc).op/\(al p pc).op<42):=Z (by have:=dW;unfold jH aO at this;simp at this;omega);have me:=Z fD;have pk:=ho.at_ pc;have HSO:=Z pk;obtain⟨ha,CU⟩:=dz pk.ha.1;have ha3:ha<=3:=by have:=pk.ha.2;omega
 have HNA:Hid (lb≠A):=Z (by
  have h1:=hl.at_.eZ hl.dS bd;exact λe=>h1 (by rw[e];rfl))
 rw[CU]at s2;have YG:=Z (λhg:(L.at_ pc).kV=false=>show(cA p L pc)=(99,L)by unfold cA;dsimp only;rw[bk hg]);have vt:=Z (λ(hg:(L.at_ pc).kV=true) (e:(eT p (al p pc) (ha:Nat)).1=false)=>show(cA p L pc)=(96,L)by unfold cA;dsimp only;rw[CU,aw (by simp[hg]),bk e]);have ps:=Z (λ(hg:(L.at_ pc).kV=true) (e1:(eT p (al p pc) (ha:Nat)).1=true) (e:(cL (al p pc) (L.at_ pc).ty).1≠0)=>show(cA p L pc)=((cL (al p pc) (L.at_ pc).ty).1,L)by unfold cA;dsimp only;rw[CU,aw (by simp[hg]),aw (by simp[e1]),bk e]);have IV:=Z (λ(hg:(L.at_ pc).kV=true) (e1:(eT p (al p pc) (ha:Nat)).1=true) (e2:(cL (al p pc) (L.at_ pc).ty).1=0) (e:c_ p (al p pc)=false)=>show(cA p L pc)=(92,L)by unfold cA;dsimp only;rw[CU,aw (by simp[hg]),aw (by simp[e1]),aw (by simp[e2]),bk e]);have IU:=Z (λ(hg:(L.at_ pc).kV=true) (e1:(eT p (al p pc) (ha:Nat)).1=true) (e2:(cL (al p pc) (L.at_ pc).ty).1=0) (e3:c_ p (al p pc)=true) (e:iC p L pc (al p pc) (cL (al p pc) (L.at_ pc).ty).2 (L.at_ pc).loop=false)=>show(cA p L pc)=(95,L)by unfold cA;dsimp only;rw[CU,aw (by simp[hg]),aw (by simp[e1]),aw (by simp[e2]),aw (by simp[e3]),bk e]);have UE:=Z (λ(hg:(L.at_ pc).kV=true) (e1:(eT p (al p pc) (ha:Nat)).1=true) (e2:(cL (al p pc) (L.at_ pc).ty).1=0) (e3:c_ p (al p pc)=true) (e4:iC p L pc (al p pc) (cL (al p pc) (L.at_ pc).ty).2 (L.at_ pc).loop=true) (L1:lE) (Om:gA L pc (al p pc) (L.at_ pc).loop=L1) (l:List (Nat×mh)) (Wo:eH L1 pc (al p pc) ⟨(cL (al p pc) (L.at_ pc).ty).2,(L.at_ pc).loop,(eT p (al p pc) (ha:Nat)).2,true⟩=l)=>show(cA p L pc)=(if l.any (λw=>decide (w.1=p.code.length))then((98:Int),L1)else if uZ L1 l=false then(94,L1)else match eX L1 l with|none=>(94,L1)|some L2=>(0,L2))by
  unfold cA;dsimp only;rw[CU,aw (by simp[hg]),aw (by simp[e1]),aw (by simp[e2]),aw (by simp[e3]),aw (by simp[e4]),Om,Wo];rfl)
 have Nl:=Z (λV (X:Below w.heap.size w V)=>aaQ (w:=V) (x:=al p pc) (ha:=ha) (h.aG (aA.af X)) (hl.aG (aA.af X)).dS (λe=>Vf.PQ fD O) ha3);have VM:=Z (λV=>aaO V (x:=al p pc) S6.o.1 S6.o.2 pk.len pk.ty);have HQD:=Z (λV (X:Below w.heap.size w V)=>aaP (w:=V) (x:=al p pc) (h.aG (aA.af X)) (hl.aG (aA.af X)).dS (λe=>Vf.PQ fD O) (λe=>Vf.WH fD e));have HJD:=Z (λV ty (X:Below w.heap.size w V) (ht:fe ty)=>CK (w:=V) (ty:=ty) (loop:=(L.at_ pc).loop) (h.aG (aA.af X)) (hl.aG (aA.af X)) rfl ⟨oT,hlen,pk.lp.2,ht,λn=>(ho.at_ n).ty⟩);have HGD:=Z (λV (s:mh) (X:Below w.heap.size w V) (EB:(al p pc).op=26->0<=s.loop/\s.loop<p.code.length)=>aa6 (w:=V) (s:=s) (h.aG (aA.af X)) (hl.aG (aA.af X)) rfl oT hlen (λe=>Vf.PR fD e) EB);unfold aV aI at Nl VM HQD;have UD:=Z (λe:(cL (al p pc) (L.at_ pc).ty).1=0=>QW pk.ty e);have HHN:=Z (QV p (al p pc) (h:=(ha:Nat)) ⟨O,O⟩);have YF:=Z (λty (e:(al p pc).op=26) (hj:iC p L pc (al p pc) ty (L.at_ pc).loop=true)=>show 0<=(L.at_ pc).loop/\(L.at_ pc).loop<p.code.length by
  refine⟨?_,pk.lp.2⟩;unfold iC at hj;rw[e]at hj;simp at hj;exact hj.2.1)
 have HW2:=Z (λ(L1:lE) s=>aaI L1 pc (al p pc) s);have HWL:=Z (λ(L1:lE) s v=>aaH (L:=L1) (s:=s) (w:=v) oT (λe=>Vf.PR fD e));have HWO:=Z (λs v hs=>QX (I3 ho pc (al p pc) pk.lp) oT (al p pc) (s:=s) (w:=v) hs);have HUP:=Z (I3 ho pc (al p pc) pk.lp);have HLP:=Z pk.lp;clear h hl ho fD pk ha3 CU dW a1 a2;unfold IZ at VM;generalize al p pc=x at*;generalize(L.at_ pc).ty=ty at*;generalize(L.at_ pc).loop=lp at*;generalize(L.at_ pc).kV=g0 at*;generalize cL x ty=od at*;obtain⟨oe,Va⟩:=od;generalize eT p x (ha:Nat)=hd at*;obtain⟨yv,lM⟩:=hd;dsimp only at vt ps IV IU UE UD HHN;dsimp only at VM Nl;cases g0 with
 |false=>have HE:=Z (YG.o ay);go_enter func232,ntmps232;go_wp2_with fail;refine Vf.wj rfl ?_;exact⟨by rw[HE.o];rfl,(aA.refl _ _).alloc _,λh=>by rw[HE.o]at h;cases h⟩
 |true=>
 go_enter func232,ntmps232;go_wp2_with fail;obtain⟨V,hV⟩:∃V,V=(w.alloc (QP #[.string (fM ty),Y lp,Y ha,.bool true] 262)).alloc (QP #[Y x.op,Y x.a,Y x.b,Y x.c,Y x.d] 40):=⟨_,rfl⟩;rw[<-hV];have KS:=Z (show aF V w.heap.size 262 #[.string (fM ty),Y lp,Y ha,.bool true]by rw[hV];exact(aF.new _ _ _).alloc _);have KX:=Z (show aF V (w.heap.size+1) 40 #[Y x.op,Y x.a,Y x.b,Y x.c,Y x.d]by rw[hV];exact aF.bR ay);have HB:=Z (show Below w.heap.size w V by rw[hV];exact((aB _ _).alloc (aL _) _).alloc ay _);clear hV c0 c1 c2 c3 c4 s0 s1 s2 s3 lc v5 v6 ll q1 q2 a3 oT hlen;refine(Nl.o _ HB.o).mono ?_;rintro e W1 ⟨rfl,X⟩;replace KS:=Z (KS.o.of (X.block _ KS.o.lt));replace KX:=Z (KX.o.of (X.block _ KX.o.lt));replace HB:=Z (HB.o.trans (X.mono HB.o.size));clear X;obtain⟨s0,s1,s2,s3⟩:=KS.o.c4;obtain⟨x0,x1,x2,x3,x4⟩:=KX.o.c5;have ls:=KS.o.lt;have lx:=KX.o.lt;cases yv with
 |false=>have HE:=Z (vt.o ay ay);exact zy
 |true=>
 go_wp2_with fail;clear s0 s1 s2 s3 x0 x1 x2 x3 x4 ls lx;refine(VM.o _).mono ?_;rintro e W2 ⟨rfl,X⟩;replace KS:=Z (KS.o.of (X.block _ KS.o.lt));replace KX:=Z (KX.o.of (X.block _ KX.o.lt));replace HB:=Z (HB.o.trans (X.mono HB.o.size));clear X;obtain⟨s0,s1,s2,s3⟩:=KS.o.c4;obtain⟨x0,x1,x2,x3,x4⟩:=KX.o.c5;have ls:=KS.o.lt;have lx:=KX.o.lt;by_cases hoe:oe=0
 case neg=>
  have e1:(oe !=0)=true:=by simpa using hoe
  have HE:=Z (ps.o ay ay hoe);have sU:=Z hoe;clear hoe;go_wp2_with fail;refine Vf.wj rfl ?_;exact⟨by rw[HE.o];rfl,aA.af HB.o,λh=>by rw[HE.o]at h;exact absurd h sU.o⟩
 subst hoe;have HOT:=Z (UD.o ay);go_wp2_with fail;clear s0 s1 s2 s3 x0 x1 x2 x3 x4 ls lx;refine(HQD.o _ HB.o).mono ?_;rintro e W3 ⟨rfl,X⟩;replace KS:=Z (KS.o.of (X.block _ KS.o.lt));replace KX:=Z (KX.o.of (X.block _ KX.o.lt));replace HB:=Z (HB.o.trans (X.mono HB.o.size));clear X;obtain⟨s0,s1,s2,s3⟩:=KS.o.c4;obtain⟨x0,x1,x2,x3,x4⟩:=KX.o.c5;have ls:=KS.o.lt;have lx:=KX.o.lt;cases hk:c_ p x with
 |false=>have HE:=Z (IV.o ay ay ay hk);exact zy
 |true=>
 have M8:=Z hk;clear hk;go_wp2_with fail;clear s0 s1 s2 s3 x0 x1 x2 x3 x4 ls lx;have HJ0:=HJD.o _ Va HB.o HOT.o.1;have HJ6:=Z (λe=>YF.o Va e);have HP4:=Z (IU.o ay ay ay M8.o);have Wk:=Z (UE.o ay ay ay M8.o);generalize iC p L pc x Va lp=jb at*;unfold QT at HJ0;refine HJ0.mono ?_;rintro e W4 ⟨rfl,X⟩;replace KS:=Z (KS.o.of (X.block _ KS.o.lt));replace KX:=Z (KX.o.of (X.block _ KX.o.lt));replace HB:=Z (HB.o.trans (X.mono HB.o.size));clear X;obtain⟨s0,s1,s2,s3⟩:=KS.o.c4;obtain⟨x0,x1,x2,x3,x4⟩:=KX.o.c5;have ls:=KS.o.lt;have lx:=KX.o.lt;cases jb with
 |false=>have HE:=Z (HP4.o rfl);exact zy
 |true=>
 go_wp2_with fail;clear s0 s1 s2 s3 x0 x1 x2 x3 x4 ls lx;have Zm:=HGD.o _ ⟨Va,lp,lM,true⟩ HB.o (λe=>HJ6.o e ay);unfold oB at Zm;refine Zm.mono ?_;rintro e W5 ⟨nv,wv,rfl,hfu,Wo,hwy⟩;have Gn:=Z (show n_ p ⟨Va,lp,lM,true⟩from⟨HOT.o.1,HOT.o.2,HLP.o,HHN.o⟩);have HPE:=Z (Wk.o ay _ rfl _ rfl);have Vc:=Z (HW2.o (gA L pc x lp) ⟨Va,lp,lM,true⟩);have BL:=Z (λv=>HWL.o (gA L pc x lp) ⟨Va,lp,lM,true⟩ v);have Hl:=Z (λv=>HWO.o ⟨Va,lp,lM,true⟩ v Gn.o);have Nj:=Z ((aA.af (S:=lH.ownBlock.toList) HB.o).trans hfu);have Nc:=Z Wo;have Kf:=Z hwy;have TV:=Z (show A<W4.heap.size from eJ HAW.o HB.o.size);dsimp only at Nc Kf;clear hfu Wo hwy Zm HGD HJD HQD VM Nl YG vt ps IV IU UE HP4 Wk HWO HWL HW2 KS KX HJ6 YF UD HB;generalize W4.heap.size=lo at*;generalize Om:gA L pc x lp=L1 at*;clear Om;generalize eH L1 pc x ⟨Va,lp,lM,true⟩=l at*;obtain⟨aa,ac,aa',ac',en,ew⟩:=Kf.o.val;have Bs:=Z en;have Bt:=Z ew;rw[Bs.o,Bt.o];clear en ew;go_wp2_with fail;have KE:=Z (λ(W:UK) (e:Int) (L2:lE) (he:cA p L pc=(e,L2)) (f:aA [A] W5 W) (h0:e=0->rU W K p lb (to (H (G A 0)) p.code.length qW) lH kM L2)=>show vy w K p lb A qW lH kM L pc (C8 (Y e)) W from
  ⟨by rw[he],(Nj.o.mono (λb X=>by simp only[fh];exact .inr X)).trans (f.mono (λb X=>by simp at X;simp[X])),λh=>by rw[he]at h ⊢;exact h0 h⟩)
 refine pl1 (W0:=W5) a0f (Z Nc.o.dS) Kf Vc.o (λB W6 hB4 AK hex=>?_) (λJ6 W6 j0 j1 oG pn AK hA6=>?_) ⟨_,0,FP.of _ rfl,rfl,rfl,Bs.o.symm,Bt.o.symm,rfl,cK _,O,Z (aB _ _),Z (λj hj=>absurd hj O)⟩
 ·try simp only[Exit.inBlock,Exit.then]
  refine Vf.fy (P:=prog) (fn:=Proofs.Tryz.f232) rfl ?_;have hp:cA p L pc=(98,L1):=by obtain⟨j,hj,e⟩:=hex;rw[HPE.o,bk ((Q4 zW).2 ⟨j,hj,by simpa using e⟩)]
  rw[hB4];exact KE.o W6 98 L1 hp (aA.af AK) (λh=>by cases h)
 have tW:=Z (show∀j,j<l.length->(l.getD j zW).1<p.code.length/\n_ p (l.getD j zW).2 from λj hj=>⟨by have:=BL.o _ (I5 zW hj);have:=hA6 j hj;omega,Hl.o _ (I5 zW hj)⟩);have HPF:=Z (show cA p L pc=(if uZ L1 l=false then((94:Int),L1)else match eX L1 l with|none=>(94,L1)|some L2=>(0,L2))by
  rw[HPE.o,aw];intro h;obtain⟨j,hj,e⟩:=(Q4 zW).1 h;exact hA6 j hj (by simpa using e))
 have wk:=Z AK;unfold FP;rw[j0,j1,oG,pn];clear j0 j1 oG pn AK hA6;go_wp2_with fail;refine pl2 (W0:=W5) Nc HUP Kf Vc.o tW (λB W7 hB4 Qn hex=>?_) (λacx W7 j0 j1 oG pn Qn hA7=>?_) ⟨_,0,FP.of _ rfl,rfl,rfl,rfl,rfl,rfl,cK _,O,wk,Z (λj hj=>absurd hj O)⟩
 ·try simp only[Exit.inBlock,Exit.then]
  refine Vf.fy (P:=prog) (fn:=Proofs.Tryz.f232) rfl ?_;have hp:cA p L pc=(94,L1):=by obtain⟨j,hj,e⟩:=hex;rw[HPF.o,bk];rw[vV];intro h;have:=(zD zW).1 h j hj;change zE L1 (l.getD j zW)=true at this;rw[this]at e;cases e
  rw[hB4];exact KE.o W7 94 L1 hp (aA.af Qn) (λh=>by cases h)
 have HPG:=Z (show cA p L pc=(match eX L1 l with|none=>((94:Int),L1)|some L2=>(0,L2))by
  have h:uZ L1 l=true:=(zD zW).2 hA7;rw[HPF.o,h];rfl)
 have EJ:=Z Qn;unfold FP;rw[j0,j1,oG,pn];clear j0 j1 oG pn Qn hA7;go_wp2_with fail;refine pl3 (W0:=W5) (lo:=lo) (Z ⟨TV.o,HNA.o⟩) Kf Vc.o tW (λB W8 hB4 ZV Xq=>?_) (λab3 W8 L2 ZV hl8 Xq=>?_) ⟨_,0,L1,FP.of _ rfl,rfl,rfl,rfl,rfl,rfl,cK _,O,Z (aA.af EJ.o),Z (Nc.o.aG (aA.af EJ.o)),HUP,Z (by rw[List.drop_zero])⟩
 ·try simp only[Exit.inBlock,Exit.then]
  refine Vf.fy (P:=prog) (fn:=Proofs.Tryz.f232) rfl ?_;have hp:cA p L pc=(94,L1):=by rw[HPG.o,Xq]
  rw[hB4];exact KE.o W8 94 L1 hp ZV (λh=>by cases h)
 ·have HT:=Z (KE.o W8 0 L2 (by rw[HPG.o,Xq]) ZV (λ_=>hl8));unfold FP;clear ZV hl8 Xq;go_wp2_with fail;refine Vf.fy (P:=prog) (fn:=Proofs.Tryz.f232) rfl ?_;exact HT.o
end
end Go.Rv
