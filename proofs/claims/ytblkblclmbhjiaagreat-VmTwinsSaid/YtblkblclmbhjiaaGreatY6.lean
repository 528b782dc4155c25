import Derived.Test.YtblkblclmbhjiaaGreatY5
set_option linter.all false
set_option maxHeartbeats 40000000
set_option maxRecDepth 100000
open Go.Proofs.Tryz
open Option renaming some->O,none->MT
open Go renaming Value->to,World->ek
open Go.Value renaming slice->H
open Go.Obj renaming cells->CA
open Go.Ending renaming returned->Vl
open Go.World renaming cell?->Vo
abbrev jO:=@Go.Exit.noGoto_ret
namespace Go.Vf
open Go.RowKit aj.Vm
open aj hiding aR an ak
open Ma (dP ci aX vb aI aV)
def acu(p:aQ)(j:Nat):(dP p j).oneCell'=true:=by
 unfold dP;dsimp only
 repeat' split
 all_goals rfl
def acs(p:aQ)(j:Nat):(ci p j).oneCell'=true:=by
 unfold ci;dsimp only
 repeat' split
 all_goals rfl
def Own(w W:ek)(E:TypeId)(size n:Nat)(v:to)(g:Nat->to):Prop:=Row W E size v n g/\ki w.heap.size W.heap.size v
def Own.later{w W W':ek}{E:TypeId}{size n:Nat}{v:to}{g:Nat->to}(h:Own w W E size n v g)(b:Below W.heap.size W W'):Own w W' E size n v g:=
 ⟨h.1.aG (aA.af (S:=[]) b) ay,h.2.mono (aL _) b.size⟩
structure P7(w W:ek)(K:Kp)(p:aQ):Prop where
 g:Own w W 4 1 p.ax.length K.g (λi=> .bool (p.ax.getD i false))
 v:Own w W 122 3 p.vars.length K.v (dP p)
 t:Own w W 3 1 p.aS.length K.t (aX p.aS)
 o:Own w W 3 1 p.on.length K.o (aX p.on)
 c:Own w W 40 5 p.code.length K.c (ci p)
def Own.fin{w W W':ek}{E T:TypeId}{size n:Nat}{v:to}{g:Nat->to}{cs:Array to}(h:Own w W E size n v g)(hz:aF W (w.heap.size+1) T cs)(ht:E≠T)(f:aA [w.heap.size+1] W W'):Own w W' E size n v g:=
 ⟨h.1.aG f (λb X hm=>Row.eZ h.1 hz ht (by simp at hm;subst hm;exact X)),h.2.mono (aL _) f.size⟩
def Fm(w:ek)(p:aQ)(e:Ending)(w':ek):Prop:=∃K,e=Vl (pV K p)/\P7 w w' K p/\Below w.heap.size w w'
def Mod(p:aQ):Prop:=p.ax.length<=1000000000/\p.vars.length<=1000000000/\p.aS.length<=1000000000/\p.on.length<=1000000000/\p.code.length<=1000000000
def T6(w V:ek)(x0 x1 x2 x3 x4 x5:to):Prop:=Vo V (I w.heap.size 0)=O x0/\Vo V (I w.heap.size 1)=O x1/\Vo V (I w.heap.size 2)=O x2/\Vo V (I w.heap.size 3)=O x3/\Vo V (I w.heap.size 4)=O x4/\Vo V (I w.heap.size 5)=O x5
def ZB(w V:ek):Prop:=Below w.heap.size w V/\aF V (w.heap.size+1) 27 #[Vn,Vn,Vn,Vn,Y 0,Vn]
def ClT(w V:ek)(x0 x1 x2 x3 x4 x5:to)(E:TypeId)(size n:Nat)(g:Nat->to)(e:Ending)(V':ek):Prop:=(∃x y z,e=Vl (H x y z)/\Hid (Own w V' E size n (H x y z) g))/\T6 w V' x0 x1 x2 x3 x4 x5/\Hid (Below V.heap.size V V')/\Hid (ZB w V')/\Vo V' (I (w.heap.size+1) 0)=O Vn/\Vo V' (I (w.heap.size+1) 1)=O Vn/\Vo V' (I (w.heap.size+1) 2)=O Vn/\Vo V' (I (w.heap.size+1) 3)=O Vn/\Vo V' (I (w.heap.size+1) 4)=O (Y 0)/\Vo V' (I (w.heap.size+1) 5)=O Vn/\(∀o,V'.frozen? (I (w.heap.size+1) o)=false)/\w.heap.size+1<V'.heap.size
def cl1{w V:ek}{x0 x1 x2 x3 x4 x5 av:to}{f:FuncId}{E:TypeId}{size n:Nat}{g:Nat->to}(X:Hid (ZB w V))(hs:T6 w V x0 x1 x2 x3 x4 x5)(hc:Calls prog f #[av] V (sJ V E size n g)):
 Calls prog f #[av] V (ClT w V x0 x1 x2 x3 x4 x5 E size n g):=by
 refine hc.mono ?_;rintro e V' ⟨v',rfl,hr,qK,hi⟩;obtain⟨x,y,z,rfl⟩:∃x y z,v'=H x y z:=by obtain⟨x,z,e,-⟩:=(aZ.vd hr).val;exact⟨x,_,z,e⟩
 have hz:=X.o.2.of (qK.block _ X.o.2.lt);have key:∀i v,Vo V (I w.heap.size i)=O v->Vo V' (I w.heap.size i)=O v:=λi v hc=>(bk (qK.block _ (aH hc))).trans hc;exact⟨⟨x,y,z,rfl,Z ⟨hr,hi.mono X.o.1.size (aL _)⟩⟩,⟨key _ _ hs.1,key _ _ hs.2.1,key _ _ hs.2.2.1,key _ _ hs.2.2.2.1,key _ _ hs.2.2.2.2.1,key _ _ hs.2.2.2.2.2⟩,Z qK,Z ⟨X.o.1.trans (qK.mono X.o.1.size),hz⟩,hz.cell 0,hz.cell 1,hz.cell 2,hz.cell 3,hz.cell 4,hz.cell 5,hz.frozen,hz.lt⟩
def sI(w:ek){K:Kp}{p:aQ}(h:fW w K p)(hm:Mod p):Calls prog 54 #[pV K p] w (Fm w p):=by
 obtain⟨⟨ga,gc,g1,g2,g3⟩,⟨va,vc,v1,v2,v3⟩,⟨ta,tc,t1,t2,t3⟩,⟨oa,oc,o1,o2,o3⟩,⟨ca,cc,c1,c2,c3⟩⟩:=h.sl;obtain⟨Jl,rD,hm3,hm4,WS⟩:=hm;have a0g:=Z h;obtain⟨kg,kv,kt,ko,kc⟩:=K;dsimp only at g1 v1 t1 o1 c1;subst g1 v1 t1 o1 c1;have CL:∀{f:FuncId} {E:TypeId} {size n:Nat} {g:Nat->to} {av:to},(∀V,Below w.heap.size w V->Calls prog f #[av] V (sJ V E size n g))->Hid (∀V,Hid (ZB w V)->T6 w V (H ga p.ax.length gc) (H va p.vars.length vc) (H ta p.aS.length tc) (H oa p.on.length oc) (Y p.aT) (H ca p.code.length cc)->Calls prog f #[av] V (ClT w V (H ga p.ax.length gc) (H va p.vars.length vc) (H ta p.aS.length tc) (H oa p.on.length oc) (Y p.aT) (H ca p.code.length cc) E size n g)):=λhc=>Z λV X hs=>cl1 X hs (hc V X.o.1);have C1:=CL (av:=H ga p.ax.length gc) λV b=>Ij ((a0g.o.aG (aA.af b)).g) G (λj _=>rfl);have C2:=CL (av:=H va p.vars.length vc) λV b=>Mg ((a0g.o.aG (aA.af b)).v) G (λj _=>acu p j);have C3:=CL (av:=H ta p.aS.length tc) λV b=>mM ((a0g.o.aG (aA.af b)).t) G (λj _=>rfl);have C4:=CL (av:=H oa p.on.length oc) λV b=>mM ((a0g.o.aG (aA.af b)).o) G (λj _=>rfl);have C5:=CL (av:=H ca p.code.length cc) λV b=>aav ((a0g.o.aG (aA.af b)).cd) G (λj _=>acs p j);have ep:Below w.heap.size w (((w.alloc (CA #[H ga p.ax.length gc,H va p.vars.length vc,H ta p.aS.length tc,H oa p.on.length oc,Y p.aT,H ca p.code.length cc] 27)).alloc (CA #[Vn,Vn,Vn,Vn,Y 0,Vn] 27)).drew):=(((aY _ _).alloc (aL _) _).alloc ay _).trans (az _ _ 1);have k0:aF (((w.alloc (CA #[H ga p.ax.length gc,H va p.vars.length vc,H ta p.aS.length tc,H oa p.on.length oc,Y p.aT,H ca p.code.length cc] 27)).alloc (CA #[Vn,Vn,Vn,Vn,Y 0,Vn] 27)).drew) w.heap.size 27 #[H ga p.ax.length gc,H va p.vars.length vc,H ta p.aS.length tc,H oa p.on.length oc,Y p.aT,H ca p.code.length cc]:=((aF.new w _ _).alloc _).drewN 1;have k1:aF (((w.alloc (CA #[H ga p.ax.length gc,H va p.vars.length vc,H ta p.aS.length tc,H oa p.on.length oc,Y p.aT,H ca p.code.length cc] 27)).alloc (CA #[Vn,Vn,Vn,Vn,Y 0,Vn] 27)).drew) (w.heap.size+1) 27 #[Vn,Vn,Vn,Vn,Y 0,Vn]:=(aF.bR ay).drewN 1;have eV:=Z (And.intro ep k1);have ru:(((w.alloc (CA #[H ga p.ax.length gc,H va p.vars.length vc,H ta p.aS.length tc,H oa p.on.length oc,Y p.aT,H ca p.code.length cc] 27)).alloc (CA #[Vn,Vn,Vn,Vn,Y 0,Vn] 27)).drew).cell? (I w.heap.size 0)=O (H ga p.ax.length gc)/\(((w.alloc (CA #[H ga p.ax.length gc,H va p.vars.length vc,H ta p.aS.length tc,H oa p.on.length oc,Y p.aT,H ca p.code.length cc] 27)).alloc (CA #[Vn,Vn,Vn,Vn,Y 0,Vn] 27)).drew).cell? (I w.heap.size 1)=O (H va p.vars.length vc)/\(((w.alloc (CA #[H ga p.ax.length gc,H va p.vars.length vc,H ta p.aS.length tc,H oa p.on.length oc,Y p.aT,H ca p.code.length cc] 27)).alloc (CA #[Vn,Vn,Vn,Vn,Y 0,Vn] 27)).drew).cell? (I w.heap.size 2)=O (H ta p.aS.length tc)/\(((w.alloc (CA #[H ga p.ax.length gc,H va p.vars.length vc,H ta p.aS.length tc,H oa p.on.length oc,Y p.aT,H ca p.code.length cc] 27)).alloc (CA #[Vn,Vn,Vn,Vn,Y 0,Vn] 27)).drew).cell? (I w.heap.size 3)=O (H oa p.on.length oc)/\(((w.alloc (CA #[H ga p.ax.length gc,H va p.vars.length vc,H ta p.aS.length tc,H oa p.on.length oc,Y p.aT,H ca p.code.length cc] 27)).alloc (CA #[Vn,Vn,Vn,Vn,Y 0,Vn] 27)).drew).cell? (I w.heap.size 4)=O (Y p.aT)/\(((w.alloc (CA #[H ga p.ax.length gc,H va p.vars.length vc,H ta p.aS.length tc,H oa p.on.length oc,Y p.aT,H ca p.code.length cc] 27)).alloc (CA #[Vn,Vn,Vn,Vn,Y 0,Vn] 27)).drew).cell? (I w.heap.size 5)=O (H ca p.code.length cc):=⟨k0.cell 0,k0.cell 1,k0.cell 2,k0.cell 3,k0.cell 4,k0.cell 5⟩;clear k0 k1 ep h g2 g3 v2 v3 t2 t3 o2 o3 c2 c3;unfold pV;dsimp only;go_enter func54,ntmps54;go_wp2_with fail;generalize(w.alloc (CA #[H ga p.ax.length gc,H va p.vars.length vc,H ta p.aS.length tc,H oa p.on.length oc,Y p.aT,H ca p.code.length cc] 27)).alloc (CA #[Vn,Vn,Vn,Vn,Y 0,Vn] 27)=W0 at*;refine Gd.region [18] (λ_=>True) (λwx=>Vo wx (I w.heap.size 0)=O (H ga p.ax.length gc)/\Vo wx (I w.heap.size 1)=O (H va p.vars.length vc)/\Vo wx (I w.heap.size 2)=O (H ta p.aS.length tc)/\Vo wx (I w.heap.size 3)=O (H oa p.on.length oc)/\Vo wx (I w.heap.size 4)=O (Y p.aT)/\Vo wx (I w.heap.size 5)=O (H ca p.code.length cc)) bh ⟨trivial,ru⟩ (λau=>?_);generalize W0.drew=V0 at*;refine Mk.Dm 0 ?_;refine Mk.Dm 1 ?_;refine Mk.Dm 3 ?_;refine Mk.Dm 4 ?_;refine Mk.Dm 6 ?_;refine Mk.Dm 7 ?_;refine Mk.Dm 9 ?_;refine Mk.Dm 10 ?_;refine Mk.Dm 12 ?_;refine Mk.Dm 13 ?_;refine Mk.Dm 14 ?_;refine Mk.Dm 15 ?_;refine Gd.ready (rs:=[2]) bh ay ?_;refine Gd.eC.cons rfl (λK hK=>?_) Gd.eC.nil;refine fH ?_;go_simp;go_at_call 98;refine(C1.o _ eV ru).mono ?_;rintro e w1 ⟨⟨x1,y1,z1,rfl,hO1⟩,wY,Om,hQ1,-⟩;clear C1;clear au;refine hK.out _ _ ⟨trivial,wY⟩ (λau=>?_);clear hK K;refine Mk.pt ?_;refine Gd.ready (rs:=[5]) bh ay ?_;refine Gd.eC.cons rfl (λK hK=>?_) Gd.eC.nil;refine fH ?_;go_simp;go_at_call 99;refine(C2.o _ hQ1 wY).mono ?_;rintro e w2 ⟨⟨x2,y2,z2,rfl,hO2⟩,RI,hL2,hQ2,-⟩;clear C2 hQ1;clear au;refine hK.out _ _ ⟨trivial,RI⟩ (λau=>?_);clear hK K;refine Mk.pt ?_;refine Gd.ready (rs:=[8]) bh ay ?_;refine Gd.eC.cons rfl (λK hK=>?_) Gd.eC.nil;refine fH ?_;go_simp;go_at_call 55;refine(C3.o _ hQ2 RI).mono ?_;rintro e w3 ⟨⟨x3,y3,z3,rfl,hO3⟩,ET,hL3,Rz,-⟩;clear C3 hQ2;clear au;refine hK.out _ _ ⟨trivial,ET⟩ (λau=>?_);clear hK K;refine Mk.pt ?_;refine Gd.ready (rs:=[11]) bh ay ?_;refine Gd.eC.cons rfl (λK hK=>?_) Gd.eC.nil;refine fH ?_;go_simp;go_at_call 55;refine(C4.o _ Rz ET).mono ?_;rintro e w4 ⟨⟨x4,y4,z4,rfl,hO4⟩,Wi,ZJ,hQ4,-⟩;clear C4 Rz;clear au;refine hK.out _ _ ⟨trivial,Wi⟩ (λau=>?_);clear hK K;refine Mk.pt ?_;refine Gd.ready (rs:=[16]) bh ay ?_;refine Gd.eC.cons rfl (λK hK=>?_) Gd.eC.nil;refine fH ?_;go_simp;go_at_call 100;refine(C5.o _ hQ4 Wi).mono ?_;rintro e w5 ⟨⟨x5,y5,z5,rfl,hO5⟩,Gb,hL5,T9,jn,nQ,qm,ZK,hz4,hz5,hzf,hzl⟩;clear C5 hQ4;clear au;refine hK.out _ _ ⟨trivial,Gb⟩ (λau=>?_);clear hK K;refine Mk.pt ?_;refine Gd.ready (rs:=[17]) bh ay ?_;refine Gd.eC.cons rfl (λK hK=>?_) Gd.eC.nil;refine fH ?_;go_simp;refine hK.out _ _ au (λau=>?_);clear hK K;refine Mk.pt ?_;refine Gd.ready (rs:=[18]) bh ay ?_;refine Gd.eC.last rfl bh (λK hK=>?_) Gd.eC.nil;refine fH ?_;go_simp;refine hK.out _ _ trivial ?_;clear hK K;refine Mk.pt ?_;refine Gd.done bh ⟨rfl,?_⟩ _;clear au;go_wp2_with fail;have f9:aA [w.heap.size+1] w5 _:=(((((((aA.refl [w.heap.size+1] w5).setCell (p:=(I (w.heap.size+1) 0)) ay (H x1 y1 z1)).setCell (p:=(I (w.heap.size+1) 1)) ay (H x2 y2 z2)).setCell (p:=(I (w.heap.size+1) 2)) ay (H x3 y3 z3)).setCell (p:=(I (w.heap.size+1) 3)) ay (H x4 y4 z4)).setCell (p:=(I (w.heap.size+1) 4)) ay (Y p.aT)).setCell (p:=(I (w.heap.size+1) 5)) ay (H x5 y5 z5));have b9:=((((((T9.o.2.set 0 (H x1 y1 z1)).set 1 (H x2 y2 z2)).set 2 (H x3 y3 z3)).set 3 (H x4 y4 z4)).set 4 (Y p.aT)).set 5 (H x5 y5 z5));simp only[List.setIfInBounds_toArray,List.set_cons_zero,List.set_cons_succ]at b9;have L1:=(hL2.o.trans (hL3.o.mono hL2.o.size)).trans ((ZJ.o.trans (hL5.o.mono ZJ.o.size)).mono (cU hL2.o.size hL3.o.size));have L2:=(hL3.o.trans (ZJ.o.mono hL3.o.size)).trans (hL5.o.mono (cU hL3.o.size ZJ.o.size));have L3:=ZJ.o.trans (hL5.o.mono ZJ.o.size);have acq:P7 w ((((((w5.setCell (I (w.heap.size+1) 0) (H x1 y1 z1)).setCell (I (w.heap.size+1) 1) (H x2 y2 z2)).setCell (I (w.heap.size+1) 2) (H x3 y3 z3)).setCell (I (w.heap.size+1) 3) (H x4 y4 z4)).setCell (I (w.heap.size+1) 4) (Y p.aT)).setCell (I (w.heap.size+1) 5) (H x5 y5 z5)) ⟨H x1 y1 z1,H x2 y2 z2,H x3 y3 z3,H x4 y4 z4,H x5 y5 z5⟩ p:=
  ⟨(hO1.o.later L1).fin T9.o.2 bd f9,(hO2.o.later L2).fin T9.o.2 bd f9,(hO3.o.later L3).fin T9.o.2 bd f9,(hO4.o.later hL5.o).fin T9.o.2 bd f9,hO5.o.fin T9.o.2 bd f9⟩
 have B9:=T9.o.1.trans (f9.below (B:=w.heap.size) T9.o.1.size ay);generalize((((((w5.setCell (I (w.heap.size+1) 0) (H x1 y1 z1)).setCell (I (w.heap.size+1) 1) (H x2 y2 z2)).setCell (I (w.heap.size+1) 2) (H x3 y3 z3)).setCell (I (w.heap.size+1) 3) (H x4 y4 z4)).setCell (I (w.heap.size+1) 4) (Y p.aT)).setCell (I (w.heap.size+1) 5) (H x5 y5 z5))=W9 at*;obtain⟨i0,i1,i2,i3,i4,i5⟩:=b9.c6;clear b9 f9 L1 L2 L3 hO1 hO2 hO3 hO4 hO5 Om hL2 hL3 ZJ hL5 T9 wY RI ET Wi Gb jn nQ qm ZK hz4 hz5 hzf hzl;refine bK ?_ rfl ⟨_,rfl,acq,B9⟩;simp[results,results54,go_sem,i0,i1,i2,i3,i4,i5,pV]
end Go.Vf
section
def TR{p:Prop}(h:p:=by
 rintro a W ⟨J,i,-,-,-,-,-,-,h1,h2,-⟩;omega):p:=h
namespace aj.Vm
structure TOk(p:aQ)(T:Map):Prop where
 loops:∀q s,T q=some s->dB p T q s.lo
 ty:∀q s,T q=some s->fe s.ty
 len:∀q s,T q=some s->s.ty.length<=256
 ha:∀q s,T q=some s->s.ha<=3
 lt:∀q s,T q=some s->q<p.code.length
def acY:∀n,n<42->cG n<=2:=by decide
def Fe{x:Ins}{ty:List Nat}(h:x.op.toNat<42)(ht:fe ty):fe (a_ x ty):=by
 have hg:=acY _ h;unfold a_;dsimp only;split
 ·exact ht.drop _
 ·next h0=>
  intro t hm;rcases List.mem_cons.1 hm with rfl|hm
  ·omega
  ·exact ht.drop _ t hm
def acX{p:aQ}{x:Ins}{ha:Nat}(h:ha<=3):bE p x ha<=3:=by
 unfold bE;split
 ·omega
 split
 ·omega
 split
 ·split<;>omega
 ·exact h
def Zo{p:Prop}(h:p:=by
 simp at h;rcases h with rfl|rfl<;>exact⟨rfl,rfl⟩):p:=h
def CR{pc:Nat}{x:Ins}{s:Std}{w:Nat×Std}(h:w∈cH pc x s):w.2.ty=s.ty/\w.2.ha=s.ha:=by
 unfold cH at h;split at h
 ·simp at h
 split at h
 ·simp at h;subst h;exact⟨rfl,rfl⟩
 split at h
 ·exact Zo
 split at h
 ·exact Zo
 split at h
 ·exact Zo
 ·simp at h;subst h;exact⟨rfl,rfl⟩
def acW{p:aQ}{T:Map}{pc:Nat}(K:TOk p T)(h41:(al p pc).op<=41)(h:dl p T pc=0):TOk p (jp p T pc):=by
 obtain⟨s,hT,g1,g2,g3,g4,g5,g6,g7,g8⟩:=look_ok h;obtain⟨a1,a2,a3⟩:=B_ _ T g6 g7;rw[g8];have ht:=Fe (x:=al p pc) G (K.ty pc s hT);have hl:=Bd g2 (K.len pc s hT);have hh:=acX (p:=p) (x:=al p pc) (K.ha pc s hT);refine⟨λq s' hq=>?_,λq s' hq=>?_,λq s' hq=>?_,λq s' hq=>?_,λq s' hq=>?_⟩
 ·rcases a3 q s' hq with h1|h1
  ·exact(K.loops q s' h1).sub a1
  ·exact(uN hT K.loops g4 h1).sub a1
 ·rcases a3 q s' hq with h1|h1
  ·exact K.ty q s' h1
  ·rw[(CR h1).1];exact ht
 ·rcases a3 q s' hq with h1|h1
  ·exact K.len q s' h1
  ·rw[(CR h1).1];exact hl
 ·rcases a3 q s' hq with h1|h1
  ·exact K.ha q s' h1
  ·rw[(CR h1).2];exact hh
 ·rcases a3 q s' hq with h1|h1
  ·exact K.lt q s' h1
  ·exact g5 _ h1
def acV{p:aQ}(tb:tM p):TOk p (dA p):=by
 have L:=pG tb;refine⟨L.loops,λq s h=>?_,L.len,λq s h=>?_,L.lt⟩
 ·unfold dA at h;split at h
  ·rw[<-fF h];intro t ht;simp at ht
  ·simp at h
 ·unfold dA at h;split at h
  ·rw[<-fF h];exact Nat.zero_le _
  ·simp at h
end aj.Vm
end
namespace Go.Vf
open Go.RowKit aj.Vm
open aj hiding aR an ak
open Ma (dP ci aX vb aI aV)
def mF:Code->List Code
 | .loop c=>[c]
 | .seq a b=>mF a++mF b
 | .block _ c=>mF c
 | .scope c=>mF c
 | .cond _ a b=>mF a++mF b
 |_=>[]
noncomputable def lkL(k:Nat):Code:=((mF (Proofs.Tryz.f173.body.getD .skip))[k]?).getD .skip
def FK(J:Nat->to):Act:={tmps:=#[J 0,J 1,J 2,J 3,J 4,J 5,J 6,J 7,J 8,J 9,J 10,J 11,J 12,J 13,J 14,J 15,J 16,J 17,J 18,J 19,J 20,J 21,J 22,J 23,J 24,J 25,J 26,J 27,J 28,J 29,J 30,J 31,J 32,J 33,J 34,J 35,J 36,J 37,J 38,J 39,J 40,J 41,J 42,J 43,J 44,J 45,J 46,J 47,J 48,J 49,J 50,J 51,J 52,J 53,J 54,J 55,J 56,J 57,J 58,J 59,J 60,J 61,J 62,J 63,J 64,J 65,J 66,J 67,J 68,J 69,J 70,J 71,J 72,J 73,J 74,J 75,J 76,J 77,J 78,J 79,J 80,J 81,J 82,J 83,J 84,J 85,J 86,J 87,J 88,J 89,J 90,J 91,J 92,J 93,J 94,J 95,J 96,J 97,J 98,J 99,J 100,J 101,J 102,J 103,J 104,J 105,J 106,J 107,J 108,J 109,J 110,J 111,J 112,J 113,J 114,J 115,J 116,J 117,J 118,J 119,J 120,J 121,J 122,J 123,J 124,J 125,J 126,J 127,J 128,J 129,J 130,J 131,J 132,J 133,J 134,J 135,J 136,J 137,J 138,J 139,J 140,J 141,J 142,J 143,J 144,J 145,J 146,J 147,J 148,J 149,J 150,J 151,J 152,J 153,J 154,J 155,J 156],defers:=[]}
def FK.of(A:Array to)(h:A=(FK λk=>A.getD k undef).tmps):({tmps:=A,defers:=[]}:Act)=FK λk=>A.getD k undef:=by rw[h];rfl
section
variable {w1:ek}{K:Kp}{p:aQ}{jg:to}{vb:Nat}{T:Map}{lo:Nat}{sv lv:to}{l:List (Nat×Std)}{wb:Nat->to}{Q:Exit->Act->ek->Prop}
def iN.Nt{W:ek}(h:iN W lo sv lv l wb){i:Nat}(hi:i<l.length):∃b off cap ma mc,lv=H (O (I b off)) l.length cap/\l.length<=cap/\cap<=maxLen/\b<W.heap.size/\wb i=H ma ((l.getD i eP).2.lo.length-8) mc/\
 Vo W (I b (off+i*14))=O (Y (l.getD i eP).1)/\Vo W (I b (off+i*14+1))=O (.bool true)/\Vo W (I b (off+i*14+2))=O (.string (gE (l.getD i eP).2.ty))/\Vo W (I b (off+i*14+3))=O (Y (bI (l.getD i eP).2.lo 0))/\Vo W (I b (off+i*14+4))=O (Y (bI (l.getD i eP).2.lo 1))/\Vo W (I b (off+i*14+5))=O (Y (bI (l.getD i eP).2.lo 2))/\Vo W (I b (off+i*14+6))=O (Y (bI (l.getD i eP).2.lo 3))/\Vo W (I b (off+i*14+7))=O (Y (bI (l.getD i eP).2.lo 4))/\Vo W (I b (off+i*14+8))=O (Y (bI (l.getD i eP).2.lo 5))/\Vo W (I b (off+i*14+9))=O (Y (bI (l.getD i eP).2.lo 6))/\Vo W (I b (off+i*14+10))=O (Y (bI (l.getD i eP).2.lo 7))/\Vo W (I b (off+i*14+11))=O (Y (l.getD i eP).2.lo.length)/\Vo W (I b (off+i*14+12))=O (Y (l.getD i eP).2.ha)/\Vo W (I b (off+i*14+13))=O (wb i):=by
 obtain⟨b,off,cap,rfl,h1,h2,h3,hc⟩:=h.row.some G G;obtain⟨ma,mc,hm,-,-⟩:=aZ.val (h.more i hi);have key:∀k,k<14->Vo W (I b (off+i*14+k))=O ((uA (l.getD i eP).1 (l.getD i eP).2 (wb i)).getD k undef):=λk hk=>by have e:=hc (i*14+k) G;rw[<-Nat.add_assoc]at e;rw[e];unfold wyC;rw[show(i*14+k) / 14=i by omega,show(i*14+k) % 14=k by omega]
 exact⟨b,off,cap,ma,mc,rfl,h1,h2,h3,hm,key 0 G,key 1 G,key 2 G,key 3 G,key 4 G,key 5 G,key 6 G,key 7 G,key 8 G,key 9 G,key 10 G,key 11 G,key 12 G,key 13 G⟩
def iN.aG{W W':ek}(h:iN W lo sv lv l wb)(f:aA [] W W'):iN W' lo sv lv l wb:=⟨h.row.aG f,λi hi=>(h.more i hi).aG f,h.off⟩
def L1(w1:ek)(vb:Nat)(pc:Nat)(lv:to)(n:Nat)(m:Nat)(a:Act)(W:ek):Prop:=
 ∃(J:Nat->to) (i:Nat),a=FK J/\J 0=V5 vb/\J 1=Y pc/\J 8=lv/\J 71=lv/\J 72=Y n/\J 73=Y i/\i<=n/\m+i=n+1/\Hid (Below w1.heap.size w1 W)
def lk1{pc:Nat}(HP:Hid (fW w1 K p))(HV:Hid (aF w1 vb 230 (sM K p jg)))(HY:Hid (iN w1 lo sv lv l wb))(hl:l.length<=2)
 (iU:∀(A:Array to) W,A.getD 4 undef=Y 98->Below w1.heap.size w1 W->(∃i,i<l.length/\p.code.length<=(l.getD i eP).1)->Q .ret {tmps:=A,defers:=[]} W)
 (d_:∀(J:Nat->to) W,J 0=V5 vb->J 1=Y pc->J 8=lv->Below w1.heap.size w1 W->(∀i,i<l.length->(l.getD i eP).1<p.code.length)->Q (.exit 0) (FK J) W)
 {a:Act} {W:ek} (h:L1 w1 vb pc lv l.length (l.length+1) a W):(Code.loop (lkL 0)).wp prog Q a W:=by
 refine Mk.aN (λm a W=>L1 w1 vb pc lv l.length m a W/\∀i,i+m<=l.length->(l.getD i eP).1<p.code.length) (l.length+1) ⟨h,λi hi=>G⟩ ?_ ?_
 ·rintro a W ⟨⟨J,i,-,-,-,-,-,-,-,h1,h2,-⟩,-⟩;omega
 rintro m a0 W ⟨⟨J,i,rfl,j0,j1,j8,j71,j72,j73,hi,hm,HB⟩,hA⟩;have K_:∀k,k<i->(l.getD k eP).1<p.code.length:=λk hk=>hA k G;have HA:=Z K_;clear hA K_;unfold FK
 conv=>arg 2;whnf
 have w2:=mO i G;rw[j0,j1,j8,j71,j72,j73];have HJ:=Z (And.intro j0 (And.intro j1 j8));clear j0 j1 j8 j71 j72 j73;by_cases be:i<l.length
 ·obtain⟨b,off,cap,ma,mc,Kd,q1,q2,lb,em,c0,c1,c2,c3,c4,c5,c6,c7,c8,c9,JQ,JR,Vs,ri⟩:=(HY.o.aG (aA.af HB.o)).Nt be;rw[em]at ri;have WA:=Z em;have HE:=Z Kd;have hv:=HV.o.of (HB.o.block _ HV.o.lt);have v5:Vo W (I vb 5)=O K.c:=hv.cell 5;obtain⟨ca,cc,kc,-,-⟩:=aZ.val HP.o.cd;rw[kc]at v5;have lv0:=hv.lt;have dU:(l.getD i eP).1<p.code.length\/p.code.length<=(l.getD i eP).1:=G;have WB:=Z (show∀z,(l.getD i eP).1=z->(p.code.length<=z->∃i,i<l.length/\p.code.length<=(l.getD i eP).1)/\(z<p.code.length->∀k,k<i+1->(l.getD k eP).1<p.code.length)from λz hz=>⟨λhh=>⟨i,be,G⟩,λhh k hk=>by
   by_cases e:k=i
   ·subst e;omega
   ·exact HA.o k G⟩)
  obtain⟨z,hz⟩:∃z,(l.getD i eP).1=z:=⟨_,rfl⟩;have HWB:=Z (WB.o z hz);rw[hz]at dU c0;clear em Kd hv WB hz kc;generalize gE (l.getD i eP).2.ty=tb at*;generalize bI (l.getD i eP).2.lo=lc at*;generalize(l.getD i eP).2.ha=ha at*;generalize(l.getD i eP).2.lo.length=ln at*;generalize CG:ln-8=n8 at*;have RK:=Z CG;clear CG;rw[HE.o];rcases dU with dU|dU
  ·go_wp2;go_quiet (fail);go_wp2;refine⟨⟨_,i+1,FK.of _ rfl,rfl,rfl,rfl,rfl,rfl,rfl,be,G,Z ((HB.o.alloc HB.o.size _).trans (az _ _ _))⟩,λk hk=>(HWB.o.2 dU k G)⟩
  ·go_wp2;go_quiet (fail);go_wp2;exact iU _ _ rfl ((HB.o.alloc HB.o.size _).trans (az _ _ _)) (HWB.o.1 dU)
 ·obtain rfl:i=l.length:=G;clear be;go_wp2;exact Eq.mpr (bu (λa=>Q (.exit 0) a W) (FK.of _ rfl)) (d_ _ _ rfl rfl rfl HB.o HA.o)
noncomputable def lkI:Code:=((mF (lkL 1))[0]?).getD .skip
def WOk(l:List (Nat×Std)):Prop:=∀i,i<l.length->fe (l.getD i eP).2.ty/\(l.getD i eP).2.lo.length<=1000000000
def L3(w1:ek)(vb:Nat)(pc:Nat)(lv:to)(l:List (Nat×Std))(wb:Nat->to)(i bx:Nat)(sv:to)(m:Nat)(a:Act)(W:ek):Prop:=
 ∃(J:Nat->to) (j:Nat),a=FK J/\J 0=V5 vb/\J 1=Y pc/\J 8=lv/\J 12=V5 bx/\J 87=lv/\J 88=Y l.length/\J 89=Y i/\J 96=sv/\J 97=Y i/\J 98=Y j/\j<=i/\m+j=i+1/\Hid (Below w1.heap.size w1 W)/\Hid (w1.heap.size<=bx/\aF W bx 279 (uA (l.getD i eP).1 (l.getD i eP).2 (wb i)))
def lk3{pc i bx b off cap:Nat}(HY:Hid (iN w1 lo sv lv l wb))(HW:Hid (WOk l))(hl:l.length<=2)(Nf:i<l.length)(Gg:Hid (lv=H (O (I b off)) l.length cap))
 (iU:∀(A:Array to) W,A.getD 4 undef=Y 94->Below w1.heap.size w1 W->(∃j,j<i/\(l.getD j eP).1=(l.getD i eP).1/\(l.getD j eP).2≠(l.getD i eP).2)->Q .ret {tmps:=A,defers:=[]} W)
 (d_:∀(J:Nat->to) W,J 0=V5 vb->J 1=Y pc->J 8=lv->J 12=V5 bx->J 87=lv->J 88=Y l.length->J 89=Y i->Below w1.heap.size w1 W->aF W bx 279 (uA (l.getD i eP).1 (l.getD i eP).2 (wb i))->(∀j,j<i->(l.getD j eP).1=(l.getD i eP).1->(l.getD j eP).2=(l.getD i eP).2)->Q (.exit 4) (FK J) W)
 {a:Act} {W:ek} (h:L3 w1 vb pc lv l wb i bx (H (O (I b off)) i cap) (i+1) a W):(Code.loop lkI).wp prog Q a W:=by
 refine Mk.aN (λm a W=>L3 w1 vb pc lv l wb i bx (H (O (I b off)) i cap) m a W/\∀j,j+m<=i->(l.getD j eP).1=(l.getD i eP).1->(l.getD j eP).2=(l.getD i eP).2) (i+1) ⟨h,λi hi=>G⟩ ?_ ?_
 ·rintro a W ⟨⟨J,j,-,-,-,-,-,-,-,-,-,-,-,h1,h2,-⟩,-⟩;omega
 rintro m a0 W ⟨⟨J,j,rfl,j0,j1,j8,pn,WC,WD,WE,j96,j97,j98,hj,hm,HB,HX⟩,hA⟩;have K_:∀k,k<j->(l.getD k eP).1=(l.getD i eP).1->(l.getD k eP).2=(l.getD i eP).2:=λk hk=>hA k G;have HA:=Z K_;clear hA K_;unfold FK
 conv=>arg 2;whnf
 have w2:IntKind.i64.wrap ((j:Int)+1)=((j+1:Nat):Int):=by rw[bJ _ lI];omega
 rw[j0,j1,j8,pn,WC,WD,WE,j96,j97,j98];clear j0 j1 j8 pn WC WD WE j96 j97 j98;by_cases be:j<i
 ·obtain⟨b',Zp,oh,ma,mc,Kd,q1,q2,lb,em,c0,c1,c2,c3,c4,c5,c6,c7,c8,c9,JQ,JR,Vs,ri⟩:=(HY.o.aG (aA.af HB.o)).Nt (i:=j) G;obtain⟨-,-,-,ma',mc',-,-,-,-,WG,-⟩:=(HY.o.aG (aA.af HB.o)).Nt Nf;rw[Gg.o]at Kd;simp only[cz,im,Addr.mk.injEq]at Kd;obtain⟨⟨rfl,rfl,-⟩,-,rfl⟩:=Kd;have mB:∀k,Vo W (I bx k)=(uA (l.getD i eP).1 (l.getD i eP).2 (wb i))[k]? :=λk=>HX.o.2.cell k;have lx:=HX.o.2.lt;have RN:=HX.o.1;rw[WG]at mB;have d0:=mB 0;have d1:=mB 1;have d2:=mB 2;have d3:=mB 3;have d4:=mB 4;have d5:=mB 5;have d6:=mB 6;have d7:=mB 7;have d8:=mB 8;have d9:=mB 9;have d10:=mB 10;have d11:=mB 11;have d12:=mB 12;have d13:=mB 13;clear mB;unfold uA at d0 d1 d2 d3 d4 d5 d6 d7 d8 d9 d10 d11 d12 d13;simp only[List.getElem?_toArray,List.getElem?_cons_zero,List.getElem?_cons_succ]at d0 d1 d2 d3 d4 d5 d6 d7 d8 d9 d10 d11 d12 d13;have Dx:=Z (λV (X:Below w1.heap.size w1 V)=>Iq (w:=V) true true ((HY.o.more j G).aG (aA.af X)) ((HY.o.more i Nf).aG (aA.af X)) (HW.o j G).1 (HW.o i Nf).1 (HW.o j G).2 (HW.o i Nf).2);have zg:∃z,decide ((l.getD j eP).2=(l.getD i eP).2)=z:=⟨_,rfl⟩;obtain⟨dd,zg⟩:=zg;rw[zg]at Dx;have Zq:=Z zg;clear zg;rw[em]at ri;rw[em,WG]at Dx;unfold dY cQ at Dx;have WA:=Z em;have Zr:=Z WG;clear em WG;have HZ:=Z (rfl:(l.getD j eP).1=(l.getD j eP).1);obtain⟨zj,hzj⟩:∃z,(l.getD j eP).1=z:=⟨_,rfl⟩;obtain⟨zi,DI⟩:∃z,(l.getD i eP).1=z:=⟨_,rfl⟩;rw[hzj]at c0;rw[DI]at d0;have HZJ:=Z hzj;have RP:=Z DI;clear HZ hzj DI;generalize v_:gE (l.getD j eP).2.ty=tb at*;have ub:=Z v_;generalize Fc:bI (l.getD j eP).2.lo=lc at*;have CN:=Z Fc;generalize CU:(l.getD j eP).2.ha=ha at*;have Nk:=Z CU;generalize CO:(l.getD j eP).2.lo.length=ln at*;have sD:=Z CO;generalize CG:ln-8=n8 at*;have RK:=Z CG;clear v_ Fc CU CO CG;generalize Fv:gE (l.getD i eP).2.ty=tb' at*;have ae8:=Z Fv;generalize II:bI (l.getD i eP).2.lo=lc' at*;have ae9:=Z II;generalize Ql:(l.getD i eP).2.ha=ha' at*;have afa:=Z Ql;generalize Ft:(l.getD i eP).2.lo.length=ln' at*;have afb:=Z Ft;generalize Qk:ln'-8=n8' at*;have afc:=Z Qk;clear Fv II Ql Ft Qk;have dE:=Z be;by_cases hz:zj=zi
  ·subst hz;go_wp2_with fail
   with_reducible refine(Dx.o _ (HB.o.alloc HB.o.size _)).mono ?_
   rintro e W1 ⟨rfl,X⟩;have Jm:Hid (Below w1.heap.size w1 W1):=Z ((HB.o.alloc HB.o.size _).trans (X.mono (by simp only[aM];have:=HB.o.size;omega)));have hX1:Hid (w1.heap.size<=bx/\aF W1 bx 279 (uA (l.getD i eP).1 (l.getD i eP).2 (wb i))):=Z ⟨RN,(HX.o.2.alloc _).of (X.block _ (by simp only[aM];omega))⟩;clear X c0 d0 c1 d1 c2 d2 c3 d3 c4 d4 c5 d5 c6 d6 c7 d7 c8 d8 c9 d9 JQ d10 JR d11 Vs d12 ri d13;cases dd with
   |false=>go_wp2_with fail;exact iU _ _ rfl Jm.o ⟨j,dE.o,by rw[HZJ.o,RP.o],λh=>by have h2:=Zq.o;rw[qS]at h2;exact h2 h⟩
   |true=>
    go_wp2;refine⟨⟨_,j+1,FK.of _ rfl,rfl,rfl,rfl,rfl,rfl,rfl,rfl,rfl,rfl,rfl,dE.o,G,Jm,hX1⟩,λk hk hz=>?_⟩;by_cases e:k=j
    ·subst e;exact rS Zq.o
    ·exact HA.o k G hz
  ·have hz':((zj:Int)==(zi:Int))=false:=by simp;omega
   have sU:=Z hz;go_wp2;refine⟨⟨_,j+1,FK.of _ rfl,rfl,rfl,rfl,rfl,rfl,rfl,rfl,rfl,rfl,rfl,dE.o,G,Z (HB.o.alloc HB.o.size _),Z ⟨RN,HX.o.2.alloc _⟩⟩,λk hk hz=>?_⟩;by_cases e:k=j
   ·subst e;exact absurd (HZJ.o.symm.trans (hz.trans RP.o)) sU.o
   ·exact HA.o k G hz
 ·obtain rfl:j=i:=G;clear be;go_wp2;exact Eq.mpr (bu (λa=>Q (.exit 4) a W) (FK.of _ rfl)) (d_ _ _ rfl rfl rfl rfl rfl rfl rfl HB.o HX.o.2 HA.o)
def rz{W W':ek}{S:List Nat}{size n:Nat}{v:to}{g:Nat->to}(h:aZ W size v n g)(f:aA S W W')(X:∀b,v.ownBlock=O b->b∉S):aZ W' size v n g:=by
 rcases h with h|⟨a,cap,rfl,h1,h2,h3⟩
 ·exact .inl h
 ·refine .inr ⟨a,cap,rfl,h1,h2,λo ho=>⟨(h3 o ho).1,?_⟩⟩;have hc:=(h3 o ho).2;refine Eq.trans ?_ hc;exact bk (f.block a.block (aH hc) (X _ rfl))
def acR{W:ek}{E:TypeId}{A cap n z:Nat}{g:Nat->to}(h:Row W E 13 (H (O (I A 0)) n cap) n g)(hz:z<n)(v0 v1 v2 v3 v4 v5 v6 v7 v8 v9 v10 v11 v12:to):
 Row (((((((((((((W.setCell (I A (z*13)) (v0)).setCell (I A (z*13+1)) (v1)).setCell (I A (z*13+2)) (v2)).setCell (I A (z*13+3)) (v3)).setCell (I A (z*13+4)) (v4)).setCell (I A (z*13+5)) (v5)).setCell (I A (z*13+6)) (v6)).setCell (I A (z*13+7)) (v7)).setCell (I A (z*13+8)) (v8)).setCell (I A (z*13+9)) (v9)).setCell (I A (z*13+10)) (v10)).setCell (I A (z*13+11)) (v11)).setCell (I A (z*13+12)) (v12)) E 13 (H (O (I A 0)) n cap) n (λo=>if o / 13=z then #[v0,v1,v2,v3,v4,v5,v6,v7,v8,v9,v10,v11,v12].getD (o % 13) undef else g o):=by
 refine Row.congr (((((((((((((h.set (o:=z*13) G v0).set (o:=z*13+1) G v1).set (o:=z*13+2) G v2).set (o:=z*13+3) G v3).set (o:=z*13+4) G v4).set (o:=z*13+5) G v5).set (o:=z*13+6) G v6).set (o:=z*13+7) G v7).set (o:=z*13+8) G v8).set (o:=z*13+9) G v9).set (o:=z*13+10) G v10).set (o:=z*13+11) G v11).set (o:=z*13+12) G v12) ?_;intro o ho;by_cases e:o / 13=z
 ·rw[aB e];obtain⟨k,hk,rfl⟩:∃k,k<13/\o=z*13+k:=⟨o % 13,G,G⟩;rw[show(z*13+k) % 13=k by omega];have:k=0\/k=1\/k=2\/k=3\/k=4\/k=5\/k=6\/k=7\/k=8\/k=9\/k=10\/k=11\/k=12:=G;rcases this with rfl|rfl|rfl|rfl|rfl|rfl|rfl|rfl|rfl|rfl|rfl|rfl|rfl<;>simp
 ·rw[aw e]
  repeat rw[aw G]
def acQ{W:ek}{A z:Nat}(v0 v1 v2 v3 v4 v5 v6 v7 v8 v9 v10 v11 v12:to):aA [A] W (((((((((((((W.setCell (I A (z*13)) (v0)).setCell (I A (z*13+1)) (v1)).setCell (I A (z*13+2)) (v2)).setCell (I A (z*13+3)) (v3)).setCell (I A (z*13+4)) (v4)).setCell (I A (z*13+5)) (v5)).setCell (I A (z*13+6)) (v6)).setCell (I A (z*13+7)) (v7)).setCell (I A (z*13+8)) (v8)).setCell (I A (z*13+9)) (v9)).setCell (I A (z*13+10)) (v10)).setCell (I A (z*13+11)) (v11)).setCell (I A (z*13+12)) (v12)):=
 ((((((((((((((aA.refl [A] W).setCell (p:=(I A (z*13))) ay v0).setCell (p:=(I A (z*13+1))) ay v1).setCell (p:=(I A (z*13+2))) ay v2).setCell (p:=(I A (z*13+3))) ay v3).setCell (p:=(I A (z*13+4))) ay v4).setCell (p:=(I A (z*13+5))) ay v5).setCell (p:=(I A (z*13+6))) ay v6).setCell (p:=(I A (z*13+7))) ay v7).setCell (p:=(I A (z*13+8))) ay v8).setCell (p:=(I A (z*13+9))) ay v9).setCell (p:=(I A (z*13+10))) ay v10).setCell (p:=(I A (z*13+11))) ay v11).setCell (p:=(I A (z*13+12))) ay v12)
def iM.put{W:ek}{A cap n z:Nat}{mv:Nat->to}{s:Std}{mz:to}(h:iM W (H (O (I A 0)) n cap) n T mv)(hz:z<n)(hm:dx W mz s.lo)(ho:∀b,mz.ownBlock=O b->b≠A){W':ek}
 (e:W'=(((((((((((((W.setCell (I A (z*13)) ((cQ true s mz).getD 0 undef)).setCell (I A (z*13+1)) ((cQ true s mz).getD 1 undef)).setCell (I A (z*13+2)) ((cQ true s mz).getD 2 undef)).setCell (I A (z*13+3)) ((cQ true s mz).getD 3 undef)).setCell (I A (z*13+4)) ((cQ true s mz).getD 4 undef)).setCell (I A (z*13+5)) ((cQ true s mz).getD 5 undef)).setCell (I A (z*13+6)) ((cQ true s mz).getD 6 undef)).setCell (I A (z*13+7)) ((cQ true s mz).getD 7 undef)).setCell (I A (z*13+8)) ((cQ true s mz).getD 8 undef)).setCell (I A (z*13+9)) ((cQ true s mz).getD 9 undef)).setCell (I A (z*13+10)) ((cQ true s mz).getD 10 undef)).setCell (I A (z*13+11)) ((cQ true s mz).getD 11 undef)).setCell (I A (z*13+12)) ((cQ true s mz).getD 12 undef))):
 iM W' (H (O (I A 0)) n cap) n (aR T z (O s)) (aR mv z mz)/\aA [A] W W':=by
 subst e;have f:=acQ (W:=W) (A:=A) (z:=z) ((cQ true s mz).getD 0 undef) ((cQ true s mz).getD 1 undef) ((cQ true s mz).getD 2 undef) ((cQ true s mz).getD 3 undef) ((cQ true s mz).getD 4 undef) ((cQ true s mz).getD 5 undef) ((cQ true s mz).getD 6 undef) ((cQ true s mz).getD 7 undef) ((cQ true s mz).getD 8 undef) ((cQ true s mz).getD 9 undef) ((cQ true s mz).getD 10 undef) ((cQ true s mz).getD 11 undef) ((cQ true s mz).getD 12 undef);refine⟨⟨(acR h.row hz _ _ _ _ _ _ _ _ _ _ _ _ _).congr λo ho=>?_,λi hi=>?_,λi hi b X=>?_⟩,f⟩
 ·unfold stC;by_cases e:o / 13=z
  ·rw[aB e,e,an,show fA (aR T z (O s)) z=s by unfold fA;rw[an];rfl,an];have hk:o % 13<13:=Nat.mod_lt _ G;generalize o % 13=k at*;have:k=0\/k=1\/k=2\/k=3\/k=4\/k=5\/k=6\/k=7\/k=8\/k=9\/k=10\/k=11\/k=12:=G;rcases this with rfl|rfl|rfl|rfl|rfl|rfl|rfl|rfl|rfl|rfl|rfl|rfl|rfl<;>rfl
  ·rw[aw e,ak _ _ e,show fA (aR T z (O s)) (o / 13)=fA T (o / 13)by unfold fA;rw[ak _ _ e],ak _ _ e]
 ·by_cases e:i=z
  ·subst e;rw[an,show fA (aR T i (O s)) i=s by unfold fA;rw[an];rfl];exact rz hm f (λb X=>by simpa using ho b X)
  ·rw[ak _ _ e,show fA (aR T z (O s)) i=fA T i by unfold fA;rw[ak _ _ e]];exact rz (h.more i hi) f (λb X=>by have:=h.off i hi b X;simp;intro e;subst e;exact this rfl)
 ·by_cases e:i=z
  ·subst e;rw[an]at X;intro h2;exact ho b X (fF h2).symm
  ·rw[ak _ _ e]at X;exact h.off i hi b X
def Bg:∀(l:List (Nat×Std)) (T:Map) (w:Nat×Std),qL T (l++[w])=aR (qL T l) w.1 (O w.2)
 |[],_,_=>rfl
 |_::l,T,w=>Bg l _ w
def acN{l:List (Nat×Std)}(T:Map){i:Nat}(h:i<l.length):qL T (l.take (i+1))=aR (qL T (l.take i)) (l.getD i eP).1 (O (l.getD i eP).2):=by rw[Jn h,Bg,dN,fq h];rfl
def L4(w1:ek)(vb:Nat)(A cap n:Nat)(lv:to)(T:Map)(l:List (Nat×Std))(m:Nat)(a:Act)(W:ek):Prop:=
 ∃(J:Nat->to) (i:Nat),a=FK J/\J 0=V5 vb/\J 139=lv/\J 140=Y l.length/\J 141=Y i/\i<=l.length/\m+i=l.length+1/\Hid (aA [A] w1 W)/\∃mv,Hid (iM W (H (O (I A 0)) n cap) n (qL T (l.take i)) mv)
def lk4{A Iw:Nat}(HV:Hid (aF w1 vb 230 (sM K p (H (O (I A 0)) p.code.length Iw))))(sU:Hid (vb≠A))(HY:Hid (iN w1 lo sv lv l wb))(TV:Hid (∀b,lv.ownBlock=O b->b≠A))(Ke:Hid (∀i,i<l.length->∀b,(wb i).ownBlock=O b->b≠A))(hA:A<w1.heap.size)(hl:l.length<=2)(me:Hid (∀i,i<l.length->(l.getD i eP).1<p.code.length))
 (d_:∀(J:Nat->to) W mv,aA [A] w1 W->iM W (H (O (I A 0)) p.code.length Iw) p.code.length (qL T l) mv->Q (.exit 6) (FK J) W)
 {a:Act} {W:ek} (h:L4 w1 vb A Iw p.code.length lv T l (l.length+1) a W):(Code.loop (lkL 2)).wp prog Q a W:=by
 refine Mk.aN (λm a W=>L4 w1 vb A Iw p.code.length lv T l m a W) (l.length+1) h ?_ ?_
 ·rintro a W ⟨J,i,-,-,-,-,-,h1,h2,-⟩;omega
 rintro m a0 W ⟨J,i,rfl,j0,Ul,Qi,Fq,hi,hm,HB,mv,HS⟩;unfold FK
 conv=>arg 2;whnf
 have w2:=mO i G;rw[j0,Ul,Qi,Fq];clear j0 Ul Qi Fq;by_cases be:i<l.length
 ·have HY':iN W lo sv lv l wb:=⟨rz HY.o.row HB.o (λb X=>by have:=TV.o b X;simpa using this),λi hi=>rz (HY.o.more i hi) HB.o (λb X=>by have:=Ke.o i hi b X;simpa using this),HY.o.off⟩;have HYW:=Z HY';obtain⟨b,off,cap,ma,mc,Kd,q1,q2,lb,em,c0,c1,c2,c3,c4,c5,c6,c7,c8,c9,JQ,JR,Vs,ri⟩:=HY'.Nt be;have Gg:=Z Kd;have dE:=Z be;have WA:=Z em;rw[em]at ri;have hv:aF W vb 230 (sM K p (H (O (I A 0)) p.code.length Iw)):=HV.o.aG HB.o (by have:=sU.o;simpa using this);have v6:Vo W (I vb 6)=O (H (O (I A 0)) p.code.length Iw):=hv.cell 6;have lv0:=hv.lt;have hAW:A<W.heap.size:=by have:=HB.o.size;omega
  have vT:∀o,W.frozen? (I A o)=false:=λo=>HS.o.row.frozen o;have fD:=me.o i be;clear em Kd hv HY';obtain⟨zi,DI⟩:∃z,(l.getD i eP).1=z:=⟨_,rfl⟩;rw[DI]at c0 fD;have RP:=Z DI;clear DI;generalize v_:gE (l.getD i eP).2.ty=tb at*;have ub:=Z v_;generalize Fc:bI (l.getD i eP).2.lo=lc at*;have CN:=Z Fc;generalize CU:(l.getD i eP).2.ha=ha at*;have Nk:=Z CU;generalize CO:(l.getD i eP).2.lo.length=ln at*;have sD:=Z CO;generalize CG:ln-8=n8 at*;have RK:=Z CG;clear v_ Fc CU CO CG;have Ww:=Z (show(cQ true (l.getD i eP).2 (wb i))=#[.bool true,.string tb,Y (lc 0),Y (lc 1),Y (lc 2),Y (lc 3),Y (lc 4),Y (lc 5),Y (lc 6),Y (lc 7),Y ln,Y ha,H ma n8 mc]by unfold cQ;rw[ub.o,CN.o,sD.o,Nk.o,WA.o]);have Mv:=Z (λ(W3:ek) (X:Below W.heap.size W W3)=>iM.put (W:=W3) (mv:=mv) (HS.o.aG (aA.af X)) fD (HYW.o.more i dE.o |>.aG (aA.af X)) (λb X=>Ke.o i dE.o b X) rfl);have cR:=Z ((aY W.heap.size W).alloc (aL _) (CA #[Y zi,.bool true,.string tb,Y (lc 0),Y (lc 1),Y (lc 2),Y (lc 3),Y (lc 4),Y (lc 5),Y (lc 6),Y (lc 7),Y ln,Y ha,H ma n8 mc] 279));have hold:∀k,k<13->∃v,Vo W (I A (zi*13+k))=O v:=λk hk=>⟨_,HS.o.row.cell (o:=zi*13+k) G⟩;obtain⟨u0,o0⟩:=hold 0 G;obtain⟨u1,o1⟩:=hold 1 G;obtain⟨u2,o2⟩:=hold 2 G;obtain⟨u3,o3⟩:=hold 3 G;obtain⟨u4,o4⟩:=hold 4 G;obtain⟨acM,o5⟩:=hold 5 G;obtain⟨acK,o6⟩:=hold 6 G;obtain⟨acJ,o7⟩:=hold 7 G;obtain⟨u8,o8⟩:=hold 8 G;obtain⟨u9,o9⟩:=hold 9 G;obtain⟨u10,o10⟩:=hold 10 G;obtain⟨u11,o11⟩:=hold 11 G;obtain⟨u12,o12⟩:=hold 12 G;have aem:=Z (And.intro o0 (And.intro o1 (And.intro o2 (And.intro o3 (And.intro o4 (And.intro o5 (And.intro o6 (And.intro o7 (And.intro o8 (And.intro o9 (And.intro o10 (And.intro o11 (o12)))))))))))));clear hold vT o0 o1 o2 o3 o4 o5 o6 o7 o8 o9 o10 o11 o12;have kx:aF (W.alloc (CA #[Y zi,.bool true,.string tb,Y (lc 0),Y (lc 1),Y (lc 2),Y (lc 3),Y (lc 4),Y (lc 5),Y (lc 6),Y (lc 7),Y ln,Y ha,H ma n8 mc] 279)) W.heap.size 279 #[Y zi,.bool true,.string tb,Y (lc 0),Y (lc 1),Y (lc 2),Y (lc 3),Y (lc 4),Y (lc 5),Y (lc 6),Y (lc 7),Y ln,Y ha,H ma n8 mc]:=aF.new _ _ _;rw[Gg.o];go_wp2_with fail;obtain⟨W1,CW⟩:∃W1,W1=W.alloc (CA #[Y zi,.bool true,.string tb,Y (lc 0),Y (lc 1),Y (lc 2),Y (lc 3),Y (lc 4),Y (lc 5),Y (lc 6),Y (lc 7),Y ln,Y ha,H ma n8 mc] 279):=⟨_,rfl⟩;rw[<-CW]at kx cR ⊢;obtain⟨d0,d1,d2,d3,d4,d5,d6,d7,d8,d9,d10,d11,d12,d13⟩:=kx.c14;have v6':Vo W1 (I vb 6)=O (H (O (I A 0)) p.code.length Iw):=(bk (cR.o.block _ lv0)).trans v6;clear CW kx v6 c0 c1 c2 c3 c4 c5 c6 c7 c8 c9 JQ JR Vs ri;generalize gu:W.heap.size=bx at*;have kE:=Z gu;clear gu
  go_still_tail 9,bh
  change wpList _ _ _ _ _ (World.drewN _ 1);have ep:=cR.o.trans (az _ W1 1);generalize World.drewN _ 1=V0 at*;have key:∀o v,Vo W (I A o)=O v->Vo V0 (I A o)=O v:=λo v h=>(bk (ep.block _ hAW)).trans h;obtain⟨o0,o1,o2,o3,o4,o5,o6,o7,o8,o9,o10,o11,o12⟩:=aem.o;replace o0:=key _ _ o0;replace o1:=key _ _ o1;replace o2:=key _ _ o2;replace o3:=key _ _ o3;replace o4:=key _ _ o4;replace o5:=key _ _ o5;replace o6:=key _ _ o6;replace o7:=key _ _ o7;replace o8:=key _ _ o8;replace o9:=key _ _ o9;replace o10:=key _ _ o10;replace o11:=key _ _ o11;replace o12:=key _ _ o12;have HP9:=Z (Mv.o V0 ep);rw[<-kE.o]at ep;have vT:∀o,V0.frozen? (I A o)=false:=λo=>(HS.o.row.aG (aA.af (S:=[]) ep) ay).frozen o;simp only[Nat.add_zero]at o0;rw[Ww.o]at HP9;have eV:=Z ep;clear key Mv ep;go_wp2_with fail
  try rw[<-Gg.o]
  refine⟨_,i+1,FK.of _ rfl,rfl,(by first|rfl|exact Gg.o),rfl,rfl,dE.o,G,Z (HB.o.trans ((aA.af eV.o).trans (HP9.o.2))),aR mv zi (wb i),Z ?_⟩;rw[acN T dE.o,RP.o];exact HP9.o.1
 ·obtain rfl:i=l.length:=G;clear be;go_wp2;exact Eq.mpr (bu (λa=>Q (.exit 6) a W) (FK.of _ rfl)) (d_ _ _ mv HB.o (by have:=HS.o;rw[List.take_length]at this;exact this))
end
end Go.Vf
section
def qX2{p:Prop}(h:p:=by
 have y0:=key _ _ _ a3 s0;have y1:=key _ _ _ a3 s1;have y2:=key _ _ _ a3 s2;have y3:=key _ _ _ a3 s3;have y4:=key _ _ _ a3 s4;have y5:=key _ _ _ a3 s5;have afC:=key _ _ _ a3 s6;have acS:=key _ _ _ a3 s7;have y8:=key _ _ _ a3 s8;have y9:=key _ _ _ a3 s9;have y10:=key _ _ _ a3 RM;have y11:=key _ _ _ a3 MV;have y12:=key _ _ _ a3 Eu;exact qj):p:=h
namespace Go.Vf
open Go.RowKit aj.Vm
open aj hiding aR an ak
open Ma (dP ci aX vb aI aV)
section
variable {w1:ek}{K:Kp}{p:aQ}{jg:to}{vb:Nat}{T:Map}{lo:Nat}{sv lv:to}{l:List (Nat×Std)}{wb:Nat->to}{Q:Exit->Act->ek->Prop}
def L2(w1:ek)(vb:Nat)(pc:Nat)(lv:to)(n:Nat)(m:Nat)(a:Act)(W:ek):Prop:=
 ∃(J:Nat->to) (i:Nat),a=FK J/\J 0=V5 vb/\J 1=Y pc/\J 8=lv/\J 87=lv/\J 88=Y n/\J 89=Y i/\i<=n/\m+i=n+1/\Hid (Below w1.heap.size w1 W)
def Ff(T:Map)(l:List (Nat×Std))(i:Nat):Prop:=∀k,k<i->(∀j,j<k->(l.getD j eP).1=(l.getD k eP).1->(l.getD j eP).2=(l.getD k eP).2)/\(∀s,T (l.getD k eP).1=O s->s=(l.getD k eP).2)
def Iv{p:Prop}(h:p:=by
 intro wz fj;exact qj):p:=h
def lk2{pc:Nat}{mv:Nat->to}(HV:Hid (aF w1 vb 230 (sM K p jg)))(HS:Hid (iM w1 jg p.code.length T mv))(HTO:Hid (∀q s,T q=O s->fe s.ty/\s.lo.length<=1000000000))(HY:Hid (iN w1 lo sv lv l wb))(HW:Hid (WOk l))(hl:l.length<=2)(me:Hid (∀i,i<l.length->(l.getD i eP).1<p.code.length))
 (iU:∀(A:Array to) W,A.getD 4 undef=Y 94->Below w1.heap.size w1 W->¬Ff T l l.length->Q .ret {tmps:=A,defers:=[]} W)
 (d_:∀(J:Nat->to) W,J 0=V5 vb->J 1=Y pc->J 8=lv->Below w1.heap.size w1 W->Ff T l l.length->Q (.exit 2) (FK J) W)
 {a:Act} {W:ek} (h:L2 w1 vb pc lv l.length (l.length+1) a W):(Code.loop (lkL 1)).wp prog Q a W:=by
 refine Mk.aN (λm a W=>L2 w1 vb pc lv l.length m a W/\Ff T l (l.length+1-m)) (l.length+1) ⟨h,λi hi=>G⟩ ?_ ?_
 ·rintro a W ⟨⟨J,i,-,-,-,-,-,-,-,h1,h2,-⟩,-⟩;omega
 rintro m a0 W ⟨⟨J,i,rfl,j0,j1,j8,WC,WD,WE,hi,hm,HB⟩,hA⟩;rw[show l.length+1 - (m+1)=i by omega]at hA;have HA:=Z hA;clear hA;unfold FK
 conv=>arg 2;whnf
 have w2:=mO i G;rw[j0,j1,j8,WC,WD,WE];clear j0 j1 j8 WC WD WE;by_cases be:i<l.length
 ·obtain⟨b,off,cap,ma,mc,Kd,q1,q2,lb,em,c0,c1,c2,c3,c4,c5,c6,c7,c8,c9,JQ,JR,Vs,ri⟩:=(HY.o.aG (aA.af HB.o)).Nt be;have Gg:=Z Kd;have dE:=Z be;have WA:=Z em;rw[em]at ri;have xN:i<=cap:=G;clear em Kd;obtain⟨zi,DI⟩:∃z,(l.getD i eP).1=z:=⟨_,rfl⟩;rw[DI]at c0;have RP:=Z DI;clear DI;generalize v_:gE (l.getD i eP).2.ty=tb at*;have ub:=Z v_;generalize Fc:bI (l.getD i eP).2.lo=lc at*;have CN:=Z Fc;generalize CU:(l.getD i eP).2.ha=ha at*;have Nk:=Z CU;generalize CO:(l.getD i eP).2.lo.length=ln at*;have sD:=Z CO;generalize CG:ln-8=n8 at*;have RK:=Z CG;clear v_ Fc CU CO CG;have Ww:=Z (show(uA (l.getD i eP).1 (l.getD i eP).2 (wb i))=#[Y zi,.bool true,.string tb,Y (lc 0),Y (lc 1),Y (lc 2),Y (lc 3),Y (lc 4),Y (lc 5),Y (lc 6),Y (lc 7),Y ln,Y ha,H ma n8 mc]by unfold uA;rw[RP.o,ub.o,CN.o,sD.o,Nk.o,WA.o]);rw[Gg.o];go_wp2_with fail;rw[<-Gg.o];refine lk3 (w1:=w1) (pc:=pc) (bx:=W.heap.size) (off:=off) (cap:=cap) HY HW hl dE.o Gg (λA W3 Aa zh hex=>?_) (λJ3 W3 j0 j1 j8 pn WC WD WE zh hX3 Aa=>?_) ⟨_,0,FK.of _ rfl,rfl,rfl,rfl,rfl,rfl,rfl,rfl,rfl,rfl,rfl,cM _,rfl,Z (HB.o.alloc HB.o.size _),Z ⟨HB.o.size,?_⟩⟩
  ·refine iU A W3 Aa zh (λhm=>?_);obtain⟨j,hj,e1,e2⟩:=hex;exact e2 ((hm i dE.o).1 j hj e1)
  ·unfold FK;rw[j0,j1,j8,pn,WC,WD,WE];clear j0 j1 j8 pn WC WD WE;have fD:zi<p.code.length:=by rw[<-RP.o];exact me.o i dE.o
   have Eo:=Z Aa;have hv:=HV.o.of (zh.block _ HV.o.lt);have v6:Vo W3 (I vb 6)=O jg:=hv.cell 6;have lv0:=hv.lt;have Gn:=(HS.o.aG (aA.af zh));obtain⟨A,qW,eat,a1,a2,a3,s0,s1,s2,s3,s4,s5,s6,s7,s8,s9,RM,MV,Eu⟩:=Gn.Wy fD;obtain⟨ma',mc',WG,-,-⟩:=aZ.val (Gn.more zi fD);rw[eat]at v6;rw[WG]at Eu;have Zr:=Z WG;have hx:=hX3;rw[Ww.o]at hx;obtain⟨d0,d1,d2,d3,d4,d5,d6,d7,d8,d9,d10,d11,d12,d13⟩:=hx.c14;have lx:=hx.lt;have iy:=Z zh;clear hx hX3 Gn hv eat WG zh Aa c0 c1 c2 c3 c4 c5 c6 c7 c8 c9 JQ JR Vs ri;generalize W.heap.size=bx at*;cases hT:T zi with
   |none=>
    rw[hT]at s0;have HT:=Z hT;clear hT s1 s2 s3 s4 s5 s6 s7 s8 s9 RM MV Eu;simp only[Option.isSome_none]at s0;go_wp2;go_quiet (fail);go_wp2;refine⟨⟨_,i+1,FK.of _ rfl,rfl,rfl,(by first|rfl|exact Gg.o),(by first|rfl|exact Gg.o),rfl,rfl,dE.o,G,Z (iy.o.trans (az _ _ _))⟩,?_⟩;rw[show l.length+1-m=i+1 by omega];intro k hk;by_cases e:k=i
    ·subst e;refine⟨Eo.o,λs hs=>?_⟩;rw[RP.o,HT.o]at hs;cases hs
    ·exact HA.o k G
   |some s=>
    have HT:=Z hT;have fL:fA T zi=s:=by unfold fA;rw[hT];rfl
    have lN:=Z fL;rw[hT]at s0;rw[fL]at s1 s2 s3 s4 s5 s6 s7 s8 s9 RM MV Eu Zr;simp only[Option.isSome_some]at s0;have Dx:=Z (λV (X:Below w1.heap.size w1 V)=>Iq (w:=V) true true (s:=s) (s2:=(l.getD i eP).2) (by rw[<-lN.o];exact((HS.o.more zi fD).aG (aA.af X))) ((HY.o.more i dE.o).aG (aA.af X)) (HTO.o zi s HT.o).1 (HW.o i dE.o).1 (HTO.o zi s HT.o).2 (HW.o i dE.o).2);obtain⟨dd,zg⟩:∃z,decide (s=(l.getD i eP).2)=z:=⟨_,rfl⟩;rw[zg]at Dx;have Zq:=Z zg;rw[WA.o,Zr.o]at Dx;unfold dY cQ at Dx;rw[ub.o,CN.o,sD.o,Nk.o]at Dx;have jK:Hid (∀n,Below w1.heap.size w1 (W3.drewN n)):=Z λn=>iy.o.trans (az _ _ n);clear hT fL zg;generalize gE s.ty=tb' at*;generalize bI s.lo=lc' at*;generalize s.ha=ha' at*;generalize s.lo.length=ln' at*;generalize ln'-8=n8' at*;go_wp2;go_quiet (fail);go_wp2;refine Mk.bH (S:=λwx=>Below W3.heap.size W3 wx) bh ((az _ W3 _).trans (az _ _ 1)) (λau=>?_);generalize World.drew _=V0 at*;refine Mk.tk 0 (v:=?_) rfl ?_ cY ?_;rotate_left
    ·exact Iv
    refine Mk.pt ?_;refine Mk.tk 1 (v:=?_) rfl ?_ cY ?_;rotate_left
    ·exact Iv
    refine Mk.pt ?_;refine Mk.tk 2 (v:=?_) rfl ?_ cY ?_;rotate_left
    ·exact Iv
    refine Mk.pt ?_;refine Mk.tk 3 (v:=?_) rfl ?_ cY ?_;rotate_left
    ·intro wz fj;have key:∀b i v,b<W3.heap.size->Vo W3 (I b i)=O v->Vo wz (I b i)=O v:=λb i v X hc=>(bk (fj.block _ X)).trans hc;have y0:=key _ _ _ lv0 v6;exact qj
    refine Mk.pt ?_;refine Mk.tk 4 (v:=?_) rfl ?_ cY ?_;rotate_left
    ·exact Iv
    refine Mk.pt ?_;refine Mk.tk 5 (v:=?_) rfl ?_ cY ?_;rotate_left
    ·intro wz fj;have key:∀b i v,b<W3.heap.size->Vo W3 (I b i)=O v->Vo wz (I b i)=O v:=λb i v X hc=>(bk (fj.block _ X)).trans hc;have y0:=key _ _ _ lx d0;exact qj
    refine Mk.pt ?_;refine Mk.tk 6 (v:=?_) rfl ?_ cY ?_;rotate_left
    ·exact Iv
    refine Mk.pt ?_;refine Mk.tk 7 (v:=?_) rfl ?_ cY ?_;rotate_left
    ·intro wz fj;have key:∀b i v,b<W3.heap.size->Vo W3 (I b i)=O v->Vo wz (I b i)=O v:=λb i v X hc=>(bk (fj.block _ X)).trans hc;exact qX2
    refine Mk.pt ?_;refine Mk.tk 8 (v:=?_) rfl ?_ cY ?_;rotate_left
    ·exact Iv
    refine Mk.pt ?_;refine Mk.tk 9 (v:=?_) rfl ?_ cY ?_;rotate_left
    ·intro wz fj;have key:∀b i v,b<W3.heap.size->Vo W3 (I b i)=O v->Vo wz (I b i)=O v:=λb i v X hc=>(bk (fj.block _ X)).trans hc;have y0:=key _ _ _ lx d1;have y1:=key _ _ _ lx d2;have y2:=key _ _ _ lx d3;have y3:=key _ _ _ lx d4;have y4:=key _ _ _ lx d5;have y5:=key _ _ _ lx d6;have afC:=key _ _ _ lx d7;have acS:=key _ _ _ lx d8;have y8:=key _ _ _ lx d9;have y9:=key _ _ _ lx d10;have y10:=key _ _ _ lx d11;have y11:=key _ _ _ lx d12;have y12:=key _ _ _ lx d13;exact qj
    refine Mk.pt ?_;refine dJ (rs:=[10]) bh ay ?_;refine bZ rfl (λK hK=>?_) cK;refine fH ?_;go_simp;go_at_call 248
    with_reducible refine(Dx.o _ (iy.o.trans (au.mono iy.o.size))).mono ?_
    rintro e w5 ⟨rfl,uM⟩;have Gb:=au.trans (uM.mono au.size);clear au;refine hK.out _ _ Gb (λau=>?_);clear hK K;refine Mk.pt ?_;refine Mk.tk 11 (v:=?_) rfl ?_ cY ?_;rotate_left
    ·exact Iv
    refine Mk.pt ?_;refine fx bh ⟨rfl,?_⟩ _;clear au;cases dd with
    |false=>go_wp2_with fail;refine iU _ _ rfl (iy.o.trans (Gb.mono iy.o.size)) (λhm=>?_);have h2:=Zq.o;rw[qS]at h2;exact h2 ((hm i dE.o).2 s (by rw[RP.o];exact HT.o))
    |true=>
     go_wp2;refine⟨⟨_,i+1,FK.of _ rfl,rfl,rfl,(by first|rfl|exact Gg.o),(by first|rfl|exact Gg.o),rfl,rfl,dE.o,G,Z (iy.o.trans (Gb.mono iy.o.size))⟩,?_⟩;rw[show l.length+1-m=i+1 by omega];intro k hk;by_cases e:k=i
     ·subst e;refine⟨Eo.o,λs' hs=>?_⟩;rw[RP.o,HT.o]at hs;cases hs;exact rS Zq.o
     ·exact HA.o k G
  ·rw[Ww.o];exact aF.new _ _ _
 ·obtain rfl:i=l.length:=G;clear be;go_wp2;exact Eq.mpr (bu (λa=>Q (.exit 2) a W) (FK.of _ rfl)) (d_ _ _ rfl rfl rfl HB.o HA.o)
end
end Go.Vf
end
namespace Go.Vf
open Go.RowKit aj.Vm
open aj hiding aR an ak
open Ma (dP ci aX vb aI aV)
def acI(w:ek)(jg:to)(p:aQ)(T:Map)(pc:Nat)(e:Ending)(w':ek):Prop:=
 e=Vl (Y (dl p T pc))/\aA jg.ownBlock.toList w w'/\(dl p T pc=0->∃mv,iM w' jg p.code.length (jp p T pc) mv)
def wj{P:Program}{fn:Func}{R:Ending->ek->Prop}{A:Array to}{w:ek}{t:Tmp}(h:fn.results=#[.tmp t])(hR:R (Vl (A.getD t undef)) w):Exit.noGoto (bodyPost P fn R) .ret {tmps:=A,defers:=[]} w:=by rw[jO];exact fy h hR
def PQ{p:aQ}{x:Ins}(fD:ir p x=true)(h:x.op=34\/x.op=35\/x.op=32\/x.op=40\/x.op=41\/x.op=38\/x.op=39):rT p x.a:=by
 have key:∀k,x.op.toNat=k->(cC k).getD 0 0=1->rT p x.a:=λk e e1=>by have:=(gV fD e).1;rw[e1]at this;have:=ej this;exact⟨this.1,this.2.1⟩
 rcases h with h|h|h|h|h|h|h
 ·exact key 34 (by rw[h];rfl) rfl
 ·exact key 35 (by rw[h];rfl) rfl
 ·exact key 32 (by rw[h];rfl) rfl
 ·exact key 40 (by rw[h];rfl) rfl
 ·exact key 41 (by rw[h];rfl) rfl
 ·exact key 38 (by rw[h];rfl) rfl
 ·exact key 39 (by rw[h];rfl) rfl
def WH{p:aQ}{x:Ins}(fD:ir p x=true)(h:x.op=38\/x.op=39):rT p x.c:=by
 have key:∀k,x.op.toNat=k->(cC k).getD 2 0=1->rT p x.c:=λk e e1=>by have:=(gV fD e).2.2.1;rw[e1]at this;have:=ej this;exact⟨this.1,this.2.1⟩
 rcases h with h|h
 ·exact key 38 (by rw[h];rfl) rfl
 ·exact key 39 (by rw[h];rfl) rfl
def PR{p:aQ}{x:Ins}(fD:ir p x=true)(h:x.op=22\/x.op=23\/x.op=25\/x.op=26):0<=x.a/\x.a<p.code.length:=by
 have key:∀k,x.op.toNat=k->(cC k).getD 0 0=8->0<=x.a/\x.a<p.code.length:=λk e e1=>by have:=(gV fD e).1;rw[e1]at this;exact kG this
 rcases h with h|h|h|h
 ·exact key 22 (by rw[h];rfl) rfl
 ·exact key 23 (by rw[h];rfl) rfl
 ·exact key 25 (by rw[h];rfl) rfl
 ·exact key 26 (by rw[h];rfl) rfl
def zk:(prog.info? 233).map (·.size)=O 13:=by kernel_rfl
def zm(th:Bool)(s:Std)(a:Option Addr)(n c:Nat):∀v∈(cQ th s (H a n c)).toList,v.oneCell'=true:=by simp[cQ,Value.oneCell']
def acH{p:aQ}{T:Map}{pc:Nat}{x:Ins}{ty lo:List Nat}(h:cP p T pc x ty lo=true)(SG:x.op=26):0<lo.length:=by
 cases lo with
 |cons t l=>simp
 |nil=>exfalso;unfold cP at h;simp[SG]at h
def yT(pc:Nat)(x:Ins)(s:Std):(cH pc x s).length<=2:=by
 unfold cH
 repeat' split
 all_goals simp
def acG{pc:Nat}{x:Ins}{s:Std}{w:Nat×Std}(h:w∈cH pc x s):w.2.lo.length<=s.lo.length+1:=by
 unfold cH at h
 repeat' split at h
 all_goals (simp at h)
 all_goals (first|(rcases h with rfl|rfl<;>simp)|(subst h;simp)|skip)
 all_goals omega
def CX{n:Nat}(l:List (Nat×Std)):(l.any λw=>decide (n<=w.1))=true↔∃i,i<l.length/\n<=(l.getD i eP).1:=by
 rw[List.any_eq_true];constructor
 ·rintro⟨w,hw,h⟩;obtain⟨i,hi,e⟩:=qU hw;refine⟨i,hi,?_⟩;rw[dN,fq hi];simp only[Option.getD_some,e];simpa using h
 ·rintro⟨i,hi,h⟩;rw[dN,fq hi]at h;exact⟨_,ja hi,by simpa using h⟩
def Bh(T:Map)(l:List (Nat×Std)):(kq l&&m_ T l)=true↔Ff T l l.length:=by
 have at_:∀(l:List (Nat×Std)) k,(hk:k<l.length)->l.getD k eP=l[k]:=λl k hk=>by rw[dN,fq hk];rfl
 have self:∀l:List (Nat×Std),kq l=true↔∀k,k<l.length->∀j,j<k->(l.getD j eP).1=(l.getD k eP).1->(l.getD j eP).2=(l.getD k eP).2:=by
  intro l
  induction l with
  |nil=>simp[kq]
  |cons w l ih=>
   rw[kq,fp,ih,qM];constructor
   ·rintro⟨h1,h2⟩ k hk j hj;cases k with
    |zero=>omega
    |succ k=>
     have xE:k<l.length:=by simpa using hk
     cases j with
     |zero=>
      intro e;have:=h1 l[k] (ja xE);simp only[Bool.or_eq_true,beq_iff_eq,qS,ft]at this;rw[List.getD_cons_succ,at_ l k xE]at e ⊢;simp only[List.getD_cons_zero]at e ⊢;rcases this with h|h
      ·exact absurd e.symm h
      ·exact h.symm
     |succ j=>rw[List.getD_cons_succ,List.getD_cons_succ];exact h2 k xE j G
   ·intro h;refine⟨λv hv=>?_,λk hk j hj=>by have:=h (k+1) (by simpa using hk) (j+1) G;rwa[List.getD_cons_succ,List.getD_cons_succ]at this⟩;obtain⟨k,hk,e⟩:=qU hv;have:=h (k+1) (by simpa using hk) 0 G;rw[List.getD_cons_succ,List.getD_cons_zero,at_ l k hk,e]at this;simp only[Bool.or_eq_true,beq_iff_eq,qS,ft];by_cases e2:v.1=w.1
    ·exact .inr (this e2.symm).symm
    ·exact .inl e2
 rw[fp,self];unfold m_ Ff;rw[qM];constructor
 ·rintro⟨h1,h2⟩ k hk;refine⟨h1 k hk,λs hs=>?_⟩;have:=h2 l[k] (ja hk);rw[at_ l k hk]at hs ⊢;rw[hs]at this;simpa using this
 ·intro h;refine⟨λk hk=>(h k hk).1,λv hv=>?_⟩;obtain⟨k,hk,e⟩:=qU hv;have:=(h k hk).2;rw[at_ l k hk,e]at this;cases hT:T v.1 with
  |none=>rfl
  |some s=>simpa using this s hT
def RL1(w:ek)(vb pc:Nat)(cx cs:Array to)(a:Act)(W:ek):Prop:=
 ∃(J:Nat->to) (bx bs:Nat),a=FK J/\J 0=V5 vb/\J 1=Y pc/\J 5=V5 bx/\J 6=V5 bs/\Hid (aF W bx 40 cx)/\Hid (aF W bs 233 cs)/\Hid (bx≠bs/\w.heap.size<=bx/\w.heap.size<=bs)/\Hid (Below w.heap.size w W)
section
variable {w:ek}{K:Kp}{p:aQ}{jg:to}{vb:Nat}{T:Map}{mv:Nat->to}{pc:Nat}
def Fp{p:Prop}(h:p:=by
 refine wj rfl ?_;rw[hA];exact⟨by rw[HE.o],aA.af (HW.o.trans (wZ.mono HW.o.size)),λh=>by rw[HE.o]at h;cases h⟩):p:=h
def zn{p:Prop}(h:p:=by
 intro wz fj;exact qj):p:=h
def TW{p:Prop}(h:p:=by
 go_wp2_with fail;refine wj rfl ?_;exact⟨by rw[HE.o];rfl,aA.af HW.o,λh=>by rw[HE.o]at h;cases h⟩):p:=h
def Iy(h:fW w K p)(hv:aF w vb 230 (sM K p jg))(hs:iM w jg p.code.length T mv)(tk:TOk p T)(oT:pc<p.code.length)(hlen:p.code.length<=262144)(dW:jH (al p pc)=true)(fD:ir p (al p pc)=true):
 Calls prog 173 #[V5 vb,Y pc] w (acI w jg p T pc):=by
 obtain⟨cb,ze,Cj,kc,q1,q2,ccb,c0,c1,c2,c3,c4⟩:∃b off cap,K.c=H (O (I b off)) p.code.length cap/\p.code.length<=cap/\cap<=maxLen/\b<w.heap.size/\
  Vo w (I b (off+pc*5))=O (Y (al p pc).op)/\Vo w (I b (off+pc*5+1))=O (Y (al p pc).a)/\Vo w (I b (off+pc*5+2))=O (Y (al p pc).b)/\Vo w (I b (off+pc*5+3))=O (Y (al p pc).c)/\Vo w (I b (off+pc*5+4))=O (Y (al p pc).d):=by
  obtain⟨b,off,cap,e,h1,h2,c0,c1,c2,c3,c4⟩:=h.ins oT;exact⟨b,off,cap,e,h1,h2,aH c0,c0,c1,c2,c3,c4⟩
 obtain⟨A,cap,rfl,a1,a2,a3,s0,s1,s2,s3,s4,s5,s6,s7,s8,s9,RM,MV,Eu⟩:=hs.Wy oT;obtain⟨ma,mc,hmv,-,-⟩:=aZ.val (hs.more pc oT);obtain⟨-,-,-,-,-,v5,v6⟩:=hv.c7;have lv:=hv.lt;rw[kc]at v5;rw[hmv]at Eu;have a0g:=Z h;have HV:=Z hv;have HS:=Z hs;have TK:=Z tk;have SB:=Z hmv;clear h hv hs tk hmv;generalize hx:al p pc=x at*;have HX:=Z hx;clear hx;generalize fL:fA T pc=s at*;have lN:=Z fL;have Gn:=Z fL;have Dy:=Z oT;clear fL;have hB:=KJ w;generalize v_:gE s.ty=tb at*;have ub:=Z v_;clear v_;generalize Fc:bI s.lo=lc at*;have CN:=Z Fc;clear Fc;generalize CO:s.lo.length=ln at*;have sD:=Z CO;clear CO;generalize CU:s.ha=ha at*;have Nk:=Z CU;clear CU;generalize CG:ln-8=n8 at*;have RK:=Z CG;clear CG;go_enter func173,ntmps173;go_wp2;go_step3;go_wp2;refine wp_mono (Q:=λe a W=>e=Exit.normal/\RL1 w vb pc #[Y x.op,Y x.a,Y x.b,Y x.c,Y x.d] #[.bool (T pc).isSome,.string tb,Y (lc 0),Y (lc 1),Y (lc 2),Y (lc 3),Y (lc 4),Y (lc 5),Y (lc 6),Y (lc 7),Y ln,Y ha,H ma n8 mc] a W) ?_ ?_
 ·refine Mk.bH (S:=λwx=>Below w.heap.size w wx) bh (az _ w 1) (λau=>?_);refine Mk.tk 0 (v:=?_) rfl ?_ cY ?_;rotate_left
  ·exact zn
  refine Mk.pt ?_;refine Mk.tk 1 (v:=?_) rfl ?_ cY ?_;rotate_left
  ·exact zn
  refine Mk.pt ?_;refine Mk.tk 2 (v:=?_) rfl ?_ cY ?_;rotate_left
  ·exact zn
  refine Mk.pt ?_;refine Mk.tk 3 (v:=?_) rfl ?_ cY ?_;rotate_left
  ·exact zn
  refine Mk.pt ?_;refine Mk.tk 4 (v:=?_) rfl ?_ cY ?_;rotate_left
  ·intro wz fj;have key:∀b i v,b<w.heap.size->Vo w (I b i)=O v->Vo wz (I b i)=O v:=λb i v X hc=>(bk (fj.block _ X)).trans hc;have y0:=key _ _ _ lv v5;exact qj
  refine Mk.pt ?_;refine Mk.tk 5 (v:=?_) rfl ?_ cY ?_;rotate_left
  ·exact zn
  refine Mk.pt ?_;refine Mk.tk 6 (v:=?_) rfl ?_ cY ?_;rotate_left
  ·exact zn
  refine Mk.pt ?_;refine Mk.tk 7 (v:=?_) rfl ?_ cY ?_;rotate_left
  ·intro wz fj;have key:∀b i v,b<w.heap.size->Vo w (I b i)=O v->Vo wz (I b i)=O v:=λb i v X hc=>(bk (fj.block _ X)).trans hc;have y0:=key _ _ _ ccb c0;have y1:=key _ _ _ ccb c1;have y2:=key _ _ _ ccb c2;have y3:=key _ _ _ ccb c3;have y4:=key _ _ _ ccb c4;exact qj
  refine Mk.pt ?_;refine Mk.tk 8 (v:=?_) rfl ?_ cY ?_;rotate_left
  ·exact zn
  refine Mk.pt ?_;refine Mk.tk 9 (v:=?_) rfl ?_ cY ?_;rotate_left
  ·exact zn
  refine Mk.pt ?_;refine Mk.tk 10 (v:=?_) rfl ?_ cY ?_;rotate_left
  ·exact zn
  refine Mk.pt ?_;refine Mk.tk 11 (v:=?_) rfl ?_ cY ?_;rotate_left
  ·intro wz fj;have key:∀b i v,b<w.heap.size->Vo w (I b i)=O v->Vo wz (I b i)=O v:=λb i v X hc=>(bk (fj.block _ X)).trans hc;have y0:=key _ _ _ lv v6;exact qj
  refine Mk.pt ?_;refine Mk.tk 12 (v:=?_) rfl ?_ cY ?_;rotate_left
  ·exact zn
  refine Mk.pt ?_;refine Mk.tk 13 (v:=?_) rfl ?_ cY ?_;rotate_left
  ·exact zn
  refine Mk.pt ?_;refine Mk.tk 14 (v:=?_) rfl ?_ cY ?_;rotate_left
  ·intro wz fj;have key:∀b i v,b<w.heap.size->Vo w (I b i)=O v->Vo wz (I b i)=O v:=λb i v X hc=>(bk (fj.block _ X)).trans hc;exact qX2
  refine Mk.pt ?_;refine dJ (rs:=[15,16]) bh ay ?_;refine bZ rfl (λK hK=>?_) (bZ rfl (λK hK=>?_) cK);refine fH ?_;go_simp;refine hK.out _ _ (au.alloc au.size _) (λau=>?_);clear hK K;refine Mk.pt ?_;refine dJ (rs:=[16]) bh ay ?_;refine bZ rfl (λK hK=>?_) cK;refine fH ?_;go_simp;refine hK.out _ _ (au.alloc au.size _) (λau=>?_);clear hK K;refine Mk.pt ?_;refine dJ (rs:=[17]) bh ay ?_;refine bZ rfl (λK hK=>?_) cK;refine fH ?_;go_simp;refine hK.out _ _ (((az _ w 1).alloc (aL _) _).alloc ay _) (λau=>?_);clear hK K;refine Mk.pt ?_;refine dJ (rs:=[18]) bh ay ?_;refine bZ rfl (λK hK=>?_) cK;refine fH ?_;go_simp;refine hK.out _ _ (((az _ w 1).alloc (aL _) _).alloc ay _) (λau=>?_);clear hK K;refine Mk.pt ?_;refine fx bh ⟨rfl,?_⟩ _;clear au;rotate_left;refine fH ?_;go_simp;refine hK.out _ _ (au.alloc au.size _) (λau=>?_);clear hK K;refine Mk.pt ?_;refine dJ (rs:=[15]) bh ay ?_;refine bZ rfl (λK hK=>?_) cK;refine fH ?_;go_simp;refine hK.out _ _ (au.alloc au.size _) (λau=>?_);clear hK K;refine Mk.pt ?_;refine dJ (rs:=[17]) bh ay ?_;refine bZ rfl (λK hK=>?_) cK;refine fH ?_;go_simp;refine hK.out _ _ (((az _ w 1).alloc (aL _) _).alloc ay _) (λau=>?_);clear hK K;refine Mk.pt ?_;refine dJ (rs:=[18]) bh ay ?_;refine bZ rfl (λK hK=>?_) cK;refine fH ?_;go_simp;refine hK.out _ _ (((az _ w 1).alloc (aL _) _).alloc ay _) (λau=>?_);clear hK K;refine Mk.pt ?_;refine fx bh ⟨rfl,?_⟩ _;clear au
  all_goals
   refine⟨rfl,?_⟩
   first
   |exact⟨_,w.heap.size,w.heap.size+1,FK.of _ rfl,rfl,rfl,rfl,rfl,Z (((aF.new w _ _).alloc _).drewN 1),Z ((aF.bR ay).drewN 1),Z ⟨G,G,G⟩,Z ((hB _ _ _ _).trans (az _ _ 1))⟩
   |exact⟨_,w.heap.size+1,w.heap.size,FK.of _ rfl,rfl,rfl,rfl,rfl,Z ((aF.bR ay).drewN 1),Z (((aF.new w _ _).alloc _).drewN 1),Z ⟨G,G,G⟩,Z ((hB _ _ _ _).trans (az _ _ 1))⟩
 ·rintro e a W ⟨rfl,J,bx,bs,rfl,j0,j1,j5,j6,KX,KS,tW,HW⟩;have sU:=Z tW.o.1;have BL:=Z tW.o.2.2;unfold FK;rw[j0,j1,j5,j6];clear j0 j1 j5 j6 tW v5 v6 lv oT ccb a3 c0 c1 c2 c3 c4 s0 s1 s2 s3 s4 s5 s6 s7 s8 s9 RM MV Eu q1 q2 kc hB;cases hT:T pc with
  |none=>have HE:=Z (show dl p T pc=99 by unfold dl;rw[hT]);rw[hT]at KS;change Hid (aF W bs 233 #[.bool false,.string tb,Y (lc 0),Y (lc 1),Y (lc 2),Y (lc 3),Y (lc 4),Y (lc 5),Y (lc 6),Y (lc 7),Y ln,Y ha,H ma n8 mc])at KS;obtain⟨d0,d1,d2,d3,d4⟩:=KX.o.c5;obtain⟨e0,e1,e2,e3,e4,e5,e6,e7,e8,e9,Gk,Gl,Gm⟩:=KS.o.ri;have lx:=KX.o.lt;have ls:=KS.o.lt;have fs:=KS.o.frozen;exact TW
  |some st=>
   have hss:fA T pc=st:=by unfold fA;rw[hT];rfl
   obtain rfl:st=s:=hss.symm.trans lN.o;rw[hT]at KS;change Hid (aF W bs 233 #[.bool true,.string tb,Y (lc 0),Y (lc 1),Y (lc 2),Y (lc 3),Y (lc 4),Y (lc 5),Y (lc 6),Y (lc 7),Y ln,Y ha,H ma n8 mc])at KS;have hle:dl p T pc=if !fo p x st.ha then 96 else if bQ x st.ty≠0 then bQ x st.ty else if !c_ p x then 92 else if !cP p T pc x (a_ x st.ty) st.lo then 95 else if(cH pc x ⟨a_ x st.ty,st.lo,bE p x st.ha⟩).any (λw=>decide (p.code.length<=w.1))then 98 else if !(kq (cH pc x ⟨a_ x st.ty,st.lo,bE p x st.ha⟩)&&m_ T (cH pc x ⟨a_ x st.ty,st.lo,bE p x st.ha⟩))then 94 else 0:=by unfold dl;rw[hT,HX.o]
   have Dz:jp p T pc=qL T (cH pc x ⟨a_ x st.ty,st.lo,bE p x st.ha⟩):=by unfold jp;rw[hT,HX.o]
   have Fg:=Z hle;have HLM:=Z Dz;have TX:0<=x.op/\x.op<=41:=by unfold jH aO at dW;simpa using dW
   have HQA:=Z (λh=>PQ fD h);have HQC:=Z (λh=>WH fD h);have HXA:=Z (λh=>PR fD h);have tlo:=TK.o.loops pc st hT;have tty:=TK.o.ty pc st hT;have J1:=TK.o.len pc st hT;have tha:=TK.o.ha pc st hT;have Nl:=Z (λV (X:Below w.heap.size w V)=>adt (x:=x) (ha:=st.ha) (a0g.o.aG (aA.af X)) (HV.o.of (X.block _ HV.o.lt)) (λh=>HQA.o (by simp[h])) tha);have hmr:∃a n c,mv pc=H a n c:=⟨_,_,_,SB.o⟩;have TY:=Z (λV=>acZ V (vv:=V5 vb) (mv:=mv pc) true (s:=st) (x:=x) TX.1 TX.2 J1 tty hmr);have HKI:=Z (λV (X:Below w.heap.size w V)=>ads (x:=x) (a0g.o.aG (aA.af X)) (HV.o.of (X.block _ HV.o.lt)) (λh=>HQA.o (by rcases h with h|h|h|h|h<;>simp[h])) (λh=>HQC.o h));have Iz:=Z (λV (X:Below w.heap.size w V) (ht:fe (a_ x st.ty))=>CK (s:=⟨a_ x st.ty,st.lo,st.ha⟩) (x:=x) (pc:=pc) (T:=T) (smv:=mv pc) (a0g.o.aG (aA.af X)) (HV.o.of (X.block _ HV.o.lt)) (HS.o.aG (aA.af X)) (by have h1:=HS.o.more pc Dy.o;rw[Gn.o]at h1;exact h1.aG (aA.af X)) ⟨Dy.o,TX.1,λh=>HXA.o h,tlo,ht,λq s hq=>⟨TK.o.loops q s hq,TK.o.ty q s hq⟩,hlen⟩);have HHO:=Z (λV (X:Below w.heap.size w V)=>adu (x:=x) (ha:=st.ha) (a0g.o.aG (aA.af X)) (HV.o.of (X.block _ HV.o.lt)) (λh=>HQA.o (by simp[h])));have HMM:=Z (show dx w (mv pc) st.lo from by have h1:=HS.o.more pc Dy.o;rw[Gn.o]at h1;exact h1);have yo:=Z (J0 TK.o.loops st.lo pc tlo);have Px:=Z (Fe (x:=x) (ty:=st.ty) G tty);have HTH:=Z tha;have HT:=Z hT;rw[SB.o]at TY Iz;rw[Nk.o]at Nl Iz HHO;unfold aV aI at Nl HKI HHO;unfold aV aI dY cQ at TY Iz;dsimp only at Iz;rw[ub.o,CN.o,sD.o,Nk.o]at TY;rw[CN.o,sD.o]at Iz;rw[Nk.o]at Fg HLM;clear hle Dz hT hss lN hmr tlo tty J1 tha dW fD;obtain⟨d0,d1,d2,d3,d4⟩:=KX.o.c5;obtain⟨e0,e1,e2,e3,e4,e5,e6,e7,e8,e9,Gk,Gl,Gm⟩:=KS.o.ri;have lx:=KX.o.lt;have ls:=KS.o.lt;have fs:=KS.o.frozen;cases hh:fo p x ha with
   |false=>
    have HE:=Z (show dl p T pc=96 by rw[Fg.o,hh];rfl);rw[hh]at Nl;go_wp2_with fail
    with_reducible refine(Nl.o _ HW.o).mono ?_
    rintro e W1 ⟨rfl,X⟩;clear d0 d1 d2 d3 d4 e0 e1 e2 e3 e4 e5 e6 e7 e8 e9 Gk Gl Gm lx ls fs;replace KX:=Z (KX.o.of (X.block _ KX.o.lt));replace KS:=Z (KS.o.of (X.block _ KS.o.lt));replace HW:=Z (HW.o.trans (X.mono HW.o.size));clear X;exact TW
   |true=>
    have HHT:=Z hh;rw[hh]at Nl;go_wp2_with fail
    with_reducible refine(Nl.o _ HW.o).mono ?_
    rintro e W1 ⟨rfl,X⟩;clear d0 d1 d2 d3 d4 e0 e1 e2 e3 e4 e5 e6 e7 e8 e9 Gk Gl Gm lx ls fs;replace KX:=Z (KX.o.of (X.block _ KX.o.lt));replace KS:=Z (KS.o.of (X.block _ KS.o.lt));replace HW:=Z (HW.o.trans (X.mono HW.o.size));clear X;obtain⟨d0,d1,d2,d3,d4⟩:=KX.o.c5;obtain⟨e0,e1,e2,e3,e4,e5,e6,e7,e8,e9,Gk,Gl,Gm⟩:=KS.o.ri;have lx:=KX.o.lt;have ls:=KS.o.lt;have fs:=KS.o.frozen;go_wp2_with fail
    with_reducible refine(TY.o _).mono ?_
    rintro e W2 ⟨s',rfl,ni,X⟩;clear d0 d1 d2 d3 d4 e0 e1 e2 e3 e4 e5 e6 e7 e8 e9 Gk Gl Gm lx ls fs;replace KX:=Z (KX.o.of (X.block _ KX.o.lt));replace KS:=Z (KS.o.of (X.block _ KS.o.lt));replace HW:=Z (HW.o.trans (X.mono HW.o.size));clear X;obtain⟨d0,d1,d2,d3,d4⟩:=KX.o.c5;obtain⟨e0,e1,e2,e3,e4,e5,e6,e7,e8,e9,Gk,Gl,Gm⟩:=KS.o.ri;have lx:=KX.o.lt;have ls:=KS.o.lt;have fs:=KS.o.frozen;by_cases WI:bQ x st.ty=0
    case neg=>
     have afd:(bQ x st.ty !=0)=true:=by simpa using WI
     have HE:=Z (show dl p T pc=bQ x st.ty by rw[Fg.o,HHT.o];simp[WI]);have HNZ:=Z WI;unfold dY;generalize bQ x st.ty=te at*;clear ni WI e0 e1 e2 e3 e4 e5 e6 e7 e8 e9 Gk Gl Gm fs;go_wp2_with (refine fi rfl 233 (.tmp 6) (.tmp 46) rfl bs (cQ true s' (H ma n8 mc)) rfl rfl KS.o rfl zk (zm _ _ _ _ _) ?_;intro W3 l8 DA);refine wj rfl ?_;exact⟨by rw[HE.o];rfl,aA.af (HW.o.trans (DA.below HW.o.size (by have:=BL.o;simp;exact this))),λh=>absurd (HE.o.symm.trans h) HNZ.o⟩
    case pos=>
     obtain rfl:=ni WI;rw[WI];have HTE:=Z WI;clear ni WI;unfold dY;have Qf:=Z (show cQ true ⟨a_ x st.ty,st.lo,st.ha⟩ (H ma n8 mc)=#[.bool true,.string (gE (a_ x st.ty)),Y (lc 0),Y (lc 1),Y (lc 2),Y (lc 3),Y (lc 4),Y (lc 5),Y (lc 6),Y (lc 7),Y ln,Y ha,H ma n8 mc]from by unfold cQ;rw[CN.o,sD.o,Nk.o]);generalize ZX:gE (a_ x st.ty)=tb2 at*;have J8:=Z ZX;clear ZX e0 e1 e2 e3 e4 e5 e6 e7 e8 e9 Gk Gl Gm fs;cases hk:c_ p x with
     |false=>
      have HE:=Z (show dl p T pc=92 by rw[Fg.o,HHT.o,HTE.o,hk];rfl);rw[hk]at HKI;go_wp2_with ((refine fi rfl 233 (.tmp 6) (.tmp 46) rfl bs (cQ true ⟨a_ x st.ty,st.lo,st.ha⟩ (H ma n8 mc)) rfl rfl KS.o rfl zk (zm _ _ _ _ _) ?_;intro W3 l8 DA;rw[Qf.o]at l8;replace KX:=Z (KX.o.aG DA (by have:=sU.o;simp;exact this));replace HW:=Z (HW.o.trans (DA.below HW.o.size (by have:=BL.o;simp;exact this)));replace KS:=Z l8;replace d0:Vo W3 (I bx 0)=O (Y x.op):=KX.o.cell 0;replace d1:Vo W3 (I bx 1)=O (Y x.a):=KX.o.cell 1;replace d2:Vo W3 (I bx 2)=O (Y x.b):=KX.o.cell 2;replace d3:Vo W3 (I bx 3)=O (Y x.c):=KX.o.cell 3;replace d4:Vo W3 (I bx 4)=O (Y x.d):=KX.o.cell 4;replace lx:=KX.o.lt;clear l8 DA ls))
      with_reducible refine(HKI.o _ HW.o).mono ?_
      rintro e W4 ⟨rfl,X⟩;clear d0 d1 d2 d3 d4 lx;replace KX:=Z (KX.o.of (X.block _ KX.o.lt));replace KS:=Z (KS.o.of (X.block _ KS.o.lt));replace HW:=Z (HW.o.trans (X.mono HW.o.size));clear X;exact TW
     |true=>
      have HKT:=Z hk;rw[hk]at HKI;go_wp2_with ((refine fi rfl 233 (.tmp 6) (.tmp 46) rfl bs (cQ true ⟨a_ x st.ty,st.lo,st.ha⟩ (H ma n8 mc)) rfl rfl KS.o rfl zk (zm _ _ _ _ _) ?_;intro W3 l8 DA;rw[Qf.o]at l8;replace KX:=Z (KX.o.aG DA (by have:=sU.o;simp;exact this));replace HW:=Z (HW.o.trans (DA.below HW.o.size (by have:=BL.o;simp;exact this)));replace KS:=Z l8;replace d0:Vo W3 (I bx 0)=O (Y x.op):=KX.o.cell 0;replace d1:Vo W3 (I bx 1)=O (Y x.a):=KX.o.cell 1;replace d2:Vo W3 (I bx 2)=O (Y x.b):=KX.o.cell 2;replace d3:Vo W3 (I bx 3)=O (Y x.c):=KX.o.cell 3;replace d4:Vo W3 (I bx 4)=O (Y x.d):=KX.o.cell 4;replace lx:=KX.o.lt;clear l8 DA ls))
      with_reducible refine(HKI.o _ HW.o).mono ?_
      rintro e W4 ⟨rfl,X⟩;clear d0 d1 d2 d3 d4 lx;replace KX:=Z (KX.o.of (X.block _ KX.o.lt));replace KS:=Z (KS.o.of (X.block _ KS.o.lt));replace HW:=Z (HW.o.trans (X.mono HW.o.size));clear X;obtain⟨d0,d1,d2,d3,d4⟩:=KX.o.c5;obtain⟨e0,e1,e2,e3,e4,e5,e6,e7,e8,e9,Gk,Gl,Gm⟩:=KS.o.ri;have lx:=KX.o.lt;have ls:=KS.o.lt;have fs:=KS.o.frozen;obtain⟨jb,hjb⟩:∃z,cP p T pc x (a_ x st.ty) st.lo=z:=⟨_,rfl⟩;have HJB:=Z hjb;rw[hjb]at Iz;clear hjb;cases jb with
      |false=>
       have HE:=Z (show dl p T pc=95 by rw[Fg.o,HHT.o,HTE.o,HKT.o,HJB.o];rfl);go_wp2_with fail
       with_reducible refine(Iz.o _ HW.o Px.o).mono ?_
       rintro e W5 ⟨rfl,X⟩;clear d0 d1 d2 d3 d4 e0 e1 e2 e3 e4 e5 e6 e7 e8 e9 Gk Gl Gm lx ls fs;replace KX:=Z (KX.o.of (X.block _ KX.o.lt));replace KS:=Z (KS.o.of (X.block _ KS.o.lt));replace HW:=Z (HW.o.trans (X.mono HW.o.size));clear X;exact TW
      |true=>
       go_wp2_with fail
       with_reducible refine(Iz.o _ HW.o Px.o).mono ?_
       rintro e W5 ⟨rfl,X⟩;clear d0 d1 d2 d3 d4 e0 e1 e2 e3 e4 e5 e6 e7 e8 e9 Gk Gl Gm lx ls fs;replace KX:=Z (KX.o.of (X.block _ KX.o.lt));replace KS:=Z (KS.o.of (X.block _ KS.o.lt));replace HW:=Z (HW.o.trans (X.mono HW.o.size));clear X;obtain⟨d0,d1,d2,d3,d4⟩:=KX.o.c5;obtain⟨e0,e1,e2,e3,e4,e5,e6,e7,e8,e9,Gk,Gl,Gm⟩:=KS.o.ri;have lx:=KX.o.lt;have ls:=KS.o.lt;have fs:=KS.o.frozen;have Kf:=Z (λV (X:Below w.heap.size w V)=>adf V (pc:=pc) (x:=x) (s:=⟨a_ x st.ty,st.lo,bE p x ha⟩) (smv:=H ma n8 mc) (by rw[<-SB.o];exact HMM.o.aG (aA.af X)) (by have:=Dy.o;omega) TX.1 (λh=>(HXA.o h).1) (by show st.lo.length<=_;have:=yo.o;have:=Dy.o;omega) (λh=>acH HJB.o h));unfold aV aI dY cQ at Kf;dsimp only at Kf;rw[J8.o,CN.o,sD.o]at Kf
       try rw[RK.o]at Kf
       rw[<-Nk.o]at Kf;rw[Nk.o]at Kf;have Zt:=yT pc x ⟨a_ x st.ty,st.lo,bE p x ha⟩;have Ug:WOk (cH pc x ⟨a_ x st.ty,st.lo,bE p x ha⟩):=λi hi=>by
        have hm:(cH pc x ⟨a_ x st.ty,st.lo,bE p x ha⟩).getD i eP∈cH pc x ⟨a_ x st.ty,st.lo,bE p x ha⟩:=by rw[dN,fq hi];exact ja hi
        refine⟨by rw[(CR hm).1];exact Px.o,?_⟩;have h1:=acG hm;have h2:=yo.o;have h3:=Dy.o;show _<=_;dsimp only at h1;omega
       have aen:=Z Ug;generalize cH pc x ⟨a_ x st.ty,st.lo,bE p x ha⟩=wl at*;clear Ug;go_wp2_with fail
       with_reducible refine(HHO.o _ HW.o).mono ?_
       rintro e W6 ⟨rfl,X⟩;clear d0 d1 d2 d3 d4 e0 e1 e2 e3 e4 e5 e6 e7 e8 e9 Gk Gl Gm lx ls fs;replace KX:=Z (KX.o.of (X.block _ KX.o.lt));replace KS:=Z (KS.o.of (X.block _ KS.o.lt));replace HW:=Z (HW.o.trans (X.mono HW.o.size));clear X;obtain⟨d0,d1,d2,d3,d4⟩:=KX.o.c5;obtain⟨e0,e1,e2,e3,e4,e5,e6,e7,e8,e9,Gk,Gl,Gm⟩:=KS.o.ri;have lx:=KX.o.lt;have ls:=KS.o.lt;have fs:=KS.o.frozen;generalize hhd:bE p x ha=hd9 at*;clear hhd;go_wp2_with fail;have hB7:Below w.heap.size w (W6.setCell (I bs 11) (Y hd9)):=HW.o.setCell (p:=(I bs 11)) BL.o _;generalize(W6.setCell (I bs 11) (Y hd9))=W7 at*;replace HW:=Z hB7;clear hB7 KX KS;clear d0 d1 d2 d3 d4 e0 e1 e2 e3 e4 e5 e6 e7 e8 e9 Gk Gl Gm lx ls fs
       with_reducible refine(Kf.o _ HW.o).mono ?_
       rintro e W8 ⟨lv,wb,rfl,hy,X,gp⟩;obtain⟨la,Zu,Kd,-,-⟩:=hy.row.val;subst Kd;have HY:=Z hy;have h67:=HW.o.size;have aeo:=Z (λb X=>cU h67 (gp b X));replace HW:=Z (HW.o.trans (X.mono HW.o.size));have HP8:=Z (a0g.o.aG (aA.af HW.o));have HV8:=Z (HV.o.of (HW.o.block _ HV.o.lt));have HS8:=Z (HS.o.aG (aA.af HW.o));have HTO:Hid (∀q s,T q=O s->fe s.ty/\s.lo.length<=1000000000):=Z λq s hq=>⟨TK.o.ty q s hq,by
        have h1:=J0 TK.o.loops s.lo q (TK.o.loops q s hq);have h2:=TK.o.lt q s hq;omega⟩
       have Ke:Hid (∀i,i<wl.length->∀b,(wb i).ownBlock=O b->b≠A):=Z λi hi b X e=>by
        subst e;rcases HY.o.off i hi _ X with h1|h1
        ·exact HS.o.off pc Dy.o b (by rw[SB.o];exact h1) rfl
        ·have h2:b<w.heap.size:=(HS.o.row.slice).2.2.2;omega
       have TV:Hid (∀b,(Value.slice la wl.length Zu).ownBlock=O b->b≠A):=Z λb X e=>by subst e;have h1:=aeo.o b X;have h2:b<w.heap.size:=(HS.o.row.slice).2.2.2;omega
       have HVA:Hid (vb≠A):=Z λe=>by subst e;exact HS.o.row.eZ HV.o bd rfl
       clear hy X gp h67 HS a0g HMM Nl TY HKI Iz HHO Kf;go_wp2_with fail;refine lk1 (w1:=W8) (pc:=pc) HP8 HV8 HY Zt (λA9 W9 hA wZ hex=>?_) (λacF W9 j0 j1 j8 wZ Qd=>?_) ⟨_,0,FK.of _ rfl,rfl,rfl,rfl,rfl,rfl,rfl,cM _,rfl,Z (aY _ _)⟩
       ·have HE:=Z (show dl p T pc=98 from by rw[Fg.o,HHT.o,HTE.o,HKT.o,HJB.o,(CX wl).2 hex];rfl);exact Fp
       ·have TZ:=Z Qd;have IA:=Z wZ;unfold FK;rw[j0,j1,j8];clear j0 j1 j8 Qd wZ;go_wp2;go_step3;go_wp2_with fail;refine lk2 (w1:=W8) (pc:=pc) (mv:=mv) HV8 HS8 HTO HY aen Zt TZ ?_ ?_ ?_;rotate_left 2
        ·exact⟨_,0,FK.of _ rfl,rfl,rfl,rfl,rfl,rfl,rfl,cM _,rfl,IA⟩
        ·intro A9 W10 hA wZ hex;have HAN:=Z (show wl.any (λw=>decide (p.code.length<=w.1))=false from by
          rw[vV];intro h;obtain⟨i,hi,h2⟩:=(CX wl).1 h;have:=TZ.o i hi;omega)
         have HE:=Z (show dl p T pc=94 from by
          rw[Fg.o,HHT.o,HTE.o,HKT.o,HJB.o,HAN.o,show(kq wl&&m_ T wl)=false from by rw[vV];exact λh=>hex ((Bh T wl).1 h)];rfl)
         exact Fp
        ·intro J10 W10 j0 j1 j8 wZ hme;have HME:=Z hme;have Fh:=Z wZ;unfold FK;rw[j0,j8];clear j0 j1 j8 hme wZ;go_wp2_with fail;have aep:=Z (HV8.o.of (Fh.o.block _ HV8.o.lt));have yH:=Z (HY.o.aG (aA.af Fh.o));refine lk4 (w1:=W10) aep HVA yH TV Ke (by have h2:=(HS8.o.row.slice).2.2.2;have:=Fh.o.size;omega) Zt TZ (λJ11 W11 PH hF hS=>?_) ⟨_,0,FK.of _ rfl,rfl,rfl,rfl,rfl,cM _,rfl,Z (aA.refl _ _),mv,Z (by rw[List.take_zero];exact HS8.o.aG (aA.af Fh.o))⟩;have HF:=Z hF;have aeq:=Z hS;unfold FK;clear hF hS;go_wp2_with fail;refine wj rfl ?_;have HAN:=Z (show wl.any (λw=>decide (p.code.length<=w.1))=false from by
          rw[vV];intro h;obtain⟨i,hi,h2⟩:=(CX wl).1 h;have:=TZ.o i hi;omega)
         have HE:=Z (show dl p T pc=0 from by
          rw[Fg.o,HHT.o,HTE.o,HKT.o,HJB.o,HAN.o,(Bh T wl).2 HME.o];rfl)
         exact⟨by rw[HE.o];rfl,(aA.af (HW.o.trans (Fh.o.mono HW.o.size))).trans HF.o,λ_=>⟨PH,by rw[HLM.o];exact aeq.o⟩⟩
end
end Go.Vf
section
namespace aj.Vm
def iG{a b:Nat}(X:b<=MS):bG a b<=MS:=by unfold bG;split<;>omega
def ug(a b:Nat):eM a b<=MS:=by unfold eM;split<;>omega
def acD{p:aQ}{g:Nat->Nat}(hg:∀i,g i<=MS)(pc:Nat):lP p g pc<=MS:=by
 unfold lP;dsimp only;split
 ·decide
 split
 ·exact iG (hg _)
 split
 ·exact iG (by have:=hg (pc+1);have:=hg (al p pc).a.toNat;omega)
 split
 ·exact iG (iG (hg _))
 ·exact iG (hg _)
def uh(p:aQ):∀k i,dQ p k i<=MS
 |0,_=>cM _
 |k+1,i=>by
  unfold dQ;rw[dq];split
  ·exact acD (uh p k) _
  ·exact uh p k i
def zo{p:aQ}{j:Nat}(h:j<p.code.length):dQ p (p.code.length-j)=aR (dQ p (p.code.length - (j+1))) j (lP p (dQ p (p.code.length - (j+1))) j):=by rw[show p.code.length-j=(p.code.length - (j+1))+1 by omega];show aR _ (p.code.length-1 - (p.code.length - (j+1))) _=_;rw[show p.code.length-1 - (p.code.length - (j+1))=j by omega]
end aj.Vm
namespace Go.Vf
open Go.RowKit aj.Vm
open aj hiding aR an ak
open Ma (dP ci aX vb aI aV ny)
def FF(J:Nat->to):Act:={tmps:=#[J 0,J 1,J 2,J 3,J 4,J 5,J 6,J 7,J 8,J 9,J 10,J 11,J 12,J 13,J 14,J 15,J 16,J 17,J 18,J 19,J 20,J 21,J 22,J 23,J 24,J 25,J 26,J 27,J 28,J 29,J 30,J 31,J 32,J 33,J 34,J 35,J 36,J 37,J 38,J 39,J 40,J 41,J 42,J 43,J 44,J 45,J 46,J 47,J 48,J 49,J 50,J 51,J 52,J 53,J 54,J 55,J 56,J 57,J 58,J 59,J 60,J 61,J 62,J 63,J 64,J 65,J 66,J 67,J 68,J 69,J 70,J 71,J 72,J 73,J 74,J 75,J 76,J 77,J 78,J 79,J 80,J 81,J 82,J 83,J 84,J 85,J 86,J 87,J 88,J 89,J 90,J 91,J 92,J 93,J 94,J 95,J 96,J 97],defers:=[]}
def FF.of(A:Array to)(h:A=(FF λk=>A.getD k undef).tmps):({tmps:=A,defers:=[]}:Act)=FF λk=>A.getD k undef:=by rw[h];rfl
def gC(g:Nat->Nat)(i:Nat):to:=Y (g i:Nat)
def ZW{P:Program}{fn:Func}{R:Ending->ek->Prop}{A:Array to}{w:ek}{t:Tmp}(h:fn.results=#[.tmp t])(hR:R (Vl (A.getD t undef)) w):Exit.noGoto (bodyPost P fn R) .ret {tmps:=A,defers:=[]} w:=by rw[Exit.noGoto_ret];exact fy h hR
def FuS(w:ek)(p:aQ)(vb:Nat)(cv:to)(fb fc:Nat)(a:Act)(W:ek):Prop:=
 ∃(J:Nat->to) (m:Nat),a=FF J/\J 0=V5 vb/\J 3=cv/\J 4=H (O (I fb 0)) p.code.length fc/\J 5=Y ((m:Int) - 1)/\m<=p.code.length/\Hid (w.heap.size<=fb/\Below w.heap.size w W/\Row W 3 1 (H (O (I fb 0)) p.code.length fc) p.code.length (gC (dQ p (p.code.length-m))))
def ui(w:ek)(p:aQ)(e:Ending)(w':ek):Prop:=∃fb fc,e=Vl (H (O (I fb 0)) p.code.length fc)/\w.heap.size<=fb/\Below w.heap.size w w'/\Row w' 3 1 (H (O (I fb 0)) p.code.length fc) p.code.length (gC (lB p))
section
variable {w:ek}{K:Kp}{p:aQ}{jg:to}{vb:Nat}
def Wq{p:Prop}(h:p:=by
 go_wp2;go_step3;exact⟨rfl,⟨fb,fc,_,j,FF.of _ rfl,rfl,rfl,(by rw[HN.o];rfl),rfl,(by rw[HN.o];omega),Z (by rw[HN.o];exact Ex.o _ eF.o _ qg.o.symm)⟩,by simp[Proofs.intOf]⟩):p:=h
def iq{p:Prop}(h:p:=by
 go_wp2_with fail;refine(Fi.o _).mono ?_;rintro e W1 ⟨rfl,rfl⟩;go_wp2;go_step3;exact⟨rfl,⟨fb,fc,_,j,FF.of _ rfl,rfl,rfl,(by rw[HN.o];rfl),rfl,(by rw[HN.o];omega),Z (by rw[HN.o];exact Kg.o _ _ (_) (qg.o.symm))⟩,by simp[Proofs.intOf]⟩):p:=h
def IB(h:fW w K p)(hv:aF w vb 230 (sM K p jg))(hlen:p.code.length<=262144)(fD:CY p):
 Calls prog 174 #[V5 vb] w (ui w p):=by
 have v5:Vo w (I vb 5)=O K.c:=hv.cell 5;have lv:=hv.lt;obtain⟨ca,cc,kc,WK,Fb⟩:=aZ.val h.cd;rw[kc]at v5;have a0g:=Z h;have B0:=Z kc;have me:=Z fD;have jN:Hid (8*p.code.length<=281474976710656/\p.code.length<=maxLen):=Z ⟨G,by unfold maxLen;omega⟩;have IC:Hid (∀V (b:Nat),b<=MS->Calls prog 249 #[Y 1,Y b] V λe w'=>e=Vl (Y (bG 1 b))/\w'=V):=Z λV b X=>Pz V 1 b bd X;have HPM:=Z (λV (a b:Nat) ha X=>Pz V a b ha X);have HTM:=Z (λV (a b:Nat) ha X=>adB V a b ha X);clear h hv kc fD;generalize hn:p.code.length=n at*;have HN:=Z hn;clear hn;go_enter func174,ntmps174;go_wp2_with fail;refine ny 0 (λa' wr=>∃fb fc,FuS w p vb (H ca n cc) fb fc a' wr) (λa' _=>(Proofs.intOf (a'.tmps.getD 5 undef)+1).toNat) rfl ?_ ?_
 ·rintro a' W ⟨fb,fc,J,m,rfl,j0,j3,j4,j5,hm,HF⟩;rw[HN.o]at j4 hm HF;unfold FF;rw[j0,j3,j4,j5];clear j0 j3 j4 j5;by_cases hm0:m=0
  ·subst hm0;have HE:=Z (show ui w p (Vl (H (O (I fb 0)) n fc)) W from⟨fb,fc,by rw[HN.o],HF.o.1,HF.o.2.1,by rw[HN.o];have h:=HF.o.2.2;rw[Nat.sub_zero]at h;unfold lB;rw[HN.o];exact h⟩);go_wp2_with fail;refine ZW rfl ?_;exact HE.o
  obtain⟨j,rfl⟩:∃j,m=j+1:=⟨m-1,G⟩;have w1:(((j+1:Nat):Int) - 1)=(j:Int):=G;have w2:IntKind.i64.wrap ((j:Int) - 1)=(j:Int) - 1:=bJ _ lI;rw[w1];clear w1 hm0;have hj:j<n:=G;obtain⟨b,off,cap,e,-,-,c0,c1,c2,c3,c4⟩:=(a0g.o.aG (aA.af HF.o.2.1)).ins (i:=j) (by rw[HN.o];exact hj);rw[B0.o,HN.o]at e;simp only[cz]at e;obtain⟨rfl,-,rfl⟩:=e;have lN:=Z (zo (p:=p) (j:=j) (by rw[HN.o];exact hj));rw[HN.o]at lN;have gU:∀i,i<n->Vo W (I fb i)=O (Y (dQ p (n - (j+1)) i:Nat)):=λi hi=>HF.o.2.2.cell (o:=i) G;have PU:∀i,dQ p (n - (j+1)) i<=MS:=uh p _;have WL:fb<W.heap.size:=(HF.o.2.2.slice).2.2.2;have vT:∀o,W.frozen? (I fb o)=false:=λo=>HF.o.2.2.frozen o;have lb:=aH c0;have Ex:=Z (λ(V:ek) (X:Below W.heap.size W V) (v:Nat) (hv:v=lP p (dQ p (n - (j+1))) j)=>show w.heap.size<=fb/\Below w.heap.size w (V.setCell (I fb j) (Y v))/\Row (V.setCell (I fb j) (Y v)) 3 1 (H (O (I fb 0)) n fc) n (gC (dQ p (n-j)))from by
   refine⟨HF.o.1,(HF.o.2.1.trans (X.mono HF.o.2.1.size)).setCell HF.o.1 _,?_⟩;rw[lN.o];have hr:=(HF.o.2.2.aG (aA.af (S:=[]) X) ay).set (o:=j) G (Y v);refine hr.congr λo ho=>?_;unfold gC;rw[dq];by_cases e:o=j
   ·subst e;rw[aB rfl,aB rfl,hv]
   ·rw[aw e,aw e])
  have Kg:=Z (λ(cs:Array to) (T:TypeId) (v:Nat) (hv:v=lP p (dQ p (n - (j+1))) j)=>show w.heap.size<=fb/\Below w.heap.size w ((W.setCell (I fb j) (Y v)).alloc (CA cs T))/\Row ((W.setCell (I fb j) (Y v)).alloc (CA cs T)) 3 1 (H (O (I fb 0)) n fc) n (gC (dQ p (n-j)))from by
   obtain⟨h1,h2,h3⟩:=Ex.o W (aY _ _) v hv;exact⟨h1,h2.alloc h2.size _,h3.alloc _⟩)
  have pY:=Z (λ(V:ek) (X:Below W.heap.size W V)=>HF.o.2.2.aG (aA.af (S:=[]) X) ay);have cj:=gU j hj;have hx:=me.o j (by rw[HN.o];exact hj);rw[HN.o]at hx;have HJ2:=Z (show∀k,(al p (j+1))=k->(al p (j+1))=k from λ_ h=>h);have Rw:lP p (dQ p (n - (j+1))) j=if(al p j).op=0\/(al p j).op=27 then 1 else if(al p j).op=22 then bG 1 (dQ p (n - (j+1)) (al p j).a.toNat)else if(al p j).op=23 then bG 1 (max (dQ p (n - (j+1)) (j+1)) (dQ p (n - (j+1)) (al p j).a.toNat))else if(al p j).op=24 then bG (bG 1 (eM (al p j).a.toNat (bG 1 (dQ p (n - (j+1)) (j+2))))) (bG 1 (dQ p (n - (j+1)) (al p (j+1)).a.toNat))else bG 1 (dQ p (n - (j+1)) (j+1)):=rfl;have qg:=Z Rw;clear Rw;have Nj:=Z HF.o.2.1;generalize dQ p (n - (j+1))=g at*;have HG:=Z PU;have yM:=Z gU;clear PU gU;obtain⟨RN,Kh,uU,GO⟩:=hx;obtain⟨op,dW⟩:∃z,(al p j).op=z:=⟨_,rfl⟩;obtain⟨xa,zJ⟩:∃z,(al p j).a=z:=⟨_,rfl⟩;obtain⟨xb,kW⟩:∃z,(al p j).b=z:=⟨_,rfl⟩;obtain⟨xc,hxc⟩:∃z,(al p j).c=z:=⟨_,rfl⟩;obtain⟨xd,Vv⟩:∃z,(al p j).d=z:=⟨_,rfl⟩;rw[dW]at c0 RN Kh uU GO qg;rw[zJ]at c1 Kh uU qg;rw[kW]at c2;rw[hxc]at c3;rw[Vv]at c4;clear dW zJ kW hxc Vv;have cR:=Z (λcs T=>(aY W.heap.size W).alloc (aL _) (CA cs T));by_cases o1:op=0\/op=27
  ·rw[aB o1]at qg;rcases o1 with rfl|rfl
   all_goals
    go_wp2;go_step3;exact⟨rfl,⟨fb,fc,_,j,FF.of _ rfl,rfl,rfl,(by rw[HN.o];rfl),rfl,(by rw[HN.o];omega),Z (by rw[HN.o];exact Kg.o _ _ (1) (qg.o.symm))⟩,by simp[Proofs.intOf]⟩
  rw[aw o1]at qg;have o0:(op==0)=false:=by simp;exact λh=>o1 (.inl h)
  have Zv:(op==27)=false:=by simp;exact λh=>o1 (.inr h)
  by_cases o2:op=22
  ·subst o2;rw[aB rfl]at qg;obtain⟨a1,a2⟩:=Kh (.inl rfl);obtain⟨xm,rfl⟩:=eJ a1;have Zw:xm<n:=G;have ca9:=yM.o xm Zw;have Fi:=Z (λV=>IC.o V (g xm) (HG.o _));rw[Int.toNat_natCast]at qg;generalize g xm=gx at*;exact iq
  rw[aw o2]at qg;have o22:(op==22)=false:=by simpa using o2
  have hj1:j+1<n:=GO (λh=>o1 (.inl h)) (λh=>o1 (.inr h)) o2;have w4:IntKind.i64.wrap ((j:Int)+1)=((j+1:Nat):Int):=by rw[bJ _ lI];omega
  have cj1:=yM.o (j+1) hj1;by_cases o3:op=23
  ·subst o3;rw[aB rfl]at qg;obtain⟨a1,a2⟩:=Kh (.inr rfl);obtain⟨xm,rfl⟩:=eJ a1;have Zw:xm<n:=G;have ca9:=yM.o xm Zw;rw[Int.toNat_natCast]at qg;have Zx:max ((g (j+1):Nat):Int) ((g xm:Nat):Int)=((max (g (j+1)) (g xm):Nat):Int):=G;have Fi:=Z (λV=>IC.o V (max (g (j+1)) (g xm)) (by have:=HG.o (j+1);have:=HG.o xm;omega));generalize hmx:max (g (j+1)) (g xm)=mx at*;generalize g (j+1)=gx at*;generalize g xm=gy at*;have fI:=cR.o #[Y 23,Y xm,Y xb,Y xc,Y xd] 40;have kx:aF (W.alloc (CA #[Y 23,Y xm,Y xb,Y xc,Y xd] 40)) W.heap.size 40 #[Y 23,Y xm,Y xb,Y xc,Y xd]:=aF.new _ _ _;go_wp2_with fail;obtain⟨W1,CW⟩:∃W1,W1=W.alloc (CA #[Y 23,Y xm,Y xb,Y xc,Y xd] 40):=⟨_,rfl⟩;rw[<-CW]at fI kx ⊢;have d1:Vo W1 (I W.heap.size 1)=O (Y xm):=kx.cell 1;have key:∀b o v,Vo W (I b o)=O v->Vo W1 (I b o)=O v:=λb o v h=>(bk (fI.block _ (aH h))).trans h;replace cj:=key _ _ _ cj;replace cj1:=key _ _ _ cj1;replace ca9:=key _ _ _ ca9;have kE:=Z fI;clear CW kx fI key c0 c1 c2 c3 c4 vT;generalize gu:W.heap.size=bx at*;clear gu;have JG:0<=(j:Int)+1:=G;have Bj:(j:Int)+1<(n:Int):=G;have Dq:((j:Int)+1).toNat=j+1:=G;refine wp_region_still_tail 15 bh bh ?_;simp only[List.take_succ_cons,List.take_zero,List.drop_succ_cons,List.drop_zero]
   iterate 13 still_step
   still_call (Fi.o _)
   still_step
   refine wpStill_nil ?_;change wpList _ _ _ _ _ (W1.drewN 1);have dC:=kE.o.trans (az _ W1 1);have cj9:(W1.drewN 1).cell? (I fb j)=O (Y (g j:Nat)):=cj;have vT:∀o,(W1.drewN 1).frozen? (I fb o)=false:=λo=>(pY.o _ dC).frozen o;have eF:=Z dC;clear dC cj cj1 ca9 JG Bj Dq;generalize W1.drewN 1=V0 at*;exact Wq
  rw[aw o3]at qg;have o23:(op==23)=false:=by simpa using o3
  by_cases o4:op=24
  ·subst o4;rw[aB rfl]at qg;obtain⟨a1,a2,hj2,t1,t2⟩:=uU rfl;obtain⟨xm,rfl⟩:=eJ a1;have xle:xm<=4194304:=G;have Zy:=yM.o (j+2) hj2;obtain⟨b2,Ip,CH,e2,-,-,-,e1,-⟩:=(a0g.o.aG (aA.af Nj.o)).ins (i:=j+1) (by rw[HN.o];exact hj1);rw[B0.o,HN.o]at e2;simp only[cz,im,Addr.mk.injEq]at e2;obtain⟨⟨rfl,rfl,-⟩,-,-⟩:=e2;obtain⟨tm,htm⟩:=eJ t1;have tlt:tm<n:=G;rw[htm]at e1 qg;have Zz:=yM.o tm tlt;rw[Int.toNat_natCast,Int.toNat_natCast]at qg;have Fi:=Z (λV=>IC.o V (g (j+2)) (HG.o _));have Nb:=Z (λV=>HTM.o V xm (bG 1 (g (j+2))) (by unfold MS;omega) (iG (HG.o _)));have HP3:=Z (λV=>IC.o V (eM xm (bG 1 (g (j+2)))) (ug _ _));have HP4:=Z (λV=>IC.o V (g tm) (HG.o _));have Wk:=Z (λV=>HPM.o V (bG 1 (eM xm (bG 1 (g (j+2))))) (bG 1 (g tm)) (iG (ug _ _)) (iG (HG.o _)));clear htm t1 t2 a1 a2 RN Kh uU GO cj1;generalize bG (bG 1 (eM xm (bG 1 (g (j+2))))) (bG 1 (g tm))=r5 at*;generalize bG 1 (eM xm (bG 1 (g (j+2))))=r3 at*;generalize eM xm (bG 1 (g (j+2)))=r2 at*;generalize bG 1 (g (j+2))=r1 at*;generalize bG 1 (g tm)=r4 at*;generalize g (j+2)=gx at*;generalize g tm=gy at*;have fI:=cR.o #[Y 24,Y xm,Y xb,Y xc,Y xd] 40;have kx:aF (W.alloc (CA #[Y 24,Y xm,Y xb,Y xc,Y xd] 40)) W.heap.size 40 #[Y 24,Y xm,Y xb,Y xc,Y xd]:=aF.new _ _ _;go_wp2_with fail;obtain⟨W1,CW⟩:∃W1,W1=W.alloc (CA #[Y 24,Y xm,Y xb,Y xc,Y xd] 40):=⟨_,rfl⟩;rw[<-CW]at fI kx ⊢;have d1:Vo W1 (I W.heap.size 1)=O (Y xm):=kx.cell 1;have key:∀b o v,Vo W (I b o)=O v->Vo W1 (I b o)=O v:=λb o v h=>(bk (fI.block _ (aH h))).trans h;replace cj:=key _ _ _ cj;replace Zy:=key _ _ _ Zy;replace Zz:=key _ _ _ Zz;replace e1:=key _ _ _ e1;have kE:=Z fI;clear CW kx fI key c0 c1 c2 c3 c4 vT;generalize gu:W.heap.size=bx at*;clear gu;have JG:0<=(j:Int)+1:=G;have Bj:(j:Int)+1<(n:Int):=G;have Dq:((j:Int)+1).toNat=j+1:=G;have xZ:0<=(j:Int)+2:=G;have hs5:(j:Int)+2<(n:Int):=G;have hs6:((j:Int)+2).toNat=j+2:=G;have w6:IntKind.i64.wrap ((j:Int)+2)=(j:Int)+2:=bJ _ lI;refine wp_region_still_tail 24 bh bh ?_;simp only[List.take_succ_cons,List.take_zero,List.drop_succ_cons,List.drop_zero]
   iterate 9 still_step
   still_call (Fi.o _)
   still_call (Nb.o _)
   still_call (HP3.o _)
   iterate 9 still_step
   still_call (HP4.o _)
   still_call (Wk.o _)
   still_step
   refine wpStill_nil ?_;change wpList _ _ _ _ _ (W1.drewN 1);have dC:=kE.o.trans (az _ W1 1);have cj9:(W1.drewN 1).cell? (I fb j)=O (Y (g j:Nat)):=cj;have vT:∀o,(W1.drewN 1).frozen? (I fb o)=false:=λo=>(pY.o _ dC).frozen o;have eF:=Z dC;clear dC cj Zy Zz e1 JG Bj Dq xZ hs5 hs6;generalize W1.drewN 1=V0 at*;exact Wq
  rw[aw o4]at qg;have WM:(op==24)=false:=by simpa using o4
  have Fi:=Z (λV=>IC.o V (g (j+1)) (HG.o _));generalize bG 1 (g (j+1))=r1 at*;generalize g (j+1)=gx at*;clear o1 o2 o3 o4 RN Kh uU GO;exact iq
 ·intro hp;go_wp2_with (refine jr rfl (.tmp 13) (.tmp 13) 24 rfl 3 underlying24 ck rfl .i64 .i64 _ _ n rfl rfl rfl rfl jN.o.1 jN.o.2 ?_;intro W0 ZA ep);have vJ:=Z ZA;have eV:=Z ep;have w3:IntKind.i64.wrap ((n:Int) - 1)=(n:Int) - 1:=bJ _ lI;clear ZA ep;go_wp2;go_step3;simp only[Exit.then]
  apply_assumption
  refine hp _ _ ⟨w.heap.size,n,_,n,FF.of _ rfl,rfl,rfl,by rw[HN.o];rfl,rfl,by rw[HN.o];exact aL _,Z ⟨aL _,eV.o,?_⟩⟩;rw[HN.o,Nat.sub_self];exact vJ.o
end
end Go.Vf
end
namespace aj.Vm
structure n_(p:aQ)(s:mh):Prop where
 ty:fe s.ty
 len:s.ty.length<=256
 lp: -1<=s.loop/\s.loop<p.code.length
 ha:0<=s.hand/\s.hand<=3
structure mr(p:aQ)(L:lE):Prop where
 at_:∀n,n_ p (L.at_ n)
 up:∀n,-1<=L.up n/\L.up n<p.code.length
def adY{p:aQ}(h:0<p.code.length):n_ p s0:=⟨by intro t ht;simp[s0]at ht,bd,by unfold s0;dsimp only;omega,bd⟩
def adX{p:aQ}(h:0<p.code.length):mr p (gO p):=by
 refine⟨λn=>?_,λn=>by show -1<=(0:Int)/\(0:Int)<_;omega⟩;show n_ p (if fU p n then _ else s0);split
 ·exact⟨by intro t ht;simp at ht,bd,by dsimp only;omega,bd⟩
 ·exact adY h
def QV(p:aQ)(x:Ins){h:Int}(hh:0<=h/\h<=3):0<=(eT p x h).2/\(eT p x h).2<=3:=by
 unfold eT
 repeat' split
 all_goals first|exact hh|(dsimp only;omega)
def QW{x:Ins}{ty:List Nat}(h:fe ty)(h0:(cL x ty).1=0):fe (cL x ty).2/\(cL x ty).2.length<=256:=by
 have key:∀left:List Nat,left=(if cG x.op.toNat=0 then[]else[cG x.op.toNat])++ty.drop (b_ x.op.toNat).length->¬256<left.length->fe left/\left.length<=256:=by
  intro left e hl;refine⟨?_,G⟩;rw[e];intro t ht;rcases List.mem_append.1 ht with ht|ht
  ·have hg:∀n:Nat,cG n≠0->cG n=1\/cG n=2:=by
    intro n;unfold cG
    repeat' split
    all_goals simp
   split at ht
   ·simp at ht
   ·next h1=>simp at ht;subst ht;exact hg _ h1
  ·exact h t (List.mem_of_mem_drop ht)
 unfold cL at h0 ⊢;dsimp only at h0 ⊢;by_cases c1:ty.length<(b_ x.op.toNat).length\/(x.op=0/\(b_ x.op.toNat).length<ty.length)
 ·rw[aB c1]at h0;simp at h0
 rw[aw c1]at h0 ⊢;by_cases c2:256<((if cG x.op.toNat=0 then[]else[cG x.op.toNat])++ty.drop (b_ x.op.toNat).length).length
 ·rw[aB c2]at h0;simp at h0
 rw[aw c2]at h0 ⊢;by_cases c3:x.op=19
 ·rw[aB c3]at h0 ⊢;split at h0
  ·simp at h0
  ·next h4=>rw[aw h4];exact key _ rfl c2
 ·rw[aw c3]at h0 ⊢;split at h0
  ·simp at h0
  ·next h4=>rw[aw h4];exact key _ rfl c2
def I3{p:aQ}{L:lE}(K:mr p L)(pc:Nat)(x:Ins){loop:Int}(h: -1<=loop/\loop<p.code.length):mr p (gA L pc x loop):=by
 unfold gA;split
 ·refine⟨K.at_,λn=>?_⟩;show -1<=aR L.up pc loop n/\aR L.up pc loop n<p.code.length;rw[dq];split
  ·exact h
  ·exact K.up n
 ·exact K
def QX{p:aQ}{L:lE}(K:mr p L){pc:Nat}(oT:pc<p.code.length)(x:Ins){s:mh}(h:n_ p s){w:Nat×mh}(hw:w∈eH L pc x s):n_ p w.2:=by
 unfold eH at hw;split at hw
 ·simp at hw
 split at hw
 ·simp at hw;rw[hw];exact h
 split at hw
 ·simp at hw;rcases hw with rfl|rfl<;>exact h
 split at hw
 ·simp at hw;rcases hw with rfl|rfl
  ·exact⟨h.ty,h.len,by dsimp only;omega,h.ha⟩
  ·exact h
 split at hw
 ·simp at hw;rcases hw with rfl|rfl
  ·exact h
  ·exact⟨h.ty,h.len,K.up _,h.ha⟩
 ·simp at hw;rw[hw];exact h
def Kz{p:aQ}{L:lE}(K:mr p L)(z:Nat){s:mh}(h:n_ p s):mr p {L with at_:=aR L.at_ z s}:=
 ⟨λn=>by show n_ p (aR L.at_ z s n);rw[dq];split;exact h;exact K.at_ n,K.up⟩
def aaS{p:aQ}:∀(l:List (Nat×mh)) (L L':lE),mr p L->(∀w,w∈l->n_ p w.2)->eX L l=some L'->mr p L':=by
 intro l
 induction l with
 |nil=>intro L L' K _ h;simp[eX]at h;subst h;exact K
 |cons w l ih=>
  intro L L' K hs h;unfold eX at h;split at h
  ·split at h
   ·exact ih _ _ K (λv hv=>hs v (by simp[hv])) h
   ·simp at h
  ·exact ih _ _ (Kz K _ (hs w ay)) (λv hv=>hs v (by simp[hv])) h
def aaR{p:aQ}{L:lE}(K:mr p L){pc:Nat}(oT:pc<p.code.length)(h:(cA p L pc).1=0):mr p (cA p L pc).2:=by
 unfold cA at h ⊢;dsimp only at h ⊢;by_cases c0:(L.at_ pc).kV=false
 ·rw[aB c0]at h;simp at h
 rw[aw c0]at h ⊢;by_cases c1:(eT p (al p pc) (L.at_ pc).hand).1=false
 ·rw[aB c1]at h;simp at h
 rw[aw c1]at h ⊢;by_cases c2:(cL (al p pc) (L.at_ pc).ty).1≠0
 ·rw[aB c2]at h;exact absurd h c2
 rw[aw c2]at h ⊢;by_cases c3:c_ p (al p pc)=false
 ·rw[aB c3]at h;simp at h
 rw[aw c3]at h ⊢;by_cases c4:ey p L pc (al p pc) (cL (al p pc) (L.at_ pc).ty).2 (L.at_ pc).loop=false
 ·rw[aB c4]at h;simp at h
 rw[aw c4]at h ⊢;have hu:=I3 K pc (al p pc) (K.at_ pc).lp;have ho:=QW (x:=al p pc) (K.at_ pc).ty (Decidable.not_not.1 c2);have hs:n_ p ⟨(cL (al p pc) (L.at_ pc).ty).2,(L.at_ pc).loop,(eT p (al p pc) (L.at_ pc).hand).2,true⟩:=⟨ho.1,ho.2,(K.at_ pc).lp,QV p _ (K.at_ pc).ha⟩;split at h
 ·simp at h
 next c5=>
 rw[aw c5];split at h
 ·simp at h
 next c6=>
 rw[aw c6];cases e:eX (gA L pc (al p pc) (L.at_ pc).loop) (eH (gA L pc (al p pc) (L.at_ pc).loop) pc (al p pc) ⟨(cL (al p pc) (L.at_ pc).ty).2,(L.at_ pc).loop,(eT p (al p pc) (L.at_ pc).hand).2,true⟩)with
 |none=>rw[e]at h;simp at h
 |some L2=>exact aaS _ _ _ hu (λw hw=>QX hu oT _ hs hw) e
end aj.Vm
section
def T0{p:Prop}(h:p:=by
 rintro a W ⟨J,i,-,-,-,-,-,-,-,-,h1,h2,-⟩;omega):p:=h
namespace Go.Vf
open Go.RowKit aj.Vm
open aj hiding aR an ak
open Ma (dP ci aX vb aI aV)
def FR(J:Nat->to):Act:={tmps:=#[J 0,J 1,J 2,J 3,J 4,J 5,J 6,J 7,J 8,J 9,J 10,J 11,J 12,J 13,J 14,J 15,J 16,J 17,J 18,J 19,J 20,J 21,J 22,J 23,J 24,J 25,J 26,J 27,J 28,J 29,J 30,J 31,J 32,J 33,J 34,J 35,J 36,J 37,J 38,J 39,J 40,J 41,J 42,J 43,J 44,J 45,J 46,J 47,J 48,J 49,J 50,J 51,J 52,J 53,J 54,J 55,J 56,J 57,J 58,J 59,J 60,J 61,J 62,J 63,J 64,J 65,J 66,J 67,J 68,J 69,J 70,J 71,J 72,J 73,J 74,J 75,J 76,J 77,J 78,J 79,J 80,J 81,J 82,J 83,J 84,J 85,J 86,J 87,J 88,J 89,J 90,J 91,J 92,J 93,J 94,J 95,J 96,J 97,J 98,J 99,J 100,J 101,J 102,J 103,J 104,J 105,J 106,J 107,J 108,J 109,J 110,J 111,J 112,J 113,J 114],defers:=[]}
def FR.of(A:Array to)(h:A=(FR λk=>A.getD k undef).tmps):({tmps:=A,defers:=[]}:Act)=FR λk=>A.getD k undef:=by rw[h];rfl
noncomputable def rnL(k:Nat):Code:=((mF (Proofs.Tryz.f91.body.getD .skip))[k]?).getD .skip
def Ki(w:ek)(p:aQ)(e:Ending)(w':ek):Prop:=∃vv w_ ms,e=Vl (.tuple #[vv,.agg #[w_,Y ms],.agg #[Y (aW p).1,Y (aW p).2]])/\(∃x y z,w_=H x y z)/\Below w.heap.size w w'/\(∀b,w_.ownBlock=O b->w.heap.size<=b)/\
 ((aW p).1=0->ms=(bU p p.aT:Nat)/\aZ w' 1 w_ p.on.length (λi=> Y (bU p (p.on.getD i 0):Nat)))
section
variable {w:ek}{K:Kp}{p:aQ}
def acC(pb vb:Nat)(bl:List Int)(W4:ek)(a:Act)(W:ek):Prop:=∃(J:Nat->to) (bv:to),a=FR J/\J 1=V5 pb/\J 3=V5 (pb+1)/\J 4=V5 (pb+1+1)/\J 6=V5 vb/\J 7=bv/\
 Hid (Row W 3 1 bv bl.length (aX bl))/\Hid (ki W4.heap.size W.heap.size bv)/\Hid (Below W4.heap.size W4 W)
def Fj(l:List Int)(n:Int){W:ek}{v:to}(h:Row W 3 1 v (l.length+1) (fY (l.length*1) (aX l) λ_=> Y n)):Row W 3 1 v (l++[n]).length (aX (l++[n])):=by
 rw[oK];refine h.congr λo ho=>?_;unfold fY aX;rw[Nat.mul_one];by_cases e:o<l.length
 ·rw[aB e,dN,dN,pP e]
 ·obtain rfl:o=l.length:=G;rw[aw G,dN,pO (aL _)];simp
def acB:(prog.info? 233).map (λi=>(i.zero,i.size,i.bytes))=O (O (dY false Zb Vn),13,128):=by kernel_rfl
def Kj{R:Ending->ek->Prop}{A:Array to}{W:ek}{cb fb:Nat}{x y u v vv:to}(h2:A.getD 2 undef=vv)(h3:A.getD 3 undef=V5 cb)(h4:A.getD 4 undef=V5 fb)(kc:aF W cb 97 #[x,y])(kf:aF W fb 99 #[u,v])
 (hR:R (Vl (.tuple #[vv,.agg #[x,y],.agg #[u,v]])) W):Exit.noGoto (bodyPost prog Proofs.Tryz.f91 R) .ret {tmps:=A,defers:=[]} W:=by
 obtain⟨c0,c1⟩:=kc.c2;obtain⟨f0,f1⟩:=kf.c2;rw[jO];rw[yZ]at h2 h3 h4;refine bK (v:= .tuple #[vv,.agg #[x,y],.agg #[u,v]]) ?_ rfl hR;simp[results,results91,go_sem,h2,h3,h4,c0,c1,f0,f1]
def CZ{A:Array to}{W:ek}{pb:Nat}(hpb:w.heap.size=pb)(h2:A.getD 2 undef= .pointer MT)(h3:A.getD 3 undef=V5 (pb+1))(h4:A.getD 4 undef=V5 (pb+1+1))(kc:aF W (pb+1) 97 #[Vn,Y 0])(kf:aF W (pb+1+1) 99 #[Y 0,Y 0])
 (X:Below pb w W) {e at_:Int} (hv:aW p=(e,at_)) (bm:e≠0):Exit.noGoto (bodyPost prog Proofs.Tryz.f91 (Ki w p)) .ret {tmps:=A,defers:=[]} ((((W.setCell (I (pb+1) 0) Vn).setCell (I (pb+1) 1) (Y 0)).setCell (I (pb+1+1) 0) (Y e)).setCell (I (pb+1+1) 1) (Y at_)):=by
 subst hpb;have n1:w.heap.size+1≠w.heap.size+1+1:=G;refine Kj h2 h3 h4 ((((kc.set 0 Vn).set 1 (Y 0)).other n1 0 (Y e)).other n1 1 (Y at_)) ((((kf.other n1.symm 0 Vn).other n1.symm 1 (Y 0)).set 0 (Y e)).set 1 (Y at_)) ?_;refine⟨.pointer MT,Vn,0,by rw[hv],⟨_,_,_,rfl⟩,(((X.setCell (p:=(I (w.heap.size+1) 0)) ay _).setCell (p:=(I (w.heap.size+1) 1)) ay _).setCell (p:=(I (w.heap.size+1+1) 0)) jz _).setCell (p:=(I (w.heap.size+1+1) 1)) jz _,(λb X=>by cases X),λh=>?_⟩;rw[hv]at h;exact absurd h bm
def Ab(bl:List Int)(i:Nat):Map:=λpc=>if(bl.take i).contains (pc:Int)then O ⟨[],[],0⟩else MT
def gZ(bl:List Int){i:Nat}(h:i<bl.length):bl.take (i+1)=bl.take i++[bl.getD i 0]:=by rw[Jn h,dN,fq h];rfl
def acA{bl:List Int}{i:Nat}(h:i<bl.length)(hn:bl.getD i 0<0):Ab bl (i+1)=Ab bl i:=by
 funext pc;unfold Ab;rw[gZ bl h];generalize bl.getD i 0=z at*;have:((bl.take i++[z]).contains (pc:Int))=(bl.take i).contains (pc:Int):=by rw[jy];simp;omega
 rw[this]
def acz{bl:List Int}{i m:Nat}(h:i<bl.length)(hn:bl.getD i 0=m):Ab bl (i+1)=aR (Ab bl i) m (O ⟨[],[],0⟩):=by
 funext pc;rw[dq];unfold Ab;rw[gZ bl h,hn];by_cases e:pc=m
 ·subst e;rw[aB rfl,aB ay]
 ·rw[aw e];have:((bl.take i++[(m:Int)]).contains (pc:Int))=(bl.take i).contains (pc:Int):=by rw[jy];simp;omega
  rw[this]
def fR{β:Type}(f:Nat->β)(i:Nat):aR f i (f i)=f:=by
 funext j;rw[dq];split
 ·next e=>rw[e]
 ·rfl
def RN1(W4:ek)(p:aQ)(pb vb A:Nat)(bv:to)(bl:List Int)(m:Nat)(a:Act)(W:ek):Prop:=
 ∃(J:Nat->to) (i:Nat),a=FR J/\J 1=V5 pb/\J 3=V5 (pb+1)/\J 4=V5 (pb+1+1)/\J 6=V5 vb/\J 7=bv/\J 37=bv/\J 38=Y bl.length/\J 39=Y i/\
  i<=bl.length/\m+i=bl.length+1/\Hid (aA [A] W4 W)/\Hid (iM W (H (O (I A 0)) p.code.length p.code.length) p.code.length (Ab bl i) (λ_=> Vn))
section
variable {W4:ek}{pb vb A:Nat}{bv:to}{bl:List Int}{Q:Exit->Act->ek->Prop}
def rn1(HV:Hid (aF W4 vb 230 (sM K p (H (O (I A 0)) p.code.length p.code.length))))(sU:Hid (vb≠A))(DB:Hid (Row W4 3 1 bv bl.length (aX bl)))(HBA:Hid (∀b,bv.ownBlock=O b->b≠A))(hl:bl.length<=17)(me:Hid (∀i,i<bl.length->-1<=bl.getD i 0/\bl.getD i 0<p.code.length))(hlen:p.code.length<=262144)
 (d_:∀(J:Nat->to) W,J 1=V5 pb->J 3=V5 (pb+1)->J 4=V5 (pb+1+1)->J 6=V5 vb->J 7=bv->aA [A] W4 W->iM W (H (O (I A 0)) p.code.length p.code.length) p.code.length (Ab bl bl.length) (λ_=> Vn)->Q (.exit 0) (FR J) W)
 {a:Act} {W:ek} (h:RN1 W4 p pb vb A bv bl (bl.length+1) a W):(Code.loop (rnL 0)).wp prog Q a W:=by
 refine Mk.aN (λm a W=>RN1 W4 p pb vb A bv bl m a W) (bl.length+1) h ?_ ?_
 ·rintro a W ⟨J,i,-,-,-,-,-,-,-,-,-,h1,h2,-⟩;omega
 rintro m a0 W ⟨J,i,rfl,j1,j3,j4,j6,j7,j37,j38,j39,hi,hm,HF,HS⟩;unfold FR
 conv=>arg 2;whnf
 have w2:=mO i G;rw[j1,j3,j4,j6,j7,j37,j38,j39];clear j1 j3 j4 j6 j7 j37 j38 j39;by_cases be:i<bl.length
 ·obtain⟨b,cap,WN,q1,q2,lb⟩:=DB.o.some G;have Mz:=Z WN;have hr:=DB.o;rw[WN]at hr;have c0:Vo W (I b i)=O (Y (bl.getD i 0)):=(bk (HF.o.block _ lb (by have:=HBA.o b (by rw[WN];rfl);simpa using this))).trans (hr.cell (o:=i) G);have lbW:b<W.heap.size:=dz lb HF.o.size;have fD:=me.o i be;have dE:=Z be;clear hr WN lb;rw[Mz.o];obtain⟨z,hz⟩:∃z,bl.getD i 0=z:=⟨_,rfl⟩;rw[hz]at c0 fD;have HZ:=Z hz;clear hz;by_cases jn:0<=z
  ·obtain⟨n,rfl⟩:=eJ jn;have hn:n<p.code.length:=G;have hv:aF W vb 230 (sM K p (H (O (I A 0)) p.code.length p.code.length)):=HV.o.aG HF.o (by have:=sU.o;simpa using this);have v6:Vo W (I vb 6)=O (H (O (I A 0)) p.code.length p.code.length):=hv.cell 6;have lv0:=hv.lt;have vT:∀o,W.frozen? (I A o)=false:=λo=>HS.o.row.frozen o;have hAl:A<W.heap.size:=(HS.o.row.slice).2.2.2;have hold:∀k,k<13->∃v,Vo W (I A (n*13+k))=O v:=λk hk=>⟨_,HS.o.row.cell (o:=n*13+k) G⟩;obtain⟨u0,o0⟩:=hold 0 G;obtain⟨u1,o1⟩:=hold 1 G;obtain⟨u2,o2⟩:=hold 2 G;obtain⟨u3,o3⟩:=hold 3 G;obtain⟨u4,o4⟩:=hold 4 G;obtain⟨acM,o5⟩:=hold 5 G;obtain⟨acK,o6⟩:=hold 6 G;obtain⟨acJ,o7⟩:=hold 7 G;obtain⟨u8,o8⟩:=hold 8 G;obtain⟨u9,o9⟩:=hold 9 G;obtain⟨u10,o10⟩:=hold 10 G;obtain⟨u11,o11⟩:=hold 11 G;obtain⟨u12,o12⟩:=hold 12 G;simp only[Nat.add_zero]at o0;have HP:=Z (iM.put (s:=⟨[],[],0⟩) (mz:=Vn) HS.o hn (.inl ⟨rfl,rfl⟩) (λb X=>by cases X) rfl);clear hold hv;go_wp2_with fail
   try rw[<-Mz.o]
   refine⟨_,i+1,FR.of _ rfl,rfl,rfl,rfl,rfl,(by first|rfl|exact Mz.o),(by first|rfl|exact Mz.o),rfl,rfl,dE.o,G,Z (HF.o.trans HP.o.2),Z ?_⟩;rw[acz dE.o HZ.o,<-fR (λ_=>Value.slice MT 0 0) n];exact HP.o.1
  ·have hd:decide (0<=z)=false:=by simpa using jn
   have HZ0:=Z jn;clear jn;go_wp2_with fail
   try rw[<-Mz.o]
   refine⟨_,i+1,FR.of _ rfl,rfl,rfl,rfl,rfl,(by first|rfl|exact Mz.o),(by first|rfl|exact Mz.o),rfl,rfl,dE.o,G,HF,Z ?_⟩;rw[acA dE.o (by rw[HZ.o];have:=HZ0.o;omega)];exact HS.o
 ·obtain rfl:i=bl.length:=G;clear be;go_wp2;exact Eq.mpr (bu (λa=>Q (.exit 0) a W) (FR.of _ rfl)) (d_ _ _ rfl rfl rfl rfl rfl HF.o HS.o)
def RN2(w W5:ek)(p:aQ)(pb vb A:Nat)(bv:to)(m:Nat)(a:Act)(W:ek):Prop:=
 ∃(J:Nat->to) (i:Nat),a=FR J/\J 1=V5 pb/\J 3=V5 (pb+1)/\J 4=V5 (pb+1+1)/\J 6=V5 vb/\J 7=bv/\J 55=Y p.code.length/\J 56=Y i/\
  i<=p.code.length/\m+i=p.code.length+1/\Hid (aA [A] W5 W)/\∃T mv,Hid (iM W (H (O (I A 0)) p.code.length p.code.length) p.code.length T mv)/\Hid (TOk p T)/\Hid (looks p p.code.length 0 (dA p)=looks p (p.code.length-i) i T)
def rn2{W5:ek}(a0g:Hid (fW w K p))(WB:Hid (w.heap.size<=A))(HW5:Hid (Below w.heap.size w W5))(HV:Hid (aF W5 vb 230 (sM K p (H (O (I A 0)) p.code.length p.code.length))))(sU:Hid (vb≠A))(HCD:Hid (∀i,i∈p.code->jH i=true/\ir p i=true))(hlen:p.code.length<=262144)
 (iU:∀(A9:Array to) W (i:Nat) (e:Int),A9.getD 2 undef= .pointer MT->A9.getD 3 undef=V5 (pb+1)->A9.getD 4 undef=V5 (pb+1+1)->aA [A] W5 W->e≠0->looks p p.code.length 0 (dA p)= .inl (e,i)->Q .ret {tmps:=A9,defers:=[]} ((((W.setCell (I (pb+1) 0) Vn).setCell (I (pb+1) 1) (Y 0)).setCell (I (pb+1+1) 0) (Y e)).setCell (I (pb+1+1) 1) (Y i)))
 (B0:Hid (aF W5 (pb+1) 97 #[Vn,Y 0])) (SP:Hid (aF W5 (pb+1+1) 99 #[Y 0,Y 0])) (HCA:Hid (pb+1+1<A))
 (d_:∀(J:Nat->to) W T,J 1=V5 pb->J 3=V5 (pb+1)->J 4=V5 (pb+1+1)->J 6=V5 vb->J 7=bv->aA [A] W5 W->looks p p.code.length 0 (dA p)= .inr T->Q (.exit 2) (FR J) W)
 {a:Act} {W:ek} (h:RN2 w W5 p pb vb A bv (p.code.length+1) a W):(Code.loop (rnL 1)).wp prog Q a W:=by
 refine Mk.aN (λm a W=>RN2 w W5 p pb vb A bv m a W) (p.code.length+1) h ?_ ?_
 ·exact T0
 rintro m a0 W ⟨J,i,rfl,j1,j3,j4,j6,j7,j55,j56,hi,hm,HF,T,mv,HS,HT,uj⟩;unfold FR
 conv=>arg 2;whnf
 have w2:=mO i G;rw[j1,j3,j4,j6,j7,j55,j56];clear j1 j3 j4 j6 j7 j55 j56;by_cases be:i<p.code.length
 ·have CQ:Below w.heap.size w W:=HW5.o.trans (HF.o.below HW5.o.size (by have:=WB.o;simpa using this));have CN:=Z (Iy (a0g.o.aG (aA.af CQ)) (HV.o.aG HF.o (by have:=sU.o;simpa using this)) HS.o HT.o be hlen (HCD.o _ (gj be)).1 (HCD.o _ (gj be)).2);have dE:=Z be;have JG:looks p (p.code.length-i) i T=if dl p T i=0 then looks p (p.code.length - (i+1)) (i+1) (jp p T i)else .inl (dl p T i,i):=by rw[show p.code.length-i=(p.code.length - (i+1))+1 by omega];rfl
  have tu:=Z JG;have hle:=acW HT.o (pc:=i) (by have:=(HCD.o _ (gj be)).1;unfold jH aO at this;simp at this;exact this.2);have BL:=Z hle;clear JG CQ be hle;go_wp2_with fail
  with_reducible refine CN.o.mono ?_
  rintro e W6 ⟨rfl,tp,fL⟩;have MZ:=Z (HF.o.trans tp);have lN:=Z fL;clear tp fL CN;by_cases he:dl p T i=0
  ·rw[he];have HE:=Z he;clear he;go_wp2_with fail;obtain⟨PH,Ea⟩:=lN.o HE.o;refine⟨_,i+1,FR.of _ rfl,rfl,rfl,rfl,rfl,rfl,rfl,rfl,dE.o,G,MZ,jp p T i,PH,Z Ea,Z (BL.o HE.o),Z ?_⟩;rw[uj.o,tu.o,aB HE.o]
  ·have X:(dl p T i !=0)=true:=by simpa using he
   have HE:=Z he;have Ry:=Z (show looks p p.code.length 0 (dA p)= .inl (dl p T i,i)by rw[uj.o,tu.o,aw he]);have kc:=B0.o.aG MZ.o (by have:=HCA.o;simp;omega);have kf:=SP.o.aG MZ.o (by have:=HCA.o;simp;omega);obtain⟨z0,z1⟩:=kc.c2;obtain⟨z2,z3⟩:=kf.c2;have z4:=kc.frozen;have z5:=kf.frozen;have z6:=kf.lt;clear kc kf he;generalize dl p T i=le at*;go_wp2;exact iU _ _ _ _ rfl rfl rfl MZ.o HE.o Ry.o
 ·obtain rfl:i=p.code.length:=G;clear be;go_wp2;exact Eq.mpr (bu (λa=>Q (.exit 2) a W) (FR.of _ rfl)) (d_ _ _ T rfl rfl rfl rfl rfl HF.o (by rw[uj.o,Nat.sub_self];rfl))
def Ac(p:aQ)(bl:List Int)(k:Nat):to:=Y (bU p (bl.getD k 0):Nat)
def xh(p:aQ)(bl:List Int){i:Nat}{W:ek}{v:to}{n:Int}(hn:n=(bU p (bl.getD i 0):Nat))(h:Row W 3 1 v (i+1) (fY i (Ac p bl) λ_=> Y n)):Row W 3 1 v (i+1) (Ac p bl):=by
 refine h.congr λo ho=>?_;unfold fY;by_cases e:o<i
 ·rw[aB e]
 ·rw[aw e];obtain rfl:o=i:=G;subst hn;rfl
def nY(p:aQ)(bl:List Int){i:Nat}(h:i<bl.length):bt p (bl.drop i)=if MF<bU p (bl.getD i 0)then O (bl.getD i 0)else bt p (bl.drop (i+1)):=by rw[tR h,dN,fq h];rfl
def RN3(W7:ek)(p:aQ)(pb vb:Nat)(bv fv:to)(bl:List Int)(m:Nat)(a:Act)(W:ek):Prop:=
 ∃(J:Nat->to) (i:Nat) (lv:to),a=FR J/\J 1=V5 pb/\J 3=V5 (pb+1)/\J 4=V5 (pb+1+1)/\J 6=V5 vb/\J 12=fv/\J 13=lv/\J 71=bv/\J 72=Y bl.length/\J 73=Y i/\
  i<=bl.length/\m+i=bl.length+1/\Hid (Below W7.heap.size W7 W)/\Hid (Row W 3 1 lv i (Ac p bl))/\Hid (∀b,lv.ownBlock=O b->W7.heap.size<=b)/\Hid (bt p bl=bt p (bl.drop i))
def rq{p:Prop}(h:p:=by
 have F1:=Z f1;have F2:=Z f2;have F3:=Z f3;clear bo hf hv f1 f2 f3;go_wp2_with fail
 try rw[<-Mz.o]
 refine⟨_,i+1,v',FR.of _ rfl,rfl,rfl,rfl,rfl,rfl,rfl,(by first|rfl|exact Mz.o),rfl,rfl,dE.o,G,F1,F2,F3,pX⟩):p:=h
def rn3{W7:ek}{fb fc:Nat}(DB:Hid (Row W7 3 1 bv bl.length (aX bl)))(HFV:Hid (Row W7 3 1 (H (O (I fb 0)) p.code.length fc) p.code.length (gC (lB p))))(hl:bl.length<=17)(me:Hid (∀i,i<bl.length->-1<=bl.getD i 0/\bl.getD i 0<p.code.length))(hlen:p.code.length<=262144)
 (B0:Hid (aF W7 (pb+1) 97 #[Vn,Y 0])) (SP:Hid (aF W7 (pb+1+1) 99 #[Y 0,Y 0]))
 (iU:∀(A9:Array to) W (n:Int),A9.getD 2 undef= .pointer MT->A9.getD 3 undef=V5 (pb+1)->A9.getD 4 undef=V5 (pb+1+1)->Below W7.heap.size W7 W->bt p bl=O n->Q .ret {tmps:=A9,defers:=[]} ((((W.setCell (I (pb+1) 0) Vn).setCell (I (pb+1) 1) (Y 0)).setCell (I (pb+1+1) 0) (Y 97)).setCell (I (pb+1+1) 1) (Y n)))
 (d_:∀(J:Nat->to) W lv,J 1=V5 pb->J 3=V5 (pb+1)->J 4=V5 (pb+1+1)->J 6=V5 vb->J 13=lv->Below W7.heap.size W7 W->Row W 3 1 lv bl.length (Ac p bl)->(∀b,lv.ownBlock=O b->W7.heap.size<=b)->bt p bl=MT->Q (.exit 4) (FR J) W)
 {a:Act} {W:ek} (h:RN3 W7 p pb vb bv (H (O (I fb 0)) p.code.length fc) bl (bl.length+1) a W):(Code.loop (rnL 2)).wp prog Q a W:=by
 refine Mk.aN (λm a W=>RN3 W7 p pb vb bv (H (O (I fb 0)) p.code.length fc) bl m a W) (bl.length+1) h ?_ ?_
 ·rintro a W ⟨J,i,lv,-,-,-,-,-,-,-,-,-,-,h1,h2,-⟩;omega
 rintro m a0 W ⟨J,i,lv,rfl,j1,j3,j4,j6,pn,rJ,j71,j72,j73,hi,hm,HB,HR,HO,HE⟩;unfold FR
 conv=>arg 2;whnf
 have w2:=mO i G;rw[j1,j3,j4,j6,pn,rJ,j71,j72,j73];clear j1 j3 j4 j6 pn rJ j71 j72 j73;by_cases be:i<bl.length
 ·obtain⟨b,cap,WN,q1,q2,lb⟩:=DB.o.some G;have Mz:=Z WN;have hr:=DB.o.aG (aA.af (S:=[]) HB.o) ay;rw[WN]at hr;have c0:Vo W (I b i)=O (Y (bl.getD i 0)):=hr.cell (o:=i) G;have lbW:b<W.heap.size:=aH c0;have fD:=me.o i be;have dE:=Z be;have Fk:=Z (nY p bl be);have jN:Hid (i+1<=maxLen/\(i+1)*8<=140737488355328):=Z ⟨by unfold maxLen;omega,G⟩;have hlz:Mz.o=Mz.o:=rfl;clear hr WN lb hlz;rw[Mz.o];have iE:∃la ln lc,lv=H la ln lc:=by rcases HR.o.val with⟨h,-⟩|⟨_,_,h,-⟩<;>exact⟨_,_,_,h⟩
  obtain⟨z,hz⟩:∃z,bl.getD i 0=z:=⟨_,rfl⟩;rw[hz]at c0 fD Fk;have HZ:=Z hz;clear hz;have fin:∀(n:Int) (V:ek) (v':to) (w1:ek),Below W.heap.size W V->n=(bU p z:Nat)->Row w1 3 1 v' (i+1) (fY i (Ac p bl) λ_=> Y n)->aA lv.ownBlock.toList V w1->(v'.ownBlock=lv.ownBlock\/v'.ownBlock=O V.heap.size)->
   Below W7.heap.size W7 w1/\Row w1 3 1 v' (i+1) (Ac p bl)/\(∀b,v'.ownBlock=O b->W7.heap.size<=b):=λn V v' w1 hv hn hr hf ho=>by
   have h1:Below W7.heap.size W7 V:=HB.o.trans (hv.mono HB.o.size);refine⟨h1.trans (hf.below h1.size (λb X=>HO.o b (by simpa using X))),xh p bl (by rw[HZ.o];exact hn) hr,λb X=>?_⟩;rcases ho with h|h
   ·exact HO.o b (by rw[<-h];exact X)
   ·rw[h]at X;have:=fF X;have:=h1.size;omega
  have ID:=Z fin;clear fin;by_cases jn:z<0
  ·have sO:(0:Int)=(bU p z:Nat):=by unfold bU;rw[aB jn];rfl
   have JN:=Z sO;have pX:=Z (show bt p bl=bt p (bl.drop (i+1))by rw[HE.o,Fk.o,aw (by have:=JN.o;unfold MF;omega)]);have hd:decide (z<0)=true:=by simpa using jn
   clear sO jn;go_wp2_with (at_builtin;refine bX rfl _ _ 24 rfl 3 underlying24 ck rfl bd lv i (Ac p bl) rfl (HR.o.alloc _) (I W.heap.size 0) 1 1 (λ_=> Y 0) rfl ?zZ (λ_ _=>rfl) jN.o.1 jN.o.2 ?_)
   case zZ=>intro j hj;obtain rfl:j=0:=G;exact(aF.new W 3 #[Y 0]).cell 0
   intro v' w1 bo hf hv;obtain⟨f1,f2,f3⟩:=ID.o 0 _ v' w1 ((aY _ _).alloc (aL _) _) JN.o bo hf (by simpa using hv);exact rq
  ·obtain⟨n,rfl⟩:=eJ (by omega:0<=z);have hn:n<p.code.length:=G;have hfc:Vo W (I fb n)=O (Y (lB p n:Nat)):=(HFV.o.aG (aA.af (S:=[]) HB.o) ay).cell (o:=n) G;have sO:bU p (n:Int)=lB p n:=by unfold bU;rw[aw G];rfl
   rw[sO]at Fk ID;have lfb:=aH hfc;clear jn;generalize lB p n=fu at*;clear sO;by_cases z_:MF<fu
   ·have pX:=Z (show bt p bl=O (n:Int)by rw[HE.o,Fk.o,aB z_]);have IE:1152921504606846976<fu:=z_;have kc:=B0.o.of (HB.o.block _ B0.o.lt);have kf:=SP.o.of (HB.o.block _ SP.o.lt);obtain⟨z0,z1⟩:=kc.c2;obtain⟨z2,z3⟩:=kf.c2;have z4:=kc.frozen;have z5:=kf.frozen;have z6:=kf.lt;clear kc kf z_;go_wp2;exact iU _ _ _ rfl rfl rfl HB.o pX.o
   ·have pX:=Z (show bt p bl=bt p (bl.drop (i+1))by rw[HE.o,Fk.o,aw z_]);have IE:¬1152921504606846976<fu:=z_;have ic:fu<=1152921504606846976:=G;clear z_ IE;go_wp2_with (at_builtin;refine bX rfl _ _ 24 rfl 3 underlying24 ck rfl bd lv i (Ac p bl) rfl (HR.o.alloc _) (I W.heap.size 0) 1 1 (λ_=> Y (fu:Nat)) rfl ?zZ (λ_ _=>rfl) jN.o.1 jN.o.2 ?_)
    case zZ=>intro j hj;obtain rfl:j=0:=G;exact(aF.new W 3 #[Y (fu:Nat)]).cell 0
    intro v' w1 bo hf hv;obtain⟨f1,f2,f3⟩:=ID.o (fu:Nat) _ v' w1 ((aY _ _).alloc (aL _) _) rfl bo hf (by simpa using hv);exact rq
 ·obtain rfl:i=bl.length:=G;clear be;go_wp2;exact Eq.mpr (bu (λa=>Q (.exit 4) a W) (FR.of _ rfl)) (d_ _ _ _ rfl rfl rfl rfl rfl HB.o HR.o HO.o (by rw[HE.o,List.drop_length];rfl))
end
end
end Go.Vf
end
section
def qX5{p:Prop}(h:p:=by
 have y0:=key _ _ _ lp p0;have y1:=key _ _ _ lp p1;have y2:=key _ _ _ lp p2;have y3:=key _ _ _ lp p3;have y4:=key _ _ _ lp p4;have y5:=key _ _ _ lp p5;exact qj):p:=h
def io{p:Prop}(h:p:=by
 have key:∀b i v,b<W1.heap.size->Vo W1 (I b i)=O v->Vo wz (I b i)=O v:=λb i v X hc=>(bk (fj.block _ X)).trans hc;exact qX5):p:=h
namespace Go.Vf
open Go.RowKit aj.Vm
open aj hiding aR an ak
open Ma (dP ci aX vb aI aV)
section
variable {w:ek}{K:Kp}{p:aQ}
def PW{p:Prop}(h:p:=by
 intro wz fj;have y0:=(bk (fj.block _ lp JL.o)).trans q3;exact qj):p:=h
def WO{p:Prop}(h:p:=by
 have h2:=(fE OF b X).2;rcases YN with h|h
 ·exact⟨T4 b (by rw[<-h];exact X),h2⟩
 ·rw[h]at X;have h3:=fF X;have h4:=au.size;exact⟨G,h2⟩):p:=h
def iO{p:Prop}(h:p:=by
 intro wz fj;exact qj):p:=h
def acr(h:fW w K p):Calls prog 91 #[pV K p] w (Ki w p):=by
 obtain⟨⟨ga,gc,g1,g2,g3⟩,⟨va,vc,v1,v2,v3⟩,⟨ta,tc,t1,t2,t3⟩,⟨oa,oc,o1,o2,o3⟩,⟨ca,cc,c1,c2,c3⟩⟩:=h.sl;have Nn:=Z (λV (X:Below w.heap.size w V)=>CF (w:=V) (h.aG (aA.af X)));have a0g:=Z h;have HK:=Z (And.intro g1 (And.intro v1 (And.intro t1 (And.intro o1 c1))));unfold pV at Nn ⊢;rw[g1,v1,t1,o1,c1]at Nn ⊢;have hB:∀cs T vF T2 cs3 T3,Below w.heap.size w (((w.alloc (CA cs T)).alloc (CA vF T2)).alloc (CA cs3 T3)):=λcs T vF T2 cs3 T3=>(((aY _ _).alloc (aL _) _).alloc ay _).alloc jz _;have HB:=Z hB;clear h hB g1 v1 t1 o1 c1 g2 g3 v2 v3 t2 t3 o2 o3 c2 c3;go_enter func91,ntmps91;have kp:aF (((w.alloc (CA #[H ga p.ax.length gc,H va p.vars.length vc,H ta p.aS.length tc,H oa p.on.length oc,Y p.aT,H ca p.code.length cc] 27)).alloc (CA #[Vn,Y 0] 97)).alloc (CA #[Y 0,Y 0] 99)) w.heap.size 27 #[H ga p.ax.length gc,H va p.vars.length vc,H ta p.aS.length tc,H oa p.on.length oc,Y p.aT,H ca p.code.length cc]:=((aF.new w _ _).alloc _).alloc _;have kc:aF (((w.alloc (CA #[H ga p.ax.length gc,H va p.vars.length vc,H ta p.aS.length tc,H oa p.on.length oc,Y p.aT,H ca p.code.length cc] 27)).alloc (CA #[Vn,Y 0] 97)).alloc (CA #[Y 0,Y 0] 99)) (w.heap.size+1) 97 #[Vn,Y 0]:=(aF.bR ay).alloc _;have kf:aF (((w.alloc (CA #[H ga p.ax.length gc,H va p.vars.length vc,H ta p.aS.length tc,H oa p.on.length oc,Y p.aT,H ca p.code.length cc] 27)).alloc (CA #[Vn,Y 0] 97)).alloc (CA #[Y 0,Y 0] 99)) (w.heap.size+1+1) 99 #[Y 0,Y 0]:=aF.bR ay;have ru:(((w.alloc (CA #[H ga p.ax.length gc,H va p.vars.length vc,H ta p.aS.length tc,H oa p.on.length oc,Y p.aT,H ca p.code.length cc] 27)).alloc (CA #[Vn,Y 0] 97)).alloc (CA #[Y 0,Y 0] 99)).heap.size=w.heap.size+1+1+1:=by simp
 have ep:=HB.o #[H ga p.ax.length gc,H va p.vars.length vc,H ta p.aS.length tc,H oa p.on.length oc,Y p.aT,H ca p.code.length cc] 27 #[Vn,Y 0] 97 #[Y 0,Y 0] 99;go_wp2;go_step3;go_wp2_with fail;generalize(((w.alloc (CA #[H ga p.ax.length gc,H va p.vars.length vc,H ta p.aS.length tc,H oa p.on.length oc,Y p.aT,H ca p.code.length cc] 27)).alloc (CA #[Vn,Y 0] 97)).alloc (CA #[Y 0,Y 0] 99))=W0 at*
 with_reducible refine(Nn.o _ ep).mono ?_
 rintro e W1 ⟨rfl,X⟩;have kp1:=kp.of (X.block _ kp.lt);have WK:=kc.of (X.block _ kc.lt);have ZC:=kf.of (X.block _ kf.lt);have cR:=Z (ep.trans (X.mono ep.size));have tu:Hid (w.heap.size+1+1+1<=W1.heap.size):=Z (by have:=X.size;omega);clear kp kc kf X ep ru HB;generalize hpb:w.heap.size=pb at*;have T5:=Z hpb;clear hpb;by_cases sr:bq p=0
 case neg=>
  have hv:aW p=(bq p,0):=by unfold aW;rw[aB sr]
  have HV:=Z hv;have bm:(bq p !=0)=true:=by simpa using sr
  have hz:bq p≠0:=sr;have HZ:=Z hz;generalize bq p=ce at*;clear hv hz sr;obtain⟨c0,c1⟩:=WK.c2;obtain⟨f0,f1⟩:=ZC.c2;have z1:=WK.frozen;have z2:=ZC.frozen;have l2:=ZC.lt;have KC:=Z WK;have KF:=Z ZC;clear WK ZC kp1;go_wp2;exact CZ T5.o rfl rfl rfl KC.o KF.o cR.o HV.o HZ.o
 rw[sr];obtain⟨tb,qT⟩:=cE sr;have TY:=Z tb;have me:=Z qT;have hlen:p.code.length<=262144:=tb.code;have hon:p.on.length<=16:=by rw[tb.on];exact tb.g
 have T7:=Z sr;have KP:=Z kp1;have KC:=Z WK;have KF:=Z ZC;obtain⟨p0,p1,p2,p3,p4,p5⟩:=kp1.c6;have jN:Hid (128*p.code.length<=281474976710656/\p.code.length<=maxLen):=Z ⟨G,by unfold maxLen;omega⟩;clear kp1 WK ZC tb qT sr Nn;go_wp2_with fail;have lp:=KP.o.lt;refine Mk.bH (S:=λwx=>Below W1.heap.size W1 wx) bh (az _ W1 1) (λau=>?_);refine Mk.tk 0 (v:=?_) rfl ?_ cY ?_;rotate_left
 ·intro wz fj;exact io
 refine Mk.pt ?_;refine Mk.tk 1 (v:=?_) rfl ?_ cY ?_;rotate_left
 ·exact iO
 refine Mk.pt ?_;refine Mk.tk 2 (v:=?_) rfl ?_ cY ?_;rotate_left
 ·intro wz fj;have key:∀b i v,b<W1.heap.size->Vo W1 (I b i)=O v->Vo wz (I b i)=O v:=λb i v X hc=>(bk (fj.block _ X)).trans hc;have y0:=key _ _ _ lp p5;exact qj
 refine Mk.pt ?_;refine Mk.tk 3 (v:=?_) rfl ?_ cY ?_;rotate_left
 ·exact iO
 refine Mk.pt ?_;refine dJ (rs:=[4]) bh ay ?_;refine bZ rfl (λK hK=>?_) cK;refine bO rfl (.tmp 26) (.tmp 26) 228 rfl 233 underlying228 acB rfl bd .i64 .i64 _ _ p.code.length rfl rfl rfl rfl jN.o.1 jN.o.2 ?_;intro W3 Tt pz;have ET:=au.trans (pz.mono au.size);clear au;refine hK.out _ _ ET (λau=>?_);clear hK K;refine Mk.pt ?_;refine Mk.tk 5 (v:=?_) rfl ?_ cY ?_;rotate_left
 ·exact iO
 refine Mk.pt ?_;refine dJ (rs:=[6]) bh ay ?_;refine bZ rfl (λK hK=>?_) cK;refine fH ?_;go_simp;refine hK.out _ _ (au.alloc au.size _) (λau=>?_);clear hK K;refine Mk.pt ?_;refine Mk.tk 7 (v:=?_) rfl ?_ cY ?_;rotate_left
 ·exact iO
 refine Mk.pt ?_;refine fx bh ⟨rfl,?_⟩ _;clear au;have hAW:W1.drew.heap.size=W1.heap.size:=rfl;have ZD:Below W1.heap.size W1 W3:=ET;have fL:iM W3 (H (O (I W1.heap.size 0)) p.code.length p.code.length) p.code.length (λ_=>MT) (λ_=> Vn):=⟨Tt.congr λo ho=>rfl,λi hi=> .inl ⟨rfl,rfl⟩,λi hi b X=>by cases X⟩;have hvs:W3.heap.size<(W3.alloc (CA #[H ga p.ax.length gc,H va p.vars.length vc,H ta p.aS.length tc,H oa p.on.length oc,Y p.aT,H ca p.code.length cc,H (O (I W1.heap.size 0)) p.code.length p.code.length] 230)).heap.size:=by simp
 have kv:aF (W3.alloc (CA #[H ga p.ax.length gc,H va p.vars.length vc,H ta p.aS.length tc,H oa p.on.length oc,Y p.aT,H ca p.code.length cc,H (O (I W1.heap.size 0)) p.code.length p.code.length] 230)) W3.heap.size 230 #[H ga p.ax.length gc,H va p.vars.length vc,H ta p.aS.length tc,H oa p.on.length oc,Y p.aT,H ca p.code.length cc,H (O (I W1.heap.size 0)) p.code.length p.code.length]:=aF.new _ _ _;have OE:=fL.aG ((aA.refl [] W3).alloc (CA #[H ga p.ax.length gc,H va p.vars.length vc,H ta p.aS.length tc,H oa p.on.length oc,Y p.aT,H ca p.code.length cc,H (O (I W1.heap.size 0)) p.code.length p.code.length] 230));have wM:Below W1.heap.size W1 (W3.alloc (CA #[H ga p.ax.length gc,H va p.vars.length vc,H ta p.aS.length tc,H oa p.on.length oc,Y p.aT,H ca p.code.length cc,H (O (I W1.heap.size 0)) p.code.length p.code.length] 230)):=ZD.alloc ZD.size _;have Aa:W1.heap.size<W3.heap.size:=(Tt.slice).2.2.2;clear Tt pz ET ZD fL hAW;generalize hW4:W3.alloc (CA #[H ga p.ax.length gc,H va p.vars.length vc,H ta p.aS.length tc,H oa p.on.length oc,Y p.aT,H ca p.code.length cc,H (O (I W1.heap.size 0)) p.code.length p.code.length] 230)=W4 at*;clear hW4;replace KP:=Z (KP.o.of (wM.block _ KP.o.lt));replace KC:=Z (KC.o.of (wM.block _ KC.o.lt));replace KF:=Z (KF.o.of (wM.block _ KF.o.lt));replace cR:=Z (cR.o.trans (wM.mono (by have:=tu.o;omega)));have HA:Hid (pb+1+1+1<=W1.heap.size):=tu;have hvA:W1.heap.size≠W3.heap.size:=G;generalize W1.heap.size=A at*;generalize W3.heap.size=ZE at*;have KV:Hid (aF W4 ZE 230 (sM K p (H (O (I A 0)) p.code.length p.code.length))):=Z (by
  obtain⟨e1,e2,e3,e4,e5⟩:=HK.o;unfold sM;rw[e1,e2,e3,e4,e5];exact kv)
 have lN:=Z OE;have OG:=Z hvs;have HNV:=Z hvA;have Eo:=Z Aa;clear kv OE hvs hvA wM Aa p0 p1 p2 p3 p4 p5 lp;obtain⟨-,-,-,q3,q4⟩:=KP.o.c5;have lp:=KP.o.lt;have yM:=Z (λV (X:Below w.heap.size w V)=>mM (w:=V) (v:=H oa p.on.length oc) (n:=p.on.length) (g:=aX p.on) (by have h1:=a0g.o.o;rw[HK.o.2.2.2.1]at h1;exact h1.aG (aA.af X)) G (λ_ _=>rfl));rw[T5.o]at yM;go_wp2;refine wp_mono (Q:=λe a W=>e=Exit.normal/\acC pb ZE (p.on++[p.aT]) W4 a W) ?_ ?_
 ·have iv:Hid (pb<=W4.heap.size):=Z (by have:=HA.o;have:=Eo.o;have:=OG.o;omega);refine Mk.bH (S:=λwx=>Below W4.heap.size W4 wx) bh (az _ W4 1) (λau=>?_);generalize World.drew _=V0 at*;refine Mk.tk 0 (v:=?_) rfl ?_ cY ?_;rotate_left
  ·exact iO
  refine Mk.pt ?_;refine Mk.tk 1 (v:=?_) rfl ?_ cY ?_;rotate_left
  ·intro wz fj;have key:∀b i v,b<W4.heap.size->Vo W4 (I b i)=O v->Vo wz (I b i)=O v:=λb i v X hc=>(bk (fj.block _ X)).trans hc;have y0:=key _ _ _ lp q3;exact qj
  refine Mk.pt ?_;refine Mk.tk 3 (v:=?_) rfl ?_ cY ?_;rotate_left
  ·exact iO
  refine Mk.pt ?_;refine Mk.tk 4 (v:=?_) rfl ?_ cY ?_;rotate_left
  ·intro wz fj;have key:∀b i v,b<W4.heap.size->Vo W4 (I b i)=O v->Vo wz (I b i)=O v:=λb i v X hc=>(bk (fj.block _ X)).trans hc;have y0:=key _ _ _ lp q4;exact qj
  refine Mk.pt ?_;refine dJ (rs:=[2,5]) bh ay ?_;refine bZ rfl (λK hK=>?_) (bZ rfl (λK hK=>?_) cK);refine fH ?_;go_simp;go_at_call 55;refine(yM.o _ (cR.o.trans (au.mono iv.o))).mono ?_;rintro e wc ⟨xv,rfl,hxr,kW,hxi⟩;have hSc:=au.trans (kW.mono au.size);have T4:∀b,xv.ownBlock=O b->W4.heap.size<=b:=λb X=>cU au.size (hxi b X).1;clear au;refine hK.out _ _ hSc (λau=>?_);clear hK K;refine Mk.pt ?_;refine dJ (rs:=[5]) bh ay ?_;refine bZ rfl (λK hK=>?_) cK;refine fH ?_;go_simp;have nb:aF (wc.alloc (CA #[Y p.aT] 3)) wc.heap.size 3 #[Y p.aT]:=aF.new _ _ _;refine hK.out _ _ (au.alloc au.size _) (λau=>?_);clear hK K;refine Mk.pt ?_;refine dJ (rs:=[6]) bh ay ?_;refine bZ rfl (λK hK=>?_) cK;refine cJ rfl (.tmp 32) (.tmp 35) 24 rfl 3 underlying24 ck rfl bd xv p.on.length (aX p.on) rfl (hxr.alloc _) (I wc.heap.size 0) 1 1 (λ_=> Y p.aT) rfl (λj hj=>by obtain rfl:j=0:=G;exact nb.cell 0) (λ_ _=>rfl) (by unfold maxLen;omega) G ?_;intro bv W5 OF RQ YN;have uM:Below W4.heap.size W4 W5:=au.trans (RQ.below (B:=W4.heap.size) au.size (λb X=>by
   have h1:xv.ownBlock=O b:=by simpa using X
   exact T4 b h1))
  have ZF:ki W4.heap.size W5.heap.size bv:=λb X=>by exact WO
  have hr6:=Fj p.on p.aT OF;clear au OF RQ YN;refine hK.out _ _ uM (λau=>?_);clear hK K;refine Mk.pt ?_;refine Mk.tk 7 (v:=?_) rfl ?_ cY ?_;rotate_left
  ·exact iO
  refine Mk.pt ?_;refine fx bh ⟨rfl,?_⟩ _;clear au;exact⟨rfl,_,bv,FR.of _ rfl,rfl,rfl,rfl,rfl,rfl,Z hr6,Z ZF,Z uM⟩;rotate_left;refine fH ?_;go_simp;have nb:aF (V0.alloc (CA #[Y p.aT] 3)) V0.heap.size 3 #[Y p.aT]:=aF.new _ _ _;refine hK.out _ _ (au.alloc au.size _) (λau=>?_);clear hK K;refine Mk.pt ?_;refine dJ (rs:=[2]) bh ay ?_;refine bZ rfl (λK hK=>?_) cK;refine fH ?_;go_simp;go_at_call 55;refine(yM.o _ (cR.o.trans (au.mono iv.o))).mono ?_;rintro e wc ⟨xv,rfl,hxr,kW,hxi⟩;have hSc:=au.trans (kW.mono au.size);have T4:∀b,xv.ownBlock=O b->W4.heap.size<=b:=λb X=>cU au.size (hxi b X).1;clear au;refine hK.out _ _ hSc (λau=>?_);clear hK K;refine Mk.pt ?_;refine dJ (rs:=[6]) bh ay ?_;refine bZ rfl (λK hK=>?_) cK;refine cJ rfl (.tmp 32) (.tmp 35) 24 rfl 3 underlying24 ck rfl bd xv p.on.length (aX p.on) rfl hxr (I V0.heap.size 0) 1 1 (λ_=> Y p.aT) rfl (λj hj=>by obtain rfl:j=0:=G;exact(nb.of (kW.block _ nb.lt)).cell 0) (λ_ _=>rfl) (by unfold maxLen;omega) G ?_;intro bv W5 OF RQ YN;have uM:Below W4.heap.size W4 W5:=au.trans (RQ.below (B:=W4.heap.size) au.size (λb X=>by
   have h1:xv.ownBlock=O b:=by simpa using X
   exact T4 b h1))
  have ZF:ki W4.heap.size W5.heap.size bv:=λb X=>by exact WO
  have hr6:=Fj p.on p.aT OF;clear au OF RQ YN;refine hK.out _ _ uM (λau=>?_);clear hK K;refine Mk.pt ?_;refine Mk.tk 7 (v:=?_) rfl ?_ cY ?_;rotate_left
  ·exact iO
  refine Mk.pt ?_;refine fx bh ⟨rfl,?_⟩ _;clear au;exact⟨rfl,_,bv,FR.of _ rfl,rfl,rfl,rfl,rfl,rfl,Z hr6,Z ZF,Z uM⟩
 rintro e a5 W5 ⟨rfl,J,bv,rfl,j1,j3,j4,j6,j7,DB,HIB,nU⟩;unfold FR;rw[j1,j3,j4,j6,j7];clear j1 j3 j4 j6 j7 q3 q4 lp;have HBL:Hid ((p.on++[p.aT]).length=p.on.length+1):=Z ay;have WQ:(p.on++[p.aT]).length<=17:=by have:=HBL.o;omega
 have ig:Hid (∀i,i<(p.on++[p.aT]).length->-1<=(p.on++[p.aT]).getD i 0/\(p.on++[p.aT]).getD i 0<p.code.length):=Z λi hi=>by
  have hm:(p.on++[p.aT]).getD i 0∈p.on++[p.aT]:=by rw[dN,fq hi];exact ja hi
  rcases List.mem_append.1 hm with h|h
  ·have:=TY.o.ons _ h;omega
  ·rw[List.mem_singleton.1 h];have:=TY.o.aT;omega
 have KC5:=Z (KC.o.of (nU.o.block _ KC.o.lt));have ZG:=Z (KF.o.of (nU.o.block _ KF.o.lt));have KP5:=Z (KP.o.of (nU.o.block _ KP.o.lt));have KV5:=Z (KV.o.of (nU.o.block _ KV.o.lt));have aer:=Z (lN.o.aG (aA.af nU.o));have HBA:Hid (∀b,bv.ownBlock=O b->b≠A):=Z λb X e=>by have:=(HIB.o b X).1;have:=OG.o;have:=Eo.o;omega
 have HVA:Hid (ZE≠A):=Z λe=>HNV.o e.symm;have T8:Hid (pb+1+1<A):=Z (by have:=HA.o;omega);have PX:Hid (Below w.heap.size w W5):=Z (by have h1:=nU.o.size;rw[T5.o];exact cR.o.trans (nU.o.mono (by have:=HA.o;have:=Eo.o;have:=OG.o;omega)));have WB:Hid (w.heap.size<=A):=Z (by rw[T5.o];have:=HA.o;omega);have GZ:∃x y z,bv=H x y z:=by rcases DB.o.val with⟨h,-⟩|⟨_,_,h,-⟩<;>exact⟨_,_,_,h⟩
 have aes:∃la lc,bv=H la (p.on++[p.aT]).length lc:=by
  rcases DB.o.val with⟨h,h0⟩|⟨_,_,h,-⟩
  ·have:=HBL.o;omega
  ·exact⟨_,_,h⟩
 obtain⟨la,lc,rfl⟩:=aes;clear GZ;generalize wD:p.on++[p.aT]=bl at*;have PZ:=Z wD;clear wD;go_wp2_with fail;refine rn1 (bl:=bl) (vb:=ZE) (pb:=pb) (A:=A) (W4:=W5) KV5 HVA DB HBA WQ ig hlen (λJ6 W6 j1 j3 j4 j6 j7 hF hS=>?_) ⟨_,0,FR.of _ rfl,rfl,rfl,rfl,rfl,rfl,rfl,rfl,rfl,cM _,rfl,Z (aA.refl _ _),Z (aer.o)⟩;have MZ:=Z hF;have No:=Z hS;have k5:=KP5.o.aG MZ.o (by have:=T8.o;simp;omega);have q5:Vo W6 (I pb 5)=O (H ca p.code.length cc):=k5.cell 5;have lp:=k5.lt;unfold FR;rw[j1,j3,j4,j6,j7];clear j1 j3 j4 j6 j7 hF hS k5;have HT0:Hid (TOk p (dA p)):=Z (acV TY.o);have HSB:Hid (iM W6 (H (O (I A 0)) p.code.length p.code.length) p.code.length (dA p) (λ_=> Vn)):=Z (by
  have h1:=No.o;rw[show Ab bl bl.length=dA p from by funext pc;unfold Ab dA;rw[List.take_length,PZ.o]]at h1;exact h1)
 go_wp2_with fail;refine rn2 (vb:=ZE) (pb:=pb) (A:=A) (W5:=W5) (bv:=H la bl.length lc) a0g WB PX KV5 HVA me hlen (λA9 W7 i e h2 h3 h4 hF bm Np=>?_) KC5 ZG T8 (λacx W7 T j1 j3 j4 j6 j7 hF Np=>?_) ⟨_,0,FR.of _ rfl,rfl,rfl,rfl,rfl,rfl,rfl,rfl,cM _,rfl,MZ,_,_,HSB,HT0,Z (by rw[Nat.sub_zero])⟩
 ·have hv:aW p=(e,(i:Int)):=by unfold aW;rw[aw (by rw[T7.o];simp),Np]
  refine CZ T5.o h2 h3 h4 (KC5.o.aG hF (by have:=T8.o;simp;omega)) (ZG.o.aG hF (by have:=T8.o;simp;omega)) ?_ hv bm;rw[<-T5.o];exact PX.o.trans (hF.below PX.o.size (by have:=WB.o;simpa using this))
 have Rk:=Z hF;have uj:=Z Np;have EJ:=Z (PX.o.trans (Rk.o.below PX.o.size (by have:=WB.o;simpa using this)));have KP7:=Z (KP5.o.aG Rk.o (by have:=T8.o;simp;omega));have KC7:=Z (KC5.o.aG Rk.o (by have:=T8.o;simp;omega));have KF7:=Z (ZG.o.aG Rk.o (by have:=T8.o;simp;omega));have KV7:=Z (KV5.o.aG Rk.o (by have:=HVA.o;simpa using this));have aet:=Z (DB.o.aG Rk.o (λb X=>by have:=HBA.o b X;simpa using this));have HFI:Hid (CY p):=Z (Bi T7.o uj.o);have HFL:=Z (IB (a0g.o.aG (aA.af EJ.o)) KV7.o hlen HFI.o);unfold FR;rw[j1,j3,j4,j6,j7];clear j1 j3 j4 j6 j7 hF Np q5 lp;go_wp2_with fail
 with_reducible refine HFL.o.mono ?_
 rintro e W8 ⟨fb,fc,rfl,WL,OK,bo⟩;have HFB:=Z bo;have P0:=Z OK;have KP8:=Z (KP7.o.of (P0.o.block _ KP7.o.lt));have KC8:=Z (KC7.o.of (P0.o.block _ KC7.o.lt));have KF8:=Z (KF7.o.of (P0.o.block _ KF7.o.lt));have aeu:=Z (aet.o.aG (aA.af (S:=[]) P0.o) ay);have P4:=Z (EJ.o.trans (P0.o.mono EJ.o.size));clear bo WL OK HFL;go_wp2;go_step3;go_wp2_with fail;refine rn3 (bl:=bl) (vb:=ZE) (pb:=pb) (W7:=W8) aeu HFB WQ ig hlen KC8 KF8 (λA9 W9 n h2 h3 h4 X sO=>?_) (λacF W9 lv j1 j3 j4 j6 rJ X uS jo sO=>?_) ⟨_,0,Vn,FR.of _ rfl,rfl,rfl,rfl,rfl,rfl,rfl,rfl,rfl,rfl,cM _,rfl,Z (aY _ _),Z (Row.nil _ _ _ _),Z (λb X=>by cases X),Z (by rw[List.drop_zero])⟩
 ·have hv:aW p=(97,n):=by unfold aW;rw[aw (by rw[T7.o];simp),uj.o,PZ.o,sO]
  refine CZ T5.o h2 h3 h4 (KC8.o.of (X.block _ KC8.o.lt)) (KF8.o.of (X.block _ KF8.o.lt)) ?_ hv bd;rw[<-T5.o];exact P4.o.trans (X.mono P4.o.size)
 have aev:=Z (λb X=>cU P4.o.size (jo b X));clear jo;obtain⟨lb,Zu,rfl,l1,l2,l3⟩:=uS.some (by have:=HBL.o;omega);have HV:=Z (show aW p=(0,0)from by unfold aW;rw[aw (by rw[T7.o];simp),uj.o,PZ.o,sO]);have HRL:=Z uS;have Qc:=Z (P4.o.trans (X.mono P4.o.size));have kp9:=KP8.o.of (X.block _ KP8.o.lt);have KC9:=Z (KC8.o.of (X.block _ KC8.o.lt));have KF9:=Z (KF8.o.of (X.block _ KF8.o.lt));have q3:Vo W9 (I pb 3)=O (H oa p.on.length oc):=kp9.cell 3;have lp:=kp9.lt;have Lj:bl.length=p.on.length+1:=HBL.o;have lc9:Vo W9 (I lb p.on.length)=O (Y (bU p (bl.getD p.on.length 0):Nat)):=uS.cell (o:=p.on.length) G;have hms:bl.getD p.on.length 0=p.aT:=by rw[<-PZ.o,dN,pO (aL _)];simp
 rw[hms]at lc9;rw[Lj]at l1 rJ;unfold FR;rw[j1,j3,j4,j6,rJ];clear j1 j3 j4 j6 rJ X uS sO kp9 Lj hms;obtain⟨em,qB⟩:∃z,bU p p.aT=z:=⟨_,rfl⟩;rw[qB]at lc9;have WA:=Z qB;clear qB;go_wp2_with fail;have afe:p.on.length<=Zu:=G;have hx9:(p.on.length:Int)<(p.on.length:Int)+1:=G;have JL:Hid (pb∉[pb+1,pb+1+1]):=Z jz;have Hu:Hid (lb∉[pb+1,pb+1+1]):=Z (by
  have h1:=HRL.o.eZ KC9.o bd;have h2:=HRL.o.eZ KF9.o bd;simp only[dK,List.not_mem_nil,or_false,not_or];exact⟨λe=>h1 (by rw[e];rfl),λe=>h2 (by rw[e];rfl)⟩)
 have pY:=Z (λ(V:ek) (hf:aA [pb+1,pb+1+1] W9 V)=>show aZ V 1 (H (O (I lb 0)) p.on.length p.on.length) p.on.length (λi=> Y (bU p (p.on.getD i 0):Nat))from by
  have h1:=(HRL.o.aG hf (λb X=>by have:lb=b:=fF X;rw[<-this];exact Hu.o));refine .inr ⟨(I lb 0),p.on.length,rfl,aL _,by unfold maxLen;omega,λo ho=>⟨rfl,?_⟩⟩;have h2:=h1.cell (o:=o) (by have:=HBL.o;omega);rw[Nat.zero_add,h2];unfold Ac;rw[<-PZ.o,dN,pP G,<-dN])
 refine Mk.bH (S:=λwx=>aA [pb+1,pb+1+1] W9 wx) bh (aA.af (az _ W9 1)) (λau=>?_);have DC:=Z (KC9.o.drewN 1);have Bk:=Z (KF9.o.drewN 1);change Hid (aF W9.drew _ _ _)at DC;change Hid (aF W9.drew _ _ _)at Bk;generalize World.drew _=V0 at*;refine Mk.tk 0 (v:=?_) rfl ?_ cY ?_;rotate_left
 ·exact iO
 refine Mk.pt ?_;refine Mk.tk 1 (v:=?_) rfl ?_ cY ?_;rotate_left
 ·exact iO
 refine Mk.pt ?_;refine Mk.tk 2 (v:=?_) rfl ?_ cY ?_;rotate_left
 ·exact iO
 refine Mk.pt ?_;refine Mk.tk 3 (v:=?_) rfl ?_ cY ?_;rotate_left
 ·exact PW
 refine Mk.pt ?_;refine Mk.tk 4 (v:=?_) rfl ?_ cY ?_;rotate_left
 ·exact iO
 refine Mk.pt ?_;refine Mk.tk 5 (v:=?_) rfl ?_ cY ?_;rotate_left
 ·exact iO
 refine Mk.pt ?_;refine Mk.tk 6 (v:=?_) rfl ?_ cY ?_;rotate_left
 ·exact PW
 refine Mk.pt ?_;refine Mk.tk 7 (v:=?_) rfl ?_ cY ?_;rotate_left
 ·exact iO
 refine Mk.pt ?_;refine Mk.tk 8 (v:=?_) rfl ?_ cY ?_;rotate_left
 ·exact iO
 refine Mk.pt ?_;refine Mk.tk 9 (v:=?_) rfl ?_ cY ?_;rotate_left
 ·exact iO
 refine Mk.pt ?_;refine Mk.tk 10 (v:=?_) rfl ?_ cY ?_;rotate_left
 ·exact iO
 refine Mk.pt ?_;refine Mk.tk 11 (v:=?_) rfl ?_ cY ?_;rotate_left
 ·exact PW
 refine Mk.pt ?_;refine Mk.tk 12 (v:=?_) rfl ?_ cY ?_;rotate_left
 ·exact iO
 refine Mk.pt ?_;refine Mk.tk 13 (v:=?_) rfl ?_ cY ?_;rotate_left
 ·exact iO
 refine Mk.pt ?_;refine Mk.tk 14 (v:=?_) rfl ?_ cY ?_;rotate_left
 ·intro wz fj;have y0:=(bk (fj.block _ (aH lc9) Hu.o)).trans lc9;exact qj
 refine Mk.pt ?_;refine Mk.tk 15 (v:=?_) rfl ?_ cY ?_;rotate_left
 ·exact iO
 refine Mk.pt ?_;refine Mk.tk 16 (v:=?_) rfl ?_ cY ?_;rotate_left
 ·exact iO
 refine Mk.pt ?_;refine Mk.tk 17 (v:=?_) rfl ?_ cY ?_;rotate_left
 ·exact iO
 refine Mk.pt ?_;have NN:Hid (pb+1≠pb+1+1):=Z G;have z0:=DC.o.cell 0;have z1:=DC.o.cell 1;have z2:=Bk.o.cell 0;have z3:=Bk.o.cell 1;have z4:=DC.o.frozen;have z5:=Bk.o.frozen;have z6:=Bk.o.lt;simp only[List.getElem?_toArray,List.getElem?_cons_zero,List.getElem?_cons_succ]at z0 z1 z2 z3;refine dJ (rs:=[18]) bh ay ?_;refine bZ rfl (λK hK=>?_) cK;refine fH ?_;go_simp;refine hK.out _ _ ((au.setCell (p:=(I (pb+1) 0)) ay (H (O (I lb 0)) p.on.length p.on.length)).setCell (p:=(I (pb+1) 1)) ay (Y (em:Nat))) (λau=>?_);clear hK K;refine Mk.pt ?_;refine dJ (rs:=[19]) bh ay ?_;refine bZ rfl (λK hK=>?_) cK;refine fH ?_;go_simp;refine hK.out _ _ ((au.setCell (p:=(I (pb+1+1) 0)) ay (Y 0)).setCell (p:=(I (pb+1+1) 1)) ay (Y 0)) (λau=>?_);clear hK K;refine Mk.pt ?_;refine fx bh ⟨rfl,?_⟩ _;have tp:=au;clear au;go_wp2_with fail;refine Kj (cb:=pb+1) (fb:=pb+1+1) rfl rfl rfl ((((DC.o.set 0 (H (O (I lb 0)) p.on.length p.on.length)).set 1 (Y (em:Nat))).other NN.o 0 (Y 0)).other NN.o 1 (Y 0)) ((((Bk.o.other NN.o.symm 0 (H (O (I lb 0)) p.on.length p.on.length)).other NN.o.symm 1 (Y (em:Nat))).set 0 (Y 0)).set 1 (Y 0)) ?_;refine⟨V5 ZE,H (O (I lb 0)) p.on.length p.on.length,(em:Nat),by rw[HV.o];rfl,⟨_,_,_,rfl⟩,Qc.o.trans (tp.below Qc.o.size (by rw[T5.o];simp;omega)),(λb X=>aev.o b X),λ_=>⟨by rw[WA.o],?_⟩⟩;exact pY.o _ tp
def zp(w:ek)(p:aQ)(e:Ending)(w':ek):Prop:=∃w_ ms,e=Vl (.tuple #[.agg #[w_,Y ms],.agg #[Y (aW p).1,Y (aW p).2]])/\(∃x y z,w_=H x y z)/\Below w.heap.size w w'/\
 ((aW p).1=0->ms=(bU p p.aT:Nat)/\aZ w' 1 w_ p.on.length (λi=> Y (bU p (p.on.getD i 0):Nat)))
def IF(h:fW w K p):Calls prog 44 #[pV K p] w (zp w p):=by
 have HR:=Z (λV (X:Below w.heap.size w V)=>acr (w:=V) (h.aG (aA.af X)));obtain⟨⟨ga,gc,g1,g2,g3⟩,⟨va,vc,v1,v2,v3⟩,⟨ta,tc,t1,t2,t3⟩,⟨oa,oc,o1,o2,o3⟩,⟨ca,cc,c1,c2,c3⟩⟩:=h.sl;unfold pV at HR ⊢;rw[g1,v1,t1,o1,c1]at HR ⊢;have hB:∀cs T vF T2 cs3 T3,Below w.heap.size w (((w.alloc (CA cs T)).alloc (CA vF T2)).alloc (CA cs3 T3)):=λcs T vF T2 cs3 T3=>(((aY _ _).alloc (aL _) _).alloc ay _).alloc jz _;have kc:aF (((w.alloc (CA #[H ga p.ax.length gc,H va p.vars.length vc,H ta p.aS.length tc,H oa p.on.length oc,Y p.aT,H ca p.code.length cc] 27)).alloc (CA #[Vn,Y 0] 97)).alloc (CA #[Y 0,Y 0] 99)) (w.heap.size+1) 97 #[Vn,Y 0]:=(aF.bR ay).alloc _;have kf:aF (((w.alloc (CA #[H ga p.ax.length gc,H va p.vars.length vc,H ta p.aS.length tc,H oa p.on.length oc,Y p.aT,H ca p.code.length cc] 27)).alloc (CA #[Vn,Y 0] 97)).alloc (CA #[Y 0,Y 0] 99)) (w.heap.size+1+1) 99 #[Y 0,Y 0]:=aF.bR ay;have ru:(((w.alloc (CA #[H ga p.ax.length gc,H va p.vars.length vc,H ta p.aS.length tc,H oa p.on.length oc,Y p.aT,H ca p.code.length cc] 27)).alloc (CA #[Vn,Y 0] 97)).alloc (CA #[Y 0,Y 0] 99)).heap.size=w.heap.size+1+1+1:=by simp
 have ep:=hB #[H ga p.ax.length gc,H va p.vars.length vc,H ta p.aS.length tc,H oa p.on.length oc,Y p.aT,H ca p.code.length cc] 27 #[Vn,Y 0] 97 #[Y 0,Y 0] 99;clear h hB g1 v1 t1 o1 c1 g2 g3 v2 v3 t2 t3 o2 o3 c2 c3;go_enter func44,ntmps44;go_wp2_with fail;generalize(((w.alloc (CA #[H ga p.ax.length gc,H va p.vars.length vc,H ta p.aS.length tc,H oa p.on.length oc,Y p.aT,H ca p.code.length cc] 27)).alloc (CA #[Vn,Y 0] 97)).alloc (CA #[Y 0,Y 0] 99))=W0 at*
 with_reducible refine(HR.o _ ep).mono ?_
 rintro e W1 ⟨vv,w_,ms,rfl,⟨x9,y9,z9,rfl⟩,X,Jd,hco⟩;have Rl:Hid (∀b,(Value.slice x9 y9 z9).ownBlock=O b->w.heap.size+1+1+1<=b):=Z λb h=>by have:=Jd b h;omega
 clear Jd;have TL:=Z hco;have cR:=Z (ep.trans (X.mono ep.size));have KC:=Z (kc.of (X.block _ kc.lt));have KF:=Z (kf.of (X.block _ kf.lt));have JG:w.heap.size+1+1+1<=W1.heap.size:=by have:=X.size;omega
 clear hco X kc kf ru ep HR;obtain⟨e1,he1⟩:∃z,(aW p).1=z:=⟨_,rfl⟩;obtain⟨e2,Na⟩:∃z,(aW p).2=z:=⟨_,rfl⟩;rw[he1]at TL;rw[he1,Na];have HE:=Z (And.intro he1 Na);clear he1 Na;go_wp2_with fail;have k2:aF ((W1.alloc (CA #[H x9 y9 z9,Y ms] 97)).alloc (CA #[Y e1,Y e2] 99)) W1.heap.size 97 #[H x9 y9 z9,Y ms]:=(aF.new _ _ _).alloc _;have k3:aF ((W1.alloc (CA #[H x9 y9 z9,Y ms] 97)).alloc (CA #[Y e1,Y e2] 99)) (W1.heap.size+1) 99 #[Y e1,Y e2]:=aF.bR ay;have dC:Below W1.heap.size W1 ((W1.alloc (CA #[H x9 y9 z9,Y ms] 97)).alloc (CA #[Y e1,Y e2] 99)):=((aY _ _).alloc (aL _) _).alloc ay _;generalize(W1.alloc (CA #[H x9 y9 z9,Y ms] 97)).alloc (CA #[Y e1,Y e2] 99)=W2 at*;obtain⟨n0,n1⟩:=k2.c2;obtain⟨n2,n3⟩:=k3.c2;have KC2:=Z (KC.o.of (dC.block _ KC.o.lt));have KF2:=Z (KF.o.of (dC.block _ KF.o.lt));have eF:=Z (cR.o.trans (dC.mono cR.o.size));have zH:Hid (w.heap.size+1+1+1<=W1.heap.size):=Z JG;have ls2:=k3.lt;have sg:Hid (aA [] W1 W2):=Z (aA.af dC);clear k2 k3 dC;generalize iD:W1.heap.size=s1 at*;clear iD;refine Mk.bH (S:=λwx=>aA [w.heap.size+1,w.heap.size+1+1] W2 wx) bh (aA.af (az _ W2 1)) (λau=>?_);have DC:=Z (KC2.o.drewN 1);have Bk:=Z (KF2.o.drewN 1);change Hid (aF W2.drew _ _ _)at DC;change Hid (aF W2.drew _ _ _)at Bk;generalize World.drew _=V0 at*;refine Mk.tk 0 (v:=?_) rfl ?_ cY ?_;rotate_left
 ·intro wz fj;have y0:=(bk (fj.block _ (aH n0) (by have:=zH.o;simp only[dK,List.not_mem_nil,or_false,not_or];omega))).trans n0;have y1:=(bk (fj.block _ (aH n1) (by have:=zH.o;simp only[dK,List.not_mem_nil,or_false,not_or];omega))).trans n1;exact qj
 refine Mk.pt ?_;refine Mk.tk 1 (v:=?_) rfl ?_ cY ?_;rotate_left
 ·intro wz fj;have y0:=(bk (fj.block _ (aH n2) (by have:=zH.o;simp only[dK,List.not_mem_nil,or_false,not_or];omega))).trans n2;have y1:=(bk (fj.block _ (aH n3) (by have:=zH.o;simp only[dK,List.not_mem_nil,or_false,not_or];omega))).trans n3;exact qj
 refine Mk.pt ?_;have NN:Hid (w.heap.size+1≠w.heap.size+1+1):=Z G;have z0:=DC.o.cell 0;have z1:=DC.o.cell 1;have z2:=Bk.o.cell 0;have z3:=Bk.o.cell 1;have z4:=DC.o.frozen;have z5:=Bk.o.frozen;have z6:=Bk.o.lt;simp only[List.getElem?_toArray,List.getElem?_cons_zero,List.getElem?_cons_succ]at z0 z1 z2 z3;refine dJ (rs:=[2]) bh ay ?_;refine bZ rfl (λK hK=>?_) cK;refine fH ?_;go_simp;refine hK.out _ _ ((au.setCell (p:=(I (w.heap.size+1) 0)) ay (H x9 y9 z9)).setCell (p:=(I (w.heap.size+1) 1)) ay (Y ms)) (λau=>?_);clear hK K;refine Mk.pt ?_;refine dJ (rs:=[3]) bh ay ?_;refine bZ rfl (λK hK=>?_) cK;refine fH ?_;go_simp;refine hK.out _ _ ((au.setCell (p:=(I (w.heap.size+1+1) 0)) ay (Y e1)).setCell (p:=(I (w.heap.size+1+1) 1)) ay (Y e2)) (λau=>?_);clear hK K;refine Mk.pt ?_;refine fx bh ⟨rfl,?_⟩ _;have P5:=au;clear au;go_wp2_with fail;have kc9:=((((DC.o.set 0 (H x9 y9 z9)).set 1 (Y ms)).other NN.o 0 (Y e1)).other NN.o 1 (Y e2));have kf9:=((((Bk.o.other NN.o.symm 0 (H x9 y9 z9)).other NN.o.symm 1 (Y ms)).set 0 (Y e1)).set 1 (Y e2));generalize((((V0.setCell (I (w.heap.size+1) 0) (H x9 y9 z9)).setCell (I (w.heap.size+1) 1) (Y ms)).setCell (I (w.heap.size+1+1) 0) (Y e1)).setCell (I (w.heap.size+1+1) 1) (Y e2))=W9 at*;obtain⟨c0,c1⟩:=kc9.c2;obtain⟨f0,f1⟩:=kf9.c2;refine bK (v:= .tuple #[.agg #[H x9 y9 z9,Y ms],.agg #[Y e1,Y e2]]) ?_ rfl ⟨H x9 y9 z9,ms,by rw[HE.o.1,HE.o.2],⟨_,_,_,rfl⟩,eF.o.trans (P5.below eF.o.size jz),λh=>?_⟩
 ·simp[results,results44,go_sem,c0,c1,f0,f1]
 ·obtain⟨h1,h2⟩:=TL.o (by rw[<-h];exact HE.o.1.symm);refine⟨h1,rz (aZ.aG h2 sg.o) P5 (λb X=>?_)⟩;have h3:=Rl.o b X;simp only[dK,List.not_mem_nil,or_false,not_or];omega
end
end Go.Vf
end
namespace Go.Vf
open Go.RowKit aj.Vm
open aj hiding aR an ak
def qX(n:Int):Bool:=decide (n<1)||decide (1048576<n)
def ZH{p:Prop}(h:p:=by
 rw[hf];clear hf;go_enter func97,ntmps97;go_wp2;go_ret;exact⟨rfl,rfl⟩):p:=h
def vh(w:ek)(n:Int):Calls prog 97 #[Y n] w (λe w'=>e=Vl (.bool (qX n))/\w'=w):=by
 by_cases h1:n<1
 ·have hf:qX n=true:=by simp[qX,h1]
  exact ZH
 ·by_cases h2:1048576<n
  ·have hf:qX n=true:=by simp[qX,h2]
   exact ZH
  ·have hf:qX n=false:=by simp[qX,h1,h2]
   exact ZH
def adL(w:ek){K:Kp}{p:aQ}(h:fW w K p):Calls prog 12 #[pV K p] w (λe w'=>e=Vl (.bool (decide (p.code.length<=3000)))/\Below w.heap.size w w'):=by obtain⟨⟨ga,gc,g1,g2,g3⟩,⟨va,vc,v1,v2,v3⟩,⟨ta,tc,t1,t2,t3⟩,⟨oa,oc,o1,o2,o3⟩,⟨ca,cc,c1,c2,c3⟩⟩:=h.sl;unfold pV;rw[g1,v1,t1,o1,c1];have hB:=qq w;clear g1 g2 g3 v1 v2 v3 t1 t2 t3 o1 o2 o3 c1 c2 c3 h;go_enter func12,ntmps12;go_wp2;go_ret;refine⟨?_,hB _ _⟩;show Ending.returned (.bool (decide ((p.code.length:Int)<=3000)))=_;congr 2;rw[decide_eq_decide];omega
open Ma (dP ci aX vb)
def nZ(p:aQ)(c:Cp)(q:Nat):Bool:= !qX (c.aK.getD q 0)&&(p.ax.getD q false||decide (c.aK.getD q 0<=c.size))
def ia(p:aQ)(c:Cp):Bool:= !qX c.size&&decide (c.aK.length=p.ax.length)&&decide (∀q,q<p.ax.length->nZ p c q=true)
def Bl{p:aQ}{c:Cp}(h:ia p c=true):ow p c:=by
 unfold ia at h;simp only[fp,ft]at h;obtain⟨⟨h1,h2⟩,h3⟩:=h;have out:∀n,qX n=false->1<=n/\n<=1048576:=λn h=>by unfold qX at h;simp at h;omega
 have hs:=out c.size (by simpa using h1);refine⟨hs.1,hs.2,h2,λq hq=>?_⟩;have:=h3 q hq;unfold nZ at this;simp only[fp]at this;exact out _ (by simpa using this.1)
def cV(c:Cp)(qv:to):to:= .agg #[Y c.size,qv]
def oz(p:aQ)(c:Cp)(k:Nat):Nat:=cT k λq=>if p.ax.getD q false then 0 else(c.aK.getD q 0).toNat
def qh(p:aQ)(c:Cp)(k:Nat):Nat:=cT k λq=>if p.ax.getD q false then(c.aK.getD q 0).toNat else 0
def Fl(p:aQ)(c:Cp):dw (aC p c)=min (oz p c p.ax.length) c.size.toNat+qh p c p.ax.length:=rfl
def FrF(pb cb:Nat)(r g:Nat)(qv:to)(n i:Nat)(a:Act):Prop:=∃J:Nat->to,a={tmps:=#[J 0,J 1,V5 pb,V5 cb,J 4,J 5,.func (.func 97) #[] #[],Y r,Y g,J 9,J 10,J 11,J 12,J 13,J 14,J 15,J 16,J 17,J 18,J 19,J 20,J 21,J 22,J 23,J 24,J 25,qv,Y n,Y i,J 29,J 30,J 31,J 32,J 33,J 34,J 35,J 36,J 37,J 38,J 39,J 40,J 41,J 42,J 43,J 44,J 45,J 46,J 47,J 48,J 49,J 50,J 51,J 52,J 53,J 54,J 55,J 56,J 57,J 58,J 59,J 60,J 61,J 62,J 63,J 64,J 65,J 66,J 67,J 68,J 69,J 70,J 71,J 72],defers:=[]}
def zq(p:aQ)(c:Cp):to:= .tuple #[Y (if ia p c=true then(dw (aC p c):Nat)else 0),.bool (ia p c&&decide (dw (aC p c)<=4194304))]
def uk{p:aQ}{c:Cp}(h:ia p c=false):zq p c= .tuple #[Y 0,.bool false]:=by unfold zq;rw[h];rfl
def acw(w:ek)(p:aQ)(c:Cp)(qv:to)(gv:to)(P:ek->Prop)(m:Nat)(a:Act)(W:ek):Prop:=
 ∃i,i<=p.ax.length/\m+i=p.ax.length+1/\FrF w.heap.size (w.heap.size+1) (oz p c i) (qh p c i) qv p.ax.length i a/\Hid (Below w.heap.size w W)/\Hid (P W)/\Hid (∀j,j<i->nZ p c j=true)/\oz p c i<=i*1048576/\qh p c i<=i*1048576
def T_{p:Prop}(h:p:=by
 go_enter func53,ntmps53;go_wp2_with fail;refine(Gh.o _).mono ?_;rintro e w' ⟨rfl,rfl⟩;go_wp2;go_ret2;exact⟨rfl,hB _ _ _ _⟩):p:=h
def IG(w:ek){K:Kp}{p:aQ}{c:Cp}{qv:to}(h:fW w K p)(hq:aZ w 1 qv c.aK.length (aX c.aK))(hg:p.ax.length<=16):
 Calls prog 53 #[pV K p,cV c qv] w (λe w'=>e=Vl (zq p c)/\Below w.heap.size w w'):=by
 obtain⟨⟨ga,gc,g1,g2,g3⟩,⟨va,vc,v1,v2,v3⟩,⟨ta,tc,t1,t2,t3⟩,⟨oa,oc,o1,o2,o3⟩,⟨ca,cc,c1,c2,c3⟩⟩:=h.sl;obtain⟨qa,qc,rfl,q2,q3⟩:=hq.val;have a0g:=Z h;have HQ:=Z hq;obtain⟨kg,kv,kt,ko,kc⟩:=K;dsimp only at g1 v1 t1 o1 c1;subst g1 v1 t1 o1 c1;have hB:=KJ w;have HO:=Z (λV n=>vh V n);unfold pV cV;dsimp only;clear h hq g2 g3 v2 v3 t2 t3 o2 o3 c2 c3;by_cases s1:qX c.size=true
 ·have HF:=Z (uk (show ia p c=false by unfold ia;rw[s1];rfl));rw[HF.o];have Gh:=Z (λV=>s1▸vh V c.size);clear HO s1;exact T_
 have DE:qX c.size=false:=by simpa using s1
 have Gh:=Z (λV=>DE▸vh V c.size);have HS:=Z DE;have kw:1<=c.size/\c.size<=1048576:=by unfold qX at DE;simp at DE;omega
 clear s1 DE;by_cases l1:c.aK.length=p.ax.length
 case neg=>have HF:=Z (uk (show ia p c=false by unfold ia;simp[l1]));rw[HF.o];clear HO;exact T_
 case pos=>
  rw[l1]at q2 HQ ⊢;have HL:=Z l1;clear l1;go_enter func53,ntmps53;go_wp2_with fail;refine(Gh.o _).mono ?_;rintro e w' ⟨rfl,rfl⟩;go_wp2_with fail;have nG:=Z (And.intro (((aF.new w 27 #[H ga p.ax.length gc,H va p.vars.length vc,H ta p.aS.length tc,H oa p.on.length oc,Y p.aT,H ca p.code.length cc]).alloc (CA #[Y c.size,H qa p.ax.length qc] 29))) (aF.bR (w:=w.alloc (CA #[H ga p.ax.length gc,H va p.vars.length vc,H ta p.aS.length tc,H oa p.on.length oc,Y p.aT,H ca p.code.length cc] 27)) (b:=w.heap.size+1) (T:=29) (cs:=#[Y c.size,H qa p.ax.length qc]) ay));refine Mk.aN (acw w p c (H qa p.ax.length qc) (H ga p.ax.length gc) (λW=>aF W w.heap.size 27 #[H ga p.ax.length gc,H va p.vars.length vc,H ta p.aS.length tc,H oa p.on.length oc,Y p.aT,H ca p.code.length cc]/\aF W (w.heap.size+1) 29 #[Y c.size,H qa p.ax.length qc])) (p.ax.length+1) ?start ?zero ?round
  case start=>exact⟨0,cM _,G,qi rfl,Z (hB _ _ _ _),nG,Z (λj hj=>absurd hj G),aL _,aL _⟩
  case zero=>exact λa W hh=>by obtain⟨q,h1,h2,_⟩:=hh;omega
  clear nG Gh
  case round=>
   rintro m a0 W ⟨i,hi,hm,⟨J,rfl⟩,HB,HP,HA,hr,M7⟩;obtain⟨k1,k2⟩:=HP.o;have e0:=k1.c1;have e1:=k2.c1;have l1:=k1.lt;have l2:=k2.lt;clear k1 k2;have hmul:(i+1)*1048576=i*1048576+1048576:=Nat.succ_mul _ _;have ZI:=Z hmul;clear hmul;have Ib:oz p c (i+1)=oz p c i+(if p.ax.getD i false then 0 else(c.aK.getD i 0).toNat):=rfl;have xK:qh p c (i+1)=qh p c i+(if p.ax.getD i false then(c.aK.getD i 0).toNat else 0):=rfl;by_cases be:i<p.ax.length
   ·obtain⟨b,off,cap,hv,-,-,X,hc⟩:=(HQ.o.aG (aA.af HB.o)).some G G;simp only[cz]at hv;obtain⟨rfl,-,rfl⟩:=hv;have c0:Vo W (I b (off+i))=O (Y (c.aK.getD i 0)):=hc i G;obtain⟨gb,aff,ov,hv,-,-,d0⟩:=(a0g.o.aG (aA.af HB.o)).gh be;simp only[cz]at hv;obtain⟨rfl,-,rfl⟩:=hv;clear hc X;have WR:nZ p c i=(!qX (c.aK.getD i 0)&&(p.ax.getD i false||decide (c.aK.getD i 0<=c.size))):=rfl;have bad:nZ p c i=false->ia p c=false:=λe=>by
     unfold ia;have:decide (∀q,q<p.ax.length->nZ p c q=true)=false:=by rw[qS];intro h;rw[h i be]at e;cases e
     rw[this,Bool.and_false]
    generalize hn:c.aK.getD i 0=n at*;generalize Jo:p.ax.getD i false=acv at*;have yL:=Z (HO.o W n);cases ho:qX n with
    |true=>have HF:=Z (uk (bad (by rw[WR,ho];rfl)));rw[ho]at yL;clear bad WR Ib xK ho hn Jo;go_wp2_with fail;refine yL.o.mono ?_;rintro e w' ⟨rfl,rfl⟩;go_wp2;go_ret2;exact⟨by rw[HF.o];rfl,HB.o⟩
    |false=>
     have hni:1<=n/\n<=1048576:=by unfold qX at ho;simp at ho;omega
     rw[ho]at yL;obtain⟨nn,rfl⟩:=eJ (show 0<=n by omega);have Tx:nn<=1048576:=G;have tW:=Z Tx;clear Tx;cases acv with
     |true=>
      simp at Ib xK;have HU1:=Z Ib;have MA:=Z xK;have HQK:=Z (show nZ p c i=true by rw[WR,ho];rfl);clear bad WR Ib xK ho hn Jo;go_wp2_with fail;refine yL.o.mono ?_;rintro e w' ⟨rfl,rfl⟩;go_wp2;refine⟨i+1,G,G,?_,HB,HP,Z λj hj=>?_,?_,?_⟩
      ·rw[HU1.o,MA.o];exact qi rfl
      ·by_cases e:j=i
       ·subst e;exact HQK.o
       ·exact HA.o j G
      ·rw[HU1.o,ZI.o];exact cU hr (fh _ _)
      ·rw[MA.o,ZI.o];exact Nat.add_le_add M7 tW.o
     |false=>
      simp at Ib xK;have HU1:=Z Ib;have MA:=Z xK;by_cases hs:(nn:Int)<=c.size
      ·have HQK:=Z (show nZ p c i=true by rw[WR,ho];simp[hs]);clear bad WR Ib xK ho hn Jo;go_wp2_with fail;refine yL.o.mono ?_;rintro e w' ⟨rfl,rfl⟩;go_wp2;refine⟨i+1,G,G,?_,HB,HP,Z λj hj=>?_,?_,?_⟩
       ·rw[HU1.o,MA.o];exact qi rfl
       ·by_cases e:j=i
        ·subst e;exact HQK.o
        ·exact HA.o j G
       ·rw[HU1.o,ZI.o];exact Nat.add_le_add hr tW.o
       ·rw[MA.o,ZI.o];exact cU M7 (fh _ _)
      ·have HF:=Z (uk (bad (by rw[WR,ho];simp[hs])));clear bad WR Ib xK ho hn Jo;go_wp2_with fail;refine yL.o.mono ?_;rintro e w' ⟨rfl,rfl⟩;go_wp2_with fail;refine TD rfl ?_;exact⟨by rw[HF.o];rfl,HB.o⟩
   ·obtain rfl:i=p.ax.length:=G;have ni:ia p c=true:=by unfold ia;rw[HS.o,HL.o];simp;exact HA.o
    have HF:=Z (show zq p c= .tuple #[Y ((min (oz p c p.ax.length) c.size.toNat+qh p c p.ax.length:Nat):Int),.bool (decide (min (oz p c p.ax.length) c.size.toNat+qh p c p.ax.length<=4194304))]by
     unfold zq;rw[ni,Fl];rfl)
    clear Ib xK ni;have KK:min ((oz p c p.ax.length:Nat):Int) c.size=((min (oz p c p.ax.length) c.size.toNat:Nat):Int):=G;have I9:min (oz p c p.ax.length) c.size.toNat<=1048576:=G;generalize hr9:oz p c p.ax.length=r9 at*;generalize hg9:qh p c p.ax.length=g9 at*;go_wp2_with fail;refine TD rfl ?_;have e:decide (((min r9 c.size.toNat:Nat):Int)+(g9:Int)<=4194304)=decide (min r9 c.size.toNat+g9<=4194304):=by rw[decide_eq_decide];omega
    exact⟨by rw[HF.o,<-e];rfl,HB.o⟩
end Go.Vf
