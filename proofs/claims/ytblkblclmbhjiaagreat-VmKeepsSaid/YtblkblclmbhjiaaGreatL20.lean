/- Of the proof that VmKeeps holds: a key keeps its node, what traps leaves no trace. No condition. -/
import Derived.Test.YtblkblclmbhjiaaGreatL19
import Derived.Laws.CopyRow
set_option linter.unusedVariables false
set_option linter.unusedSimpArgs false
set_option maxHeartbeats 40000000
set_option maxRecDepth 100000
namespace Go.Proofs.YtblkblclmbhjiaaGreat.Vf
open Go.RowKit ak.Vm
open ak hiding aL an aj
open Ma (dx bQ aU vb aA aQ)
theorem MJ (p:aO) (j:Nat):(dx p j).oneCell'=true:=by
 unfold dx;dsimp only
 repeat' split
 all_goals rfl
theorem IZ (p:aO) (j:Nat):(bQ p j).oneCell'=true:=by
 unfold bQ;dsimp only
 repeat' split
 all_goals rfl
def Own (w W:World) (E:TypeId) (size n:Nat) (v:Value) (g:Nat->Value):Prop:=Row W E size v n g/\mN w.heap.size W.heap.size v
theorem Own.later {w W W':World} {E:TypeId} {size n:Nat} {v:Value} {g:Nat->Value} (h:Own w W E size n v g) (b:Below W.heap.size W W'):Own w W' E size n v g:=
 ⟨h.1.aB (ax.ah (S:=[]) b) (by simp),h.2.mono (Nat.le_refl _) b.size⟩
structure MK (w W:World) (K:Kp) (p:aO):Prop where
 g:Own w W 4 1 p.ap.length K.g (fun i=> .bool (p.ap.getD i false))
 v:Own w W 122 3 p.vars.length K.v (dx p)
 t:Own w W 3 1 p.aW.length K.t (aU p.aW)
 o:Own w W 3 1 p.on.length K.o (aU p.on)
 c:Own w W 40 5 p.code.length K.c (bQ p)
theorem Own.fin {w W W':World} {E T:TypeId} {size n:Nat} {v:Value} {g:Nat->Value} {cs:Array Value} (h:Own w W E size n v g) (hz:ay W (w.heap.size+1) T cs) (ht:E≠T) (f:ax [w.heap.size+1] W W'):Own w W' E size n v g:=
 ⟨h.1.aB f (fun b hb hm=>Row.eF h.1 hz ht (by simp at hm;subst hm;exact hb)),h.2.mono (Nat.le_refl _) f.size⟩
def Cx (w:World) (p:aO) (e:Ending) (w':World):Prop:=∃K,e= .returned (pV K p)/\MK w w' K p/\Below w.heap.size w w'
def Mod (p:aO):Prop:=p.ap.length<=1000000000/\p.vars.length<=1000000000/\p.aW.length<=1000000000/\p.on.length<=1000000000/\p.code.length<=1000000000
def T6 (w V:World) (x0 x1 x2 x3 x4 x5:Value):Prop:=V.cell? (π w.heap.size 0)=some x0/\V.cell? (π w.heap.size 1)=some x1/\V.cell? (π w.heap.size 2)=some x2/\V.cell? (π w.heap.size 3)=some x3/\V.cell? (π w.heap.size 4)=some x4/\V.cell? (π w.heap.size 5)=some x5
def ZB (w V:World):Prop:=Below w.heap.size w V/\ay V (w.heap.size+1) 27 #[ν,ν,ν,ν,ι 0,ν]
def ClT (w V:World) (x0 x1 x2 x3 x4 x5:Value) (E:TypeId) (size n:Nat) (g:Nat->Value) (e:Ending) (V':World):Prop:=(∃x y z,e= .returned (.slice x y z)/\Hid (Own w V' E size n (.slice x y z) g))/\T6 w V' x0 x1 x2 x3 x4 x5/\Hid (Below V.heap.size V V')/\Hid (ZB w V')/\V'.cell? (π (w.heap.size+1) 0)=some ν/\V'.cell? (π (w.heap.size+1) 1)=some ν/\V'.cell? (π (w.heap.size+1) 2)=some ν/\V'.cell? (π (w.heap.size+1) 3)=some ν/\V'.cell? (π (w.heap.size+1) 4)=some (ι 0)/\V'.cell? (π (w.heap.size+1) 5)=some ν/\(∀o,V'.frozen? (π (w.heap.size+1) o)=false)/\w.heap.size+1 < V'.heap.size
theorem cl1 {w V:World} {x0 x1 x2 x3 x4 x5 av:Value} {f:FuncId} {E:TypeId} {size n:Nat} {g:Nat->Value} (hb:Hid (ZB w V)) (hs:T6 w V x0 x1 x2 x3 x4 x5) (hc:Calls Tryz.prog f #[av] V (sQ V E size n g)):
 Calls Tryz.prog f #[av] V (ClT w V x0 x1 x2 x3 x4 x5 E size n g):=by
 refine hc.mono ?_;rintro e V' ⟨v',rfl,hr,qq,hi⟩;obtain ⟨x,y,z,rfl⟩:∃x y z,v'= .slice x y z:=by obtain ⟨x,z,e,-⟩:=(aV.D9 hr).val;exact ⟨x,_,z,e⟩
 have hz:=hb.o.2.of (qq.block _ hb.o.2.lt);have key:∀i v,V.cell? (π w.heap.size i)=some v->V'.cell? (π w.heap.size i)=some v:=fun i v hc=>(World.cell?_of_block (qq.block _ (aS hc))).trans hc;exact ⟨⟨x,y,z,rfl,ae ⟨hr,hi.mono hb.o.1.size (Nat.le_refl _)⟩⟩,⟨key _ _ hs.1,key _ _ hs.2.1,key _ _ hs.2.2.1,key _ _ hs.2.2.2.1,key _ _ hs.2.2.2.2.1,key _ _ hs.2.2.2.2.2⟩,ae qq,ae ⟨hb.o.1.trans (qq.mono hb.o.1.size),hz⟩,hz.cell 0,hz.cell 1,hz.cell 2,hz.cell 3,hz.cell 4,hz.cell 5,hz.frozen,hz.lt⟩
theorem abH {p:Prop} (h:p:=by
 intro wz bR
 (try dsimp only at bR)
 exact gee):p:=h
theorem Ub (w:World) {K:Kp} {p:aO} (h:fP w K p) (hm:Mod p):Calls Tryz.prog 54 #[pV K p] w (Cx w p):=by
 obtain ⟨⟨ga,gc,g1,g2,g3⟩,⟨va,vc,v1,v2,v3⟩,⟨ta,tc,t1,t2,t3⟩,⟨oa,oc,o1,o2,o3⟩,⟨ca,cc,c1,c2,c3⟩⟩:=h.sl;obtain ⟨FJ,qV,hm3,Wd,GJ⟩:=hm;have H:=ae h;obtain ⟨kg,kv,kt,ko,kc⟩:=K;dsimp only at g1 v1 t1 o1 c1;subst g1 v1 t1 o1 c1;have CL:∀{f:FuncId} {E:TypeId} {size n:Nat} {g:Nat->Value} {av:Value},(∀V,Below w.heap.size w V->Calls Tryz.prog f #[av] V (sQ V E size n g))->Hid (∀V,Hid (ZB w V)->T6 w V (.slice ga p.ap.length gc) (.slice va p.vars.length vc) (.slice ta p.aW.length tc) (.slice oa p.on.length oc) (ι p.aJ) (.slice ca p.code.length cc)->Calls Tryz.prog f #[av] V (ClT w V (.slice ga p.ap.length gc) (.slice va p.vars.length vc) (.slice ta p.aW.length tc) (.slice oa p.on.length oc) (ι p.aJ) (.slice ca p.code.length cc) E size n g)):=fun hc=>ae fun V hb hs=>cl1 hb hs (hc V hb.o.1);have C1:=CL (av:= .slice ga p.ap.length gc) fun V b=>EF ((H.o.aB (ax.ah b)).g) (by omega) (fun j _=>rfl);have C2:=CL (av:= .slice va p.vars.length vc) fun V b=>IF ((H.o.aB (ax.ah b)).v) (by omega) (fun j _=>MJ p j);have C3:=CL (av:= .slice ta p.aW.length tc) fun V b=>pN ((H.o.aB (ax.ah b)).t) (by omega) (fun j _=>rfl);have C4:=CL (av:= .slice oa p.on.length oc) fun V b=>pN ((H.o.aB (ax.ah b)).o) (by omega) (fun j _=>rfl);have C5:=CL (av:= .slice ca p.code.length cc) fun V b=>IH ((H.o.aB (ax.ah b)).cd) (by omega) (fun j _=>IZ p j);have dQ:Below w.heap.size w (((w.alloc (.cells #[.slice ga p.ap.length gc,.slice va p.vars.length vc,.slice ta p.aW.length tc,.slice oa p.on.length oc,ι p.aJ,.slice ca p.code.length cc] 27)).alloc (.cells #[ν,ν,ν,ν,ι 0,ν] 27)).drew):=(((Below.refl _ _).alloc (Nat.le_refl _) _).alloc (by simp) _).trans (au _ _ 1);have k0:ay (((w.alloc (.cells #[.slice ga p.ap.length gc,.slice va p.vars.length vc,.slice ta p.aW.length tc,.slice oa p.on.length oc,ι p.aJ,.slice ca p.code.length cc] 27)).alloc (.cells #[ν,ν,ν,ν,ι 0,ν] 27)).drew) w.heap.size 27 #[.slice ga p.ap.length gc,.slice va p.vars.length vc,.slice ta p.aW.length tc,.slice oa p.on.length oc,ι p.aJ,.slice ca p.code.length cc]:=((ay.new w _ _).alloc _).drewN 1;have k1:ay (((w.alloc (.cells #[.slice ga p.ap.length gc,.slice va p.vars.length vc,.slice ta p.aW.length tc,.slice oa p.on.length oc,ι p.aJ,.slice ca p.code.length cc] 27)).alloc (.cells #[ν,ν,ν,ν,ι 0,ν] 27)).drew) (w.heap.size+1) 27 #[ν,ν,ν,ν,ι 0,ν]:=(ay.a_ (by simp)).drewN 1;have gp:=ae (And.intro dQ k1);have sS:(((w.alloc (.cells #[.slice ga p.ap.length gc,.slice va p.vars.length vc,.slice ta p.aW.length tc,.slice oa p.on.length oc,ι p.aJ,.slice ca p.code.length cc] 27)).alloc (.cells #[ν,ν,ν,ν,ι 0,ν] 27)).drew).cell? (π w.heap.size 0)=some (.slice ga p.ap.length gc)/\(((w.alloc (.cells #[.slice ga p.ap.length gc,.slice va p.vars.length vc,.slice ta p.aW.length tc,.slice oa p.on.length oc,ι p.aJ,.slice ca p.code.length cc] 27)).alloc (.cells #[ν,ν,ν,ν,ι 0,ν] 27)).drew).cell? (π w.heap.size 1)=some (.slice va p.vars.length vc)/\(((w.alloc (.cells #[.slice ga p.ap.length gc,.slice va p.vars.length vc,.slice ta p.aW.length tc,.slice oa p.on.length oc,ι p.aJ,.slice ca p.code.length cc] 27)).alloc (.cells #[ν,ν,ν,ν,ι 0,ν] 27)).drew).cell? (π w.heap.size 2)=some (.slice ta p.aW.length tc)/\(((w.alloc (.cells #[.slice ga p.ap.length gc,.slice va p.vars.length vc,.slice ta p.aW.length tc,.slice oa p.on.length oc,ι p.aJ,.slice ca p.code.length cc] 27)).alloc (.cells #[ν,ν,ν,ν,ι 0,ν] 27)).drew).cell? (π w.heap.size 3)=some (.slice oa p.on.length oc)/\(((w.alloc (.cells #[.slice ga p.ap.length gc,.slice va p.vars.length vc,.slice ta p.aW.length tc,.slice oa p.on.length oc,ι p.aJ,.slice ca p.code.length cc] 27)).alloc (.cells #[ν,ν,ν,ν,ι 0,ν] 27)).drew).cell? (π w.heap.size 4)=some (ι p.aJ)/\(((w.alloc (.cells #[.slice ga p.ap.length gc,.slice va p.vars.length vc,.slice ta p.aW.length tc,.slice oa p.on.length oc,ι p.aJ,.slice ca p.code.length cc] 27)).alloc (.cells #[ν,ν,ν,ν,ι 0,ν] 27)).drew).cell? (π w.heap.size 5)=some (.slice ca p.code.length cc):=⟨k0.cell 0,k0.cell 1,k0.cell 2,k0.cell 3,k0.cell 4,k0.cell 5⟩;clear k0 k1 dQ h g2 g3 v2 v3 t2 t3 o2 o3 c2 c3;unfold pV;dsimp only;go_enter Tryz.func54,Tryz.ntmps54;go_wp2_with fail;generalize (w.alloc (.cells #[.slice ga p.ap.length gc,.slice va p.vars.length vc,.slice ta p.aW.length tc,.slice oa p.on.length oc,ι p.aJ,.slice ca p.code.length cc] 27)).alloc (.cells #[ν,ν,ν,ν,ι 0,ν] 27)=W0 at*;refine Gd.region [18] (fun _=>True) (fun wx=>wx.cell? (π w.heap.size 0)=some (.slice ga p.ap.length gc)/\wx.cell? (π w.heap.size 1)=some (.slice va p.vars.length vc)/\wx.cell? (π w.heap.size 2)=some (.slice ta p.aW.length tc)/\wx.cell? (π w.heap.size 3)=some (.slice oa p.on.length oc)/\wx.cell? (π w.heap.size 4)=some (ι p.aJ)/\wx.cell? (π w.heap.size 5)=some (.slice ca p.code.length cc)) (by kernel_rfl) ⟨trivial,sS⟩ (fun al=>?_);generalize W0.drew=V0 at*;refine Gd.take (i:=0) (v:=?_) rfl (by kernel_rfl) (by kernel_rfl) (by kernel_rfl) (by kernel_rfl) (by kernel_rfl) (fun _ _ _ h=>Mk.aN h) (Or.inl ⟨by rfl,?_⟩) (by assumption) ?_;rotate_left
 ·exact abH
 refine Mk.pt ?_;refine Gd.take (i:=1) (v:=?_) rfl (by kernel_rfl) (by kernel_rfl) (by kernel_rfl) (by kernel_rfl) (by kernel_rfl) (fun _ _ _ h=>Mk.aN h) (Or.inl ⟨by rfl,?_⟩) (by assumption) ?_;rotate_left
 ·exact abH
 refine Mk.pt ?_;refine Gd.take (i:=3) (v:=?_) rfl (by kernel_rfl) (by kernel_rfl) (by kernel_rfl) (by kernel_rfl) (by kernel_rfl) (fun _ _ _ h=>Mk.aN h) (Or.inl ⟨by rfl,?_⟩) (by assumption) ?_;rotate_left
 ·exact abH
 refine Mk.pt ?_;refine Gd.take (i:=4) (v:=?_) rfl (by kernel_rfl) (by kernel_rfl) (by kernel_rfl) (by kernel_rfl) (by kernel_rfl) (fun _ _ _ h=>Mk.aN h) (Or.inl ⟨by rfl,?_⟩) (by assumption) ?_;rotate_left
 ·exact abH
 refine Mk.pt ?_;refine Gd.take (i:=6) (v:=?_) rfl (by kernel_rfl) (by kernel_rfl) (by kernel_rfl) (by kernel_rfl) (by kernel_rfl) (fun _ _ _ h=>Mk.aN h) (Or.inl ⟨by rfl,?_⟩) (by assumption) ?_;rotate_left
 ·exact abH
 refine Mk.pt ?_;refine Gd.take (i:=7) (v:=?_) rfl (by kernel_rfl) (by kernel_rfl) (by kernel_rfl) (by kernel_rfl) (by kernel_rfl) (fun _ _ _ h=>Mk.aN h) (Or.inl ⟨by rfl,?_⟩) (by assumption) ?_;rotate_left
 ·exact abH
 refine Mk.pt ?_;refine Gd.take (i:=9) (v:=?_) rfl (by kernel_rfl) (by kernel_rfl) (by kernel_rfl) (by kernel_rfl) (by kernel_rfl) (fun _ _ _ h=>Mk.aN h) (Or.inl ⟨by rfl,?_⟩) (by assumption) ?_;rotate_left
 ·exact abH
 refine Mk.pt ?_;refine Gd.take (i:=10) (v:=?_) rfl (by kernel_rfl) (by kernel_rfl) (by kernel_rfl) (by kernel_rfl) (by kernel_rfl) (fun _ _ _ h=>Mk.aN h) (Or.inl ⟨by rfl,?_⟩) (by assumption) ?_;rotate_left
 ·exact abH
 refine Mk.pt ?_;refine Gd.take (i:=12) (v:=?_) rfl (by kernel_rfl) (by kernel_rfl) (by kernel_rfl) (by kernel_rfl) (by kernel_rfl) (fun _ _ _ h=>Mk.aN h) (Or.inl ⟨by rfl,?_⟩) (by assumption) ?_;rotate_left
 ·exact abH
 refine Mk.pt ?_;refine Gd.take (i:=13) (v:=?_) rfl (by kernel_rfl) (by kernel_rfl) (by kernel_rfl) (by kernel_rfl) (by kernel_rfl) (fun _ _ _ h=>Mk.aN h) (Or.inl ⟨by rfl,?_⟩) (by assumption) ?_;rotate_left
 ·exact abH
 refine Mk.pt ?_;refine Gd.take (i:=14) (v:=?_) rfl (by kernel_rfl) (by kernel_rfl) (by kernel_rfl) (by kernel_rfl) (by kernel_rfl) (fun _ _ _ h=>Mk.aN h) (Or.inl ⟨by rfl,?_⟩) (by assumption) ?_;rotate_left
 ·exact abH
 refine Mk.pt ?_;refine Gd.take (i:=15) (v:=?_) rfl (by kernel_rfl) (by kernel_rfl) (by kernel_rfl) (by kernel_rfl) (by kernel_rfl) (fun _ _ _ h=>Mk.aN h) (Or.inl ⟨by rfl,?_⟩) (by assumption) ?_;rotate_left
 ·exact abH
 refine Mk.pt ?_;refine Gd.ready (rs:=[2]) (by kernel_rfl) (by simp) ?_;refine Gd.cU.cons rfl (fun K hK=>?_) Gd.cU.nil;refine QX ?_;go_simp;go_at_call 98;refine (C1.o _ gp sS).mono ?_;rintro e w1 ⟨⟨x1,y1,z1,rfl,hO1⟩,yz,KK,VH,-⟩;clear C1;clear al;refine hK.out _ _ ⟨trivial,yz⟩ (fun al=>?_);clear hK K;refine Mk.pt ?_;refine Gd.ready (rs:=[5]) (by kernel_rfl) (by simp) ?_;refine Gd.cU.cons rfl (fun K hK=>?_) Gd.cU.nil;refine QX ?_;go_simp;go_at_call 99;refine (C2.o _ VH yz).mono ?_;rintro e w2 ⟨⟨x2,y2,z2,rfl,hO2⟩,Ck,hL2,hQ2,-⟩;clear C2 VH;clear al;refine hK.out _ _ ⟨trivial,Ck⟩ (fun al=>?_);clear hK K;refine Mk.pt ?_;refine Gd.ready (rs:=[8]) (by kernel_rfl) (by simp) ?_;refine Gd.cU.cons rfl (fun K hK=>?_) Gd.cU.nil;refine QX ?_;go_simp;go_at_call 55;refine (C3.o _ hQ2 Ck).mono ?_;rintro e w3 ⟨⟨x3,y3,z3,rfl,hO3⟩,Gl,We,N0,-⟩;clear C3 hQ2;clear al;refine hK.out _ _ ⟨trivial,Gl⟩ (fun al=>?_);clear hK K;refine Mk.pt ?_;refine Gd.ready (rs:=[11]) (by kernel_rfl) (by simp) ?_;refine Gd.cU.cons rfl (fun K hK=>?_) Gd.cU.nil;refine QX ?_;go_simp;go_at_call 55;refine (C4.o _ N0 Gl).mono ?_;rintro e w4 ⟨⟨x4,y4,z4,rfl,hO4⟩,Lz,Uc,σ,-⟩;clear C4 N0;clear al;refine hK.out _ _ ⟨trivial,Lz⟩ (fun al=>?_);clear hK K;refine Mk.pt ?_;refine Gd.ready (rs:=[16]) (by kernel_rfl) (by simp) ?_;refine Gd.cU.cons rfl (fun K hK=>?_) Gd.cU.nil;refine QX ?_;go_simp;go_at_call 100;refine (C5.o _ σ Lz).mono ?_;rintro e w5 ⟨⟨x5,y5,z5,rfl,hO5⟩,Dc,YV,P5,gA,jF,r_,hz3,hz4,hz5,hzf,hzl⟩;clear C5 σ;clear al;refine hK.out _ _ ⟨trivial,Dc⟩ (fun al=>?_);clear hK K;refine Mk.pt ?_;refine Gd.ready (rs:=[17]) (by kernel_rfl) (by simp) ?_;refine Gd.cU.cons rfl (fun K hK=>?_) Gd.cU.nil;refine QX ?_;go_simp;refine hK.out _ _ al (fun al=>?_);clear hK K;refine Mk.pt ?_;refine Gd.ready (rs:=[18]) (by kernel_rfl) (by simp) ?_;refine Gd.cU.last rfl (by kernel_rfl) (fun K hK=>?_) Gd.cU.nil;refine QX ?_;go_simp;refine hK.out _ _ trivial ?_;clear hK K;refine Mk.pt ?_;refine Gd.done (by kernel_rfl) ⟨rfl,?_⟩ _;clear al;go_wp2_with fail;have f9:ax [w.heap.size+1] w5 _:=(((((((ax.refl [w.heap.size+1] w5).setCell (p:=(π (w.heap.size+1) 0)) (by simp) (.slice x1 y1 z1)).setCell (p:=(π (w.heap.size+1) 1)) (by simp) (.slice x2 y2 z2)).setCell (p:=(π (w.heap.size+1) 2)) (by simp) (.slice x3 y3 z3)).setCell (p:=(π (w.heap.size+1) 3)) (by simp) (.slice x4 y4 z4)).setCell (p:=(π (w.heap.size+1) 4)) (by simp) (ι p.aJ)).setCell (p:=(π (w.heap.size+1) 5)) (by simp) (.slice x5 y5 z5));have b9:=((((((P5.o.2.set 0 (.slice x1 y1 z1)).set 1 (.slice x2 y2 z2)).set 2 (.slice x3 y3 z3)).set 3 (.slice x4 y4 z4)).set 4 (ι p.aJ)).set 5 (.slice x5 y5 z5));simp only [List.setIfInBounds_toArray,List.set_cons_zero,List.set_cons_succ] at b9;have L1:=(hL2.o.trans (We.o.mono hL2.o.size)).trans ((Uc.o.trans (YV.o.mono Uc.o.size)).mono (Nat.le_trans hL2.o.size We.o.size));have L2:=(We.o.trans (Uc.o.mono We.o.size)).trans (YV.o.mono (Nat.le_trans We.o.size Uc.o.size));have L3:=Uc.o.trans (YV.o.mono Uc.o.size);have P9:MK w ((((((w5.setCell (π (w.heap.size+1) 0) (.slice x1 y1 z1)).setCell (π (w.heap.size+1) 1) (.slice x2 y2 z2)).setCell (π (w.heap.size+1) 2) (.slice x3 y3 z3)).setCell (π (w.heap.size+1) 3) (.slice x4 y4 z4)).setCell (π (w.heap.size+1) 4) (ι p.aJ)).setCell (π (w.heap.size+1) 5) (.slice x5 y5 z5)) ⟨.slice x1 y1 z1,.slice x2 y2 z2,.slice x3 y3 z3,.slice x4 y4 z4,.slice x5 y5 z5⟩ p:=
  ⟨(hO1.o.later L1).fin P5.o.2 (by decide) f9,(hO2.o.later L2).fin P5.o.2 (by decide) f9,(hO3.o.later L3).fin P5.o.2 (by decide) f9,(hO4.o.later YV.o).fin P5.o.2 (by decide) f9,hO5.o.fin P5.o.2 (by decide) f9⟩
 have B9:=P5.o.1.trans (f9.below (B:=w.heap.size) P5.o.1.size (by simp));generalize ((((((w5.setCell (π (w.heap.size+1) 0) (.slice x1 y1 z1)).setCell (π (w.heap.size+1) 1) (.slice x2 y2 z2)).setCell (π (w.heap.size+1) 2) (.slice x3 y3 z3)).setCell (π (w.heap.size+1) 3) (.slice x4 y4 z4)).setCell (π (w.heap.size+1) 4) (ι p.aJ)).setCell (π (w.heap.size+1) 5) (.slice x5 y5 z5))=W9 at*;obtain ⟨i0,i1,i2,i3,i4,i5⟩:=b9.c6;clear b9 f9 L1 L2 L3 hO1 hO2 hO3 hO4 hO5 KK hL2 We Uc YV P5 yz Ck Gl Lz Dc gA jF r_ hz3 hz4 hz5 hzf hzl;refine bodyPost_ret ?_ rfl ⟨_,rfl,P9,B9⟩;simp [results,Tryz.results54,go_sem,i0,i1,i2,i3,i4,i5,pV]
end Go.Proofs.YtblkblclmbhjiaaGreat.Vf
section
namespace ak.Vm
open Go Go.RowKit ak
theorem rV {P:Program} {ops:Array Oper} {rest:List Oper} {op:Oper} {a:Act} {w:World} {Q:Exit->Act->World->Prop} (Ie:op.guard=none) (ty:TypeId) (x y:Operand) (ho:op.op= .store ty x y)
 (b o:Nat) {T:TypeId} {zU:Array Value} (cells:Array Value) (hx:a.eval x= .pointer (some (π b o))) (hy:a.eval y= .agg cells) (hb:ay w b T zU) (kN:o+cells.size<=zU.size) (hi:(P.info? ty).map (·.size)=some cells.size) (h1:∀v∈cells.toList,v.oneCell'=true)
 (h:∀w',ay w' b T (zU.toList.take o++cells.toList++zU.toList.drop (o+cells.size)).toArray->ax [b] w w'->wpList P ops Q rest (a.put op.dst undef) w'):wpList P ops Q (op::rest) a w:=
 wpList_plain Ie fun K hK=>by
  have hr:=run_storeCells_at P b o T cells.toList 0 zU w hb (by simpa using kN) h1;have uh:(storeVar ty (π b o) (.agg cells)).run P w= .ok () (w.setRow b (zU.toList.take o++cells.toList++zU.toList.drop (o+cells.size)).toArray):=by
   cases hq:P.info? ty with
   |none=>simp [hq] at hi
   |some i=>
    have hs:cells.size=i.size:=by simp [hq] at hi;omega
    simp only [Nat.add_zero,Array.length_toList] at hr;simp [storeVar,Go.sizeOf,typeInfo,hq,Value.cells,hs,hr]
  have:=hK _ _ (h _ (setRow_heap w b zU _ T (0,0) hb) ⟨rfl,rfl,rfl,by simp,fun k _ hk=>setRow_other w b k _ (by simpa using hk)⟩);unfold Oper.wp execOp;simp only [ho,hx,hy,Instr.storeAt,Instr.sureAddr,Sem.run_bind,Sem.run_pure,Result.andThen_ok,uh];exact this
end ak.Vm
namespace Go.Proofs.YtblkblclmbhjiaaGreat.Ma
open Go.RowKit ak.Vm
open ak hiding aL an aj
def bd (mb n:Nat):Value:= .func (.func (Cb n)) #[ρ mb] #[]
def ML (mb:Nat):Array Value:=#[bd mb 0,bd mb 1,bd mb 2,bd mb 3,bd mb 4,bd mb 5,bd mb 6,bd mb 7,bd mb 8,bd mb 9,bd mb 10,bd mb 11,bd mb 12,bd mb 13,bd mb 14,bd mb 15,bd mb 16,bd mb 17,bd mb 18,bd mb 19,bd mb 20,bd mb 21,bd mb 22,bd mb 23,bd mb 24,bd mb 25,bd mb 26,bd mb 27,bd mb 28,bd mb 29,bd mb 30,bd mb 31,bd mb 32,bd mb 33,bd mb 34,bd mb 35,bd mb 36,bd mb 37,bd mb 38,bd mb 39,bd mb 40,bd mb 41]
theorem I0 (mb:Nat):∀v∈(ML mb).toList,v.oneCell'=true:=by simp [ML,bd,Value.oneCell']
theorem E1:(Tryz.prog.info? 110).map (·.size)=some 42:=by kernel_rfl
theorem Aq {w:World} {mb:Nat} {v:Nat->Value} (hb:ay w mb 113 #[v 0,v 1,v 2,v 3,v 4,v 5,v 6,v 7,v 8,v 9,v 10,v 11,v 12,v 13,v 14,v 15,v 16,v 17,v 18,v 19,v 20,v 21,v 22,v 23,v 24,v 25,v 26,v 27,v 28,v 29,v 30,v 31,v 32,v 33,v 34,v 35,v 36,v 37,v 38,v 39,v 40,v 41,v 42,v 43,v 44,v 45,v 46,v 47,v 48,v 49,v 50,v 51,v 52,v 53,v 54,v 55,v 56,v 57,v 58,v 59,v 60]):
 Calls Tryz.prog 58 #[ρ mb] w (fun e w'=>e= .returned (.tuple #[])/\ax [mb] w w'/\ay w' mb 113 #[v 0,v 1,v 2,v 3,v 4,v 5,v 6,v 7,v 8,v 9,v 10,v 11,v 12,v 13,v 14,v 15,v 16,v 17,bd mb 0,bd mb 1,bd mb 2,bd mb 3,bd mb 4,bd mb 5,bd mb 6,bd mb 7,bd mb 8,bd mb 9,bd mb 10,bd mb 11,bd mb 12,bd mb 13,bd mb 14,bd mb 15,bd mb 16,bd mb 17,bd mb 18,bd mb 19,bd mb 20,bd mb 21,bd mb 22,bd mb 23,bd mb 24,bd mb 25,bd mb 26,bd mb 27,bd mb 28,bd mb 29,bd mb 30,bd mb 31,bd mb 32,bd mb 33,bd mb 34,bd mb 35,bd mb 36,bd mb 37,bd mb 38,bd mb 39,bd mb 40,bd mb 41,v 60]):=by
 have HB:=ae hb;have qd:∀(fn:Fn) (first cap:Array Value) (w:World),(Instr.makeFunc fn first cap).run Tryz.prog w= .ok (.func fn first cap) w:=fun _ _ _ _=>rfl;clear hb;go_enter Tryz.func58,Tryz.ntmps58;go_wp2_with (refine rV rfl 110 (.tmp 89) (.tmp 87) rfl mb 18 (ML mb) ?a1 ?a2 HB.o ?a3 E1 (I0 mb) ?a4)
 case a2=>rfl
 case a3=>show 18+42<=61;omega
 intro w1 fq Jk;have HK:=ae fq;have HF:=ae Jk;clear fq Jk;go_wp2_with fail;refine bodyPost_end (results_none rfl _ _ _) rfl ⟨rfl,HF.o,?_⟩;exact HK.o
end Go.Proofs.YtblkblclmbhjiaaGreat.Ma
end
namespace Go.Proofs.YtblkblclmbhjiaaGreat.Mk
open Go.RowKit ak Go.Shelf ak.Vm
section
variable {P:Program} {ops:Array Oper} {md:Region.Mode} {Q:Exit->Act->World->Prop} {S0 S1:World->Prop} {D:List Nat} {oi:Oper} {v:Value} {iT:Nat} {l:Array Bool} {a:Act} {w:World}
theorem P6 (i:Nat) (hi:ops[i]? =some oi) (hy:∀w,S0 w/\S1 w->(execOp a.eval oi).run P w= .ok (.value v) w) (hS:S0 w/\S1 w) (h:Gd.lQ P md ops (iw Q) D S0 S1 iT (l.setIfInBounds i true) (a.put oi.dst v) w)
 (hw:Region.wanted oi (yielded ops a.tmps)=true:=by rfl) (hs:Region.noSelect ops=true:=by kernel_rfl) (hf:Region.free md ops l i=true:=by kernel_rfl) (hr:(Region.ready md ops l).contains i=true:=by kernel_rfl)
 (hW:(Gd.Ap md ops (Gd.mA md ops i) i&&D.all (fun d=>d !=i&&(Gd.mA md ops i).contains d))=true:=by kernel_rfl) (hN:((Gd.mA md ops i).all fun d=> !(l.getD d true))=true:=by kernel_rfl):Gd.lQ P md ops (iw Q) D S0 S1 (iT+1) l a w:=
 Gd.take hi hs hf hr hW hN (fun _ _ _ h=>aN h) (.inl ⟨hw,hy⟩) hS h
theorem Ud {rs:List Nat} (h:Gd.cU P md ops (iw Q) D S0 S1 iT l a w rs) (hr:Region.ready md ops l=rs:=by kernel_rfl) (bz:rs≠[]:=by simp):Gd.lQ P md ops (iw Q) D S0 S1 (iT+1) l a w:=Gd.ready hr bz h
end
end Go.Proofs.YtblkblclmbhjiaaGreat.Mk
namespace Go.Proofs.YtblkblclmbhjiaaGreat.Ma
open Go.RowKit ak.Vm
open ak hiding aL an aj
open Vf (Kp fP pV aV cV gF wD Cx sQ Cv gN)
def FN (J:Nat->Value):Act:={tmps:=#[J 0,J 1,J 2,J 3,J 4,J 5,J 6,J 7,J 8,J 9,J 10,J 11,J 12,J 13,J 14,J 15,J 16,J 17,J 18,J 19,J 20,J 21,J 22,J 23,J 24,J 25,J 26,J 27,J 28,J 29,J 30,J 31,J 32,J 33,J 34,J 35,J 36,J 37,J 38,J 39,J 40,J 41,J 42,J 43,J 44,J 45,J 46,J 47,J 48,J 49,J 50,J 51,J 52,J 53,J 54,J 55,J 56,J 57,J 58,J 59,J 60,J 61,J 62,J 63,J 64,J 65,J 66,J 67,J 68,J 69,J 70,J 71,J 72,J 73,J 74,J 75,J 76,J 77,J 78,J 79,J 80,J 81,J 82],defers:=[]}
theorem FN.of (A:Array Value) (h:A=(FN fun k=>A.getD k undef).tmps):({tmps:=A,defers:=[]}:Act)=FN fun k=>A.getD k undef:=by rw [h];rfl
noncomputable def nwL (k:Nat):Code:=Mk.mK Tryz.f16.body k
def mC (v:Nat->Value):Array Value:=#[v 0,v 1,v 2,v 3,v 4,v 5,v 6,v 7,v 8,v 9,v 10,v 11,v 12,v 13,v 14,v 15,v 16,v 17,v 18,v 19,v 20,v 21,v 22,v 23,v 24,v 25,v 26,v 27,v 28,v 29,v 30,v 31,v 32,v 33,v 34,v 35,v 36,v 37,v 38,v 39,v 40,v 41,v 42,v 43,v 44,v 45,v 46,v 47,v 48,v 49,v 50,v 51,v 52,v 53,v 54,v 55,v 56,v 57,v 58,v 59,v 60]
def kH (p:aO) (c:Cp):Bool:=gF p c&&decide (bH (aw p c)<=4194304)
def P7 (w:World) (p:aO) (c:Cp) (e:Ending) (w':World):Prop:=Below w.heap.size w w'/\
 (((aZ p).1≠0/\e= .returned (.tuple #[.pointer none,ι (aZ p).1]))\/((aZ p).1=0/\kH p c=false/\e= .returned (.tuple #[.pointer none,ι 45]))\/
  ((aZ p).1=0/\kH p c=true/\∃(C:Co) (RO:List Nat) (K:Kc),e= .returned (.tuple #[ρ C.mb,ι 0])/\Mx w' C RO K p c (xx p) ⟨0,0,0,0⟩ 0 (.pointer none)/\N6 K C.mb p c/\(∀b,b∈C.l++RO->w.heap.size<=b)))
theorem R3 {w:World} {e:TypeId} {size n:Nat} {v:Value} {g:Nat->Value} (h:Row w e size v n g):∃a m c,v= .slice a m c:=by rcases h.val with ⟨e,-⟩|⟨_,_,e,-⟩<;>exact ⟨_,_,_,e⟩
theorem MO {P:Program} {fn:Func} {R:Ending->World->Prop} {A:Array Value} {w:World} {t u:Tmp} (h:fn.results=#[.tmp t,.tmp u]) (hR:R (.returned (.tuple #[A.getD t undef,A.getD u undef])) w):Exit.noGoto (bodyPost P fn R) .ret {tmps:=A,defers:=[]} w:=by rw [Exit.noGoto_ret];exact Vf.PG h hR
def Dk (v:Nat->Value) (o:Nat) (x:Value):Nat->Value:=fun i=>if i=o then x else v i
theorem YX (v:Nat->Value) (a b:Value):(mC (Dk v 11 a)).setIfInBounds 11 b=mC (Dk v 11 b):=rfl
def Wg (p:aO) (j:Nat):Value:=ι (p.vars.getD j ⟨0,0,0⟩).init
def NL (V7:World) (p:aO) (va:Value) (mb:Nat) (v:Nat->Value) (m:Nat) (a:Act) (W:World):Prop:=∃(J:Nat->Value) (i:Nat) (vs:Value),a=FN J/\J 10=ρ mb/\J 62=va/\J 63=ι p.vars.length/\J 64=ι i/\i<=p.vars.length/\m+i=p.vars.length+1/\
 Hid (ax [mb] V7 W)/\Hid (Row W 3 1 vs i (Wg p))/\Hid (∀b,vs.ownBlock=some b->V7.heap.size<=b)/\Hid (ay W mb 113 (mC (Dk v 11 vs)))
theorem abP {p:Prop} (h:p:=by
 obtain ⟨-,y0,y1⟩:=bR;exact gee):p:=h
theorem nw1 {V7:World} {p:aO} {va:Option Addr} {vc mb:Nat} {v:Nat->Value} {Q:Exit->Act->World->Prop} (HV:Hid (aV V7 3 (.slice va p.vars.length vc) p.vars.length (dx p))) (HM:Hid (∃cs,ay V7 mb 113 cs)) (hl:p.vars.length<=16)
 (eZ:∀(J:Nat->Value) W vs,J 10=ρ mb->ax [mb] V7 W->Row W 3 1 vs p.vars.length (Wg p)->(∀b,vs.ownBlock=some b->V7.heap.size<=b)->ay W mb 113 (mC (Dk v 11 vs))->Q (.exit 0) (FN J) W)
 (HVM:Hid (∀b off c,0 < p.vars.length->Value.slice va p.vars.length vc= .slice (some (π b off)) p.vars.length c->b≠mb))
 {a:Act} {W:World} (h:NL V7 p (.slice va p.vars.length vc) mb v (p.vars.length+1) a W):(Code.loop (nwL 0)).wp Tryz.prog Q a W:=by
 refine Mk.aP (fun m a W=>NL V7 p (.slice va p.vars.length vc) mb v m a W) (p.vars.length+1) h ?_ ?_
 ·rintro a W ⟨J,i,vs,-,-,-,-,-,h1,h2,-⟩;omega
 rintro m a0 W ⟨J,i,vs,rfl,xy,j62,j63,j64,hi,hm,HF,HR,HO,HB⟩;unfold FN
 conv=>arg 2;whnf
 have w2:IntKind.i64.wrap ((i:Int)+1)=((i+1:Nat):Int):=by rw [IntWalk.i64_in _ (by constructor<;>omega)];omega
 rw [xy,j62,j63,j64];clear xy j62 j63 j64;by_cases a8:i < p.vars.length
 ·obtain ⟨b,off,cap,e,q1,q2,lb,hc⟩:=HV.o.some (by omega) (by omega);have hbm:=HVM.o b off cap (by omega) e;simp only [Value.slice.injEq] at e;obtain ⟨rfl,-,rfl⟩:=e;have h_:∀k,k < 3->W.cell? (π b (off+i*3+k))=some (dx p (i*3+k)):=fun k hk=>by have h9:=hc (i*3+k) (by omega);rw [<-Nat.add_assoc] at h9;exact (World.cell?_of_block (HF.o.block _ lb (by simpa using hbm))).trans h9
  have c0:=h_ 0 (by omega);have c1:=h_ 1 (by omega);have c2:=h_ 2 (by omega);obtain ⟨x,hx⟩:∃x,p.vars.getD i ⟨0,0,0⟩=x:=⟨_,rfl⟩;have Ld:dx p (i*3+0)=ι x.init/\dx p (i*3+1)=ι x.lo/\dx p (i*3+2)=ι x.hi:=by unfold dx;rw [show (i*3+0) / 3=i by omega,show (i*3+1) / 3=i by omega,show (i*3+2) / 3=i by omega,show (i*3+0) % 3=0 by omega,show (i*3+1) % 3=1 by omega,show (i*3+2) % 3=2 by omega,hx];exact ⟨rfl,rfl,rfl⟩
  rw [Ld.1,Nat.add_zero] at c0;rw [Ld.2.1] at c1;rw [Ld.2.2] at c2;have HX:=ae hx;have dh:=ae a8;clear hx Ld h_ hc q2;obtain ⟨sa,sn,sc,rfl⟩:=R3 HR.o;have lb2:=aS c0;obtain ⟨W1,Ak⟩:∃W1,W1=W.alloc (.cells #[ι x.init,ι x.lo,ι x.hi] 122):=⟨_,rfl⟩;have k1:ay W1 W.heap.size 122 #[ι x.init,ι x.lo,ι x.hi]:=by rw [Ak];exact ay.new _ _ _
  have eN:Below W.heap.size W W1:=by rw [Ak];exact (Below.refl _ _).alloc (Nat.le_refl _) _
  have FJ:=HB.o.of (eN.block _ HB.o.lt);have Gk:=HR.o.aB (ax.ah (S:=[]) eN) (by simp);have Ob:W1.cell? (π mb 11)=some (.slice sa sn sc):=FJ.cell 11;have z0:=k1.c1;have YY:mb∉(Value.slice sa sn sc).ownBlock.toList:=fun hh=>HR.o.eF HB.o (by decide) (by simpa using hh);have Md:W.heap.size∉(Value.slice sa sn sc).ownBlock.toList:=fun hh=>by have:=(World.ownsRow.lt HR.o W.heap.size (by simpa using hh)).2;omega
  have HN:=ae (And.intro YY Md);have Db:=ae FJ;have xR:=ae Gk;have YZ:=ae ((ax.ah (S:=[mb]) eN));have ze:=ae eN.size;have lm:=FJ.lt;have lk:=k1.lt;have iW:Hid (i+1<=maxLen/\(i+1)*8<=140737488355328):=ae ⟨by unfold maxLen;omega,by omega⟩;clear k1 eN FJ Gk YY Md;go_wp2_with fail;rw [<-Ak];clear Ak c0 c1 c2 lb2 lb;generalize D_:W.heap.size=vb at*;have HVB:=ae D_;clear D_;refine Gd.region [11] (fun _=>True) (fun wx=>wx.cell? (π mb 11)=some (.slice sa sn sc)/\wx.cell? (π vb 0)=some (ι x.init)) (by kernel_rfl) ⟨trivial,Ob,z0⟩ (fun al=>?_);have HD:=ae (au W1.heap.size W1 1);change Hid (Below W1.heap.size W1 W1.drew) at HD;generalize W1.drew=V0 at*;refine Mk.P6 0 (v:=?_) rfl (fun wz bR=>?_) al ?_;rotate_left
  ·exact abP
  refine Mk.pt ?_;refine Mk.P6 1 (v:=?_) rfl (fun wz bR=>?_) al ?_;rotate_left
  ·exact abP
  refine Mk.pt ?_;refine Mk.P6 2 (v:=?_) rfl (fun wz bR=>?_) al ?_;rotate_left
  ·exact abP
  refine Mk.pt ?_;refine Mk.P6 3 (v:=?_) rfl (fun wz bR=>?_) al ?_;rotate_left
  ·exact abP
  refine Mk.pt ?_;refine Mk.P6 4 (v:=?_) rfl (fun wz bR=>?_) al ?_;rotate_left
  ·exact abP
  refine Mk.pt ?_;refine Mk.P6 5 (v:=?_) rfl (fun wz bR=>?_) al ?_;rotate_left
  ·exact abP
  refine Mk.pt ?_;refine Mk.P6 6 (v:=?_) rfl (fun wz bR=>?_) al ?_;rotate_left
  ·exact abP
  refine Mk.pt ?_;refine Mk.Ud (rs:=[7]) (Gd.cU.cons rfl (fun K hK=>?_) Gd.cU.nil);refine QX ?_;go_simp;have dn:Below W1.heap.size W1 (V0.alloc (.cells #[ι x.init] 3)):=HD.o.alloc HD.o.size _;have Dq:(V0.alloc (.cells #[ι x.init] 3)).cell? (π mb 11)=some (.slice sa sn sc)/\(V0.alloc (.cells #[ι x.init] 3)).cell? (π vb 0)=some (ι x.init):=⟨(World.cell?_of_block (dn.block _ lm)).trans Ob,(World.cell?_of_block (dn.block _ lk)).trans z0⟩;clear al;refine hK.out _ _ ⟨trivial,Dq⟩ (fun al=>?_);clear hK K;refine Mk.pt ?_;refine Mk.Ud (rs:=[8]) (Gd.cU.cons rfl (fun K hK=>?_) Gd.cU.nil);refine dq rfl (.tmp 72) (.tmp 75) 24 rfl 3 Tryz.underlying24 Vf.b_ rfl (by decide) (.slice sa sn sc) i (Wg p) (by simp [Act.eval,Act.put]) (xR.o.aB (ax.ah (S:=[]) dn) (by simp)) (π V0.heap.size 0) 1 1 (fun _=> ι x.init) (by simp [Act.eval,Act.put]) ?_ (fun j _=>rfl) iW.o.1 iW.o.2 ?_
  ·intro j hj;obtain rfl:j=0:=by omega
   exact (ay.new V0 3 #[ι x.init]).cell 0
  intro v2 w2 r2 f2 i2;obtain ⟨P8,P_,Qa,rfl⟩:=R3 r2;have BM:w2.cell? (π mb 11)=some (.slice sa sn sc)/\w2.cell? (π vb 0)=some (ι x.init):=⟨(World.cell?_of_block (f2.block _ (aS Dq.1) HN.o.1)).trans Dq.1,(World.cell?_of_block (f2.block _ (aS Dq.2) HN.o.2)).trans Dq.2⟩;have jd:=(Db.o.of (dn.block _ Db.o.lt)).aB f2 HN.o.1;have kY:=ae jd;have rj:=ae (show Row w2 3 1 (.slice P8 P_ Qa) (i+1) (Wg p) from r2.congr (fun o ho=>by
   unfold gU Wg;by_cases e:o < i*1
   ·rw [if_pos e]
   ·rw [if_neg e];obtain rfl:o=i:=by omega
    rw [HX.o]))
  have tB:=ae (show ax [mb] V7 (w2.setCell (π mb 11) (.slice P8 P_ Qa)) from by
   have g1:ax [mb] V7 (V0.alloc (.cells #[ι x.init] 3)):=(HF.o.trans YZ.o).trans (ax.ah dn);have g2:ax [mb] V7 w2:=⟨f2.os.trans g1.os,f2.tape.trans g1.tape,f2.output.trans g1.output,Nat.le_trans g1.size f2.size,fun k hk hn=>(f2.block k (Nat.lt_of_lt_of_le hk g1.size) (fun hm=>by have:=HO.o k (by simpa using hm);omega)).trans (g1.block k hk hn)⟩;exact g2.setCell (p:=(π mb 11)) (by simp) _)
  have ux:=ae (show ∀b,(Value.slice P8 P_ Qa).ownBlock=some b->V7.heap.size<=b from fun b hb=>by
   rcases i2 with h|h
   ·exact HO.o b (by rw [<-h];exact hb)
   ·rw [h] at hb;have h1:=Option.some.inj hb;have h2:=dn.size;have h3:=HF.o.size;have h4:=YZ.o.size;simp only [aE] at h1 h2;omega)
  obtain ⟨y0,y1⟩:=BM;have Gl:w2.cell? (π mb 11)=some (.slice sa sn sc)/\w2.cell? (π vb 0)=some (ι x.init):=⟨y0,y1⟩;have fz:=jd.frozen;have Y5:=jd.lt;clear al jd r2 f2 i2 Dq dn;refine hK.out _ _ ⟨trivial,Gl⟩ (fun al=>?_);clear hK K;refine Mk.pt ?_;refine Mk.P6 9 (v:=?_) rfl (fun wz bR=>?_) al ?_;rotate_left
  ·exact abP
  refine Mk.pt ?_;refine Mk.P6 10 (v:=?_) rfl (fun wz bR=>?_) al ?_;rotate_left
  ·exact abP
  refine Mk.pt ?_;refine Mk.Ud (rs:=[11]) (Gd.cU.last rfl (by kernel_rfl) (fun K hK=>?_) Gd.cU.nil);refine QX ?_;go_simp;refine hK.out _ _ trivial ?_;clear hK K;refine Mk.pt ?_;refine Gd.done (by kernel_rfl) ⟨rfl,?_⟩ _;have fg:=ae (show ay (w2.setCell (π mb 11) (.slice P8 P_ Qa)) mb 113 (mC (Dk v 11 (.slice P8 P_ Qa))) by rw [<-YX v (.slice sa sn sc)];exact kY.o.set 11 _);have HR3:=ae (rj.o.other (c:=mb) (fun e=>(rj.o.eF kY.o (by decide)) e) 11 (.slice P8 P_ Qa));clear al y0 y1 Gl fz Y5;go_wp2_with fail;exact ⟨_,i+1,_,FN.of _ rfl,rfl,rfl,rfl,rfl,dh.o,by omega,tB,HR3,ux,fg⟩
 ·obtain rfl:i=p.vars.length:=by omega
  clear a8;go_wp2_with fail;exact Eq.mpr (congrArg (fun a=>Q (.exit 0) a W) (FN.of _ rfl)) (eZ _ _ _ rfl HF.o HR.o HO.o HB.o)
def Ui (K:Kp) (p:aO) (c:Cp) (qs:Value) (nd:Int) (z:Value):Nat->Value:=fun i=>if i < 18 then (#[K.g,K.v,K.t,K.o,ι p.aJ,K.c,ι c.size,qs,ι nd,.pointer none,.pointer none,ν,ι 0,ι 0,ι 0,ι 0,ι 0,ι 0]:Array Value).getD i undef else if i < 60 then z else .pointer none
def RN2 (w W2:World) (p:aO) (c:Cp) (nd:Int) (a:Act) (W:World):Prop:=∃(J:Nat->Value) (K:Kp) (qs z:Value) (mb:Nat),a=FN J/\J 2=ρ w.heap.size/\J 8=ι nd/\J 10=ρ mb/\Hid (Below W2.heap.size W2 W)/\Hid (Vf.MK W2 W K p)/\Hid (Vf.Own W2 W 3 1 c.aI.length qs (aU c.aI))/\Hid (ay W mb 113 (mC (Ui K p c qs nd z)))/\Hid (W2.heap.size<=mb)
theorem MP {w W5 W6 V6 W7 V7 W9:World} {K1:Kp} {p:aO} {c:Cp} {qs vs:Value} {mb:Nat} (qJ:bo p=0) (tb:vj p) (lO:kH p c=true) (iF:∃W2:World,w.heap.size<=W2.heap.size/\Vf.MK W2 W5 K1 p/\Vf.Own W2 W5 3 1 c.aI.length qs (aU c.aI)/\W2.heap.size<=mb) (wP:Below w.heap.size w W5)
 (GJ:∃cs,ay W5 mb 113 cs) (f6:ax [] W5 W6) (Y6:dT.bP W6 (W5.heap.size+1) ν (.slice (some (π W5.heap.size 0)) p.ap.length p.ap.length) (bH (aw p c)) p.ap.length dT.zk) (g6:ax [mb] W6 V6)
 (f7:ax [] V6 W7) (hi7:Ix.cL W7 (V6.heap.size+1) V6.heap.size (bH (aw p c)) 0 (fun _=>none)) (hz7:W7.heap.size=V6.heap.size+2) (g7:ax [mb] W7 V7) (hs7:V7.heap.size=W7.heap.size) (g9:ax [mb] V7 W9) (YJ:Row W9 3 1 vs p.vars.length (Wg p)) (VA:∀b,vs.ownBlock=some b->V7.heap.size<=b)
 (hmc:ay W9 mb 113 (rD ⟨K1.g,K1.v,K1.t,K1.o,K1.c,qs,bH (aw p c),fun n=>bd mb n⟩ ⟨mb,W5.heap.size+1,V6.heap.size+1,V6.heap.size,ν,.slice (some (π W5.heap.size 0)) p.ap.length p.ap.length,vs⟩ p c 0 ⟨0,0,0,0⟩ 0 (.pointer none))):
 Below w.heap.size w W9/\∃(C:Co) (RO:List Nat) (K:Kc),C.mb=mb/\Mx W9 C RO K p c (xx p) ⟨0,0,0,0⟩ 0 (.pointer none)/\N6 K C.mb p c/\(∀b,b∈C.l++RO->w.heap.size<=b):=by
 obtain ⟨W2,h2,Dt,Y7,kX⟩:=iF;obtain ⟨cs5,GJ⟩:=GJ;have Fo:=GJ.lt;have up:∀{X Y:World},ax [] X Y->ax [mb] X Y:=fun f=>f.mono (by simp);have f59:ax [mb] W5 W9:=((((up f6).trans g6).trans (up f7)).trans g7).trans g9;have abl:W5.heap.size+1 < W6.heap.size:=by obtain ⟨R,A,hc,-⟩:=Y6;exact hc.head.lt
 have s6:=g6.size;have s9:=g9.size;have I2:∀{E:TypeId} {size n:Nat} {v:Value} {g:Nat->Value},Vf.Own W2 W5 E size n v g->E≠113->Row W9 E size v n g/\(∀b,b∈vb v->W2.heap.size<=b/\b < W5.heap.size/\b≠mb):=fun h hE=>by have bz:∀b,b∈vb _->b≠mb:=fun b hb e=>h.1.eF GJ hE (by rw [<-e];exact aK.1 hb);exact ⟨h.1.aB f59 (fun b hb=>by have:=bz b (aK.2 hb);simpa using this),fun b hb=>⟨(h.2 b (aK.1 hb)).1,(h.2 b (aK.1 hb)).2,bz b hb⟩⟩
 obtain ⟨rg,ig⟩:=I2 Dt.g (by decide);obtain ⟨rv,iv⟩:=I2 Dt.v (by decide);obtain ⟨rt,it⟩:=I2 Dt.t (by decide);obtain ⟨ro,io⟩:=I2 Dt.o (by decide);obtain ⟨rc,ic⟩:=I2 Dt.c (by decide);obtain ⟨rq,iq⟩:=I2 Y7 (by decide);have hRO:∀b,b∈vb K1.g++vb K1.v++vb K1.t++vb K1.o++vb K1.c++vb qs->W2.heap.size<=b/\b < W5.heap.size/\b≠mb:=by
  intro b hb;simp only [List.mem_append] at hb;rcases hb with ((((hb|hb)|hb)|hb)|hb)|hb
  ·exact ig b hb
  ·exact iv b hb
  ·exact it b hb
  ·exact io b hb
  ·exact ic b hb
  ·exact iq b hb
 have D_:∀b,b∈vb vs->V7.heap.size<=b/\b < W9.heap.size:=fun b hb=>⟨VA b (aK.1 hb),(World.ownsRow.lt YJ b (aK.1 hb)).2⟩;have hvn:(vb vs).Nodup:=by unfold vb;cases vs.ownBlock<;>simp
 have EI:=lO;unfold kH at EI;simp only [Bool.and_eq_true,decide_eq_true_eq] at EI;have kN:W5.heap.size<=W9.heap.size:=f59.size;refine ⟨wP.trans (f59.below wP.size (by simp;omega)),⟨mb,W5.heap.size+1,V6.heap.size+1,V6.heap.size,ν,.slice (some (π W5.heap.size 0)) p.ap.length p.ap.length,vs⟩,vb K1.g++vb K1.v++vb K1.t++vb K1.o++vb K1.c++vb qs,⟨K1.g,K1.v,K1.t,K1.o,K1.c,qs,bH (aw p c),fun n=>bd mb n⟩,rfl,⟨⟨hmc,⟨rg,rv,rt,ro,rc,rq,?_⟩,?_,?_,YJ⟩,⟨?_,?_,?_,?_⟩⟩,⟨Vf.yE EI.1,rfl,EI.2,qJ,fun n _=>rfl⟩,?_⟩
 ·intro b hb;simp only [List.mem_append];rcases hb with hb|hb|hb|hb|hb|hb<;>simp [hb]
 ·refine Y6.aB (((g6.trans (up f7)).trans g7).trans g9) ?_;intro b hb;simp only [bp,Value.ownBlock,Option.toList,List.mem_cons,List.nil_append,List.not_mem_nil,or_false] at hb;rcases hb with rfl|rfl<;>simp<;>omega
 ·have h0:eS p (xx p).a=0:=dT.uU _;show Ix.cL W9 (V6.heap.size+1) V6.heap.size (bH (aw p c)) (eS p (xx p).a) (xx p).f;rw [h0];have e1:V6.heap.size+1≠mb:=by omega
  have e2:V6.heap.size≠mb:=by omega
  exact hi7.aB (g7.trans g9) ⟨by simpa using e1,by simpa using e2⟩
 ·simp only [Co.l,bp,Value.ownBlock,Option.toList,List.nil_append,List.cons_append];simp only [List.nodup_cons,List.mem_cons,List.mem_append,List.not_mem_nil,or_false,not_or];refine ⟨⟨by omega,by omega,by omega,by omega,fun h=>?_⟩,⟨by omega,by omega,by omega,fun h=>?_⟩,⟨by omega,by omega,fun h=>?_⟩,⟨by omega,fun h=>?_⟩,fun h=>?_,hvn⟩
  all_goals (have:=(D_ _ h).1;omega)
 ·intro b hb;simp only [Co.l,bp,Value.ownBlock,Option.toList,List.nil_append,List.cons_append,List.mem_cons,List.mem_append,List.not_mem_nil,or_false] at hb;rcases hb with rfl|rfl|rfl|rfl|rfl|hb
  ·omega
  ·omega
  ·omega
  ·omega
  ·omega
  ·exact (D_ b hb).2
 ·intro b hb hr;have h1:=hRO b hr;simp only [Co.l,bp,Value.ownBlock,Option.toList,List.nil_append,List.cons_append,List.mem_cons,List.mem_append,List.not_mem_nil,or_false] at hb;rcases hb with rfl|rfl|rfl|rfl|rfl|hb
  ·exact h1.2.2 rfl
  ·omega
  ·omega
  ·omega
  ·omega
  ·have:=(D_ b hb).1;omega
 ·intro b hb;have:=hRO b hb;omega
 ·intro b hb;rw [List.mem_append] at hb;rcases hb with hb|hb
  ·simp only [Co.l,bp,Value.ownBlock,Option.toList,List.nil_append,List.cons_append,List.mem_cons,List.mem_append,List.not_mem_nil,or_false] at hb;have:=wP.size;rcases hb with rfl|rfl|rfl|rfl|rfl|hb
   ·omega
   ·omega
   ·omega
   ·omega
   ·omega
   ·have:=(D_ b hb).1;omega
  ·have:=(hRO b hb).1;omega
theorem Bs {w:World} {K:Kp} {p:aO} {c:Cp} {qv:Value} (h:fP w K p) (hq:aV w 1 qv c.aI.length (aU c.aI)):Calls Tryz.prog 16 #[pV K p,cV c qv] w (P7 w p c):=by
 obtain ⟨⟨ga,gc,g1,g2,g3⟩,⟨va,vc,v1,v2,v3⟩,⟨ta,tc,t1,t2,t3⟩,⟨oa,oc,o1,o2,o3⟩,⟨ca,cc,c1,c2,c3⟩⟩:=h.sl;obtain ⟨qa,qc,rfl,-,-⟩:=hq.val;have Dj:=ae (fun V (hb:Below w.heap.size w V)=>Vf.Ua (w:=V) (h.aB (ax.ah hb)));have HFT:=ae (fun V (hb:Below w.heap.size w V) hg=>Vf.E0 V (c:=c) (h.aB (ax.ah hb)) (hq.aB (ax.ah hb)) hg);have HTW:=ae (fun V (hb:Below w.heap.size w V) hm=>Vf.Ub V (h.aB (ax.ah hb)) hm);have ug:=ae (fun V (hb:Below w.heap.size w V) hn=>Vf.pN (w:=V) (hq.aB (ax.ah hb)) hn (fun _ _=>rfl));have H:=ae h;have HQ:=ae hq;obtain ⟨W0,lL⟩:∃W0,W0=(w.alloc (.cells #[.slice ga p.ap.length gc,.slice va p.vars.length vc,.slice ta p.aW.length tc,.slice oa p.on.length oc,ι p.aJ,.slice ca p.code.length cc] 27)).alloc (.cells #[ι c.size,.slice qa c.aI.length qc] 29):=⟨_,rfl⟩;have kp:ay W0 w.heap.size 27 #[.slice ga p.ap.length gc,.slice va p.vars.length vc,.slice ta p.aW.length tc,.slice oa p.on.length oc,ι p.aJ,.slice ca p.code.length cc]:=by rw [lL];exact (ay.new _ _ _).alloc _
 have kc:ay W0 (w.heap.size+1) 29 #[ι c.size,.slice qa c.aI.length qc]:=by rw [lL];exact ay.a_ (by simp)
 have dQ:Below w.heap.size w W0:=by rw [lL];exact ((Below.refl _ _).alloc (Nat.le_refl _) _).alloc (by simp) _
 have HKV:=ae v1;unfold pV cV at*;rw [g1,v1,t1,o1,c1] at Dj HFT HTW ⊢;clear h hq g1 v1 t1 o1 c1 g2 g3 v2 v3 t2 t3 o2 o3 c2 c3;go_enter Tryz.func16,Tryz.ntmps16;go_wp2_with fail;rw [<-lL];refine (Dj.o _ dQ).mono ?_;rintro e W1 ⟨wB,ms,rfl,⟨x9,y9,z9,rfl⟩,hb,h1⟩;have KP:=ae (kp.of (hb.block _ kp.lt));have KC:=ae (kc.of (hb.block _ kc.lt));have dC:=ae (dQ.trans (hb.mono dQ.size));have tC:=ae (show w.heap.size+1 < W1.heap.size by have:=hb.size;have:=kc.lt;omega);have H1:=ae h1;clear kp kc hb dQ lL h1 Dj;obtain ⟨ve,Uj⟩:∃v,aZ p=v:=⟨_,rfl⟩;have Qb:=ae Uj;rw [Uj] at H1 ⊢;obtain ⟨e1,e2⟩:=ve;clear Uj;dsimp only;obtain ⟨p0,p1,p2,p3,p4,p5⟩:=KP.o.c6;obtain ⟨k0,k1⟩:=KC.o.c2;have lp:=KP.o.lt;have lc:=KC.o.lt;have Uk:=ae (fun cs T mV T2=>(dC.o.alloc dC.o.size (.cells cs T)).alloc (by simp;have:=dC.o.size;omega) (.cells mV T2));by_cases he:e1=0
 case neg=>
  have bz:(e1 !=0)=true:=by simpa using he
  have HE:=ae he;clear he;go_wp2_with fail;go_quiet (fail);go_wp2_with fail;refine MO rfl ?_;exact ⟨(Uk.o _ _ _ _).trans (au _ _ _),.inl ⟨by rw [Qb.o];exact HE.o,by rw [Qb.o];rfl⟩⟩
 subst he;have JI:=ae (show bo p=0 by
  by_cases h0:bo p=0
  ·exact h0
  ·have:=Qb.o;unfold aZ at this;rw [if_pos h0] at this;exact absurd (Prod.mk.inj this).1 h0)
 have TB:=ae (cK JI.o).1;have MQ:=TB.o.g;have Qc:=ae (fun V hb=>HFT.o V hb MQ);unfold wD at Qc;have HNK:=ae (show (gF p c&&decide (bH (aw p c)<=4194304))=kH p c from rfl);rw [HNK.o] at Qc;generalize gm:(if gF p c=true then ((bH (aw p c):Nat):Int) else 0)=nd at*;have WW:=ae gm;clear gm MQ HFT;go_wp2_with fail;refine (Qc.o _ (Uk.o _ _ _ _)).mono ?_;rintro e W2 ⟨rfl,hb⟩;have dn:Below W1.heap.size W1 W2:=(((Below.refl _ _).alloc (Nat.le_refl _) _).alloc (by simp) _).trans (hb.mono (by simp;omega));have KP2:=ae (KP.o.of (dn.block _ KP.o.lt));have V_:=ae (KC.o.of (dn.block _ KC.o.lt));have fg:=ae (dC.o.trans (dn.mono dC.o.size));have Gu:=ae (show w.heap.size+1 < W2.heap.size by have:=tC.o;have:=dn.size;omega);clear hb dn p0 p1 p2 p3 p4 p5 k0 k1 lp lc Uk Qc;cases lO:kH p c with
 |false=>have xz:=ae lO;clear lO;go_wp2_with fail;refine MO rfl ?_;exact ⟨fg.o,.inr (.inl ⟨by rw [Qb.o],xz.o,rfl⟩)⟩
 |true=>
 have xz:=ae lO;clear lO;obtain ⟨p0,p1,p2,p3,p4,p5⟩:=KP2.o.c6;obtain ⟨k0,k1⟩:=V_.o.c2;have lp:=KP2.o.lt;have lc:=V_.o.lt;have aaO:=ae (show Vf.Mod p from ⟨by have:=TB.o.g;omega,by have:=TB.o.v;omega,by have:=TB.o.t;omega,by have:=TB.o.on;have:=TB.o.g;omega,by have:=TB.o.code;omega⟩);have HQ8:=ae (show c.aI.length*8<=140737488355328 by
  have h:=xz.o;unfold kH gF at h;simp only [Bool.and_eq_true,decide_eq_true_eq] at h;have:=h.1.1.2;have:=TB.o.g;omega)
 have Y8:=ae (show nd=((bH (aw p c):Nat):Int)/\bH (aw p c)<=4194304 by
  have h:=xz.o;unfold kH at h;simp only [Bool.and_eq_true,decide_eq_true_eq] at h;rw [<-WW.o,if_pos h.1];exact ⟨rfl,h.2⟩)
 have Y9:=ae (fun V (hb:Below W2.heap.size W2 V)=>HTW.o V (fg.o.trans (hb.mono fg.o.size)) aaO.o);have Y_:=ae (fun V (hb:Below W2.heap.size W2 V)=>ug.o V (fg.o.trans (hb.mono fg.o.size)) HQ8.o);clear HTW ug;go_wp2_with fail;refine wp_mono (Q:=fun e a W=>e=Exit.normal/\RN2 w W2 p c nd a W) ?_ ?_
 ·refine Mk.bF (S:=fun wx=>Below W2.heap.size W2 wx) (by kernel_rfl) (au _ W2 1) (fun al=>?_);refine Mk.tk 0 (v:=?_) rfl (fun wz bR=>?_) al ?_;rotate_left
  ·have key:∀b i v,b < W2.heap.size->W2.cell? (π b i)=some v->wz.cell? (π b i)=some v:=fun b i v hb hc=>(World.cell?_of_block (bR.block _ hb)).trans hc;have y0:=key _ _ _ lp p0;have y1:=key _ _ _ lp p1;have y2:=key _ _ _ lp p2;have y3:=key _ _ _ lp p3;have y4:=key _ _ _ lp p4;have y5:=key _ _ _ lp p5;exact gee
  refine Mk.pt ?_;refine Mk.bL 2 ?_;refine Mk.tk 3 (v:=?_) rfl (fun wz bR=>?_) al ?_;rotate_left
  ·have key:∀b i v,b < W2.heap.size->W2.cell? (π b i)=some v->wz.cell? (π b i)=some v:=fun b i v hb hc=>(World.cell?_of_block (bR.block _ hb)).trans hc;have y0:=key _ _ _ lc k0;exact gee
  refine Mk.pt ?_;refine Mk.bL 4 ?_;refine Mk.tk 5 (v:=?_) rfl (fun wz bR=>?_) al ?_;rotate_left
  ·have key:∀b i v,b < W2.heap.size->W2.cell? (π b i)=some v->wz.cell? (π b i)=some v:=fun b i v hb hc=>(World.cell?_of_block (bR.block _ hb)).trans hc;have y0:=key _ _ _ lc k1;exact gee
  refine Mk.pt ?_;refine Mk.bL 8 ?_;refine Mk.nW (rs:=[1]) (AllReadyH.cons rfl (fun K9 hK=>?_) AllReadyH.nil);refine QX ?_;go_simp;refine (Y9.o _ al).mono ?_;rintro e Wt ⟨K1,rfl,Dt,hbt⟩;obtain ⟨kg,kv,kt,ko,kc⟩:=K1;obtain ⟨ag,mg,cg,eg⟩:=R3 Dt.g.1;obtain ⟨av,mv,cv,ev⟩:=R3 Dt.v.1;obtain ⟨at_,mt,ct,et⟩:=R3 Dt.t.1;obtain ⟨ao,mo,co,eo⟩:=R3 Dt.o.1;obtain ⟨ac,mc,cc9,ec⟩:=R3 Dt.c.1;dsimp only at eg ev et eo ec;subst eg ev et eo ec;unfold pV;dsimp only;have hS:=al.trans (hbt.mono al.size);have abm:=al.size;clear al;refine hK.out _ _ hS (fun al=>?_);clear hK K9;refine Mk.pt ?_;refine Mk.nW (rs:=[6]) (AllReadyH.cons rfl (fun K9 hK=>?_) AllReadyH.nil);refine QX ?_;go_simp;refine (Y_.o _ al).mono ?_;rintro e Wq ⟨qs,rfl,hrq,hbq,hiq⟩;obtain ⟨aq,mq,cq,rfl⟩:=R3 hrq;have hS:=al.trans (hbq.mono al.size);have Za:=al.size;clear al;refine hK.out _ _ hS (fun al=>?_);clear hK K9;refine Mk.pt ?_;refine Mk.bL 7 ?_;refine Mk.bL 9 ?_;refine Mk.nW (rs:=[10]) (AllReadyH.cons rfl (fun K9 hK=>?_) AllReadyH.nil);refine QX ?_;go_simp;refine hK.out _ _ (al.alloc al.size _) (fun al=>?_);clear hK K9;refine Mk.pt ?_;refine Mk.bL 11 ?_;refine wpAnyH_done (by kernel_rfl) ⟨rfl,rfl,_,⟨.slice ag mg cg,.slice av mv cv,.slice at_ mt ct,.slice ao mo co,.slice ac mc cc9⟩,.slice aq mq cq,.nilFunc,_,FN.of _ rfl,rfl,rfl,rfl,ae al,ae ?_,ae ⟨hrq.alloc _,hiq.mono Za (by simp)⟩,ae ?_,ae (Nat.le_trans Za hbq.size)⟩ _
  ·have h0:Vf.MK W2 Wt ⟨.slice ag mg cg,.slice av mv cv,.slice at_ mt ct,.slice ao mo co,.slice ac mc cc9⟩ p:=⟨Dt.g,Dt.v,Dt.t,Dt.o,Dt.c⟩;have sr:Below Wt.heap.size Wt (Wq.alloc (.cells #[.slice ag mg cg,.slice av mv cv,.slice at_ mt ct,.slice ao mo co,ι p.aJ,.slice ac mc cc9,ι c.size,.slice aq mq cq,ι nd,.pointer none,.pointer none,ν,ι 0,ι 0,ι 0,ι 0,ι 0,ι 0,.nilFunc,.nilFunc,.nilFunc,.nilFunc,.nilFunc,.nilFunc,.nilFunc,.nilFunc,.nilFunc,.nilFunc,.nilFunc,.nilFunc,.nilFunc,.nilFunc,.nilFunc,.nilFunc,.nilFunc,.nilFunc,.nilFunc,.nilFunc,.nilFunc,.nilFunc,.nilFunc,.nilFunc,.nilFunc,.nilFunc,.nilFunc,.nilFunc,.nilFunc,.nilFunc,.nilFunc,.nilFunc,.nilFunc,.nilFunc,.nilFunc,.nilFunc,.nilFunc,.nilFunc,.nilFunc,.nilFunc,.nilFunc,.nilFunc,.pointer none] 113)):=hbq.alloc hbq.size _;exact ⟨h0.g.later sr,h0.v.later sr,h0.t.later sr,h0.o.later sr,h0.c.later sr⟩
  ·exact ay.new _ _ _
 rintro e a W5 ⟨rfl,J,K1,qs,z,mb,rfl,j2,j8,xy,nA,HPO,HQS,qN,iW⟩;clear p0 p1 p2 p3 p4 p5 k0 k1 lp lc Y9 Y_;unfold FN;have hN:=Y8.o.1;rw [j2,j8,xy,hN];have hN4:=Y8.o.2;subst hN;clear j2 j8 xy WW;have Ul:=ae (fg.o.trans (nA.o.mono fg.o.size));have V4:=ae (KP2.o.of (nA.o.block _ KP2.o.lt));have Zb:=ae (show w.heap.size≠mb by have:=Gu.o;have:=iW.o;omega);have p0:=V4.o.c1;have lp:=V4.o.lt;have MQ:=TB.o.g;have HAR:=ae (fun V=>dT.Bs (bH (aw p c)) p.ap.length V hN4 (by omega));have HIX:=ae (fun V=>Ix.aai (bH (aw p c)) V hN4);generalize hNN:bH (aw p c)=N at*;have rM:=ae hNN;clear hNN;go_wp2_with fail;refine (HAR.o W5).mono ?_;rintro e W6 ⟨rfl,f6,Y6⟩;have Zc:ay W6 mb 113 (mC (Ui K1 p c qs N z)):=qN.o.aB f6 (by simp);have m9:W6.cell? (π mb 9)=some (.pointer none):=Zc.cell 9;have fz6:=Zc.frozen;have lm6:=Zc.lt;have Zd:=ae (show ay (W6.setCell (π mb 9) (ρ (W5.heap.size+1))) mb 113 (mC (Dk (Ui K1 p c qs N z) 9 (ρ (W5.heap.size+1)))) from Zc.set 9 _);have Rp:=ae (show ax [mb] W6 (W6.setCell (π mb 9) (ρ (W5.heap.size+1))) from (ax.refl _ _).setCell (p:=(π mb 9)) (by simp) _);have Jn:=ae f6;have HA6:=ae Y6;clear f6 Y6 Zc p0 lp;go_wp2_with fail;obtain ⟨V6,hV6⟩:∃V,V=W6.setCell (π mb 9) (ρ (W5.heap.size+1)):=⟨_,rfl⟩;rw [<-hV6] at Zd Rp ⊢;clear m9 fz6 lm6 hV6;refine (HIX.o V6).mono ?_;rintro r W7 ⟨rfl,f7,hi7,hz7⟩;have Ze:ay W7 mb 113 (mC (Dk (Ui K1 p c qs N z) 9 (ρ (W5.heap.size+1)))):=Zd.o.aB f7 (by simp);have m10:W7.cell? (π mb 10)=some (.pointer none):=Ze.cell 10;have fz7:=Ze.frozen;have lm7:=Ze.lt;have Um:ax [mb] W5 W7:=(((ax.mono Jn.o (by simp)).trans Rp.o).trans (ax.mono f7 (by simp)));have kp7:=V4.o.aB Um (by have:=Zb.o;simpa using this);have p1:W7.cell? (π w.heap.size 1)=some (.slice va p.vars.length vc):=kp7.cell 1;have lp:=kp7.lt;have JK:=ae (show ax [mb] W7 (W7.setCell (π mb 10) (ρ (V6.heap.size+1))) from (ax.refl _ _).setCell (p:=(π mb 10)) (by simp) _);have HM7:=ae (show ay (W7.setCell (π mb 10) (ρ (V6.heap.size+1))) mb 113 (mC (Dk (Dk (Ui K1 p c qs N z) 9 (ρ (W5.heap.size+1))) 10 (ρ (V6.heap.size+1)))) from Ze.set 10 _);have NM:=ae f7;have HI7:=ae hi7;have HZ7:=ae hz7;have aaP:=ae Um;have hnw:=Zb.o;clear f7 hi7 hz7 Ze Um kp7;go_wp2_with fail;obtain ⟨V7,hV7⟩:∃V,V=W7.setCell (π mb 10) (ρ (V6.heap.size+1)):=⟨_,rfl⟩;have HS7:=ae (show V7.heap.size=W7.heap.size by rw [hV7];simp);rw [<-hV7] at JK HM7 ⊢;clear m10 fz7 lm7 p1 lp hV7 hnw;have HVR:=ae (show aV V7 3 (.slice va p.vars.length vc) p.vars.length (dx p) by
  have h0:=H.o.v;rw [HKV.o] at h0;exact h0.aB (ax.ah (Ul.o.trans ((aaP.o.trans JK.o).below Ul.o.size (by have:=iW.o;have:=fg.o.size;simp;omega)))))
 refine nw1 (V7:=V7) (mb:=mb) (v:=Dk (Dk (Ui K1 p c qs N z) 9 (ρ (W5.heap.size+1))) 10 (ρ (V6.heap.size+1))) HVR (ae ⟨_,HM7.o⟩) TB.o.v (fun J W8 vs xy Un hr8 ho8 qM=>?_) (ae (fun b off cp hn e=>?_)) ⟨_,0,ν,FN.of _ rfl,rfl,rfl,rfl,rfl,Nat.zero_le _,by omega,ae (ax.refl _ _),ae (Row.nil _ _ _ _),ae (fun b hb=>by cases hb),ae HM7.o⟩;rotate_left
 ·have h0:=H.o.v;rw [HKV.o] at h0;obtain ⟨b',TQ,mI,e',-,-,hl,-⟩:=h0.some hn (by omega);rw [e] at e';simp only [Value.slice.injEq,Option.some.injEq,Addr.mk.injEq] at e';have:=iW.o;have:=fg.o.size;omega
 unfold FN;rw [xy];have ξ:=ae Un;have HR8:=ae hr8;have sh:=ae ho8;have qX:=ae (Aq (v:=Dk (Dk (Dk (Ui K1 p c qs N z) 9 (ρ (W5.heap.size+1))) 10 (ρ (V6.heap.size+1))) 11 vs) qM);have aaQ:=ae (fun e=>hr8.eF qM (by decide) e);clear xy Un hr8 ho8 qM;go_wp2_with fail;refine qX.o.mono ?_;rintro e W9 ⟨rfl,MC,ui⟩;have fJ:=MP (w:=w) (c:=c) JI.o TB.o xz.o ⟨W2,fg.o.size,HPO.o,HQS.o,iW.o⟩ Ul.o ⟨_,qN.o⟩ Jn.o (by rw [rM.o];exact HA6.o) Rp.o NM.o (by rw [rM.o];exact HI7.o) HZ7.o JK.o HS7.o (ξ.o.trans MC) (HR8.o.aB MC (fun b hb hm=>aaQ.o (by simp at hm;rw [<-hm];exact hb))) sh.o (by rw [rM.o];exact ui);have HD:=ae fJ;clear fJ MC ui qX;go_wp2_with fail;refine MO rfl ?_;obtain ⟨h1,C,RO,K9,rfl,h3,h4,h5⟩:=HD.o;exact ⟨h1,.inr (.inr ⟨by rw [Qb.o],xz.o,C,RO,K9,rfl,h3,h4,h5⟩)⟩
end Go.Proofs.YtblkblclmbhjiaaGreat.Ma
namespace Go.Proofs.YtblkblclmbhjiaaGreat.Ma
open Go.RowKit ak.Vm Go.Shelf
open ak hiding aL an aj
theorem Row.qT {w:World} {e:TypeId} {size n:Nat} {v:Value} {g:Nat->Value} (h:Row w e size v n g):∃a m cap,v= .slice a m cap:=by
 rcases h.val with ⟨rfl,-⟩|⟨b,cap,rfl,-⟩
 ·exact ⟨_,_,_,rfl⟩
 ·exact ⟨_,_,_,rfl⟩
theorem yG {T:List Nat} {W W':World} (f:ax T W W') (hc:∀b,b∈T->Mk.KL W b) (B:Nat):KeepsFrom B W W':=
 ⟨f.size,fun k o _ hk ho=>(f.block k (Array.getElem?_eq_some_iff.1 hk).1 (fun hb=>by
   obtain ⟨o',h1,h2⟩:=hc k hb;rw [hk] at h1;cases h1;rw [ho] at h2;cases h2)).trans hk⟩
end Go.Proofs.YtblkblclmbhjiaaGreat.Ma
namespace Go.Proofs.YtblkblclmbhjiaaGreat.Ix
open Go.RowKit ak
open S4 (ny vD sK)
open gP (cH zd Bo)
structure mE (f:Nat->Option Nat) (L:List (Nat×Nat)):Prop where
 up:L.Pairwise (fun a b=>a.1 < b.1)
 mem:∀k v,(k,v)∈L↔f k=some v
theorem mE.pS {f:Nat->Option Nat} {L L':List (Nat×Nat)} (h:mE f L) (h':mE f L'):L=L':=by
 have hm:∀x,x∈L↔x∈L':=fun x=>by obtain ⟨k,v⟩:=x;rw [h.mem,h'.mem]
 have a:=h.up;have b:=h'.up;clear h h'
 induction L generalizing L' with
 |nil=>
  cases L' with
  |nil=>rfl
  |cons y t=>exact absurd ((hm y).2 (by simp)) (by simp)
 |cons x t ih=>
  cases L' with
  |nil=>exact absurd ((hm x).1 (by simp)) (by simp)
  |cons y t'=>
   obtain ⟨a1,a2⟩:=List.pairwise_cons.1 a;obtain ⟨b1,b2⟩:=List.pairwise_cons.1 b;have hxy:x=y:=by
    rcases List.mem_cons.1 ((hm x).1 (by simp)) with e|hx
    ·exact e
    rcases List.mem_cons.1 ((hm y).2 (by simp)) with e|hy
    ·exact e.symm
    have:=b1 x hx;have:=a1 y hy;omega
   subst hxy;rw [ih (L':=t') (fun z=>?_) a2 b2];constructor
   ·intro hz;rcases List.mem_cons.1 ((hm z).1 (by simp [hz])) with e|h'
    ·subst e;have:=a1 z hz;omega
    ·exact h'
   ·intro hz;rcases List.mem_cons.1 ((hm z).2 (by simp [hz])) with e|h'
    ·subst e;have:=b1 z hz;omega
    ·exact h'
theorem CJ {S:Tb Value} {n:Nat} {x:Nat×Int} (h:x∈cH S n):∃i k,i < n/\S i=some (x.1,.int k x.2):=by
 induction n with
 |zero=>simp [cH] at h
 |succ n ih=>
  unfold cH at h;rw [List.mem_append] at h;rcases h with h|h
  ·obtain ⟨i,k,hi,hs⟩:=ih h;exact ⟨i,k,by omega,hs⟩
  ·split at h
   ·next k kk v hs=>simp at h;subst h;exact ⟨n,kk,by omega,hs⟩
   ·simp at h
theorem M5 {S:Tb Value} {n i k:Nat} {kk:IntKind} {v:Int} (hi:i < n) (h:S i=some (k,.int kk v)):(k,v)∈cH S n:=by
 induction n with
 |zero=>omega
 |succ n ih=>
  unfold cH;rw [List.mem_append];by_cases e:i=n
  ·subst e;right;rw [h];simp
  ·left;exact ih (by omega)
theorem E6 {S:Tb Value} {n:Nat} (I:Inv n S):∀m,m<=n->(cH S m).Pairwise (fun a b=>a.1≠b.1):=by
 intro m
 induction m with
 |zero=>intro _;exact .nil
 |succ m ih=>
  intro hm;unfold cH;rw [List.pairwise_append];refine ⟨ih (by omega),?_,?_⟩
  ·split<;>simp
  ·intro a ha b hb;split at hb
   ·next k kk v hs=>simp at hb;subst hb;obtain ⟨i,k',hi,Bl⟩:=CJ ha;intro e;have:=I.pS i m k _ _ (by omega) (by omega) (by rw [Bl];simp only [] at e;rw [e]) hs;omega
   ·simp at hb
theorem CK {n count az e:Nat} {S:Tb Value} (T:ny n count az e S):∀m,m<=n->(cH S m).length=cR m S:=by
 intro m
 induction m with
 |zero=>intro _;simp [cH,cR]
 |succ m ih=>
  intro hm;unfold cH;rw [List.length_append,ih (by omega)];cases hS:S m with
  |none=>simp [cR,hS]
  |some p=>obtain ⟨k,u⟩:=p;obtain ⟨x,rfl⟩:=T.int m k u hS;simp [cR,hS]
def R6 (x:Nat×Nat):Nat×Int:=(x.1,(x.2:Int))
theorem all' {w:World} {b s az count:Nat} {f:Nat->Option Nat} (h:cL w b s az count f):Calls Tryz.prog 65 #[ρ b] w fun r w'=>
 r= .returned (.func (.func 140) #[] #[ρ w.heap.size])/\∃L:List (Nat×Nat),mE f L/\L.length=count/\Bo w (L.map R6) w':=by
 obtain ⟨n,e,S,hI,T,hf,hn⟩:=h;refine (gP.WM hI T.fit.Sk T.int).mono ?_;rintro r w' ⟨rfl,L0,⟨hp,hs⟩,hA⟩;have hv:∀x,x∈L0->∃v:Nat,x.2=v/\f x.1=some v:=fun x hx=>by obtain ⟨i,kk,hi,hS⟩:=CJ (hp.mem_iff.1 hx);obtain ⟨v,hu⟩:=hn i _ _ hi hS;simp at hu;exact ⟨v,hu.2,(hf _ _).2 ⟨i,hi,by rw [hS,hu.1,hu.2]⟩⟩
 have hl:(L0.map fun x=>(x.1,x.2.toNat)).map R6=L0:=by rw [List.map_map];refine (List.map_congr_left fun x hx=>?_).trans (List.map_id L0);obtain ⟨v,h1,-⟩:=hv x hx;obtain ⟨k,y⟩:=x;simp only at h1;subst h1;simp [R6]
 refine ⟨rfl,L0.map fun x=>(x.1,x.2.toNat),⟨?_,fun k v=>?_⟩,?_,by rw [hl];exact hA⟩
 ·rw [List.pairwise_map];have h1:L0.Pairwise (fun a b=>a.1≠b.1):=(hp.pairwise_iff (fun h=>fun e=>h e.symm)).2 (E6 T.inv n (Nat.le_refl _));exact (h1.and hs).imp fun ⟨a,b⟩=>by simp only;omega
 ·constructor
  ·intro hm;obtain ⟨x,hx,Wi⟩:=List.mem_map.1 hm;obtain ⟨v',h1,h2⟩:=hv x hx;simp at Wi;rw [<-Wi.1,h2,<-Wi.2,h1];simp
  ·intro hm;obtain ⟨i,hi,hS⟩:=(hf k v).1 hm;exact List.mem_map.2 ⟨(k,(v:Int)),hp.mem_iff.2 (M5 hi hS),by simp⟩
 ·rw [List.length_map,hp.length_eq,CK T n (Nat.le_refl _),T.cR]
end Go.Proofs.YtblkblclmbhjiaaGreat.Ix
