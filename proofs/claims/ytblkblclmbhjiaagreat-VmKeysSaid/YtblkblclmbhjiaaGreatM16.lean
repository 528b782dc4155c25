import Derived.Test.YtblkblclmbhjiaaGreatM15
set_option linter.unusedVariables false
set_option linter.unusedSimpArgs false
set_option maxHeartbeats 40000000
set_option maxRecDepth 100000
open Go.Proofs.Tryz
theorem ag0 {p:Prop} (h:p:=by
 obtain ⟨q,hq,hn,-⟩:=(hI.idx key n).1 hf;cases hg:p.ap.getD q false with
 |false=>exact E4 M V hS h1 hI hk hf hq hn hg
 |true=>exact As M V hS h1 hI hk hf hq hn hg):p:=h
namespace Go.Proofs.YtblkblclmbhjiaaGreat.Ma
open Go.RowKit ak.Vm Go.Shelf
open ak hiding aL an aj
open dT (bP bG d_)
open Ix (cL)
def fA (l:List Nat):List Int:=l.map fun n:Nat=>(n:Int)
theorem mF (l:List Nat):(fA l).length=l.length:=by simp [fA]
theorem yH (l:List Nat) (x:Nat):fA (l++[x])=fA l++[(x:Int)]:=by simp [fA]
theorem k6 {α:Type} (l:List α) (x d:α) (o:Nat):(o < l.length->(l++[x]).getD o d=l.getD o d)/\(o=l.length->(l++[x]).getD o d=x):=by
 constructor
 ·intro h;simp [List.getD,agt,h]
 ·intro h;subst h;simp [List.getD]
theorem fL.snoc {w w':World} {lo hi hi':Nat} {v v':Value} {l:List Int} {x:Int} (h:fL w lo hi v l) (hr:Row w' 3 1 v' (l.length+1) (gU (l.length*1) (aU l) fun _=> ι x)) (hv:mN lo hi' v'):fL w' lo hi' v' (l++[x]):=by
 refine ⟨?_,hv⟩;rw [age,agB];refine hr.congr fun o ho=>?_;unfold gU aU;by_cases h1:o < l.length
 ·rw [afE omm,(k6 l x 0 o).1 h1]
 ·rw [abH omm,(k6 l x 0 o).2 omm]
def nK (l:List Nat) (i:Nat):Value:= .int .u64 (l.getD i 0:Nat)
structure kB (w:World) (lo hi:Nat) (v:Value) (l:List Nat):Prop where
 row:Row w 46 1 v l.length (nK l)
 jy:mN lo hi v
theorem kB.off {w w':World} {lo hi:Nat} {v:Value} {l:List Nat} {S:List Nat} (h:kB w lo hi v l) (f:da S w w') (k:se w lo hi [46] S):kB w' lo hi v l:=⟨Row.off h.row h.jy smm f k,h.jy⟩
theorem kB.mono {w:World} {lo hi zR hi':Nat} {v:Value} {l:List Nat} (h:kB w lo hi v l) (h1:zR<=lo) (h2:hi<=hi'):kB w zR hi' v l:=⟨h.row,h.jy.mono h1 h2⟩
theorem kB.snoc {w w':World} {lo hi hi':Nat} {v v':Value} {l:List Nat} {x:Nat} (h:kB w lo hi v l) (hr:Row w' 46 1 v' (l.length+1) (gU (l.length*1) (nK l) fun _=> .int .u64 x)) (hv:mN lo hi' v'):kB w' lo hi' v' (l++[x]):=by
 refine ⟨?_,hv⟩;rw [age,agB];refine hr.congr fun o ho=>?_;unfold gU nK;by_cases h1:o < l.length
 ·rw [afE omm,(k6 l x 0 o).1 h1]
 ·rw [abH omm,(k6 l x 0 o).2 omm]
def Ol:List TypeId:=[24,3]
structure wG (w:World) (lo hi:Nat) (v:Value) (P:List (List Nat)) (lv:Nat->Value):Prop where
 row:Row w 24 1 v P.length lv
 jy:mN lo hi v
 q:∀q,q < P.length->fL w lo hi (lv q) (fA (P.getD q []))
 sep:∀q q',q < P.length->q' < P.length->q≠q'->(lv q).ownBlock=none\/(lv q).ownBlock≠(lv q').ownBlock
theorem wG.off {w w':World} {lo hi:Nat} {v:Value} {P:List (List Nat)} {lv:Nat->Value} {S:List Nat} (h:wG w lo hi v P lv) (f:da S w w') (k:se w lo hi Ol S):wG w' lo hi v P lv:=
 ⟨Row.off h.row h.jy (by simp [Ol]) f k,h.jy,fun q hq=>(h.q q hq).off f (k.sub (by simp [Ol,zS])),h.sep⟩
theorem wG.mono {w:World} {lo hi zR hi':Nat} {v:Value} {P:List (List Nat)} {lv:Nat->Value} (h:wG w lo hi v P lv) (h1:zR<=lo) (h2:hi<=hi'):wG w zR hi' v P lv:=⟨h.row,h.jy.mono h1 h2,fun q hq=>(h.q q hq).mono h1 h2,h.sep⟩
theorem wG.snoc {w w':World} {lo hi:Nat} {v v':Value} {P:List (List Nat)} {lv:Nat->Value} (h:wG w lo hi v P lv) {l:List Nat} {ev:Value} (he:fL w' lo w'.heap.size ev (fA l)) (hle:hi<=w.heap.size)
 {S:List Nat} (f:da S w w') (hS:se w lo hi zS S) (hr:Row w' 24 1 v' (P.length+1) (gU (P.length*1) lv fun _=>ev)) (hv:mN lo w'.heap.size v') (hn:∀b,ev.ownBlock=some b->hi<=b):
 wG w' lo w'.heap.size v' (P++[l]) (fun q=>if q < P.length then lv q else ev):=by
 have hlen:(P++[l]).length=P.length+1:=by simp
 refine ⟨?_,hv,fun q hq=>?_,fun q q' hq Sh bz=>?_⟩
 ·rw [hlen];refine hr.congr fun o ho=>?_;unfold gU;dsimp only;by_cases h1:o < P.length
  ·rw [afE omm,afE h1]
  ·rw [abH omm,abH h1]
 ·rw [hlen] at hq;by_cases h1:q < P.length
  ·rw [afE h1,(k6 P l [] q).1 h1];exact ((h.q q h1).off f hS).mono (afF _) (afM hle f.size)
  ·rw [abH h1,(k6 P l [] q).2 omm];exact he
 ·rw [hlen] at hq Sh;by_cases h1:q < P.length
  ·by_cases h2:q' < P.length
   ·rw [afE h1,afE h2];exact h.sep q q' h1 h2 bz
   ·exact agU
  ·by_cases h2:q' < P.length
   ·exact agV
   ·omega
structure PL where
 lists:List (List Nat)
 free:List Nat
 keys:List Nat
 nodes:List Int
 deriving DecidableEq
structure lI (w:World) (lo h1 h2 hi:Nat) (a b c d:Value) (L:PL) (lv:Nat->Value):Prop where
 ls:wG w lo h1 a L.lists lv
 fr:fL w h1 h2 b (fA L.free)
 ks:kB w h2 hi c L.keys
 ns:fL w h2 hi d L.nodes
 le:lo<=h1/\h1<=h2/\h2<=hi
abbrev dz:Value:=ν
structure K0 (w:World) (xb:Nat) (W:World) (nd:Nat) (held:Nat->Bool) (cs:Array Value) (Ds:List Nat):Prop where
 zm:Below w.heap.size w W
 low:xb+1<=W.heap.size
 jK:w.heap.size+2 < xb
 b2:ay W w.heap.size 52 #[dz,dz,dz,dz]
 b3:ay W (w.heap.size+1) 52 cs
 hr:Row W 4 1 (.slice (some (π (w.heap.size+2) 0)) nd nd) nd (fun n=> .bool (held n))
 hx:ay W (xb) 22 #[.slice (some (π (w.heap.size+2) 0)) nd nd]
 CM:Mk.Marks W Ds
 ml:∀D,D∈Ds->xb+1<=D
structure K3 (w:World) (xb:Nat) (W:World) (h1 h2 nd:Nat) (held:Nat->Bool) (a b c d:Value) (P:List (List Nat)) (fr ks:List Nat) (ns:List Int) (Ds:List Nat) (lv:Nat->Value):Prop where
 k:K0 w xb W nd held #[a,b,c,d] Ds
 lay:lI W (xb+1) h1 h2 W.heap.size a b c d ⟨P,fr,ks,ns⟩ lv
section
variable {w W W':World} {xb h1 h2 nd:Nat} {held:Nat->Bool} {a b c d:Value} {P:List (List Nat)} {fr ks:List Nat} {ns:List Int} {Ds:List Nat} {lv:Nat->Value} {cs:Array Value}
theorem lI.off {w w':World} {lo hi:Nat} {L:PL} {T:List Nat} (h:lI w lo h1 h2 hi a b c d L lv) (f:da T w w') (k:se w lo hi (46::Ol) T):lI w' lo h1 h2 hi a b c d L lv:=by
 obtain ⟨l1,l2,l3⟩:=h.le;have key:∀x y Es,lo<=x->y<=hi->(∀e,e∈Es->e∈46::Ol)->se w x y Es T:=fun x y Es hx hy hE b hb=>by
  rcases k b hb with h'|⟨E,cs,e1,e2⟩|h'
  ·exact .inl omm
  ·exact .inr (.inl ⟨E,cs,e1,fun hc=>e2 (hE _ hc)⟩)
  ·exact .inr (.inr h')
 exact ⟨h.ls.off f (key _ _ _ (afF _) omm (by simp [Ol])),h.fr.off f (key _ _ _ l1 l3 (by simp [Ol,zS])),h.ks.off f (key _ _ _ omm (afF _) smm),h.ns.off f (key _ _ _ omm (afF _) (by simp [Ol,zS])),h.le⟩
theorem lI.mono {w:World} {lo hi hi':Nat} {L:PL} (h:lI w lo h1 h2 hi a b c d L lv) (hh:hi<=hi'):lI w lo h1 h2 hi' a b c d L lv:=
 ⟨h.ls,h.fr,h.ks.mono (afF _) hh,h.ns.mono (afF _) hh,h.le.1,h.le.2.1,afM h.le.2.2 hh⟩
theorem K0.aB (h:K0 w xb W nd held cs Ds) {T:List Nat} (f:da T W W') (hT:∀x,x∈T->xb+1<=x) (hD:∀D,D∈Ds->D∉T):K0 w xb W' nd held cs Ds:=by
 have jK:=h.jK;have nn:∀k,k < xb+1->k∉T:=fun k hk hc=>by have:=hT k hc;omega
 exact ⟨h.zm.trans (f.below h.zm.size (fun k hk=>by have:=hT k hk;omega)),afM h.low f.size,h.jK,h.b2.aB f (nn _ omm),h.b3.aB f (nn _ omm),h.hr.aB f (fun x hx=>by simp [Value.ownBlock] at hx;subst hx;exact nn _ omm),h.hx.aB f (nn _ omm),
  h.CM.keeps (fun k hk=>f.block k (h.CM.lt hk) (hD k hk)),h.ml⟩
theorem K0.hold (h:K0 w xb W nd held cs Ds) {x:Nat} (hx:x < nd):K0 w xb (W.setCell (π (w.heap.size+2) x) (.bool true)) nd (fun n=>held n||n==x) cs Ds:=by
 have jK:=h.jK;have f:da [w.heap.size+2] W (W.setCell (π (w.heap.size+2) x) (.bool true)):=(da.refl _ W).setCell smm _;refine ⟨h.zm.setCell (by show w.heap.size<=w.heap.size+2;omega) _,afM h.low f.size,h.jK,h.b2.aB f smm,h.b3.aB f smm,?_,h.hx.aB f sso,h.CM.keeps (fun k hk=>f.block k (h.CM.lt hk) (by simp;have:=h.ml k hk;omega)),h.ml⟩;refine (h.hr.set (o:=x) omm (.bool true)).congr fun o ho=>?_;by_cases e:o=x
 ·rw [afE e];simp [e]
 ·rw [abH e];simp [e]
theorem K0.set (h:K0 w xb W nd held cs Ds) (o:Nat) (v:Value):K0 w xb (W.setCell (π (w.heap.size+1) o) v) nd held (cs.setIfInBounds o v) Ds:=by have jK:=h.jK;have f:da [w.heap.size+1] W (W.setCell (π (w.heap.size+1) o) v):=(da.refl _ W).setCell smm _;exact ⟨h.zm.setCell (by show w.heap.size<=w.heap.size+1;omega) _,afM h.low f.size,h.jK,h.b2.aB f smm,h.b3.set o v,h.hr.aB f (fun x hx=>by simp [Value.ownBlock] at hx;subst hx;simp),h.hx.aB f sso,h.CM.keeps (fun k hk=>f.block k (h.CM.lt hk) (by simp;have:=h.ml k hk;omega)),h.ml⟩
theorem K0.mark (h:K0 w xb W nd held cs Ds) {D:Nat} (hD:W.heap[D]? =some (.deferred (some []))) (hn:D∉Ds) (hl:xb+1<=D):K0 w xb W nd held cs (D::Ds):=by
 have jK:=h.jK;exact
 ⟨h.zm,h.low,h.jK,h.b2,h.b3,h.hr,h.hx,h.CM.cons hD hn,fun k hk=>by rcases List.mem_cons.1 hk with rfl|hk;exact hl;exact h.ml k hk⟩
theorem K0.M6 (h:K0 w xb W nd held cs Ds) {R7:Nat->Bool} (e:∀n,n < nd->held n=R7 n):K0 w xb W nd R7 cs Ds:=by
 have jK:=h.jK;exact
 ⟨h.zm,h.low,h.jK,h.b2,h.b3,h.hr.congr (fun o ho=>by rw [e o omm]),h.hx,h.CM,h.ml⟩
theorem K3.aB (h:K3 w xb W h1 h2 nd held a b c d P fr ks ns Ds lv) {T:List Nat} (f:da T W W') (hT:∀x,x∈T->xb+1<=x/\(W.heap.size<=x\/(∃o:Obj,W.heap[x]? =some o/\o.isCells=false)\/∃E cs,ay W x E cs/\E∉46::Ol)) (hD:∀D,D∈Ds->D∉T):K3 w xb W' h1 h2 nd held a b c d P fr ks ns Ds lv:=by
 have jK:=h.k.jK;have oo:se W (xb+1) W.heap.size (46::Ol) T:=fun x hx=>by
  rcases (hT x hx).2 with h'|h'|h'
  ·exact .inl (.inr h')
  ·exact .inr (.inr h')
  ·exact .inr (.inl h')
 exact ⟨h.k.aB f (fun x hx=>(hT x hx).1) hD,(h.lay.off f oo).mono f.size⟩
theorem K3.later (h:K3 w xb W h1 h2 nd held a b c d P fr ks ns Ds lv) (bl:Below W.heap.size W W'):K3 w xb W' h1 h2 nd held a b c d P fr ks ns Ds lv:=h.aB (da.ah (S:=[]) bl) smm smm
theorem K3.grown (h:K3 w xb W h1 h2 nd held a b c d P fr ks ns Ds lv) {B:Nat} (hB:xb+1<=B) (M7:∀D,D∈Ds->D < B) {row:Option Nat} (hg:W.grownBy W' row) (hr:∀r,row=some r->B<=r/\∃o:Obj,W.heap[r]? =some o/\o.isCells=false):K3 w xb W' h1 h2 nd held a b c d P fr ks ns Ds lv:=by have jK:=h.k.jK;have hm:∀x,x∈row.toList->B<=x/\∃o:Obj,W.heap[x]? =some o/\o.isCells=false:=fun x hx=>hr x (by simpa using hx);exact h.aB (eJ hg) (fun x hx=>⟨by have:=(hm x hx).1;omega,.inr (.inl (hm x hx).2)⟩) (fun D hD hc=>by have:=(hm D hc).1;have:=M7 D hD;omega)
theorem K3.hold (h:K3 w xb W h1 h2 nd held a b c d P fr ks ns Ds lv) {x:Nat} (hx:x < nd):K3 w xb (W.setCell (π (w.heap.size+2) x) (.bool true)) h1 h2 nd (fun n=>held n||n==x) a b c d P fr ks ns Ds lv:=by have jK:=h.k.jK;have f:da [w.heap.size+2] W (W.setCell (π (w.heap.size+2) x) (.bool true)):=(da.refl _ W).setCell smm _;exact ⟨h.k.hold hx,(h.lay.off f (fun y hy=>by simp at hy;subst hy;exact .inl (.inl omm))).mono f.size⟩
theorem K3.of (h:K0 w xb W nd held #[a,b,c,d] Ds) (o:Nat) (v:Value) {a' b' c' d':Value} (e:(#[a,b,c,d]:Array Value).setIfInBounds o v=#[a',b',c',d']) {h1' h2':Nat} {P':List (List Nat)} {fr' ks':List Nat} {ns':List Int} {lv':Nat->Value} (hl:lI W (xb+1) h1' h2' W.heap.size a' b' c' d' ⟨P',fr',ks',ns'⟩ lv'):
 K3 w xb (W.setCell (π (w.heap.size+1) o) v) h1' h2' nd held a' b' c' d' P' fr' ks' ns' Ds lv':=by
 have jK:=h.jK;have f:da [w.heap.size+1] W (W.setCell (π (w.heap.size+1) o) v):=(da.refl _ W).setCell smm _;exact ⟨by rw [<-e];exact h.set o v,(hl.off f (fun y hy=>by simp at hy;subst hy;exact .inl (.inl omm))).mono f.size⟩
structure I1 (w:World) (xb:Nat) (W6 W:World) (lb h1 nd:Nat) (held:Nat->Bool) (a:Value) (P:List (List Nat)) (Ds:List Nat) (lv:Nat->Value) (pre:List Nat) (nv:Value):Prop where
 k:K3 w xb W h1 h1 nd held a dz dz dz P [] [] [] Ds lv
 bx:ay W lb 24 #[nv]
 ns:fL W W6.heap.size W.heap.size nv (fA pre)
 sz:xb+1<=lb/\h1<=lb/\lb < W6.heap.size/\W6.heap.size<=W.heap.size
section
variable {W6:World} {lb:Nat} {pre:List Nat} {nv:Value}
theorem I1.grown (h:I1 w xb W6 W lb h1 nd held a P Ds lv pre nv) (M7:∀D,D∈Ds->D < W6.heap.size) {row:Option Nat} (hg:W.grownBy W' row) (hr:∀r,row=some r->W6.heap.size<=r/\∃o:Obj,W.heap[r]? =some o/\o.isCells=false):I1 w xb W6 W' lb h1 nd held a P Ds lv pre nv:=by have jK:=h.k.k.jK;obtain ⟨z1,z2,z3,z4⟩:=h.sz;have f:=eJ hg;have hm:∀b,b∈row.toList->W6.heap.size<=b/\∃o:Obj,W.heap[b]? =some o/\o.isCells=false:=fun b hb=>hr b (by simpa using hb);exact ⟨h.k.grown (B:=W6.heap.size) omm M7 hg hr,h.bx.of (Mk.KL.grown h.bx.Hm hg fun r e=>(hr r e).2),(h.ns.off f (fun b hb=> .inr (.inr (hm b hb).2))).mono (afF _) hg.size,z1,z2,z3,afM z4 hg.size⟩
theorem I1.next (h:I1 w xb W6 W lb h1 nd held a P Ds lv pre nv) {w1 w3:World} (b1:Below W.heap.size W w1) (f3:da nv.ownBlock.toList w1 w3) {v':Value} {x:Nat} (hx:x < nd) (r3:Row w3 3 1 v' (pre.length+1) (gU (pre.length*1) (aU (fA pre)) fun _=> ι x)) (i3:v'.ownBlock=nv.ownBlock\/v'.ownBlock=some w1.heap.size):
 I1 w xb W6 ((w3.setCell (π lb 0) v').setCell (π (w.heap.size+2) x) (.bool true)) lb h1 nd (fun n=>held n||n==x) a P Ds lv (pre++[x]) v'/\
  da (lb::(w.heap.size+2)::nv.ownBlock.toList) W ((w3.setCell (π lb 0) v').setCell (π (w.heap.size+2) x) (.bool true))/\(∀k,k∈lb::(w.heap.size+2)::nv.ownBlock.toList->Mk.KL W k)/\
  ((∀o,w3.frozen? (π lb o)=false)/\w3.cell? (π lb 0)=some nv/\w3.cell? (π xb 0)=some (.slice (some (π (w.heap.size+2) 0)) nd nd)/\(∀o,w3.frozen? (π (w.heap.size+2) o)=false)/\w3.cell? (π (w.heap.size+2) x)=some (.bool (held x))):=by
 have jK:=h.k.k.jK;obtain ⟨z1,z2,z3,z4⟩:=h.sz;have hn:∀b,b∈nv.ownBlock.toList->nv.ownBlock=some b:=fun b hb=>by simpa using hb
 have F1:da [] W w1:=da.ah b1;have F3:da nv.ownBlock.toList W w3:=(F1.mono smm).trans f3;have Zl:∀b,v'.ownBlock=some b->b < w3.heap.size:=fun b hb=>(af3 r3 b hb).2;have xh:mN W6.heap.size w3.heap.size v':=fun b hb=>⟨by
  rcases i3 with h'|h'
  ·exact (h.ns.jy b (by rw [<-h',hb])).1
  ·rw [hb] at h';simp at h';have:=F1.size;omega,Zl b hb⟩
 have ns3:fL w3 W6.heap.size w3.heap.size v' (fA (pre++[x])):=by rw [yH];exact fL.snoc h.ns (by rw [mF];exact r3) xh
 have nD:∀b,b∈nv.ownBlock.toList->b∉Ds:=fun b hb=>h.k.k.CM.not (Row.Hm h.ns.row (hn b hb));have k3:K3 w xb w3 h1 h1 nd held a dz dz dz P [] [] [] Ds lv:=by obtain ⟨l1,l2,l3⟩:=h.k.lay.le;refine ⟨h.k.k.aB F3 (fun b hb=>by have:=h.ns.jy b (hn b hb);omega) (fun D hD hc=>nD D hc hD),?_⟩;exact ⟨h.k.lay.ls.off F3 (fun b hb=> .inl (.inr (by have:=h.ns.jy b (hn b hb);omega))),⟨Row.nil _ _ _ _,mN.nil _ _⟩,⟨Row.nil _ _ _ _,mN.nil _ _⟩,⟨Row.nil _ _ _ _,mN.nil _ _⟩,l1,l2,by have:=F3.size;omega⟩
 have Zm:ay w3 lb 24 #[nv]:=h.bx.aB F3 (fun hc=>by have:=h.ns.jy lb (hn lb hc);omega);have F4:da [lb] w3 (w3.setCell (π lb 0) v'):=(da.refl _ w3).setCell smm _;have k4:K3 w xb (w3.setCell (π lb 0) v') h1 h1 nd held a dz dz dz P [] [] [] Ds lv:=by obtain ⟨l1,l2,l3⟩:=k3.lay.le;refine ⟨k3.k.aB F4 sso (fun D hD hc=>by simp at hc;subst hc;exact k3.k.CM.not Zm.Hm hD),?_⟩;exact ⟨k3.lay.ls.off F4 (fun b hb=>by simp at hb;subst hb;exact .inl (.inr z2)),⟨Row.nil _ _ _ _,mN.nil _ _⟩,⟨Row.nil _ _ _ _,mN.nil _ _⟩,⟨Row.nil _ _ _ _,mN.nil _ _⟩,l1,l2,by have:=F4.size;omega⟩
 have F5:da [w.heap.size+2] (w3.setCell (π lb 0) v') ((w3.setCell (π lb 0) v').setCell (π (w.heap.size+2) x) (.bool true)):=(da.refl _ _).setCell smm _;refine ⟨⟨k4.hold hx,(Zm.set 0 v').aB F5 sso,?_,z1,z2,z3,by have:=F3.size;have:=F4.size;have:=F5.size;omega⟩,?_,fun k hk=>?_,Zm.frozen,Zm.cell 0,k3.k.hx.cell 0,k3.k.hr.frozen,k3.k.hr.cell (o:=x) omm⟩
 ·refine ((ns3.off F4 (fun b hb=>by simp at hb;subst hb;exact .inr (.inl ⟨_,_,Zm,by simp [zS]⟩))).off F5 (fun b hb=>by simp at hb;subst hb;exact .inl (.inl omm))).mono (afF _) (afM F4.size F5.size)
 ·exact ((F3.mono (by intro k hk;simp [hk])).trans (F4.mono (by intro k hk;simp at hk;simp [hk]))).trans (F5.mono (by intro k hk;simp at hk;simp [hk]))
 ·rcases List.mem_cons.1 hk with rfl|hk
  ·exact h.bx.Hm
  rcases List.mem_cons.1 hk with rfl|hk
  ·exact Row.Hm h.k.k.hr rfl
  ·exact Row.Hm h.ns.row (hn k hk)
theorem I1.list (h:I1 w xb W6 W lb h1 nd held a P Ds lv pre nv) {w1 w3:World} (b1:Below W.heap.size W w1) (f3:da a.ownBlock.toList w1 w3) {v':Value} (r3:Row w3 24 1 v' (P.length+1) (gU (P.length*1) lv fun _=>nv)) (i3:v'.ownBlock=a.ownBlock\/v'.ownBlock=some w1.heap.size) {D:Nat} (hD:W.heap[D]? =some (.deferred (some []))) (hD6:W6.heap.size<=D) (M7:∀D,D∈Ds->D < W6.heap.size):
 (∀o,w3.frozen? (π (w.heap.size+1) o)=false)/\w3.cell? (π (w.heap.size+1) 0)=some a/\w.heap.size+1 < w3.heap.size/\∃lv',K3 w xb (w3.setCell (π (w.heap.size+1) 0) v') w3.heap.size w3.heap.size nd held v' dz dz dz (P++[pre]) [] [] [] (D::Ds) lv':=by
 have jK:=h.k.k.jK;obtain ⟨z1,z2,z3,z4⟩:=h.sz;obtain ⟨l1,l2,l3⟩:=h.k.lay.le;have ha:∀b,b∈a.ownBlock.toList->a.ownBlock=some b:=fun b hb=>by simpa using hb
 have F1:da [] W w1:=da.ah b1;have F3:da a.ownBlock.toList W w3:=(F1.mono smm).trans f3;have ls1:=h.k.lay.ls.off F1 (se.nil _ _ _ _);have ns1:=h.ns.off F1 (se.nil _ _ _ _);have ty:∀lo hi,se w1 lo hi zS a.ownBlock.toList:=fun lo hi b hb=>by obtain ⟨cs,qt⟩:=ls1.row.typ (ha b hb);exact .inr (.inl ⟨_,cs,qt,by simp [zS]⟩)
 have ns3:=ns1.off f3 (ty _ _);have Zl:∀b,v'.ownBlock=some b->b < w3.heap.size:=fun b hb=>(af3 r3 b hb).2;have Zn:=h.k.k.low;have xh:mN (xb+1) w3.heap.size v':=fun b hb=>⟨by
  rcases i3 with h'|h'
  ·exact (ls1.jy b (by rw [<-h',hb])).1
  ·rw [hb] at h';simp at h';have:=F1.size;omega,Zl b hb⟩
 have l3':=wG.snoc (w:=w1) (w':=w3) ls1 (ns3.mono omm F3.size) (by have:=F1.size;omega) f3 (ty _ _) r3 xh (fun b hb=>by have:=h.ns.jy b hb;omega);have aD:∀b,b∈a.ownBlock.toList->b∉Ds:=fun b hb=>h.k.k.CM.not (Row.Hm h.k.lay.ls.row (ha b hb));have k3:K0 w xb w3 nd held #[a,dz,dz,dz] Ds:=h.k.k.aB F3 (fun b hb=>(h.k.lay.ls.jy b (ha b hb)).1) (fun D hD hc=>aD D hc hD);have hDn:D∉Ds:=fun hc=>by have:=M7 D hc;omega
 have hDa:D∉a.ownBlock.toList:=fun hc=>by have:=h.k.lay.ls.jy D (ha D hc);omega
 have hD3:w3.heap[D]? =some (.deferred (some [])):=(F3.block D (Array.getElem?_eq_some_iff.1 hD).1 hDa).trans hD;refine ⟨k3.b3.frozen,k3.b3.cell 0,k3.b3.lt,_,K3.of (k3.mark hD3 hDn omm) 0 v' rfl ⟨l3',⟨Row.nil _ _ _ _,mN.nil _ _⟩,⟨Row.nil _ _ _ _,mN.nil _ _⟩,⟨Row.nil _ _ _ _,mN.nil _ _⟩,by have:=k3.low;omega,afF _,afF _⟩⟩
end
theorem K3.free (h:K3 w xb W h1 h2 nd held a b dz dz P fr [] [] Ds lv) {w1 w3:World} (b1:Below W.heap.size W w1) (f3:da b.ownBlock.toList w1 w3) {v':Value} {x:Nat} (r3:Row w3 3 1 v' (fr.length+1) (gU (fr.length*1) (aU (fA fr)) fun _=> ι x)) (i3:v'.ownBlock=b.ownBlock\/v'.ownBlock=some w1.heap.size):
 (∀o,w3.frozen? (π (w.heap.size+1) o)=false)/\w3.cell? (π (w.heap.size+1) 1)=some b/\w.heap.size+1 < w3.heap.size/\K3 w xb (w3.setCell (π (w.heap.size+1) 1) v') h1 w3.heap.size nd held a v' dz dz P (fr++[x]) [] [] Ds lv:=by
 have jK:=h.k.jK;obtain ⟨l1,l2,l3⟩:=h.lay.le;have hb:∀k,k∈b.ownBlock.toList->b.ownBlock=some k:=fun k hk=>by simpa using hk
 have F1:da [] W w1:=da.ah b1;have F3:da b.ownBlock.toList W w3:=(F1.mono smm).trans f3;have Zl:∀k,v'.ownBlock=some k->k < w3.heap.size:=fun k hk=>(af3 r3 k hk).2;have xh:mN h1 w3.heap.size v':=fun k hk=>⟨by
  rcases i3 with h'|h'
  ·exact (h.lay.fr.jy k (by rw [<-h',hk])).1
  ·rw [hk] at h';simp at h';have:=F1.size;omega,Zl k hk⟩
 have fr3:fL w3 h1 w3.heap.size v' (fA (fr++[x])):=by rw [yH];exact fL.snoc h.lay.fr (by rw [mF];exact r3) xh
 have bD:∀k,k∈b.ownBlock.toList->k∉Ds:=fun k hk=>h.k.CM.not (Row.Hm h.lay.fr.row (hb k hk));have k3:K0 w xb w3 nd held #[a,b,dz,dz] Ds:=h.k.aB F3 (fun k hk=>by have:=h.lay.fr.jy k (hb k hk);omega) (fun D hD hc=>bD D hc hD);have ls3:=h.lay.ls.off F3 (fun k hk=> .inl (.inr (by have:=h.lay.fr.jy k (hb k hk);omega)));refine ⟨k3.b3.frozen,k3.b3.cell 1,k3.b3.lt,K3.of k3 1 v' rfl ⟨ls3,fr3,⟨Row.nil _ _ _ _,mN.nil _ _⟩,⟨Row.nil _ _ _ _,mN.nil _ _⟩,l1,by have:=F3.size;omega,afF _⟩⟩
theorem K3.Zo (h:K3 w xb W h1 h2 nd held a b c d P fr ks ns Ds lv) {w1 wy:World} (F1:da c.ownBlock.toList W w1) (b2:Below w1.heap.size w1 wy):Row wy 3 1 d ns.length (aU ns):=by
 refine (h.lay.ns.row.aB F1 fun k hk hc=>?_).aB (da.ah (S:=[]) b2) smm;rcases Row.ne h.lay.ns.row h.lay.ks.row dee with h'|h'
 ·rw [hk] at h';cases h'
 ·have Ss:c.ownBlock=some k:=by simpa using hc
  exact h' (by rw [hk,Ss])
theorem K3.pair (h:K3 w xb W h1 h2 nd held a b c d P fr ks ns Ds lv) {w1 wy w2:World} {v1 v2:Value} {key:Nat} {n:Int} (F1:da c.ownBlock.toList W w1) (r1:Row w1 46 1 v1 (ks.length+1) (gU (ks.length*1) (nK ks) fun _=> .int .u64 key)) (i1:∀k,v1.ownBlock=some k->c.ownBlock=some k\/W.heap.size<=k)
 (b2:Below w1.heap.size w1 wy) (f2:da d.ownBlock.toList wy w2) (r2:Row w2 3 1 v2 (ns.length+1) (gU (ns.length*1) (aU ns) fun _=> ι n)) (i2:v2.ownBlock=d.ownBlock\/v2.ownBlock=some wy.heap.size):
 (∀o,w2.frozen? (π (w.heap.size+1) o)=false)/\w2.cell? (π (w.heap.size+1) 2)=some c/\w2.cell? (π (w.heap.size+1) 3)=some d/\w.heap.size+1 < w2.heap.size/\
   K3 w xb ((w2.setCell (π (w.heap.size+1) 2) v1).setCell (π (w.heap.size+1) 3) v2) h1 h2 nd held a b v1 v2 P fr (ks++[key]) (ns++[n]) Ds lv/\
   da ((w.heap.size+1)::(c.ownBlock.toList++d.ownBlock.toList)) W ((w2.setCell (π (w.heap.size+1) 2) v1).setCell (π (w.heap.size+1) 3) v2)/\∀k,k∈(w.heap.size+1)::(c.ownBlock.toList++d.ownBlock.toList)->Mk.KL W k:=by
 have jK:=h.k.jK;obtain ⟨l1,l2,l3⟩:=h.lay.le;have hc:∀k,k∈c.ownBlock.toList->c.ownBlock=some k:=fun k hk=>by simpa using hk
 have hd:∀k,k∈d.ownBlock.toList->d.ownBlock=some k:=fun k hk=>by simpa using hk
 have F2:da (c.ownBlock.toList++d.ownBlock.toList) W w2:=((F1.trans (da.ah (S:=c.ownBlock.toList) b2)).mono (by intro k hk;simp at hk;simp [hk])).trans (f2.mono (by intro k hk;simp at hk;simp [hk]));have dK:∀k,k∈c.ownBlock.toList++d.ownBlock.toList->h2<=k/\Mk.KL W k:=fun k hk=>by
  rcases List.mem_append.1 hk with hk|hk
  ·exact ⟨(h.lay.ks.jy k (hc k hk)).1,Row.Hm h.lay.ks.row (hc k hk)⟩
  ·exact ⟨(h.lay.ns.jy k (hd k hk)).1,Row.Hm h.lay.ns.row (hd k hk)⟩
 have lt1:∀k,v1.ownBlock=some k->k < w1.heap.size:=fun k hk=>(af3 r1 k hk).2;have lt2:∀k,v2.ownBlock=some k->k < w2.heap.size:=fun k hk=>(af3 r2 k hk).2;have zz:w1.heap.size<=wy.heap.size:=b2.size;have s22:wy.heap.size<=w2.heap.size:=f2.size;have s01:W.heap.size<=w1.heap.size:=F1.size;have r1y:=r1.aB (da.ah (S:=[]) b2) smm;have rNy:=h.Zo F1 b2;have r12:Row w2 46 1 v1 (ks.length+1) (gU (ks.length*1) (nK ks) fun _=> .int .u64 key):=r1y.aB f2 (fun k hk Ss=>by
  rcases Row.ne r1y rNy dee with h'|h'
  ·rw [hk] at h';cases h'
  ·exact h' (by rw [hk,hd k Ss]))
 have k2:kB w2 h2 w2.heap.size v1 (ks++[key]):=kB.snoc h.lay.ks r12 (fun k hk=>⟨by
  rcases i1 k hk with h'|h'
  ·exact (h.lay.ks.jy k h').1
  ·omega,by have:=lt1 k hk;omega⟩)
 have n2:fL w2 h2 w2.heap.size v2 (ns++[n]):=fL.snoc h.lay.ns r2 (fun k hk=>⟨by
  rcases i2 with h'|h'
  ·exact (h.lay.ns.jy k (by rw [<-h',hk])).1
  ·rw [hk] at h';simp at h';omega,lt2 k hk⟩)
 have ls2:=h.lay.ls.off F2 (fun k hk=> .inl (.inr (by have:=(dK k hk).1;omega)));have fr2:=h.lay.fr.off F2 (fun k hk=> .inl (.inr (dK k hk).1));have GM:K0 w xb w2 nd held #[a,b,c,d] Ds:=h.k.aB F2 (fun k hk=>by have:=(dK k hk).1;omega) (fun D hD hk=>h.k.CM.not (dK D hk).2 hD);have e1:=K3.of GM 2 v1 (a':=a) (b':=b) (c':=v1) (d':=d) rfl (lv':=lv) (h1':=h1) (h2':=h2) (P':=P) (fr':=fr) (ks':=ks++[key]) (ns':=[]);have F4:da [w.heap.size+1] w2 (w2.setCell (π (w.heap.size+1) 2) v1):=(da.refl _ w2).setCell smm _;have F5:da [w.heap.size+1] (w2.setCell (π (w.heap.size+1) 2) v1) ((w2.setCell (π (w.heap.size+1) 2) v1).setCell (π (w.heap.size+1) 3) v2):=(da.refl _ _).setCell smm _;have kk4:=(GM.set 2 v1).set 3 v2;clear e1;have oo:∀(wz:World) lo hi Es,xb+1<=lo->se wz lo hi Es [w.heap.size+1]:=fun wz lo hi Es hl k hk=>by simp at hk;subst hk;exact .inl (.inl omm)
 have aaR:lI w2 (xb+1) h1 h2 w2.heap.size a b v1 v2 ⟨P,fr,ks++[key],ns++[n]⟩ lv:=⟨ls2,fr2,k2,n2,l1,l2,omm⟩;refine ⟨GM.b3.frozen,GM.b3.cell 2,GM.b3.cell 3,GM.b3.lt,⟨kk4,((aaR.off F4 (oo _ _ _ _ (afF _))).off F5 (oo _ _ _ _ (afF _))).mono (afM F4.size F5.size)⟩,?_,fun k hk=>?_⟩
 ·exact ((F2.mono (by intro k hk;simp at hk ⊢;exact .inr hk)).trans (F4.mono (by intro k hk;simp at hk;simp [hk]))).trans (F5.mono (by intro k hk;simp at hk;simp [hk]))
 ·rcases List.mem_cons.1 hk with rfl|hk
  ·exact h.k.b3.Hm
  ·exact (dK k hk).2
end
end Go.Proofs.YtblkblclmbhjiaaGreat.Ma
namespace Go.Proofs.YtblkblclmbhjiaaGreat.Ma
open Go.RowKit ak.Vm Go.Shelf
open ak hiding aL an aj
open dT (bP bG d_ DS uY Qs rowsOf)
open Ix (cL mE)
open gP (w_ dJ ZE)
attribute [local go_sem] Oper.semAt_some
def jW (s:St) (q n:Nat):Bool:=(List.range q).any fun i=>(s.a.ls i).contains n
theorem E7 (s:St) (q n:Nat):jW s (q+1) n=(jW s q n||(s.a.ls q).contains n):=by unfold jW;rw [List.range_succ];simp
theorem wH {M:Nat}:∀(k:Nat) (f:Nat->Nat),(∀i,i < k->f i<=M)->cF k f<=k*M
 |0,_,_=>by simp [cF]
 |k+1,f,h=>by have h1:=wH k f (fun i hi=>h i omm);have h2:=h k omm;rw [cF,Nat.succ_mul];omega
theorem I3 (l:List Nat) (x n:Nat):(l++[x]).contains n=(l.contains n||n==x):=by rw [af7];simp
theorem lI.lower {w:World} {lo zR h1 h2 hi:Nat} {a b c d:Value} {L:PL} {lv:Nat->Value} (h:lI w lo h1 h2 hi a b c d L lv) (hh:zR<=lo):lI w zR h1 h2 hi a b c d L lv:=
 ⟨h.ls.mono hh (afF _),h.fr,h.ks,h.ns,afM hh h.le.1,h.le.2⟩
def kI (p:aO) (s:St) (nd k:Nat):List Nat:=(List.range k).filter fun n=> !(jW s p.ap.length n)
def ci (p:aO) (s:St) (nd:Nat) (L:List (Nat×Nat)):PL:=⟨(List.range p.ap.length).map s.a.ls,kI p s nd nd,L.map (·.1),fA (L.map (·.2))⟩
def rW (w:World) (p:aO) (s:St) (nd:Nat) (e:Ending) (w':World):Prop:=
 ∃L a b c d h1 h2 lv,mE s.f L/\e= .returned (.agg #[a,b,c,d])/\Below w.heap.size w w'/\lI w' w.heap.size h1 h2 w'.heap.size a b c d (ci p s nd L) lv
theorem I4:(prog.info? 24).map (fun i=>(i.zero,i.size,i.bytes))=some (some ν,1,24):=by kernel_rfl
theorem sW:(prog.info? 46).map (fun i=>(i.zero,i.size,i.bytes))=some (some (.int .u64 0),1,8):=by kernel_rfl
def FrL (w:World) (xb mb nq q:Nat) (Ds:List Nat) (a:Act):Prop:=∃J:Nat->Value,a={tmps:=#[ρ mb,J 1,ρ w.heap.size,ρ (w.heap.size+1),ρ xb,J 5,J 6,J 7,J 8,J 9,J 10,J 11,J 12,J 13,J 14,J 15,J 16,J 17,J 18,J 19,J 20,J 21,ι nq,ι q,J 24,J 25,J 26,J 27,J 28,J 29,J 30,J 31,J 32,J 33,J 34,J 35,J 36,J 37,J 38,J 39,J 40,J 41,J 42,J 43,J 44,J 45,J 46,J 47,J 48,J 49,J 50,J 51,J 52,J 53,J 54,J 55,J 56,J 57,J 58,J 59,J 60,J 61,J 62,J 63,J 64,J 65,J 66,J 67,J 68,J 69,J 70,J 71,J 72,J 73,J 74,J 75,J 76,J 77,J 78,J 79,J 80,J 81,J 82,J 83],defers:=Mk.marksOf Ds}
def FrM (w:World) (xb lb x:Nat) (a:Act):Prop:=∃J:Nat->Value,a={tmps:=#[J 0,J 1,ρ w.heap.size,ρ (w.heap.size+1),ρ xb,J 5,ρ lb,ι x,J 8,J 9,J 10,J 11,J 12,J 13,J 14,J 15,J 16,J 17,J 18,J 19,J 20,J 21,J 22,J 23,J 24,J 25,J 26,J 27,J 28,J 29,J 30,J 31,J 32,J 33,J 34,J 35,J 36,J 37,J 38,J 39,J 40,J 41,J 42,J 43,J 44,J 45,J 46,J 47,J 48,J 49,J 50,J 51,J 52,J 53,J 54,J 55,J 56,J 57,J 58,J 59,J 60,J 61,J 62,J 63,J 64,J 65,J 66,J 67,J 68,J 69,J 70,J 71,J 72,J 73,J 74,J 75,J 76,J 77,J 78,J 79,J 80,J 81,J 82,J 83],defers:=[]}
def FrN (w:World) (xb mb nd k:Nat) (Ds:List Nat) (a:Act):Prop:=∃J:Nat->Value,a={tmps:=#[ρ mb,J 1,ρ w.heap.size,ρ (w.heap.size+1),ρ xb,J 5,J 6,J 7,J 8,J 9,J 10,J 11,J 12,J 13,J 14,J 15,J 16,J 17,J 18,J 19,J 20,J 21,J 22,J 23,J 24,J 25,J 26,J 27,J 28,J 29,J 30,J 31,J 32,J 33,J 34,J 35,J 36,J 37,J 38,J 39,J 40,J 41,J 42,J 43,J 44,J 45,J 46,J 47,.slice (some (π (w.heap.size+2) 0)) nd nd,ι nd,ι k,J 51,J 52,J 53,J 54,J 55,J 56,J 57,J 58,J 59,J 60,J 61,J 62,J 63,J 64,J 65,J 66,J 67,J 68,J 69,J 70,J 71,J 72,J 73,J 74,J 75,J 76,J 77,J 78,J 79,J 80,J 81,J 82,J 83],defers:=Mk.marksOf Ds}
def FrO (w:World) (x:Nat) (y:Int) (a:Act):Prop:=∃J:Nat->Value,a={tmps:=#[J 0,J 1,ρ w.heap.size,ρ (w.heap.size+1),J 4,J 5,J 6,J 7,J 8,J 9,.int .u64 x,ι y,J 12,J 13,J 14,J 15,J 16,J 17,J 18,J 19,J 20,J 21,J 22,J 23,J 24,J 25,J 26,J 27,J 28,J 29,J 30,J 31,J 32,J 33,J 34,J 35,J 36,J 37,J 38,J 39,J 40,J 41,J 42,J 43,J 44,J 45,J 46,J 47,J 48,J 49,J 50,J 51,J 52,J 53,J 54,J 55,J 56,J 57,J 58,J 59,J 60,J 61,J 62,J 63,J 64,J 65,J 66,J 67,J 68,J 69,J 70,J 71,J 72,J 73,J 74,J 75,J 76,J 77,J 78,J 79,J 80,J 81,J 82,J 83],defers:=[]}
def Du (w:World) (c d:Value) (wx:World):Prop:=wx.cell? (π (w.heap.size+1) 2)=some c/\wx.cell? (π (w.heap.size+1) 3)=some d
theorem Du.aB {w W W':World} {c d:Value} (h:Du w c d W) {T:List Nat} (f:da T W W') (h1:w.heap.size+1∉T):Du w c d W':=by obtain ⟨a1,a2⟩:=h;exact ⟨(afG (f.block _ (aS a1) h1)).trans a1,(afG (f.block _ (aS a2) h1)).trans a2⟩
theorem Du.alloc {w W:World} {c d:Value} (h:Du w c d W) (o:Obj):Du w c d (W.alloc o):=h.aB ((da.refl [] W).alloc o) smm
section
variable {w W W':World} {xb h1 h2 nd:Nat} {held:Nat->Bool} {a b c d:Value} {P:List (List Nat)} {fr ks:List Nat} {ns:List Int} {Ds:List Nat} {lv:Nat->Value}
theorem K3.up (h:K3 w xb W h1 h2 nd held a b dz dz P fr [] [] Ds lv):K3 w xb W h1 W.heap.size nd held a b dz dz P fr [] [] Ds lv:=
 ⟨h.k,⟨h.lay.ls,h.lay.fr.mono (afF _) h.lay.le.2.2,⟨Row.nil _ _ _ _,mN.nil _ _⟩,⟨Row.nil _ _ _ _,mN.nil _ _⟩,h.lay.le.1,afM h.lay.le.2.1 h.lay.le.2.2,afF _⟩⟩
theorem K3.lst (h:K3 w xb W h1 h2 nd held a b c d P fr ks ns Ds lv):Du w c d W:=⟨h.k.b3.cell 2,h.k.b3.cell 3⟩
structure Keyed (w:World) (xb:Nat) (W w1:World) (h1 h2 nd:Nat) (held:Nat->Bool) (a b c d v1:Value) (P:List (List Nat)) (fr ks:List Nat) (ns:List Int) (Ds:List Nat) (lv:Nat->Value) (key:Nat) (n:Int) (FB:List Nat) (B:Nat):Prop where
 at_:∀wy,Below w1.heap.size w1 wy->Du w c d wy/\Row wy 3 1 d ns.length (aU ns)
 fin:∀wy,Below w1.heap.size w1 wy->∀v2 w2,Row w2 3 1 v2 (ns.length+1) (gU (ns.length*1) (aU ns) fun _=> ι n)->da d.ownBlock.toList wy w2->(v2.ownBlock=d.ownBlock\/v2.ownBlock=some wy.heap.size)->
  Du w c d w2/\(∀o,w2.frozen? (π (w.heap.size+1) o)=false)/\w.heap.size+1 < w2.heap.size/\
   KeepsFrom B W ((w2.setCell (π (w.heap.size+1) 2) v1).setCell (π (w.heap.size+1) 3) v2)/\w_ FB W ((w2.setCell (π (w.heap.size+1) 2) v1).setCell (π (w.heap.size+1) 3) v2)/\
   K3 w xb ((w2.setCell (π (w.heap.size+1) 2) v1).setCell (π (w.heap.size+1) 3) v2) h1 h2 nd held a b v1 v2 P fr (ks++[key]) (ns++[n]) Ds lv
theorem K3.keyed (h:K3 w xb W h1 h2 nd held a b c d P fr ks ns Ds lv) {V w1:World} (b1:Below W.heap.size W V) {v1:Value} {key:Nat} (n:Int) (r1:Row w1 46 1 v1 (ks.length+1) (gU (ks.length*1) (nK ks) fun _=> .int .u64 key)) (f1:da c.ownBlock.toList V w1) (i1:v1.ownBlock=c.ownBlock\/v1.ownBlock=some V.heap.size)
 {FB:List Nat} (Zp:∀k,k∈FB->k < W.heap.size/\k < h2/\k≠w.heap.size+1) (B:Nat):Du w c d w1/\Keyed w xb W w1 h1 h2 nd held a b c d v1 P fr ks ns Ds lv key n FB B:=by
 have jK:=h.k.jK;obtain ⟨l1,l2,l3⟩:=h.lay.le;have F0:da c.ownBlock.toList W V:=da.ah b1;have F1:da c.ownBlock.toList W w1:=F0.trans f1;have nc:w.heap.size+1∉c.ownBlock.toList:=fun hc=>by have:=h.lay.ks.jy _ (by simpa using hc);omega
 have nd':w.heap.size+1∉d.ownBlock.toList:=fun hc=>by have:=h.lay.ns.jy _ (by simpa using hc);omega
 have s1:=h.lst.aB F1 nc;have sy:∀wy,Below w1.heap.size w1 wy->Du w c d wy:=fun wy b2=>s1.aB (da.ah (S:=[]) b2) smm;refine ⟨s1,fun wy b2=>⟨sy wy b2,h.Zo F1 b2⟩,fun wy b2 v2 w2 r2 f2 i2=>?_⟩;obtain ⟨p1,p2,p3,p4,p5,p6,p7⟩:=h.pair F1 r1 (fun k hk=>by
  rcases i1 with h'|h'
  ·exact .inl (by rw [<-h',hk])
  ·rw [hk] at h';simp at h';subst h';exact .inr F0.size) b2 f2 r2 i2
 refine ⟨⟨p2,p3⟩,p1,p4,yG p6 p7 B,fun k hk=>p6.block k (Zp k hk).1 (fun hc=>?_),p5⟩;obtain ⟨q1,q2,q3⟩:=Zp k hk;rcases List.mem_cons.1 hc with hc|hc
 ·exact q3 hc
 rcases List.mem_append.1 hc with hc|hc
 ·have:=h.lay.ks.jy k (by simpa using hc);omega
 ·have:=h.lay.ns.jy k (by simpa using hc);omega
def Zq (w:World) (xb mb nd:Nat) (p:aO) (s:St) (m:Nat) (a:Act) (W:World):Prop:=
 ∃(q:Nat) (Ds:List Nat) (av:Value) (lv:Nat->Value) (h1:Nat),q<=p.ap.length/\m+q=p.ap.length+1/\FrL w xb mb p.ap.length q Ds a/\Hid (K3 w xb W h1 h1 nd (jW s q) av dz dz dz ((List.range q).map s.a.ls) [] [] [] Ds lv)
def Zr (w:World) (xb mb nd:Nat) (p:aO) (s:St) (m:Nat) (a:Act) (W:World):Prop:=
 ∃(k:Nat) (Ds:List Nat) (av bv:Value) (lv:Nat->Value) (h1 h2:Nat),k<=nd/\m+k=nd+1/\FrN w xb mb nd k Ds a/\Hid (K3 w xb W h1 h2 nd (jW s p.ap.length) av bv dz dz ((List.range p.ap.length).map s.a.ls) (kI p s nd k) [] [] Ds lv)
end
section
variable {w w':World} {C C':Co} {RO RO':List Nat} {K:Kc} {p:aO} {c:Cp} {t t':fI} {used used':Int} {s s':St} {rv rv':Value}
theorem adX {p:Prop} (h:p:=by
 intro wz bR
 (try dsimp only at bR)
 exact qU):p:=h
theorem abQ {p:Prop} (h:p:=by
 intro v2 w2 r2 f2 i2;obtain ⟨P8,P_,Qa,rfl⟩:=Row.qT r2;obtain ⟨Ck,ff,EM,fq,jd,iO⟩:=Il.o.fin w1 (afL _ _) _ w2 r2 f2 i2;exact adW):p:=h
theorem adW {p:Prop} (h:p:=by
 obtain ⟨e2,e3⟩:=id Ck;have GL:=ae fq;have tB:=ae jd;have DK:=ae iO;clear r2 f2 i2 fq jd iO;clear al;refine hK.out _ _ ⟨trivial,Ck⟩ (fun al=>?_);clear hK K;refine Mk.pt ?_;refine Gd.ready (rs:=[11]) krr smm ?_;refine Gd.cU.last rfl krr (fun K hK=>?_) Gd.cU.nil;refine QX ?_;go_simp;refine hK.out _ _ trivial ?_;clear hK K;refine Mk.pt ?_;refine Gd.ready (rs:=[12]) krr smm ?_;refine Gd.cU.last rfl krr (fun K hK=>?_) Gd.cU.nil;refine QX ?_;go_simp;refine hK.out _ _ trivial ?_;clear hK K;refine Mk.pt ?_;refine Gd.ready (rs:=[13]) krr smm ?_;refine Gd.cU.last rfl krr (fun K hK=>?_) Gd.cU.nil;refine QX ?_;go_simp;refine hK.out _ _ trivial ?_;clear hK K;refine Mk.pt ?_;refine Gd.done krr ⟨rfl,?_⟩ _;clear e2 e3 ff EM Ck
 gi_wp2_with fail
 exact ⟨GL.o,tB.o,_,_,by rw [List.map_append,List.map_append,Vt.o,Vs.o];exact DK.o⟩):p:=h
theorem M8 (h:Mx w C RO K p c s t used rv) (tb:vj p) (gm:K.nd<=4194304):
 Calls prog 19 #[ρ C.mb] w (rW w p s K.nd):=by
 have m8:w.cell? (π C.mb 8)=some (ι K.nd):=h.m.aM.cell 8;have lm:=h.m.aM.lt;have H:=ae h;have HT:=ae tb;have MQ:=tb.g;obtain ⟨ga,gn,gc,jZ⟩:=Row.qT h.m.prog.g;have um:gn=p.ap.length:=by
  rcases h.m.prog.g.val with ⟨h,h'⟩|⟨b,cap,h,-⟩
  ·rw [jZ] at h;simp at h;omega
  ·rw [jZ] at h;simp at h;omega
 obtain rfl:=um;have HGV:=ae jZ;have HN:=ae (show 1*K.nd<=281474976710656/\K.nd<=maxLen by unfold maxLen;omega);clear h tb jZ;generalize Zs:K.nd=nd at*;have Qg:=ae Zs;clear Zs;refine (callsIn_wide (n:=9)).1 ?_;refine callsIn_of_wp_marks func19 rfl trivial ?_ rfl;simp only [ntmps19,List.size_toArray,List.length_cons,List.length_nil,Nat.reduceAdd,Nat.reduceSub,Array.replicate_succ,Array.replicate_zero,List.push_toArray,List.append_toArray,List.nil_append,List.cons_append];refine wpIn_wide.2 ?_;go_wp2_with (refine kz rfl (.tmp 15) (.tmp 15) 22 rfl 4 underlying22 Vf.vZ rfl .i64 .i64 _ _ nd rfl rfl rfl rfl HN.o.1 HN.o.2 ?_);intro w2 bq Qh;have dn:Below w.heap.size w w2:=(((afL _ w).alloc (afF _) _).alloc smm _).trans (Qh.mono omm);have kb2:ay w2 w.heap.size 52 #[dz,dz,dz,dz]:=((ay.new w _ _).alloc _).of (Qh.block _ omm);have kb3:ay w2 (w.heap.size+1) 52 #[dz,dz,dz,dz]:=by have:=ay.new (w.alloc (.cells #[dz,dz,dz,dz] 52)) 52 #[dz,dz,dz,dz];rw [aE] at this;exact this.of (Qh.block _ omm)
 have qP:w.heap.size+2 < w2.heap.size:=by have:=(af3 bq (w.heap.size+1+1) rfl).2;omega
 have k3:K3 w w2.heap.size (w2.alloc (.cells #[.slice (some (π (w.heap.size+2) 0)) nd nd] 22)) (w2.heap.size+1) (w2.heap.size+1) nd (jW s 0) dz dz dz dz [] [] [] [] [] (fun _=>dz):=by refine ⟨⟨dn.alloc dn.size _,smm,qP,kb2.alloc _,kb3.alloc _,(bq.alloc _).congr (fun o ho=>by simp [jW]),ay.new w2 _ _,Mk.Marks.nil _,smm⟩,?_⟩;refine ⟨⟨Row.nil _ _ _ _,mN.nil _ _,fun q hq=>absurd hq smm,fun q q' hq=>absurd hq smm⟩,⟨Row.nil _ _ _ _,mN.nil _ _⟩,⟨Row.nil _ _ _ _,mN.nil _ _⟩,⟨Row.nil _ _ _ _,mN.nil _ _⟩,afF _,afF _,smm⟩
 have Dh:=ae k3;have m0:w2.cell? (π C.mb 0)=some (.slice ga p.ap.length gc):=by rw [<-HGV.o];exact (H.o.later dn).m.aM.cell 0
 have Y5:C.mb < w2.heap.size:=omm;clear bq Qh dn kb2 kb3 qP k3 m8;go_wp2_with fail;refine Mk.aP (Zq w w2.heap.size C.mb nd p s) (p.ap.length+1) ?start ?zero ?round
 case start=>exact ⟨0,[],_,_,_,afO _,omm,pC rfl,Dh⟩
 case zero=>exact fun a W hh=>by obtain ⟨q,_,_,_,_,h1,h2,_⟩:=hh;omega
 clear Dh m0 Y5 HN;generalize w2.heap.size=xb;clear w2
 case round=>
  rintro m a W ⟨q,Ds,av,lv,h1,hq,hm,⟨J,rfl⟩,hk⟩;have MW:=H.o.later hk.o.k.zm;have Y5:C.mb < W.heap.size:=MW.m.aM.lt;have jK:=hk.o.k.jK;by_cases a8:q < p.ap.length
  ·have m9:W.cell? (π C.mb 9)=some (ρ C.ab):=MW.m.aM.cell 9;obtain ⟨wA,Zt⟩:∃wA,wA=W.alloc (.cells #[ν] 24):=⟨_,rfl⟩;have bA:Below W.heap.size W wA:=by rw [Zt];exact (afL _ _).alloc (afF _) _
   have PR:=ae (MW.later bA);have TJ:=ae (hk.o.later bA);have kN:wA.heap.size=W.heap.size+1:=by rw [Zt];simp
   have kl:ay wA W.heap.size 24 #[ν]:=by rw [Zt];exact ay.new W _ _
   have HL:=ae (dT.WV PR.o.m.ar (by rw [Qg.o];exact gm) a8);have HKL:=ae kl;have iF:=hk.o.lay.le;have ze:=ae kN;clear MW bA kN kl;go_wp2_with fail;rw [<-Zt];clear Zt;refine HL.o.mono ?_;rintro e w6 ⟨rfl,Us,AR⟩;have Vo:W.heap.size+1=wA.heap.size:=ze.o.symm;have Zn:=hk.o.k.low;generalize W.heap.size=lb at*;have qi:=PR.o.m.ar.uV a8;have hlen:(rowsOf s.a (s.a.ls q)).length<=4194304:=by rw [dT.mJ];have:=qi.1;rw [Qg.o] at this;omega
   have dK:∀y,y∈rowsOf s.a (s.a.ls q)->y.1 < nd:=by intro y hy;unfold rowsOf at hy;obtain ⟨n,hn,rfl⟩:=List.mem_map.1 hy;obtain ⟨_,_,mm,-,g1,g2,-⟩:=PR.o.m.ar.node a8 hn;rw [Qg.o] at g2;exact afQ g1 g2
   have b6:=AR.zm;have Zu:wA.heap.size < w6.heap.size:=AR.box.lt;have HR6:=ae (Qs AR);have AG:∀k,k∈dJ Us->wA.heap.size<=k/\k < w6.heap.size:=by
    intro k hk;rcases AR.own.2 with ⟨rfl,_⟩|⟨g,cap,yQ,rfl,g1,g2,_⟩
    ·simp [dJ] at hk
    ·simp [dJ] at hk;subst hk;exact ⟨g1,(Array.getElem?_eq_some_iff.1 g2).1⟩
   have M_:(rowsOf s.a (s.a.ls q)).attach.map (fun y=>y.val)=rowsOf s.a (s.a.ls q):=List.attach_map_subtype_val _;have nT:(rowsOf s.a (s.a.ls q)).attach.map (fun y=>y.val.1)=s.a.ls q:=by
    have e1:(rowsOf s.a (s.a.ls q)).attach.map (fun y=>y.val.1)=((rowsOf s.a (s.a.ls q)).attach.map (fun y=>y.val)).map (·.1):=by rw [List.map_map];rfl
    rw [e1,M_];unfold rowsOf;rw [List.map_map];exact List.map_id _
   have Na:=ae (dT.CI (α:={y // y∈rowsOf s.a (s.a.ls q)}) (fun y=>y.val) Fence.wide 8 trivial rfl omm wA.heap.size wA.heap.size Us (rowsOf s.a (s.a.ls q)).attach (by rw [List.length_attach];omega) w6 AR.box (by rw [M_];exact HR6.o) (fun k hk=>(AG k hk).2));have V8:=ae (TJ.o.later b6);have Ut:=ae (HKL.o.of (b6.block _ omm));have HLS:=ae nT;have aa2:(rowsOf s.a (s.a.ls q)).attach.length<=4194304:=by rw [List.length_attach];exact hlen
   have iM:=ae dK;have M7:∀D,D∈Ds->D < w6.heap.size:=fun D hD=>V8.o.k.CM.lt hD;have Zv:=ae M7;clear nT M_ AR b6 HL TJ HKL PR HR6 qi dK M7 hlen;generalize (rowsOf s.a (s.a.ls q)).attach=L at*;go_wp2_with fail;refine (wpIn_wide (n:=9)).1 ?_;refine wpIn_rangeFunc_ownH (n:=9) (F:=Fence.wide) rfl omm (gf:=136) (lb:=#[ρ wA.heap.size]) rfl trivial (enters_of func136 krr rfl) Na.o w_.t
    (w_.b (by intro k hk;rcases List.mem_cons.1 hk with rfl|hk;exact Zu;exact (AG k hk).2)) (afL _ _) (fun _=>rfl)
    (fun pre W=>∃nv,Hid (I1 w xb w6 W lb h1 nd (fun n=>jW s q n||(pre.map fun y=>y.val.1).contains n) av ((List.range q).map s.a.ls) Ds lv (pre.map fun y=>y.val.1) nv))
    (fun c pre W=>False) ?hI ?hIx ?h0 (fun x a' W=>FrM w xb lb x.val.1 a') (fun x a' _ W W' row hs hg hr=>hs) ?assign ?body ?done ?stop
   case hI=>exact fun pre W W' row ⟨nv,hh⟩ hg hr=>⟨nv,hh.o.grown Zv.o hg hr⟩
   case hIx=>exact fun c pre W W' row hh _ _=>hh
   case h0=>exact ⟨dz,⟨by have h6:=V8.o;exact ⟨h6.k.M6 (fun n _=>by simp),h6.lay⟩,Ut.o,⟨Row.nil _ _ _ _,mN.nil _ _⟩,omm,omm,omm,afF _⟩⟩
   case assign=>
    rintro l pre x W K ⟨nv,mX⟩ hK
    gi_wp2
    exact hK _ _ (KeepsFrom.refl _ _) (fun _ _=>rfl) ⟨nv,mX⟩ (pC rfl)
   case stop=>exact fun D c pre W _ _ hh _=>absurd hh smm
   case body=>
    rintro l pre ⟨x,hx⟩ a' W hl hr ⟨nv,mX⟩ ⟨J2,rfl⟩ qP;dsimp only;have hxn:=iM.o x hx;generalize Wi:x.1=xn at*;have HXE:=ae Wi;clear Wi;have c6:=mX.o.bx.c1;have l6:=mX.o.bx.lt;have bB:Below W.heap.size W (W.alloc (.cells #[ι xn] 3)):=(afL _ _).alloc (afF _) _;have hpl:(pre.map (fun y=>y.val.1)).length < L.length:=by rw [List.length_map];exact qP
    generalize NG:pre.map (fun y=>y.val.1)=lp at*;have HPE:=ae NG;have p_:=ae (show Row (W.alloc (.cells #[ι xn] 3)) 3 1 nv lp.length (aU (fA lp)) by have:=mX.o.ns.row.aB (da.ah (S:=[]) bB) smm;rw [mF] at this;exact this);have oH:=ae (show lp.length+1<=maxLen/\(lp.length+1)*8<=140737488355328 by unfold maxLen;omega);have yO:=fun v' w3 r3 f3 i3=>mX.o.next (w1:=W.alloc (.cells #[ι xn] 3)) (w3:=w3) (v':=v') (x:=xn) bB f3 hxn r3 i3;have Jo:=ae yO;have hKB:∀k,k∈wA.heap.size::dJ Us->k < W.heap.size/\k≠lb/\k≠w.heap.size+2/\nv.ownBlock≠some k:=by
     intro k hk;have z:=mX.o.sz;have jd:wA.heap.size<=k/\k < w6.heap.size:=by
      rcases List.mem_cons.1 hk with rfl|hk
      ·exact ⟨afF _,Zu⟩
      ·exact AG k hk
     exact ⟨omm,omm,omm,fun e=>by have:=mX.o.ns.jy k e;omega⟩
    have Ju:=ae hKB;clear NG yO hKB bB mX qP
    gi_wp2_with (gi_at_builtin;refine qb rfl _ _ 24 rfl 3 underlying24 Vf.b_ rfl dee nv lp.length (aU (fA lp)) rfl p_.o (π W.heap.size 0) 1 1 (fun _=> ι xn) rfl ?zT ?ED ?EE ?ID ?_)
    case zT=>intro j hj;obtain rfl:j=0:=omm;exact (ay.new W 3 #[ι xn]).cell 0
    case ED=>exact fun j _=>rfl
    case EE=>exact oH.o.1
    case ID=>exact oH.o.2
    intro v' w3 r3 f3 i3;obtain ⟨va3,vn3,vc3,rfl⟩:=Row.qT r3;obtain ⟨n1,n2,n3,n4,n5,n6,n7,n8⟩:=Jo.o _ w3 (by rw [Nat.mul_one];exact r3) f3 (by rw [aE];exact i3);have N1:=ae n1;have N2:=ae n2;have N3:=ae n3;have nne:lb≠w.heap.size+2:=omm;have abn:lb≠xb:=omm;clear r3 f3 i3 n1 n2 n3 c6 l6
    gi_wp2_with fail
    refine ⟨yG N2.o N3.o _,fun k hk=>N2.o.block k (Ju.o k hk).1 (fun hc=>?_),.slice va3 vn3 vc3,?_⟩
    ·obtain ⟨-,g2,g3,g4⟩:=Ju.o k hk;simp only [afV,Option.mem_toList] at hc;rcases hc with hc|hc|hc
     ·exact g2 hc
     ·exact g3 hc
     ·exact g4 hc
    ·have h9:=N1.o;rw [List.map_append,HPE.o,List.map_cons,List.map_nil,HXE.o];exact ⟨⟨h9.k.k.M6 (fun n _=>by rw [I3,Bool.or_assoc]),h9.k.lay⟩,h9.bx,h9.ns,h9.sz⟩
   case done=>
    rintro D ys W hD rfl ⟨nv,mX⟩ Zw;rw [HLS.o] at mX;have r0:=mX.o.k.k.b3.c1;have r1:=mX.o.bx.c1;have l3:=mX.o.k.k.b3.lt;have l4:=mX.o.bx.lt;have lsl:w.heap.size+1≠lb:=omm;have bB:Below W.heap.size W (W.alloc (.cells #[nv] 24)):=(afL _ _).alloc (afF _) _;have bq:=mX.o.k.lay.ls.row.aB (da.ah (S:=[]) bB) (fun _ _=>by simp);have Uu:((List.range q).map s.a.ls).length=q:=by simp
    dsimp only at bq;rw [Uu] at bq;have p_:=ae bq;obtain ⟨ea,en,ec,rfl⟩:=Row.qT mX.o.ns.row;have SM:=ae (show q+1<=maxLen/\(q+1)*24<=140737488355328 by unfold maxLen;omega);have IT:=fun v' w3 r3 f3 i3=>mX.o.list (w1:=W.alloc (.cells #[.slice ea en ec] 24)) (w3:=w3) (v':=v') bB f3 r3 i3 Zw hD Zv.o;rw [Uu] at IT;have DK:=ae IT;clear mX bq bB IT Uu Zw Na HLS;go_wp2_with (at_builtin;refine cz rfl _ _ 50 rfl 24 underlying50 I4 rfl dee av q lv rfl p_.o (π W.heap.size 0) 1 1 (fun _=> .slice ea en ec) rfl ?zT ?ED ?EE ?ID ?_)
    case zT=>intro j hj;obtain rfl:j=0:=omm;exact (ay.new W 24 #[.slice ea en ec]).cell 0
    case ED=>exact fun j _=>rfl
    case EE=>exact SM.o.1
    case ID=>exact SM.o.2
    intro v' w3 r3 f3 i3;obtain ⟨va3,vn3,vc3,rfl⟩:=Row.qT r3;obtain ⟨g1,g2,g3,lv',g4⟩:=DK.o _ w3 (by rw [Nat.mul_one];exact r3) f3 (by rw [aE];exact i3);have HG:=ae g4;clear r3 f3 i3 g4;go_wp2_with fail;refine ⟨q+1,D::Ds,.slice va3 vn3 vc3,lv',w3.heap.size,omm,omm,pC rfl,ae ?_⟩;have h9:=HG.o;rw [List.range_succ,List.map_append];exact ⟨h9.k.M6 (fun n _=>(E7 s q n).symm),h9.lay⟩
  ·obtain rfl:q=p.ap.length:=omm;have x0:=hk.o.k.hx.c1;have lx:=hk.o.k.hx.lt;clear MW;go_wp2_with fail;have K0':Hid (K3 w xb W h1 h1 nd (jW s p.ap.length) av dz dz dz ((List.range p.ap.length).map s.a.ls) (kI p s nd 0) [] [] Ds lv):=hk;refine Mk.aP (Zr w xb C.mb nd p s) (nd+1) ?wa ?Cg ?wb
   case wa=>exact ⟨0,Ds,_,_,lv,_,_,afO _,omm,pC rfl,K0'⟩
   case Cg=>exact fun a W hh=>by obtain ⟨q,_,_,_,_,_,_,h1,h2,_⟩:=hh;omega
   clear K0' x0 lx hk Y5
   case wb=>
    rintro m2 a2 W2 ⟨k,R8,av2,bv,VJ,g1,g2,fq,jd,⟨J2,rfl⟩,tX⟩;have x1:W2.cell? (π (w.heap.size+2) k)=some (.bool (jW s p.ap.length k))\/¬k < nd:=by
     by_cases h:k < nd
     ·exact .inl (tX.o.k.hr.cell (o:=k) omm)
     ·exact .inr h
    by_cases qP:k < nd
    ·have x2:W2.cell? (π (w.heap.size+2) k)=some (.bool (jW s p.ap.length k)):=by
      rcases x1 with h|h
      ·exact h
      ·exact absurd qP h
     have CZ:kI p s nd (k+1)=if jW s p.ap.length k=true then kI p s nd k else kI p s nd k++[k]:=by unfold kI;rw [List.range_succ,List.filter_append];cases hh:jW s p.ap.length k<;>simp [hh]
     clear x1;cases hh:jW s p.ap.length k with
     |true=>rw [hh] at x2 CZ;rw [afE rfl] at CZ;have Uv:=ae CZ;have uu:=ae (show K3 w xb W2 g1 g2 nd (jW s p.ap.length) av2 bv dz dz ((List.range p.ap.length).map s.a.ls) (kI p s nd (k+1)) [] [] R8 VJ by rw [CZ];exact tX.o);clear hh CZ tX;go_wp2_with fail;exact ⟨k+1,R8,_,_,VJ,g1,g2,omm,omm,pC rfl,uu⟩
     |false=>
      rw [hh] at x2 CZ;rw [abH dee] at CZ;have Uv:=ae CZ;have HHH:=ae hh;have r1:W2.cell? (π (w.heap.size+1) 1)=some bv:=tX.o.k.b3.cell 1;have l3:=tX.o.k.b3.lt;have bB:Below W2.heap.size W2 (W2.alloc (.cells #[ι k] 3)):=(afL _ _).alloc (afF _) _;have hfl:(kI p s nd k).length<=k:=by unfold kI;exact afM (List.length_filter_le _ _) smm
      have p_:=ae (show Row (W2.alloc (.cells #[ι k] 3)) 3 1 bv (kI p s nd k).length (aU (fA (kI p s nd k))) by have:=tX.o.lay.fr.row.aB (da.ah (S:=[]) bB) (fun _ _=>by simp);rw [mF] at this;exact this);have oH:=ae (show (kI p s nd k).length+1<=maxLen/\((kI p s nd k).length+1)*8<=140737488355328 by unfold maxLen;omega);have yO:=fun v' w3 r3 f3 i3=>tX.o.free (w1:=W2.alloc (.cells #[ι k] 3)) (w3:=w3) (v':=v') (x:=k) bB f3 r3 i3;have Jo:=ae yO;clear hh CZ tX yO bB hfl;generalize kI p s nd k=fl at*;go_wp2_with (at_builtin;refine cz rfl _ _ 24 rfl 3 underlying24 Vf.b_ rfl dee bv fl.length (aU (fA fl)) rfl p_.o (π W2.heap.size 0) 1 1 (fun _=> ι k) rfl ?zT ?ED ?EE ?ID ?_)
      case zT=>intro j hj;obtain rfl:j=0:=omm;exact (ay.new W2 3 #[ι k]).cell 0
      case ED=>exact fun j _=>rfl
      case EE=>exact oH.o.1
      case ID=>exact oH.o.2
      intro v' w3 r3 f3 i3;obtain ⟨va3,vn3,vc3,rfl⟩:=Row.qT r3;obtain ⟨n1,n2,n3,n4⟩:=Jo.o _ w3 (by rw [Nat.mul_one];exact r3) f3 (by rw [aE];exact i3);have N4:=ae n4;clear r3 f3 i3 n4;go_wp2_with fail;exact ⟨k+1,R8,_,_,VJ,g1,_,omm,omm,pC rfl,by rw [Uv.o];exact N4⟩
    ·obtain rfl:k=nd:=omm;have MW2:=H.o.later tX.o.k.zm;have m10:W2.cell? (π C.mb 10)=some (ρ C.xb):=MW2.m.aM.cell 10;have HA:=ae (Ix.all' MW2.m.ix);have abo:eS p s.a<=4294967296:=by have h1:=wH (M:=4194304) p.ap.length (fun q=>(s.a.ls q).length) (fun q hq=>by have:=(MW2.m.ar.uV hq).1;rw [Qg.o] at this;omega);have h2:p.ap.length*4194304<=16*4194304:=Nat.mul_le_mul_right _ MQ;show cF p.ap.length (fun q=>(s.a.ls q).length)<=_;omega
     have uu:=ae tX.o;clear x1 MW2 tX;go_wp2_with fail;refine HA.o.mono ?_;rintro e w7 ⟨rfl,L,hKS,hLl,hAA⟩;obtain ⟨bA,hsA,Us,eO,bq⟩:=hAA;have AG:∀k,k∈dJ Us->W2.heap.size+1<=k/\k < w7.heap.size:=by
      intro k hk;rcases bq with ⟨_,rfl⟩|⟨g,cap,rfl,e1,e2,-⟩
      ·simp [dJ] at hk
      ·simp [dJ] at hk;subst hk;exact ⟨e1,e2⟩
     have HS7:=ae (uu.o.later bA);have Zn:=uu.o.k.low;have M7:∀D,D∈R8->D < w7.heap.size:=fun D hD=>HS7.o.k.CM.lt hD;have Zv:=ae M7;have Na:=ae (gP.uX Fence.wide 8 trivial rfl omm W2.heap.size (W2.heap.size+1) Us (L.map Ix.R6) (by rw [List.length_map];omega) w7 eO bq (fun k hk=>(AG k hk).2));have Wj:=ae hKS;have Hh:(L.map Ix.R6).length<=4294967296:=by rw [List.length_map];omega
     have FJ:(L.map Ix.R6).map (·.1)=L.map (·.1):=by rw [List.map_map];rfl
     have qV:(L.map Ix.R6).map (·.2)=fA (L.map (·.2)):=by unfold fA;rw [List.map_map,List.map_map];rfl
     have Db:=ae FJ;have Mc:=ae qV;clear FJ qV M7 bq eO bA HA uu m10;generalize hLu:L.map Ix.R6=Lu at*;clear hLu;go_wp2_with fail;refine (wpIn_wide (n:=9)).1 ?_;refine wpIn_rangeFunc_ownH (n:=9) (F:=Fence.wide) rfl omm (gf:=140) (lb:=#[ρ W2.heap.size]) rfl trivial (enters_of func140 krr rfl) Na.o w_.t
      (w_.b (by intro k hk;rcases List.mem_cons.1 hk with rfl|hk;exact hsA;exact (AG k hk).2)) (afL _ _) (fun _=>rfl)
      (fun pre W=>∃cv dv,Hid (K3 w xb W g1 w7.heap.size k (jW s p.ap.length) av2 bv cv dv ((List.range p.ap.length).map s.a.ls) (kI p s k k) (pre.map (·.1)) (pre.map (·.2)) R8 VJ))
      (fun c pre W=>False) ?hI ?hIx ?h0 (fun x a' W=>FrO w x.1 x.2 a') (fun x a' _ W W' row hs hg hr=>hs) ?assign ?body ?done ?stop
     case hI=>exact fun pre W W' row ⟨cv,dv,hh⟩ hg hr=>⟨cv,dv,hh.o.grown omm Zv.o hg hr⟩
     case hIx=>exact fun c pre W W' row hh _ _=>hh
     case h0=>exact ⟨_,_,HS7.o.up⟩
     case assign=>
      rintro l pre x W K ⟨cv,dv,mX⟩ hK
      gi_wp2
      exact hK _ _ (KeepsFrom.refl _ _) (fun _ _=>rfl) ⟨cv,dv,mX⟩ (pC rfl)
     case stop=>exact fun D c pre W _ _ hh _=>absurd hh smm
     case body=>
      rintro l pre x a' W hl hr ⟨cv,dv,mX⟩ ⟨J2,rfl⟩ qP;have Si:(pre.map (·.1)).length < Lu.length:=by rw [List.length_map];exact qP
      have hpn:(pre.map (·.2)).length < Lu.length:=by rw [List.length_map];exact qP
      obtain ⟨xk,xn⟩:=x;have Zp:∀k,k∈W2.heap.size::dJ Us->k < W.heap.size/\k < w7.heap.size/\k≠w.heap.size+1:=by
       intro k hk;have hg:=mX.o.lay.le;have jd:W2.heap.size<=k/\k < w7.heap.size:=by
        rcases List.mem_cons.1 hk with rfl|hk
        ·exact ⟨afF _,hsA⟩
        ·exact ⟨by have:=AG k hk;omega,(AG k hk).2⟩
       have:=mX.o.k.jK;exact ⟨omm,jd.2,omm⟩
      have HK:=ae (fun V w1 v1 b1 r1 f1 i1=>mX.o.keyed (V:=V) (w1:=w1) (v1:=v1) (key:=xk) b1 xn r1 f1 i1 Zp w7.heap.size);have tR:=ae (show (pre.map (·.1)).length+1<=maxLen/\((pre.map (·.1)).length+1)*8<=140737488355328 by unfold maxLen;omega);have oH:=ae (show (pre.map (·.2)).length+1<=maxLen/\((pre.map (·.2)).length+1)*8<=140737488355328 by unfold maxLen;omega);have Wk:=ae (fun V (b1:Below W.heap.size W V)=>mX.o.lay.ks.row.aB (da.ah (S:=[]) b1) smm);have sS:=mX.o.lst;have HCN:=ae (show ∀b,b∈cv.ownBlock.toList->b < W.drew.heap.size from fun b hb=>(mX.o.lay.ks.jy b (by simpa using hb)).2);have bD:Below W.heap.size W W.drew:=au _ W 1;have gA:W.drew.heap.size=W.heap.size:=rfl;generalize JJ:pre.map (fun y:Nat×Int=>y.1)=lk at*;generalize Ae:pre.map (fun y:Nat×Int=>y.2)=ln at*;have Vt:=ae JJ;have Vs:=ae Ae;clear JJ Ae mX Zp qP Si hpn
      gi_wp2_with fail
      refine Gd.rr [11,13] (fun _=>True) (fun wx=>wx.cell? (π (w.heap.size+1) 2)=some cv/\wx.cell? (π (w.heap.size+1) 3)=some dv) krr krr ⟨trivial,sS⟩ (fun al=>?_);generalize W.drew=V at*;have R9:=ae bD;have HZ:=ae gA;clear bD gA sS;refine Mk.gtA 0 ?_;refine Mk.gtA 1 ?_;refine Mk.gtA 2 ?_;refine Mk.gtA 5 ?_;refine Mk.gtA 6 ?_;refine Mk.gtA 7 ?_;refine Gd.ready (rs:=[3,8]) krr smm ?_;refine Gd.cU.cons rfl (fun K hK=>?_) (Gd.cU.cons rfl (fun K hK=>?_) Gd.cU.nil)
      ·refine QX ?_;go_simp;refine hK.out _ _ ⟨trivial,Du.alloc al.2 _⟩ (fun al=>?_);clear hK K;refine Mk.pt ?_;refine Gd.ready (rs:=[4,8]) krr smm ?_;refine Gd.cU.cons rfl (fun K hK=>?_) (Gd.cU.cons rfl (fun K hK=>?_) Gd.cU.nil)
       ·have dC:=ae (show Below W.heap.size W (V.alloc (.cells #[.int .u64 xk] 46)) from R9.o.alloc R9.o.size _);refine dq rfl (.tmp 72) (.tmp 74) 41 rfl 46 underlying41 sW rfl dee cv lk.length (nK lk) (by simp [Act.eval,Act.put]) (Wk.o _ dC.o) (π V.heap.size 0) 1 1 (fun _=> .int .u64 xk) (by simp [Act.eval,Act.put]) ?_ (fun j _=>rfl) tR.o.1 tR.o.2 ?_
        ·intro j hj;obtain rfl:j=0:=omm;exact (ay.new V 46 #[.int .u64 xk]).cell 0
        intro v1 w1 r1 f1 i1;obtain ⟨va1,vn1,vc1,rfl⟩:=Row.qT r1;obtain ⟨yz,R_⟩:=HK.o _ w1 _ dC.o r1 f1 i1;have Il:=ae R_;clear r1 f1 i1 R_ dC;clear al;refine hK.out _ _ ⟨trivial,yz⟩ (fun al=>?_);clear hK K;refine Mk.pt ?_;refine Gd.MI (i:=10) (v:=?_) rfl krr krr krr krr krr (fun _ _ _ h=>Mk.aN h) (Or.inl ⟨by rfl,?_⟩) aas ?_;rotate_left
        ·exact adX
        refine Mk.pt ?_;refine Gd.ready (rs:=[8]) krr smm ?_;refine Gd.cU.cons rfl (fun K hK=>?_) Gd.cU.nil;refine QX ?_;go_simp;refine hK.out _ _ ⟨trivial,Du.alloc al.2 _⟩ (fun al=>?_);clear hK K;refine Mk.pt ?_;refine Gd.ready (rs:=[9]) krr smm ?_;refine Gd.cU.cons rfl (fun K hK=>?_) Gd.cU.nil;refine dq rfl (.tmp 77) (.tmp 79) 24 rfl 3 underlying24 Vf.b_ rfl dee dv ln.length (aU ln) (by simp [Act.eval,Act.put]) (Il.o.at_ (w1.alloc (.cells #[ι xn] 3)) ((afL _ _).alloc (afF _) _)).2 (π w1.heap.size 0) 1 1 (fun _=> ι xn) (by simp [Act.eval,Act.put]) ?_ (fun j _=>rfl) oH.o.1 oH.o.2 ?_
        ·intro j hj;obtain rfl:j=0:=omm;exact (ay.new w1 3 #[ι xn]).cell 0
        intro v2 w2 r2 f2 i2;obtain ⟨P8,P_,Qa,rfl⟩:=Row.qT r2;obtain ⟨Ck,ff,EM,fq,jd,iO⟩:=Il.o.fin (w1.alloc (.cells #[ι xn] 3)) ((afL _ _).alloc (afF _) _) _ w2 r2 f2 i2;exact adW
       ·refine QX ?_;go_simp;refine hK.out _ _ ⟨trivial,Du.alloc al.2 _⟩ (fun al=>?_);clear hK K;refine Mk.pt ?_;refine Gd.ready (rs:=[4]) krr smm ?_;refine Gd.cU.cons rfl (fun K hK=>?_) Gd.cU.nil;have dC:=ae (show Below W.heap.size W ((V.alloc (.cells #[.int .u64 xk] 46)).alloc (.cells #[ι xn] 3)) from (R9.o.alloc R9.o.size _).alloc (by rw [aE];have:=R9.o.size;omega) _);refine dq rfl (.tmp 72) (.tmp 74) 41 rfl 46 underlying41 sW rfl dee cv lk.length (nK lk) (by simp [Act.eval,Act.put]) (Wk.o _ dC.o) (π V.heap.size 0) 1 1 (fun _=> .int .u64 xk) (by simp [Act.eval,Act.put]) ?_ (fun j _=>rfl) tR.o.1 tR.o.2 ?_
        ·intro j hj;obtain rfl:j=0:=omm;exact ((ay.new V 46 #[.int .u64 xk]).alloc (.cells #[ι xn] 3)).cell 0
        intro v1 w1 r1 f1 i1;obtain ⟨va1,vn1,vc1,rfl⟩:=Row.qT r1;obtain ⟨yz,R_⟩:=HK.o _ w1 _ dC.o r1 f1 i1;have Il:=ae R_;have NO:=ae (show ay w1 (V.heap.size+1) 3 #[ι xn] by have:=(ay.new (V.alloc (.cells #[.int .u64 xk] 46)) 3 #[ι xn]).aB f1 (fun hc=>by have:=HCN.o _ hc;rw [aE] at this;omega);rw [aE] at this;exact this);clear r1 f1 i1 R_ dC;clear al;refine hK.out _ _ ⟨trivial,yz⟩ (fun al=>?_);clear hK K;refine Mk.pt ?_;refine Gd.MI (i:=10) (v:=?_) rfl krr krr krr krr krr (fun _ _ _ h=>Mk.aN h) (Or.inl ⟨by rfl,?_⟩) aas ?_;rotate_left
        ·exact adX
        refine Mk.pt ?_;refine Gd.ready (rs:=[9]) krr smm ?_;refine Gd.cU.cons rfl (fun K hK=>?_) Gd.cU.nil;refine dq rfl (.tmp 77) (.tmp 79) 24 rfl 3 underlying24 Vf.b_ rfl dee dv ln.length (aU ln) (by simp [Act.eval,Act.put]) (Il.o.at_ w1 (afL _ _)).2 (π (V.heap.size+1) 0) 1 1 (fun _=> ι xn) (by simp [Act.eval,Act.put]) ?_ (fun j _=>rfl) oH.o.1 oH.o.2 ?_
        ·intro j hj;obtain rfl:j=0:=omm;exact NO.o.cell 0
        exact abQ
      ·refine QX ?_;go_simp;refine hK.out _ _ ⟨trivial,Du.alloc al.2 _⟩ (fun al=>?_);clear hK K;refine Mk.pt ?_;refine Gd.ready (rs:=[3]) krr smm ?_;refine Gd.cU.cons rfl (fun K hK=>?_) Gd.cU.nil;refine QX ?_;go_simp;refine hK.out _ _ ⟨trivial,Du.alloc al.2 _⟩ (fun al=>?_);clear hK K;refine Mk.pt ?_;refine Gd.ready (rs:=[4]) krr smm ?_;refine Gd.cU.cons rfl (fun K hK=>?_) Gd.cU.nil;have dC:=ae (show Below W.heap.size W ((V.alloc (.cells #[ι xn] 3)).alloc (.cells #[.int .u64 xk] 46)) from (R9.o.alloc R9.o.size _).alloc (by rw [aE];have:=R9.o.size;omega) _);refine dq rfl (.tmp 72) (.tmp 74) 41 rfl 46 underlying41 sW rfl dee cv lk.length (nK lk) (by simp [Act.eval,Act.put]) (Wk.o _ dC.o) (π (V.heap.size+1) 0) 1 1 (fun _=> .int .u64 xk) (by simp [Act.eval,Act.put]) ?_ (fun j _=>rfl) tR.o.1 tR.o.2 ?_
       ·intro j hj;obtain rfl:j=0:=omm;have:=(ay.new (V.alloc (.cells #[ι xn] 3)) 46 #[.int .u64 xk]).cell 0;rw [aE] at this;exact this
       intro v1 w1 r1 f1 i1;obtain ⟨va1,vn1,vc1,rfl⟩:=Row.qT r1;obtain ⟨yz,R_⟩:=HK.o _ w1 _ dC.o r1 f1 i1;have Il:=ae R_;have NO:=ae (show ay w1 V.heap.size 3 #[ι xn] from ((ay.new V 3 #[ι xn]).alloc (.cells #[.int .u64 xk] 46)).aB f1 (fun hc=>by have:=HCN.o _ hc;omega));clear r1 f1 i1 R_ dC;clear al;refine hK.out _ _ ⟨trivial,yz⟩ (fun al=>?_);clear hK K;refine Mk.pt ?_;refine Gd.MI (i:=10) (v:=?_) rfl krr krr krr krr krr (fun _ _ _ h=>Mk.aN h) (Or.inl ⟨by rfl,?_⟩) aas ?_;rotate_left
       ·exact adX
       refine Mk.pt ?_;refine Gd.ready (rs:=[9]) krr smm ?_;refine Gd.cU.cons rfl (fun K hK=>?_) Gd.cU.nil;refine dq rfl (.tmp 77) (.tmp 79) 24 rfl 3 underlying24 Vf.b_ rfl dee dv ln.length (aU ln) (by simp [Act.eval,Act.put]) (Il.o.at_ w1 (afL _ _)).2 (π V.heap.size 0) 1 1 (fun _=> ι xn) (by simp [Act.eval,Act.put]) ?_ (fun j _=>rfl) oH.o.1 oH.o.2 ?_
       ·intro j hj;obtain rfl:j=0:=omm;exact NO.o.cell 0
       exact abQ
     case done=>
      rintro D ys W hD rfl ⟨cv,dv,mX⟩ Zw;rw [Db.o,Mc.o] at mX;obtain ⟨r0,r1,r2,r3⟩:=mX.o.k.b3.c4;obtain ⟨s0,s1,s2,s3⟩:=mX.o.k.b2.c4;have sf:=mX.o.k.b2.frozen;have l2:=mX.o.k.b2.lt;have l3:=mX.o.k.b3.lt;have hDl:D < W.heap.size:=(Array.getElem?_eq_some_iff.1 Zw).1;have abp:=mX.o.k.jK;have hDn:D∉R8:=fun hc=>by have:=Zv.o D hc;omega
      have kk:=mX.o.k.mark Zw hDn (by have:=mX.o.lay.le;omega);have lay:=mX.o.lay;obtain ⟨a1,a2,a3,rfl⟩:=Row.qT lay.ls.row;obtain ⟨b1,b2,b3,rfl⟩:=Row.qT lay.fr.row;obtain ⟨c1,c2,c3,rfl⟩:=Row.qT lay.ks.row;obtain ⟨d1,d2,d3,rfl⟩:=Row.qT lay.ns.row;clear mX Na;go_wp2_with fail;have F9:∀v0 v1 v2 v3,da [w.heap.size] W ((((W.setCell (π w.heap.size 0) v0).setCell (π w.heap.size 1) v1).setCell (π w.heap.size 2) v2).setCell (π w.heap.size 3) v3):=fun v0 v1 v2 v3=>((((da.refl [w.heap.size] W).setCell smm _).setCell smm _).setCell smm _).setCell smm _;have E9:∀v0 v1 v2 v3,ay ((((W.setCell (π w.heap.size 0) v0).setCell (π w.heap.size 1) v1).setCell (π w.heap.size 2) v2).setCell (π w.heap.size 3) v3) w.heap.size 52 #[v0,v1,v2,v3]:=fun v0 v1 v2 v3=>(((kk.b2.set 0 v0).set 1 v1).set 2 v2).set 3 v3;have G9:∀v0 v1 v2 v3,Below w.heap.size w ((((W.setCell (π w.heap.size 0) v0).setCell (π w.heap.size 1) v1).setCell (π w.heap.size 2) v2).setCell (π w.heap.size 3) v3):=fun v0 v1 v2 v3=>(((kk.zm.setCell (afF _) _).setCell (afF _) _).setCell (afF _) _).setCell (afF _) _;replace F9:=F9 (.slice a1 a2 a3) (.slice b1 b2 b3) (.slice c1 c2 c3) (.slice d1 d2 d3);replace E9:=E9 (.slice a1 a2 a3) (.slice b1 b2 b3) (.slice c1 c2 c3) (.slice d1 d2 d3);replace G9:=G9 (.slice a1 a2 a3) (.slice b1 b2 b3) (.slice c1 c2 c3) (.slice d1 d2 d3);have nlo:∀D',D'∈D::R8->xb+1<=D':=kk.ml;have M9:=kk.CM.keeps fun k hk=>F9.block k (kk.CM.lt hk) (by simp;have:=nlo k hk;omega);have L9:=lay.off F9 (fun b hb=>by simp at hb;subst hb;exact .inl (.inl omm));have S9:=F9.size;generalize (((W.setCell (π w.heap.size 0) (.slice a1 a2 a3)).setCell (π w.heap.size 1) (.slice b1 b2 b3)).setCell (π w.heap.size 2) (.slice c1 c2 c3)).setCell (π w.heap.size 3) (.slice d1 d2 d3)=W9 at*;refine Mk.zo (D::R8) _ M9 fun W' Jq=>?_;have b':ay W' w.heap.size 52 #[.slice a1 a2 a3,.slice b1 b2 b3,.slice c1 c2 c3,.slice d1 d2 d3]:=E9.of (Jq.cells M9 E9.Hm);have L':=L9.off Jq.aB (fun b hb=> .inr (.inr ⟨_,M9.at_ b hb,rfl⟩));obtain ⟨i0,i1,i2,i3⟩:=b'.c4;refine ⟨.agg #[.slice a1 a2 a3,.slice b1 b2 b3,.slice c1 c2 c3,.slice d1 d2 d3],by simp [results,results19,go_sem,i0,i1,i2,i3],?_⟩;refine ⟨L,_,_,_,_,g1,w7.heap.size,VJ,Wj.o,rfl,G9.trans (Jq.below fun D' hD'=>by have:=nlo D' hD';omega),?_⟩;have L8:=L'.mono (hi':=W'.heap.size) (by rw [Jq.size];exact S9);exact L8.lower omm
end
end Go.Proofs.YtblkblclmbhjiaaGreat.Ma
namespace Go.Proofs.YtblkblclmbhjiaaGreat.Ma
open Go.RowKit ak.Vm
open ak hiding aL an aj
open Vf (Kp fP pV aV cV)
def jX (w:World) (C:Co) (lo:Nat) (p:aO) (c:Cp) (s:St) (t:fI) (used:Int):Prop:=∃(RO:List Nat) (K:Kc) (T:Map),Mx w C RO K p c s t used (.pointer none)/\N6 K C.mb p c/\Env p c T/\mh p/\Inv (aw p c) s/\(∀b,b∈C.l++RO->lo<=b)
section
variable {w w':World} {C:Co} {lo:Nat} {p:aO} {c:Cp} {s:St} {t:fI} {used:Int}
theorem jX.later (h:jX w C lo p c s t used) (b:Below w.heap.size w w'):jX w' C lo p c s t used:=by obtain ⟨RO,K,T,h1,h2⟩:=h;exact ⟨RO,K,T,h1.later b,h2⟩
theorem jX.lt (h:jX w C lo p c s t used) {b:Nat} (hb:b∈C.l):lo<=b/\b < w.heap.size:=by obtain ⟨RO,K,T,h1,-,-,-,-,h2⟩:=h;exact ⟨h2 b (by simp [hb]),h1.sep.lt b hb⟩
theorem bu.low {C':Co} (k:bu w w' C C') (h:∀b,b∈C.l->lo<=b) (hs:lo<=w.heap.size):Below lo w w':=k.f.below hs h
def aaS (w:World) (C:Co) (lo:Nat) (p:aO) (c:Cp) (s:St) (t:fI) (key:Nat) (e:Ending) (w':World):Prop:=
 ∃(tv:Value) (C':Co),e= .returned (.agg #[.bool (if dE p c s key=0 then sH p c s key else false),tv,ι (dE p c s key)])/\bu w w' C C'/\
  jX w' C' lo p c (dF p c s key) (if dE p c s key=0 then mj t (sH p c s key) (gK p c s key) else t) (lD p c s key).1/\
  vX w' tv (if dE p c s key=0 then gK p c s key else [])/\∀b,b∈vb tv->b∉C'.l/\b∉Ma.rest w C
theorem Nb (h:jX w C lo p c s t used) (hl:lo<=w.heap.size) {key:Nat} (hk:key < 18446744073709551616):
 Calls prog 17 #[ρ C.mb,.int .u64 key] w (aaS w C lo p c s t key):=by
 obtain ⟨RO,K,T,h1,M,V,hS,hI,iF⟩:=h;have aaT:Calls prog 17 #[ρ C.mb,.int .u64 key] w (eD w C RO K p c t s key):=by
  cases hf:s.f key with
  |none=>exact Cz M V hS h1 hI hk hf
  |some n=>exact ag0
 refine aaT.mono ?_;rintro e w' ⟨tv,C',rfl,k,m,ht,hb⟩;refine ⟨tv,C',rfl,k,⟨RO,K,T,m,by rw [k.mb];exact M,V,hS,oW V hS hI hk,fun b iN=>?_⟩,ht,hb⟩;rw [af2] at iN;rcases iN with iN|iN
 ·rcases k.c b iN with h2|h2
  ·exact iF b (by simp [h2])
  ·omega
 ·exact iF b (by simp [iN])
theorem E8 (h:jX w C lo p c s t used):Calls prog 19 #[ρ C.mb] w (rW w p s (bH (aw p c))):=by obtain ⟨RO,K,T,h1,M,V,hS,hI,iF⟩:=h;have:=M8 h1 (cK M.check).1 M.BP;rw [M.nd] at this;exact this
theorem GN (h:jX w C lo p c s t used):Calls prog 28 #[ρ C.mb] w (fun e w'=>e= .returned (ι used)/\w'=w):=by obtain ⟨RO,K,T,h1,-⟩:=h;exact (Ur h1).mono fun e w' hh=>⟨hh.1,hh.2.symm⟩
def Uw (w:World) (p:aO) (c:Cp) (e:Ending) (w':World):Prop:=Below w.heap.size w w'/\
 ((¬((aZ p).1=0/\kH p c=true)/\∃er:Int,er≠0/\e= .returned (.tuple #[.pointer none,ι er]))\/
  ((aZ p).1=0/\kH p c=true/\∃C:Co,e= .returned (.tuple #[ρ C.mb,ι 0])/\jX w' C w.heap.size p c (xx p) ⟨0,0,0,0⟩ 0))
theorem Nc {p:aO} {c:Cp} (hv:(aZ p).1=0) (lO:kH p c=true):∃T,Env p c T:=by obtain ⟨hc,T,hT,-⟩:=rA rfl hv;have h:=lO;unfold kH at h;simp only [afW] at h;exact ⟨T,hT,hc,Vf.yE h.1⟩
theorem E_ {K:Kp} {qv:Value} (h:fP w K p) (hq:aV w 1 qv c.aI.length (aU c.aI)) (hS:(aZ p).1=0->kH p c=true->mh p):Calls prog 16 #[pV K p,cV c qv] w (Uw w p c):=by
 refine (Bs h hq).mono ?_;rintro e w' ⟨hb,h1|h1|h1⟩
 ·exact ⟨hb,.inl ⟨fun h=>h1.1 h.1,_,h1.1,h1.2⟩⟩
 ·exact ⟨hb,.inl ⟨fun h=>by rw [h.2] at h1;exact absurd h1.2.1 smm,45,dee,h1.2.2⟩⟩
 ·obtain ⟨hv,lO,C,RO,K',rfl,m,M,iF⟩:=h1;obtain ⟨T,V⟩:=Nc hv lO;exact ⟨hb,.inr ⟨hv,lO,C,rfl,RO,K',T,m,M,V,hS hv lO,GK c (cK M.check).1,iF⟩⟩
end
end Go.Proofs.YtblkblclmbhjiaaGreat.Ma
