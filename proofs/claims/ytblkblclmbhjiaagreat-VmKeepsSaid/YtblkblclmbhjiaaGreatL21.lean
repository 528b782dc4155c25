/- Of the proof that VmKeeps holds: a key keeps its node, what traps leaves no trace. No condition. -/
import Derived.Test.YtblkblclmbhjiaaGreatL20
set_option linter.unusedVariables false
set_option linter.unusedSimpArgs false
set_option maxHeartbeats 40000000
set_option maxRecDepth 100000
namespace Go.Proofs.YtblkblclmbhjiaaGreat.Ma
open Go.RowKit ak.Vm Go.Shelf
open ak hiding aL an aj
open dT (bP bG d_)
open Ix (cL)
def fA (l:List Nat):List Int:=l.map fun n:Nat=>(n:Int)
theorem mF (l:List Nat):(fA l).length=l.length:=by simp [fA]
theorem yH (l:List Nat) (x:Nat):fA (l++[x])=fA l++[(x:Int)]:=by simp [fA]
theorem yI (l:List Nat) (i:Nat):(fA l).getD i 0=((l.getD i 0:Nat):Int):=by
 unfold fA;by_cases h:i < l.length
 ·simp [List.getD,h]
 ·simp [List.getD,h]
theorem k6 {α:Type} (l:List α) (x d:α) (o:Nat):(o < l.length->(l++[x]).getD o d=l.getD o d)/\(o=l.length->(l++[x]).getD o d=x):=by
 constructor
 ·intro h;simp [List.getD,List.getElem?_append,h]
 ·intro h;subst h;simp [List.getD]
theorem fL.snoc {w w':World} {lo hi hi':Nat} {v v':Value} {l:List Int} {x:Int} (h:fL w lo hi v l) (hr:Row w' 3 1 v' (l.length+1) (gU (l.length*1) (aU l) fun _=> ι x)) (hv:mN lo hi' v'):fL w' lo hi' v' (l++[x]):=by
 refine ⟨?_,hv⟩;rw [List.length_append,List.length_singleton];refine hr.congr fun o ho=>?_;unfold gU aU;by_cases h1:o < l.length
 ·rw [if_pos (by omega),(k6 l x 0 o).1 h1]
 ·rw [if_neg (by omega),(k6 l x 0 o).2 (by omega)]
def nK (l:List Nat) (i:Nat):Value:= .int .u64 (l.getD i 0:Nat)
structure kB (w:World) (lo hi:Nat) (v:Value) (l:List Nat):Prop where
 row:Row w 46 1 v l.length (nK l)
 jy:mN lo hi v
theorem kB.off {w w':World} {lo hi:Nat} {v:Value} {l:List Nat} {S:List Nat} (h:kB w lo hi v l) (f:ax S w w') (k:se w lo hi [46] S):kB w' lo hi v l:=⟨Row.off h.row h.jy (by simp) f k,h.jy⟩
theorem kB.mono {w:World} {lo hi zR hi':Nat} {v:Value} {l:List Nat} (h:kB w lo hi v l) (h1:zR<=lo) (h2:hi<=hi'):kB w zR hi' v l:=⟨h.row,h.jy.mono h1 h2⟩
theorem kB.snoc {w w':World} {lo hi hi':Nat} {v v':Value} {l:List Nat} {x:Nat} (h:kB w lo hi v l) (hr:Row w' 46 1 v' (l.length+1) (gU (l.length*1) (nK l) fun _=> .int .u64 x)) (hv:mN lo hi' v'):kB w' lo hi' v' (l++[x]):=by
 refine ⟨?_,hv⟩;rw [List.length_append,List.length_singleton];refine hr.congr fun o ho=>?_;unfold gU nK;by_cases h1:o < l.length
 ·rw [if_pos (by omega),(k6 l x 0 o).1 h1]
 ·rw [if_neg (by omega),(k6 l x 0 o).2 (by omega)]
def Ol:List TypeId:=[24,3]
structure wG (w:World) (lo hi:Nat) (v:Value) (P:List (List Nat)) (lv:Nat->Value):Prop where
 row:Row w 24 1 v P.length lv
 jy:mN lo hi v
 q:∀q,q < P.length->fL w lo hi (lv q) (fA (P.getD q []))
 sep:∀q q',q < P.length->q' < P.length->q≠q'->(lv q).ownBlock=none\/(lv q).ownBlock≠(lv q').ownBlock
theorem wG.off {w w':World} {lo hi:Nat} {v:Value} {P:List (List Nat)} {lv:Nat->Value} {S:List Nat} (h:wG w lo hi v P lv) (f:ax S w w') (k:se w lo hi Ol S):wG w' lo hi v P lv:=
 ⟨Row.off h.row h.jy (by simp [Ol]) f k,h.jy,fun q hq=>(h.q q hq).off f (k.sub (by simp [Ol,zS])),h.sep⟩
theorem wG.mono {w:World} {lo hi zR hi':Nat} {v:Value} {P:List (List Nat)} {lv:Nat->Value} (h:wG w lo hi v P lv) (h1:zR<=lo) (h2:hi<=hi'):wG w zR hi' v P lv:=⟨h.row,h.jy.mono h1 h2,fun q hq=>(h.q q hq).mono h1 h2,h.sep⟩
theorem wG.snoc {w w':World} {lo hi:Nat} {v v':Value} {P:List (List Nat)} {lv:Nat->Value} (h:wG w lo hi v P lv) {l:List Nat} {ev:Value} (he:fL w' lo w'.heap.size ev (fA l)) (hle:hi<=w.heap.size)
 {S:List Nat} (f:ax S w w') (hS:se w lo hi zS S) (hr:Row w' 24 1 v' (P.length+1) (gU (P.length*1) lv fun _=>ev)) (hv:mN lo w'.heap.size v') (hn:∀b,ev.ownBlock=some b->hi<=b):
 wG w' lo w'.heap.size v' (P++[l]) (fun q=>if q < P.length then lv q else ev):=by
 have hlen:(P++[l]).length=P.length+1:=by simp
 refine ⟨?_,hv,fun q hq=>?_,fun q q' hq Sh bz=>?_⟩
 ·rw [hlen];refine hr.congr fun o ho=>?_;unfold gU;dsimp only;by_cases h1:o < P.length
  ·rw [if_pos (by omega),if_pos h1]
  ·rw [if_neg (by omega),if_neg h1]
 ·rw [hlen] at hq;by_cases h1:q < P.length
  ·rw [if_pos h1,(k6 P l [] q).1 h1];exact ((h.q q h1).off f hS).mono (Nat.le_refl _) (Nat.le_trans hle f.size)
  ·rw [if_neg h1,(k6 P l [] q).2 (by omega)];exact he
 ·rw [hlen] at hq Sh;by_cases h1:q < P.length
  ·by_cases h2:q' < P.length
   ·rw [if_pos h1,if_pos h2];exact h.sep q q' h1 h2 bz
   ·rw [if_pos h1,if_neg h2];cases hb:(lv q).ownBlock with
    |none=>exact .inl rfl
    |some b=>right;intro e;have:=(h.q q h1).jy b hb;have:=hn b e.symm;omega
  ·by_cases h2:q' < P.length
   ·rw [if_neg h1,if_pos h2];cases hb:ev.ownBlock with
    |none=>exact .inl rfl
    |some b=>right;intro e;have:=(h.q q' h2).jy b e.symm;have:=hn b hb;omega
   ·omega
structure PL where
 lists:List (List Nat)
 free:List Nat
 keys:List Nat
 nodes:List Int
 deriving DecidableEq
structure lI (w:World) (lo h1 h2 hi:Nat) (a b c d:Value) (L:PL) (lv:Nat->Value):Prop where
 ls:wG w lo h1 a L.lists lv
 fr:fL w h1 h2 b (fA L.free)
 ks:kB w h2 hi c L.keys
 ns:fL w h2 hi d L.nodes
 le:lo<=h1/\h1<=h2/\h2<=hi
abbrev dz:Value:=ν
structure K0 (w:World) (xb:Nat) (W:World) (nd:Nat) (held:Nat->Bool) (cs:Array Value) (Ds:List Nat):Prop where
 zm:Below w.heap.size w W
 low:xb+1<=W.heap.size
 jK:w.heap.size+2 < xb
 b2:ay W w.heap.size 52 #[dz,dz,dz,dz]
 b3:ay W (w.heap.size+1) 52 cs
 hr:Row W 4 1 (.slice (some (π (w.heap.size+2) 0)) nd nd) nd (fun n=> .bool (held n))
 hx:ay W (xb) 22 #[.slice (some (π (w.heap.size+2) 0)) nd nd]
 CM:Mk.Marks W Ds
 ml:∀D,D∈Ds->xb+1<=D
structure K3 (w:World) (xb:Nat) (W:World) (h1 h2 nd:Nat) (held:Nat->Bool) (a b c d:Value) (P:List (List Nat)) (fr ks:List Nat) (ns:List Int) (Ds:List Nat) (lv:Nat->Value):Prop where
 k:K0 w xb W nd held #[a,b,c,d] Ds
 lay:lI W (xb+1) h1 h2 W.heap.size a b c d ⟨P,fr,ks,ns⟩ lv
section
variable {w W W':World} {xb h1 h2 nd:Nat} {held:Nat->Bool} {a b c d:Value} {P:List (List Nat)} {fr ks:List Nat} {ns:List Int} {Ds:List Nat} {lv:Nat->Value} {cs:Array Value}
theorem lI.off {w w':World} {lo hi:Nat} {L:PL} {T:List Nat} (h:lI w lo h1 h2 hi a b c d L lv) (f:ax T w w') (k:se w lo hi (46::Ol) T):lI w' lo h1 h2 hi a b c d L lv:=by
 obtain ⟨l1,l2,l3⟩:=h.le;have key:∀x y Es,lo<=x->y<=hi->(∀e,e∈Es->e∈46::Ol)->se w x y Es T:=fun x y Es hx hy hE b hb=>by
  rcases k b hb with h'|⟨E,cs,e1,e2⟩|h'
  ·exact .inl (by omega)
  ·exact .inr (.inl ⟨E,cs,e1,fun hc=>e2 (hE _ hc)⟩)
  ·exact .inr (.inr h')
 exact ⟨h.ls.off f (key _ _ _ (Nat.le_refl _) (by omega) (by simp [Ol])),h.fr.off f (key _ _ _ l1 l3 (by simp [Ol,zS])),h.ks.off f (key _ _ _ (by omega) (Nat.le_refl _) (by simp)),h.ns.off f (key _ _ _ (by omega) (Nat.le_refl _) (by simp [Ol,zS])),h.le⟩
theorem lI.mono {w:World} {lo hi hi':Nat} {L:PL} (h:lI w lo h1 h2 hi a b c d L lv) (hh:hi<=hi'):lI w lo h1 h2 hi' a b c d L lv:=
 ⟨h.ls,h.fr,h.ks.mono (Nat.le_refl _) hh,h.ns.mono (Nat.le_refl _) hh,h.le.1,h.le.2.1,Nat.le_trans h.le.2.2 hh⟩
theorem K0.aB (h:K0 w xb W nd held cs Ds) {T:List Nat} (f:ax T W W') (hT:∀x,x∈T->xb+1<=x) (hD:∀D,D∈Ds->D∉T):K0 w xb W' nd held cs Ds:=by
 have jK:=h.jK;have nn:∀k,k < xb+1->k∉T:=fun k hk hc=>by have:=hT k hc;omega
 exact ⟨h.zm.trans (f.below h.zm.size (fun k hk=>by have:=hT k hk;omega)),Nat.le_trans h.low f.size,h.jK,h.b2.aB f (nn _ (by omega)),h.b3.aB f (nn _ (by omega)),h.hr.aB f (fun x hx=>by simp [Value.ownBlock] at hx;subst hx;exact nn _ (by omega)),h.hx.aB f (nn _ (by omega)),
  h.CM.keeps (fun k hk=>f.block k (h.CM.lt hk) (hD k hk)),h.ml⟩
theorem K0.hold (h:K0 w xb W nd held cs Ds) {x:Nat} (hx:x < nd):K0 w xb (W.setCell (π (w.heap.size+2) x) (.bool true)) nd (fun n=>held n||n==x) cs Ds:=by
 have jK:=h.jK;have f:ax [w.heap.size+2] W (W.setCell (π (w.heap.size+2) x) (.bool true)):=(ax.refl _ W).setCell (by simp) _;refine ⟨h.zm.setCell (by show w.heap.size<=w.heap.size+2;omega) _,Nat.le_trans h.low f.size,h.jK,h.b2.aB f (by simp),h.b3.aB f (by simp),?_,h.hx.aB f (by simp;omega),h.CM.keeps (fun k hk=>f.block k (h.CM.lt hk) (by simp;have:=h.ml k hk;omega)),h.ml⟩;refine (h.hr.set (o:=x) (by omega) (.bool true)).congr fun o ho=>?_;by_cases e:o=x
 ·rw [if_pos e];simp [e]
 ·rw [if_neg e];simp [e]
theorem K0.set (h:K0 w xb W nd held cs Ds) (o:Nat) (v:Value):K0 w xb (W.setCell (π (w.heap.size+1) o) v) nd held (cs.setIfInBounds o v) Ds:=by have jK:=h.jK;have f:ax [w.heap.size+1] W (W.setCell (π (w.heap.size+1) o) v):=(ax.refl _ W).setCell (by simp) _;exact ⟨h.zm.setCell (by show w.heap.size<=w.heap.size+1;omega) _,Nat.le_trans h.low f.size,h.jK,h.b2.aB f (by simp),h.b3.set o v,h.hr.aB f (fun x hx=>by simp [Value.ownBlock] at hx;subst hx;simp),h.hx.aB f (by simp;omega),h.CM.keeps (fun k hk=>f.block k (h.CM.lt hk) (by simp;have:=h.ml k hk;omega)),h.ml⟩
theorem K0.mark (h:K0 w xb W nd held cs Ds) {D:Nat} (hD:W.heap[D]? =some (.deferred (some []))) (hn:D∉Ds) (hl:xb+1<=D):K0 w xb W nd held cs (D::Ds):=by
 have jK:=h.jK;exact
 ⟨h.zm,h.low,h.jK,h.b2,h.b3,h.hr,h.hx,h.CM.cons hD hn,fun k hk=>by rcases List.mem_cons.1 hk with rfl|hk;exact hl;exact h.ml k hk⟩
theorem K0.M6 (h:K0 w xb W nd held cs Ds) {R7:Nat->Bool} (e:∀n,n < nd->held n=R7 n):K0 w xb W nd R7 cs Ds:=by
 have jK:=h.jK;exact
 ⟨h.zm,h.low,h.jK,h.b2,h.b3,h.hr.congr (fun o ho=>by rw [e o (by omega)]),h.hx,h.CM,h.ml⟩
theorem K3.aB (h:K3 w xb W h1 h2 nd held a b c d P fr ks ns Ds lv) {T:List Nat} (f:ax T W W') (hT:∀x,x∈T->xb+1<=x/\(W.heap.size<=x\/(∃o:Obj,W.heap[x]? =some o/\o.isCells=false)\/∃E cs,ay W x E cs/\E∉46::Ol)) (hD:∀D,D∈Ds->D∉T):K3 w xb W' h1 h2 nd held a b c d P fr ks ns Ds lv:=by
 have jK:=h.k.jK;have oo:se W (xb+1) W.heap.size (46::Ol) T:=fun x hx=>by
  rcases (hT x hx).2 with h'|h'|h'
  ·exact .inl (.inr h')
  ·exact .inr (.inr h')
  ·exact .inr (.inl h')
 exact ⟨h.k.aB f (fun x hx=>(hT x hx).1) hD,(h.lay.off f oo).mono f.size⟩
theorem K3.later (h:K3 w xb W h1 h2 nd held a b c d P fr ks ns Ds lv) (bl:Below W.heap.size W W'):K3 w xb W' h1 h2 nd held a b c d P fr ks ns Ds lv:=h.aB (ax.ah (S:=[]) bl) (by simp) (by simp)
theorem K3.grown (h:K3 w xb W h1 h2 nd held a b c d P fr ks ns Ds lv) {B:Nat} (hB:xb+1<=B) (M7:∀D,D∈Ds->D < B) {row:Option Nat} (hg:W.grownBy W' row) (hr:∀r,row=some r->B<=r/\∃o:Obj,W.heap[r]? =some o/\o.isCells=false):K3 w xb W' h1 h2 nd held a b c d P fr ks ns Ds lv:=by have jK:=h.k.jK;have hm:∀x,x∈row.toList->B<=x/\∃o:Obj,W.heap[x]? =some o/\o.isCells=false:=fun x hx=>hr x (by simpa using hx);exact h.aB (eJ hg) (fun x hx=>⟨by have:=(hm x hx).1;omega,.inr (.inl (hm x hx).2)⟩) (fun D hD hc=>by have:=(hm D hc).1;have:=M7 D hD;omega)
theorem K3.hold (h:K3 w xb W h1 h2 nd held a b c d P fr ks ns Ds lv) {x:Nat} (hx:x < nd):K3 w xb (W.setCell (π (w.heap.size+2) x) (.bool true)) h1 h2 nd (fun n=>held n||n==x) a b c d P fr ks ns Ds lv:=by have jK:=h.k.jK;have f:ax [w.heap.size+2] W (W.setCell (π (w.heap.size+2) x) (.bool true)):=(ax.refl _ W).setCell (by simp) _;exact ⟨h.k.hold hx,(h.lay.off f (fun y hy=>by simp at hy;subst hy;exact .inl (.inl (by omega)))).mono f.size⟩
theorem K3.of (h:K0 w xb W nd held #[a,b,c,d] Ds) (o:Nat) (v:Value) {a' b' c' d':Value} (e:(#[a,b,c,d]:Array Value).setIfInBounds o v=#[a',b',c',d']) {h1' h2':Nat} {P':List (List Nat)} {fr' ks':List Nat} {ns':List Int} {lv':Nat->Value} (hl:lI W (xb+1) h1' h2' W.heap.size a' b' c' d' ⟨P',fr',ks',ns'⟩ lv'):
 K3 w xb (W.setCell (π (w.heap.size+1) o) v) h1' h2' nd held a' b' c' d' P' fr' ks' ns' Ds lv':=by
 have jK:=h.jK;have f:ax [w.heap.size+1] W (W.setCell (π (w.heap.size+1) o) v):=(ax.refl _ W).setCell (by simp) _;exact ⟨by rw [<-e];exact h.set o v,(hl.off f (fun y hy=>by simp at hy;subst hy;exact .inl (.inl (by omega)))).mono f.size⟩
structure I1 (w:World) (xb:Nat) (W6 W:World) (lb h1 nd:Nat) (held:Nat->Bool) (a:Value) (P:List (List Nat)) (Ds:List Nat) (lv:Nat->Value) (pre:List Nat) (nv:Value):Prop where
 k:K3 w xb W h1 h1 nd held a dz dz dz P [] [] [] Ds lv
 bx:ay W lb 24 #[nv]
 ns:fL W W6.heap.size W.heap.size nv (fA pre)
 sz:xb+1<=lb/\h1<=lb/\lb < W6.heap.size/\W6.heap.size<=W.heap.size
section
variable {W6:World} {lb:Nat} {pre:List Nat} {nv:Value}
theorem I1.grown (h:I1 w xb W6 W lb h1 nd held a P Ds lv pre nv) (M7:∀D,D∈Ds->D < W6.heap.size) {row:Option Nat} (hg:W.grownBy W' row) (hr:∀r,row=some r->W6.heap.size<=r/\∃o:Obj,W.heap[r]? =some o/\o.isCells=false):I1 w xb W6 W' lb h1 nd held a P Ds lv pre nv:=by have jK:=h.k.k.jK;obtain ⟨z1,z2,z3,z4⟩:=h.sz;have f:=eJ hg;have hm:∀b,b∈row.toList->W6.heap.size<=b/\∃o:Obj,W.heap[b]? =some o/\o.isCells=false:=fun b hb=>hr b (by simpa using hb);exact ⟨h.k.grown (B:=W6.heap.size) (by omega) M7 hg hr,h.bx.of (Mk.KL.grown h.bx.Hm hg fun r e=>(hr r e).2),(h.ns.off f (fun b hb=> .inr (.inr (hm b hb).2))).mono (Nat.le_refl _) hg.size,z1,z2,z3,Nat.le_trans z4 hg.size⟩
theorem I1.next (h:I1 w xb W6 W lb h1 nd held a P Ds lv pre nv) {w1 w3:World} (b1:Below W.heap.size W w1) (f3:ax nv.ownBlock.toList w1 w3) {v':Value} {x:Nat} (hx:x < nd) (r3:Row w3 3 1 v' (pre.length+1) (gU (pre.length*1) (aU (fA pre)) fun _=> ι x)) (i3:v'.ownBlock=nv.ownBlock\/v'.ownBlock=some w1.heap.size):
 I1 w xb W6 ((w3.setCell (π lb 0) v').setCell (π (w.heap.size+2) x) (.bool true)) lb h1 nd (fun n=>held n||n==x) a P Ds lv (pre++[x]) v'/\
  ax (lb::(w.heap.size+2)::nv.ownBlock.toList) W ((w3.setCell (π lb 0) v').setCell (π (w.heap.size+2) x) (.bool true))/\(∀k,k∈lb::(w.heap.size+2)::nv.ownBlock.toList->Mk.KL W k)/\
  ((∀o,w3.frozen? (π lb o)=false)/\w3.cell? (π lb 0)=some nv/\w3.cell? (π xb 0)=some (.slice (some (π (w.heap.size+2) 0)) nd nd)/\(∀o,w3.frozen? (π (w.heap.size+2) o)=false)/\w3.cell? (π (w.heap.size+2) x)=some (.bool (held x))):=by
 have jK:=h.k.k.jK;obtain ⟨z1,z2,z3,z4⟩:=h.sz;have hn:∀b,b∈nv.ownBlock.toList->nv.ownBlock=some b:=fun b hb=>by simpa using hb
 have F1:ax [] W w1:=ax.ah b1;have F3:ax nv.ownBlock.toList W w3:=(F1.mono (by simp)).trans f3;have Zl:∀b,v'.ownBlock=some b->b < w3.heap.size:=fun b hb=>(World.ownsRow.lt r3 b hb).2;have xh:mN W6.heap.size w3.heap.size v':=fun b hb=>⟨by
  rcases i3 with h'|h'
  ·exact (h.ns.jy b (by rw [<-h',hb])).1
  ·rw [hb] at h';simp at h';have:=F1.size;omega,Zl b hb⟩
 have ns3:fL w3 W6.heap.size w3.heap.size v' (fA (pre++[x])):=by rw [yH];exact fL.snoc h.ns (by rw [mF];exact r3) xh
 have nD:∀b,b∈nv.ownBlock.toList->b∉Ds:=fun b hb=>h.k.k.CM.not (Row.Hm h.ns.row (hn b hb));have k3:K3 w xb w3 h1 h1 nd held a dz dz dz P [] [] [] Ds lv:=by obtain ⟨l1,l2,l3⟩:=h.k.lay.le;refine ⟨h.k.k.aB F3 (fun b hb=>by have:=h.ns.jy b (hn b hb);omega) (fun D hD hc=>nD D hc hD),?_⟩;exact ⟨h.k.lay.ls.off F3 (fun b hb=> .inl (.inr (by have:=h.ns.jy b (hn b hb);omega))),⟨Row.nil _ _ _ _,mN.nil _ _⟩,⟨Row.nil _ _ _ _,mN.nil _ _⟩,⟨Row.nil _ _ _ _,mN.nil _ _⟩,l1,l2,by have:=F3.size;omega⟩
 have Zm:ay w3 lb 24 #[nv]:=h.bx.aB F3 (fun hc=>by have:=h.ns.jy lb (hn lb hc);omega);have F4:ax [lb] w3 (w3.setCell (π lb 0) v'):=(ax.refl _ w3).setCell (by simp) _;have k4:K3 w xb (w3.setCell (π lb 0) v') h1 h1 nd held a dz dz dz P [] [] [] Ds lv:=by obtain ⟨l1,l2,l3⟩:=k3.lay.le;refine ⟨k3.k.aB F4 (by simp;omega) (fun D hD hc=>by simp at hc;subst hc;exact k3.k.CM.not Zm.Hm hD),?_⟩;exact ⟨k3.lay.ls.off F4 (fun b hb=>by simp at hb;subst hb;exact .inl (.inr z2)),⟨Row.nil _ _ _ _,mN.nil _ _⟩,⟨Row.nil _ _ _ _,mN.nil _ _⟩,⟨Row.nil _ _ _ _,mN.nil _ _⟩,l1,l2,by have:=F4.size;omega⟩
 have F5:ax [w.heap.size+2] (w3.setCell (π lb 0) v') ((w3.setCell (π lb 0) v').setCell (π (w.heap.size+2) x) (.bool true)):=(ax.refl _ _).setCell (by simp) _;refine ⟨⟨k4.hold hx,(Zm.set 0 v').aB F5 (by simp;omega),?_,z1,z2,z3,by have:=F3.size;have:=F4.size;have:=F5.size;omega⟩,?_,fun k hk=>?_,Zm.frozen,Zm.cell 0,k3.k.hx.cell 0,k3.k.hr.frozen,k3.k.hr.cell (o:=x) (by omega)⟩
 ·refine ((ns3.off F4 (fun b hb=>by simp at hb;subst hb;exact .inr (.inl ⟨_,_,Zm,by simp [zS]⟩))).off F5 (fun b hb=>by simp at hb;subst hb;exact .inl (.inl (by omega)))).mono (Nat.le_refl _) (Nat.le_trans F4.size F5.size)
 ·exact ((F3.mono (by intro k hk;simp [hk])).trans (F4.mono (by intro k hk;simp at hk;simp [hk]))).trans (F5.mono (by intro k hk;simp at hk;simp [hk]))
 ·rcases List.mem_cons.1 hk with rfl|hk
  ·exact h.bx.Hm
  rcases List.mem_cons.1 hk with rfl|hk
  ·exact Row.Hm h.k.k.hr rfl
  ·exact Row.Hm h.ns.row (hn k hk)
theorem I1.list (h:I1 w xb W6 W lb h1 nd held a P Ds lv pre nv) {w1 w3:World} (b1:Below W.heap.size W w1) (f3:ax a.ownBlock.toList w1 w3) {v':Value} (r3:Row w3 24 1 v' (P.length+1) (gU (P.length*1) lv fun _=>nv)) (i3:v'.ownBlock=a.ownBlock\/v'.ownBlock=some w1.heap.size) {D:Nat} (hD:W.heap[D]? =some (.deferred (some []))) (hD6:W6.heap.size<=D) (M7:∀D,D∈Ds->D < W6.heap.size):
 (∀o,w3.frozen? (π (w.heap.size+1) o)=false)/\w3.cell? (π (w.heap.size+1) 0)=some a/\w.heap.size+1 < w3.heap.size/\∃lv',K3 w xb (w3.setCell (π (w.heap.size+1) 0) v') w3.heap.size w3.heap.size nd held v' dz dz dz (P++[pre]) [] [] [] (D::Ds) lv':=by
 have jK:=h.k.k.jK;obtain ⟨z1,z2,z3,z4⟩:=h.sz;obtain ⟨l1,l2,l3⟩:=h.k.lay.le;have ha:∀b,b∈a.ownBlock.toList->a.ownBlock=some b:=fun b hb=>by simpa using hb
 have F1:ax [] W w1:=ax.ah b1;have F3:ax a.ownBlock.toList W w3:=(F1.mono (by simp)).trans f3;have ls1:=h.k.lay.ls.off F1 (se.nil _ _ _ _);have ns1:=h.ns.off F1 (se.nil _ _ _ _);have ty:∀lo hi,se w1 lo hi zS a.ownBlock.toList:=fun lo hi b hb=>by obtain ⟨cs,qt⟩:=ls1.row.typ (ha b hb);exact .inr (.inl ⟨_,cs,qt,by simp [zS]⟩)
 have ns3:=ns1.off f3 (ty _ _);have Zl:∀b,v'.ownBlock=some b->b < w3.heap.size:=fun b hb=>(World.ownsRow.lt r3 b hb).2;have Zn:=h.k.k.low;have xh:mN (xb+1) w3.heap.size v':=fun b hb=>⟨by
  rcases i3 with h'|h'
  ·exact (ls1.jy b (by rw [<-h',hb])).1
  ·rw [hb] at h';simp at h';have:=F1.size;omega,Zl b hb⟩
 have l3':=wG.snoc (w:=w1) (w':=w3) ls1 (ns3.mono (by omega) F3.size) (by have:=F1.size;omega) f3 (ty _ _) r3 xh (fun b hb=>by have:=h.ns.jy b hb;omega);have aD:∀b,b∈a.ownBlock.toList->b∉Ds:=fun b hb=>h.k.k.CM.not (Row.Hm h.k.lay.ls.row (ha b hb));have k3:K0 w xb w3 nd held #[a,dz,dz,dz] Ds:=h.k.k.aB F3 (fun b hb=>(h.k.lay.ls.jy b (ha b hb)).1) (fun D hD hc=>aD D hc hD);have hDn:D∉Ds:=fun hc=>by have:=M7 D hc;omega
 have hDa:D∉a.ownBlock.toList:=fun hc=>by have:=h.k.lay.ls.jy D (ha D hc);omega
 have hD3:w3.heap[D]? =some (.deferred (some [])):=(F3.block D (Array.getElem?_eq_some_iff.1 hD).1 hDa).trans hD;refine ⟨k3.b3.frozen,k3.b3.cell 0,k3.b3.lt,_,K3.of (k3.mark hD3 hDn (by omega)) 0 v' rfl ⟨l3',⟨Row.nil _ _ _ _,mN.nil _ _⟩,⟨Row.nil _ _ _ _,mN.nil _ _⟩,⟨Row.nil _ _ _ _,mN.nil _ _⟩,by have:=k3.low;omega,Nat.le_refl _,Nat.le_refl _⟩⟩
end
theorem K3.free (h:K3 w xb W h1 h2 nd held a b dz dz P fr [] [] Ds lv) {w1 w3:World} (b1:Below W.heap.size W w1) (f3:ax b.ownBlock.toList w1 w3) {v':Value} {x:Nat} (r3:Row w3 3 1 v' (fr.length+1) (gU (fr.length*1) (aU (fA fr)) fun _=> ι x)) (i3:v'.ownBlock=b.ownBlock\/v'.ownBlock=some w1.heap.size):
 (∀o,w3.frozen? (π (w.heap.size+1) o)=false)/\w3.cell? (π (w.heap.size+1) 1)=some b/\w.heap.size+1 < w3.heap.size/\K3 w xb (w3.setCell (π (w.heap.size+1) 1) v') h1 w3.heap.size nd held a v' dz dz P (fr++[x]) [] [] Ds lv:=by
 have jK:=h.k.jK;obtain ⟨l1,l2,l3⟩:=h.lay.le;have hb:∀k,k∈b.ownBlock.toList->b.ownBlock=some k:=fun k hk=>by simpa using hk
 have F1:ax [] W w1:=ax.ah b1;have F3:ax b.ownBlock.toList W w3:=(F1.mono (by simp)).trans f3;have Zl:∀k,v'.ownBlock=some k->k < w3.heap.size:=fun k hk=>(World.ownsRow.lt r3 k hk).2;have xh:mN h1 w3.heap.size v':=fun k hk=>⟨by
  rcases i3 with h'|h'
  ·exact (h.lay.fr.jy k (by rw [<-h',hk])).1
  ·rw [hk] at h';simp at h';have:=F1.size;omega,Zl k hk⟩
 have fr3:fL w3 h1 w3.heap.size v' (fA (fr++[x])):=by rw [yH];exact fL.snoc h.lay.fr (by rw [mF];exact r3) xh
 have bD:∀k,k∈b.ownBlock.toList->k∉Ds:=fun k hk=>h.k.CM.not (Row.Hm h.lay.fr.row (hb k hk));have k3:K0 w xb w3 nd held #[a,b,dz,dz] Ds:=h.k.aB F3 (fun k hk=>by have:=h.lay.fr.jy k (hb k hk);omega) (fun D hD hc=>bD D hc hD);have ls3:=h.lay.ls.off F3 (fun k hk=> .inl (.inr (by have:=h.lay.fr.jy k (hb k hk);omega)));refine ⟨k3.b3.frozen,k3.b3.cell 1,k3.b3.lt,K3.of k3 1 v' rfl ⟨ls3,fr3,⟨Row.nil _ _ _ _,mN.nil _ _⟩,⟨Row.nil _ _ _ _,mN.nil _ _⟩,l1,by have:=F3.size;omega,Nat.le_refl _⟩⟩
theorem K3.Zo (h:K3 w xb W h1 h2 nd held a b c d P fr ks ns Ds lv) {w1 wy:World} (F1:ax c.ownBlock.toList W w1) (b2:Below w1.heap.size w1 wy):Row wy 3 1 d ns.length (aU ns):=by
 refine (h.lay.ns.row.aB F1 fun k hk hc=>?_).aB (ax.ah (S:=[]) b2) (by simp);rcases Row.ne h.lay.ns.row h.lay.ks.row (by decide) with h'|h'
 ·rw [hk] at h';cases h'
 ·have Ss:c.ownBlock=some k:=by simpa using hc
  exact h' (by rw [hk,Ss])
theorem K3.pair (h:K3 w xb W h1 h2 nd held a b c d P fr ks ns Ds lv) {w1 wy w2:World} {v1 v2:Value} {key:Nat} {n:Int} (F1:ax c.ownBlock.toList W w1) (r1:Row w1 46 1 v1 (ks.length+1) (gU (ks.length*1) (nK ks) fun _=> .int .u64 key)) (i1:∀k,v1.ownBlock=some k->c.ownBlock=some k\/W.heap.size<=k)
 (b2:Below w1.heap.size w1 wy) (f2:ax d.ownBlock.toList wy w2) (r2:Row w2 3 1 v2 (ns.length+1) (gU (ns.length*1) (aU ns) fun _=> ι n)) (i2:v2.ownBlock=d.ownBlock\/v2.ownBlock=some wy.heap.size):
 (∀o,w2.frozen? (π (w.heap.size+1) o)=false)/\w2.cell? (π (w.heap.size+1) 2)=some c/\w2.cell? (π (w.heap.size+1) 3)=some d/\w.heap.size+1 < w2.heap.size/\
   K3 w xb ((w2.setCell (π (w.heap.size+1) 2) v1).setCell (π (w.heap.size+1) 3) v2) h1 h2 nd held a b v1 v2 P fr (ks++[key]) (ns++[n]) Ds lv/\
   ax ((w.heap.size+1)::(c.ownBlock.toList++d.ownBlock.toList)) W ((w2.setCell (π (w.heap.size+1) 2) v1).setCell (π (w.heap.size+1) 3) v2)/\∀k,k∈(w.heap.size+1)::(c.ownBlock.toList++d.ownBlock.toList)->Mk.KL W k:=by
 have jK:=h.k.jK;obtain ⟨l1,l2,l3⟩:=h.lay.le;have hc:∀k,k∈c.ownBlock.toList->c.ownBlock=some k:=fun k hk=>by simpa using hk
 have hd:∀k,k∈d.ownBlock.toList->d.ownBlock=some k:=fun k hk=>by simpa using hk
 have F2:ax (c.ownBlock.toList++d.ownBlock.toList) W w2:=((F1.trans (ax.ah (S:=c.ownBlock.toList) b2)).mono (by intro k hk;simp at hk;simp [hk])).trans (f2.mono (by intro k hk;simp at hk;simp [hk]));have dK:∀k,k∈c.ownBlock.toList++d.ownBlock.toList->h2<=k/\Mk.KL W k:=fun k hk=>by
  rcases List.mem_append.1 hk with hk|hk
  ·exact ⟨(h.lay.ks.jy k (hc k hk)).1,Row.Hm h.lay.ks.row (hc k hk)⟩
  ·exact ⟨(h.lay.ns.jy k (hd k hk)).1,Row.Hm h.lay.ns.row (hd k hk)⟩
 have lt1:∀k,v1.ownBlock=some k->k < w1.heap.size:=fun k hk=>(World.ownsRow.lt r1 k hk).2;have lt2:∀k,v2.ownBlock=some k->k < w2.heap.size:=fun k hk=>(World.ownsRow.lt r2 k hk).2;have zz:w1.heap.size<=wy.heap.size:=b2.size;have s22:wy.heap.size<=w2.heap.size:=f2.size;have s01:W.heap.size<=w1.heap.size:=F1.size;have r1y:=r1.aB (ax.ah (S:=[]) b2) (by simp);have rNy:=h.Zo F1 b2;have r12:Row w2 46 1 v1 (ks.length+1) (gU (ks.length*1) (nK ks) fun _=> .int .u64 key):=r1y.aB f2 (fun k hk Ss=>by
  rcases Row.ne r1y rNy (by decide) with h'|h'
  ·rw [hk] at h';cases h'
  ·exact h' (by rw [hk,hd k Ss]))
 have k2:kB w2 h2 w2.heap.size v1 (ks++[key]):=kB.snoc h.lay.ks r12 (fun k hk=>⟨by
  rcases i1 k hk with h'|h'
  ·exact (h.lay.ks.jy k h').1
  ·omega,by have:=lt1 k hk;omega⟩)
 have n2:fL w2 h2 w2.heap.size v2 (ns++[n]):=fL.snoc h.lay.ns r2 (fun k hk=>⟨by
  rcases i2 with h'|h'
  ·exact (h.lay.ns.jy k (by rw [<-h',hk])).1
  ·rw [hk] at h';simp at h';omega,lt2 k hk⟩)
 have ls2:=h.lay.ls.off F2 (fun k hk=> .inl (.inr (by have:=(dK k hk).1;omega)));have fr2:=h.lay.fr.off F2 (fun k hk=> .inl (.inr (dK k hk).1));have GM:K0 w xb w2 nd held #[a,b,c,d] Ds:=h.k.aB F2 (fun k hk=>by have:=(dK k hk).1;omega) (fun D hD hk=>h.k.CM.not (dK D hk).2 hD);have e1:=K3.of GM 2 v1 (a':=a) (b':=b) (c':=v1) (d':=d) rfl (lv':=lv) (h1':=h1) (h2':=h2) (P':=P) (fr':=fr) (ks':=ks++[key]) (ns':=[]);have F4:ax [w.heap.size+1] w2 (w2.setCell (π (w.heap.size+1) 2) v1):=(ax.refl _ w2).setCell (by simp) _;have F5:ax [w.heap.size+1] (w2.setCell (π (w.heap.size+1) 2) v1) ((w2.setCell (π (w.heap.size+1) 2) v1).setCell (π (w.heap.size+1) 3) v2):=(ax.refl _ _).setCell (by simp) _;have kk4:=(GM.set 2 v1).set 3 v2;clear e1;have oo:∀(wz:World) lo hi Es,xb+1<=lo->se wz lo hi Es [w.heap.size+1]:=fun wz lo hi Es hl k hk=>by simp at hk;subst hk;exact .inl (.inl (by omega))
 have aaR:lI w2 (xb+1) h1 h2 w2.heap.size a b v1 v2 ⟨P,fr,ks++[key],ns++[n]⟩ lv:=⟨ls2,fr2,k2,n2,l1,l2,by omega⟩;refine ⟨GM.b3.frozen,GM.b3.cell 2,GM.b3.cell 3,GM.b3.lt,⟨kk4,((aaR.off F4 (oo _ _ _ _ (Nat.le_refl _))).off F5 (oo _ _ _ _ (Nat.le_refl _))).mono (Nat.le_trans F4.size F5.size)⟩,?_,fun k hk=>?_⟩
 ·exact ((F2.mono (by intro k hk;simp at hk ⊢;exact .inr hk)).trans (F4.mono (by intro k hk;simp at hk;simp [hk]))).trans (F5.mono (by intro k hk;simp at hk;simp [hk]))
 ·rcases List.mem_cons.1 hk with rfl|hk
  ·exact h.k.b3.Hm
  ·exact (dK k hk).2
end
end Go.Proofs.YtblkblclmbhjiaaGreat.Ma
