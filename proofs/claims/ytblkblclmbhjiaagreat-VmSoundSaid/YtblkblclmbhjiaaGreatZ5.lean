import Derived.Test.YtblkblclmbhjiaaGreatZ4
import Derived.Laws.Tables
import Derived.Shelf.Bits.Mul64
import Derived.Deep.Onto
import Derived.ArgAppend
set_option linter.all false
set_option maxHeartbeats 40000000
set_option maxRecDepth 100000
open Go.Proofs.Tryz
open Option renaming some->O,none->Xb
open Go renaming Value->to,World->ek
open Go.Value renaming slice->H
open Go.Obj renaming cells->Xe
open Go.Ending renaming returned->Xc
open Go.World renaming cell?->Xf
abbrev rZ:=@List.getElem_of_mem
abbrev Aj:=@Array.getD_eq_getD_getElem?
abbrev Ak:=@Array.getElem?_eq_getElem
namespace Go.Ma
open Go.RowKit al.Vm Go.Shelf
open al hiding aS aw an
open eO (cw bP eY)
open Ix (dp)
def jm(l:List Nat):List Int:=l.map λn:Nat=>(n:Int)
def gB(l:List Nat):(jm l).length=l.length:=by simp[jm]
def Cn(l:List Nat)(x:Nat):jm (l++[x])=jm l++[(x:Int)]:=by simp[jm]
def sJ(l:List Nat)(i:Nat):(jm l).getD i 0=((l.getD i 0:Nat):Int):=by
 unfold jm;by_cases h:i<l.length
 ·simp[List.getD,h]
 ·simp[List.getD,h]
def nR{α:Type}(l:List α)(x d:α)(o:Nat):(o<l.length->(l++[x]).getD o d=l.getD o d)/\(o=l.length->(l++[x]).getD o d=x):=by
 constructor
 ·intro h;simp[List.getD,Cb,h]
 ·intro h;subst h;simp[List.getD]
def fg.snoc{w w':ek}{lo hi hi':Nat}{v v':to}{l:List Int}{x:Int}(h:fg w lo hi v l)(hr:Row w' 3 1 v' (l.length+1) (gQ (l.length*1) (bd l) λ_=> Y x))(hv:nQ lo hi' v'):fg w' lo hi' v' (l++[x]):=by
 refine⟨?_,hv⟩;rw[mT,Cm];refine hr.congr λo ho=>?_;unfold gQ bd;by_cases h1:o<l.length
 ·rw[aE G,(nR l x 0 o).1 h1]
 ·rw[ax G,(nR l x 0 o).2 G]
def ni(l:List Nat)(i:Nat):to:= .int .u64 (l.getD i 0:Nat)
structure mR(w:ek)(lo hi:Nat)(v:to)(l:List Nat):Prop where
 row:Row w 46 1 v l.length (ni l)
 jJ:nQ lo hi v
def mR.off{w w':ek}{lo hi:Nat}{v:to}{l:List Nat}{S:List Nat}(h:mR w lo hi v l)(f:aC S w w')(k:kD w lo hi [46] S):mR w' lo hi v l:=⟨Row.off h.row h.jJ az f k,h.jJ⟩
def mR.mono{w:ek}{lo hi vq hi':Nat}{v:to}{l:List Nat}(h:mR w lo hi v l)(h1:vq<=lo)(h2:hi<=hi'):mR w vq hi' v l:=⟨h.row,h.jJ.mono h1 h2⟩
def mR.snoc{w w':ek}{lo hi hi':Nat}{v v':to}{l:List Nat}{x:Nat}(h:mR w lo hi v l)(hr:Row w' 46 1 v' (l.length+1) (gQ (l.length*1) (ni l) λ_=> .int .u64 x))(hv:nQ lo hi' v'):mR w' lo hi' v' (l++[x]):=by
 refine⟨?_,hv⟩;rw[mT,Cm];refine hr.congr λo ho=>?_;unfold gQ ni;by_cases h1:o<l.length
 ·rw[aE G,(nR l x 0 o).1 h1]
 ·rw[ax G,(nR l x 0 o).2 G]
def Th:List TypeId:=[24,3]
structure Ac(w:ek)(lo hi:Nat)(v:to)(P:List (List Nat))(lv:Nat->to):Prop where
 row:Row w 24 1 v P.length lv
 jJ:nQ lo hi v
 q:∀q,q<P.length->fg w lo hi (lv q) (jm (P.getD q []))
 sep:∀q q',q<P.length->q'<P.length->q≠q'->(lv q).ownBlock=Xb\/(lv q).ownBlock≠(lv q').ownBlock
def Ac.off{w w':ek}{lo hi:Nat}{v:to}{P:List (List Nat)}{lv:Nat->to}{S:List Nat}(h:Ac w lo hi v P lv)(f:aC S w w')(k:kD w lo hi Th S):Ac w' lo hi v P lv:=
 ⟨Row.off h.row h.jJ (by simp[Th]) f k,h.jJ,λq hq=>(h.q q hq).off f (k.sub (by simp[Th,wB])),h.sep⟩
def Ac.mono{w:ek}{lo hi vq hi':Nat}{v:to}{P:List (List Nat)}{lv:Nat->to}(h:Ac w lo hi v P lv)(h1:vq<=lo)(h2:hi<=hi'):Ac w vq hi' v P lv:=⟨h.row,h.jJ.mono h1 h2,λq hq=>(h.q q hq).mono h1 h2,h.sep⟩
def Ac.snoc{w w':ek}{lo hi:Nat}{v v':to}{P:List (List Nat)}{lv:Nat->to}(h:Ac w lo hi v P lv){l:List Nat}{ev:to}(he:fg w' lo w'.heap.size ev (jm l))(hle:hi<=w.heap.size)
 {S:List Nat} (f:aC S w w') (hS:kD w lo hi wB S) (hr:Row w' 24 1 v' (P.length+1) (gQ (P.length*1) lv λ_=>ev)) (hv:nQ lo w'.heap.size v') (hn:∀b,ev.ownBlock=O b->hi<=b):
 Ac w' lo w'.heap.size v' (P++[l]) (λq=>if q<P.length then lv q else ev):=by
 have hlen:(P++[l]).length=P.length+1:=by simp
 refine⟨?_,hv,λq hq=>?_,λq q' hq Ol bt=>?_⟩
 ·rw[hlen];refine hr.congr λo ho=>?_;unfold gQ;dsimp only;by_cases h1:o<P.length
  ·rw[aE G,aE h1]
  ·rw[ax G,ax h1]
 ·rw[hlen]at hq;by_cases h1:q<P.length
  ·rw[aE h1,(nR P l [] q).1 h1];exact((h.q q h1).off f hS).mono (aL _) (bS hle f.size)
  ·rw[ax h1,(nR P l [] q).2 G];exact he
 ·rw[hlen]at hq Ol;by_cases h1:q<P.length
  ·by_cases h2:q'<P.length
   ·rw[aE h1,aE h2];exact h.sep q q' h1 h2 bt
   ·exact qX7
  ·by_cases h2:q'<P.length
   ·exact qX8
   ·omega
structure PL where
 lists:List (List Nat)
 free:List Nat
 keys:List Nat
 nodes:List Int
 deriving DecidableEq
structure nj(w:ek)(lo h1 h2 hi:Nat)(a b c d:to)(L:PL)(lv:Nat->to):Prop where
 ls:Ac w lo h1 a L.lists lv
 fr:fg w h1 h2 b (jm L.free)
 ks:mR w h2 hi c L.keys
 ns:fg w h2 hi d L.nodes
 le:lo<=h1/\h1<=h2/\h2<=hi
abbrev d_:to:=Xd
structure K0(w:ek)(xb:Nat)(W:ek)(nd:Nat)(held:Nat->Bool)(cs:Array to)(Ds:List Nat):Prop where
 uo:Below w.heap.size w W
 low:xb+1<=W.heap.size
 me:w.heap.size+2<xb
 b2:aH W w.heap.size 52 #[d_,d_,d_,d_]
 b3:aH W (w.heap.size+1) 52 cs
 hr:Row W 4 1 (H (O (I (w.heap.size+2) 0)) nd nd) nd (λn=> .bool (held n))
 hx:aH W (xb) 22 #[H (O (I (w.heap.size+2) 0)) nd nd]
 uu:Mk.Marks W Ds
 ml:∀D,D∈Ds->xb+1<=D
structure K3(w:ek)(xb:Nat)(W:ek)(h1 h2 nd:Nat)(held:Nat->Bool)(a b c d:to)(P:List (List Nat))(fr ks:List Nat)(ns:List Int)(Ds:List Nat)(lv:Nat->to):Prop where
 k:K0 w xb W nd held #[a,b,c,d] Ds
 lay:nj W (xb+1) h1 h2 W.heap.size a b c d ⟨P,fr,ks,ns⟩ lv
section
variable {w W W':ek}{xb h1 h2 nd:Nat}{held:Nat->Bool}{a b c d:to}{P:List (List Nat)}{fr ks:List Nat}{ns:List Int}{Ds:List Nat}{lv:Nat->to}{cs:Array to}
def nj.off{w w':ek}{lo hi:Nat}{L:PL}{T:List Nat}(h:nj w lo h1 h2 hi a b c d L lv)(f:aC T w w')(k:kD w lo hi (46::Th) T):nj w' lo h1 h2 hi a b c d L lv:=by
 obtain⟨l1,l2,l3⟩:=h.le;have key:∀x y Es,lo<=x->y<=hi->(∀e,e∈Es->e∈46::Th)->kD w x y Es T:=λx y Es hx hy hE b X=>by
  rcases k b X with h'|⟨E,cs,e1,e2⟩|h'
  ·exact .inl G
  ·exact .inr (.inl ⟨E,cs,e1,λhc=>e2 (hE _ hc)⟩)
  ·exact .inr (.inr h')
 exact⟨h.ls.off f (key _ _ _ (aL _) G (by simp[Th])),h.fr.off f (key _ _ _ l1 l3 (by simp[Th,wB])),h.ks.off f (key _ _ _ G (aL _) az),h.ns.off f (key _ _ _ G (aL _) (by simp[Th,wB])),h.le⟩
def nj.mono{w:ek}{lo hi hi':Nat}{L:PL}(h:nj w lo h1 h2 hi a b c d L lv)(hh:hi<=hi'):nj w lo h1 h2 hi' a b c d L lv:=
 ⟨h.ls,h.fr,h.ks.mono (aL _) hh,h.ns.mono (aL _) hh,h.le.1,h.le.2.1,bS h.le.2.2 hh⟩
def K0.aG(h:K0 w xb W nd held cs Ds){T:List Nat}(f:aC T W W')(hT:∀x,x∈T->xb+1<=x)(hD:∀D,D∈Ds->D∉T):K0 w xb W' nd held cs Ds:=by
 have me:=h.me;have nn:∀k,k<xb+1->k∉T:=λk hk hc=>by have:=hT k hc;omega
 exact⟨h.uo.trans (f.below h.uo.size (λk hk=>by have:=hT k hk;omega)),bS h.low f.size,h.me,h.b2.aG f (nn _ G),h.b3.aG f (nn _ G),h.hr.aG f (λx hx=>by simp[Value.ownBlock]at hx;subst hx;exact nn _ G),h.hx.aG f (nn _ G),
  h.uu.keeps (λk hk=>f.block k (h.uu.lt hk) (hD k hk)),h.ml⟩
def K0.hold(h:K0 w xb W nd held cs Ds){x:Nat}(hx:x<nd):K0 w xb (W.setCell (I (w.heap.size+2) x) (.bool true)) nd (λn=>held n||n==x) cs Ds:=by
 have me:=h.me;have f:aC [w.heap.size+2] W (W.setCell (I (w.heap.size+2) x) (.bool true)):=(aC.refl _ W).setCell az _;refine⟨h.uo.setCell (by show w.heap.size<=w.heap.size+2;omega) _,bS h.low f.size,h.me,h.b2.aG f az,h.b3.aG f az,?_,h.hx.aG f kZ,h.uu.keeps (λk hk=>f.block k (h.uu.lt hk) (by simp;have:=h.ml k hk;omega)),h.ml⟩;refine(h.hr.set (o:=x) G (.bool true)).congr λo ho=>?_;by_cases e:o=x
 ·rw[aE e];simp[e]
 ·rw[ax e];simp[e]
def K0.set(h:K0 w xb W nd held cs Ds)(o:Nat)(v:to):K0 w xb (W.setCell (I (w.heap.size+1) o) v) nd held (cs.setIfInBounds o v) Ds:=by have me:=h.me;have f:aC [w.heap.size+1] W (W.setCell (I (w.heap.size+1) o) v):=(aC.refl _ W).setCell az _;exact⟨h.uo.setCell (by show w.heap.size<=w.heap.size+1;omega) _,bS h.low f.size,h.me,h.b2.aG f az,h.b3.set o v,h.hr.aG f (λx hx=>by simp[Value.ownBlock]at hx;subst hx;simp),h.hx.aG f kZ,h.uu.keeps (λk hk=>f.block k (h.uu.lt hk) (by simp;have:=h.ml k hk;omega)),h.ml⟩
def K0.mark(h:K0 w xb W nd held cs Ds){D:Nat}(hD:W.heap[D]? =O (.deferred (O [])))(hn:D∉Ds)(hl:xb+1<=D):K0 w xb W nd held cs (D::Ds):=by
 have me:=h.me;exact
 ⟨h.uo,h.low,h.me,h.b2,h.b3,h.hr,h.hx,h.uu.cons hD hn,λk hk=>by rcases List.mem_cons.1 hk with rfl|hk;exact hl;exact h.ml k hk⟩
def K0.QW(h:K0 w xb W nd held cs Ds){Yg:Nat->Bool}(e:∀n,n<nd->held n=Yg n):K0 w xb W nd Yg cs Ds:=by
 have me:=h.me;exact
 ⟨h.uo,h.low,h.me,h.b2,h.b3,h.hr.congr (λo ho=>by rw[e o G]),h.hx,h.uu,h.ml⟩
def K3.aG(h:K3 w xb W h1 h2 nd held a b c d P fr ks ns Ds lv){T:List Nat}(f:aC T W W')(hT:∀x,x∈T->xb+1<=x/\(W.heap.size<=x\/(∃o:Obj,W.heap[x]? =O o/\o.isCells=false)\/∃E cs,aH W x E cs/\E∉46::Th))(hD:∀D,D∈Ds->D∉T):K3 w xb W' h1 h2 nd held a b c d P fr ks ns Ds lv:=by
 have me:=h.k.me;have oo:kD W (xb+1) W.heap.size (46::Th) T:=λx hx=>by
  rcases(hT x hx).2 with h'|h'|h'
  ·exact .inl (.inr h')
  ·exact .inr (.inr h')
  ·exact .inr (.inl h')
 exact⟨h.k.aG f (λx hx=>(hT x hx).1) hD,(h.lay.off f oo).mono f.size⟩
def K3.later(h:K3 w xb W h1 h2 nd held a b c d P fr ks ns Ds lv)(bl:Below W.heap.size W W'):K3 w xb W' h1 h2 nd held a b c d P fr ks ns Ds lv:=h.aG (aC.ai (S:=[]) bl) az az
def K3.grown(h:K3 w xb W h1 h2 nd held a b c d P fr ks ns Ds lv){B:Nat}(hB:xb+1<=B)(Bh:∀D,D∈Ds->D<B){row:Option Nat}(hg:W.grownBy W' row)(hr:∀r,row=O r->B<=r/\∃o:Obj,W.heap[r]? =O o/\o.isCells=false):K3 w xb W' h1 h2 nd held a b c d P fr ks ns Ds lv:=by have me:=h.k.me;have hm:∀x,x∈row.toList->B<=x/\∃o:Obj,W.heap[x]? =O o/\o.isCells=false:=λx hx=>hr x (by simpa using hx);exact h.aG (ej hg) (λx hx=>⟨by have:=(hm x hx).1;omega,.inr (.inl (hm x hx).2)⟩) (λD hD hc=>by have:=(hm D hc).1;have:=Bh D hD;omega)
def K3.hold(h:K3 w xb W h1 h2 nd held a b c d P fr ks ns Ds lv){x:Nat}(hx:x<nd):K3 w xb (W.setCell (I (w.heap.size+2) x) (.bool true)) h1 h2 nd (λn=>held n||n==x) a b c d P fr ks ns Ds lv:=by have me:=h.k.me;have f:aC [w.heap.size+2] W (W.setCell (I (w.heap.size+2) x) (.bool true)):=(aC.refl _ W).setCell az _;exact⟨h.k.hold hx,(h.lay.off f (λy hy=>by simp at hy;subst hy;exact .inl (.inl G))).mono f.size⟩
def K3.of(h:K0 w xb W nd held #[a,b,c,d] Ds)(o:Nat)(v:to){a' b' c' d':to}(e:(#[a,b,c,d]:Array to).setIfInBounds o v=#[a',b',c',d']){h1' h2':Nat}{P':List (List Nat)}{fr' ks':List Nat}{ns':List Int}{lv':Nat->to}(hl:nj W (xb+1) h1' h2' W.heap.size a' b' c' d' ⟨P',fr',ks',ns'⟩ lv'):
 K3 w xb (W.setCell (I (w.heap.size+1) o) v) h1' h2' nd held a' b' c' d' P' fr' ks' ns' Ds lv':=by
 have me:=h.me;have f:aC [w.heap.size+1] W (W.setCell (I (w.heap.size+1) o) v):=(aC.refl _ W).setCell az _;exact⟨by rw[<-e];exact h.set o v,(hl.off f (λy hy=>by simp at hy;subst hy;exact .inl (.inl G))).mono f.size⟩
structure I1(w:ek)(xb:Nat)(W6 W:ek)(lb h1 nd:Nat)(held:Nat->Bool)(a:to)(P:List (List Nat))(Ds:List Nat)(lv:Nat->to)(pre:List Nat)(nv:to):Prop where
 k:K3 w xb W h1 h1 nd held a d_ d_ d_ P [] [] [] Ds lv
 bx:aH W lb 24 #[nv]
 ns:fg W W6.heap.size W.heap.size nv (jm pre)
 sz:xb+1<=lb/\h1<=lb/\lb<W6.heap.size/\W6.heap.size<=W.heap.size
section
variable {W6:ek}{lb:Nat}{pre:List Nat}{nv:to}
def I1.grown(h:I1 w xb W6 W lb h1 nd held a P Ds lv pre nv)(Bh:∀D,D∈Ds->D<W6.heap.size){row:Option Nat}(hg:W.grownBy W' row)(hr:∀r,row=O r->W6.heap.size<=r/\∃o:Obj,W.heap[r]? =O o/\o.isCells=false):I1 w xb W6 W' lb h1 nd held a P Ds lv pre nv:=by have me:=h.k.k.me;obtain⟨z1,z2,z3,z4⟩:=h.sz;have f:=ej hg;have hm:∀b,b∈row.toList->W6.heap.size<=b/\∃o:Obj,W.heap[b]? =O o/\o.isCells=false:=λb X=>hr b (by simpa using X);exact⟨h.k.grown (B:=W6.heap.size) G Bh hg hr,h.bx.of (Mk.PP.grown h.bx.B0 hg λr e=>(hr r e).2),(h.ns.off f (λb X=> .inr (.inr (hm b X).2))).mono (aL _) hg.size,z1,z2,z3,bS z4 hg.size⟩
def I1.next(h:I1 w xb W6 W lb h1 nd held a P Ds lv pre nv){w1 w3:ek}(b1:Below W.heap.size W w1)(f3:aC nv.ownBlock.toList w1 w3){v':to}{x:Nat}(hx:x<nd)(r3:Row w3 3 1 v' (pre.length+1) (gQ (pre.length*1) (bd (jm pre)) λ_=> Y x))(i3:v'.ownBlock=nv.ownBlock\/v'.ownBlock=O w1.heap.size):
 I1 w xb W6 ((w3.setCell (I lb 0) v').setCell (I (w.heap.size+2) x) (.bool true)) lb h1 nd (λn=>held n||n==x) a P Ds lv (pre++[x]) v'/\
  aC (lb::(w.heap.size+2)::nv.ownBlock.toList) W ((w3.setCell (I lb 0) v').setCell (I (w.heap.size+2) x) (.bool true))/\(∀k,k∈lb::(w.heap.size+2)::nv.ownBlock.toList->Mk.PP W k)/\
  ((∀o,w3.frozen? (I lb o)=false)/\Xf w3 (I lb 0)=O nv/\Xf w3 (I xb 0)=O (H (O (I (w.heap.size+2) 0)) nd nd)/\(∀o,w3.frozen? (I (w.heap.size+2) o)=false)/\Xf w3 (I (w.heap.size+2) x)=O (.bool (held x))):=by
 have me:=h.k.k.me;obtain⟨z1,z2,z3,z4⟩:=h.sz;have hn:∀b,b∈nv.ownBlock.toList->nv.ownBlock=O b:=λb X=>by simpa using X
 have F1:aC [] W w1:=aC.ai b1;have F3:aC nv.ownBlock.toList W w3:=(F1.mono az).trans f3;have UT:∀b,v'.ownBlock=O b->b<w3.heap.size:=λb X=>(gW r3 b X).2;have uW:nQ W6.heap.size w3.heap.size v':=λb X=>⟨by
  rcases i3 with h'|h'
  ·exact(h.ns.jJ b (by rw[<-h',X])).1
  ·rw[X]at h';simp at h';have:=F1.size;omega,UT b X⟩
 have ns3:fg w3 W6.heap.size w3.heap.size v' (jm (pre++[x])):=by rw[Cn];exact fg.snoc h.ns (by rw[gB];exact r3) uW
 have nD:∀b,b∈nv.ownBlock.toList->b∉Ds:=λb X=>h.k.k.uu.not (Row.B0 h.ns.row (hn b X));have k3:K3 w xb w3 h1 h1 nd held a d_ d_ d_ P [] [] [] Ds lv:=by obtain⟨l1,l2,l3⟩:=h.k.lay.le;refine⟨h.k.k.aG F3 (λb X=>by have:=h.ns.jJ b (hn b X);omega) (λD hD hc=>nD D hc hD),?_⟩;exact⟨h.k.lay.ls.off F3 (λb X=> .inl (.inr (by have:=h.ns.jJ b (hn b X);omega))),⟨Row.nil _ _ _ _,nQ.nil _ _⟩,⟨Row.nil _ _ _ _,nQ.nil _ _⟩,⟨Row.nil _ _ _ _,nQ.nil _ _⟩,l1,l2,by have:=F3.size;omega⟩
 have QX:aH w3 lb 24 #[nv]:=h.bx.aG F3 (λhc=>by have:=h.ns.jJ lb (hn lb hc);omega);have F4:aC [lb] w3 (w3.setCell (I lb 0) v'):=(aC.refl _ w3).setCell az _;have k4:K3 w xb (w3.setCell (I lb 0) v') h1 h1 nd held a d_ d_ d_ P [] [] [] Ds lv:=by obtain⟨l1,l2,l3⟩:=k3.lay.le;refine⟨k3.k.aG F4 kZ (λD hD hc=>by simp at hc;subst hc;exact k3.k.uu.not QX.B0 hD),?_⟩;exact⟨k3.lay.ls.off F4 (λb X=>by simp at X;subst X;exact .inl (.inr z2)),⟨Row.nil _ _ _ _,nQ.nil _ _⟩,⟨Row.nil _ _ _ _,nQ.nil _ _⟩,⟨Row.nil _ _ _ _,nQ.nil _ _⟩,l1,l2,by have:=F4.size;omega⟩
 have F5:aC [w.heap.size+2] (w3.setCell (I lb 0) v') ((w3.setCell (I lb 0) v').setCell (I (w.heap.size+2) x) (.bool true)):=(aC.refl _ _).setCell az _;refine⟨⟨k4.hold hx,(QX.set 0 v').aG F5 kZ,?_,z1,z2,z3,by have:=F3.size;have:=F4.size;have:=F5.size;omega⟩,?_,λk hk=>?_,QX.frozen,QX.cell 0,k3.k.hx.cell 0,k3.k.hr.frozen,k3.k.hr.cell (o:=x) G⟩
 ·refine((ns3.off F4 (λb X=>by simp at X;subst X;exact .inr (.inl ⟨_,_,QX,by simp[wB]⟩))).off F5 (λb X=>by simp at X;subst X;exact .inl (.inl G))).mono (aL _) (bS F4.size F5.size)
 ·exact((F3.mono (by intro k hk;simp[hk])).trans (F4.mono (by intro k hk;simp at hk;simp[hk]))).trans (F5.mono (by intro k hk;simp at hk;simp[hk]))
 ·rcases List.mem_cons.1 hk with rfl|hk
  ·exact h.bx.B0
  rcases List.mem_cons.1 hk with rfl|hk
  ·exact Row.B0 h.k.k.hr rfl
  ·exact Row.B0 h.ns.row (hn k hk)
def I1.list(h:I1 w xb W6 W lb h1 nd held a P Ds lv pre nv){w1 w3:ek}(b1:Below W.heap.size W w1)(f3:aC a.ownBlock.toList w1 w3){v':to}(r3:Row w3 24 1 v' (P.length+1) (gQ (P.length*1) lv λ_=>nv))(i3:v'.ownBlock=a.ownBlock\/v'.ownBlock=O w1.heap.size){D:Nat}(hD:W.heap[D]? =O (.deferred (O [])))(hD6:W6.heap.size<=D)(Bh:∀D,D∈Ds->D<W6.heap.size):
 (∀o,w3.frozen? (I (w.heap.size+1) o)=false)/\Xf w3 (I (w.heap.size+1) 0)=O a/\w.heap.size+1<w3.heap.size/\∃lv',K3 w xb (w3.setCell (I (w.heap.size+1) 0) v') w3.heap.size w3.heap.size nd held v' d_ d_ d_ (P++[pre]) [] [] [] (D::Ds) lv':=by
 have me:=h.k.k.me;obtain⟨z1,z2,z3,z4⟩:=h.sz;obtain⟨l1,l2,l3⟩:=h.k.lay.le;have ha:∀b,b∈a.ownBlock.toList->a.ownBlock=O b:=λb X=>by simpa using X
 have F1:aC [] W w1:=aC.ai b1;have F3:aC a.ownBlock.toList W w3:=(F1.mono az).trans f3;have ls1:=h.k.lay.ls.off F1 (kD.nil _ _ _ _);have ns1:=h.ns.off F1 (kD.nil _ _ _ _);have ty:∀lo hi,kD w1 lo hi wB a.ownBlock.toList:=λlo hi b X=>by obtain⟨cs,nB⟩:=ls1.row.UO (ha b X);exact .inr (.inl ⟨_,cs,nB,by simp[wB]⟩)
 have ns3:=ns1.off f3 (ty _ _);have UT:∀b,v'.ownBlock=O b->b<w3.heap.size:=λb X=>(gW r3 b X).2;have io:=h.k.k.low;have uW:nQ (xb+1) w3.heap.size v':=λb X=>⟨by
  rcases i3 with h'|h'
  ·exact(ls1.jJ b (by rw[<-h',X])).1
  ·rw[X]at h';simp at h';have:=F1.size;omega,UT b X⟩
 have l3':=Ac.snoc (w:=w1) (w':=w3) ls1 (ns3.mono G F3.size) (by have:=F1.size;omega) f3 (ty _ _) r3 uW (λb X=>by have:=h.ns.jJ b X;omega);have aeK:∀b,b∈a.ownBlock.toList->b∉Ds:=λb X=>h.k.k.uu.not (Row.B0 h.k.lay.ls.row (ha b X));have k3:K0 w xb w3 nd held #[a,d_,d_,d_] Ds:=h.k.k.aG F3 (λb X=>(h.k.lay.ls.jJ b (ha b X)).1) (λD hD hc=>aeK D hc hD);have hDn:D∉Ds:=λhc=>by have:=Bh D hc;omega
 have hDa:D∉a.ownBlock.toList:=λhc=>by have:=h.k.lay.ls.jJ D (ha D hc);omega
 have hD3:w3.heap[D]? =O (.deferred (O [])):=(F3.block D (Array.getElem?_eq_some_iff.1 hD).1 hDa).trans hD;refine⟨k3.b3.frozen,k3.b3.cell 0,k3.b3.lt,_,K3.of (k3.mark hD3 hDn G) 0 v' rfl ⟨l3',⟨Row.nil _ _ _ _,nQ.nil _ _⟩,⟨Row.nil _ _ _ _,nQ.nil _ _⟩,⟨Row.nil _ _ _ _,nQ.nil _ _⟩,by have:=k3.low;omega,aL _,aL _⟩⟩
end
def K3.free(h:K3 w xb W h1 h2 nd held a b d_ d_ P fr [] [] Ds lv){w1 w3:ek}(b1:Below W.heap.size W w1)(f3:aC b.ownBlock.toList w1 w3){v':to}{x:Nat}(r3:Row w3 3 1 v' (fr.length+1) (gQ (fr.length*1) (bd (jm fr)) λ_=> Y x))(i3:v'.ownBlock=b.ownBlock\/v'.ownBlock=O w1.heap.size):
 (∀o,w3.frozen? (I (w.heap.size+1) o)=false)/\Xf w3 (I (w.heap.size+1) 1)=O b/\w.heap.size+1<w3.heap.size/\K3 w xb (w3.setCell (I (w.heap.size+1) 1) v') h1 w3.heap.size nd held a v' d_ d_ P (fr++[x]) [] [] Ds lv:=by
 have me:=h.k.me;obtain⟨l1,l2,l3⟩:=h.lay.le;have X:∀k,k∈b.ownBlock.toList->b.ownBlock=O k:=λk hk=>by simpa using hk
 have F1:aC [] W w1:=aC.ai b1;have F3:aC b.ownBlock.toList W w3:=(F1.mono az).trans f3;have UT:∀k,v'.ownBlock=O k->k<w3.heap.size:=λk hk=>(gW r3 k hk).2;have uW:nQ h1 w3.heap.size v':=λk hk=>⟨by
  rcases i3 with h'|h'
  ·exact(h.lay.fr.jJ k (by rw[<-h',hk])).1
  ·rw[hk]at h';simp at h';have:=F1.size;omega,UT k hk⟩
 have fr3:fg w3 h1 w3.heap.size v' (jm (fr++[x])):=by rw[Cn];exact fg.snoc h.lay.fr (by rw[gB];exact r3) uW
 have bD:∀k,k∈b.ownBlock.toList->k∉Ds:=λk hk=>h.k.uu.not (Row.B0 h.lay.fr.row (X k hk));have k3:K0 w xb w3 nd held #[a,b,d_,d_] Ds:=h.k.aG F3 (λk hk=>by have:=h.lay.fr.jJ k (X k hk);omega) (λD hD hc=>bD D hc hD);have ls3:=h.lay.ls.off F3 (λk hk=> .inl (.inr (by have:=h.lay.fr.jJ k (X k hk);omega)));refine⟨k3.b3.frozen,k3.b3.cell 1,k3.b3.lt,K3.of k3 1 v' rfl ⟨ls3,fr3,⟨Row.nil _ _ _ _,nQ.nil _ _⟩,⟨Row.nil _ _ _ _,nQ.nil _ _⟩,l1,by have:=F3.size;omega,aL _⟩⟩
def K3.iv(h:K3 w xb W h1 h2 nd held a b c d P fr ks ns Ds lv){w1 wy:ek}(F1:aC c.ownBlock.toList W w1)(b2:Below w1.heap.size w1 wy):Row wy 3 1 d ns.length (bd ns):=by
 refine(h.lay.ns.row.aG F1 λk hk hc=>?_).aG (aC.ai (S:=[]) b2) az;rcases Row.ne h.lay.ns.row h.lay.ks.row bz with h'|h'
 ·rw[hk]at h';cases h'
 ·have Zi:c.ownBlock=O k:=by simpa using hc
  exact h' (by rw[hk,Zi])
def K3.pair(h:K3 w xb W h1 h2 nd held a b c d P fr ks ns Ds lv){w1 wy w2:ek}{v1 v2:to}{key:Nat}{n:Int}(F1:aC c.ownBlock.toList W w1)(r1:Row w1 46 1 v1 (ks.length+1) (gQ (ks.length*1) (ni ks) λ_=> .int .u64 key))(i1:∀k,v1.ownBlock=O k->c.ownBlock=O k\/W.heap.size<=k)
 (b2:Below w1.heap.size w1 wy) (f2:aC d.ownBlock.toList wy w2) (r2:Row w2 3 1 v2 (ns.length+1) (gQ (ns.length*1) (bd ns) λ_=> Y n)) (i2:v2.ownBlock=d.ownBlock\/v2.ownBlock=O wy.heap.size):
 (∀o,w2.frozen? (I (w.heap.size+1) o)=false)/\Xf w2 (I (w.heap.size+1) 2)=O c/\Xf w2 (I (w.heap.size+1) 3)=O d/\w.heap.size+1<w2.heap.size/\
   K3 w xb ((w2.setCell (I (w.heap.size+1) 2) v1).setCell (I (w.heap.size+1) 3) v2) h1 h2 nd held a b v1 v2 P fr (ks++[key]) (ns++[n]) Ds lv/\
   aC ((w.heap.size+1)::(c.ownBlock.toList++d.ownBlock.toList)) W ((w2.setCell (I (w.heap.size+1) 2) v1).setCell (I (w.heap.size+1) 3) v2)/\∀k,k∈(w.heap.size+1)::(c.ownBlock.toList++d.ownBlock.toList)->Mk.PP W k:=by
 have me:=h.k.me;obtain⟨l1,l2,l3⟩:=h.lay.le;have hc:∀k,k∈c.ownBlock.toList->c.ownBlock=O k:=λk hk=>by simpa using hk
 have hd:∀k,k∈d.ownBlock.toList->d.ownBlock=O k:=λk hk=>by simpa using hk
 have F2:aC (c.ownBlock.toList++d.ownBlock.toList) W w2:=((F1.trans (aC.ai (S:=c.ownBlock.toList) b2)).mono (by intro k hk;simp at hk;simp[hk])).trans (f2.mono (by intro k hk;simp at hk;simp[hk]));have fi:∀k,k∈c.ownBlock.toList++d.ownBlock.toList->h2<=k/\Mk.PP W k:=λk hk=>by
  rcases List.mem_append.1 hk with hk|hk
  ·exact⟨(h.lay.ks.jJ k (hc k hk)).1,Row.B0 h.lay.ks.row (hc k hk)⟩
  ·exact⟨(h.lay.ns.jJ k (hd k hk)).1,Row.B0 h.lay.ns.row (hd k hk)⟩
 have lt1:∀k,v1.ownBlock=O k->k<w1.heap.size:=λk hk=>(gW r1 k hk).2;have lt2:∀k,v2.ownBlock=O k->k<w2.heap.size:=λk hk=>(gW r2 k hk).2;have Fy:w1.heap.size<=wy.heap.size:=b2.size;have s22:wy.heap.size<=w2.heap.size:=f2.size;have s01:W.heap.size<=w1.heap.size:=F1.size;have r1y:=r1.aG (aC.ai (S:=[]) b2) az;have rNy:=h.iv F1 b2;have r12:Row w2 46 1 v1 (ks.length+1) (gQ (ks.length*1) (ni ks) λ_=> .int .u64 key):=r1y.aG f2 (λk hk Zi=>by
  rcases Row.ne r1y rNy bz with h'|h'
  ·rw[hk]at h';cases h'
  ·exact h' (by rw[hk,hd k Zi]))
 have k2:mR w2 h2 w2.heap.size v1 (ks++[key]):=mR.snoc h.lay.ks r12 (λk hk=>⟨by
  rcases i1 k hk with h'|h'
  ·exact(h.lay.ks.jJ k h').1
  ·omega,by have:=lt1 k hk;omega⟩)
 have n2:fg w2 h2 w2.heap.size v2 (ns++[n]):=fg.snoc h.lay.ns r2 (λk hk=>⟨by
  rcases i2 with h'|h'
  ·exact(h.lay.ns.jJ k (by rw[<-h',hk])).1
  ·rw[hk]at h';simp at h';omega,lt2 k hk⟩)
 have ls2:=h.lay.ls.off F2 (λk hk=> .inl (.inr (by have:=(fi k hk).1;omega)));have fr2:=h.lay.fr.off F2 (λk hk=> .inl (.inr (fi k hk).1));have Hl:K0 w xb w2 nd held #[a,b,c,d] Ds:=h.k.aG F2 (λk hk=>by have:=(fi k hk).1;omega) (λD hD hk=>h.k.uu.not (fi D hk).2 hD);have e1:=K3.of Hl 2 v1 (a':=a) (b':=b) (c':=v1) (d':=d) rfl (lv':=lv) (h1':=h1) (h2':=h2) (P':=P) (fr':=fr) (ks':=ks++[key]) (ns':=[]);have F4:aC [w.heap.size+1] w2 (w2.setCell (I (w.heap.size+1) 2) v1):=(aC.refl _ w2).setCell az _;have F5:aC [w.heap.size+1] (w2.setCell (I (w.heap.size+1) 2) v1) ((w2.setCell (I (w.heap.size+1) 2) v1).setCell (I (w.heap.size+1) 3) v2):=(aC.refl _ _).setCell az _;have kk4:=(Hl.set 2 v1).set 3 v2;clear e1;have oo:∀(wz:ek) lo hi Es,xb+1<=lo->kD wz lo hi Es [w.heap.size+1]:=λwz lo hi Es hl k hk=>by simp at hk;subst hk;exact .inl (.inl G)
 have afB:nj w2 (xb+1) h1 h2 w2.heap.size a b v1 v2 ⟨P,fr,ks++[key],ns++[n]⟩ lv:=⟨ls2,fr2,k2,n2,l1,l2,G⟩;refine⟨Hl.b3.frozen,Hl.b3.cell 2,Hl.b3.cell 3,Hl.b3.lt,⟨kk4,((afB.off F4 (oo _ _ _ _ (aL _))).off F5 (oo _ _ _ _ (aL _))).mono (bS F4.size F5.size)⟩,?_,λk hk=>?_⟩
 ·exact((F2.mono (by intro k hk;simp at hk ⊢;exact .inr hk)).trans (F4.mono (by intro k hk;simp at hk;simp[hk]))).trans (F5.mono (by intro k hk;simp at hk;simp[hk]))
 ·rcases List.mem_cons.1 hk with rfl|hk
  ·exact h.k.b3.B0
  ·exact(fi k hk).2
end
open eO (Fk xR yl rowsOf)
open Ix (kL)
open jf (xQ dU Dd)
attribute [local go_sem] Oper.semAt_some
def jr(s:St)(q n:Nat):Bool:=(List.range q).any λi=>(s.a.ls i).contains n
def aeJ(s:St)(q n:Nat):jr s (q+1) n=(jr s q n||(s.a.ls q).contains n):=by unfold jr;rw[List.range_succ];simp
def qI{M:Nat}:∀(k:Nat) (f:Nat->Nat),(∀i,i<k->f i<=M)->cR k f<=k*M
 |0,_,_=>by simp[cR]
 |k+1,f,h=>by have h1:=qI k f (λi hi=>h i G);have h2:=h k G;rw[cR,Nat.succ_mul];omega
def aeI(l:List Nat)(x n:Nat):(l++[x]).contains n=(l.contains n||n==x):=by rw[jH];simp
def nj.lower{w:ek}{lo vq h1 h2 hi:Nat}{a b c d:to}{L:PL}{lv:Nat->to}(h:nj w lo h1 h2 hi a b c d L lv)(hh:vq<=lo):nj w vq h1 h2 hi a b c d L lv:=
 ⟨h.ls.mono hh (aL _),h.fr,h.ks,h.ns,bS hh h.le.1,h.le.2⟩
def iL(p:aU)(s:St)(nd k:Nat):List Nat:=(List.range k).filter λn=> !(jr s p.ap.length n)
def DH(p:aU)(s:St)(nd:Nat)(L:List (Nat×Nat)):PL:=⟨(List.range p.ap.length).map s.a.ls,iL p s nd nd,L.map (·.1),jm (L.map (·.2))⟩
def vt(w:ek)(p:aU)(s:St)(nd:Nat)(e:Ending)(w':ek):Prop:=
 ∃L a b c d h1 h2 lv,kL s.f L/\e=Xc (.agg #[a,b,c,d])/\Below w.heap.size w w'/\nj w' w.heap.size h1 h2 w'.heap.size a b c d (DH p s nd L) lv
def abk:(prog.info? 24).map (λi=>(i.zero,i.size,i.bytes))=O (O Xd,1,24):=by kernel_rfl
def wD:(prog.info? 46).map (λi=>(i.zero,i.size,i.bytes))=O (O (.int .u64 0),1,8):=by kernel_rfl
def FrL(w:ek)(xb mb nq q:Nat)(Ds:List Nat)(a:Act):Prop:=∃J:Nat->to,a={tmps:=#[Oi mb,J 1,Oi w.heap.size,Oi (w.heap.size+1),Oi xb,J 5,J 6,J 7,J 8,J 9,J 10,J 11,J 12,J 13,J 14,J 15,J 16,J 17,J 18,J 19,J 20,J 21,Y nq,Y q,J 24,J 25,J 26,J 27,J 28,J 29,J 30,J 31,J 32,J 33,J 34,J 35,J 36,J 37,J 38,J 39,J 40,J 41,J 42,J 43,J 44,J 45,J 46,J 47,J 48,J 49,J 50,J 51,J 52,J 53,J 54,J 55,J 56,J 57,J 58,J 59,J 60,J 61,J 62,J 63,J 64,J 65,J 66,J 67,J 68,J 69,J 70,J 71,J 72,J 73,J 74,J 75,J 76,J 77,J 78,J 79,J 80,J 81,J 82,J 83],defers:=Mk.marksOf Ds}
def FrM(w:ek)(xb lb x:Nat)(a:Act):Prop:=∃J:Nat->to,a={tmps:=#[J 0,J 1,Oi w.heap.size,Oi (w.heap.size+1),Oi xb,J 5,Oi lb,Y x,J 8,J 9,J 10,J 11,J 12,J 13,J 14,J 15,J 16,J 17,J 18,J 19,J 20,J 21,J 22,J 23,J 24,J 25,J 26,J 27,J 28,J 29,J 30,J 31,J 32,J 33,J 34,J 35,J 36,J 37,J 38,J 39,J 40,J 41,J 42,J 43,J 44,J 45,J 46,J 47,J 48,J 49,J 50,J 51,J 52,J 53,J 54,J 55,J 56,J 57,J 58,J 59,J 60,J 61,J 62,J 63,J 64,J 65,J 66,J 67,J 68,J 69,J 70,J 71,J 72,J 73,J 74,J 75,J 76,J 77,J 78,J 79,J 80,J 81,J 82,J 83],defers:=[]}
def FrN(w:ek)(xb mb nd k:Nat)(Ds:List Nat)(a:Act):Prop:=∃J:Nat->to,a={tmps:=#[Oi mb,J 1,Oi w.heap.size,Oi (w.heap.size+1),Oi xb,J 5,J 6,J 7,J 8,J 9,J 10,J 11,J 12,J 13,J 14,J 15,J 16,J 17,J 18,J 19,J 20,J 21,J 22,J 23,J 24,J 25,J 26,J 27,J 28,J 29,J 30,J 31,J 32,J 33,J 34,J 35,J 36,J 37,J 38,J 39,J 40,J 41,J 42,J 43,J 44,J 45,J 46,J 47,H (O (I (w.heap.size+2) 0)) nd nd,Y nd,Y k,J 51,J 52,J 53,J 54,J 55,J 56,J 57,J 58,J 59,J 60,J 61,J 62,J 63,J 64,J 65,J 66,J 67,J 68,J 69,J 70,J 71,J 72,J 73,J 74,J 75,J 76,J 77,J 78,J 79,J 80,J 81,J 82,J 83],defers:=Mk.marksOf Ds}
def FrO(w:ek)(x:Nat)(y:Int)(a:Act):Prop:=∃J:Nat->to,a={tmps:=#[J 0,J 1,Oi w.heap.size,Oi (w.heap.size+1),J 4,J 5,J 6,J 7,J 8,J 9,.int .u64 x,Y y,J 12,J 13,J 14,J 15,J 16,J 17,J 18,J 19,J 20,J 21,J 22,J 23,J 24,J 25,J 26,J 27,J 28,J 29,J 30,J 31,J 32,J 33,J 34,J 35,J 36,J 37,J 38,J 39,J 40,J 41,J 42,J 43,J 44,J 45,J 46,J 47,J 48,J 49,J 50,J 51,J 52,J 53,J 54,J 55,J 56,J 57,J 58,J 59,J 60,J 61,J 62,J 63,J 64,J 65,J 66,J 67,J 68,J 69,J 70,J 71,J 72,J 73,J 74,J 75,J 76,J 77,J 78,J 79,J 80,J 81,J 82,J 83],defers:=[]}
def Hm(w:ek)(c d:to)(wx:ek):Prop:=Xf wx (I (w.heap.size+1) 2)=O c/\Xf wx (I (w.heap.size+1) 3)=O d
def Hm.aG{w W W':ek}{c d:to}(h:Hm w c d W){T:List Nat}(f:aC T W W')(h1:w.heap.size+1∉T):Hm w c d W':=by obtain⟨a1,a2⟩:=h;exact⟨(aR (f.block _ (ay a1) h1)).trans a1,(aR (f.block _ (ay a2) h1)).trans a2⟩
def Hm.alloc{w W:ek}{c d:to}(h:Hm w c d W)(o:Obj):Hm w c d (W.alloc o):=h.aG ((aC.refl [] W).alloc o) az
section
variable {w W W':ek}{xb h1 h2 nd:Nat}{held:Nat->Bool}{a b c d:to}{P:List (List Nat)}{fr ks:List Nat}{ns:List Int}{Ds:List Nat}{lv:Nat->to}
def K3.up(h:K3 w xb W h1 h2 nd held a b d_ d_ P fr [] [] Ds lv):K3 w xb W h1 W.heap.size nd held a b d_ d_ P fr [] [] Ds lv:=
 ⟨h.k,⟨h.lay.ls,h.lay.fr.mono (aL _) h.lay.le.2.2,⟨Row.nil _ _ _ _,nQ.nil _ _⟩,⟨Row.nil _ _ _ _,nQ.nil _ _⟩,h.lay.le.1,bS h.lay.le.2.1 h.lay.le.2.2,aL _⟩⟩
def K3.lst(h:K3 w xb W h1 h2 nd held a b c d P fr ks ns Ds lv):Hm w c d W:=⟨h.k.b3.cell 2,h.k.b3.cell 3⟩
structure Keyed(w:ek)(xb:Nat)(W w1:ek)(h1 h2 nd:Nat)(held:Nat->Bool)(a b c d v1:to)(P:List (List Nat))(fr ks:List Nat)(ns:List Int)(Ds:List Nat)(lv:Nat->to)(key:Nat)(n:Int)(FB:List Nat)(B:Nat):Prop where
 at_:∀wy,Below w1.heap.size w1 wy->Hm w c d wy/\Row wy 3 1 d ns.length (bd ns)
 fin:∀wy,Below w1.heap.size w1 wy->∀v2 w2,Row w2 3 1 v2 (ns.length+1) (gQ (ns.length*1) (bd ns) λ_=> Y n)->aC d.ownBlock.toList wy w2->(v2.ownBlock=d.ownBlock\/v2.ownBlock=O wy.heap.size)->
  Hm w c d w2/\(∀o,w2.frozen? (I (w.heap.size+1) o)=false)/\w.heap.size+1<w2.heap.size/\
   KeepsFrom B W ((w2.setCell (I (w.heap.size+1) 2) v1).setCell (I (w.heap.size+1) 3) v2)/\xQ FB W ((w2.setCell (I (w.heap.size+1) 2) v1).setCell (I (w.heap.size+1) 3) v2)/\
   K3 w xb ((w2.setCell (I (w.heap.size+1) 2) v1).setCell (I (w.heap.size+1) 3) v2) h1 h2 nd held a b v1 v2 P fr (ks++[key]) (ns++[n]) Ds lv
def K3.keyed(h:K3 w xb W h1 h2 nd held a b c d P fr ks ns Ds lv){V w1:ek}(b1:Below W.heap.size W V){v1:to}{key:Nat}(n:Int)(r1:Row w1 46 1 v1 (ks.length+1) (gQ (ks.length*1) (ni ks) λ_=> .int .u64 key))(f1:aC c.ownBlock.toList V w1)(i1:v1.ownBlock=c.ownBlock\/v1.ownBlock=O V.heap.size)
 {FB:List Nat} (QY:∀k,k∈FB->k<W.heap.size/\k<h2/\k≠w.heap.size+1) (B:Nat):Hm w c d w1/\Keyed w xb W w1 h1 h2 nd held a b c d v1 P fr ks ns Ds lv key n FB B:=by
 have me:=h.k.me;obtain⟨l1,l2,l3⟩:=h.lay.le;have F0:aC c.ownBlock.toList W V:=aC.ai b1;have F1:aC c.ownBlock.toList W w1:=F0.trans f1;have nc:w.heap.size+1∉c.ownBlock.toList:=λhc=>by have:=h.lay.ks.jJ _ (by simpa using hc);omega
 have nd':w.heap.size+1∉d.ownBlock.toList:=λhc=>by have:=h.lay.ns.jJ _ (by simpa using hc);omega
 have s1:=h.lst.aG F1 nc;have abj:∀wy,Below w1.heap.size w1 wy->Hm w c d wy:=λwy b2=>s1.aG (aC.ai (S:=[]) b2) az;refine⟨s1,λwy b2=>⟨abj wy b2,h.iv F1 b2⟩,λwy b2 v2 w2 r2 f2 i2=>?_⟩;obtain⟨p1,p2,p3,p4,p5,p6,p7⟩:=h.pair F1 r1 (λk hk=>by
  rcases i1 with h'|h'
  ·exact .inl (by rw[<-h',hk])
  ·rw[hk]at h';simp at h';subst h';exact .inr F0.size) b2 f2 r2 i2
 refine⟨⟨p2,p3⟩,p1,p4,wC p6 p7 B,λk hk=>p6.block k (QY k hk).1 (λhc=>?_),p5⟩;obtain⟨q1,q2,q3⟩:=QY k hk;rcases List.mem_cons.1 hc with hc|hc
 ·exact q3 hc
 rcases List.mem_append.1 hc with hc|hc
 ·have:=h.lay.ks.jJ k (by simpa using hc);omega
 ·have:=h.lay.ns.jJ k (by simpa using hc);omega
def ac5(w:ek)(xb mb nd:Nat)(p:aU)(s:St)(m:Nat)(a:Act)(W:ek):Prop:=
 ∃(q:Nat) (Ds:List Nat) (av:to) (lv:Nat->to) (h1:Nat),q<=p.ap.length/\m+q=p.ap.length+1/\FrL w xb mb p.ap.length q Ds a/\Hid (K3 w xb W h1 h1 nd (jr s q) av d_ d_ d_ ((List.range q).map s.a.ls) [] [] [] Ds lv)
def ac6(w:ek)(xb mb nd:Nat)(p:aU)(s:St)(m:Nat)(a:Act)(W:ek):Prop:=
 ∃(k:Nat) (Ds:List Nat) (av bv:to) (lv:Nat->to) (h1 h2:Nat),k<=nd/\m+k=nd+1/\FrN w xb mb nd k Ds a/\Hid (K3 w xb W h1 h2 nd (jr s p.ap.length) av bv d_ d_ ((List.range p.ap.length).map s.a.ls) (iL p s nd k) [] [] Ds lv)
end
section
variable {w w':ek}{C C':Co}{RO RO':List Nat}{K:Kc}{p:aU}{c:Cp}{t t':fG}{used used':Int}{s s':St}{rv rv':to}
def JU{p:Prop}(h:p:=by
 intro wz fF
 (try dsimp only at fF)
 exact qZ):p:=h
def ig{p:Prop}(h:p:=by
 intro v2 w2 r2 f2 i2;obtain⟨Yh,Yi,Yj,rfl⟩:=Row.nC r2;obtain⟨Ti,ff,Tj,im,mL,mV⟩:=Ox.o.fin w1 (aZ _ _) _ w2 r2 f2 i2;exact RU):p:=h
def RU{p:Prop}(h:p:=by
 obtain⟨e2,e3⟩:=id Ti;have Jl:=Z im;have E6:=Z mL;have Iw:=Z mV;clear r2 f2 i2 im mL mV;clear au;refine hK.out _ _ ⟨trivial,Ti⟩ (λau=>?_);clear hK K;refine Mk.pt ?_;refine Gd.ready (rs:=[11]) bj az ?_;refine Gd.eJ.last rfl bj (λK hK=>?_) Gd.eJ.nil;refine fL ?_;go_simp;refine hK.out _ _ trivial ?_;clear hK K;refine Mk.pt ?_;refine Gd.ready (rs:=[12]) bj az ?_;refine Gd.eJ.last rfl bj (λK hK=>?_) Gd.eJ.nil;refine fL ?_;go_simp;refine hK.out _ _ trivial ?_;clear hK K;refine Mk.pt ?_;refine Gd.ready (rs:=[13]) bj az ?_;refine Gd.eJ.last rfl bj (λK hK=>?_) Gd.eJ.nil;refine fL ?_;go_simp;refine hK.out _ _ trivial ?_;clear hK K;refine Mk.pt ?_;refine Gd.done bj ⟨rfl,?_⟩ _;clear e2 e3 ff Tj Ti
 gi_wp2_with fail
 exact⟨Jl.o,E6.o,_,_,by rw[List.map_append,List.map_append,HPK.o,HPN.o];exact Iw.o⟩):p:=h
def aeE(h:Mx w C RO K p c s t used rv)(tb:uG p)(iE:K.nd<=4194304):
 Calls prog 19 #[Oi C.mb] w (vt w p s K.nd):=by
 have m8:Xf w (I C.mb 8)=O (Y K.nd):=h.m.aT.cell 8;have lm:=h.m.aT.lt;have a0g:=Z h;have HT:=Z tb;have Ad:=tb.g;obtain⟨ga,gn,gc,kX⟩:=Row.nC h.m.prog.g;have BV:gn=p.ap.length:=by
  rcases h.m.prog.g.val with⟨h,h'⟩|⟨b,cap,h,-⟩
  ·rw[kX]at h;simp at h;omega
  ·rw[kX]at h;simp at h;omega
 obtain rfl:=BV;have HGV:=Z kX;have HN:=Z (show 1*K.nd<=281474976710656/\K.nd<=maxLen by unfold maxLen;omega);clear h tb kX;generalize VJ:K.nd=nd at*;have UU:=Z VJ;clear VJ;refine(callsIn_wide (n:=9)).1 ?_;refine callsIn_of_wp_marks func19 rfl trivial ?_ rfl;simp only[ntmps19,List.size_toArray,List.length_cons,List.length_nil,Nat.reduceAdd,Nat.reduceSub,Array.replicate_succ,Array.replicate_zero,List.push_toArray,List.append_toArray,List.nil_append,List.cons_append];refine wpIn_wide.2 ?_;go_wp2_with (refine jU rfl (.tmp 15) (.tmp 15) 22 rfl 4 underlying22 Vf.ud rfl .i64 .i64 _ _ nd rfl rfl rfl rfl HN.o.1 HN.o.2 ?_);intro w2 bC UW;have dR:Below w.heap.size w w2:=(((aZ _ w).alloc (aL _) _).alloc az _).trans (UW.mono G);have kb2:aH w2 w.heap.size 52 #[d_,d_,d_,d_]:=((aH.new w _ _).alloc _).of (UW.block _ G);have kb3:aH w2 (w.heap.size+1) 52 #[d_,d_,d_,d_]:=by have:=aH.new (w.alloc (Xe #[d_,d_,d_,d_] 52)) 52 #[d_,d_,d_,d_];rw[aO]at this;exact this.of (UW.block _ G)
 have rj:w.heap.size+2<w2.heap.size:=by have:=(gW bC (w.heap.size+1+1) rfl).2;omega
 have k3:K3 w w2.heap.size (w2.alloc (Xe #[H (O (I (w.heap.size+2) 0)) nd nd] 22)) (w2.heap.size+1) (w2.heap.size+1) nd (jr s 0) d_ d_ d_ d_ [] [] [] [] [] (λ_=>d_):=by refine⟨⟨dR.alloc dR.size _,az,rj,kb2.alloc _,kb3.alloc _,(bC.alloc _).congr (λo ho=>by simp[jr]),aH.new w2 _ _,Mk.Marks.nil _,az⟩,?_⟩;refine⟨⟨Row.nil _ _ _ _,nQ.nil _ _,λq hq=>absurd hq az,λq q' hq=>absurd hq az⟩,⟨Row.nil _ _ _ _,nQ.nil _ _⟩,⟨Row.nil _ _ _ _,nQ.nil _ _⟩,⟨Row.nil _ _ _ _,nQ.nil _ _⟩,aL _,aL _,az⟩
 have Be:=Z k3;have m0:Xf w2 (I C.mb 0)=O (H ga p.ap.length gc):=by rw[<-HGV.o];exact(a0g.o.later dR).m.aT.cell 0
 have SF:C.mb<w2.heap.size:=G;clear bC UW dR kb2 kb3 rj k3 m8;go_wp2;refine Mk.aM (ac5 w w2.heap.size C.mb nd p s) (p.ap.length+1) ?start ?zero ?round
 case start=>exact⟨0,[],_,_,_,ck _,G,rp rfl,Be⟩
 case zero=>exact λa W hh=>by obtain⟨q,_,_,_,_,h1,h2,_⟩:=hh;omega
 clear Be m0 SF HN;generalize w2.heap.size=xb;clear w2
 case round=>
  rintro m a W ⟨q,Ds,av,lv,h1,hq,hm,⟨J,rfl⟩,hk⟩;have MW:=a0g.o.later hk.o.k.uo;have SF:C.mb<W.heap.size:=MW.m.aT.lt;have me:=hk.o.k.me;by_cases be:q<p.ap.length
  ·have m9:Xf W (I C.mb 9)=O (Oi C.ab):=MW.m.aT.cell 9;obtain⟨wA,Q0⟩:∃wA,wA=W.alloc (Xe #[Xd] 24):=⟨_,rfl⟩;have bA:Below W.heap.size W wA:=by rw[Q0];exact(aZ _ _).alloc (aL _) _
   have La:=Z (MW.later bA);have Hn:=Z (hk.o.later bA);have nO:wA.heap.size=W.heap.size+1:=by rw[Q0];simp
   have kl:aH wA W.heap.size 24 #[Xd]:=by rw[Q0];exact aH.new W _ _
   have HL:=Z (eO.XC La.o.m.ar (by rw[UU.o];exact iE) be);have xW:=Z kl;have jE:=hk.o.lay.le;have yj:=Z nO;clear MW bA nO kl;go_wp2_with fail;rw[<-Q0];clear Q0;refine HL.o.mono ?_;rintro e w6 ⟨rfl,Q3,AR⟩;have SZ:W.heap.size+1=wA.heap.size:=yj.o.symm;have io:=hk.o.k.low;generalize W.heap.size=lb at*;have pS:=La.o.m.ar.uS be;have hlen:(rowsOf s.a (s.a.ls q)).length<=4194304:=by rw[eO.lY];have:=pS.1;rw[UU.o]at this;omega
   have fi:∀y,y∈rowsOf s.a (s.a.ls q)->y.1<nd:=by intro y hy;unfold rowsOf at hy;obtain⟨n,hn,rfl⟩:=List.mem_map.1 hy;obtain⟨_,_,a1h,-,g1,g2,-⟩:=La.o.m.ar.node be hn;rw[UU.o]at g2;exact dC g1 g2
   have b6:=AR.uo;have Q4:wA.heap.size<w6.heap.size:=AR.box.lt;have Of:=Z (yl AR);have vU:∀k,k∈dU Q3->wA.heap.size<=k/\k<w6.heap.size:=by
    intro k hk;rcases AR.own.2 with⟨rfl,_⟩|⟨g,cap,BL,rfl,g1,g2,_⟩
    ·simp[dU]at hk
    ·simp[dU]at hk;subst hk;exact⟨g1,(Array.getElem?_eq_some_iff.1 g2).1⟩
   have Q5:(rowsOf s.a (s.a.ls q)).attach.map (λy=>y.val)=rowsOf s.a (s.a.ls q):=List.attach_map_subtype_val _;have pE:(rowsOf s.a (s.a.ls q)).attach.map (λy=>y.val.1)=s.a.ls q:=by
    have e1:(rowsOf s.a (s.a.ls q)).attach.map (λy=>y.val.1)=((rowsOf s.a (s.a.ls q)).attach.map (λy=>y.val)).map (·.1):=by rw[List.map_map];rfl
    rw[e1,Q5];unfold rowsOf;rw[List.map_map];exact List.map_id _
   have Gu:=Z (eO.abn (α:={y // y∈rowsOf s.a (s.a.ls q)}) (λy=>y.val) Fence.wide 8 trivial rfl G wA.heap.size wA.heap.size Q3 (rowsOf s.a (s.a.ls q)).attach (by rw[List.length_attach];omega) w6 AR.box (by rw[Q5];exact Of.o) (λk hk=>(vU k hk).2));have Q6:=Z (Hn.o.later b6);have UX:=Z (xW.o.of (b6.block _ G));have HLS:=Z pE;have af6:(rowsOf s.a (s.a.ls q)).attach.length<=4194304:=by rw[List.length_attach];exact hlen
   have mY:=Z fi;have Bh:∀D,D∈Ds->D<w6.heap.size:=λD hD=>Q6.o.k.uu.lt hD;have UY:=Z Bh;clear pE Q5 AR b6 HL Hn xW La Of pS fi Bh hlen;generalize(rowsOf s.a (s.a.ls q)).attach=L at*;go_wp2_with fail;refine(wpIn_wide (n:=9)).1 ?_;refine wpIn_rangeFunc_ownH (n:=9) (F:=Fence.wide) rfl G (gf:=136) (lb:=#[Oi wA.heap.size]) rfl trivial (Proofs.enters_of func136 bj rfl) Gu.o xQ.t
    (xQ.b (by intro k hk;rcases List.mem_cons.1 hk with rfl|hk;exact Q4;exact(vU k hk).2)) (aZ _ _) (λ_=>rfl)
    (λpre W=>∃nv,Hid (I1 w xb w6 W lb h1 nd (λn=>jr s q n||(pre.map λy=>y.val.1).contains n) av ((List.range q).map s.a.ls) Ds lv (pre.map λy=>y.val.1) nv))
    (λc pre W=>False) ?hI ?hIx ?h0 (λx a' W=>FrM w xb lb x.val.1 a') (λx a' _ W W' row hs hg hr=>hs) ?assign ?body ?done ?stop
   case hI=>exact λpre W W' row ⟨nv,hh⟩ hg hr=>⟨nv,hh.o.grown UY.o hg hr⟩
   case hIx=>exact λc pre W W' row hh _ _=>hh
   case h0=>exact⟨d_,⟨by have h6:=Q6.o;exact⟨h6.k.QW (λn _=>by simp),h6.lay⟩,UX.o,⟨Row.nil _ _ _ _,nQ.nil _ _⟩,G,G,G,aL _⟩⟩
   case assign=>
    rintro l pre x W K ⟨nv,jL⟩ hK
    gi_wp2
    exact hK _ _ (KeepsFrom.refl _ _) (λ_ _=>rfl) ⟨nv,jL⟩ (rp rfl)
   case stop=>exact λD c pre W _ _ hh _=>absurd hh az
   case body=>
    rintro l pre ⟨x,hx⟩ a' W hl hr ⟨nv,jL⟩ ⟨J2,rfl⟩ rj;dsimp only;have hxn:=mY.o x hx;generalize US:x.1=xn at*;have HXE:=Z US;clear US;have c6:=jL.o.bx.c1;have aeD:=jL.o.bx.lt;have bB:Below W.heap.size W (W.alloc (Xe #[Y xn] 3)):=(aZ _ _).alloc (aL _) _;have hpl:(pre.map (λy=>y.val.1)).length<L.length:=by rw[List.length_map];exact rj
    generalize SX:pre.map (λy=>y.val.1)=lp at*;have HPE:=Z SX;have rh:=Z (show Row (W.alloc (Xe #[Y xn] 3)) 3 1 nv lp.length (bd (jm lp))by have:=jL.o.ns.row.aG (aC.ai (S:=[]) bB) az;rw[gB]at this;exact this);have tY:=Z (show lp.length+1<=maxLen/\(lp.length+1)*8<=140737488355328 by unfold maxLen;omega);have AM:=λv' w3 r3 f3 i3=>jL.o.next (w1:=W.alloc (Xe #[Y xn] 3)) (w3:=w3) (v':=v') (x:=xn) bB f3 hxn r3 i3;have zq:=Z AM;have hKB:∀k,k∈wA.heap.size::dU Q3->k<W.heap.size/\k≠lb/\k≠w.heap.size+2/\nv.ownBlock≠O k:=by
     intro k hk;have z:=jL.o.sz;have mL:wA.heap.size<=k/\k<w6.heap.size:=by
      rcases List.mem_cons.1 hk with rfl|hk
      ·exact⟨aL _,Q4⟩
      ·exact vU k hk
     exact⟨G,G,G,λe=>by have:=jL.o.ns.jJ k e;omega⟩
    have Qm:=Z hKB;clear SX AM hKB bB jL rj
    gi_wp2_with (gi_at_builtin;refine aeO rfl _ _ 24 rfl 3 underlying24 Vf.cA rfl bz nv lp.length (bd (jm lp)) rfl rh.o (I W.heap.size 0) 1 1 (λ_=> Y xn) rfl ?Bg ?Gp ?Gq ?Jh ?_)
    case Bg=>intro j hj;obtain rfl:j=0:=G;exact(aH.new W 3 #[Y xn]).cell 0
    case Gp=>exact λj _=>rfl
    case Gq=>exact tY.o.1
    case Jh=>exact tY.o.2
    intro v' w3 r3 f3 i3;obtain⟨va3,vn3,vc3,rfl⟩:=Row.nC r3;obtain⟨n1,n2,n3,n4,n5,n6,n7,n8⟩:=zq.o _ w3 (by rw[Nat.mul_one];exact r3) f3 (by rw[aO];exact i3);have N1:=Z n1;have N2:=Z n2;have N3:=Z n3;have nne:lb≠w.heap.size+2:=G;have agd:lb≠xb:=G;clear r3 f3 i3 n1 n2 n3 c6 aeD
    gi_wp2_with fail
    refine⟨wC N2.o N3.o _,λk hk=>N2.o.block k (Qm.o k hk).1 (λhc=>?_),H va3 vn3 vc3,?_⟩
    ·obtain⟨-,g2,g3,g4⟩:=Qm.o k hk;simp only[ep,Option.mem_toList]at hc;rcases hc with hc|hc|hc
     ·exact g2 hc
     ·exact g3 hc
     ·exact g4 hc
    ·have h9:=N1.o;rw[List.map_append,HPE.o,List.map_cons,List.map_nil,HXE.o];exact⟨⟨h9.k.k.QW (λn _=>by rw[aeI,Bool.or_assoc]),h9.k.lay⟩,h9.bx,h9.ns,h9.sz⟩
   case done=>
    rintro D ys W hD rfl ⟨nv,jL⟩ Yk;rw[HLS.o]at jL;have r0:=jL.o.k.k.b3.c1;have r1:=jL.o.bx.c1;have l3:=jL.o.k.k.b3.lt;have l4:=jL.o.bx.lt;have lsl:w.heap.size+1≠lb:=G;have bB:Below W.heap.size W (W.alloc (Xe #[nv] 24)):=(aZ _ _).alloc (aL _) _;have bC:=jL.o.k.lay.ls.row.aG (aC.ai (S:=[]) bB) (λ_ _=>by simp);have WC:((List.range q).map s.a.ls).length=q:=by simp
    dsimp only at bC;rw[WC]at bC;have rh:=Z bC;obtain⟨ea,en,ec,rfl⟩:=Row.nC jL.o.ns.row;have S4:=Z (show q+1<=maxLen/\(q+1)*24<=140737488355328 by unfold maxLen;omega);have Ew:=λv' w3 r3 f3 i3=>jL.o.list (w1:=W.alloc (Xe #[H ea en ec] 24)) (w3:=w3) (v':=v') bB f3 r3 i3 Yk hD UY.o;rw[WC]at Ew;have Iw:=Z Ew;clear jL bC bB Ew WC Yk Gu HLS;go_wp2_with (at_builtin;refine cG rfl _ _ 50 rfl 24 underlying50 abk rfl bz av q lv rfl rh.o (I W.heap.size 0) 1 1 (λ_=> H ea en ec) rfl ?Bg ?Gp ?Gq ?Jh ?_)
    case Bg=>intro j hj;obtain rfl:j=0:=G;exact(aH.new W 24 #[H ea en ec]).cell 0
    case Gp=>exact λj _=>rfl
    case Gq=>exact S4.o.1
    case Jh=>exact S4.o.2
    intro v' w3 r3 f3 i3;obtain⟨va3,vn3,vc3,rfl⟩:=Row.nC r3;obtain⟨g1,g2,g3,lv',g4⟩:=Iw.o _ w3 (by rw[Nat.mul_one];exact r3) f3 (by rw[aO];exact i3);have HG:=Z g4;clear r3 f3 i3 g4;go_wp2;refine⟨q+1,D::Ds,H va3 vn3 vc3,lv',w3.heap.size,G,G,rp rfl,Z ?_⟩;have h9:=HG.o;rw[List.range_succ,List.map_append];exact⟨h9.k.QW (λn _=>(aeJ s q n).symm),h9.lay⟩
  ·obtain rfl:q=p.ap.length:=G;have x0:=hk.o.k.hx.c1;have lx:=hk.o.k.hx.lt;clear MW;go_wp2_with fail;have K0':Hid (K3 w xb W h1 h1 nd (jr s p.ap.length) av d_ d_ d_ ((List.range p.ap.length).map s.a.ls) (iL p s nd 0) [] [] Ds lv):=hk;refine Mk.aM (ac6 w xb C.mb nd p s) (nd+1) ?Ae ?Gv ?Af
   case Ae=>exact⟨0,Ds,_,_,lv,_,_,ck _,G,rp rfl,K0'⟩
   case Gv=>exact λa W hh=>by obtain⟨q,_,_,_,_,_,_,h1,h2,_⟩:=hh;omega
   clear K0' x0 lx hk SF
   case Af=>
    rintro m2 a2 W2 ⟨k,Yl,av2,bv,Ym,g1,g2,im,mL,⟨J2,rfl⟩,uC⟩;have x1:Xf W2 (I (w.heap.size+2) k)=O (.bool (jr s p.ap.length k))\/¬k<nd:=by
     by_cases h:k<nd
     ·exact .inl (uC.o.k.hr.cell (o:=k) G)
     ·exact .inr h
    by_cases rj:k<nd
    ·have x2:Xf W2 (I (w.heap.size+2) k)=O (.bool (jr s p.ap.length k)):=by
      rcases x1 with h|h
      ·exact h
      ·exact absurd rj h
     have Hb:iL p s nd (k+1)=if jr s p.ap.length k=true then iL p s nd k else iL p s nd k++[k]:=by unfold iL;rw[List.range_succ,List.filter_append];cases hh:jr s p.ap.length k<;>simp[hh]
     clear x1;cases hh:jr s p.ap.length k with
     |true=>rw[hh]at x2 Hb;rw[aE rfl]at Hb;have HFS:=Z Hb;have Bb:=Z (show K3 w xb W2 g1 g2 nd (jr s p.ap.length) av2 bv d_ d_ ((List.range p.ap.length).map s.a.ls) (iL p s nd (k+1)) [] [] Yl Ym by rw[Hb];exact uC.o);clear hh Hb uC;go_wp2;exact⟨k+1,Yl,_,_,Ym,g1,g2,G,G,rp rfl,Bb⟩
     |false=>
      rw[hh]at x2 Hb;rw[ax bz]at Hb;have HFS:=Z Hb;have HHH:=Z hh;have r1:Xf W2 (I (w.heap.size+1) 1)=O bv:=uC.o.k.b3.cell 1;have l3:=uC.o.k.b3.lt;have bB:Below W2.heap.size W2 (W2.alloc (Xe #[Y k] 3)):=(aZ _ _).alloc (aL _) _;have hfl:(iL p s nd k).length<=k:=by unfold iL;exact bS (List.length_filter_le _ _) az
      have rh:=Z (show Row (W2.alloc (Xe #[Y k] 3)) 3 1 bv (iL p s nd k).length (bd (jm (iL p s nd k)))by have:=uC.o.lay.fr.row.aG (aC.ai (S:=[]) bB) (λ_ _=>by simp);rw[gB]at this;exact this);have tY:=Z (show(iL p s nd k).length+1<=maxLen/\((iL p s nd k).length+1)*8<=140737488355328 by unfold maxLen;omega);have AM:=λv' w3 r3 f3 i3=>uC.o.free (w1:=W2.alloc (Xe #[Y k] 3)) (w3:=w3) (v':=v') (x:=k) bB f3 r3 i3;have zq:=Z AM;clear hh Hb uC AM bB hfl;generalize iL p s nd k=fl at*;go_wp2_with (at_builtin;refine cG rfl _ _ 24 rfl 3 underlying24 Vf.cA rfl bz bv fl.length (bd (jm fl)) rfl rh.o (I W2.heap.size 0) 1 1 (λ_=> Y k) rfl ?Bg ?Gp ?Gq ?Jh ?_)
      case Bg=>intro j hj;obtain rfl:j=0:=G;exact(aH.new W2 3 #[Y k]).cell 0
      case Gp=>exact λj _=>rfl
      case Gq=>exact tY.o.1
      case Jh=>exact tY.o.2
      intro v' w3 r3 f3 i3;obtain⟨va3,vn3,vc3,rfl⟩:=Row.nC r3;obtain⟨n1,n2,n3,n4⟩:=zq.o _ w3 (by rw[Nat.mul_one];exact r3) f3 (by rw[aO];exact i3);have N4:=Z n4;clear r3 f3 i3 n4;go_wp2;exact⟨k+1,Yl,_,_,Ym,g1,_,G,G,rp rfl,by rw[HFS.o];exact N4⟩
    ·obtain rfl:k=nd:=G;have MW2:=a0g.o.later uC.o.k.uo;have m10:Xf W2 (I C.mb 10)=O (Oi C.xb):=MW2.m.aT.cell 10;have HA:=Z (Ix.all' MW2.m.ix);have age:fN p s.a<=4294967296:=by have h1:=qI (M:=4194304) p.ap.length (λq=>(s.a.ls q).length) (λq hq=>by have:=(MW2.m.ar.uS hq).1;rw[UU.o]at this;omega);have h2:p.ap.length*4194304<=16*4194304:=Nat.mul_le_mul_right _ Ad;show cR p.ap.length (λq=>(s.a.ls q).length)<=_;omega
     have Bb:=Z uC.o;clear x1 MW2 uC;go_wp2_with fail;refine HA.o.mono ?_;rintro e w7 ⟨rfl,L,hKS,hLl,hAA⟩;obtain⟨bA,hsA,Q3,gP,bC⟩:=hAA;have vU:∀k,k∈dU Q3->W2.heap.size+1<=k/\k<w7.heap.size:=by
      intro k hk;rcases bC with⟨_,rfl⟩|⟨g,cap,rfl,e1,e2,-⟩
      ·simp[dU]at hk
      ·simp[dU]at hk;subst hk;exact⟨e1,e2⟩
     have HS7:=Z (Bb.o.later bA);have io:=Bb.o.k.low;have Bh:∀D,D∈Yl->D<w7.heap.size:=λD hD=>HS7.o.k.uu.lt hD;have UY:=Z Bh;have Gu:=Z (jf.tT Fence.wide 8 trivial rfl G W2.heap.size (W2.heap.size+1) Q3 (L.map Ix.Yf) (by rw[List.length_map];omega) w7 gP bC (λk hk=>(vU k hk).2));have HKS:=Z hKS;have Mt:(L.map Ix.Yf).length<=4294967296:=by rw[List.length_map];omega
     have Kx:(L.map Ix.Yf).map (·.1)=L.map (·.1):=by rw[List.map_map];rfl
     have ul:(L.map Ix.Yf).map (·.2)=jm (L.map (·.2)):=by unfold jm;rw[List.map_map,List.map_map];rfl
     have xT:=Z Kx;have Bi:=Z ul;clear Kx ul Bh bC gP bA HA Bb m10;generalize hLu:L.map Ix.Yf=Lu at*;clear hLu;go_wp2_with fail;refine(wpIn_wide (n:=9)).1 ?_;refine wpIn_rangeFunc_ownH (n:=9) (F:=Fence.wide) rfl G (gf:=140) (lb:=#[Oi W2.heap.size]) rfl trivial (Proofs.enters_of func140 bj rfl) Gu.o xQ.t
      (xQ.b (by intro k hk;rcases List.mem_cons.1 hk with rfl|hk;exact hsA;exact(vU k hk).2)) (aZ _ _) (λ_=>rfl)
      (λpre W=>∃cv dv,Hid (K3 w xb W g1 w7.heap.size k (jr s p.ap.length) av2 bv cv dv ((List.range p.ap.length).map s.a.ls) (iL p s k k) (pre.map (·.1)) (pre.map (·.2)) Yl Ym))
      (λc pre W=>False) ?hI ?hIx ?h0 (λx a' W=>FrO w x.1 x.2 a') (λx a' _ W W' row hs hg hr=>hs) ?assign ?body ?done ?stop
     case hI=>exact λpre W W' row ⟨cv,dv,hh⟩ hg hr=>⟨cv,dv,hh.o.grown G UY.o hg hr⟩
     case hIx=>exact λc pre W W' row hh _ _=>hh
     case h0=>exact⟨_,_,HS7.o.up⟩
     case assign=>
      rintro l pre x W K ⟨cv,dv,jL⟩ hK
      gi_wp2
      exact hK _ _ (KeepsFrom.refl _ _) (λ_ _=>rfl) ⟨cv,dv,jL⟩ (rp rfl)
     case stop=>exact λD c pre W _ _ hh _=>absurd hh az
     case body=>
      rintro l pre x a' W hl hr ⟨cv,dv,jL⟩ ⟨J2,rfl⟩ rj;have ZA:(pre.map (·.1)).length<Lu.length:=by rw[List.length_map];exact rj
      have hpn:(pre.map (·.2)).length<Lu.length:=by rw[List.length_map];exact rj
      obtain⟨xk,xn⟩:=x;have QY:∀k,k∈W2.heap.size::dU Q3->k<W.heap.size/\k<w7.heap.size/\k≠w.heap.size+1:=by
       intro k hk;have hg:=jL.o.lay.le;have mL:W2.heap.size<=k/\k<w7.heap.size:=by
        rcases List.mem_cons.1 hk with rfl|hk
        ·exact⟨aL _,hsA⟩
        ·exact⟨by have:=vU k hk;omega,(vU k hk).2⟩
       have:=jL.o.k.me;exact⟨G,mL.2,G⟩
      have HK:=Z (λV w1 v1 b1 r1 f1 i1=>jL.o.keyed (V:=V) (w1:=w1) (v1:=v1) (key:=xk) b1 xn r1 f1 i1 QY w7.heap.size);have xC:=Z (show(pre.map (·.1)).length+1<=maxLen/\((pre.map (·.1)).length+1)*8<=140737488355328 by unfold maxLen;omega);have tY:=Z (show(pre.map (·.2)).length+1<=maxLen/\((pre.map (·.2)).length+1)*8<=140737488355328 by unfold maxLen;omega);have HRK:=Z (λV (b1:Below W.heap.size W V)=>jL.o.lay.ks.row.aG (aC.ai (S:=[]) b1) az);have qt:=jL.o.lst;have HCN:=Z (show∀b,b∈cv.ownBlock.toList->b<W.drew.heap.size from λb X=>(jL.o.lay.ks.jJ b (by simpa using X)).2);have bD:Below W.heap.size W W.drew:=aA _ W 1;have je:W.drew.heap.size=W.heap.size:=rfl;generalize Lb:pre.map (λy:Nat×Int=>y.1)=lk at*;generalize Ag:pre.map (λy:Nat×Int=>y.2)=ln at*;have HPK:=Z Lb;have HPN:=Z Ag;clear Lb Ag jL QY rj ZA hpn
      gi_wp2_with fail
      refine Gd.qD [11,13] (λ_=>True) (λwx=>Xf wx (I (w.heap.size+1) 2)=O cv/\Xf wx (I (w.heap.size+1) 3)=O dv) bj bj ⟨trivial,qt⟩ (λau=>?_);generalize W.drew=V at*;have OE:=Z bD;have HZ:=Z je;clear bD je qt;refine Mk.Eo 0 ?_;refine Mk.Eo 1 ?_;refine Mk.Eo 2 ?_;refine Mk.Eo 5 ?_;refine Mk.Eo 6 ?_;refine Mk.Eo 7 ?_;refine Gd.ready (rs:=[3,8]) bj az ?_;refine Gd.eJ.cons rfl (λK hK=>?_) (Gd.eJ.cons rfl (λK hK=>?_) Gd.eJ.nil)
      ·refine fL ?_;go_simp;refine hK.out _ _ ⟨trivial,Hm.alloc au.2 _⟩ (λau=>?_);clear hK K;refine Mk.pt ?_;refine Gd.ready (rs:=[4,8]) bj az ?_;refine Gd.eJ.cons rfl (λK hK=>?_) (Gd.eJ.cons rfl (λK hK=>?_) Gd.eJ.nil)
       ·have dS:=Z (show Below W.heap.size W (V.alloc (Xe #[.int .u64 xk] 46))from OE.o.alloc OE.o.size _);refine cU rfl (.tmp 72) (.tmp 74) 41 rfl 46 underlying41 wD rfl bz cv lk.length (ni lk) (by simp[Act.eval,Act.put]) (HRK.o _ dS.o) (I V.heap.size 0) 1 1 (λ_=> .int .u64 xk) (by simp[Act.eval,Act.put]) ?_ (λj _=>rfl) xC.o.1 xC.o.2 ?_
        ·intro j hj;obtain rfl:j=0:=G;exact(aH.new V 46 #[.int .u64 xk]).cell 0
        intro v1 w1 r1 f1 i1;obtain⟨va1,vn1,vc1,rfl⟩:=Row.nC r1;obtain⟨yu,Yn⟩:=HK.o _ w1 _ dS.o r1 f1 i1;have Ox:=Z Yn;clear r1 f1 i1 Yn dS;clear au;refine hK.out _ _ ⟨trivial,yu⟩ (λau=>?_);clear hK K;refine Mk.pt ?_;refine Gd.PT (i:=10) (v:=?_) rfl bj bj bj bj bj (λ_ _ _ h=>Mk.kq h) (Or.inl ⟨by rfl,?_⟩) cJ ?_;rotate_left
        ·exact JU
        refine Mk.pt ?_;refine Gd.ready (rs:=[8]) bj az ?_;refine Gd.eJ.cons rfl (λK hK=>?_) Gd.eJ.nil;refine fL ?_;go_simp;refine hK.out _ _ ⟨trivial,Hm.alloc au.2 _⟩ (λau=>?_);clear hK K;refine Mk.pt ?_;refine Gd.ready (rs:=[9]) bj az ?_;refine Gd.eJ.cons rfl (λK hK=>?_) Gd.eJ.nil;refine cU rfl (.tmp 77) (.tmp 79) 24 rfl 3 underlying24 Vf.cA rfl bz dv ln.length (bd ln) (by simp[Act.eval,Act.put]) (Ox.o.at_ (w1.alloc (Xe #[Y xn] 3)) ((aZ _ _).alloc (aL _) _)).2 (I w1.heap.size 0) 1 1 (λ_=> Y xn) (by simp[Act.eval,Act.put]) ?_ (λj _=>rfl) tY.o.1 tY.o.2 ?_
        ·intro j hj;obtain rfl:j=0:=G;exact(aH.new w1 3 #[Y xn]).cell 0
        intro v2 w2 r2 f2 i2;obtain⟨Yh,Yi,Yj,rfl⟩:=Row.nC r2;obtain⟨Ti,ff,Tj,im,mL,mV⟩:=Ox.o.fin (w1.alloc (Xe #[Y xn] 3)) ((aZ _ _).alloc (aL _) _) _ w2 r2 f2 i2;exact RU
       ·refine fL ?_;go_simp;refine hK.out _ _ ⟨trivial,Hm.alloc au.2 _⟩ (λau=>?_);clear hK K;refine Mk.pt ?_;refine Gd.ready (rs:=[4]) bj az ?_;refine Gd.eJ.cons rfl (λK hK=>?_) Gd.eJ.nil;have dS:=Z (show Below W.heap.size W ((V.alloc (Xe #[.int .u64 xk] 46)).alloc (Xe #[Y xn] 3))from(OE.o.alloc OE.o.size _).alloc (by rw[aO];have:=OE.o.size;omega) _);refine cU rfl (.tmp 72) (.tmp 74) 41 rfl 46 underlying41 wD rfl bz cv lk.length (ni lk) (by simp[Act.eval,Act.put]) (HRK.o _ dS.o) (I V.heap.size 0) 1 1 (λ_=> .int .u64 xk) (by simp[Act.eval,Act.put]) ?_ (λj _=>rfl) xC.o.1 xC.o.2 ?_
        ·intro j hj;obtain rfl:j=0:=G;exact((aH.new V 46 #[.int .u64 xk]).alloc (Xe #[Y xn] 3)).cell 0
        intro v1 w1 r1 f1 i1;obtain⟨va1,vn1,vc1,rfl⟩:=Row.nC r1;obtain⟨yu,Yn⟩:=HK.o _ w1 _ dS.o r1 f1 i1;have Ox:=Z Yn;have S3:=Z (show aH w1 (V.heap.size+1) 3 #[Y xn]by have:=(aH.new (V.alloc (Xe #[.int .u64 xk] 46)) 3 #[Y xn]).aG f1 (λhc=>by have:=HCN.o _ hc;rw[aO]at this;omega);rw[aO]at this;exact this);clear r1 f1 i1 Yn dS;clear au;refine hK.out _ _ ⟨trivial,yu⟩ (λau=>?_);clear hK K;refine Mk.pt ?_;refine Gd.PT (i:=10) (v:=?_) rfl bj bj bj bj bj (λ_ _ _ h=>Mk.kq h) (Or.inl ⟨by rfl,?_⟩) cJ ?_;rotate_left
        ·exact JU
        refine Mk.pt ?_;refine Gd.ready (rs:=[9]) bj az ?_;refine Gd.eJ.cons rfl (λK hK=>?_) Gd.eJ.nil;refine cU rfl (.tmp 77) (.tmp 79) 24 rfl 3 underlying24 Vf.cA rfl bz dv ln.length (bd ln) (by simp[Act.eval,Act.put]) (Ox.o.at_ w1 (aZ _ _)).2 (I (V.heap.size+1) 0) 1 1 (λ_=> Y xn) (by simp[Act.eval,Act.put]) ?_ (λj _=>rfl) tY.o.1 tY.o.2 ?_
        ·intro j hj;obtain rfl:j=0:=G;exact S3.o.cell 0
        exact ig
      ·refine fL ?_;go_simp;refine hK.out _ _ ⟨trivial,Hm.alloc au.2 _⟩ (λau=>?_);clear hK K;refine Mk.pt ?_;refine Gd.ready (rs:=[3]) bj az ?_;refine Gd.eJ.cons rfl (λK hK=>?_) Gd.eJ.nil;refine fL ?_;go_simp;refine hK.out _ _ ⟨trivial,Hm.alloc au.2 _⟩ (λau=>?_);clear hK K;refine Mk.pt ?_;refine Gd.ready (rs:=[4]) bj az ?_;refine Gd.eJ.cons rfl (λK hK=>?_) Gd.eJ.nil;have dS:=Z (show Below W.heap.size W ((V.alloc (Xe #[Y xn] 3)).alloc (Xe #[.int .u64 xk] 46))from(OE.o.alloc OE.o.size _).alloc (by rw[aO];have:=OE.o.size;omega) _);refine cU rfl (.tmp 72) (.tmp 74) 41 rfl 46 underlying41 wD rfl bz cv lk.length (ni lk) (by simp[Act.eval,Act.put]) (HRK.o _ dS.o) (I (V.heap.size+1) 0) 1 1 (λ_=> .int .u64 xk) (by simp[Act.eval,Act.put]) ?_ (λj _=>rfl) xC.o.1 xC.o.2 ?_
       ·intro j hj;obtain rfl:j=0:=G;have:=(aH.new (V.alloc (Xe #[Y xn] 3)) 46 #[.int .u64 xk]).cell 0;rw[aO]at this;exact this
       intro v1 w1 r1 f1 i1;obtain⟨va1,vn1,vc1,rfl⟩:=Row.nC r1;obtain⟨yu,Yn⟩:=HK.o _ w1 _ dS.o r1 f1 i1;have Ox:=Z Yn;have S3:=Z (show aH w1 V.heap.size 3 #[Y xn]from((aH.new V 3 #[Y xn]).alloc (Xe #[.int .u64 xk] 46)).aG f1 (λhc=>by have:=HCN.o _ hc;omega));clear r1 f1 i1 Yn dS;clear au;refine hK.out _ _ ⟨trivial,yu⟩ (λau=>?_);clear hK K;refine Mk.pt ?_;refine Gd.PT (i:=10) (v:=?_) rfl bj bj bj bj bj (λ_ _ _ h=>Mk.kq h) (Or.inl ⟨by rfl,?_⟩) cJ ?_;rotate_left
       ·exact JU
       refine Mk.pt ?_;refine Gd.ready (rs:=[9]) bj az ?_;refine Gd.eJ.cons rfl (λK hK=>?_) Gd.eJ.nil;refine cU rfl (.tmp 77) (.tmp 79) 24 rfl 3 underlying24 Vf.cA rfl bz dv ln.length (bd ln) (by simp[Act.eval,Act.put]) (Ox.o.at_ w1 (aZ _ _)).2 (I V.heap.size 0) 1 1 (λ_=> Y xn) (by simp[Act.eval,Act.put]) ?_ (λj _=>rfl) tY.o.1 tY.o.2 ?_
       ·intro j hj;obtain rfl:j=0:=G;exact S3.o.cell 0
       exact ig
     case done=>
      rintro D ys W hD rfl ⟨cv,dv,jL⟩ Yk;rw[xT.o,Bi.o]at jL;obtain⟨r0,r1,r2,r3⟩:=jL.o.k.b3.c4;obtain⟨s0,s1,s2,s3⟩:=jL.o.k.b2.c4;have aeC:=jL.o.k.b2.frozen;have l2:=jL.o.k.b2.lt;have l3:=jL.o.k.b3.lt;have hDl:D<W.heap.size:=(Array.getElem?_eq_some_iff.1 Yk).1;have agf:=jL.o.k.me;have hDn:D∉Yl:=λhc=>by have:=UY.o D hc;omega
      have kk:=jL.o.k.mark Yk hDn (by have:=jL.o.lay.le;omega);have lay:=jL.o.lay;obtain⟨a1,a2,a3,rfl⟩:=Row.nC lay.ls.row;obtain⟨b1,b2,b3,rfl⟩:=Row.nC lay.fr.row;obtain⟨c1,c2,c3,rfl⟩:=Row.nC lay.ks.row;obtain⟨d1,d2,d3,rfl⟩:=Row.nC lay.ns.row;clear jL Gu;go_wp2_with fail;have F9:∀v0 v1 v2 v3,aC [w.heap.size] W ((((W.setCell (I w.heap.size 0) v0).setCell (I w.heap.size 1) v1).setCell (I w.heap.size 2) v2).setCell (I w.heap.size 3) v3):=λv0 v1 v2 v3=>((((aC.refl [w.heap.size] W).setCell az _).setCell az _).setCell az _).setCell az _;have E9:∀v0 v1 v2 v3,aH ((((W.setCell (I w.heap.size 0) v0).setCell (I w.heap.size 1) v1).setCell (I w.heap.size 2) v2).setCell (I w.heap.size 3) v3) w.heap.size 52 #[v0,v1,v2,v3]:=λv0 v1 v2 v3=>(((kk.b2.set 0 v0).set 1 v1).set 2 v2).set 3 v3;have G9:∀v0 v1 v2 v3,Below w.heap.size w ((((W.setCell (I w.heap.size 0) v0).setCell (I w.heap.size 1) v1).setCell (I w.heap.size 2) v2).setCell (I w.heap.size 3) v3):=λv0 v1 v2 v3=>(((kk.uo.setCell (aL _) _).setCell (aL _) _).setCell (aL _) _).setCell (aL _) _;replace F9:=F9 (H a1 a2 a3) (H b1 b2 b3) (H c1 c2 c3) (H d1 d2 d3);replace E9:=E9 (H a1 a2 a3) (H b1 b2 b3) (H c1 c2 c3) (H d1 d2 d3);replace G9:=G9 (H a1 a2 a3) (H b1 b2 b3) (H c1 c2 c3) (H d1 d2 d3);have nlo:∀D',D'∈D::Yl->xb+1<=D':=kk.ml;have M9:=kk.uu.keeps λk hk=>F9.block k (kk.uu.lt hk) (by simp;have:=nlo k hk;omega);have abi:=lay.off F9 (λb X=>by simp at X;subst X;exact .inl (.inl G));have abh:=F9.size;generalize(((W.setCell (I w.heap.size 0) (H a1 a2 a3)).setCell (I w.heap.size 1) (H b1 b2 b3)).setCell (I w.heap.size 2) (H c1 c2 c3)).setCell (I w.heap.size 3) (H d1 d2 d3)=W9 at*;refine Mk.uT (D::Yl) _ M9 λW' Fl=>?_;have b':aH W' w.heap.size 52 #[H a1 a2 a3,H b1 b2 b3,H c1 c2 c3,H d1 d2 d3]:=E9.of (Fl.cells M9 E9.B0);have L':=abi.off Fl.aG (λb X=> .inr (.inr ⟨_,M9.at_ b X,rfl⟩));obtain⟨i0,i1,i2,i3⟩:=b'.c4;refine⟨.agg #[H a1 a2 a3,H b1 b2 b3,H c1 c2 c3,H d1 d2 d3],by simp[results,results19,go_sem,i0,i1,i2,i3],?_⟩;refine⟨L,_,_,_,_,g1,w7.heap.size,Ym,HKS.o,rfl,G9.trans (Fl.below λD' hD'=>by have:=nlo D' hD';omega),?_⟩;have abg:=L'.mono (hi':=W'.heap.size) (by rw[Fl.size];exact abh);exact abg.lower G
end
end Go.Ma
namespace al.Vm
open Go.Ma (jr iL)
open Go.Ix (kL)
structure lO(Ls:List (List Nat))(Fr:List Nat)(L:List (Nat×Nat))(kf:Nat->Nat)(nn:Nat):Prop where
 nd:(Ls.flatten++Fr).Nodup
 lt:∀m,m∈Ls.flatten++Fr->m<nn
 up:Fr.Pairwise (· <·)
 inj:∀a b,a∈Ls.flatten->b∈Ls.flatten->kf a=kf b->a=b
 mem:∀k m,(k,m)∈L->m∈Ls.flatten/\kf m=k
 kup:L.Pairwise (λa b=>a.1<b.1)
 len:L.length=Ls.flatten.length
 Ki:Ls.flatten.length+Fr.length=nn
def Gw{s:St}{nq n:Nat}:jr s nq n=true↔∃q,q<nq/\n∈s.a.ls q:=by unfold jr;rw[List.any_eq_true];simp
def gZ{s:St}{nq n:Nat}:n∈((List.range nq).map s.a.ls).flatten↔∃q,q<nq/\n∈s.a.ls q:=by
 rw[List.mem_flatten];constructor
 ·rintro⟨l,h1,h2⟩;obtain⟨q,hq,rfl⟩:=List.mem_map.1 h1;exact⟨q,List.mem_range.1 hq,h2⟩
 ·rintro⟨q,hq,h⟩;exact⟨_,List.mem_map.2 ⟨q,List.mem_range.2 hq,rfl⟩,h⟩
def Lc{s:St}{nl:Nat}(h:Wf nl s.a):∀k,k<=nl->((List.range k).map s.a.ls).flatten.Nodup:=by
 intro k
 induction k with
 |zero=>intro _;simp
 |succ k ih=>intro hk;rw[List.range_succ,List.map_append,List.flatten_append];simp only[List.map_cons,List.map_nil,List.flatten_cons,List.flatten_nil,List.append_nil];refine List.nodup_append.2 ⟨ih G,h.nd k G,λa ha b X e=>?_⟩;subst e;obtain⟨q,hq,hm⟩:=gZ.1 ha;have:=h.Xk q k a G G hm X;omega
def aeB{S:Sys}{p:aU}{s:St}{L:List (Nat×Nat)}{nn:Nat}(hn:S.nq=p.ap.length)(hI:Inv S s)(hL:kL s.f L)(be:∀q n,q<p.ap.length->n∈s.a.ls q->n<nn):
 lO ((List.range p.ap.length).map s.a.ls) (iL p s nn nn) L (λn=>(s.a.val n).key) nn:=by
 have Yo:=hI.wf;rw[hn]at Yo;have n1:=Lc Yo _ (aL _);have hfm:∀m,m∈iL p s nn nn↔m<nn/\jr s p.ap.length m=false:=λm=>by unfold iL;simp
 have iE:(((List.range p.ap.length).map s.a.ls).flatten++iL p s nn nn).Nodup:=by
  refine List.nodup_append.2 ⟨n1,?_,λa ha b X e=>?_⟩
  ·unfold iL;exact List.Pairwise.filter _ List.nodup_range
  ·subst e;have h1:=(hfm a).1 X;have h2:=Gw.2 (gZ.1 ha);rw[h2]at h1;exact absurd h1.2 az
 have gg:∀m,m∈((List.range p.ap.length).map s.a.ls).flatten++iL p s nn nn↔m∈List.range nn:=by
  intro m;rw[fE,List.mem_range,hfm];constructor
  ·rintro(h|h)
   ·obtain⟨q,hq,hm⟩:=gZ.1 h;exact be q m hq hm
   ·exact h.1
  ·intro h;by_cases hh:jr s p.ap.length m=true
   ·exact .inl (gZ.2 (Gw.1 hh))
   ·exact .inr ⟨h,by simpa using hh⟩
 have Ex:∀k m,(k,m)∈L↔∃q,q<p.ap.length/\m∈s.a.ls q/\(s.a.val m).key=k:=λk m=>by rw[hL.mem,hI.idx,hn]
 have Tj:(L.map (·.2)).Nodup:=by refine List.pairwise_map.2 (hL.up.imp_of_mem ?_);intro a b ha X be he;obtain⟨q,-,-,h1⟩:=(Ex a.1 a.2).1 ha;obtain⟨q',-,-,h2⟩:=(Ex b.1 b.2).1 X;rw[he,h2]at h1;omega
 refine⟨iE,λm hm=>List.mem_range.1 ((gg m).1 hm),?_,λa b ha X e=>?_,λk m h=>?_,hL.up,?_,?_⟩
 ·unfold iL;exact List.Pairwise.filter _ List.pairwise_lt_range
 ·obtain⟨q,hq,hm⟩:=gZ.1 ha;obtain⟨q',Ol,jw⟩:=gZ.1 X;exact hI.one G G hm jw e
 ·obtain⟨q,hq,hm,hk⟩:=(Ex k m).1 h;exact⟨gZ.2 ⟨q,hq,hm⟩,hk⟩
 ·have hp:(L.map (·.2)).Perm ((List.range p.ap.length).map s.a.ls).flatten:=by
   refine(List.perm_ext_iff_of_nodup Tj n1).2 λm=>?_;rw[gZ,List.mem_map];constructor
   ·rintro⟨⟨k,m'⟩,h,rfl⟩;obtain⟨q,hq,hm,-⟩:=(Ex k m').1 h;exact⟨q,hq,hm⟩
   ·rintro⟨q,hq,hm⟩;exact⟨((s.a.val m).key,m),(Ex _ _).2 ⟨q,hq,hm,rfl⟩,rfl⟩
  have:=hp.length_eq;rwa[List.length_map]at this
 ·have:=((List.perm_ext_iff_of_nodup iE List.nodup_range).2 gg).length_eq;rwa[mT,List.length_range]at this
def ci(Ls:List (List Nat))(q i:Nat):List Nat:=(Ls.take q).flatten++(Ls.getD q []).take i
section
variable {Ls:List (List Nat)}{Fr:List Nat}{L:List (Nat×Nat)}{kf:Nat->Nat}{nn:Nat}
def qJ{q i:Nat}(hi:i<(Ls.getD q []).length):ci Ls q (i+1)=ci Ls q i++[(Ls.getD q []).getD i 0]:=by unfold ci;rw[List.append_assoc];congr 1;rw[List.take_add_one];congr 1;rw[dQ (i:=i),ft hi];rfl
def Ah{q:Nat}(hq:q<Ls.length):ci Ls q (Ls.getD q []).length=ci Ls (q+1) 0:=by unfold ci;rw[List.take_length,List.take_zero,List.append_nil,List.take_add_one,List.flatten_append];congr 1;simp[List.getD,hq]
def sK:ci Ls Ls.length 0=Ls.flatten:=by unfold ci;simp
def oZ{q i:Nat}(hq:q<Ls.length)(hi:i<(Ls.getD q []).length):∃t,Ls.flatten=ci Ls q i++(Ls.getD q []).getD i 0::t:=by
 refine⟨(Ls.getD q []).drop (i+1)++(Ls.drop (q+1)).flatten,?_⟩;have h1:Ls=Ls.take q++Ls.getD q []::Ls.drop (q+1):=by
  have e:Ls.getD q []=Ls[q]:=by simp[List.getD,hq]
  rw[e,<-uY hq,List.take_append_drop]
 have h2:Ls.getD q []=(Ls.getD q []).take i++(Ls.getD q []).getD i 0::(Ls.getD q []).drop (i+1):=by
  have e:(Ls.getD q []).getD i 0=(Ls.getD q [])[i]:=by simp only[dQ (i:=i),ft hi,Option.getD_some]
  rw[e,<-uY hi,List.take_append_drop]
 conv=>lhs;rw[h1]
 rw[List.flatten_append,List.flatten_cons];unfold ci
 conv=>lhs;rw[h2]
 simp
def lO.fresh(h:lO Ls Fr L kf nn){q i:Nat}(hq:q<Ls.length)(hi:i<(Ls.getD q []).length):(Ls.getD q []).getD i 0∉ci Ls q i/\(Ls.getD q []).getD i 0<nn/\(Ls.getD q []).getD i 0∈Ls.flatten/\∀a,a∈ci Ls q i->a∈Ls.flatten:=by
 obtain⟨t,e⟩:=oZ hq hi;have hm:(Ls.getD q []).getD i 0∈Ls.flatten:=by rw[e];simp
 have h1:=(List.nodup_append.1 h.nd).1;rw[e]at h1;refine⟨λhc=>(List.nodup_append.1 h1).2.2 _ hc _ az rfl,h.lt _ (List.mem_append.2 (.inl hm)),hm,λa ha=>by rw[e];simp[ha]⟩
def lO.free(h:lO Ls Fr L kf nn){i:Nat}(hi:i<Fr.length):Fr.getD i 0∉Ls.flatten++Fr.take i/\Fr.getD i 0<nn/\(0<i->Fr.getD (i-1) 0<Fr.getD i 0):=by
 have e:Fr.getD i 0=Fr[i]:=by simp[List.getD,hi]
 have h2:Fr=Fr.take i++Fr.getD i 0::Fr.drop (i+1):=by rw[e,<-uY hi,List.take_append_drop]
 have h1:=h.nd;rw[h2,<-List.append_assoc]at h1;refine⟨?_,h.lt _ (List.mem_append.2 (.inr (by rw[e];exact il hi))),λh0=>?_⟩
 ·intro hc;exact(List.nodup_append.1 h1).2.2 _ hc _ List.mem_cons_self rfl
 ·have e':Fr.getD (i-1) 0=Fr[i-1]:=by simp[List.getD,show i-1<Fr.length by omega]
  rw[e,e'];exact List.pairwise_iff_getElem.1 h.up _ _ _ _ G
def lO.keys(h:lO Ls Fr L kf nn){i:Nat}(hi:0<i)(hl:i<L.length):(L.map (·.1)).getD (i-1) 0<(L.map (·.1)).getD i 0:=by
 have e:(L.map (·.1)).getD i 0=L[i].1:=by simp[List.getD,hl]
 have e':(L.map (·.1)).getD (i-1) 0=L[i-1].1:=by simp[List.getD,show i-1<L.length by omega]
 rw[e,e'];exact List.pairwise_iff_getElem.1 h.kup _ _ _ _ G
end
end al.Vm
namespace al.Vm
open Go Go.RowKit al
section
variable {P:Program}
def qh{ops:Array Oper}{rest:List Oper}{o:Oper}{a:Act}{w:ek}{Q:Exit->Act->ek->Prop}(KH:o.guard=Xb)(t:TypeId)(parts:Array (Nat×Operand))(ho:o.op= .build t parts)(vs:List (Nat×to))(cells:Array to)
 (hp:(parts.map λ(i,x)=>(i,a.eval x)).toList=vs) (X:P.built t vs=O cells) (h:wpList P ops Q rest (a.put o.dst (.agg cells)) w):wpList P ops Q (o::rest) a w:=
 wpList_plain KH λ_ hK=>wp_build t parts ho (by rw[hp,X];rfl) (by rw[hp,X];exact hK _ _ h)
def aeA{w:ek}{b:Nat}{T:TypeId}{DI cells:Array to}(ty:TypeId)(X:aH w b T DI)(nO:DI.size=cells.size)(hi:(P.info? ty).map (·.size)=O cells.size)(h1:∀v∈cells.toList,v.oneCell'=true):
 ∃w',(storeVar ty (I b 0) (.agg cells)).run P w= .ok () w'/\aH w' b T cells/\aC [b] w w':=by
 have h:=run_storeCells_from (P:=P) b T cells.toList 0 DI w X (by simp[nO]) h1;have e:(DI.toList.take 0++cells.toList).toArray=cells:=by simp
 rw[e]at h;refine⟨w.setRow b cells,?_,setRow_heap w b DI cells T (0,0) X,⟨rfl,rfl,rfl,az,λk _ hk=>setRow_other w b k cells (by simpa using hk)⟩⟩;cases hq:P.info? ty with
 |none=>simp[hq]at hi
 |some i=>
  have hs:cells.size=i.size:=by simp[hq]at hi;omega
  simp[storeVar,Go.sizeOf,typeInfo,hq,Value.cells,hs,h]
def g_{ops:Array Oper}{rest:List Oper}{op:Oper}{a:Act}{w:ek}{Q:Exit->Act->ek->Prop}(KH:op.guard=Xb)(ty:TypeId)(x y:Operand)(ho:op.op= .store ty x y)
 (b:Nat) {T:TypeId} {DI:Array to} (cells:Array to) (hx:a.eval x=Oi b) (hy:a.eval y= .agg cells) (X:aH w b T DI) (nO:DI.size=cells.size) (hi:(P.info? ty).map (·.size)=O cells.size) (h1:∀v∈cells.toList,v.oneCell'=true)
 (h:∀w',aH w' b T cells->aC [b] w w'->wpList P ops Q rest (a.put op.dst undef) w'):wpList P ops Q (op::rest) a w:=
 wpList_plain KH λK hK=>by obtain⟨w',hr,h2,h3⟩:=aeA (P:=P) ty X nO hi h1;have:=hK _ _ (h w' h2 h3);unfold Oper.wp execOp;simp only[ho,hx,hy,Instr.storeAt,Instr.sureAddr,Sem.run_bind,Sem.run_pure,Result.andThen_ok,hr];exact this
def bU{P:Program}{w:ek}{ops:Array Oper}{o:Oper}{a:Act}{K:Act->ek->Prop}{Q:Exit->Act->ek->Prop}{E:Prop}
 (hg:o.guard=Xb) (l c:Operand) (t:TypeId) (dO:o.op=Op.makeSlice t l c)
 (e:TypeId) {size bytes:Nat} {z:to} (h1:P.underlying t=O (.slice e)) (hi:(P.info? e).map (λi=>(i.zero,i.size,i.bytes))=O (O z,size,bytes)) (hz:z.cells.size=size) (hs:0<size)
 (kl kc:IntKind) (L C:Int) (n:Nat) (hl:a.eval l= .int kl L) (hc:a.eval c= .int kc C) (hL:L=(n:Int)) (hC:C=(n:Int)) (b2:bytes*n<=281474976710656) (b3:n<=maxLen)
 (hK:∀w',Row w' e size (H (O (I w.heap.size 0)) n n) n (λo=>z.cells.getD (o % size) undef)->Below w.heap.size w w'->K (a.put o.dst (H (O (I w.heap.size 0)) n n)) w'):
 if Region.wanted o (yielded ops a.tmps)=true then Oper.wp P o a w K Q else E:=by
 have hw:Region.wanted o (yielded ops a.tmps)=true:=by simp[Region.wanted,hg]
 rw[if_pos hw];obtain⟨i,zC,xS,MO,S_⟩:=info_parts hi;obtain⟨w',ri,r1,r2⟩:=run_make_full (P:=P) w 0 t e i z size h1 zC xS MO kl kc n (by rw[S_];exact b2) b3 (ck _);have hK2:=hK w' (by
  unfold Row;have:(madeCells z.cells (n*size)).toList=fw (n*size) (λo=>z.cells.getD (o % size) undef):=by
   unfold madeCells fw;rw[hz];simp only[Array.toList_map,Array.toList_range];refine List.map_congr_left λi _=>?_;have be:i % size<z.cells.size:=by rw[hz];exact Nat.mod_lt _ hs
   simp[Array.getD,be]
  rw[<-this];exact r1) ((ej r2).below (Nat.le_refl _) az)
 subst hL;subst hC;unfold Oper.wp;simp[execOp,dO,hl,hc,ri,Result.andThen];exact hK2
end
end al.Vm
namespace Go.Vf
open Go.RowKit al.Vm
open al hiding aS aw an
open Ma (dW cy bd vb)
def ue(w:ek)(n lo hi:Int):Calls prog 241 #[Y n,Y lo,Y hi] w (λe w'=>e=Xc (.bool (aP n lo hi))/\w'=w):=by
 by_cases h1:lo<=n
 ·by_cases h2:n<=hi
  ·go_enter func241,ntmps241;go_wp2;go_ret;simp[aP,h1,h2]
  ·go_enter func241,ntmps241;go_wp2;go_ret;simp[aP,h1,h2]
 ·go_enter func241,ntmps241;go_wp2;go_ret;simp[aP,h1];omega
def Jm:List (List Nat):=[[101,110,100],[110,117,109],[98,111,111,108],[118,97,114],[108,101,110],[99,97,112],[115,105,122,101],[116,111,116,97,108],[97,116],[116,97,103,120],[116,97,103,101,110,100],[109,105,110],[109,97,120],[110,101,103],[110,111,116],[109,117,108],[100,105,118],[97,100,100],[115,117,98],[101,113],[108,116],[108,101],[106,117,109,112],[101,108,115,101],[108,111,111,112],[116,117,114,110],[113,117,105,116],[97,103,97,105,110],[115,101,116],[109,97,114,107,120],[109,97,114,107,101,110,100],[105,110,115,101,114,116],[109,111,118,101],[102,111,114,103,101,116],[116,97,107,101],[103,105,118,101],[116,101,108,108],[108,111,111,115,101],[115,104,105,102,116],[115,112,105,108,108],[101,118,105,99,116],[100,114,111,112]]
def bytesOf(l:List Nat):ByteArray:=⟨(l.map UInt8.ofNat).toArray⟩
def xD(k:Nat):Nat:=[0,113,118,116,101,110,98,114,112].getD k 0
def pz(op:Nat):ByteArray:=bytesOf ((cM op).map xD)
def qi(j:Nat):to:=if j % 2=0 then .string (bytesOf (Jm.getD (j / 2) []))else .string (pz (j / 2))
def jV:Array to:=((List.range 84).map qi).toArray
def vu:jV.size=84:=by simp[jV]
def Ai{j:Nat}(h:j<84):jV[j]? =O (qi j):=by simp[jV,h]
def xE:∀v∈jV.toList,v.oneCell'=true:=by intro v hv;simp only[jV,List.toList_toArray,List.mem_map]at hv;obtain⟨j,-,rfl⟩:=hv;unfold qi;split<;>rfl
def abe(w:ek)(op:Nat)(h2:op<42):Calls prog 239 #[Y op] w (λe w'=>(∃nm,e=Xc (.tuple #[.agg #[.string nm,.string (pz op)],.bool true]))/\Below w.heap.size w w'):=by
 go_enter func239,ntmps239;have e1:((op:Int)<0)=False:=by simp
 have e2:((42:Int)<=op)=False:=by simp;omega
 have hT:(prog.info? 314).map (λi=>i.size)=O jV.size:=by kernel_rfl
 go_wp2_with (first|refine qh rfl 314 _ rfl _ jV rfl (by as_aux_lemma=>kernel_rfl) ?_|refine g_ rfl 314 _ _ rfl (w.heap.size+1) jV rfl rfl (aH.bK az) (by rw[vu];rfl) hT xE ?_);intro w' X hf;have hB:Below w.heap.size w w':=(((aZ _ w).alloc (aL _) _).alloc az _).trans (hf.below (by simp only[aO];omega) az);have c1:Xf w' (I (w.heap.size+1) (op*2))=O (.string (bytesOf (Jm.getD op []))):=by rw[X.cell,Ai G];unfold qi;rw[aE G,show op*2 / 2=op by omega]
 generalize bytesOf (Jm.getD op [])=nm at c1;have c2:Xf w' (I (w.heap.size+1) (op*2+1))=O (.string (pz op)):=by rw[X.cell,Ai G];unfold qi;rw[ax G,show(op*2+1) / 2=op by omega]
 have dR:aH w' w.heap.size 266 #[.string ⟨#[]⟩,.string ⟨#[]⟩]:=((aH.new w _ _).alloc _).aG hf az;obtain⟨d1,d2⟩:=dR.c2;have fz:=dR.frozen;have HB:=Z hB;have fR:=Z dR;clear X hf hB hT dR;go_wp2_with fail;have b9:=(fR.o.set 0 (.string nm)).set 1 (.string (pz op));have hB9:=(HB.o.setCell (p:=(I w.heap.size 0)) (aL _) (.string nm)).setCell (p:=(I w.heap.size 1)) (aL _) (.string (pz op));generalize(w'.setCell (I w.heap.size 0) (.string nm)).setCell (I w.heap.size 1) (.string (pz op))=W9 at*;obtain⟨i0,i1⟩:=b9.c2;refine bR (v:= .tuple #[.agg #[.string nm,.string (pz op)],.bool true]) ?_ rfl ⟨⟨_,rfl⟩,hB9⟩;simp[results,results239,go_sem,i0,i1]
def RR{p:Prop}(h:p:=by
 go_wp2_with fail;have b9:=(fR.o.set 0 (.string ⟨#[]⟩)).set 1 (.string ⟨#[]⟩);have hB9:=(HB.o.setCell (p:=(I w.heap.size 0)) (aL _) (.string ⟨#[]⟩)).setCell (p:=(I w.heap.size 1)) (aL _) (.string ⟨#[]⟩);generalize(w'.setCell (I w.heap.size 0) (.string ⟨#[]⟩)).setCell (I w.heap.size 1) (.string ⟨#[]⟩)=W9 at*;obtain⟨i0,i1⟩:=b9.c2;refine bR (v:= .tuple #[.agg #[.string ⟨#[]⟩,.string ⟨#[]⟩],.bool false]) ?_ rfl ⟨rfl,hB9⟩;simp[results,results239,go_sem,i0,i1]):p:=h
def aey(w:ek)(op:Int)(h2:op<0\/42<=op):Calls prog 239 #[Y op] w (λe w'=>e=Xc (.tuple #[.agg #[.string ⟨#[]⟩,.string ⟨#[]⟩],.bool false])/\Below w.heap.size w w'):=by
 go_enter func239,ntmps239;have hT:(prog.info? 314).map (λi=>i.size)=O jV.size:=by kernel_rfl
 go_wp2_with (first|refine qh rfl 314 _ rfl _ jV rfl (by as_aux_lemma=>kernel_rfl) ?_|refine g_ rfl 314 _ _ rfl (w.heap.size+1) jV rfl rfl (aH.bK az) (by rw[vu];rfl) hT xE ?_);intro w' X hf;have hB:Below w.heap.size w w':=(((aZ _ w).alloc (aL _) _).alloc az _).trans (hf.below (by simp only[aO];omega) az);have dR:aH w' w.heap.size 266 #[.string ⟨#[]⟩,.string ⟨#[]⟩]:=((aH.new w _ _).alloc _).aG hf az;obtain⟨d1,d2⟩:=dR.c2;have fz:=dR.frozen;have HB:=Z hB;have fR:=Z dR;clear X hf hB hT dR;rcases h2 with h2|h2
 ·exact RR
 ·by_cases h3:op<0
  ·omega
  exact RR
structure KpS(K:Kp)(p:aU):Prop where
 g:∃a c,K.g=H a p.ap.length c/\p.ap.length<=c/\c<=maxLen
 v:∃a c,K.v=H a p.vars.length c/\p.vars.length<=c/\c<=maxLen
 t:∃a c,K.t=H a p.aW.length c/\p.aW.length<=c/\c<=maxLen
 o:∃a c,K.o=H a p.on.length c/\p.on.length<=c/\c<=maxLen
 c:∃a c,K.c=H a p.code.length c/\p.code.length<=c/\c<=maxLen
def gM.sl{w:ek}{K:Kp}{p:aU}(h:gM w K p):KpS K p:=⟨h.g.val,h.v.val,h.t.val,h.o.val,h.cd.val⟩
def r7(n c:Nat)(h:n<=c)(hc:c<=maxLen):IntKind.i64.wrap ((n:Int) - 1)=(n:Int) - 1:=bJ _ (by unfold maxLen at hc;constructor<;>omega)
def Ld{p:Prop}(h:p:=by
 go_enter func240,ntmps240;simp only[xD,List.getD_cons_zero,List.getD_cons_succ];exact Yp):p:=h
def Le{p:Prop}(h:p:=by
 go_enter func240,ntmps240;simp only[xD,List.getD_cons_zero,List.getD_cons_succ];go_wp2;go_quiet (fail);exact Yp):p:=h
def Yp{p:Prop}(h:p:=by
 go_wp2;go_ret2
 first|exact⟨by simp[kw,kz],hB _ _⟩|exact⟨by simp[kw,kz],(hB _ _).trans (aA _ _ _)⟩):p:=h
def aex(w:ek){K:Kp}{p:aU}(h:KpS K p)(k:Nat)(hk:1<=k/\k<=8):Calls prog 240 #[pV K p,.int .u8 (xD k)] w (λe w'=>e=Xc (.tuple #[Y (kw k),Y (kz p k)])/\Below w.heap.size w w'):=by
 obtain⟨⟨ga,gc,g1,g2,g3⟩,⟨va,vc,v1,v2,v3⟩,⟨ta,tc,t1,t2,t3⟩,⟨oa,oc,o1,o2,o3⟩,⟨ca,cc,c1,c2,c3⟩⟩:=h;unfold pV;rw[g1,v1,t1,o1,c1];have w1:=r7 _ _ g2 g3;have w2:=r7 _ _ v2 v3;have w3:=r7 _ _ t2 t3;have w4:=r7 _ _ c2 c3;clear g1 g2 g3 v1 v2 v3 t1 t2 t3 o1 o2 o3 c1 c2 c3;have e:k=1\/k=2\/k=3\/k=4\/k=5\/k=6\/k=7\/k=8:=G;have hB:=rH w;rcases e with rfl|rfl|rfl|rfl|rfl|rfl|rfl|rfl
 ·exact Le
 ·exact Le
 ·exact Le
 ·exact Ld
 ·exact Ld
 ·exact Ld
 ·exact Ld
 ·exact Le
section
variable {w:ek}{K:Kp}{p:aU}
def gM.vr(h:gM w K p){i:Nat}(hi:i<p.vars.length):∃b off cap,K.v=H (O (I b off)) p.vars.length cap/\p.vars.length<=cap/\cap<=maxLen/\b<w.heap.size/\
 Xf w (I b (off+i*3))=O (Y (p.vars.getD i ⟨0,0,0⟩).init)/\Xf w (I b (off+i*3+1))=O (Y (p.vars.getD i ⟨0,0,0⟩).lo)/\Xf w (I b (off+i*3+2))=O (Y (p.vars.getD i ⟨0,0,0⟩).hi):=by
 obtain⟨b,off,cap,hv,h1,h2,X,hc⟩:=h.v.some G G;have key:∀k,k<3->Xf w (I b (off+i*3+k))=O (dW p (i*3+k)):=λk hk=>by rw[Nat.add_assoc];exact hc (i*3+k) G
 have hd:∀k,k<3->(i*3+k) / 3=i:=λk hk=>G;have hm:∀k,k<3->(i*3+k) % 3=k:=λk hk=>G;refine⟨b,off,cap,hv,h1,h2,X,(key 0 G).trans ?_,(key 1 G).trans ?_,(key 2 G).trans ?_⟩
 ·unfold dW;dsimp only;rw[hd 0 G,hm 0 G];rfl
 ·unfold dW;dsimp only;rw[hd 1 G,hm 1 G];rfl
 ·unfold dW;dsimp only;rw[hd 2 G,hm 2 G];rfl
def all_false{α:Type}{l:List α}{f:α->Bool}{i:Nat}{d:α}(hi:i<l.length)(h:f (l.getD i d)=false):l.all f=false:=by rw[List.all_eq_false];refine⟨l[i],il hi,?_⟩;rw[dQ,ft hi]at h;simpa using h
def all_true{α:Type}{l:List α}{f:α->Bool}{d:α}(h:∀i,i<l.length->f (l.getD i d)=true):l.all f=true:=by rw[rB];intro x hx;obtain⟨i,hi,rfl⟩:=rZ hx;have:=h i hi;rw[dQ,ft hi]at this;simpa using this
def FrV(w:ek)(v:to)(n i:Nat)(a:Act):Prop:=∃J:Nat->to,a={tmps:=#[J 0,Oi w.heap.size,J 2,J 3,J 4,J 5,J 6,J 7,J 8,J 9,J 10,J 11,J 12,J 13,J 14,J 15,J 16,J 17,J 18,J 19,J 20,J 21,J 22,J 23,J 24,J 25,J 26,J 27,J 28,J 29,J 30,J 31,J 32,J 33,J 34,J 35,J 36,J 37,J 38,J 39,J 40,v,Y n,Y i,J 44,J 45,J 46,J 47,J 48,J 49,J 50,J 51,J 52,J 53,J 54,J 55,J 56,J 57,J 58,J 59,J 60,J 61,J 62,J 63,J 64,J 65,J 66,J 67,J 68,J 69,J 70,J 71,J 72,J 73,J 74,J 75,J 76,J 77,J 78,J 79,J 80,J 81,J 82,J 83,J 84,J 85,J 86,J 87,J 88,J 89,J 90,J 91,J 92,J 93,J 94,J 95,J 96,J 97,J 98,J 99,J 100,J 101,J 102],defers:=[]}
def FrT(w:ek)(v:to)(n i:Nat)(a:Act):Prop:=∃J:Nat->to,a={tmps:=#[J 0,Oi w.heap.size,J 2,J 3,J 4,J 5,J 6,J 7,J 8,J 9,J 10,J 11,J 12,J 13,J 14,J 15,J 16,J 17,J 18,J 19,J 20,J 21,J 22,J 23,J 24,J 25,J 26,J 27,J 28,J 29,J 30,J 31,J 32,J 33,J 34,J 35,J 36,J 37,J 38,J 39,J 40,J 41,J 42,J 43,J 44,J 45,J 46,J 47,J 48,J 49,J 50,J 51,J 52,J 53,J 54,J 55,J 56,J 57,J 58,J 59,J 60,J 61,J 62,J 63,J 64,J 65,J 66,J 67,J 68,J 69,J 70,v,Y n,Y i,J 74,J 75,J 76,J 77,J 78,J 79,J 80,J 81,J 82,J 83,J 84,J 85,J 86,J 87,J 88,J 89,J 90,J 91,J 92,J 93,J 94,J 95,J 96,J 97,J 98,J 99,J 100,J 101,J 102],defers:=[]}
def FrO(w:ek)(v:to)(n i:Nat)(a:Act):Prop:=∃J:Nat->to,a={tmps:=#[J 0,Oi w.heap.size,J 2,J 3,J 4,J 5,J 6,J 7,J 8,J 9,J 10,J 11,J 12,J 13,J 14,J 15,J 16,J 17,J 18,J 19,J 20,J 21,J 22,J 23,J 24,J 25,J 26,J 27,J 28,J 29,J 30,J 31,J 32,J 33,J 34,J 35,J 36,J 37,J 38,J 39,J 40,J 41,J 42,J 43,J 44,J 45,J 46,J 47,J 48,J 49,J 50,J 51,J 52,J 53,J 54,J 55,J 56,J 57,J 58,J 59,J 60,J 61,J 62,J 63,J 64,J 65,J 66,J 67,J 68,J 69,J 70,J 71,J 72,J 73,J 74,J 75,J 76,J 77,J 78,J 79,J 80,J 81,v,Y n,Y i,J 85,J 86,J 87,J 88,J 89,J 90,J 91,J 92,J 93,J 94,J 95,J 96,J 97,J 98,J 99,J 100,J 101,J 102],defers:=[]}
def i_(K:Kp)(p:aU):Array to:=#[K.g,K.v,K.t,K.o,Y p.aV,K.c]
def Q8(w:ek)(K:Kp)(p:aU)(v:to)(m:Nat)(a:Act)(W:ek):Prop:=
 ∃i,i<=p.vars.length/\m+i=p.vars.length+1/\FrV w v p.vars.length i a/\Below w.heap.size w W/\aH W w.heap.size 27 (i_ K p)/\∀j,j<i->oT (p.vars.getD j ⟨0,0,0⟩)=true
def Q9(w:ek)(K:Kp)(p:aU)(v:to)(m:Nat)(a:Act)(W:ek):Prop:=
 ∃i,i<=p.aW.length/\m+i=p.aW.length+1/\FrT w v p.aW.length i a/\Below w.heap.size w W/\aH W w.heap.size 27 (i_ K p)/\∀j,j<i->aP (p.aW.getD j 0) 1 255=true
def adb(w:ek)(K:Kp)(p:aU)(v:to)(m:Nat)(a:Act)(W:ek):Prop:=
 ∃i,i<=p.ap.length/\m+i=p.ap.length+1/\FrO w v p.ap.length i a/\Below w.heap.size w W/\aH W w.heap.size 27 (i_ K p)/\∀j,j<i->aP (p.on.getD j 0) (-1) ((p.code.length:Int) - 1)=true
def Lf{p:Prop}(h:p:=by
 go_wp2;go_ret;exact⟨by rw[HF.o];rfl,Lg.o.alloc Lg.o.size _⟩):p:=h
def Q_{p:Prop}(h:p:=by
 go_wp2_with fail;refine tR.o.mono ?_;rintro e w' ⟨rfl,rfl⟩;go_wp2;go_ret;exact⟨by rw[HF.o];rfl,Lg.o⟩):p:=h
def aew(w:ek){K:Kp}{p:aU}(h:gM w K p):Calls prog 238 #[pV K p] w (λe w'=>e=Xc (.bool (cC p))/\Below w.heap.size w w'):=by
 obtain⟨⟨ga,gc,g1,g2,g3⟩,⟨va,vc,v1,v2,v3⟩,⟨ta,tc,t1,t2,t3⟩,⟨oa,oc,o1,o2,o3⟩,⟨ca,cc,c1,c2,c3⟩⟩:=h.sl;have hB:=rH w;have HW:=Z (r7 _ _ c2 c3);have a0g:=Z h;have U2:aH (w.alloc (Xe (i_ K p) 27)) w.heap.size 27 (i_ K p):=aH.new w _ _;obtain⟨kg,kv,kt,ko,kc⟩:=K;dsimp only at g1 v1 t1 o1 c1;subst g1 v1 t1 o1 c1;unfold pV;unfold i_ at U2;have oD:=Z U2;have m3:=Z v3;have m4:=Z t3;have m5:=Z o3;clear h g2 g3 v2 v3 t2 t3 o2 o3 c2 c3 U2;by_cases h1:p.ap.length<=16
 case neg=>go_enter func238,ntmps238;go_wp2;go_ret;exact⟨by simp[cC,h1],hB _ _⟩
 by_cases h2:p.vars.length<=16
 case neg=>go_enter func238,ntmps238;go_wp2;go_ret;exact⟨by simp[cC,h2],hB _ _⟩
 by_cases h3:p.aW.length<=4
 case neg=>go_enter func238,ntmps238;go_wp2;go_ret;exact⟨by simp[cC,h3],hB _ _⟩
 by_cases h4:p.on.length=p.ap.length
 case neg=>go_enter func238,ntmps238;go_wp2;go_ret;exact⟨by simp[cC,h4],hB _ _⟩
 by_cases h5:p.code.length<=262144
 case neg=>go_enter func238,ntmps238;go_wp2;go_ret;exact⟨by simp[cC,h5],hB _ _⟩
 go_enter func238,ntmps238;go_wp2_with fail;simp only[h4]at a0g oD;refine Mk.aM (Q8 w ⟨H ga p.ap.length gc,H va p.vars.length vc,H ta p.aW.length tc,H oa p.ap.length oc,H ca p.code.length cc⟩ p (H va p.vars.length vc)) (p.vars.length+1) ?start ?zero ?round
 case start=>exact⟨0,ck _,G,rp rfl,hB _ _,oD.o,λj hj=>absurd hj G⟩
 case zero=>exact λa W hh=>by obtain⟨q,h1,h2,_⟩:=hh;omega
 clear oD
 case round=>
  rintro m a W ⟨i,hi,hm,⟨J,rfl⟩,X,hk,gJ⟩;have HA:=Z gJ;by_cases be:i<p.vars.length
  ·obtain⟨b,off,cap,hv,q1,q2,xO,c0,c1,c2⟩:=(a0g.o.aG (aC.ai X)).vr be;simp only[cL]at hv;obtain⟨rfl,-,rfl⟩:=hv;have fin:∀r,oT (p.vars.getD i ⟨0,0,0⟩)=r->(r=false->cC p=false):=λr e hr=>by subst hr;have:=all_false be e;simp[cC,this]
   generalize hx:p.vars.getD i ⟨0,0,0⟩=x at*;have HX:=Z hx;have Lg:=Z X;have HK:=Z hk;have q1':=Z q1;clear gJ hx hk q1 q2;have OF:oT x=(decide (x.lo<=x.init)&&decide (x.init<=x.hi)&&decide (-1073741824<=x.lo)&&decide (x.hi<=1073741824)):=rfl;by_cases k1:x.lo<=x.init
   case neg=>have HF:=Z (fin false (by simp[OF,k1]) rfl);clear fin OF;exact Lf
   by_cases k2:x.init<=x.hi
   case neg=>have HF:=Z (fin false (by simp[OF,k2]) rfl);clear fin OF;exact Lf
   by_cases k3: -1073741824<=x.lo
   case neg=>have HF:=Z (fin false (by simp[OF,k3]) rfl);clear fin OF;exact Lf
   by_cases k4:x.hi<=1073741824
   case neg=>have HF:=Z (fin false (by simp[OF,k4]) rfl);clear fin OF;exact Lf
   go_wp2;refine⟨i+1,G,G,rp rfl,Lg.o.alloc Lg.o.size _,HK.o.alloc _,λj hj=>?_⟩;by_cases e:j=i
   ·subst e;rw[HX.o,OF];simp[k1,k2,k3,k4]
   ·exact HA.o j G
  ·obtain rfl:i=p.vars.length:=G;have x2:Xf W (I w.heap.size 2)=O (H ta p.aW.length tc):=hk.cell 2;have lx:=hk.lt;have Lg:=Z X;have HK:=Z hk;have Qi:=Z (all_true HA.o);clear gJ hk X;go_wp2;refine Mk.aM (Q9 w ⟨H ga p.ap.length gc,H va p.vars.length vc,H ta p.aW.length tc,H oa p.ap.length oc,H ca p.code.length cc⟩ p (H ta p.aW.length tc)) (p.aW.length+1) ?Ae ?Gv ?Af
   case Ae=>exact⟨0,ck _,G,rp rfl,Lg.o,HK.o,λj hj=>absurd hj G⟩
   case Gv=>exact λa W hh=>by obtain⟨q,h1,h2,_⟩:=hh;omega
   clear HK Lg x2 lx
   case Af=>
    rintro m2 a2 W2 ⟨i,xS,ul,⟨J2,rfl⟩,X,hk,gJ⟩;have U6:=Z gJ;have Lg:=Z X;have HK:=Z hk;by_cases rj:i<p.aW.length
    ·obtain⟨b,off,cap,hv,q1,q2,xO,hc⟩:=(a0g.o.aG (aC.ai X)).t.some G G;simp only[cL]at hv;obtain⟨rfl,-,rfl⟩:=hv;have c0:Xf W2 (I b (off+i))=O (Y (p.aW.getD i 0)):=hc i G;generalize hx:p.aW.getD i 0=x at*;have HX:=Z hx;clear hc q1 q2 X hk gJ hx;cases hf:aP x 1 255 with
     |false=>
      have HF:=Z (show cC p=false by
       have:=all_false (f:=λt=>aP t 1 255) rj (by rw[HX.o];exact hf);simp[cC,this])
      have tR:=Z (show Calls prog 241 #[Y x,Y 1,Y 255] W2 _ from hf▸ue W2 x 1 255);clear hf;exact Q_
     |true=>
      have tR:=Z (show Calls prog 241 #[Y x,Y 1,Y 255] W2 _ from hf▸ue W2 x 1 255);have nN:=Z hf;clear hf;go_wp2_with fail;refine tR.o.mono ?_;rintro e w' ⟨rfl,rfl⟩;go_wp2;refine⟨i+1,G,G,rp rfl,Lg.o,HK.o,λj hj=>?_⟩;by_cases e:j=i
      ·subst e;rw[HX.o];exact nN.o
      ·exact U6.o j G
    ·obtain rfl:i=p.aW.length:=G;have HTS:=Z (all_true (f:=λt=>aP t 1 255) U6.o);have x3:Xf W2 (I w.heap.size 3)=O (H oa p.ap.length oc):=hk.cell 3;have lx:=hk.lt;clear X hk gJ;go_wp2;refine Mk.aM (adb w ⟨H ga p.ap.length gc,H va p.vars.length vc,H ta p.aW.length tc,H oa p.ap.length oc,H ca p.code.length cc⟩ p (H oa p.ap.length oc)) (p.ap.length+1) ?aab ?ade ?aac
     case aab=>exact⟨0,ck _,G,rp rfl,Lg.o,HK.o,λj hj=>absurd hj G⟩
     case ade=>exact λa W hh=>by obtain⟨q,h1,h2,_⟩:=hh;omega
     clear HK Lg x3 lx
     case aac=>
      rintro m3 a3 W3 ⟨i,MO,hm3,⟨J3,rfl⟩,X,hk,gJ⟩;have wk:=Z gJ;have Lg:=Z X;have HK:=Z hk;have y5:Xf W3 (I w.heap.size 5)=O (H ca p.code.length cc):=hk.cell 5;have y4:Xf W3 (I w.heap.size 4)=O (Y p.aV):=hk.cell 4;have lx:=hk.lt;have hws:=HW.o;by_cases agh:i<p.ap.length
      ·obtain⟨b,off,cap,hv,q1,q2,xO,hc⟩:=(a0g.o.aG (aC.ai X)).o.some G G;simp only[cL]at hv;obtain⟨rfl,-,rfl⟩:=hv;have c0:Xf W3 (I b (off+i))=O (Y (p.on.getD i 0)):=hc i G;generalize hx:p.on.getD i 0=x at*;have HX:=Z hx;clear hc q1 q2 X hk gJ hx y4;cases hf:aP x (-1) ((p.code.length:Int) - 1)with
       |false=>
        have HF:=Z (show cC p=false by
         have:=all_false (f:=λn=>aP n (-1) ((p.code.length:Int) - 1)) (l:=p.on) (i:=i) G (by rw[HX.o];exact hf);simp[cC,this])
        have tR:=Z (show Calls prog 241 #[Y x,Y (-1),Y ((p.code.length:Int) - 1)] W3 _ from hf▸ue W3 x (-1) ((p.code.length:Int) - 1));clear hf;exact Q_
       |true=>
        have tR:=Z (show Calls prog 241 #[Y x,Y (-1),Y ((p.code.length:Int) - 1)] W3 _ from hf▸ue W3 x (-1) ((p.code.length:Int) - 1));have nN:=Z hf;clear hf;go_wp2_with fail;refine tR.o.mono ?_;rintro e w' ⟨rfl,rfl⟩;go_wp2;refine⟨i+1,G,G,rp rfl,Lg.o,HK.o,λj hj=>?_⟩;by_cases e:j=i
        ·subst e;rw[HX.o];exact nN.o
        ·exact wk.o j G
      ·obtain rfl:i=p.ap.length:=G;have HOS:=Z (all_true (f:=λn=>aP n (-1) ((p.code.length:Int) - 1)) (l:=p.on) (d:=0) (λi hi=>wk.o i G));have tR:=Z (ue W3 p.aV (-1) ((p.code.length:Int) - 1));have HF:=Z (show cC p=aP p.aV (-1) ((p.code.length:Int) - 1)by
        unfold cC;rw[Qi.o,HTS.o,HOS.o];simp[h1,h2,h3,h4,h5])
       clear X hk gJ;exact Q_
end
end Go.Vf
section
def Oe{p:Prop}(h:p:=by
 go_wp2;go_ret;exact⟨by rw[HF.o];rfl,HB.o⟩):p:=h
namespace Go.Vf
open Go.RowKit al.Vm
open al hiding aS aw an
open Ma (dW cy bd vb)
def FrC(w:ek)(v:to)(n i:Nat)(a:Act):Prop:=∃J:Nat->to,a={tmps:=#[J 0,Oi w.heap.size,J 2,J 3,J 4,J 5,J 6,J 7,J 8,J 9,J 10,J 11,J 12,J 13,J 14,v,Y n,Y i,J 18,J 19,J 20,J 21,J 22,J 23,J 24,J 25,J 26,J 27,J 28,J 29,J 30,J 31,J 32,J 33,J 34,J 35,J 36,J 37,J 38,J 39,J 40,J 41,J 42,J 43,J 44,J 45,J 46,J 47,J 48,J 49,J 50,J 51,J 52,J 53,J 54,J 55,J 56,J 57,J 58,J 59,J 60,J 61,J 62,J 63,J 64],defers:=[]}
def FrD(w:ek)(v:to)(n i ib sb j:Nat)(a:Act):Prop:=∃J:Nat->to,a={tmps:=#[J 0,Oi w.heap.size,J 2,J 3,Oi ib,Oi sb,J 6,J 7,J 8,J 9,J 10,J 11,J 12,J 13,J 14,v,Y n,Y i,J 18,J 19,J 20,J 21,J 22,J 23,J 24,J 25,J 26,J 27,J 28,J 29,J 30,J 31,J 32,J 33,J 34,J 35,J 36,H (O (I (sb+1) 0)) 4 4,Y 4,Y j,J 40,J 41,J 42,J 43,J 44,J 45,J 46,J 47,J 48,J 49,J 50,J 51,J 52,J 53,J 54,J 55,J 56,J 57,J 58,J 59,J 60,J 61,J 62,J 63,J 64],defers:=[]}
def oL(x:Ins)(j:Nat):Int:=(operands x).getD j 0
def dN(x:Ins)(j:Nat):Nat:=(cM x.op.toNat).getD j 0
def vw{p:aU}{x:Ins}(h:∀j,j<4->bF p (dN x j) (oL x j)=true):iU p x=true:=by unfold iU;have h0:=h 0 G;have h1:=h 1 G;have h2:=h 2 G;have h3:=h 3 G;simp only[dN,oL,operands,List.getD_cons_zero,List.getD_cons_succ]at h0 h1 h2 h3;rw[h0,h1,h2,h3];rfl
def qj{p:aU}{x:Ins}{j:Nat}(hj:j<4)(h:bF p (dN x j) (oL x j)=false):iU p x=false:=by unfold iU;have e:j=0\/j=1\/j=2\/j=3:=G;rcases e with rfl|rfl|rfl|rfl<;>simp only[dN,oL,operands,List.getD_cons_zero,List.getD_cons_succ]at h<;>rw[h]<;>simp
def aev:∀op,op<42->∀j,j<(cM op).length->1<=(cM op).getD j 0/\(cM op).getD j 0<=8:=by decide
def Cq(op:Nat):(pz op).size=(cM op).length:=by simp[pz,bytesOf,ByteArray.size]
def Lh:∀op,op<42->∀j,j<(cM op).length->((pz op).data.getD j 0).toNat=xD ((cM op).getD j 0):=by decide
def abc(w:ek){n j:Nat}(hn:n<42)(hj:j<(cM n).length):(Instr.index 9 (.string (pz n)) (Y j)).run prog w= .ok (.int .u8 (xD ((cM n).getD j 0))) w:=by
 have hs:=Cq n;have hi:0<=(j:Int)/\(j:Int)<((pz n).size:Int):=G;have h2:j<(pz n).size:=G;rw[run_index_string w _ _ _ _ underlying9,dif_pos hi];have h3:=Lh n hn j hj;simp only[Int.toNat_natCast];have h4:(pz n).data.getD j 0=(pz n)[j]:=by simp only[Aj];rw[Ak (show j<(pz n).data.size from h2)];rfl
 rw[<-h3,h4]
def nE{p:aU}{i:Nat}(hi:i<p.code.length):dP p (p.code.drop i)=if jX (ak p i)then(if iU p (ak p i)then dP p (p.code.drop (i+1))else 92)else 91:=by
 rw[uY hi];show(if _ then _ else _)=_;have e:ak p i=p.code[i]:=by unfold ak;rw[dQ,ft hi];rfl
 rw[e]
def adf(w:ek)(K:Kp)(p:aU)(m:Nat)(a:Act)(W:ek):Prop:=
 ∃i,i<=p.code.length/\m+i=p.code.length+1/\FrC w K.c p.code.length i a/\Hid (Below w.heap.size w W)/\Hid (aH W w.heap.size 27 (i_ K p))/\Hid (dP p p.code=dP p (p.code.drop i))
def adg(w:ek)(K:Kp)(p:aU)(i ib sb:Nat)(nm:ByteArray)(m:Nat)(a:Act)(W:ek):Prop:=
 ∃j,j<=4/\m+j=5/\FrD w K.c p.code.length i ib sb j a/\Hid (Below w.heap.size w W)/\Hid (aH W w.heap.size 27 (i_ K p))/\
  Hid (aH W sb 266 #[.string nm,.string (pz (ak p i).op.toNat)])/\Hid (aH W (sb+1) 3 #[Y (ak p i).a,Y (ak p i).b,Y (ak p i).c,Y (ak p i).d])/\Hid (∀j',j'<j->bF p (dN (ak p i) j') (oL (ak p i) j')=true)
def DL(w:ek){K:Kp}{p:aU}(h:gM w K p):Calls prog 172 #[pV K p] w (λe w'=>e=Xc (Y (bE p))/\Below w.heap.size w w'):=by
 obtain⟨⟨ga,gc,g1,g2,g3⟩,⟨va,vc,v1,v2,v3⟩,⟨ta,tc,t1,t2,t3⟩,⟨oa,oc,o1,o2,o3⟩,⟨ca,cc,c1,c2,c3⟩⟩:=h.sl;have a0g:=Z h;obtain⟨kg,kv,kt,ko,kc⟩:=K;dsimp only at g1 v1 t1 o1 c1;subst g1 v1 t1 o1 c1;have dG:Below w.heap.size w (w.alloc (Xe (i_ ⟨H ga p.ap.length gc,H va p.vars.length vc,H ta p.aW.length tc,H oa p.on.length oc,H ca p.code.length cc⟩ p) 27)):=(aZ _ _).alloc (aL _) _;have fM:=Z dG;have U2:aH (w.alloc (Xe (i_ ⟨H ga p.ap.length gc,H va p.vars.length vc,H ta p.aW.length tc,H oa p.on.length oc,H ca p.code.length cc⟩ p) 27)) w.heap.size 27 _:=aH.new w _ _;have oD:=Z U2;have HC:=Z (aew _ (h.aG (aC.ai dG)));unfold pV at HC ⊢;unfold i_ at fM oD HC;dsimp only at fM oD HC ⊢;clear h dG U2 g2 g3 v2 v3 t2 t3 o2 o3 c2 c3;cases hT:cC p with
 |false=>rw[hT]at HC;go_enter func172,ntmps172;go_wp2_with fail;refine HC.o.mono ?_;rintro e w' ⟨rfl,X⟩;have HB:=Z X;clear X;go_wp2;go_ret;exact⟨by simp[bE,hT],fM.o.trans (HB.o.mono az)⟩
 |true=>
  rw[hT]at HC;have Al:=Z hT;have hcl:p.code.length<=262144:=by have:=hT;simp[cC]at this;omega
  clear hT;go_enter func172,ntmps172;go_wp2_with fail;refine HC.o.mono ?_;rintro e w' ⟨rfl,X⟩;have HB:=Z (fM.o.trans (X.mono az));have kb:=oD.o.of (X.block _ az);have k5:Xf w' (I w.heap.size 5)=O (H ca p.code.length cc):=kb.cell 5;have lw:=kb.lt;have Qm:=Z kb;clear X kb fM oD HC;go_wp2;refine Mk.aM (adf w ⟨H ga p.ap.length gc,H va p.vars.length vc,H ta p.aW.length tc,H oa p.on.length oc,H ca p.code.length cc⟩ p) (p.code.length+1) ?start ?zero ?round
  case start=>exact⟨0,ck _,G,rp rfl,HB,Qm,Z rfl⟩
  case zero=>exact λa W hh=>by obtain⟨q,h1,h2,_⟩:=hh;omega
  clear HB Qm k5 lw w'
  case round=>
   rintro m a W ⟨i,hi,hm,⟨J,rfl⟩,HB,HK,HE⟩;by_cases be:i<p.code.length
   ·obtain⟨b,off,cap,hv,q1,q2,c0,c1,c2,c3,c4⟩:=(a0g.o.aG (aC.ai HB.o)).ins be;simp only[cL]at hv;obtain⟨rfl,-,rfl⟩:=hv;have l_:=Z (nE be);clear q1 q2;by_cases dO:0<=(ak p i).op/\(ak p i).op<42
    ·obtain⟨n,hn⟩:=eS dO.1;have Gx:n<42:=G;have U_:(ak p i).op.toNat=n:=G;have nX:jX (ak p i)=true:=by unfold jX aP;simp;omega
     have Nt:=Z (show dP p (p.code.drop i)=if iU p (ak p i)then dP p (p.code.drop (i+1))else 92 by rw[l_.o,nX];rfl);have HS:=Z (λV=>abe V n Gx);have vh:=Z U_;have WB:=Z Gx;rw[hn]at c0;have agi:i<p.code.length:=be;clear dO l_ nX hn U_ Gx;go_wp2_with fail;refine(HS.o _).mono ?_;rintro e w' ⟨⟨nm,rfl⟩,X⟩;have fS:Below W.heap.size W w':=((aZ _ W).alloc (aL _) _).trans (X.mono az);have dS:=Z (HB.o.trans (fS.mono HB.o.size));have oE:=Z (HK.o.of (fS.block _ HK.o.lt));have kib:aH w' W.heap.size 40 #[Y n,Y (ak p i).a,Y (ak p i).b,Y (ak p i).c,Y (ak p i).d]:=(aH.new W _ _).of (X.block _ az);obtain⟨-,d1,d2,d3,d4⟩:=kib.c5;have lw:=kib.lt;clear X fS kib c0 c1 c2 c3 c4;generalize W.heap.size=ib at*;go_wp2_with fail;clear HS d1 d2 d3 d4 lw HB HK;refine Mk.aM (adg w ⟨H ga p.ap.length gc,H va p.vars.length vc,H ta p.aW.length tc,H oa p.on.length oc,H (O (I b off)) p.code.length cc⟩ p i ib w'.heap.size nm) 5 ?Ae ?Gv ?Af
     case Ae=>exact⟨0,G,G,rp rfl,Z ((dS.o.alloc dS.o.size _).alloc (by simp only[aO];have:=dS.o.size;omega) _),Z ((oE.o.alloc _).alloc _),Z (by rw[vh.o];exact(aH.new w' _ _).alloc _),Z (aH.bK az),Z (λj' h=>absurd h G)⟩
     case Gv=>exact λa W hh=>by obtain⟨q,h1,h2,_⟩:=hh;omega
     clear dS oE;generalize w'.heap.size=sb;clear w'
     case Af=>
      rintro m2 a2 W2 ⟨j,hj,ul,⟨J2,rfl⟩,fR,pZ,Ho,HI2,U6⟩;by_cases hj4:j<4
      ·have d0:Xf W2 (I (sb+1) j)=O (Y (oL (ak p i) j)):=by rw[HI2.o.cell];have e:j=0\/j=1\/j=2\/j=3:=G;rcases e with rfl|rfl|rfl|rfl<;>rfl
       have e1:Xf W2 (I sb 1)=O (.string (pz n)):=by have h:=Ho.o.cell 1;rw[vh.o]at h;exact h
       have ez:=Cq n;by_cases hk:j<(cM n).length
       ·have Rc:dN (ak p i) j=(cM n).getD j 0:=by unfold dN;rw[vh.o]
        have uC:=aev n WB.o j hk;rw[<-Rc]at uC;have hby:=Lh n WB.o j hk;rw[<-Rc]at hby;obtain⟨f0,f1,f2,f3,f4,f5⟩:=pZ.o.c6;have C1:Hid (Calls prog 240 #[pV ⟨H ga p.ap.length gc,H va p.vars.length vc,H ta p.aW.length tc,H oa p.on.length oc,H (O (I b off)) p.code.length cc⟩ p,.int .u8 (xD (dN (ak p i) j))] (W2.drewN 1) λe w3=>e=Xc (.tuple #[Y (kw (dN (ak p i) j)),Y (kz p (dN (ak p i) j))])/\
         (Xf w3 (I w.heap.size 0)=O (H ga p.ap.length gc)/\Xf w3 (I w.heap.size 1)=O (H va p.vars.length vc)/\Xf w3 (I w.heap.size 2)=O (H ta p.aW.length tc)/\Xf w3 (I w.heap.size 3)=O (H oa p.on.length oc)/\Xf w3 (I w.heap.size 4)=O (Y p.aV)/\Xf w3 (I w.heap.size 5)=O (H (O (I b off)) p.code.length cc)/\Xf w3 (I sb 1)=O (.string (pz n)))/\Hid (Below W2.heap.size W2 w3)):=by
         refine Z ((aex (W2.drewN 1) a0g.o.sl _ uC).mono ?_);rintro e w3 ⟨rfl,X⟩;have s_:Below W2.heap.size W2 w3:=(aA _ W2 1).trans X;have mV:=pZ.o.of (s_.block _ pZ.o.lt);have zN:=Ho.o.of (s_.block _ Ho.o.lt);rw[vh.o]at zN;exact⟨rfl,⟨mV.cell 0,mV.cell 1,mV.cell 2,mV.cell 3,mV.cell 4,mV.cell 5,zN.cell 1⟩,Z s_⟩
        have hix:∀V,(Instr.index 9 (.string (pz n)) (Y j)).run prog V= .ok (.int .u8 (xD (dN (ak p i) j))) V:=λV=>by rw[Rc];exact abc V WB.o hk
        rw[<-ez]at hk;clear hby Rc uC ez;generalize pz n=ob at*;unfold pV at C1;dsimp only at C1;go_wp2
        go_region_held3 (λwx=>Xf wx (I w.heap.size 0)=O (H ga p.ap.length gc)/\Xf wx (I w.heap.size 1)=O (H va p.vars.length vc)/\Xf wx (I w.heap.size 2)=O (H ta p.aW.length tc)/\Xf wx (I w.heap.size 3)=O (H oa p.on.length oc)/\Xf wx (I w.heap.size 4)=O (Y p.aV)/\Xf wx (I w.heap.size 5)=O (H (O (I b off)) p.code.length cc)/\Xf wx (I sb 1)=O (.string ob)) (first|exact⟨f0,f1,f2,f3,f4,f5,e1⟩|assumption) (first|(go_at_call 240;refine C1.o.mono ?_;rintro e w3 ⟨rfl,Gi,Td⟩))
        have mM:=Z (fR.o.trans (Td.o.mono fR.o.size));have Be:=Z (pZ.o.of (Td.o.block _ pZ.o.lt));have Nu:=Z (Ho.o.of (Td.o.block _ Ho.o.lt));have HI3:=Z (HI2.o.of (Td.o.block _ HI2.o.lt));have Am:=Z (ue w3 (oL (ak p i) j) (kw (dN (ak p i) j)) (kz p (dN (ak p i) j)));have XT:aP (oL (ak p i) j) (kw (dN (ak p i) j)) (kz p (dN (ak p i) j))=bF p (dN (ak p i) j) (oL (ak p i) j):=rfl;rw[XT]at Am;clear XT Td fR pZ Ho HI2 C1 hix f0 f1 f2 f3 f4 f5 e1 d0 Gi;cases hf:bF p (dN (ak p i) j) (oL (ak p i) j)with
        |false=>
         have HF:=Z (show bE p=92 by
          have h1:=HE.o;rw[Nt.o,qj hj4 hf]at h1;simp[bE,Al.o,h1])
         have tR:=Z (Am.o.mono (λe w' h=>(show(e=Ending.returned (.bool false)/\w'=w3)from hf▸h)));clear hf Am;go_wp2_with fail;refine tR.o.mono ?_;rintro e w9 ⟨rfl,rfl⟩;go_wp2;go_ret;exact⟨by rw[HF.o];rfl,mM.o⟩
        |true=>
         have tR:=Z (Am.o.mono (λe w' h=>(show(e=Ending.returned (.bool true)/\w'=w3)from hf▸h)));have HF:=Z hf;clear hf Am;go_wp2_with fail;refine tR.o.mono ?_;rintro e w9 ⟨rfl,rfl⟩;go_wp2;refine⟨j+1,G,G,rp rfl,mM,Be,Nu,HI3,Z λj' Pd=>?_⟩;by_cases e:j'=j
         ·subst e;exact HF.o
         ·exact U6.o j' G
       ·have Rc:dN (ak p i) j=0:=by unfold dN;rw[vh.o,dQ,List.getElem?_eq_none G];rfl
        have Am:=Z (ue W2 (oL (ak p i) j) 0 0);have XT:aP (oL (ak p i) j) 0 0=bF p (dN (ak p i) j) (oL (ak p i) j):=by rw[Rc];rfl
        rw[XT]at Am;clear XT Rc;cases hf:bF p (dN (ak p i) j) (oL (ak p i) j)with
        |false=>
         have HF:=Z (show bE p=92 by
          have h1:=HE.o;rw[Nt.o,qj hj4 hf]at h1;simp[bE,Al.o,h1])
         have tR:=Z (Am.o.mono (λe w' h=>(show(e=Ending.returned (.bool false)/\w'=W2)from hf▸h)));clear hf Am;go_wp2_with fail;refine tR.o.mono ?_;rintro e w9 ⟨rfl,rfl⟩;go_wp2;go_ret;exact⟨by rw[HF.o];rfl,fR.o⟩
        |true=>
         have tR:=Z (Am.o.mono (λe w' h=>(show(e=Ending.returned (.bool true)/\w'=W2)from hf▸h)));have HF:=Z hf;clear hf Am;go_wp2_with fail;refine tR.o.mono ?_;rintro e w9 ⟨rfl,rfl⟩;go_wp2;refine⟨j+1,G,G,rp rfl,fR,pZ,Ho,HI2,Z λj' Pd=>?_⟩;by_cases e:j'=j
         ·subst e;exact HF.o
         ·exact U6.o j' G
      ·have Jo:iU p (ak p i)=true:=vw λj' Pd=>U6.o j' G;have px:=Z (show dP p p.code=dP p (p.code.drop (i+1))by rw[HE.o,Nt.o,Jo];rfl);clear Jo;go_wp2;exact⟨i+1,G,G,rp rfl,fR,pZ,px⟩
    ·have HS:=Z (λV=>aey V (ak p i).op G);have HF:=Z (show bE p=91 by
      have e:jX (ak p i)=false:=by unfold jX aP;simp;omega
      have h1:=HE.o;rw[l_.o,e]at h1;simp[bE,Al.o,h1])
     clear dO l_;go_wp2_with fail;refine(HS.o _).mono ?_;rintro e w' ⟨rfl,X⟩;have dS:=Z (HB.o.trans (((aZ _ W).alloc (aL _) _).trans (X.mono az) |>.mono HB.o.size));clear X;go_wp2;go_ret;exact⟨by rw[HF.o];rfl,dS.o.alloc dS.o.size _⟩
   ·obtain rfl:i=p.code.length:=G;have HF:=Z (show bE p=0 by
     have h1:=HE.o;rw[List.drop_length]at h1;simp[bE,Al.o,h1,dP])
    exact Oe
end Go.Vf
end
namespace Go.Vf
open Go.RowKit al.Vm
open al hiding aS aw an
open Go.Shelf
def aeq:Go.Shelf.Ren:=⟨λ|264=>304|n=>n,λ|46=>256|53=>46|n=>n,λ|n=>n⟩
def aep:Go.Proofs.Lays.n264 prog aeq:={
 mixed:=by kernel_rfl
 f264:=func304.trans (bo O bj)
 t46:=underlying256
 a46:=isAgg256
 z46:=sizeOf256
 v46:=zeroValue256
 t53:=underlying46
 a53:=isAgg46
 z53:=sizeOf46
 v53:=zeroValue46}
def aeo(x y:Nat)(hx:x<18446744073709551616)(hy:y<18446744073709551616)(w:ek):
 Calls prog 304 #[.int .u64 x,.int .u64 y] w λe w'=>e=Xc (.tuple #[.int .u64 ((x*y / 18446744073709551616:Nat):Int),.int .u64 ((x*y % 18446744073709551616:Nat):Int)])/\w'=w:=Proofs.Any.bits_Mul64 aep x y hx hy w
def Re(w:ek)(a b:Nat)(ha:a<=MS)(X:b<=MS):Calls prog 249 #[Y a,Y b] w λe w'=>e=Xc (Y (bM a b))/\w'=w:=by
 unfold MS at ha X;have w1:IntKind.i64.wrap (4611686018427387904 - (b:Int))=4611686018427387904 - (b:Int):=bJ _ kS;by_cases h:4611686018427387904-b<a
 ·have e:bM a b=4611686018427387904:=by unfold bM MS;rw[aE h]
  have h2:((4611686018427387904:Int) - b<a)=True:=by simp;omega
  rw[e];clear e h;go_enter func249,ntmps249;go_wp2;exact G7
 ·have e:bM a b=a+b:=by unfold bM MS;rw[ax h]
  have h2:((4611686018427387904:Int) - b<a)=False:=by simp;omega
  have w2:IntKind.i64.wrap ((a:Int)+(b:Int))=((a+b:Nat):Int):=by rw[bJ _ kS];omega
  rw[e];clear e h;go_enter func249,ntmps249;go_wp2;go_ret;exact⟨az,rfl⟩
def Su{p:Prop}(h:p:=by
 go_enter func250,ntmps250;go_wp2_with fail;refine HM.o.mono ?_;rintro e w' ⟨rfl,rfl⟩;go_wp2;go_ret;exact⟨rfl,rfl⟩):p:=h
def aen(w:ek)(a b:Nat)(ha:a<=MS)(X:b<=MS):Calls prog 250 #[Y a,Y b] w λe w'=>e=Xc (Y (eX a b))/\w'=w:=by
 unfold MS at ha X;have HM:=Z (aeo a b G G w);have w1:IntKind.u64.wrap (a:Int)=a:=by rw[IntKind.wrap_u64];omega
 have w2:IntKind.u64.wrap (b:Int)=b:=by rw[IntKind.wrap_u64];omega
 generalize hx:a*b=x at*;have ht:eX a b=if x<=4611686018427387904 then x else 4611686018427387904:=by unfold eX MS;rw[hx]
 rw[ht];clear ht hx;by_cases h1:x / 18446744073709551616=0
 ·have e2:x % 18446744073709551616=x:=Nat.mod_eq_of_lt G;rw[h1,e2]at HM;by_cases h:x<=4611686018427387904
  ·rw[aE h];have w3:IntKind.i64.wrap (x:Int)=x:=bJ _ kS;have h3:((x:Int)<=4611686018427387904)=True:=by simp;omega
   clear h1 e2 h;exact Su
  ·rw[ax h];have h3:((x:Int)<=4611686018427387904)=False:=by simp;omega
   clear h1 e2 h;exact Su
 ·have h:¬x<=4611686018427387904:=G;rw[ax h];generalize x / 18446744073709551616=hi at*;clear h;exact Su
end Go.Vf
namespace Go.Vf
open Go.RowKit al.Vm
open al hiding aS aw an
open Ma (dW cy bd vb)
def de(th:Bool)(s:Std)(mv:to):Array to:=
 #[.bool th,.string (ir s.ty),Y (bO s.lo 0),Y (bO s.lo 1),Y (bO s.lo 2),Y (bO s.lo 3),Y (bO s.lo 4),Y (bO s.lo 5),Y (bO s.lo 6),Y (bO s.lo 7),Y s.lo.length,Y s.ha,mv]
def ey(th:Bool)(s:Std)(mv:to):to:= .agg (de th s mv)
def dF(w:ek)(mv:to)(lo:List Nat):Prop:=aY w 1 mv (lo.length-8) (λi=> Y (bO lo (8+i)))
def dF.aG{w w':ek}{mv:to}{lo:List Nat}(h:dF w mv lo)(f:aC [] w w'):dF w' mv lo:=aY.aG h f
def qK(lo:List Nat):Int:=match lo with|[]=> -1|t::_=>(t:Int)
def agN{lo:List Nat}(h:0<lo.length):qK lo=(bO lo (lo.length-1):Nat):=by
 cases lo with
 |nil=>simp at h
 |cons t l=>show(t:Int)=_;rw[show(t::l).length-1=l.length by simp,PX]
def Ss{p:Prop}(h:p:=by
 go_enter func300,ntmps300;go_wp2;go_ret;exact⟨rfl,hB _ _⟩):p:=h
def Li(w:ek){mv:to}(th:Bool){s:Std}(h:dF w mv s.lo)(hl:s.lo.length<=4611686018427387904):Calls prog 300 #[ey th s mv] w (λe w'=>e=Xc (Y (qK s.lo))/\Below w.heap.size w w'):=by
 obtain⟨ty,lo,ha⟩:=s;dsimp only at h hl;obtain⟨ma,mc,rfl,m1,m2⟩:=aY.val h;unfold ey de;dsimp only;have hB:=rH w;by_cases h0:lo.length=0
 ·have hi:qK lo= -1:=by have:=List.length_eq_zero_iff.1 h0;subst this;rfl
  rw[hi];generalize ir ty=tb;generalize bO lo=lc;clear h hi m1 m2;have h1:(lo.length=0)=True:=by simp[h0]
  exact Ss
 ·have hi:=agN (lo:=lo) G;rw[hi];by_cases h8:lo.length<=8
  ·have e:lo.length=1\/lo.length=2\/lo.length=3\/lo.length=4\/lo.length=5\/lo.length=6\/lo.length=7\/lo.length=8:=G;generalize ir ty=tb;clear h hi m1 m2;generalize bO lo=lc;generalize lo.length=n at*;clear lo;rcases e with rfl|rfl|rfl|rfl|rfl|rfl|rfl|rfl
   all_goals
    exact Ss
  ·obtain⟨b,off,cap,hv,q1,q2,X,hc⟩:=aY.some h G G;simp only[cL]at hv;obtain⟨rfl,-,rfl⟩:=hv;have c0:Xf w (I b (off+(lo.length-8-1)))=O (Y (bO lo (lo.length-1))):=by rw[hc (lo.length-8-1) G];congr 3;congr 1;omega
   have w1:IntKind.i64.wrap (((lo.length-8:Nat):Int) - 1)=((lo.length-8-1:Nat):Int):=by rw[bJ _ (by unfold maxLen at q2;constructor<;>omega)];omega
   have be:lo.length-8-1<lo.length-8:=G;generalize ir ty=tb;clear h hi hc;generalize bO lo=lc at*;generalize DM:lo.length-8=n8 at*;exact Ss
def qL(w:ek)(sv:to)(th:Bool)(s:Std)(e:Ending)(w':ek):Prop:=∃mv,e=Xc (ey th s mv)/\dF w' mv s.lo/\Below w.heap.size w w'/\∀b,mv.ownBlock=O b->sv.ownBlock=O b\/w.heap.size<=b
def aY.take{w:ek}{n m:Nat}{a:Option Addr}{c:Nat}{g:Nat->to}(h:aY w 1 (H a n c) n g)(hm:m<=n)(ha:∃x,a=Option.some x):aY w 1 (H a m c) m g:=by
 obtain⟨x,rfl⟩:=ha;rcases h with⟨h,-⟩|⟨a',cap,hv,h1,h2,h3⟩
 ·simp at h
 ·simp only[cL,iI]at hv;obtain⟨rfl,-,rfl⟩:=hv;exact .inr ⟨_,c,rfl,G,h2,λo ho=>h3 o G⟩
def aY.zero{w:ek}{v:to}{g g':Nat->to}(h:aY w 1 v 0 g):aY w 1 v 0 g':=by
 rcases h with h|⟨a,cap,h,h1,h2,h3⟩
 ·exact .inl h
 ·exact .inr ⟨a,cap,h,h1,h2,λo ho=>absurd ho G⟩
def aY.congr{w:ek}{v:to}{n:Nat}{g g':Nat->to}(h:aY w 1 v n g)(e:∀o,o<n->g o=g' o):aY w 1 v n g':=by
 rcases h with h|⟨a,cap,h,h1,h2,h3⟩
 ·exact .inl h
 ·exact .inr ⟨a,cap,h,h1,h2,λo ho=>⟨(h3 o ho).1,by rw[(h3 o ho).2,e o G]⟩⟩
def Cr(w:ek){mv:to}(th:Bool){s:Std}(h:dF w mv s.lo)(h0:0<s.lo.length)(hl:s.lo.length<=4611686018427387904):Calls prog 301 #[ey th s mv] w (qL w mv th {s with lo:=s.lo.tail}):=by
 obtain⟨ty,lo,ha⟩:=s;dsimp only at h hl h0;obtain⟨ma,mc,rfl,m1,m2⟩:=aY.val h;have a0g:=Z h;have be:lo.tail.length=lo.length-1:=by simp
 have Rf:=PZ lo;by_cases h8:lo.length<=8
 ·have hm:dF w (H ma (lo.length-8) mc) lo.tail:=by have e:lo.length-8=0:=G;have e2:lo.tail.length-8=0:=G;unfold dF at h ⊢;rw[e]at h;rw[e2,e];exact aY.zero h
  have HM:=Z hm;unfold ey de qL;dsimp only;unfold ey de;dsimp only;have e:lo.length=1\/lo.length=2\/lo.length=3\/lo.length=4\/lo.length=5\/lo.length=6\/lo.length=7\/lo.length=8:=G;have hB:=rH w;generalize ir ty=tb;rw[be];clear h hm m1 m2 a0g;simp only[Rf];generalize bO lo=lc at*;rcases e with e|e|e|e|e|e|e|e
  all_goals
   simp only[e]at HM ⊢;clear Rf be h0 hl h8;go_enter func301,ntmps301;go_wp2_with fail;refine bR ?_ rfl ⟨H ma 0 mc,rfl,HM.o.aG (aC.ai ((hB _ _).alloc (by simp only[aO];omega) _)),(hB _ _).alloc (by simp only[aO];omega) _,λ_ X=> .inl (by simpa[Value.ownBlock]using X)⟩;simp[results,results301,go_sem]
 ·obtain⟨b,off,cap,hv,q1,q2,X,hc⟩:=aY.some h G G;simp only[cL]at hv;obtain⟨rfl,-,rfl⟩:=hv;have hm:dF w (H (O (I b off)) (lo.length-8-1) mc) lo.tail:=by have h1:=aY.take h (m:=lo.length-8-1) G ⟨_,rfl⟩;unfold dF;rw[show lo.tail.length-8=lo.length-8-1 by omega];refine h1.congr λo ho=>?_;rw[Rf,ax G]
  have HM:=Z hm;unfold ey de qL;dsimp only;unfold ey de;dsimp only;have hB:=rH w;have w1:IntKind.i64.wrap (((lo.length-8:Nat):Int) - 1)=((lo.length-8-1:Nat):Int):=by rw[bJ _ (by unfold maxLen at q2;constructor<;>omega)];omega
  have w2:IntKind.i64.wrap ((lo.length:Int) - 1)=((lo.length-1:Nat):Int):=by rw[bJ _ kS];omega
  have h9:((lo.length-1:Nat)<8)=False:=by simp;omega
  have h7:lo.length-8-1<=mc:=G;generalize ir ty=tb;simp only[Rf,be];have hn:∀k,k<8->(k+1=lo.length)=False:=λk hk=>by simp;omega
  rw[ax G,ax G,ax G,ax G,ax G,ax G,ax G,ax G];clear h hm hc a0g Rf be hn;generalize bO lo=lc at*;generalize lo.length-8-1=n9 at*;generalize DM:lo.length-8=n8 at*;generalize uy:lo.length-1=n1 at*;generalize Tw:lo.length=n0 at*;go_enter func301,ntmps301;go_wp2_with fail;refine bR ?_ rfl ⟨H (O (I b off)) n9 mc,rfl,HM.o.aG (aC.ai ((hB _ _).alloc (by simp only[aO];omega) _)),(hB _ _).alloc (by simp only[aO];omega) _,λ_ X=> .inl X⟩;simp[results,results301,go_sem]
def FrE(v v2:to)(n i:Nat)(a:Act):Prop:=∃J:Nat->to,a={tmps:=#[v,v2,J 2,J 3,J 4,J 5,J 6,J 7,J 8,J 9,J 10,J 11,Y n,Y i,J 14,J 15,J 16,J 17,J 18,J 19,J 20,J 21,J 22,J 23,J 24,J 25],defers:=[]}
def Lj(f:Nat->Int)(i:Nat):to:=Y (f i)
def OG(n n':Nat)(f f':Nat->Int):Bool:=decide (n=n'/\∀i,i<n->f i=f' i)
def adh(w:ek)(v v2:to)(n:Nat)(f f':Nat->Int)(m:Nat)(a:Act)(W:ek):Prop:=
 ∃i,i<=n/\m+i=n+1/\FrE v v2 n i a/\Hid (Below w.heap.size w W)/\Hid (∀j,j<i->f j=f' j)
def aa9{w:ek}{v v2:to}{n n':Nat}{f f':Nat->Int}(h:aY w 1 v n (Lj f))(h2:aY w 1 v2 n' (Lj f')):
 Calls prog 303 #[v,v2] w (λe w'=>e=Xc (.bool (OG n n' f f'))/\Below w.heap.size w w'):=by
 obtain⟨a,c,rfl,q1,q2⟩:=h.val;obtain⟨a2,c2,rfl,p1,p2⟩:=h2.val;have a0g:=Z h;have H2:=Z h2;by_cases hn:n=n'
 case neg=>have HF:=Z (show OG n n' f f'=false by simp[OG,hn]);clear h h2;go_enter func303,ntmps303;go_wp2;go_ret;exact⟨by rw[HF.o];rfl,aZ _ _⟩
 case pos=>
  subst hn;have hm:n<=9223372036854775807:=by unfold maxLen at q2;omega
  clear h h2;go_enter func303,ntmps303;go_wp2;refine Mk.aM (adh w (H a n c) (H a2 n c2) n f f') (n+1) ?start ?zero ?round
  case start=>exact⟨0,ck _,G,rp rfl,Z (aZ _ _),Z (λj hj=>absurd hj G)⟩
  case zero=>exact λa W hh=>by obtain⟨q,h1,h2,_⟩:=hh;omega
  case round=>
   rintro m a0 W ⟨i,hi,ul,⟨J,rfl⟩,HB,HA⟩;by_cases be:i<n
   ·obtain⟨b,off,cap,hv,-,-,X,hc⟩:=(a0g.o.aG (aC.ai HB.o)).some G G;simp only[cL]at hv;obtain⟨rfl,-,rfl⟩:=hv;obtain⟨b2,Jp,DN,hv,-,-,dR,ow⟩:=(H2.o.aG (aC.ai HB.o)).some G G;simp only[cL]at hv;obtain⟨rfl,-,rfl⟩:=hv;have c0:Xf W (I b (off+i))=O (Y (f i)):=hc i G;have c1:Xf W (I b2 (Jp+i))=O (Y (f' i)):=ow i G;clear hc ow;by_cases he:f i=f' i
    ·have HE:=Z he;rw[he]at c0;clear he;generalize f' i=y at c0 c1;go_wp2;go_quiet (fail);go_wp2;refine⟨i+1,G,G,rp rfl,Z (HB.o.trans (aA _ _ _)),Z λj hj=>?_⟩;by_cases e:j=i
     ·subst e;exact HE.o
     ·exact HA.o j G
    ·have HF:=Z (show OG n n f f'=false by
      unfold OG;rw[rQ];rintro⟨-,h⟩;exact he (h i be))
     generalize f i=x at c0 he;generalize f' i=y at c1 he;go_wp2;go_quiet (fail);go_wp2;go_ret;exact⟨by rw[HF.o];rfl,HB.o.trans (aA _ _ _)⟩
   ·obtain rfl:i=n:=G;have HF:=Z (show OG i i f f'=true by simp[OG];exact HA.o);exact Oe
def eq8(a0 a1 a2 a3 a4 a5 a6 a7 b0 b1 b2 b3 b4 b5 b6 b7:Int)(w:ek):(Op.equalIn 10000 231 (.agg #[Y a0,Y a1,Y a2,Y a3,Y a4,Y a5,Y a6,Y a7]) (.agg #[Y b0,Y b1,Y b2,Y b3,Y b4,Y b5,Y b6,Y b7])).run prog w= .ok (a0==b0&&a1==b1&&a2==b2&&a3==b3&&a4==b4&&a5==b5&&a6==b6&&a7==b7) w:=by
 have u3:=underlying3;have q3:=isAgg3;have z3:=sizeOf3;rw[show(10000:Nat)=9999+1 from rfl,Op.equalIn];simp only[Sem.run_bind,run_underlying underlying231,Result.andThen_ok];simp only[Std.Legacy.Range.forIn_eq_forIn_range',Std.Legacy.Range.size,Nat.sub_zero,Nat.add_sub_cancel,Nat.div_one,List.range'_succ,List.range'_zero,List.forIn_cons,List.forIn_nil];go_simp;by_cases h0:a0=b0
 case neg=>simp[h0]
 by_cases h1:a1=b1
 case neg=>simp[h1]
 by_cases h2:a2=b2
 case neg=>simp[h2]
 by_cases h3:a3=b3
 case neg=>simp[h3]
 by_cases h4:a4=b4
 case neg=>simp[h4]
 by_cases h5:a5=b5
 case neg=>simp[h5]
 by_cases h6:a6=b6
 case neg=>simp[h6]
 by_cases h7:a7=b7
 case neg=>simp[h7]
 simp[h0,h1,h2,h3,h4,h5,h6,h7]
def aa7{a b:List Nat}(ha:fy a)(X:fy b):((ir a).toList=(ir b).toList)=(a=b):=propext ⟨λh=>Uf ha X (by
 rw[ByteArray.toList_eq,ByteArray.toList_eq]at h;exact ByteArray.ext (Array.toList_inj.1 h)),λh=>by rw[h]⟩
def Ve{p:Prop}(h:p:=by
 go_enter func248,ntmps248;go_wp2;go_ret;exact⟨by rw[HF.o];rfl,hB _ _ _ _⟩):p:=h
def Jq{w:ek}{mv mv2:to}(th th2:Bool){s s2:Std}(h:dF w mv s.lo)(h2:dF w mv2 s2.lo)(t1:fy s.ty)(t2:fy s2.ty)(l1:s.lo.length<=1000000000)(l2:s2.lo.length<=1000000000):
 Calls prog 248 #[ey th s mv,ey th2 s2 mv2] w (λe w'=>e=Xc (.bool (decide (s=s2)))/\Below w.heap.size w w'):=by
 obtain⟨ty,lo,ha⟩:=s;obtain⟨Zt,pF,Lk⟩:=s2;dsimp only at h h2 t1 t2 l1 l2;obtain⟨ma,mc,rfl,m1,m2⟩:=aY.val h;obtain⟨ma2,mc2,rfl,m3,m4⟩:=aY.val h2;unfold ey de;dsimp only;have hB:=Mi w;have Tk:=Z (λcs T w_ T2=>aa9 (w:=(w.alloc (Xe cs T)).alloc (Xe w_ T2)) (aY.aG h (aC.ai (hB cs T w_ T2))) (aY.aG h2 (aC.ai (hB cs T w_ T2))));by_cases e1:ty=Zt
 case neg=>
  have HF:=Z (show decide ((⟨ty,lo,ha⟩:Std)=⟨Zt,pF,Lk⟩)=false by simp[e1]);have e3:((ir ty).toList=(ir Zt).toList)=False:=by rw[aa7 t1 t2];simp[e1]
  clear Tk h h2 t1 t2 e1;generalize ir ty=tb at*;generalize ir Zt=tb2 at*;exact Ve
 subst e1;generalize ir ty=tb at*;have hE:=λV=>eq8 (bO lo 0) (bO lo 1) (bO lo 2) (bO lo 3) (bO lo 4) (bO lo 5) (bO lo 6) (bO lo 7) (bO pF 0) (bO pF 1) (bO pF 2) (bO pF 3) (bO pF 4) (bO pF 5) (bO pF 6) (bO pF 7) V;have hsp:decide ((⟨ty,lo,ha⟩:Std)=⟨ty,pF,Lk⟩)=decide (lo=pF/\ha=Lk):=by simp
 rw[hsp];clear hsp t1 t2 h h2;have jE:lo=pF↔(((((bO lo 0:Nat):Int)==((bO pF 0:Nat):Int)&&((bO lo 1:Nat):Int)==((bO pF 1:Nat):Int)&&((bO lo 2:Nat):Int)==((bO pF 2:Nat):Int)&&((bO lo 3:Nat):Int)==((bO pF 3:Nat):Int)&&((bO lo 4:Nat):Int)==((bO pF 4:Nat):Int)&&((bO lo 5:Nat):Int)==((bO pF 5:Nat):Int)&&((bO lo 6:Nat):Int)==((bO pF 6:Nat):Int)&&((bO lo 7:Nat):Int)==((bO pF 7:Nat):Int))=true)/\lo.length=pF.length/\OG (lo.length-8) (pF.length-8) (λi=>((bO lo (8+i):Nat):Int)) (λi=>((bO pF (8+i):Nat):Int))=true):=by
  constructor
  ·rintro rfl;refine⟨az,rfl,by simp[OG]⟩
  ·rintro⟨h1,h2,h3⟩;simp only[fh,beq_iff_eq]at h1;obtain⟨⟨⟨⟨⟨⟨⟨x0,x1⟩,x2⟩,x3⟩,x4⟩,x5⟩,x6⟩,x7⟩:=h1;unfold OG at h3;have h4:=(xj h3).2;refine Uh h2 λi hi=>?_;by_cases h8:i<8
   ·have e:i=0\/i=1\/i=2\/i=3\/i=4\/i=5\/i=6\/i=7:=G;rcases e with rfl|rfl|rfl|rfl|rfl|rfl|rfl|rfl<;>omega
   ·have:=h4 (i-8) G;dsimp only at this;rw[show 8+(i-8)=i by omega]at this;omega
 have zM:=Z jE;clear jE;generalize q_:(((bO lo 0:Nat):Int)==((bO pF 0:Nat):Int)&&((bO lo 1:Nat):Int)==((bO pF 1:Nat):Int)&&((bO lo 2:Nat):Int)==((bO pF 2:Nat):Int)&&((bO lo 3:Nat):Int)==((bO pF 3:Nat):Int)&&((bO lo 4:Nat):Int)==((bO pF 4:Nat):Int)&&((bO lo 5:Nat):Int)==((bO pF 5:Nat):Int)&&((bO lo 6:Nat):Int)==((bO pF 6:Nat):Int)&&((bO lo 7:Nat):Int)==((bO pF 7:Nat):Int))=bb at*;clear q_;generalize uy:lo.length=n1 at*;generalize tB:pF.length=n2 at*;clear uy tB;cases bb with
 |false=>have HF:=Z (show decide (lo=pF/\ha=Lk)=false by rw[rQ];rintro⟨h,-⟩;exact absurd (zM.o.1 h).1 bz);clear zM Tk;exact Ve
 |true=>
  by_cases e3:n1=n2
  case neg=>
   have HF:=Z (show decide (lo=pF/\ha=Lk)=false by rw[rQ];rintro⟨h,-⟩;exact e3 (zM.o.1 h).2.1);have e3':((n1:Int)=n2)=False:=by simp;omega
   clear zM Tk;exact Ve
  by_cases e4:ha=Lk
  case neg=>
   have HF:=Z (show decide (lo=pF/\ha=Lk)=false by rw[rQ];rintro⟨-,h⟩;exact e4 h);have e4':((ha:Int)=Lk)=False:=by simp;omega
   clear zM Tk;subst e3;exact Ve
  subst e3 e4;have HF:=Z (show decide (lo=pF/\ha=ha)=OG (n1-8) (n1-8) (λi=>((bO lo (8+i):Nat):Int)) (λi=>((bO pF (8+i):Nat):Int))by
   rw[jH,decide_eq_true_iff];constructor
   ·rintro⟨h,-⟩;exact(zM.o.1 h).2.2
   ·intro h;exact⟨zM.o.2 ⟨rfl,rfl,h⟩,rfl⟩)
  clear zM;generalize OG (n1-8) (n1-8) (λi=>((bO lo (8+i):Nat):Int)) (λi=>((bO pF (8+i):Nat):Int))=r at*;go_enter func248,ntmps248;go_wp2_with fail;refine(Tk.o _ _ _ _).mono ?_;rintro e w' ⟨rfl,X⟩;have HB:=Z (X.mono (show w.heap.size<=_ by simp only[aO];omega));clear X;cases r with
  |false=>go_wp2_with fail;go_ret;exact⟨by rw[HF.o];rfl,(hB _ _ _ _).trans HB.o⟩
  |true=>go_wp2_with fail;go_ret;exact⟨by rw[HF.o];rfl,(hB _ _ _ _).trans HB.o⟩
def eF{P:Program}{fn:Func}{R:Ending->ek->Prop}{A:Array to}{w:ek}{t:Tmp}(h:fn.results=#[.tmp t])(hR:R (Xc (A.getD t undef)) w):bodyPost P fn R .ret {tmps:=A,defers:=[]} w:=bR (results_tmp h _ _ _) rfl hR
def Vg{P:Program}{fn:Func}{R:Ending->ek->Prop}{A:Array to}{w:ek}{t u:Tmp}(h:fn.results=#[.tmp t,.tmp u])(hR:R (Xc (.tuple #[A.getD t undef,A.getD u undef])) w):bodyPost P fn R .ret {tmps:=A,defers:=[]} w:=bR (results_tmp2 h _ _ _) rfl hR
def FrI(v:to)(x:Int)(n i:Nat)(a:Act):Prop:=∃J:Nat->to,a={tmps:=#[v,Y x,J 2,J 3,J 4,J 5,v,Y n,Y i,J 9,J 10,J 11,J 12,J 13,J 14,J 15,J 16,J 17,J 18],defers:=[]}
def DO(n:Nat)(f:Nat->Int)(x:Int):Bool:= !decide (∀i,i<n->f i≠x)
def aek(w:ek)(n:Nat)(f:Nat->Int)(x:Int)(e:Ending)(w':ek):Prop:=∃r:Int,e=Xc (Y r)/\w'=w/\decide (0<=r)=DO n f x
def adi(w:ek)(v:to)(n:Nat)(f:Nat->Int)(x:Int)(m:Nat)(a:Act)(W:ek):Prop:=
 ∃i,i<=n/\m+i=n+1/\FrI v x n i a/\W=w/\Hid (∀j,j<i->f j≠x)
def aej{w:ek}{v:to}{n:Nat}{f:Nat->Int}(h:aY w 1 v n (Lj f))(x:Int):Calls prog 320 #[v,Y x] w (aek w n f x):=by
 obtain⟨a,c,rfl,q1,q2⟩:=h.val;have a0g:=Z h;have hm:n<=9223372036854775807:=by unfold maxLen at q2;omega
 clear h;go_enter func320,ntmps320;go_wp2;refine Mk.aM (adi w (H a n c) n f x) (n+1) ?start ?zero ?round
 case start=>exact⟨0,ck _,G,rp rfl,rfl,Z (λj hj=>absurd hj G)⟩
 case zero=>exact λa W hh=>by obtain⟨q,h1,h2,_⟩:=hh;omega
 case round=>
  rintro m a0 W ⟨i,hi,ul,⟨J,rfl⟩,rfl,HA⟩;by_cases be:i<n
  ·obtain⟨b,off,cap,hv,-,-,X,hc⟩:=a0g.o.some G G;simp only[cL]at hv;obtain⟨rfl,-,rfl⟩:=hv;have c0:Xf W (I b (off+i))=O (Y (f i)):=hc i G;clear hc;by_cases he:f i=x
   ·have HF:=Z (show DO n f x=true by unfold DO;simp;exact⟨i,be,he⟩);rw[he]at c0;clear he;go_wp2;go_ret;exact⟨i,rfl,rfl,by rw[HF.o];simp⟩
   ·have HE:=Z he;generalize f i=y at c0 he;have Oz:¬x=y:=λe=>he e.symm;go_wp2;refine⟨i+1,G,G,rp rfl,rfl,Z λj hj=>?_⟩;by_cases e:j=i
    ·subst e;exact HE.o
    ·exact HA.o j G
  ·obtain rfl:i=n:=G;have HF:=Z (show DO i f x=false by unfold DO;simp;exact HA.o);go_wp2;go_ret;exact⟨-1,rfl,rfl,by rw[HF.o];rfl⟩
def aeh{w:ek}{v:to}{n:Nat}{f:Nat->Int}(h:aY w 1 v n (Lj f))(x:Int):Calls prog 299 #[v,Y x] w (λe w'=>e=Xc (.bool (DO n f x))/\w'=w):=by
 have HI:=Z (aej h x);clear h;go_enter func299,ntmps299;go_wp2_with fail;refine HI.o.mono ?_;rintro e w' ⟨r,rfl,rfl,hr⟩;have HR:=Z hr;clear hr;by_cases h0:0<=r
 ·go_wp2;go_ret;exact⟨by rw[<-HR.o];simp[h0],rfl⟩
 ·go_wp2;go_ret;exact⟨by rw[<-HR.o];simp[h0],rfl⟩
def vC{p:Prop}(h:p:=by
 go_enter func321,ntmps321;go_wp2;exact bR (results_tmp rfl _ _ _) rfl ⟨rfl,rfl⟩):p:=h
def aaX(w:ek)(ao:Option Addr){n cap:Nat}(h:n<=cap)(h0:ao=Xb->n=0/\cap=0):Calls prog 321 #[H ao n cap] w (λe w'=>e=Xc (H ao n n)/\w'=w):=by
 cases ao with
 |none=>obtain⟨rfl,rfl⟩:=h0 rfl;exact vC
 |some a=>obtain⟨b,off,sp⟩:=a;exact vC
def aeb{P:Program}{w:ek}{ops:Array Oper}{rest:List Oper}{o:Oper}{a:Act}{Q:Exit->Act->ek->Prop}(KH:o.guard=Xb)(s x:Operand)(t:TypeId)
 (ho:o.op= .call {callee:= .builtin .append,args:=#[s,x],argTypes:=#[t,t]})
 (e:TypeId) {bytes:Nat} {z:to} (ht:P.underlying t=O (.slice e)) (hi:(P.info? e).map (λi=>(i.zero,i.size,i.bytes))=O (O z,1,bytes)) (Uk:z.cells.size=1)
 (ao:Option Addr) (n:Nat) (g:Nat->to) (hs:a.eval s=H ao n n) (bC:aY w 1 (H ao n n) n g)
 (ad:Addr) (c:Nat) (y:to) (hx:a.eval x=H (O ad) 1 c) (rT:Xf w ad=O y) (h1:y.oneCell'=true)
 (Ul:n+1<=maxLen) (qG:(n+1)*bytes<=140737488355328)
 (h:∀v' w',Row w' e 1 v' (n+1) (gQ n g λ_=>y)->aC [] w w'->(∀b,v'.ownBlock=O b->w.heap.size<=b)->wpList P ops Q rest (a.put o.dst v') w'):wpList P ops Q (o::rest) a w:=by
 obtain⟨i,zC,xS,MO,S_⟩:=rN hi;refine wpList_append_grows w KH s x t ho e i z 1 bytes ht zC xS MO S_ Uk bz ao n n (fw n g) hs ?_ (by rw[gw,Nat.mul_one]) ?_ ad 1 c [y] hx rfl ?_ ?_ G Ul qG ?_
 ·rintro rfl;rcases bC with⟨h,h'⟩|⟨_,_,h,_⟩
  ·simp at h;exact⟨h,h⟩
  ·simp at h
 ·rintro b rfl j u hu;have hj:j<n:=by
   rcases Nat.lt_or_ge j n with be|E8
   ·exact be
   ·rw[List.getElem?_eq_none (by rw[gw];exact E8)]at hu;cases hu
  rw[oW g hj]at hu;cases hu;rcases bC with⟨h,-⟩|⟨a',cap,hv,q1,q2,q3⟩
  ·simp at h
  ·simp only[cL,iI]at hv;obtain⟨rfl,-,rfl⟩:=hv;obtain⟨e1,e2⟩:=q3 j G;obtain⟨dY,off,sp⟩:=b;dsimp only at e1;subst e1;rw[Addr.add_lit];exact e2
 ·intro j u hu;cases j with
  |zero=>
   simp at hu;subst hu;have:ad.add 0=ad:=by unfold Addr.add;split<;>simp_all
   rw[this];exact rT
  |succ j=>simp at hu
 ·intro u hu;simp at hu;subst hu;exact h1
 ·intro v' w' hr hg;refine h v' w' ?_ (ej hg) (λb X=>(gW hr b X).1);unfold Row;have e1:fw ((n+1)*1) (gQ n g λ_=>y)=fw n g++[y]:=by rw[Nat.mul_one,zB n 1 g (λ_=>y)];rfl
  rw[e1];exact hr.mono (ck _)
def aan(w:ek){mv:to}(th:Bool){s:Std}(q8:Nat)(h:dF w mv s.lo)(hl:s.lo.length<=1000000000):Calls prog 302 #[ey th s mv,Y q8] w (qL w mv th {s with lo:=q8::s.lo}):=by
 obtain⟨ty,lo,ha⟩:=s;dsimp only at h hl;obtain⟨ma,mc,rfl,m1,m2⟩:=aY.val h;have a0g:=Z h;have be:(q8::lo).length=lo.length+1:=rfl;have Rf:=zx q8 lo;by_cases h8:lo.length<8
 ·have hm:dF w (H ma (lo.length-8) mc) (q8::lo):=by have e:lo.length-8=0:=G;have e2:(q8::lo).length-8=0:=G;unfold dF at h ⊢;rw[e]at h;rw[e2,e];exact aY.zero h
  have HM:=Z hm;unfold ey de qL;dsimp only;unfold ey de;dsimp only;have e:lo.length=0\/lo.length=1\/lo.length=2\/lo.length=3\/lo.length=4\/lo.length=5\/lo.length=6\/lo.length=7:=G;have hB:=rH w;generalize ir ty=tb;rw[be];clear h hm m1 m2 a0g;simp only[Rf];generalize bO lo=lc at*;generalize hLL:q8::lo=LL at*;clear hLL;rcases e with e|e|e|e|e|e|e|e
  all_goals
   simp only[e]at HM ⊢;clear Rf be hl h8;go_enter func302,ntmps302;go_wp2_with fail;refine bR ?_ rfl ⟨H ma 0 mc,rfl,HM.o.aG (aC.ai ((hB _ _).alloc (by simp only[aO];omega) _)),(hB _ _).alloc (by simp only[aO];omega) _,λ_ X=> .inl (by simpa[Value.ownBlock]using X)⟩;simp[results,results302,go_sem]
 ·have LU:ma=Xb->lo.length-8=0/\mc=0:=by
   rintro rfl;rcases a0g.o with⟨h,h'⟩|⟨_,_,h,_⟩
   ·simp at h;omega
   ·simp at h
  have FQ:aY w 1 (H ma (lo.length-8) (lo.length-8)) (lo.length-8) (λi=> Y (bO lo (8+i))):=by
   rcases a0g.o with⟨h,h'⟩|⟨a',cap,h,q1,q2,q3⟩
   ·simp only[cL]at h;obtain⟨rfl,h1,h2⟩:=h;rw[h1];exact .inl ⟨rfl,rfl⟩
   ·simp only[cL]at h;obtain⟨rfl,-,rfl⟩:=h;exact .inr ⟨a',_,rfl,aL _,G,q3⟩
  have OH:=Z FQ;have sI:=Z (λV=>aaX V ma m1 LU);have HCT:=Z Rf;have HL:=Z hl;unfold ey de qL;dsimp only;unfold ey de;dsimp only;have hB:=rH w;rw[be];simp only[Rf];rw[ax G,ax G,ax G,ax G,ax G,ax G,ax G,ax G];generalize ir ty=tb;have w1:IntKind.i64.wrap ((lo.length:Int)+1)=((lo.length+1:Nat):Int):=by rw[bJ _ kS];omega
  clear h FQ Rf LU a0g;generalize DM:lo.length-8=n8 at*;have Tm:=Z DM;clear DM;generalize Bk:bO lo=lc at*;have DT:=Z Bk;clear Bk;generalize Tw:lo.length=n0 at*;have HN0:=Z Tw;clear Tw;have h9:¬n0<8:=h8;clear h8 be;go_enter func302,ntmps302;go_wp2_with fail;refine(sI.o _).mono ?_;rintro e w' ⟨rfl,rfl⟩;go_wp2_with (at_builtin;refine aeb rfl _ _ 24 rfl 3 underlying24 cA rfl ma n8 (λi=> Y (lc (8+i))) rfl (OH.o.aG ((((aC.refl [] w).alloc _).alloc _).alloc _)) (I (w.heap.size+1+1) 0) 1 (Y q8) rfl ?Bg rfl ?Gp ?Gq ?_)
  case Bg=>exact(aH.bK az).cell 0
  case Gp=>have:=Tm.o;have:=HL.o;unfold maxLen;omega
  case Gq=>have:=Tm.o;have:=HL.o;omega
  intro v' w1 r1 f1 i1;obtain⟨va,vc,rfl,-,-⟩:=(aY.zA r1).val;have k1:aH w1 w.heap.size 233 #[.bool th,.string tb,Y (lc 0),Y (lc 1),Y (lc 2),Y (lc 3),Y (lc 4),Y (lc 5),Y (lc 6),Y (lc 7),Y n0,Y ha,H ma n8 mc]:=(((aH.new w _ _).alloc _).alloc _).aG f1 az;have k2:aH w1 (w.heap.size+1) 233 #[.bool false,.string ⟨#[]⟩,Y 0,Y 0,Y 0,Y 0,Y 0,Y 0,Y 0,Y 0,Y 0,Y 0,Xd]:=((aH.bK az).alloc _).aG f1 az;have fS:Below w.heap.size w w1:=((((aZ _ w).alloc (aL _) _).alloc (by simp only[aO];omega) _).alloc (by simp only[aO];omega) _).trans (f1.below (by simp only[aO];omega) az);have HI1:=Z (λb (X:(Value.slice va (n8+1) vc).ownBlock=O b)=>show w.heap.size<=b by have:=i1 b X;(try simp only[aO]at this);omega);have hmo:∀W',aC [w.heap.size,w.heap.size+1] w1 W'->dF W' (H va (n8+1) vc) (q8::lo):=by
   intro W' f;have r2:=r1.aG f (λb X hc=>by have:=i1 b X;(try simp only[aO]at this);simp at hc;omega);have h1:=aY.zA r2;unfold dF;have Tj:(q8::lo).length-8=n8+1:=by have a1:=Tm.o;have a2:=HN0.o;show lo.length+1-8=n8+1;omega
   rw[Tj];refine h1.congr λo ho=>?_;unfold gQ;rw[HCT.o];have a1:=Tm.o;by_cases pB:o<n8
   ·rw[aE pB,ax G]
   ·rw[ax pB,aE G]
  have HMO:=Z hmo;have dS:=Z fS;have pZ:=Z k2;obtain⟨p0,p1,p2,p3,p4,p5,p6,p7,aaW,aea,p10,p11,p12⟩:=k1.sB;obtain⟨z0,z1,z2,z3,z4,z5,z6,z7,z8,z9,z10,Vq,z12⟩:=k2.sB;have fz1:=k1.frozen;have fz2:=k2.frozen;have l1:=k1.lt;have l2:=k2.lt;clear r1 f1 i1 k1 k2 hmo fS OH sI hB;go_wp2_with fail;have kA:=pZ.o.aG (w':=((w1.setCell (I w.heap.size 12) (H va (n8+1) vc)).setCell (I w.heap.size 10) (Y ((n0:Int)+1)))) (((aC.refl [w.heap.size] w1).setCell az _).setCell az _) az;have b9:=(((((((((((((kA.set 0 (.bool th)).set 1 (.string tb)).set 2 (Y (lc 0))).set 3 (Y (lc 1))).set 4 (Y (lc 2))).set 5 (Y (lc 3))).set 6 (Y (lc 4))).set 7 (Y (lc 5))).set 8 (Y (lc 6))).set 9 (Y (lc 7))).set 10 (Y ((n0:Int)+1))).set 11 (Y ha)).set 12 (H va (n8+1) vc));simp only[List.setIfInBounds_toArray,List.set_cons_zero,List.set_cons_succ]at b9;have f9:aC [w.heap.size,w.heap.size+1] w1 _:=((((((((((((((((aC.refl [w.heap.size,w.heap.size+1] w1).setCell (p:=(I w.heap.size 12)) az (H va (n8+1) vc)).setCell (p:=(I w.heap.size 10)) az (Y ((n0:Int)+1))).setCell (p:=(I (w.heap.size+1) 0)) az (.bool th)).setCell (p:=(I (w.heap.size+1) 1)) az (.string tb)).setCell (p:=(I (w.heap.size+1) 2)) az (Y (lc 0))).setCell (p:=(I (w.heap.size+1) 3)) az (Y (lc 1))).setCell (p:=(I (w.heap.size+1) 4)) az (Y (lc 2))).setCell (p:=(I (w.heap.size+1) 5)) az (Y (lc 3))).setCell (p:=(I (w.heap.size+1) 6)) az (Y (lc 4))).setCell (p:=(I (w.heap.size+1) 7)) az (Y (lc 5))).setCell (p:=(I (w.heap.size+1) 8)) az (Y (lc 6))).setCell (p:=(I (w.heap.size+1) 9)) az (Y (lc 7))).setCell (p:=(I (w.heap.size+1) 10)) az (Y ((n0:Int)+1))).setCell (p:=(I (w.heap.size+1) 11)) az (Y ha)).setCell (p:=(I (w.heap.size+1) 12)) az (H va (n8+1) vc));have m9:=HMO.o _ f9;have hB9:=dS.o.trans (f9.below (B:=w.heap.size) dS.o.size az);generalize(((((((((((((((w1.setCell (I w.heap.size 12) (H va (n8+1) vc)).setCell (I w.heap.size 10) (Y ((n0:Int)+1))).setCell (I (w.heap.size+1) 0) (.bool th)).setCell (I (w.heap.size+1) 1) (.string tb)).setCell (I (w.heap.size+1) 2) (Y (lc 0))).setCell (I (w.heap.size+1) 3) (Y (lc 1))).setCell (I (w.heap.size+1) 4) (Y (lc 2))).setCell (I (w.heap.size+1) 5) (Y (lc 3))).setCell (I (w.heap.size+1) 6) (Y (lc 4))).setCell (I (w.heap.size+1) 7) (Y (lc 5))).setCell (I (w.heap.size+1) 8) (Y (lc 6))).setCell (I (w.heap.size+1) 9) (Y (lc 7))).setCell (I (w.heap.size+1) 10) (Y ((n0:Int)+1))).setCell (I (w.heap.size+1) 11) (Y ha)).setCell (I (w.heap.size+1) 12) (H va (n8+1) vc))=W9 at*;obtain⟨i0,i1,i2,i3,i4,i5,i6,i7,i8,i9,i10,i11,i12⟩:=b9.sB;clear b9 f9 kA p0 p1 p2 p3 p4 p5 p6 p7 aaW aea p10 p11 p12 z0 z1 z2 z3 z4 z5 z6 z7 z8 z9 z10 Vq z12 fz1 fz2;refine bR ?_ rfl ⟨H va (n8+1) vc,rfl,m9,hB9,λb X=> .inr (HI1.o b X)⟩;simp[results,results302,go_sem,i0,i1,i2,i3,i4,i5,i6,i7,i8,i9,i10,i11,i12]
end Go.Vf
namespace Go.Ma
open Go.RowKit al.Vm
open al hiding aS aw an
def fW{w:ek}{e:TypeId}{size n:Nat}{v:to}{g:Nat->to}(h:Row w e size v n g):∃a c,v=H a n c/\n<=c/\c<=maxLen:=by
 rcases h.val with⟨e,rfl⟩|⟨_,_,e,h1,h2,-⟩
 ·exact⟨_,_,e,aL _,ck _⟩
 ·exact⟨_,_,e,h1,h2⟩
section
variable {w:ek}{a b:to}{l:List Int}
variable {lo h1 h2 hi vq h1' h2' hi':Nat}{c d a' b' c' d':to}{L:PL}{lv lv':Nat->to}
def FX(J:Nat->to):Act:={tmps:=#[J 0,J 1,J 2,J 3,J 4,J 5,J 6,J 7,J 8,J 9,J 10,J 11,J 12,J 13,J 14,J 15,J 16,J 17,J 18,J 19,J 20,J 21,J 22,J 23,J 24,J 25,J 26,J 27,J 28,J 29,J 30,J 31,J 32,J 33,J 34,J 35,J 36,J 37,J 38,J 39,J 40,J 41,J 42,J 43,J 44,J 45,J 46,J 47,J 48,J 49,J 50,J 51,J 52,J 53,J 54,J 55,J 56,J 57,J 58,J 59,J 60,J 61,J 62,J 63,J 64,J 65,J 66,J 67,J 68,J 69,J 70,J 71,J 72,J 73,J 74,J 75,J 76,J 77,J 78,J 79,J 80,J 81,J 82,J 83,J 84,J 85,J 86,J 87,J 88,J 89,J 90,J 91,J 92,J 93,J 94,J 95,J 96,J 97,J 98,J 99,J 100,J 101,J 102,J 103,J 104,J 105,J 106,J 107,J 108,J 109,J 110,J 111,J 112,J 113,J 114,J 115,J 116,J 117,J 118,J 119,J 120,J 121,J 122],defers:=[]}
def FX.of(A:Array to)(h:A=(FX λk=>A.getD k undef).tmps):({tmps:=A,defers:=[]}:Act)=FX λk=>A.getD k undef:=by rw[h];rfl
def SS1(W0:ek)(x y n:Nat)(m:Nat)(a:Act)(W:ek):Prop:=∃(J:Nat->to) (i:Nat),a=FX J/\J 2=Oi x/\J 3=Oi y/\J 5=Y i/\i<=n/\m+i=n+1/\Hid (∃k,W=W0.drewN k)
def SS2(W0:ek)(x y n:Nat)(m:Nat)(a:Act)(W:ek):Prop:=∃(J:Nat->to) (i:Nat),a=FX J/\J 2=Oi x/\J 3=Oi y/\J 6=Y i/\i<=n/\m+i=n+1/\Hid (Below W0.heap.size W0 W)
def SS3(W0:ek)(x y q n:Nat)(m:Nat)(a:Act)(W:ek):Prop:=∃(J:Nat->to) (i:Nat),a=FX J/\J 2=Oi x/\J 3=Oi y/\J 6=Y q/\J 7=Y i/\i<=n/\m+i=n+1/\Hid (Below W0.heap.size W0 W)
def SS4(W0:ek)(x y q j xb yb n:Nat)(m:Nat)(a:Act)(W:ek):Prop:=∃(J:Nat->to) (i:Nat),a=FX J/\J 2=Oi x/\J 3=Oi y/\J 6=Y q/\J 7=Y j/\J 8=Oi xb/\J 9=Oi yb/\J 10=Y i/\i<=n/\m+i=n+1/\Hid (∃k,W=W0.drewN k)
def Ll{w:ek}{v:to}{l:List PE}{tv:Nat->to}(h:Row w 62 2 v l.length (QT l tv)){i:Nat}(hi':i<l.length):∃b cap,v=H (O (I b 0)) l.length cap/\b<w.heap.size/\Xf w (I b (i*2))=O (.int .u64 (l.getD i ⟨0,[]⟩).key)/\Xf w (I b (i*2+1))=O (tv i):=by obtain⟨b,cap,e,h1,h2,h3⟩:=h.some G;subst e;have c0:=h.cell (o:=i*2) G;have c1:=h.cell (o:=i*2+1) G;unfold QT at c0 c1;rw[aE G,show i*2 / 2=i by omega]at c0;rw[ax G,show(i*2+1) / 2=i by omega]at c1;exact⟨b,cap,rfl,h3,c0,c1⟩
variable {qv vv qv' vv':to}{S:PS}{tv Tl:Nat->Nat->to}
def aeg(hx:gS w lo hi qv vv S lv tv)(hy:gS w vq hi' qv' vv' S lv' Tl):Calls prog 23 #[.agg #[qv,vv],.agg #[qv',vv']] w (λe w'=>e=Xc (.bool true)/\Below w.heap.size w w'):=by
 obtain⟨qa,qc,rfl,q1,q2⟩:=fW hx.qs.row;obtain⟨ra,rc,rfl,r1,r2⟩:=fW hx.vs.row;obtain⟨qa',qc',rfl,-,-⟩:=fW hy.qs.row;obtain⟨ra',rc',rfl,-,-⟩:=fW hy.vs.row;have HX:=Z hx;have HY:=Z hy;obtain⟨W0,jM⟩:∃W0,W0=(w.alloc (Xe #[H qa S.aF.length qc,H ra S.vars.length rc] 56)).alloc (Xe #[H qa' S.aF.length qc',H ra' S.vars.length rc'] 56):=⟨_,rfl⟩;have oE:=Z (show aH W0 w.heap.size 56 #[H qa S.aF.length qc,H ra S.vars.length rc]by rw[jM];exact(aH.new _ _ _).alloc _);have pZ:=Z (show aH W0 (w.heap.size+1) 56 #[H qa' S.aF.length qc',H ra' S.vars.length rc']by rw[jM];exact aH.bK az);have fM:=Z (show Below w.heap.size w W0 by rw[jM];exact((aZ _ _).alloc (aL _) _).alloc az _);clear hx hy;go_enter func23,ntmps23;go_wp2_with fail;rw[<-jM];clear jM;refine Mk.aM (SS1 W0 w.heap.size (w.heap.size+1) S.vars.length) (S.vars.length+1) ⟨_,0,FX.of _ rfl,rfl,rfl,rfl,ck _,G,Z ⟨0,rfl⟩⟩ (λa W hh=>by obtain⟨J,i,-,-,-,-,h1,h2,-⟩:=hh;omega) ?_;rintro m a W ⟨J,i,rfl,j2,j3,j5,hi,hm,HW⟩;obtain⟨k,rfl⟩:=HW.o;unfold FX;rw[j2,j3,j5];clear j2 j3 j5;have k1:Xf W0 (I w.heap.size 1)=O (H ra S.vars.length rc):=oE.o.cell 1;have l1:=oE.o.lt;by_cases be:i<S.vars.length
 ·have w2:IntKind.i64.wrap ((i:Int)+1)=((i+1:Nat):Int):=by unfold maxLen at r2;rw[bJ _ kS];omega
  have n1:Xf W0 (I (w.heap.size+1) 1)=O (H ra' S.vars.length rc'):=pZ.o.cell 1;have l2:=pZ.o.lt;have ha:=HX.o.vs.row.aG (aC.ai (S:=[]) fM.o) az;have X:=HY.o.vs.row.aG (aC.ai (S:=[]) fM.o) az;obtain⟨xa,xc,ea,-,-,la⟩:=ha.some G;obtain⟨ya,yc,eb,-,-,lb⟩:=X.some G;simp only[cL]at ea eb;obtain⟨rfl,-,rfl⟩:=ea;obtain⟨rfl,-,rfl⟩:=eb;have c0:Xf W0 (I xa i)=O (Y (S.vars.getD i 0)):=ha.cell (o:=i) G;have c1:Xf W0 (I ya i)=O (Y (S.vars.getD i 0)):=X.cell (o:=i) G;have dm:=Z be;generalize S.vars.getD i 0=z at*;clear ha X;go_wp2;go_quiet (fail);go_wp2;refine⟨_,i+1,FX.of _ rfl,rfl,rfl,?_,dm.o,G,Z ⟨_,by first|rfl|rw[wZ]⟩⟩
  first|rfl|exact bo (Value.int .i64) (show(i:Int)+1=((i+1:Nat):Int)by omega)
 ·obtain rfl:i=S.vars.length:=G;clear be hi hm HW;have JJ:=Z (oE.o.drewN k);have Vh:=Z (pZ.o.drewN k);have fR:=Z (fM.o.trans (aA _ W0 k));go_wp2_with fail;clear k1 l1 oE pZ fM;generalize W0.drewN k=W2 at*;refine Mk.aM (SS2 W2 w.heap.size (w.heap.size+1) S.aF.length) (S.aF.length+1) ⟨_,0,FX.of _ rfl,rfl,rfl,rfl,ck _,G,Z (aZ _ _)⟩ (λa W hh=>by obtain⟨J,i,-,-,-,-,h1,h2,-⟩:=hh;omega) ?_;rintro m a W ⟨J,q,rfl,j2,j3,j6,hi,hm,HW⟩;unfold FX;rw[j2,j3,j6];clear j2 j3 j6;have Vi:=JJ.o.of (HW.o.block _ JJ.o.lt);have k0:=Vi.c1;have l1:=Vi.lt;by_cases be:q<S.aF.length
  ·have w2:IntKind.i64.wrap ((q:Int)+1)=((q+1:Nat):Int):=by unfold maxLen at q2;rw[bJ _ kS];omega
   have Hl:=Vh.o.of (HW.o.block _ Vh.o.lt);have n0:=Hl.c1;have l2:=Hl.lt;have hbW:=fR.o.trans (HW.o.mono fR.o.size);have ha:=HX.o.qs.row.aG (aC.ai (S:=[]) hbW) az;have X:=HY.o.qs.row.aG (aC.ai (S:=[]) hbW) az;obtain⟨xa,xc,ea,-,-,la⟩:=ha.some G;obtain⟨ya,yc,eb,-,-,lb⟩:=X.some G;simp only[cL]at ea eb;obtain⟨rfl,-,rfl⟩:=ea;obtain⟨rfl,-,rfl⟩:=eb;have c0:Xf W (I xa q)=O (lv q):=ha.cell (o:=q) G;have c1:Xf W (I ya q)=O (lv' q):=X.cell (o:=q) G;have hE:=HX.o.qs.q q be;have hE':=HY.o.qs.q q be;obtain⟨ea,ec,ev,e1,e2⟩:=fW hE.row;obtain⟨fa,fc,fv,f1,f2⟩:=fW hE'.row;rw[ev]at c0 hE;rw[fv]at c1 hE';have HE:=Z hE;have HE':=Z hE';have HC0:=Z c0;have Yq:=Z c1;have dm:=Z be;generalize S.aF.getD q []=L at*;generalize tv q=tq at*;generalize Tl q=tq' at*;have KK1:=Z Vi;have KK2:=Z Hl;have Nz:=Z hbW;clear ha X Vi Hl hE hE' ev fv hbW;go_wp2;go_quiet (fail);go_wp2_with fail;generalize hWd:W.drewN _=W3 at*;have s_:Below W.heap.size W W3:=by rw[<-hWd];exact aA _ _ _
   have mM:=Z (Nz.o.trans (s_.mono Nz.o.size));have Qc:=Z (HW.o.trans (s_.mono HW.o.size));have AN:=Z (KK1.o.of (s_.block _ KK1.o.lt));have nN:=Z (KK2.o.of (s_.block _ KK2.o.lt));have HD0:=Z ((aR (s_.block _ la)).trans HC0.o);have Bj:=Z ((aR (s_.block _ lb)).trans Yq.o);have NA:=Z (And.intro (dC la s_.size) (dC lb s_.size));clear hWd s_ k0 l1 l2 n0 c0 c1 la lb KK1 KK2 Nz HC0 Yq;refine Mk.aM (SS3 W3 w.heap.size (w.heap.size+1) q L.length) (L.length+1) ⟨_,0,FX.of _ rfl,rfl,rfl,rfl,rfl,ck _,G,Z (aZ _ _)⟩ (λa W hh=>by obtain⟨J,i,-,-,-,-,-,h1,h2,-⟩:=hh;omega) ?_;rintro m a W4 ⟨J,i,rfl,j2,j3,j6,j7,hi,hm,HV⟩;unfold FX;rw[j2,j3,j6,j7];clear j2 j3 j6 j7;have Vi:=AN.o.of (HV.o.block _ AN.o.lt);have k0:=Vi.c1;have l1:=Vi.lt;have be:=dm.o;have d0:Xf W4 (I xa q)=O (H ea L.length ec):=(aR (HV.o.block _ NA.o.1)).trans HD0.o;have la:xa<W4.heap.size:=ay d0;by_cases xS:i<L.length
   ·have w3:IntKind.i64.wrap ((i:Int)+1)=((i+1:Nat):Int):=by unfold maxLen at e2;rw[bJ _ kS];omega
    have Hl:=nN.o.of (HV.o.block _ nN.o.lt);have n0:=Hl.c1;have l2:=Hl.lt;have d1:Xf W4 (I ya q)=O (H fa L.length fc):=(aR (HV.o.block _ NA.o.2)).trans Bj.o;have lb:ya<W4.heap.size:=ay d1;have xX:=mM.o.trans (HV.o.mono mM.o.size);obtain⟨xe,xec,ee,le,x0,x1⟩:=Ll (HE.o.row.aG (aC.ai (S:=[]) xX) az) xS;obtain⟨ye,yec,ef,lf,y0,y1⟩:=Ll (HE'.o.row.aG (aC.ai (S:=[]) xX) az) xS;simp only[cL]at ee ef;obtain⟨rfl,-,rfl⟩:=ee;obtain⟨rfl,-,rfl⟩:=ef;have hT:=HE.o.aW i xS;have hT':=HE'.o.aW i xS;obtain⟨ta,tc,et,t1,t2⟩:=fW hT.row;obtain⟨ua,uc,eu,u1,u2⟩:=fW hT'.row;rw[et]at x1 hT;rw[eu]at y1 hT';have HT:=Z hT.row;have HT':=Z hT'.row;have HI2:=Z xS;have iw:=Z xX;have KK1:=Z Vi;have KK2:=Z Hl;generalize L.getD i ⟨0,[]⟩=E at*;clear hT hT' et eu xX Vi Hl;go_wp2_with fail;have KB1:=Z (show aH ((W4.alloc (Xe #[.int .u64 E.key,H ta E.aW.length tc] 62)).alloc (Xe #[.int .u64 E.key,H ua E.aW.length uc] 62)) W4.heap.size 62 #[.int .u64 E.key,H ta E.aW.length tc]from(aH.new _ _ _).alloc _);have KB2:=Z (show aH ((W4.alloc (Xe #[.int .u64 E.key,H ta E.aW.length tc] 62)).alloc (Xe #[.int .u64 E.key,H ua E.aW.length uc] 62)) (W4.heap.size+1) 62 #[.int .u64 E.key,H ua E.aW.length uc]from aH.bK az);have Ey:=Z (show Below W4.heap.size W4 ((W4.alloc (Xe #[.int .u64 E.key,H ta E.aW.length tc] 62)).alloc (Xe #[.int .u64 E.key,H ua E.aW.length uc] 62))from((aZ _ _).alloc (aL _) _).alloc az _);generalize(W4.alloc (Xe #[.int .u64 E.key,H ta E.aW.length tc] 62)).alloc (Xe #[.int .u64 E.key,H ua E.aW.length uc] 62)=V0 at*;clear k0 l1 d0 d1 n0 l2 la lb le lf x0 x1 y0 y1;refine Mk.aM (SS4 V0 w.heap.size (w.heap.size+1) q i W4.heap.size (W4.heap.size+1) E.aW.length) (E.aW.length+1) ⟨_,0,FX.of _ rfl,rfl,rfl,rfl,rfl,rfl,rfl,rfl,ck _,G,Z ⟨0,rfl⟩⟩ (λa W hh=>by obtain⟨J,i,-,-,-,-,-,-,-,-,h1,h2,-⟩:=hh;omega) ?_;rintro m' a V ⟨J,k,rfl,j2,j3,j6,j7,j8,j9,gN,hk,jw,HN⟩;obtain⟨aef,rfl⟩:=HN.o;unfold FX;rw[j2,j3,j6,j7,j8,j9,gN];clear j2 j3 j6 j7 j8 j9 gN;have z1:Xf V0 (I W4.heap.size 1)=O (H ta E.aW.length tc):=KB1.o.cell 1;have a1i:=KB1.o.lt;by_cases mL:k<E.aW.length
    ·have w4:IntKind.i64.wrap ((k:Int)+1)=((k+1:Nat):Int):=by unfold maxLen at t2;rw[bJ _ kS];omega
     have z2:Xf V0 (I (W4.heap.size+1) 1)=O (H ua E.aW.length uc):=KB2.o.cell 1;have zl2:=KB2.o.lt;have re:=iw.o.trans (Ey.o.mono iw.o.size);have ha:=HT.o.aG (aC.ai (S:=[]) re) az;have X:=HT'.o.aG (aC.ai (S:=[]) re) az;obtain⟨aee,xtc,e8,-,-,la⟩:=ha.some G;obtain⟨aa0,ytc,e9,-,-,lb⟩:=X.some G;simp only[cL]at e8 e9;obtain⟨rfl,-,rfl⟩:=e8;obtain⟨rfl,-,rfl⟩:=e9;have c0:Xf V0 (I aee k)=O (Y (E.aW.getD k 0)):=ha.cell (o:=k) G;have c1:Xf V0 (I aa0 k)=O (Y (E.aW.getD k 0)):=X.cell (o:=k) G;have Vh:=Z mL;generalize E.aW.getD k 0=z at*;clear ha X re;go_wp2;go_quiet (fail);go_wp2;refine⟨_,k+1,FX.of _ rfl,rfl,rfl,rfl,rfl,rfl,rfl,?_,Vh.o,G,Z ⟨_,by first|rfl|rw[wZ]⟩⟩
     first|rfl|exact bo (Value.int .i64) (show(k:Int)+1=((k+1:Nat):Int)by omega)
    ·obtain rfl:k=E.aW.length:=G;clear mL hk jw;go_wp2;refine⟨_,i+1,FX.of _ rfl,rfl,rfl,rfl,?_,HI2.o,G,Z (HV.o.trans (((Ey.o).trans (aA _ _ _)).mono HV.o.size))⟩
     first|rfl|exact bo (Value.int .i64) (show(i:Int)+1=((i+1:Nat):Int)by omega)
   ·obtain rfl:i=L.length:=G;clear xS hm hi;go_wp2;refine⟨_,q+1,FX.of _ rfl,rfl,rfl,?_,dm.o,G,Z (Qc.o.trans (HV.o.mono Qc.o.size))⟩
    first|rfl|exact bo (Value.int .i64) (show(q:Int)+1=((q+1:Nat):Int)by omega)
  ·obtain rfl:q=S.aF.length:=G;clear be;go_wp2
   first|refine Vf.eF (P:=prog) (fn:=Proofs.Tryz.f23) rfl ?_|(rw[Exit.noGoto_ret];refine Vf.eF (P:=prog) (fn:=Proofs.Tryz.f23) rfl ?_)
   exact⟨rfl,fR.o.trans (HW.o.mono fR.o.size)⟩
end
end Go.Ma
namespace Go.Vf
open Go.RowKit al.Vm
open al hiding aS aw an
open Ma (dW cy bd vb aK a_)
def uf(K:Kp)(p:aU)(jN:to):Array to:=#[K.g,K.v,K.t,K.o,Y p.aV,K.c,jN]
def tC(p:aU)(n:Int):Prop:=0<=n/\n<p.ap.length
def bT{w:ek}{K:Kp}{p:aU}(h:gM w K p){n:Int}(hq:tC p n):∃(m b off cap:Nat),n=m/\m<p.ap.length/\K.g=H (O (I b off)) p.ap.length cap/\b<w.heap.size/\Xf w (I b (off+m))=O (.bool (bw p n)):=by
 obtain⟨m,rfl⟩:=eS hq.1;have hm:m<p.ap.length:=by have:=hq.2;omega
 obtain⟨b,off,cap,e,q1,q2,c⟩:=h.gh hm;exact⟨m,b,off,cap,rfl,hm,e,ay c,by unfold bw;simpa using c⟩
section
variable {w:ek}{K:Kp}{p:aU}{jN:to}{vb:Nat}{x:Ins}{ha:Nat}
def Ri{p:Prop}(h:p:=by
 go_wp2;go_ret;exact⟨rfl,hB _ _⟩):p:=h
def so{p:Prop}(h:p:=by
 go_wp2;go_quiet (fail);go_wp2;go_ret;exact⟨rfl,hC _ _ _⟩):p:=h
def Wx{p:Prop}(h:p:=by
 go_enter func246,ntmps246;go_wp2;go_ret;exact⟨by simp[br],hB _ _⟩):p:=h
def aai(h:gM w K p)(hv:aH w vb 230 (uf K p jN))(hq:x.op=34->tC p x.a):Calls prog 246 #[Oi vb,a_ x,Y ha] w (λe w'=>e=Xc (Y (br p x ha))/\Below w.heap.size w w'):=by
 obtain⟨op,xa,xb,xc,xd⟩:=x;unfold a_ aK;dsimp only;have hB:=rH w;have hC:∀cs T k,Below w.heap.size w ((w.alloc (Xe cs T)).drewN k):=λcs T k=>(hB cs T).trans (aA _ _ k);have lv:=hv.lt;dsimp only at hq;by_cases o1:op=36
 ·subst o1;exact Wx
 by_cases o2:op=35
 ·subst o2;exact Wx
 by_cases o3:op=37
 ·subst o3;exact Wx
 by_cases o4:op=34
 ·subst o4;replace hq:=hq rfl;obtain⟨m,gb,off,cap,rfl,hm,hk,zm,gc⟩:=bT h hq;have v0:=hv.c1;rw[hk]at v0;have hf:br p ⟨34,(m:Int),xb,xc,xd⟩ ha=if bw p m then 1 else 2:=by simp[br]
  rw[hf];clear hf hk h hv hq;cases hg:bw p m with
  |false=>rw[hg]at gc;clear hg;go_enter func246,ntmps246;exact so
  |true=>rw[hg]at gc;clear hg;go_enter func246,ntmps246;exact so
 ·have hf:br p ⟨op,xa,xb,xc,xd⟩ ha=ha:=by simp[br,o1,o2,o3,o4]
  rw[hf];clear hf;go_enter func246,ntmps246;exact Ri
def RQ{p:Prop}(h:p:=by
 rcases hh with rfl|rfl|rfl|rfl
 all_goals
  go_enter func242,ntmps242;go_wp2;go_ret;exact⟨by simp[eL],hB _ _⟩):p:=h
def GJ{p:Prop}(h:p:=by
 rcases hh with rfl|rfl|rfl|rfl
 all_goals
  go_enter func242,ntmps242;go_wp2;go_ret;exact⟨by simp<;>omega,hB _ _⟩):p:=h
def JI{p:Prop}(h:p:=by
 rw[hg]at gc;clear hg;rcases hh with rfl|rfl|rfl|rfl
 all_goals
  go_enter func242,ntmps242;go_wp2;go_quiet (fail);go_wp2;go_ret;exact⟨az,hC _ _ _⟩):p:=h
def aaY(h:gM w K p)(hv:aH w vb 230 (uf K p jN))(hq:x.op=35->tC p x.a)(h3:ha<=3):Calls prog 242 #[Oi vb,a_ x,Y ha] w (λe w'=>e=Xc (.bool (eL p x ha))/\Below w.heap.size w w'):=by
 obtain⟨op,xa,xb,xc,xd⟩:=x;unfold a_ aK;dsimp only;have hB:=rH w;have hC:∀cs T k,Below w.heap.size w ((w.alloc (Xe cs T)).drewN k):=λcs T k=>(hB cs T).trans (aA _ _ k);have lv:=hv.lt;dsimp only at hq;have hh:ha=0\/ha=1\/ha=2\/ha=3:=G;clear h3;by_cases o1:op=36
 ·subst o1;exact RQ
 by_cases o2:op=37
 ·subst o2;exact RQ
 by_cases o3:op=35
 ·subst o3;replace hq:=hq rfl;obtain⟨m,gb,off,cap,rfl,hm,hk,zm,gc⟩:=bT h hq;have v0:=hv.c1;rw[hk]at v0;have hf:eL p ⟨35,(m:Int),xb,xc,xd⟩ ha=if bw p m then ha==1||ha==3 else ha==2:=by simp[eL]
  rw[hf];clear hf hk h hv hq;cases hg:bw p m with
  |false=>exact JI
  |true=>exact JI
 by_cases o4:op=28\/op=29\/op=30
 ·have hf:eL p ⟨op,xa,xb,xc,xd⟩ ha=true:=by unfold eL;rw[ax o1,ax o2,ax o3,aE o4]
  rw[hf];clear hf hh;rcases o4 with rfl|rfl|rfl
  all_goals
   go_enter func242,ntmps242;exact Ri
 ·have hf:eL p ⟨op,xa,xb,xc,xd⟩ ha=((decide (1<=op)&&decide (op<=21))||ha==0):=by unfold eL;rw[ax o1,ax o2,ax o3,ax o4]
  rw[hf];have o5:¬op=28:=λe=>o4 (.inl e);have o6:¬op=29:=λe=>o4 (.inr (.inl e));have o7:¬op=30:=λe=>o4 (.inr (.inr e));clear hf o4 hq;by_cases r1:1<=op
  ·by_cases r2:op<=21
   ·clear hh;go_enter func242,ntmps242;go_wp2;go_ret;exact⟨by simp[r1,r2],hB _ _⟩
   ·exact GJ
  ·exact GJ
def Sn{p:Prop}(h:p:=by
 obtain⟨m,gb,off,cap,rfl,hm,hk,zm,gc⟩:=bT h hq;have v0:=hv.c1;rw[hk]at v0;rw[hf];clear hf hk h hv hq og;generalize bw p m=g1 at*;cases g1
 all_goals
  go_enter func244,ntmps244;exact Ri):p:=h
def aec(h:gM w K p)(hv:aH w vb 230 (uf K p jN))(hq:x.op=32\/x.op=40\/x.op=41\/x.op=38\/x.op=39->tC p x.a)(og:x.op=38\/x.op=39->tC p x.c):Calls prog 244 #[Oi vb,a_ x] w (λe w'=>e=Xc (.bool (cK p x))/\Below w.heap.size w w'):=by
 obtain⟨op,xa,xb,xc,xd⟩:=x;unfold a_ aK;dsimp only;have hB:=rH w;have hC:∀cs T k,Below w.heap.size w ((w.alloc (Xe cs T)).drewN k):=λcs T k=>(hB cs T).trans (aA _ _ k);have lv:=hv.lt;dsimp only at hq og;by_cases o1:op=32
 ·subst o1;have hf:∀n:Int,cK p ⟨32,n,xb,xc,xd⟩= !bw p n:=λn=>by simp[cK]
  replace hq:=hq az;exact Sn
 by_cases o2:op=40
 ·subst o2;have hf:∀n:Int,cK p ⟨40,n,xb,xc,xd⟩= !bw p n:=λn=>by simp[cK]
  replace hq:=hq az;exact Sn
 by_cases o3:op=41
 ·subst o3;have hf:∀n:Int,cK p ⟨41,n,xb,xc,xd⟩=bw p n:=λn=>by simp[cK]
  replace hq:=hq az;exact Sn
 by_cases o4:op=38
 ·subst o4;have hf:∀n n2:Int,cK p ⟨38,n,xb,n2,xd⟩=(bw p n==bw p n2):=λn n2=>by simp[cK]
  replace hq:=hq az;replace og:=og az;obtain⟨m,gb,off,cap,rfl,hm,hk,zm,gc⟩:=bT h hq;obtain⟨m2,gb2,Jp,DN,rfl,ul,mL,K7,gc2⟩:=bT h og;have v0:=hv.c1;rw[hk]at v0 mL;simp only[cL,iI,Addr.mk.injEq]at mL;obtain⟨⟨rfl,rfl,-⟩,-,rfl⟩:=mL;rw[hf];clear hf hk h hv hq og;generalize bw p m=g1 at*;generalize bw p m2=g2 at*;cases g1
  all_goals
   cases g2
   all_goals
    go_enter func244,ntmps244;exact so
 by_cases o5:op=39
 ·subst o5;have hf:∀n n2:Int,cK p ⟨39,n,xb,n2,xd⟩=(!bw p n&&bw p n2):=λn n2=>by simp[cK]
  replace hq:=hq az;replace og:=og az;obtain⟨m,gb,off,cap,rfl,hm,hk,zm,gc⟩:=bT h hq;obtain⟨m2,gb2,Jp,DN,rfl,ul,mL,K7,gc2⟩:=bT h og;have v0:=hv.c1;rw[hk]at v0 mL;simp only[cL,iI,Addr.mk.injEq]at mL;obtain⟨⟨rfl,rfl,-⟩,-,rfl⟩:=mL;rw[hf];clear hf hk h hv hq og;generalize bw p m=g1 at*;generalize bw p m2=g2 at*;cases g1
  all_goals
   cases g2
   all_goals
    go_enter func244,ntmps244;exact Ri
 ·have hf:cK p ⟨op,xa,xb,xc,xd⟩=true:=by simp[cK,o1,o2,o3,o4,o5]
  obtain⟨ga,gcp,hk,-,-⟩:=h.g.val;have v0:=hv.c1;rw[hk]at v0;rw[hf];clear hf hk h hv hq og;go_enter func244,ntmps244;exact Ri
end
end Go.Vf
