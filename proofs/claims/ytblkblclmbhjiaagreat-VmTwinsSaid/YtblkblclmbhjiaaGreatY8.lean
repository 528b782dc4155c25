import Derived.Test.YtblkblclmbhjiaaGreatY7
import Derived.Maps.OwnSet
import Derived.Maps.OwnIn
import Derived.RangeFuncOwn
import Derived.Deep.Slices
import Derived.Deep.Fields
import Derived.ChangeSame
import Derived.ChangeArms
set_option linter.all false
set_option maxHeartbeats 40000000
set_option maxRecDepth 100000
open Go.Proofs.Tryz
open Option renaming some->O,none->MT
open Go renaming Value->to,World->ek
open Go.Value renaming slice->H
open Go.Obj renaming cells->CA
open Go.Ending renaming returned->Vl
open Go.World renaming cell?->Vo
namespace Go.Ma
open Go.RowKit aj.Vm Go.Shelf
open aj hiding aR an ak
open eB (bS bL eN Eh wG wS rowsOf)
open Ix (cX)
open gR (wF dM)
attribute [local go_sem] Oper.semAt_some
def ph(w:ek)(S:PS)(e:Ending)(w':ek):Prop:=
 ∃qv vv lv tv,e=Vl (.agg #[qv,vv])/\Below w.heap.size w w'/\jM w' w.heap.size w'.heap.size qv vv S lv tv
def aee:(prog.info? 62).map (λi=>(i.zero,i.size,i.bytes))=O (O (.agg #[.int .u64 0,Vn]),2,32):=by kernel_rfl
def aby:(prog.info? 60).map (λi=>(i.zero,i.size,i.bytes))=O (O Vn,1,24):=by kernel_rfl
structure SL(w W:ek)(sb hi mb:Nat)(va qv:to)(S:PS)(Ds:List Nat)(lv:Nat->to)(tv:Nat->Nat->to):Prop where
 rO:Below w.heap.size w W
 lo:w.heap.size+1<sb/\sb<hi/\hi<=W.heap.size
 b1:aF W w.heap.size 35 #[V5 mb]
 b2:aF W (w.heap.size+1) 56 #[Vn,Vn]
 b3:aF W sb 56 #[qv,va]
 st:jM W w.heap.size hi qv va S lv tv
 sV:Mk.Marks W Ds
 ml:∀D,D∈Ds->w.heap.size<=D
def SL.aG{w W W':ek}{sb hi mb:Nat}{va qv:to}{S:PS}{Ds:List Nat}{lv:Nat->to}{tv:Nat->Nat->to}{T:List Nat}(h:SL w W sb hi mb va qv S Ds lv tv)(f:aA T W W')(hT:∀b,b∈T->hi<=b)(hD:∀D,D∈Ds->D∉T):SL w W' sb hi mb va qv S Ds lv tv:=by
 obtain⟨l1,l2,l3⟩:=h.lo;have hs:=h.rO.size;refine⟨h.rO.trans (f.below hs (λk hk=>by have:=hT k hk;omega)),⟨l1,l2,cU l3 f.size⟩,?_,?_,?_,h.st.off f (oF.range λb X=> .inr (hT b X)),h.sV.keeps (λk hk=>f.block k (h.sV.lt hk) (hD k hk)),h.ml⟩
 ·exact h.b1.aG f (λhc=>by have:=hT _ hc;omega)
 ·exact h.b2.aG f (λhc=>by have:=hT _ hc;omega)
 ·exact h.b3.aG f (λhc=>by have:=hT _ hc;omega)
def SL.later{w W W':ek}{sb hi mb:Nat}{va qv:to}{S:PS}{Ds:List Nat}{lv:Nat->to}{tv:Nat->Nat->to}(h:SL w W sb hi mb va qv S Ds lv tv)(b:Below W.heap.size W W'):SL w W' sb hi mb va qv S Ds lv tv:=
 h.aG (aA.af (S:=[]) b) ay ay
def SL.up{w W:ek}{sb hi mb:Nat}{va qv:to}{S:PS}{Ds:List Nat}{lv:Nat->to}{tv:Nat->Nat->to}(h:SL w W sb hi mb va qv S Ds lv tv){hi':Nat}(h1:hi<=hi')(h2:hi'<=W.heap.size):SL w W sb hi' mb va qv S Ds lv tv:=
 ⟨h.rO,⟨h.lo.1,by have:=h.lo;omega,h2⟩,h.b1,h.b2,h.b3,h.st.mono (aL _) h1,h.sV,h.ml⟩
structure IL(w W6 W:ek)(sb lb mb:Nat)(va qv:to)(S:PS)(Ds:List Nat)(lv:Nat->to)(tv:Nat->Nat->to)(l:List PE)(ev:to)(te:Nat->to):Prop where
 sl:SL w W sb lb mb va qv S Ds lv tv
 bx:aF W lb 60 #[ev]
 es:kJ W W6.heap.size W.heap.size ev l te
 sz:lb<W6.heap.size/\W6.heap.size<=W.heap.size
def IL.grown{w W6 W W':ek}{sb lb mb:Nat}{va qv:to}{S:PS}{Ds:List Nat}{lv:Nat->to}{tv:Nat->Nat->to}{l:List PE}{ev:to}{te:Nat->to}(h:IL w W6 W sb lb mb va qv S Ds lv tv l ev te)
 (Ae:∀D,D∈Ds->D<W6.heap.size) {row:Option Nat} (hg:W.grownBy W' row) (hr:∀r,row=O r->W6.heap.size<=r/\∃o:Obj,W.heap[r]? =O o/\o.isCells=false):IL w W6 W' sb lb mb va qv S Ds lv tv l ev te:=by
 have f:=eK hg;have hm:∀b,b∈row.toList->W6.heap.size<=b/\∃o:Obj,W.heap[b]? =O o/\o.isCells=false:=λb X=>hr b (by simpa using X);have h1:=h.sz;refine⟨h.sl.aG f (λb X=>by have:=(hm b X).1;omega) (λD hD hc=>by have:=(hm D hc).1;have:=Ae D hD;omega),h.bx.aG f (λhc=>by have:=(hm _ hc).1;omega),?_,⟨h1.1,cU h1.2 hg.size⟩⟩;exact(h.es.off f (λb X=> .inr (.inr (hm b X).2))).mono (aL _) hg.size
def FrQ(w:ek)(sb nq q:Nat)(Ds:List Nat)(a:Act):Prop:=∃J:Nat->to,a={tmps:=#[J 0,V5 w.heap.size,V5 (w.heap.size+1),V5 sb,J 4,J 5,J 6,J 7,J 8,J 9,J 10,J 11,J 12,J 13,J 14,J 15,J 16,J 17,J 18,J 19,Y nq,Y q,J 22,J 23,J 24,J 25,J 26,J 27,J 28,J 29,J 30,J 31,J 32,J 33,J 34,J 35,J 36,J 37,J 38,J 39,J 40,J 41,J 42,J 43,J 44,J 45,J 46,J 47,J 48,J 49,J 50,J 51,J 52,J 53,J 54,J 55,J 56],defers:=Mk.marksOf Ds}
def FrB(w:ek)(lb eb:Nat)(a:Act):Prop:=∃J:Nat->to,a={tmps:=#[J 0,V5 w.heap.size,J 2,J 3,J 4,V5 lb,J 6,V5 eb,J 8,J 9,J 10,J 11,J 12,J 13,J 14,J 15,J 16,J 17,J 18,J 19,J 20,J 21,J 22,J 23,J 24,J 25,J 26,J 27,J 28,J 29,J 30,J 31,J 32,J 33,J 34,J 35,J 36,J 37,J 38,J 39,J 40,J 41,J 42,J 43,J 44,J 45,J 46,J 47,J 48,J 49,J 50,J 51,J 52,J 53,J 54,J 55,J 56],defers:=[]}
def IL.later{w W6 W W':ek}{sb lb mb:Nat}{va qv:to}{S:PS}{Ds:List Nat}{lv:Nat->to}{tv:Nat->Nat->to}{l:List PE}{ev:to}{te:Nat->to}(h:IL w W6 W sb lb mb va qv S Ds lv tv l ev te)(b:Below W.heap.size W W'):IL w W6 W' sb lb mb va qv S Ds lv tv l ev te:=
 ⟨h.sl.later b,h.bx.of (b.block _ h.bx.lt),(h.es.off (aA.af (S:=[]) b) (oF.nil _ _ _ _)).mono (aL _) b.size,h.sz.1,cU h.sz.2 b.size⟩
def AxS(w w6:ek)(lb:Nat)(x:Nat×eU)(a:Act)(W:ek):Prop:=∃eb,FrB w lb eb a/\aF W eb 118 (aP x.2)/\w6.heap.size<=eb
def AxS.grown{w w6 W W':ek}{lb:Nat}{x:Nat×eU}{a:Act}(h:AxS w w6 lb x a W){row:Option Nat}(hg:W.grownBy W' row)(hr:∀r,row=O r->w6.heap.size<=r/\∃o:Obj,W.heap[r]? =O o/\o.isCells=false):AxS w w6 lb x a W':=by obtain⟨eb,h1,h2,h3⟩:=h;exact⟨eb,h1,h2.of (Mk.On.grown h2.AH hg λr e=>(hr r e).2),h3⟩
def acT(w:ek)(sb mb:Nat)(va:to)(p:aQ)(s:St)(m:Nat)(a:Act)(W:ek):Prop:=
 ∃(q:Nat) (Ds:List Nat) (qv:to) (lv:Nat->to) (tv:Nat->Nat->to) (hi:Nat),q<=p.ax.length/\m+q=p.ax.length+1/\FrQ w sb p.ax.length q Ds a/\Hid (SL w W sb hi mb va qv ⟨(List.range q).map (nz p s),(List.range p.vars.length).map s.vars⟩ Ds lv tv)
section
variable {w w':ek}{C C':Co}{RO RO':List Nat}{K:Kc}{p:aQ}{c:Cp}{t t':dZ}{used used':Int}{s s':St}{rv rv':to}
def IL.told{W6 W V w1 w2 w3:ek}{sb lb mb:Nat}{va qv:to}{S:PS}{Ds:List Nat}{lv:Nat->to}{tv:Nat->Nat->to}{l:List PE}{ev:to}{te:Nat->to}(h:IL w W6 W sb lb mb va qv S Ds lv tv l ev te)
 (Ae:∀D,D∈Ds->D<W6.heap.size) (hV:Below W.heap.size W V) {zb:Nat} (hz:W.heap.size<=zb) (f1:aA [zb] V w1) {v1:to} {x:PE} (r1:Row w1 3 1 v1 x.aS.length (aX x.aS)) (i1:∀b,v1.ownBlock=O b->W.heap.size<=b)
 (h2:Below w1.heap.size w1 w2) (f3:aA ev.ownBlock.toList w2 w3) {v':to} (r3:Row w3 62 2 v' (l.length+1) (fY (l.length*2) (RE l te) λj=>if j % 2=0 then .int .u64 x.key else v1)) (i3:v'.ownBlock=ev.ownBlock\/v'.ownBlock=O w2.heap.size):
 ∃te',IL w W6 (w3.setCell (I lb 0) v') sb lb mb va qv S Ds lv tv (l++[x]) v' te'/\aA (lb::ev.ownBlock.toList) W (w3.setCell (I lb 0) v'):=by
 obtain⟨z1,z2⟩:=h.sz;have F1:aA [] W w1:=(aA.af (S:=[zb]) hV).trans f1 |>.Nx (by intro k hk;simp at hk;subst hk;exact .inr hz);have F2:aA [] W w2:=F1.trans (aA.af h2);have F3:aA ev.ownBlock.toList W w3:=(F2.mono ay).trans f3;have F4:aA (lb::ev.ownBlock.toList) W (w3.setCell (I lb 0) v'):=(F3.mono (by intro k hk;simp[hk])).setCell ay _;have sO:∀b,b∈ev.ownBlock.toList->ev.ownBlock=O b:=λb X=>by simpa using X
 have es2:=h.es.off F2 (oF.nil _ _ _ _);have r12:Row w2 3 1 v1 x.aS.length (aX x.aS):=r1.aG (aA.af (S:=[]) h2) ay;have r13:Row w3 3 1 v1 x.aS.length (aX x.aS):=r12.aG f3 (λb X hc=>by
  rcases Row.ne r12 es2.row bd with h'|h'
  ·rw[X]at h';cases h'
  ·exact h' (by rw[X,sO b hc]))
 have lt1:∀b,v1.ownBlock=O b->b<w3.heap.size:=λb X=>(fE r13 b X).2;have Qo:∀b,v'.ownBlock=O b->b<w3.heap.size:=λb X=>(fE r3 b X).2;have hx:eS w3 W6.heap.size w3.heap.size v1 x.aS:=⟨r13,λb X=>⟨by have:=i1 b X;omega,lt1 b X⟩⟩;have tJ:ki W6.heap.size w3.heap.size v':=λb X=>⟨by
  rcases i3 with h'|h'
  ·exact(h.es.i_ b (by rw[<-h',X])).1
  ·rw[X]at h';simp at h';have:=F2.size;omega,Qo b X⟩
 have e3:=kJ.snoc es2 hx F2.size f3 (λb X=>by
  obtain⟨cs,mB⟩:=es2.row.Tf (sO b X);exact .inr (.inl ⟨_,cs,mB,by simp[uX]⟩)) r3 tJ
 have Qp:aF w3 lb 60 #[ev]:=(h.bx.aG F3 (λhc=>by have:=h.es.i_ lb (sO lb hc);omega));have e4:=e3.off ((aA.refl [lb] w3).setCell (p:=(I lb 0)) ay v') (λb X=>by simp at X;subst X;exact .inr (.inl ⟨_,_,Qp,by simp[LZ]⟩));refine⟨_,⟨h.sl.aG F4 (λb X=>?_) (λD hD hc=>?_),Qp.set 0 v',by simpa[World.setCell]using e4,⟨z1,by have:=F4.size;omega⟩⟩,F4⟩
 ·rcases List.mem_cons.1 X with rfl|X
  ·exact aL _
  ·have:=h.es.i_ b (sO b X);omega
 ·rcases List.mem_cons.1 hc with rfl|hc
  ·exact h.sl.sV.not h.bx.AH hD
  ·exact h.sl.sV.not (Row.AH h.es.row (sO D hc)) hD
def SL.next{W6 W w1 w3:ek}{sb lb mb D:Nat}{va qv:to}{S:PS}{Ds:List Nat}{lv:Nat->to}{tv:Nat->Nat->to}{l:List PE}{ev:to}{te:Nat->to}(h:IL w W6 W sb lb mb va qv S Ds lv tv l ev te)
 (Ae:∀D,D∈Ds->D<W6.heap.size) (b1:Below W.heap.size W w1) (f3:aA qv.ownBlock.toList w1 w3) {v':to} (r3:Row w3 60 1 v' (S.aK.length+1) (fY (S.aK.length*1) lv λ_=>ev)) (i3:v'.ownBlock=qv.ownBlock\/v'.ownBlock=O w1.heap.size)
 (hD:W.heap[D]? =O (.deferred (O []))) (hD6:W6.heap.size<=D):
 ∃lv' RS,SL w (w3.setCell (I sb 0) v') sb w3.heap.size mb va v' ⟨S.aK++[l],S.vars⟩ (D::Ds) lv' RS:=by
 obtain⟨z1,z2⟩:=h.sz;obtain⟨l1,l2,l3⟩:=h.sl.lo;have hq:∀b,b∈qv.ownBlock.toList->qv.ownBlock=O b:=λb X=>by simpa using X
 have F1:aA [] W w1:=aA.af b1;have F3:aA qv.ownBlock.toList W w3:=(F1.mono ay).trans f3;have qs1:=h.sl.st.qs.off F1 (oF.nil _ _ _ _);have es1:=h.es.off F1 (oF.nil _ _ _ _);have ty:∀Es:List TypeId,60∉Es->∀lo hi,oF w1 lo hi Es qv.ownBlock.toList:=λEs hE lo hi b X=>by obtain⟨cs,mB⟩:=qs1.row.Tf (hq b X);exact .inr (.inl ⟨_,cs,mB,hE⟩)
 have es3:=es1.off f3 (ty _ bd _ _);have Qo:∀b,v'.ownBlock=O b->b<w3.heap.size:=λb X=>(fE r3 b X).2;have hw:=h.sl.rO.size;have tJ:ki w.heap.size w3.heap.size v':=λb X=>⟨by
  rcases i3 with h'|h'
  ·exact(qs1.i_ b (by rw[<-h',X])).1
  ·rw[X]at h';simp at h';have:=F1.size;omega,Qo b X⟩
 have q3:=uY.snoc (w:=w1) (w':=w3) qs1 (es3.mono G F3.size) (by have:=F1.size;omega) f3 (ty _ bd _ _) r3 tJ (λb X=>by have:=h.es.i_ b X;omega);have nb:∀b,b∈qv.ownBlock.toList->b≠w.heap.size/\b≠w.heap.size+1/\b≠sb:=λb X=>by obtain⟨cs,mB⟩:=h.sl.st.qs.row.Tf (hq b X);exact⟨λe=>by subst e;exact aF.ne mB h.sl.b1 bd rfl,λe=>by subst e;exact aF.ne mB h.sl.b2 bd rfl,λe=>by subst e;exact aF.ne mB h.sl.b3 bd rfl⟩
 have b3:aF w3 sb 56 #[qv,va]:=h.sl.b3.aG F3 (λhc=>(nb _ hc).2.2 rfl);have Vk:aA [sb] w3 (w3.setCell (I sb 0) v'):=(aA.refl [sb] w3).setCell (p:=(I sb 0)) ay v';have oS:∀Es:List TypeId,56∉Es->∀lo hi,oF w3 lo hi Es [sb]:=λEs hE lo hi b X=>by simp at X;subst X;exact .inr (.inl ⟨_,_,b3,hE⟩)
 have vs3:eS w3 w.heap.size lb va S.vars:=h.sl.st.vs.off F3 (λb X=>by
  obtain⟨cs,mB⟩:=h.sl.st.qs.row.Tf (hq b X);exact .inr (.inl ⟨_,cs,mB,bd⟩))
 have hDn:D∉Ds:=λhc=>by have:=Ae D hc;omega
 have nD:∀k,k∈D::Ds->k∉qv.ownBlock.toList/\k≠sb:=λk hk=>by
  have hM:W.heap[k]? =O (.deferred (O [])):=by
   rcases List.mem_cons.1 hk with rfl|hk
   ·exact hD
   ·exact h.sl.sV.at_ k hk
  refine⟨λhc=>?_,λe=>?_⟩
  ·obtain⟨cs,mB⟩:=h.sl.st.qs.row.Tf (hq k hc);unfold aF at mB;rw[hM]at mB;cases mB
  ·subst e;have:=h.sl.b3;unfold aF at this;rw[hM]at this;cases this
 refine⟨_,_,⟨?_,⟨l1,by have:=F3.size;omega,by have:=Vk.size;omega⟩,?_,?_,b3.set 0 v',⟨by have:=q3.off Vk (oS _ bd _ _);exact this,?_⟩,⟨List.nodup_cons.2 ⟨hDn,h.sl.sV.nd⟩,λk hk=>?_⟩,λk hk=>?_⟩⟩
 ·exact(h.sl.rO.trans (F3.below hw (λk hk=>(h.sl.st.qs.i_ k (hq k hk)).1))).setCell (by show w.heap.size<=sb;omega) v'
 ·exact(h.sl.b1.aG F3 (λhc=>(nb _ hc).1 rfl)).aG Vk jz
 ·exact(h.sl.b2.aG F3 (λhc=>(nb _ hc).2.1 rfl)).aG Vk jz
 ·exact(vs3.off Vk (oS _ bd _ _)).mono (aL _) (by have:=F3.size;omega)
 ·have hM:W.heap[k]? =O (.deferred (O [])):=by
   rcases List.mem_cons.1 hk with rfl|hk
   ·exact hD
   ·exact h.sl.sV.at_ k hk
  obtain⟨n1,n2⟩:=nD k hk;have gm:k<W.heap.size:=(Array.getElem?_eq_some_iff.1 hM).1;exact(Vk.block k (by have:=F3.size;omega) (by simp;exact n2)).trans ((F3.block k gm n1).trans hM)
 ·rcases List.mem_cons.1 hk with rfl|hk
  ·omega
  ·exact h.sl.ml k hk
def Kn(w:ek)(mb eb key:Nat)(tv:to)(wx:ek):Prop:=Vo wx (I eb 0)=O (.int .u64 key)/\Vo wx (I w.heap.size 0)=O (V5 mb)/\Vo wx (I mb 2)=O tv
def Kn.aG{w W W':ek}{mb eb key:Nat}{tv:to}(h:Kn w mb eb key tv W){T:List Nat}(f:aA T W W')(h1:eb∉T)(h2:w.heap.size∉T)(h3:mb∉T):Kn w mb eb key tv W':=by obtain⟨a1,a2,a3⟩:=h;exact⟨(bk (f.block eb (aH a1) h1)).trans a1,(bk (f.block _ (aH a2) h2)).trans a2,(bk (f.block _ (aH a3) h3)).trans a3⟩
def Kn.alloc{w W:ek}{mb eb key:Nat}{tv:to}(h:Kn w mb eb key tv W)(o:Obj):Kn w mb eb key tv (W.alloc o):=h.aG ((aA.refl [] W).alloc o) ay ay ay
structure acU(w W6 W w1:ek)(sb lb mb:Nat)(va qv:to)(S:PS)(Ds FB:List Nat)(lv:Nat->to)(tv:Nat->Nat->to)(l:List PE)(ev:to)(te:Nat->to)(x:PE)(v1:to)(SS:ek->Prop):Prop where
 row:Row (w1.alloc (CA #[.int .u64 x.key,v1] 62)) 62 2 ev l.length (RE l te)
 news:∀j,j<1*2->(w1.alloc (CA #[.int .u64 x.key,v1] 62)).cell? (Addr.add (I w1.heap.size 0) j)=O (if j % 2=0 then .int .u64 x.key else v1)
 one:∀j,j<1*2->(if j % 2=0 then Value.int .u64 x.key else v1).oneCell'=true
 fin:∀v' w3,Row w3 62 2 v' (l.length+1) (fY (l.length*2) (RE l te) λj=>if j % 2=0 then .int .u64 x.key else v1)->aA ev.ownBlock.toList (w1.alloc (CA #[.int .u64 x.key,v1] 62)) w3->(v'.ownBlock=ev.ownBlock\/v'.ownBlock=O (w1.alloc (CA #[.int .u64 x.key,v1] 62)).heap.size)->
  SS w3/\(∀o,w3.frozen? (I lb o)=false)/\Vo w3 (I lb 0)=O ev/\SS (w3.setCell (I lb 0) v')/\KeepsFrom W6.heap.size W (w3.setCell (I lb 0) v')/\wF FB W (w3.setCell (I lb 0) v')/\∃ev' te',IL w W6 (w3.setCell (I lb 0) v') sb lb mb va qv S Ds lv tv (l++[x]) ev' te'
def aed(tb nt:Nat)(h:nt<=4)(w:ek):(Instr.sliceAt 116 (V5 tb) MT (O (Y nt)) MT).run prog w= .ok (H (O (I tb 0)) nt 4) w:=by
 have hl:prog.arrayLen 116=4:=by kernel_rfl
 have hs:∀w,(sizeOf (prog.elem 116)).run prog w= .ok 1 w:=λ_=>by kernel_rfl
 rw[run_sliceAt_array_h w 116 (I tb 0) bh .i64 nt G G,hs,hl];simp[slicedAt,Addr.add]
def Qz(x:eU):Array to:=#[Y (x.tg 0),Y (x.tg 1),Y (x.tg 2),Y (x.tg 3)]
def jR(W:ek)(x:eU):ek:=(W.alloc (CA (Qz x) 116)).drew
def pK(W:ek)(x:eU):ek:=(jR W x).alloc (CA #[] 3)
structure abx(w W6 W:ek)(sb lb mb eb nt:Nat)(va qv:to)(S:PS)(Ds FB:List Nat)(lv:Nat->to)(tv:Nat->Nat->to)(l:List PE)(ev:to)(te:Nat->to)(x:eU)(y:PE)(SS:ek->Prop):Prop where
 s0:SS (jR W x)
 c0:(jR W x).cell? (I lb 0)=O ev
 l0:lb<(jR W x).heap.size
 row:Row (pK W x) 3 1 (H (O (I ((jR W x).heap.size) 0)) 0 0) 0 (λ_=> Y 0)
 news:∀j,j<nt*1->(pK W x).cell? (Addr.add (I W.heap.size 0) j)=O (Y (x.tg j))
 w1:∀v1 w1,Row w1 3 1 v1 (0+nt) (fY (0*1) (λ_=> Y 0) λj=> Y (x.tg j))->aA (Value.slice (O (I ((jR W x).heap.size) 0)) 0 0).ownBlock.toList (pK W x) w1->
  (v1.ownBlock=(Value.slice (O (I ((jR W x).heap.size) 0)) 0 0).ownBlock\/v1.ownBlock=O (pK W x).heap.size)->SS w1/\Vo w1 (I lb 0)=O ev/\lb<w1.heap.size/\acU w W6 W w1 sb lb mb va qv S Ds FB lv tv l ev te y v1 SS
def IL.region{W6 W:ek}{sb lb mb eb:Nat}{va qv:to}{S:PS}{Ds FB:List Nat}{lv:Nat->to}{tv:Nat->Nat->to}{l:List PE}{ev:to}{te:Nat->to}(h:IL w W6 W sb lb mb va qv S Ds lv tv l ev te)
 (Ae:∀D,D∈Ds->D<W6.heap.size) {x:eU} (heb:aF W eb 118 (aP x)) (hle:W6.heap.size<=eb) (hnt:p.aS.length<=4) (Qq:∀k,k∈FB->k<W6.heap.size/\k≠lb) {tvv:to} (m2:Vo W (I mb 2)=O tvv) (oR:mb<w.heap.size):
 abx w W6 W sb lb mb eb p.aS.length va qv S Ds FB lv tv l ev te x (tY p x) (Kn w mb eb x.key tvv):=by
 obtain⟨z1,z2⟩:=h.sz;have hw:=h.sl.rO.size;have jo:=h.sl.lo;have bV:Below W.heap.size W (jR W x):=((aY _ W).alloc (aL _) _).trans (az _ _ 1);have zV:(jR W x).heap.size=W.heap.size+1:=by unfold jR;simp
 have FV:aA [] W (jR W x):=aA.af bV;have F2:aA [] W (pK W x):=FV.alloc _;have s0:Kn w mb eb x.key tvv W:=⟨heb.cell 0,h.sl.b1.cell 0,m2⟩;have sO:∀b,b∈ev.ownBlock.toList->ev.ownBlock=O b:=λb X=>by simpa using X
 have rE2:=h.es.row.aG F2 ay;refine⟨s0.aG FV ay ay ay,(h.bx.aG FV ay).cell 0,by have:=h.bx.lt;omega,?_,λj hj=>?_,λv1 w1 r1 f1 b1=>?_⟩
 ·have:=E4 (e:=3) (size:=1) (jR W x) #[] 0 (cM _) (cM _) ay;exact this
 ·rw[Addr.add_lit,Nat.zero_add];have X:aF (pK W x) W.heap.size 116 (Qz x):=((aF.new W _ _).drewN 1).alloc _;rw[X.cell j];unfold Qz;have:j=0\/j=1\/j=2\/j=3:=G;rcases this with rfl|rfl|rfl|rfl<;>rfl
 ·have f1':aA [W.heap.size+1] (pK W x) w1:=f1.mono (by intro k hk;rw[zV]at hk;simpa[Value.ownBlock]using hk);have D7:Below W.heap.size W (pK W x):=bV.alloc bV.size _;have F1:aA [] W w1:=(F2.mono (T:=[W.heap.size+1]) ay).trans f1' |>.Nx (by intro k hk;simp at hk;subst hk;exact .inr G);have s1:=s0.aG F1 ay ay ay;have bx1:=h.bx.aG F1 ay;have hlen:(tY p x).aS.length=p.aS.length:=by simp[tY]
  have r1':Row w1 3 1 v1 (tY p x).aS.length (aX (tY p x).aS):=by rw[hlen];rw[Nat.zero_add]at r1;refine r1.congr λo ho=>?_;unfold fY aX tY;rw[aw G];dsimp only;rw[jL _ _ G];congr 1
  have i1:∀b,v1.ownBlock=O b->W.heap.size<=b:=λb X=>by
   rcases b1 with h'|h'<;>rw[X]at h'<;>simp[Value.ownBlock]at h'
   ·rw[zV]at h';omega
   ·have:=F2.size;omega
  have b2:Below w1.heap.size w1 (w1.alloc (CA #[.int .u64 x.key,v1] 62)):=(aY _ _).alloc (aL _) _;obtain⟨Z9,Z_,Vj,rfl⟩:=Row.mG r1;refine⟨s1,bx1.cell 0,bx1.lt,⟨(h.es.row.aG F1 ay).aG (aA.af (S:=[]) b2) ay,λj hj=>?_,λj hj=>?_,λv' w3 r3 f3 b3=>?_⟩⟩
  ·rw[Addr.add_lit,Nat.zero_add,(aF.new w1 62 #[.int .u64 (tY p x).key,H Z9 Z_ Vj]).cell j];have:j=0\/j=1:=G;rcases this with rfl|rfl<;>rfl
  ·have:j=0\/j=1:=G;rcases this with rfl|rfl<;>rfl
  ·obtain⟨te',hI,hF⟩:=h.told (x:=tY p x) Ae D7 G f1' r1' i1 b2 f3 r3 b3;have F3:aA ev.ownBlock.toList W w3:=((F1.trans (aA.af b2)).mono ay).trans f3;have ne1:∀b,b∈ev.ownBlock.toList->b≠eb/\b≠w.heap.size/\b≠mb/\b≠lb:=λb X=>by have jV:=sO b X;have:=h.es.i_ b jV;obtain⟨cs,mB⟩:=h.es.row.Tf jV;refine⟨λe=>?_,G,G,G⟩;subst e;exact aF.ne mB heb bd rfl
   have s3:=s0.aG F3 (λhc=>(ne1 _ hc).1 rfl) (λhc=>(ne1 _ hc).2.1 rfl) (λhc=>(ne1 _ hc).2.2.1 rfl);have Qp:=h.bx.aG F3 (λhc=>(ne1 _ hc).2.2.2 rfl);have s4:Kn w mb eb x.key tvv (w3.setCell (I lb 0) v'):=s3.aG ((aA.refl [lb] w3).setCell (p:=(I lb 0)) ay v') jz jz jz;have hc:∀b,b∈lb::ev.ownBlock.toList->Mk.On W b:=λb X=>by
    rcases List.mem_cons.1 X with rfl|X
    ·exact h.bx.AH
    ·exact Row.AH h.es.row (sO b X)
   refine⟨s3,Qp.frozen,Qp.cell 0,s4,vo hF hc _,λk hk=>hF.block k (by have:=(Qq k hk).1;omega) (λhc=>?_),_,_,hI⟩;have h1:=Qq k hk;rcases List.mem_cons.1 hc with rfl|hc
   ·exact h1.2 rfl
   ·have:=h.es.i_ k (sO k hc);omega
def zw{p:Prop}(h:p:=by
 intro wz fj
 (try dsimp only at fj)
 exact qj):p:=h
def Mw{p:Prop}(h:p:=by
 refine Mk.pt ?_;refine dJ (rs:=[13]) bh ay ?_;refine bZ rfl (λK hK=>?_) cK;refine fH ?_;go_simp;refine hK.out _ _ (Kn.alloc au _) (λau=>?_);clear hK K;exact rI):p:=h
def J9{p:Prop}(h:p:=by
 refine Mk.pt ?_;refine dJ (rs:=[11]) bh ay ?_;refine bZ rfl (λK hK=>?_) cK;refine cJ rfl (.tmp 37) (.tmp 44) 24 rfl 3 underlying24 Vf.ck rfl bd (H (O (I V.heap.size 0)) 0 0) 0 (λ_=> Y 0) (by simp[Act.eval,Act.put]) Xf.o (I tbx 0) nt 4 (λj=> Y (xe.tg j)) (by simp[Act.eval,Act.put]) Xg.o (λj _=>rfl) Ko.o.1 Ko.o.2 ?_;intro v1 w1 r1 f1 b1;obtain⟨Z9,Z_,Vj,rfl⟩:=Row.mG r1;obtain⟨wY,c1,l1,sT⟩:=HW1.o _ w1 r1 f1 b1;have Nq:=Z sT;clear r1 f1 b1 sT;clear au;refine hK.out _ _ wY (λau=>?_);clear hK K;refine Mk.pt ?_;refine Mk.tk 12 (v:=?_) rfl ?_ cY ?_;rotate_left
 ·exact zw
 exact Mw):p:=h
def rI{p:Prop}(h:p:=by
 refine Mk.pt ?_;refine dJ (rs:=[14]) bh ay ?_;refine bZ rfl (λK hK=>?_) cK;refine cJ rfl (.tmp 34) (.tmp 47) 60 rfl 62 underlying60 aee rfl bd ev lp.length (RE lp te) (by simp[Act.eval,Act.put]) (Nq.o.row) (I w1.heap.size 0) 1 1 (λj=>if j % 2=0 then .int .u64 xe.key else H Z9 Z_ Vj) (by simp[Act.eval,Act.put]) Nq.o.news Nq.o.one Xh.o.1 Xh.o.2 ?_;intro v' w3 r3 f3 b3;obtain⟨va3,vn3,vc3,rfl⟩:=Row.mG r3;obtain⟨ET,f5,c5,Gb,Ov⟩:=Nq.o.fin _ w3 r3 f3 b3;have aeG:=Z Ov;clear r3 f3 b3 Ov;clear au;refine hK.out _ _ ET (λau=>?_);clear hK K;refine Mk.pt ?_;refine dJ (rs:=[15]) bh ay ?_;refine bZ rfl (λK hK=>?_) cK;refine fH ?_;go_simp;refine hK.out _ _ Gb (λau=>?_);clear hK K;refine Mk.pt ?_;refine fx bh ⟨rfl,?_⟩ _;clear au ET Gb
 gi_wp2_with fail
 obtain⟨k1,k2,ev2,te2,hI2⟩:=aeG.o;exact⟨k1,k2,ev2,te2,by rw[List.map_append,HLP.o,List.map_cons,List.map_nil,HXE.o];exact hI2⟩):p:=h
def Kq(h:Mx w C RO K p c s t used rv)(tb:tM p)(gP:K.nd<=4194304):
 Calls prog 20 #[V5 C.mb] w (ph w (nA p s)):=by
 have b0:Below w.heap.size w ((w.alloc (CA #[V5 C.mb] 35)).alloc (CA #[Vn,Vn] 56)):=((aY _ _).alloc (aL _) _).alloc ay _;have h0:=h.later b0;have m11:((w.alloc (CA #[V5 C.mb] 35)).alloc (CA #[Vn,Vn] 56)).cell? (I C.mb 11)=O C.vs:=h0.m.bg.cell 11;have HC:=Z (Vf.mM (Vf.aZ.vd h0.m.vs) (by have:=tb.v;omega) (λj _=>rfl));have lm:=h.m.bg.lt;have a0g:=Z h;have HT:=Z tb;have eV:=Z b0;clear h tb b0 h0;refine(callsIn_wide (n:=9)).1 ?_;refine callsIn_of_wp_marks func20 rfl trivial ?_ rfl;simp only[ntmps20,List.size_toArray,List.length_cons,List.length_nil,Nat.reduceAdd,Nat.reduceSub,Array.replicate_succ,Array.replicate_zero,List.push_toArray,List.append_toArray,List.nil_append,List.cons_append];refine wpIn_wide.2 ?_;go_wp2_with fail;refine HC.o.mono ?_;rintro e w2 ⟨vv,rfl,rV,bV,iV⟩;obtain⟨va,vn,vc,rfl⟩:=Row.mG rV;have bW:=eV.o.trans (bV.mono (by simp only[aM];omega));have k2:aF w2 w.heap.size 35 #[V5 C.mb]:=((aF.new w _ _).alloc _).of (bV.block _ (by simp only[aM];omega));have k3:aF w2 (w.heap.size+1) 56 #[Vn,Vn]:=by have:=aF.new (w.alloc (CA #[V5 C.mb] 35)) 56 #[Vn,Vn];rw[aM]at this;exact this.of (bV.block _ (by simp only[aM];omega))
 have J_:=Z (a0g.o.later bW);have sl3:SL w (w2.alloc (CA #[Vn,H va vn vc] 56)) w2.heap.size (w2.heap.size+1) C.mb (H va vn vc) Vn ⟨[],(List.range p.vars.length).map s.vars⟩ [] (λ_=> Vn) (λ_ _=> Vn):=by
  have Bj:=bV.size;simp only[aM]at Bj;refine⟨bW.alloc bW.size _,⟨G,G,ay⟩,k2.alloc _,k3.alloc _,aF.new w2 _ _,⟨⟨Row.nil _ _ _ _,ki.nil _ _,λq hq=>absurd hq ay,λq q' hq=>absurd hq ay⟩,⟨?_,λb X=>?_⟩⟩,Mk.Marks.nil _,ay⟩
  ·have e:(List.map s.vars (List.range p.vars.length)).length=p.vars.length:=by simp
   show Row _ _ 1 _ (List.map s.vars (List.range p.vars.length)).length (aX (List.map s.vars (List.range p.vars.length)));rw[e];refine(rV.alloc _).congr λo ho=>?_;unfold aX;rw[jL _ _ G]
  ·have:=iV b X;simp only[aM]at this;omega
 have HSL:=Z sl3;have d2:=k2.c1;have m0:Vo w2 (I C.mb 0)=O K.g:=J_.o.m.bg.cell 0;obtain⟨ga,gn,gc,lG⟩:=Row.mG J_.o.m.prog.g;rw[lG]at m0;have AB:gn=p.ax.length:=by
  rcases J_.o.m.prog.g.val with⟨h,h'⟩|⟨b,cap,h,-⟩
  ·rw[lG]at h;simp at h;omega
  ·rw[lG]at h;simp at h;omega
 obtain rfl:=AB;have l2:=k2.lt;have ZP:=J_.o.m.bg.lt;have zt:=HT.o.g;clear rV iV bV bW m11 HC lm lG eV k2 k3 sl3;go_wp2;refine Mk.aN (acT w w2.heap.size C.mb (H va vn vc) p s) (p.ax.length+1) ?start ?zero ?round
 case start=>exact⟨0,[],_,_,_,_,cM _,G,qi rfl,HSL⟩
 case zero=>exact λa W hh=>by obtain⟨q,_,_,_,_,_,h1,h2,_⟩:=hh;omega
 clear HSL J_ d2 m0 l2 ZP;generalize w2.heap.size=sb
 case round=>
  rintro m a W ⟨q,Ds,qv,lv,tv,hi,hq,hm,⟨J,rfl⟩,rF⟩;have MW:=a0g.o.later rF.o.rO;have d2:=rF.o.b1.c1;have m9:Vo W (I C.mb 9)=O (V5 C.ab):=MW.m.bg.cell 9;have l1:=rF.o.b1.lt;have lm:=MW.m.bg.lt;by_cases be:q<p.ax.length
  ·obtain⟨wA,Qt⟩:∃wA,wA=W.alloc (CA #[Vn] 60):=⟨_,rfl⟩;have bA:Below W.heap.size W wA:=by rw[Qt];exact(aY _ _).alloc (aL _) _
   have Ke:=Z (MW.later bA);have RJ:=Z (rF.o.later bA);have kw:wA.heap.size=W.heap.size+1:=by rw[Qt];simp
   have kl:aF wA W.heap.size 60 #[Vn]:=by rw[Qt];exact aF.new W _ _
   have HL:=Z (eB.VL Ke.o.m.ar gP be);have Xa:=Z kl;have zH:=Z kw;clear MW bA kw kl;go_wp2_with fail;rw[<-Qt];clear Qt;refine HL.o.mono ?_;rintro e w6 ⟨rfl,Qu,AR⟩;have VF:W.heap.size+1=wA.heap.size:=zH.o.symm;have hhl:=rF.o.lo;generalize W.heap.size=lb at*;have hqL:((rowsOf s.a (s.a.ls q)).map λy=>tY p y.2)=nz p s q:=by unfold rowsOf nz;rw[List.map_map];rfl
   have oM:=Ke.o.m.ar.tB be;have hlen:(rowsOf s.a (s.a.ls q)).length<=4194304:=by rw[eB.kR];have:=oM.1;omega
   have b6:=AR.rO;have Qv:wA.heap.size<w6.heap.size:=AR.box.lt;have HR6:=Z (wS AR);have uS:∀k,k∈dM Qu->wA.heap.size<=k/\k<w6.heap.size:=by
    intro k hk;rcases AR.own.2 with⟨rfl,_⟩|⟨g,cap,zF,rfl,h1,h2,_⟩
    ·simp[dM]at hk
    ·simp[dM]at hk;subst hk;exact⟨h1,(Array.getElem?_eq_some_iff.1 h2).1⟩
   have Fw:=Z (eB.sq Fence.wide 8 trivial rfl G wA.heap.size wA.heap.size Qu (rowsOf s.a (s.a.ls q)) G w6 AR.box HR6.o (λk hk=>(uS k hk).2));have No:=Z (RJ.o.later b6);have Ng:=Z (Xa.o.of (b6.block _ G));have Uc:=Z (Ke.o.later b6);have HQL:=Z hqL;have qC:=AR.box.lt;clear hqL AR b6 HL RJ Xa Ke HR6 oM;generalize rowsOf s.a (s.a.ls q)=L at*;have Ae:∀D,D∈Ds->D<w6.heap.size:=λD hD=>No.o.sV.lt hD;have m2:Vo w6 (I C.mb 2)=O K.t:=Uc.o.m.bg.cell 2;obtain⟨ta,tn,tc,VY⟩:=Row.mG Uc.o.m.prog.t;rw[VY]at m2;have htl:tn=p.aS.length:=by
    rcases Uc.o.m.prog.t.val with⟨h,h'⟩|⟨b,cap,h,-⟩
    ·rw[VY]at h;simp at h;omega
    ·rw[VY]at h;simp at h;omega
   obtain rfl:=htl;have HTV:=Z VY;have Up:=Z Ae;have J_:=Z m2;clear m2 VY Ae;go_wp2_with fail;refine(wpIn_wide (n:=9)).1 ?_;refine wpIn_rangeFunc_ownH (n:=9) (F:=Fence.wide) rfl G (gf:=136) (lb:=#[V5 wA.heap.size]) rfl trivial (Proofs.enters_of func136 bh rfl) Fw.o wF.t
    (wF.b (by intro k hk;rcases List.mem_cons.1 hk with rfl|hk;exact Qv;exact(uS k hk).2)) (aY _ _) (λ_=>rfl)
    (λpre W=>∃ev te,Hid (IL w w6 W sb lb C.mb (H va vn vc) qv ⟨(List.range q).map (nz p s),(List.range p.vars.length).map s.vars⟩ Ds lv tv (pre.map λy=>tY p y.2) ev te))
    (λc pre W=>False) ?hI ?hIx ?h0 (λx a' W=>AxS w w6 lb x a' W) (λx a' _ W W' row hs hg hr=>hs.grown hg hr) ?assign ?body ?done ?stop
   case hI=>exact λpre W W' row ⟨ev,te,hh⟩ hg hr=>⟨ev,te,hh.o.grown Up.o hg hr⟩
   case hIx=>exact λc pre W W' row hh _ _=>hh
   case h0=>exact⟨Vn,λ_=> Vn,⟨No.o.up hhl.2.2 G,Ng.o,⟨Row.nil _ _ _ _,ki.nil _ _,λi hi=>absurd hi ay⟩,G,aL _⟩⟩
   case assign=>
    rintro l pre x W K ⟨ev,te,jh⟩ hK;unfold bL
    gi_wp2
    have bB:Below W.heap.size W (W.alloc (CA (aP x.2) 118)):=(aY _ _).alloc (aL _) _;refine hK _ _ ((KeepsOthers.alloc _ _).from _) (λk hk=>bB.block k ?_) ⟨ev,te,jh.o.later bB⟩ ⟨W.heap.size,qi rfl,aF.new W _ _,jh.o.sz.2⟩;have:=jh.o.sz.2;rcases List.mem_cons.1 hk with rfl|hk
    ·omega
    ·have:=(uS k hk).2;omega
   case stop=>exact λD c pre W _ _ hh _=>absurd hh ay
   case body=>
    rintro l pre x a' W hl hr ⟨ev,te,jh⟩ ⟨eb,⟨J2,rfl⟩,heb,hle⟩ pZ;have d2:=jh.o.sl.b1.c1;have l2:=jh.o.sl.b1.lt;obtain⟨e0,e1,e2,e3,e4⟩:=heb.c5;have Qq:∀k,k∈wA.heap.size::dM Qu->k<w6.heap.size/\k≠lb:=by
     intro k hk;rcases List.mem_cons.1 hk with rfl|hk
     ·exact⟨Qv,G⟩
     ·have:=uS k hk;exact⟨this.2,G⟩
    have m2:Vo W (I C.mb 2)=O (H ta p.aS.length tc):=by rw[<-HTV.o];exact(a0g.o.later jh.o.sl.rO).m.bg.cell 2
    have RG:=jh.o.region Up.o heb hle HT.o.t Qq m2 a0g.o.m.bg.lt;have EB:(pre.map (λy:Nat×eU=>tY p y.2)).length<L.length:=by rw[List.length_map];exact pZ
    have hnt:=HT.o.t;generalize Zs:pre.map (λy:Nat×eU=>tY p y.2)=lp at*;have HLP:=Z Zs;have Ko:=Z (show 0+p.aS.length<=maxLen/\(0+p.aS.length)*8<=140737488355328 by unfold maxLen;omega);have Xh:=Z (show lp.length+1<=maxLen/\(lp.length+1)*32<=140737488355328 by unfold maxLen;omega);clear Zs Qq m2 jh heb pZ
    gi_wp2_with fail
    clear d2 l2 e0 e1 e2 e3 e4;obtain⟨ru,c0,l0,QA,QB,jF⟩:=RG;unfold pK at QA QB jF;refine Mk.pA (S:=(λwx=>Vo wx (I eb 0)=O (.int .u64 x.2.key)/\Vo wx (I w.heap.size 0)=O (V5 C.mb)/\Vo wx (I C.mb 2)=O (H ta p.aS.length tc))) bh bh ru (λau=>?_);change wpAnyH _ _ _ _ _ _ _ _ (jR W x.2);replace au:=ru;unfold Kn at au;clear ru;generalize jR W x.2=V at*;generalize W.heap.size=tbx at*;generalize Um:x.2=xe at*;have HXE:=Z Um;clear Um;generalize afn:p.aS.length=nt at*;have Xf:=Z QA;have Xg:=Z QB;have HW1:=Z jF;clear QA QB jF;have xZ:=aed tbx nt hnt;refine Mk.tk 1 (v:=?_) rfl ?_ cY ?_;rotate_left
    ·exact zw
    refine Mk.pt ?_;refine Mk.tk 2 (v:=?_) rfl ?_ cY ?_;rotate_left
    ·exact zw
    refine Mk.pt ?_;refine Mk.tk 4 (v:=?_) rfl ?_ cY ?_;rotate_left
    ·exact zw
    refine Mk.pt ?_;refine Mk.tk 5 (v:=?_) rfl ?_ cY ?_;rotate_left
    ·exact zw
    refine Mk.pt ?_;refine Mk.tk 6 (v:=?_) rfl ?_ cY ?_;rotate_left
    ·exact zw
    refine Mk.pt ?_;refine Mk.tk 7 (v:=?_) rfl ?_ cY ?_;rotate_left
    ·exact zw
    refine Mk.pt ?_;refine Mk.tk 8 (v:=?_) rfl ?_ cY ?_;rotate_left
    ·exact zw
    refine Mk.pt ?_;refine Mk.tk 9 (v:=?_) rfl ?_ cY ?_;rotate_left
    ·exact zw
    refine Mk.pt ?_;refine Mk.tk 10 (v:=?_) rfl ?_ cY ?_;rotate_left
    ·exact zw
    refine Mk.pt ?_;refine dJ (rs:=[0,3]) bh ay ?_;refine bZ rfl (λK hK=>?_) (bZ rfl (λK hK=>?_) cK)
    ·refine fH ?_;go_simp;refine hK.out _ _ au (λau=>?_);clear hK K;refine Mk.pt ?_;refine dJ (rs:=[3]) bh ay ?_;refine bZ rfl (λK hK=>?_) cK;refine fH ?_;go_simp;refine hK.out _ _ (Kn.alloc au _) (λau=>?_);clear hK K;exact J9
    ·refine fH ?_;go_simp;refine hK.out _ _ (Kn.alloc au _) (λau=>?_);clear hK K;refine Mk.pt ?_;refine dJ (rs:=[0,11]) bh ay ?_;refine bZ rfl (λK hK=>?_) (bZ rfl (λK hK=>?_) cK)
     ·refine fH ?_;go_simp;refine hK.out _ _ au (λau=>?_);clear hK K;exact J9
     ·refine cJ rfl (.tmp 37) (.tmp 44) 24 rfl 3 underlying24 Vf.ck rfl bd (H (O (I V.heap.size 0)) 0 0) 0 (λ_=> Y 0) (by simp[Act.eval,Act.put]) Xf.o (I tbx 0) nt 4 (λj=> Y (xe.tg j)) (by simp[Act.eval,Act.put]) Xg.o (λj _=>rfl) Ko.o.1 Ko.o.2 ?_;intro v1 w1 r1 f1 b1;obtain⟨Z9,Z_,Vj,rfl⟩:=Row.mG r1;obtain⟨wY,c1,l1,sT⟩:=HW1.o _ w1 r1 f1 b1;have Nq:=Z sT;clear r1 f1 b1 sT;clear au;refine hK.out _ _ wY (λau=>?_);clear hK K;refine Mk.pt ?_;refine Mk.tk 12 (v:=?_) rfl ?_ cY ?_;rotate_left
      ·exact zw
      refine Mk.pt ?_;refine dJ (rs:=[0,13]) bh ay ?_;refine bZ rfl (λK hK=>?_) (bZ rfl (λK hK=>?_) cK)
      ·refine fH ?_;go_simp;refine hK.out _ _ au (λau=>?_);clear hK K;exact Mw
      ·refine fH ?_;go_simp;refine hK.out _ _ (Kn.alloc au _) (λau=>?_);clear hK K;refine Mk.pt ?_;refine dJ (rs:=[0]) bh ay ?_;refine bZ rfl (λK hK=>?_) cK;refine fH ?_;go_simp;refine hK.out _ _ au (λau=>?_);clear hK K;exact rI
   case done=>
    rintro D ys W hD rfl ⟨ev,te,jh⟩ Xb;rw[HQL.o]at jh;have r0:=jh.o.sl.b3.c1;have r1:=jh.o.bx.c1;have l3:=jh.o.sl.b3.lt;have l4:=jh.o.bx.lt;have lsl:sb≠lb:=G;have bB:Below W.heap.size W (W.alloc (CA #[ev] 60)):=(aY _ _).alloc (aL _) _;have bo:=jh.o.sl.st.qs.row.aG (aA.af (S:=[]) bB) ay;have uS:((List.range q).map (nz p s)).length=q:=by simp
    rw[uS]at bo;have pY:=Z bo;obtain⟨ea,en,ec,rfl⟩:=Row.mG jh.o.es.row;have Ro:=Z (show q+1<=maxLen/\(q+1)*24<=140737488355328 by unfold maxLen;omega);have DA:∀v' w3,Row w3 60 1 v' (q+1) (fY (q*1) lv λ_=> H ea en ec)->aA qv.ownBlock.toList (W.alloc (CA #[H ea en ec] 60)) w3->(v'.ownBlock=qv.ownBlock\/v'.ownBlock=O (W.alloc (CA #[H ea en ec] 60)).heap.size)->
     (∀o,w3.frozen? (I sb o)=false)/\Vo w3 (I sb 0)=O qv/\sb<w3.heap.size/\∃lv' RS,SL w (w3.setCell (I sb 0) v') sb w3.heap.size C.mb (H va vn vc) v' ⟨(List.range (q+1)).map (nz p s),(List.range p.vars.length).map s.vars⟩ (D::Ds) lv' RS:=by
     intro v' w3 r3 f3 i3;have r3':=r3;rw[<-uS]at r3;obtain⟨lv',RS,hn⟩:=SL.next jh.o Up.o bB f3 r3 i3 Xb hD;have nb:sb∉qv.ownBlock.toList:=λhc=>by obtain⟨cs,mB⟩:=jh.o.sl.st.qs.row.Tf (b:=sb) (by simpa using hc);exact aF.ne mB jh.o.sl.b3 bd rfl
     have b3:=(jh.o.sl.b3.aG (aA.af (S:=[]) bB) ay).aG f3 nb;refine⟨b3.frozen,b3.cell 0,b3.lt,lv',RS,?_⟩;rw[List.range_succ,List.map_append];exact hn
    have Dl:=Z DA;clear jh bo bB DA uS Xb Fw HQL;go_wp2_with (at_builtin;refine bX rfl _ _ 54 rfl 60 underlying54 aby rfl bd qv q lv rfl pY.o (I W.heap.size 0) 1 1 (λ_=> H ea en ec) rfl ?zZ ?E5 ?E6 ?Ii ?_)
    case zZ=>intro j hj;obtain rfl:j=0:=G;exact(aF.new W 60 #[H ea en ec]).cell 0
    case E5=>exact λj _=>rfl
    case E6=>exact Ro.o.1
    case Ii=>exact Ro.o.2
    intro v' w3 r3 f3 i3;obtain⟨va3,vn3,vc3,rfl⟩:=Row.mG r3;obtain⟨g1,g2,g3,lv',RS,g4⟩:=Dl.o _ w3 (by rw[Nat.mul_one];exact r3) f3 (by rw[aM];exact i3);have HG:=Z g4;clear r3 f3 i3 g4;go_wp2;exact⟨q+1,D::Ds,_,lv',RS,_,G,G,qi rfl,HG⟩
  ·obtain rfl:q=p.ax.length:=G;obtain⟨r0,r1⟩:=rF.o.b3.c2;obtain⟨s0,s1⟩:=rF.o.b2.c2;have abD:=rF.o.b2.frozen;have l2:=rF.o.b2.lt;have l3:=rF.o.b3.lt;have jo:=rF.o.lo;obtain⟨qa,qn,qc,rfl⟩:=Row.mG rF.o.st.qs.row;clear MW d2 m9;go_wp2_with fail;have F9:aA [w.heap.size+1] W ((W.setCell (I (w.heap.size+1) 0) (H qa qn qc)).setCell (I (w.heap.size+1) 1) (H va vn vc)):=((aA.refl [w.heap.size+1] W).setCell (p:=(I (w.heap.size+1) 0)) ay _).setCell (p:=(I (w.heap.size+1) 1)) ay _;have b9:aF ((W.setCell (I (w.heap.size+1) 0) (H qa qn qc)).setCell (I (w.heap.size+1) 1) (H va vn vc)) (w.heap.size+1) 56 #[H qa qn qc,H va vn vc]:=(rF.o.b2.set 0 _).set 1 _;have st9:=rF.o.st.off F9 (λb X=>by simp at X;subst X;exact .inr (.inl ⟨_,_,rF.o.b2,bd⟩));have aeH:Below w.heap.size w ((W.setCell (I (w.heap.size+1) 0) (H qa qn qc)).setCell (I (w.heap.size+1) 1) (H va vn vc)):=(rF.o.rO.setCell (by show w.heap.size<=w.heap.size+1;omega) _).setCell (by show w.heap.size<=w.heap.size+1;omega) _;have mk9:Mk.Marks ((W.setCell (I (w.heap.size+1) 0) (H qa qn qc)).setCell (I (w.heap.size+1) 1) (H va vn vc)) Ds:=rF.o.sV.keeps λk hk=>F9.block k (rF.o.sV.lt hk) (by simp;intro e;subst e;exact rF.o.sV.not rF.o.b2.AH hk);have hs9:=F9.size;generalize(W.setCell (I (w.heap.size+1) 0) (H qa qn qc)).setCell (I (w.heap.size+1) 1) (H va vn vc)=W9 at*;refine Mk.tC Ds _ mk9 λW' Ei=>?_;have b':aF W' (w.heap.size+1) 56 #[H qa qn qc,H va vn vc]:=b9.of (Ei.cells mk9 b9.AH);have st':=st9.off Ei.aG (λb X=> .inr (.inr ⟨_,mk9.at_ b X,rfl⟩));obtain⟨i0,i1⟩:=b'.c2;refine⟨.agg #[H qa qn qc,H va vn vc],by simp[results,results20,go_sem,i0,i1],?_⟩;exact⟨_,_,lv,tv,rfl,aeH.trans (Ei.below rF.o.ml),st'.mono (aL _) (by rw[Ei.size];omega)⟩
end
end Go.Ma
namespace Go.Ma
open Go.RowKit aj.Vm
open aj hiding aR an ak
def iW{w:ek}{e:TypeId}{size n:Nat}{v:to}{g:Nat->to}(h:Row w e size v n g):∃a c,v=H a n c/\n<=c/\c<=maxLen:=by
 rcases h.val with⟨e,rfl⟩|⟨_,_,e,h1,h2,-⟩
 ·exact⟨_,_,e,aL _,cM _⟩
 ·exact⟨_,_,e,h1,h2⟩
section
variable {w:ek}{a b:to}{l:List Int}
variable {lo h1 h2 hi tZ h1' h2' hi':Nat}{c d a' b' c' d':to}{L:PL}{lv lv':Nat->to}
def FX(J:Nat->to):Act:={tmps:=#[J 0,J 1,J 2,J 3,J 4,J 5,J 6,J 7,J 8,J 9,J 10,J 11,J 12,J 13,J 14,J 15,J 16,J 17,J 18,J 19,J 20,J 21,J 22,J 23,J 24,J 25,J 26,J 27,J 28,J 29,J 30,J 31,J 32,J 33,J 34,J 35,J 36,J 37,J 38,J 39,J 40,J 41,J 42,J 43,J 44,J 45,J 46,J 47,J 48,J 49,J 50,J 51,J 52,J 53,J 54,J 55,J 56,J 57,J 58,J 59,J 60,J 61,J 62,J 63,J 64,J 65,J 66,J 67,J 68,J 69,J 70,J 71,J 72,J 73,J 74,J 75,J 76,J 77,J 78,J 79,J 80,J 81,J 82,J 83,J 84,J 85,J 86,J 87,J 88,J 89,J 90,J 91,J 92,J 93,J 94,J 95,J 96,J 97,J 98,J 99,J 100,J 101,J 102,J 103,J 104,J 105,J 106,J 107,J 108,J 109,J 110,J 111,J 112,J 113,J 114,J 115,J 116,J 117,J 118,J 119,J 120,J 121,J 122],defers:=[]}
def FX.of(A:Array to)(h:A=(FX λk=>A.getD k undef).tmps):({tmps:=A,defers:=[]}:Act)=FX λk=>A.getD k undef:=by rw[h];rfl
def SS1(W0:ek)(x y n:Nat)(m:Nat)(a:Act)(W:ek):Prop:=∃(J:Nat->to) (i:Nat),a=FX J/\J 2=V5 x/\J 3=V5 y/\J 5=Y i/\i<=n/\m+i=n+1/\Hid (∃k,W=W0.drewN k)
def SS2(W0:ek)(x y n:Nat)(m:Nat)(a:Act)(W:ek):Prop:=∃(J:Nat->to) (i:Nat),a=FX J/\J 2=V5 x/\J 3=V5 y/\J 6=Y i/\i<=n/\m+i=n+1/\Hid (Below W0.heap.size W0 W)
def SS3(W0:ek)(x y q n:Nat)(m:Nat)(a:Act)(W:ek):Prop:=∃(J:Nat->to) (i:Nat),a=FX J/\J 2=V5 x/\J 3=V5 y/\J 6=Y q/\J 7=Y i/\i<=n/\m+i=n+1/\Hid (Below W0.heap.size W0 W)
def SS4(W0:ek)(x y q j xb yb n:Nat)(m:Nat)(a:Act)(W:ek):Prop:=∃(J:Nat->to) (i:Nat),a=FX J/\J 2=V5 x/\J 3=V5 y/\J 6=Y q/\J 7=Y j/\J 8=V5 xb/\J 9=V5 yb/\J 10=Y i/\i<=n/\m+i=n+1/\Hid (∃k,W=W0.drewN k)
def Kr{w:ek}{v:to}{l:List PE}{tv:Nat->to}(h:Row w 62 2 v l.length (RE l tv)){i:Nat}(hi':i<l.length):∃b cap,v=H (O (I b 0)) l.length cap/\b<w.heap.size/\Vo w (I b (i*2))=O (.int .u64 (l.getD i ⟨0,[]⟩).key)/\Vo w (I b (i*2+1))=O (tv i):=by obtain⟨b,cap,e,h1,h2,h3⟩:=h.some G;subst e;have c0:=h.cell (o:=i*2) G;have c1:=h.cell (o:=i*2+1) G;unfold RE at c0 c1;rw[aB G,show i*2 / 2=i by omega]at c0;rw[aw G,show(i*2+1) / 2=i by omega]at c1;exact⟨b,cap,rfl,h3,c0,c1⟩
variable {qv vv qv' vv':to}{S:PS}{tv RS:Nat->Nat->to}
def abw(hx:jM w lo hi qv vv S lv tv)(hy:jM w tZ hi' qv' vv' S lv' RS):Calls prog 23 #[.agg #[qv,vv],.agg #[qv',vv']] w (λe w'=>e=Vl (.bool true)/\Below w.heap.size w w'):=by
 obtain⟨qa,qc,rfl,q1,q2⟩:=iW hx.qs.row;obtain⟨ra,rc,rfl,r1,r2⟩:=iW hx.vs.row;obtain⟨qa',qc',rfl,-,-⟩:=iW hy.qs.row;obtain⟨ra',rc',rfl,-,-⟩:=iW hy.vs.row;have HX:=Z hx;have HY:=Z hy;obtain⟨W0,kX⟩:∃W0,W0=(w.alloc (CA #[H qa S.aK.length qc,H ra S.vars.length rc] 56)).alloc (CA #[H qa' S.aK.length qc',H ra' S.vars.length rc'] 56):=⟨_,rfl⟩;have uw:=Z (show aF W0 w.heap.size 56 #[H qa S.aK.length qc,H ra S.vars.length rc]by rw[kX];exact(aF.new _ _ _).alloc _);have nI:=Z (show aF W0 (w.heap.size+1) 56 #[H qa' S.aK.length qc',H ra' S.vars.length rc']by rw[kX];exact aF.bR ay);have eV:=Z (show Below w.heap.size w W0 by rw[kX];exact((aY _ _).alloc (aL _) _).alloc ay _);clear hx hy;go_enter func23,ntmps23;go_wp2_with fail;rw[<-kX];clear kX;refine Mk.aN (SS1 W0 w.heap.size (w.heap.size+1) S.vars.length) (S.vars.length+1) ⟨_,0,FX.of _ rfl,rfl,rfl,rfl,cM _,G,Z ⟨0,rfl⟩⟩ (λa W hh=>by obtain⟨J,i,-,-,-,-,h1,h2,-⟩:=hh;omega) ?_;rintro m a W ⟨J,i,rfl,j2,j3,j5,hi,hm,HW⟩;obtain⟨k,rfl⟩:=HW.o;unfold FX;rw[j2,j3,j5];clear j2 j3 j5;have k1:Vo W0 (I w.heap.size 1)=O (H ra S.vars.length rc):=uw.o.cell 1;have l1:=uw.o.lt;by_cases be:i<S.vars.length
 ·have w2:IntKind.i64.wrap ((i:Int)+1)=((i+1:Nat):Int):=by unfold maxLen at r2;rw[bJ _ lI];omega
  have n1:Vo W0 (I (w.heap.size+1) 1)=O (H ra' S.vars.length rc'):=nI.o.cell 1;have l2:=nI.o.lt;have ha:=HX.o.vs.row.aG (aA.af (S:=[]) eV.o) ay;have X:=HY.o.vs.row.aG (aA.af (S:=[]) eV.o) ay;obtain⟨xa,xc,ea,-,-,la⟩:=ha.some G;obtain⟨ya,yc,eb,-,-,lb⟩:=X.some G;simp only[cz]at ea eb;obtain⟨rfl,-,rfl⟩:=ea;obtain⟨rfl,-,rfl⟩:=eb;have c0:Vo W0 (I xa i)=O (Y (S.vars.getD i 0)):=ha.cell (o:=i) G;have c1:Vo W0 (I ya i)=O (Y (S.vars.getD i 0)):=X.cell (o:=i) G;have dE:=Z be;generalize S.vars.getD i 0=z at*;clear ha X;go_wp2;go_quiet (fail);go_wp2;refine⟨_,i+1,FX.of _ rfl,rfl,rfl,?_,dE.o,G,Z ⟨_,by first|rfl|rw[xx]⟩⟩
  first|rfl|exact bu (Value.int .i64) (show(i:Int)+1=((i+1:Nat):Int)by omega)
 ·obtain rfl:i=S.vars.length:=G;clear be hi hm HW;have PT:=Z (uw.o.drewN k);have Uq:=Z (nI.o.drewN k);have eF:=Z (eV.o.trans (az _ W0 k));go_wp2_with fail;clear k1 l1 uw nI eV;generalize W0.drewN k=W2 at*;refine Mk.aN (SS2 W2 w.heap.size (w.heap.size+1) S.aK.length) (S.aK.length+1) ⟨_,0,FX.of _ rfl,rfl,rfl,rfl,cM _,G,Z (aY _ _)⟩ (λa W hh=>by obtain⟨J,i,-,-,-,-,h1,h2,-⟩:=hh;omega) ?_;rintro m a W ⟨J,q,rfl,j2,j3,j6,hi,hm,HW⟩;unfold FX;rw[j2,j3,j6];clear j2 j3 j6;have Ur:=PT.o.of (HW.o.block _ PT.o.lt);have k0:=Ur.c1;have l1:=Ur.lt;by_cases be:q<S.aK.length
  ·have w2:IntKind.i64.wrap ((q:Int)+1)=((q+1:Nat):Int):=by unfold maxLen at q2;rw[bJ _ lI];omega
   have Gq:=Uq.o.of (HW.o.block _ Uq.o.lt);have n0:=Gq.c1;have l2:=Gq.lt;have hbW:=eF.o.trans (HW.o.mono eF.o.size);have ha:=HX.o.qs.row.aG (aA.af (S:=[]) hbW) ay;have X:=HY.o.qs.row.aG (aA.af (S:=[]) hbW) ay;obtain⟨xa,xc,ea,-,-,la⟩:=ha.some G;obtain⟨ya,yc,eb,-,-,lb⟩:=X.some G;simp only[cz]at ea eb;obtain⟨rfl,-,rfl⟩:=ea;obtain⟨rfl,-,rfl⟩:=eb;have c0:Vo W (I xa q)=O (lv q):=ha.cell (o:=q) G;have c1:Vo W (I ya q)=O (lv' q):=X.cell (o:=q) G;have hE:=HX.o.qs.q q be;have hE':=HY.o.qs.q q be;obtain⟨ea,ec,ev,e1,e2⟩:=iW hE.row;obtain⟨fa,fc,fv,f1,f2⟩:=iW hE'.row;rw[ev]at c0 hE;rw[fv]at c1 hE';have HE:=Z hE;have HE':=Z hE';have HC0:=Z c0;have Xi:=Z c1;have dE:=Z be;generalize S.aK.getD q []=L at*;generalize tv q=tq at*;generalize RS q=tq' at*;have KK1:=Z Ur;have KK2:=Z Gq;have CP:=Z hbW;clear ha X Ur Gq hE hE' ev fv hbW;go_wp2;go_quiet (fail);go_wp2_with fail;generalize hWd:W.drewN _=W3 at*;have pz:Below W.heap.size W W3:=by rw[<-hWd];exact az _ _ _
   have iy:=Z (CP.o.trans (pz.mono CP.o.size));have HW3:=Z (HW.o.trans (pz.mono HW.o.size));have xI:=Z (KK1.o.of (pz.block _ KK1.o.lt));have lF:=Z (KK2.o.of (pz.block _ KK2.o.lt));have HD0:=Z ((bk (pz.block _ la)).trans HC0.o);have Nq:=Z ((bk (pz.block _ lb)).trans Xi.o);have Nr:=Z (And.intro (dz la pz.size) (dz lb pz.size));clear hWd pz k0 l1 l2 n0 c0 c1 la lb KK1 KK2 CP HC0 Xi;refine Mk.aN (SS3 W3 w.heap.size (w.heap.size+1) q L.length) (L.length+1) ⟨_,0,FX.of _ rfl,rfl,rfl,rfl,rfl,cM _,G,Z (aY _ _)⟩ (λa W hh=>by obtain⟨J,i,-,-,-,-,-,h1,h2,-⟩:=hh;omega) ?_;rintro m a W4 ⟨J,i,rfl,j2,j3,j6,j7,hi,hm,HV⟩;unfold FX;rw[j2,j3,j6,j7];clear j2 j3 j6 j7;have Ur:=xI.o.of (HV.o.block _ xI.o.lt);have k0:=Ur.c1;have l1:=Ur.lt;have be:=dE.o;have d0:Vo W4 (I xa q)=O (H ea L.length ec):=(bk (HV.o.block _ Nr.o.1)).trans HD0.o;have la:xa<W4.heap.size:=aH d0;by_cases vG:i<L.length
   ·have w3:IntKind.i64.wrap ((i:Int)+1)=((i+1:Nat):Int):=by unfold maxLen at e2;rw[bJ _ lI];omega
    have Gq:=lF.o.of (HV.o.block _ lF.o.lt);have n0:=Gq.c1;have l2:=Gq.lt;have d1:Vo W4 (I ya q)=O (H fa L.length fc):=(bk (HV.o.block _ Nr.o.2)).trans Nq.o;have lb:ya<W4.heap.size:=aH d1;have wM:=iy.o.trans (HV.o.mono iy.o.size);obtain⟨xe,xec,ee,le,x0,x1⟩:=Kr (HE.o.row.aG (aA.af (S:=[]) wM) ay) vG;obtain⟨ye,yec,ef,lf,y0,y1⟩:=Kr (HE'.o.row.aG (aA.af (S:=[]) wM) ay) vG;simp only[cz]at ee ef;obtain⟨rfl,-,rfl⟩:=ee;obtain⟨rfl,-,rfl⟩:=ef;have hT:=HE.o.aS i vG;have hT':=HE'.o.aS i vG;obtain⟨ta,tc,et,t1,t2⟩:=iW hT.row;obtain⟨ua,uc,eu,u1,u2⟩:=iW hT'.row;rw[et]at x1 hT;rw[eu]at y1 hT';have HT:=Z hT.row;have HT':=Z hT'.row;have YY:=Z vG;have jK:=Z wM;have KK1:=Z Ur;have KK2:=Z Gq;generalize L.getD i ⟨0,[]⟩=E at*;clear hT hT' et eu wM Ur Gq;go_wp2_with fail;have KB1:=Z (show aF ((W4.alloc (CA #[.int .u64 E.key,H ta E.aS.length tc] 62)).alloc (CA #[.int .u64 E.key,H ua E.aS.length uc] 62)) W4.heap.size 62 #[.int .u64 E.key,H ta E.aS.length tc]from(aF.new _ _ _).alloc _);have KB2:=Z (show aF ((W4.alloc (CA #[.int .u64 E.key,H ta E.aS.length tc] 62)).alloc (CA #[.int .u64 E.key,H ua E.aS.length uc] 62)) (W4.heap.size+1) 62 #[.int .u64 E.key,H ua E.aS.length uc]from aF.bR ay);have DB:=Z (show Below W4.heap.size W4 ((W4.alloc (CA #[.int .u64 E.key,H ta E.aS.length tc] 62)).alloc (CA #[.int .u64 E.key,H ua E.aS.length uc] 62))from((aY _ _).alloc (aL _) _).alloc ay _);generalize(W4.alloc (CA #[.int .u64 E.key,H ta E.aS.length tc] 62)).alloc (CA #[.int .u64 E.key,H ua E.aS.length uc] 62)=V0 at*;clear k0 l1 d0 d1 n0 l2 la lb le lf x0 x1 y0 y1;refine Mk.aN (SS4 V0 w.heap.size (w.heap.size+1) q i W4.heap.size (W4.heap.size+1) E.aS.length) (E.aS.length+1) ⟨_,0,FX.of _ rfl,rfl,rfl,rfl,rfl,rfl,rfl,rfl,cM _,G,Z ⟨0,rfl⟩⟩ (λa W hh=>by obtain⟨J,i,-,-,-,-,-,-,-,-,h1,h2,-⟩:=hh;omega) ?_;rintro m' a V ⟨J,k,rfl,j2,j3,j6,j7,j8,j9,nM,hk,iY,HN⟩;obtain⟨abv,rfl⟩:=HN.o;unfold FX;rw[j2,j3,j6,j7,j8,j9,nM];clear j2 j3 j6 j7 j8 j9 nM;have z1:Vo V0 (I W4.heap.size 1)=O (H ta E.aS.length tc):=KB1.o.cell 1;have a1k:=KB1.o.lt;by_cases jZ:k<E.aS.length
    ·have w4:IntKind.i64.wrap ((k:Int)+1)=((k+1:Nat):Int):=by unfold maxLen at t2;rw[bJ _ lI];omega
     have z2:Vo V0 (I (W4.heap.size+1) 1)=O (H ua E.aS.length uc):=KB2.o.cell 1;have zl2:=KB2.o.lt;have uM:=jK.o.trans (DB.o.mono jK.o.size);have ha:=HT.o.aG (aA.af (S:=[]) uM) ay;have X:=HT'.o.aG (aA.af (S:=[]) uM) ay;obtain⟨abu,xtc,e8,-,-,la⟩:=ha.some G;obtain⟨abt,ytc,e9,-,-,lb⟩:=X.some G;simp only[cz]at e8 e9;obtain⟨rfl,-,rfl⟩:=e8;obtain⟨rfl,-,rfl⟩:=e9;have c0:Vo V0 (I abu k)=O (Y (E.aS.getD k 0)):=ha.cell (o:=k) G;have c1:Vo V0 (I abt k)=O (Y (E.aS.getD k 0)):=X.cell (o:=k) G;have Uq:=Z jZ;generalize E.aS.getD k 0=z at*;clear ha X uM;go_wp2;go_quiet (fail);go_wp2;refine⟨_,k+1,FX.of _ rfl,rfl,rfl,rfl,rfl,rfl,rfl,?_,Uq.o,G,Z ⟨_,by first|rfl|rw[xx]⟩⟩
     first|rfl|exact bu (Value.int .i64) (show(k:Int)+1=((k+1:Nat):Int)by omega)
    ·obtain rfl:k=E.aS.length:=G;clear jZ hk iY;go_wp2;refine⟨_,i+1,FX.of _ rfl,rfl,rfl,rfl,?_,YY.o,G,Z (HV.o.trans (((DB.o).trans (az _ _ _)).mono HV.o.size))⟩
     first|rfl|exact bu (Value.int .i64) (show(i:Int)+1=((i+1:Nat):Int)by omega)
   ·obtain rfl:i=L.length:=G;clear vG hm hi;go_wp2;refine⟨_,q+1,FX.of _ rfl,rfl,rfl,?_,dE.o,G,Z (HW3.o.trans (HV.o.mono HW3.o.size))⟩
    first|rfl|exact bu (Value.int .i64) (show(q:Int)+1=((q+1:Nat):Int)by omega)
  ·obtain rfl:q=S.aK.length:=G;clear be;go_wp2
   first|refine Vf.fy (P:=prog) (fn:=Proofs.Tryz.f23) rfl ?_|(rw[Exit.noGoto_ret];refine Vf.fy (P:=prog) (fn:=Proofs.Tryz.f23) rfl ?_)
   exact⟨rfl,eF.o.trans (HW.o.mono eF.o.size)⟩
structure MR where
 C:Co
 R:List Nat
 s:St
 t:dZ
 u:Int
def MR.at_(x:MR)(w:ek)(p:aQ)(c:Cp):Prop:=∃K T,Mx w x.C x.R K p c x.s x.t x.u (.pointer MT)/\Gi K x.C.mb p c/\Env p c T/\nw p/\Inv (aC p c) x.s
structure IQ(w:ek)(lo:Nat)(p:aQ)(c:Cp)(n:Nat)(F:Nat->MR):Prop where
 m:∀i,i<n->(F i).at_ w p c
 ap:∀i j,i<n->j<n->i≠j->∀b,b∈(F i).C.l->b∉(F j).C.l++(F j).R
 low:∀i,i<n->∀b,b∈(F i).C.l++(F i).R->lo<=b
 sz:lo<=w.heap.size
def DF(p:aQ)(c:Cp)(kind:Int)(key:Nat)(z:St×dZ×Int):St×dZ×Int:=
 if kind=1 then(jJ p c z.1 key,(if jd p c z.1 key=0 then z.2.1 else{z.2.1 with qG:=wrap64 (z.2.1.qG+1)}),z.2.2)
 else if kind=0 then(nr p c z.1 key,(if jc p c z.1 key=0 then tX z.2.1 (rG p c z.1 key) (rR p c z.1 key)else z.2.1),((uz p c z.1 key).1:Nat))
 else z
def MR.z(x:MR):St×dZ×Int:=(x.s,x.t,x.u)
def vq(F:Nat->MR)(i:Nat)(x:MR):Nat->MR:=λj=>if j=i then x else F j
end
section
variable {w w':ek}{lo n i:Nat}{p:aQ}{c:Cp}{F:Nat->MR}{C':Co}
def MR.at_.later{x:MR}(h:x.at_ w p c)(b:Below w.heap.size w w'):x.at_ w' p c:=by obtain⟨K,T,h1,h2⟩:=h;exact⟨K,T,h1.later b,h2⟩
def MR.at_.lt{x:MR}(h:x.at_ w p c){b:Nat}(X:b∈x.C.l++x.R):b<w.heap.size:=by
 obtain⟨K,T,h1,-⟩:=h;rcases List.mem_append.1 X with X|X
 ·exact h1.sep.lt b X
 ·exact h1.sep.dO b X
def IQ.later(h:IQ w lo p c n F)(b:Below w.heap.size w w'):IQ w' lo p c n F:=⟨λi hi=>(h.m i hi).later b,h.ap,h.low,cU h.sz b.size⟩
def IQ.ou(h:IQ w lo p c n F)(hi:i<n){s':St}{t':dZ}{u':Int}(k:bT w w' (F i).C C')(m:(MR.mk C' (F i).R s' t' u').at_ w' p c):IQ w' lo p c n (vq F i ⟨C',(F i).R,s',t',u'⟩)/\Below lo w w':=by
 have X:Below lo w w':=k.low (λb X=>h.low i hi b (by simp[X])) h.sz;have kw:w.heap.size<=w'.heap.size:=k.f.size;refine⟨⟨λj hj=>?_,λa b ha jV bm x hx=>?_,λj hj x hx=>?_,cU h.sz X.size⟩,X⟩
 ·unfold vq;split
  ·exact m
  ·next bm=>obtain⟨K,T,h1,h2⟩:=h.m j hj;exact⟨K,T,h1.aG k.f (λb X hc=>h.ap i j hi hj (λe=>bm e.symm) b hc (by simp[X])) (λb X hc=>h.ap i j hi hj (λe=>bm e.symm) b hc (by simp[X])),h2⟩
 ·unfold vq at hx ⊢;by_cases ea:a=i
  ·rw[aB ea]at hx;rw[aw (λe=>bm (ea.trans e.symm))];intro hc;rcases k.c x hx with h1|h1
   ·exact h.ap i b hi jV (λe=>bm (ea.trans e)) x h1 hc
   ·have:=(h.m b jV).lt hc;omega
  ·rw[aw ea]at hx;by_cases eb:b=i
   ·rw[aB eb];intro hc;rcases List.mem_append.1 hc with hc|hc
    ·rcases k.c x hc with h1|h1
     ·exact h.ap i a hi ha (λe=>ea e.symm) x h1 (by simp[hx])
     ·have:=(h.m a ha).lt (b:=x) (by simp[hx]);omega
    ·exact h.ap a i ha hi ea x hx (by simp[hc])
   ·rw[aw eb];exact h.ap a b ha jV bm x hx
 ·unfold vq at hx;split at hx
  ·rcases List.mem_append.1 hx with hx|hx
   ·rcases k.c x hx with h1|h1
    ·exact h.low i hi x (by simp[h1])
    ·have:=h.sz;omega
   ·exact h.low i hi x (by simp[hx])
  ·exact h.low j hj x hx
def IQ.add(h:IQ w lo p c n F)(hi:i<n)(b:Below w.heap.size w w')(m:(MR.mk C' (F i).R (F i).s (F i).t (F i).u).at_ w' p c)(hn:∀b,b∈C'.l->w.heap.size<=b):IQ w' lo p c (n+1) (vq F n ⟨C',(F i).R,(F i).s,(F i).t,(F i).u⟩):=by
 have h':=h.later b;refine⟨λj hj=>?_,λa d ha hd bm x hx=>?_,λj hj x hx=>?_,h'.sz⟩
 ·unfold vq;split
  ·exact m
  ·exact h'.m j G
 ·unfold vq at hx ⊢;by_cases ea:a=n
  ·rw[aB ea]at hx;rw[aw (λe=>bm (ea.trans e.symm))];intro hc;have:=hn x hx;have:=(h.m d G).lt hc;omega
  ·rw[aw ea]at hx;have hl:=(h.m a G).lt (b:=x) (by simp[hx]);by_cases ed:d=n
   ·rw[aB ed];intro hc;rcases List.mem_append.1 hc with hc|hc
    ·have:=hn x hc;omega
    ·by_cases e:a=i
     ·subst e;obtain⟨K,T,h1,-⟩:=h.m a G;exact h1.sep.ro x hx hc
     ·exact h.ap a i G hi e x hx (by simp[hc])
   ·rw[aw ed];exact h.ap a d G G bm x hx
 ·unfold vq at hx;split at hx
  ·rcases List.mem_append.1 hx with hx|hx
   ·have:=hn x hx;have:=h.sz;omega
   ·exact h.low i hi x (by simp[hx])
  ·exact h.low j G x hx
variable {j mb mb2:Nat}{x:MR}
def MR.at_.acc(h:x.at_ w p c){key:Nat}(hk:key<18446744073709551616):Calls prog 17 #[V5 x.C.mb,.int .u64 key] w (λe w'=>∃v C',e=Vl v/\bT w w' x.C C'/\
 (MR.mk C' x.R (nr p c x.s key) (if jc p c x.s key=0 then tX x.t (rG p c x.s key) (rR p c x.s key)else x.t) ((uz p c x.s key).1:Nat)).at_ w' p c):=by
 obtain⟨K,T,h1,M,V,hS,hI⟩:=h;have U_:Calls prog 17 #[V5 x.C.mb,.int .u64 key] w (je w x.C x.R K p c x.t x.s key):=by
  cases hf:x.s.f key with
  |none=>exact wm M V hS h1 hI hk hf
  |some n=>obtain⟨q,hq,hn,-⟩:=(hI.idx key n).1 hf;exact Bn M V hS h1 hI hk hf hq hn rfl
 refine U_.mono ?_;rintro e w' ⟨tv,C',rfl,k,m,-,-⟩;exact⟨_,C',rfl,k,K,T,m,by rw[k.mb];exact M,V,hS,oW V hS hI hk⟩
def MR.at_.rem(h:x.at_ w p c)(key:Nat):Calls prog 26 #[V5 x.C.mb,.int .u64 key] w (λe w'=>∃v C',e=Vl (Y v)/\bT w w' x.C C'/\
 (MR.mk C' x.R (jJ p c x.s key) (if jd p c x.s key=0 then x.t else{x.t with qG:=wrap64 (x.t.qG+1)}) x.u).at_ w' p c):=by
 obtain⟨K,T,h1,M,V,hS,hI⟩:=h;have tb:=(cE M.check).1;refine(abX h1 hI M.AY (by have:=tb.g;omega) key (M.ev hI).total).mono ?_;rintro e w' ⟨rfl,C',k,m⟩;exact⟨_,C',rfl,k,K,T,m,by rw[k.mb];exact M,V,hS,Hl hI key⟩
def MR.at_.state(h:x.at_ w p c)(hm:x.C.mb=mb):Calls prog 20 #[V5 mb] w (ph w (nA p x.s)):=by subst hm;obtain⟨K,T,h1,M,-⟩:=h;exact Kq h1 (cE M.check).1 M.AY
def MR.at_.tX(h:x.at_ w p c)(hm:x.C.mb=mb):Calls prog 29 #[V5 mb] w (λe w'=>e=Vl (Uk x.t)/\Below w.heap.size w w'):=by subst hm;obtain⟨K,T,h1,M,-⟩:=h;exact abW h1
def MR.at_.used(h:x.at_ w p c)(hm:x.C.mb=mb):Calls prog 28 #[V5 mb] w (λe w'=>e=Vl (Y x.u)/\w=w'):=by subst hm;obtain⟨K,T,h1,M,-⟩:=h;exact Qj h1
def DoT(w:ek)(lo n i mb:Nat)(p:aQ)(c:Cp)(F:Nat->MR)(kind:Int)(key:Nat)(e:Ending)(w':ek):Prop:=e=Vl (.tuple #[])/\Below lo w w'/\∃x,x.C.mb=mb/\x.z=DF p c kind key (F i).z/\IQ w' lo p c n (vq F i x)
def I4{p:Prop}(h:p:=by
 exact bK (dV rfl _ _ _) rfl oY.o):p:=h
def IR(h:IQ w lo p c n F)(hi:i<n){kind:Int}{key:Nat}(hk:key<18446744073709551616)(hm:(F i).C.mb=mb):Calls prog 42 #[V5 mb,.agg #[Y kind,.int .u64 key]] w (DoT w lo n i mb p c F kind key):=by
 subst hm;have b1:Below w.heap.size w (w.alloc (CA #[Y kind,.int .u64 key] 48)):=(aY _ _).alloc (aL _) _;have HF:=Z (h.later b1);have HB:=Z (b1.mono h.sz);have HI:=Z hi;clear b1 h;go_enter func42,ntmps42;by_cases k1:kind=1
 ·subst k1;go_wp2_with fail;refine((HF.o.m i HI.o).rem key).mono ?_;rintro e w2 ⟨v,C',rfl,k,m⟩;obtain⟨h2,b2⟩:=HF.o.ou HI.o k m;have oY:=Z (show DoT w lo n i (F i).C.mb p c F 1 key (Vl (.tuple #[])) w2 from⟨rfl,HB.o.trans b2,_,k.mb,rfl,h2⟩);clear k m h2 b2;go_wp2;exact I4
 ·have e1:(kind==1)=false:=by simpa using k1
  by_cases k0:kind=0
  ·subst k0;go_wp2_with fail;refine((HF.o.m i HI.o).acc hk).mono ?_;rintro e w2 ⟨v,C',rfl,k,m⟩;obtain⟨h2,b2⟩:=HF.o.ou HI.o k m;have oY:=Z (show DoT w lo n i (F i).C.mb p c F 0 key (Vl (.tuple #[])) w2 from⟨rfl,HB.o.trans b2,_,k.mb,rfl,h2⟩);clear k m h2 b2;go_wp2;exact I4
  ·have e0:(kind==0)=false:=by simpa using k0
   have oY:=Z (show DoT w lo n i (F i).C.mb p c F kind key (Vl (.tuple #[])) (w.alloc (CA #[Y kind,.int .u64 key] 48))from⟨rfl,HB.o,F i,rfl,by unfold DF;rw[aw k1,aw k0],by
    have e:vq F i (F i)=F:=by
     funext j;unfold vq;split
     ·next e=>rw[e]
     ·rfl
    rw[e];exact HF.o⟩)
   go_wp2;exact I4
def zx(h:IQ w lo p c n F)(hi:i<n)(hj:j<n)(hz:(F i).z=(F j).z)(hm:(F i).C.mb=mb)(rD:(F j).C.mb=mb2):Calls prog 24 #[V5 mb,V5 mb2] w (λe w'=>e=Vl (.bool true)/\Below w.heap.size w w'):=by have nQ:(F i).s=(F j).s:=bu (·.1) hz;have qm:(F i).t=(F j).t:=bu (·.2.1) hz;have ZK:(F i).u=(F j).u:=bu (·.2.2) hz;have HA:=Z (show(F i).at_ w p c/\(F i).C.mb=mb from⟨h.m i hi,hm⟩);have HB:=Z (show(F j).at_ w p c/\(F j).C.mb=mb2 from⟨h.m j hj,rD⟩);have HZ:=Z (show _/\_/\_ from⟨nQ,qm,ZK⟩);clear h hi hj hz hm rD nQ qm ZK;go_enter func24,ntmps24;go_wp2_with fail;refine(HA.o.1.state HA.o.2).mono ?_;rintro e w1 ⟨q1,v1,l1,t1,rfl,b1,s1⟩;have cR:=Z b1;have tu:=Z s1;clear b1 s1;go_wp2_with fail;refine((HB.o.1.later cR.o).state HB.o.2).mono ?_;rintro e w2 ⟨q2,v2,l2,t2,rfl,b2,s2⟩;rw[<-HZ.o.1]at s2;have wL:=Z (show _/\_ from⟨tu.o.off (aA.af (S:=[]) b2) (oF.nil _ _ _ _),s2⟩);have eF:=Z (cR.o.trans (b2.mono cR.o.size));clear b2 s2 tu;go_wp2_with fail;refine(abw wL.o.1 wL.o.2).mono ?_;rintro e w3 ⟨rfl,b3⟩;have iy:=Z (eF.o.trans (b3.mono eF.o.size));clear b3;go_wp2_with fail;refine((HA.o.1.later iy.o).tX HA.o.2).mono ?_;rintro e w4 ⟨rfl,b4⟩;have jK:=Z (iy.o.trans (b4.mono iy.o.size));clear b4;go_wp2_with fail;refine((HB.o.1.later jK.o).tX HB.o.2).mono ?_;rintro e w5 ⟨rfl,b5⟩;have nU:=Z (jK.o.trans (b5.mono jK.o.size));clear b5;rw[<-HZ.o.2.1];unfold Uk;go_wp2_with fail;refine((HA.o.1.later nU.o).used HA.o.2).mono ?_;rintro e w6 ⟨rfl,rfl⟩;go_wp2_with fail;refine((HB.o.1.later nU.o).used HB.o.2).mono ?_;rintro e w7 ⟨rfl,rfl⟩;rw[<-HZ.o.2.2];go_wp2;go_ret;exact⟨rfl,nU.o⟩
end
open Vf (Kp fW pV aZ cV)
def qZ{w:ek}{b n size:Nat}{E:TypeId}{cs:Array to}{g:Nat->to}(h:aF w b E cs)(hc:cs=((List.range (n*size)).map g).toArray)(hm:n<=maxLen):aZ w size (H (O (I b 0)) n n) n g:=by refine .inr ⟨_,_,rfl,aL _,hm,λo ho=>⟨rfl,?_⟩⟩;rw[h.cell,hc,Nat.zero_add];simp[ho]
def abr(w:ek)(e:Ending)(w':ek):Prop:=∃xg xo xc,e=Vl (pV ⟨H xg 1 1,Vn,Vn,H xo 1 1,H xc 9 9⟩ gX)/\fW w' ⟨H xg 1 1,Vn,Vn,H xo 1 1,H xc 9 9⟩ gX/\Below w.heap.size w w'
def ac0(w:ek):Calls prog 51 #[] w (abr w):=by
 obtain⟨Wf,Vi⟩:∃Wf,Wf=(((w.alloc (CA #[H (O (I (w.heap.size+1) 0)) 1 1,Vn,Vn,H (O (I (w.heap.size+1+1) 0)) 1 1,Y 2,H (O (I (w.heap.size+1+1+1) 0)) 9 9] 27)).alloc (CA #[.bool false] 4)).alloc (CA #[Y 0] 3)).alloc (CA #[Y 32,Y 0,Y 0,Y 0,Y 0,Y 0,Y 0,Y 0,Y 0,Y 0,Y 4,Y 0,Y 0,Y 0,Y 0,Y 5,Y 0,Y 0,Y 0,Y 0,Y 19,Y 0,Y 0,Y 0,Y 0,Y 23,Y 7,Y 0,Y 0,Y 0,Y 40,Y 0,Y 1,Y 0,Y 0,Y 31,Y 0,Y 0,Y 0,Y 0,Y 0,Y 0,Y 0,Y 0,Y 0] 40):=⟨_,rfl⟩;have k0:aF Wf w.heap.size 27 #[H (O (I (w.heap.size+1) 0)) 1 1,Vn,Vn,H (O (I (w.heap.size+1+1) 0)) 1 1,Y 2,H (O (I (w.heap.size+1+1+1) 0)) 9 9]:=by rw[Vi];exact(((aF.new _ _ _).alloc _).alloc _).alloc _
 have k1:aF Wf (w.heap.size+1) 4 #[.bool false]:=by rw[Vi];exact((aF.bR ay).alloc _).alloc _
 have k2:aF Wf (w.heap.size+1+1) 3 #[Y 0]:=by rw[Vi];exact(aF.bR ay).alloc _
 have k3:aF Wf (w.heap.size+1+1+1) 40 #[Y 32,Y 0,Y 0,Y 0,Y 0,Y 0,Y 0,Y 0,Y 0,Y 0,Y 4,Y 0,Y 0,Y 0,Y 0,Y 5,Y 0,Y 0,Y 0,Y 0,Y 19,Y 0,Y 0,Y 0,Y 0,Y 23,Y 7,Y 0,Y 0,Y 0,Y 40,Y 0,Y 1,Y 0,Y 0,Y 31,Y 0,Y 0,Y 0,Y 0,Y 0,Y 0,Y 0,Y 0,Y 0]:=by rw[Vi];exact aF.bR ay
 have X:Below w.heap.size w Wf:=by rw[Vi];exact((((aY _ _).alloc (aL _) _).alloc ay _).alloc jz _).alloc jz _
 obtain⟨c0,c1,c2,c3,c4,c5⟩:=k0.c6;go_enter func51,ntmps51;go_wp2_with fail;rw[<-Vi];clear Vi;refine bK (v:= .agg #[H (O (I (w.heap.size+1) 0)) 1 1,Vn,Vn,H (O (I (w.heap.size+1+1) 0)) 1 1,Y 2,H (O (I (w.heap.size+1+1+1) 0)) 9 9]) ?_ rfl ⟨_,_,_,rfl,⟨qZ k1 rfl bd,.inl ⟨rfl,rfl⟩,.inl ⟨rfl,rfl⟩,qZ k2 rfl bd,qZ k3 bh bd⟩,X⟩;simp[results,results51,go_sem,c0,c1,c2,c3,c4,c5]
def ac1:(aW gX).1=0:=by rw[Bm]
def aec:mi gX jP=true:=by decide
def ac2:dw (aC gX jP)=2:=by decide
def PP:(aW noP).1≠0:=by rw[ach];decide
def aeb:C_ gX k4 2 [(7,0),(9,1)]=⟨[[1,0]],[],[7,9],[0,1]⟩:=by decide
def abq{L:List (Nat×Nat)}(h:Ix.jQ k4.f L):L=[(7,0),(9,1)]:=h.rX ⟨ay,λk v=>by
 rw[aci];simp⟩
def aea{w:ek}{v:to}{l:List Nat}(h:yP w v l):∃x n c,v=H x n c:=by rcases h with⟨h,-⟩|⟨b,cs,h,-⟩<;>exact⟨_,_,_,h⟩
def abp{w:ek}{v:to}{x:Nat}(h:yP w v [x]):∃b cs,v=H (O (I b 0)) 1 1/\aF w b 46 cs/\cs[0]? =O (.int .u64 x):=by
 rcases h with⟨-,h⟩|⟨b,cs,h,hk,hc⟩
 ·cases h
 ·exact⟨b,cs,h,hk,hc 0 ay⟩
def xp{w:ek}{C:Co}{lo:Nat}{p:aQ}{c:Cp}{s:St}(h:∃t u,iI w C lo p c s t u)(hl:lo<=w.heap.size){key:Nat}(hk:key<18446744073709551616){mb:Nat}(hm:C.mb=mb):
 Calls prog 17 #[V5 mb,.int .u64 key] w (λe w'=>∃(hit:Bool) (tv:to) (bY used:Int) (C':Co),e=Vl (.agg #[.bool hit,tv,Y bY])/\C'.mb=mb/\Below lo w w'/\(∃x n c,tv=H x n c)/\(∃t,iI w' C' lo p c (nr p c s key) t used)/\
  Hid (hit=(if jc p c s key=0 then rG p c s key else false)/\bY=jc p c s key/\used=(uz p c s key).1/\yP w' tv (if jc p c s key=0 then rR p c s key else[])/\bT w w' C C')):=by
 obtain⟨t,u,h⟩:=h;subst hm;refine(abz h hl hk).mono ?_;rintro e w' ⟨tv,C',rfl,k,v,ht,-⟩;exact⟨_,tv,_,_,C',rfl,k.mb,k.low (λb X=>(h.lt X).1) hl,aea ht,⟨_,v⟩,Z ⟨rfl,rfl,rfl,ht,k⟩⟩
def abo(w:ek):Calls prog 11 #[] w (λe w'=>e=Vl (.bool true)/\Below w.heap.size w w'):=by
 go_enter func11,ntmps11;go_wp2_with fail;refine(ac0 w).mono ?_;rintro e W1 ⟨xg,xo,xc,rfl,hp,fI⟩;have hq:aZ (W1.alloc (CA #[Y 2] 3)) 1 (H (O (I W1.heap.size 0)) 1 1) jP.aK.length (aX jP.aK):=qZ (n:=1) (aF.new _ _ _) rfl bd;have HN:=IM (w:=W1.alloc (CA #[Y 2] 3)) (c:=jP) (hp.aG ((aA.refl [] _).alloc _)) hq (λ_ _=>qY);have cR:=Z (fI.alloc fI.size (CA #[Y 2] 3));unfold pV cV at HN;unfold pV;dsimp only[gX,jP]at HN ⊢;change Calls _ _ _ _ (MP _ gX jP)at HN;have tW:=Z HN;clear hq hp fI HN;go_wp2_with fail;refine tW.o.mono ?_;rintro e W2 ⟨dC,⟨h1,-⟩|⟨-,-,C,rfl,hv⟩⟩
 ·exact absurd ⟨ac1,aec⟩ h1
 have eF:=Z (cR.o.trans (dC.mono cR.o.size));have jo:(W1.alloc (CA #[Y 2] 3)).heap.size=W1.heap.size+1:=by simp
 rw[jo]at hv;have yo:=Z (show w.heap.size<=W1.heap.size+1/\W1.heap.size+1<=W2.heap.size from⟨by have:=cR.o.size;simp only[aM]at this;exact this,by have:=dC.size;simp only[aM]at this;exact this⟩);generalize W1.heap.size+1=lo at*;have HV:=Z hv;clear dC hv jo cR tW;have hp2:fW (W2.alloc (CA #[Y 1,Y 0,Y 0,Y 0,Y 0] 40)) ⟨Vn,Vn,Vn,Vn,H (O (I W2.heap.size 0)) 1 1⟩ noP:=⟨.inl ⟨rfl,rfl⟩,.inl ⟨rfl,rfl⟩,.inl ⟨rfl,rfl⟩,.inl ⟨rfl,rfl⟩,qZ (n:=1) (aF.new _ _ _) rfl bd⟩;have Hu:=IM (c:=⟨1,[]⟩) (qv:=Vn) hp2 (.inl ⟨rfl,rfl⟩) (λh _=>absurd h PP);unfold pV cV at Hu;dsimp only[noP]at Hu;change Calls _ _ _ _ (MP _ noP ⟨1,[]⟩)at Hu;have tW:=Z Hu;have LR:=Z ((aY W2.heap.size W2).alloc (aL _) (CA #[Y 1,Y 0,Y 0,Y 0,Y 0] 40));clear hp2 Hu;go_wp2_with fail;refine tW.o.mono ?_;rintro e W3 ⟨pz,hn3⟩;obtain⟨er,XD,rfl⟩:∃er:Int,er≠0/\e=Vl (.tuple #[.pointer MT,Y er]):=by
  rcases hn3 with⟨-,h⟩|⟨h1,-⟩
  ·exact h
  ·exact absurd h1 PP
 clear hn3;have Uv:=LR.o.trans (pz.mono LR.o.size);have iy:=Z (eF.o.trans (Uv.mono eF.o.size));have Nr:=Z (cU yo.o.2 Uv.size);have HV3:=Z (show∃t u,iI W3 C lo gX jP (zs gX) t u from⟨_,_,HV.o.later Uv⟩);have he0:(er==0)=false:=by simpa using XD
 obtain⟨mb,oR⟩:∃mb,C.mb=mb:=⟨_,rfl⟩;rw[oR];have wI:=Z oR;clear pz Uv XD oR tW LR HV;go_wp2_with fail;refine(xp HV3.o Nr.o bd wI.o).mono ?_;rintro e W4 ⟨afo,tv4,tr4,us4,C4,rfl,hm4,wM,⟨xa4,xb4,xc4,rfl⟩,⟨t4,v4⟩,-⟩;have jK:=Z (iy.o.trans (wM.mono yo.o.1));have HL4:=Z (cU Nr.o wM.size);have HV4:=Z (show∃t u,iI W4 C4 lo gX jP k1 t u from⟨_,_,v4⟩);have HM4:=Z hm4;clear hm4 wM v4 HV3 wI;go_wp2_with fail;refine(xp HV4.o HL4.o bd HM4.o).mono ?_;rintro e W5 ⟨afp,tv5,tr5,us5,C5,rfl,WS,uM,⟨xa5,xb5,xc5,rfl⟩,⟨t5,v5⟩,-⟩;have nU:=Z (jK.o.trans (uM.mono yo.o.1));have FQ:=Z (cU HL4.o uM.size);have HV5:=Z (show∃t u,iI W5 C5 lo gX jP k2 t u from⟨_,_,v5⟩);have HM5:=Z WS;clear WS uM v5 HV4 HM4;go_wp2_with fail;refine(xp HV5.o FQ.o bd HM5.o).mono ?_;rintro e W6 ⟨afq,tv6,Uw,us6,C6,rfl,hm6,AK,⟨Ux,Uy,Uz,rfl⟩,⟨t6,v6⟩,hx6⟩;obtain⟨e1,-,e3,-,-⟩:=hx6.o;rw[vj.2.2,aB rfl,vj.1]at e1;rw[vj.2.1]at e3;subst e1 e3;have wk:=Z (nU.o.trans (AK.mono yo.o.1));have HL6:=Z (cU FQ.o AK.size);have kE:=Z ((aY W6.heap.size W6).alloc (aL _) (CA #[.bool true,H Ux Uy Uz,Y Uw] 44));have HV6:=Z (show∃t,iI (W6.alloc (CA #[.bool true,H Ux Uy Uz,Y Uw] 44)) C6 lo gX jP k3 t (2:Nat)from⟨_,v6.later kE.o⟩);have HU6:=Z (show Calls prog 28 #[V5 mb] (W6.alloc (CA #[.bool true,H Ux Uy Uz,Y Uw] 44)) (λe w'=>e=Vl (Y 2)/\w'=W6.alloc (CA #[.bool true,H Ux Uy Uz,Y Uw] 44))by
  obtain⟨t,hv⟩:=HV6.o;rw[<-hm6];exact Km hv)
 have HC6:=Z (show∀b,b∈C6.l->b<W6.heap.size from λb X=>(v6.lt X).2);have K6:=Z (aF.new W6 44 #[.bool true,H Ux Uy Uz,Y Uw]);have Uc:=Z hm6;have EJ:=Z (wk.o.trans (kE.o.mono wk.o.size));have HL7:=Z (show lo<=(W6.alloc (CA #[.bool true,H Ux Uy Uz,Y Uw] 44)).heap.size by simp only[aM];have:=HL6.o;omega);clear hm6 AK v6 HV5 HM5 hx6;go_wp2_with fail;refine HU6.o.mono ?_;rintro e W7 ⟨rfl,rfl⟩;have No:=Z (show W6.heap.size<(W6.alloc (CA #[.bool true,H Ux Uy Uz,Y Uw] 44)).heap.size by simp);generalize W6.alloc (CA #[.bool true,H Ux Uy Uz,Y Uw] 44)=W7 at*;clear HU6;go_wp2_with fail;refine(xp (by obtain⟨t,h⟩:=HV6.o;exact⟨_,_,h⟩) HL7.o bd Uc.o).mono ?_;rintro e W8 ⟨afr,tv8,tr8,us8,abn,rfl,hm8,OK,-,⟨t8,v8⟩,hx8⟩;obtain⟨e1,-,e3,e4,k8⟩:=hx8.o;rw[nB.2.2.1,aB rfl,nB.1]at e1;rw[nB.2.1]at e3;rw[nB.2.2.1,aB rfl,nB.2.2.2]at e4;obtain⟨tb,ts,rfl,Ks,htc⟩:=abp e4;subst e1 e3;have P0:=Z (EJ.o.trans (OK.mono yo.o.1));have HS8:=Z (show W6.heap.size<W8.heap.size from dz No.o OK.size);obtain⟨WX,hWX⟩:∃WX,WX=W8.alloc (CA #[.bool false,H (O (I tb 0)) 1 1,Y tr8] 44):=⟨_,rfl⟩;have kE:=Z (show Below W8.heap.size W8 WX by rw[hWX];exact(aY _ _).alloc (aL _) _);have ad9:=Z (show aF WX W6.heap.size 44 #[.bool true,H Ux Uy Uz,Y Uw]by rw[hWX];exact(K6.o.aG k8.f λhc=>absurd (HC6.o _ hc) (Nat.lt_irrefl _)).alloc _);have K8:=Z (show aF WX W8.heap.size 44 #[.bool false,H (O (I tb 0)) 1 1,Y tr8]by rw[hWX];exact aF.new _ _ _);have K9:=Z (show aF WX tb 46 ts by rw[hWX];exact Ks.alloc _);have HV9:=Z (show∃t,iI WX abn lo gX jP k4 t (7:Nat)from⟨_,v8.later kE.o⟩);have HLY:=Z (show Calls prog 19 #[V5 mb] WX (ul WX gX k4 2)by
  obtain⟨t,hv⟩:=HV9.o;rw[<-hm8,<-ac2];exact IK hv)
 have IA:=Z (P0.o.trans (kE.o.mono P0.o.size));have HM8:=Z hm8;have HTC:=Z htc;clear hm8 OK v8 HV6 Uc hx8 e4 k8 Ks htc K6;go_wp2_with fail;rw[<-hWX];clear hWX kE;refine HLY.o.mono ?_;rintro e W9 ⟨L,a,b,c,d,h1,h2,lv,Gs,rfl,wZ,hl⟩;rw[abq Gs,aeb]at hl;have r0:Row W9 24 1 a 1 lv:=hl.ls.row;have r1:Row W9 3 1 b 0 (aX []):=hl.fr.row;have r2:Row W9 46 1 c 2 (pU [7,9]):=hl.ks.row;have r3:Row W9 3 1 d 2 (aX [0,1]):=hl.ns.row;have r4:Row W9 3 1 (lv 0) 2 (aX [1,0]):=(hl.ls.q 0 bd).row;obtain⟨xa,ya,rfl,-,-,-⟩:=r0.some bd;obtain⟨xb,yb,rfl,-,-⟩:=iW r1;obtain⟨xc,yc,rfl,-,-,-⟩:=r2.some bd;obtain⟨xd,yd,rfl,-,-,-⟩:=r3.some bd;obtain⟨xe,ye,ee,-,-,-⟩:=r4.some bd;rw[ee]at r4;obtain⟨WY,UA⟩:∃WY,WY=W9.alloc (CA #[H (O (I xa 0)) 1 ya,H xb 0 yb,H (O (I xc 0)) 2 yc,H (O (I xd 0)) 2 yd] 52):=⟨_,rfl⟩;have Q7:=Z (show Below WX.heap.size WX WY by rw[UA];exact wZ.alloc wZ.size _);have f0:Vo WY (I W6.heap.size 0)=O (.bool true):=(ad9.o.aG (aA.af (S:=[]) Q7.o) ay).cell 0;have f1:Vo WY (I W8.heap.size 0)=O (.bool false):=(K8.o.aG (aA.af (S:=[]) Q7.o) ay).cell 0;have f2:Vo WY (I W8.heap.size 1)=O (H (O (I tb 0)) 1 1):=(K8.o.aG (aA.af (S:=[]) Q7.o) ay).cell 1;have f3:Vo WY (I tb 0)=O (.int .u64 8):=((K9.o.aG (aA.af (S:=[]) Q7.o) ay).cell 0).trans HTC.o;have f4:Vo WY (I xa 0)=O (H (O (I xe 0)) 2 ye):=by rw[UA,<-ee];exact(r0.alloc _).cell (o:=0) bd
 have f5:Vo WY (I xe 0)=O (Y 1):=by rw[UA];exact(r4.alloc _).cell (o:=0) bd
 have f6:Vo WY (I xc 0)=O (.int .u64 7):=by rw[UA];exact(r2.alloc _).cell (o:=0) bd
 have f7:Vo WY (I xc 1)=O (.int .u64 9):=by rw[UA];exact(r2.alloc _).cell (o:=1) bd
 have f8:Vo WY (I xd 1)=O (Y 1):=by rw[UA];exact(r3.alloc _).cell (o:=1) bd
 have Rl:aF WY W9.heap.size 52 #[H (O (I xa 0)) 1 ya,H xb 0 yb,H (O (I xc 0)) 2 yc,H (O (I xd 0)) 2 yd]:=by rw[UA];exact aF.new _ _ _
 obtain⟨g0,g1,g2,g3⟩:=Rl.c4;have HU:=Z (show Calls prog 28 #[V5 mb] WY.drew (λe w'=>e=Vl (Y 7)/\w'=WY.drew)by
  obtain⟨t,hv⟩:=HV9.o;rw[<-HM8.o];exact Km (hv.later (Q7.o.drew)))
 have HBZ:=Z (IA.o.trans (Q7.o.mono IA.o.size));clear Rl hl wZ r0 r1 r2 r3 r4 ee Q7 Gs;go_wp2_with fail;rw[<-UA];clear UA;refine wp_region_still_tail 82 bh bh ?_;simp only[List.append_eq,List.cons_append,List.nil_append];simp only[List.take_succ_cons,List.take_zero,List.drop_succ_cons,List.drop_zero]
 iterate 26 still_step
 still_call HU.o
 iterate 55 still_step
 refine wpStill_nil ?_;change wpList _ _ _ _ _ (WY.drewN 1);go_wp2;refine Vf.fy rfl ⟨rfl,HBZ.o.drew⟩
end Go.Ma
namespace aj
open Go Go.RowKit Go.ChangeMaps Go.WideShapes
open Go.Maps (Keyed)
section
structure Typed(P:Program)(t k e:TypeId)(qk qe:IntKind):Prop where
 ht:P.underlying t=some (.map k e)
 hk:P.underlying k=some (.int qk)
 he:P.underlying e=some (.int qe)
 hz:∀w,(zeroValue e).run P w= .ok (.int qe 0) w
def Ns(q:IntKind)(x:Int):Prop:=(Lit.int q x).wf=true
def lW(P:Program)(k e:TypeId)(qk qe:IntKind)(W:World)(B:Nat)(f:Int->Option Int)(c:Nat):Prop:=
 ∃D:DataW Unit,W.ownsMap P k (plainElem P e) B c D/\Maps.size D=c/\∀x,Ns qk x->Maps.has D (.int qk x)=(f x).isSome/\∀v,f x=some v->∀z,D.atKey (.int qk x) z= .lit (.int qe v)
def QD(f:Int->Option Int)(x v:Int):Int->Option Int:=λy=>if y=x then some v else f y
variable {P:Program}{t k e:TypeId}{qk qe:IntKind}{W:World}{B c:Nat}{f:Int->Option Int}
def tight{D:DataW Unit}{R:Value->Option (DataW Unit×List MemPlace)}{n:Nat}(h:W.ownsMap P k R B n D):W.ownsMap P k R B (Maps.size D) D:=by obtain⟨es,clock,X,F,hs,rfl⟩:=h;exact⟨es,clock,X,F,by simp[Maps.size,length_sorted],rfl⟩
def isKey(qk:IntKind)(x:Int):WideAt.IsKeyLit (.int qk x):=trivial
def lW.made(W:World):lW P k e qk qe (W.alloc (.map #[] 0)) W.heap.size (λ_=>none) 0:=
 ⟨.map [],World.ownsMap_made W P k _,rfl,λx hx=>⟨rfl,λv h=>by simp at h⟩⟩
def lW.lt(h:lW P k e qk qe W B f c):B<W.heap.size:=by obtain⟨D,h,_⟩:=h;exact h.lt
def lW.q8{W':World}(h:lW P k e qk qe W B f c)(X:W'.heap[B]? =W.heap[B]?):lW P k e qk qe W' B f c:=by obtain⟨D,⟨es,clock,h1,h2⟩,r⟩:=h;exact⟨D,⟨es,clock,X.trans h1,h2⟩,r⟩
def lW.look_ok(T:Typed P t k e qk qe)(h:lW P k e qk qe W B f c){x:Int}(hx:Ns qk x):
 (Instr.lookup t (.map (some B)) (.int qk x) true).run P W= .ok (.tuple #[.int qe ((f x).getD 0),.bool (f x).isSome]) W:=by
 obtain⟨D,h,_,r⟩:=h;obtain⟨r1,r2⟩:=r x hx;obtain⟨v,a1l,wJ,hv⟩:=h.look_ok (Maps.int_keyed T.hk) T.ht (T.hz W) (plainElem_int T.he (by cases qe<;>decide)) (Maps.keyOf_int_mk T.hk hx);obtain⟨a,rfl,ha,_⟩:=plainElem_int_inv T.he hv;simp only[Prod.mk.injEq]at ha;rw[wJ,r1];cases hf:f x with
 |none=>rw[hf]at r1;have:=Maps.atKey_of_not_has r1 (.lit (.int qe 0));rw[this]at ha;have:=ha.1;simp at this;simp[this]
 |some u=>have:=r2 u hf (.lit (.int qe 0));rw[this]at ha;have:=ha.1;simp at this;simp[this]
def lW.store(T:Typed P t k e qk qe)(h:lW P k e qk qe W B f c)(hc:c<maxLen){x v:Int}(hx:Ns qk x)(hv:Ns qe v):
 ∃W',(Instr.mapUpdate t (.map (some B)) (.int qk x) (.int qe v)).run P W= .ok () W'/\lW P k e qk qe W' B (QD f x v) (if(f x).isSome then c else c+1)/\W.grownBy W' (some B)/\∀a,W'.frozen? a=W.frozen? a:=by
 obtain⟨D,h,hs,r⟩:=h;obtain⟨W',wJ,h',ht⟩:=h.store (Maps.int_keyed T.hk) T.ht hc (Maps.keyOf_int_mk T.hk hx) (plainElem_int T.he hv);have kw:=Maps.size_put (k:= .int qk x) (h.tidy (Maps.int_keyed T.hk)) (.lit (.int qe v));refine⟨W',wJ,⟨_,by have:=tight h';rw[kw,(r x hx).1,hs]at this;exact this,by rw[kw,(r x hx).1,hs],λy hy=>?_⟩,ht.grown,ht.frozen⟩;unfold QD;by_cases e1:y=x
 ·subst e1;rw[if_pos rfl];exact⟨by rw[Maps.has_put_same h.isMap (isKey _ _)];rfl,λu hu z=>by cases hu;rw[Maps.atKey_put_same h.isMap (isKey _ _)]⟩
 ·rw[if_neg e1];have bm:Lit.int qk y≠.int qk x:=λe'=>e1 (by simpa using e');exact⟨by rw[Maps.has_put_other bm];exact(r y hy).1,λu hu z=>by rw[Maps.atKey_put_other bm];exact(r y hy).2 u hu z⟩
section
variable (w:World){ops:Array Oper}{rest:List Oper}{o:Oper}{a:Act}{Q:Exit->Act->World->Prop}
def abm(hg:o.guard=none)(m x:Operand)(t:TypeId)(dW:o.op=Op.lookup t m x true)(T:Typed P t k e qk qe)(B c:Nat)(f:Int->Option Int)
 (hm:a.eval m= .map (some B)) (h:lW P k e qk qe w B f c) (key:Int) (hx:a.eval x= .int qk key) (Xj:Ns qk key)
 (hK:wpList P ops Q rest (a.put o.dst (.tuple #[.int qe ((f key).getD 0),.bool (f key).isSome])) w):wpList P ops Q (o::rest) a w:=by
 refine wpList_plain hg λK' hK'=>?_;unfold Oper.wp;simp[execOp,dW,hm,hx,h.look_ok T Xj,Result.andThen];exact hK' _ _ hK
def ku(hg:o.guard=none)(m x:Operand)(t:TypeId)(dW:o.op=Op.lookup t m x true)(T:Typed P t k e qk qe)(B c:Nat)(f:Int->Option Int)
 (hm:a.eval m= .map (some B)) (h:lW P k e qk qe w B f c) (key:Int) (hx:a.eval x= .int qk key) (Xj:Ns qk key) (v:Int) (hv:f key=some v)
 (hK:wpList P ops Q rest (a.put o.dst (.tuple #[.int qe v,.bool true])) w):wpList P ops Q (o::rest) a w:=
 abm w hg m x t dW T B c f hm h key hx Xj (by rw[hv];exact hK)
def abl(hg:o.guard=none)(m x v:Operand)(t:TypeId)(dW:o.op=Op.mapUpdate t m x v)(T:Typed P t k e qk qe)(B c:Nat)(f:Int->Option Int)
 (hm:a.eval m= .map (some B)) (h:lW P k e qk qe w B f c) (hc:c<maxLen) (key val:Int) (hx:a.eval x= .int qk key) (hv:a.eval v= .int qe val) (Xj:Ns qk key) (hwv:Ns qe val)
 (hK:∀w',lW P k e qk qe w' B (QD f key val) (if(f key).isSome then c else c+1)->w.grownBy w' (some B)->(∀a,w'.frozen? a=w.frozen? a)->wpList P ops Q rest (a.put o.dst undef) w'):wpList P ops Q (o::rest) a w:=by
 refine wpList_plain hg λK' hK'=>?_;obtain⟨w',wJ,r1,r2,r3⟩:=h.store T hc Xj hwv;unfold Oper.wp;simp[execOp,dW,hm,hx,hv,wJ,Result.andThen];exact hK' _ _ (hK w' r1 r2 r3)
variable {F:Fence}{a1m:Nat}
end
end
end aj
namespace Go.Ma
open Go.RowKit aj.Vm
open aj hiding aR an ak
def IS:Typed prog 67 46 3 .u64 .i64:=⟨underlying67,underlying46,underlying3,λw=>by kernel_rfl⟩
abbrev MI:=lW prog 46 3 .u64 .i64
def Db{k:Nat}(h:k<18446744073709551616):Ns .u64 (k:Int):=by unfold Ns;exact WalkArith.wf_u64 G
def abk{n:Nat}(h:n<=4194304):Ns .i64 (n:Int):=by unfold Ns;exact WalkArith.wf_i64 G
def eK{w w':ek}{B:Nat}(h:w.grownBy w' (O B)):aA [B] w w':=⟨h.os,h.tape,h.output,h.size,λk hk hs=>h.block k hk (λe=>hs (by cases e;simp))⟩
section
variable {W2:ek}{sv mv a b c d:to}{i0 lb B:Nat}{L:List (Nat×Nat)}{Q:Exit->Act->ek->Prop}
def abj{i:Nat}(h:i<L.length):((L.map (·.1)).getD i 0,(L.map (·.2)).getD i 0)∈L:=by
 have:((L.map (·.1)).getD i 0,(L.map (·.2)).getD i 0)=L[i]:=by simp[List.getD,h]
 rw[this];exact ja h
def um(w:ek)(a:Option Addr)(n:Nat):Prop:=
 n<=maxLen/\∀i,i<n->∃b off,a=O (I b off)/\∃(kind:Int) (key:Nat),key<18446744073709551616/\Vo w (I b (off+i*2))=O (Y kind)/\Vo w (I b (off+i*2+1))=O (.int .u64 key)
end
section
variable {w w':ek}{C:Co}{lo:Nat}{p:aQ}{c:Cp}{s:St}{t:dZ}{used:Int}
variable {sa:Option Addr}{sn sc mb:Nat}{Q:Exit->Act->ek->Prop}
def Dc(w:ek)(a:Option Addr)(n:Nat)(kf:Nat->Int)(xf:Nat->Nat):Prop:=
 n<=maxLen/\(∀i,n<=i->kf i=2)/\∀i,i<n->xf i<18446744073709551616/\∃b off,a=O (I b off)/\Vo w (I b (off+i*2))=O (Y (kf i))/\Vo w (I b (off+i*2+1))=O (.int .u64 (xf i))
def um.fn{w:ek}{a:Option Addr}{n:Nat}(h:um w a n):∃kf xf,Dc w a n kf xf:=by
 have key:∀i:Nat,∃y:Int×Nat,(n<=i->y.1=2)/\(i<n->y.2<18446744073709551616/\∃b off,a=O (I b off)/\Vo w (I b (off+i*2))=O (Y y.1)/\Vo w (I b (off+i*2+1))=O (.int .u64 y.2)):=by
  intro i;by_cases hi:i<n
  ·obtain⟨b,off,e,kind,k,hk,h1,h2⟩:=h.2 i hi;exact⟨(kind,k),λh=>G,λ_=>⟨hk,b,off,e,h1,h2⟩⟩
  ·exact⟨(2,0),λ_=>rfl,λh=>absurd h hi⟩
 obtain⟨f,hf⟩:=Classical.axiomOfChoice key;exact⟨λi=>(f i).1,λi=>(f i).2,h.1,λi hi=>(hf i).1 hi,λi hi=>(hf i).2 hi⟩
def Dc.later{w w':ek}{a:Option Addr}{n:Nat}{kf:Nat->Int}{xf:Nat->Nat}(h:Dc w a n kf xf)(X:Below w.heap.size w w'):Dc w' a n kf xf:=by refine⟨h.1,h.2.1,λi hi=>?_⟩;obtain⟨hk,b,off,e,h1,h2⟩:=h.2.2 i hi;exact⟨hk,b,off,e,(bk (X.block _ (aH h1))).trans h1,(bk (X.block _ (aH h2))).trans h2⟩
def iC(p:aQ)(c:Cp)(kf:Nat->Int)(xf:Nat->Nat):Nat->St×dZ×Int->St×dZ×Int
 |0,z=>z
 |i+1,z=>DF p c (kf i) (xf i) (iC p c kf xf i z)
def vu{p:aQ}{c:Cp}{kf:Nat->Int}{xf:Nat->Nat}{n i:Nat}{z:St×dZ×Int}(hk:∀i,n<=i->kf i=2)(hi:n<=i):iC p c kf xf (i+1) z=iC p c kf xf i z:=by show DF p c (kf i) (xf i) (iC p c kf xf i z)=_;rw[hk i hi];rfl
def Fx{p:aQ}{c:Cp}{kf:Nat->Int}{xf:Nat->Nat}{n:Nat}{z:St×dZ×Int}(hk:∀i,n<=i->kf i=2){i:Nat}(hi:n<=i):∀d,iC p c kf xf (i+d) z=iC p c kf xf i z
 |0=>rfl
 |d+1=>(vu (i:=i+d) hk G).trans (Fx hk hi d)
def uo{p:aQ}{c:Cp}{kf:Nat->Int}{xf:Nat->Nat}{n i:Nat}{z:St×dZ×Int}(hk:∀i,n<=i->kf i=2)(hi:i=100\/n<=i/\i<=100):iC p c kf xf i z=iC p c kf xf 100 z:=by
 rcases hi with rfl|⟨h1,h2⟩
 ·rfl
 ·have:=Fx (p:=p) (c:=c) (xf:=xf) (z:=z) hk h1 (100-i);rw[show i+(100-i)=100 by omega]at this;exact this.symm
def qd{α:Type}(a b c d:α):Nat->α
 |0=>a
 |1=>b
 |2=>c
 |_=>d
def wo{α:Type}(f:Nat->α)(j:Nat)(x:α):Nat->α:=λi=>if i=j then x else f i
def TG(w:ek)(lo:Nat)(p:aQ)(c:Cp)(n:Nat)(M:Nat->Nat)(a0b:Nat->St×dZ×Int):Prop:=∃F,(∀j,j<n->(F j).C.mb=M j/\(F j).z=a0b j)/\IQ w lo p c n F
variable {n i j:Nat}{M:Nat->Nat}{a0b:Nat->St×dZ×Int}{F:Nat->MR}
def TG.later(h:TG w lo p c n M a0b)(b:Below w.heap.size w w'):TG w' lo p c n M a0b:=by obtain⟨F,h1,h2⟩:=h;exact⟨F,h1,h2.later b⟩
def TG.IT{M':Nat->Nat}{Z':Nat->St×dZ×Int}(h:TG w lo p c n M a0b)(e:∀j,j<n->M j=M' j/\a0b j=Z' j):TG w lo p c n M' Z':=by obtain⟨F,h1,h2⟩:=h;exact⟨F,λj hj=>⟨(h1 j hj).1.trans (e j hj).1,(h1 j hj).2.trans (e j hj).2⟩,h2⟩
def IQ.vm(h:IQ w lo p c n F)(hi:i<n):iI w (F i).C lo p c (F i).s (F i).t (F i).u:=by obtain⟨K,T,h1,h2,h3,h4,h5⟩:=h.m i hi;exact⟨(F i).R,K,T,h1,h2,h3,h4,h5,h.low i hi⟩
def TG.vm(h:TG w lo p c n M a0b)(hi:i<n):∃C,C.mb=M i/\iI w C lo p c (a0b i).1 (a0b i).2.1 (a0b i).2.2:=by obtain⟨F,h1,h2⟩:=h;have h3:=h2.vm hi;have e:=(h1 i hi).2;rw[<-e];exact⟨(F i).C,(h1 i hi).1,h3⟩
def TG.one{C:Co}{s:St}{t:dZ}{u:Int}(h:iI w C lo p c s t u)(hl:lo<=w.heap.size):TG w lo p c 1 (λ_=>C.mb) (λ_=>(s,t,u)):=by obtain⟨RO,K,T,h1,h2,h3,h4,h5,h6⟩:=h;exact⟨λ_=>⟨C,RO,s,t,u⟩,λj hj=>⟨rfl,rfl⟩,λi hi=>⟨K,T,h1,h2,h3,h4,h5⟩,λi j hi hj hn=>absurd (show i=j by omega) hn,λi hi=>h6,hl⟩
def TG.IR(h:TG w lo p c n M a0b)(hi:i<n){kind:Int}{key:Nat}(hk:key<18446744073709551616):Calls prog 42 #[V5 (M i),.agg #[Y kind,.int .u64 key]] w (λe w'=>e=Vl (.tuple #[])/\Below lo w w'/\TG w' lo p c n M (wo a0b i (DF p c kind key (a0b i)))):=by
 obtain⟨F,h1,h2⟩:=h;refine(Ma.IR h2 hi hk (h1 i hi).1).mono ?_;rintro e w' ⟨rfl,X,x,hx,hz,hf⟩;refine⟨rfl,X,_,λj hj=>?_,hf⟩;unfold vq wo;split
 ·next e=>subst e;exact⟨hx,by rw[hz,(h1 j hi).2]⟩
 ·exact h1 j hj
def TG.zx(h:TG w lo p c n M a0b)(hi:i<n)(hj:j<n)(hz:a0b i=a0b j):Calls prog 24 #[V5 (M i),V5 (M j)] w (λe w'=>e=Vl (.bool true)/\Below w.heap.size w w'):=by obtain⟨F,h1,h2⟩:=h;exact Ma.zx h2 hi hj ((h1 i hi).2.trans (hz.trans (h1 j hj).2.symm)) (h1 i hi).1 (h1 j hj).1
def TG.sI(h:TG w lo p c n M a0b)(hi:i<n):Calls prog 35 #[V5 (M i)] w (λe w'=>∃m,e=Vl (V5 m)/\Below w.heap.size w w'/\TG w' lo p c (n+1) (wo M n m) (wo a0b n (a0b i))):=by
 obtain⟨F,h1,h2⟩:=h;obtain⟨K,T,k1,k2,k3,k4,k5⟩:=h2.m i hi;rw[<-(h1 i hi).1];refine(aaq k1 k2).mono ?_;rintro e w' ⟨C',K',rfl,X,m1,m2,hn⟩;refine⟨C'.mb,rfl,X,_,λj hj=>?_,h2.add hi X ⟨K',T,m1,m2,k3,k4,k5⟩ hn⟩;unfold vq wo;split
 ·exact⟨rfl,(h1 i hi).2⟩
 ·exact h1 j G
def wO(J:Nat->to):Act:={tmps:=#[J 0,J 1,J 2,J 3,J 4,J 5,J 6,J 7,J 8,J 9,J 10,J 11,J 12,J 13,J 14,J 15,J 16,J 17,J 18,J 19,J 20,J 21,J 22,J 23,J 24,J 25,J 26,J 27,J 28,J 29,J 30,J 31,J 32,J 33,J 34,J 35,J 36,J 37,J 38,J 39,J 40,J 41,J 42,J 43,J 44,J 45,J 46,J 47,J 48,J 49,J 50,J 51,J 52,J 53,J 54,J 55,J 56,J 57,J 58,J 59,J 60,J 61,J 62,J 63,J 64,J 65,J 66,J 67,J 68,J 69,J 70,J 71,J 72,J 73,J 74,J 75,J 76,J 77,J 78,J 79,J 80,J 81,J 82,J 83,J 84,J 85,J 86,J 87,J 88,J 89,J 90,J 91,J 92,J 93,J 94,J 95,J 96,J 97,J 98,J 99,J 100,J 101,J 102,J 103,J 104,J 105,J 106,J 107,J 108,J 109,J 110,J 111,J 112,J 113,J 114,J 115,J 116,J 117,J 118,J 119,J 120,J 121,J 122,J 123,J 124,J 125,J 126,J 127,J 128,J 129,J 130,J 131,J 132,J 133,J 134,J 135,J 136,J 137,J 138,J 139,J 140,J 141,J 142,J 143,J 144,J 145,J 146,J 147,J 148,J 149,J 150,J 151,J 152,J 153,J 154,J 155,J 156,J 157,J 158,J 159,J 160,J 161,J 162,J 163,J 164,J 165,J 166,J 167,J 168,J 169,J 170,J 171,J 172,J 173,J 174,J 175,J 176,J 177,J 178,J 179,J 180,J 181],defers:=[]}
def wO.of(A:Array to)(h:A=(wO λk=>A.getD k undef).tmps):({tmps:=A,defers:=[]}:Act)=wO λk=>A.getD k undef:=by rw[h];rfl
noncomputable def aeI:Code:=Mk.iS Proofs.Tryz.f9.body 0
noncomputable def aeJ:Code:=Mk.iS Proofs.Tryz.f9.body 1
noncomputable def aeK:Code:=Mk.iS Proofs.Tryz.f9.body 2
noncomputable def aeL:Code:=Mk.iS Proofs.Tryz.f9.body 3
def VT(Vb:ek)(X2 X3 X4 U5 U6 U11 U14 U15 U16:to)(n:Nat)(p:aQ)(c:Cp)(N:Nat)(M:Nat->Nat)(Zi:Nat->Nat->St×dZ×Int)(ix m:Nat)(a:Act)(W:ek):Prop:=∃(J:Nat->to) (i:Nat),a=wO J/\J 2=X2/\J 3=X3/\J 4=X4/\J 5=U5/\J 6=U6/\J 11=U11/\J 14=U14/\J 15=U15/\J 16=U16/\J ix=Y i/\i<=n/\m+i=n+1/\Hid (Below Vb.heap.size Vb W/\TG W Vb.heap.size p c N M (Zi i))
def abi{M:Nat->Nat}(p:aQ)(c:Cp)(k:Int)(x:Nat)(z a b:St×dZ×Int):∀j,j<4->M j=M j/\wo (qd z a b z) 1 (DF p c k x (qd z a b z 1)) j=qd z (DF p c k x a) b z j
 |0,_=>⟨rfl,rfl⟩
 |1,_=>⟨rfl,rfl⟩
 |2,_=>⟨rfl,rfl⟩
 |3,_=>⟨rfl,rfl⟩
 |n+4,h=>G
def ad8{M:Nat->Nat}(p:aQ)(c:Cp)(k:Int)(x:Nat)(z a b:St×dZ×Int):∀j,j<4->M j=M j/\wo (qd z a b z) 2 (DF p c k x (qd z a b z 2)) j=qd z a (DF p c k x b) z j
 |0,_=>⟨rfl,rfl⟩
 |1,_=>⟨rfl,rfl⟩
 |2,_=>⟨rfl,rfl⟩
 |3,_=>⟨rfl,rfl⟩
 |n+4,h=>G
def ad7{M:Nat->Nat}(p:aQ)(c:Cp)(k k2:Int)(x x2:Nat)(z a b:St×dZ×Int):∀j,j<4->M j=M j/\wo (wo (qd z a b z) 1 (DF p c k x (qd z a b z 1))) 2 (DF p c k2 x2 (wo (qd z a b z) 1 (DF p c k x (qd z a b z 1)) 2)) j=qd z (DF p c k x a) (DF p c k2 x2 b) z j
 |0,_=>⟨rfl,rfl⟩
 |1,_=>⟨rfl,rfl⟩
 |2,_=>⟨rfl,rfl⟩
 |3,_=>⟨rfl,rfl⟩
 |n+4,h=>G
variable {Vb:ek}{sd:Option Addr}{sm se m1 m2:Nat}{kf kg:Nat->Int}{xf xg:Nat->Nat}{X2 X3 X4 U5 U6 U11 U14 U15 U16:to}
def u7{p:Prop}(h:p:=by
 go_wp2;exact Eq.mpr (bu (λa=>Q (.exit 0) a W) (wO.of _ rfl)) (d_ _ W rfl rfl rfl rfl rfl rfl rfl rfl rfl HW.o.1 (h9▸HW.o.2))):p:=h
def UB{p:Prop}(h:p:=by
 rintro a W ⟨J,i,-,-,-,-,-,-,-,-,-,-,-,h1,h2,-⟩;omega):p:=h
def UC{p:Prop}(h:p:=by
 go_wp2;refine⟨_,i+1,wO.of _ rfl,rfl,rfl,rfl,rfl,rfl,rfl,rfl,rfl,rfl,?_,G,by have:=HNm.o;omega,Z ⟨HB.o,HG.o⟩⟩
 first|rfl|exact bu (Value.int .i64) (show(i:Int)+1=((i+1:Nat):Int)by omega)):p:=h
def U9{p:Prop}(h:p:=by
 obtain⟨Wo,TN⟩:=be;clear j2 j3 j4 j5 j6 oG lY qp vw;have HNm:=Z hm;have w2:=mO i G;obtain⟨zQ,sb,a1n,e0,g0,g1⟩:=HS.o.2.2 i Wo;subst e0;have c0:=(bk (HW.o.1.block _ (aH g0))).trans g0;have c1:=(bk (HW.o.1.block _ (aH g1))).trans g1;have QG:=Z (show Calls prog 42 #[V5 mb,.agg #[Y (kf i),.int .u64 (xf i)]] W _ from by rw[<-HY.o.2];exact TG.IR HW.o.2 HY.o.1 zQ);have CP:=Z HW.o.1;clear zQ g0 g1 HW hm;go_wp2_with fail;refine QG.o.mono ?_;rintro e W1 ⟨rfl,b1,k1⟩;have HG:=Z (HZ.o _ _ k1);have HB:=Z (CP.o.trans b1);clear b1 k1 QG CP c0 c1;exact UC):p:=h
def abh{N y:Nat}{M:Nat->Nat}{Zi:Nat->Nat->St×dZ×Int}(HS:Hid (Dc Vb sa sn kf xf))(HY:Hid (y<N/\M y=mb))(HZ:Hid (∀W i,TG W Vb.heap.size p c N M (wo (Zi i) y (DF p c (kf i) (xf i) (Zi i y)))->TG W Vb.heap.size p c N M (Zi (i+1))))
 (d_:∀(J:Nat->to) W,J 2=(H sa sn sc)->J 3=X3->J 4=X4->J 5=U5->J 6=U6->J 11=(V5 mb)->J 14=U14->J 15=U15->J 16=U16->Below Vb.heap.size Vb W->TG W Vb.heap.size p c N M (Zi (min sn 100))->Q (.exit 0) (wO J) W)
 {a0:Act} {W0:ek} (h:VT Vb (H sa sn sc) X3 X4 U5 U6 (V5 mb) U14 U15 U16 (min sn 100) p c N M Zi 13 (min sn 100+1) a0 W0):(Code.loop aeI).wp prog Q a0 W0:=by
 refine Mk.aN (λm a W=>VT Vb (H sa sn sc) X3 X4 U5 U6 (V5 mb) U14 U15 U16 (min sn 100) p c N M Zi 13 m a W) (min sn 100+1) h ?_ ?_
 ·exact UB
 rintro m a9 W ⟨J,i,rfl,j2,j3,j4,j5,j6,oG,lY,qp,vw,ji,hi,hm,HW⟩;unfold wO
 conv=>arg 2;whnf
 rw[j2,j3,j4,j5,j6,oG,lY,qp,vw,ji];clear ji;by_cases be:i<sn/\i<100
 ·exact U9
 ·have h9:i=min sn 100:=G;clear hm j2 j3 j4 j5 j6 oG lY qp vw;by_cases e1:i<sn
  ·have e2:¬i<100:=G;exact u7
  ·exact u7
def u6{p:Prop}(h:p:=by
 go_wp2;exact Eq.mpr (bu (λa=>Q (.exit 4) a W) (wO.of _ rfl)) (d_ _ W rfl rfl rfl rfl rfl rfl rfl rfl rfl HW.o.1 (h9▸HW.o.2))):p:=h
def abg{N y:Nat}{M:Nat->Nat}{Zi:Nat->Nat->St×dZ×Int}(HS:Hid (Dc Vb sa sn kf xf))(HY:Hid (y<N/\M y=mb))(HZ:Hid (∀W i,TG W Vb.heap.size p c N M (wo (Zi i) y (DF p c (kf i) (xf i) (Zi i y)))->TG W Vb.heap.size p c N M (Zi (i+1))))
 (d_:∀(J:Nat->to) W,J 2=X2->J 3=(H sa sn sc)->J 4=X4->J 5=U5->J 6=U6->J 11=(V5 mb)->J 14=U14->J 15=U15->J 16=U16->Below Vb.heap.size Vb W->TG W Vb.heap.size p c N M (Zi (min sn 100))->Q (.exit 4) (wO J) W)
 {a0:Act} {W0:ek} (h:VT Vb X2 (H sa sn sc) X4 U5 U6 (V5 mb) U14 U15 U16 (min sn 100) p c N M Zi 18 (min sn 100+1) a0 W0):(Code.loop aeK).wp prog Q a0 W0:=by
 refine Mk.aN (λm a W=>VT Vb X2 (H sa sn sc) X4 U5 U6 (V5 mb) U14 U15 U16 (min sn 100) p c N M Zi 18 m a W) (min sn 100+1) h ?_ ?_
 ·exact UB
 rintro m a9 W ⟨J,i,rfl,j2,j3,j4,j5,j6,oG,lY,qp,vw,ji,hi,hm,HW⟩;unfold wO
 conv=>arg 2;whnf
 rw[j2,j3,j4,j5,j6,oG,lY,qp,vw,ji];clear ji;by_cases be:i<sn/\i<100
 ·exact U9
 ·have h9:i=min sn 100:=G;clear hm j2 j3 j4 j5 j6 oG lY qp vw;by_cases e1:i<sn
  ·have e2:¬i<100:=G;exact u6
  ·exact u6
def u5{p:Prop}(h:p:=by
 go_wp2;exact Eq.mpr (bu (λa=>Q (.exit 6) a W) (wO.of _ rfl)) (d_ _ W rfl rfl rfl rfl rfl rfl rfl rfl rfl HW.o.1 (h9▸HW.o.2))):p:=h
def abf{N y:Nat}{M:Nat->Nat}{Zi:Nat->Nat->St×dZ×Int}(HS:Hid (Dc Vb sa sn kf xf))(HY:Hid (y<N/\M y=mb))(HZ:Hid (∀W i,TG W Vb.heap.size p c N M (wo (Zi i) y (DF p c (kf i) (xf i) (Zi i y)))->TG W Vb.heap.size p c N M (Zi (i+1))))
 (d_:∀(J:Nat->to) W,J 2=X2->J 3=X3->J 4=(H sa sn sc)->J 5=U5->J 6=U6->J 11=U11->J 14=U14->J 15=U15->J 16=(V5 mb)->Below Vb.heap.size Vb W->TG W Vb.heap.size p c N M (Zi (min sn 100))->Q (.exit 6) (wO J) W)
 {a0:Act} {W0:ek} (h:VT Vb X2 X3 (H sa sn sc) U5 U6 U11 U14 U15 (V5 mb) (min sn 100) p c N M Zi 19 (min sn 100+1) a0 W0):(Code.loop aeL).wp prog Q a0 W0:=by
 refine Mk.aN (λm a W=>VT Vb X2 X3 (H sa sn sc) U5 U6 U11 U14 U15 (V5 mb) (min sn 100) p c N M Zi 19 m a W) (min sn 100+1) h ?_ ?_
 ·exact UB
 rintro m a9 W ⟨J,i,rfl,j2,j3,j4,j5,j6,oG,lY,qp,vw,ji,hi,hm,HW⟩;unfold wO
 conv=>arg 2;whnf
 rw[j2,j3,j4,j5,j6,oG,lY,qp,vw,ji];clear ji;by_cases be:i<sn/\i<100
 ·exact U9
 ·have h9:i=min sn 100:=G;clear hm j2 j3 j4 j5 j6 oG lY qp vw;by_cases e1:i<sn
  ·have e2:¬i<100:=G;exact u5
  ·exact u5
def Mu{p:Prop}(h:p:=by
 go_wp2;exact Eq.mpr (bu (λa=>Q (.exit 2) a W) (wO.of _ rfl)) (d_ _ W rfl rfl rfl rfl rfl rfl rfl rfl rfl HB.o HE.o)):p:=h
def abe{M:Nat->Nat}{z:St×dZ×Int}(HS:Hid (Dc Vb sa sn kf xf))(wL:Hid (Dc Vb sd sm kg xg))(HM:Hid (M 1=m1/\M 2=m2))
 (d_:∀(J:Nat->to) W,J 2=X2->J 3=(H sa sn sc)->J 4=(H sd sm se)->J 5=U5->J 6=U6->J 11=U11->J 14=(V5 m1)->J 15=(V5 m2)->J 16=U16->Below Vb.heap.size Vb W->TG W Vb.heap.size p c 4 M (qd z (iC p c kf xf 100 z) (iC p c kg xg 100 z) z)->Q (.exit 2) (wO J) W)
 {a0:Act} {W0:ek} (h:VT Vb X2 (H sa sn sc) (H sd sm se) U5 U6 U11 (V5 m1) (V5 m2) U16 100 p c 4 M (λi=>qd z (iC p c kf xf i z) (iC p c kg xg i z) z) 17 (100+1) a0 W0):(Code.loop aeJ).wp prog Q a0 W0:=by
 refine Mk.aN (λm a W=>VT Vb X2 (H sa sn sc) (H sd sm se) U5 U6 U11 (V5 m1) (V5 m2) U16 100 p c 4 M (λi=>qd z (iC p c kf xf i z) (iC p c kg xg i z) z) 17 m a W) (100+1) h ?_ ?_
 ·exact UB
 rintro m a9 W ⟨J,i,rfl,j2,j3,j4,j5,j6,oG,lY,qp,vw,ji,hi,hm,HW⟩;unfold wO
 conv=>arg 2;whnf
 rw[j2,j3,j4,j5,j6,oG,lY,qp,vw,ji];clear ji j2 j3 j4 j5 j6 oG lY qp vw;have HNm:=Z hm;clear hm;have w2:=mO i G;by_cases afs:i<100
 ·by_cases l1:i<sn
  ·by_cases l2:i<sm
   ·obtain⟨gm,s1,o1,e1,g10,g11⟩:=HS.o.2.2 i l1;subst e1;have JQ:=(bk (HW.o.1.block _ (aH g10))).trans g10;have JR:=(bk (HW.o.1.block _ (aH g11))).trans g11;obtain⟨jZ,s2,o2,e2,g20,g21⟩:=wL.o.2.2 i l2;subst e2;have c20:=(bk (HW.o.1.block _ (aH g20))).trans g20;have c21:=(bk (HW.o.1.block _ (aH g21))).trans g21;have QG:=Z (show Calls prog 42 #[V5 m1,.agg #[Y (kf i),.int .u64 (xf i)]] W _ from by rw[<-HM.o.1];exact TG.IR HW.o.2 bd gm);have Dv:=Z (λ(W1:ek) (a0b:Nat->St×dZ×Int) (g:TG W1 Vb.heap.size p c 4 M a0b)=>show Calls prog 42 #[V5 m2,.agg #[Y (kg i),.int .u64 (xg i)]] W1 (λe w'=>e=Vl (.tuple #[])/\Below Vb.heap.size W1 w'/\TG w' Vb.heap.size p c 4 M (wo a0b 2 (DF p c (kg i) (xg i) (a0b 2))))from by rw[<-HM.o.2];exact TG.IR g bd jZ);have CP:=Z HW.o.1;have H21:=Z (And.intro g20 g21);clear gm jZ g10 g11 g20 g21 c20 c21 HW;go_wp2_with fail;refine QG.o.mono ?_;rintro e W1 ⟨rfl,b1,k1⟩;have O7:=Z k1;have cR:=Z (CP.o.trans b1);clear b1 k1 QG CP JQ JR;have c20:=(bk (cR.o.block _ (aH H21.o.1))).trans H21.o.1;have c21:=(bk (cR.o.block _ (aH H21.o.2))).trans H21.o.2;go_wp2_with fail;refine(Dv.o _ _ O7.o).mono ?_;rintro e W2 ⟨rfl,b2,k2⟩;have HG:=Z (show TG W2 Vb.heap.size p c 4 M (qd z (iC p c kf xf (i+1) z) (iC p c kg xg (i+1) z) z)from TG.IT k2 (ad7 _ _ _ _ _ _ _ _ _));have HB:=Z (cR.o.trans b2);clear b2 k2 Dv cR O7 c20 c21;exact UC
   ·obtain⟨gm,s1,o1,e1,g10,g11⟩:=HS.o.2.2 i l1;subst e1;have JQ:=(bk (HW.o.1.block _ (aH g10))).trans g10;have JR:=(bk (HW.o.1.block _ (aH g11))).trans g11;have QG:=Z (show Calls prog 42 #[V5 m1,.agg #[Y (kf i),.int .u64 (xf i)]] W _ from by rw[<-HM.o.1];exact TG.IR HW.o.2 bd gm);have CP:=Z HW.o.1;clear gm g10 g11 HW;go_wp2_with fail;refine QG.o.mono ?_;rintro e W1 ⟨rfl,b1,k1⟩;have HG:=Z (show TG W1 Vb.heap.size p c 4 M (qd z (iC p c kf xf (i+1) z) (iC p c kg xg (i+1) z) z)from by
     rw[vu wL.o.2.1 (Nat.le_of_not_lt l2)];exact TG.IT k1 (abi _ _ _ _ _ _ _))
    have HB:=Z (CP.o.trans b1);clear b1 k1 QG CP JQ JR;exact UC
  ·by_cases l2:i<sm
   ·obtain⟨jZ,s2,o2,e2,g20,g21⟩:=wL.o.2.2 i l2;subst e2;have c20:=(bk (HW.o.1.block _ (aH g20))).trans g20;have c21:=(bk (HW.o.1.block _ (aH g21))).trans g21;have QG:=Z (show Calls prog 42 #[V5 m2,.agg #[Y (kg i),.int .u64 (xg i)]] W _ from by rw[<-HM.o.2];exact TG.IR HW.o.2 bd jZ);have CP:=Z HW.o.1;clear jZ g20 g21 HW;go_wp2_with fail;refine QG.o.mono ?_;rintro e W1 ⟨rfl,b1,k1⟩;have HG:=Z (show TG W1 Vb.heap.size p c 4 M (qd z (iC p c kf xf (i+1) z) (iC p c kg xg (i+1) z) z)from by
     rw[vu HS.o.2.1 (Nat.le_of_not_lt l1)];exact TG.IT k1 (ad8 _ _ _ _ _ _ _))
    have HB:=Z (CP.o.trans b1);clear b1 k1 QG CP c20 c21;exact UC
   ·have hf:=uo (p:=p) (c:=c) (xf:=xf) (z:=z) HS.o.2.1 (.inr ⟨Nat.le_of_not_lt l1,hi⟩);have hg:=uo (p:=p) (c:=c) (xf:=xg) (z:=z) wL.o.2.1 (.inr ⟨Nat.le_of_not_lt l2,hi⟩);have HE:=Z (show TG W Vb.heap.size p c 4 M (qd z (iC p c kf xf 100 z) (iC p c kg xg 100 z) z)from by rw[<-hf,<-hg];exact HW.o.2);have HB:=Z HW.o.1;clear HW hf hg;exact Mu
 ·have h9:i=100:=G;have HE:=Z (show TG W Vb.heap.size p c 4 M (qd z (iC p c kf xf 100 z) (iC p c kg xg 100 z) z)from by have:=HW.o.2;rw[h9]at this;exact this);have HB:=Z HW.o.1;clear HW;exact Mu
end
end Go.Ma
namespace aj.Vm
open Go.Ma (iP gY)
open Go.Ix (jQ)
structure kL(Ls:List (List Nat))(Fr:List Nat)(L:List (Nat×Nat))(kf:Nat->Nat)(nn:Nat):Prop where
 nd:(Ls.flatten++Fr).Nodup
 lt:∀m,m∈Ls.flatten++Fr->m<nn
 up:Fr.Pairwise (· <·)
 inj:∀a b,a∈Ls.flatten->b∈Ls.flatten->kf a=kf b->a=b
 mem:∀k m,(k,m)∈L->m∈Ls.flatten/\kf m=k
 kup:L.Pairwise (λa b=>a.1<b.1)
 len:L.length=Ls.flatten.length
 Jf:Ls.flatten.length+Fr.length=nn
def Fy{s:St}{nq n:Nat}:iP s nq n=true↔∃q,q<nq/\n∈s.a.ls q:=by unfold iP;rw[List.any_eq_true];simp
def jS{s:St}{nq n:Nat}:n∈((List.range nq).map s.a.ls).flatten↔∃q,q<nq/\n∈s.a.ls q:=by
 rw[List.mem_flatten];constructor
 ·rintro⟨l,h1,h2⟩;obtain⟨q,hq,rfl⟩:=List.mem_map.1 h1;exact⟨q,List.mem_range.1 hq,h2⟩
 ·rintro⟨q,hq,h⟩;exact⟨_,List.mem_map.2 ⟨q,List.mem_range.2 hq,rfl⟩,h⟩
def abd{s:St}{nl:Nat}(h:Wf nl s.a):∀k,k<=nl->((List.range k).map s.a.ls).flatten.Nodup:=by
 intro k
 induction k with
 |zero=>intro _;simp
 |succ k ih=>intro hk;rw[List.range_succ,List.map_append,List.flatten_append];simp only[List.map_cons,List.map_nil,List.flatten_cons,List.flatten_nil,List.append_nil];refine List.nodup_append.2 ⟨ih G,h.nd k G,λa ha b X e=>?_⟩;subst e;obtain⟨q,hq,hm⟩:=jS.1 ha;have:=h.XJ q k a G G hm X;omega
def abc{S:Sys}{p:aQ}{s:St}{L:List (Nat×Nat)}{nn:Nat}(hn:S.nq=p.ax.length)(hI:Inv S s)(hL:jQ s.f L)(be:∀q n,q<p.ax.length->n∈s.a.ls q->n<nn):
 kL ((List.range p.ax.length).map s.a.ls) (gY p s nn nn) L (λn=>(s.a.val n).key) nn:=by
 have Xj:=hI.wf;rw[hn]at Xj;have n1:=abd Xj _ (aL _);have hfm:∀m,m∈gY p s nn nn↔m<nn/\iP s p.ax.length m=false:=λm=>by unfold gY;simp
 have gP:(((List.range p.ax.length).map s.a.ls).flatten++gY p s nn nn).Nodup:=by
  refine List.nodup_append.2 ⟨n1,?_,λa ha b X e=>?_⟩
  ·unfold gY;exact List.Pairwise.filter _ List.nodup_range
  ·subst e;have h1:=(hfm a).1 X;have h2:=Fy.2 (jS.1 ha);rw[h2]at h1;exact absurd h1.2 ay
 have fQ:∀m,m∈((List.range p.ax.length).map s.a.ls).flatten++gY p s nn nn↔m∈List.range nn:=by
  intro m;rw[fk,List.mem_range,hfm];constructor
  ·rintro(h|h)
   ·obtain⟨q,hq,hm⟩:=jS.1 h;exact be q m hq hm
   ·exact h.1
  ·intro h;by_cases hh:iP s p.ax.length m=true
   ·exact .inl (jS.2 (Fy.1 hh))
   ·exact .inr ⟨h,by simpa using hh⟩
 have Dz:∀k m,(k,m)∈L↔∃q,q<p.ax.length/\m∈s.a.ls q/\(s.a.val m).key=k:=λk m=>by rw[hL.mem,hI.idx,hn]
 have TN:(L.map (·.2)).Nodup:=by refine List.pairwise_map.2 (hL.up.imp_of_mem ?_);intro a b ha X be he;obtain⟨q,-,-,h1⟩:=(Dz a.1 a.2).1 ha;obtain⟨q',-,-,h2⟩:=(Dz b.1 b.2).1 X;rw[he,h2]at h1;omega
 refine⟨gP,λm hm=>List.mem_range.1 ((fQ m).1 hm),?_,λa b ha X e=>?_,λk m h=>?_,hL.up,?_,?_⟩
 ·unfold gY;exact List.Pairwise.filter _ List.pairwise_lt_range
 ·obtain⟨q,hq,hm⟩:=jS.1 ha;obtain⟨q',Q_,iY⟩:=jS.1 X;exact hI.one G G hm iY e
 ·obtain⟨q,hq,hm,hk⟩:=(Dz k m).1 h;exact⟨jS.2 ⟨q,hq,hm⟩,hk⟩
 ·have hp:(L.map (·.2)).Perm ((List.range p.ax.length).map s.a.ls).flatten:=by
   refine(List.perm_ext_iff_of_nodup TN n1).2 λm=>?_;rw[jS,List.mem_map];constructor
   ·rintro⟨⟨k,m'⟩,h,rfl⟩;obtain⟨q,hq,hm,-⟩:=(Dz k m').1 h;exact⟨q,hq,hm⟩
   ·rintro⟨q,hq,hm⟩;exact⟨((s.a.val m).key,m),(Dz _ _).2 ⟨q,hq,hm,rfl⟩,rfl⟩
  have:=hp.length_eq;rwa[List.length_map]at this
 ·have:=((List.perm_ext_iff_of_nodup gP List.nodup_range).2 fQ).length_eq;rwa[oK,List.length_range]at this
def gF(Ls:List (List Nat))(q i:Nat):List Nat:=(Ls.take q).flatten++(Ls.getD q []).take i
section
variable {Ls:List (List Nat)}{Fr:List Nat}{L:List (Nat×Nat)}{kf:Nat->Nat}{nn:Nat}
def abb{q i:Nat}(hi:i<(Ls.getD q []).length):gF Ls q (i+1)=gF Ls q i++[(Ls.getD q []).getD i 0]:=by unfold gF;rw[List.append_assoc];congr 1;rw[List.take_add_one];congr 1;rw[dN (i:=i),fq hi];rfl
def aba{q:Nat}(hq:q<Ls.length):gF Ls q (Ls.getD q []).length=gF Ls (q+1) 0:=by unfold gF;rw[List.take_length,List.take_zero,List.append_nil,List.take_add_one,List.flatten_append];congr 1;simp[List.getD,hq]
def Bp:gF Ls Ls.length 0=Ls.flatten:=by unfold gF;simp
def wq{q i:Nat}(hq:q<Ls.length)(hi:i<(Ls.getD q []).length):∃t,Ls.flatten=gF Ls q i++(Ls.getD q []).getD i 0::t:=by
 refine⟨(Ls.getD q []).drop (i+1)++(Ls.drop (q+1)).flatten,?_⟩;have h1:Ls=Ls.take q++Ls.getD q []::Ls.drop (q+1):=by
  have e:Ls.getD q []=Ls[q]:=by simp[List.getD,hq]
  rw[e,<-tR hq,List.take_append_drop]
 have h2:Ls.getD q []=(Ls.getD q []).take i++(Ls.getD q []).getD i 0::(Ls.getD q []).drop (i+1):=by
  have e:(Ls.getD q []).getD i 0=(Ls.getD q [])[i]:=by simp only[dN (i:=i),fq hi,Option.getD_some]
  rw[e,<-tR hi,List.take_append_drop]
 conv=>lhs;rw[h1]
 rw[List.flatten_append,List.flatten_cons];unfold gF
 conv=>lhs;rw[h2]
 simp
def kL.fresh(h:kL Ls Fr L kf nn){q i:Nat}(hq:q<Ls.length)(hi:i<(Ls.getD q []).length):(Ls.getD q []).getD i 0∉gF Ls q i/\(Ls.getD q []).getD i 0<nn/\(Ls.getD q []).getD i 0∈Ls.flatten/\∀a,a∈gF Ls q i->a∈Ls.flatten:=by
 obtain⟨t,e⟩:=wq hq hi;have hm:(Ls.getD q []).getD i 0∈Ls.flatten:=by rw[e];simp
 have h1:=(List.nodup_append.1 h.nd).1;rw[e]at h1;refine⟨λhc=>(List.nodup_append.1 h1).2.2 _ hc _ ay rfl,h.lt _ (List.mem_append.2 (.inl hm)),hm,λa ha=>by rw[e];simp[ha]⟩
def kL.free(h:kL Ls Fr L kf nn){i:Nat}(hi:i<Fr.length):Fr.getD i 0∉Ls.flatten++Fr.take i/\Fr.getD i 0<nn/\(0<i->Fr.getD (i-1) 0<Fr.getD i 0):=by
 have e:Fr.getD i 0=Fr[i]:=by simp[List.getD,hi]
 have h2:Fr=Fr.take i++Fr.getD i 0::Fr.drop (i+1):=by rw[e,<-tR hi,List.take_append_drop]
 have h1:=h.nd;rw[h2,<-List.append_assoc]at h1;refine⟨?_,h.lt _ (List.mem_append.2 (.inr (by rw[e];exact ja hi))),λh0=>?_⟩
 ·intro hc;exact(List.nodup_append.1 h1).2.2 _ hc _ List.mem_cons_self rfl
 ·have e':Fr.getD (i-1) 0=Fr[i-1]:=by simp[List.getD,show i-1<Fr.length by omega]
  rw[e,e'];exact List.pairwise_iff_getElem.1 h.up _ _ _ _ G
def kL.keys(h:kL Ls Fr L kf nn){i:Nat}(hi:0<i)(hl:i<L.length):(L.map (·.1)).getD (i-1) 0<(L.map (·.1)).getD i 0:=by
 have e:(L.map (·.1)).getD i 0=L[i].1:=by simp[List.getD,hl]
 have e':(L.map (·.1)).getD (i-1) 0=L[i-1].1:=by simp[List.getD,show i-1<L.length by omega]
 rw[e,e'];exact List.pairwise_iff_getElem.1 h.kup _ _ _ _ G
end
end aj.Vm
namespace Go.Ma
open Go.RowKit aj.Vm
open aj hiding aR an ak
def FD(J:Nat->to):Act:={tmps:=#[J 0,J 1,J 2,J 3,J 4,J 5,J 6,J 7,J 8,J 9,J 10,J 11,J 12,J 13,J 14,J 15,J 16,J 17,J 18,J 19,J 20,J 21,J 22,J 23,J 24,J 25,J 26,J 27,J 28,J 29,J 30,J 31,J 32,J 33,J 34,J 35,J 36,J 37,J 38,J 39,J 40,J 41,J 42,J 43,J 44,J 45,J 46,J 47,J 48,J 49,J 50,J 51,J 52,J 53,J 54,J 55,J 56,J 57,J 58,J 59,J 60,J 61,J 62,J 63,J 64,J 65,J 66,J 67,J 68,J 69,J 70,J 71,J 72,J 73,J 74,J 75,J 76,J 77,J 78,J 79,J 80,J 81,J 82,J 83,J 84,J 85,J 86,J 87,J 88,J 89,J 90,J 91,J 92,J 93,J 94,J 95,J 96,J 97,J 98,J 99,J 100,J 101,J 102,J 103,J 104,J 105,J 106,J 107,J 108,J 109,J 110,J 111,J 112,J 113,J 114,J 115,J 116,J 117,J 118,J 119,J 120,J 121,J 122,J 123,J 124,J 125,J 126,J 127,J 128,J 129,J 130,J 131,J 132,J 133,J 134,J 135,J 136,J 137,J 138,J 139,J 140,J 141,J 142,J 143,J 144,J 145,J 146,J 147,J 148,J 149,J 150,J 151,J 152,J 153,J 154,J 155,J 156,J 157,J 158,J 159,J 160,J 161,J 162,J 163,J 164,J 165,J 166,J 167,J 168,J 169,J 170,J 171,J 172,J 173,J 174,J 175,J 176,J 177,J 178,J 179,J 180,J 181,J 182,J 183,J 184,J 185,J 186,J 187,J 188,J 189,J 190,J 191,J 192,J 193,J 194,J 195,J 196,J 197,J 198,J 199,J 200,J 201,J 202,J 203,J 204,J 205,J 206,J 207,J 208,J 209,J 210,J 211,J 212,J 213,J 214,J 215,J 216,J 217,J 218,J 219,J 220,J 221,J 222,J 223,J 224,J 225,J 226,J 227,J 228,J 229,J 230,J 231,J 232,J 233,J 234,J 235,J 236,J 237,J 238,J 239,J 240,J 241,J 242,J 243],defers:=[]}
def FD.of(A:Array to)(h:A=(FD λk=>A.getD k undef).tmps):({tmps:=A,defers:=[]}:Act)=FD λk=>A.getD k undef:=by rw[h];rfl
noncomputable def ld1:Code:=Mk.iS Proofs.Tryz.f25.body 0
noncomputable def ld2:Code:=Mk.iS Proofs.Tryz.f25.body 1
noncomputable def ld3:Code:=Mk.iS (O ld2) 0
noncomputable def ld4:Code:=Mk.iS Proofs.Tryz.f25.body 2
noncomputable def ld5:Code:=Mk.iS Proofs.Tryz.f25.body 3
structure LD(W:ek)(T:List Nat)(bl bs:Nat)(aa ba ca da qa:Option Addr)(ac bc cc dc qc:Nat)(vv:to)(Ls:List (List Nat))(Fr:List Nat)(L:List (Nat×Nat))(kf:Nat->Nat)(lo h1 h2 hi hj:Nat)(lv lw:Nat->to)(tw:Nat->Nat->to)(Qs:List (List PE)):Prop where
 kl:aF W bl 52 #[H aa Ls.length ac,H ba Fr.length bc,H ca L.length cc,H da L.length dc]
 ks:aF W bs 56 #[H qa Ls.length qc,vv]
 la:mj W lo h1 h2 hi (H aa Ls.length ac) (H ba Fr.length bc) (H ca L.length cc) (H da L.length dc) ⟨Ls,Fr,L.map (·.1),iH (L.map (·.2))⟩ lv
 qs:uY W lo hj (H qa Ls.length qc) Qs lw tw
 ql:Qs.length=Ls.length
 qn:∀q,q<Ls.length->(Qs.getD q []).length=(Ls.getD q []).length
 qk:∀q i,q<Ls.length->i<(Ls.getD q []).length->((Qs.getD q []).getD i ⟨0,[]⟩).key=kf ((Ls.getD q []).getD i 0)
 t:∀x,x∈T->hi<=x/\hj<=x/\x≠bl/\x≠bs
section
variable {W W':ek}{T:List Nat}{bl bs:Nat}{aa ba ca da qa:Option Addr}{ac bc cc dc qc:Nat}{vv:to}{Ls:List (List Nat)}{Fr:List Nat}{L:List (Nat×Nat)}{kf:Nat->Nat}{lo h1 h2 hi hj:Nat}{lv lw:Nat->to}{tw:Nat->Nat->to}{Qs:List (List PE)}
def LD.aG(h:LD W T bl bs aa ba ca da qa ac bc cc dc qc vv Ls Fr L kf lo h1 h2 hi hj lv lw tw Qs)(f:aA T W W'):LD W' T bl bs aa ba ca da qa ac bc cc dc qc vv Ls Fr L kf lo h1 h2 hi hj lv lw tw Qs:=
 ⟨h.kl.aG f (λhc=>(h.t _ hc).2.2.1 rfl),h.ks.aG f (λhc=>(h.t _ hc).2.2.2 rfl),h.la.off f (oF.range λb X=> .inr (h.t b X).1),h.qs.off f (oF.range λb X=> .inr (h.t b X).2.1),h.ql,h.qn,h.qk,h.t⟩
def LD.at_(h:LD W T bl bs aa ba ca da qa ac bc cc dc qc vv Ls Fr L kf lo h1 h2 hi hj lv lw tw Qs){q:Nat}(hq:q<Ls.length):∃xa ya ua la va wa lc wc,aa=O (I xa 0)/\qa=O (I ya 0)/\Vo W (I xa q)=O (H la (Ls.getD q []).length lc)/\Vo W (I ya q)=O (H wa (Ls.getD q []).length wc)/\ua=0/\va=0/\xa<W.heap.size/\ya<W.heap.size/\
 (Ls.getD q []).length<=maxLen/\∀i,i<(Ls.getD q []).length->∃xl xw,la=O (I xl 0)/\wa=O (I xw 0)/\Vo W (I xl i)=O (Y ((Ls.getD q []).getD i 0:Nat))/\Vo W (I xw (i*2))=O (.int .u64 (kf ((Ls.getD q []).getD i 0):Nat)):=by
 have r1:Row W 24 1 (H aa Ls.length ac) Ls.length lv:=h.la.ls.row;have r2:=h.qs.row;rw[h.ql]at r2;obtain⟨xa,xc,ea,-,-,l1⟩:=r1.some (Nat.lt_of_le_of_lt (cM q) hq);obtain⟨ya,yc,eb,-,-,l2⟩:=r2.some (Nat.lt_of_le_of_lt (cM q) hq);simp only[cz]at ea eb;obtain⟨rfl,-,rfl⟩:=ea;obtain⟨rfl,-,rfl⟩:=eb;have c1:=r1.cell (o:=q) G;have c2:=r2.cell (o:=q) G;have i1:Row W 3 1 (lv q) (iH (Ls.getD q [])).length (aX (iH (Ls.getD q []))):=(h.la.ls.q q hq).row;have i2:=(h.qs.q q (by rw[h.ql];exact hq)).row;rw[fV]at i1;rw[h.qn q hq]at i2;obtain⟨la,lc,e1,m1,m2⟩:=iW i1;obtain⟨wa,wc,e2,m2,-⟩:=iW i2;rw[e1]at c1 i1;rw[e2]at c2 i2;refine⟨xa,ya,0,la,0,wa,lc,wc,rfl,rfl,c1,c2,rfl,rfl,l1,l2,G,λi hi=>?_⟩;obtain⟨xl,lc',e3,-,-,-⟩:=i1.some G;obtain⟨xw,wc',e4,-,-,-⟩:=i2.some G;simp only[cz]at e3 e4;obtain⟨rfl,-,rfl⟩:=e3;obtain⟨rfl,-,rfl⟩:=e4;have d1:=i1.cell (o:=i) G;have d2:=i2.cell (o:=i*2) G;unfold aX at d1;rw[rA]at d1;unfold RE at d2;rw[aB G,show i*2 / 2=i by omega,h.qk q i hq hi]at d2;exact⟨xl,xw,rfl,rfl,d1,d2⟩
def SM(V W:ek)(sb B nn:Nat)(kf:Nat->Nat)(D:List Nat):Prop:=aA [sb,B] V W/\Row W 4 1 (H (O (I sb 0)) nn nn) nn (λj=> .bool (decide (j∈D)))/\∃f c,MI W B f c/\c<=D.length/\∀m,m∈D->f (kf m)=O (m:Int)
def SM.drewN{V W:ek}{sb B nn:Nat}{D:List Nat}(h:SM V W sb B nn kf D)(k:Nat):SM V (W.drewN k) sb B nn kf D:=⟨h.1.drewN k,h.2.1.drewN k,h.2.2⟩
end
section
variable {W0:ek}{Q:Exit->Act->ek->Prop}{x4 x5 gv qv:to}{bc:Nat}{p:aQ}{c:Cp}
open Vf (oz qh)
def Kt(h:ow p c)(hg:p.ax.length<=16){k:Nat}(hk:k<=p.ax.length):oz p c k<=16777216/\qh p c k<=16777216:=by
 have key:∀f:Nat->Nat,(∀i,i<k->f i<=1048576)->cT k f<=16777216:=λf hf=>cU (sP k f hf) G;constructor
 ·refine key _ λi hi=>?_;have:=h.q1 i G;split<;>omega
 ·refine key _ λi hi=>?_;have:=h.q1 i G;split<;>omega
def D1(W0:ek)(x4 x5 gv:to)(bc:Nat)(p:aQ)(c:Cp)(m:Nat)(a:Act)(W:ek):Prop:=∃(J:Nat->to) (i:Nat),a=FD J/\J 2=gv/\J 4=x4/\J 5=x5/\J 7=V5 bc/\J 9=Y (oz p c i:Nat)/\J 10=Y (qh p c i:Nat)/\J 11=Y i/\i<=p.ax.length/\m+i=p.ax.length+1/\W=W0
def aa9(hg:Vf.aZ W0 1 gv p.ax.length (λi=> .bool (p.ax.getD i false)))(hq:Vf.aZ W0 1 qv c.aK.length (aX c.aK))(X:aF W0 bc 29 #[Y c.size,qv])(hC:ow p c)(zt:p.ax.length<=16)
 (d_:∀(J:Nat->to),J 4=x4->J 5=x5->J 7=V5 bc->J 9=Y (oz p c p.ax.length:Nat)->J 10=Y (qh p c p.ax.length:Nat)->Q (.exit 0) (FD J) W0)
 {a:Act} {W:ek} (h0:D1 W0 x4 x5 gv bc p c (p.ax.length+1) a W):(Code.loop ld1).wp prog Q a W:=by
 obtain⟨ga,gc,rfl,-,-⟩:=hg.val;obtain⟨qa,qc,rfl,-,-⟩:=hq.val;have Ge:=Z hg;have HQR:=Z hq;clear hg hq;refine Mk.aN (λm a W=>D1 W0 x4 x5 (H ga p.ax.length gc) bc p c m a W) (p.ax.length+1) h0 ?_ ?_
 ·exact T0
 rintro m a0 W ⟨J,i,rfl,j2,j4,j5,j7,j9,nM,oG,hi,hm,rfl⟩;unfold FD
 conv=>arg 2;whnf
 rw[j2,j4,j5,j7,j9,nM,oG];clear j2 j4 j5 j7 j9 nM oG;by_cases be:i<p.ax.length
 ·have w2:=mO i G;have k1:Vo W (I bc 1)=O (H qa c.aK.length qc):=X.cell 1;have lb:=X.lt;have BA:=hC.len;obtain⟨gb,go,gc',e1,-,-,lg,hcg⟩:=Ge.o.some G G;obtain⟨qb,ad6,qc',e2,-,-,a1o,F_⟩:=HQR.o.some G G;simp only[cz]at e1 e2;obtain⟨rfl,-,rfl⟩:=e1;obtain⟨rfl,-,rfl⟩:=e2;have c0:Vo W (I gb (go+i))=O (.bool (p.ax.getD i false)):=hcg i G;have c1:Vo W (I qb (ad6+i))=O (Y (c.aK.getD i 0)):=F_ i G;obtain⟨r1,r2⟩:=Kt hC zt (k:=i) G;have xN:=hC.q1 i be;have eR:oz p c (i+1)=oz p c i+(if p.ax.getD i false then 0 else(c.aK.getD i 0).toNat):=rfl;have eG:qh p c (i+1)=qh p c i+(if p.ax.getD i false then(c.aK.getD i 0).toNat else 0):=rfl;have dE:=Z be;have JG:0<=(i:Int):=G;have Bj:(i:Int)<(c.aK.length:Int):=G;have xZ:(i:Int)<(p.ax.length:Int):=G;have Dq:(i:Int).toNat=i:=G;generalize c.aK.getD i 0=z at*;generalize oz p c i=R at*;generalize qh p c i=a0e at*;have w3:IntKind.i64.wrap ((R:Int)+z)=(R:Int)+z:=bJ _ lI;have w4:IntKind.i64.wrap ((a0e:Int)+z)=(a0e:Int)+z:=bJ _ lI;have HR:=Z eR;have HG:=Z eG;have HZ:=Z xN;clear eR eG xN r1 r2 hcg F_;cases M7:p.ax.getD i false with
  |true=>
   have H1:=HR.o;have H2:=HG.o;rw[M7]at c0 H1 H2;rw[aB rfl]at H1 H2;have HH:=Z (show _/\_ from⟨H1,H2⟩);clear H1 H2;go_wp2;refine⟨_,i+1,FD.of _ rfl,rfl,rfl,rfl,rfl,?_,?_,?_,dE.o,G,rfl⟩
   ·rw[HH.o.1];rfl
   ·refine bu (Value.int .i64) ?_;rw[HH.o.2];have:=HZ.o;omega
   ·first|rfl|exact bu (Value.int .i64) (show(i:Int)+1=((i+1:Nat):Int)by omega)
  |false=>
   have H1:=HR.o;have H2:=HG.o;rw[M7]at c0 H1 H2;rw[aw bd]at H1 H2;have HH:=Z (show _/\_ from⟨H1,H2⟩);clear H1 H2;go_wp2;refine⟨_,i+1,FD.of _ rfl,rfl,rfl,rfl,rfl,?_,?_,?_,dE.o,G,rfl⟩
   ·refine bu (Value.int .i64) ?_;rw[HH.o.1];have:=HZ.o;omega
   ·rw[HH.o.2];rfl
   ·first|rfl|exact bu (Value.int .i64) (show(i:Int)+1=((i+1:Nat):Int)by omega)
 ·obtain rfl:i=p.ax.length:=G;clear be;go_wp2;exact Eq.mpr (bu (λa=>Q (.exit 0) a W) (FD.of _ rfl)) (d_ (λk=>Array.getD _ k undef) rfl rfl rfl rfl rfl)
end
section
variable {V:ek}{Q:Exit->Act->ek->Prop}{bl bs sb B nn:Nat}{aa ba ca da qa:Option Addr}{ac bc cc dc qc:Nat}{vv:to}{Ls:List (List Nat)}{Fr:List Nat}{L:List (Nat×Nat)}{kf:Nat->Nat}{lo h1 h2 hi hj:Nat}{lv lw:Nat->to}{tw:Nat->Nat->to}{Qs:List (List PE)}
def SM.put{W W1 W2:ek}{D:List Nat}{x:Nat}{f:Int->Option Int}{cn:Nat}(bm:sb≠B)(h1:aA [sb,B] V W)(hf:aA [sb] W W1)(hr:Row W1 4 1 (H (O (I sb 0)) nn nn) nn (λj=>if j=x then .bool true else .bool (decide (j∈D))))
 (hm:MI W2 B (QD f (kf x) x) (if(f (kf x)).isSome then cn else cn+1)) (hg:W1.grownBy W2 (O B)) (hc:cn<=D.length) (X0:∀m,m∈D->f (kf m)=O (m:Int)) (hk:∀m,m∈D->kf m≠kf x):SM V W2 sb B nn kf (D++[x]):=by
 have hg':=eK hg;refine⟨(h1.trans (hf.mono ay)).trans (hg'.mono ay),?_,_,_,hm,?_,λm iY=>?_⟩
 ·refine(hr.aG hg' (λb X=>?_)).congr λj _=>?_
  ·simp[Value.ownBlock]at X;subst X;simpa using bm
  ·by_cases e:j=x
   ·rw[aB e];simp[e]
   ·rw[aw e];simp[e]
 ·rw[oK,E0];split<;>omega
 ·unfold QD;rcases List.mem_append.1 iY with h|h
  ·rw[aw (by have:=hk m h;omega)];exact X0 m h
  ·simp at h;subst h;rw[aB rfl]
def D3(V:ek)(bl bs sb B nn:Nat)(kf:Nat->Nat)(Ls:List (List Nat))(q:Nat)(m:Nat)(a:Act)(W:ek):Prop:=∃(J:Nat->to) (i:Nat),a=FD J/\J 4=V5 bl/\J 5=V5 bs/\J 10=Y nn/\J 12=H (O (I sb 0)) nn nn/\J 13= .map (O B)/\J 14=Y (gF Ls q i).length/\J 15=Y q/\J 16=Y i/\i<=(Ls.getD q []).length/\m+i=(Ls.getD q []).length+1/\Hid (SM V W sb B nn kf (gF Ls q i))
def aa8(HL:kL Ls Fr L kf nn){q i:Nat}(hq:q<Ls.length)(hi:i<(Ls.getD q []).length):(gF Ls q i).length<nn:=by obtain⟨t,e⟩:=wq hq hi;have h1:=HL.Jf;have:=bu List.length e;simp only[oK,List.length_cons]at this;omega
def aa7(HD:Hid (LD V [sb,B] bl bs aa ba ca da qa ac bc cc dc qc vv Ls Fr L kf lo h1 h2 hi hj lv lw tw Qs))(HL:Hid (kL Ls Fr L kf nn))(HK:Hid (∀m,m∈Ls.flatten->kf m<18446744073709551616))(hn:nn<=4194304)(bm:sb≠B){q:Nat}(hq:q<Ls.length)
 (d_:∀(J:Nat->to) W,J 4=V5 bl->J 5=V5 bs->J 10=Y nn->J 12=H (O (I sb 0)) nn nn->J 13= .map (O B)->J 14=Y (gF Ls q (Ls.getD q []).length).length->J 15=Y q->SM V W sb B nn kf (gF Ls q (Ls.getD q []).length)->Q (.exit 4) (FD J) W)
 {a:Act} {W:ek} (h0:D3 V bl bs sb B nn kf Ls q ((Ls.getD q []).length+1) a W):(Code.loop ld3).wp prog Q a W:=by
 refine Mk.aN (λm a W=>D3 V bl bs sb B nn kf Ls q m a W) ((Ls.getD q []).length+1) h0 ?_ ?_
 ·rintro a W ⟨J,i,-,-,-,-,-,-,-,-,-,h1,h2,-⟩;omega
 rintro m a0 W ⟨J,i,rfl,j4,j5,nM,pn,rJ,lY,qp,vw,hi,hm,HW⟩;unfold FD
 conv=>arg 2;whnf
 rw[j4,j5,nM,pn,rJ,lY,qp,vw];clear j4 j5 nM pn rJ lY qp vw;have Ku:=Z (HD.o.aG HW.o.1);obtain⟨xa,ya,ua,la,va,wa,lc,wc,rfl,rfl,c1,c2,-,-,l1,l2,Dz,gU⟩:=Ku.o.at_ hq;have HC:=Z gU;clear gU;have k0:=Ku.o.kl.c1;have lb:=Ku.o.kl.lt;have JG:0<=(q:Int):=G;have Bj:(q:Int)<(Ls.length:Int):=G;by_cases be:i<(Ls.getD q []).length
 ·obtain⟨xl,xw,rfl,rfl,d1,d2⟩:=HC.o i be;have w2:IntKind.i64.wrap ((i:Int)+1)=((i+1:Nat):Int):=by unfold maxLen at Dz;rw[bJ _ lI];omega
  obtain⟨f1,f2,f3,f4⟩:=HL.o.fresh hq be;have f5:=aa8 HL.o hq be;have w3:IntKind.i64.wrap (((gF Ls q i).length:Int)+1)=(((gF Ls q i).length+1:Nat):Int):=by rw[bJ _ lI];omega
  obtain⟨-,bo,f,cn,U2,Rh,X0⟩:=HW.o;have s0:Vo W (I sb ((Ls.getD q []).getD i 0))=O (.bool false):=by have:=bo.cell (o:=(Ls.getD q []).getD i 0) G;rwa[decide_eq_false f1]at this
  have ls:=(fE bo sb rfl).2;have fz:=Row.frozen bo ((Ls.getD q []).getD i 0);have E7:=Z (show aA [sb] W (W.setCell (I sb ((Ls.getD q []).getD i 0)) (.bool true))from(aA.refl [sb] W).setCell ay _);have Dk:=Z (bo.set (o:=(Ls.getD q []).getD i 0) G (.bool true));have Dn:=Z (show MI (W.setCell (I sb ((Ls.getD q []).getD i 0)) (.bool true)) B f cn from lW.q8 U2 (E7.o.block _ (lW.lt U2) (by simpa using Ne.symm bm)));have Nq:=Ku.o.aG (E7.o.mono ay);have y0:(W.setCell (I sb ((Ls.getD q []).getD i 0)) (.bool true)).cell? (I bs 0)=O (H (O (I ya 0)) Ls.length qc):=Nq.ks.cell 0;have lbs:=Nq.ks.lt;obtain⟨xa1,ya1,-,la1,-,wa1,lc1,wc1,e1,e2,-,y1,-,-,-,l3,-,QM⟩:=Nq.at_ hq;obtain rfl:ya1=ya:=by simpa using e2.symm
  obtain⟨xl1,xw1,-,rfl,-,y2⟩:=QM i be;have l4:=aH y2;clear QM Nq e1 e2;have HFD:=Z X0;have HKX:=Z (HK.o _ f3);have sU:=Z (show∀m,m∈gF Ls q i->kf m≠kf ((Ls.getD q []).getD i 0)from λm hm e=>f1 (by rw[<-HL.o.inj _ _ (f4 m hm) f3 e];exact hm));have lN:=Z (abb (Ls:=Ls) be);have dE:=Z be;have M0:=Z f2;have sg:=Z HW.o.1;have HCN:=Z Rh;have Og:=Z f5;clear bo U2 X0 f1 f3 f4 HC Rh;generalize(Ls.getD q []).getD i 0=x at*;generalize gF Ls q i=D at*;generalize hqn:(Ls.getD q []).length=nq at*;have Z5:=Z hqn;clear hqn;have Kh:decide ((x:Int)<0)=false:=decide_eq_false G;have uU:decide ((nn:Int)<=(x:Int))=false:=decide_eq_false G;have GO:0<=(x:Int):=G;have hx4:(x:Int)<(nn:Int):=G;have nQ:0<=(i:Int):=G;have qm:(i:Int)<(nq:Int):=G;have ZK:(i:Int).toNat=i:=G;have hz4:(x:Int).toNat=x:=G;have lxl:=aH d1;clear f2 f5 d2 c2 l2 Dz;go_wp2_with (refine abl _ rfl _ _ _ _ rfl IS B cn f rfl (lW.q8 Dn.o rfl) (by have:=HCN.o;have:=Og.o;unfold maxLen;omega) (kf x) x rfl rfl (Db HKX.o) (abk (by have:=M0.o;omega)) (λw' r1 r2 r3=>?_));rename_i w' r1 r2 r3;have sR:=Z (show _/\_ from⟨r1,r2⟩);clear r1 r2 r3 y0 y1 y2 lbs l3 l4 fz s0;go_wp2;refine⟨_,i+1,FD.of _ rfl,rfl,rfl,rfl,rfl,rfl,?_,rfl,?_,by rw[Z5.o];exact dE.o,by rw[Z5.o];omega,?_⟩
  ·rw[lN.o];refine bu (Value.int .i64) ?_;simp
  ·first|rfl|exact bu (Value.int .i64) (show(i:Int)+1=((i+1:Nat):Int)by omega)
  ·rw[lN.o];exact Z (SM.put bm sg.o E7.o Dk.o sR.o.1 sR.o.2 HCN.o HFD.o sU.o)
 ·obtain rfl:i=(Ls.getD q []).length:=G;have HS:=Z HW.o;clear be HC;generalize hqn:(Ls.getD q []).length=nq at*;clear Dz hqn;go_wp2;exact Eq.mpr (bu (λa=>Q (.exit 4) a W) (FD.of _ rfl)) (d_ (λk=>Array.getD _ k undef) W rfl rfl rfl rfl rfl rfl rfl HS.o)
def D2(V:ek)(bl bs sb B nn:Nat)(kf:Nat->Nat)(Ls:List (List Nat))(m:Nat)(a:Act)(W:ek):Prop:=∃(J:Nat->to) (q:Nat),a=FD J/\J 4=V5 bl/\J 5=V5 bs/\J 10=Y nn/\J 12=H (O (I sb 0)) nn nn/\J 13= .map (O B)/\J 14=Y (gF Ls q 0).length/\J 15=Y q/\q<=Ls.length/\m+q=Ls.length+1/\Hid (SM V W sb B nn kf (gF Ls q 0))
def aa6(HD:Hid (LD V [sb,B] bl bs aa ba ca da qa ac bc cc dc qc vv Ls Fr L kf lo h1 h2 hi hj lv lw tw Qs))(HL:Hid (kL Ls Fr L kf nn))(HK:Hid (∀m,m∈Ls.flatten->kf m<18446744073709551616))(hn:nn<=4194304)(bm:sb≠B)(oC:Ls.length<=16)
 (d_:∀(J:Nat->to) W,J 4=V5 bl->J 5=V5 bs->J 10=Y nn->J 12=H (O (I sb 0)) nn nn->J 13= .map (O B)->J 14=Y Ls.flatten.length->SM V W sb B nn kf Ls.flatten->Q (.exit 2) (FD J) W)
 {a:Act} {W:ek} (h0:D2 V bl bs sb B nn kf Ls (Ls.length+1) a W):(Code.loop ld2).wp prog Q a W:=by
 refine Mk.aN (λm a W=>D2 V bl bs sb B nn kf Ls m a W) (Ls.length+1) h0 ?_ ?_
 ·exact T0
 rintro m a0 W ⟨J,q,rfl,j4,j5,nM,pn,rJ,lY,qp,hi,hm,HW⟩;unfold FD
 conv=>arg 2;whnf
 rw[j4,j5,nM,pn,rJ,lY,qp];clear j4 j5 nM pn rJ lY qp;have Ku:=Z (HD.o.aG HW.o.1);have k0:=Ku.o.kl.c1;have lb:=Ku.o.kl.lt;by_cases be:q<Ls.length
 ·have w2:=mO q G;have m0:=Ku.o.ks.c1;have lbs:=Ku.o.ks.lt;obtain⟨xa,ya,ua,la,va,wa,lc,wc,rfl,rfl,c1,c2,-,-,l1,l2,Dz,-⟩:=Ku.o.at_ be;have JG:0<=(q:Int):=G;have Bj:(q:Int)<(Ls.length:Int):=G;have dE:=Z be;have GU:=Z (aba be);go_wp2;go_quiet (fail);go_wp2_with fail;refine aa7 HD HL HK hn bm be (λJ W1 j4 j5 nM pn rJ lY qp Ri=>?_) ⟨_,0,FD.of _ rfl,rfl,rfl,rfl,rfl,rfl,rfl,rfl,rfl,cM _,G,Z (by first|exact HW.o|exact HW.o.drewN _)⟩;simp only[Exit.inBlock,Exit.then]
  apply_assumption
  have Dx:=Z Ri;clear Ri k0 lb m0 lbs c1 c2 l1 l2;have HJ:=Z lY;clear lY;unfold FD;rw[j4,j5,nM,pn,rJ,qp];clear j4 j5 nM pn rJ qp;go_wp2;refine⟨_,q+1,FD.of _ rfl,rfl,rfl,rfl,rfl,rfl,?_,?_,dE.o,G,?_⟩
  ·rw[<-GU.o,<-HJ.o];rfl
  ·first|rfl|exact bu (Value.int .i64) (show(q:Int)+1=((q+1:Nat):Int)by omega)
  ·rw[<-GU.o];exact Dx
 ·obtain rfl:q=Ls.length:=G;have HS:=Z HW.o;clear be;rw[Bp]at HS;rw[Bp];have HO:=Z d_;clear d_;generalize hfl:Ls.flatten.length=fl at*;clear hfl;go_wp2;exact Eq.mpr (bu (λa=>Q (.exit 2) a W) (FD.of _ rfl)) (HO.o (λk=>Array.getD _ k undef) W rfl rfl rfl rfl rfl rfl HS.o)
def SE(V W:ek)(sb B nn:Nat)(kf:Nat->Nat)(D E:List Nat):Prop:=aA [sb,B] V W/\Row W 4 1 (H (O (I sb 0)) nn nn) nn (λj=> .bool (decide (j∈D++E)))/\∃f c,MI W B f c/\∀m,m∈D->f (kf m)=O (m:Int)
def SM.se{W:ek}{D:List Nat}(h:SM V W sb B nn kf D):SE V W sb B nn kf D []:=⟨h.1,h.2.1.congr λj _=>by simp,by obtain⟨f,c,h1,-,h2⟩:=h.2.2;exact⟨f,c,h1,h2⟩⟩
def SE.put{W:ek}{D E:List Nat}{x:Nat}(bm:sb≠B)(h:SE V W sb B nn kf D E)(hx:x<nn):SE V (W.setCell (I sb x) (.bool true)) sb B nn kf D (E++[x]):=by
 obtain⟨h1,h2,f,c,h3,h4⟩:=h;have hf:aA [sb] W (W.setCell (I sb x) (.bool true)):=(aA.refl [sb] W).setCell ay _;refine⟨h1.trans (hf.mono ay),(h2.set (o:=x) G (.bool true)).congr λj _=>?_,f,c,lW.q8 h3 (hf.block _ (lW.lt h3) (by simpa using Ne.symm bm)),h4⟩;by_cases e:j=x
 ·rw[aB e];simp[e]
 ·rw[aw e];simp[e]
def D4(V:ek)(bl bs sb B nn k:Nat)(kf:Nat->Nat)(D:List Nat)(Fr:List Nat)(m:Nat)(a:Act)(W:ek):Prop:=∃(J:Nat->to) (i:Nat),a=FD J/\J 4=V5 bl/\J 5=V5 bs/\J 10=Y nn/\J 12=H (O (I sb 0)) nn nn/\J 13= .map (O B)/\J 14=Y k/\J 18=Y i/\i<=Fr.length/\m+i=Fr.length+1/\Hid (SE V W sb B nn kf D (Fr.take i))
def aa5{k:Nat}(HD:Hid (LD V [sb,B] bl bs aa ba ca da qa ac bc cc dc qc vv Ls Fr L kf lo h1 h2 hi hj lv lw tw Qs))(HL:Hid (kL Ls Fr L kf nn))(hn:nn<=4194304)(bm:sb≠B)
 (d_:∀(J:Nat->to) W,J 4=V5 bl->J 5=V5 bs->J 10=Y nn->J 12=H (O (I sb 0)) nn nn->J 13= .map (O B)->J 14=Y k->SE V W sb B nn kf Ls.flatten Fr->Q (.exit 6) (FD J) W)
 {a:Act} {W:ek} (h0:D4 V bl bs sb B nn k kf Ls.flatten Fr (Fr.length+1) a W):(Code.loop ld4).wp prog Q a W:=by
 refine Mk.aN (λm a W=>D4 V bl bs sb B nn k kf Ls.flatten Fr m a W) (Fr.length+1) h0 ?_ ?_
 ·exact T0
 rintro m a0 W ⟨J,i,rfl,j4,j5,nM,pn,rJ,lY,j18,hi,hm,HW⟩;unfold FD
 conv=>arg 2;whnf
 rw[j4,j5,nM,pn,rJ,lY,j18];clear j4 j5 nM pn rJ lY j18;have Ku:=Z (HD.o.aG HW.o.1);have k1:Vo W (I bl 1)=O (H ba Fr.length bc):=Ku.o.kl.cell 1;have lb:=Ku.o.kl.lt;by_cases be:i<Fr.length
 ·have tp:Row W 3 1 (H ba Fr.length bc) (iH Fr).length (aX (iH Fr)):=Ku.o.la.fr.row;rw[fV]at tp;obtain⟨fb,fc,e,f1,f2,lf⟩:=tp.some G;simp only[cz]at e;obtain⟨rfl,-,rfl⟩:=e;have c1:Vo W (I fb i)=O (Y (Fr.getD i 0:Nat)):=by have:=tp.cell (o:=i) G;unfold aX at this;rwa[rA]at this
  have w2:IntKind.i64.wrap ((i:Int)+1)=((i+1:Nat):Int):=by unfold maxLen at f2;rw[bJ _ lI];omega
  have w3:IntKind.i64.wrap ((i:Int) - 1)=(i:Int) - 1:=by unfold maxLen at f2;rw[bJ _ lI]
  obtain⟨g1,g2,g3⟩:=HL.o.free be;have bo:=HW.o.2.1;have s0:Vo W (I sb (Fr.getD i 0))=O (.bool false):=by have:=bo.cell (o:=Fr.getD i 0) G;rwa[decide_eq_false g1]at this
  have fz:=Row.frozen bo (Fr.getD i 0);have ls:=(fE bo sb rfl).2;have HSE:=Z (HW.o.put bm g2);have Js:=Z (show Fr.take (i+1)=Fr.take i++[Fr.getD i 0]by rw[List.take_add_one,dN,fq be];rfl);have dE:=Z be;have nQ:0<=(i:Int):=G;have qm:(i:Int)<(Fr.length:Int):=G;have ZK:(i:Int).toNat=i:=G;have M0:=Z g2;by_cases Nf:i=0
  ·subst Nf;clear g1 g2 g3 tp bo f1 f2;generalize Fr.getD 0 0=x at*;have GO:0<=(x:Int):=G;have hx4:(x:Int)<(nn:Int):=by have:=M0.o;omega
   have hz4:(x:Int).toNat=x:=G;go_wp2;refine⟨_,0+1,FD.of _ rfl,rfl,rfl,rfl,rfl,rfl,rfl,?_,dE.o,G,?_⟩
   ·rfl
   ·rw[Js.o];exact HSE
  ·have c2:Vo W (I fb (i-1))=O (Y (Fr.getD (i-1) 0:Nat)):=by have:=tp.cell (o:=i-1) G;unfold aX at this;rwa[rA]at this
   have g4:=g3 G;have hgt:(0:Int)<(i:Int):=G;have hz5:0<=(i:Int) - 1:=G;have hz6:(i:Int) - 1<(Fr.length:Int):=G;have hz7:((i:Int) - 1).toNat=i-1:=G;clear g1 g2 g3 tp bo f1 f2;generalize Fr.getD i 0=x at*;generalize Fr.getD (i-1) 0=y at*;have GO:0<=(x:Int):=G;have hx4:(x:Int)<(nn:Int):=by have:=M0.o;omega
   have hz4:(x:Int).toNat=x:=G;go_wp2;refine⟨_,i+1,FD.of _ rfl,rfl,rfl,rfl,rfl,rfl,rfl,?_,dE.o,G,?_⟩
   ·first|rfl|exact bu (Value.int .i64) (show(i:Int)+1=((i+1:Nat):Int)by omega)
   ·rw[Js.o];exact HSE
 ·obtain rfl:i=Fr.length:=G;have HS:=Z HW.o;rw[List.take_length]at HS;clear be;go_wp2;exact Eq.mpr (bu (λa=>Q (.exit 6) a W) (FD.of _ rfl)) (d_ (λk=>Array.getD _ k undef) W rfl rfl rfl rfl rfl rfl HS.o)
end
open Vf (oz qh)
section
variable {V:ek}{Q:Exit->Act->ek->Prop}{bl bs sb B nn:Nat}{aa ba ca da qa:Option Addr}{ac bc cc dc qc:Nat}{vv:to}{Ls:List (List Nat)}{Fr:List Nat}{L:List (Nat×Nat)}{kf:Nat->Nat}{lo h1 h2 hi hj:Nat}{lv lw:Nat->to}{tw:Nat->Nat->to}{Qs:List (List PE)}
def D5(V:ek)(bl B nn k:Nat)(n:Nat)(m:Nat)(a:Act)(W:ek):Prop:=∃(J:Nat->to) (i:Nat),a=FD J/\J 4=V5 bl/\J 10=Y nn/\J 13= .map (O B)/\J 14=Y k/\J 20=Y i/\i<=n/\m+i=n+1/\Hid (∃d,W=V.drewN d)
def aa4{k:Nat}{f:Int->Option Int}{cn:Nat}(HD:Hid (LD V [sb,B] bl bs aa ba ca da qa ac bc cc dc qc vv Ls Fr L kf lo h1 h2 hi hj lv lw tw Qs))(HL:Hid (kL Ls Fr L kf nn))(HM:Hid (MI V B f cn))(HF:Hid (∀m,m∈Ls.flatten->f (kf m)=O (m:Int)))(HK:Hid (∀m,m∈Ls.flatten->kf m<18446744073709551616))(hn:nn<=4194304)
 (d_:∀(J:Nat->to) W,J 4=V5 bl->J 10=Y nn->J 13= .map (O B)->J 14=Y k->(∃d,W=V.drewN d)->Q (.exit 8) (FD J) W)
 {a:Act} {W:ek} (h0:D5 V bl B nn k L.length (L.length+1) a W):(Code.loop ld5).wp prog Q a W:=by
 refine Mk.aN (λm a W=>D5 V bl B nn k L.length m a W) (L.length+1) h0 ?_ ?_
 ·exact TR
 rintro m a0 W ⟨J,i,rfl,j4,nM,rJ,lY,j20,hi,hm,HW⟩;obtain⟨d,rfl⟩:=HW.o;unfold FD
 conv=>arg 2;whnf
 rw[j4,nM,rJ,lY,j20];clear j4 nM rJ lY j20;have k2:Vo V (I bl 2)=O (H ca L.length cc):=HD.o.kl.cell 2;have lb:=HD.o.kl.lt;by_cases be:i<L.length
 ·have k3:Vo V (I bl 3)=O (H da L.length dc):=HD.o.kl.cell 3;have Gs:Row V 46 1 (H ca L.length cc) (L.map (·.1)).length (pU (L.map (·.1))):=HD.o.la.ks.row;have VE:Row V 3 1 (H da L.length dc) (iH (L.map (·.2))).length (aX (iH (L.map (·.2)))):=HD.o.la.ns.row;rw[List.length_map]at Gs;rw[fV,List.length_map]at VE;obtain⟨xa,xc,ea,f1,f2,la⟩:=Gs.some G;obtain⟨ya,yc,eb,-,-,lb'⟩:=VE.some G;simp only[cz]at ea eb;obtain⟨rfl,-,rfl⟩:=ea;obtain⟨rfl,-,rfl⟩:=eb;have q0:Vo V (I xa i)=O (.int .u64 ((L.map (·.1)).getD i 0:Nat)):=Gs.cell (o:=i) G;have q1:Vo V (I ya i)=O (Y ((L.map (·.2)).getD i 0:Nat)):=by have:=VE.cell (o:=i) G;unfold aX at this;rwa[rA]at this
  have w2:IntKind.i64.wrap ((i:Int)+1)=((i+1:Nat):Int):=by unfold maxLen at f2;rw[bJ _ lI];omega
  have w3:IntKind.i64.wrap ((i:Int) - 1)=(i:Int) - 1:=by unfold maxLen at f2;rw[bJ _ lI]
  obtain⟨g1,g2⟩:=HL.o.mem _ _ (abj be);have HFN:=Z (show f (((L.map (·.1)).getD i 0:Nat):Int)=O (((L.map (·.2)).getD i 0:Nat):Int)by rw[<-g2];exact HF.o _ g1);have Xa:=Z (show(L.map (·.1)).getD i 0<18446744073709551616 by rw[<-g2];exact HK.o _ g1);have dE:=Z be;have nQ:0<=(i:Int):=G;have qm:(i:Int)<(L.length:Int):=G;have ZK:(i:Int).toNat=i:=G;by_cases Nf:i=0
  ·subst Nf;clear g1 g2 Gs VE f1 f2;generalize(L.map (·.1)).getD 0 0=kx at*;generalize(L.map (·.2)).getD 0 0=nx at*;go_wp2_with (at_lookup;refine ku _ rfl _ _ _ rfl IS B cn f rfl (lW.q8 HM.o rfl) _ rfl (Db Xa.o) _ HFN.o ?_);go_quiet (fail);go_wp2;refine⟨_,0+1,FD.of _ rfl,rfl,rfl,rfl,rfl,?_,dE.o,G,Z ⟨_,by first|rfl|rw[xx]⟩⟩;rfl
  ·have q2:Vo V (I xa (i-1))=O (.int .u64 ((L.map (·.1)).getD (i-1) 0:Nat)):=Gs.cell (o:=i-1) G;have g4:=HL.o.keys G be;have hgt:0<i:=G;have Bz:decide (0<i)=true:=yR hgt;have aft:decide ((0:Int)<(i:Int))=true:=yR G;have hz5:0<=(i:Int) - 1:=G;have hz6:(i:Int) - 1<(L.length:Int):=G;have hz7:((i:Int) - 1).toNat=i-1:=G;clear g1 g2 Gs VE f1 f2;generalize(L.map (·.1)).getD i 0=kx at*;generalize(L.map (·.1)).getD (i-1) 0=ky at*;generalize(L.map (·.2)).getD i 0=nx at*;go_wp2_with (at_lookup;refine ku _ rfl _ _ _ rfl IS B cn f rfl (lW.q8 HM.o rfl) _ rfl (Db Xa.o) _ HFN.o ?_);go_quiet (fail);go_wp2;refine⟨_,i+1,FD.of _ rfl,rfl,rfl,rfl,rfl,?_,dE.o,G,Z ⟨_,by first|rfl|rw[xx]⟩⟩
   first|rfl|exact bu (Value.int .i64) (show(i:Int)+1=((i+1:Nat):Int)by omega)
 ·obtain rfl:i=L.length:=G;clear be;go_wp2;exact Eq.mpr (bu (λa=>Q (.exit 8) a (V.drewN d)) (FD.of _ rfl)) (d_ (λk=>Array.getD _ k undef) _ rfl rfl rfl rfl ⟨d,rfl⟩)
end
section
variable {w:ek}{p:aQ}{c:Cp}{gv zv a b c1 d qv vv:to}{Ls:List (List Nat)}{Fr:List Nat}{L:List (Nat×Nat)}{kf:Nat->Nat}{h1 h2 hi hj:Nat}{lv lw:Nat->to}{tw:Nat->Nat->to}{Qs:List (List PE)}
def DA9(bl bs R a0e:Nat)(W0:ek)(a:Act)(V:ek):Prop:=V=W0/\∃J:Nat->to,a=FD J/\J 4=V5 bl/\J 5=V5 bs/\J 9=Y R/\J 10=Y a0e
def TU{p:Prop}(h:p:=by
 have HE9:=Z e9;clear e9 hR9;go_wp2;exact⟨rfl,_,FD.of _ rfl,rfl,rfl,HE9.o,rfl⟩):p:=h
def aa3(hg:Vf.aZ w 1 gv p.ax.length (λi=> .bool (p.ax.getD i false)))(hz:Vf.aZ w 1 zv c.aK.length (aX c.aK))(hC:ow p c)(zt:p.ax.length<=16)
 (hl:mj w 0 h1 h2 hi a b c1 d ⟨Ls,Fr,L.map (·.1),iH (L.map (·.2))⟩ lv) (hq:uY w 0 hj qv Qs lw tw) (hhi:hi<=w.heap.size) (hhj:hj<=w.heap.size) (HL:Hid (kL Ls Fr L kf (dw (aC p c)))) (Tx:dw (aC p c)<=4194304)
 (HK:Hid (∀m,m∈Ls.flatten->kf m<18446744073709551616)) (oC:Ls.length<=16) (ql:Qs.length=Ls.length) (qn:∀q,q<Ls.length->(Qs.getD q []).length=(Ls.getD q []).length) (qk:∀q i,q<Ls.length->i<(Ls.getD q []).length->((Qs.getD q []).getD i ⟨0,[]⟩).key=kf ((Ls.getD q []).getD i 0)):
 Calls prog 25 #[.agg #[a,b,c1,d],.agg #[qv,vv],gv,Vf.cV c zv] w (λe w'=>e=Vl (.bool true)/\Below w.heap.size w w'):=by
 have l1:Row w 24 1 a Ls.length lv:=hl.ls.row;have l2:Row w 3 1 b (iH Fr).length (aX (iH Fr)):=hl.fr.row;have l3:Row w 46 1 c1 (L.map (·.1)).length (pU (L.map (·.1))):=hl.ks.row;have l4:Row w 3 1 d (iH (L.map (·.2))).length (aX (iH (L.map (·.2)))):=hl.ns.row;have l5:=hq.row;rw[fV]at l2;rw[List.length_map]at l3;rw[fV,List.length_map]at l4;rw[ql]at l5;obtain⟨aa,ac,rfl,-,-⟩:=iW l1;obtain⟨ba,bc,rfl,-,-⟩:=iW l2;obtain⟨ca,cc,rfl,-,-⟩:=iW l3;obtain⟨da,dc,rfl,-,-⟩:=iW l4;obtain⟨qa,qc,rfl,-,-⟩:=iW l5;obtain⟨za,zc,rfl,-,-⟩:=hz.val;clear l1 l2 l3 l4 l5;obtain⟨W0,kX⟩:∃W0,W0=((w.alloc (CA #[H aa Ls.length ac,H ba Fr.length bc,H ca L.length cc,H da L.length dc] 52)).alloc (CA #[H qa Ls.length qc,vv] 56)).alloc (CA #[Y c.size,H za c.aK.length zc] 29):=⟨_,rfl⟩;have ru:W0.heap.size=w.heap.size+3:=by rw[kX];simp
 have ep:Below w.heap.size w W0:=by rw[kX];exact(((aY _ _).alloc (aL _) _).alloc ay _).alloc jz _
 have kl:aF W0 w.heap.size 52 #[H aa Ls.length ac,H ba Fr.length bc,H ca L.length cc,H da L.length dc]:=by rw[kX];exact((aF.new _ _ _).alloc _).alloc _
 have ks:aF W0 (w.heap.size+1) 56 #[H qa Ls.length qc,vv]:=by rw[kX];exact(aF.bR ay).alloc _
 have kc:aF W0 (w.heap.size+2) 29 #[Y c.size,H za c.aK.length zc]:=by rw[kX];exact aF.bR ay
 have HG:=Z (hg.aG (aA.af ep));have HZ:=Z (hz.aG (aA.af ep));have HX:=Z (show _/\_/\_ from⟨kl,ks,kc⟩);have HY:=Z (show _/\_ from⟨hl.off (aA.af (S:=[]) ep) (oF.nil _ _ _ _),hq.off (aA.af (S:=[]) ep) (oF.nil _ _ _ _)⟩);have eV:=Z (show _/\_ from⟨ep,ru⟩);have HQ:=Z (show _/\_/\_ from⟨ql,qn,qk⟩);have HCP:=Z hC;clear hg hz hl hq ep ru kl ks kc ql qn qk hC;unfold Vf.cV;go_enter func25,ntmps25;go_wp2_with fail;rw[<-kX];clear kX;refine aa9 HG.o HZ.o HX.o.2.2 HCP.o zt (λJ j4 j5 j7 j9 nM=>?_) ⟨_,0,FD.of _ rfl,rfl,rfl,rfl,rfl,rfl,rfl,rfl,cM _,G,rfl⟩;simp only[Exit.inBlock,Exit.then]
 apply_assumption
 obtain⟨r1,r2⟩:=Kt HCP.o zt (aL _);have mB:=HCP.o.s1;have aeM:=HCP.o.s2;have gP:dw (aC p c)=min (oz p c p.ax.length) c.size.toNat+qh p c p.ax.length:=Vf.Fl p c;have k0:=HX.o.2.2.c1;have lk:=HX.o.2.2.lt;generalize dw (aC p c)=nn at*;generalize oz p c p.ax.length=R at*;generalize qh p c p.ax.length=a0e at*;have M0:=Z gP;have eF:=Z (show _/\_/\_ from⟨r1,r2,Tx⟩);have BK:= @run_makeMap prog;have JL:=Z (show 1*nn<=281474976710656/\nn<=maxLen by unfold maxLen;omega);obtain⟨R9,hR9⟩:∃R9,R9=min R c.size.toNat:=⟨_,rfl⟩;have Yv:=Z hR9;refine wp_seq ?_;refine wp_mono (Q:=λe a V=>e=Exit.normal/\DA9 w.heap.size (w.heap.size+1) R9 a0e W0 a V) ?_ ?_
 ·unfold FD;rw[j4,j5,j7,j9,nM];clear j4 j5 j7 j9 nM gP;by_cases hgt:c.size<(R:Int)
  ·have e9:Y c.size=Y (R9:Nat):=bu _ G;exact TU
  ·have e9:Y (R:Nat)=Y (R9:Nat):=bu _ G;exact TU
 clear j4 j5 j7 j9 nM gP hR9 k0 lk mB aeM;rintro e a V ⟨rfl,rfl,J,rfl,j4,j5,j9,nM⟩;simp only[Exit.then];have w9:IntKind.i64.wrap ((a0e:Int)+(R9:Int))=(nn:Int):=by have:=M0.o;have:=Yv.o;rw[bJ _ lI];omega
 clear r1 r2 Tx;unfold FD;rw[j4,j5,j9,nM];clear j4 j5 j9 nM;go_wp2_with (refine jr rfl (.tmp 56) (.tmp 56) 22 rfl 4 underlying22 Vf.sK rfl .i64 .i64 _ _ nn rfl rfl rfl rfl JL.o.1 JL.o.2 ?_);intro W1 Dt fI;obtain⟨V1,Kv⟩:∃V1,V1=W1.alloc (.map #[] 0):=⟨_,rfl⟩;have TT:V.heap.size<W1.heap.size:=(fE Dt V.heap.size rfl).2;have hbv:Below V.heap.size V V1:=by rw[Kv];exact fI.alloc fI.size _
 have hf:=aA.af (S:=[]) hbv;have Xk:=Z (show LD V1 [V.heap.size,W1.heap.size] w.heap.size (w.heap.size+1) aa ba ca da qa ac bc cc dc qc vv Ls Fr L kf 0 h1 h2 hi hj lv lw tw Qs from
  ⟨HX.o.1.aG hf ay,HX.o.2.1.aG hf ay,HY.o.1.off hf (oF.nil _ _ _ _),HY.o.2.off hf (oF.nil _ _ _ _),HQ.o.1,HQ.o.2.1,HQ.o.2.2,λx hx=>by
    have:=eV.o.2;simp only[dK,List.not_mem_nil,or_false]at hx;rcases hx with rfl|rfl
    ·refine⟨?_,?_,?_,?_⟩<;>omega
    ·refine⟨?_,?_,?_,?_⟩<;>omega⟩)
 have HMM:=Z (show MI V1 W1.heap.size (λ_=>MT) 0 by rw[Kv];exact lW.made (P:=prog) (k:=46) (e:=3) (qk:= .u64) (qe:= .i64) W1);have HRR:=Z (show Row V1 4 1 (H (O (I V.heap.size 0)) nn nn) nn (λj=> .bool (decide (j∈gF Ls 0 0)))by
  refine(Dt.aG ((aA.refl [] W1).alloc (.map #[] 0)) ay).congr ?_ |> λh=>Kv▸h;intro j _;simp[gF])
 have DB:=Z (show _/\_ from⟨(eV.o.1.trans (hbv.mono eV.o.1.size)),TT⟩);have k0:(W1.alloc (.map #[] 0)).cell? (I w.heap.size 0)=O (H aa Ls.length ac):=by rw[<-Kv];exact Xk.o.kl.cell 0
 have k2:(W1.alloc (.map #[] 0)).cell? (I w.heap.size 2)=O (H ca L.length cc):=by rw[<-Kv];exact Xk.o.kl.cell 2
 have k3:(W1.alloc (.map #[] 0)).cell? (I w.heap.size 3)=O (H da L.length dc):=by rw[<-Kv];exact Xk.o.kl.cell 3
 have m0:(W1.alloc (.map #[] 0)).cell? (I (w.heap.size+1) 0)=O (H qa Ls.length qc):=by rw[<-Kv];exact Xk.o.ks.cell 0
 have lk:w.heap.size+1<W1.heap.size:=by have:=eV.o.2;omega
 clear Dt fI hbv hf TT;go_wp2_with fail;rw[<-Kv];clear Kv BK;generalize V.heap.size=sb at*;generalize W1.heap.size=B at*;clear k0 k2 k3 m0 lk w9;have sU:=Z (show sb≠B by have:=DB.o.2;omega);refine aa6 Xk HL HK eF.o.2.2 sU.o oC (λJ W2 j4 j5 nM pn rJ lY Ri=>?_) ⟨_,0,FD.of _ rfl,rfl,rfl,rfl,rfl,rfl,rfl,rfl,cM _,G,Z ⟨aA.refl _ _,HRR.o,_,_,HMM.o,cM _,λm hm=>by simp[gF]at hm⟩⟩;simp only[Exit.inBlock,Exit.then]
 apply_assumption
 have Dx:=Z Ri;clear Ri;generalize hfl:Ls.flatten.length=fl at*;have HFL:=Z hfl;clear hfl;unfold FD;rw[j4,j5,nM,pn,rJ,lY];clear j4 j5 nM pn rJ lY;go_wp2_with fail;refine aa5 Xk HL eF.o.2.2 sU.o (λJ W3 j4 j5 nM pn rJ lY hse=>?_) ⟨_,0,FD.of _ rfl,rfl,rfl,rfl,rfl,rfl,rfl,rfl,cM _,G,Z Dx.o.se⟩;simp only[Exit.inBlock,Exit.then]
 apply_assumption
 have HSE:=Z hse;clear hse;unfold FD;rw[j4,nM,rJ,lY];clear j4 j5 nM pn rJ lY;go_wp2_with fail;obtain⟨f3,h3,f,cn,hm3,DA⟩:=HSE.o;have Nr:=Z (Xk.o.aG f3);have Dl:=Z f3;clear f3 h3;refine aa4 Nr HL (Z hm3) (Z DA) HK eF.o.2.2 (λJ W4 j4 nM rJ lY hd=>?_) ⟨_,0,FD.of _ rfl,rfl,rfl,rfl,rfl,rfl,cM _,G,Z ⟨0,rfl⟩⟩;obtain⟨dd,rfl⟩:=hd;simp only[Exit.inBlock,Exit.then]
 apply_assumption
 obtain⟨-,k1,k2⟩:=Nr.o.kl.c3;have lk:=Nr.o.kl.lt;have RH:=Z (show fl=L.length/\fl+Fr.length=nn from⟨by rw[<-HFL.o];exact HL.o.len.symm,by rw[<-HFL.o];exact HL.o.Jf⟩);have oY:=Z (show Below w.heap.size w (W3.drewN dd)from(DB.o.1.trans (Dl.o.below (B:=w.heap.size) DB.o.1.size (λb X=>by
  have h1:=(Xk.o.t b X);have h2:=eV.o.2;have h3:=DB.o.2;simp only[dK,List.not_mem_nil,or_false]at X;omega))).trans (az _ _ dd))
 obtain rfl:=RH.o.1;have e2:=RH.o.2;have w8:IntKind.i64.wrap ((L.length:Int)+(Fr.length:Int))=(nn:Int):=by have:=eF.o.2.2;rw[bJ _ lI];omega
 unfold FD;rw[j4,nM,rJ,lY];clear j4 nM rJ lY e2;go_wp2
 first|refine Vf.fy (P:=prog) (fn:=Proofs.Tryz.f25) rfl ?_|(rw[jO];refine Vf.fy (P:=prog) (fn:=Proofs.Tryz.f25) rfl ?_)
 exact⟨rfl,oY.o⟩
end
end Go.Ma
namespace aj.Vm
section
variable {Qs:List (List PE)}{gh:Nat->Bool}{q i k:Nat}{Ls:List (List Nat)}
variable {p:aQ}{c:Cp}{s s':St}
def aa2(s:St){q:Nat}(hq:q<p.ax.length):(nA p s).aK.getD q []=nz p s q:=by unfold nA;exact jL _ _ hq
def aa1(s:St):(nA p s).aK.length=p.ax.length:=by simp[nA]
end
end aj.Vm
namespace Go.Ma
open Go.RowKit aj.Vm Go Go.ChangeMaps Go.WideShapes
open aj hiding aR an ak
section
variable {W W':ek}{B c:Nat}{P:Nat->Prop}
end
end Go.Ma
namespace Go.Ma
open Go.RowKit aj.Vm
open aj hiding aR an ak
def FT(J:Nat->to):Act:={tmps:=#[J 0,J 1,J 2,J 3,J 4,J 5,J 6,J 7,J 8,J 9,J 10,J 11,J 12,J 13,J 14,J 15,J 16,J 17,J 18,J 19,J 20,J 21,J 22,J 23,J 24,J 25,J 26],defers:=[]}
def FT.of(A:Array to)(h:A=(FT λk=>A.getD k undef).tmps):({tmps:=A,defers:=[]}:Act)=FT λk=>A.getD k undef:=by rw[h];rfl
section
variable {W0:ek}{Q:Exit->Act->ek->Prop}{gv vv:to}{bs a0e lo hi qc:Nat}{qa:Option Addr}{gh:Nat->Bool}{Qs:List (List PE)}{lw:Nat->to}{tw:Nat->Nat->to}
variable {W W':ek}{bb bn bc ba:Nat}{za qb qn ea:Option Addr}{ah tr vb vn:to}{zc cb cn ec:Nat}{p:aQ}{c:Cp}{Qb Qn:List (List PE)}{told:List Nat}{lb ln:Nat->to}{tb tn:Nat->Nat->to}
def FM(J:Nat->to):Act:={tmps:=#[J 0,J 1,J 2,J 3,J 4,J 5,J 6,J 7,J 8,J 9,J 10,J 11,J 12,J 13,J 14,J 15,J 16,J 17,J 18,J 19,J 20,J 21,J 22,J 23,J 24,J 25,J 26,J 27,J 28,J 29,J 30,J 31,J 32,J 33,J 34,J 35,J 36,J 37,J 38,J 39,J 40,J 41,J 42,J 43,J 44,J 45,J 46,J 47,J 48,J 49,J 50,J 51,J 52,J 53,J 54,J 55,J 56,J 57,J 58,J 59,J 60,J 61,J 62,J 63,J 64,J 65,J 66,J 67,J 68,J 69,J 70,J 71,J 72,J 73,J 74,J 75,J 76,J 77,J 78,J 79,J 80,J 81,J 82,J 83,J 84,J 85,J 86,J 87,J 88,J 89,J 90,J 91,J 92,J 93,J 94,J 95,J 96,J 97,J 98,J 99,J 100,J 101,J 102,J 103,J 104,J 105,J 106,J 107,J 108,J 109,J 110,J 111,J 112,J 113,J 114,J 115,J 116,J 117,J 118,J 119,J 120,J 121,J 122,J 123,J 124,J 125,J 126,J 127,J 128,J 129,J 130,J 131,J 132,J 133,J 134,J 135,J 136,J 137,J 138,J 139,J 140,J 141,J 142,J 143,J 144,J 145,J 146,J 147,J 148,J 149,J 150,J 151,J 152,J 153,J 154,J 155,J 156,J 157,J 158,J 159,J 160,J 161,J 162,J 163,J 164,J 165,J 166,J 167,J 168,J 169,J 170,J 171,J 172,J 173,J 174,J 175,J 176,J 177,J 178,J 179,J 180,J 181,J 182,J 183,J 184,J 185,J 186,J 187,J 188,J 189,J 190,J 191,J 192,J 193,J 194,J 195,J 196,J 197,J 198,J 199,J 200,J 201,J 202,J 203,J 204,J 205,J 206,J 207,J 208,J 209,J 210,J 211,J 212,J 213,J 214,J 215,J 216,J 217,J 218,J 219,J 220,J 221,J 222,J 223,J 224,J 225,J 226,J 227,J 228,J 229,J 230],defers:=[]}
def FM.of(A:Array to)(h:A=(FM λk=>A.getD k undef).tmps):({tmps:=A,defers:=[]}:Act)=FM λk=>A.getD k undef:=by rw[h];rfl
variable {V:ek}{B1 B2 B3 B4 x:Nat}{rem:Bool}
variable {w:ek}{zv qvb qvn tv:to}{lob hib lon fD:Nat}
end
open Vf (Kp fW pV aZ cV)
open Ix (jQ)
section
variable {w w':ek}{C C':Co}{lo:Nat}{p:aQ}{c:Cp}{s:St}{t:dZ}{used:Int}
def Kw(h:iI w C lo p c s t used):Calls prog 20 #[V5 C.mb] w (ph w (nA p s)):=by obtain⟨RO,K,T,h1,M,V,hS,hI,jo⟩:=h;exact Kq h1 (cE M.check).1 M.AY
def iI.node(h:iI w C lo p c s t used){q n:Nat}(hq:q<p.ax.length)(hn:n∈s.a.ls q):n<dw (aC p c):=by obtain⟨RO,K,T,h1,M,-,-,hI,-⟩:=h;obtain⟨R,A,-,hR,ha,oM⟩:=h1.m.ar;rw[<-ha]at hn;have:=hR.zO q n hq hn;have:=hR.made;have:=M.nd;omega
def iI.nn(h:iI w C lo p c s t used):dw (aC p c)<=4194304:=by obtain⟨RO,K,T,h1,M,-⟩:=h;rw[<-M.nd];exact M.AY
def iI.gM(h:iI w C lo p c s t used):ow p c:=by obtain⟨RO,K,T,h1,M,-⟩:=h;exact M.gM
structure Arg(w:ek)(gv zv:to)(p:aQ)(c:Cp):Prop where
 g:aZ w 1 gv p.ax.length (λi=> .bool (p.ax.getD i false))
 z:aZ w 1 zv c.aK.length (aX c.aK)
variable {w2 W:ek}{C2:Co}{pg:Nat}{s2:St}{t2:dZ}{vU:Int}{gv zv qv vv qv2 vv2:to}{lv Ze:Nat->to}{tv tv2:Nat->Nat->to}{lo1 FU lo3 MU:Nat}
def Arg.later(h:Arg w gv zv p c)(b:Below w.heap.size w W):Arg W gv zv p c:=⟨h.g.aG (aA.af b),h.z.aG (aA.af b)⟩
def QO(A:Arg W gv zv p c)(h:iI w C lo p c s t used){L:List (Nat×Nat)}{a b c1 d:to}{h1 h2 hi:Nat}{lw:Nat->to}(hL:jQ s.f L)(hl:mj W lo3 h1 h2 hi a b c1 d (C_ p s (dw (aC p c)) L) lw)(hs:jM W lo1 FU qv vv (nA p s) lv tv)(hhi:hi<=W.heap.size)(hh1:FU<=W.heap.size):
 Calls prog 25 #[.agg #[a,b,c1,d],.agg #[qv,vv],gv,cV c zv] W (λe w'=>e=Vl (.bool true)/\Below W.heap.size W w'):=by
 have hI:=h.inv;have FJ:=h.aeE.g;have HL:=abc (S:=aC p c) rfl hI hL λq n hq hn=>h.node hq hn;have key:∀q,q<p.ax.length->(nA p s).aK.getD q []=nz p s q/\((List.range p.ax.length).map s.a.ls).getD q []=s.a.ls q:=λq hq=>⟨aa2 s hq,jL _ _ hq⟩;refine aa3 (kf:=λn=>(s.a.val n).key) (Fr:=gY p s (dw (aC p c)) (dw (aC p c))) A.g A.z h.gM G (hl.lower (cM _)) (hs.qs.mono (cM _) (aL _)) hhi hh1 (Z HL) h.nn (Z λm hm=>?_) jz (by rw[aa1];simp) (λq hq=>?_) (λq i hq hi=>?_)
 ·obtain⟨q,hq,hn⟩:=jS.1 hm;exact hI.key q m hq hn
 ·simp only[List.length_map,List.length_range]at hq;rw[(key q hq).1,(key q hq).2];unfold nz;rw[List.length_map]
 ·simp only[List.length_map,List.length_range]at hq;rw[(key q hq).2]at hi ⊢;rw[(key q hq).1];unfold nz;simp[List.getD,hi,tY]
end
end Go.Ma
namespace Go.Ma
open Go.RowKit aj.Vm
open aj hiding aR an ak
open Vf (aZ)
section
variable {w:ek}{va vb:to}{n:Nat}{g:Nat->Nat}{h:Bool}{t:Int}
end
open Vf (Kp fW pV cV)
section
variable {w w0:ek}{C:Co}{lo:Nat}{p:aQ}{c:Cp}{s:St}{t:dZ}{used:Int}{ga va ta oa ca za qa ua:Option Addr}{gc vc tc oc cc zc qc uc n1 n2 n3 n4 qn un:Nat}{ms:Int}{lv:Nat->to}{tv:Nat->Nat->to}{lo1 FU key mb:Nat}
end
end Go.Ma
namespace Go.Ma
open Go.RowKit aj.Vm Go.ChangeShapes Go.WideShapes Go.Deep
open aj hiding aR an ak
open Vf (Kp fW pV aZ)
section
variable {a0g:Type}{enc:TypeId×to->a0g}{P:Program}{w:ek}{base:Nat}{spare:Nat->Bool}{held:Bool}
def Rd(enc:TypeId×to->a0g)(P:Program)(w:ek)(base:Nat)(spare:Nat->Bool)(held:Bool)(t:TypeId)(cs:List to):Prop:=∃n y,DataW.trod enc P w base spare held n t cs=O y
def Rd.int{t:TypeId}{k:IntKind}{v:to}(ht:P.underlying t=O (.int k))(h:Rd enc P w base spare held t [v]):∃n,v= .int k n/\(Lit.int k n).wf=true:=by obtain⟨f,y,h⟩:=h;obtain⟨n,e,-,hw⟩:=DataW.trod_int ht h;simp at e;exact⟨n,e,hw⟩
def Rd.bool{t:TypeId}{v:to}(ht:P.underlying t=O .bool)(h:Rd enc P w base spare held t [v]):∃b,v= .bool b:=by obtain⟨f,y,h⟩:=h;obtain⟨n,e,-⟩:=DataW.trod_bool ht h;simp at e;exact⟨n,e⟩
def Rd.fields{t:TypeId}{fs:Array Field}{cs:List to}(ht:P.underlying t=O (.struct fs))(E3:oneCellFields P fs=true)(hC:P.cellsOf t=fs.size)(h:Rd enc P w base spare held t cs):
 cs.length=fs.size/\∀(j:Nat) (f:Field),fs[j]? =O f->∃v,cs[j]? =O v/\Rd enc P w base spare held f.type [v]:=by
 obtain⟨fu,y,h⟩:=h;obtain⟨xs,n,-,-,hl,hx,hf⟩:=DataW.trod_struct ht h;rw[hC]at hl;refine⟨hl,λj f hj=>?_⟩;have be:j<fs.size:=(Array.getElem?_eq_some_iff.1 hj).1;obtain⟨ho,hk⟩:=hone_of E3 j f hj;have h1:=hf j f hj;rw[ho,hk,fq G]at h1;have:(cs.drop j).take 1=[cs[j]'G]:=by rw[tR G];rfl
 rw[this]at h1;exact⟨_,fq G,n,_,h1⟩
def Rd.rows{t e:TypeId}{v:to}(ht:P.underlying t=O (.slice e))(h:Rd enc P w base spare held t [v]):
 v=Vn\/∃a len cap,v=H (O a) len cap/\len<=cap/\cap<=maxLen/\∀i,i<len->∃cs,cs.length=P.cellsOf e/\(∀j,j<P.cellsOf e->Vo w (a.add (i*P.cellsOf e+j))=cs[j]?)/\Rd enc P w base spare held e cs:=by
 obtain⟨fu,y,h⟩:=h;rcases open_slice ht h with⟨h0,-⟩|⟨a,len,cap,m,n,D,a1p,mB,X,hl,hm,BK,hx,hi⟩
 ·simp at h0;exact .inl h0
 ·simp at mB;refine .inr ⟨a,len,cap,mB,hl,hm,λi jh=>?_⟩;obtain⟨cs',hc,ht'⟩:=hi i (by rw[BK];split<;>omega);obtain⟨-,hcl,M5⟩:=World.cells?_some hc;exact⟨cs',hcl,λj hj=>by rw[<-Go.Deep.add_add];exact M5 j hj,n,_,ht'⟩
def at_plain{a:Addr}{n:Nat}{v:to}(h:Vo w (a.add n)=O v)(h0:∃u,Vo w (a.add 0)=O u):a.spot=MT/\Vo w (I a.block (a.off+n))=O v:=by
 obtain⟨u,h0⟩:=h0;have hs:a.spot=MT:=by simpa[Addr.add]using World.cell?_spot h0
 obtain⟨b,o,sp⟩:=a;dsimp only at hs;subst hs;rw[add_plain]at h;exact⟨rfl,h⟩
def cI(w:ek)(b o:Nat):Int:=match Vo w ⟨b,o,MT⟩with|some (.int _ n)=>n|_=>0
def cB(w:ek)(b o:Nat):Bool:=match Vo w ⟨b,o,MT⟩with|some (.bool n)=>n|_=>false
def Rd.ints{t e:TypeId}{v:to}{k:Nat}(ht:P.underlying t=O (.slice e))(hk:P.cellsOf e=k)(Is:0<k)
 (he:∀cs,Rd enc P w base spare held e cs->∀j,j<k->∃n,cs[j]? =O (Y n)) (h:Rd enc P w base spare held t [v]):∃(n:Nat) (g:Nat->Int),aZ w k v n (λo=> Y (g o)):=by
 rcases h.rows ht with rfl|⟨a,len,cap,rfl,h1,h2,h3⟩
 ·exact⟨0,λ_=>0,.inl ⟨rfl,rfl⟩⟩
 ·rw[hk]at h3;have at_:∀o,o<len*k->∃n,Vo w (a.add o)=O (Y n):=λo ho=>by have hi:o / k<len:=Nat.div_lt_of_lt_mul (by rw[Nat.mul_comm];exact ho);have hj:o % k<k:=Nat.mod_lt _ Is;obtain⟨cs,hl,hc,hr⟩:=h3 (o / k) hi;obtain⟨n,hn⟩:=he cs hr _ hj;have:=hc _ hj;rw[show o / k*k+o % k=o from Nat.div_add_mod' o k]at this;exact⟨n,this.trans hn⟩
  refine⟨len,λo=>cI w a.block (a.off+o),.inr ⟨a,cap,rfl,h1,h2,λo ho=>?_⟩⟩;obtain⟨n,hn⟩:=at_ o ho;obtain⟨u,hu⟩:=at_ 0 G;obtain⟨e1,e2⟩:=at_plain hn ⟨_,hu⟩;refine⟨e1,?_⟩;unfold cI;dsimp only;rw[e2]
def Rd.ada{t e:TypeId}{v:to}(ht:P.underlying t=O (.slice e))(hk:P.cellsOf e=1)(he:P.underlying e=O .bool)(h:Rd enc P w base spare held t [v]):∃(n:Nat) (g:Nat->Bool),aZ w 1 v n (λo=> .bool (g o)):=by
 rcases h.rows ht with rfl|⟨a,len,cap,rfl,h1,h2,h3⟩
 ·exact⟨0,λ_=>false,.inl ⟨rfl,rfl⟩⟩
 ·rw[hk]at h3;have at_:∀o,o<len->∃n,Vo w (a.add o)=O (.bool n):=λo ho=>by
   obtain⟨cs,hl,hc,hr⟩:=h3 o ho
   match cs,hl with
   |[x],_=>obtain⟨b,rfl⟩:=hr.bool he;have:=hc 0 G;rw[Nat.mul_one,Nat.add_zero]at this;exact⟨b,this⟩
  refine⟨len,λo=>cB w a.block (a.off+o),.inr ⟨a,cap,rfl,h1,h2,λo ho=>?_⟩⟩;obtain⟨n,hn⟩:=at_ o G;obtain⟨u,hu⟩:=at_ 0 G;obtain⟨e1,e2⟩:=at_plain hn ⟨_,hu⟩;refine⟨e1,?_⟩;unfold cB;dsimp only;rw[e2]
def pM{size n:Nat}{v:to}{g f:Nat->to}(h:aZ w size v n g)(e:∀o,o<n*size->g o=f o):aZ w size v n f:=by
 rcases h with h|⟨a,cap,h0,h1,h2,h3⟩
 ·exact .inl h
 ·exact .inr ⟨a,cap,h0,h1,h2,λo ho=>⟨(h3 o ho).1,by rw[<-e o ho];exact(h3 o ho).2⟩⟩
def pN{α:Type}(g:Nat->α)(d:α){n i:Nat}(h:i<n):((List.range n).map g).getD i d=g i:=by simp[List.getD,h]
def zz{t:TypeId}{fs:Array Field}{k:Nat}(ht:prog.underlying t=O (.struct fs))(E3:oneCellFields prog fs=true)(hC:prog.cellsOf t=k)(hk:fs.size=k)
 (hi:∀(j:Nat) f,fs[j]? =O f->prog.underlying f.type=O (.int .i64)) (cs:List to) (h:Rd enc prog w base spare held t cs) (j:Nat) (hj:j<k):∃n,cs[j]? =O (Y n):=by
 obtain⟨hl,hf⟩:=h.fields ht E3 (hC.trans hk.symm);obtain⟨v,h1,h2⟩:=hf j fs[j] (y_ G);obtain⟨n,rfl,-⟩:=h2.int (hi j _ (y_ G));exact⟨n,h1⟩
def Dd{v:to}(h:Rd enc prog w base spare held 24 [v]):∃l:List Int,aZ w 1 v l.length (aX l):=by
 obtain⟨n,g,hr⟩:=h.ints (k:=1) underlying24 bh G (λcs hc j hj=>by
  have hl:cs.length=1:=by obtain⟨f,y,hc⟩:=hc;obtain⟨n,e,-⟩:=DataW.trod_int underlying3 hc;rw[e];rfl
  match cs,hl with
  |[x],_=>
   obtain⟨n,rfl,-⟩:=hc.int underlying3;obtain rfl:j=0:=G;exact⟨n,rfl⟩)
 refine⟨(List.range n).map g,?_⟩;rw[List.length_map,List.length_range];exact pM hr λo ho=>by unfold aX;rw[pN g 0 G]
def ad5{v:to}(h:Rd enc prog w base spare held 22 [v]):∃l:List Bool,aZ w 1 v l.length (λi=> .bool (l.getD i false)):=by obtain⟨n,g,hr⟩:=h.ada underlying22 bh underlying4;refine⟨(List.range n).map g,?_⟩;rw[List.length_map,List.length_range];exact pM hr λo ho=>by rw[pN g false G]
def ad4{v:to}(h:Rd enc prog w base spare held 23 [v]):∃l:List Vr,aZ w 3 v l.length (λo=>let x:=l.getD (o / 3) ⟨0,0,0⟩;if o % 3=0 then Y x.init else if o % 3=1 then Y x.lo else Y x.hi):=by
 obtain⟨n,g,hr⟩:=h.ints (k:=3) underlying23 bh G (zz underlying122 bh bh rfl (λj f hf=>by
  match j,hf with
  |0,hf=>cases hf;exact underlying3
  |1,hf=>cases hf;exact underlying3
  |2,hf=>cases hf;exact underlying3
  |n+3,hf=>cases hf))
 refine⟨(List.range n).map λi=>⟨g (i*3),g (i*3+1),g (i*3+2)⟩,?_⟩;rw[List.length_map,List.length_range];refine pM hr λo ho=>?_;dsimp only;rw[pN _ _ G];dsimp only;split
 ·congr;omega
 split
 ·congr;omega
 ·congr;omega
def ad3{v:to}(h:Rd enc prog w base spare held 25 [v]):∃l:List Ins,aZ w 5 v l.length (λo=>let x:=l.getD (o / 5) ⟨0,0,0,0,0⟩;if o % 5=0 then Y x.op else if o % 5=1 then Y x.a else if o % 5=2 then Y x.b else if o % 5=3 then Y x.c else Y x.d):=by
 obtain⟨n,g,hr⟩:=h.ints (k:=5) underlying25 bh G (zz underlying40 bh bh rfl (λj f hf=>by
  match j,hf with
  |0,hf=>cases hf;exact underlying3
  |1,hf=>cases hf;exact underlying3
  |2,hf=>cases hf;exact underlying3
  |3,hf=>cases hf;exact underlying3
  |4,hf=>cases hf;exact underlying3
  |n+5,hf=>cases hf))
 refine⟨(List.range n).map λi=>⟨g (i*5),g (i*5+1),g (i*5+2),g (i*5+3),g (i*5+4)⟩,?_⟩;rw[List.length_map,List.length_range];refine pM hr λo ho=>?_;dsimp only;rw[pN _ _ G];dsimp only;split
 ·congr;omega
 split
 ·congr;omega
 split
 ·congr;omega
 split
 ·congr;omega
 ·congr;omega
def ad2{v:to}{cs:Array to}(e:v= .agg cs)(h:Rd enc prog w base spare held 27 cs.toList):∃(K:Kp) (p:aQ),v=pV K p/\fW w K p:=by
 obtain⟨hl,hf⟩:=h.fields underlying27 bh bh;obtain⟨v0,e0,r0⟩:=hf 0 _ rfl;obtain⟨v1,e1,r1⟩:=hf 1 _ rfl;obtain⟨v2,e2,r2⟩:=hf 2 _ rfl;obtain⟨v3,e3,r3⟩:=hf 3 _ rfl;obtain⟨v4,e4,r4⟩:=hf 4 _ rfl;obtain⟨v5,e5,r5⟩:=hf 5 _ rfl;obtain⟨g,hg⟩:=ad5 r0;obtain⟨vs,hv⟩:=ad4 r1;obtain⟨ts,htg⟩:=Dd r2;obtain⟨on,ho⟩:=Dd r3;obtain⟨m,rfl,-⟩:=r4.int underlying3;obtain⟨c,hc⟩:=ad3 r5;refine⟨⟨v0,v1,v2,v3,v5⟩,⟨g,vs,ts,on,m,c⟩,?_,hg,hv,htg,ho,hc⟩;subst e;obtain⟨l⟩:=cs
 match l,hl with
 |[x0,x1,x2,x3,x4,x5],_=>simp only[List.getElem?_cons_zero,List.getElem?_cons_succ,im]at e0 e1 e2 e3 e4 e5;subst e0 e1 e2 e3 e4 e5;rfl
def ad1{v:to}{cs:Array to}(e:v= .agg cs)(h:Rd enc prog w base spare held 29 cs.toList):∃(c:Cp) (qv:to),v=Vf.cV c qv/\aZ w 1 qv c.aK.length (aX c.aK):=by
 obtain⟨hl,hf⟩:=h.fields underlying29 bh bh;obtain⟨v0,e0,r0⟩:=hf 0 _ rfl;obtain⟨v1,e1,r1⟩:=hf 1 _ rfl;obtain⟨m,rfl,-⟩:=r0.int underlying3;obtain⟨q,hq⟩:=Dd r1;refine⟨⟨m,q⟩,v1,?_,hq⟩;subst e;obtain⟨l⟩:=cs
 match l,hl with
 |[x0,x1],_=>simp only[List.getElem?_cons_zero,List.getElem?_cons_succ,im]at e0 e1;subst e0 e1;rfl
end
end Go.Ma
namespace Go.Ma
open Go.RowKit aj.Vm
open aj hiding aR an ak
open Vf (Kp fW pV aZ cV)
def Vk(J:Nat->to):Act:={tmps:=#[J 0,J 1,J 2,J 3,J 4,J 5,J 6,J 7,J 8,J 9,J 10,J 11,J 12,J 13,J 14,J 15,J 16,J 17,J 18,J 19,J 20,J 21,J 22,J 23,J 24,J 25,J 26,J 27,J 28,J 29,J 30,J 31,J 32,J 33,J 34,J 35,J 36,J 37,J 38,J 39,J 40,J 41,J 42,J 43,J 44,J 45,J 46,J 47,J 48,J 49,J 50,J 51,J 52,J 53,J 54,J 55,J 56,J 57,J 58,J 59,J 60,J 61,J 62,J 63,J 64,J 65,J 66,J 67,J 68,J 69,J 70,J 71,J 72,J 73,J 74,J 75,J 76,J 77,J 78,J 79,J 80,J 81,J 82,J 83,J 84,J 85,J 86,J 87,J 88,J 89,J 90,J 91,J 92,J 93,J 94,J 95,J 96,J 97,J 98,J 99,J 100,J 101,J 102,J 103,J 104,J 105,J 106,J 107,J 108,J 109,J 110,J 111],defers:=[]}
def Vk.of(A:Array to)(h:A=(Vk λk=>A.getD k undef).tmps):({tmps:=A,defers:=[]}:Act)=Vk λk=>A.getD k undef:=by rw[h];rfl
section
variable {Vb:ek}{sa:Option Addr}{sn sc mb pb:Nat}{p:aQ}{c:Cp}{Q:Exit->Act->ek->Prop}{ga va ta oa ca za:Option Addr}{gc vc tc oc cc zc n1 n2 n3 n4:Nat}{ms:Int}
end
end Go.Ma
