import Derived.Test.YtblkblclmbhjiaaGreatM16
import Derived.Laws.Entries
set_option linter.unusedVariables false
set_option linter.unusedSimpArgs false
set_option maxHeartbeats 40000000
set_option maxRecDepth 100000
open Go.Proofs.Tryz
namespace Go.Proofs.YtblkblclmbhjiaaGreat.Ma
open Go.RowKit ak.Vm Go.Shelf
open ak hiding aL an aj
open dT (bP bG d_ DS uY Qs rowsOf)
open Ix (cL)
open gP (w_ dJ)
attribute [local go_sem] Oper.semAt_some
def FI (w:World) (S:PS) (e:Ending) (w':World):Prop:=
 ∃qv vv lv tv,e= .returned (.agg #[qv,vv])/\Below w.heap.size w w'/\jY w' w.heap.size w'.heap.size qv vv S lv tv
theorem adp:(prog.info? 62).map (fun i=>(i.zero,i.size,i.bytes))=some (some (.agg #[.int .u64 0,ν]),2,32):=by kernel_rfl
theorem aev:(prog.info? 60).map (fun i=>(i.zero,i.size,i.bytes))=some (some ν,1,24):=by kernel_rfl
structure SL (w W:World) (sb hi mb:Nat) (va qv:Value) (S:PS) (Ds:List Nat) (lv:Nat->Value) (tv:Nat->Nat->Value):Prop where
 zm:Below w.heap.size w W
 lo:w.heap.size+1 < sb/\sb < hi/\hi<=W.heap.size
 b1:ay W w.heap.size 35 #[ρ mb]
 b2:ay W (w.heap.size+1) 56 #[ν,ν]
 b3:ay W sb 56 #[qv,va]
 st:jY W w.heap.size hi qv va S lv tv
 CM:Mk.Marks W Ds
 ml:∀D,D∈Ds->w.heap.size<=D
theorem SL.aB {w W W':World} {sb hi mb:Nat} {va qv:Value} {S:PS} {Ds:List Nat} {lv:Nat->Value} {tv:Nat->Nat->Value} {T:List Nat} (h:SL w W sb hi mb va qv S Ds lv tv) (f:da T W W') (hT:∀b,b∈T->hi<=b) (hD:∀D,D∈Ds->D∉T):SL w W' sb hi mb va qv S Ds lv tv:=by
 obtain ⟨l1,l2,l3⟩:=h.lo;have hs:=h.zm.size;refine ⟨h.zm.trans (f.below hs (fun k hk=>by have:=hT k hk;omega)),⟨l1,l2,afM l3 f.size⟩,?_,?_,?_,h.st.off f (se.range fun b hb=> .inr (hT b hb)),h.CM.keeps (fun k hk=>f.block k (h.CM.lt hk) (hD k hk)),h.ml⟩
 ·exact h.b1.aB f (fun hc=>by have:=hT _ hc;omega)
 ·exact h.b2.aB f (fun hc=>by have:=hT _ hc;omega)
 ·exact h.b3.aB f (fun hc=>by have:=hT _ hc;omega)
theorem SL.later {w W W':World} {sb hi mb:Nat} {va qv:Value} {S:PS} {Ds:List Nat} {lv:Nat->Value} {tv:Nat->Nat->Value} (h:SL w W sb hi mb va qv S Ds lv tv) (b:Below W.heap.size W W'):SL w W' sb hi mb va qv S Ds lv tv:=
 h.aB (da.ah (S:=[]) b) smm smm
theorem SL.up {w W:World} {sb hi mb:Nat} {va qv:Value} {S:PS} {Ds:List Nat} {lv:Nat->Value} {tv:Nat->Nat->Value} (h:SL w W sb hi mb va qv S Ds lv tv) {hi':Nat} (h1:hi<=hi') (h2:hi'<=W.heap.size):SL w W sb hi' mb va qv S Ds lv tv:=
 ⟨h.zm,⟨h.lo.1,by have:=h.lo;omega,h2⟩,h.b1,h.b2,h.b3,h.st.mono (afF _) h1,h.CM,h.ml⟩
structure IL (w W6 W:World) (sb lb mb:Nat) (va qv:Value) (S:PS) (Ds:List Nat) (lv:Nat->Value) (tv:Nat->Nat->Value) (l:List PE) (ev:Value) (te:Nat->Value):Prop where
 sl:SL w W sb lb mb va qv S Ds lv tv
 bx:ay W lb 60 #[ev]
 es:uC W W6.heap.size W.heap.size ev l te
 sz:lb < W6.heap.size/\W6.heap.size<=W.heap.size
theorem IL.grown {w W6 W W':World} {sb lb mb:Nat} {va qv:Value} {S:PS} {Ds:List Nat} {lv:Nat->Value} {tv:Nat->Nat->Value} {l:List PE} {ev:Value} {te:Nat->Value} (h:IL w W6 W sb lb mb va qv S Ds lv tv l ev te)
 (M7:∀D,D∈Ds->D < W6.heap.size) {row:Option Nat} (hg:W.grownBy W' row) (hr:∀r,row=some r->W6.heap.size<=r/\∃o:Obj,W.heap[r]? =some o/\o.isCells=false):IL w W6 W' sb lb mb va qv S Ds lv tv l ev te:=by
 have f:=eJ hg;have hm:∀b,b∈row.toList->W6.heap.size<=b/\∃o:Obj,W.heap[b]? =some o/\o.isCells=false:=fun b hb=>hr b (by simpa using hb);have h1:=h.sz;refine ⟨h.sl.aB f (fun b hb=>by have:=(hm b hb).1;omega) (fun D hD hc=>by have:=(hm D hc).1;have:=M7 D hD;omega),h.bx.aB f (fun hc=>by have:=(hm _ hc).1;omega),?_,⟨h1.1,afM h1.2 hg.size⟩⟩;exact (h.es.off f (fun b hb=> .inr (.inr (hm b hb).2))).mono (afF _) hg.size
def FrQ (w:World) (sb nq q:Nat) (Ds:List Nat) (a:Act):Prop:=∃J:Nat->Value,a={tmps:=#[J 0,ρ w.heap.size,ρ (w.heap.size+1),ρ sb,J 4,J 5,J 6,J 7,J 8,J 9,J 10,J 11,J 12,J 13,J 14,J 15,J 16,J 17,J 18,J 19,ι nq,ι q,J 22,J 23,J 24,J 25,J 26,J 27,J 28,J 29,J 30,J 31,J 32,J 33,J 34,J 35,J 36,J 37,J 38,J 39,J 40,J 41,J 42,J 43,J 44,J 45,J 46,J 47,J 48,J 49,J 50,J 51,J 52,J 53,J 54,J 55,J 56],defers:=Mk.marksOf Ds}
def FrB (w:World) (lb eb:Nat) (a:Act):Prop:=∃J:Nat->Value,a={tmps:=#[J 0,ρ w.heap.size,J 2,J 3,J 4,ρ lb,J 6,ρ eb,J 8,J 9,J 10,J 11,J 12,J 13,J 14,J 15,J 16,J 17,J 18,J 19,J 20,J 21,J 22,J 23,J 24,J 25,J 26,J 27,J 28,J 29,J 30,J 31,J 32,J 33,J 34,J 35,J 36,J 37,J 38,J 39,J 40,J 41,J 42,J 43,J 44,J 45,J 46,J 47,J 48,J 49,J 50,J 51,J 52,J 53,J 54,J 55,J 56],defers:=[]}
theorem IL.later {w W6 W W':World} {sb lb mb:Nat} {va qv:Value} {S:PS} {Ds:List Nat} {lv:Nat->Value} {tv:Nat->Nat->Value} {l:List PE} {ev:Value} {te:Nat->Value} (h:IL w W6 W sb lb mb va qv S Ds lv tv l ev te) (b:Below W.heap.size W W'):IL w W6 W' sb lb mb va qv S Ds lv tv l ev te:=
 ⟨h.sl.later b,h.bx.of (b.block _ h.bx.lt),(h.es.off (da.ah (S:=[]) b) (se.nil _ _ _ _)).mono (afF _) b.size,h.sz.1,afM h.sz.2 b.size⟩
def AxS (w w6:World) (lb:Nat) (x:Nat×eW) (a:Act) (W:World):Prop:=∃eb,FrB w lb eb a/\ay W eb 118 (aH x.2)/\w6.heap.size<=eb
theorem AxS.grown {w w6 W W':World} {lb:Nat} {x:Nat×eW} {a:Act} (h:AxS w w6 lb x a W) {row:Option Nat} (hg:W.grownBy W' row) (hr:∀r,row=some r->w6.heap.size<=r/\∃o:Obj,W.heap[r]? =some o/\o.isCells=false):AxS w w6 lb x a W':=by obtain ⟨eb,h1,h2,h3⟩:=h;exact ⟨eb,h1,h2.of (Mk.KL.grown h2.Hm hg fun r e=>(hr r e).2),h3⟩
def afa (w:World) (sb mb:Nat) (va:Value) (p:aO) (s:St) (m:Nat) (a:Act) (W:World):Prop:=
 ∃(q:Nat) (Ds:List Nat) (qv:Value) (lv:Nat->Value) (tv:Nat->Nat->Value) (hi:Nat),q<=p.ap.length/\m+q=p.ap.length+1/\FrQ w sb p.ap.length q Ds a/\Hid (SL w W sb hi mb va qv ⟨(List.range q).map (oG p s),(List.range p.vars.length).map s.vars⟩ Ds lv tv)
section
variable {w w':World} {C C':Co} {RO RO':List Nat} {K:Kc} {p:aO} {c:Cp} {t t':fI} {used used':Int} {s s':St} {rv rv':Value}
theorem IL.told {W6 W V w1 w2 w3:World} {sb lb mb:Nat} {va qv:Value} {S:PS} {Ds:List Nat} {lv:Nat->Value} {tv:Nat->Nat->Value} {l:List PE} {ev:Value} {te:Nat->Value} (h:IL w W6 W sb lb mb va qv S Ds lv tv l ev te)
 (M7:∀D,D∈Ds->D < W6.heap.size) (hV:Below W.heap.size W V) {zb:Nat} (hz:W.heap.size<=zb) (f1:da [zb] V w1) {v1:Value} {x:PE} (r1:Row w1 3 1 v1 x.aW.length (aU x.aW)) (i1:∀b,v1.ownBlock=some b->W.heap.size<=b)
 (h2:Below w1.heap.size w1 w2) (f3:da ev.ownBlock.toList w2 w3) {v':Value} (r3:Row w3 62 2 v' (l.length+1) (gU (l.length*2) (peC l te) fun j=>if j % 2=0 then .int .u64 x.key else v1)) (i3:v'.ownBlock=ev.ownBlock\/v'.ownBlock=some w2.heap.size):
 ∃te',IL w W6 (w3.setCell (π lb 0) v') sb lb mb va qv S Ds lv tv (l++[x]) v' te'/\da (lb::ev.ownBlock.toList) W (w3.setCell (π lb 0) v'):=by
 obtain ⟨z1,z2⟩:=h.sz;have F1:da [] W w1:=(da.ah (S:=[zb]) hV).trans f1 |>.Wx (by intro k hk;simp at hk;subst hk;exact .inr hz);have F2:da [] W w2:=F1.trans (da.ah h2);have F3:da ev.ownBlock.toList W w3:=(F2.mono smm).trans f3;have F4:da (lb::ev.ownBlock.toList) W (w3.setCell (π lb 0) v'):=(F3.mono (by intro k hk;simp [hk])).setCell smm _;have sT:∀b,b∈ev.ownBlock.toList->ev.ownBlock=some b:=fun b hb=>by simpa using hb
 have es2:=h.es.off F2 (se.nil _ _ _ _);have r12:Row w2 3 1 v1 x.aW.length (aU x.aW):=r1.aB (da.ah (S:=[]) h2) smm;have r13:Row w3 3 1 v1 x.aW.length (aU x.aW):=r12.aB f3 (fun b hb hc=>by
  rcases Row.ne r12 es2.row dee with h'|h'
  ·rw [hb] at h';cases h'
  ·exact h' (by rw [hb,sT b hc]))
 have lt1:∀b,v1.ownBlock=some b->b < w3.heap.size:=fun b hb=>(af3 r13 b hb).2;have Zl:∀b,v'.ownBlock=some b->b < w3.heap.size:=fun b hb=>(af3 r3 b hb).2;have hx:fL w3 W6.heap.size w3.heap.size v1 x.aW:=⟨r13,fun b hb=>⟨by have:=i1 b hb;omega,lt1 b hb⟩⟩;have xh:mN W6.heap.size w3.heap.size v':=fun b hb=>⟨by
  rcases i3 with h'|h'
  ·exact (h.es.jy b (by rw [<-h',hb])).1
  ·rw [hb] at h';simp at h';have:=F2.size;omega,Zl b hb⟩
 have e3:=uC.snoc es2 hx F2.size f3 (fun b hb=>by
  obtain ⟨cs,qt⟩:=es2.row.typ (sT b hb);exact .inr (.inl ⟨_,cs,qt,by simp [zS]⟩)) r3 xh
 have Zm:ay w3 lb 60 #[ev]:=(h.bx.aB F3 (fun hc=>by have:=h.es.jy lb (sT lb hc);omega));have e4:=e3.off ((da.refl [lb] w3).setCell (p:=(π lb 0)) smm v') (fun b hb=>by simp at hb;subst hb;exact .inr (.inl ⟨_,_,Zm,by simp [ad3]⟩));refine ⟨_,⟨h.sl.aB F4 (fun b hb=>?_) (fun D hD hc=>?_),Zm.set 0 v',by simpa [World.setCell] using e4,⟨z1,by have:=F4.size;omega⟩⟩,F4⟩
 ·rcases List.mem_cons.1 hb with rfl|hb
  ·exact afF _
  ·have:=h.es.jy b (sT b hb);omega
 ·rcases List.mem_cons.1 hc with rfl|hc
  ·exact h.sl.CM.not h.bx.Hm hD
  ·exact h.sl.CM.not (Row.Hm h.es.row (sT D hc)) hD
theorem SL.next {W6 W w1 w3:World} {sb lb mb D:Nat} {va qv:Value} {S:PS} {Ds:List Nat} {lv:Nat->Value} {tv:Nat->Nat->Value} {l:List PE} {ev:Value} {te:Nat->Value} (h:IL w W6 W sb lb mb va qv S Ds lv tv l ev te)
 (M7:∀D,D∈Ds->D < W6.heap.size) (b1:Below W.heap.size W w1) (f3:da qv.ownBlock.toList w1 w3) {v':Value} (r3:Row w3 60 1 v' (S.aI.length+1) (gU (S.aI.length*1) lv fun _=>ev)) (i3:v'.ownBlock=qv.ownBlock\/v'.ownBlock=some w1.heap.size)
 (hD:W.heap[D]? =some (.deferred (some []))) (hD6:W6.heap.size<=D):
 ∃lv' tv',SL w (w3.setCell (π sb 0) v') sb w3.heap.size mb va v' ⟨S.aI++[l],S.vars⟩ (D::Ds) lv' tv':=by
 obtain ⟨z1,z2⟩:=h.sz;obtain ⟨l1,l2,l3⟩:=h.sl.lo;have hq:∀b,b∈qv.ownBlock.toList->qv.ownBlock=some b:=fun b hb=>by simpa using hb
 have F1:da [] W w1:=da.ah b1;have F3:da qv.ownBlock.toList W w3:=(F1.mono smm).trans f3;have qs1:=h.sl.st.qs.off F1 (se.nil _ _ _ _);have es1:=h.es.off F1 (se.nil _ _ _ _);have ty:∀Es:List TypeId,60∉Es->∀lo hi,se w1 lo hi Es qv.ownBlock.toList:=fun Es hE lo hi b hb=>by obtain ⟨cs,qt⟩:=qs1.row.typ (hq b hb);exact .inr (.inl ⟨_,cs,qt,hE⟩)
 have es3:=es1.off f3 (ty _ dee _ _);have Zl:∀b,v'.ownBlock=some b->b < w3.heap.size:=fun b hb=>(af3 r3 b hb).2;have hw:=h.sl.zm.size;have xh:mN w.heap.size w3.heap.size v':=fun b hb=>⟨by
  rcases i3 with h'|h'
  ·exact (qs1.jy b (by rw [<-h',hb])).1
  ·rw [hb] at h';simp at h';have:=F1.size;omega,Zl b hb⟩
 have q3:=QS.snoc (w:=w1) (w':=w3) qs1 (es3.mono omm F3.size) (by have:=F1.size;omega) f3 (ty _ dee _ _) r3 xh (fun b hb=>by have:=h.es.jy b hb;omega);have nb:∀b,b∈qv.ownBlock.toList->b≠w.heap.size/\b≠w.heap.size+1/\b≠sb:=fun b hb=>by obtain ⟨cs,qt⟩:=h.sl.st.qs.row.typ (hq b hb);exact ⟨fun e=>by subst e;exact ay.ne qt h.sl.b1 dee rfl,fun e=>by subst e;exact ay.ne qt h.sl.b2 dee rfl,fun e=>by subst e;exact ay.ne qt h.sl.b3 dee rfl⟩
 have b3:ay w3 sb 56 #[qv,va]:=h.sl.b3.aB F3 (fun hc=>(nb _ hc).2.2 rfl);have acE:da [sb] w3 (w3.setCell (π sb 0) v'):=(da.refl [sb] w3).setCell (p:=(π sb 0)) smm v';have oS:∀Es:List TypeId,56∉Es->∀lo hi,se w3 lo hi Es [sb]:=fun Es hE lo hi b hb=>by simp at hb;subst hb;exact .inr (.inl ⟨_,_,b3,hE⟩)
 have vs3:fL w3 w.heap.size lb va S.vars:=h.sl.st.vs.off F3 (fun b hb=>by
  obtain ⟨cs,qt⟩:=h.sl.st.qs.row.typ (hq b hb);exact .inr (.inl ⟨_,cs,qt,dee⟩))
 have hDn:D∉Ds:=fun hc=>by have:=M7 D hc;omega
 have nD:∀k,k∈D::Ds->k∉qv.ownBlock.toList/\k≠sb:=fun k hk=>by
  have hM:W.heap[k]? =some (.deferred (some [])):=by
   rcases List.mem_cons.1 hk with rfl|hk
   ·exact hD
   ·exact h.sl.CM.at_ k hk
  refine ⟨fun hc=>?_,fun e=>?_⟩
  ·obtain ⟨cs,qt⟩:=h.sl.st.qs.row.typ (hq k hc);unfold ay at qt;rw [hM] at qt;cases qt
  ·subst e;have:=h.sl.b3;unfold ay at this;rw [hM] at this;cases this
 refine ⟨_,_,⟨?_,⟨l1,by have:=F3.size;omega,by have:=acE.size;omega⟩,?_,?_,b3.set 0 v',⟨by have:=q3.off acE (oS _ dee _ _);exact this,?_⟩,⟨List.nodup_cons.2 ⟨hDn,h.sl.CM.nd⟩,fun k hk=>?_⟩,fun k hk=>?_⟩⟩
 ·exact (h.sl.zm.trans (F3.below hw (fun k hk=>(h.sl.st.qs.jy k (hq k hk)).1))).setCell (by show w.heap.size<=sb;omega) v'
 ·exact (h.sl.b1.aB F3 (fun hc=>(nb _ hc).1 rfl)).aB acE sso
 ·exact (h.sl.b2.aB F3 (fun hc=>(nb _ hc).2.1 rfl)).aB acE sso
 ·exact (vs3.off acE (oS _ dee _ _)).mono (afF _) (by have:=F3.size;omega)
 ·have hM:W.heap[k]? =some (.deferred (some [])):=by
   rcases List.mem_cons.1 hk with rfl|hk
   ·exact hD
   ·exact h.sl.CM.at_ k hk
  obtain ⟨n1,n2⟩:=nD k hk;have fq:k < W.heap.size:=(Array.getElem?_eq_some_iff.1 hM).1;exact (acE.block k (by have:=F3.size;omega) (by simp;exact n2)).trans ((F3.block k fq n1).trans hM)
 ·rcases List.mem_cons.1 hk with rfl|hk
  ·omega
  ·exact h.sl.ml k hk
def SSt (w:World) (mb eb key:Nat) (tv:Value) (wx:World):Prop:=wx.cell? (π eb 0)=some (.int .u64 key)/\wx.cell? (π w.heap.size 0)=some (ρ mb)/\wx.cell? (π mb 2)=some tv
theorem SSt.aB {w W W':World} {mb eb key:Nat} {tv:Value} (h:SSt w mb eb key tv W) {T:List Nat} (f:da T W W') (h1:eb∉T) (h2:w.heap.size∉T) (h3:mb∉T):SSt w mb eb key tv W':=by obtain ⟨a1,a2,a3⟩:=h;exact ⟨(afG (f.block eb (aS a1) h1)).trans a1,(afG (f.block _ (aS a2) h2)).trans a2,(afG (f.block _ (aS a3) h3)).trans a3⟩
theorem SSt.alloc {w W:World} {mb eb key:Nat} {tv:Value} (h:SSt w mb eb key tv W) (o:Obj):SSt w mb eb key tv (W.alloc o):=h.aB ((da.refl [] W).alloc o) smm smm smm
structure afb (w W6 W w1:World) (sb lb mb:Nat) (va qv:Value) (S:PS) (Ds FB:List Nat) (lv:Nat->Value) (tv:Nat->Nat->Value) (l:List PE) (ev:Value) (te:Nat->Value) (x:PE) (v1:Value) (SS:World->Prop):Prop where
 row:Row (w1.alloc (.cells #[.int .u64 x.key,v1] 62)) 62 2 ev l.length (peC l te)
 news:∀j,j < 1*2->(w1.alloc (.cells #[.int .u64 x.key,v1] 62)).cell? (Addr.add (π w1.heap.size 0) j)=some (if j % 2=0 then .int .u64 x.key else v1)
 one:∀j,j < 1*2->(if j % 2=0 then Value.int .u64 x.key else v1).oneCell'=true
 fin:∀v' w3,Row w3 62 2 v' (l.length+1) (gU (l.length*2) (peC l te) fun j=>if j % 2=0 then .int .u64 x.key else v1)->da ev.ownBlock.toList (w1.alloc (.cells #[.int .u64 x.key,v1] 62)) w3->(v'.ownBlock=ev.ownBlock\/v'.ownBlock=some (w1.alloc (.cells #[.int .u64 x.key,v1] 62)).heap.size)->
  SS w3/\(∀o,w3.frozen? (π lb o)=false)/\w3.cell? (π lb 0)=some ev/\SS (w3.setCell (π lb 0) v')/\KeepsFrom W6.heap.size W (w3.setCell (π lb 0) v')/\w_ FB W (w3.setCell (π lb 0) v')/\∃ev' te',IL w W6 (w3.setCell (π lb 0) v') sb lb mb va qv S Ds lv tv (l++[x]) ev' te'
theorem ae3 (tb nt:Nat) (h:nt<=4) (w:World):(Instr.sliceAt 116 (ρ tb) none (some (ι nt)) none).run prog w= .ok (.slice (some (π tb 0)) nt 4) w:=by
 have hl:prog.arrayLen 116=4:=by kernel_rfl
 have hs:∀w,(sizeOf (prog.elem 116)).run prog w= .ok 1 w:=fun _=>by kernel_rfl
 rw [run_sliceAt_array_h w 116 (π tb 0) krr .i64 nt omm omm,hs,hl];simp [slicedAt,Addr.add]
def aey (x:eW):Array Value:=#[ι (x.tg 0),ι (x.tg 1),ι (x.tg 2),ι (x.tg 3)]
def us (W:World) (x:eW):World:=(W.alloc (.cells (aey x) 116)).drew
def CO (W:World) (x:eW):World:=(us W x).alloc (.cells #[] 3)
structure Rg (w W6 W:World) (sb lb mb eb nt:Nat) (va qv:Value) (S:PS) (Ds FB:List Nat) (lv:Nat->Value) (tv:Nat->Nat->Value) (l:List PE) (ev:Value) (te:Nat->Value) (x:eW) (y:PE) (SS:World->Prop):Prop where
 s0:SS (us W x)
 c0:(us W x).cell? (π lb 0)=some ev
 l0:lb < (us W x).heap.size
 row:Row (CO W x) 3 1 (.slice (some (π ((us W x).heap.size) 0)) 0 0) 0 (fun _=> ι 0)
 news:∀j,j < nt*1->(CO W x).cell? (Addr.add (π W.heap.size 0) j)=some (ι (x.tg j))
 w1:∀v1 w1,Row w1 3 1 v1 (0+nt) (gU (0*1) (fun _=> ι 0) fun j=> ι (x.tg j))->da (Value.slice (some (π ((us W x).heap.size) 0)) 0 0).ownBlock.toList (CO W x) w1->
  (v1.ownBlock=(Value.slice (some (π ((us W x).heap.size) 0)) 0 0).ownBlock\/v1.ownBlock=some (CO W x).heap.size)->SS w1/\w1.cell? (π lb 0)=some ev/\lb < w1.heap.size/\afb w W6 W w1 sb lb mb va qv S Ds FB lv tv l ev te y v1 SS
theorem IL.region {W6 W:World} {sb lb mb eb:Nat} {va qv:Value} {S:PS} {Ds FB:List Nat} {lv:Nat->Value} {tv:Nat->Nat->Value} {l:List PE} {ev:Value} {te:Nat->Value} (h:IL w W6 W sb lb mb va qv S Ds lv tv l ev te)
 (M7:∀D,D∈Ds->D < W6.heap.size) {x:eW} (heb:ay W eb 118 (aH x)) (hle:W6.heap.size<=eb) (hnt:p.aW.length<=4) (Zp:∀k,k∈FB->k < W6.heap.size/\k≠lb) {tvv:Value} (m2:W.cell? (π mb 2)=some tvv) (kX:mb < w.heap.size):
 Rg w W6 W sb lb mb eb p.aW.length va qv S Ds FB lv tv l ev te x (FQ p x) (SSt w mb eb x.key tvv):=by
 obtain ⟨z1,z2⟩:=h.sz;have hw:=h.sl.zm.size;have iF:=h.sl.lo;have bV:Below W.heap.size W (us W x):=((afL _ W).alloc (afF _) _).trans (au _ _ 1);have zV:(us W x).heap.size=W.heap.size+1:=by unfold us;simp
 have FV:da [] W (us W x):=da.ah bV;have F2:da [] W (CO W x):=FV.alloc _;have s0:SSt w mb eb x.key tvv W:=⟨heb.cell 0,h.sl.b1.cell 0,m2⟩;have sT:∀b,b∈ev.ownBlock.toList->ev.ownBlock=some b:=fun b hb=>by simpa using hb
 have rE2:=h.es.row.aB F2 smm;refine ⟨s0.aB FV smm smm smm,(h.bx.aB FV smm).cell 0,by have:=h.bx.lt;omega,?_,fun j hj=>?_,fun v1 w1 r1 f1 b1=>?_⟩
 ·have:=agy (e:=3) (size:=1) (us W x) #[] 0 (afO _) (afO _) smm;exact this
 ·rw [Addr.add_lit,Nat.zero_add];have hb:ay (CO W x) W.heap.size 116 (aey x):=((ay.new W _ _).drewN 1).alloc _;rw [hb.cell j];unfold aey;have:j=0\/j=1\/j=2\/j=3:=omm;rcases this with rfl|rfl|rfl|rfl<;>rfl
 ·have f1':da [W.heap.size+1] (CO W x) w1:=f1.mono (by intro k hk;rw [zV] at hk;simpa [Value.ownBlock] using hk);have DI:Below W.heap.size W (CO W x):=bV.alloc bV.size _;have F1:da [] W w1:=(F2.mono (T:=[W.heap.size+1]) smm).trans f1' |>.Wx (by intro k hk;simp at hk;subst hk;exact .inr omm);have s1:=s0.aB F1 smm smm smm;have bx1:=h.bx.aB F1 smm;have hlen:(FQ p x).aW.length=p.aW.length:=by simp [FQ]
  have r1':Row w1 3 1 v1 (FQ p x).aW.length (aU (FQ p x).aW):=by rw [hlen];rw [Nat.zero_add] at r1;refine r1.congr fun o ho=>?_;unfold gU aU FQ;rw [abH omm];dsimp only;rw [sY _ _ omm];congr 1
  have i1:∀b,v1.ownBlock=some b->W.heap.size<=b:=fun b hb=>by
   rcases b1 with h'|h'<;>rw [hb] at h'<;>simp [Value.ownBlock] at h'
   ·rw [zV] at h';omega
   ·have:=F2.size;omega
  have b2:Below w1.heap.size w1 (w1.alloc (.cells #[.int .u64 x.key,v1] 62)):=(afL _ _).alloc (afF _) _;obtain ⟨va1,vn1,vc1,rfl⟩:=Row.qT r1;refine ⟨s1,bx1.cell 0,bx1.lt,⟨(h.es.row.aB F1 smm).aB (da.ah (S:=[]) b2) smm,fun j hj=>?_,fun j hj=>?_,fun v' w3 r3 f3 b3=>?_⟩⟩
  ·rw [Addr.add_lit,Nat.zero_add,(ay.new w1 62 #[.int .u64 (FQ p x).key,.slice va1 vn1 vc1]).cell j];have:j=0\/j=1:=omm;rcases this with rfl|rfl<;>rfl
  ·have:j=0\/j=1:=omm;rcases this with rfl|rfl<;>rfl
  ·obtain ⟨te',hI,hF⟩:=h.told (x:=FQ p x) M7 DI omm f1' r1' i1 b2 f3 r3 b3;have F3:da ev.ownBlock.toList W w3:=((F1.trans (da.ah b2)).mono smm).trans f3;have ne1:∀b,b∈ev.ownBlock.toList->b≠eb/\b≠w.heap.size/\b≠mb/\b≠lb:=fun b hb=>by have iN:=sT b hb;have:=h.es.jy b iN;obtain ⟨cs,qt⟩:=h.es.row.typ iN;refine ⟨fun e=>?_,omm,omm,omm⟩;subst e;exact ay.ne qt heb dee rfl
   have s3:=s0.aB F3 (fun hc=>(ne1 _ hc).1 rfl) (fun hc=>(ne1 _ hc).2.1 rfl) (fun hc=>(ne1 _ hc).2.2.1 rfl);have Zm:=h.bx.aB F3 (fun hc=>(ne1 _ hc).2.2.2 rfl);have s4:SSt w mb eb x.key tvv (w3.setCell (π lb 0) v'):=s3.aB ((da.refl [lb] w3).setCell (p:=(π lb 0)) smm v') sso sso sso;have hc:∀b,b∈lb::ev.ownBlock.toList->Mk.KL W b:=fun b hb=>by
    rcases List.mem_cons.1 hb with rfl|hb
    ·exact h.bx.Hm
    ·exact Row.Hm h.es.row (sT b hb)
   refine ⟨s3,Zm.frozen,Zm.cell 0,s4,yG hF hc _,fun k hk=>hF.block k (by have:=(Zp k hk).1;omega) (fun hc=>?_),_,_,hI⟩;have h1:=Zp k hk;rcases List.mem_cons.1 hc with rfl|hc
   ·exact h1.2 rfl
   ·have:=h.es.jy k (sT k hc);omega
theorem afc {p:Prop} (h:p:=by
 intro wz bR
 (try dsimp only at bR)
 exact qU):p:=h
theorem ag1 {p:Prop} (h:p:=by
 refine Mk.pt ?_;refine afR (rs:=[13]) krr smm ?_;refine afJ rfl (fun K hK=>?_) af1;refine QX ?_;go_simp;refine hK.out _ _ (SSt.alloc al _) (fun al=>?_);clear hK K;exact afd):p:=h
theorem afe {p:Prop} (h:p:=by
 refine Mk.pt ?_;refine afR (rs:=[11]) krr smm ?_;refine afJ rfl (fun K hK=>?_) af1;refine dq rfl (.tmp 37) (.tmp 44) 24 rfl 3 underlying24 Vf.b_ rfl dee (.slice (some (π V.heap.size 0)) 0 0) 0 (fun _=> ι 0) (by simp [Act.eval,Act.put]) aeW.o (π tbx 0) nt 4 (fun j=> ι (xe.tg j)) (by simp [Act.eval,Act.put]) aeX.o (fun j _=>rfl) adZ.o.1 adZ.o.2 ?_;intro v1 w1 r1 f1 b1;obtain ⟨va1,vn1,vc1,rfl⟩:=Row.qT r1;obtain ⟨yz,c1,l1,mT⟩:=HW1.o _ w1 r1 f1 b1;have HD1:=ae mT;clear r1 f1 b1 mT;clear al;refine hK.out _ _ yz (fun al=>?_);clear hK K;refine Mk.pt ?_;refine Mk.tk 12 (v:=?_) rfl ?_ aas ?_;rotate_left
 ·exact afc
 exact ag1):p:=h
theorem afd {p:Prop} (h:p:=by
 refine Mk.pt ?_;refine afR (rs:=[14]) krr smm ?_;refine afJ rfl (fun K hK=>?_) af1;refine dq rfl (.tmp 34) (.tmp 47) 60 rfl 62 underlying60 adp rfl dee ev lp.length (peC lp te) (by simp [Act.eval,Act.put]) (HD1.o.row) (π w1.heap.size 0) 1 1 (fun j=>if j % 2=0 then .int .u64 xe.key else .slice va1 vn1 vc1) (by simp [Act.eval,Act.put]) HD1.o.news HD1.o.one aeY.o.1 aeY.o.2 ?_;intro v' w3 r3 f3 b3;obtain ⟨va3,vn3,vc3,rfl⟩:=Row.qT r3;obtain ⟨Gl,f5,c5,Dc,Xm⟩:=HD1.o.fin _ w3 r3 f3 b3;have afy:=ae Xm;clear r3 f3 b3 Xm;clear al;refine hK.out _ _ Gl (fun al=>?_);clear hK K;refine Mk.pt ?_;refine afR (rs:=[15]) krr smm ?_;refine afJ rfl (fun K hK=>?_) af1;refine QX ?_;go_simp;refine hK.out _ _ Dc (fun al=>?_);clear hK K;refine Mk.pt ?_;refine afZ krr ⟨rfl,?_⟩ _;clear al Gl Dc
 gi_wp2_with fail
 obtain ⟨k1,k2,ev2,te2,hI2⟩:=afy.o;exact ⟨k1,k2,ev2,te2,by rw [List.map_append,HLP.o,List.map_cons,List.map_nil,HXE.o];exact hI2⟩):p:=h
theorem aeL (h:Mx w C RO K p c s t used rv) (tb:vj p) (gm:K.nd<=4194304):
 Calls prog 20 #[ρ C.mb] w (FI w (nL p s)):=by
 have b0:Below w.heap.size w ((w.alloc (.cells #[ρ C.mb] 35)).alloc (.cells #[ν,ν] 56)):=((afL _ _).alloc (afF _) _).alloc smm _;have h0:=h.later b0;have m11:((w.alloc (.cells #[ρ C.mb] 35)).alloc (.cells #[ν,ν] 56)).cell? (π C.mb 11)=some C.vs:=h0.m.aM.cell 11;have HC:=ae (Vf.pN (Vf.aV.D9 h0.m.vs) (by have:=tb.v;omega) (fun j _=>rfl));have lm:=h.m.aM.lt;have H:=ae h;have HT:=ae tb;have gp:=ae b0;clear h tb b0 h0;refine (callsIn_wide (n:=9)).1 ?_;refine callsIn_of_wp_marks func20 rfl trivial ?_ rfl;simp only [ntmps20,List.size_toArray,List.length_cons,List.length_nil,Nat.reduceAdd,Nat.reduceSub,Array.replicate_succ,Array.replicate_zero,List.push_toArray,List.append_toArray,List.nil_append,List.cons_append];refine wpIn_wide.2 ?_;go_wp2_with fail;refine HC.o.mono ?_;rintro e w2 ⟨vv,rfl,rV,bV,iV⟩;obtain ⟨va,vn,vc,rfl⟩:=Row.qT rV;have bW:=gp.o.trans (bV.mono (by simp only [aE];omega));have k2:ay w2 w.heap.size 35 #[ρ C.mb]:=((ay.new w _ _).alloc _).of (bV.block _ (by simp only [aE];omega));have k3:ay w2 (w.heap.size+1) 56 #[ν,ν]:=by have:=ay.new (w.alloc (.cells #[ρ C.mb] 35)) 56 #[ν,ν];rw [aE] at this;exact this.of (bV.block _ (by simp only [aE];omega))
 have Mc:=ae (H.o.later bW);have sl3:SL w (w2.alloc (.cells #[ν,.slice va vn vc] 56)) w2.heap.size (w2.heap.size+1) C.mb (.slice va vn vc) ν ⟨[],(List.range p.vars.length).map s.vars⟩ [] (fun _=> ν) (fun _ _=> ν):=by
  have Dq:=bV.size;simp only [aE] at Dq;refine ⟨bW.alloc bW.size _,⟨omm,omm,smm⟩,k2.alloc _,k3.alloc _,ay.new w2 _ _,⟨⟨Row.nil _ _ _ _,mN.nil _ _,fun q hq=>absurd hq smm,fun q q' hq=>absurd hq smm⟩,⟨?_,fun b hb=>?_⟩⟩,Mk.Marks.nil _,smm⟩
  ·have e:(List.map s.vars (List.range p.vars.length)).length=p.vars.length:=by simp
   show Row _ _ 1 _ (List.map s.vars (List.range p.vars.length)).length (aU (List.map s.vars (List.range p.vars.length)));rw [e];refine (rV.alloc _).congr fun o ho=>?_;unfold aU;rw [sY _ _ omm]
  ·have:=iV b hb;simp only [aE] at this;omega
 have HSL:=ae sl3;have d2:=k2.c1;have m0:w2.cell? (π C.mb 0)=some K.g:=Mc.o.m.aM.cell 0;obtain ⟨ga,gn,gc,jZ⟩:=Row.qT Mc.o.m.prog.g;rw [jZ] at m0;have um:gn=p.ap.length:=by
  rcases Mc.o.m.prog.g.val with ⟨h,h'⟩|⟨b,cap,h,-⟩
  ·rw [jZ] at h;simp at h;omega
  ·rw [jZ] at h;simp at h;omega
 obtain rfl:=um;have l2:=k2.lt;have Y5:=Mc.o.m.aM.lt;have MQ:=HT.o.g;clear rV iV bV bW m11 HC lm jZ gp k2 k3 sl3;go_wp2_with fail;refine Mk.aP (afa w w2.heap.size C.mb (.slice va vn vc) p s) (p.ap.length+1) ?start ?zero ?round
 case start=>exact ⟨0,[],_,_,_,_,afO _,omm,pC rfl,HSL⟩
 case zero=>exact fun a W hh=>by obtain ⟨q,_,_,_,_,_,h1,h2,_⟩:=hh;omega
 clear HSL Mc d2 m0 l2 Y5;generalize w2.heap.size=sb
 case round=>
  rintro m a W ⟨q,Ds,qv,lv,tv,hi,hq,hm,⟨J,rfl⟩,KT⟩;have MW:=H.o.later KT.o.zm;have d2:=KT.o.b1.c1;have m9:W.cell? (π C.mb 9)=some (ρ C.ab):=MW.m.aM.cell 9;have l1:=KT.o.b1.lt;have lm:=MW.m.aM.lt;by_cases a8:q < p.ap.length
  ·obtain ⟨wA,Zt⟩:∃wA,wA=W.alloc (.cells #[ν] 60):=⟨_,rfl⟩;have bA:Below W.heap.size W wA:=by rw [Zt];exact (afL _ _).alloc (afF _) _
   have PR:=ae (MW.later bA);have TJ:=ae (KT.o.later bA);have kN:wA.heap.size=W.heap.size+1:=by rw [Zt];simp
   have kl:ay wA W.heap.size 60 #[ν]:=by rw [Zt];exact ay.new W _ _
   have HL:=ae (dT.WV PR.o.m.ar gm a8);have HKL:=ae kl;have ze:=ae kN;clear MW bA kN kl;go_wp2_with fail;rw [<-Zt];clear Zt;refine HL.o.mono ?_;rintro e w6 ⟨rfl,Us,AR⟩;have Vo:W.heap.size+1=wA.heap.size:=ze.o.symm;have hhl:=KT.o.lo;generalize W.heap.size=lb at*;have hqL:((rowsOf s.a (s.a.ls q)).map fun y=>FQ p y.2)=oG p s q:=by unfold rowsOf oG;rw [List.map_map];rfl
   have qi:=PR.o.m.ar.uV a8;have hlen:(rowsOf s.a (s.a.ls q)).length<=4194304:=by rw [dT.mJ];have:=qi.1;omega
   have b6:=AR.zm;have Zu:wA.heap.size < w6.heap.size:=AR.box.lt;have HR6:=ae (Qs AR);have AG:∀k,k∈dJ Us->wA.heap.size<=k/\k < w6.heap.size:=by
    intro k hk;rcases AR.own.2 with ⟨rfl,_⟩|⟨g,cap,yQ,rfl,h1,h2,_⟩
    ·simp [dJ] at hk
    ·simp [dJ] at hk;subst hk;exact ⟨h1,(Array.getElem?_eq_some_iff.1 h2).1⟩
   have Na:=ae (dT.uX Fence.wide 8 trivial rfl omm wA.heap.size wA.heap.size Us (rowsOf s.a (s.a.ls q)) omm w6 AR.box HR6.o (fun k hk=>(AG k hk).2));have V8:=ae (TJ.o.later b6);have Ut:=ae (HKL.o.of (b6.block _ omm));have Zd:=ae (PR.o.later b6);have HQL:=ae hqL;have pU:=AR.box.lt;clear hqL AR b6 HL TJ HKL PR HR6 qi;generalize rowsOf s.a (s.a.ls q)=L at*;have M7:∀D,D∈Ds->D < w6.heap.size:=fun D hD=>V8.o.CM.lt hD;have m2:w6.cell? (π C.mb 2)=some K.t:=Zd.o.m.aM.cell 2;obtain ⟨ta,tn,tc,htv⟩:=Row.qT Zd.o.m.prog.t;rw [htv] at m2;have htl:tn=p.aW.length:=by
    rcases Zd.o.m.prog.t.val with ⟨h,h'⟩|⟨b,cap,h,-⟩
    ·rw [htv] at h;simp at h;omega
    ·rw [htv] at h;simp at h;omega
   obtain rfl:=htl;have HTV:=ae htv;have Zv:=ae M7;have Mc:=ae m2;clear m2 htv M7;go_wp2_with fail;refine (wpIn_wide (n:=9)).1 ?_;refine wpIn_rangeFunc_ownH (n:=9) (F:=Fence.wide) rfl omm (gf:=136) (lb:=#[ρ wA.heap.size]) rfl trivial (enters_of func136 krr rfl) Na.o w_.t
    (w_.b (by intro k hk;rcases List.mem_cons.1 hk with rfl|hk;exact Zu;exact (AG k hk).2)) (afL _ _) (fun _=>rfl)
    (fun pre W=>∃ev te,Hid (IL w w6 W sb lb C.mb (.slice va vn vc) qv ⟨(List.range q).map (oG p s),(List.range p.vars.length).map s.vars⟩ Ds lv tv (pre.map fun y=>FQ p y.2) ev te))
    (fun c pre W=>False) ?hI ?hIx ?h0 (fun x a' W=>AxS w w6 lb x a' W) (fun x a' _ W W' row hs hg hr=>hs.grown hg hr) ?assign ?body ?done ?stop
   case hI=>exact fun pre W W' row ⟨ev,te,hh⟩ hg hr=>⟨ev,te,hh.o.grown Zv.o hg hr⟩
   case hIx=>exact fun c pre W W' row hh _ _=>hh
   case h0=>exact ⟨ν,fun _=> ν,⟨V8.o.up hhl.2.2 omm,Ut.o,⟨Row.nil _ _ _ _,mN.nil _ _,fun i hi=>absurd hi smm⟩,omm,afF _⟩⟩
   case assign=>
    rintro l pre x W K ⟨ev,te,mX⟩ hK;unfold bG
    gi_wp2
    have bB:Below W.heap.size W (W.alloc (.cells (aH x.2) 118)):=(afL _ _).alloc (afF _) _;refine hK _ _ ((KeepsOthers.alloc _ _).from _) (fun k hk=>bB.block k ?_) ⟨ev,te,mX.o.later bB⟩ ⟨W.heap.size,pC rfl,ay.new W _ _,mX.o.sz.2⟩;have:=mX.o.sz.2;rcases List.mem_cons.1 hk with rfl|hk
    ·omega
    ·have:=(AG k hk).2;omega
   case stop=>exact fun D c pre W _ _ hh _=>absurd hh smm
   case body=>
    rintro l pre x a' W hl hr ⟨ev,te,mX⟩ ⟨eb,⟨J2,rfl⟩,heb,hle⟩ qP;have d2:=mX.o.sl.b1.c1;have l2:=mX.o.sl.b1.lt;obtain ⟨e0,e1,e2,e3,e4⟩:=heb.c5;have Zp:∀k,k∈wA.heap.size::dJ Us->k < w6.heap.size/\k≠lb:=by
     intro k hk;rcases List.mem_cons.1 hk with rfl|hk
     ·exact ⟨Zu,omm⟩
     ·have:=AG k hk;exact ⟨this.2,omm⟩
    have m2:W.cell? (π C.mb 2)=some (.slice ta p.aW.length tc):=by rw [<-HTV.o];exact (H.o.later mX.o.sl.zm).m.aM.cell 2
    have RG:=mX.o.region Zv.o heb hle HT.o.t Zp m2 H.o.m.aM.lt;have C_:(pre.map (fun y:Nat×eW=>FQ p y.2)).length < L.length:=by rw [List.length_map];exact qP
    have hnt:=HT.o.t;generalize aff:pre.map (fun y:Nat×eW=>FQ p y.2)=lp at*;have HLP:=ae aff;have adZ:=ae (show 0+p.aW.length<=maxLen/\(0+p.aW.length)*8<=140737488355328 by unfold maxLen;omega);have aeY:=ae (show lp.length+1<=maxLen/\(lp.length+1)*32<=140737488355328 by unfold maxLen;omega);clear aff Zp m2 mX heb qP
    gi_wp2_with fail
    clear d2 l2 e0 e1 e2 e3 e4;obtain ⟨sS,c0,l0,aez,aeA,jo⟩:=RG;unfold CO at aez aeA jo;refine Mk.rr (S:=(fun wx=>wx.cell? (π eb 0)=some (.int .u64 x.2.key)/\wx.cell? (π w.heap.size 0)=some (ρ C.mb)/\wx.cell? (π C.mb 2)=some (.slice ta p.aW.length tc))) krr krr sS (fun al=>?_);change wpAnyH _ _ _ _ _ _ _ _ (us W x.2);replace al:=sS;unfold SSt at al;clear sS;generalize us W x.2=V at*;generalize W.heap.size=tbx at*;generalize Wi:x.2=xe at*;have HXE:=ae Wi;clear Wi;generalize afD:p.aW.length=nt at*;have aeW:=ae aez;have aeX:=ae aeA;have HW1:=ae jo;clear aez aeA jo;have xf:=ae3 tbx nt hnt;refine Mk.tk 1 (v:=?_) rfl ?_ aas ?_;rotate_left
    ·exact afc
    refine Mk.pt ?_;refine Mk.tk 2 (v:=?_) rfl ?_ aas ?_;rotate_left
    ·exact afc
    refine Mk.pt ?_;refine Mk.tk 4 (v:=?_) rfl ?_ aas ?_;rotate_left
    ·exact afc
    refine Mk.pt ?_;refine Mk.tk 5 (v:=?_) rfl ?_ aas ?_;rotate_left
    ·exact afc
    refine Mk.pt ?_;refine Mk.tk 6 (v:=?_) rfl ?_ aas ?_;rotate_left
    ·exact afc
    refine Mk.pt ?_;refine Mk.tk 7 (v:=?_) rfl ?_ aas ?_;rotate_left
    ·exact afc
    refine Mk.pt ?_;refine Mk.tk 8 (v:=?_) rfl ?_ aas ?_;rotate_left
    ·exact afc
    refine Mk.pt ?_;refine Mk.tk 9 (v:=?_) rfl ?_ aas ?_;rotate_left
    ·exact afc
    refine Mk.pt ?_;refine Mk.tk 10 (v:=?_) rfl ?_ aas ?_;rotate_left
    ·exact afc
    refine Mk.pt ?_;refine afR (rs:=[0,3]) krr smm ?_;refine afJ rfl (fun K hK=>?_) (afJ rfl (fun K hK=>?_) af1)
    ·refine QX ?_;go_simp;refine hK.out _ _ al (fun al=>?_);clear hK K;refine Mk.pt ?_;refine afR (rs:=[3]) krr smm ?_;refine afJ rfl (fun K hK=>?_) af1;refine QX ?_;go_simp;refine hK.out _ _ (SSt.alloc al _) (fun al=>?_);clear hK K;exact afe
    ·refine QX ?_;go_simp;refine hK.out _ _ (SSt.alloc al _) (fun al=>?_);clear hK K;refine Mk.pt ?_;refine afR (rs:=[0,11]) krr smm ?_;refine afJ rfl (fun K hK=>?_) (afJ rfl (fun K hK=>?_) af1)
     ·refine QX ?_;go_simp;refine hK.out _ _ al (fun al=>?_);clear hK K;exact afe
     ·refine dq rfl (.tmp 37) (.tmp 44) 24 rfl 3 underlying24 Vf.b_ rfl dee (.slice (some (π V.heap.size 0)) 0 0) 0 (fun _=> ι 0) (by simp [Act.eval,Act.put]) aeW.o (π tbx 0) nt 4 (fun j=> ι (xe.tg j)) (by simp [Act.eval,Act.put]) aeX.o (fun j _=>rfl) adZ.o.1 adZ.o.2 ?_;intro v1 w1 r1 f1 b1;obtain ⟨va1,vn1,vc1,rfl⟩:=Row.qT r1;obtain ⟨yz,c1,l1,mT⟩:=HW1.o _ w1 r1 f1 b1;have HD1:=ae mT;clear r1 f1 b1 mT;clear al;refine hK.out _ _ yz (fun al=>?_);clear hK K;refine Mk.pt ?_;refine Mk.tk 12 (v:=?_) rfl ?_ aas ?_;rotate_left
      ·exact afc
      refine Mk.pt ?_;refine afR (rs:=[0,13]) krr smm ?_;refine afJ rfl (fun K hK=>?_) (afJ rfl (fun K hK=>?_) af1)
      ·refine QX ?_;go_simp;refine hK.out _ _ al (fun al=>?_);clear hK K;exact ag1
      ·refine QX ?_;go_simp;refine hK.out _ _ (SSt.alloc al _) (fun al=>?_);clear hK K;refine Mk.pt ?_;refine afR (rs:=[0]) krr smm ?_;refine afJ rfl (fun K hK=>?_) af1;refine QX ?_;go_simp;refine hK.out _ _ al (fun al=>?_);clear hK K;exact afd
   case done=>
    rintro D ys W hD rfl ⟨ev,te,mX⟩ Zw;rw [HQL.o] at mX;have r0:=mX.o.sl.b3.c1;have r1:=mX.o.bx.c1;have l3:=mX.o.sl.b3.lt;have l4:=mX.o.bx.lt;have lsl:sb≠lb:=omm;have bB:Below W.heap.size W (W.alloc (.cells #[ev] 60)):=(afL _ _).alloc (afF _) _;have bq:=mX.o.sl.st.qs.row.aB (da.ah (S:=[]) bB) smm;have AG:((List.range q).map (oG p s)).length=q:=by simp
    rw [AG] at bq;have p_:=ae bq;obtain ⟨ea,en,ec,rfl⟩:=Row.qT mX.o.es.row;have SM:=ae (show q+1<=maxLen/\(q+1)*24<=140737488355328 by unfold maxLen;omega);have IT:∀v' w3,Row w3 60 1 v' (q+1) (gU (q*1) lv fun _=> .slice ea en ec)->da qv.ownBlock.toList (W.alloc (.cells #[.slice ea en ec] 60)) w3->(v'.ownBlock=qv.ownBlock\/v'.ownBlock=some (W.alloc (.cells #[.slice ea en ec] 60)).heap.size)->
     (∀o,w3.frozen? (π sb o)=false)/\w3.cell? (π sb 0)=some qv/\sb < w3.heap.size/\∃lv' tv',SL w (w3.setCell (π sb 0) v') sb w3.heap.size C.mb (.slice va vn vc) v' ⟨(List.range (q+1)).map (oG p s),(List.range p.vars.length).map s.vars⟩ (D::Ds) lv' tv':=by
     intro v' w3 r3 f3 i3;have r3':=r3;rw [<-AG] at r3;obtain ⟨lv',tv',hn⟩:=SL.next mX.o Zv.o bB f3 r3 i3 Zw hD;have nb:sb∉qv.ownBlock.toList:=fun hc=>by obtain ⟨cs,qt⟩:=mX.o.sl.st.qs.row.typ (b:=sb) (by simpa using hc);exact ay.ne qt mX.o.sl.b3 dee rfl
     have b3:=(mX.o.sl.b3.aB (da.ah (S:=[]) bB) smm).aB f3 nb;refine ⟨b3.frozen,b3.cell 0,b3.lt,lv',tv',?_⟩;rw [List.range_succ,List.map_append];exact hn
    have DK:=ae IT;clear mX bq bB IT AG Zw Na HQL;go_wp2_with (at_builtin;refine cz rfl _ _ 54 rfl 60 underlying54 aev rfl dee qv q lv rfl p_.o (π W.heap.size 0) 1 1 (fun _=> .slice ea en ec) rfl ?zT ?ED ?EE ?ID ?_)
    case zT=>intro j hj;obtain rfl:j=0:=omm;exact (ay.new W 60 #[.slice ea en ec]).cell 0
    case ED=>exact fun j _=>rfl
    case EE=>exact SM.o.1
    case ID=>exact SM.o.2
    intro v' w3 r3 f3 i3;obtain ⟨va3,vn3,vc3,rfl⟩:=Row.qT r3;obtain ⟨g1,g2,g3,lv',tv',g4⟩:=DK.o _ w3 (by rw [Nat.mul_one];exact r3) f3 (by rw [aE];exact i3);have HG:=ae g4;clear r3 f3 i3 g4;go_wp2_with fail;exact ⟨q+1,D::Ds,_,lv',tv',_,omm,omm,pC rfl,HG⟩
  ·obtain rfl:q=p.ap.length:=omm;obtain ⟨r0,r1⟩:=KT.o.b3.c2;obtain ⟨s0,s1⟩:=KT.o.b2.c2;have sf:=KT.o.b2.frozen;have l2:=KT.o.b2.lt;have l3:=KT.o.b3.lt;have iF:=KT.o.lo;obtain ⟨qa,qn,qc,rfl⟩:=Row.qT KT.o.st.qs.row;clear MW d2 m9;go_wp2_with fail;have F9:da [w.heap.size+1] W ((W.setCell (π (w.heap.size+1) 0) (.slice qa qn qc)).setCell (π (w.heap.size+1) 1) (.slice va vn vc)):=((da.refl [w.heap.size+1] W).setCell (p:=(π (w.heap.size+1) 0)) smm _).setCell (p:=(π (w.heap.size+1) 1)) smm _;have b9:ay ((W.setCell (π (w.heap.size+1) 0) (.slice qa qn qc)).setCell (π (w.heap.size+1) 1) (.slice va vn vc)) (w.heap.size+1) 56 #[.slice qa qn qc,.slice va vn vc]:=(KT.o.b2.set 0 _).set 1 _;have st9:=KT.o.st.off F9 (fun b hb=>by simp at hb;subst hb;exact .inr (.inl ⟨_,_,KT.o.b2,dee⟩));have afz:Below w.heap.size w ((W.setCell (π (w.heap.size+1) 0) (.slice qa qn qc)).setCell (π (w.heap.size+1) 1) (.slice va vn vc)):=(KT.o.zm.setCell (by show w.heap.size<=w.heap.size+1;omega) _).setCell (by show w.heap.size<=w.heap.size+1;omega) _;have mk9:Mk.Marks ((W.setCell (π (w.heap.size+1) 0) (.slice qa qn qc)).setCell (π (w.heap.size+1) 1) (.slice va vn vc)) Ds:=KT.o.CM.keeps fun k hk=>F9.block k (KT.o.CM.lt hk) (by simp;intro e;subst e;exact KT.o.CM.not KT.o.b2.Hm hk);have hs9:=F9.size;generalize (W.setCell (π (w.heap.size+1) 0) (.slice qa qn qc)).setCell (π (w.heap.size+1) 1) (.slice va vn vc)=W9 at*;refine Mk.zo Ds _ mk9 fun W' Jq=>?_;have b':ay W' (w.heap.size+1) 56 #[.slice qa qn qc,.slice va vn vc]:=b9.of (Jq.cells mk9 b9.Hm);have st':=st9.off Jq.aB (fun b hb=> .inr (.inr ⟨_,mk9.at_ b hb,rfl⟩));obtain ⟨i0,i1⟩:=b'.c2;refine ⟨.agg #[.slice qa qn qc,.slice va vn vc],by simp [results,results20,go_sem,i0,i1],?_⟩;exact ⟨_,_,lv,tv,rfl,afz.trans (Jq.below KT.o.ml),st'.mono (afF _) (by rw [Jq.size];omega)⟩
end
end Go.Proofs.YtblkblclmbhjiaaGreat.Ma
namespace Go.Proofs.YtblkblclmbhjiaaGreat.Ma
open Go.RowKit ak.Vm
open ak hiding aL an aj
open Vf (Kp fP pV aV cV)
theorem ZL {x y:Nat} (hx:x < 18446744073709551616) (hy:y < 18446744073709551616):bits .xor .u64 x y=((x ^^^ y:Nat):Int):=by
 have h:x ^^^ y < 18446744073709551616:=Nat.xor_lt_two_pow (n:=64) hx hy;have e:(BitVec.ofInt 64 (x:Int) ^^^ BitVec.ofInt 64 (y:Int)).toNat=x ^^^ y:=by rw [BitVec.toNat_xor,BitVec.ofInt_natCast,BitVec.ofInt_natCast,BitVec.toNat_ofNat,BitVec.toNat_ofNat,Nat.mod_eq_of_lt hx,Nat.mod_eq_of_lt hy]
 unfold bits;dsimp only;show IntKind.wrap .u64 (((BitVec.ofInt 64 (x:Int) ^^^ BitVec.ofInt 64 (y:Int)).toNat:Nat):Int)=_;rw [e];unfold IntKind.wrap;simp [IntKind.bits,IntKind.signed];omega
theorem adO {x y:Nat} (hx:x < 18446744073709551616) (hy:y < 18446744073709551616):x ^^^ y < 18446744073709551616:=Nat.xor_lt_two_pow (n:=64) hx hy
theorem Qv (x y:Nat):x ^^^ y ^^^ y=x:=by rw [Nat.xor_assoc,Nat.xor_self,Nat.xor_zero]
def Fa (p:aO) (c:Cp) (s:St) (key:Nat):Bool:=if dE p c s key=0 then sH p c s key else false
def rk (p:aO) (c:Cp) (s:St) (key:Nat):List Nat:=if dE p c s key=0 then gK p c s key else []
def NE (w:World) (C:Co) (RO:List Nat) (p:aO) (c:Cp) (s:St) (used:Int):Prop:=∃(K:Kc) (T:Map) (t:fI),Mx w C RO K p c s t used (.pointer none)/\N6 K C.mb p c/\Env p c T/\mh p/\Inv (aw p c) s
section
variable {w w':World} {C C':Co} {RO:List Nat} {lo:Nat} {p:aO} {c:Cp} {s:St} {t:fI} {used:Int}
theorem jX.r (h:jX w C lo p c s t used):∃RO,NE w C RO p c s used/\∀b,b∈C.l++RO->lo<=b:=by obtain ⟨RO,K,T,h1,h2,h3,h4,h5,h6⟩:=h;exact ⟨RO,⟨K,T,t,h1,h2,h3,h4,h5⟩,h6⟩
theorem NE.lt (h:NE w C RO p c s used) {b:Nat} (hb:b∈C.l++RO):b < w.heap.size:=by
 obtain ⟨K,T,t,h1,-⟩:=h;rcases List.mem_append.1 hb with hb|hb
 ·exact h1.sep.lt b hb
 ·exact h1.sep.cY b hb
theorem NE.cr (h:NE w C RO p c s used) {b:Nat} (hb:b∈RO):b∉C.l:=by obtain ⟨K,T,t,h1,-⟩:=h;exact h1.cr hb
theorem NE.aB (h:NE w C RO p c s used) {S:List Nat} (f:da S w w') (hs:∀b,b∈C.l++RO->b∉S):NE w' C RO p c s used:=by obtain ⟨K,T,t,h1,h2⟩:=h;exact ⟨K,T,t,h1.aB f (fun b hb=>hs b (by simp [hb])) (fun b hb=>hs b (by simp [hb])),h2⟩
theorem NE.inv (h:NE w C RO p c s used):Inv (aw p c) s:=by obtain ⟨K,T,t,-,-,-,-,h5⟩:=h;exact h5
theorem NE.env (h:NE w C RO p c s used):∃T,Env p c T:=by obtain ⟨K,T,t,-,-,h3,-⟩:=h;exact ⟨T,h3⟩
def afA (w:World) (C:Co) (RO:List Nat) (p:aO) (c:Cp) (s:St) (key:Nat) (e:Ending) (w':World):Prop:=
 ∃(tv:Value) (C':Co),e= .returned (.agg #[.bool (Fa p c s key),tv,ι (dE p c s key)])/\bu w w' C C'/\NE w' C' RO p c (dF p c s key) ((lD p c s key).1:Nat)/\vX w' tv (rk p c s key)/\∀b,b∈vb tv->b∉C'.l/\b∉Ma.rest w C
theorem aeE (h:NE w C RO p c s used) {key:Nat} (hk:key < 18446744073709551616):
 Calls prog 17 #[ρ C.mb,.int .u64 key] w (afA w C RO p c s key):=by
 obtain ⟨K,T,t,h1,M,V,hS,hI⟩:=h;have aaT:Calls prog 17 #[ρ C.mb,.int .u64 key] w (eD w C RO K p c t s key):=by
  cases hf:s.f key with
  |none=>exact Cz M V hS h1 hI hk hf
  |some n=>exact ag0
 refine aaT.mono ?_;rintro e w' ⟨tv,C',rfl,k,m,ht,hb⟩;exact ⟨tv,C',rfl,k,⟨K,T,_,m,by rw [k.mb];exact M,V,hS,oW V hS hI hk⟩,ht,hb⟩
def afB (w:World) (C:Co) (RO:List Nat) (p:aO) (c:Cp) (s:St) (used:Int) (key:Nat) (e:Ending) (w':World):Prop:=
 e= .returned (ι (gT p c s key))/\∃C',bu w w' C C'/\NE w' C' RO p c (gX p c s key) used
theorem afg (h:NE w C RO p c s used) (key:Nat):
 Calls prog 26 #[ρ C.mb,.int .u64 key] w (afB w C RO p c s used key):=by
 obtain ⟨K,T,t,h1,M,V,hS,hI⟩:=h;have tb:=(cK M.check).1;refine (M0 h1 hI M.BP (by have:=tb.g;omega) key (M.ev hI).total).mono ?_;rintro e w' ⟨rfl,C',k,m⟩;exact ⟨rfl,C',k,K,T,_,m,by rw [k.mb];exact M,V,hS,D2 hI key⟩
theorem ae5 (h:NE w C RO p c s used):Calls prog 28 #[ρ C.mb] w (fun e w'=>e= .returned (ι used)/\w=w'):=by obtain ⟨K,T,t,h1,-⟩:=h;exact Ur h1
theorem aeN (h:NE w C RO p c s used):Calls prog 20 #[ρ C.mb] w (FI w (nL p s)):=by obtain ⟨K,T,t,h1,M,-⟩:=h;exact aeL h1 (cK M.check).1 M.BP
structure Two (w:World) (lo:Nat) (CA:Co) (RA:List Nat) (CB:Co) (RB:List Nat) (p:aO) (c:Cp) (sA sB:St) (uA uB:Int):Prop where
 a:NE w CA RA p c sA uA
 b:NE w CB RB p c sB uB
 ab:∀x,x∈CA.l++RA->x∉CB.l
 ba:∀x,x∈CB.l++RB->x∉CA.l
 la:∀x,x∈CA.l++RA->lo<=x
 lb:∀x,x∈CB.l++RB->lo<=x
variable {CA I7 CB CB':Co} {RA RB:List Nat} {sA sA' sB sB':St} {uA uA' uB uB':Int} {tv:Value}
theorem Two.symm (h:Two w lo CA RA CB RB p c sA sB uA uB):Two w lo CB RB CA RA p c sB sA uB uA:=⟨h.b,h.a,h.ba,h.ab,h.lb,h.la⟩
theorem Two.aB (h:Two w lo CA RA CB RB p c sA sB uA uB) {S:List Nat} (f:da S w w') (ha:∀b,b∈CA.l++RA->b∉S) (hb:∀b,b∈CB.l++RB->b∉S):Two w' lo CA RA CB RB p c sA sB uA uB:=
 ⟨h.a.aB f ha,h.b.aB f hb,h.ab,h.ba,h.la,h.lb⟩
theorem Two.later (h:Two w lo CA RA CB RB p c sA sB uA uB) (b:Below w.heap.size w w'):Two w' lo CA RA CB RB p c sA sB uA uB:=
 h.aB (da.ah (S:=[]) b) smm smm
theorem Two.oh (h:Two w lo CA RA CB RB p c sA sB uA uB) (hl:lo<=w.heap.size) (k:bu w w' CA I7) (m:NE w' I7 RA p c sA' uA'):Two w' lo I7 RA CB RB p c sA' sB uA' uB:=by
 refine ⟨m,h.b.aB k.f h.ba,fun x hx hc=>?_,fun x hx hc=>?_,fun x hx=>?_,h.lb⟩
 ·rcases List.mem_append.1 hx with hx|hx
  ·rcases k.c x hx with hx|hx
   ·exact h.ab x (by simp [hx]) hc
   ·have:=h.b.lt (b:=x) (by simp [hc]);omega
  ·exact h.ab x (by simp [hx]) hc
 ·rcases k.c x hc with h1|h1
  ·exact h.ba x hx h1
  ·have:=h.b.lt hx;omega
 ·rcases List.mem_append.1 hx with hx|hx
  ·rcases k.c x hx with hx|hx
   ·exact h.la x (by simp [hx])
   ·omega
  ·exact h.la x (by simp [hx])
theorem Two.low (h:Two w lo CA RA CB RB p c sA sB uA uB) (hl:lo<=w.heap.size) (k:bu w w' CA I7):Below lo w w':=k.f.below hl (fun b hb=>h.la b (by simp [hb]))
theorem Two.told (h:Two w lo CA RA CB RB p c sA sB uA uB) {b:Nat} (h1:b∉I7.l) (h2:b∉Ma.rest w CA):b∉I7.l++RA/\b∉CB.l++RB:=by
 have key:∀x,x < w.heap.size->x∉CA.l->b≠x:=fun x hx hc e=>h2 (nE.2 (by rw [e];exact ⟨hx,hc⟩));constructor
 ·intro hb;rcases List.mem_append.1 hb with hb|hb
  ·exact h1 hb
  ·exact key b (h.a.lt (by simp [hb])) (h.a.cr hb) rfl
 ·intro hb;exact key b (h.b.lt hb) (h.ba b hb) rfl
end
end Go.Proofs.YtblkblclmbhjiaaGreat.Ma
namespace Go.Proofs.YtblkblclmbhjiaaGreat.Ma
open Go.RowKit ak.Vm
open ak hiding aL an aj
def peK (κ:Nat->Nat) (tv:Nat->Value) (o:Nat):Value:=if o % 2=0 then .int .u64 (κ (o / 2)) else tv (o / 2)
structure ps (w:World) (lo hi:Nat) (qv vv:Value) (S:PS) (κ:Nat->Nat->Nat) (lv:Nat->Value) (tv:Nat->Nat->Value):Prop where
 row:Row w 60 1 qv S.aI.length lv
 jy:mN lo hi qv
 acq:∀q,q < S.aI.length->Row w 62 2 (lv q) (S.aI.getD q []).length (peK (κ q) (tv q))
 aeF:∀q,q < S.aI.length->mN lo hi (lv q)
 aW:∀q,q < S.aI.length->∀i,i < (S.aI.getD q []).length->fL w lo hi (tv q i) ((S.aI.getD q []).getD i ⟨0,[]⟩).aW
 sep:∀q q',q < S.aI.length->q' < S.aI.length->q≠q'->(lv q).ownBlock=none\/(lv q).ownBlock≠(lv q').ownBlock
 vs:fL w lo hi vv S.vars
section
variable {w w':World} {lo hi:Nat} {qv vv:Value} {S S':PS} {κ κ':Nat->Nat->Nat} {lv:Nat->Value} {tv:Nat->Nat->Value}
theorem afh {p:Prop} (h:p:=by
 unfold peC peK;by_cases e:o % 2=0
 ·rw [afE e,afE e,hk q hq (o / 2) omm]
 ·rw [abH e,abH e]):p:=h
theorem jY.toK (h:jY w lo hi qv vv S' lv tv) (hn:S'.aI.length=S.aI.length) (hl:∀q,q < S.aI.length->(S'.aI.getD q []).length=(S.aI.getD q []).length)
 (hk:∀q,q < S.aI.length->∀i,i < (S.aI.getD q []).length->((S'.aI.getD q []).getD i ⟨0,[]⟩).key=κ q i)
 (ht:∀q,q < S.aI.length->∀i,i < (S.aI.getD q []).length->((S'.aI.getD q []).getD i ⟨0,[]⟩).aW=((S.aI.getD q []).getD i ⟨0,[]⟩).aW) (hv:S'.vars=S.vars):ps w lo hi qv vv S κ lv tv:=by
 refine ⟨hn▸h.qs.row,h.qs.jy,fun q hq=>?_,fun q hq=>(h.qs.q q omm).jy,fun q hq i hi=>?_,fun q q' hq Sh=>h.qs.sep q q' omm omm,hv▸h.vs⟩
 ·have r:=(h.qs.q q omm).row;rw [hl q hq] at r;refine r.congr fun o ho=>?_;exact afh
 ·rw [<-ht q hq i hi];exact (h.qs.q q omm).aW i (by rw [hl q hq];exact hi)
theorem ps.at (h:ps w lo hi qv vv S κ lv tv) (hk:∀q,q < S.aI.length->∀i,i < (S.aI.getD q []).length->κ q i=((S.aI.getD q []).getD i ⟨0,[]⟩).key):jY w lo hi qv vv S lv tv:=by refine ⟨⟨h.row,h.jy,fun q hq=>⟨(h.acq q hq).congr fun o ho=>?_,h.aeF q hq,h.aW q hq⟩,h.sep⟩,h.vs⟩;exact afh
theorem ps.congr (h:ps w lo hi qv vv S κ lv tv) (hk:∀q,q < S.aI.length->∀i,i < (S.aI.getD q []).length->κ q i=κ' q i):ps w lo hi qv vv S κ' lv tv:=
 ⟨h.row,h.jy,fun q hq=>(h.acq q hq).congr fun o ho=>by
   unfold peK;by_cases e:o % 2=0
   ·rw [afE e,afE e,hk q hq (o / 2) omm]
   ·rw [abH e,abH e],h.aeF,h.aW,h.sep,h.vs⟩
theorem ps.later (h:ps w lo hi qv vv S κ lv tv) (b:Below w.heap.size w w'):ps w' lo hi qv vv S κ lv tv:=by have f:=da.ah (S:=[]) b;exact ⟨h.row.aB f smm,h.jy,fun q hq=>(h.acq q hq).aB f smm,h.aeF,fun q hq i hi=>⟨(h.aW q hq i hi).row.aB f smm,(h.aW q hq i hi).jy⟩,h.sep,⟨h.vs.row.aB f smm,h.vs.jy⟩⟩
theorem ps.put (h:ps w lo hi qv vv S κ lv tv) {q i b cap:Nat} (hq:q < S.aI.length) (hi':i < (S.aI.getD q []).length) (hv:lv q= .slice (some (π b 0)) (S.aI.getD q []).length cap) (x:Nat):
 ps (w.setCell (π b (i*2)) (.int .u64 x)) lo hi qv vv S (fun q' i'=>if q'=q/\i'=i then x else κ q' i') lv tv:=by
 have he:=h.acq q hq;rw [hv] at he;obtain ⟨cs,hb⟩:=he.c_;have ne:∀{e:TypeId} {size n:Nat} {v:Value} {g:Nat->Value},Row w e size v n g->e≠62->v.ownBlock≠some b:=fun hr bz=>hr.eF hb bz;refine ⟨h.row.other (ne h.row dee) _ _,h.jy,fun q' Sh=>?_,h.aeF,fun q' Sh i' hi'=>⟨(h.aW q' Sh i' hi').row.other (ne (h.aW q' Sh i' hi').row dee) _ _,(h.aW q' Sh i' hi').jy⟩,h.sep,⟨h.vs.row.other (ne h.vs.row dee) _ _,h.vs.jy⟩⟩;by_cases e:q'=q
 ·subst e;have r:=he.set (o:=i*2) omm (.int .u64 x);rw [hv];refine r.congr fun o ho=>?_;unfold peK;dsimp only;by_cases e1:o % 2=0
  ·rw [afE e1,afE e1];by_cases e2:o / 2=i
   ·rw [afE omm,afE ⟨rfl,e2⟩]
   ·rw [abH omm,abH (by simp [e2])]
  ·rw [abH e1,abH e1,abH omm]
 ·have r:=h.acq q' Sh;have hs:(lv q').ownBlock≠some b:=by
   rcases h.sep q' q Sh hq e with h1|h1
   ·rw [h1];simp
   ·rw [hv] at h1;simpa [Value.ownBlock] using h1
  refine (r.other hs _ _).congr fun o ho=>?_;unfold peK;simp [e]
theorem ej {w:World} {e:TypeId} {size n:Nat} {v:Value} {g:Nat->Value} (h:Row w e size v n g):∃a c,v= .slice a n c/\n<=c/\c<=maxLen:=by
 rcases h.val with ⟨e,rfl⟩|⟨_,_,e,h1,h2,-⟩
 ·exact ⟨_,_,e,afF _,afO _⟩
 ·exact ⟨_,_,e,h1,h2⟩
variable {a b:Value} {l:List Int}
variable {h1 h2 zR h1' h2' hi':Nat} {c d a' b' c' d':Value} {L:PL} {lv':Nat->Value}
def FX (J:Nat->Value):Act:={tmps:=#[J 0,J 1,J 2,J 3,J 4,J 5,J 6,J 7,J 8,J 9,J 10,J 11,J 12,J 13,J 14,J 15,J 16,J 17,J 18,J 19,J 20,J 21,J 22,J 23,J 24,J 25,J 26,J 27,J 28,J 29,J 30,J 31,J 32,J 33,J 34,J 35,J 36,J 37,J 38,J 39,J 40,J 41,J 42,J 43,J 44,J 45,J 46,J 47,J 48,J 49,J 50,J 51,J 52,J 53,J 54,J 55,J 56,J 57,J 58,J 59,J 60,J 61,J 62,J 63,J 64,J 65,J 66,J 67,J 68,J 69,J 70,J 71,J 72,J 73,J 74,J 75,J 76,J 77,J 78,J 79,J 80,J 81,J 82,J 83,J 84,J 85,J 86,J 87,J 88,J 89,J 90,J 91,J 92,J 93,J 94,J 95,J 96,J 97,J 98,J 99,J 100,J 101,J 102,J 103,J 104,J 105,J 106,J 107,J 108,J 109,J 110,J 111,J 112,J 113,J 114,J 115,J 116,J 117,J 118,J 119,J 120,J 121,J 122],defers:=[]}
theorem FX.of (A:Array Value) (h:A=(FX fun k=>A.getD k undef).tmps):({tmps:=A,defers:=[]}:Act)=FX fun k=>A.getD k undef:=by rw [h];rfl
def SS1 (W0:World) (x y n:Nat) (m:Nat) (a:Act) (W:World):Prop:=∃(J:Nat->Value) (i:Nat),a=FX J/\J 2=ρ x/\J 3=ρ y/\J 5=ι i/\i<=n/\m+i=n+1/\Hid (∃k,W=W0.drewN k)
def SS2 (W0:World) (x y n:Nat) (m:Nat) (a:Act) (W:World):Prop:=∃(J:Nat->Value) (i:Nat),a=FX J/\J 2=ρ x/\J 3=ρ y/\J 6=ι i/\i<=n/\m+i=n+1/\Hid (Below W0.heap.size W0 W)
def SS3 (W0:World) (x y q n:Nat) (m:Nat) (a:Act) (W:World):Prop:=∃(J:Nat->Value) (i:Nat),a=FX J/\J 2=ρ x/\J 3=ρ y/\J 6=ι q/\J 7=ι i/\i<=n/\m+i=n+1/\Hid (Below W0.heap.size W0 W)
def SS4 (W0:World) (x y q j xb yb n:Nat) (m:Nat) (a:Act) (W:World):Prop:=∃(J:Nat->Value) (i:Nat),a=FX J/\J 2=ρ x/\J 3=ρ y/\J 6=ι q/\J 7=ι j/\J 8=ρ xb/\J 9=ρ yb/\J 10=ι i/\i<=n/\m+i=n+1/\Hid (∃k,W=W0.drewN k)
theorem ad1 {w:World} {v:Value} {l:List PE} {tv:Nat->Value} (h:Row w 62 2 v l.length (peC l tv)) {i:Nat} (hi':i < l.length):∃b cap,v= .slice (some (π b 0)) l.length cap/\b < w.heap.size/\w.cell? (π b (i*2))=some (.int .u64 (l.getD i ⟨0,[]⟩).key)/\w.cell? (π b (i*2+1))=some (tv i):=by obtain ⟨b,cap,e,h1,h2,h3⟩:=h.some omm;subst e;have c0:=h.cell (o:=i*2) omm;have c1:=h.cell (o:=i*2+1) omm;unfold peC at c0 c1;rw [afE omm,show i*2 / 2=i by omega] at c0;rw [abH omm,show (i*2+1) / 2=i by omega] at c1;exact ⟨b,cap,rfl,h3,c0,c1⟩
variable {qv' vv':Value} {tv':Nat->Nat->Value}
theorem adY (hx:jY w lo hi qv vv S lv tv) (hy:jY w zR hi' qv' vv' S lv' tv'):Calls prog 23 #[.agg #[qv,vv],.agg #[qv',vv']] w (fun e w'=>e= .returned (.bool true)/\Below w.heap.size w w'):=by
 obtain ⟨qa,qc,rfl,q1,q2⟩:=ej hx.qs.row;obtain ⟨ra,rc,rfl,r1,r2⟩:=ej hx.vs.row;obtain ⟨qa',qc',rfl,-,-⟩:=ej hy.qs.row;obtain ⟨ra',rc',rfl,-,-⟩:=ej hy.vs.row;have HX:=ae hx;have HY:=ae hy;obtain ⟨W0,lL⟩:∃W0,W0=(w.alloc (.cells #[.slice qa S.aI.length qc,.slice ra S.vars.length rc] 56)).alloc (.cells #[.slice qa' S.aI.length qc',.slice ra' S.vars.length rc'] 56):=⟨_,rfl⟩;have pZ:=ae (show ay W0 w.heap.size 56 #[.slice qa S.aI.length qc,.slice ra S.vars.length rc] by rw [lL];exact (ay.new _ _ _).alloc _);have kY:=ae (show ay W0 (w.heap.size+1) 56 #[.slice qa' S.aI.length qc',.slice ra' S.vars.length rc'] by rw [lL];exact ay.a_ smm);have gp:=ae (show Below w.heap.size w W0 by rw [lL];exact ((afL _ _).alloc (afF _) _).alloc smm _);clear hx hy;go_enter func23,ntmps23;go_wp2_with fail;rw [<-lL];clear lL;refine Mk.aP (SS1 W0 w.heap.size (w.heap.size+1) S.vars.length) (S.vars.length+1) ⟨_,0,FX.of _ rfl,rfl,rfl,rfl,afO _,omm,ae ⟨0,rfl⟩⟩ (fun a W hh=>by obtain ⟨J,i,-,-,-,-,h1,h2,-⟩:=hh;omega) ?_;rintro m a W ⟨J,i,rfl,j2,j3,j5,hi,hm,HW⟩;obtain ⟨k,rfl⟩:=HW.o;unfold FX;rw [j2,j3,j5];clear j2 j3 j5;have k1:W0.cell? (π w.heap.size 1)=some (.slice ra S.vars.length rc):=pZ.o.cell 1;have l1:=pZ.o.lt;by_cases a8:i < S.vars.length
 ·have w2:IntKind.i64.wrap ((i:Int)+1)=((i+1:Nat):Int):=by unfold maxLen at r2;rw [afU _ coo];omega
  have n1:W0.cell? (π (w.heap.size+1) 1)=some (.slice ra' S.vars.length rc'):=kY.o.cell 1;have l2:=kY.o.lt;have ha:=HX.o.vs.row.aB (da.ah (S:=[]) gp.o) smm;have hb:=HY.o.vs.row.aB (da.ah (S:=[]) gp.o) smm;obtain ⟨xa,xc,ea,-,-,la⟩:=ha.some omm;obtain ⟨ya,yc,eb,-,-,lb⟩:=hb.some omm;simp only [afH] at ea eb;obtain ⟨rfl,-,rfl⟩:=ea;obtain ⟨rfl,-,rfl⟩:=eb;have c0:W0.cell? (π xa i)=some (ι (S.vars.getD i 0)):=ha.cell (o:=i) omm;have c1:W0.cell? (π ya i)=some (ι (S.vars.getD i 0)):=hb.cell (o:=i) omm;have dh:=ae a8;generalize S.vars.getD i 0=z at*;clear ha hb;go_wp2_with fail;go_quiet (fail);go_wp2_with fail;refine ⟨_,i+1,FX.of _ rfl,rfl,rfl,?_,dh.o,omm,ae ⟨_,by first|rfl|rw [agq]⟩⟩
  first|rfl|exact afK (Value.int .i64) (show (i:Int)+1=((i+1:Nat):Int) by omega)
 ·obtain rfl:i=S.vars.length:=omm;clear a8 hi hm HW;have Nf:=ae (pZ.o.drewN k);have Ng:=ae (kY.o.drewN k);have fg:=ae (gp.o.trans (au _ W0 k));go_wp2_with fail;clear k1 l1 pZ kY gp;generalize W0.drewN k=W2 at*;refine Mk.aP (SS2 W2 w.heap.size (w.heap.size+1) S.aI.length) (S.aI.length+1) ⟨_,0,FX.of _ rfl,rfl,rfl,rfl,afO _,omm,ae (afL _ _)⟩ (fun a W hh=>by obtain ⟨J,i,-,-,-,-,h1,h2,-⟩:=hh;omega) ?_;rintro m a W ⟨J,q,rfl,j2,j3,j6,hi,hm,HW⟩;unfold FX;rw [j2,j3,j6];clear j2 j3 j6;have Ux:=Nf.o.of (HW.o.block _ Nf.o.lt);have k0:=Ux.c1;have l1:=Ux.lt;by_cases a8:q < S.aI.length
  ·have w2:IntKind.i64.wrap ((q:Int)+1)=((q+1:Nat):Int):=by unfold maxLen at q2;rw [afU _ coo];omega
   have GM:=Ng.o.of (HW.o.block _ Ng.o.lt);have n0:=GM.c1;have l2:=GM.lt;have Nh:=fg.o.trans (HW.o.mono fg.o.size);have ha:=HX.o.qs.row.aB (da.ah (S:=[]) Nh) smm;have hb:=HY.o.qs.row.aB (da.ah (S:=[]) Nh) smm;obtain ⟨xa,xc,ea,-,-,la⟩:=ha.some omm;obtain ⟨ya,yc,eb,-,-,lb⟩:=hb.some omm;simp only [afH] at ea eb;obtain ⟨rfl,-,rfl⟩:=ea;obtain ⟨rfl,-,rfl⟩:=eb;have c0:W.cell? (π xa q)=some (lv q):=ha.cell (o:=q) omm;have c1:W.cell? (π ya q)=some (lv' q):=hb.cell (o:=q) omm;have hE:=HX.o.qs.q q a8;have hE':=HY.o.qs.q q a8;obtain ⟨ea,ec,ev,e1,e2⟩:=ej hE.row;obtain ⟨fa,fc,fv,f1,f2⟩:=ej hE'.row;rw [ev] at c0 hE;rw [fv] at c1 hE';have HE:=ae hE;have HE':=ae hE';have HC0:=ae c0;have HC1:=ae c1;have dh:=ae a8;generalize S.aI.getD q []=L at*;generalize tv q=tq at*;generalize tv' q=tq' at*;have KK1:=ae Ux;have KK2:=ae GM;have EP:=ae Nh;clear ha hb Ux GM hE hE' ev fv Nh;go_wp2_with fail;go_quiet (fail);go_wp2_with fail;generalize hWd:W.drewN _=W3 at*;have wN:Below W.heap.size W W3:=by rw [<-hWd];exact au _ _ _
   have ki:=ae (EP.o.trans (wN.mono EP.o.size));have HW3:=ae (HW.o.trans (wN.mono HW.o.size));have Kk:=ae (KK1.o.of (wN.block _ KK1.o.lt));have lN:=ae (KK2.o.of (wN.block _ KK2.o.lt));have HD0:=ae ((afG (wN.block _ la)).trans HC0.o);have HD1:=ae ((afG (wN.block _ lb)).trans HC1.o);have HL3:=ae (And.intro (afQ la wN.size) (afQ lb wN.size));clear hWd wN k0 l1 l2 n0 c0 c1 la lb KK1 KK2 EP HC0 HC1;refine Mk.aP (SS3 W3 w.heap.size (w.heap.size+1) q L.length) (L.length+1) ⟨_,0,FX.of _ rfl,rfl,rfl,rfl,rfl,afO _,omm,ae (afL _ _)⟩ (fun a W hh=>by obtain ⟨J,i,-,-,-,-,-,h1,h2,-⟩:=hh;omega) ?_;rintro m a W4 ⟨J,i,rfl,j2,j3,j6,j7,hi,hm,HV⟩;unfold FX;rw [j2,j3,j6,j7];clear j2 j3 j6 j7;have Ux:=Kk.o.of (HV.o.block _ Kk.o.lt);have k0:=Ux.c1;have l1:=Ux.lt;have a8:=dh.o;have d0:W4.cell? (π xa q)=some (.slice ea L.length ec):=(afG (HV.o.block _ HL3.o.1)).trans HD0.o;have la:xa < W4.heap.size:=aS d0;by_cases AH:i < L.length
   ·have w3:IntKind.i64.wrap ((i:Int)+1)=((i+1:Nat):Int):=by unfold maxLen at e2;rw [afU _ coo];omega
    have GM:=lN.o.of (HV.o.block _ lN.o.lt);have n0:=GM.c1;have l2:=GM.lt;have d1:W4.cell? (π ya q)=some (.slice fa L.length fc):=(afG (HV.o.block _ HL3.o.2)).trans HD1.o;have lb:ya < W4.heap.size:=aS d1;have wQ:=ki.o.trans (HV.o.mono ki.o.size);obtain ⟨xe,xec,ee,le,x0,x1⟩:=ad1 (HE.o.row.aB (da.ah (S:=[]) wQ) smm) AH;obtain ⟨ye,yec,ef,lf,y0,y1⟩:=ad1 (HE'.o.row.aB (da.ah (S:=[]) wQ) smm) AH;simp only [afH] at ee ef;obtain ⟨rfl,-,rfl⟩:=ee;obtain ⟨rfl,-,rfl⟩:=ef;have hT:=HE.o.aW i AH;have hT':=HE'.o.aW i AH;obtain ⟨ta,tc,et,t1,t2⟩:=ej hT.row;obtain ⟨ua,uc,eu,u1,u2⟩:=ej hT'.row;rw [et] at x1 hT;rw [eu] at y1 hT';have HT:=ae hT.row;have HT':=ae hT'.row;have X5:=ae AH;have mU:=ae wQ;have KK1:=ae Ux;have KK2:=ae GM;generalize L.getD i ⟨0,[]⟩=E at*;clear hT hT' et eu wQ Ux GM;go_wp2_with fail;have KB1:=ae (show ay ((W4.alloc (.cells #[.int .u64 E.key,.slice ta E.aW.length tc] 62)).alloc (.cells #[.int .u64 E.key,.slice ua E.aW.length uc] 62)) W4.heap.size 62 #[.int .u64 E.key,.slice ta E.aW.length tc] from (ay.new _ _ _).alloc _);have KB2:=ae (show ay ((W4.alloc (.cells #[.int .u64 E.key,.slice ta E.aW.length tc] 62)).alloc (.cells #[.int .u64 E.key,.slice ua E.aW.length uc] 62)) (W4.heap.size+1) 62 #[.int .u64 E.key,.slice ua E.aW.length uc] from ay.a_ smm);have Og:=ae (show Below W4.heap.size W4 ((W4.alloc (.cells #[.int .u64 E.key,.slice ta E.aW.length tc] 62)).alloc (.cells #[.int .u64 E.key,.slice ua E.aW.length uc] 62)) from ((afL _ _).alloc (afF _) _).alloc smm _);generalize (W4.alloc (.cells #[.int .u64 E.key,.slice ta E.aW.length tc] 62)).alloc (.cells #[.int .u64 E.key,.slice ua E.aW.length uc] 62)=V0 at*;clear k0 l1 d0 d1 n0 l2 la lb le lf x0 x1 y0 y1;refine Mk.aP (SS4 V0 w.heap.size (w.heap.size+1) q i W4.heap.size (W4.heap.size+1) E.aW.length) (E.aW.length+1) ⟨_,0,FX.of _ rfl,rfl,rfl,rfl,rfl,rfl,rfl,rfl,afO _,omm,ae ⟨0,rfl⟩⟩ (fun a W hh=>by obtain ⟨J,i,-,-,-,-,-,-,-,-,h1,h2,-⟩:=hh;omega) ?_;rintro m' a V ⟨J,k,rfl,j2,j3,j6,j7,j8,j9,xy,hk,iR,HN⟩;obtain ⟨kd,rfl⟩:=HN.o;unfold FX;rw [j2,j3,j6,j7,j8,j9,xy];clear j2 j3 j6 j7 j8 j9 xy;have z1:V0.cell? (π W4.heap.size 1)=some (.slice ta E.aW.length tc):=KB1.o.cell 1;have zl:=KB1.o.lt;by_cases jd:k < E.aW.length
    ·have w4:IntKind.i64.wrap ((k:Int)+1)=((k+1:Nat):Int):=by unfold maxLen at t2;rw [afU _ coo];omega
     have z2:V0.cell? (π (W4.heap.size+1) 1)=some (.slice ua E.aW.length uc):=KB2.o.cell 1;have zl2:=KB2.o.lt;have BG:=mU.o.trans (Og.o.mono mU.o.size);have ha:=HT.o.aB (da.ah (S:=[]) BG) smm;have hb:=HT'.o.aB (da.ah (S:=[]) BG) smm;obtain ⟨xt,xtc,e8,-,-,la⟩:=ha.some omm;obtain ⟨yt,ytc,e9,-,-,lb⟩:=hb.some omm;simp only [afH] at e8 e9;obtain ⟨rfl,-,rfl⟩:=e8;obtain ⟨rfl,-,rfl⟩:=e9;have c0:V0.cell? (π xt k)=some (ι (E.aW.getD k 0)):=ha.cell (o:=k) omm;have c1:V0.cell? (π yt k)=some (ι (E.aW.getD k 0)):=hb.cell (o:=k) omm;have Ng:=ae jd;generalize E.aW.getD k 0=z at*;clear ha hb BG;go_wp2_with fail;go_quiet (fail);go_wp2_with fail;refine ⟨_,k+1,FX.of _ rfl,rfl,rfl,rfl,rfl,rfl,rfl,?_,Ng.o,omm,ae ⟨_,by first|rfl|rw [agq]⟩⟩
     first|rfl|exact afK (Value.int .i64) (show (k:Int)+1=((k+1:Nat):Int) by omega)
    ·obtain rfl:k=E.aW.length:=omm;clear jd hk iR;go_wp2_with fail;refine ⟨_,i+1,FX.of _ rfl,rfl,rfl,rfl,?_,X5.o,omm,ae (HV.o.trans (((Og.o).trans (au _ _ _)).mono HV.o.size))⟩
     first|rfl|exact afK (Value.int .i64) (show (i:Int)+1=((i+1:Nat):Int) by omega)
   ·obtain rfl:i=L.length:=omm;clear AH hm hi;go_wp2_with fail;refine ⟨_,q+1,FX.of _ rfl,rfl,rfl,?_,dh.o,omm,ae (HW3.o.trans (HV.o.mono HW3.o.size))⟩
    first|rfl|exact afK (Value.int .i64) (show (q:Int)+1=((q+1:Nat):Int) by omega)
  ·obtain rfl:q=S.aI.length:=omm;clear a8;go_wp2_with fail
   first|refine Vf.eP (P:=prog) (fn:=Tryz.f23) rfl ?_|(rw [Exit.noGoto_ret];refine Vf.eP (P:=prog) (fn:=Tryz.f23) rfl ?_)
   exact ⟨rfl,fg.o.trans (HW.o.mono fg.o.size)⟩
end
end Go.Proofs.YtblkblclmbhjiaaGreat.Ma
namespace Go.Proofs.YtblkblclmbhjiaaGreat.Ma
open Go.RowKit ak.Vm
open ak hiding aL an aj
open Vf (aV)
def aeG (g:Nat->Nat) (i:Nat):Value:= .int .u64 (g i)
def FZ (J:Nat->Value):Act:={tmps:=#[J 0,J 1,J 2,J 3,J 4,J 5,J 6,J 7,J 8,J 9,J 10,J 11,J 12,J 13,J 14,J 15,J 16,J 17,J 18,J 19,J 20,J 21,J 22,J 23,J 24,J 25,J 26,J 27,J 28,J 29,J 30,J 31,J 32,J 33,J 34,J 35,J 36,J 37,J 38,J 39,J 40,J 41,J 42,J 43,J 44],defers:=[]}
theorem FZ.of (A:Array Value) (h:A=(FZ fun k=>A.getD k undef).tmps):({tmps:=A,defers:=[]}:Act)=FZ fun k=>A.getD k undef:=by rw [h];rfl
def SA1 (W0:World) (x y n:Nat) (m:Nat) (a:Act) (W:World):Prop:=∃(J:Nat->Value) (i:Nat),a=FZ J/\J 2=ρ x/\J 3=ρ y/\J 5=ι i/\i<=n/\m+i=n+1/\Hid (∃k,W=W0.drewN k)
section
variable {w:World} {va vb:Value} {n:Nat} {g:Nat->Nat} {h:Bool} {t:Int}
theorem aeH (ha:aV w 1 va n (aeG g)) (hb:aV w 1 vb n (aeG g)):Calls prog 18 #[.agg #[.bool h,va,ι t],.agg #[.bool h,vb,ι t]] w (fun e w'=>e= .returned (.bool true)/\Below w.heap.size w w'):=by
 obtain ⟨aa,ac,rfl,a1,a2⟩:=ha.val;obtain ⟨ba,bc,rfl,b1,b2⟩:=hb.val;obtain ⟨W0,lL⟩:∃W0,W0=(w.alloc (.cells #[.bool h,.slice aa n ac,ι t] 44)).alloc (.cells #[.bool h,.slice ba n bc,ι t] 44):=⟨_,rfl⟩;have pZ:=ae (show ay W0 w.heap.size 44 #[.bool h,.slice aa n ac,ι t] by rw [lL];exact (ay.new _ _ _).alloc _);have kY:=ae (show ay W0 (w.heap.size+1) 44 #[.bool h,.slice ba n bc,ι t] by rw [lL];exact ay.a_ smm);have dQ:Below w.heap.size w W0:=by rw [lL];exact ((afL _ _).alloc (afF _) _).alloc smm _
 have HA:=ae (ha.aB (da.ah (S:=[]) dQ));have HB:=ae (hb.aB (da.ah (S:=[]) dQ));have gp:=ae dQ;clear ha hb dQ;go_enter func18,ntmps18;go_wp2_with fail;rw [<-lL];clear lL;refine Mk.aP (SA1 W0 w.heap.size (w.heap.size+1) n) (n+1) ⟨_,0,FZ.of _ rfl,rfl,rfl,rfl,afO _,omm,ae ⟨0,rfl⟩⟩ (fun a W hh=>by obtain ⟨J,i,-,-,-,-,h1,h2,-⟩:=hh;omega) ?_;rintro m a W ⟨J,i,rfl,j2,j3,j5,hi,hm,HW⟩;obtain ⟨k,rfl⟩:=HW.o;unfold FZ;rw [j2,j3,j5];clear j2 j3 j5;have k1:W0.cell? (π w.heap.size 1)=some (.slice aa n ac):=pZ.o.cell 1;have l1:=pZ.o.lt;by_cases a8:i < n
 ·have w2:IntKind.i64.wrap ((i:Int)+1)=((i+1:Nat):Int):=by unfold maxLen at a2;rw [afU _ coo];omega
  have n1:W0.cell? (π (w.heap.size+1) 1)=some (.slice ba n bc):=kY.o.cell 1;have l2:=kY.o.lt;obtain ⟨xa,xo,xc,ea,-,-,-,la⟩:=HA.o.some omm omm;obtain ⟨ya,yo,yc,eb,-,-,-,lb⟩:=HB.o.some omm omm;simp only [afH] at ea eb;obtain ⟨rfl,-,rfl⟩:=ea;obtain ⟨rfl,-,rfl⟩:=eb;have c0:W0.cell? (π xa (xo+i))=some (.int .u64 (g i)):=la i omm;have c1:W0.cell? (π ya (yo+i))=some (.int .u64 (g i)):=lb i omm;have dh:=ae a8;generalize g i=z at*;clear la lb;go_wp2_with fail;go_quiet (fail);go_wp2_with fail;refine ⟨_,i+1,FZ.of _ rfl,rfl,rfl,?_,dh.o,omm,ae ⟨_,by first|rfl|rw [agq]⟩⟩
  first|rfl|exact afK (Value.int .i64) (show (i:Int)+1=((i+1:Nat):Int) by omega)
 ·obtain rfl:i=n:=omm;clear a8;go_wp2_with fail
  first|refine Vf.eP (P:=prog) (fn:=Tryz.f18) rfl ?_|(rw [Exit.noGoto_ret];refine Vf.eP (P:=prog) (fn:=Tryz.f18) rfl ?_)
  exact ⟨rfl,gp.o.trans (au _ _ _)⟩
end
end Go.Proofs.YtblkblclmbhjiaaGreat.Ma
namespace Go.Proofs.YtblkblclmbhjiaaGreat.Ma
open Go.RowKit ak.Vm
open ak hiding aL an aj
def FV (J:Nat->Value):Act:={tmps:=#[J 0,J 1,J 2,J 3,J 4,J 5,J 6,J 7,J 8,J 9,J 10,J 11,J 12,J 13,J 14,J 15,J 16,J 17,J 18,J 19,J 20,J 21,J 22,J 23,J 24,J 25,J 26,J 27,J 28,J 29,J 30,J 31,J 32,J 33,J 34,J 35,J 36,J 37,J 38,J 39,J 40,J 41,J 42,J 43,J 44,J 45,J 46,J 47,J 48,J 49,J 50,J 51,J 52,J 53,J 54,J 55,J 56,J 57,J 58,J 59,J 60,J 61,J 62,J 63,J 64,J 65,J 66,J 67,J 68,J 69,J 70,J 71,J 72,J 73,J 74,J 75,J 76,J 77,J 78,J 79,J 80,J 81,J 82,J 83,J 84,J 85,J 86,J 87,J 88,J 89,J 90,J 91,J 92,J 93,J 94,J 95,J 96,J 97,J 98,J 99,J 100,J 101,J 102,J 103,J 104,J 105,J 106,J 107,J 108,J 109,J 110,J 111,J 112,J 113,J 114,J 115,J 116,J 117,J 118,J 119,J 120,J 121,J 122,J 123,J 124,J 125,J 126,J 127,J 128,J 129,J 130,J 131,J 132,J 133,J 134,J 135,J 136,J 137,J 138,J 139,J 140,J 141,J 142,J 143,J 144,J 145,J 146,J 147,J 148,J 149,J 150,J 151,J 152,J 153,J 154,J 155,J 156,J 157,J 158,J 159,J 160,J 161,J 162,J 163,J 164,J 165,J 166,J 167,J 168],defers:=[]}
theorem FV.of (A:Array Value) (h:A=(FV fun k=>A.getD k undef).tmps):({tmps:=A,defers:=[]}:Act)=FV fun k=>A.getD k undef:=by rw [h];rfl
noncomputable def vkO:Code:=Mk.mK Tryz.f5.body 0
noncomputable def vk2:Code:=Mk.mK (some vkO) 0
noncomputable def vk3:Code:=Mk.mK (some vkO) 1
noncomputable def vk4:Code:=Mk.mK (some vk3) 0
def TK (W:World) (tv:Value) (n:Nat) (f:Nat->Nat):Prop:=(tv=ν/\n=0)\/∃b cs,tv= .slice (some (π b 0)) n n/\ay W b 46 cs/\∀i,i < n->cs[i]? =some (.int .u64 (f i))
theorem TK.of {W:World} {tv:Value} {l:List Nat} (h:vX W tv l):TK W tv l.length (fun i=>l.getD i 0):=by
 rcases h with ⟨h1,h2⟩|h
 ·exact .inl ⟨h1,by rw [h2];rfl⟩
 ·exact .inr h
theorem TK.aB {W W':World} {tv:Value} {n:Nat} {f:Nat->Nat} {S:List Nat} (h:TK W tv n f) (k:da S W W') (hs:∀b,b∈vb tv->b∉S):TK W' tv n f:=by
 rcases h with h|⟨b,cs,rfl,hb,hc⟩
 ·exact .inl h
 ·exact .inr ⟨b,cs,rfl,hb.aB k (hs b (by simp [vb,Value.ownBlock])),hc⟩
theorem TK.row {W:World} {tv:Value} {n:Nat} {f:Nat->Nat} (h:TK W tv n f) (hn:n<=maxLen):Vf.aV W 1 tv n (aeG f):=by
 rcases h with h|⟨b,cs,rfl,hb,hc⟩
 ·exact .inl h
 ·exact .inr ⟨(π b 0),n,rfl,afF _,hn,fun o ho=>⟨rfl,by rw [Nat.zero_add];exact (hb.cell o).trans (hc o omm)⟩⟩
theorem TK.congr {W:World} {tv:Value} {n:Nat} {f g:Nat->Nat} (h:TK W tv n f) (hg:∀i,i < n->f i=g i):TK W tv n g:=by
 rcases h with h|⟨b,cs,rfl,hb,hc⟩
 ·exact .inl h
 ·exact .inr ⟨b,cs,rfl,hb,fun i hi=>by rw [<-hg i hi];exact hc i hi⟩
def X2 (W0:World) (x2:Value) (k:Nat) (x9 x11 x13 x15:Value) (bb n:Nat) (g:Nat->Nat) (tv:Value) (m:Nat) (a:Act) (W:World):Prop:=∃(J:Nat->Value) (i:Nat),a=FV J/\J 2=x2/\J 3= .int .u64 k/\J 9=x9/\J 11=x11/\J 13=x13/\J 15=x15/\J 16=ρ bb/\J 17=ι i/\i<=n/\m+i=n+1/\Hid (da (vb tv) W0 W/\TK W tv n (fun j=>if j < i then g j ^^^ k else g j))
section
variable {Q:Exit->Act->World->Prop} {W0:World} {x2 x9 x11 x13 x15 tv:Value} {k bb n:Nat} {g:Nat->Nat} {h:Bool} {tr:Int}
theorem afi {p:Prop} (h:p:=by
 go_wp2_with fail;exact Eq.mpr (afK (fun a=>Q (.exit 2) a W) (FV.of _ rfl)) (eZ _ W rfl rfl rfl rfl rfl rfl rfl HF.o HH.o)):p:=h
theorem aeO (HK:Hid (ay W0 bb 44 #[.bool h,tv,ι tr])) (HN:Hid (bb∉vb tv)) (hk:k < 18446744073709551616) (hn:n<=1000000) (HG:Hid (∀i,i < n->g i < 18446744073709551616))
 (eZ:∀(J:Nat->Value) W,J 2=x2->J 3= .int .u64 k->J 9=x9->J 11=x11->J 13=x13->J 15=x15->J 16=ρ bb->da (vb tv) W0 W->TK W tv n (fun j=>g j ^^^ k)->Q (.exit 2) (FV J) W)
 {a:Act} (h0:X2 W0 x2 k x9 x11 x13 x15 bb n g tv (n+1) a W0):(Code.loop vk2).wp prog Q a W0:=by
 refine Mk.aP (fun m a W=>X2 W0 x2 k x9 x11 x13 x15 bb n g tv m a W) (n+1) h0 ?_ ?_
 ·rintro a W ⟨J,i,-,-,-,-,-,-,-,-,-,h1,h2,-⟩;omega
 rintro m a0 W ⟨J,i,rfl,j2,j3,j9,qY,Dr,ZG,j16,j17,hi,hm,HW⟩;unfold FV
 conv=>arg 2;whnf
 have w2:=ag5 i omm;rw [j2,j3,j9,qY,Dr,ZG,j16,j17];clear j2 j3 j9 qY Dr ZG j16 j17;have eO:=HK.o.aB HW.o.1 HN.o;have k1:W.cell? (π bb 1)=some tv:=eO.cell 1;have lb:=eO.lt;by_cases a8:i < n
 ·rcases HW.o.2 with ⟨-,h⟩|⟨tb,cs,e,ht,hc⟩
  ·omega
  have bz:tb≠bb:=fun e1=>HN.o (by rw [e,<-e1];simp [vb,Value.ownBlock]);subst e;have c0:W.cell? (π tb i)=some (.int .u64 (g i)):=(ht.cell i).trans (by rw [hc i a8];simp);have fz:=ht.frozen i;have lt:=ht.lt;have hx:bits .xor .u64 (g i) k=((g i ^^^ k:Nat):Int):=ZL (HG.o i a8) hk;have HT:=ae (show _/\_ from ⟨ht,hc⟩);have dh:=ae a8;generalize hz:g i ^^^ k=z at*;have HZ:=ae hz;clear eO ht hc hz;go_wp2_with fail;refine Gd.region [11] (fun _=>True) (fun wx=>wx.cell? (π bb 1)=some (.slice (some (π tb 0)) n n)/\wx.cell? (π tb i)=some (.int .u64 (g i))) krr ⟨trivial,k1,c0⟩ (fun al=>?_);have fz':W.drew.frozen? (π tb i)=false:=fz;have lt':tb < W.drew.heap.size:=lt;have HWd:=ae (show da (vb (.slice (some (π tb 0)) n n)) W0 W.drew/\ay W.drew tb 46 cs from ⟨HW.o.1.drewN 1,HT.o.1.drewN 1⟩);clear fz lt k1 c0 lb;generalize W.drew=V at*;refine Mk.gtA 0 ?_;refine Mk.gtA 1 ?_;refine Mk.gtA 2 ?_;refine Mk.gtA 3 ?_;refine Mk.gtA 4 ?_;refine Mk.gtA 5 ?_;refine Mk.gtA 6 ?_;refine Mk.gtA 7 ?_;refine Mk.gtA 8 ?_;refine Mk.gtA 9 ?_;refine Mk.gtA 10 ?_;refine Mk.Ud (rs:=[11]) (Gd.cU.last rfl krr (fun K9 hK=>?_) Gd.cU.nil);refine QX ?_;go_simp;refine hK.out _ _ trivial ?_;clear hK K9;refine Mk.pt ?_;refine Gd.done krr ⟨rfl,?_⟩ _;clear al;go_wp2_with fail;refine ⟨_,i+1,FV.of _ rfl,rfl,rfl,rfl,rfl,rfl,rfl,rfl,?_,dh.o,omm,ae ⟨HWd.o.1.setCell (p:=(π tb i)) (by simp [vb,Value.ownBlock]) _,.inr ⟨tb,_,rfl,HWd.o.2.set i _,fun j hj=>?_⟩⟩⟩
  ·first|rfl|exact afK (Value.int .i64) (show (i:Int)+1=((i+1:Nat):Int) by omega)
  ·show _=some (Value.int .u64 ((if j < i+1 then g j ^^^ k else g j:Nat):Int));rw [agC];by_cases e:i=j
   ·subst e;rw [afE rfl,afE (Array.getElem?_eq_some_iff.1 (HT.o.2 i hj)).1,afE (Nat.lt_succ_self i),HZ.o]
   ·rw [abH e,HT.o.2 j hj];by_cases e2:j < i
    ·rw [afE e2,afE omm]
    ·rw [abH e2,abH omm]
 ·obtain rfl:i=n:=omm;have HH:=ae (HW.o.2.congr (g:=fun j=>g j ^^^ k) fun j hj=>afE hj);have HF:=ae HW.o.1;clear a8 eO;rcases HH.o with ⟨rfl,rfl⟩|⟨tb,cs,rfl,-,-⟩
  ·exact afi
  ·exact afi
def X4 (W0:World) (x2:Value) (k:Nat) (x9 x11 x13 x15:Value) (sb q lo hi:Nat) (qv vv:Value) (S:PS) (κ:Nat->Nat->Nat) (lv:Nat->Value) (tv:Nat->Nat->Value) (m:Nat) (a:Act) (W:World):Prop:=∃(J:Nat->Value) (i:Nat),a=FV J/\J 2=x2/\J 3= .int .u64 k/\J 9=x9/\J 11=x11/\J 13=x13/\J 15=x15/\J 18=ρ sb/\J 19=ι q/\J 20=ι i/\i<=(S.aI.getD q []).length/\m+i=(S.aI.getD q []).length+1/\Hid (Below lo W0 W/\ay W sb 56 #[qv,vv]/\ps W lo hi qv vv S (fun q' i'=>if q'=q/\i' < i then κ q' i' ^^^ k else κ q' i') lv tv)
def X3 (W0:World) (x2:Value) (k:Nat) (x9 x11 x13 x15:Value) (sb lo hi:Nat) (qv vv:Value) (S:PS) (κ:Nat->Nat->Nat) (lv:Nat->Value) (tv:Nat->Nat->Value) (m:Nat) (a:Act) (W:World):Prop:=∃(J:Nat->Value) (q:Nat),a=FV J/\J 2=x2/\J 3= .int .u64 k/\J 9=x9/\J 11=x11/\J 13=x13/\J 15=x15/\J 18=ρ sb/\J 19=ι q/\q<=S.aI.length/\m+q=S.aI.length+1/\Hid (Below lo W0 W/\ay W sb 56 #[qv,vv]/\ps W lo hi qv vv S (fun q' i'=>if q' < q then κ q' i' ^^^ k else κ q' i') lv tv)
end
section
variable {Q:Exit->Act->World->Prop} {W0:World} {x2 x9 x11 x13 x15 qv vv:Value} {k sb lo hi:Nat} {S:PS} {κ:Nat->Nat->Nat} {lv:Nat->Value} {tv:Nat->Nat->Value}
theorem afj {q:Nat} (hq:q < S.aI.length) (hk:k < 18446744073709551616) (hn:(S.aI.getD q []).length<=1000000000) (hnq:S.aI.length<=256) (HG:Hid (∀i,i < (S.aI.getD q []).length->κ q i < 18446744073709551616)) (sL:Hid (lo<=W0.heap.size))
 (eZ:∀(J:Nat->Value) W,J 2=x2->J 3= .int .u64 k->J 9=x9->J 11=x11->J 13=x13->J 15=x15->J 18=ρ sb->J 19=ι q->Below lo W0 W->ay W sb 56 #[qv,vv]->ps W lo hi qv vv S (fun q' i'=>if q'=q/\i' < (S.aI.getD q []).length then κ q' i' ^^^ k else κ q' i') lv tv->Q (.exit 6) (FV J) W)
 {a:Act} (h0:X4 W0 x2 k x9 x11 x13 x15 sb q lo hi qv vv S κ lv tv ((S.aI.getD q []).length+1) a W0):(Code.loop vk4).wp prog Q a W0:=by
 refine Mk.aP (fun m a W=>X4 W0 x2 k x9 x11 x13 x15 sb q lo hi qv vv S κ lv tv m a W) ((S.aI.getD q []).length+1) h0 ?_ ?_
 ·rintro a W ⟨J,i,-,-,-,-,-,-,-,-,-,-,h1,h2,-⟩;omega
 rintro m a0 W ⟨J,i,rfl,j2,j3,j9,qY,Dr,ZG,j18,j19,j20,hi',hm,HW⟩;unfold FV
 conv=>arg 2;whnf
 have w2:=ag5 i omm;rw [j2,j3,j9,qY,Dr,ZG,j18,j19,j20];clear j2 j3 j9 qY Dr ZG j18 j19 j20;obtain ⟨wP,eO,fj⟩:=HW.o;obtain ⟨xq,xqc,eq,q1,q2,lq⟩:=fj.row.some omm;have bq:=fj.row;subst eq;have c0:=eO.c1;have lb:=eO.lt;have d0:W.cell? (π xq q)=some (lv q):=bq.cell (o:=q) omm;obtain ⟨xl,xlc,el,l1,l2⟩:=ej (fj.acq q hq);rw [el] at d0;have HQ:=ae hq;have HL0:=ae el;by_cases a8:i < (S.aI.getD q []).length
 ·obtain ⟨xe,xec,ee,e1,e2,le⟩:=(fj.acq q hq).some omm;rw [el] at ee;simp only [afH] at ee;obtain ⟨rfl,-,rfl⟩:=ee;have hre:=fj.acq q hq;rw [el] at hre;have z0:W.cell? (π xe (i*2))=some (.int .u64 (κ q i)):=(hre.cell (o:=i*2) omm).trans (by unfold peK;simp);have fz:=hre.frozen (i*2);have hx:bits .xor .u64 (κ q i) k=((κ q i ^^^ k:Nat):Int):=ZL (HG.o i a8) hk;have dh:=ae a8;have afk:lo<=xe:=((fj.aeF q hq) xe (by rw [el];rfl)).1;have hxs:xe≠sb:=fun e=>by obtain ⟨cs,h1⟩:=hre.c_;rw [e] at h1;exact absurd (eO.ne h1 dee) smm
  have HX:=ae (And.intro afk hxs);generalize hz:κ q i ^^^ k=z at*;have HZ:=ae hz;have HN:=ae hm;generalize hL:(S.aI.getD q []).length=n at*;have oH:=ae hL;clear hz wP fj bq hre afk hxs;go_wp2_with fail;refine Gd.region [19] (fun _=>True) (fun wx=>wx.cell? (π sb 0)=some (.slice (some (π xq 0)) S.aI.length xqc)/\wx.cell? (π xq q)=some (.slice (some (π xe 0)) n xlc)/\wx.cell? (π xe (i*2))=some (.int .u64 (κ q i))) krr ⟨trivial,c0,d0,z0⟩ (fun al=>?_);have fz':W.drew.frozen? (π xe (i*2))=false:=fz;have lt':xe < W.drew.heap.size:=le;have HWd:=ae (show Below lo W0 W.drew/\ay W.drew sb 56 #[.slice (some (π xq 0)) S.aI.length xqc,vv]/\ps W.drew lo hi (.slice (some (π xq 0)) S.aI.length xqc) vv S (fun q' i'=>if q'=q/\i' < i then κ q' i' ^^^ k else κ q' i') lv tv from ⟨HW.o.1.trans (au _ W 1),HW.o.2.1.drewN 1,HW.o.2.2.later (au _ W 1)⟩);clear fz le c0 d0 z0 lb lq eO;generalize W.drew=V at*;refine Mk.gtA 0 ?_;refine Mk.gtA 1 ?_;refine Mk.gtA 2 ?_;refine Mk.gtA 3 ?_;refine Mk.gtA 4 ?_;refine Mk.gtA 5 ?_;refine Mk.gtA 6 ?_;refine Mk.gtA 7 ?_;refine Mk.gtA 8 ?_;refine Mk.gtA 9 ?_;refine Mk.gtA 10 ?_;refine Mk.gtA 11 ?_;refine Mk.gtA 12 ?_;refine Mk.gtA 13 ?_;refine Mk.gtA 14 ?_;refine Mk.gtA 15 ?_;refine Mk.gtA 16 ?_;refine Mk.gtA 17 ?_;refine Mk.gtA 18 ?_;refine Mk.Ud (rs:=[19]) (Gd.cU.last rfl krr (fun K9 hK=>?_) Gd.cU.nil);refine QX ?_;go_simp;refine hK.out _ _ trivial ?_;clear hK K9;refine Mk.pt ?_;refine Gd.done krr ⟨rfl,?_⟩ _;clear al;go_wp2_with fail;have hp:=HWd.o.2.2.put (q:=q) (i:=i) (b:=xe) (cap:=xlc) HQ.o (by rw [oH.o];exact dh.o) (by rw [oH.o];exact HL0.o) z;refine ⟨_,i+1,FV.of _ rfl,rfl,rfl,rfl,rfl,rfl,rfl,rfl,rfl,?_,by rw [oH.o];exact dh.o,by rw [oH.o];have:=HN.o;omega,ae ⟨HWd.o.1.trans (((da.refl [xe] V).setCell (p:=(π xe (i*2))) smm _).below (afM sL.o HWd.o.1.size) (fun b hb=>by simp at hb;rw [hb];exact HX.o.1)),HWd.o.2.1.other HX.o.2.symm _ _,hp.congr fun q' _ i' _=>?_⟩⟩
  ·first|rfl|exact afK (Value.int .i64) (show (i:Int)+1=((i+1:Nat):Int) by omega)
  ·by_cases e1:q'=q
   ·subst e1;by_cases e2:i'=i
    ·subst e2;rw [afE ⟨rfl,rfl⟩,afE ⟨rfl,Nat.lt_succ_self _⟩,HZ.o]
    ·rw [abH (by simp [e2])];by_cases e3:i' < i
     ·rw [afE ⟨rfl,e3⟩,afE ⟨rfl,omm⟩]
     ·rw [abH (by simp [e3]),abH (fun h=>by have:=h.2;omega)]
   ·rw [abH (by simp [e1]),abH (by simp [e1]),abH (by simp [e1])]
 ·obtain rfl:i=(S.aI.getD q []).length:=omm;have HH:=ae (And.intro wP (And.intro eO fj));clear a8 wP eO fj bq el;go_wp2_with fail;exact Eq.mpr (afK (fun a=>Q (.exit 6) a W) (FV.of _ rfl)) (eZ _ W rfl rfl rfl rfl rfl rfl rfl rfl HH.o.1 HH.o.2.1 HH.o.2.2)
theorem afl (hk:k < 18446744073709551616) (hnq:S.aI.length<=256) (HN:Hid (∀q,q < S.aI.length->(S.aI.getD q []).length<=1000000000)) (HG:Hid (∀q,q < S.aI.length->∀i,i < (S.aI.getD q []).length->κ q i < 18446744073709551616)) (sL:Hid (lo<=W0.heap.size))
 (eZ:∀(J:Nat->Value) W,J 2=x2->J 3= .int .u64 k->J 9=x9->J 11=x11->J 13=x13->J 15=x15->J 18=ρ sb->Below lo W0 W->ay W sb 56 #[qv,vv]->ps W lo hi qv vv S (fun q i=>κ q i ^^^ k) lv tv->Q (.exit 4) (FV J) W)
 {a:Act} (h0:X3 W0 x2 k x9 x11 x13 x15 sb lo hi qv vv S κ lv tv (S.aI.length+1) a W0):(Code.loop vk3).wp prog Q a W0:=by
 refine Mk.aP (fun m a W=>X3 W0 x2 k x9 x11 x13 x15 sb lo hi qv vv S κ lv tv m a W) (S.aI.length+1) h0 ?_ ?_
 ·rintro a W ⟨J,q,-,-,-,-,-,-,-,-,-,h1,h2,-⟩;omega
 rintro m a0 W ⟨J,q,rfl,j2,j3,j9,qY,Dr,ZG,j18,j19,hi',hm,HW⟩;unfold FV
 conv=>arg 2;whnf
 have w2:=ag5 q omm;rw [j2,j3,j9,qY,Dr,ZG,j18,j19];clear j2 j3 j9 qY Dr ZG j18 j19;obtain ⟨wP,eO,fj⟩:=HW.o;obtain ⟨xq,xqc,eq,q1,q2⟩:=ej fj.row;subst eq;have c0:=eO.c1;have lb:=eO.lt;by_cases a8:q < S.aI.length
 ·have dh:=ae a8;have HB:=ae (And.intro wP (And.intro eO fj));have HNm:=ae hm;clear wP eO fj;go_wp2_with fail;refine afj (W0:=W) (q:=q) (κ:=fun q' i'=>if q' < q then κ q' i' ^^^ k else κ q' i') dh.o hk (HN.o q dh.o) hnq (ae fun i hi=>by (try dsimp only);rw [abH (agl q)];exact HG.o q dh.o i hi) (ae (afM sL.o HB.o.1.size)) (fun J W4 j2 j3 j9 qY Dr ZG j18 j19 wQ hx4 xf=>?_) ⟨_,0,FV.of _ rfl,rfl,rfl,rfl,rfl,rfl,rfl,rfl,rfl,rfl,afO _,omm,ae ⟨afL _ _,HB.o.2.1,HB.o.2.2.congr fun q' _ i' _=>by (try dsimp only);exact (abH (fun h=>Nat.not_lt_zero _ h.2)).symm⟩⟩;have H4:=ae (And.intro wQ (And.intro hx4 xf));clear wQ hx4 xf;simp only [Exit.inBlock,Exit.then]
  try apply_assumption
  unfold FV;rw [j2,j3,j9,qY,Dr,ZG,j18,j19];clear j2 j3 j9 qY Dr ZG j18 j19;go_wp2;refine ⟨_,q+1,FV.of _ rfl,rfl,rfl,rfl,rfl,rfl,rfl,rfl,?_,dh.o,by have:=HNm.o;omega,ae ⟨HB.o.1.trans H4.o.1,H4.o.2.1,H4.o.2.2.congr fun q' _ i' hi9=>?_⟩⟩
  ·first|rfl|exact afK (Value.int .i64) (show (q:Int)+1=((q+1:Nat):Int) by omega)
  ·(try dsimp only)
   by_cases e1:q'=q
   ·subst e1;rw [afE ⟨rfl,hi9⟩,abH (agl _),afE (Nat.lt_succ_self _)]
   ·rw [abH (fun h=>e1 h.1)];by_cases e2:q' < q
    ·rw [afE e2,afE omm]
    ·rw [abH e2,abH omm]
 ·obtain rfl:q=S.aI.length:=omm;have HH:=ae (And.intro wP (And.intro eO (fj.congr (κ':=fun q i=>κ q i ^^^ k) fun q' Sh i' _=>afE Sh)));clear a8 wP eO fj;go_wp2_with fail;exact Eq.mpr (afK (fun a=>Q (.exit 4) a W) (FV.of _ rfl)) (eZ _ W rfl rfl rfl rfl rfl rfl rfl HH.o.1 HH.o.2.1 HH.o.2.2)
end
end Go.Proofs.YtblkblclmbhjiaaGreat.Ma
