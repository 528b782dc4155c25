/- The index's laws: functions that leave with several marks. -/
import Derived.Test.YtcieieljgmkjmaaLawH
set_option linter.unusedVariables false
namespace Go.Proofs.Ytcieieljgmkjmaa.LawC
open Go.RowKit Winnow Go.Shelf
open IdxI (entsTo Sorted KpB rowBlk Row3)
open LawB (own_kp grown_cells boxed_isCells)

/-- The blocks of the marks. -/
structure Marks (W : World) (Ds : List Nat) : Prop where
  nd : Ds.Nodup
  at_ : ∀ D, D ∈ Ds → W.heap[D]? = some (.deferred (some []))
def marksOf (Ds : List Nat) : List Deferred := Ds.map fun D => { target := .collected D, args := #[] }

/-- The marks' blocks are shut. -/
structure Shut (Ds : List Nat) (W W' : World) : Prop where
  os : W'.os = W.os
  tape : W'.tape = W.tape
  output : W'.output = W.output
  size : W'.heap.size = W.heap.size
  block : ∀ k, k ∉ Ds → W'.heap[k]? = W.heap[k]?

theorem leaves_marks {F : Fence} {n : Nat} {P : Program} {fn : Func} {tmps : Array Value} {R : Ending → World → Prop} : ∀ (Ds : List Nat) (W : World), Marks W Ds →
    (∀ W', Shut Ds W W' → LeavesInM F n P fn tmps R [] .returning W') → LeavesInM F n P fn tmps R (marksOf Ds) .returning W := by
  intro Ds
  induction Ds with
  | nil => intro W _ h; exact h W ⟨rfl, rfl, rfl, rfl, fun _ _ => rfl⟩
  | cons D Ds ih =>
    intro W hM h
    have hD := hM.at_ D (by simp)
    have hnd := List.nodup_cons.1 hM.nd
    refine ⟨by simp, .inl ⟨D, _, rfl, run_takeDeferred hD, ?_⟩⟩
    refine ih _ ⟨hnd.2, fun k hk => ?_⟩ fun W' hW' => ?_
    · exact (World.putObj_heap_other (by intro e; subst e; exact hnd.1 hk)).trans (hM.at_ k (by simp [hk]))
    · refine h W' ⟨hW'.os, hW'.tape, hW'.output, hW'.size.trans (by simp), fun k hk => ?_⟩
      simp only [List.mem_cons, not_or] at hk
      exact (hW'.block k hk.2).trans (World.putObj_heap_other (fun e => hk.1 e))

theorem Shut.cells {Ds : List Nat} {W W' : World} (h : Shut Ds W W') (M : Marks W Ds) {k : Nat} (hk : ∃ o : Obj, W.heap[k]? = some o ∧ o.isCells = true) : W'.heap[k]? = W.heap[k]? := by
  refine h.block k fun hm => ?_
  obtain ⟨o, h1, h2⟩ := hk
  rw [M.at_ k hm] at h1; cases h1; simp [Obj.isCells] at h2
theorem Shut.below {Ds : List Nat} {W W' : World} (h : Shut Ds W W') {B : Nat} (hB : ∀ D, D ∈ Ds → B ≤ D) : Below B W W' :=
  ⟨h.os, h.tape, h.output, by rw [h.size]; exact Nat.le_refl _, fun k hk => h.block k fun hm => by have := hB k hm; omega⟩

theorem Marks.nil (W : World) : Marks W [] := ⟨.nil, fun _ h => by simp at h⟩
theorem Marks.cons {W : World} {Ds : List Nat} {D : Nat} (M : Marks W Ds) (hD : W.heap[D]? = some (.deferred (some []))) (h : D ∉ Ds) : Marks W (D :: Ds) :=
  ⟨List.nodup_cons.2 ⟨h, M.nd⟩, fun k hk => by rcases List.mem_cons.1 hk with rfl | hk; exact hD; exact M.at_ k hk⟩
theorem Marks.keeps {W W' : World} {Ds : List Nat} (M : Marks W Ds) (h : ∀ k, k ∈ Ds → W'.heap[k]? = W.heap[k]?) : Marks W' Ds := ⟨M.nd, fun k hk => (h k hk).trans (M.at_ k hk)⟩

/-- How many pairs there are. -/
theorem ents_length {n count most e : Nat} {S : Tb Value} (T : TabOk n count most e S) : ∀ m, m ≤ n → (entsTo S m).length = cnt m S := by
  intro m
  induction m with
  | zero => intro _; simp [entsTo, cnt]
  | succ m ih =>
    intro hm
    unfold entsTo
    rw [List.length_append, ih (by omega)]
    cases hS : S m with
    | none => simp [cnt, hS]
    | some p =>
      obtain ⟨k, u⟩ := p
      obtain ⟨x, rfl⟩ := T.int m k u hS
      simp [cnt, hS]
theorem sorted_length {n count most e : Nat} {S : Tb Value} (T : TabOk n count most e S) {L : List (Nat × Int)} (h : Sorted S n L) : L.length = count := by
  rw [h.1.length_eq, ents_length T n (Nat.le_refl _), T.cnt]

/-- A loop of at most m rounds, by a relation that tells how many are left. -/
theorem wp_loop_inv {P : Program} {Q : Exit → Act → World → Prop} {a : Act} {w : World} {c : Code} (R : Nat → Act → World → Prop) (m : Nat) (h0 : R m a w) (hz : ∀ a w, ¬ R 0 a w)
    (h : ∀ m a w, R (m + 1) a w → c.wp P (Exit.then (R m) Q) a w) : (Code.loop c).wp P Q a w := by
  refine wp_loop_rounds m ?_
  induction m generalizing a w with
  | zero => exact absurd h0 (hz a w)
  | succ m ih =>
    rw [rounds_succ]
    refine wp_mono (h m a w h0) ?_
    intro e a' w' hq
    cases e with
    | normal => exact ih hq
    | _ => exact hq

theorem own_grown {W W' : World} {base : Nat} {e : TypeId} {z : Nat} {v : Value} {n : Nat} {xs : List Value} {row : Option Nat} (h : W.ownsRow base e z v n xs) (hg : W.grownBy W' row) (hr : ∀ r, row = some r → ∃ o : Obj, W.heap[r]? = some o ∧ o.isCells = false) : W'.ownsRow base e z v n xs := by
  refine h.kept hg ?_
  rcases h.2 with ⟨rfl, _⟩ | ⟨g, cap, cur, rfl, _, hg', _⟩
  · exact .inl rfl
  · refine .inr fun e' => ?_
    obtain ⟨o, ho, hc⟩ := hr g e'.symm
    rw [hg'] at ho; cases ho; simp [Obj.isCells] at hc
theorem boxed_grown {W W' : World} {B : Nat} {ty : TypeId} {v : Value} {row : Option Nat} (h : Boxed W B ty v) (hg : W.grownBy W' row) (hr : ∀ r, row = some r → ∃ o : Obj, W.heap[r]? = some o ∧ o.isCells = false) : Boxed W' B ty v :=
  (LawB.grown_cells (LawB.boxed_isCells h) hg hr).trans h
theorem frm_grown {S : List Nat} {A W W' : World} {row : Option Nat} (h : Frm S A W) (hg : W.grownBy W' row) (hr : ∀ r, row = some r → A.heap.size ≤ r) : Frm S A W' :=
  ⟨hg.os.trans h.os, hg.tape.trans h.tape, hg.output.trans h.output, Nat.le_trans h.size hg.size, fun k hk hs => (hg.block k (Nat.lt_of_lt_of_le hk h.size) (fun e => by have := hr k e.symm; omega)).trans (h.block k hk hs)⟩

/-- 'out = append(out, x)' at a boxed variable. -/
theorem box_append {W w1 : World} {n₀ B : Nat} {t e : TypeId} {size : Nat} {v v' : Value} {k m : Nat} {xs ys : List Value} {tmp : Obj}
    (hv : Boxed W B t v) (hte : t ≠ e) (hrow : W.ownsRow n₀ e size v k xs) (hn₀ : n₀ ≤ W.heap.size)
    (hown' : w1.ownsRow n₀ e size v' m ys) (hgrow : (W.alloc tmp).grownBy w1 v.ownBlock) :
    Boxed w1 B t v ∧ Boxed (w1.setCell ⟨B, 0, none⟩ v') B t v' ∧ (w1.setCell ⟨B, 0, none⟩ v').ownsRow n₀ e size v' m ys ∧ KeepsOthers W (w1.setCell ⟨B, 0, none⟩ v') ∧ Below n₀ W w1 := by
  have hv1 : Boxed w1 B t v := (hv.alloc tmp).kept hgrow (hv.not_row hte hrow)
  refine ⟨hv1, hv1.set v', hown'.kept (grownBy_setCell' w1 B v') (.inr (hv1.not_row hte hown').symm), ?_, ?_⟩
  · refine ((KeepsOthers.alloc W tmp).trans (KeepsOthers.of_grownBy hgrow fun j o ej hj => ?_)).trans (KeepsOthers.setCell _ _ _)
    rcases (hrow.alloc tmp).2 with ⟨rfl, _⟩ | ⟨g, cap, cur, rfl, _, hgb, _⟩
    · simp [Value.ownBlock] at ej
    · obtain rfl : g = j := by simpa [Value.ownBlock] using ej
      rw [hgb] at hj; cases hj; rfl
  · refine ((Below.refl n₀ W).alloc hn₀ tmp).grown hgrow (by simp; omega) fun j ej => ?_
    rcases hrow.2 with ⟨rfl, _⟩ | ⟨g, cap, cur, rfl, hb, _, _⟩
    · simp [Value.ownBlock] at ej
    · obtain rfl : g = j := by simpa [Value.ownBlock] using ej
      exact hb

theorem kxs_snoc (L : List (Nat × Int)) (x : Nat × Int) : Ref.kxs (L ++ [x]) = Ref.kxs L ++ [.int .u64 x.1] := by simp [Ref.kxs]
theorem vxs_snoc (L : List (Nat × Int)) (x : Nat × Int) : Ref.vxs (L ++ [x]) = Ref.vxs L ++ [.int .i64 x.2] := by simp [Ref.vxs]

/-- Two boxed rows, side by side: one of them grows. -/
theorem two_boxes {w5 W w1 : World} {S : List Nat} {A B : Nat} {tA tB eA eB : TypeId} {av bv v1 : Value} {k m nb : Nat} {xs ys zs : List Value} {tmp : Obj}
    (f : Frm S w5 W) (hA : Boxed W A tA av) (hB : Boxed W B tB bv) (hAB : B ≠ A) (hAS : A ∈ S) (hlA : A < w5.heap.size) (hlB : B < w5.heap.size) (h1 : tA ≠ eA) (h2 : tA ≠ eB) (h3 : eB ≠ eA)
    (rA : W.ownsRow w5.heap.size eA 1 av k xs) (rB : W.ownsRow w5.heap.size eB 1 bv nb zs) (hown' : w1.ownsRow w5.heap.size eA 1 v1 m ys) (hgrow : (W.alloc tmp).grownBy w1 av.ownBlock) :
    (Boxed w1 A tA av ∧ Boxed w1 B tB bv) ∧ Boxed (w1.setCell ⟨A, 0, none⟩ v1) A tA v1 ∧ (w1.setCell ⟨A, 0, none⟩ v1).ownsRow w5.heap.size eA 1 v1 m ys ∧ Boxed (w1.setCell ⟨A, 0, none⟩ v1) B tB bv ∧
      (w1.setCell ⟨A, 0, none⟩ v1).ownsRow w5.heap.size eB 1 bv nb zs ∧ KeepsOthers W (w1.setCell ⟨A, 0, none⟩ v1) ∧ Frm S w5 (w1.setCell ⟨A, 0, none⟩ v1) ∧ W.heap.size < w1.heap.size := by
  obtain ⟨y1, y2, y3, y4, y5⟩ := box_append hA h1 rA f.size hown' hgrow
  have b1 : Boxed w1 B tB bv := (y5.block B hlB).trans hB
  have z1 : w1.ownsRow w5.heap.size eB 1 bv nb zs := (rB.alloc tmp).kept hgrow (Ref.own_ne rB rA h3)
  have hs := hgrow.size
  rw [alloc_size] at hs
  refine ⟨⟨y1, b1⟩, y2, y3, b1.other hAB _, z1.kept (grownBy_setCell' w1 A v1) (.inr (y1.not_row h2 z1).symm), y4, ?_, by omega⟩
  have f1 : Frm S w5 w1 := ⟨y5.os.trans f.os, y5.tape.trans f.tape, y5.output.trans f.output, Nat.le_trans f.size y5.size, fun q hq hq' => (y5.block q hq).trans (f.block q hq hq')⟩
  exact f1.setCell (p := ⟨A, 0, none⟩) hAS v1

/-- A drop, a put, whatever is answered. -/
theorem drop_any {n most e : Nat} (t : Tbl n most e) (key : Nat) : ∃ (t' : Tbl n most e) (v : Value), ∀ (wx : World) (b s : Nat), Holds wx b s t →
    Calls Try.prog 25 #[.pointer (some ⟨b, 0, none⟩), .int .u64 key] wx fun r w' => r = .returned v ∧ Frm [b, s] wx w' ∧ Holds w' b s t' := by
  obtain ⟨v, ok, count', S', T', hI, _⟩ := drop_two t.ok key
  exact ⟨⟨count', S', T'⟩, _, fun wx b s h => hI wx b s h⟩
theorem put_any {n most e : Nat} (t : Tbl n most e) (key : Nat) (N : Int) : ∃ (t' : Tbl n most e) (v : Value), ∀ (wx : World) (b s : Nat), Holds wx b s t →
    Calls Try.prog 26 #[.pointer (some ⟨b, 0, none⟩), .int .u64 key, .int .i64 N] wx fun r w' => r = .returned v ∧ Frm [b, s] wx w' ∧ Holds w' b s t' := by
  obtain ⟨c, count', S', T', hI, _⟩ := put_two t.ok key N
  exact ⟨⟨count', S', T'⟩, _, fun wx b s h => hI wx b s h⟩

/-- A play with an index, before it is ranged over: the boxes of three variables. -/
structure Walk (w wr : World) (b s c : Nat) (stop : Int) {n most e : Nat} (t : Tbl n most e) : Prop where
  bel : Below w.heap.size w wr
  hold : Holds wr b s t
  ord : w.heap.size + 1 < s ∧ s < b ∧ b < c
  b5 : Boxed wr w.heap.size 3 (.int .i64 stop)
  b6 : Boxed wr (w.heap.size + 1) 4 (.bool false)
  b7 : Boxed wr c 24 (.pointer (some ⟨b, 0, none⟩))
theorem Walk.frm {w wr w' : World} {b s c : Nat} {stop : Int} {n most e : Nat} {t t' : Tbl n most e} (h : Walk w wr b s c stop t) (f : Frm [b, s] wr w') (h' : Holds w' b s t') : Walk w w' b s c stop t' := by
  obtain ⟨o1, o2, o3⟩ := h.ord
  refine ⟨h.bel.trans (f.below h.bel.size (by simp; omega)), h', h.ord, ?_, ?_, ?_⟩
  · exact (f.block _ h.b5.lt (by simp; omega)).trans h.b5
  · exact (f.block _ h.b6.lt (by simp; omega)).trans h.b6
  · exact (f.block _ h.b7.lt (by simp; omega)).trans h.b7
theorem Walk.later {w wr w' : World} {b s c : Nat} {stop : Int} {n most e : Nat} {t : Tbl n most e} (h : Walk w wr b s c stop t) (f : Below wr.heap.size wr w') : Walk w w' b s c stop t :=
  h.frm (Frm.of_below f) (IdxAt.of_blocks h.hold (f.block _ (IdxAt.lb h.hold)) (f.block _ (IdxAt.ls h.hold)))
theorem Walk.cell {w wr : World} {b s c : Nat} {stop : Int} {n most e : Nat} {t : Tbl n most e} (h : Walk w wr b s c stop t) {x o : Nat} {v : Value} (h' : w.cell? ⟨x, o, none⟩ = some v) : wr.cell? ⟨x, o, none⟩ = some v :=
  (World.cell?_of_block (h.bel.block x (cell_lt h'))).trans h'

/-- While an index is ranged over and written: what stands since the world w6 (the blocks of FB), some boxes, the index's table, the marks. -/
structure St (w w6 : World) (FB : List Nat) (b s : Nat) (xs : List (Nat × TypeId × Value)) (Ds : List Nat) {n most e : Nat} (t : Tbl n most e) (W : World) : Prop where
  kp : KpB FB w6 W
  bx : ∀ p, p ∈ xs → Boxed W p.1 p.2.1 p.2.2
  sep : ∀ p, p ∈ xs → w.heap.size ≤ p.1 ∧ p.1 ∉ FB ∧ p.1 ≠ b ∧ p.1 ≠ s
  nd : (xs.map (·.1)).Nodup
  hold : Holds W b s t
  bel : Below w.heap.size w W
  mks : Marks W Ds
  dlo : ∀ D, D ∈ Ds → w.heap.size ≤ D
  sz : w6.heap.size ≤ W.heap.size
/-- What is fixed of the blocks. -/
structure Fix (w w6 : World) (FB : List Nat) (b s : Nat) : Prop where
  fb : ∀ k, k ∈ FB → k < w6.heap.size ∧ k ≠ b ∧ k ≠ s ∧ ∃ o : Obj, w6.heap[k]? = some o ∧ o.isCells = true
  lo : w.heap.size ≤ b ∧ w.heap.size ≤ s ∧ w.heap.size ≤ w6.heap.size

section
variable {w w6 W W' : World} {FB : List Nat} {b s : Nat} {xs : List (Nat × TypeId × Value)} {Ds : List Nat} {n most e : Nat} {t : Tbl n most e}
theorem St.grown (h : St w w6 FB b s xs Ds t W) (X : Fix w w6 FB b s) {row : Option Nat} (hg : W.grownBy W' row) (hr : ∀ r, row = some r → w.heap.size ≤ r ∧ r ∉ Ds ∧ ∃ o : Obj, W.heap[r]? = some o ∧ o.isCells = false) : St w w6 FB b s xs Ds t W' := by
  have hr' : ∀ r, row = some r → ∃ o : Obj, W.heap[r]? = some o ∧ o.isCells = false := fun r e => (hr r e).2.2
  refine ⟨?_, fun p hp => boxed_grown (h.bx p hp) hg hr', h.sep, h.nd, ?_, ?_, ?_, h.dlo, Nat.le_trans h.sz hg.size⟩
  · exact own_kp (fun k hk => (X.fb k hk).2.2.2) () W W' row h.kp hg hr'
  · exact IdxAt.of_blocks h.hold (grown_cells (cells_of_cell (IdxAt.c0 h.hold)) hg hr') (grown_cells (cells_of_cell (IdxAt.k0 h.hold 0 (IdxAt.pos h.hold))) hg hr')
  · exact h.bel.grown hg h.bel.size (fun k e => (hr k e).1)
  · exact h.mks.keeps fun k hk => hg.block k (Array.getElem?_eq_some_iff.1 (h.mks.at_ k hk)).1 (fun e => (hr k e.symm).2.1 hk)
theorem St.alloc (h : St w w6 FB b s xs Ds t W) (X : Fix w w6 FB b s) (o : Obj) : St w w6 FB b s xs Ds t (W.alloc o) :=
  h.grown X (World.grownBy_alloc W o none) (fun r e => by cases e)
theorem St.push (h : St w w6 FB b s xs Ds t W) (X : Fix w w6 FB b s) (ty : TypeId) (v : Value) : St w w6 FB b s ((W.heap.size, ty, v) :: xs) Ds t (W.alloc (.cells #[v] ty)) := by
  have k := h.alloc X (.cells #[v] ty)
  refine ⟨k.kp, fun p hp => ?_, fun p hp => ?_, ?_, k.hold, k.bel, k.mks, k.dlo, k.sz⟩
  · rcases List.mem_cons.1 hp with rfl | hp
    · exact Boxed.new W ty v
    · exact k.bx p hp
  · rcases List.mem_cons.1 hp with rfl | hp
    · refine ⟨h.bel.size, fun hk => ?_, ?_, ?_⟩
      · have := (X.fb _ hk).1; have := h.sz; simp only [] at *; omega
      · have := IdxAt.lb h.hold; simp only []; omega
      · have := IdxAt.ls h.hold; simp only []; omega
    · exact k.sep p hp
  · refine List.nodup_cons.2 ⟨fun hk => ?_, h.nd⟩
    obtain ⟨p, hp, e⟩ := List.mem_map.1 hk
    have := (h.bx p hp).lt
    simp only [] at e
    omega
theorem St.drop1 {x : Nat × TypeId × Value} (h : St w w6 FB b s (x :: xs) Ds t W) : St w w6 FB b s xs Ds t W :=
  ⟨h.kp, fun p hp => h.bx p (List.mem_cons_of_mem _ hp), fun p hp => h.sep p (List.mem_cons_of_mem _ hp), (List.nodup_cons.1 h.nd).2, h.hold, h.bel, h.mks, h.dlo, h.sz⟩
theorem St.set {B : Nat} {ty : TypeId} {v : Value} (h : St w w6 FB b s ((B, ty, v) :: xs) Ds t W) (u : Value) : St w w6 FB b s ((B, ty, u) :: xs) Ds t (W.setCell ⟨B, 0, none⟩ u) := by
  have hb := h.bx (B, ty, v) (by simp)
  obtain ⟨s1, s2, s3, s4⟩ := h.sep (B, ty, v) (by simp)
  have hne := (List.nodup_cons.1 h.nd).1
  refine ⟨fun k hk => ?_, fun p hp => ?_, fun p hp => ?_, h.nd, ?_, h.bel.setCell s1 u, h.mks.keeps fun k hk => ?_, h.dlo, ?_⟩
  · exact (Below.heap_setCell _ _ _ _ (fun e => s2 (by have e' : k = B := e; subst e'; exact hk))).trans (h.kp k hk)
  · rcases List.mem_cons.1 hp with rfl | hp
    · exact hb.set u
    · exact (h.bx p (List.mem_cons_of_mem _ hp)).other (fun e => hne (List.mem_map.2 ⟨p, hp, e⟩)) u
  · rcases List.mem_cons.1 hp with rfl | hp
    · exact ⟨s1, s2, s3, s4⟩
    · exact h.sep p (List.mem_cons_of_mem _ hp)
  · exact IdxAt.of_blocks h.hold (Below.heap_setCell _ _ _ _ (fun e => s3 e.symm)) (Below.heap_setCell _ _ _ _ (fun e => s4 e.symm))
  · refine Below.heap_setCell _ _ _ _ (fun e => ?_)
    have := h.mks.at_ k hk
    have e' : k = B := e
    rw [e', show W.heap[B]? = _ from hb] at this
    cases this
  · have := h.sz; simpa [World.setCell] using this
theorem St.frm {t' : Tbl n most e} (h : St w w6 FB b s xs Ds t W) (X : Fix w w6 FB b s) (f : Frm [b, s] W W') (h' : Holds W' b s t') : St w w6 FB b s xs Ds t' W' := by
  have ck : ∀ k, k ∈ Ds → k ≠ b ∧ k ≠ s := by
    intro k hk
    have hd := h.mks.at_ k hk
    obtain ⟨o, h1, h2⟩ := cells_of_cell (IdxAt.c0 h.hold)
    obtain ⟨o', h3, h4⟩ := cells_of_cell (IdxAt.k0 h.hold 0 (IdxAt.pos h.hold))
    refine ⟨fun e => ?_, fun e => ?_⟩
    · rw [e, h1] at hd; cases hd; cases h2
    · rw [e, h3] at hd; cases hd; cases h4
  refine ⟨fun k hk => ?_, fun p hp => ?_, h.sep, h.nd, h', ?_, h.mks.keeps fun k hk => ?_, h.dlo, Nat.le_trans h.sz f.size⟩
  · obtain ⟨q1, q2, q3, _⟩ := X.fb k hk
    exact (f.block k (by have := h.sz; omega) (by simp; exact ⟨q2, q3⟩)).trans (h.kp k hk)
  · obtain ⟨_, _, s3, s4⟩ := h.sep p hp
    exact (f.block _ (h.bx p hp).lt (by simp; exact ⟨s3, s4⟩)).trans (h.bx p hp)
  · exact h.bel.trans (f.below h.bel.size (by have := X.lo; simp; omega))
  · obtain ⟨q2, q3⟩ := ck k hk
    exact f.block k (Array.getElem?_eq_some_iff.1 (h.mks.at_ k hk)).1 (by simp; exact ⟨q2, q3⟩)
theorem St.mark {D : Nat} (h : St w w6 FB b s xs Ds t W) (hD : W.heap[D]? = some (.deferred (some []))) (hn : D ∉ Ds) (hl : w.heap.size ≤ D) : St w w6 FB b s xs (D :: Ds) t W :=
  ⟨h.kp, h.bx, h.sep, h.nd, h.hold, h.bel, h.mks.cons hD hn, fun k hk => by rcases List.mem_cons.1 hk with rfl | hk; exact hl; exact h.dlo k hk, h.sz⟩
/-- For the law of ranging over a function. -/
theorem St.own {β : Type} {B : Nat} {f : β → List (Nat × TypeId × Value)} (X : Fix w w6 FB b s) (hB : w.heap.size ≤ B) (hD : ∀ D, D ∈ Ds → D < B) : OwnFrom B (fun (x : β) W => ∃ t : Tbl n most e, St w w6 FB b s (f x) Ds t W) :=
  fun x W W' row ⟨t, h⟩ hg hr => ⟨t, h.grown X hg fun r er => by
    obtain ⟨h1, h2⟩ := hr r er
    exact ⟨by omega, fun hm => by have := hD r hm; omega, h2⟩⟩
/-- A call that writes the index alone keeps what is no cells. -/
theorem frm_keeps (h : Holds W b s t) (f : Frm [b, s] W W') (B : Nat) : KeepsFrom B W W' := by
  refine ⟨f.size, fun k o _ hk ho => ?_⟩
  have : k ∉ [b, s] := by
    obtain ⟨o1, h1, h2⟩ := cells_of_cell (IdxAt.c0 h)
    obtain ⟨o2, h3, h4⟩ := cells_of_cell (IdxAt.k0 h 0 (IdxAt.pos h))
    simp only [List.mem_cons, List.not_mem_nil, or_false, not_or]
    refine ⟨fun e => ?_, fun e => ?_⟩
    · subst e; rw [h1] at hk; cases hk; rw [h2] at ho; cases ho
    · subst e; rw [h3] at hk; cases hk; rw [h4] at ho; cases ho
  exact (f.block k (Array.getElem?_eq_some_iff.1 hk).1 this).trans hk
end
theorem wrap64_nonneg (x : Int) : 0 ≤ IntKind.u64.wrap x := by
  unfold IntKind.wrap
  simp [IntKind.signed, IntKind.bits]
  exact Int.emod_nonneg _ (by decide)
end Go.Proofs.Ytcieieljgmkjmaa.LawC
