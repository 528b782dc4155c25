/- The index: its twin. -/
import Derived.Test.YtcieieljgmkjmaaIdxB
import Derived.Test.YtcieieljgmkjmaaIdxE
set_option linter.unusedVariables false
namespace Go.Proofs.Ytcieieljgmkjmaa.IdxI
open Go.RowKit Winnow

/-- The cells of all places. -/
def placesOf (D : Nat → Bool × Nat × Value) : Nat → List Value
  | 0 => []
  | n + 1 => placesOf D n ++ [.bool (D n).1, .int .u64 (D n).2.1, (D n).2.2]
theorem placesOf_length (D : Nat → Bool × Nat × Value) (n : Nat) : (placesOf D n).length = n * 3 := by
  induction n with
  | zero => rfl
  | succ n ih => simp [placesOf, ih]; omega
theorem placesOf_get (D : Nat → Bool × Nat × Value) (n : Nat) : ∀ i, i < n → (placesOf D n)[i * 3]? = some (.bool (D i).1) ∧ (placesOf D n)[i * 3 + 1]? = some (.int .u64 (D i).2.1) ∧ (placesOf D n)[i * 3 + 2]? = some (D i).2.2 := by
  induction n with
  | zero => intro i h; omega
  | succ n ih =>
    intro i hi
    have hl := placesOf_length D n
    by_cases e : i = n
    · subst e
      unfold placesOf
      refine ⟨?_, ?_, ?_⟩
      · rw [List.getElem?_append_right (by omega), hl, show i * 3 - i * 3 = 0 from by omega]; rfl
      · rw [List.getElem?_append_right (by omega), hl, show i * 3 + 1 - i * 3 = 1 from by omega]; rfl
      · rw [List.getElem?_append_right (by omega), hl, show i * 3 + 2 - i * 3 = 2 from by omega]; rfl
    · obtain ⟨a, b, c⟩ := ih i (by omega)
      unfold placesOf
      refine ⟨?_, ?_, ?_⟩
      · rw [List.getElem?_append_left (by omega)]; exact a
      · rw [List.getElem?_append_left (by omega)]; exact b
      · rw [List.getElem?_append_left (by omega)]; exact c
theorem placesOf_one (D : Nat → Bool × Nat × Value) (hone : ∀ i, (D i).2.2.oneCell' = true) (n : Nat) : ∀ u ∈ placesOf D n, u.oneCell' = true := by
  induction n with
  | zero => intro u hu; simp [placesOf] at hu
  | succ n ih =>
    intro u hu
    unfold placesOf at hu
    rcases List.mem_append.1 hu with h | h
    · exact ih u h
    · simp at h; rcases h with rfl | rfl | rfl
      · rfl
      · rfl
      · exact hone n

theorem places_at {w : World} {b s most count n : Nat} {D : Nat → Bool × Nat × Value} (h : IdxAt w b s most count n D) : ∀ j u, (placesOf D n)[j]? = some u → w.cell? ⟨s, 0 + j, none⟩ = some u := by
  intro j u hj
  have hl := placesOf_length D n
  have hlt : j < n * 3 := by rw [← hl]; exact (List.getElem?_eq_some_iff.1 hj).1
  obtain ⟨a, b, c⟩ := placesOf_get D n (j / 3) (by omega)
  rw [Nat.zero_add]
  have h3 : j = j / 3 * 3 ∨ j = j / 3 * 3 + 1 ∨ j = j / 3 * 3 + 2 := by omega
  rcases h3 with e | e | e
  · rw [e] at hj ⊢; rw [a] at hj; cases hj; exact h.k0 _ (by omega)
  · rw [e] at hj ⊢; rw [b] at hj; cases hj; exact h.k1 _ (by omega)
  · rw [e] at hj ⊢; rw [c] at hj; cases hj; exact h.k2 _ (by omega)

/-- What the twin is. -/
def Twin (w : World) (most count n : Nat) (D : Nat → Bool × Nat × Value) (r : Ending) (w' : World) : Prop :=
  ∃ b s, r = .returned (.pointer (some ⟨b, 0, none⟩)) ∧ Below w.heap.size w w' ∧ w.heap.size ≤ b ∧ w.heap.size ≤ s ∧ IdxAt w' b s most count n D

theorem twin_at {w w1 w2 : World} {b : Nat} {most count n : Nat} {D : Nat → Bool × Nat × Value} {v : Value} {t e : TypeId} {sl : Value} (hn : 0 < n)
    (h1 : w1.heap[b]? = some (.cells #[.int .i64 most, .int .i64 count, sl] t (0, 0))) (hb : w.heap.size = b) (hs : w1.heap.size = b + 1) (hw : Below w.heap.size w w1)
    (ho : w2.ownsRow w1.heap.size e 3 v n (placesOf D n)) (hne : v ≠ .slice none 0 0) (hB : Below w1.heap.size w1 w2) :
    Twin w most count n D (.returned (.pointer (some ⟨b, 0, none⟩))) (w2.setCell ⟨b, 2, none⟩ v) ∧ w2.cell? ⟨b, 2, none⟩ = some sl ∧ w2.frozen? ⟨b, 2, none⟩ = false := by
  have h2 : w2.heap[b]? = some (.cells #[.int .i64 most, .int .i64 count, sl] t (0, 0)) := (hB.block b (by omega)).trans h1
  have hc2 : w2.cell? ⟨b, 2, none⟩ = some sl := by rw [cell_of_block h2]; rfl
  refine ⟨?_, hc2, frozen_of_block h2 2⟩
  rcases ho.2 with ⟨hv, _⟩ | ⟨g, cap, cur, rfl, hg, hh, _⟩
  · exact absurd hv hne
  · have hgb : g ≠ b := by omega
    refine ⟨b, g, rfl, (hw.trans (hB.mono hw.size)).setCell (by show w.heap.size ≤ b; omega) _, by omega, by omega, ?_⟩
    have hcg : ∀ j, j < n * 3 → (w2.setCell ⟨b, 2, none⟩ (.slice (some ⟨g, 0, none⟩) n cap)).cell? ⟨g, j, none⟩ = (placesOf D n)[j]? := fun j hj => by
      rw [cell_setCell_block hgb]; exact ho.cellAt j hj
    refine ⟨fun e => hgb e.symm, ?_, ?_, ⟨cap, cell_setCell_same hc2⟩, fun o => ?_, fun o => ?_, hn, fun i hi => ?_, fun i hi => ?_, fun i hi => ?_⟩
    · rw [cell_setCell_off (by decide), cell_of_block h2]; rfl
    · rw [cell_setCell_off (by decide), cell_of_block h2]; rfl
    · rw [World.frozen?_setCell]; exact frozen_of_block h2 o
    · rw [World.frozen?_setCell]; exact frozen_of_block hh o
    · rw [hcg _ (by omega)]; exact (placesOf_get D n i hi).1
    · rw [hcg _ (by omega)]; exact (placesOf_get D n i hi).2.1
    · rw [hcg _ (by omega)]; exact (placesOf_get D n i hi).2.2

set_option maxRecDepth 100000 in
set_option maxHeartbeats 1000000 in
theorem twin_c {w : World} {b s most count n e : Nat} {S : Tb Value} (h : IdxAt w b s most count n (conc (.int .i64 0) S)) (g : Geo n e) (hint : ∀ i k u, S i = some (k, u) → ∃ x, u = .int .i64 x) :
    Calls Try.prog 27 #[.pointer (some ⟨b, 0, none⟩)] w (Twin w most count n (conc (.int .i64 0) S)) := by
  obtain ⟨i0, hi, hz0, hz1, hz2⟩ := info_parts (show (Try.prog.info? 85).map (fun i => (i.zero, i.size, i.bytes)) = some (some (.agg #[.bool false, .int .u64 0, .int .i64 0]), 3, 24) by kernel_rfl)
  have hone : ∀ i, (conc (.int .i64 0) S i).2.2.oneCell' = true := by
    intro i
    unfold conc
    cases hS : S i with
    | none => rfl
    | some p => obtain ⟨k, u⟩ := p; obtain ⟨x, rfl⟩ := hint i k u hS; rfl
  have hsm := g.small
  obtain ⟨cp, c2⟩ := h.c2
  have c0 := h.c0
  have c1 := h.c1
  have hlb := h.lb
  have HC : Hid (∀ wx, IdxAt wx b s most count n (conc (.int .i64 0) S) → Calls Try.prog 48 #[.slice (some ⟨s, 0, none⟩) n cp] wx fun r w' =>
      ∃ v', r = .returned v' ∧ w'.ownsRow wx.heap.size 85 3 v' n (placesOf (conc (.int .i64 0) S) n) ∧ v' ≠ .slice none 0 0 ∧ Below wx.heap.size wx w') := fun wx hx =>
    AnyE.slices_Clone Try.cloneI i0 _ 3 24 hi hz0 hz1 hz2 rfl (by decide) Try.sizeOf85 s 0 n cp (placesOf (conc (.int .i64 0) S) n) wx (placesOf_length _ _) (by unfold maxLen; omega) (by omega) (places_at hx) (placesOf_one _ hone n)
  have HI := hid h
  clear h g hint hi hz0 hz1 hz2 hone
  go_enter Try.func27, Try.ntmps27
  go_wp2_with fail
  refine (HC.out _ (HI.out.frm ((Frm.refl [] w).alloc _) (by simp) (by simp))).mono ?_
  rintro r w2 ⟨v', rfl, ho, hne, hB⟩
  obtain ⟨hT, c3, f3⟩ := twin_at HI.out.pos (World.alloc_heap_new w _) rfl (by simp) ((Below.refl _ _).alloc (Nat.le_refl _) _) ho hne hB
  obtain ⟨a, c, rfl⟩ : ∃ a c, v' = .slice a n c := by
    rcases ho.2 with ⟨rfl, h0⟩ | ⟨g, cap, cur, rfl, _⟩
    · subst h0; exact ⟨none, 0, rfl⟩
    · exact ⟨_, _, rfl⟩
  have HT := hid hT
  clear HC HI hT ho hne hB c0 c1 c2
  go_wp2
  go_ret
  exact HT.out
end Go.Proofs.Ytcieieljgmkjmaa.IdxI
