/- THE WALK over the making of the document's index. -/
import Derived.Test.YtcieieljgmkjmaaRefA
set_option linter.unusedVariables false
namespace Go.Proofs.Ytcieieljgmkjmaa.Ref
open Go.RowKit Winnow

theorem info_bool : (Try.prog.info? 4).map (fun i => (i.zero, i.size, i.bytes)) = some (some (.bool false), 1, 1) := by kernel_rfl
theorem info_u64 : (Try.prog.info? 30).map (fun i => (i.zero, i.size, i.bytes)) = some (some (.int .u64 0), 1, 8) := by kernel_rfl
theorem info_int : (Try.prog.info? 3).map (fun i => (i.zero, i.size, i.bytes)) = some (some (.int .i64 0), 1, 8) := by kernel_rfl

theorem made_one (t e : TypeId) (i0 : TypeInfo) (z : Value) (bytes : Nat) (ht : Try.prog.underlying t = some (.slice e)) (hi : Try.prog.info? e = some i0) (hz0 : i0.zero = some z) (hz1 : i0.size = 1) (hz2 : i0.bytes = bytes) (hb : bytes ≤ 8) (hc : z.cells = #[z])
    (n : Nat) (wx : World) (hn : n ≤ 16777216) : (Instr.makeSlice t (.int .i64 n) (.int .i64 n)).run Try.prog wx = .ok (.slice (some ⟨wx.heap.size, 0, none⟩) n n) (wx.alloc (.cells (madeCells #[z] n) e)) := by
  have h8 : (bytes : Int) * (n : Int) ≤ 281474976710656 := by
    have : bytes * n ≤ 8 * 16777216 := Nat.mul_le_mul hb hn
    have h2 : ((bytes * n : Nat) : Int) ≤ 281474976710656 := by omega
    rwa [Int.natCast_mul] at h2
  have := run_make (P := Try.prog) wx t e i0 z ht hi hz0 .i64 .i64 n n (by omega) (by omega) (by rw [hz2]; exact h8) (by omega)
  rw [hz1, hc] at this
  simp only [Int.toNat_natCast, Nat.mul_one] at this
  exact this

theorem madeCells_one (z : Value) (n i : Nat) (hi : i < n) : (madeCells #[z] n)[i]? = some z := by
  unfold madeCells
  rw [Array.getElem?_map, Array.getElem?_range]; simp [hi, Nat.mod_one]

set_option maxHeartbeats 800000 in
theorem new_out (most : Int) (w : World) (h : most < 0 ∨ 4194304 < most) :
    Calls Try.prog 35 #[.int .i64 most] w fun e w' => e = .returned (.tuple #[.pointer none, .int .i64 1]) ∧ w = w' := by
  by_cases h0 : most < 0
  · go_enter Try.func35, Try.ntmps35
    go_wp2
    go_ret2
    exact ⟨rfl, rfl⟩
  · have h1 : 4194304 < most := by omega
    have h2 : 0 ≤ most := by omega
    clear h h0
    go_enter Try.func35, Try.ntmps35
    go_wp2
    go_ret2
    exact ⟨rfl, rfl⟩

/-- What a new index of the document is. -/
def Made (w : World) (most : Nat) (r : Ending) (w' : World) : Prop :=
  r = .returned (.tuple #[.pointer (some ⟨w.heap.size, 0, none⟩), .int .i64 0]) ∧ ∃ n e, Fit most n e ∧ RefAt w' w.heap.size (w.heap.size + 1) (w.heap.size + 2) (w.heap.size + 3) most e 0 n (fun _ => (false, 0, 0)) ∧ Frm [] w w' ∧ w'.heap.size = w.heap.size + 4

theorem RefAt.made {w : World} {b x ks vs most e n : Nat} {t t1 t2 t3 : TypeId} (bx : b ≠ x) (bk : b ≠ ks) (bv : b ≠ vs) (xk : x ≠ ks) (xv : x ≠ vs) (kv : ks ≠ vs) (hn : 0 < n)
    (hb : w.heap[b]? = some (.cells #[.int .i64 most, .int .i64 e, .slice (some ⟨x, 0, none⟩) n n, .slice (some ⟨ks, 0, none⟩) n n, .slice (some ⟨vs, 0, none⟩) n n, .int .i64 0] t))
    (hx : w.heap[x]? = some (.cells (madeCells #[.bool false] n) t1)) (hk : w.heap[ks]? = some (.cells (madeCells #[.int .u64 0] n) t2)) (hv : w.heap[vs]? = some (.cells (madeCells #[.int .i64 0] n) t3)) :
    RefAt w b x ks vs most e 0 n (fun _ => (false, 0, 0)) :=
  ⟨bx, bk, bv, xk, xv, kv, by rw [cell_of_block hb]; rfl, by rw [cell_of_block hb]; rfl, by rw [cell_of_block hb]; rfl, by rw [cell_of_block hb]; rfl, by rw [cell_of_block hb]; rfl, by rw [cell_of_block hb]; rfl,
    fun o => frozen_of_block hb o, fun o => frozen_of_block hx o, fun o => frozen_of_block hk o, fun o => frozen_of_block hv o, hn,
    fun i hi => by rw [cell_of_block hx]; exact madeCells_one _ _ _ hi, fun i hi => by rw [cell_of_block hk]; exact madeCells_one _ _ _ hi, fun i hi => by rw [cell_of_block hv]; exact madeCells_one _ _ _ hi⟩

set_option maxRecDepth 100000 in
set_option maxHeartbeats 800000 in
theorem new_c (most : Nat) (w : World) (hn : most ≤ 4194304) :
    Calls Try.prog 35 #[.int .i64 most] w (Made w most) := by
  have m1 := hid (by obtain ⟨i0, hi, hz0, hz1, hz2⟩ := info_parts info_bool; exact made_one 35 4 i0 _ 1 Try.underlying35 hi hz0 hz1 hz2 (by omega) rfl)
  have m2 := hid (by obtain ⟨i0, hi, hz0, hz1, hz2⟩ := info_parts info_u64; exact made_one 23 30 i0 _ 8 Try.underlying23 hi hz0 hz1 hz2 (by omega) rfl)
  have m3 := hid (by obtain ⟨i0, hi, hz0, hz1, hz2⟩ := info_parts info_int; exact made_one 36 3 i0 _ 8 Try.underlying36 hi hz0 hz1 hz2 (by omega) rfl)
  go_enter Try.func35, Try.ntmps35
  go_wp2
  go_loopg [5] 30 (fun f s5 wr => ∃ e n : Nat, wr = w.alloc (.cells #[.int .i64 most, .int .i64 e, .slice none 0 0, .slice none 0 0, .slice none 0 0, .int .i64 0] 38) ∧ s5 = .int .i64 n ∧ Geo n e ∧ e + f = 31 ∧ n ≤ 16777216 ∧ (n = 2 ∨ n < 4 * most))
  case atStart => exact ⟨1, 2, rfl, rfl, ⟨rfl, by omega, by omega⟩, rfl, by omega, .inl rfl⟩
  case round =>
    obtain ⟨e, n, rfl, rfl, g, hf, hs, hl⟩ := hrel
    by_cases h : n < 2 * most
    · have h1 := g.n
      have h2 := g.ge
      have h3 := g.le
      have hg' : gk ≠ 0 → Geo (n * 2) (e + 1) := fun _ => ⟨by rw [g.n, Nat.pow_succ], by omega, by omega⟩
      have hb : gk ≠ 0 := by
        intro h0
        have : e = 31 := by omega
        rw [this] at h1; omega
      have HG := hid (hg' hb)
      have HB := hid hb
      clear hg' hb g h1 m1 m2 m3 hl
      go_wp2
      go_roundg (gk - 1)
      case measure => have := HB.out; omega
      case rel => exact ⟨e + 1, n * 2, by go_num, by rw [Int.mul_comm]; go_num, HG.out, by have := HB.out; omega, by omega, by omega⟩
    · have hfit : Fit most n e := ⟨g, by omega, hl⟩
      have hp := g.pos
      have HF := hid hfit
      have n1 := fun wx => m1.out n wx hs
      have n2 := fun wx => m2.out n wx hs
      have n3 := fun wx => m3.out n wx hs
      clear m1 m2 m3 g hl hf hs hfit
      go_wp2
      go_ret2
      refine ⟨rfl, n, e, HF.out, RefAt.made (t := 38) (t1 := 4) (t2 := 30) (t3 := 3) (by omega) (by omega) (by omega) (by omega) (by omega) (by omega) hp ?_ ?_ ?_ ?_, ?_, by simp⟩
      · simp only [heap_alloc_if, alloc_size]; (repeat (first | rw [if_pos trivial] | rw [if_pos (by omega)] | rw [if_neg (by omega)]))
      · simp only [heap_alloc_if, alloc_size]; (repeat (first | rw [if_pos trivial] | rw [if_pos (by omega)] | rw [if_neg (by omega)]))
      · simp only [heap_alloc_if, alloc_size]; (repeat (first | rw [if_pos trivial] | rw [if_pos (by omega)] | rw [if_neg (by omega)]))
      · simp only [heap_alloc_if, alloc_size]; (repeat (first | rw [if_pos trivial] | rw [if_pos (by omega)] | rw [if_neg (by omega)]))
      · exact ((((Frm.refl _ _).alloc _).alloc _).alloc _).alloc _
end Go.Proofs.Ytcieieljgmkjmaa.Ref
