/- THE WALK over the program's making of an index at values of type []int. -/
import Derived.Test.YtcieieljgmkjmaaJdxA
set_option linter.unusedVariables false
namespace Go.Proofs.Ytcieieljgmkjmaa.IdxJ
open Go.RowKit Winnow

theorem info_slot : (Try.prog.info? 79).map (fun i => (i.zero, i.size, i.bytes)) = some (some (.agg #[.bool false, .int .u64 0, .slice none 0 0]), 3, 40) := by kernel_rfl

set_option maxHeartbeats 800000 in
theorem new_out (most : Int) (w : World) (h : most < 0 ∨ 4194304 < most) :
    Calls Try.prog 17 #[.int .i64 most] w fun e w' => e = .returned (.tuple #[.pointer none, .int .i64 1]) ∧ w = w' := by
  by_cases h0 : most < 0
  · go_enter Try.func17, Try.ntmps17
    go_wp2
    go_ret2
    exact ⟨rfl, rfl⟩
  · have h1 : 4194304 < most := by omega
    have h2 : 0 ≤ most := by omega
    clear h h0
    go_enter Try.func17, Try.ntmps17
    go_wp2
    go_ret2
    exact ⟨rfl, rfl⟩

/-- What a new index is. -/
def Made (w : World) (most : Nat) (z : Value) (r : Ending) (w' : World) : Prop :=
  r = .returned (.tuple #[.pointer (some ⟨w.heap.size + 1, 0, none⟩), .int .i64 0]) ∧ ∃ n e, Fit most n e ∧ IdxAt w' (w.heap.size + 1) w.heap.size most 0 n (conc z fun _ => none) ∧ Frm [] w w' ∧ w'.heap.size = w.heap.size + 2

set_option maxRecDepth 100000 in
set_option maxHeartbeats 800000 in
theorem new_c (most : Nat) (w : World) (hn : most ≤ 4194304) :
    Calls Try.prog 17 #[.int .i64 most] w (Made w most (.slice none 0 0)) := by
  obtain ⟨i0, hi, hz0, hz1, hz2⟩ := info_parts info_slot
  have hmk : ∀ (n : Nat) (wx : World), n ≤ 16777216 → (Instr.makeSlice 75 (.int .i64 n) (.int .i64 n)).run Try.prog wx = .ok (.slice (some ⟨wx.heap.size, 0, none⟩) n n) (wx.alloc (.cells (madeCells #[.bool false, .int .u64 0, .slice none 0 0] (n * 3)) 79)) := by
    intro n wx hn
    have := run_make (P := Try.prog) wx 75 79 i0 _ Try.underlying75 hi hz0 .i64 .i64 n n (by omega) (by omega) (by rw [hz2]; omega) (by omega)
    rw [hz1] at this
    exact this
  have HMK := hid hmk
  clear hmk hi hz0 hz1 hz2
  go_enter Try.func17, Try.ntmps17
  go_wp2
  go_loopg [4] 30 (fun f s4 wr => w = wr ∧ ∃ e n : Nat, s4 = .int .i64 n ∧ Geo n e ∧ e + f = 31 ∧ n ≤ 16777216 ∧ (n = 2 ∨ n < 4 * most))
  case atStart => exact ⟨rfl, 1, 2, rfl, ⟨rfl, by omega, by omega⟩, rfl, by omega, .inl rfl⟩
  case round =>
    obtain ⟨rfl, e, n, rfl, g, hf, hs, hl⟩ := hrel
    by_cases h : n < 2 * most
    · have h1 := g.n
      have h2 := g.ge
      have h3 := g.le
      have hg' : gk ≠ 0 → Geo (n * 2) (e + 1) := fun _ => ⟨by rw [g.n, Nat.pow_succ], by omega, by omega⟩
      have hb : gk ≠ 0 := by
        intro h0
        have : e = 31 := by omega
        rw [this] at h1; omega
      have HG := hid (hg' hb)
      have HB := hid hb
      clear hg' hb g h1 HMK hl
      go_wp2
      go_roundg (gk - 1)
      case measure => have := HB.out; omega
      case rel => exact ⟨rfl, e + 1, n * 2, by go_num, HG.out, by have := HB.out; omega, by omega, by omega⟩
    · have hfit : Fit most n e := ⟨g, by omega, hl⟩
      have hp := g.pos
      have HF := hid hfit
      have h' := HMK.out n w hs
      clear HMK g hl hf hs hfit
      go_wp2
      go_ret2
      refine ⟨rfl, n, e, HF.out, IdxAt.made (t := 77) (u := 79) (by omega) hp ?_ ?_, ((Frm.refl _ _).alloc _).alloc _, by simp⟩
      · have := alloc_at (w.alloc (.cells (madeCells #[.bool false, .int .u64 0, .slice none 0 0] (n * 3)) 79)) (.cells #[.int .i64 most, .int .i64 0, .slice (some ⟨w.heap.size, 0, none⟩) n n] 77)
        rwa [alloc_size] at this
      · rw [Below.heap_alloc _ _ _ (by simp)]; exact alloc_at _ _
end Go.Proofs.Ytcieieljgmkjmaa.IdxJ
