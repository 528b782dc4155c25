/- THE WALK over the program's index at values of type []int: get. -/
import Derived.Test.YtcieieljgmkjmaaJdxA
set_option linter.unusedVariables false
namespace Go.Proofs.Ytcieieljgmkjmaa.IdxJ
open Go.RowKit Winnow

set_option maxHeartbeats 800000 in
theorem get_c {w : World} {b s most count n e : Nat} {z : Value} {S : Tb Value} (h : IdxAt w b s most count n (conc z S)) (g : Geo n e) {em : Nat} (hem : em < n) (hemp : S em = none) (key : Nat) :
    Calls Try.prog 20 #[.pointer (some ⟨b, 0, none⟩), .int .u64 key] w fun r w' =>
      r = .returned (.tuple #[(conc z S (find n S key)).2.2, .bool (conc z S (find n S key)).1]) ∧ ∃ m, w' = w.drewN m := by
  obtain ⟨cp, h1⟩ := h.c2
  have hs := g.small
  have hp := g.pos
  have hq := find_lt g.pos S key
  have H1 := hid (find_c h g hem hemp key)
  generalize find n S key = q at hq H1 ⊢
  have d2 := h.k2 q hq
  generalize conc z S q = cq at *
  clear h g
  go_enter Try.func20, Try.ntmps20
  go_wp2_with (go_at_call 36; refine H1.out.mono ?_; rintro e w' ⟨rfl, m, rfl⟩)
  go_ret2
  exact ⟨rfl, _, rfl⟩
end Go.Proofs.Ytcieieljgmkjmaa.IdxJ
