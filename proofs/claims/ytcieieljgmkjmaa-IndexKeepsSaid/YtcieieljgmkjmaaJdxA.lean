/- THE WALKS over the program's index at values of type []int: its places, a key's home, a search. -/
import Derived.Test.YtcieieljgmkjmaaRows
import Derived.WalkKit
import Derived.WalkSpells
import Derived.WalkLawsBesides
import Derived.BigQuiet
import Derived.Deep.QuietTactic
import Derived.Deep.LoopGhost
import Derived.Test.YtcieieljgmkjmaaIdxBase
import Derived.Test.YtcieieljgmkjmaaJdx0
import Derived.Test.YtcieieljgmkjmaaShelf
set_option linter.unusedVariables false
namespace Go.Proofs.Ytcieieljgmkjmaa.IdxJ
open Go.RowKit Winnow

theorem ret_int {k : IntKind} {a b : Int} (h : a = b) : Ending.returned (.int k a) = .returned (.int k b) := by rw [h]

set_option maxHeartbeats 400000 in
theorem len_c {w : World} {b s most count n : Nat} {D : Nat → Bool × Nat × Value} (h : IdxAt w b s most count n D) :
    Calls Try.prog 21 #[.pointer (some ⟨b, 0, none⟩)] w fun e w' => e = .returned (.int .i64 count) ∧ w = w' := by
  have h1 := h.c1
  clear h
  go_enter Try.func21, Try.ntmps21
  go_wp2
  go_ret
  exact ⟨rfl, rfl⟩

set_option maxHeartbeats 400000 in
theorem slots_c {w : World} {b s most count n : Nat} {D : Nat → Bool × Nat × Value} (h : IdxAt w b s most count n D) :
    Calls Try.prog 39 #[.pointer (some ⟨b, 0, none⟩)] w fun e w' => e = .returned (.int .i64 n) ∧ w = w' := by
  obtain ⟨cp, h1⟩ := h.c2
  clear h
  go_enter Try.func39, Try.ntmps39
  go_wp2
  go_ret
  exact ⟨rfl, rfl⟩

theorem bits_len_c {n e : Nat} (g : Geo n e) (w : World) : Calls Try.prog 31 #[.int .u64 n] w fun r w' => r = .returned (.int .i64 ((e : Int) + 1)) ∧ w = w' := by
  have hs := g.small
  refine (Try.bits_Len (n : Int) w (by omega) (by omega)).mono ?_
  rintro r w' ⟨rfl, rfl⟩
  refine ⟨?_, rfl⟩
  rw [Int.toNat_natCast, g.n, bitLen_pow e g.ge]; rfl

set_option maxHeartbeats 400000 in
theorem home_c {w : World} {b s n e cp : Nat} (h1 : w.cell? ⟨b, 2, none⟩ = some (.slice (some ⟨s, 0, none⟩) n cp)) (g : Geo n e) (key : Nat) :
    Calls Try.prog 38 #[.pointer (some ⟨b, 0, none⟩), .int .u64 key] w fun r w' => r = .returned (.int .i64 (home n key)) ∧ w = w' := by
  have hs := g.small
  have hp := g.pos
  have hge := g.ge
  have hle := g.le
  have hh := home_lt g.pos key
  have hlen := bits_len_c g w
  have hsh : IntKind.u64.wrap ((key : Int) * 11400714819323198485) / 2 ^ (64 - e) = ((home n key : Nat) : Int) := by
    rw [← home_shift g, IntKind.wrap_u64, Int.natCast_ediv, Int.natCast_emod, Int.natCast_mul, Int.natCast_pow]; rfl
  have HS := hid hsh
  have H := hid hlen
  generalize home n key = hm at HS hh ⊢
  clear g hlen hsh
  go_enter Try.func38, Try.ntmps38
  go_wp2_with (go_at_call 31; refine H.out.mono ?_; rintro e w' ⟨rfl, rfl⟩)
  go_ret
  refine ⟨ret_int ?_, rfl⟩
  rw [HS.out]
  exact IntWalk.wrap64_in _ ⟨by omega, by omega⟩

set_option maxHeartbeats 400000 in
theorem behind_c {w : World} {b s n e cp : Nat} (h1 : w.cell? ⟨b, 2, none⟩ = some (.slice (some ⟨s, 0, none⟩) n cp)) (g : Geo n e) {i : Nat} (hi : i < n) :
    Calls Try.prog 37 #[.pointer (some ⟨b, 0, none⟩), .int .i64 i] w fun r w' => r = .returned (.int .i64 (nx n i)) ∧ w = w' := by
  have hs := g.small
  have hp := g.pos
  have ha := and_nx g hi
  generalize nx n i = q at ha ⊢
  clear g
  go_enter Try.func37, Try.ntmps37
  go_wp2
  go_ret
  exact ⟨rfl, rfl⟩

/-- A search over what lies in the places. -/
def stopD (D : Nat → Bool × Nat × Value) (key a : Nat) : Bool := !(D a).1 || (D a).2.1 == key
theorem stopD_conc (z : Value) (S : Tb Value) (key a : Nat) : stopD (conc z S) key a = stopAt S key a := by
  unfold stopD conc stopAt; cases S a with
  | none => rfl
  | some x => simp

set_option maxHeartbeats 800000 in
theorem find_c {w : World} {b s most count n e : Nat} {z : Value} {S : Tb Value} (h : IdxAt w b s most count n (conc z S)) (g : Geo n e) {em : Nat} (hem : em < n) (hemp : S em = none) (key : Nat) :
    Calls Try.prog 36 #[.pointer (some ⟨b, 0, none⟩), .int .u64 key] w fun r w' => r = .returned (.tuple #[.int .i64 (find n S key), .bool (conc z S (find n S key)).1]) ∧ ∃ m, w' = w.drewN m := by
  obtain ⟨cp, h1⟩ := h.c2
  have hs := g.small
  have hp := g.pos
  have hh := home_lt g.pos key
  have hstop := (find_spec hem hemp key).1
  have hq := find_lt g.pos S key
  have H1 := hid (home_c h1 g key)
  have H2 := hid (fun i (hi : i < n) => behind_c h1 g hi)
  have Hf : Hid (find n S key = findGo n S key n (home n key)) := rfl
  generalize find n S key = q at hstop hq Hf ⊢
  have HQ := hid hstop
  clear hstop
  generalize home n key = h0 at H1 Hf hh
  go_enter Try.func36, Try.ntmps36
  go_wp2_with (go_at_call 38; refine H1.out.mono ?_; rintro e w' ⟨rfl, rfl⟩)
  clear H1
  go_loopg [6] n (fun g s6 wr => w = wr ∧ ∃ a : Nat, s6 = .int .i64 a ∧ a < n ∧ Hid (q = findGo n S key g a))
  case atStart => exact ⟨rfl, h0, rfl, hh, Hf⟩
  case round =>
    clear Hf
    obtain ⟨rfl, a, rfl, ha, hg⟩ := hrel
    have d0 := h.k0 a ha
    have d1 := h.k1 a ha
    have e0 := h.k0 q hq
    have hst := stopD_conc z S key a
    have HD := hid h
    have hgo : stopAt S key a = false → ∃ k, k < gk ∧ q = findGo n S key k (nx n a) := by
      intro hs'
      cases gk with
      | zero => exfalso; have := hg.out; simp only [findGo] at this; have h' := HQ.out; rw [this, hs'] at h'; exact absurd h' (by decide)
      | succ k => exact ⟨k, by omega, by have := hg.out; rw [findGo_go hs'] at this; exact this⟩
    have hst2 : stopAt S key a = true → q = a := fun hs' => by have := hg.out; rw [findGo_stop hs'] at this; exact this
    have G1 := hid hgo
    have G2 := hid hst2
    have Hst := hid hst
    clear hst hgo hst2 h hg
    cases ht : (conc z S a).1
    · have hqa : q = a := G2.out (by rw [← Hst.out]; simp [stopD, ht])
      subst hqa
      rw [ht] at d0 e0
      clear G1 G2 Hst
      go_wp2
      go_quiet (fail)
      go_wp2
      go_ret2
      refine ⟨?_, _, rfl⟩
      rw [ht]; rfl
    · rw [ht] at d0
      by_cases hk : (conc z S a).2.1 = key
      · have hqa : q = a := G2.out (by rw [← Hst.out]; simp [stopD, ht, hk])
        subst hqa
        rw [ht] at e0
        have hk' : (((conc z S q).2.1 : Int) != (key : Int)) = false := by simp [hk]
        clear G1 G2 Hst hk
        go_wp2
        go_quiet (fail)
        go_wp2
        go_ret2
        refine ⟨?_, _, rfl⟩
        rw [ht]; rfl
      · have hk' : (((conc z S a).2.1 : Int) != (key : Int)) = true := by simp; omega
        have hns : stopAt S key a = false := by rw [← Hst.out]; simp [stopD, ht, hk]
        obtain ⟨k', hk1, hk2⟩ := G1.out hns
        have HK := hid hk2
        have HB := hid (H2.out a ha)
        have hnx := nx_lt ha
        clear G1 G2 Hst hk hns hk2 H2 e0
        go_wp2_with (go_at_call 37; refine HB.out.mono ?_; rintro e w' ⟨rfl, rfl⟩)
        go_roundg k'
        case measure => exact hk1
        case rel => exact ⟨rfl, nx n a, rfl, hnx, HK⟩

end Go.Proofs.Ytcieieljgmkjmaa.IdxJ
