/- IndexPlays: every script. No condition. -/
import Derived.Test.YtcieieljgmkjmaaRows
import Derived.WalkKit
import Derived.ProofKit
import Derived.OpenShut
import Derived.ShutString
import Derived.ChangeOld
import Derived.Below
import Derived.BigQuiet
import Derived.Test.YtcieieljgmkjmaaLawE
namespace Go.Proofs.Ytcieieljgmkjmaa.indexPlays
open Go.ChangeShapes Go.WideShapes Go.ChangeAt Go.RowKit Winnow
open Go.ChangeMaps (open_string shut_string)
set_option linter.unusedVariables false

theorem own : ownKnob Try.prog.godebug = none := by kernel_rfl
theorem laidOut : laidOutB Try.prog = true := by kernel_rfl

/-- At the head of a round. -/
def At (w : World) (rb rx rk rv most n e len : Nat) (f : Nat) (s5 s8 : Value) (wr : World) : Prop :=
  ∃ i b s count S, s5 = .pointer (some ⟨b, 0, none⟩) ∧ s8 = .int .i64 (i : Nat) ∧ i + f = len ∧ Hid (LawC.Good w wr b s rb rx rk rv most count n e S)

set_option maxRecDepth 100000 in
set_option maxHeartbeats 1000000 in
theorem walkSmall (most : Nat) (a1 : Option Addr) (len1 cap1 : Nat) (w : World) (hn : most ≤ 4096) (w1 : LawC.StepsAt w a1 len1) :
    Calls Try.prog 8 #[.int .i64 most, .slice a1 len1 cap1] w fun e w' => e = .returned (.bool true) ∧ Below w.heap.size w w' := by
  have HK := hid (LawA.known_c w)
  have HN := hid (fun wx => LawA.both_yes most wx hn)
  have HR := hid w1
  have hlen : len1 ≤ 9223372036854775807 := by have := w1.1; unfold maxLen at this; omega
  clear w1
  go_enter Try.func8, Try.ntmps8
  go_wp2_with (first | (go_at_call 14; refine HK.out.mono ?_; rintro e w1 ⟨rfl, fr0⟩) | (go_at_call 15; refine (HN.out _).mono ?_; rintro e w2 ⟨rfl, n, ee, F, I, R, fr⟩))
  have G0 := hid (LawC.good0 (w := w) F I R fr0 fr)
  have c2 := R.c2
  have hsm := F.geo.small
  have Hs := hid (fun (wx : World) (hx : IdxAt wx (w1.heap.size + 1) w1.heap.size most 0 n (conc (.int .i64 0) fun _ => none)) => IdxI.slots_c hx)
  have HI := hid I
  clear I R F fr fr0 HK HN
  go_quiet (first | (go_at_call 12; exact quietS (Hs.out _ (HI.out.drewN _))))
  generalize w1.heap.size + 2 + 1 = rx at *
  generalize w1.heap.size + 2 + 2 = rk at *
  generalize w1.heap.size + 2 + 3 = rv at *
  generalize w1.heap.size + 2 = rb at *
  go_wp2
  go_loopg [5, 8] len1 (fun f s5 s8 wr => At w rb rx rk rv most n ee len1 f s5 s8 wr)
  case atStart => exact ⟨0, _, _, _, _, rfl, rfl, by omega, G0.out.drewN _⟩
  case round =>
    clear G0 Hs HI c2
    obtain ⟨i, b, s, count, S, rfl, rfl, hi, G⟩ := hrel
    by_cases hlt : i < len1
    · obtain ⟨bx, off, rfl, kind, N, key, d0, d1, d2⟩ := HR.out.2 i hlt
      have DD := hid (And.intro d0 (And.intro d1 d2))
      have e0 := G.out.cell d0
      have e1 := G.out.cell d1
      have e2 := G.out.cell d2
      clear d0 d1 d2
      by_cases hk : kind = 6
      · subst hk
        have HT := hid G.out.twin
        have HD := hid (fun (wx : World) (b s : Nat) (hx : LawC.Good w wx b s rb rx rk rv most count n ee S) => hx.told 6 N key)
        go_wp2_with (first
          | (go_at_call 27; refine HT.out.mono ?_; rintro r w3 ⟨b', s', rfl, G3⟩; have g0 := G3.out.cell DD.out.1; have g1 := G3.out.cell DD.out.2.1; have g2 := G3.out.cell DD.out.2.2)
          | (go_at_call 28; refine (HD.out _ _ _ G3.out).mono ?_; rintro r w4 ⟨rfl, count', S', G4⟩))
        go_roundg (gk - 1)
        case measure => omega
        case rel => exact ⟨i + 1, _, _, _, _, rfl, by go_num, by omega, G4⟩
      · have HT := hid (G.out.told kind N key)
        go_wp2_with (go_at_call 28; refine HT.out.mono ?_; rintro r w3 ⟨rfl, count', S', G3⟩)
        go_roundg (gk - 1)
        case measure => omega
        case rel => exact ⟨i + 1, _, _, _, _, rfl, by go_num, by omega, G3⟩
    · have HA := hid G.out.all
      go_wp2_with (go_at_call 29; refine HA.out.mono ?_; rintro r w3 ⟨rfl, G3⟩)
      clear HA G
      obtain ⟨gk0, rfl⟩ : ∃ x, x = gk := ⟨_, rfl⟩
      go_loopg [9] len1 (fun f s9 wr => ∃ j count S, s9 = .int .i64 (j : Nat) ∧ j + f = len1 ∧ Hid (LawC.Good w wr b s rb rx rk rv most count n ee S))
      case atStart => exact ⟨0, _, _, rfl, by omega, G3⟩
      case round =>
        obtain ⟨j, count2, S2, rfl, hj, G⟩ := hrel
        by_cases hlt2 : j < len1
        · obtain ⟨bx, off, rfl, kind, N, key, d0, d1, d2⟩ := HR.out.2 j hlt2
          have e2 := G.out.cell d2
          clear d0 d1 d2
          have HT := hid (G.out.told 4 0 key)
          go_wp2_with (go_at_call 28; refine HT.out.mono ?_; rintro r w5 ⟨rfl, count', S', G5⟩)
          go_roundg (gk - 1)
          case measure => omega
          case rel => exact ⟨j + 1, _, _, by go_num, by omega, G5⟩
        · go_wp2
          go_ret
          exact ⟨rfl, G.out.bel⟩

set_option maxRecDepth 100000 in
theorem walk (a0 : Int) (a1 : Option Addr) (len1 cap1 : Nat) (w : World) (w0 : (Lit.int .i64 a0).wf = true) (w1 : LawC.StepsAt w a1 len1) :
    Calls Try.prog 8 #[.int .i64 a0, .slice a1 len1 cap1] w fun e w' => e = .returned (.bool true) ∧ Below w.heap.size w w' := by
  by_cases h : a0 < 0 ∨ 4096 < a0
  · have HK := hid (LawA.known_c w)
    have HN := hid (fun wx => LawA.both_no a0 wx h)
    clear h w0 w1
    go_enter Try.func8, Try.ntmps8
    go_wp2_with (first | (go_at_call 14; refine HK.out.mono ?_; rintro e w1 ⟨rfl, fr0⟩) | (go_at_call 15; refine (HN.out _).mono ?_; rintro e w2 ⟨rfl, rfl⟩))
    go_ret
    exact ⟨rfl, fr0.below (Nat.le_refl _) (by simp)⟩
  · obtain ⟨m, rfl⟩ := Int.eq_ofNat_of_zero_le (by omega : 0 ≤ a0)
    exact walkSmall m a1 len1 cap1 w (by omega) w1

/-! ### THE ROW's STEP: WRITTEN OUT: LEAVE IT -/
set_option maxRecDepth 100000 in
theorem lifted (os : Os) (started : os.Started) (H : Type) (enc : TypeId × Value → H) :
    ReturnsInHanded {} Try.checked os 8 .any (Rows.indexPlaysSpec.pre6 enc Try.prog Try.f8 Rows.indexPlaysRow.domain false) (Rows.indexPlaysSpec.post enc Try.prog Try.f8 false true false false) := by
  refine returnsInHanded_of_change (C := Try.checked) own started (by kernel_rfl) Try.func8
    (ChangeSpec.witness6 (enc := enc) (C := Try.checked) false ⟨#[], #[.int .i64 0, .slice none 0 0], []⟩ 8 (by kernel_rfl) (by kernel_rfl) (by kernel_rfl) (by kernel_rfl)) ?_
  intro W base args ds gs before hval0 hW hcnd _
  have hval : ∀ (j : Nat) t v, Try.f8.params[j]? = some t → args[j]? = some v → Value.okWide Try.prog W .any base t v := hval0
  have hW' := hW
  obtain ⟨p, q, hA0, hV, rfl, hfz, hnd⟩ := hW
  have hA : DataW.TrodAll enc Try.prog W 0 (fun _ => true) true Try.f8.params.toList args.toList ds p := hA0
  rw [Try.params8] at hA hval
  obtain ⟨v0, vs0, d0, ds0, p0, q0, hargs, rfl, rfl, h0, r0⟩ := trodAll_cons hA
  obtain ⟨v1, vs1, d1, ds1, p1, q1, rfl, rfl, rfl, h1, r1⟩ := trodAll_cons r0
  obtain ⟨rfl, rfl, rfl⟩ := trodAll_nil r1
  obtain rfl : args = #[v0, v1] := by cases args; simp_all
  obtain ⟨rfl, rfl⟩ := trodVars_none hV
  obtain ⟨a0, rfl, rfl, rfl, w0⟩ := open_int Try.underlying3 (hval 0 3 v0 rfl rfl) h0
  obtain ⟨a1, len1, cap1, rfl⟩ := okWide_slice Try.underlying40 (hval 1 40 v1 rfl rfl)
  have k1 := h1
  have lt1 : ∀ x ∈ p1, x.block < W.heap.size := by obtain ⟨m, hm⟩ := k1; exact DataW.trod_lt m _ _ _ hm
  have w1 : LawC.StepsAt W a1 len1 := by
    obtain ⟨fuel, hf⟩ := h1
    exact LawC.open_steps Try.underlying40 Try.underlying46 (by kernel_rfl) (by kernel_rfl) Try.underlying3 Try.underlying3 Try.underlying30 hf
  clear hA0 hval0
  refine (walk a0 a1 len1 cap1 W w0 w1).mono fun e W' ⟨he, bel⟩ => ?_
  subst he
  exact ⟨_, rfl, _, _, _, [], _, [], hW', trodAll_mk1 (shut_bool Try.underlying4 _), (trodAll_cons_mk (shut_int Try.underlying3 w0) (trodAll_cons_mk (Below.trod laidOut (by kernel_rfl) (of_decide_eq_true (by kernel_rfl)) k1 bel lt1) trodAll_mk0)), rfl, bel.frame _, fun h => by cases h⟩

theorem over : Rows.indexPlaysRow.holds Try.pinned (OpenSpec.ofChange Rows.indexPlaysSpec) :=
  OpenClaim.holds_of_wide 8 Try.f8 rfl rfl rfl rfl rfl rfl rfl ⟨rfl, rfl, rfl, rfl, rfl⟩ rfl rfl rfl rfl rfl (by kernel_rfl) Try.func8 (by kernel_rfl)
    (of_decide_eq_true (by kernel_rfl)) (by unfold Func.isWrapper; first | (rw [if_pos (by decide +kernel)]; kernel_rfl) | (rw [if_neg (by decide +kernel)]; exact ⟨rfl, rfl⟩))
    (fun os started H enc _ => lifted os started H enc)

/-- ████ THE STATEMENT ████ -/
theorem proved : Rows.IndexPlaysSaid := over
end Go.Proofs.Ytcieieljgmkjmaa.indexPlays
