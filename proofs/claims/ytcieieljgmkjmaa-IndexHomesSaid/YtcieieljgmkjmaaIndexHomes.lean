/- IndexHomes: an index of any size, and the document's: as many places, and every key has the same home. No condition. -/
import Derived.Test.YtcieieljgmkjmaaRows
import Derived.WalkKit
import Derived.ProofKit
import Derived.OpenShut
import Derived.ShutString
import Derived.ChangeOld
import Derived.Below
import Derived.Test.YtcieieljgmkjmaaLawA
import Derived.ShutString
namespace Go.Proofs.Ytcieieljgmkjmaa.indexHomes
open Go.ChangeShapes Go.WideShapes Go.ChangeAt Go.RowKit Winnow
open Go.ChangeMaps (open_string shut_string)
set_option linter.unusedVariables false      -- a walk need not use every 'w<i>' (that an integer argument fits its kind)

theorem own : ownKnob Try.prog.godebug = none := by kernel_rfl

theorem walkSmall (most key : Nat) (w : World) (hn : most ≤ 4096) :
    Calls Try.prog 5 #[.int .i64 most, .int .u64 key] w fun e w' => e = .returned (.bool true) ∧ Below w.heap.size w w' := by
  have HK := hid (LawA.known_c w)
  have HN := hid (fun wx => LawA.both_yes most wx hn)
  go_enter Try.func5, Try.ntmps5
  go_wp2_with (first | (go_at_call 14; refine HK.out.mono ?_; rintro e w1 ⟨rfl, fr0⟩) | (go_at_call 15; refine (HN.out _).mono ?_; rintro e w2 ⟨rfl, n, ee, F, I, R, fr⟩))
  have hg := F.geo
  have hp := hg.pos
  have hsm := hg.small
  have HB := hid ((fr0.trans fr).below (Nat.le_refl _) (by simp))
  have c2 := I.c2
  have c2' := R.c2
  have Hl := hid (fun (wx : World) (hx : IdxAt wx (w1.heap.size + 1) w1.heap.size most 0 n (conc (.int .i64 0) fun _ => none)) => IdxI.len_c hx)
  have Hs := hid (fun (wx : World) (hx : IdxAt wx (w1.heap.size + 1) w1.heap.size most 0 n (conc (.int .i64 0) fun _ => none)) => IdxI.slots_c hx)
  have Hh := hid (fun (wx : World) (hx : IdxAt wx (w1.heap.size + 1) w1.heap.size most 0 n (conc (.int .i64 0) fun _ => none)) => IdxI.home_c hx.c2.choose_spec hg key)
  have Hr := hid (fun (wx : World) (hx : RefAt wx (w1.heap.size + 2) (w1.heap.size + 2 + 1) (w1.heap.size + 2 + 2) (w1.heap.size + 2 + 3) most ee 0 n (fun _ => (false, 0, 0))) => Ref.home_c hx.c1 hg key)
  generalize home n key = hm at *
  have HI := hid I
  have HR := hid R
  clear I R F fr fr0 HK HN hg
  go_quiet (first | (go_at_call 12; exact quietS (Hs.out _ (HI.out.drewN _))) | (go_at_call 13; exact quietS (Hh.out _ (HI.out.drewN _))) | (go_at_call 16; exact quietS (Hr.out _ (HR.out.drewN _))) | (go_at_call 11; exact quietS (Hl.out _ (HI.out.drewN _))))
  go_wp2
  go_ret
  exact ⟨rfl, HB.out.trans (below_dn _ _ _)⟩

theorem walk (a0 : Int) (a1 : Int) (w0 : (Lit.int .i64 a0).wf = true) (w1 : (Lit.int .u64 a1).wf = true) (w : World) :
    Calls Try.prog 5 #[.int .i64 a0, .int .u64 a1] w fun e w' => e = .returned (.bool true) ∧ Below w.heap.size w w' := by
  by_cases h : a0 < 0 ∨ 4096 < a0
  · have HK := hid (LawA.known_c w)
    have HN := hid (fun wx => LawA.both_no a0 wx h)
    clear h w0 w1
    go_enter Try.func5, Try.ntmps5
    go_wp2_with (first | (go_at_call 14; refine HK.out.mono ?_; rintro e w1 ⟨rfl, fr0⟩) | (go_at_call 15; refine (HN.out _).mono ?_; rintro e w2 ⟨rfl, rfl⟩))
    go_ret
    exact ⟨rfl, fr0.below (Nat.le_refl _) (by simp)⟩
  · obtain ⟨m, rfl⟩ := Int.eq_ofNat_of_zero_le (by omega : 0 ≤ a0)
    obtain ⟨k, rfl⟩ := Int.eq_ofNat_of_zero_le (bounds_u64 w1).1
    exact walkSmall m k w (by omega)

/-! ### THE ROW's STEP: WRITTEN OUT: LEAVE IT -/
set_option maxRecDepth 100000 in
theorem lifted (os : Os) (started : os.Started) (H : Type) (enc : TypeId × Value → H) :
    ReturnsInHanded {} Try.checked os 5 .any (Rows.indexHomesSpec.pre6 enc Try.prog Try.f5 Rows.indexHomesRow.domain false) (Rows.indexHomesSpec.post enc Try.prog Try.f5 false true false false) := by
  refine returnsInHanded_of_change (C := Try.checked) own started (by kernel_rfl) Try.func5
    (ChangeSpec.witness6 (enc := enc) (C := Try.checked) false ⟨#[], #[.int .i64 0, .int .u64 0], []⟩ 8 (by kernel_rfl) (by kernel_rfl) (by kernel_rfl) (by kernel_rfl)) ?_
  intro W base args ds gs before hval0 hW hcnd _
  have hval : ∀ (j : Nat) t v, Try.f5.params[j]? = some t → args[j]? = some v → Value.okWide Try.prog W .any base t v := hval0
  have hW' := hW
  obtain ⟨p, q, hA0, hV, rfl, hfz, hnd⟩ := hW
  have hA : DataW.TrodAll enc Try.prog W 0 (fun _ => true) true Try.f5.params.toList args.toList ds p := hA0
  rw [Try.params5] at hA hval
  obtain ⟨v0, vs0, d0, ds0, p0, q0, hargs, rfl, rfl, h0, r0⟩ := trodAll_cons hA
  obtain ⟨v1, vs1, d1, ds1, p1, q1, rfl, rfl, rfl, h1, r1⟩ := trodAll_cons r0
  obtain ⟨rfl, rfl, rfl⟩ := trodAll_nil r1
  obtain rfl : args = #[v0, v1] := by cases args; simp_all
  obtain ⟨rfl, rfl⟩ := trodVars_none hV
  obtain ⟨a0, rfl, rfl, rfl, w0⟩ := open_int Try.underlying3 (hval 0 3 v0 rfl rfl) h0
  obtain ⟨a1, rfl, rfl, rfl, w1⟩ := open_int Try.underlying30 (hval 1 30 v1 rfl rfl) h1
  clear hA0 hval0
  simp only [List.append_nil] at hW'
  refine (walk a0 a1 w0 w1 W).mono fun e W' ⟨he, hg⟩ => ?_
  subst he
  exact ⟨_, rfl, _, _, _, [], _, [], hW', trodAll_mk1 (shut_bool Try.underlying4 _), ((trodAll_cons_mk (shut_int Try.underlying3 w0) (trodAll_cons_mk (shut_int Try.underlying30 w1) trodAll_mk0))), rfl, hg.frame _, fun h => by cases h⟩

theorem over : Rows.indexHomesRow.holds Try.pinned (OpenSpec.ofChange Rows.indexHomesSpec) :=
  OpenClaim.holds_of_wide 5 Try.f5 rfl rfl rfl rfl rfl rfl rfl ⟨rfl, rfl, rfl, rfl, rfl⟩ rfl rfl rfl rfl rfl (by kernel_rfl) Try.func5 (by kernel_rfl)
    (of_decide_eq_true (by kernel_rfl)) (by unfold Func.isWrapper; first | (rw [if_pos (by decide +kernel)]; kernel_rfl) | (rw [if_neg (by decide +kernel)]; exact ⟨rfl, rfl⟩))
    (fun os started H enc _ => lifted os started H enc)

/-- ████ THE STATEMENT ████ -/
theorem proved : Rows.IndexHomesSaid :=
  over
end Go.Proofs.Ytcieieljgmkjmaa.indexHomes
