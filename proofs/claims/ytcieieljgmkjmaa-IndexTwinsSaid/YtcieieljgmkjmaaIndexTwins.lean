/- IndexTwins: twins go apart, each as it would alone. No condition. -/
import Derived.Test.YtcieieljgmkjmaaRows
import Derived.WalkKit
import Derived.ProofKit
import Derived.OpenShut
import Derived.ShutString
import Derived.ChangeOld
import Derived.Below
import Derived.BigQuiet
import Derived.Test.YtcieieljgmkjmaaLawH
namespace Go.Proofs.Ytcieieljgmkjmaa.indexTwins
open Go.ChangeShapes Go.WideShapes Go.ChangeAt Go.RowKit Winnow
open Go.ChangeMaps (open_string shut_string)
set_option linter.unusedVariables false

theorem own : ownKnob Try.prog.godebug = none := by kernel_rfl
theorem laidOut : laidOutB Try.prog = true := by kernel_rfl

theorem reach {i len j : Nat} (h : j = min i len) (hi : i < len) : j = i ∧ i + 1 = min (i + 1) len := by omega

set_option maxRecDepth 100000 in
set_option maxHeartbeats 2000000 in
theorem walkSmall (most : Nat) (a1 a2 a3 : Option Addr) (len1 cap1 len2 cap2 len3 cap3 : Nat) (w : World) (hn : most ≤ 4096) (w1 : LawC.StepsAt w a1 len1) (w2 : LawC.StepsAt w a2 len2) (w3 : LawC.StepsAt w a3 len3) :
    Calls Try.prog 9 #[.int .i64 most, .slice a1 len1 cap1, .slice a2 len2 cap2, .slice a3 len3 cap3] w fun e w' => e = .returned (.bool true) ∧ Below w.heap.size w w' := by
  have HK := hid (LawA.known_c w)
  have HN := hid (fun wx => IdxI.new_c most wx (by omega))
  obtain ⟨f1, g1⟩ := w1.fn
  obtain ⟨f2, g2⟩ := w2.fn
  obtain ⟨f3, g3⟩ := w3.fn
  have R1 := hid g1
  have R2 := hid g2
  have R3 := hid g3
  have hl1 : len1 ≤ 9223372036854775807 := by have := w1.1; unfold maxLen at this; omega
  have hl2 : len2 ≤ 9223372036854775807 := by have := w2.1; unfold maxLen at this; omega
  have hl3 : len3 ≤ 9223372036854775807 := by have := w3.1; unfold maxLen at this; omega
  clear w1 w2 w3 g1 g2 g3
  go_enter Try.func9, Try.ntmps9
  go_wp2_with (first | (go_at_call 14; refine HK.out.mono ?_; rintro e w1 ⟨rfl, fr0⟩) | (go_at_call 10; refine (HN.out _).mono ?_; rintro e w2 ⟨rfl, n, ee, F, I, fr, hsz⟩))
  have hz := fr0.size
  have M0 := hid (LawC.many0 (w := w) F I ((fr0.trans fr).below (Nat.le_refl _) (by simp)) (by omega) (by omega))
  generalize LawC.tbl0 F = t00 at M0
  clear I F fr fr0 HK HN hsz
  go_loopg [11] len1 (fun f s11 wr => ∃ i, s11 = .int .i64 (i : Nat) ∧ i + f = len1 ∧ Hid (LawC.Many w wr [(w1.heap.size + 1, w1.heap.size, LawC.runTo t00 f1 i)]))
  case atStart => exact ⟨0, rfl, by omega, by rw [LawC.runTo_zero]; exact M0⟩
  case round =>
    clear M0
    obtain ⟨i, rfl, hi, M⟩ := hrel
    by_cases hlt : i < len1
    · obtain ⟨bx, off, rfl, d0, d1, d2⟩ := R1.out i hlt
      have e0 := M.out.cell d0
      have e1 := M.out.cell d1
      have e2 := M.out.cell d2
      clear d0 d1 d2
      have HS := hid (LawC.Many.step (pre := []) (post := []) M.out (f1 i))
      go_wp2_with (go_at_call 23; refine HS.out.mono ?_; rintro r w3 ⟨rfl, M2⟩; have M2' := M2.out; rw [← LawC.runTo_succ] at M2'; have M3 := hid M2'; clear M2 M2')
      go_roundg (gk - 1)
      case measure => omega
      case rel => exact ⟨i + 1, by go_num, by omega, M3⟩
    · obtain ⟨t0, ht0⟩ : ∃ t0, t0 = LawC.runTo t00 f1 i := ⟨_, rfl⟩
      rw [← ht0] at M
      clear ht0
      have T1 := hid (LawC.Many.twin M.out (b := w1.heap.size + 1) (s := w1.heap.size) (t := t0) (by simp))
      go_wp2_with (go_at_call 27; refine T1.out.mono ?_; rintro r wa ⟨ab, as_, rfl, Ma⟩)
      clear T1 M
      have T2 := hid (LawC.Many.twin Ma.out (b := w1.heap.size + 1) (s := w1.heap.size) (t := t0) (by simp))
      refine T2.out.mono ?_
      rintro r wb ⟨bb, bs, rfl, Mb⟩
      clear T2 Ma
      go_wp2_with fail
      have T3 := hid (LawC.Many.twin Mb.out (b := w1.heap.size + 1) (s := w1.heap.size) (t := t0) (by simp))
      refine T3.out.mono ?_
      rintro r wc ⟨cb, cs, rfl, Mc⟩
      clear T3 Mb
      go_wp2_with fail
      have T4 := hid (LawC.Many.twin Mc.out (b := w1.heap.size + 1) (s := w1.heap.size) (t := t0) (by simp))
      refine T4.out.mono ?_
      rintro r wd ⟨db, ds, rfl, Md⟩
      clear T4 Mc
      go_wp2_with fail
      obtain ⟨gk0, rfl⟩ : ∃ x, x = gk := ⟨_, rfl⟩
      go_loopg [16] (len2 + len3) (fun f s16 wr => ∃ j ja jb, s16 = .int .i64 (j : Nat) ∧ j + f = len2 + len3 ∧ ja = min j len2 ∧ jb = min j len3 ∧ Hid (LawC.Many w wr [(db, ds, t0), (cb, cs, t0), (bb, bs, LawC.runTo t0 f3 jb), (ab, as_, LawC.runTo t0 f2 ja), (w1.heap.size + 1, w1.heap.size, t0)]))
      case atStart => exact ⟨0, 0, 0, rfl, by omega, by omega, by omega, by rw [LawC.runTo_zero, LawC.runTo_zero]; exact Md⟩
      case round =>
        clear Md
        obtain ⟨j, ja, jb, rfl, hj, hja, hjb, M⟩ := hrel
        by_cases h2 : j < len2
        · obtain rfl : ja = j := by omega
          obtain ⟨bx, off, rfl, d0, d1, d2⟩ := R2.out ja h2
          have e0 := M.out.cell d0
          have e1 := M.out.cell d1
          have e2 := M.out.cell d2
          clear d0 d1 d2
          have HA := hid (LawC.Many.step (pre := [(db, ds, t0), (cb, cs, t0), (bb, bs, LawC.runTo t0 f3 jb)]) (post := [(w1.heap.size + 1, w1.heap.size, t0)]) M.out (f2 ja))
          by_cases h3 : ja < len3
          · obtain rfl : jb = ja := by omega
            obtain ⟨by_, off', rfl, d0, d1, d2⟩ := R3.out jb h3
            have DD := hid (And.intro d0 (And.intro d1 d2))
            clear d0 d1 d2
            have HB := hid (fun (wx : World) (hx : LawC.Many w wx [(db, ds, t0), (cb, cs, t0), (bb, bs, LawC.runTo t0 f3 jb), (ab, as_, LawC.next (LawC.runTo t0 f2 jb) (f2 jb)), (w1.heap.size + 1, w1.heap.size, t0)]) => LawC.Many.step (pre := [(db, ds, t0), (cb, cs, t0)]) (post := [(ab, as_, LawC.next (LawC.runTo t0 f2 jb) (f2 jb)), (w1.heap.size + 1, w1.heap.size, t0)]) hx (f3 jb))
            clear hja hjb
            go_wp2_with fail
            refine HA.out.mono ?_
            rintro r w3 ⟨rfl, M3⟩
            have g0 := M3.out.cell DD.out.1
            have g1 := M3.out.cell DD.out.2.1
            have g2 := M3.out.cell DD.out.2.2
            go_wp2_with fail
            refine (HB.out _ M3.out).mono ?_
            rintro r w4 ⟨rfl, M4⟩
            have M4' := M4.out
            rw [← LawC.runTo_succ, ← LawC.runTo_succ] at M4'
            have M5 := hid M4'
            clear M4 M4' M3 HA HB M
            go_wp2_with fail
            go_roundg (gk - 1)
            case measure => omega
            case rel => exact ⟨jb + 1, jb + 1, jb + 1, by go_num, by omega, by omega, by omega, M5⟩
          · clear hja
            go_wp2_with (go_at_call 23; refine HA.out.mono ?_; rintro r w3 ⟨rfl, M2⟩; have M2' := M2.out; rw [← LawC.runTo_succ] at M2'; have M3 := hid M2'; clear M2 M2')
            go_roundg (gk - 1)
            case measure => omega
            case rel => exact ⟨ja + 1, ja + 1, jb, by go_num, by omega, by omega, by omega, M3⟩
        · by_cases h3 : j < len3
          · obtain rfl : jb = j := by omega
            obtain ⟨by_, off', rfl, d0, d1, d2⟩ := R3.out jb h3
            have e0 := M.out.cell d0
            have e1 := M.out.cell d1
            have e2 := M.out.cell d2
            clear d0 d1 d2 hjb
            have HB := hid (LawC.Many.step (pre := [(db, ds, t0), (cb, cs, t0)]) (post := [(ab, as_, LawC.runTo t0 f2 ja), (w1.heap.size + 1, w1.heap.size, t0)]) M.out (f3 jb))
            go_wp2_with (go_at_call 23; refine HB.out.mono ?_; rintro r w3 ⟨rfl, M2⟩; have M2' := M2.out; rw [← LawC.runTo_succ] at M2'; have M3 := hid M2'; clear M2 M2')
            go_roundg (gk - 1)
            case measure => omega
            case rel => exact ⟨jb + 1, ja, jb + 1, by go_num, by omega, by omega, by omega, M3⟩
          · obtain rfl : ja = len2 := by omega
            obtain rfl : jb = len3 := by omega
            clear hja hjb
            have HL := hid (LawC.Many.like M.out (b := w1.heap.size + 1) (s := w1.heap.size) (t := t0) (b' := db) (s' := ds) (t' := t0) (by simp) (by simp) rfl)
            go_wp2_with (go_at_call 30; refine HL.out.mono ?_; rintro r w3 ⟨rfl, M3⟩)
            clear HL M
            obtain ⟨gk1, rfl⟩ : ∃ x, x = gk := ⟨_, rfl⟩
            go_loopg [17] ja (fun f s17 wr => ∃ k, s17 = .int .i64 (k : Nat) ∧ k + f = ja ∧ Hid (LawC.Many w wr [(db, ds, t0), (cb, cs, t0), (bb, bs, LawC.runTo t0 f3 jb), (ab, as_, LawC.runTo t0 f2 ja), (w1.heap.size + 1, w1.heap.size, LawC.runTo t0 f2 k)]))
            case atStart => exact ⟨0, rfl, by omega, by rw [LawC.runTo_zero]; exact M3⟩
            case round =>
              clear M3
              obtain ⟨k, rfl, hk, M⟩ := hrel
              by_cases hlt3 : k < ja
              · obtain ⟨bx, off, rfl, d0, d1, d2⟩ := R2.out k hlt3
                have e0 := M.out.cell d0
                have e1 := M.out.cell d1
                have e2 := M.out.cell d2
                clear d0 d1 d2
                have HS := hid (LawC.Many.step (pre := [(db, ds, t0), (cb, cs, t0), (bb, bs, LawC.runTo t0 f3 jb), (ab, as_, LawC.runTo t0 f2 ja)]) (post := []) M.out (f2 k))
                go_wp2_with (go_at_call 23; refine HS.out.mono ?_; rintro r w3 ⟨rfl, M2⟩; have M2' := M2.out; rw [← LawC.runTo_succ] at M2'; have M3 := hid M2'; clear M2 M2')
                go_roundg (gk - 1)
                case measure => omega
                case rel => exact ⟨k + 1, by go_num, by omega, M3⟩
              · obtain rfl : k = ja := by omega
                go_wp2_with fail
                obtain ⟨gk2, rfl⟩ : ∃ x, x = gk := ⟨_, rfl⟩
                go_loopg [18] jb (fun f s18 wr => ∃ m, s18 = .int .i64 (m : Nat) ∧ m + f = jb ∧ Hid (LawC.Many w wr [(db, ds, t0), (cb, cs, LawC.runTo t0 f3 m), (bb, bs, LawC.runTo t0 f3 jb), (ab, as_, LawC.runTo t0 f2 k), (w1.heap.size + 1, w1.heap.size, LawC.runTo t0 f2 k)]))
                case atStart => exact ⟨0, rfl, by omega, by rw [LawC.runTo_zero]; exact M⟩
                case round =>
                  clear M
                  obtain ⟨m, rfl, hm, M⟩ := hrel
                  by_cases hlt4 : m < jb
                  · obtain ⟨bx, off, rfl, d0, d1, d2⟩ := R3.out m hlt4
                    have e0 := M.out.cell d0
                    have e1 := M.out.cell d1
                    have e2 := M.out.cell d2
                    clear d0 d1 d2
                    have HS := hid (LawC.Many.step (pre := [(db, ds, t0)]) (post := [(bb, bs, LawC.runTo t0 f3 jb), (ab, as_, LawC.runTo t0 f2 k), (w1.heap.size + 1, w1.heap.size, LawC.runTo t0 f2 k)]) M.out (f3 m))
                    go_wp2_with (go_at_call 23; refine HS.out.mono ?_; rintro r w3 ⟨rfl, M2⟩; have M2' := M2.out; rw [← LawC.runTo_succ] at M2'; have M3 := hid M2'; clear M2 M2')
                    go_roundg (gk - 1)
                    case measure => omega
                    case rel => exact ⟨m + 1, by go_num, by omega, M3⟩
                  · obtain rfl : m = jb := by omega
                    have H5 := hid (LawC.Many.like M.out (b := w1.heap.size + 1) (s := w1.heap.size) (t := LawC.runTo t0 f2 k) (b' := ab) (s' := as_) (t' := LawC.runTo t0 f2 k) (by simp) (by simp) rfl)
                    have H6 := hid (fun (wx : World) (hx : LawC.Many w wx [(db, ds, t0), (cb, cs, LawC.runTo t0 f3 m), (bb, bs, LawC.runTo t0 f3 m), (ab, as_, LawC.runTo t0 f2 k), (w1.heap.size + 1, w1.heap.size, LawC.runTo t0 f2 k)]) => LawC.Many.like hx (b := cb) (s := cs) (t := LawC.runTo t0 f3 m) (b' := bb) (s' := bs) (t' := LawC.runTo t0 f3 m) (by simp) (by simp) rfl)
                    clear M
                    go_wp2_with fail
                    refine H5.out.mono ?_
                    rintro r w3 ⟨rfl, M3⟩
                    go_wp2_with fail
                    refine (H6.out _ M3.out).mono ?_
                    rintro r w4 ⟨rfl, M4⟩
                    go_wp2
                    go_ret
                    exact ⟨rfl, M4.out.bel⟩

set_option maxRecDepth 100000 in
theorem walk (a0 : Int) (a1 a2 a3 : Option Addr) (len1 cap1 len2 cap2 len3 cap3 : Nat) (w : World) (w0 : (Lit.int .i64 a0).wf = true) (w1 : LawC.StepsAt w a1 len1) (w2 : LawC.StepsAt w a2 len2) (w3 : LawC.StepsAt w a3 len3) :
    Calls Try.prog 9 #[.int .i64 a0, .slice a1 len1 cap1, .slice a2 len2 cap2, .slice a3 len3 cap3] w fun e w' => e = .returned (.bool true) ∧ Below w.heap.size w w' := by
  have HK := hid (LawA.known_c w)
  by_cases h0 : a0 < 0
  · clear w0 w1 w2 w3
    go_enter Try.func9, Try.ntmps9
    go_wp2_with (go_at_call 14; refine HK.out.mono ?_; rintro e w1 ⟨rfl, fr0⟩)
    go_ret
    exact ⟨rfl, fr0.below (Nat.le_refl _) (by simp)⟩
  by_cases h1 : 4096 < a0
  · clear w0 w1 w2 w3
    go_enter Try.func9, Try.ntmps9
    go_wp2_with (go_at_call 14; refine HK.out.mono ?_; rintro e w1 ⟨rfl, fr0⟩)
    go_ret
    exact ⟨rfl, fr0.below (Nat.le_refl _) (by simp)⟩
  · obtain ⟨m, rfl⟩ := Int.eq_ofNat_of_zero_le (by omega : 0 ≤ a0)
    exact walkSmall m a1 a2 a3 len1 cap1 len2 cap2 len3 cap3 w (by omega) w1 w2 w3

/-! ### THE ROW's STEP: WRITTEN OUT: LEAVE IT -/
set_option maxRecDepth 100000 in
theorem lifted (os : Os) (started : os.Started) (H : Type) (enc : TypeId × Value → H) :
    ReturnsInHanded {} Try.checked os 9 .any (Rows.indexTwinsSpec.pre6 enc Try.prog Try.f9 Rows.indexTwinsRow.domain false) (Rows.indexTwinsSpec.post enc Try.prog Try.f9 false true false false) := by
  refine returnsInHanded_of_change (C := Try.checked) own started (by kernel_rfl) Try.func9
    (ChangeSpec.witness6 (enc := enc) (C := Try.checked) false ⟨#[], #[.int .i64 0, .slice none 0 0, .slice none 0 0, .slice none 0 0], []⟩ 8 (by kernel_rfl) (by kernel_rfl) (by kernel_rfl) (by kernel_rfl)) ?_
  intro W base args ds gs before hval0 hW hcnd _
  have hval : ∀ (j : Nat) t v, Try.f9.params[j]? = some t → args[j]? = some v → Value.okWide Try.prog W .any base t v := hval0
  have hW' := hW
  obtain ⟨p, q, hA0, hV, rfl, hfz, hnd⟩ := hW
  have hA : DataW.TrodAll enc Try.prog W 0 (fun _ => true) true Try.f9.params.toList args.toList ds p := hA0
  rw [Try.params9] at hA hval
  obtain ⟨v0, vs0, d0, ds0, p0, q0, hargs, rfl, rfl, h0, r0⟩ := trodAll_cons hA
  obtain ⟨v1, vs1, d1, ds1, p1, q1, rfl, rfl, rfl, h1, r1⟩ := trodAll_cons r0
  obtain ⟨v2, vs2, d2, ds2, p2, q2, rfl, rfl, rfl, h2, r2⟩ := trodAll_cons r1
  obtain ⟨v3, vs3, d3, ds3, p3, q3, rfl, rfl, rfl, h3, r3⟩ := trodAll_cons r2
  obtain ⟨rfl, rfl, rfl⟩ := trodAll_nil r3
  obtain rfl : args = #[v0, v1, v2, v3] := by cases args; simp_all
  obtain ⟨rfl, rfl⟩ := trodVars_none hV
  obtain ⟨a0, rfl, rfl, rfl, w0⟩ := open_int Try.underlying3 (hval 0 3 v0 rfl rfl) h0
  obtain ⟨a1, len1, cap1, rfl⟩ := okWide_slice Try.underlying40 (hval 1 40 v1 rfl rfl)
  obtain ⟨a2, len2, cap2, rfl⟩ := okWide_slice Try.underlying40 (hval 2 40 v2 rfl rfl)
  obtain ⟨a3, len3, cap3, rfl⟩ := okWide_slice Try.underlying40 (hval 3 40 v3 rfl rfl)
  have k1 := h1
  have lt1 : ∀ x ∈ p1, x.block < W.heap.size := by obtain ⟨m, hm⟩ := k1; exact DataW.trod_lt m _ _ _ hm
  have w1 : LawC.StepsAt W a1 len1 := by
    obtain ⟨fuel, hf⟩ := h1
    exact LawC.open_steps Try.underlying40 Try.underlying46 (by kernel_rfl) (by kernel_rfl) Try.underlying3 Try.underlying3 Try.underlying30 hf
  have k2 := h2
  have lt2 : ∀ x ∈ p2, x.block < W.heap.size := by obtain ⟨m, hm⟩ := k2; exact DataW.trod_lt m _ _ _ hm
  have w2 : LawC.StepsAt W a2 len2 := by
    obtain ⟨fuel, hf⟩ := h2
    exact LawC.open_steps Try.underlying40 Try.underlying46 (by kernel_rfl) (by kernel_rfl) Try.underlying3 Try.underlying3 Try.underlying30 hf
  have k3 := h3
  have lt3 : ∀ x ∈ p3, x.block < W.heap.size := by obtain ⟨m, hm⟩ := k3; exact DataW.trod_lt m _ _ _ hm
  have w3 : LawC.StepsAt W a3 len3 := by
    obtain ⟨fuel, hf⟩ := h3
    exact LawC.open_steps Try.underlying40 Try.underlying46 (by kernel_rfl) (by kernel_rfl) Try.underlying3 Try.underlying3 Try.underlying30 hf
  clear hA0 hval0
  refine (walk a0 a1 a2 a3 len1 cap1 len2 cap2 len3 cap3 W w0 w1 w2 w3).mono fun e W' ⟨he, bel⟩ => ?_
  subst he
  exact ⟨_, rfl, _, _, _, [], _, [], hW', trodAll_mk1 (shut_bool Try.underlying4 _), (trodAll_cons_mk (shut_int Try.underlying3 w0) (trodAll_cons_mk (Below.trod laidOut (by kernel_rfl) (of_decide_eq_true (by kernel_rfl)) k1 bel lt1) (trodAll_cons_mk (Below.trod laidOut (by kernel_rfl) (of_decide_eq_true (by kernel_rfl)) k2 bel lt2) (trodAll_cons_mk (Below.trod laidOut (by kernel_rfl) (of_decide_eq_true (by kernel_rfl)) k3 bel lt3) trodAll_mk0)))), rfl, bel.frame _, fun h => by cases h⟩

theorem over : Rows.indexTwinsRow.holds Try.pinned (OpenSpec.ofChange Rows.indexTwinsSpec) :=
  OpenClaim.holds_of_wide 9 Try.f9 rfl rfl rfl rfl rfl rfl rfl ⟨rfl, rfl, rfl, rfl, rfl⟩ rfl rfl rfl rfl rfl (by kernel_rfl) Try.func9 (by kernel_rfl)
    (of_decide_eq_true (by kernel_rfl)) (by unfold Func.isWrapper; first | (rw [if_pos (by decide +kernel)]; kernel_rfl) | (rw [if_neg (by decide +kernel)]; exact ⟨rfl, rfl⟩))
    (fun os started H enc _ => lifted os started H enc)

/-- ████ THE STATEMENT ████ -/
theorem proved : Rows.IndexTwinsSaid := over
end Go.Proofs.Ytcieieljgmkjmaa.indexTwins
