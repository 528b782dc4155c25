/- IndexSlots: an index of any size: its places, and the home of every key. No condition. -/
import Derived.Test.YtcieieljgmkjmaaRows
import Derived.WalkKit
import Derived.ProofKit
import Derived.OpenShut
import Derived.ShutString
import Derived.ChangeOld
import Derived.Below
import Derived.Test.YtcieieljgmkjmaaIdxD
namespace Go.Proofs.Ytcieieljgmkjmaa.indexSlots
open Go.ChangeShapes Go.WideShapes Go.ChangeAt Go.RowKit Winnow
open Go.ChangeMaps (open_string shut_string)
set_option linter.unusedVariables false

theorem own : ownKnob Try.prog.godebug = none := by kernel_rfl
theorem laidOut : laidOutB Try.prog = true := by kernel_rfl

theorem walkSmall (most : Nat) (a1 : Option Addr) (len1 cap1 : Nat) (z1 : List Int) (w : World) (hn : most ≤ 4194304) (w1 : IsRow .u64 w a1 len1 cap1 z1) :
    Calls Try.prog 4 #[.int .i64 most, .slice a1 len1 cap1] w fun e w' => e = .returned (.bool true) ∧ Below w.heap.size w w' := by
  have HN := hid (IdxI.new_c most w hn)
  have HR := hid w1
  clear w1
  go_enter Try.func4, Try.ntmps4
  go_wp2_with (go_at_call 10; refine HN.out.mono ?_; rintro e w1 ⟨rfl, n, ee, F, I, fr, hsz⟩)
  have Hl := hid (IdxI.len_c I)
  have Hs := hid (IdxI.slots_c I)
  obtain ⟨cp, hc2⟩ := I.c2
  have c2 := hid hc2
  clear hc2
  have HB := hid (fr.below (Nat.le_refl _) (by simp))
  have HF := hid F
  have hp := F.geo.pos
  have hsm := F.geo.small
  have hle := F.geo.le
  have hge := F.geo.ge
  have f1 := F.ge
  have f2 : 2 ≤ n := by rw [F.geo.n]; exact Nat.pow_le_pow_right (n := 2) (by decide) hle
  have f3 : n ≤ 2 ∨ (2 < n ∧ n / 2 < 2 * most) := by have := F.lt; omega
  clear HN I fr F hsz
  go_wp2_with (first | (go_at_call 11; refine Hl.out.mono ?_; rintro e w' ⟨rfl, rfl⟩) | (go_at_call 12; refine Hs.out.mono ?_; rintro e w' ⟨rfl, rfl⟩))
  clear Hl Hs
  go_loopg [8] 64 (fun f s8 wr => w1 = wr ∧ ∃ j : Nat, s8 = .int .i64 j ∧ j + f = 64 ∧ j ≤ ee)
  case atStart => exact ⟨rfl, 0, rfl, rfl, by omega⟩
  case round =>
    obtain ⟨rfl, j, rfl, hf, hj⟩ := hrel
    obtain ⟨p, hp2, hpw⟩ : ∃ p : Nat, 2 ^ j = p ∧ wrap64 ((2 : Int) ^ j) = (p : Int) := by
      refine ⟨_, rfl, ?_⟩
      have : 2 ^ j ≤ 2 ^ 40 := Nat.pow_le_pow_right (by decide) (by omega)
      have e : ((2 : Int) ^ j) = ((2 ^ j : Nat) : Int) := by rw [Int.natCast_pow]; rfl
      rw [e]
      generalize 2 ^ j = q at this
      exact IntWalk.wrap64_in _ ⟨by omega, by omega⟩
    by_cases hje : j < ee
    · have : p < n := by rw [← hp2, HF.out.geo.n]; exact Nat.pow_lt_pow_right (by decide) hje
      clear hp2 f1 f2 f3
      go_wp2
      go_roundg (gk - 1)
      case measure => omega
      case rel => exact ⟨rfl, j + 1, by go_num, by omega, by omega⟩
    · obtain rfl : j = ee := by omega
      obtain rfl : p = n := by rw [← hp2, HF.out.geo.n]
      clear hp2 hje hf
      rcases f3 with h3 | ⟨h3, h4⟩
      all_goals
        go_wp2
        go_loopg [9] len1 (fun f s9 wr => ∃ (i q : Nat), s9 = .int .i64 i ∧ i + f = len1 ∧ Hid (wr = w1.drewN q))
        case atStart => exact ⟨0, 0, rfl, by omega, rfl⟩
        case round =>
          obtain ⟨i, q, rfl, hi, hq⟩ := hrel
          have HBr : Hid (Below w.heap.size w wr) := by rw [hq.out]; exact HB.out.trans (below_dn _ _ _)
          have c2r : wr.cell? ⟨w.heap.size + 1, 2, none⟩ = some (.slice (some ⟨w.heap.size, 0, none⟩) p cp) := by rw [hq.out]; exact c2.out
          by_cases hlt : i < len1
          · obtain ⟨bx, off, rfl, k, hcell⟩ := row_at HR.out HBr.out i hlt
            have hlm : len1 ≤ 9223372036854775807 := row_len HR.out
            have Hho := hid (fun (wx : World) (hx : wx.cell? ⟨w.heap.size + 1, 2, none⟩ = some (.slice (some ⟨w.heap.size, 0, none⟩) p cp)) => IdxI.home_c hx HF.out.geo k)
            have hsh : IntKind.u64.wrap ((k : Int) * 11400714819323198485) / 2 ^ (64 - j) = ((home p k : Nat) : Int) := by
              rw [← home_shift HF.out.geo, IntKind.wrap_u64, Int.natCast_ediv, Int.natCast_emod, Int.natCast_mul, Int.natCast_pow]; rfl
            have hhl := home_lt hp k
            generalize home p k = hm at *
            go_wp2
            go_quiet ((go_at_call 13; exact quietS (Hho.out _ c2r)))
            go_wp2
            go_roundg (gk - 1)
            case measure => omega
            case rel => exact ⟨i + 1, q + nq, by go_num, by omega, by rw [hq.out]; exact World.drewN_drewN _ _ _⟩
          · have hge' : len1 ≤ i := by omega
            go_wp2
            go_ret
            exact ⟨rfl, HBr.out⟩

theorem walk (a0 : Int) (a1 : Option Addr) (len1 cap1 : Nat) (z1 : List Int) (w : World) (w0 : (Lit.int .i64 a0).wf = true) (w1 : IsRow .u64 w a1 len1 cap1 z1) :
    Calls Try.prog 4 #[.int .i64 a0, .slice a1 len1 cap1] w fun e w' => e = .returned (.bool true) ∧ Below w.heap.size w w' := by
  by_cases h : a0 < 0 ∨ 4194304 < a0
  · have HN := hid (IdxI.new_out a0 w h)
    by_cases h0 : a0 < 0
    · clear h w0 w1
      go_enter Try.func4, Try.ntmps4
      go_wp2_with (go_at_call 10; refine HN.out.mono ?_; rintro e w1 ⟨rfl, rfl⟩)
      go_ret
      exact ⟨rfl, Below.refl _ _⟩
    · have h1 : 4194304 < a0 := by omega
      clear h w0 w1
      go_enter Try.func4, Try.ntmps4
      go_wp2_with (go_at_call 10; refine HN.out.mono ?_; rintro e w1 ⟨rfl, rfl⟩)
      go_ret
      exact ⟨rfl, Below.refl _ _⟩
  · obtain ⟨m, rfl⟩ := Int.eq_ofNat_of_zero_le (by omega : 0 ≤ a0)
    exact walkSmall m a1 len1 cap1 z1 w (by omega) w1

/-! ### THE ROW's STEP: WRITTEN OUT: LEAVE IT -/
set_option maxRecDepth 100000 in
theorem lifted (os : Os) (started : os.Started) (H : Type) (enc : TypeId × Value → H) :
    ReturnsInHanded {} Try.checked os 4 .any (Rows.indexSlotsSpec.pre6 enc Try.prog Try.f4 Rows.indexSlotsRow.domain false) (Rows.indexSlotsSpec.post enc Try.prog Try.f4 false true false false) := by
  refine returnsInHanded_of_change (C := Try.checked) own started (by kernel_rfl) Try.func4
    (ChangeSpec.witness6 (enc := enc) (C := Try.checked) false ⟨#[], #[.int .i64 0, .slice none 0 0], []⟩ 8 (by kernel_rfl) (by kernel_rfl) (by kernel_rfl) (by kernel_rfl)) ?_
  intro W base args ds gs before hval0 hW hcnd _
  have hval : ∀ (j : Nat) t v, Try.f4.params[j]? = some t → args[j]? = some v → Value.okWide Try.prog W .any base t v := hval0
  have hW' := hW
  obtain ⟨p, q, hA0, hV, rfl, hfz, hnd⟩ := hW
  have hA : DataW.TrodAll enc Try.prog W 0 (fun _ => true) true Try.f4.params.toList args.toList ds p := hA0
  rw [Try.params4] at hA hval
  obtain ⟨v0, vs0, d0, ds0, p0, q0, hargs, rfl, rfl, h0, r0⟩ := trodAll_cons hA
  obtain ⟨v1, vs1, d1, ds1, p1, q1, rfl, rfl, rfl, h1, r1⟩ := trodAll_cons r0
  obtain ⟨rfl, rfl, rfl⟩ := trodAll_nil r1
  obtain rfl : args = #[v0, v1] := by cases args; simp_all
  obtain ⟨rfl, rfl⟩ := trodVars_none hV
  obtain ⟨a0, rfl, rfl, rfl, w0⟩ := open_int Try.underlying3 (hval 0 3 v0 rfl rfl) h0
  obtain ⟨a1, len1, cap1, rfl⟩ := okWide_slice Try.underlying23 (hval 1 23 v1 rfl rfl)
  have k1 := h1
  have lt1 : ∀ x ∈ p1, x.block < W.heap.size := by obtain ⟨m, hm⟩ := k1; exact DataW.trod_lt m _ _ _ hm
  obtain ⟨z1, w1⟩ : ∃ zs, IsRow .u64 W a1 len1 cap1 zs := by
    obtain ⟨fuel, hf⟩ := h1
    rcases open_ints Try.underlying23 Try.underlying30 (by kernel_rfl) hf with ⟨hcs, _⟩ | ⟨x, l, c, zs, hcs, _, hl, hm, hz, _, hcell, hwz⟩
    · simp [Value.cells] at hcs
      obtain ⟨rfl, rfl, rfl⟩ := hcs
      exact ⟨[], .inl ⟨rfl, rfl, rfl, rfl⟩⟩
    · simp [Value.cells] at hcs
      obtain ⟨rfl, rfl, rfl⟩ := hcs
      exact ⟨zs, .inr ⟨_, rfl, hl, hm, by simpa using hz, hcell, hwz⟩⟩
  clear hA0 hval0
  refine (walk a0 a1 len1 cap1 z1 W w0 w1).mono fun e W' ⟨he, bel⟩ => ?_
  subst he
  exact ⟨_, rfl, _, _, _, [], _, [], hW', trodAll_mk1 (shut_bool Try.underlying4 _), (trodAll_cons_mk (shut_int Try.underlying3 w0) (trodAll_cons_mk (Below.trod laidOut (by kernel_rfl) (of_decide_eq_true (by kernel_rfl)) k1 bel lt1) trodAll_mk0)), rfl, bel.frame _, fun h => by cases h⟩

theorem over : Rows.indexSlotsRow.holds Try.pinned (OpenSpec.ofChange Rows.indexSlotsSpec) :=
  OpenClaim.holds_of_wide 4 Try.f4 rfl rfl rfl rfl rfl rfl rfl ⟨rfl, rfl, rfl, rfl, rfl⟩ rfl rfl rfl rfl rfl (by kernel_rfl) Try.func4 (by kernel_rfl)
    (of_decide_eq_true (by kernel_rfl)) (by unfold Func.isWrapper; first | (rw [if_pos (by decide +kernel)]; kernel_rfl) | (rw [if_neg (by decide +kernel)]; exact ⟨rfl, rfl⟩))
    (fun os started H enc _ => lifted os started H enc)

/-- ████ THE STATEMENT ████ -/
theorem proved : Rows.IndexSlotsSaid := over
end Go.Proofs.Ytcieieljgmkjmaa.indexSlots
