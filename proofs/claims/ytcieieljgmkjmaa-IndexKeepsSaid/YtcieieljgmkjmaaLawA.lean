/- The index's laws: what they share. -/
import Derived.Test.YtcieieljgmkjmaaIdxB
import Derived.Test.YtcieieljgmkjmaaIdxG
import Derived.Test.YtcieieljgmkjmaaIdxD
import Derived.Test.YtcieieljgmkjmaaRefC
set_option linter.unusedVariables false
namespace Go.Proofs.Ytcieieljgmkjmaa.LawA
open Go.RowKit Winnow

set_option maxHeartbeats 400000 in
theorem news_out (w : World) : Calls Try.prog 32 #[.int .i64 (-1)] w fun e w' => e = .returned (.tuple #[.pointer none, .int .i64 1]) ∧ w = w' := by
  go_enter Try.func32, Try.ntmps32
  go_wp2
  go_ret2
  exact ⟨rfl, rfl⟩

theorem fit3 : Fit 3 8 3 := ⟨⟨rfl, by omega, by omega⟩, by omega, .inr (by omega)⟩
def E0 : Tb Value := fun _ => none
theorem find0 : find 8 E0 1 = 4 := by decide +kernel
def S1 : Tb Value := putAt 8 E0 1 (.int .i64 7)
theorem S1_eq (i : Nat) : S1 i = if i = 4 then some (1, .int .i64 7) else none := by
  unfold S1; rw [putAt_find (e := 0) (by omega) rfl, find0]; rfl
theorem find1 : find 8 S1 1 = 4 := by decide +kernel
theorem find2 : find 8 S1 2 = 1 := by decide +kernel
theorem home1 : home 8 1 = 4 := by decide +kernel

set_option maxRecDepth 100000 in
set_option maxHeartbeats 800000 in
theorem known_c (w : World) : Calls Try.prog 14 #[] w fun e w' => e = .returned (.bool true) ∧ Frm [] w w' := by
  have H1 := hid (IdxI.new_c 3 w (by omega))
  have H2 := hid (fun wx => news_out wx)
  go_enter Try.func14, Try.ntmps14
  go_wp2_with (first | (go_at_call 10; refine H1.out.mono ?_; rintro e w1 ⟨rfl, n, e, F, I, fr, hsz⟩) | (go_at_call 32; refine (H2.out _).mono ?_; rintro e w2 ⟨rfl, rfl⟩))
  obtain rfl : n = 8 := F.uniq fit3
  have hg : Geo 8 3 := fit3.geo
  have HP := hid (IdxI.put_new I hg (em := 0) (by omega) rfl 1 7 (by omega) (by omega) rfl)
  refine HP.out.mono ?_
  rintro r w2 ⟨rfl, fr2, I2⟩
  have I2' : IdxAt w2 (w.heap.size + 1) w.heap.size 3 (0 + 1) 8 (conc (.int .i64 0) S1) := I2
  have hG1 := hid (fun (wx : World) (hx : IdxAt wx (w.heap.size + 1) w.heap.size 3 (0 + 1) 8 (conc (.int .i64 0) S1)) => IdxI.get_c hx hg (em := 0) (by omega) (by rw [S1_eq]; rfl) 1)
  have hS1 := hid (fun (wx : World) (hx : IdxAt wx (w.heap.size + 1) w.heap.size 3 (0 + 1) 8 (conc (.int .i64 0) S1)) => IdxI.slot_c hx hg (em := 0) (by omega) (by rw [S1_eq]; rfl) 1)
  have hG2 := hid (fun (wx : World) (hx : IdxAt wx (w.heap.size + 1) w.heap.size 3 (0 + 1) 8 (conc (.int .i64 0) S1)) => IdxI.get_c hx hg (em := 0) (by omega) (by rw [S1_eq]; rfl) 2)
  rw [find1, show conc (.int .i64 0) S1 4 = (true, 1, .int .i64 7) from by unfold conc; rw [S1_eq]; rfl] at hG1 hS1
  rw [find2, show conc (.int .i64 0) S1 1 = (false, 0, .int .i64 0) from by unfold conc; rw [S1_eq]; rfl] at hG2
  have hFr : Hid (Frm [] w w2) := hid (((fr.mono (T := [w.heap.size + 1, w.heap.size]) (by simp)).trans fr2).strip (T := []) (fun k hk => by simp at hk; right; omega))
  have hL := hid (fun (wx : World) (hx : IdxAt wx (w.heap.size + 1) w.heap.size 3 (0 + 1) 8 (conc (.int .i64 0) S1)) => IdxI.len_c hx)
  have hSl := hid (fun (wx : World) (hx : IdxAt wx (w.heap.size + 1) w.heap.size 3 (0 + 1) 8 (conc (.int .i64 0) S1)) => IdxI.slots_c hx)
  have hH := hid (fun (wx : World) (hx : IdxAt wx (w.heap.size + 1) w.heap.size 3 (0 + 1) 8 (conc (.int .i64 0) S1)) => IdxI.home_c hx.c2.choose_spec hg 1)
  rw [home1] at hH
  have HI := hid I2'
  clear I2 I2' I F fr fr2 H1 HP hsz hg
  go_wp2_with (first
    | (go_at_call 32; refine (H2.out _).mono ?_; rintro e w3 ⟨rfl, rfl⟩)
    | fail)
  refine (hG1.out _ HI.out).mono ?_
  rintro e w3 ⟨rfl, m1, rfl⟩
  go_wp2_with fail
  refine (hS1.out _ (HI.out.drewN _)).mono ?_
  rintro e w3 ⟨rfl, m2, rfl⟩
  go_wp2_with fail
  refine (hG2.out _ (HI.out.drewN _)).mono ?_
  rintro e w3 ⟨rfl, m3, rfl⟩
  go_wp2_with fail
  refine (hSl.out _ (HI.out.drewN _)).mono ?_
  rintro e w3 ⟨rfl, rfl⟩
  go_wp2_with fail
  refine (hH.out _ (HI.out.drewN _)).mono ?_
  rintro e w3 ⟨rfl, rfl⟩
  go_wp2_with fail
  refine (hL.out _ (HI.out.drewN _)).mono ?_
  rintro e w3 ⟨rfl, rfl⟩
  go_wp2_with fail
  go_ret
  exact ⟨rfl, hFr.out.drewN _⟩

set_option maxHeartbeats 400000 in
theorem both_no (most : Int) (w : World) (h : most < 0 ∨ 4096 < most) :
    Calls Try.prog 15 #[.int .i64 most] w fun e w' => e = .returned (.tuple #[.pointer none, .pointer none, .bool true]) ∧ w = w' := by
  by_cases h1 : 4096 < most ∧ most ≤ 4194304
  · obtain ⟨h2, h3⟩ := h1
    clear h
    go_enter Try.func15, Try.ntmps15
    go_wp2
    go_ret3
    exact ⟨rfl, rfl⟩
  · have H1 := hid (IdxI.new_out most w (by omega))
    have H2 := hid (Ref.new_out most w (by omega))
    by_cases h4 : most < 0
    · clear h h1
      go_enter Try.func15, Try.ntmps15
      go_wp2_with (first | (go_at_call 10; refine H1.out.mono ?_; rintro e w1 ⟨rfl, rfl⟩) | (go_at_call 35; refine H2.out.mono ?_; rintro e w1 ⟨rfl, rfl⟩))
      go_ret3
      exact ⟨rfl, rfl⟩
    · have h5 : 4194304 < most := by omega
      have h6 : 4096 < most := by omega
      clear h h1 h4
      go_enter Try.func15, Try.ntmps15
      go_wp2_with (first | (go_at_call 10; refine H1.out.mono ?_; rintro e w1 ⟨rfl, rfl⟩) | (go_at_call 35; refine H2.out.mono ?_; rintro e w1 ⟨rfl, rfl⟩))
      go_ret3
      exact ⟨rfl, rfl⟩

/-- Both made. -/
def Both (w : World) (most : Nat) (r : Ending) (w' : World) : Prop :=
  r = .returned (.tuple #[.pointer (some ⟨w.heap.size + 1, 0, none⟩), .pointer (some ⟨w.heap.size + 2, 0, none⟩), .bool true]) ∧ ∃ n e, Fit most n e ∧
    IdxAt w' (w.heap.size + 1) w.heap.size most 0 n (conc (.int .i64 0) fun _ => none) ∧ RefAt w' (w.heap.size + 2) (w.heap.size + 2 + 1) (w.heap.size + 2 + 2) (w.heap.size + 2 + 3) most e 0 n (fun _ => (false, 0, 0)) ∧ Frm [] w w'

set_option maxHeartbeats 400000 in
theorem both_yes (most : Nat) (w : World) (h : most ≤ 4096) : Calls Try.prog 15 #[.int .i64 most] w (Both w most) := by
  have H1 := hid (IdxI.new_c most w (by omega))
  have H2 := hid (fun wx => Ref.new_c most wx (by omega))
  go_enter Try.func15, Try.ntmps15
  go_wp2_with (go_at_call 10; refine H1.out.mono ?_; rintro e w1 ⟨rfl, n, e, F, I, fr, hsz⟩)
  refine (H2.out _).mono ?_
  rintro r w2 ⟨rfl, n', e', F', I', fr', hsz'⟩
  obtain rfl : n' = n := F'.uniq F
  rw [hsz] at I' ⊢
  have hfin : Hid (∃ n e, Fit most n e ∧ IdxAt w2 (w.heap.size + 1) w.heap.size most 0 n (conc (.int .i64 0) fun _ => none) ∧ RefAt w2 (w.heap.size + 2) (w.heap.size + 2 + 1) (w.heap.size + 2 + 2) (w.heap.size + 2 + 3) most e 0 n (fun _ => (false, 0, 0)) ∧ Frm [] w w2) :=
    hid ⟨n', e', F', I.frm fr' (by simp) (by simp), I', fr.trans fr'⟩
  clear I I' F F' fr fr' hsz hsz' H1 H2
  go_wp2
  go_ret3
  exact ⟨rfl, hfin.out⟩

end Go.Proofs.Ytcieieljgmkjmaa.LawA
