/- THE WALKS over the program's index at values of type []int: put, get, slot. -/
import Derived.Test.YtcieieljgmkjmaaJdxA
set_option linter.unusedVariables false
namespace Go.Proofs.Ytcieieljgmkjmaa.IdxJ
open Go.RowKit Winnow

set_option maxHeartbeats 800000 in
theorem slot_c {w : World} {b s most count n e : Nat} {z : Value} {S : Tb Value} (h : IdxAt w b s most count n (conc z S)) (g : Geo n e) {em : Nat} (hem : em < n) (hemp : S em = none) (key : Nat) :
    Calls Try.prog 41 #[.pointer (some ⟨b, 0, none⟩), .int .u64 key] w fun r w' =>
      r = .returned (.tuple #[.int .i64 (if (conc z S (find n S key)).1 then (find n S key : Nat) else 0 : Nat), .bool (conc z S (find n S key)).1]) ∧ ∃ m, w' = w.drewN m := by
  have hs := g.small
  have hp := g.pos
  have hq := find_lt g.pos S key
  have H1 := hid (find_c h g hem hemp key)
  generalize find n S key = q at hq H1 ⊢
  generalize hcq : (conc z S q).1 = cq at H1 ⊢
  clear h g hcq
  cases cq
  all_goals
    go_enter Try.func41, Try.ntmps41
    go_wp2_with (go_at_call 36; refine H1.out.mono ?_; rintro e w' ⟨rfl, m, rfl⟩)
    go_ret2
    exact ⟨rfl, _, rfl⟩

set_option maxHeartbeats 800000 in
theorem put_zero {w : World} {b s count n : Nat} {D : Nat → Bool × Nat × Value} (h : IdxAt w b s 0 count n D) (key : Nat) (v : SV) :
    Calls Try.prog 18 #[.pointer (some ⟨b, 0, none⟩), .int .u64 key, .slice v.1 v.2.1 v.2.2] w fun r w' => r = .returned (.int .i64 3) ∧ w = w' := by
  have h0 := h.c0
  clear h
  go_enter Try.func18, Try.ntmps18
  go_wp2
  go_ret
  exact ⟨rfl, rfl⟩

/-- There: its place is written. -/
theorem put_old {w : World} {b s most count n e : Nat} {z : Value} {S : Tb Value} (h : IdxAt w b s most count n (conc z S)) (g : Geo n e) {em : Nat} (hem : em < n) (hemp : S em = none) (key : Nat) (v : SV)
    (hm : most ≠ 0) (ht : S (find n S key) ≠ none) :
    Calls Try.prog 18 #[.pointer (some ⟨b, 0, none⟩), .int .u64 key, .slice v.1 v.2.1 v.2.2] w fun r w' => r = .returned (.int .i64 0) ∧ Frm [b, s] w w' ∧ IdxAt w' b s most count n (conc z (putAt n S key (.slice v.1 v.2.1 v.2.2))) := by
  have hs := g.small
  have hp := g.pos
  have hq := find_lt g.pos S key
  have hres : ∀ m, Frm [b, s] w ((((w.drewN m).setCell ⟨s, find n S key * 3, none⟩ (.bool true)).setCell ⟨s, find n S key * 3 + 1, none⟩ (.int .u64 key)).setCell ⟨s, find n S key * 3 + 2, none⟩ (.slice v.1 v.2.1 v.2.2)) ∧
      IdxAt ((((w.drewN m).setCell ⟨s, find n S key * 3, none⟩ (.bool true)).setCell ⟨s, find n S key * 3 + 1, none⟩ (.int .u64 key)).setCell ⟨s, find n S key * 3 + 2, none⟩ (.slice v.1 v.2.1 v.2.2)) b s most count n (conc z (putAt n S key (.slice v.1 v.2.1 v.2.2))) := by
    intro m
    refine ⟨((Frm.refl _ w).drewN m).setSlot (by simp) _ _ _, ?_⟩
    unfold putAt; rw [conc_upd]
    exact (h.drewN m).setSlot hq true key (.slice v.1 v.2.1 v.2.2)
  have hcq : (conc z S (find n S key)).1 = true := by unfold conc; cases hx : S (find n S key) with | none => exact absurd hx ht | some _ => rfl
  have H1 := hid (find_c h g hem hemp key)
  rw [hcq] at H1
  have HR := hid hres
  clear hres hcq ht
  generalize find n S key = q at hq H1 HR ⊢
  generalize putAt n S key (.slice v.1 v.2.1 v.2.2) = S' at HR ⊢
  have d0 := h.k0 q hq
  have d1 := h.k1 q hq
  have d2 := h.k2 q hq
  have h0 := h.c0
  have h1 := h.c1
  obtain ⟨cp, h2⟩ := h.c2
  have fs : ∀ o, w.frozen? ⟨s, o, none⟩ = false := h.fs
  have hm' : ((most : Int) == 0) = false := by simp [hm]
  clear h g hemp hm
  go_enter Try.func18, Try.ntmps18
  go_wp2_with (go_at_call 36; refine H1.out.mono ?_; rintro e w' ⟨rfl, m, rfl⟩)
  go_ret
  exact ⟨rfl, HR.out m⟩

theorem put_full {w : World} {b s most n e : Nat} {z : Value} {S : Tb Value} (h : IdxAt w b s most most n (conc z S)) (g : Geo n e) {em : Nat} (hem : em < n) (hemp : S em = none) (key : Nat) (v : SV)
    (hm : most ≠ 0) (ht : S (find n S key) = none) :
    Calls Try.prog 18 #[.pointer (some ⟨b, 0, none⟩), .int .u64 key, .slice v.1 v.2.1 v.2.2] w fun r w' => r = .returned (.int .i64 3) ∧ ∃ m, w' = w.drewN m := by
  have hs := g.small
  have hp := g.pos
  have hq := find_lt g.pos S key
  have hcq : (conc z S (find n S key)).1 = false := by unfold conc; rw [ht]
  have H1 := hid (find_c h g hem hemp key)
  rw [hcq] at H1
  clear hcq ht
  generalize find n S key = q at hq H1 ⊢
  have h0 := h.c0
  have h1 := h.c1
  have hm' : ((most : Int) == 0) = false := by simp [hm]
  clear h g hemp hm
  go_enter Try.func18, Try.ntmps18
  go_wp2_with (go_at_call 36; refine H1.out.mono ?_; rintro e w' ⟨rfl, m, rfl⟩)
  go_quiet (fail)
  go_wp2
  go_ret
  exact ⟨rfl, _, World.drewN_drewN _ _ _⟩

theorem put_new {w : World} {b s most count n e : Nat} {z : Value} {S : Tb Value} (h : IdxAt w b s most count n (conc z S)) (g : Geo n e) {em : Nat} (hem : em < n) (hemp : S em = none) (key : Nat) (v : SV)
    (hm : count < most) (hmn : most ≤ n) (ht : S (find n S key) = none) :
    Calls Try.prog 18 #[.pointer (some ⟨b, 0, none⟩), .int .u64 key, .slice v.1 v.2.1 v.2.2] w fun r w' => r = .returned (.int .i64 0) ∧ Frm [b, s] w w' ∧ IdxAt w' b s most (count + 1) n (conc z (putAt n S key (.slice v.1 v.2.1 v.2.2))) := by
  have hs := g.small
  have hp := g.pos
  have hq := find_lt g.pos S key
  have hres : ∀ m, Frm [b, s] w (((((w.drewN m).setCell ⟨b, 1, none⟩ (.int .i64 ((count : Int) + 1))).setCell ⟨s, find n S key * 3, none⟩ (.bool true)).setCell ⟨s, find n S key * 3 + 1, none⟩ (.int .u64 key)).setCell ⟨s, find n S key * 3 + 2, none⟩ (.slice v.1 v.2.1 v.2.2)) ∧
      IdxAt (((((w.drewN m).setCell ⟨b, 1, none⟩ (.int .i64 ((count : Int) + 1))).setCell ⟨s, find n S key * 3, none⟩ (.bool true)).setCell ⟨s, find n S key * 3 + 1, none⟩ (.int .u64 key)).setCell ⟨s, find n S key * 3 + 2, none⟩ (.slice v.1 v.2.1 v.2.2)) b s most (count + 1) n (conc z (putAt n S key (.slice v.1 v.2.1 v.2.2))) := by
    intro m
    refine ⟨(((Frm.refl _ w).drewN m).setCell (by simp) _).setSlot (by simp) _ _ _, ?_⟩
    unfold putAt; rw [conc_upd]
    exact ((h.drewN m).setCount (count + 1)).setSlot hq true key (.slice v.1 v.2.1 v.2.2)
  have hcq : (conc z S (find n S key)).1 = false := by unfold conc; rw [ht]
  have H1 := hid (find_c h g hem hemp key)
  rw [hcq] at H1
  have HR := hid hres
  clear hres hcq ht
  generalize find n S key = q at hq H1 HR ⊢
  generalize putAt n S key (.slice v.1 v.2.1 v.2.2) = S' at HR ⊢
  have d0 := h.k0 q hq
  have d1 := h.k1 q hq
  have d2 := h.k2 q hq
  have h0 := h.c0
  have h1 := h.c1
  obtain ⟨cp, h2⟩ := h.c2
  have hne := h.ne
  have fs : ∀ o, w.frozen? ⟨s, o, none⟩ = false := h.fs
  have fb : ∀ o, w.frozen? ⟨b, o, none⟩ = false := h.fb
  have hm' : ((most : Int) == 0) = false := by simp; omega
  have hm'' : ((count : Int) == (most : Int)) = false := by simp; omega
  clear h g hemp
  go_enter Try.func18, Try.ntmps18
  go_wp2_with (go_at_call 36; refine H1.out.mono ?_; rintro e w' ⟨rfl, m, rfl⟩)
  go_quiet (fail)
  go_wp2
  go_ret
  exact ⟨rfl, HR.out _⟩
end Go.Proofs.Ytcieieljgmkjmaa.IdxJ
