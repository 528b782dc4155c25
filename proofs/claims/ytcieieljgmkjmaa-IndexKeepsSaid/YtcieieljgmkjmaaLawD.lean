/- The index's laws: the other steps. -/
import Derived.Test.YtcieieljgmkjmaaLawC
import Derived.BigQuiet
set_option linter.unusedVariables false
namespace Go.Proofs.Ytcieieljgmkjmaa.LawC
open Go.RowKit Winnow
variable {n count most e : Nat} {S : Tb Value} {w : World} {b s rb rx rk rv : Nat}

theorem End2.drewN {w1 wx : World} (h : End2 w1 b s rb rx rk rv most count n e S wx) (m : Nat) : End2 w1 b s rb rx rk rv most count n e S (wx.drewN m) := by
  obtain ⟨f0, D, i, r, p⟩ := h
  exact ⟨f0.drewN m, D, i.drewN m, r.drewN m, p⟩

set_option maxRecDepth 100000 in
set_option maxHeartbeats 1000000 in
theorem told_get (T : TabOk n count most e S) (h : Two w b s rb rx rk rv most count n e S) (N : Int) (key : Nat) :
    Calls Try.prog 28 #[.pointer (some ⟨b, 0, none⟩), .pointer (some ⟨rb, 0, none⟩), .agg #[.int .i64 2, .int .i64 N, .int .u64 key]] w (Told w b s rb rx rk rv most n e) := by
  obtain ⟨v, ok, hI, hR⟩ := get_two T key
  obtain ⟨w1, hw1⟩ : ∃ w1, w1 = w.alloc (.cells #[.int .i64 2, .int .i64 N, .int .u64 key] 46) := ⟨_, rfl⟩
  have h0 : End2 w1 b s rb rx rk rv most count n e S w1 := ⟨Frm.refl _ _, by rw [hw1]; exact h.alloc _⟩
  have C1 : Hid (∀ wx, End2 w1 b s rb rx rk rv most count n e S wx → Calls Try.prog 33 #[.pointer (some ⟨b, 0, none⟩), .int .u64 key] wx fun r w2 =>
      r = .returned (.tuple #[.int .i64 v, .bool ok]) ∧ Cells2 w.heap.size N key w2 ∧ Hid (End2 w1 b s rb rx rk rv most count n e S w2)) := by
    intro wx hx
    refine (hI _ _ _ hx.2.choose_spec.1).mono ?_
    rintro r w2 ⟨rfl, m, rfl⟩
    have hm := hx.drewN m
    exact ⟨rfl, by subst hw1; exact cells2 h hm.1, hm⟩
  have C2 : Hid (∀ wx, End2 w1 b s rb rx rk rv most count n e S wx → Calls Try.prog 50 #[.pointer (some ⟨rb, 0, none⟩), .int .u64 key] wx fun r w2 =>
      r = .returned (.tuple #[.int .i64 v, .bool ok]) ∧ wx = w2) := by
    intro wx hx
    exact hR _ _ _ _ _ _ hx.2.choose_spec.2.1 hx.2.choose_spec.2.2
  have HF : Hid (∀ w3, End2 w1 b s rb rx rk rv most count n e S w3 → Told w b s rb rx rk rv most n e (.returned (.bool true)) w3) := fun w3 h3 => by subst hw1; exact End2.told T h3
  obtain ⟨a1, b1⟩ : Cells2 w.heap.size N key w1 := by subst hw1; exact cells2 h (Frm.refl _ _)
  have Q1 := hid h0
  clear hI hR T h h0
  go_enter Try.func28, Try.ntmps28
  go_wp2_with fail
  rw [← hw1]
  clear hw1
  go_wp2_with (go_at_call 33; refine (C1.out _ Q1.out).mono ?_; rintro r w2 ⟨rfl, ⟨a2, b2⟩, Q2⟩)
  refine (C2.out _ Q2.out).mono ?_
  rintro r w3 ⟨rfl, rfl⟩
  go_wp2
  go_ret
  exact HF.out _ Q2.out

set_option maxRecDepth 100000 in
set_option maxHeartbeats 1000000 in
theorem told_slot (T : TabOk n count most e S) (h : Two w b s rb rx rk rv most count n e S) (N : Int) (key : Nat) :
    Calls Try.prog 28 #[.pointer (some ⟨b, 0, none⟩), .pointer (some ⟨rb, 0, none⟩), .agg #[.int .i64 4, .int .i64 N, .int .u64 key]] w (Told w b s rb rx rk rv most n e) := by
  obtain ⟨v, ok, hI, hR⟩ := slot_two T key
  obtain ⟨w1, hw1⟩ : ∃ w1, w1 = w.alloc (.cells #[.int .i64 4, .int .i64 N, .int .u64 key] 46) := ⟨_, rfl⟩
  have h0 : End2 w1 b s rb rx rk rv most count n e S w1 := ⟨Frm.refl _ _, by rw [hw1]; exact h.alloc _⟩
  have C1 : Hid (∀ wx, End2 w1 b s rb rx rk rv most count n e S wx → Calls Try.prog 34 #[.pointer (some ⟨b, 0, none⟩), .int .u64 key] wx fun r w2 =>
      r = .returned (.tuple #[.int .i64 v, .bool ok]) ∧ Cells2 w.heap.size N key w2 ∧ Hid (End2 w1 b s rb rx rk rv most count n e S w2)) := by
    intro wx hx
    refine (hI _ _ _ hx.2.choose_spec.1).mono ?_
    rintro r w2 ⟨rfl, m, rfl⟩
    have hm := hx.drewN m
    exact ⟨rfl, by subst hw1; exact cells2 h hm.1, hm⟩
  have C2 : Hid (∀ wx, End2 w1 b s rb rx rk rv most count n e S wx → Calls Try.prog 52 #[.pointer (some ⟨rb, 0, none⟩), .int .u64 key] wx fun r w2 =>
      r = .returned (.tuple #[.int .i64 v, .bool ok]) ∧ wx = w2) := by
    intro wx hx
    exact hR _ _ _ _ _ _ hx.2.choose_spec.2.1 hx.2.choose_spec.2.2
  have HF : Hid (∀ w3, End2 w1 b s rb rx rk rv most count n e S w3 → Told w b s rb rx rk rv most n e (.returned (.bool true)) w3) := fun w3 h3 => by subst hw1; exact End2.told T h3
  obtain ⟨a1, b1⟩ : Cells2 w.heap.size N key w1 := by subst hw1; exact cells2 h (Frm.refl _ _)
  have Q1 := hid h0
  have C3 : Hid (∀ wx, End2 w1 b s rb rx rk rv most count n e S wx → Calls Try.prog 13 #[.pointer (some ⟨b, 0, none⟩), .int .u64 key] wx fun r w2 => r = .returned (.int .i64 (home n key)) ∧ wx = w2) := by
    intro wx hx
    exact IdxI.home_c hx.2.choose_spec.1.c2.choose_spec T.fit.geo key
  have C4 : Hid (∀ wx, End2 w1 b s rb rx rk rv most count n e S wx → Calls Try.prog 16 #[.pointer (some ⟨rb, 0, none⟩), .int .u64 key] wx fun r w2 => r = .returned (.int .i64 (home n key)) ∧ wx = w2) := by
    intro wx hx
    exact Ref.home_c hx.2.choose_spec.2.1.c1 T.fit.geo key
  clear hI hR T h h0
  go_enter Try.func28, Try.ntmps28
  go_wp2_with fail
  rw [← hw1]
  clear hw1
  go_wp2_with (go_at_call 34; refine (C1.out _ Q1.out).mono ?_; rintro r w2 ⟨rfl, ⟨a2, b2⟩, Q2⟩)
  refine (C2.out _ Q2.out).mono ?_
  rintro r w3 ⟨rfl, rfl⟩
  go_wp2_with fail
  go_quiet (first
    | (go_at_call 13; exact quietS (C3.out _ (Q2.out.drewN _)))
    | (go_at_call 16; exact quietS (C4.out _ (Q2.out.drewN _))))
  go_wp2
  go_ret
  exact HF.out _ (Q2.out.drewN _)

set_option maxRecDepth 100000 in
set_option maxHeartbeats 1000000 in
theorem told_drop (T : TabOk n count most e S) (h : Two w b s rb rx rk rv most count n e S) (hap : Apart b s rb rx rk rv) (N : Int) (key : Nat) :
    Calls Try.prog 28 #[.pointer (some ⟨b, 0, none⟩), .pointer (some ⟨rb, 0, none⟩), .agg #[.int .i64 3, .int .i64 N, .int .u64 key]] w (Told w b s rb rx rk rv most n e) := by
  obtain ⟨v, ok, count', S', T', hI, hR⟩ := drop_two T key
  obtain ⟨w1, hw1⟩ : ∃ w1, w1 = w.alloc (.cells #[.int .i64 3, .int .i64 N, .int .u64 key] 46) := ⟨_, rfl⟩
  have h0 : End2 w1 b s rb rx rk rv most count n e S w1 := ⟨Frm.refl _ _, by rw [hw1]; exact h.alloc _⟩
  have C1 : Hid (∀ wx, End2 w1 b s rb rx rk rv most count n e S wx → Calls Try.prog 25 #[.pointer (some ⟨b, 0, none⟩), .int .u64 key] wx fun r w2 =>
      r = .returned (.tuple #[.int .i64 v, .bool ok]) ∧ Cells2 w.heap.size N key w2 ∧ Hid (Mid w1 b s rb rx rk rv most count count' n e S S' w2)) := by
    intro wx hx
    refine (hI _ _ _ hx.2.choose_spec.1).mono ?_
    rintro r w2 ⟨rfl, f, i2⟩
    have hm := hx.mid hap f i2
    exact ⟨rfl, by subst hw1; exact cells2 h hm.1, hm⟩
  have C2 : Hid (∀ w2, Mid w1 b s rb rx rk rv most count count' n e S S' w2 → Calls Try.prog 51 #[.pointer (some ⟨rb, 0, none⟩), .int .u64 key] w2 fun r w3 =>
      r = .returned (.tuple #[.int .i64 v, .bool ok]) ∧ w3.cell? ⟨rb, 5, none⟩ = some (.int .i64 count') ∧ Hid (End2 w1 b s rb rx rk rv most count' n e S' w3)) := by
    intro w2 hm
    refine (hR _ _ _ _ _ _ hm.2.2.choose_spec.1 hm.2.2.choose_spec.2).mono ?_
    rintro r w3 ⟨rfl, hn⟩
    exact ⟨rfl, hn.2.choose_spec.1.c5, hm.fin hap hn⟩
  have C3 : Hid (∀ w3, End2 w1 b s rb rx rk rv most count' n e S' w3 → Calls Try.prog 11 #[.pointer (some ⟨b, 0, none⟩)] w3 fun r w4 => r = .returned (.int .i64 count') ∧ w3 = w4) := by
    rintro w3 h3
    exact IdxI.len_c h3.2.choose_spec.1
  have HF : Hid (∀ w3, End2 w1 b s rb rx rk rv most count' n e S' w3 → Told w b s rb rx rk rv most n e (.returned (.bool true)) w3) := fun w3 h3 => by subst hw1; exact End2.told T' h3
  obtain ⟨a1, b1⟩ : Cells2 w.heap.size N key w1 := by subst hw1; exact cells2 h (Frm.refl _ _)
  have Q1 := hid h0
  clear hI hR T T' h h0 hap
  go_enter Try.func28, Try.ntmps28
  go_wp2_with fail
  rw [← hw1]
  clear hw1
  go_wp2_with (go_at_call 25; refine (C1.out _ Q1.out).mono ?_; rintro r w2 ⟨rfl, ⟨a2, b2⟩, Q2⟩)
  refine (C2.out _ Q2.out).mono ?_
  rintro r w3 ⟨rfl, c3, Q3⟩
  go_wp2_with fail
  go_quiet (first
    | (go_at_call 11; exact quietS (C3.out _ (Q3.out.drewN _))))
  go_wp2
  go_ret
  exact HF.out _ (Q3.out.drewN _)

set_option maxRecDepth 100000 in
set_option maxHeartbeats 1000000 in
theorem told_all (T : TabOk n count most e S) (h : Two w b s rb rx rk rv most count n e S) (N : Int) (key : Nat) :
    Calls Try.prog 28 #[.pointer (some ⟨b, 0, none⟩), .pointer (some ⟨rb, 0, none⟩), .agg #[.int .i64 5, .int .i64 N, .int .u64 key]] w (Told w b s rb rx rk rv most n e) := by
  obtain ⟨w1, hw1⟩ : ∃ w1, w1 = w.alloc (.cells #[.int .i64 5, .int .i64 N, .int .u64 key] 46) := ⟨_, rfl⟩
  have h0 : End2 w1 b s rb rx rk rv most count n e S w1 := ⟨Frm.refl _ _, by rw [hw1]; exact h.alloc _⟩
  have C1 : Hid (∀ wx, End2 w1 b s rb rx rk rv most count n e S wx → Calls Try.prog 29 #[.pointer (some ⟨b, 0, none⟩), .pointer (some ⟨rb, 0, none⟩)] wx fun r w2 =>
      r = .returned (.bool true) ∧ Hid (End2 w1 b s rb rx rk rv most count n e S w2)) := by
    intro wx hx
    obtain ⟨f0, D, i, r, p⟩ := hx
    refine (LawB.all_c i T.fit.geo T.int T.inv r p).mono ?_
    rintro r' w2 ⟨rfl, hB⟩
    exact ⟨rfl, f0.trans (Frm.of_below hB), D, i.of_blocks (hB.block b i.lb) (hB.block s i.ls), r.of_blocks (hB.block rb r.lb) (hB.block rx r.lx) (hB.block rk r.lk) (hB.block rv r.lv), p⟩
  have HF : Hid (∀ w3, End2 w1 b s rb rx rk rv most count n e S w3 → Told w b s rb rx rk rv most n e (.returned (.bool true)) w3) := fun w3 h3 => by subst hw1; exact End2.told T h3
  obtain ⟨a1, b1⟩ : Cells2 w.heap.size N key w1 := by subst hw1; exact cells2 h (Frm.refl _ _)
  have Q1 := hid h0
  clear T h h0
  go_enter Try.func28, Try.ntmps28
  go_wp2_with fail
  rw [← hw1]
  clear hw1
  go_wp2_with (go_at_call 29; refine (C1.out _ Q1.out).mono ?_; rintro r w2 ⟨rfl, Q2⟩)
  go_ret
  exact HF.out _ Q2.out

set_option maxRecDepth 100000 in
set_option maxHeartbeats 1000000 in
theorem told_else (T : TabOk n count most e S) (h : Two w b s rb rx rk rv most count n e S) {kind : Int} (h1 : kind ≠ 1) (h2 : kind ≠ 2) (h3 : kind ≠ 3) (h4 : kind ≠ 4) (h5 : kind ≠ 5) (N : Int) (key : Nat) :
    Calls Try.prog 28 #[.pointer (some ⟨b, 0, none⟩), .pointer (some ⟨rb, 0, none⟩), .agg #[.int .i64 kind, .int .i64 N, .int .u64 key]] w (Told w b s rb rx rk rv most n e) := by
  obtain ⟨w1, hw1⟩ : ∃ w1, w1 = w.alloc (.cells #[.int .i64 kind, .int .i64 N, .int .u64 key] 46) := ⟨_, rfl⟩
  have h0 : End2 w1 b s rb rx rk rv most count n e S w1 := ⟨Frm.refl _ _, by rw [hw1]; exact h.alloc _⟩
  have HF : Hid (∀ w3, End2 w1 b s rb rx rk rv most count n e S w3 → Told w b s rb rx rk rv most n e (.returned (.bool true)) w3) := fun w3 h3 => by subst hw1; exact End2.told T h3
  have Q1 := hid h0
  clear T h h0
  go_enter Try.func28, Try.ntmps28
  go_wp2_with fail
  rw [← hw1]
  clear hw1
  go_wp2
  go_ret
  exact HF.out _ Q1.out

end Go.Proofs.Ytcieieljgmkjmaa.LawC
