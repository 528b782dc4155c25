/- The index's laws: a step whatever is answered. -/
import Derived.Test.YtcieieljgmkjmaaLawE
set_option linter.unusedVariables false
namespace Go.Proofs.Ytcieieljgmkjmaa.LawC
open Go.RowKit Winnow
variable {n count most e : Nat} {S : Tb Value} {w : World} {b s : Nat}

/-- What one step does to an index. -/
def Does (w : World) (b s most n : Nat) (count' : Nat) (S' : Tb Value) (r : Ending) (w' : World) : Prop :=
  r = .returned (.tuple #[]) ∧ Frm [b, s] w w' ∧ IdxAt w' b s most count' n (conc (.int .i64 0) S')

theorem box2 {kind N : Int} {key : Nat} {t : TypeId} {D : Nat → Bool × Nat × Value} (h : IdxAt w b s most count n D) : Cells2 w.heap.size N key (w.alloc (.cells #[.int .i64 kind, .int .i64 N, .int .u64 key] t)) ∧ IdxAt (w.alloc (.cells #[.int .i64 kind, .int .i64 N, .int .u64 key] t)) b s most count n D := by
  refine ⟨⟨?_, ?_⟩, h.frm ((Frm.refl [] w).alloc _) (by simp) (by simp)⟩
  · rw [cell_of_block (World.alloc_heap_new w _)]; rfl
  · rw [cell_of_block (World.alloc_heap_new w _)]; rfl

theorem does_of {kind N : Int} {key : Nat} {t : TypeId} {count' : Nat} {S' : Tb Value} {w' : World} (f : Frm [b, s] (w.alloc (.cells #[.int .i64 kind, .int .i64 N, .int .u64 key] t)) w') (i : IdxAt w' b s most count' n (conc (.int .i64 0) S')) : Does w b s most n count' S' (.returned (.tuple #[])) w' :=
  ⟨rfl, ((Frm.refl _ w).alloc _).trans f, i⟩

set_option maxRecDepth 100000 in
set_option maxHeartbeats 1000000 in
theorem do_put {count' : Nat} {S' : Tb Value} {N : Int} {key : Nat} (h : IdxAt w b s most count n (conc (.int .i64 0) S)) (hC : ∀ wx, IdxAt wx b s most count n (conc (.int .i64 0) S) → Calls Try.prog 26 #[.pointer (some ⟨b, 0, none⟩), .int .u64 key, .int .i64 N] wx fun r w' => (∃ v, r = .returned v) ∧ Frm [b, s] wx w' ∧ IdxAt w' b s most count' n (conc (.int .i64 0) S')) :
    Calls Try.prog 23 #[.pointer (some ⟨b, 0, none⟩), .agg #[.int .i64 1, .int .i64 N, .int .u64 key]] w (Does w b s most n count' S') := by
  obtain ⟨⟨a1, b1⟩, h0⟩ := box2 (kind := 1) (N := N) (key := key) (t := 46) h
  obtain ⟨w1, hw1⟩ : ∃ w1, w1 = w.alloc (.cells #[.int .i64 1, .int .i64 N, .int .u64 key] 46) := ⟨_, rfl⟩
  rw [← hw1] at a1 b1 h0
  have HF : Hid (∀ w', Frm [b, s] w1 w' → IdxAt w' b s most count' n (conc (.int .i64 0) S') → Does w b s most n count' S' (.returned (.tuple #[])) w') := fun w' f i => by subst hw1; exact does_of f i
  have HC := hid (hC w1 h0)
  clear h h0 hC
  go_enter Try.func23, Try.ntmps23
  go_wp2_with fail
  rw [← hw1]
  clear hw1
  go_wp2_with (go_at_call 26; refine HC.out.mono ?_; rintro r w2 ⟨⟨v, rfl⟩, F2, I2⟩)
  first | go_end0 | skip
  exact HF.out _ F2 I2

set_option maxRecDepth 100000 in
set_option maxHeartbeats 1000000 in
theorem do_get {count' : Nat} {S' : Tb Value} {N : Int} {key : Nat} (h : IdxAt w b s most count n (conc (.int .i64 0) S)) (hC : ∀ wx, IdxAt wx b s most count n (conc (.int .i64 0) S) → Calls Try.prog 33 #[.pointer (some ⟨b, 0, none⟩), .int .u64 key] wx fun r w' => (∃ v, r = .returned v) ∧ Frm [b, s] wx w' ∧ IdxAt w' b s most count' n (conc (.int .i64 0) S')) :
    Calls Try.prog 23 #[.pointer (some ⟨b, 0, none⟩), .agg #[.int .i64 2, .int .i64 N, .int .u64 key]] w (Does w b s most n count' S') := by
  obtain ⟨⟨a1, b1⟩, h0⟩ := box2 (kind := 2) (N := N) (key := key) (t := 46) h
  obtain ⟨w1, hw1⟩ : ∃ w1, w1 = w.alloc (.cells #[.int .i64 2, .int .i64 N, .int .u64 key] 46) := ⟨_, rfl⟩
  rw [← hw1] at a1 b1 h0
  have HF : Hid (∀ w', Frm [b, s] w1 w' → IdxAt w' b s most count' n (conc (.int .i64 0) S') → Does w b s most n count' S' (.returned (.tuple #[])) w') := fun w' f i => by subst hw1; exact does_of f i
  have HC := hid (hC w1 h0)
  clear h h0 hC
  go_enter Try.func23, Try.ntmps23
  go_wp2_with fail
  rw [← hw1]
  clear hw1
  go_wp2_with (go_at_call 33; refine HC.out.mono ?_; rintro r w2 ⟨⟨v, rfl⟩, F2, I2⟩)
  first | go_end0 | skip
  exact HF.out _ F2 I2

set_option maxRecDepth 100000 in
set_option maxHeartbeats 1000000 in
theorem do_drop {count' : Nat} {S' : Tb Value} {N : Int} {key : Nat} (h : IdxAt w b s most count n (conc (.int .i64 0) S)) (hC : ∀ wx, IdxAt wx b s most count n (conc (.int .i64 0) S) → Calls Try.prog 25 #[.pointer (some ⟨b, 0, none⟩), .int .u64 key] wx fun r w' => (∃ v, r = .returned v) ∧ Frm [b, s] wx w' ∧ IdxAt w' b s most count' n (conc (.int .i64 0) S')) :
    Calls Try.prog 23 #[.pointer (some ⟨b, 0, none⟩), .agg #[.int .i64 3, .int .i64 N, .int .u64 key]] w (Does w b s most n count' S') := by
  obtain ⟨⟨a1, b1⟩, h0⟩ := box2 (kind := 3) (N := N) (key := key) (t := 46) h
  obtain ⟨w1, hw1⟩ : ∃ w1, w1 = w.alloc (.cells #[.int .i64 3, .int .i64 N, .int .u64 key] 46) := ⟨_, rfl⟩
  rw [← hw1] at a1 b1 h0
  have HF : Hid (∀ w', Frm [b, s] w1 w' → IdxAt w' b s most count' n (conc (.int .i64 0) S') → Does w b s most n count' S' (.returned (.tuple #[])) w') := fun w' f i => by subst hw1; exact does_of f i
  have HC := hid (hC w1 h0)
  clear h h0 hC
  go_enter Try.func23, Try.ntmps23
  go_wp2_with fail
  rw [← hw1]
  clear hw1
  go_wp2_with (go_at_call 25; refine HC.out.mono ?_; rintro r w2 ⟨⟨v, rfl⟩, F2, I2⟩)
  first | go_end0 | skip
  exact HF.out _ F2 I2

set_option maxRecDepth 100000 in
set_option maxHeartbeats 1000000 in
theorem do_slot {count' : Nat} {S' : Tb Value} {N : Int} {key : Nat} (h : IdxAt w b s most count n (conc (.int .i64 0) S)) (hC : ∀ wx, IdxAt wx b s most count n (conc (.int .i64 0) S) → Calls Try.prog 34 #[.pointer (some ⟨b, 0, none⟩), .int .u64 key] wx fun r w' => (∃ v, r = .returned v) ∧ Frm [b, s] wx w' ∧ IdxAt w' b s most count' n (conc (.int .i64 0) S')) :
    Calls Try.prog 23 #[.pointer (some ⟨b, 0, none⟩), .agg #[.int .i64 4, .int .i64 N, .int .u64 key]] w (Does w b s most n count' S') := by
  obtain ⟨⟨a1, b1⟩, h0⟩ := box2 (kind := 4) (N := N) (key := key) (t := 46) h
  obtain ⟨w1, hw1⟩ : ∃ w1, w1 = w.alloc (.cells #[.int .i64 4, .int .i64 N, .int .u64 key] 46) := ⟨_, rfl⟩
  rw [← hw1] at a1 b1 h0
  have HF : Hid (∀ w', Frm [b, s] w1 w' → IdxAt w' b s most count' n (conc (.int .i64 0) S') → Does w b s most n count' S' (.returned (.tuple #[])) w') := fun w' f i => by subst hw1; exact does_of f i
  have HC := hid (hC w1 h0)
  clear h h0 hC
  go_enter Try.func23, Try.ntmps23
  go_wp2_with fail
  rw [← hw1]
  clear hw1
  go_wp2_with (go_at_call 34; refine HC.out.mono ?_; rintro r w2 ⟨⟨v, rfl⟩, F2, I2⟩)
  first | go_end0 | skip
  exact HF.out _ F2 I2

set_option maxRecDepth 100000 in
set_option maxHeartbeats 1000000 in
theorem do_else {kind N : Int} {key : Nat} (h : IdxAt w b s most count n (conc (.int .i64 0) S)) (h1 : kind ≠ 1) (h2 : kind ≠ 2) (h3 : kind ≠ 3) (h4 : kind ≠ 4) :
    Calls Try.prog 23 #[.pointer (some ⟨b, 0, none⟩), .agg #[.int .i64 kind, .int .i64 N, .int .u64 key]] w (Does w b s most n count S) := by
  obtain ⟨_, h0⟩ := box2 (kind := kind) (N := N) (key := key) (t := 46) h
  have HF := hid (does_of (Frm.refl _ _) h0)
  clear h h0
  go_enter Try.func23, Try.ntmps23
  go_wp2
  first | go_end0 | skip
  exact HF.out

/-- One step: the table behind it hangs on the table ahead and the step alone. -/
theorem do_one (T : TabOk n count most e S) (x : Int × Int × Nat) : ∃ (count' : Nat) (S' : Tb Value), TabOk n count' most e S' ∧
    ∀ (wx : World) (b s : Nat), IdxAt wx b s most count n (conc (.int .i64 0) S) → Calls Try.prog 23 #[.pointer (some ⟨b, 0, none⟩), .agg #[.int .i64 x.1, .int .i64 x.2.1, .int .u64 x.2.2]] wx (Does wx b s most n count' S') := by
  obtain ⟨kind, N, key⟩ := x
  by_cases h1 : kind = 1
  · subst h1
    obtain ⟨c, count', S', T', hI, _⟩ := put_two T key N
    exact ⟨count', S', T', fun wx b s h => do_put h fun wy hy => (hI wy b s hy).mono fun r w' ⟨hr, q⟩ => ⟨⟨_, hr⟩, q⟩⟩
  by_cases h2 : kind = 2
  · subst h2
    obtain ⟨v, ok, hI, _⟩ := get_two T key
    exact ⟨count, S, T, fun wx b s h => do_get h fun wy hy => (hI wy b s hy).mono fun r w' ⟨hr, m, hm⟩ => ⟨⟨_, hr⟩, by subst hm; exact (Frm.refl _ _).drewN m, by subst hm; exact hy.drewN m⟩⟩
  by_cases h3 : kind = 3
  · subst h3
    obtain ⟨v, ok, count', S', T', hI, _⟩ := drop_two T key
    exact ⟨count', S', T', fun wx b s h => do_drop h fun wy hy => (hI wy b s hy).mono fun r w' ⟨hr, q⟩ => ⟨⟨_, hr⟩, q⟩⟩
  by_cases h4 : kind = 4
  · subst h4
    obtain ⟨v, ok, hI, _⟩ := slot_two T key
    exact ⟨count, S, T, fun wx b s h => do_slot h fun wy hy => (hI wy b s hy).mono fun r w' ⟨hr, m, hm⟩ => ⟨⟨_, hr⟩, by subst hm; exact (Frm.refl _ _).drewN m, by subst hm; exact hy.drewN m⟩⟩
  exact ⟨count, S, T, fun wx b s h => do_else h h1 h2 h3 h4⟩

/-- A table with what is known of it. -/
structure Tbl (n most e : Nat) where
  count : Nat
  S : Tb Value
  ok : TabOk n count most e S

noncomputable def next (t : Tbl n most e) (x : Int × Int × Nat) : Tbl n most e :=
  ⟨(do_one t.ok x).choose, (do_one t.ok x).choose_spec.choose, (do_one t.ok x).choose_spec.choose_spec.1⟩
/-- An index that holds a table. -/
def Holds (w : World) (b s : Nat) (t : Tbl n most e) : Prop := IdxAt w b s most t.count n (conc (.int .i64 0) t.S)
theorem do_c (t : Tbl n most e) (x : Int × Int × Nat) (wx : World) (b s : Nat) (h : Holds wx b s t) :
    Calls Try.prog 23 #[.pointer (some ⟨b, 0, none⟩), .agg #[.int .i64 x.1, .int .i64 x.2.1, .int .u64 x.2.2]] wx fun r w' => r = .returned (.tuple #[]) ∧ Frm [b, s] wx w' ∧ Holds w' b s (next t x) :=
  (do_one t.ok x).choose_spec.choose_spec.2 wx b s h
noncomputable def runTo (t : Tbl n most e) (f : Nat → Int × Int × Nat) : Nat → Tbl n most e
  | 0 => t
  | k + 1 => next (runTo t f k) (f k)
theorem runTo_succ (t : Tbl n most e) (f : Nat → Int × Int × Nat) (k : Nat) : runTo t f (k + 1) = next (runTo t f k) (f k) := rfl
theorem runTo_zero (t : Tbl n most e) (f : Nat → Int × Int × Nat) : runTo t f 0 = t := rfl
attribute [irreducible] next runTo
end Go.Proofs.Ytcieieljgmkjmaa.LawC
