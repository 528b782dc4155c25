/- What is known of a table of integers. -/
import Derived.Test.YtcieieljgmkjmaaIdxBase
set_option linter.unusedVariables false
namespace Go.Proofs.Ytcieieljgmkjmaa.LawC
open Go Go.RowKit Winnow

/-- What is known of a table. -/
structure TabOk (n count most e : Nat) (S : Tb Value) : Prop where
  inv : Inv n S
  cnt : cnt n S = count
  le : count ≤ most
  fit : Fit most n e
  int : ∀ i k u, S i = some (k, u) → ∃ x, u = Value.int .i64 x

variable {n count most e : Nat} {S : Tb Value}

theorem TabOk.pos (T : TabOk n count most e S) : 0 < n := T.fit.geo.pos
theorem TabOk.lt (T : TabOk n count most e S) : count < n := by have := T.le; have := T.fit.ge; have := T.pos; omega
theorem TabOk.emp (T : TabOk n count most e S) : ∃ em, em < n ∧ S em = none := exists_empty (by rw [T.cnt]; exact T.lt)

theorem TabOk.count_pos (T : TabOk n count most e S) {p : Nat} (hp : p < n) (h : S p ≠ none) : 0 < count := by
  have b := cnt_upd S none hp
  have : (S p).isSome = true := by cases h' : S p with | none => exact absurd h' h | some _ => rfl
  rw [this, T.cnt] at b
  simp at b; omega

theorem hint_put {key : Nat} {v : Int} (h : ∀ i k u, S i = some (k, u) → ∃ x, u = Value.int .i64 x) : ∀ i k u, putAt n S key (.int .i64 v) i = some (k, u) → ∃ x, u = Value.int .i64 x := by
  intro i k u hi
  unfold putAt at hi
  by_cases e : i = find n S key
  · subst e; rw [upd_same] at hi; simp at hi; exact ⟨v, hi.2.symm⟩
  · rw [upd_other _ _ e] at hi; exact h i k u hi

theorem hint_upd {p : Nat} {x : Option (Nat × Value)} (h : ∀ i k u, S i = some (k, u) → ∃ x, u = Value.int .i64 x) (hx : ∀ k u, x = some (k, u) → ∃ x, u = Value.int .i64 x) : ∀ i k u, upd S p x i = some (k, u) → ∃ x, u = Value.int .i64 x := by
  intro i k u hi
  by_cases e : i = p
  · subst e; rw [upd_same] at hi; exact hx k u hi
  · rw [upd_other _ _ e] at hi; exact h i k u hi

theorem hint_dropGo : ∀ (f : Nat) (S : Tb Value) (i k : Nat), (∀ i k u, S i = some (k, u) → ∃ x, u = Value.int .i64 x) → ∀ j y u, dropGo n f S i k j = some (y, u) → ∃ x, u = Value.int .i64 x := by
  intro f
  induction f with
  | zero => intro S i k h; exact h
  | succ f ih =>
    intro S i k h
    unfold dropGo
    cases hs : S k with
    | none => exact h
    | some p =>
      obtain ⟨y, v⟩ := p
      dsimp only
      split
      · exact ih _ _ _ (hint_upd (hint_upd h fun k' u e => h k k' u (hs.trans e)) fun k u e => by simp at e)
      · exact ih _ _ _ h

theorem hint_drop {p : Nat} (h : ∀ i k u, S i = some (k, u) → ∃ x, u = Value.int .i64 x) : ∀ i k u, dropAt n S p i = some (k, u) → ∃ x, u = Value.int .i64 x :=
  hint_dropGo n _ _ _ (hint_upd h fun k u e => by simp at e)

theorem conc_some (q : Nat) : (conc (.int .i64 0) S q).1 = (S q).isSome := by
  unfold conc; cases S q <;> rfl
theorem conc_int (T : TabOk n count most e S) (q : Nat) : ∃ x, (conc (.int .i64 0) S q).2.2 = .int .i64 x := by
  unfold conc
  cases h : S q with
  | none => exact ⟨0, rfl⟩
  | some p => exact T.int q p.1 p.2 h
end Go.Proofs.Ytcieieljgmkjmaa.LawC
