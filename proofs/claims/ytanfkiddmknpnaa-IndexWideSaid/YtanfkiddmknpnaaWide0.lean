/- Plain facts: a table told by two maps, from places to keys and from keys to places (no program in sight). -/
import Derived.Test.YtanfkiddmknpnaaTab
import Derived.Test.YtanfkiddmknpnaaBook
set_option linter.unusedVariables false
namespace Winnow
variable {α : Type} {n : Nat} {S : Tb α} {f : Int → Option Int}

def KeyOf (n : Nat) (S : Tb α) (f : Int → Option Int) : Prop := ∀ q : Nat, f q = if q < n then (S q).map (fun x => (x.1 : Int)) else none
def PlaceOf (n : Nat) (S : Tb α) (f : Int → Option Int) : Prop := ∀ k : Nat, ∀ p : Int, f k = some p ↔ ∃ q : Nat, p = q ∧ q < n ∧ ∃ v, S q = some (k, v)

theorem KeyOf.some (h : KeyOf n S f) {q k : Nat} {v : α} (hq : q < n) (hs : S q = some (k, v)) : f q = .some (k : Int) := by rw [h q, if_pos hq, hs]; rfl
theorem KeyOf.none (h : KeyOf n S f) {q : Nat} (hs : S q = none) : f q = .none := by rw [h q]; split <;> simp [hs]
theorem KeyOf.put (h : KeyOf n S f) {q k : Nat} {v : α} (hq : q < n) : KeyOf n (upd S q (.some (k, v))) (fput f q k) := by
  intro p
  unfold fput
  by_cases e : p = q
  · subst e; rw [if_pos rfl, if_pos hq, upd_same]; rfl
  · rw [if_neg (by omega), upd_other _ _ e]; exact h p
theorem KeyOf.del (h : KeyOf n S f) {q : Nat} (hq : q < n) : KeyOf n (upd S q .none) (fdel f q) := by
  intro p
  unfold fdel
  by_cases e : p = q
  · subst e; rw [if_pos rfl, if_pos hq, upd_same]; rfl
  · rw [if_neg (by omega), upd_other _ _ e]; exact h p
theorem KeyOf.empty : KeyOf n (fun _ => .none : Tb α) (fun _ => .none) := fun q => by split <;> rfl

theorem PlaceOf.empty : PlaceOf n (fun _ => .none : Tb α) (fun _ => .none) := fun k p => by simp
theorem PlaceOf.put (h : PlaceOf n S f) {q k : Nat} {v : α} (hq : q < n) (hs : S q = .none) (hn : ∀ p v, p < n → S p ≠ .some (k, v)) : PlaceOf n (upd S q (.some (k, v))) (fput f k q) := by
  intro y p
  unfold fput
  by_cases e : y = k
  · subst e
    rw [if_pos rfl]
    constructor
    · intro hp; simp at hp; exact ⟨q, hp.symm, hq, v, upd_same _ _ _⟩
    · rintro ⟨r, rfl, hr, u, hu⟩
      by_cases er : r = q
      · subst er; rfl
      · rw [upd_other _ _ er] at hu; exact absurd hu (hn r u hr)
  · rw [if_neg (by omega), h y p]
    constructor
    · rintro ⟨r, rfl, hr, u, hu⟩
      refine ⟨r, rfl, hr, u, ?_⟩
      rw [upd_other _ _ (fun e' => by subst e'; rw [hs] at hu; simp at hu)]; exact hu
    · rintro ⟨r, rfl, hr, u, hu⟩
      by_cases er : r = q
      · subst er; rw [upd_same] at hu; simp at hu; exact absurd hu.1.symm e
      · rw [upd_other _ _ er] at hu; exact ⟨r, rfl, hr, u, hu⟩
theorem PlaceOf.del (h : PlaceOf n S f) {q k : Nat} {v : α} (hq : q < n) (hs : S q = .some (k, v)) (hu : ∀ p q x v u, p < n → q < n → S p = .some (x, v) → S q = .some (x, u) → p = q) : PlaceOf n (upd S q .none) (fdel f k) := by
  intro y p
  unfold fdel
  by_cases e : y = k
  · subst e
    rw [if_pos rfl]
    constructor
    · intro hp; simp at hp
    · rintro ⟨r, rfl, hr, u, hu'⟩
      by_cases er : r = q
      · subst er; rw [upd_same] at hu'; simp at hu'
      · rw [upd_other _ _ er] at hu'; exact absurd (hu r q y u v hr hq hu' hs) er
  · rw [if_neg (by omega), h y p]
    constructor
    · rintro ⟨r, rfl, hr, u, hu'⟩
      refine ⟨r, rfl, hr, u, ?_⟩
      rw [upd_other _ _ (fun e' => by subst e'; rw [hs] at hu'; simp at hu'; exact e hu'.1.symm)]; exact hu'
    · rintro ⟨r, rfl, hr, u, hu'⟩
      by_cases er : r = q
      · subst er; rw [upd_same] at hu'; simp at hu'
      · rw [upd_other _ _ er] at hu'; exact ⟨r, rfl, hr, u, hu'⟩
theorem PlaceOf.move (h : PlaceOf n S f) {i k y : Nat} {v : α} (hi : i < n) (hk : k < n) (hik : i ≠ k) (h0 : S i = .none) (hs : S k = .some (y, v)) (hu : ∀ p q x v u, p < n → q < n → S p = .some (x, v) → S q = .some (x, u) → p = q) :
    PlaceOf n (upd (upd S i (S k)) k .none) (fput f y i) := by
  intro z p
  unfold fput
  have hcase : ∀ (r : Nat) (u : α), upd (upd S i (S k)) k .none r = .some (z, u) ↔ (r = i ∧ z = y ∧ u = v) ∨ (r ≠ i ∧ r ≠ k ∧ S r = .some (z, u)) := by
    intro r u
    by_cases e1 : r = k
    · subst e1; rw [upd_same]; simp; intro e2; exact absurd e2.symm hik
    · rw [upd_other _ _ e1]
      by_cases e2 : r = i
      · subst e2; rw [upd_same, hs]; simp [e1]; constructor
        · rintro ⟨rfl, rfl⟩; exact ⟨rfl, rfl⟩
        · rintro ⟨rfl, rfl⟩; exact ⟨rfl, rfl⟩
      · rw [upd_other _ _ e2]; simp [e1, e2]
  by_cases e : z = y
  · subst e
    rw [if_pos rfl]
    constructor
    · intro hp; simp at hp; exact ⟨i, hp.symm, hi, v, (hcase i v).2 (.inl ⟨rfl, rfl, rfl⟩)⟩
    · rintro ⟨r, rfl, hr, u, hu'⟩
      rcases (hcase r u).1 hu' with ⟨rfl, _, _⟩ | ⟨_, h2, h3⟩
      · rfl
      · exact absurd (hu r k z u v hr hk h3 hs) h2
  · rw [if_neg (by omega), h z p]
    constructor
    · rintro ⟨r, rfl, hr, u, hu'⟩
      exact ⟨r, rfl, hr, u, (hcase r u).2 (.inr ⟨fun e' => by subst e'; rw [h0] at hu'; simp at hu', fun e' => by subst e'; rw [hs] at hu'; simp at hu'; exact e hu'.1.symm, hu'⟩)⟩
    · rintro ⟨r, rfl, hr, u, hu'⟩
      rcases (hcase r u).1 hu' with ⟨_, h2, _⟩ | ⟨_, _, h3⟩
      · exact absurd h2 e
      · exact ⟨r, rfl, hr, u, h3⟩
theorem PlaceOf.find {e : Nat} (h : PlaceOf n S f) (I : Inv n S) (he : e < n) (hs : S e = .none) (key : Nat) : f key = if (S (Winnow.find n S key)).isSome then .some (Winnow.find n S key : Int) else .none := by
  have hl := find_lt (by omega) S key (n := n)
  have h1 := (find_spec he hs key).1
  cases hq : S (Winnow.find n S key) with
  | none =>
    simp only [Option.isSome_none, Bool.false_eq_true, if_false]
    cases hf : f key with
    | none => rfl
    | some p =>
      obtain ⟨q, rfl, hq', v, hv⟩ := (h key p).1 hf
      have := I.find_of he hs hq' hv
      rw [this, hv] at hq; simp at hq
  | some x =>
    obtain ⟨k, v⟩ := x
    have := stopAt_some h1 hq
    subst this
    simp only [Option.isSome_some, if_true]
    exact (h k _).2 ⟨_, rfl, hl, v, hq⟩
end Winnow
