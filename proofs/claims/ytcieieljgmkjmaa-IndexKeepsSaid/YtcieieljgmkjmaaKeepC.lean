/- The entries of an index of slices, as they are ranged over. -/
import Derived.Test.YtcieieljgmkjmaaKeepA
import Derived.Test.YtcieieljgmkjmaaJdxH
import Derived.Test.YtcieieljgmkjmaaLawW
set_option linter.unusedVariables false
namespace Go.Proofs.Ytcieieljgmkjmaa.Keep
open Go.RowKit Winnow
open IdxJ (entsTo Sorted KpB rowBlk Row3)

theorem mem_ents {S : Tb Value} {n : Nat} {x : Nat × SV} (h : x ∈ entsTo S n) : ∃ i, i < n ∧ S i = some (x.1, .slice x.2.1 x.2.2.1 x.2.2.2) := by
  induction n with
  | zero => simp [entsTo] at h
  | succ n ih =>
    unfold entsTo at h
    rw [List.mem_append] at h
    rcases h with h | h
    · obtain ⟨i, hi, hs⟩ := ih h
      exact ⟨i, by omega, hs⟩
    · split at h
      · next k a l c hs => simp at h; subst h; exact ⟨n, by omega, hs⟩
      · simp at h
theorem ents_mem {S : Tb Value} {n i k : Nat} {a : Option Addr} {l c : Nat} (hi : i < n) (hs : S i = some (k, .slice a l c)) : (k, (a, l, c)) ∈ entsTo S n := by
  induction n with
  | zero => omega
  | succ n ih =>
    unfold entsTo
    rw [List.mem_append]
    by_cases e : i = n
    · subst e; right; rw [hs]; simp
    · exact .inl (ih (by omega))
theorem ents_nodup {S : Tb Value} {n : Nat} (I : Inv n S) : ∀ m, m ≤ n → (entsTo S m).Pairwise (fun a b => a.1 ≠ b.1) := by
  intro m
  induction m with
  | zero => intro _; exact .nil
  | succ m ih =>
    intro hm
    unfold entsTo
    rw [List.pairwise_append]
    refine ⟨ih (by omega), ?_, ?_⟩
    · split <;> simp
    · intro a ha b hb
      split at hb
      · next k u v w hs =>
        simp at hb; subst hb
        obtain ⟨i, hi, hs'⟩ := mem_ents ha
        intro e
        have := I.uniq i m k _ _ (by omega) (by omega) (by rw [hs']; simp only [] at e; rw [e]) hs
        omega
      · simp at hb
theorem ents_length {n count most e : Nat} {S : Tb Value} (T : TabJ n count most e S) : ∀ m, m ≤ n → (entsTo S m).length = cnt m S := by
  intro m
  induction m with
  | zero => intro _; simp [entsTo, cnt]
  | succ m ih =>
    intro hm
    unfold entsTo
    rw [List.length_append, ih (by omega)]
    cases hS : S m with
    | none => simp [cnt, hS]
    | some p =>
      obtain ⟨k, u⟩ := p
      obtain ⟨x, rfl⟩ := T.sl m k u hS
      simp [cnt, hS]

/-- The entries by key: rising. -/
theorem rising {S : Tb Value} {n : Nat} (I : Inv n S) {L : List (Nat × SV)} (h : Sorted S n L) : L.Pairwise (fun a b => a.1 < b.1) := by
  have h1 : L.Pairwise (fun a b => a.1 ≠ b.1) := (h.1.pairwise_iff (fun h => fun e => h e.symm)).2 (ents_nodup I n (Nat.le_refl _))
  exact (h1.and h.2).imp fun ⟨a, b⟩ => by omega

section
variable {n : Nat} {S : Tb Value} {L : List (Nat × SV)}
abbrev El (L : List (Nat × SV)) := { x : Nat × SV // x ∈ L }
def lastK (pre : List (El L)) : Nat := match pre.getLast? with | some x => x.val.1 | none => 0
theorem lastK_snoc (pre : List (El L)) (x : El L) : lastK (pre ++ [x]) = x.val.1 := by unfold lastK; simp
def tkn (n : Nat) (S : Tb Value) (pre : List (El L)) (i : Nat) : Bool := pre.any fun x => find n S x.val.1 == i
theorem tkn_snoc (pre : List (El L)) (x : El L) (i : Nat) : tkn n S (pre ++ [x]) i = (tkn n S pre i || find n S x.val.1 == i) := by unfold tkn; simp
theorem tkn_nil (i : Nat) : tkn (L := L) n S [] i = false := rfl

/-- In order nothing is found amiss. -/
theorem in_order (I : Inv n S) {em : Nat} (hem : em < n) (hemp : S em = none) (h : Sorted S n L) {pre : List (El L)} {x : El L} (hp : pre ++ [x] <+: L.attach) : tkn n S pre (find n S x.val.1) = false ∧ (pre.length = 0 ∨ lastK pre < x.val.1) := by
  have hr := rising I h
  have hm : (pre ++ [x]).map Subtype.val <+: L := by
    have := hp.map Subtype.val
    rwa [List.attach_map_subtype_val] at this
  have hpw : ((pre ++ [x]).map Subtype.val).Pairwise (fun a b => a.1 < b.1) := hr.sublist hm.sublist
  rw [List.map_append, List.pairwise_append] at hpw
  have hlt : ∀ y ∈ pre, y.val.1 < x.val.1 := fun y hy => hpw.2.2 y.val (List.mem_map.2 ⟨y, hy, rfl⟩) x.val (by simp)
  constructor
  · unfold tkn
    rw [List.any_eq_false]
    intro y hy
    simp only [beq_iff_eq]
    intro e1
    obtain ⟨i, hi, hs⟩ := mem_ents (h.1.subset y.property)
    obtain ⟨j, hj, hs'⟩ := mem_ents (h.1.subset x.property)
    have f1 := I.find_of hem hemp hi hs
    have f2 := I.find_of hem hemp hj hs'
    rw [f1, f2] at e1
    subst e1
    rw [hs] at hs'
    simp at hs'
    have := hlt y hy
    omega
  · cases hl : pre.getLast? with
    | none => left; rw [List.getLast?_eq_none_iff] at hl; subst hl; rfl
    | some y =>
      right
      unfold lastK; rw [hl]
      exact hlt y (List.mem_of_getLast? hl)
theorem tkn_all (I : Inv n S) {em : Nat} (hem : em < n) (hemp : S em = none) (h : Sorted S n L) (hsl : ∀ i k u, S i = some (k, u) → ∃ x : SV, u = .slice x.1 x.2.1 x.2.2) {i : Nat} (hi : i < n) : tkn n S L.attach i = (S i).isSome := by
  unfold tkn
  cases hs : S i with
  | none =>
    simp only [Option.isSome_none]
    rw [List.any_eq_false]
    intro y _
    simp only [beq_iff_eq]
    intro e1
    obtain ⟨j, hj, hs'⟩ := mem_ents (h.1.subset y.property)
    rw [I.find_of hem hemp hj hs'] at e1
    subst e1; rw [hs'] at hs; simp at hs
  | some p =>
    obtain ⟨k, u⟩ := p
    obtain ⟨x, rfl⟩ := hsl i k u hs
    simp only [Option.isSome_some]
    rw [List.any_eq_true]
    have hm : (k, (x.1, x.2.1, x.2.2)) ∈ L := h.1.symm.subset (ents_mem hi hs)
    exact ⟨⟨_, hm⟩, List.mem_attach _ _, by simp only [beq_iff_eq]; exact I.find_of hem hemp hi hs⟩
end
theorem way_step {n h i p : Nat} (hh : h < n) (hi : i < n) (hp : p < n) (hip : i ≠ p) (hd : dist n h i + dist n i p = dist n h p) : dist n h (nx n i) + dist n (nx n i) p = dist n h p ∧ dist n (nx n i) p < dist n i p := by
  have h1 := dist_nx hi hp hip
  have h3 := dist_lt hh hp
  refine ⟨?_, by omega⟩
  rcases dc n h i with ⟨a1, a2⟩ | ⟨a1, a2⟩ <;> rcases dc n h (nx n i) with ⟨b1, b2⟩ | ⟨b1, b2⟩ <;> rcases nc n i with ⟨c1, c2⟩ | ⟨c1, c2⟩ <;> omega
end Go.Proofs.Ytcieieljgmkjmaa.Keep
