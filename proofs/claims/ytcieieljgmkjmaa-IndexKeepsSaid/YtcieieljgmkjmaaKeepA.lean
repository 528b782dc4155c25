/- An index of slices beside a book: what holds, and what each step does to it. -/
import Derived.Test.YtcieieljgmkjmaaJdxB
import Derived.Test.YtcieieljgmkjmaaJdxG
import Derived.Test.YtcieieljgmkjmaaJdxC
import Derived.Test.YtcieieljgmkjmaaJdxD
import Derived.Test.YtcieieljgmkjmaaBook
set_option linter.unusedVariables false
namespace Go.Proofs.Ytcieieljgmkjmaa.Keep
open Go.RowKit Winnow

theorem typedB : Typed Try.prog 44 30 3 .u64 .i64 := ⟨Try.underlying44, Try.underlying30, Try.underlying3, fun w => by kernel_rfl⟩
abbrev MapB := MapF Try.prog 30 3 .u64 .i64
abbrev nilS : Value := .slice none 0 0
abbrev rowV (g : Nat) : Value := .slice (some ⟨g, 0, none⟩) 2 2

theorem frm_of_grown {w w' : World} {B : Nat} (h : w.grownBy w' (some B)) : Frm [B] w w' := ⟨h.os, h.tape, h.output, h.size, fun k hk hs => h.block k hk (fun e => hs (by cases e; simp))⟩

structure TabJ (n count most e : Nat) (S : Tb Value) : Prop where
  inv : Inv n S
  cnt : cnt n S = count
  le : count ≤ most
  fit : Fit most n e
  sl : ∀ i k u, S i = some (k, u) → ∃ x : SV, u = .slice x.1 x.2.1 x.2.2

variable {n count most e : Nat} {S : Tb Value}
theorem TabJ.pos (T : TabJ n count most e S) : 0 < n := T.fit.geo.pos
theorem TabJ.lt (T : TabJ n count most e S) : count < n := by have := T.le; have := T.fit.ge; have := T.pos; omega
theorem TabJ.emp (T : TabJ n count most e S) : ∃ em, em < n ∧ S em = none := exists_empty (by rw [T.cnt]; exact T.lt)
theorem TabJ.count_pos (T : TabJ n count most e S) {p : Nat} (hp : p < n) (h : S p ≠ none) : 0 < count := by
  have b := cnt_upd S none hp
  have : (S p).isSome = true := by cases h' : S p with | none => exact absurd h' h | some _ => rfl
  rw [this, T.cnt] at b
  simp at b; omega
theorem conc_some (q : Nat) : (conc nilS S q).1 = (S q).isSome := by unfold conc; cases S q <;> rfl

theorem dropGo_all {n : Nat} {P : Nat × Value → Prop} : ∀ (f : Nat) (S : Tb Value) (i k : Nat), (∀ j x, S j = some x → P x) → ∀ j x, dropGo n f S i k j = some x → P x := by
  intro f
  induction f with
  | zero => intro S i k h; exact h
  | succ f ih =>
    intro S i k h
    unfold dropGo
    cases hs : S k with
    | none => exact h
    | some p =>
      obtain ⟨y, v⟩ := p
      dsimp only
      split
      · refine ih _ _ _ fun j x hx => ?_
        unfold upd at hx
        split at hx
        · simp at hx
        · split at hx
          · exact h k x (hs.trans hx)
          · exact h j x hx
      · exact ih _ _ _ h
theorem dropAt_all {n q : Nat} {S : Tb Value} {P : Nat × Value → Prop} (h : ∀ j x, S j = some x → P x) : ∀ j x, dropAt n S q j = some x → P x :=
  dropGo_all n _ _ _ fun j x hx => by
    unfold upd at hx
    split at hx
    · simp at hx
    · exact h j x hx

/-- The index, its values' rows, the book. -/
structure Keep (w wr : World) (b s bb n most e c : Nat) (S : Tb Value) (f : Int → Option Int) : Prop where
  T : TabJ n c most e S
  I : IdxAt wr b s most c n (conc nilS S)
  M : MapB wr bb f c
  ks : ∀ p k u, S p = some (k, u) → k < 18446744073709551616
  ag : ∀ p k u, p < n → S p = some (k, u) → ∃ g N, u = rowV g ∧ f k = some N ∧ wr.cell? ⟨g, 0, none⟩ = some (.int .i64 N) ∧ g ≠ b ∧ g ≠ s ∧ g ≠ bb
  no : ∀ k : Nat, (∀ p, p < n → ∀ u, S p ≠ some (k, u)) → f k = none
  ap : bb ≠ b ∧ bb ≠ s
  bel : Below w.heap.size w wr
  lo : w.heap.size ≤ b ∧ w.heap.size ≤ s ∧ w.heap.size ≤ bb

section
variable {w wr w' : World} {b s bb c : Nat} {f : Int → Option Int}
theorem Keep.later (h : Keep w wr b s bb n most e c S f) (hB : Below wr.heap.size wr w') : Keep w w' b s bb n most e c S f :=
  ⟨h.T, h.I.of_blocks (hB.block _ h.I.lb) (hB.block _ h.I.ls), h.M.of_block (hB.block _ h.M.lt), h.ks, fun p k u hpn hp => by
    obtain ⟨g, N, h1, h2, h3, h4⟩ := h.ag p k u hpn hp
    exact ⟨g, N, h1, h2, (World.cell?_of_block (hB.block g (cell_lt h3))).trans h3, h4⟩, h.no, h.ap, h.bel.trans (hB.mono h.bel.size), h.lo⟩
theorem Keep.drewN (h : Keep w wr b s bb n most e c S f) (m : Nat) : Keep w (wr.drewN m) b s bb n most e c S f := h.later (below_dn _ _ _)
theorem Keep.uniqk (h : Keep w wr b s bb n most e c S f) {key : Nat} (ht : S (find n S key) = none) : f key = none := by
  obtain ⟨em, hem, hemp⟩ := h.T.emp
  refine h.no key fun p hp u hs => ?_
  have := h.T.inv.find_of hem hemp hp hs
  rw [this] at ht; rw [ht] at hs; simp at hs
theorem Keep.find_some (h : Keep w wr b s bb n most e c S f) {key : Nat} (ht : S (find n S key) ≠ none) : ∃ g N, S (find n S key) = some (key, rowV g) ∧ f key = some N ∧ wr.cell? ⟨g, 0, none⟩ = some (.int .i64 N) ∧ g ≠ b ∧ g ≠ s ∧ g ≠ bb := by
  obtain ⟨em, hem, hemp⟩ := h.T.emp
  cases hs : S (find n S key) with
  | none => exact absurd hs ht
  | some y =>
    obtain ⟨k', u⟩ := y
    have := stopAt_some (find_spec hem hemp key).1 hs
    subst this
    obtain ⟨g, N, rfl, h2, h3, h4⟩ := h.ag _ _ _ (find_lt h.T.pos S k') hs
    exact ⟨g, N, rfl, h2, h3, h4⟩

/-- A put of a new row: the index's part. -/
theorem put_full (h : Keep w wr b s bb n most e c S f) {key : Nat} (hc : c = most) (ht : S (find n S key) = none) (g : Nat) :
    Calls Try.prog 18 #[.pointer (some ⟨b, 0, none⟩), .int .u64 key, rowV g] wr fun r w' => r = .returned (.int .i64 3) ∧ ∃ m, w' = wr.drewN m := by
  obtain ⟨em, hem, hemp⟩ := h.T.emp
  subst hc
  by_cases h0 : c = 0
  · subst h0
    exact (IdxJ.put_zero h.I key (some ⟨g, 0, none⟩, 2, 2)).mono fun r w' ⟨a, b⟩ => ⟨a, 0, b.symm⟩
  · exact IdxJ.put_full h.I h.T.fit.geo hem hemp key (some ⟨g, 0, none⟩, 2, 2) h0 ht

theorem sl_put {key g : Nat} (h : ∀ i k u, S i = some (k, u) → ∃ x : SV, u = .slice x.1 x.2.1 x.2.2) : ∀ i k u, putAt n S key (rowV g) i = some (k, u) → ∃ x : SV, u = .slice x.1 x.2.1 x.2.2 := by
  intro i k u hi
  unfold putAt upd at hi
  split at hi
  · simp at hi; exact ⟨(some ⟨g, 0, none⟩, 2, 2), hi.2.symm⟩
  · exact h i k u hi

/-- Behind a put that was taken. -/
theorem put_fin {w1 w2 : World} (h : Keep w wr b s bb n most e c S f) {key : Nat} (hk : key < 18446744073709551616) {g : Nat} {N : Int} (c' : Nat) (hg : wr.cell? ⟨g, 0, none⟩ = some (.int .i64 N)) (hgn : g ≠ b ∧ g ≠ s ∧ g ≠ bb)
    (T' : TabJ n c' most e (putAt n S key (rowV g))) (f1 : Frm [b, s] wr w1) (i1 : IdxAt w1 b s most c' n (conc nilS (putAt n S key (rowV g)))) (f2 : Frm [bb] w1 w2) (m2 : MapB w2 bb (fput f key N) c') :
    Keep w w2 b s bb n most e c' (putAt n S key (rowV g)) (fput f key N) := by
  obtain ⟨em, hem, hemp⟩ := h.T.emp
  have hl := find_lt h.T.pos S key
  have hlo := h.lo
  have hap := h.ap
  refine ⟨T', i1.frm f2 (by simp; exact fun e => hap.1 e.symm) (by simp; exact fun e => hap.2 e.symm), m2, ?_, ?_, ?_, hap, ?_, hlo⟩
  · intro p k u hp
    unfold putAt upd at hp
    split at hp
    · simp at hp; omega
    · exact h.ks p k u hp
  · intro p k u hpn hp
    have hcell : ∀ g' N', wr.cell? ⟨g', 0, none⟩ = some (.int .i64 N') → g' ≠ b → g' ≠ s → g' ≠ bb → w2.cell? ⟨g', 0, none⟩ = some (.int .i64 N') := by
      intro g' N' hc h1 h2 h3
      have e1 := f1.block g' (cell_lt hc) (by simp; exact ⟨h1, h2⟩)
      have e2 := f2.block g' (by have := f1.size; have := cell_lt hc; omega) (by simp; exact h3)
      exact (World.cell?_of_block (e2.trans e1)).trans hc
    unfold putAt upd at hp
    split at hp
    · simp at hp
      obtain ⟨rfl, rfl⟩ := hp
      exact ⟨g, N, rfl, by unfold fput; rw [if_pos rfl], hcell g N hg hgn.1 hgn.2.1 hgn.2.2, hgn⟩
    · rename_i hpq
      obtain ⟨g', N', h1, h2, h3, h4, h5, h6⟩ := h.ag p k u hpn hp
      refine ⟨g', N', h1, ?_, hcell g' N' h3 h4 h5 h6, h4, h5, h6⟩
      unfold fput
      split
      · next e1 =>
        have e1' : k = key := by omega
        subst e1'
        exfalso
        exact hpq (h.T.inv.find_of hem hemp hpn hp).symm
      · exact h2
  · intro k hno
    have hkk : k ≠ key := fun e1 => by
      subst e1
      exact hno (find n S k) hl (rowV g) (by unfold putAt; exact upd_same _ _ _)
    unfold fput
    rw [if_neg (by omega)]
    refine h.no k fun p hp u hs => ?_
    by_cases e1 : p = find n S key
    · have h1 := (find_spec hem hemp key).1
      rw [e1] at hs
      exact hkk (stopAt_some h1 hs)
    · exact hno p hp u (by unfold putAt; rw [upd_other _ _ e1]; exact hs)
  · have hb := h.bel.trans (f1.below h.bel.size (by simp; omega))
    exact hb.trans (f2.below hb.size (by simp; omega))

/-- Behind a drop. -/
theorem drop_fin {w1 w2 : World} (h : Keep w wr b s bb n most e (c + 1) S f) {key : Nat} {u0 : Value} (ht : S (find n S key) = some (key, u0)) (f1 : Frm [b, s] wr w1)
    (i1 : IdxAt w1 b s most c n (conc nilS (dropAt n S (find n S key)))) (f2 : Frm [bb] w1 w2) (m2 : MapB w2 bb (fdel f key) c) :
    Keep w w2 b s bb n most e c (dropAt n S (find n S key)) (fdel f key) := by
  obtain ⟨em, hem, hemp⟩ := h.T.emp
  have hq := find_lt h.T.pos S key
  have hlo := h.lo
  have hap := h.ap
  have hne : find n S key ≠ em := fun e' => by rw [e', hemp] at ht; simp at ht
  have hi := dropAt_inv h.T.inv hq hem hemp hne
  have hmem : ∀ x : Nat × Value, (∃ p, p < n ∧ dropAt n S (find n S key) p = some x) ↔ (∃ p, p < n ∧ p ≠ find n S key ∧ S p = some x) := by
    intro x
    refine (dropGo_mem n (upd S (find n S key) none) (find n S key) (nx n (find n S key)) em (Dst.start h.T.inv hq hem hemp hne) (Nat.le_of_lt (dist_lt (nx_lt hq) hem)) x).trans ?_
    constructor
    · rintro ⟨p, hp, hs⟩
      unfold upd at hs
      split at hs
      · simp at hs
      · exact ⟨p, hp, by assumption, hs⟩
    · rintro ⟨p, hp, hpn, hs⟩
      exact ⟨p, hp, by rw [upd_other _ _ hpn]; exact hs⟩
  refine ⟨⟨hi.1, by have := cnt_dropAt h.T.inv hq hem hemp (by rw [ht]; simp); have := h.T.cnt; omega, by have := h.T.le; omega, h.T.fit, ?_⟩, i1.frm f2 (by simp; exact fun e => hap.1 e.symm) (by simp; exact fun e => hap.2 e.symm), m2, ?_, ?_, ?_, hap, ?_, hlo⟩
  · intro p k u hp
    exact dropAt_all (P := fun x => ∃ y : SV, x.2 = .slice y.1 y.2.1 y.2.2) (fun j x hx => h.T.sl j x.1 x.2 hx) p (k, u) hp
  · intro p k u hp
    exact dropAt_all (P := fun x => x.1 < 18446744073709551616) (fun j x hx => h.ks j x.1 x.2 hx) p (k, u) hp
  · intro p k u hpn hp
    obtain ⟨p', hp', hpq, hs'⟩ := (hmem (k, u)).1 ⟨p, hpn, hp⟩
    obtain ⟨g', N', h1, h2, h3, h4, h5, h6⟩ := h.ag p' k u hp' hs'
    have e1 := f1.block g' (cell_lt h3) (by simp; exact ⟨h4, h5⟩)
    have e2 := f2.block g' (by have := f1.size; have := cell_lt h3; omega) (by simp; exact h6)
    refine ⟨g', N', h1, ?_, (World.cell?_of_block (e2.trans e1)).trans h3, h4, h5, h6⟩
    unfold fdel
    rw [if_neg, h2]
    intro e3
    have : k = key := by omega
    subst this
    exact hpq (h.T.inv.find_of hem hemp hp' hs').symm
  · intro k hno
    unfold fdel
    split
    · rfl
    · next hk =>
      refine h.no k fun p hp u hs => ?_
      have hpq : p ≠ find n S key := fun e1 => by rw [e1, ht] at hs; simp at hs; omega
      obtain ⟨p', hp', hs'⟩ := (hmem (k, u)).2 ⟨p, hp, hpq, hs⟩
      exact hno p' hp' u hs'
  · have hb := h.bel.trans (f1.below h.bel.size (by simp; omega))
    exact hb.trans (f2.below hb.size (by simp; omega))
/-- A delete of a key that is not there. -/
theorem del_none {w2 : World} (h : Keep w wr b s bb n most e c S f) {key : Nat} (hf : f key = none) (f2 : Frm [bb] wr w2) (m2 : MapB w2 bb (fdel f key) c) : Keep w w2 b s bb n most e c S (fdel f key) := by
  have hlo := h.lo
  have hap := h.ap
  have he : ∀ k : Nat, fdel f key k = f k := fun k => by unfold fdel; split; · next e1 => rw [show (k : Int) = key from e1, hf]
                                                         · rfl
  refine ⟨h.T, h.I.frm f2 (by simp; exact fun e => hap.1 e.symm) (by simp; exact fun e => hap.2 e.symm), m2, h.ks, ?_, ?_, hap, h.bel.trans (f2.below h.bel.size (by simp; omega)), hlo⟩
  · intro p k u hpn hp
    obtain ⟨g', N', h1, h2, h3, h4, h5, h6⟩ := h.ag p k u hpn hp
    exact ⟨g', N', h1, by rw [he]; exact h2, (World.cell?_of_block (f2.block g' (cell_lt h3) (by simp; exact h6))).trans h3, h4, h5, h6⟩
  · intro k hno; rw [he]; exact h.no k hno

theorem put_new (h : Keep w wr b s bb n most e c S f) {key : Nat} (hc : c < most) (ht : S (find n S key) = none) (g : Nat) :
    Calls Try.prog 18 #[.pointer (some ⟨b, 0, none⟩), .int .u64 key, rowV g] wr (fun r w' => r = .returned (.int .i64 0) ∧ Frm [b, s] wr w' ∧ IdxAt w' b s most (c + 1) n (conc nilS (putAt n S key (rowV g)))) ∧ TabJ n (c + 1) most e (putAt n S key (rowV g)) := by
  obtain ⟨em, hem, hemp⟩ := h.T.emp
  exact ⟨IdxJ.put_new h.I h.T.fit.geo hem hemp key (some ⟨g, 0, none⟩, 2, 2) hc (by have := h.T.fit.ge; omega) ht, ⟨h.T.inv.put hem hemp key _, by rw [cnt_putAt_new h.T.pos ht, h.T.cnt], hc, h.T.fit, sl_put h.T.sl⟩⟩
theorem put_old (h : Keep w wr b s bb n most e c S f) {key : Nat} (ht : S (find n S key) ≠ none) (g : Nat) :
    Calls Try.prog 18 #[.pointer (some ⟨b, 0, none⟩), .int .u64 key, rowV g] wr (fun r w' => r = .returned (.int .i64 0) ∧ Frm [b, s] wr w' ∧ IdxAt w' b s most c n (conc nilS (putAt n S key (rowV g)))) ∧ TabJ n c most e (putAt n S key (rowV g)) := by
  obtain ⟨em, hem, hemp⟩ := h.T.emp
  exact ⟨IdxJ.put_old h.I h.T.fit.geo hem hemp key (some ⟨g, 0, none⟩, 2, 2) (by have := h.T.le; have := h.T.count_pos (find_lt h.T.pos S key) ht; omega) ht, ⟨h.T.inv.put hem hemp key _, by rw [cnt_putAt_old h.T.pos ht, h.T.cnt], h.T.le, h.T.fit, sl_put h.T.sl⟩⟩
theorem get_one (h : Keep w wr b s bb n most e c S f) (key : Nat) :
    Calls Try.prog 20 #[.pointer (some ⟨b, 0, none⟩), .int .u64 key] wr fun r w' => r = .returned (.tuple #[(conc nilS S (find n S key)).2.2, .bool (conc nilS S (find n S key)).1]) ∧ ∃ m, w' = wr.drewN m := by
  obtain ⟨em, hem, hemp⟩ := h.T.emp
  exact IdxJ.get_c h.I h.T.fit.geo hem hemp key
theorem drop_no (h : Keep w wr b s bb n most e c S f) (key : Nat) (ht : S (find n S key) = none) :
    Calls Try.prog 19 #[.pointer (some ⟨b, 0, none⟩), .int .u64 key] wr fun r w' => r = .returned (.tuple #[.slice none 0 0, .bool false]) ∧ ∃ m, w' = wr.drewN m := by
  obtain ⟨em, hem, hemp⟩ := h.T.emp
  exact IdxJ.drop_none h.I h.T.fit.geo hem hemp key ht
theorem drop_yes (h : Keep w wr b s bb n most e (c + 1) S f) {key g : Nat} (ht : S (find n S key) = some (key, rowV g)) :
    Calls Try.prog 19 #[.pointer (some ⟨b, 0, none⟩), .int .u64 key] wr fun r w' => r = .returned (.tuple #[rowV g, .bool true]) ∧ Frm [b, s] wr w' ∧ IdxAt w' b s most c n (conc nilS (dropAt n S (find n S key))) := by
  obtain ⟨em, hem, hemp⟩ := h.T.emp
  exact IdxJ.drop_some h.I h.T.fit.geo h.T.inv (by have := h.T.lt; omega) hem hemp key (v := (some ⟨g, 0, none⟩, 2, 2)) ht h.T.sl
end
end Go.Proofs.Ytcieieljgmkjmaa.Keep
