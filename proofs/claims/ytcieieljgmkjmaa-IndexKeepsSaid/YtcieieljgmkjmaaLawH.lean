/- The index's laws: several indexes side by side. -/
import Derived.Test.YtcieieljgmkjmaaLawG
set_option linter.unusedVariables false
namespace Go.Proofs.Ytcieieljgmkjmaa.LawC
open Go.RowKit Winnow

/-- A slice of steps that came in, told by a function. -/
def StepsF (w : World) (a : Option Addr) (len : Nat) (f : Nat → Int × Int × Nat) : Prop :=
  ∀ i, i < len → ∃ b off, a = some ⟨b, off, none⟩ ∧
    w.cell? ⟨b, off + i * 3, none⟩ = some (.int .i64 (f i).1) ∧ w.cell? ⟨b, off + i * 3 + 1, none⟩ = some (.int .i64 (f i).2.1) ∧ w.cell? ⟨b, off + i * 3 + 2, none⟩ = some (.int .u64 (f i).2.2)
theorem StepsAt.fn {w : World} {a : Option Addr} {len : Nat} (h : StepsAt w a len) : ∃ f, StepsF w a len f := by
  have h1 : ∀ i, ∃ x : Int × Int × Nat, i < len → ∃ b off, a = some ⟨b, off, none⟩ ∧
      w.cell? ⟨b, off + i * 3, none⟩ = some (.int .i64 x.1) ∧ w.cell? ⟨b, off + i * 3 + 1, none⟩ = some (.int .i64 x.2.1) ∧ w.cell? ⟨b, off + i * 3 + 2, none⟩ = some (.int .u64 x.2.2) := by
    intro i
    by_cases hi : i < len
    · obtain ⟨b, off, e, kind, N, key, c0, c1, c2⟩ := h.2 i hi
      exact ⟨(kind, N, key), fun _ => ⟨b, off, e, c0, c1, c2⟩⟩
    · exact ⟨(0, 0, 0), fun h' => absurd h' hi⟩
  obtain ⟨f, hf⟩ := Classical.axiomOfChoice h1
  exact ⟨f, hf⟩

variable {n most e : Nat}

/-- Several indexes, no two of which share a block. -/
structure Many (w0 wr : World) (l : List (Nat × Nat × Tbl n most e)) : Prop where
  bel : Below w0.heap.size w0 wr
  hold : ∀ p, p ∈ l → Holds wr p.1 p.2.1 p.2.2 ∧ w0.heap.size ≤ p.1 ∧ w0.heap.size ≤ p.2.1
  nd : (l.flatMap fun p => [p.1, p.2.1]).Nodup

variable {w0 wr : World} {l pre post : List (Nat × Nat × Tbl n most e)} {b s : Nat} {t : Tbl n most e}

theorem Many.lens (M : Many w0 wr l) : ∀ k, k ∈ (l.flatMap fun p => [p.1, p.2.1]) → k < wr.heap.size := by
  intro k hk
  obtain ⟨p, hp, hk⟩ := List.mem_flatMap.1 hk
  have h := (M.hold p hp).1
  simp at hk
  rcases hk with rfl | rfl
  · exact IdxAt.lb h
  · exact IdxAt.ls h

theorem Many.cell (M : Many w0 wr l) {x o : Nat} {v : Value} (h : w0.cell? ⟨x, o, none⟩ = some v) : wr.cell? ⟨x, o, none⟩ = some v :=
  (World.cell?_of_block (M.bel.block x (cell_lt h))).trans h

theorem Many.later {w' : World} (M : Many w0 wr l) (hB : Below wr.heap.size wr w') : Many w0 w' l := by
  refine ⟨M.bel.trans (hB.mono M.bel.size), fun p hp => ?_, M.nd⟩
  obtain ⟨h, h1, h2⟩ := M.hold p hp
  exact ⟨IdxAt.of_blocks h (hB.block _ (IdxAt.lb h)) (hB.block _ (IdxAt.ls h)), h1, h2⟩

theorem Many.step (M : Many w0 wr (pre ++ (b, s, t) :: post)) (x : Int × Int × Nat) :
    Calls Try.prog 23 #[.pointer (some ⟨b, 0, none⟩), .agg #[.int .i64 x.1, .int .i64 x.2.1, .int .u64 x.2.2]] wr fun r w' => r = .returned (.tuple #[]) ∧ Hid (Many w0 w' (pre ++ (b, s, next t x) :: post)) := by
  have hm := M.hold (b, s, t) (by simp)
  refine (do_c t x wr b s hm.1).mono ?_
  rintro r w' ⟨rfl, f, h⟩
  refine ⟨rfl, ⟨M.bel.trans (f.below M.bel.size (by intro k hk; simp at hk; rcases hk with rfl | rfl; exact hm.2.1; exact hm.2.2)), fun p hp => ?_, by simpa using M.nd⟩⟩
  have nd := M.nd
  simp only [List.flatMap_append, List.flatMap_cons] at nd
  rw [List.nodup_append] at nd
  obtain ⟨_, n2, n3⟩ := nd
  have n2' := n2
  simp only [List.cons_append, List.nil_append, List.nodup_cons] at n2'
  obtain ⟨n4, n5, _⟩ := n2'
  rcases List.mem_append.1 hp with hp | hp
  · obtain ⟨q, q1, q2⟩ := M.hold p (by simp [hp])
    have hb : ∀ k, k ∈ [p.1, p.2.1] → k ∉ [b, s] := by
      intro k hk hk'
      refine n3 k (List.mem_flatMap.2 ⟨p, hp, hk⟩) k ?_ rfl
      simp at hk' ⊢
      rcases hk' with rfl | rfl
      · exact .inl rfl
      · exact .inr (.inl rfl)
    exact ⟨IdxAt.frm q f (hb _ (by simp)) (hb _ (by simp)), q1, q2⟩
  · rcases List.mem_cons.1 hp with rfl | hp
    · exact ⟨h, hm.2.1, hm.2.2⟩
    · obtain ⟨q, q1, q2⟩ := M.hold p (by simp [hp])
      have hb : ∀ k, k ∈ [p.1, p.2.1] → k ∉ [b, s] := by
        intro k hk hk'
        have hmem : k ∈ post.flatMap (fun p => [p.1, p.2.1]) := List.mem_flatMap.2 ⟨p, hp, hk⟩
        simp at hk'
        rcases hk' with rfl | rfl
        · exact n4 (List.mem_cons_of_mem _ hmem)
        · exact n5 hmem
      exact ⟨IdxAt.frm q f (hb _ (by simp)) (hb _ (by simp)), q1, q2⟩

theorem Many.twin (M : Many w0 wr l) (hm : (b, s, t) ∈ l) :
    Calls Try.prog 27 #[.pointer (some ⟨b, 0, none⟩)] wr fun r w' => ∃ b' s', r = .returned (.pointer (some ⟨b', 0, none⟩)) ∧ Hid (Many w0 w' ((b', s', t) :: l)) := by
  have h := M.hold _ hm
  refine (IdxI.twin_c h.1 t.ok.fit.geo t.ok.int).mono ?_
  rintro r w' ⟨b', s', rfl, hB, hb, hs, hI⟩
  have M' := M.later hB
  have hl := M.lens
  have hsz := M.bel.size
  refine ⟨b', s', rfl, ⟨M'.bel, fun p hp => ?_, ?_⟩⟩
  · rcases List.mem_cons.1 hp with rfl | hp
    · exact ⟨hI, by show w0.heap.size ≤ b'; omega, by show w0.heap.size ≤ s'; omega⟩
    · exact M'.hold p hp
  · have hne := hI.ne
    simp only [List.flatMap_cons, List.cons_append, List.nil_append, List.nodup_cons]
    refine ⟨?_, ?_, M.nd⟩
    · intro hk
      rcases List.mem_cons.1 hk with e | hk
      · exact hne e
      · have := hl _ hk; omega
    · intro hk
      have := hl _ hk; omega

theorem Many.like {b' s' : Nat} {t' : Tbl n most e} (M : Many w0 wr l) (hm : (b, s, t) ∈ l) (hm' : (b', s', t') ∈ l) (ht : t' = t) :
    Calls Try.prog 30 #[.pointer (some ⟨b, 0, none⟩), .pointer (some ⟨b', 0, none⟩)] wr fun r w' => r = .returned (.bool true) ∧ Hid (Many w0 w' l) := by
  subst ht
  refine (like_c t'.ok (M.hold _ hm).1 (M.hold _ hm').1).mono ?_
  rintro r w' ⟨rfl, hB⟩
  exact ⟨rfl, M.later hB⟩

theorem Many.drewN (M : Many w0 wr l) (m : Nat) : Many w0 (wr.drewN m) l := M.later (below_dn _ _ _)
noncomputable def tbl0 (F : Fit most n e) : Tbl n most e := ⟨0, fun _ => none, tab0 F⟩
theorem many0 {w w1 : World} (F : Fit most n e) (I : IdxAt w1 b s most 0 n (conc (.int .i64 0) fun _ => none)) (hB : Below w.heap.size w w1) (hb : w.heap.size ≤ b) (hs : w.heap.size ≤ s) : Many w w1 [(b, s, tbl0 F)] :=
  ⟨hB, fun p hp => by simp at hp; subst hp; exact ⟨I, hb, hs⟩, by simp; exact I.ne⟩
end Go.Proofs.Ytcieieljgmkjmaa.LawC
