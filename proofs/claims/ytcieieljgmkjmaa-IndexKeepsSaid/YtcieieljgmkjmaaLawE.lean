/- The index's laws: a play's state; a slice of steps. -/
import Derived.Test.YtcieieljgmkjmaaLawD
import Derived.Test.YtcieieljgmkjmaaLawP
import Derived.Test.YtcieieljgmkjmaaIdxT
import Derived.Deep.Slices
import Derived.Deep.Fields
import Derived.ChangeSame
import Derived.ChangeArms
import Derived.OpenShut
set_option linter.unusedVariables false
namespace Go.Proofs.Ytcieieljgmkjmaa.LawC
open Go.RowKit Winnow Go.ChangeShapes Go.WideShapes Go.Deep

/-- A slice of steps that came in. -/
def StepsAt (w : World) (a : Option Addr) (len : Nat) : Prop :=
  len ≤ maxLen ∧ ∀ i, i < len → ∃ b off, a = some ⟨b, off, none⟩ ∧ ∃ (kind N : Int) (key : Nat),
    w.cell? ⟨b, off + i * 3, none⟩ = some (.int .i64 kind) ∧ w.cell? ⟨b, off + i * 3 + 1, none⟩ = some (.int .i64 N) ∧ w.cell? ⟨b, off + i * 3 + 2, none⟩ = some (.int .u64 key)

theorem StepsAt.later {w w' : World} {a : Option Addr} {len : Nat} (h : StepsAt w a len) (hb : Below w.heap.size w w') : StepsAt w' a len := by
  refine ⟨h.1, fun i hi => ?_⟩
  obtain ⟨b, off, rfl, kind, N, key, c0, c1, c2⟩ := h.2 i hi
  have hl : b < w.heap.size := cell_lt c0
  have e := hb.block b hl
  exact ⟨b, off, rfl, kind, N, key, (World.cell?_of_block e).trans c0, (World.cell?_of_block e).trans c1, (World.cell?_of_block e).trans c2⟩

section
variable {H : Type} {enc : TypeId × Value → H} {P : Program} {w : World} {base : Nat} {spare : Nat → Bool} {held : Bool}
theorem open_steps {t e : TypeId} {f0 f1 f2 : Field} {fuel : Nat} {a : Option Addr} {len cap : Nat} {x : DataW H × List MemPlace} (ht : P.underlying t = some (.slice e)) (he : P.underlying e = some (.struct #[f0, f1, f2]))
    (hone : oneCellFields P #[f0, f1, f2] = true) (hC : P.cellsOf e = 3) (t0 : P.underlying f0.type = some (.int .i64)) (t1 : P.underlying f1.type = some (.int .i64)) (t2 : P.underlying f2.type = some (.int .u64))
    (h : DataW.trod enc P w base spare held fuel t [.slice a len cap] = some x) : StepsAt w a len := by
  rcases open_slice ht h with ⟨h0, _⟩ | ⟨a', len', cap', m, n, D, Pl, hcs, hb, hl, hm, hmm, hx, hi⟩
  · simp at h0; obtain ⟨rfl, rfl, rfl⟩ := h0
    exact ⟨Nat.zero_le _, fun i hi => by omega⟩
  · simp at hcs; obtain ⟨rfl, rfl, rfl⟩ := hcs
    refine ⟨by omega, fun i hil => ?_⟩
    have him : i < m := by rw [hmm]; split <;> omega
    obtain ⟨cs', hc, ht'⟩ := hi i him
    rw [hC] at hc
    obtain ⟨ys, n', hn', hy, hlen, hyl, hf⟩ := DataW.trod_struct he ht'
    obtain ⟨_, hcl, hat⟩ := World.cells?_some hc
    have key : ∀ (j : Nat) (f : Field) (hj : #[f0, f1, f2][j]? = some f) (hjl : j < 3), w.cell? (a'.add (i * 3 + j)) = some (cs'[j]'(by omega)) ∧ ∃ y, DataW.trod enc P w base spare held n' f.type [cs'[j]'(by omega)] = some y := by
      intro j f hj hjl
      obtain ⟨ho, hk⟩ := hone_of hone j f hj
      have hcell := hat j hjl
      have h1 := hf j f hj
      rw [ho, hk] at h1
      have hone' : (cs'.drop j).take 1 = [cs'[j]'(by omega)] := by
        rw [List.drop_eq_getElem_cons (by omega)]
        rfl
      rw [hone'] at h1
      have hl3 : #[f0, f1, f2].size = 3 := rfl
      refine ⟨?_, _, h1.trans (List.getElem?_eq_getElem (by omega))⟩
      rw [← Go.Deep.add_add, hcell, List.getElem?_eq_getElem (by omega)]
    obtain ⟨k0, y0, g0⟩ := key 0 f0 rfl (by omega)
    obtain ⟨k1, y1, g1⟩ := key 1 f1 rfl (by omega)
    obtain ⟨k2, y2, g2⟩ := key 2 f2 rfl (by omega)
    obtain ⟨x0, e0, _⟩ := DataW.trod_int t0 g0
    obtain ⟨x1, e1, _⟩ := DataW.trod_int t1 g1
    obtain ⟨x2, e2, _, w2⟩ := DataW.trod_int t2 g2
    simp at e0 e1 e2
    rw [e0] at k0
    rw [e1] at k1
    rw [e2] at k2
    obtain ⟨b, off, spot⟩ := a'
    have hspot : spot = none := by
      obtain ⟨cs0, hc0, _⟩ := hi 0 (by omega)
      rw [hC] at hc0
      obtain ⟨_, l0, at0⟩ := World.cells?_some hc0
      have z := (at0 0 (by omega)).trans (List.getElem?_eq_getElem (by omega))
      simpa [Addr.add] using World.cell?_spot z
    subst hspot
    rw [Go.WideShapes.add_plain] at k0 k1 k2
    obtain ⟨kk, rfl⟩ := Int.eq_ofNat_of_zero_le (bounds_u64 w2).1
    exact ⟨b, off, rfl, x0, x1, kk, k0, k1, k2⟩
end

/-- A play, on its way. -/
structure Good (w wr : World) (b s rb rx rk rv most count n e : Nat) (S : Tb Value) : Prop where
  T : TabOk n count most e S
  two : Two wr b s rb rx rk rv most count n e S
  ap : Apart b s rb rx rk rv
  bel : Below w.heap.size w wr
  lb : w.heap.size ≤ b
  ls : w.heap.size ≤ s
  l1 : w.heap.size ≤ rb
  l2 : w.heap.size ≤ rx
  l3 : w.heap.size ≤ rk
  l4 : w.heap.size ≤ rv

variable {w wr : World} {b s rb rx rk rv most count n e : Nat} {S : Tb Value}

theorem Good.told (G : Good w wr b s rb rx rk rv most count n e S) (kind N : Int) (key : Nat) :
    Calls Try.prog 28 #[.pointer (some ⟨b, 0, none⟩), .pointer (some ⟨rb, 0, none⟩), .agg #[.int .i64 kind, .int .i64 N, .int .u64 key]] wr fun r w' => r = .returned (.bool true) ∧ ∃ count' S', Hid (Good w w' b s rb rx rk rv most count' n e S') := by
  have h : Calls Try.prog 28 #[.pointer (some ⟨b, 0, none⟩), .pointer (some ⟨rb, 0, none⟩), .agg #[.int .i64 kind, .int .i64 N, .int .u64 key]] wr (Told wr b s rb rx rk rv most n e) := by
    by_cases h1 : kind = 1
    · subst h1; exact told_put G.T G.two G.ap N key
    by_cases h2 : kind = 2
    · subst h2; exact told_get G.T G.two N key
    by_cases h3 : kind = 3
    · subst h3; exact told_drop G.T G.two G.ap N key
    by_cases h4 : kind = 4
    · subst h4; exact told_slot G.T G.two N key
    by_cases h5 : kind = 5
    · subst h5; exact told_all G.T G.two N key
    exact told_else G.T G.two h1 h2 h3 h4 h5 N key
  refine h.mono ?_
  rintro r w' ⟨rfl, f, count', S', T', t'⟩
  exact ⟨rfl, count', S', ⟨T', t', G.ap, G.bel.trans (f.below G.bel.size (by have := G.lb; have := G.ls; have := G.l1; have := G.l2; have := G.l3; have := G.l4; intro k hk; simp at hk; omega)), G.lb, G.ls, G.l1, G.l2, G.l3, G.l4⟩⟩

theorem Good.twin (G : Good w wr b s rb rx rk rv most count n e S) :
    Calls Try.prog 27 #[.pointer (some ⟨b, 0, none⟩)] wr fun r w' => ∃ b' s', r = .returned (.pointer (some ⟨b', 0, none⟩)) ∧ Hid (Good w w' b' s' rb rx rk rv most count n e S) := by
  obtain ⟨D, i, r, p⟩ := G.two
  refine (IdxI.twin_c i G.T.fit.geo G.T.int).mono ?_
  rintro r' w' ⟨b', s', rfl, hB, hb, hs, hI⟩
  have q1 := r.lb; have q2 := r.lx; have q3 := r.lk; have q4 := r.lv
  have hsz := G.bel.size
  refine ⟨b', s', rfl, ⟨G.T, ⟨D, hI, r.of_blocks (hB.block _ q1) (hB.block _ q2) (hB.block _ q3) (hB.block _ q4), p⟩, ?_, G.bel.trans (hB.mono hsz), by omega, by omega, G.l1, G.l2, G.l3, G.l4⟩⟩
  refine ⟨?_, ?_, ?_, ?_, ?_, ?_⟩ <;> simp <;> omega

theorem Good.all (G : Good w wr b s rb rx rk rv most count n e S) :
    Calls Try.prog 29 #[.pointer (some ⟨b, 0, none⟩), .pointer (some ⟨rb, 0, none⟩)] wr fun r w' => r = .returned (.bool true) ∧ Hid (Good w w' b s rb rx rk rv most count n e S) := by
  obtain ⟨D, i, r, p⟩ := G.two
  refine (LawB.all_c i G.T.fit.geo G.T.int G.T.inv r p).mono ?_
  rintro r' w2 ⟨rfl, hB⟩
  exact ⟨rfl, G.T, ⟨D, i.of_blocks (hB.block b i.lb) (hB.block s i.ls), r.of_blocks (hB.block rb r.lb) (hB.block rx r.lx) (hB.block rk r.lk) (hB.block rv r.lv), p⟩, G.ap, G.bel.trans (hB.mono G.bel.size), G.lb, G.ls, G.l1, G.l2, G.l3, G.l4⟩

theorem tab0 {n most e : Nat} (F : Fit most n e) : TabOk n 0 most e (fun _ => none) :=
  ⟨Inv.empty n, cnt_none n, Nat.zero_le _, F, fun i k u h => by simp at h⟩

theorem Good.drewN (G : Good w wr b s rb rx rk rv most count n e S) (m : Nat) : Good w (wr.drewN m) b s rb rx rk rv most count n e S := by
  obtain ⟨D, i, r, p⟩ := G.two
  exact ⟨G.T, ⟨D, i.drewN m, r.drewN m, p⟩, G.ap, G.bel.trans (below_dn _ _ _), G.lb, G.ls, G.l1, G.l2, G.l3, G.l4⟩
theorem Good.cell (G : Good w wr b s rb rx rk rv most count n e S) {x o : Nat} {v : Value} (h : w.cell? ⟨x, o, none⟩ = some v) : wr.cell? ⟨x, o, none⟩ = some v :=
  (World.cell?_of_block (G.bel.block x (cell_lt h))).trans h

/-- Behind 'both'. -/
theorem good0 {w w0 w1 : World} {most n e : Nat} (F : Fit most n e) (I : IdxAt w1 (w0.heap.size + 1) w0.heap.size most 0 n (conc (.int .i64 0) fun _ => none))
    (R : RefAt w1 (w0.heap.size + 2) (w0.heap.size + 2 + 1) (w0.heap.size + 2 + 2) (w0.heap.size + 2 + 3) most e 0 n (fun _ => (false, 0, 0))) (f0 : Frm [] w w0) (f1 : Frm [] w0 w1) :
    Good w w1 (w0.heap.size + 1) w0.heap.size (w0.heap.size + 2) (w0.heap.size + 2 + 1) (w0.heap.size + 2 + 2) (w0.heap.size + 2 + 3) most 0 n e (fun _ => none) := by
  have := f0.size
  exact ⟨tab0 F, ⟨_, I, R, fun i _ => .inl ⟨rfl, rfl⟩⟩, by refine ⟨?_, ?_, ?_, ?_, ?_, ?_⟩ <;> simp <;> omega, (f0.trans f1).below (Nat.le_refl _) (by simp), by omega, by omega, by omega, by omega, by omega, by omega⟩
end Go.Proofs.Ytcieieljgmkjmaa.LawC
