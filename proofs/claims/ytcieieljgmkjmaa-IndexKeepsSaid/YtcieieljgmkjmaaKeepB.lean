/- Steps that came in, with their ranges. -/
import Derived.Test.YtcieieljgmkjmaaKeepA
import Derived.Deep.Slices
import Derived.Deep.Fields
import Derived.ChangeSame
import Derived.ChangeArms
import Derived.OpenShut
set_option linter.unusedVariables false
namespace Go.Proofs.Ytcieieljgmkjmaa.Keep
open Go.RowKit Winnow Go.ChangeShapes Go.WideShapes Go.Deep

/-- A slice of steps that came in. -/
def StepsW (w : World) (a : Option Addr) (len : Nat) : Prop :=
  len ≤ maxLen ∧ ∀ i, i < len → ∃ b off, a = some ⟨b, off, none⟩ ∧ ∃ (kind N : Int) (key : Nat), lwf .i64 N ∧ key < 18446744073709551616 ∧
    w.cell? ⟨b, off + i * 3, none⟩ = some (.int .i64 kind) ∧ w.cell? ⟨b, off + i * 3 + 1, none⟩ = some (.int .i64 N) ∧ w.cell? ⟨b, off + i * 3 + 2, none⟩ = some (.int .u64 key)

section
variable {H : Type} {enc : TypeId × Value → H} {P : Program} {w : World} {base : Nat} {spare : Nat → Bool} {held : Bool}
theorem open_stepsW {t e : TypeId} {f0 f1 f2 : Field} {fuel : Nat} {a : Option Addr} {len cap : Nat} {x : DataW H × List MemPlace} (ht : P.underlying t = some (.slice e)) (he : P.underlying e = some (.struct #[f0, f1, f2]))
    (hone : oneCellFields P #[f0, f1, f2] = true) (hC : P.cellsOf e = 3) (t0 : P.underlying f0.type = some (.int .i64)) (t1 : P.underlying f1.type = some (.int .i64)) (t2 : P.underlying f2.type = some (.int .u64))
    (h : DataW.trod enc P w base spare held fuel t [.slice a len cap] = some x) : StepsW w a len := by
  rcases open_slice ht h with ⟨h0, _⟩ | ⟨a', len', cap', m, n, D, Pl, hcs, hb, hl, hm, hmm, hx, hi⟩
  · simp at h0; obtain ⟨rfl, rfl, rfl⟩ := h0
    exact ⟨Nat.zero_le _, fun i hi => by omega⟩
  · simp at hcs; obtain ⟨rfl, rfl, rfl⟩ := hcs
    refine ⟨by omega, fun i hil => ?_⟩
    have him : i < m := by rw [hmm]; split <;> omega
    obtain ⟨cs', hc, ht'⟩ := hi i him
    rw [hC] at hc
    obtain ⟨ys, n', hn', hy, hlen, hyl, hf⟩ := DataW.trod_struct he ht'
    obtain ⟨_, hcl, hat⟩ := World.cells?_some hc
    have key : ∀ (j : Nat) (f : Field) (hj : #[f0, f1, f2][j]? = some f) (hjl : j < 3), w.cell? (a'.add (i * 3 + j)) = some (cs'[j]'(by omega)) ∧ ∃ y, DataW.trod enc P w base spare held n' f.type [cs'[j]'(by omega)] = some y := by
      intro j f hj hjl
      obtain ⟨ho, hk⟩ := hone_of hone j f hj
      have hcell := hat j hjl
      have h1 := hf j f hj
      rw [ho, hk] at h1
      have hone' : (cs'.drop j).take 1 = [cs'[j]'(by omega)] := by
        rw [List.drop_eq_getElem_cons (by omega)]
        rfl
      rw [hone'] at h1
      have hl3 : #[f0, f1, f2].size = 3 := rfl
      refine ⟨?_, _, h1.trans (List.getElem?_eq_getElem (by omega))⟩
      rw [← Go.Deep.add_add, hcell, List.getElem?_eq_getElem (by omega)]
    obtain ⟨k0, y0, g0⟩ := key 0 f0 rfl (by omega)
    obtain ⟨k1, y1, g1⟩ := key 1 f1 rfl (by omega)
    obtain ⟨k2, y2, g2⟩ := key 2 f2 rfl (by omega)
    obtain ⟨x0, e0, _⟩ := DataW.trod_int t0 g0
    obtain ⟨x1, e1, _, w1⟩ := DataW.trod_int t1 g1
    obtain ⟨x2, e2, _, w2⟩ := DataW.trod_int t2 g2
    simp at e0 e1 e2
    rw [e0] at k0
    rw [e1] at k1
    rw [e2] at k2
    obtain ⟨b, off, spot⟩ := a'
    have hspot : spot = none := by
      obtain ⟨cs0, hc0, _⟩ := hi 0 (by omega)
      rw [hC] at hc0
      obtain ⟨_, l0, at0⟩ := World.cells?_some hc0
      have z := (at0 0 (by omega)).trans (List.getElem?_eq_getElem (by omega))
      simpa [Addr.add] using World.cell?_spot z
    subst hspot
    rw [Go.WideShapes.add_plain] at k0 k1 k2
    have hb2 := bounds_u64 w2
    obtain ⟨kk, rfl⟩ := Int.eq_ofNat_of_zero_le hb2.1
    exact ⟨b, off, rfl, x0, x1, kk, w1, by omega, k0, k1, k2⟩
end
end Go.Proofs.Ytcieieljgmkjmaa.Keep
