/- The document's index in memory. -/
import Derived.Test.YtcieieljgmkjmaaIdxBase
set_option linter.unusedVariables false
namespace Winnow
open Go Go.RowKit

/-- The document's index: b its head; x, ks, vs: which places are taken, their keys, their values. -/
structure RefAt (w : World) (b x ks vs most e len n : Nat) (D : Nat → Bool × Nat × Int) : Prop where
  bx : b ≠ x
  bk : b ≠ ks
  bv : b ≠ vs
  xk : x ≠ ks
  xv : x ≠ vs
  kv : ks ≠ vs
  c0 : w.cell? ⟨b, 0, none⟩ = some (.int .i64 most)
  c1 : w.cell? ⟨b, 1, none⟩ = some (.int .i64 e)
  c2 : w.cell? ⟨b, 2, none⟩ = some (.slice (some ⟨x, 0, none⟩) n n)
  c3 : w.cell? ⟨b, 3, none⟩ = some (.slice (some ⟨ks, 0, none⟩) n n)
  c4 : w.cell? ⟨b, 4, none⟩ = some (.slice (some ⟨vs, 0, none⟩) n n)
  c5 : w.cell? ⟨b, 5, none⟩ = some (.int .i64 len)
  fb : ∀ o, w.frozen? ⟨b, o, none⟩ = false
  fx : ∀ o, w.frozen? ⟨x, o, none⟩ = false
  fk : ∀ o, w.frozen? ⟨ks, o, none⟩ = false
  fv : ∀ o, w.frozen? ⟨vs, o, none⟩ = false
  pos : 0 < n
  k0 : ∀ i, i < n → w.cell? ⟨x, i, none⟩ = some (.bool (D i).1)
  k1 : ∀ i, i < n → w.cell? ⟨ks, i, none⟩ = some (.int .u64 (D i).2.1)
  k2 : ∀ i, i < n → w.cell? ⟨vs, i, none⟩ = some (.int .i64 (D i).2.2)

section
variable {w w' : World} {b x ks vs most e len n : Nat} {D : Nat → Bool × Nat × Int}

theorem RefAt.lb (h : RefAt w b x ks vs most e len n D) : b < w.heap.size := cell_lt h.c0
theorem RefAt.lx (h : RefAt w b x ks vs most e len n D) : x < w.heap.size := cell_lt (h.k0 0 h.pos)
theorem RefAt.lk (h : RefAt w b x ks vs most e len n D) : ks < w.heap.size := cell_lt (h.k1 0 h.pos)
theorem RefAt.lv (h : RefAt w b x ks vs most e len n D) : vs < w.heap.size := cell_lt (h.k2 0 h.pos)

theorem RefAt.of_blocks (h : RefAt w b x ks vs most e len n D) (hb : w'.heap[b]? = w.heap[b]?) (hx : w'.heap[x]? = w.heap[x]?) (hk : w'.heap[ks]? = w.heap[ks]?) (hv : w'.heap[vs]? = w.heap[vs]?) : RefAt w' b x ks vs most e len n D := by
  have cb : ∀ o, w'.cell? ⟨b, o, none⟩ = w.cell? ⟨b, o, none⟩ := fun o => World.cell?_of_block hb
  have cx : ∀ o, w'.cell? ⟨x, o, none⟩ = w.cell? ⟨x, o, none⟩ := fun o => World.cell?_of_block hx
  have ck : ∀ o, w'.cell? ⟨ks, o, none⟩ = w.cell? ⟨ks, o, none⟩ := fun o => World.cell?_of_block hk
  have cv : ∀ o, w'.cell? ⟨vs, o, none⟩ = w.cell? ⟨vs, o, none⟩ := fun o => World.cell?_of_block hv
  exact ⟨h.bx, h.bk, h.bv, h.xk, h.xv, h.kv, by rw [cb]; exact h.c0, by rw [cb]; exact h.c1, by rw [cb]; exact h.c2, by rw [cb]; exact h.c3, by rw [cb]; exact h.c4, by rw [cb]; exact h.c5,
    fun o => (World.frozen?_of_block hb).trans (h.fb o), fun o => (World.frozen?_of_block hx).trans (h.fx o), fun o => (World.frozen?_of_block hk).trans (h.fk o), fun o => (World.frozen?_of_block hv).trans (h.fv o), h.pos,
    fun i hi => by rw [cx]; exact h.k0 i hi, fun i hi => by rw [ck]; exact h.k1 i hi, fun i hi => by rw [cv]; exact h.k2 i hi⟩

theorem RefAt.frm {S : List Nat} (h : RefAt w b x ks vs most e len n D) (f : Frm S w w') (hb : b ∉ S) (hx : x ∉ S) (hk : ks ∉ S) (hv : vs ∉ S) : RefAt w' b x ks vs most e len n D :=
  h.of_blocks (f.block b h.lb hb) (f.block x h.lx hx) (f.block ks h.lk hk) (f.block vs h.lv hv)
theorem RefAt.drewN (h : RefAt w b x ks vs most e len n D) (m : Nat) : RefAt (w.drewN m) b x ks vs most e len n D := h.of_blocks rfl rfl rfl rfl

theorem RefAt.setLen (h : RefAt w b x ks vs most e len n D) (c : Nat) : RefAt (w.setCell ⟨b, 5, none⟩ (.int .i64 c)) b x ks vs most e c n D := by
  exact ⟨h.bx, h.bk, h.bv, h.xk, h.xv, h.kv, by rw [cell_setCell_off (by decide)]; exact h.c0, by rw [cell_setCell_off (by decide)]; exact h.c1, by rw [cell_setCell_off (by decide)]; exact h.c2, by rw [cell_setCell_off (by decide)]; exact h.c3, by rw [cell_setCell_off (by decide)]; exact h.c4, cell_setCell_same h.c5,
    fun o => by rw [World.frozen?_setCell]; exact h.fb o, fun o => by rw [World.frozen?_setCell]; exact h.fx o, fun o => by rw [World.frozen?_setCell]; exact h.fk o, fun o => by rw [World.frozen?_setCell]; exact h.fv o, h.pos,
    fun i hi => by rw [cell_setCell_block h.bx.symm]; exact h.k0 i hi, fun i hi => by rw [cell_setCell_block h.bk.symm]; exact h.k1 i hi, fun i hi => by rw [cell_setCell_block h.bv.symm]; exact h.k2 i hi⟩

theorem RefAt.setIs (h : RefAt w b x ks vs most e len n D) {i : Nat} (hi : i < n) (t : Bool) : RefAt (w.setCell ⟨x, i, none⟩ (.bool t)) b x ks vs most e len n (upd D i (t, (D i).2)) := by
  refine ⟨h.bx, h.bk, h.bv, h.xk, h.xv, h.kv, by rw [cell_setCell_block h.bx]; exact h.c0, by rw [cell_setCell_block h.bx]; exact h.c1, by rw [cell_setCell_block h.bx]; exact h.c2, by rw [cell_setCell_block h.bx]; exact h.c3, by rw [cell_setCell_block h.bx]; exact h.c4, by rw [cell_setCell_block h.bx]; exact h.c5,
    fun o => by rw [World.frozen?_setCell]; exact h.fb o, fun o => by rw [World.frozen?_setCell]; exact h.fx o, fun o => by rw [World.frozen?_setCell]; exact h.fk o, fun o => by rw [World.frozen?_setCell]; exact h.fv o, h.pos, fun j hj => ?_, fun j hj => ?_, fun j hj => ?_⟩
  · by_cases ej : j = i
    · subst ej; rw [upd_same]; exact cell_setCell_same (h.k0 j hj)
    · rw [upd_other _ _ ej, cell_setCell_off ej]; exact h.k0 j hj
  · rw [cell_setCell_block h.xk.symm]
    by_cases ej : j = i
    · subst ej; rw [upd_same]; exact h.k1 j hj
    · rw [upd_other _ _ ej]; exact h.k1 j hj
  · rw [cell_setCell_block h.xv.symm]
    by_cases ej : j = i
    · subst ej; rw [upd_same]; exact h.k2 j hj
    · rw [upd_other _ _ ej]; exact h.k2 j hj

theorem RefAt.setKey (h : RefAt w b x ks vs most e len n D) {i : Nat} (hi : i < n) (k : Nat) : RefAt (w.setCell ⟨ks, i, none⟩ (.int .u64 k)) b x ks vs most e len n (upd D i ((D i).1, k, (D i).2.2)) := by
  refine ⟨h.bx, h.bk, h.bv, h.xk, h.xv, h.kv, by rw [cell_setCell_block h.bk]; exact h.c0, by rw [cell_setCell_block h.bk]; exact h.c1, by rw [cell_setCell_block h.bk]; exact h.c2, by rw [cell_setCell_block h.bk]; exact h.c3, by rw [cell_setCell_block h.bk]; exact h.c4, by rw [cell_setCell_block h.bk]; exact h.c5,
    fun o => by rw [World.frozen?_setCell]; exact h.fb o, fun o => by rw [World.frozen?_setCell]; exact h.fx o, fun o => by rw [World.frozen?_setCell]; exact h.fk o, fun o => by rw [World.frozen?_setCell]; exact h.fv o, h.pos, fun j hj => ?_, fun j hj => ?_, fun j hj => ?_⟩
  · rw [cell_setCell_block h.xk]
    by_cases ej : j = i
    · subst ej; rw [upd_same]; exact h.k0 j hj
    · rw [upd_other _ _ ej]; exact h.k0 j hj
  · by_cases ej : j = i
    · subst ej; rw [upd_same]; exact cell_setCell_same (h.k1 j hj)
    · rw [upd_other _ _ ej, cell_setCell_off ej]; exact h.k1 j hj
  · rw [cell_setCell_block h.kv.symm]
    by_cases ej : j = i
    · subst ej; rw [upd_same]; exact h.k2 j hj
    · rw [upd_other _ _ ej]; exact h.k2 j hj

theorem RefAt.setVal (h : RefAt w b x ks vs most e len n D) {i : Nat} (hi : i < n) (v : Int) : RefAt (w.setCell ⟨vs, i, none⟩ (.int .i64 v)) b x ks vs most e len n (upd D i ((D i).1, (D i).2.1, v)) := by
  refine ⟨h.bx, h.bk, h.bv, h.xk, h.xv, h.kv, by rw [cell_setCell_block h.bv]; exact h.c0, by rw [cell_setCell_block h.bv]; exact h.c1, by rw [cell_setCell_block h.bv]; exact h.c2, by rw [cell_setCell_block h.bv]; exact h.c3, by rw [cell_setCell_block h.bv]; exact h.c4, by rw [cell_setCell_block h.bv]; exact h.c5,
    fun o => by rw [World.frozen?_setCell]; exact h.fb o, fun o => by rw [World.frozen?_setCell]; exact h.fx o, fun o => by rw [World.frozen?_setCell]; exact h.fk o, fun o => by rw [World.frozen?_setCell]; exact h.fv o, h.pos, fun j hj => ?_, fun j hj => ?_, fun j hj => ?_⟩
  · rw [cell_setCell_block h.xv]
    by_cases ej : j = i
    · subst ej; rw [upd_same]; exact h.k0 j hj
    · rw [upd_other _ _ ej]; exact h.k0 j hj
  · rw [cell_setCell_block h.kv]
    by_cases ej : j = i
    · subst ej; rw [upd_same]; exact h.k1 j hj
    · rw [upd_other _ _ ej]; exact h.k1 j hj
  · by_cases ej : j = i
    · subst ej; rw [upd_same]; exact cell_setCell_same (h.k2 j hj)
    · rw [upd_other _ _ ej, cell_setCell_off ej]; exact h.k2 j hj
end

theorem upd_upd {β : Type} (f : Nat → β) (i : Nat) (x y : β) : upd (upd f i x) i y = upd f i y := by
  funext j; unfold upd; split <;> rfl

/-- A whole place, the three rows one behind the other. -/
theorem RefAt.setAll {w : World} {b x ks vs most e len n : Nat} {D : Nat → Bool × Nat × Int} (h : RefAt w b x ks vs most e len n D) {i : Nat} (hi : i < n) (k : Nat) (v : Int) :
    RefAt (((w.setCell ⟨x, i, none⟩ (.bool true)).setCell ⟨ks, i, none⟩ (.int .u64 k)).setCell ⟨vs, i, none⟩ (.int .i64 v)) b x ks vs most e len n (upd D i (true, k, v)) := by
  have := ((h.setIs hi true).setKey hi k).setVal hi v
  simp only [upd_same, upd_upd] at this
  exact this

/-- What the rows say is the table S. -/
def Rep (n : Nat) (D : Nat → Bool × Nat × Int) (S : Tb Value) : Prop :=
  ∀ i, i < n → (S i = none ∧ (D i).1 = false) ∨ (S i = some ((D i).2.1, .int .i64 (D i).2.2) ∧ (D i).1 = true)

theorem Rep.upd_some {n : Nat} {D : Nat → Bool × Nat × Int} {S : Tb Value} (h : Rep n D S) (i k : Nat) (v : Int) : Rep n (upd D i (true, k, v)) (upd S i (some (k, .int .i64 v))) := by
  intro j hj
  by_cases e : j = i
  · subst e; rw [upd_same, upd_same]; exact .inr ⟨rfl, rfl⟩
  · rw [upd_other _ _ e, upd_other _ _ e]; exact h j hj
theorem Rep.upd_none {n : Nat} {D : Nat → Bool × Nat × Int} {S : Tb Value} (h : Rep n D S) (i : Nat) (y : Nat × Int) : Rep n (upd D i (false, y)) (upd S i none) := by
  intro j hj
  by_cases e : j = i
  · subst e; rw [upd_same, upd_same]; exact .inl ⟨rfl, rfl⟩
  · rw [upd_other _ _ e, upd_other _ _ e]; exact h j hj
theorem Rep.tk {n : Nat} {D : Nat → Bool × Nat × Int} {S : Tb Value} (h : Rep n D S) {i : Nat} (hi : i < n) : (D i).1 = (S i).isSome := by
  rcases h i hi with ⟨h1, h2⟩ | ⟨h1, h2⟩ <;> rw [h1, h2] <;> rfl
theorem Rep.of_some {n : Nat} {D : Nat → Bool × Nat × Int} {S : Tb Value} (h : Rep n D S) {i k : Nat} {v : Value} (hi : i < n) (hs : S i = some (k, v)) : (D i).1 = true ∧ (D i).2.1 = k ∧ v = .int .i64 (D i).2.2 := by
  rcases h i hi with ⟨h1, h2⟩ | ⟨h1, h2⟩
  · rw [h1] at hs; simp at hs
  · rw [h1] at hs; simp at hs; exact ⟨h2, hs.1, hs.2.symm⟩
theorem Rep.of_none {n : Nat} {D : Nat → Bool × Nat × Int} {S : Tb Value} (h : Rep n D S) {i : Nat} (hi : i < n) (hs : S i = none) : (D i).1 = false := by
  rw [h.tk hi, hs]; rfl
theorem Rep.stop {n : Nat} {D : Nat → Bool × Nat × Int} {S : Tb Value} (h : Rep n D S) {i : Nat} (hi : i < n) (key : Nat) : stopAt S key i = (!(D i).1 || (D i).2.1 == key) := by
  unfold stopAt
  rcases h i hi with ⟨h1, h2⟩ | ⟨h1, h2⟩
  · rw [h1, h2]; rfl
  · rw [h1, h2]; simp

/-- 'behind', as the document says it. -/
theorem behind_dist {n i h k : Nat} (hi : i < n) (hh : h < n) (hk : k < n) (hik : i ≠ k) :
    (if i < k then decide (i < h) && decide (h ≤ k) else decide (i < h) || decide (h ≤ k)) = !decide (dist n i k ≤ dist n h k) := by
  have d1 := dc n i k
  have d2 := dc n h k
  generalize dist n i k = p at *
  generalize dist n h k = q at *
  by_cases hp : p ≤ q
  · rw [decide_eq_true hp]
    split
    · by_cases a : i < h <;> by_cases b : h ≤ k <;> simp [a, b] <;> omega
    · by_cases a : i < h <;> by_cases b : h ≤ k <;> simp [a, b] <;> omega
  · rw [decide_eq_false hp]
    split
    · by_cases a : i < h <;> by_cases b : h ≤ k <;> simp [a, b] <;> omega
    · by_cases a : i < h <;> by_cases b : h ≤ k <;> simp [a, b] <;> omega
end Winnow
