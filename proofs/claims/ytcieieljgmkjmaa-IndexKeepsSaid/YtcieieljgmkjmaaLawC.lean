/- The index's laws: the program's and the document's, one call of each. -/
import Derived.Test.YtcieieljgmkjmaaTabOk
import Derived.Test.YtcieieljgmkjmaaLawA
import Derived.Test.YtcieieljgmkjmaaLawB
import Derived.Test.YtcieieljgmkjmaaIdxC
import Derived.Test.YtcieieljgmkjmaaRefB
import Derived.Deep.RegionHeld3
set_option linter.unusedVariables false
namespace Go.Proofs.Ytcieieljgmkjmaa.LawC
open Go.RowKit Winnow

variable {n count most e : Nat} {S : Tb Value}

theorem put_two (T : TabOk n count most e S) (key : Nat) (v : Int) : ∃ (c : Int) (count' : Nat) (S' : Tb Value), TabOk n count' most e S' ∧
    (∀ (wx : World) (b s : Nat), IdxAt wx b s most count n (conc (.int .i64 0) S) → Calls Try.prog 26 #[.pointer (some ⟨b, 0, none⟩), .int .u64 key, .int .i64 v] wx fun r w' => r = .returned (.int .i64 c) ∧ Frm [b, s] wx w' ∧ IdxAt w' b s most count' n (conc (.int .i64 0) S')) ∧
    (∀ (wx : World) (b x ks vs : Nat) (D : Nat → Bool × Nat × Int), RefAt wx b x ks vs most e count n D → Rep n D S → Calls Try.prog 49 #[.pointer (some ⟨b, 0, none⟩), .int .u64 key, .int .i64 v] wx fun r w' => r = .returned (.int .i64 c) ∧ Ref.Now wx b x ks vs most e count' n S' w') := by
  obtain ⟨em, hem, hemp⟩ := T.emp
  have hmn : most ≤ n := by have := T.fit.ge; omega
  by_cases ht : S (find n S key) = none
  · by_cases hm : count < most
    · exact ⟨0, count + 1, putAt n S key (.int .i64 v), ⟨T.inv.put hem hemp key _, by rw [cnt_putAt_new T.pos ht, T.cnt], hm, T.fit, hint_put T.int⟩,
        fun wx b s h => IdxI.put_new h T.fit.geo hem hemp key v hm hmn ht, fun wx b x ks vs D h R => Ref.put_new h R T.fit.geo hem hemp key v hm hmn ht⟩
    · obtain rfl : count = most := by have := T.le; omega
      refine ⟨3, count, S, T, fun wx b s h => ?_, fun wx b x ks vs D h R => (Ref.put_full h R T.fit.geo hem hemp key v ht).mono ?_⟩
      · by_cases h0 : count = 0
        · subst h0
          refine (IdxI.put_zero h key v).mono ?_
          rintro r w' ⟨rfl, rfl⟩
          exact ⟨rfl, Frm.refl _ _, h⟩
        · refine (IdxI.put_full h T.fit.geo hem hemp key v h0 ht).mono ?_
          rintro r w' ⟨rfl, m, rfl⟩
          exact ⟨rfl, (Frm.refl _ _).drewN m, h.drewN m⟩
      · rintro r w' ⟨rfl, m, rfl⟩
        exact ⟨rfl, (Frm.refl _ _).drewN m, D, h.drewN m, R⟩
  · have hc := T.count_pos (find_lt T.pos S key) ht
    have hm : most ≠ 0 := by have := T.le; omega
    exact ⟨0, count, putAt n S key (.int .i64 v), ⟨T.inv.put hem hemp key _, by rw [cnt_putAt_old T.pos ht, T.cnt], T.le, T.fit, hint_put T.int⟩,
        fun wx b s h => IdxI.put_old h T.fit.geo hem hemp key v hm ht, fun wx b x ks vs D h R => Ref.put_old h R T.fit.geo hem hemp key v ht⟩

theorem drop_two (T : TabOk n count most e S) (key : Nat) : ∃ (v : Int) (ok : Bool) (count' : Nat) (S' : Tb Value), TabOk n count' most e S' ∧
    (∀ (wx : World) (b s : Nat), IdxAt wx b s most count n (conc (.int .i64 0) S) → Calls Try.prog 25 #[.pointer (some ⟨b, 0, none⟩), .int .u64 key] wx fun r w' => r = .returned (.tuple #[.int .i64 v, .bool ok]) ∧ Frm [b, s] wx w' ∧ IdxAt w' b s most count' n (conc (.int .i64 0) S')) ∧
    (∀ (wx : World) (b x ks vs : Nat) (D : Nat → Bool × Nat × Int), RefAt wx b x ks vs most e count n D → Rep n D S → Calls Try.prog 51 #[.pointer (some ⟨b, 0, none⟩), .int .u64 key] wx fun r w' => r = .returned (.tuple #[.int .i64 v, .bool ok]) ∧ Ref.Now wx b x ks vs most e count' n S' w') := by
  obtain ⟨em, hem, hemp⟩ := T.emp
  by_cases ht : S (find n S key) = none
  · refine ⟨0, false, count, S, T, fun wx b s h => (IdxI.drop_none h T.fit.geo hem hemp key ht).mono ?_, fun wx b x ks vs D h R => (Ref.drop_none h R T.fit.geo hem hemp key ht).mono ?_⟩
    · rintro r w' ⟨rfl, m, rfl⟩
      exact ⟨rfl, (Frm.refl _ _).drewN m, h.drewN m⟩
    · rintro r w' ⟨rfl, rfl⟩
      exact ⟨rfl, Frm.refl _ _, D, h, R⟩
  · have hc := T.count_pos (find_lt T.pos S key) ht
    have hl := T.lt
    have hle := T.le
    have hcn := T.cnt
    cases hs : S (find n S key) with
    | none => exact absurd hs ht
    | some p =>
      obtain ⟨k, u⟩ := p
      have hk : k = key := stopAt_some (find_spec hem hemp key).1 hs
      subst hk
      obtain ⟨x, rfl⟩ := T.int _ _ _ hs
      obtain ⟨c, rfl⟩ : ∃ c, count = c + 1 := ⟨count - 1, by omega⟩
      have hne : find n S k ≠ em := fun h' => ht (by rw [h']; exact hemp)
      exact ⟨x, true, c, dropAt n S (find n S k), ⟨(dropAt_inv T.inv (find_lt T.pos S k) hem hemp hne).1, by have := cnt_dropAt T.inv (find_lt T.pos S k) hem hemp ht; omega, by omega, T.fit, hint_drop T.int⟩,
        fun wx b s h => IdxI.drop_some h T.fit.geo T.inv (by omega) hem hemp k hs T.int, fun wx b x ks vs D h R => Ref.drop_some h R T.fit.geo T.inv (by omega) hem hemp k hs⟩



theorem get_two (T : TabOk n count most e S) (key : Nat) : ∃ (v : Int) (ok : Bool),
    (∀ (wx : World) (b s : Nat), IdxAt wx b s most count n (conc (.int .i64 0) S) → Calls Try.prog 33 #[.pointer (some ⟨b, 0, none⟩), .int .u64 key] wx fun r w' => r = .returned (.tuple #[.int .i64 v, .bool ok]) ∧ ∃ m, w' = wx.drewN m) ∧
    (∀ (wx : World) (b x ks vs : Nat) (D : Nat → Bool × Nat × Int), RefAt wx b x ks vs most e count n D → Rep n D S → Calls Try.prog 50 #[.pointer (some ⟨b, 0, none⟩), .int .u64 key] wx fun r w' => r = .returned (.tuple #[.int .i64 v, .bool ok]) ∧ wx = w') := by
  obtain ⟨em, hem, hemp⟩ := T.emp
  obtain ⟨x, hx⟩ := conc_int T (find n S key)
  refine ⟨x, (S (find n S key)).isSome, fun wx b s h => ?_, fun wx b xs ks vs D h R => ?_⟩
  · have := IdxI.get_c h T.fit.geo hem hemp key
    rw [hx, conc_some] at this
    exact this
  · have := Ref.get_c h R T.fit.geo hem hemp key
    rw [hx] at this
    exact this

theorem slot_two (T : TabOk n count most e S) (key : Nat) : ∃ (v : Int) (ok : Bool),
    (∀ (wx : World) (b s : Nat), IdxAt wx b s most count n (conc (.int .i64 0) S) → Calls Try.prog 34 #[.pointer (some ⟨b, 0, none⟩), .int .u64 key] wx fun r w' => r = .returned (.tuple #[.int .i64 v, .bool ok]) ∧ ∃ m, w' = wx.drewN m) ∧
    (∀ (wx : World) (b x ks vs : Nat) (D : Nat → Bool × Nat × Int), RefAt wx b x ks vs most e count n D → Rep n D S → Calls Try.prog 52 #[.pointer (some ⟨b, 0, none⟩), .int .u64 key] wx fun r w' => r = .returned (.tuple #[.int .i64 v, .bool ok]) ∧ wx = w') := by
  obtain ⟨em, hem, hemp⟩ := T.emp
  refine ⟨((if (S (find n S key)).isSome then find n S key else 0 : Nat) : Int), (S (find n S key)).isSome, fun wx b s h => ?_, fun wx b xs ks vs D h R => ?_⟩
  · have := IdxI.slot_c h T.fit.geo hem hemp key
    rw [conc_some] at this
    exact this
  · exact Ref.slot_c h R T.fit.geo hem hemp key

/-- Both in memory, one table. -/
def Two (w : World) (b s rb rx rk rv most count n e : Nat) (S : Tb Value) : Prop :=
  ∃ D, IdxAt w b s most count n (conc (.int .i64 0) S) ∧ RefAt w rb rx rk rv most e count n D ∧ Rep n D S
/-- The program's blocks are none of the document's. -/
def Apart (b s rb rx rk rv : Nat) : Prop := b ∉ [rb, rx, rk, rv] ∧ s ∉ [rb, rx, rk, rv] ∧ rb ∉ [b, s] ∧ rx ∉ [b, s] ∧ rk ∉ [b, s] ∧ rv ∉ [b, s]

def Told (w : World) (b s rb rx rk rv most n e : Nat) (r : Ending) (w' : World) : Prop :=
  r = .returned (.bool true) ∧ Frm [b, s, rb, rx, rk, rv] w w' ∧ ∃ count' S', TabOk n count' most e S' ∧ Two w' b s rb rx rk rv most count' n e S'

variable {w : World} {b s rb rx rk rv : Nat}

theorem Two.alloc (h : Two w b s rb rx rk rv most count n e S) (o : Obj) : Two (w.alloc o) b s rb rx rk rv most count n e S := by
  obtain ⟨D, i, r, p⟩ := h
  exact ⟨D, i.frm ((Frm.refl [] w).alloc o) (by simp) (by simp), r.frm ((Frm.refl [] w).alloc o) (by simp) (by simp) (by simp) (by simp), p⟩

/-- A parameter in a new block. -/
theorem box_facts (w : World) (cs : Array Value) (t : TypeId) : ∀ (w' : World), Frm [b, s, rb, rx, rk, rv] (w.alloc (.cells cs t)) w' → b < w.heap.size → s < w.heap.size → rb < w.heap.size → rx < w.heap.size → rk < w.heap.size → rv < w.heap.size →
    ∀ i v, cs[i]? = some v → w'.cell? ⟨w.heap.size, i, none⟩ = some v := by
  intro w' f h1 h2 h3 h4 h5 h6 i v hv
  have hb : w'.heap[w.heap.size]? = (w.alloc (.cells cs t)).heap[w.heap.size]? := f.block _ (by simp) (by simp; omega)
  rw [World.cell?_of_block hb]
  rw [cell_of_block (World.alloc_heap_new w _)]
  exact hv

/-- Behind the program's call. -/
def Mid (w1 : World) (b s rb rx rk rv most count count' n e : Nat) (S S' : Tb Value) (w2 : World) : Prop :=
  Frm [b, s, rb, rx, rk, rv] w1 w2 ∧ IdxAt w2 b s most count' n (conc (.int .i64 0) S') ∧ ∃ D, RefAt w2 rb rx rk rv most e count n D ∧ Rep n D S
def End2 (w1 : World) (b s rb rx rk rv most count' n e : Nat) (S' : Tb Value) (w3 : World) : Prop :=
  Frm [b, s, rb, rx, rk, rv] w1 w3 ∧ Two w3 b s rb rx rk rv most count' n e S'

theorem End2.mid {w1 wx w2 : World} {count' : Nat} {S' : Tb Value} (h : End2 w1 b s rb rx rk rv most count n e S wx) (hap : Apart b s rb rx rk rv) (f : Frm [b, s] wx w2) (i : IdxAt w2 b s most count' n (conc (.int .i64 0) S')) : Mid w1 b s rb rx rk rv most count count' n e S S' w2 := by
  obtain ⟨f0, D, _, r, p⟩ := h
  obtain ⟨_, _, a1, a2, a3, a4⟩ := hap
  exact ⟨f0.trans (f.mono (by simp +contextual)), i, D, r.frm f a1 a2 a3 a4, p⟩
theorem End2.drew {w1 wx : World} (h : End2 w1 b s rb rx rk rv most count n e S wx) : End2 w1 b s rb rx rk rv most count n e S wx.drew := by
  obtain ⟨f0, D, i, r, p⟩ := h
  exact ⟨f0.drew, D, i.drewN 1, r.drewN 1, p⟩
theorem Mid.fin {w1 w2 w3 : World} {count' : Nat} {S' : Tb Value} (h : Mid w1 b s rb rx rk rv most count count' n e S S' w2) (hap : Apart b s rb rx rk rv) (f : Ref.Now w2 rb rx rk rv most e count' n S' w3) : End2 w1 b s rb rx rk rv most count' n e S' w3 := by
  obtain ⟨f0, i, _⟩ := h
  obtain ⟨f1, D, r, p⟩ := f
  obtain ⟨a1, a2, _⟩ := hap
  exact ⟨f0.trans (f1.mono (by simp +contextual)), D, i.frm f1 a1 a2, r, p⟩

theorem Two.lens (h : Two w b s rb rx rk rv most count n e S) : b < w.heap.size ∧ s < w.heap.size ∧ rb < w.heap.size ∧ rx < w.heap.size ∧ rk < w.heap.size ∧ rv < w.heap.size := by
  obtain ⟨D, i, r, p⟩ := h
  exact ⟨i.lb, i.ls, r.lb, r.lx, r.lk, r.lv⟩

/-- The two cells of the box that a step's key and value lie in. -/
def Cells2 (B : Nat) (N : Int) (key : Nat) (wx : World) : Prop := wx.cell? ⟨B, 1, none⟩ = some (.int .i64 N) ∧ wx.cell? ⟨B, 2, none⟩ = some (.int .u64 key)

theorem cells2 {kind N : Int} {key : Nat} {t : TypeId} (h : Two w b s rb rx rk rv most count n e S) {w' : World} (f : Frm [b, s, rb, rx, rk, rv] (w.alloc (.cells #[.int .i64 kind, .int .i64 N, .int .u64 key] t)) w') : Cells2 w.heap.size N key w' := by
  obtain ⟨h1, h2, h3, h4, h5, h6⟩ := h.lens
  exact ⟨box_facts w _ t w' f h1 h2 h3 h4 h5 h6 1 _ rfl, box_facts w _ t w' f h1 h2 h3 h4 h5 h6 2 _ rfl⟩

theorem End2.told {kind N : Int} {key : Nat} {t : TypeId} {count' : Nat} {S' : Tb Value} {w' : World} (T : TabOk n count' most e S') (h : End2 (w.alloc (.cells #[.int .i64 kind, .int .i64 N, .int .u64 key] t)) b s rb rx rk rv most count' n e S' w') : Told w b s rb rx rk rv most n e (.returned (.bool true)) w' :=
  ⟨rfl, ((Frm.refl _ w).alloc _).trans h.1, count', S', T, h.2⟩

end Go.Proofs.Ytcieieljgmkjmaa.LawC
