/- Words for what lies in memory: frames of calls; an index (its head, its places). -/
import Derived.WalkKit
import Derived.WalkSpells
import Derived.WalkLawsBesides
import Derived.Laws.BitsLemmas
import Derived.Lib.BitFns
import Derived.OpenShut
import Derived.Deep.Draws
import Derived.Test.YtcieieljgmkjmaaTab
set_option linter.unusedVariables false
namespace Winnow
open Go Go.RowKit

theorem hid {p : Prop} (h : p) : Hid p := h

/-- Only the blocks of S, and new ones, may have changed. -/
structure Frm (S : List Nat) (w w' : World) : Prop where
  os : w'.os = w.os
  tape : w'.tape = w.tape
  output : w'.output = w.output
  size : w.heap.size ≤ w'.heap.size
  block : ∀ k, k < w.heap.size → k ∉ S → w'.heap[k]? = w.heap[k]?

theorem Frm.refl (S : List Nat) (w : World) : Frm S w w := ⟨rfl, rfl, rfl, Nat.le_refl _, fun _ _ _ => rfl⟩
theorem Frm.trans {S : List Nat} {a b c : World} (h : Frm S a b) (k : Frm S b c) : Frm S a c :=
  ⟨k.os.trans h.os, k.tape.trans h.tape, k.output.trans h.output, Nat.le_trans h.size k.size, fun i hi hs => (k.block i (Nat.lt_of_lt_of_le hi h.size) hs).trans (h.block i hi hs)⟩
theorem Frm.mono {S T : List Nat} {a b : World} (h : Frm S a b) (hs : ∀ k, k ∈ S → k ∈ T) : Frm T a b :=
  ⟨h.os, h.tape, h.output, h.size, fun i hi ht => h.block i hi fun h' => ht (hs i h')⟩
theorem Frm.drewN {S : List Nat} {a b : World} (h : Frm S a b) (n : Nat) : Frm S a (b.drewN n) := ⟨h.os, h.tape, h.output, h.size, h.block⟩
theorem Frm.drew {S : List Nat} {a b : World} (h : Frm S a b) : Frm S a b.drew := ⟨h.os, h.tape, h.output, h.size, h.block⟩
theorem Frm.alloc {S : List Nat} {a b : World} (h : Frm S a b) (o : Obj) : Frm S a (b.alloc o) :=
  h.trans ⟨rfl, rfl, rfl, by simp, fun k hk _ => Below.heap_alloc _ _ _ hk⟩
theorem Frm.setCell {S : List Nat} {a b : World} (h : Frm S a b) {p : Addr} (hp : p.block ∈ S) (v : Value) : Frm S a (b.setCell p v) :=
  h.trans ⟨rfl, rfl, rfl, by simp [World.setCell], fun k _ hs => Below.heap_setCell _ _ _ _ (fun e => hs (e ▸ hp))⟩
theorem Frm.setNew {S : List Nat} {a b : World} (h : Frm S a b) {p : Addr} (hp : a.heap.size ≤ p.block) (v : Value) : Frm S a (b.setCell p v) :=
  ⟨h.os, h.tape, h.output, by simpa [World.setCell] using h.size, fun k hk hs => (Below.heap_setCell _ _ _ _ (by omega)).trans (h.block k hk hs)⟩
theorem Frm.below {S : List Nat} {a b : World} (h : Frm S a b) {B : Nat} (hB : B ≤ a.heap.size) (hs : ∀ k, k ∈ S → B ≤ k) : Below B a b :=
  ⟨h.os, h.tape, h.output, h.size, fun k hk => h.block k (by omega) fun h' => by have := hs k h'; omega⟩
theorem Frm.of_below {S : List Nat} {a b : World} (h : Below a.heap.size a b) : Frm S a b := ⟨h.os, h.tape, h.output, h.size, fun k hk _ => h.block k hk⟩
/-- Blocks of S that are new to the first world need not be named. -/
theorem Frm.strip {S T : List Nat} {a b : World} (h : Frm S a b) (hs : ∀ k, k ∈ S → k ∈ T ∨ a.heap.size ≤ k) : Frm T a b :=
  ⟨h.os, h.tape, h.output, h.size, fun i hi ht => h.block i hi fun h' => by rcases hs i h' with h'' | h''; exact ht h''; omega⟩

theorem cell_lt {w : World} {b o : Nat} {v : Value} (h : w.cell? ⟨b, o, none⟩ = some v) : b < w.heap.size := by
  unfold World.cell? at h
  split at h
  · next h' => exact (Array.getElem?_eq_some_iff.1 h').1
  · simp at h

theorem cell_setCell_same {w : World} {b o : Nat} {v u : Value} (h : w.cell? ⟨b, o, none⟩ = some u) : (w.setCell ⟨b, o, none⟩ v).cell? ⟨b, o, none⟩ = some v := World.cell?_setCell_same' _ _ _ (by rw [h]; rfl)
theorem cell_setCell_block {w : World} {b o c p : Nat} {v : Value} (h : c ≠ b) : (w.setCell ⟨b, o, none⟩ v).cell? ⟨c, p, none⟩ = w.cell? ⟨c, p, none⟩ := by
  simp only [World.cell?]; rw [Below.heap_setCell _ _ _ _ h]
theorem cell_setCell_off {w : World} {b o c p : Nat} {v : Value} (h : p ≠ o) : (w.setCell ⟨b, o, none⟩ v).cell? ⟨c, p, none⟩ = w.cell? ⟨c, p, none⟩ := by
  by_cases hc : c = b
  · subst hc
    simp only [World.cell?, World.setCell, Array.getElem?_modify]
    cases w.heap[c]? with
    | none => simp
    | some x => cases x <;> simp [Array.getElem?_setIfInBounds]; intro e; exact absurd e.symm h
  · exact cell_setCell_block hc

/-- An index in memory: b its head; s its places (n of them, three cells each): D i: is it taken, the key, the value. -/
structure IdxAt (w : World) (b s most count n : Nat) (D : Nat → Bool × Nat × Value) : Prop where
  ne : b ≠ s
  c0 : w.cell? ⟨b, 0, none⟩ = some (.int .i64 most)
  c1 : w.cell? ⟨b, 1, none⟩ = some (.int .i64 count)
  c2 : ∃ cp, w.cell? ⟨b, 2, none⟩ = some (.slice (some ⟨s, 0, none⟩) n cp)
  fb : ∀ o, w.frozen? ⟨b, o, none⟩ = false
  fs : ∀ o, w.frozen? ⟨s, o, none⟩ = false
  pos : 0 < n
  k0 : ∀ i, i < n → w.cell? ⟨s, i * 3, none⟩ = some (.bool (D i).1)
  k1 : ∀ i, i < n → w.cell? ⟨s, i * 3 + 1, none⟩ = some (.int .u64 (D i).2.1)
  k2 : ∀ i, i < n → w.cell? ⟨s, i * 3 + 2, none⟩ = some (D i).2.2

theorem IdxAt.lb {w : World} {b s most count n : Nat} {D : Nat → Bool × Nat × Value} (h : IdxAt w b s most count n D) : b < w.heap.size := cell_lt h.c0
theorem IdxAt.ls {w : World} {b s most count n : Nat} {D : Nat → Bool × Nat × Value} (h : IdxAt w b s most count n D) : s < w.heap.size := cell_lt (h.k0 0 h.pos)

theorem IdxAt.of_blocks {w w' : World} {b s most count n : Nat} {D : Nat → Bool × Nat × Value} (h : IdxAt w b s most count n D) (hb : w'.heap[b]? = w.heap[b]?) (hs : w'.heap[s]? = w.heap[s]?) : IdxAt w' b s most count n D := by
  have cb : ∀ o, w'.cell? ⟨b, o, none⟩ = w.cell? ⟨b, o, none⟩ := fun o => World.cell?_of_block hb
  have cs : ∀ o, w'.cell? ⟨s, o, none⟩ = w.cell? ⟨s, o, none⟩ := fun o => World.cell?_of_block hs
  have gb : ∀ o, w'.frozen? ⟨b, o, none⟩ = w.frozen? ⟨b, o, none⟩ := fun o => World.frozen?_of_block hb
  have gs : ∀ o, w'.frozen? ⟨s, o, none⟩ = w.frozen? ⟨s, o, none⟩ := fun o => World.frozen?_of_block hs
  exact ⟨h.ne, by rw [cb]; exact h.c0, by rw [cb]; exact h.c1, by rw [cb]; exact h.c2, fun o => by rw [gb]; exact h.fb o, fun o => by rw [gs]; exact h.fs o, h.pos,
    fun i hi => by rw [cs]; exact h.k0 i hi, fun i hi => by rw [cs]; exact h.k1 i hi, fun i hi => by rw [cs]; exact h.k2 i hi⟩

theorem IdxAt.frm {S : List Nat} {w w' : World} {b s most count n : Nat} {D : Nat → Bool × Nat × Value} (h : IdxAt w b s most count n D) (f : Frm S w w') (hb : b ∉ S) (hs : s ∉ S) : IdxAt w' b s most count n D :=
  h.of_blocks (f.block b h.lb hb) (f.block s h.ls hs)
theorem IdxAt.drewN {w : World} {b s most count n : Nat} {D : Nat → Bool × Nat × Value} (h : IdxAt w b s most count n D) (m : Nat) : IdxAt (w.drewN m) b s most count n D := h.of_blocks rfl rfl

theorem IdxAt.setCount {w : World} {b s most count n : Nat} {D : Nat → Bool × Nat × Value} (h : IdxAt w b s most count n D) (c : Nat) : IdxAt (w.setCell ⟨b, 1, none⟩ (.int .i64 c)) b s most c n D := by
  have e : ∀ o, (w.setCell ⟨b, 1, none⟩ (.int .i64 c)).cell? ⟨s, o, none⟩ = w.cell? ⟨s, o, none⟩ := fun o => cell_setCell_block (fun e => h.ne e.symm)
  exact ⟨h.ne, by rw [cell_setCell_off (by decide)]; exact h.c0, cell_setCell_same h.c1, by rw [cell_setCell_off (by decide)]; exact h.c2,
    fun o => by rw [World.frozen?_setCell]; exact h.fb o, fun o => by rw [World.frozen?_setCell]; exact h.fs o, h.pos,
    fun i hi => by rw [e]; exact h.k0 i hi, fun i hi => by rw [e]; exact h.k1 i hi, fun i hi => by rw [e]; exact h.k2 i hi⟩

/-- A whole place is written. -/
theorem IdxAt.setSlot {w : World} {b s most count n : Nat} {D : Nat → Bool × Nat × Value} (h : IdxAt w b s most count n D) {i : Nat} (hi : i < n) (t : Bool) (k : Nat) (v : Value) :
    IdxAt (((w.setCell ⟨s, i * 3, none⟩ (.bool t)).setCell ⟨s, i * 3 + 1, none⟩ (.int .u64 k)).setCell ⟨s, i * 3 + 2, none⟩ v) b s most count n (upd D i (t, k, v)) := by
  have eb : ∀ o, (((w.setCell ⟨s, i * 3, none⟩ (.bool t)).setCell ⟨s, i * 3 + 1, none⟩ (.int .u64 k)).setCell ⟨s, i * 3 + 2, none⟩ v).cell? ⟨b, o, none⟩ = w.cell? ⟨b, o, none⟩ := fun o => by
    rw [cell_setCell_block h.ne, cell_setCell_block h.ne, cell_setCell_block h.ne]
  refine ⟨h.ne, by rw [eb]; exact h.c0, by rw [eb]; exact h.c1, by rw [eb]; exact h.c2, fun o => ?_, fun o => ?_, h.pos, fun j hj => ?_, fun j hj => ?_, fun j hj => ?_⟩
  · rw [World.frozen?_setCell, World.frozen?_setCell, World.frozen?_setCell]; exact h.fb o
  · rw [World.frozen?_setCell, World.frozen?_setCell, World.frozen?_setCell]; exact h.fs o
  · by_cases e : j = i
    · subst e; rw [upd_same, cell_setCell_off (by omega), cell_setCell_off (by omega)]; exact cell_setCell_same (h.k0 j hj)
    · rw [upd_other _ _ e, cell_setCell_off (by omega), cell_setCell_off (by omega), cell_setCell_off (by omega)]; exact h.k0 j hj
  · by_cases e : j = i
    · subst e; rw [upd_same, cell_setCell_off (by omega)]; exact cell_setCell_same (u := .int .u64 (D j).2.1) (by rw [cell_setCell_off (by omega)]; exact h.k1 j hj)
    · rw [upd_other _ _ e, cell_setCell_off (by omega), cell_setCell_off (by omega), cell_setCell_off (by omega)]; exact h.k1 j hj
  · by_cases e : j = i
    · subst e; rw [upd_same]; exact cell_setCell_same (u := (D j).2.2) (by rw [cell_setCell_off (by omega), cell_setCell_off (by omega)]; exact h.k2 j hj)
    · rw [upd_other _ _ e, cell_setCell_off (by omega), cell_setCell_off (by omega), cell_setCell_off (by omega)]; exact h.k2 j hj

theorem Frm.setSlot {S : List Nat} {a w : World} {s i : Nat} (f : Frm S a w) (hs : s ∈ S) (t k v : Value) :
    Frm S a (((w.setCell ⟨s, i * 3, none⟩ t).setCell ⟨s, i * 3 + 1, none⟩ k).setCell ⟨s, i * 3 + 2, none⟩ v) :=
  ((f.setCell hs _).setCell hs _).setCell hs _

/-- How a place lies in memory: z the value of one that is empty. -/
def conc (z : Value) (S : Tb Value) (i : Nat) : Bool × Nat × Value := match S i with | none => (false, 0, z) | some (k, v) => (true, k, v)
theorem conc_upd (z : Value) (S : Tb Value) (i : Nat) (x : Option (Nat × Value)) : conc z (upd S i x) = upd (conc z S) i (match x with | none => (false, 0, z) | some (k, v) => (true, k, v)) := by
  funext j
  by_cases h : j = i
  · subst h; rw [upd_same]; unfold conc; rw [upd_same]
  · rw [upd_other _ _ h]; unfold conc; rw [upd_other _ _ h]

/-- The numbers of an index. -/
structure Geo (n e : Nat) : Prop where
  n : n = 2 ^ e
  le : 1 ≤ e
  ge : e ≤ 40
theorem Geo.pos {n e : Nat} (g : Geo n e) : 0 < n := by rw [g.n]; exact Nat.two_pow_pos e
theorem Geo.small {n e : Nat} (g : Geo n e) : n ≤ 1099511627776 := by rw [g.n]; exact Nat.pow_le_pow_right (by decide) g.ge

theorem bitLen_pow : ∀ e, e ≤ 40 → Lib.bitLen (2 ^ e) = e + 1 := by
  intro e he
  have : ∀ f : Fin 41, Lib.bitLen (2 ^ f.val) = f.val + 1 := by decide +kernel
  exact this ⟨e, by omega⟩

theorem home_shift {n e : Nat} (g : Geo n e) (key : Nat) : key * golden % two64 / 2 ^ (64 - e) = home n key := by
  unfold home
  have h2 : two64 = 2 ^ (64 - e) * n := by rw [g.n, ← Nat.pow_add, show 64 - e + e = 64 from by have := g.ge; omega]; rfl
  generalize key * golden % two64 = x
  rw [h2, Nat.mul_div_mul_right _ _ g.pos]

theorem and_pow (x : Int) {n e : Nat} (g : Geo n e) : bits .and .i64 x ((n : Int) - 1) = x % (n : Int) := by
  have hn1 : (BitVec.ofInt 64 ((n : Int) - 1)).toNat = 2 ^ e - 1 := by
    have hs := g.small; have hp := g.pos
    rw [BitVec.toNat_ofInt, ← g.n]
    have hc : ((2 ^ 64 : Nat) : Int) = 18446744073709551616 := by decide
    have : ((n : Int) - 1) % ((2 ^ 64 : Nat) : Int) = (n : Int) - 1 := by rw [hc]; exact Int.emod_eq_of_lt (by omega) (by omega)
    rw [this]; omega
  have key : (BitVec.ofInt 64 x &&& BitVec.ofInt 64 ((n : Int) - 1)).toNat = (x % ((2 ^ 64 : Nat) : Int)).toNat % 2 ^ e := by
    rw [BitVec.toNat_and, BitVec.toNat_ofInt, hn1, Nat.and_two_pow_sub_one_eq_mod]
  show IntKind.i64.wrap ((BitVec.ofInt 64 x &&& BitVec.ofInt 64 ((n : Int) - 1)).toNat : Nat) = x % (n : Int)
  rw [key, IntKind.wrap_i64, ← g.n]
  have hs := g.small; have hp := g.pos
  have hd : ((n : Int)) ∣ ((2 ^ 64 : Nat) : Int) := by
    refine Int.natCast_dvd_natCast.2 ?_
    rw [g.n]; exact Nat.pow_dvd_pow 2 (by have := g.ge; omega)
  have h1 : ((x % ((2 ^ 64 : Nat) : Int)).toNat % n : Nat) = (x % (n : Int)) := by
    rw [Int.natCast_emod, Int.toNat_of_nonneg (Int.emod_nonneg _ (by decide)), Int.emod_emod_of_dvd _ hd]
  rw [h1]
  have h2 := Int.emod_nonneg x (b := (n : Int)) (by omega)
  have h3 := Int.emod_lt_of_pos x (b := (n : Int)) (by omega)
  omega

/-- The distance, as the program reckons it. -/
theorem and_dist {n e : Nat} (g : Geo n e) {a b : Nat} (ha : a < n) (hb : b < n) : bits .and .i64 ((b : Int) - (a : Int)) ((n : Int) - 1) = ((dist n a b : Nat) : Int) := by
  rw [and_pow _ g]
  have hp := g.pos
  rcases dc n a b with ⟨h1, h2⟩ | ⟨h1, h2⟩
  · rw [h2, Int.emod_eq_of_lt (by omega) (by omega)]; omega
  · rw [h2]
    have : ((b : Int) - a) % n = ((b : Int) - a + n) % n := by simp
    rw [this, Int.emod_eq_of_lt (by omega) (by omega)]; omega
theorem and_nx {n e : Nat} (g : Geo n e) {i : Nat} (hi : i < n) : bits .and .i64 ((i : Int) + 1) ((n : Int) - 1) = ((nx n i : Nat) : Int) := by
  rw [and_pow _ g, ← nx_mod hi]; rfl

/-- The places that an index of a size has. -/
structure Fit (most n e : Nat) : Prop where
  geo : Geo n e
  ge : 2 * most ≤ n
  lt : n = 2 ∨ n < 4 * most

theorem Fit.uniq {most n e m f : Nat} (h : Fit most n e) (k : Fit most m f) : n = m := by
  have a := h.geo.n; have b := k.geo.n
  have key : ∀ {x y : Nat}, x < y → 2 ^ x * 2 ≤ 2 ^ y := by
    intro x y hxy; rw [← Nat.pow_succ]; exact Nat.pow_le_pow_right (by decide) hxy
  have h1 := h.geo.le; have h2 := k.geo.le
  rcases Nat.lt_trichotomy e f with hlt | heq | hgt
  · have := key hlt
    rcases k.lt with hk | hk
    · have h3 : 2 ^ 1 ≤ 2 ^ e := Nat.pow_le_pow_right (by decide) h1
      omega
    · have := h.ge; omega
  · rw [a, b, heq]
  · have := key hgt
    rcases h.lt with hk | hk
    · have h3 : 2 ^ 1 ≤ 2 ^ f := Nat.pow_le_pow_right (by decide) h2
      omega
    · have := k.ge; omega

theorem madeCells_three (x y z : Value) (n i : Nat) (hi : i < n) : (madeCells #[x, y, z] (n * 3))[i * 3]? = some x ∧ (madeCells #[x, y, z] (n * 3))[i * 3 + 1]? = some y ∧ (madeCells #[x, y, z] (n * 3))[i * 3 + 2]? = some z := by
  unfold madeCells
  have h0 : (i * 3) % 3 = 0 := by omega
  have h1 : (i * 3 + 1) % 3 = 1 := by omega
  have h2 : (i * 3 + 2) % 3 = 2 := by omega
  refine ⟨?_, ?_, ?_⟩
  · rw [Array.getElem?_map, Array.getElem?_range]; simp [h0, show i * 3 < n * 3 from by omega]
  · rw [Array.getElem?_map, Array.getElem?_range]; simp [h1, show i * 3 + 1 < n * 3 from by omega]
  · rw [Array.getElem?_map, Array.getElem?_range]; simp [h2, show i * 3 + 2 < n * 3 from by omega]

theorem alloc_size (w : World) (o : Obj) : (w.alloc o).heap.size = w.heap.size + 1 := by simp
theorem alloc_at (w : World) (o : Obj) : (w.alloc o).heap[w.heap.size]? = some o := by
  show (w.heap.push o)[w.heap.size]? = _
  simp
theorem heap_alloc_if (w : World) (o : Obj) (k : Nat) : (w.alloc o).heap[k]? = if k = w.heap.size then some o else w.heap[k]? := by
  by_cases h : k = w.heap.size
  · rw [if_pos h, h]; exact alloc_at w o
  · rw [if_neg h]
    show (w.heap.push o)[k]? = _
    rw [Array.getElem?_push, if_neg h]
theorem cell_of_block {w : World} {b : Nat} {c : Array Value} {t : TypeId} {z : Nat × Nat} (h : w.heap[b]? = some (.cells c t z)) (o : Nat) : w.cell? ⟨b, o, none⟩ = c[o]? := by
  simp [World.cell?, h]
theorem frozen_of_block {w : World} {b : Nat} {c : Array Value} {t : TypeId} (h : w.heap[b]? = some (.cells c t (0, 0))) (o : Nat) : w.frozen? ⟨b, o, none⟩ = false := by
  simp [World.frozen?, h]

/-- A new index. -/
theorem IdxAt.made {w : World} {b s most n : Nat} {z : Value} {t u : TypeId} (hbs : b ≠ s) (hn : 0 < n) (hb : w.heap[b]? = some (.cells #[.int .i64 most, .int .i64 0, .slice (some ⟨s, 0, none⟩) n n] t))
    (hs : w.heap[s]? = some (.cells (madeCells #[.bool false, .int .u64 0, z] (n * 3)) u)) : IdxAt w b s most 0 n (conc z fun _ => none) := by
  refine ⟨hbs, ?_, ?_, ?_, fun o => frozen_of_block hb o, fun o => frozen_of_block hs o, hn, fun i hi => ?_, fun i hi => ?_, fun i hi => ?_⟩
  · rw [cell_of_block hb]; rfl
  · rw [cell_of_block hb]; rfl
  · exact ⟨n, by rw [cell_of_block hb]; rfl⟩
  · rw [cell_of_block hs]; exact (madeCells_three _ _ _ n i hi).1
  · rw [cell_of_block hs]; exact (madeCells_three _ _ _ n i hi).2.1
  · rw [cell_of_block hs]; exact (madeCells_three _ _ _ n i hi).2.2

/-- A callee that leaves the world as it is, in a region that only reads. -/
theorem quietS {P : Program} {f : FuncId} {args : Array Value} {w : World} {v : Value} {n : Nat} (h : Calls P f args (w.drewN n) fun e w' => e = .returned v ∧ w.drewN n = w') :
    Calls P f args (w.drewN n) fun e w'' => e = .returned v ∧ ∃ m, w'' = w.drewN m := h.mono fun e w' ⟨a, b⟩ => ⟨a, n, b.symm⟩
/-- A callee that draws. -/
theorem quietD {P : Program} {f : FuncId} {args : Array Value} {w : World} {v : Value} {n : Nat} (h : Calls P f args (w.drewN n) fun e w' => e = .returned v ∧ ∃ m, w' = (w.drewN n).drewN m) :
    Calls P f args (w.drewN n) fun e w'' => e = .returned v ∧ ∃ m, w'' = w.drewN m := h.mono fun e w' ⟨a, m, b⟩ => ⟨a, n + m, by rw [b, World.drewN_drewN]⟩
theorem below_dn (B : Nat) (w : World) (n : Nat) : Below B w (w.drewN n) := ⟨rfl, rfl, rfl, Nat.le_refl _, fun _ _ => rfl⟩

/-- A slice of integers that came in. -/
def IsRow (k : IntKind) (w : World) (a : Option Addr) (len cap : Nat) (zs : List Int) : Prop :=
  (a = none ∧ len = 0 ∧ cap = 0 ∧ zs = []) ∨
  ∃ x, a = some x ∧ len ≤ cap ∧ cap ≤ maxLen ∧ zs.length = cap ∧ (∀ i, i < zs.length → w.cell? (x.add i) = some (.int k (zs.getD i 0))) ∧ ∀ n ∈ zs, (Lit.int k n).wf = true

theorem row_at {w w' : World} {a : Option Addr} {len cap : Nat} {zs : List Int} (h : IsRow .u64 w a len cap zs) (hb : Below w.heap.size w w') (i : Nat) (hi : i < len) :
    ∃ b off, a = some ⟨b, off, none⟩ ∧ ∃ k : Nat, w'.cell? ⟨b, off + i, none⟩ = some (.int .u64 k) := by
  rcases h with ⟨_, h, _⟩ | ⟨x, rfl, h1, h2, h3, h4, h5⟩
  · omega
  · obtain ⟨b, off, rfl, hc⟩ := ints_at h4 (by omega)
    refine ⟨b, off, rfl, ?_⟩
    have hc' := hc i (by omega)
    have hi' : i < zs.length := by omega
    have hmem : zs.getD i 0 ∈ zs := by simp [List.getD, hi']
    have hz := bounds_u64 (h5 _ hmem)
    refine ⟨(zs.getD i 0).toNat, ?_⟩
    rw [Int.toNat_of_nonneg hz.1]
    have hlt : b < w.heap.size := cell_lt (o := off + i) hc'
    exact (hb.cell (p := ⟨b, off + i, none⟩) hlt).trans hc'
theorem row_len {k : IntKind} {w : World} {a : Option Addr} {len cap : Nat} {zs : List Int} (h : IsRow k w a len cap zs) : len ≤ 9223372036854775807 := by
  rcases h with ⟨_, h, _⟩ | ⟨x, _, h1, h2, _⟩
  · omega
  · unfold maxLen at h2; omega
end Winnow
