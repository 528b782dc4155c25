/- IndexWide: an index of any size; keys of which many lie near one another are put and dropped: each lies at its place. No condition. -/
import Derived.Test.YtanfkiddmknpnaaRows
import Derived.WalkKit
import Derived.ProofKit
import Derived.OpenShut
import Derived.ShutString
import Derived.ChangeOld
import Derived.Below
import Derived.BigQuiet
import Derived.Deep.CutBlock
import Derived.Deep.DeepCutAuto
import Derived.Test.YtanfkiddmknpnaaIdxB
import Derived.Test.YtanfkiddmknpnaaIdxC
import Derived.Test.YtanfkiddmknpnaaIdxD
import Derived.Test.YtanfkiddmknpnaaWideT
namespace Go.Proofs.Ytanfkiddmknpnaa.indexWide
open Go.ChangeShapes Go.WideShapes Go.ChangeAt Go.RowKit Winnow
open Go.ChangeMaps (open_string shut_string)
open Wide (TabAt)
open LawC (TabOk)
set_option linter.unusedVariables false

theorem own : ownKnob Try.prog.godebug = none := by kernel_rfl
theorem laidOut : laidOutB Try.prog = true := by kernel_rfl

theorem near_c (a : Int) (n : Nat) (w : World) (hn : 0 < n) (hn' : n ≤ 4194305) (h1 : -9223372036854775808 ≤ a) (h2 : a ≤ 9223372036854775807) :
    Calls Try.prog 4 #[.int .i64 a, .int .i64 n] w fun r w' => (∃ k : Nat, k < n ∧ r = .returned (.int .i64 k)) ∧ w = w' := by
  have b1 : -(n : Int) < a.tmod n := by
    rcases Int.lt_or_le a 0 with h | h
    · have := Int.neg_tmod (a := -a) (b := (n : Int))
      have h3 := Int.tmod_lt_of_pos (-a) (b := (n : Int)) (by omega)
      have h4 : a.tmod n = -((-a).tmod n) := by rw [Int.neg_tmod]; omega
      omega
    · have := Int.tmod_nonneg (n : Int) h; omega
  have b2 : a.tmod n < n := Int.tmod_lt_of_pos a (by omega)
  have hn0 : ((n : Int) == 0) = false := by simp; omega
  go_enter Try.func4, Try.ntmps4
  go_wp2
  · go_ret
    exact ⟨⟨(a.tmod n + n).toNat, by omega, IdxI.ret_int (Int.toNat_of_nonneg (by omega)).symm⟩, rfl⟩
  · go_ret
    exact ⟨⟨(a.tmod n).toNat, by omega, IdxI.ret_int (Int.toNat_of_nonneg (by omega)).symm⟩, rfl⟩

/-- What holds at the head of a round. -/
structure WideAt (w wr : World) (b s tb kb pb n most e i c : Nat) (S : Tb Value) : Prop where
  T : TabOk n c most e S
  I : IdxAt wr b s most c n (conc (.int .i64 0) S)
  A : TabAt wr tb kb pb n e S c
  ks : ∀ p k u, S p = some (k, u) → k < 18446744073709551616
  vs : ∀ p k v, S p = some (k, .int .i64 v) → 0 ≤ v ∧ v < i
  ap : (b ∉ [kb, pb] ∧ s ∉ [kb, pb]) ∧ tb ∉ [b, s] ∧ kb ∉ [b, s] ∧ pb ∉ [b, s]
  bel : Below w.heap.size w wr
  lo : (w.heap.size ≤ b ∧ w.heap.size ≤ s) ∧ w.heap.size ≤ kb ∧ w.heap.size ≤ pb

section
variable {w wr w' : World} {b s tb kb pb n most e i c : Nat} {S : Tb Value}
theorem WideAt.drewN (h : WideAt w wr b s tb kb pb n most e i c S) (m : Nat) : WideAt w (wr.drewN m) b s tb kb pb n most e i c S :=
  ⟨h.T, h.I.drewN m, h.A.of_blocks rfl rfl rfl, h.ks, h.vs, h.ap, h.bel.trans (below_dn _ _ _), h.lo⟩
theorem WideAt.next (h : WideAt w wr b s tb kb pb n most e i c S) : WideAt w wr b s tb kb pb n most e (i + 1) c S :=
  ⟨h.T, h.I, h.A, h.ks, fun p k v hp => by have := h.vs p k v hp; omega, h.ap, h.bel, h.lo⟩
theorem ks_put {key : Nat} {v : Value} (h : ∀ p k u, S p = some (k, u) → k < 18446744073709551616) (hk : key < 18446744073709551616) : ∀ p k u, putAt n S key v p = some (k, u) → k < 18446744073709551616 := by
  intro p k u hp
  unfold putAt upd at hp
  split at hp
  · simp at hp; omega
  · exact h p k u hp
theorem vs_put {key : Nat} {v : Int} (h : ∀ p k v, S p = some (k, .int .i64 v) → 0 ≤ v ∧ v < (i : Int)) (hv : 0 ≤ v ∧ v < (i : Int) + 1) : ∀ p k v', putAt n S key (.int .i64 v) p = some (k, .int .i64 v') → 0 ≤ v' ∧ v' < ((i + 1 : Nat) : Int) := by
  intro p k u hp
  unfold putAt upd at hp
  split at hp
  · simp at hp; omega
  · have := h p k u hp; omega
theorem drop_sub {q : Nat} (I : Inv n S) {em : Nat} (hq : q < n) (hem : em < n) (hemp : S em = none) (hne : q ≠ em) (x : Nat × Value) : (∃ p, p < n ∧ dropAt n S q p = some x) → ∃ p, S p = some x := by
  intro h
  have := (dropGo_mem n (upd S q none) q (nx n q) em (Dst.start I hq hem hemp hne) (Nat.le_of_lt (dist_lt (nx_lt hq) hem)) x).1 h
  obtain ⟨p, _, hp⟩ := this
  unfold upd at hp
  split at hp
  · simp at hp
  · exact ⟨p, hp⟩
end
theorem dropGo_all {n : Nat} {P : Nat × Value → Prop} : ∀ (f : Nat) (S : Tb Value) (i k : Nat), (∀ j x, S j = some x → P x) → ∀ j x, dropGo n f S i k j = some x → P x := by
  intro f
  induction f with
  | zero => intro S i k h; exact h
  | succ f ih =>
    intro S i k h
    unfold dropGo
    cases hs : S k with
    | none => exact h
    | some p =>
      obtain ⟨y, v⟩ := p
      dsimp only
      split
      · refine ih _ _ _ fun j x hx => ?_
        unfold upd at hx
        split at hx
        · simp at hx
        · split at hx
          · exact h k x (hs.trans hx)
          · exact h j x hx
      · exact ih _ _ _ h
theorem dropAt_all {n q : Nat} {S : Tb Value} {P : Nat × Value → Prop} (h : ∀ j x, S j = some x → P x) : ∀ j x, dropAt n S q j = some x → P x :=
  dropGo_all n _ _ _ fun j x hx => by
    unfold upd at hx
    split at hx
    · simp at hx
    · exact h j x hx

theorem wrapu_nonneg (x : Int) : 0 ≤ IntKind.u64.wrap x := by
  unfold IntKind.wrap
  simp [IntKind.signed, IntKind.bits]
  exact Int.emod_nonneg _ (by decide)
theorem bits_nonneg (o : BinOp) (x y : Int) : 0 ≤ bits o .u64 x y := by
  unfold bits
  split <;> (try exact wrapu_nonneg _) <;> simp
theorem key_nat (x m : Int) (hx : 0 ≤ x) (hm : 0 < m) (hm' : m ≤ 9223372036854775808) : ∃ key : Nat, x.tmod m = key ∧ key < 18446744073709551616 := by
  have h1 := Int.tmod_nonneg m hx
  have h2 := Int.tmod_lt_of_pos x hm
  exact ⟨(x.tmod m).toNat, (Int.toNat_of_nonneg h1).symm, by omega⟩
theorem setCell_cells {W : World} {B : Nat} {c : Array Value} {t : TypeId} {z : Nat × Nat} (h : W.heap[B]? = some (.cells c t z)) (o : Nat) (v : Value) : (W.setCell ⟨B, o, none⟩ v).heap[B]? = some (.cells (c.setIfInBounds o v) t z) := by
  show (W.heap.modify B _)[B]? = _
  rw [Array.getElem?_modify]
  simp [h]

section
variable {w wr wf w' : World} {b s tb kb pb n most e i c : Nat} {S : Tb Value} {key : Nat}
theorem put3 (h : WideAt w wr b s tb kb pb n most e i c S) (hc : c = most) (ht : S (find n S key) = none) (v : Int) :
    Calls Try.prog 10 #[.pointer (some ⟨b, 0, none⟩), .int .u64 key, .int .i64 v] wr fun r w' => r = .returned (.int .i64 3) ∧ ∃ m, w' = wr.drewN m := by
  obtain ⟨em, hem, hemp⟩ := h.T.emp
  subst hc
  by_cases h0 : c = 0
  · subst h0
    exact (IdxI.put_zero h.I key v).mono fun r w' ⟨a, b⟩ => ⟨a, 0, b.symm⟩
  · exact IdxI.put_full h.I h.T.fit.geo hem hemp key v h0 ht
theorem put_new_fin (h : WideAt w wr b s tb kb pb n most e i c S) (hk : key < 18446744073709551616) (hc : c < most) (ht : S (find n S key) = none) {w1 w2 : World} (f1 : Frm [b, s] wr w1) (i1 : IdxAt w1 b s most (c + 1) n (conc (.int .i64 0) (putAt n S key (.int .i64 i))))
    (f2 : Frm [kb, pb] w1 w2) (t2 : TabAt w2 tb kb pb n e (putAt n S key (.int .i64 i)) (c + 1)) : WideAt w w2 b s tb kb pb n most e (i + 1) (c + 1) (putAt n S key (.int .i64 i)) := by
  obtain ⟨em, hem, hemp⟩ := h.T.emp
  refine ⟨⟨h.T.inv.put hem hemp key _, by rw [cnt_putAt_new h.T.pos ht, h.T.cnt], hc, h.T.fit, LawC.hint_put h.T.int⟩, i1.frm f2 h.ap.1.1 h.ap.1.2, t2, ks_put h.ks hk, vs_put h.vs (by omega), h.ap, ?_, h.lo⟩
  have hb := h.bel.trans (f1.below h.bel.size (by have := h.lo; simp; omega))
  exact hb.trans (f2.below hb.size (by have := h.lo; simp; omega))
theorem old_tab {v : Value} {key : Nat} {x : Value} (h : TabAt wf tb kb pb n e S c) {q : Nat} (hs : S q = some (key, x)) : TabAt wf tb kb pb n e (upd S q (some (key, v))) c := by
  obtain ⟨f, f1, f2⟩ := h.k
  obtain ⟨g, g1, g2⟩ := h.p
  refine ⟨h.c0, h.c1, h.c2, h.c3, h.ne, ⟨f, fun p => ?_, f2⟩, ⟨g, fun k p => ?_, g2⟩⟩
  · rw [f1 p]
    by_cases e : p = q
    · subst e; rw [upd_same, hs]; rfl
    · rw [upd_other _ _ e]
  · rw [g1 k p]
    constructor
    · rintro ⟨r, rfl, hr, u, hu⟩
      by_cases e : r = q
      · subst e; rw [hs] at hu; simp at hu; obtain ⟨rfl, _⟩ := hu; exact ⟨r, rfl, hr, v, upd_same _ _ _⟩
      · exact ⟨r, rfl, hr, u, by rw [upd_other _ _ e]; exact hu⟩
    · rintro ⟨r, rfl, hr, u, hu⟩
      by_cases e : r = q
      · subst e; rw [upd_same] at hu; simp at hu; obtain ⟨rfl, _⟩ := hu; exact ⟨r, rfl, hr, x, hs⟩
      · rw [upd_other _ _ e] at hu; exact ⟨r, rfl, hr, u, hu⟩
theorem put_old_fin (h : WideAt w wr b s tb kb pb n most e i c S) (hk : key < 18446744073709551616) {x : Value} (ht : S (find n S key) = some (key, x)) {w1 : World} (f1 : Frm [b, s] wr w1) (i1 : IdxAt w1 b s most c n (conc (.int .i64 0) (putAt n S key (.int .i64 i)))) :
    WideAt w w1 b s tb kb pb n most e (i + 1) c (putAt n S key (.int .i64 i)) := by
  obtain ⟨em, hem, hemp⟩ := h.T.emp
  refine ⟨⟨h.T.inv.put hem hemp key _, by rw [cnt_putAt_old h.T.pos (by rw [ht]; simp), h.T.cnt], h.T.le, h.T.fit, LawC.hint_put h.T.int⟩, i1, ?_, ks_put h.ks hk, vs_put h.vs (by omega), h.ap, h.bel.trans (f1.below h.bel.size (by have := h.lo; simp; omega)), h.lo⟩
  exact old_tab (h.A.frm f1 h.ap.2.1 h.ap.2.2.1 h.ap.2.2.2) ht
theorem drop_fin (h : WideAt w wr b s tb kb pb n most e i (c + 1) S) {x : Value} (ht : S (find n S key) = some (key, x)) {w1 w2 : World} (f1 : Frm [b, s] wr w1) (i1 : IdxAt w1 b s most c n (conc (.int .i64 0) (dropAt n S (find n S key))))
    (f2 : Frm [kb, pb] w1 w2) (t2 : TabAt w2 tb kb pb n e (dropAt n S (find n S key)) c) : WideAt w w2 b s tb kb pb n most e (i + 1) c (dropAt n S (find n S key)) ∧ dropAt n S (find n S key) (find n (dropAt n S (find n S key)) key) = none := by
  obtain ⟨em, hem, hemp⟩ := h.T.emp
  have hq := find_lt h.T.pos S key
  have hne : find n S key ≠ em := fun e' => by rw [e', hemp] at ht; simp at ht
  have hi := dropAt_inv h.T.inv hq hem hemp hne
  have hno : ∀ p u, p < n → dropAt n S (find n S key) p ≠ some (key, u) := by
    intro p u hp hs
    have h1 := (dropGo_mem n (upd S (find n S key) none) (find n S key) (nx n (find n S key)) em (Dst.start h.T.inv hq hem hemp hne) (Nat.le_of_lt (dist_lt (nx_lt hq) hem)) (key, u)).1 ⟨p, hp, hs⟩
    obtain ⟨p', hp', hs'⟩ := h1
    unfold upd at hs'
    split at hs'
    · simp at hs'
    · exact absurd (h.T.inv.uniq _ _ _ _ _ hp' hq hs' ht) (by assumption)
  refine ⟨⟨⟨hi.1, by have := cnt_dropAt h.T.inv hq hem hemp (by rw [ht]; simp); have := h.T.cnt; omega, by have := h.T.le; omega, h.T.fit, LawC.hint_drop h.T.int⟩, i1.frm f2 h.ap.1.1 h.ap.1.2, t2, ?_, ?_, h.ap, ?_, h.lo⟩, ?_⟩
  · intro p k u hp
    exact dropAt_all (P := fun x => x.1 < 18446744073709551616) (fun j x hx => h.ks j x.1 x.2 hx) p (k, u) hp
  · intro p k v hp
    have := dropAt_all (P := fun x => ∀ v, x.2 = .int .i64 v → 0 ≤ v ∧ v < (i : Int)) (fun j x hx v hv => h.vs j x.1 v (by rw [← hv]; exact hx)) p (k, .int .i64 v) hp v rfl
    omega
  · have hb := h.bel.trans (f1.below h.bel.size (by have := h.lo; simp; omega))
    exact hb.trans (f2.below hb.size (by have := h.lo; simp; omega))
  · have h1 := (find_spec (S := dropAt n S (find n S key)) hem hi.2 key).1
    cases hs : dropAt n S (find n S key) (find n (dropAt n S (find n S key)) key) with
    | none => rfl
    | some y =>
      obtain ⟨k', u⟩ := y
      have := stopAt_some h1 hs
      subst this
      exact absurd hs (hno _ _ (find_lt h.T.pos _ _))

/-- What is asked of both at the end of a round. -/
structure Ask (wf : World) (b tb pb n c key : Nat) (r : Option Nat) : Prop where
  p : ∃ f, Wide.MapP wf pb f c ∧ f key = r.map fun x => (x : Int)
  c3 : wf.cell? ⟨tb, 3, none⟩ = some (.map (some pb))
  sl : Calls Try.prog 7 #[.pointer (some ⟨b, 0, none⟩), .int .u64 key] wf fun x w' => x = .returned (.tuple #[.int .i64 (r.getD 0 : Nat), .bool r.isSome]) ∧ ∃ m, w' = wf.drewN m
  ln : ∀ m, Calls Try.prog 12 #[.pointer (some ⟨b, 0, none⟩)] (wf.drewN m) fun x w' => x = .returned (.int .i64 c) ∧ wf.drewN m = w'
theorem ask_gone (h : WideAt w wf b s tb kb pb n most e i c S) (ht : S (find n S key) = none) : Ask wf b tb pb n c key none := by
  obtain ⟨em, hem, hemp⟩ := h.T.emp
  obtain ⟨f, f1, f2⟩ := h.A.p
  refine ⟨⟨f, f2, by rw [f1.find h.T.inv hem hemp key, ht]; rfl⟩, h.A.c3, ?_, fun m => IdxI.len_c (h.I.drewN m)⟩
  have hs := IdxI.slot_c h.I h.T.fit.geo hem hemp key
  rw [show (conc (.int .i64 0) S (find n S key)).1 = false from by rw [LawC.conc_some, ht]; rfl] at hs
  exact hs
theorem ask_there (h : WideAt w wf b s tb kb pb n most e i c S) {p : Nat} (hp : p < n) {x : Value} (ht : S p = some (key, x)) : Ask wf b tb pb n c key (some p) := by
  obtain ⟨em, hem, hemp⟩ := h.T.emp
  obtain ⟨f, f1, f2⟩ := h.A.p
  have hf := h.T.inv.find_of hem hemp hp ht
  refine ⟨⟨f, f2, by rw [f1.find h.T.inv hem hemp key, hf, ht]; rfl⟩, h.A.c3, ?_, fun m => IdxI.len_c (h.I.drewN m)⟩
  have hs := IdxI.slot_c h.I h.T.fit.geo hem hemp key
  rw [show (conc (.int .i64 0) S (find n S key)).1 = true from by rw [LawC.conc_some, hf, ht]; rfl, hf] at hs
  exact hs
end

set_option maxRecDepth 100000 in
set_option maxHeartbeats 2000000 in
theorem walk (a0 : Int) (a1 : Int) (a2 : Int) (a3 : Int) (w : World) (w0 : (Lit.int .i64 a0).wf = true) (w1 : (Lit.int .u64 a1).wf = true) (w2 : (Lit.int .i64 a2).wf = true) (w3 : (Lit.int .u64 a3).wf = true) :
    Calls Try.prog 3 #[.int .i64 a0, .int .u64 a1, .int .i64 a2, .int .u64 a3] w fun e w' => e = .returned (.bool true) ∧ Below w.heap.size w w' := by
  obtain ⟨l0, l1⟩ := bounds_i64 w0
  obtain ⟨l2, l3⟩ := bounds_i64 w2
  obtain ⟨l4, l5⟩ := bounds_u64 w1
  obtain ⟨l6, l7⟩ := bounds_u64 w3
  clear w0 w1 w2 w3
  have HA := hid (near_c a0 4194305 w (by omega) (by omega) l0 l1)
  have HB := hid (near_c a2 4194304 w (by omega) (by omega) l2 l3)
  have HN := hid (fun (m : Nat) (h : m < 4194305) => IdxI.new_c m w (by omega))
  have HM := hid (@run_makeMap Try.prog)
  go_enter Try.func3, Try.ntmps3
  go_wp2_with fail
  refine HA.out.mono ?_
  rintro r w' ⟨⟨most, hmost, rfl⟩, rfl⟩
  go_wp2_with fail
  refine HB.out.mono ?_
  rintro r w' ⟨⟨N, hN, rfl⟩, rfl⟩
  go_wp2_with (go_at_call 5; refine (HN.out most hmost).mono ?_; rintro e w1 ⟨rfl, n, ee, F, I, fr, hsz⟩)
  have Hs := hid (IdxI.slots_c I)
  have hp := F.geo.pos
  have hsm := F.geo.small
  have hle := F.geo.le
  have hge := F.geo.ge
  have HF := hid F
  have HI := hid I
  have HFR := hid fr
  have HSZ := hid hsz
  have hmm := HM.out
  clear HA HB HN F I fr hsz
  go_wp2_with (go_at_call 6; refine Hs.out.mono ?_; rintro e w' ⟨rfl, rfl⟩)
  clear hmm HM
  obtain ⟨w5, hw5⟩ : ∃ w5, w5 = ((w1.alloc (.map #[] 0)).alloc (.map #[] 0)).alloc (.cells #[.int .i64 n, .int .i64 0, .map (some w1.heap.size), .map (some (w1.heap.size + 1))] 33) := ⟨_, rfl⟩
  rw [← hw5]
  have hk5 : Wide.MapK w5 w1.heap.size (fun _ => none) 0 := by
    rw [hw5]
    exact ((MapF.made w1).kept (World.grownBy_alloc _ _ none) (by simp)).kept (World.grownBy_alloc _ _ none) (by simp)
  have hp5 : Wide.MapP w5 (w1.heap.size + 1) (fun _ => none) 0 := by
    rw [hw5]
    have h0 := MapF.made (P := Try.prog) (k := 22) (e := 3) (qk := .u64) (qe := .i64) (w1.alloc (.map #[] 0))
    rw [World.size_alloc] at h0
    exact h0.kept (World.grownBy_alloc _ _ none) (by simp)
  have ht5 : w5.heap[w1.heap.size + 1 + 1]? = some (.cells #[.int .i64 n, .int .i64 (0 : Nat), .map (some w1.heap.size), .map (some (w1.heap.size + 1))] 33 (0, 0)) := by
    rw [hw5]
    have h0 := alloc_at ((w1.alloc (.map #[] 0)).alloc (.map #[] 0)) (.cells #[.int .i64 n, .int .i64 0, .map (some w1.heap.size), .map (some (w1.heap.size + 1))] 33)
    rw [alloc_size, alloc_size] at h0
    exact h0
  have hb5 : Below w1.heap.size w1 w5 := by rw [hw5]; exact (((Below.refl _ _).alloc (Nat.le_refl _) _).alloc (by simp) _).alloc (by simp; omega) _
  have HK5 := hid hk5
  have HP5 := hid hp5
  have HI5 := hid (HI.out.of_blocks (hb5.block _ HI.out.lb) (hb5.block _ HI.out.ls))
  have HB5 : Hid (Below w.heap.size w w5) := hid ((HFR.out.below (Nat.le_refl _) (by simp)).trans (hb5.mono (by have := HFR.out.size; omega)))
  have hord : w.heap.size + 1 < w1.heap.size := by have := HSZ.out; omega
  have HT5 := hid ht5
  clear hw5 hk5 hp5 ht5 hb5 HI HFR HSZ Hs
  generalize hkb : w1.heap.size = kb at *
  generalize hpb : kb + 1 = pb at *
  generalize htb : pb + 1 = tb at *
  have hk1 : kb < pb := by omega
  have hk2 : pb < tb := by omega
  clear hkb hpb htb
  go_loopg [44] 64 (fun f _ wr => ∃ j : Nat, j + f = 64 ∧ j ≤ ee ∧ Hid (wr.heap[tb]? = some (.cells #[.int .i64 n, .int .i64 j, .map (some kb), .map (some pb)] 33 (0, 0))) ∧ Hid (Frm [tb] w5 wr))
  case atStart => exact ⟨0, by omega, by omega, HT5, Frm.refl _ _⟩
  case round =>
    obtain ⟨j, hf, hj, ht, hfr⟩ := hrel
    have c0 : wr.cell? ⟨tb, 0, none⟩ = some (.int .i64 n) := by rw [cell_of_block ht.out]; rfl
    have c1 : wr.cell? ⟨tb, 1, none⟩ = some (.int .i64 j) := by rw [cell_of_block ht.out]; rfl
    have f1 : wr.frozen? ⟨tb, 1, none⟩ = false := frozen_of_block ht.out 1
    obtain ⟨q, hq2, hqw⟩ : ∃ q : Nat, 2 ^ j = q ∧ wrap64 ((2 : Int) ^ j) = (q : Int) := by
      refine ⟨_, rfl, ?_⟩
      have : 2 ^ j ≤ 2 ^ 40 := Nat.pow_le_pow_right (by decide) (by omega)
      have e : ((2 : Int) ^ j) = ((2 ^ j : Nat) : Int) := by rw [Int.natCast_pow]; rfl
      rw [e]
      generalize 2 ^ j = q at this
      exact IntWalk.wrap64_in _ ⟨by omega, by omega⟩
    have HQ := hid hq2
    clear hq2
    by_cases hje : j < ee
    · have hlt : q < n := by rw [← HQ.out, HF.out.geo.n]; exact Nat.pow_lt_pow_right (by decide) hje
      go_wp2_with fail
      go_quiet (fail)
      obtain ⟨wz, hwz⟩ : ∃ wz, wz = wr.drewN nq := ⟨_, rfl⟩
      rw [← hwz]
      have hz : wz.heap[tb]? = some (.cells #[.int .i64 n, .int .i64 j, .map (some kb), .map (some pb)] 33 (0, 0)) := by rw [hwz]; exact ht.out
      have z1 : wz.cell? ⟨tb, 1, none⟩ = some (.int .i64 j) := by rw [cell_of_block hz]; rfl
      have y1 : wz.frozen? ⟨tb, 1, none⟩ = false := frozen_of_block hz 1
      have HZ := hid hz
      have HFZ : Hid (Frm [tb] w5 wz) := by rw [hwz]; exact hid (hfr.out.drewN _)
      clear hwz hz c0 c1 f1 ht hfr
      go_wp2
      go_roundg (gk - 1)
      case measure => omega
      case rel => exact ⟨j + 1, by omega, by omega, hid (by have := setCell_cells HZ.out 1 (.int .i64 ((j : Int) + 1)); simpa using this), HFZ.out.setCell (by simp) _⟩
    · obtain rfl : j = ee := by omega
      obtain rfl : q = n := by rw [← HQ.out, HF.out.geo.n]
      go_wp2_with fail
      go_quiet (fail)
      obtain ⟨wz, hwz⟩ : ∃ wz, wz = wr.drewN nq := ⟨_, rfl⟩
      rw [← hwz]
      have HW0 : Hid (WideAt w wz (w.heap.size + 1) w.heap.size tb kb pb q most j 0 0 (fun _ => none)) := by
        have hf : Frm [tb] w5 wz := by rw [hwz]; exact hfr.out.drewN _
        have hz : wz.heap[tb]? = some (.cells #[.int .i64 q, .int .i64 j, .map (some kb), .map (some pb)] 33 (0, 0)) := by rw [hwz]; exact ht.out
        have hbk : wz.heap[kb]? = w5.heap[kb]? := hf.block _ HK5.out.lt (by simp; omega)
        have hbp : wz.heap[pb]? = w5.heap[pb]? := hf.block _ HP5.out.lt (by simp; omega)
        refine ⟨⟨Inv.empty _, cnt_none _, Nat.zero_le _, HF.out, fun i k u h => by simp at h⟩, HI5.out.frm hf (by simp; omega) (by simp; omega), ⟨?_, ?_, ?_, ?_, by omega, ⟨_, KeyOf.empty, HK5.out.of_block hbk⟩, ⟨_, PlaceOf.empty, HP5.out.of_block hbp⟩⟩, fun p k u h => by simp at h, fun p k u h => by simp at h, by simp; omega, HB5.out.trans (hf.below HB5.out.size (by simp; omega)), by omega⟩
        · rw [cell_of_block hz]; rfl
        · rw [cell_of_block hz]; rfl
        · rw [cell_of_block hz]; rfl
        · rw [cell_of_block hz]; rfl
      clear hwz c0 c1 f1 ht hfr hqw HQ HK5 HP5 HI5 HB5 HT5 HF
      go_wp2_with fail
      clear hj hf hle hge hsm hp
      generalize hbb : w.heap.size + 1 = bb at *
      clear hbb
      obtain ⟨gk0, rfl⟩ : ∃ x, x = gk := ⟨_, rfl⟩
      go_loopg [12] N (fun f s12 wr => ∃ (i c : Nat) (S : Tb Value), s12 = .int .i64 i ∧ i + f = N ∧ Hid (WideAt w wr bb w.heap.size tb kb pb q most j i c S))
      case atStart => exact ⟨0, 0, _, rfl, by omega, HW0⟩
      case round =>
        obtain ⟨i, c, S, rfl, hif, H⟩ := hrel
        by_cases hlt : i < N
        · go_upto_region 14 with fail
          obtain ⟨key, h1, hkey⟩ := key_nat (bits .xor .u64 (IntKind.u64.wrap (IntKind.u64.wrap (a1 + ↑i) * 13787848793156543929)) (IntKind.u64.wrap (IntKind.u64.wrap (a1 + ↑i) * 13787848793156543929) / 2147483648)) (a3 / 2 + 1) (bits_nonneg _ _ _) (by omega) (by omega)
          rw [h1]
          clear h1
          have KK := Wide.lwfu hkey
          by_cases ht : S (find q S key) = none
          · have HTN := hid ht
            have HA1 := hid (ask_gone H.out ht)
            clear ht
            obtain ⟨fP, fp2, fp3⟩ := HA1.out.p
            have FP2 := hid fp2
            have FP3 := hid fp3
            have c3 := HA1.out.c3
            have hts := cell_lt c3
            have hsl := hid HA1.out.sl
            clear fp2 fp3
            go_wp2_with (at_lookup; refine wpList_F_look_ok_none _ rfl _ _ _ rfl Wide.typedP pb _ fP rfl FP2.out _ rfl KK FP3.out ?_)
            refine hsl.out.mono ?_
            rintro r w2 ⟨rfl, m1, hm1⟩
            have H1 : Hid (WideAt w w2 bb w.heap.size tb kb pb q most j i c S) := by rw [hm1]; exact hid (H.out.drewN _)
            have c3b : w2.cell? ⟨tb, 3, none⟩ = some (.map (some pb)) := by rw [hm1]; exact c3
            have htb2 := cell_lt c3b
            have hlen : (Builtin.len_ #[31] 3 #[.map (some pb)]).run Try.prog w2 = .ok (.int .i64 c) w2 := MapF.len (W := w2) Wide.typedP (MapF.of_block (W := wr) FP2.out (by rw [hm1]; rfl)) _
            clear hm1 c3 hts hsl HA1 FP2 FP3 H
            by_cases hc : c = most
            · have HC := hid hc
              have hcb : ((c : Int) == (most : Int)) = true := by simp [hc]
              have HP := hid (put3 H1.out HC.out HTN.out (i : Int))
              clear hc
              go_wp2_with fail
              refine HP.out.mono ?_
              rintro r w4 ⟨rfl, m2, hm2⟩
              have H2 : Hid (WideAt w w4 bb w.heap.size tb kb pb q most j (i + 1) c S) := by rw [hm2]; exact hid (H1.out.drewN _).next
              clear hm2 hlen c3b htb2 H1 HP
              have HQ := hid (ask_gone H2.out HTN.out)
              obtain ⟨fQ, fq2, fq3⟩ := HQ.out.p
              have FQ2 := hid fq2
              have FQ3 := hid fq3
              have c3q := HQ.out.c3
              have htq := cell_lt c3q
              have hsq := hid HQ.out.sl
              clear fq2 fq3
              go_wp2_with (at_lookup; refine wpList_F_look_ok_none _ rfl _ _ _ rfl Wide.typedP pb _ fQ rfl FQ2.out _ rfl KK FQ3.out ?_)
              refine hsq.out.mono ?_
              rintro r wz ⟨rfl, m9, hm9⟩
              have c3z : wz.cell? ⟨tb, 3, none⟩ = some (.map (some pb)) := by rw [hm9]; exact c3q
              have hlz : ∀ m, (Builtin.len_ #[31] 3 #[.map (some pb)]).run Try.prog (wz.drewN m) = .ok (.int .i64 (c : Nat)) (wz.drewN m) := fun m => MapF.len (W := wz.drewN m) Wide.typedP (MapF.of_block (W := w4) FQ2.out (by rw [hm9]; rfl)) _
              have HWz : Hid (WideAt w wz bb w.heap.size tb kb pb q most j (i + 1) (c) (S)) := by rw [hm9]; exact hid (H2.out.drewN _)
              have HLz := hid (fun m => IdxI.len_c (HWz.out.I.drewN m))
              clear hm9 HQ FQ2 FQ3 c3q htq hsq H2
              go_wp2_with fail
              go_quiet ((go_at_call 12; exact quietS (HLz.out _)))
              go_wp2_with fail
              go_roundg (gk - 1)
              case measure => omega
              case rel => exact ⟨i + 1, _, _, by go_num, by omega, HWz.out.drewN _⟩
            · have hc' : c < most := by have := H1.out.T.le; omega
              have hcb : ((c : Int) == (most : Int)) = false := by simp; omega
              have HP : Hid (Calls Try.prog 10 #[.pointer (some ⟨bb, 0, none⟩), .int .u64 key, .int .i64 i] w2 fun r w' => r = .returned (.int .i64 0) ∧ Frm [bb, w.heap.size] w2 w' ∧ IdxAt w' bb w.heap.size most (c + 1) q (conc (.int .i64 0) (putAt q S key (.int .i64 i)))) := by
                obtain ⟨em, hem, hemp⟩ := H1.out.T.emp
                exact hid (IdxI.put_new H1.out.I H1.out.T.fit.geo hem hemp key i hc' (by have := H1.out.T.fit.ge; omega) HTN.out)
              have HPT := hid (fun (w4 : World) (f4 : Frm [bb, w.heap.size] w2 w4) => by
                obtain ⟨em, hem, hemp⟩ := H1.out.T.emp
                exact Wide.put_c (H1.out.A.frm f4 H1.out.ap.2.1 H1.out.ap.2.2.1 H1.out.ap.2.2.2) H1.out.T.fit.geo H1.out.T.inv hem hemp (by have := H1.out.T.lt; omega) hkey HTN.out (.int .i64 i))
              clear hc
              go_wp2_with fail
              refine HP.out.mono ?_
              rintro r w4 ⟨rfl, f4, i4⟩
              have F4 := hid f4
              have I4 := hid i4
              clear f4 i4 hlen c3b htb2
              go_wp2_with fail
              refine (HPT.out w4 F4.out).mono ?_
              rintro r w5' ⟨rfl, f5, t5⟩
              have H2 := hid (put_new_fin H1.out hkey hc' HTN.out F4.out I4.out f5 t5)
              have hfl := find_lt H1.out.T.pos S key
              have HSQ : Hid (putAt q S key (.int .i64 i) (find q S key) = some (key, .int .i64 i)) := by unfold putAt; exact hid (upd_same _ _ _)
              clear f5 t5 HPT HP F4 I4 H1
              generalize putAt q S key (.int .i64 i) = S' at *
              generalize find q S key = pl at *
              have HQ := hid (ask_there H2.out hfl HSQ.out)
              obtain ⟨fQ, fq2, fq3⟩ := HQ.out.p
              have FQ2 := hid fq2
              have FQ3 := hid fq3
              have c3q := HQ.out.c3
              have htq := cell_lt c3q
              have hsq := hid HQ.out.sl
              clear fq2 fq3
              go_wp2_with (at_lookup; refine wpList_F_look_ok_some _ rfl _ _ _ rfl Wide.typedP pb _ fQ rfl FQ2.out _ rfl KK _ FQ3.out ?_)
              refine hsq.out.mono ?_
              rintro r wz ⟨rfl, m9, hm9⟩
              have c3z : wz.cell? ⟨tb, 3, none⟩ = some (.map (some pb)) := by rw [hm9]; exact c3q
              have hlz : ∀ m, (Builtin.len_ #[31] 3 #[.map (some pb)]).run Try.prog (wz.drewN m) = .ok (.int .i64 (c + 1 : Nat)) (wz.drewN m) := fun m => MapF.len (W := wz.drewN m) Wide.typedP (MapF.of_block (W := w5') FQ2.out (by rw [hm9]; rfl)) _
              have HWz : Hid (WideAt w wz bb w.heap.size tb kb pb q most j (i + 1) (c + 1) (S')) := by rw [hm9]; exact hid (H2.out.drewN _)
              have HLz := hid (fun m => IdxI.len_c (HWz.out.I.drewN m))
              clear hm9 HQ FQ2 FQ3 c3q htq hsq H2
              go_wp2_with fail
              go_quiet ((go_at_call 12; exact quietS (HLz.out _)))
              go_wp2_with fail
              go_roundg (gk - 1)
              case measure => omega
              case rel => exact ⟨i + 1, _, _, by go_num, by omega, HWz.out.drewN _⟩
          · obtain ⟨x0, hx0⟩ : ∃ x0, S (find q S key) = some (key, x0) := by
              obtain ⟨em, hem, hemp⟩ := H.out.T.emp
              cases hs : S (find q S key) with
              | none => exact absurd hs ht
              | some y =>
                obtain ⟨k', u⟩ := y
                have := stopAt_some (find_spec hem hemp key).1 hs
                subst this
                exact ⟨u, rfl⟩
            have HTN := hid hx0
            have hfl := find_lt H.out.T.pos S key
            have HA1 := hid (ask_there H.out hfl hx0)
            clear ht hx0
            obtain ⟨fP, fp2, fp3⟩ := HA1.out.p
            have FP2 := hid fp2
            have FP3 := hid fp3
            have c3 := HA1.out.c3
            have hts := cell_lt c3
            have hsl := hid HA1.out.sl
            clear fp2 fp3
            go_wp2_with (at_lookup; refine wpList_F_look_ok_some _ rfl _ _ _ rfl Wide.typedP pb _ fP rfl FP2.out _ rfl KK _ FP3.out ?_)
            refine hsl.out.mono ?_
            rintro r w2 ⟨rfl, m1, hm1⟩
            have H1 : Hid (WideAt w w2 bb w.heap.size tb kb pb q most j i c S) := by rw [hm1]; exact hid (H.out.drewN _)
            have c3b : w2.cell? ⟨tb, 3, none⟩ = some (.map (some pb)) := by rw [hm1]; exact c3
            have htb2 := cell_lt c3b
            have hlen : (Builtin.len_ #[31] 3 #[.map (some pb)]).run Try.prog w2 = .ok (.int .i64 c) w2 := MapF.len (W := w2) Wide.typedP (MapF.of_block (W := wr) FP2.out (by rw [hm1]; rfl)) _
            clear hm1 c3 hts hsl HA1 FP2 FP3 H
            obtain ⟨v0, rfl⟩ := H1.out.T.int _ _ _ HTN.out
            by_cases h3 : i % 3 = 0
            · have h3b : ((i : Int) % 3 == 0) = true := by simp; omega
              have hv := H1.out.vs _ _ _ HTN.out
              obtain ⟨c', rfl⟩ : ∃ c', c = c' + 1 := ⟨c - 1, by have := H1.out.T.count_pos hfl (by rw [HTN.out]; simp); omega⟩
              have HP : Hid (Calls Try.prog 8 #[.pointer (some ⟨bb, 0, none⟩), .int .u64 key] w2 fun r w' => r = .returned (.tuple #[.int .i64 v0, .bool true]) ∧ Frm [bb, w.heap.size] w2 w' ∧ IdxAt w' bb w.heap.size most c' q (conc (.int .i64 0) (dropAt q S (find q S key)))) := by
                obtain ⟨em, hem, hemp⟩ := H1.out.T.emp
                exact hid (IdxI.drop_some H1.out.I H1.out.T.fit.geo H1.out.T.inv (by have := H1.out.T.lt; omega) hem hemp key HTN.out H1.out.T.int)
              have HPT := hid (fun (w4 : World) (f4 : Frm [bb, w.heap.size] w2 w4) => by
                obtain ⟨em, hem, hemp⟩ := H1.out.T.emp
                exact Wide.drop_c (H1.out.A.frm f4 H1.out.ap.2.1 H1.out.ap.2.2.1 H1.out.ap.2.2.2) H1.out.T.fit.geo H1.out.T.inv hem hemp (by have := H1.out.T.lt; omega) HTN.out H1.out.ks)
              clear h3
              go_wp2_with fail
              refine HP.out.mono ?_
              rintro r w4 ⟨rfl, f4, i4⟩
              have F4 := hid f4
              have I4 := hid i4
              clear f4 i4 hlen c3b htb2
              go_wp2_with fail
              refine (HPT.out w4 F4.out).mono ?_
              rintro r w5' ⟨rfl, f5, t5⟩
              obtain ⟨h2a, h2b⟩ := drop_fin H1.out HTN.out F4.out I4.out f5 t5
              have H2 := hid h2a
              have HSQ := hid h2b
              clear f5 t5 HPT HP F4 I4 H1 h2a h2b HTN
              generalize dropAt q S (find q S key) = S' at *
              generalize find q S key = pl at *
              have HQ := hid (ask_gone H2.out HSQ.out)
              obtain ⟨fQ, fq2, fq3⟩ := HQ.out.p
              have FQ2 := hid fq2
              have FQ3 := hid fq3
              have c3q := HQ.out.c3
              have htq := cell_lt c3q
              have hsq := hid HQ.out.sl
              clear fq2 fq3
              go_wp2_with (at_lookup; refine wpList_F_look_ok_none _ rfl _ _ _ rfl Wide.typedP pb _ fQ rfl FQ2.out _ rfl KK FQ3.out ?_)
              refine hsq.out.mono ?_
              rintro r wz ⟨rfl, m9, hm9⟩
              have c3z : wz.cell? ⟨tb, 3, none⟩ = some (.map (some pb)) := by rw [hm9]; exact c3q
              have hlz : ∀ m, (Builtin.len_ #[31] 3 #[.map (some pb)]).run Try.prog (wz.drewN m) = .ok (.int .i64 (c' : Nat)) (wz.drewN m) := fun m => MapF.len (W := wz.drewN m) Wide.typedP (MapF.of_block (W := w5') FQ2.out (by rw [hm9]; rfl)) _
              have HWz : Hid (WideAt w wz bb w.heap.size tb kb pb q most j (i + 1) (c') (S')) := by rw [hm9]; exact hid (H2.out.drewN _)
              have HLz := hid (fun m => IdxI.len_c (HWz.out.I.drewN m))
              clear hm9 HQ FQ2 FQ3 c3q htq hsq H2
              go_wp2_with fail
              go_quiet ((go_at_call 12; exact quietS (HLz.out _)))
              go_wp2_with fail
              go_roundg (gk - 1)
              case measure => omega
              case rel => exact ⟨i + 1, _, _, by go_num, by omega, HWz.out.drewN _⟩
            · have h3b : ((i : Int) % 3 == 0) = false := by simp; omega
              have HP : Hid (Calls Try.prog 10 #[.pointer (some ⟨bb, 0, none⟩), .int .u64 key, .int .i64 i] w2 fun r w' => r = .returned (.int .i64 0) ∧ Frm [bb, w.heap.size] w2 w' ∧ IdxAt w' bb w.heap.size most c q (conc (.int .i64 0) (putAt q S key (.int .i64 i)))) := by
                obtain ⟨em, hem, hemp⟩ := H1.out.T.emp
                exact hid (IdxI.put_old H1.out.I H1.out.T.fit.geo hem hemp key i (by have := H1.out.T.le; have := H1.out.T.count_pos hfl (by rw [HTN.out]; simp); omega) (by rw [HTN.out]; simp))
              clear h3
              have hor : ((c : Int) == (most : Int)) = true ∨ ((c : Int) == (most : Int)) = false := by cases ((c : Int) == (most : Int)) <;> simp
              rcases hor with hcb | hcb
              all_goals
                go_wp2_with fail
                refine HP.out.mono ?_
                rintro r w4 ⟨rfl, f4, i4⟩
                have H2 := hid (put_old_fin H1.out hkey HTN.out f4 i4)
                have HSQ : Hid (putAt q S key (.int .i64 i) (find q S key) = some (key, .int .i64 i)) := by unfold putAt; exact hid (upd_same _ _ _)
                clear f4 i4 HP H1 hlen c3b htb2
                generalize putAt q S key (.int .i64 i) = S' at *
                generalize find q S key = pl at *
                have HQ := hid (ask_there H2.out hfl HSQ.out)
                obtain ⟨fQ, fq2, fq3⟩ := HQ.out.p
                have FQ2 := hid fq2
                have FQ3 := hid fq3
                have c3q := HQ.out.c3
                have htq := cell_lt c3q
                have hsq := hid HQ.out.sl
                clear fq2 fq3
                go_wp2_with (at_lookup; refine wpList_F_look_ok_some _ rfl _ _ _ rfl Wide.typedP pb _ fQ rfl FQ2.out _ rfl KK _ FQ3.out ?_)
                refine hsq.out.mono ?_
                rintro r wz ⟨rfl, m9, hm9⟩
                have c3z : wz.cell? ⟨tb, 3, none⟩ = some (.map (some pb)) := by rw [hm9]; exact c3q
                have hlz : ∀ m, (Builtin.len_ #[31] 3 #[.map (some pb)]).run Try.prog (wz.drewN m) = .ok (.int .i64 (c : Nat)) (wz.drewN m) := fun m => MapF.len (W := wz.drewN m) Wide.typedP (MapF.of_block (W := w4) FQ2.out (by rw [hm9]; rfl)) _
                have HWz : Hid (WideAt w wz bb w.heap.size tb kb pb q most j (i + 1) (c) (S')) := by rw [hm9]; exact hid (H2.out.drewN _)
                have HLz := hid (fun m => IdxI.len_c (HWz.out.I.drewN m))
                clear hm9 HQ FQ2 FQ3 c3q htq hsq H2
                go_wp2_with fail
                go_quiet ((go_at_call 12; exact quietS (HLz.out _)))
                go_wp2_with fail
                go_roundg (gk - 1)
                case measure => omega
                case rel => exact ⟨i + 1, _, _, by go_num, by omega, HWz.out.drewN _⟩
        · go_wp2
          go_ret
          exact ⟨rfl, H.out.bel⟩

/-! ### THE ROW's STEP: WRITTEN OUT: LEAVE IT -/
set_option maxRecDepth 100000 in
theorem lifted (os : Os) (started : os.Started) (H : Type) (enc : TypeId × Value → H) :
    ReturnsInHanded {} Try.checked os 3 .any (Rows.indexWideSpec.pre6 enc Try.prog Try.f3 Rows.indexWideRow.domain false) (Rows.indexWideSpec.post enc Try.prog Try.f3 false true false false) := by
  refine returnsInHanded_of_change (C := Try.checked) own started (by kernel_rfl) Try.func3
    (ChangeSpec.witness6 (enc := enc) (C := Try.checked) false ⟨#[], #[.int .i64 0, .int .u64 0, .int .i64 0, .int .u64 0], []⟩ 8 (by kernel_rfl) (by kernel_rfl) (by kernel_rfl) (by kernel_rfl)) ?_
  intro W base args ds gs before hval0 hW hcnd _
  have hval : ∀ (j : Nat) t v, Try.f3.params[j]? = some t → args[j]? = some v → Value.okWide Try.prog W .any base t v := hval0
  have hW' := hW
  obtain ⟨p, q, hA0, hV, rfl, hfz, hnd⟩ := hW
  have hA : DataW.TrodAll enc Try.prog W 0 (fun _ => true) true Try.f3.params.toList args.toList ds p := hA0
  rw [Try.params3] at hA hval
  obtain ⟨v0, vs0, d0, ds0, p0, q0, hargs, rfl, rfl, h0, r0⟩ := trodAll_cons hA
  obtain ⟨v1, vs1, d1, ds1, p1, q1, rfl, rfl, rfl, h1, r1⟩ := trodAll_cons r0
  obtain ⟨v2, vs2, d2, ds2, p2, q2, rfl, rfl, rfl, h2, r2⟩ := trodAll_cons r1
  obtain ⟨v3, vs3, d3, ds3, p3, q3, rfl, rfl, rfl, h3, r3⟩ := trodAll_cons r2
  obtain ⟨rfl, rfl, rfl⟩ := trodAll_nil r3
  obtain rfl : args = #[v0, v1, v2, v3] := by cases args; simp_all
  obtain ⟨rfl, rfl⟩ := trodVars_none hV
  obtain ⟨a0, rfl, rfl, rfl, w0⟩ := open_int Try.underlying3 (hval 0 3 v0 rfl rfl) h0
  obtain ⟨a1, rfl, rfl, rfl, w1⟩ := open_int Try.underlying22 (hval 1 22 v1 rfl rfl) h1
  obtain ⟨a2, rfl, rfl, rfl, w2⟩ := open_int Try.underlying3 (hval 2 3 v2 rfl rfl) h2
  obtain ⟨a3, rfl, rfl, rfl, w3⟩ := open_int Try.underlying22 (hval 3 22 v3 rfl rfl) h3
  clear hA0 hval0
  refine (walk a0 a1 a2 a3 W w0 w1 w2 w3).mono fun e W' ⟨he, bel⟩ => ?_
  subst he
  exact ⟨_, rfl, _, _, _, [], _, [], hW', trodAll_mk1 (shut_bool Try.underlying4 _), (trodAll_cons_mk (shut_int Try.underlying3 w0) (trodAll_cons_mk (shut_int Try.underlying22 w1) (trodAll_cons_mk (shut_int Try.underlying3 w2) (trodAll_cons_mk (shut_int Try.underlying22 w3) trodAll_mk0)))), rfl, bel.frame _, fun h => by cases h⟩

theorem over : Rows.indexWideRow.holds Try.pinned (OpenSpec.ofChange Rows.indexWideSpec) :=
  OpenClaim.holds_of_wide 3 Try.f3 rfl rfl rfl rfl rfl rfl rfl ⟨rfl, rfl, rfl, rfl, rfl⟩ rfl rfl rfl rfl rfl (by kernel_rfl) Try.func3 (by kernel_rfl)
    (of_decide_eq_true (by kernel_rfl)) (by unfold Func.isWrapper; first | (rw [if_pos (by decide +kernel)]; kernel_rfl) | (rw [if_neg (by decide +kernel)]; exact ⟨rfl, rfl⟩))
    (fun os started H enc _ => lifted os started H enc)

/-- ████ THE STATEMENT ████ -/
theorem proved : Rows.IndexWideSaid := over
end Go.Proofs.Ytanfkiddmknpnaa.indexWide
