/- The index's laws: All, the program's and the document's. -/
import Derived.Test.YtcieieljgmkjmaaLawA
import Derived.Test.YtcieieljgmkjmaaIdxF
import Derived.Test.YtcieieljgmkjmaaRefD
set_option linter.unusedVariables false
namespace Go.Proofs.Ytcieieljgmkjmaa.LawB
open Go.RowKit Winnow Go.Shelf
open IdxI (entsTo Sorted KpB rowBlk Row3)
attribute [local go_sem] Oper.semAt_some

theorem mem_ents {S : Tb Value} {n : Nat} {x : Nat × Int} (h : x ∈ entsTo S n) : ∃ i k, i < n ∧ S i = some (x.1, .int k x.2) := by
  induction n with
  | zero => simp [entsTo] at h
  | succ n ih =>
    unfold entsTo at h
    rw [List.mem_append] at h
    rcases h with h | h
    · obtain ⟨i, k, hi, hs⟩ := ih h
      exact ⟨i, k, by omega, hs⟩
    · split at h
      · next k kk v hs => simp at h; subst h; exact ⟨n, kk, by omega, hs⟩
      · simp at h

theorem ents_nodup {S : Tb Value} {n : Nat} (I : Inv n S) : ∀ m, m ≤ n → (entsTo S m).Pairwise (fun a b => a.1 ≠ b.1) := by
  intro m
  induction m with
  | zero => intro _; exact .nil
  | succ m ih =>
    intro hm
    unfold entsTo
    rw [List.pairwise_append]
    refine ⟨ih (by omega), ?_, ?_⟩
    · split <;> simp
    · intro a ha b hb
      split at hb
      · next k kk v hs =>
        simp at hb; subst hb
        obtain ⟨i, k', hi, hs'⟩ := mem_ents ha
        intro e
        have := I.uniq i m k _ _ (by omega) (by omega) (by rw [hs']; simp only [] at e; rw [e]) hs
        omega
      · simp at hb

/-- By key there is one order. -/
theorem sorted_unique {S : Tb Value} {n : Nat} (I : Inv n S) {L L' : List (Nat × Int)} (h : Sorted S n L) (h' : Sorted S n L') : L = L' := by
  have hp : L.Perm L' := h.1.trans h'.1.symm
  have hn : ∀ {M : List (Nat × Int)}, Sorted S n M → M.Pairwise (fun a b => a.1 < b.1) := by
    intro M hM
    have h1 : M.Pairwise (fun a b => a.1 ≠ b.1) := (hM.1.pairwise_iff (fun h => fun e => h e.symm)).2 (ents_nodup I n (Nat.le_refl _))
    exact (h1.and hM.2).imp fun ⟨a, b⟩ => by omega
  have a := hn h
  have b := hn h'
  clear h h'
  induction L generalizing L' with
  | nil => exact (List.nil_perm.1 hp).symm
  | cons x L ih =>
    cases L' with
    | nil => exact absurd hp.symm (by simp)
    | cons y L' =>
      have hxy : x = y := by
        have hx : x ∈ y :: L' := hp.subset List.mem_cons_self
        have hy : y ∈ x :: L := hp.symm.subset List.mem_cons_self
        rcases List.mem_cons.1 hx with e | hx
        · exact e
        rcases List.mem_cons.1 hy with e | hy
        · exact e.symm
        have h1 := (List.pairwise_cons.1 b).1 x hx
        have h2 := (List.pairwise_cons.1 a).1 y hy
        omega
      subst hxy
      rw [ih ((List.perm_cons x).1 hp) (List.pairwise_cons.1 a).2 (List.pairwise_cons.1 b).2]

theorem boxed_isCells {W : World} {B : Nat} {t : TypeId} {v : Value} (h : Boxed W B t v) : ∃ o : Obj, W.heap[B]? = some o ∧ o.isCells = true := ⟨_, h, rfl⟩
theorem own_isCells {W : World} {b : Nat} {e : TypeId} {z : Nat} {v : Value} {n : Nat} {xs : List Value} (h : W.ownsRow b e z v n xs) : ∀ k, k ∈ rowBlk v → ∃ o : Obj, W.heap[k]? = some o ∧ o.isCells = true := by
  rcases h.2 with ⟨rfl, _⟩ | ⟨g, cap, cur, rfl, _, hg, _⟩
  · intro k hk; simp [rowBlk] at hk
  · intro k hk; simp [rowBlk] at hk; subst hk; exact ⟨_, hg, rfl⟩

/-- Blocks of cells abide the turns of blocks that are no cells. -/
theorem grown_cells {W W' : World} {row : Option Nat} {k : Nat} (hk : ∃ o : Obj, W.heap[k]? = some o ∧ o.isCells = true) (hg : W.grownBy W' row) (hr : ∀ r, row = some r → ∃ o : Obj, W.heap[r]? = some o ∧ o.isCells = false) : W'.heap[k]? = W.heap[k]? := by
  obtain ⟨o, h1, h2⟩ := hk
  refine hg.block k (Array.getElem?_eq_some_iff.1 h1).1 fun e => ?_
  obtain ⟨o', h3, h4⟩ := hr k e.symm
  rw [h1] at h3; cases h3; rw [h2] at h4; simp at h4

theorem own_kp {β : Type} {FB : List Nat} {w0 : World} (hF : ∀ k, k ∈ FB → ∃ o : Obj, w0.heap[k]? = some o ∧ o.isCells = true) : Own (fun (_ : β) W => KpB FB w0 W) := by
  intro s W W' row h hg hr k hk
  have hc : ∃ o : Obj, W.heap[k]? = some o ∧ o.isCells = true := by rw [h k hk]; exact hF k hk
  exact (grown_cells hc hg hr).trans (h k hk)

theorem own_later {w w' : World} {b : Nat} {e : TypeId} {z : Nat} {v : Value} {n : Nat} {xs : List Value} (h : w.ownsRow b e z v n xs) (hb : Below w.heap.size w w') : w'.ownsRow b e z v n xs := by
  refine ⟨h.1, ?_⟩
  rcases h.2 with h2 | ⟨g, cap, cur, hv, hg, hh, r⟩
  · exact .inl h2
  · exact .inr ⟨g, cap, cur, hv, hg, (hb.block g (Array.getElem?_eq_some_iff.1 hh).1).trans hh, r⟩

set_option maxRecDepth 100000 in
set_option maxHeartbeats 2000000 in
theorem all_c {w : World} {b s most count n e rb rx rk rv len : Nat} {S : Tb Value} {D : Nat → Bool × Nat × Int} (h : IdxAt w b s most count n (conc (.int .i64 0) S)) (g : Geo n e) (hint : ∀ i k u, S i = some (k, u) → ∃ x, u = .int .i64 x) (I : Inv n S)
    (hr : RefAt w rb rx rk rv most e len n D) (R : Rep n D S) :
    Calls Try.prog 29 #[.pointer (some ⟨b, 0, none⟩), .pointer (some ⟨rb, 0, none⟩)] w fun r w' => r = .returned (.bool true) ∧ Below w.heap.size w w' := by
  have HR := hid (fun (wx : World) (hx : RefAt wx rb rx rk rv most e len n D) => Ref.all_c hx R g)
  have HA := hid (fun (wx : World) (hx : IdxAt wx b s most count n (conc (.int .i64 0) S)) => IdxI.all_c hx g hint)
  have hsm := g.small
  have H0 := hid h
  have H1 := hid hr
  have hlb := h.lb
  have hls := h.ls
  have hl1 := hr.lb
  have hl2 := hr.lx
  have hl3 := hr.lk
  have hl4 := hr.lv
  clear h hr
  refine (callsIn_wide (n := 5)).1 ?_
  refine callsIn_of_wp_marks Try.func29 rfl trivial ?_ rfl
  simp only [Try.ntmps29, List.size_toArray, List.length_cons, List.length_nil, Nat.reduceAdd, Nat.reduceSub, Array.replicate_succ, Array.replicate_zero, List.push_toArray, List.append_toArray, List.nil_append, List.cons_append]
  gi_wp2_with fail
  refine ⟨trivial, ?_⟩
  have hst : w.heap.size ≤ (w.alloc (.cells #[.bool false] 4)).heap.size := by simp
  refine (callsIn_wide.2 (HR.out _ (H1.out.frm ((Frm.refl [] w).alloc _) (by simp) (by simp) (by simp) (by simp)))).mono ?_
  rintro r w1 ⟨L', kv, vv, hS', rfl, hok, hov, hB1⟩
  have hb1 : Boxed w1 w.heap.size 4 (.bool false) := (hB1.block _ (by simp)).trans (Boxed.new w 4 (.bool false))
  have hBw1 : Below w.heap.size w w1 := ((Below.refl w.heap.size w).alloc (Nat.le_refl _) _).trans (hB1.mono (by simp))
  have hsz1 : w.heap.size + 1 ≤ w1.heap.size := by have := hB1.size; simpa using this
  have HX := hid (And.intro hS' (And.intro hok (And.intro hov (And.intro hb1 hBw1))))
  obtain ⟨ka, kc, rfl, hka⟩ := Ref.own_form hok
  obtain ⟨va, vc, rfl, hva⟩ := Ref.own_form hov
  have HKA := hid hka
  have HVA := hid hva
  clear hS' hok hov hB1 hb1 hBw1 hka hva
  gi_wp2_with fail
  refine ⟨trivial, ?_⟩
  obtain ⟨wA, hwA⟩ : ∃ wA, wA = ((w1.alloc (.cells #[.slice ka L'.length kc] 23)).alloc (.cells #[.slice va L'.length vc] 36)).alloc (.cells #[.int .i64 0] 3) := ⟨_, rfl⟩
  rw [← hwA]
  obtain ⟨hS', hok, hov, hb1, hBw1⟩ := HX.out
  have hsA : wA.heap.size = w1.heap.size + 3 := by rw [hwA]; simp
  have hB1A : Below w1.heap.size w1 wA := by rw [hwA]; exact (((Below.refl _ _).alloc (Nat.le_refl _) _).alloc (by simp only [alloc_size]; omega) _).alloc (by simp only [alloc_size]; omega) _
  have hkA : Boxed wA w1.heap.size 23 (.slice ka L'.length kc) := by unfold Boxed; rw [hwA]; simp only [heap_alloc_if, alloc_size]; (repeat (first | rw [if_pos trivial] | rw [if_pos (by omega)] | rw [if_neg (by omega)]))
  have hvA : Boxed wA (w1.heap.size + 1) 36 (.slice va L'.length vc) := by unfold Boxed; rw [hwA]; simp only [heap_alloc_if, alloc_size]; (repeat (first | rw [if_pos trivial] | rw [if_pos (by omega)] | rw [if_neg (by omega)]))
  have hnA : Boxed wA (w1.heap.size + 1 + 1) 3 (.int .i64 0) := by unfold Boxed; rw [hwA]; simp only [heap_alloc_if, alloc_size]; (repeat (first | rw [if_pos trivial] | rw [if_pos (by omega)] | rw [if_neg (by omega)]))
  have hBA : Below w.heap.size w wA := hBw1.trans (hB1A.mono (by omega))
  have hb1A : Boxed wA w.heap.size 4 (.bool false) := (hB1A.block _ hb1.lt).trans hb1
  have hokA := hok.kept (World.grownBy_alloc w1 (.cells #[.slice ka L'.length kc] 23) none)
  clear hwA
  have hIA : IdxAt wA b s most count n (conc (.int .i64 0) S) := H0.out.of_blocks (hBA.block b hlb) (hBA.block s hls)
  refine (callsIn_wide.2 (HA.out _ hIA)).mono ?_
  rintro r w2 ⟨rfl, L, hS, hB2, hs2, lv, hbl, hrow⟩
  obtain rfl : L' = L := sorted_unique I hS' hS
  gi_wp2_with fail
  have hk2 : Boxed w2 w1.heap.size 23 (.slice ka L'.length kc) := (hB2.block _ hkA.lt).trans hkA
  have hv2 : Boxed w2 (w1.heap.size + 1) 36 (.slice va L'.length vc) := (hB2.block _ hvA.lt).trans hvA
  have hn2 : Boxed w2 (w1.heap.size + 1 + 1) 3 (.int .i64 0) := (hB2.block _ hnA.lt).trans hnA
  have hr2 : Boxed w2 w.heap.size 4 (.bool false) := (hB2.block _ hb1A.lt).trans hb1A
  have hBw2 : Below w.heap.size w w2 := hBA.trans (hB2.mono hBA.size)
  have hw12 : Below w1.heap.size w1 w2 := hB1A.trans (hB2.mono (by omega))
  have hok2 := own_later hok hw12
  have hov2 := own_later hov hw12
  have hSs : L'.length ≤ n := by rw [hS'.1.length_eq]; exact IdxI.entsTo_le S n
  have hF : ∀ k, k ∈ [w1.heap.size, w1.heap.size + 1] ++ rowBlk (.slice ka L'.length kc) ++ rowBlk (.slice va L'.length vc) ++ (wA.heap.size :: rowBlk lv) → ∃ o : Obj, w2.heap[k]? = some o ∧ o.isCells = true := by
    intro k hk
    simp only [List.mem_append, List.mem_cons, List.not_mem_nil, or_false] at hk
    rcases hk with (((rfl | rfl) | hk) | hk) | rfl | hk
    · exact boxed_isCells hk2
    · exact boxed_isCells hv2
    · exact own_isCells hok2 k hk
    · exact own_isCells hov2 k hk
    · exact boxed_isCells hbl
    · rcases hrow with ⟨_, rfl⟩ | ⟨gg, cap, rfl, _, _, hne, hc⟩
      · simp [rowBlk] at hk
      · simp [rowBlk] at hk; subst hk
        exact cells_of_cell (hc 0 (by cases L' with | nil => exact absurd rfl hne | cons _ _ => simp)).1
  generalize hFB : [w1.heap.size, w1.heap.size + 1] ++ rowBlk (.slice ka L'.length kc) ++ rowBlk (.slice va L'.length vc) ++ (wA.heap.size :: rowBlk lv) = FB at hF
  have hlt2 : ∀ k, k ∈ rowBlk lv → k < w2.heap.size := fun k hk => by
    obtain ⟨o, ho, _⟩ := hF k (by rw [← hFB]; simp [hk])
    exact (Array.getElem?_eq_some_iff.1 ho).1
  have hseq := IdxI.iter_stops Fence.wide 4 trivial rfl (by omega) wA.heap.size (wA.heap.size + 1) lv L' (by omega) w2 hbl hrow hlt2
  have hFn : ∀ k, k ∈ FB → k ≠ w1.heap.size + 1 + 1 ∧ k ≠ w.heap.size := by
    intro k hk
    rw [← hFB] at hk
    simp only [List.mem_append, List.mem_cons, List.not_mem_nil, or_false] at hk
    have rb1 : ∀ (v : Value), k ∈ rowBlk v → v.ownBlock = some k := by
      intro v hv
      unfold rowBlk at hv; split at hv
      · simp at hv; subst hv; rfl
      · simp at hv
    rcases hk with (((rfl | rfl) | hk) | hk) | rfl | hk
    · omega
    · omega
    · have := hok.lt k (rb1 _ hk); simp at this; omega
    · have := hov.lt k (rb1 _ hk); simp at this; omega
    · omega
    · rcases hrow with ⟨_, rfl⟩ | ⟨gg, cap, rfl, h1, _, _, _⟩
      · simp [rowBlk] at hk
      · simp [rowBlk] at hk; subst hk; omega
  have hFB2 : ∀ k, k ∈ rowBlk lv → k ∈ FB := fun k hk => by rw [← hFB]; simp [hk]
  rw [hsA] at hseq hbl
  refine wpIn_rangeFunc_ownG (F := Fence.wide) rfl (by omega) (gf := 45) (lb := #[.pointer (some ⟨w1.heap.size + 3, 0, none⟩)]) rfl trivial (enters_of Try.func45 (by kernel_rfl) rfl) hseq KpB.t (KpB.b (by intro k hk; rcases List.mem_cons.1 hk with rfl | hk; exact hbl.lt; exact hlt2 k hk)) (Below.refl _ _) (fun _ => rfl)
    (fun pre W => KpB FB w2 W ∧ Boxed W (w1.heap.size + 1 + 1) 3 (.int .i64 pre.length) ∧ Boxed W w.heap.size 4 (.bool false) ∧ pre <+: L' ∧ Below w.heap.size w W)
    (fun c pre W => c = .ret ∧ ¬ pre <+: L') ?hI ?hIx ?h0
    (fun x => { tmps := #[.pointer (some ⟨b, 0, none⟩), .pointer (some ⟨rb, 0, none⟩), undef, undef, .pointer (some ⟨w.heap.size, 0, none⟩), .pointer (some ⟨w1.heap.size, 0, none⟩), .pointer (some ⟨w1.heap.size + 1, 0, none⟩), .pointer (some ⟨w1.heap.size + 1 + 1, 0, none⟩), .int .u64 x.1, .int .i64 x.2, .tuple #[.slice ka L'.length kc, .slice va L'.length vc], .pointer (some ⟨rb, 0, none⟩), .tuple #[.slice ka L'.length kc, .slice va L'.length vc], .slice ka L'.length kc, .slice va L'.length vc, .pointer (some ⟨b, 0, none⟩), .func (.func 45) #[] #[.pointer (some ⟨w1.heap.size + 3, 0, none⟩)], .int .u64 x.1, .int .i64 x.2, undef, undef, undef, undef, undef, undef, undef, undef, undef, undef, undef, undef, undef, undef, undef, undef, undef, undef, undef, undef, undef, undef, undef, undef, undef, undef], defers := [] }) ?assign ?body ?done ?stop
  case hI =>
    intro pre W W' row hs hg hr
    obtain ⟨i1, i2, i3, i4, i5⟩ := hs
    have hr' : ∀ r, row = some r → ∃ o : Obj, W.heap[r]? = some o ∧ o.isCells = false := fun r e => (hr r e).2
    exact ⟨own_kp hF pre W W' row i1 hg hr', (grown_cells (boxed_isCells i2) hg hr').trans i2, (grown_cells (boxed_isCells i3) hg hr').trans i3, i4, i5.grown hg (by have := i5.size; omega) (fun k e => by have := (hr k e).1; have := hBw2.size; omega)⟩
  case hIx => exact fun c pre W W' row hs hg hr => hs
  case h0 => exact ⟨fun _ _ => rfl, hn2, hr2, List.nil_prefix, hBw2⟩
  case assign => intro l x W K hK; gi_wp2; exact hK
  case body =>
    rintro l pre x W ⟨i1, i2, i3, i4, i5⟩ hlen
    obtain ⟨gk, rfl⟩ := HKA.out (by omega)
    obtain ⟨gv, rfl⟩ := HVA.out (by omega)
    have mk : gk ∈ FB := by rw [← hFB]; simp [rowBlk]
    have mv : gv ∈ FB := by rw [← hFB]; simp [rowBlk]
    have m0 : w1.heap.size ∈ FB := by rw [← hFB]; simp
    have m1 : w1.heap.size + 1 ∈ FB := by rw [← hFB]; simp
    have ck : W.cell? ⟨w1.heap.size, 0, none⟩ = some (.slice (some ⟨gk, 0, none⟩) L'.length kc) := (World.cell?_of_block (i1 _ m0)).trans hk2.cell
    have cv : W.cell? ⟨w1.heap.size + 1, 0, none⟩ = some (.slice (some ⟨gv, 0, none⟩) L'.length vc) := (World.cell?_of_block (i1 _ m1)).trans hv2.cell
    have ek : W.cell? ⟨gk, pre.length, none⟩ = some (.int .u64 L'[pre.length].1) := by
      rw [World.cell?_of_block (i1 _ mk), hok2.cellAt pre.length (by omega)]; simp [Ref.kxs, hlen]
    have ev : W.cell? ⟨gv, pre.length, none⟩ = some (.int .i64 L'[pre.length].2) := by
      rw [World.cell?_of_block (i1 _ mv), hov2.cellAt pre.length (by omega)]; simp [Ref.vxs, hlen]
    have cn := i2.cell
    have fn := i2.frozen
    have cr := i3.cell
    have fr := i3.frozen
    have hpre := List.prefix_iff_eq_take.1 i4
    by_cases hx : x = L'[pre.length]
    · have hpx : pre ++ [x] <+: L' := by
        rw [hx]
        have : pre ++ [L'[pre.length]] = L'.take (pre.length + 1) := by
          rw [List.take_succ_eq_append_getElem hlen, ← hpre]
        rw [this]; exact List.take_prefix _ _
      have HP := hid (And.intro i1 (And.intro i2 (And.intro i3 (And.intro hpx i5))))
      have e1 : x.1 = L'[pre.length].1 := by rw [hx]
      have e2 : x.2 = L'[pre.length].2 := by rw [hx]
      rw [← e1] at ek
      rw [← e2] at ev
      clear i1 i2 i3 i4 i5 hpre hpx e1 e2 hx hFB hF mk mv m0 m1 hseq
      gi_wp2
      obtain ⟨i1, i2, i3, hpx, i5⟩ := HP.out
      refine ⟨(KeepsOthers.setCell _ _ _).from _, ?_, ?_, ?_, ?_, hpx, i5.setCell (by show w.heap.size ≤ w1.heap.size + 1 + 1; omega) _⟩
      · intro k hk
        refine Below.heap_setCell _ _ _ _ ?_
        rcases List.mem_cons.1 hk with rfl | hk
        · show w1.heap.size + 3 ≠ w1.heap.size + 1 + 1; omega
        · exact (hFn k (hFB2 k hk)).1
      · exact fun k hk => (Below.heap_setCell _ _ _ _ (hFn k hk).1).trans (i1 k hk)
      · simpa using i2.set (.int .i64 (↑pre.length + 1))
      · exact (Below.heap_setCell _ _ _ _ (by show w.heap.size ≠ w1.heap.size + 1 + 1; omega)).trans i3
    · have hnp : ¬ (pre ++ [x]) <+: L' := by
        intro hp
        have h2 := List.prefix_iff_eq_take.1 hp
        rw [List.length_append, List.length_singleton, List.take_succ_eq_append_getElem hlen, ← hpre] at h2
        simp at h2
        exact hx h2
      generalize hy : L'[pre.length] = y at ek ev hx
      clear i1 i2 i3 i4 i5 hpre hy hFB hF mk mv m0 m1 hseq
      by_cases hk : x.1 = y.1
      · have hv : ¬ x.2 = y.2 := fun hv => hx (Prod.ext hk hv)
        rw [← hk] at ek
        clear hx
        gi_wp2
        · exact ⟨(KeepsOthers.setCell _ _ _).from _, rfl, hnp⟩
        · rename_i hh; exfalso; exact hv (by simpa using hh.2)
      · have hk' : ¬ (x.1 : Int) = y.1 := by omega
        clear hx
        gi_wp2
        exact ⟨(KeepsOthers.setCell _ _ _).from _, rfl, hnp⟩
  case done =>
    rintro D xs W hD rfl ⟨i1, i2, i3, i4, i5⟩ hDD
    have cn := i2.cell
    have cr := i3.cell
    have fr := i3.frozen
    have m0 : w1.heap.size ∈ FB := by rw [← hFB]; simp
    have ck : W.cell? ⟨w1.heap.size, 0, none⟩ = some (.slice ka xs.length kc) := (World.cell?_of_block (i1 _ m0)).trans hk2.cell
    have HP := hid (And.intro i3 i5)
    clear i1 i2 i3 i4 i5 hFB hF m0 hseq
    gi_wp2
    have hDw : w.heap.size < D := Nat.lt_of_lt_of_le hr2.lt hD
    have hDD' : (W.setCell ⟨w.heap.size, 0, none⟩ (.bool true)).heap[D]? = some (.deferred (some [])) := (Below.heap_setCell _ _ _ _ (by show D ≠ w.heap.size; omega)).trans hDD
    obtain ⟨i3, i5⟩ := HP.out
    refine ⟨by simp, .inl ⟨_, _, rfl, run_takeDeferred hDD', ?_⟩⟩
    have i6 := i3.set (.bool true)
    have i7 := cell_kept i6.cell (grownBy_putObj' _ D (.deferred none)) (fun r e => by cases e; exact ⟨_, hDD', rfl⟩)
    exact ⟨.bool true, by simp [results, Try.results29, go_sem, i7], rfl, (i5.setCell (p := ⟨w.heap.size, 0, none⟩) (Nat.le_refl _) _).trans ⟨rfl, rfl, rfl, by simp, fun k hk => World.putObj_heap_other (by omega)⟩⟩
  case stop =>
    rintro D c pre W hD hp ⟨_, hnp⟩ hDD
    exact absurd hp hnp
end Go.Proofs.Ytcieieljgmkjmaa.LawB
