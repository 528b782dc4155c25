/- The index's laws: are two indexes alike? -/
import Derived.Test.YtcieieljgmkjmaaLawF
import Derived.BigQuiet
set_option linter.unusedVariables false
namespace Go.Proofs.Ytcieieljgmkjmaa.LawC
open Go.RowKit Winnow Go.Shelf
open IdxI (entsTo Sorted KpB rowBlk Row3)
open LawB (mem_ents ents_nodup own_kp grown_cells boxed_isCells)
attribute [local go_sem] Oper.semAt_some

theorem drewN_keeps (B : Nat) (W : World) (m : Nat) : KeepsFrom B W (W.drewN m) := ⟨Nat.le_refl _, fun _ _ _ h _ => h⟩

/-- What a search of a pair that is there finds. -/
theorem find_mem {n count most e : Nat} {S : Tb Value} (T : TabOk n count most e S) {x : Nat × Int} (h : x ∈ entsTo S n) : conc (.int .i64 0) S (find n S x.1) = (true, x.1, .int .i64 x.2) := by
  obtain ⟨i, k, hi, hs⟩ := mem_ents h
  obtain ⟨em, hem, hemp⟩ := T.emp
  have := T.inv.find_of hem hemp hi hs
  rw [this]
  obtain ⟨y, hy⟩ := T.int _ _ _ hs
  cases hy
  unfold conc; rw [hs]

set_option maxRecDepth 100000 in
set_option maxHeartbeats 2000000 in
theorem like_c {w : World} {b s b' s' most most' count n e : Nat} {S : Tb Value} (T : TabOk n count most e S) (h : IdxAt w b s most count n (conc (.int .i64 0) S)) (h' : IdxAt w b' s' most' count n (conc (.int .i64 0) S)) :
    Calls Try.prog 30 #[.pointer (some ⟨b, 0, none⟩), .pointer (some ⟨b', 0, none⟩)] w fun r w' => r = .returned (.bool true) ∧ Below w.heap.size w w' := by
  obtain ⟨em, hem, hemp⟩ := T.emp
  have HA := hid (fun (wx : World) (hx : IdxAt wx b s most count n (conc (.int .i64 0) S)) => IdxI.all_c hx T.fit.geo T.int)
  have HL := hid (fun (wx : World) (hx : IdxAt wx b s most count n (conc (.int .i64 0) S)) => IdxI.len_c hx)
  have HL' := hid (fun (wx : World) (hx : IdxAt wx b' s' most' count n (conc (.int .i64 0) S)) => IdxI.len_c hx)
  have HS := hid (fun (wx : World) (hx : IdxAt wx b s most count n (conc (.int .i64 0) S)) => IdxI.slots_c hx)
  have HS' := hid (fun (wx : World) (hx : IdxAt wx b' s' most' count n (conc (.int .i64 0) S)) => IdxI.slots_c hx)
  have HG := hid (fun (wx : World) (key : Nat) (hx : IdxAt wx b' s' most' count n (conc (.int .i64 0) S)) => IdxI.get_c hx T.fit.geo hem hemp key)
  have HP := hid (fun (wx : World) (key : Nat) (hx : IdxAt wx b s most count n (conc (.int .i64 0) S)) => IdxI.slot_c hx T.fit.geo hem hemp key)
  have HP' := hid (fun (wx : World) (key : Nat) (hx : IdxAt wx b' s' most' count n (conc (.int .i64 0) S)) => IdxI.slot_c hx T.fit.geo hem hemp key)
  have hsm := T.fit.geo.small
  have HT := hid T
  have H0 := hid h
  have H1 := hid h'
  have hlb := h.lb
  have hls := h.ls
  have hlb' := h'.lb
  have hls' := h'.ls
  clear h h' T
  refine (callsIn_wide (n := 5)).1 ?_
  refine callsIn_of_wp_marks Try.func30 rfl trivial ?_ rfl
  simp only [Try.ntmps30, List.size_toArray, List.length_cons, List.length_nil, Nat.reduceAdd, Nat.reduceSub, Array.replicate_succ, Array.replicate_zero, List.push_toArray, List.append_toArray, List.nil_append, List.cons_append]
  gi_wp2_with fail
  obtain ⟨w0, hw0⟩ : ∃ w0, w0 = ((w.alloc (.cells #[.pointer (some ⟨b, 0, none⟩)] 24)).alloc (.cells #[.pointer (some ⟨b', 0, none⟩)] 24)).alloc (.cells #[.bool false] 4) := ⟨_, rfl⟩
  rw [← hw0]
  have hs0 : w0.heap.size = w.heap.size + 3 := by rw [hw0]; simp
  have hB0 : Below w.heap.size w w0 := by rw [hw0]; exact (((Below.refl _ _).alloc (Nat.le_refl _) _).alloc (by simp only [alloc_size]; omega) _).alloc (by simp only [alloc_size]; omega) _
  have hx0 : Boxed w0 w.heap.size 24 (.pointer (some ⟨b, 0, none⟩)) := by unfold Boxed; rw [hw0]; simp only [heap_alloc_if, alloc_size]; (repeat (first | rw [if_pos trivial] | rw [if_pos (by omega)] | rw [if_neg (by omega)]))
  have hy0 : Boxed w0 (w.heap.size + 1) 24 (.pointer (some ⟨b', 0, none⟩)) := by unfold Boxed; rw [hw0]; simp only [heap_alloc_if, alloc_size]; (repeat (first | rw [if_pos trivial] | rw [if_pos (by omega)] | rw [if_neg (by omega)]))
  have hr0 : Boxed w0 (w.heap.size + 1 + 1) 4 (.bool false) := by unfold Boxed; rw [hw0]; simp only [heap_alloc_if, alloc_size]; (repeat (first | rw [if_pos trivial] | rw [if_pos (by omega)] | rw [if_neg (by omega)]))
  have I0 : IdxAt w0 b s most count n (conc (.int .i64 0) S) := H0.out.of_blocks (hB0.block b hlb) (hB0.block s hls)
  have I0' : IdxAt w0 b' s' most' count n (conc (.int .i64 0) S) := H1.out.of_blocks (hB0.block b' hlb') (hB0.block s' hls')
  have J0 := hid (And.intro I0 I0')
  have xc := hx0.cell
  have yc := hy0.cell
  have HB := hid (And.intro hx0 (And.intro hy0 hr0))
  clear hw0 I0 I0' hx0 hy0 hr0
  refine wpIn_wide.2 ?_
  go_quiet (first
    | (go_at_call 11; exact quietS (HL.out _ (J0.out.1.drewN _)))
    | (go_at_call 11; exact quietS (HL'.out _ (J0.out.2.drewN _)))
    | (go_at_call 12; exact quietS (HS.out _ (J0.out.1.drewN _)))
    | (go_at_call 12; exact quietS (HS'.out _ (J0.out.2.drewN _))))
  gi_wp2_with fail
  refine ⟨trivial, ?_⟩
  obtain ⟨w1, hw1⟩ : ∃ w1, w1 = w0.drewN nq := ⟨_, rfl⟩
  rw [← hw1]
  have J1 : Hid (IdxAt w1 b s most count n (conc (.int .i64 0) S) ∧ IdxAt w1 b' s' most' count n (conc (.int .i64 0) S)) := by rw [hw1]; exact ⟨J0.out.1.drewN _, J0.out.2.drewN _⟩
  have hB1 : Below w.heap.size w w1 := by rw [hw1]; exact hB0.trans (below_dn _ _ _)
  have hs1 : w1.heap.size = w.heap.size + 3 := by rw [hw1]; exact hs0
  obtain ⟨hx0, hy0, hr0⟩ := HB.out
  have hx1 : Boxed w1 w.heap.size 24 (.pointer (some ⟨b, 0, none⟩)) := by rw [hw1]; exact hx0
  have hy1 : Boxed w1 (w.heap.size + 1) 24 (.pointer (some ⟨b', 0, none⟩)) := by rw [hw1]; exact hy0
  have hr1 : Boxed w1 (w.heap.size + 1 + 1) 4 (.bool false) := by rw [hw1]; exact hr0
  clear hx0 hy0 hr0 xc yc
  clear hw1
  refine (callsIn_wide.2 (HA.out _ J1.out.1)).mono ?_
  rintro r w2 ⟨rfl, L, hS, hB2, hs2, lv, hbl, hrow⟩
  gi_wp2_with fail
  have hx2 : Boxed w2 w.heap.size 24 (.pointer (some ⟨b, 0, none⟩)) := (hB2.block _ hx1.lt).trans hx1
  have hy2 : Boxed w2 (w.heap.size + 1) 24 (.pointer (some ⟨b', 0, none⟩)) := (hB2.block _ hy1.lt).trans hy1
  have hr2 : Boxed w2 (w.heap.size + 1 + 1) 4 (.bool false) := (hB2.block _ hr1.lt).trans hr1
  have i2 : IdxAt w2 b s most count n (conc (.int .i64 0) S) := J1.out.1.of_blocks (hB2.block b J1.out.1.lb) (hB2.block s J1.out.1.ls)
  have i2' : IdxAt w2 b' s' most' count n (conc (.int .i64 0) S) := J1.out.2.of_blocks (hB2.block b' J1.out.2.lb) (hB2.block s' J1.out.2.ls)
  have hBw2 : Below w.heap.size w w2 := hB1.trans (hB2.mono hB1.size)
  have hSs : L.length ≤ n := by rw [hS.1.length_eq]; exact IdxI.entsTo_le S n
  have hF : ∀ k, k ∈ [w.heap.size, w.heap.size + 1, w.heap.size + 1 + 1, b, s, b', s'] ++ (w1.heap.size :: rowBlk lv) → ∃ o : Obj, w2.heap[k]? = some o ∧ o.isCells = true := by
    intro k hk
    simp only [List.mem_append, List.mem_cons, List.not_mem_nil, or_false] at hk
    rcases hk with (rfl | rfl | rfl | rfl | rfl | rfl | rfl) | rfl | hk
    · exact boxed_isCells hx2
    · exact boxed_isCells hy2
    · exact boxed_isCells hr2
    · exact cells_of_cell i2.c0
    · exact cells_of_cell (i2.k0 0 i2.pos)
    · exact cells_of_cell i2'.c0
    · exact cells_of_cell (i2'.k0 0 i2'.pos)
    · exact boxed_isCells hbl
    · rcases hrow with ⟨_, rfl⟩ | ⟨gg, cap, rfl, _, _, hne, hc⟩
      · simp [rowBlk] at hk
      · simp [rowBlk] at hk; subst hk
        exact cells_of_cell (hc 0 (by cases L with | nil => exact absurd rfl hne | cons _ _ => simp)).1
  generalize hFB : [w.heap.size, w.heap.size + 1, w.heap.size + 1 + 1, b, s, b', s'] ++ (w1.heap.size :: rowBlk lv) = FB at hF
  have hlt2 : ∀ k, k ∈ rowBlk lv → k < w2.heap.size := fun k hk => by
    obtain ⟨o, ho, _⟩ := hF k (by rw [← hFB]; simp [hk])
    exact (Array.getElem?_eq_some_iff.1 ho).1
  have hseq := IdxI.iter_stops Fence.wide 4 trivial rfl (by omega) w1.heap.size (w1.heap.size + 1) lv L (by omega) w2 hbl hrow hlt2
  have m0 : w.heap.size ∈ FB := by rw [← hFB]; simp
  have m1 : w.heap.size + 1 ∈ FB := by rw [← hFB]; simp
  have m2 : w.heap.size + 1 + 1 ∈ FB := by rw [← hFB]; simp
  have mb : b ∈ FB ∧ s ∈ FB := by rw [← hFB]; simp
  have mb' : b' ∈ FB ∧ s' ∈ FB := by rw [← hFB]; simp
  have J2 : Hid (∀ W, KpB FB w2 W → IdxAt W b s most count n (conc (.int .i64 0) S) ∧ IdxAt W b' s' most' count n (conc (.int .i64 0) S)) := fun W hW =>
    ⟨i2.of_blocks (hW _ mb.1) (hW _ mb.2), i2'.of_blocks (hW _ mb'.1) (hW _ mb'.2)⟩
  have HM : Hid (∀ x, x ∈ L → conc (.int .i64 0) S (find n S x.1) = (true, x.1, .int .i64 x.2)) := fun x hx => find_mem HT.out (hS.1.subset hx)
  rw [hs1] at hseq hbl
  refine wpIn_rangeFunc_ownG (F := Fence.wide) rfl (by omega) (gf := 45) (lb := #[.pointer (some ⟨w.heap.size + 3, 0, none⟩)]) rfl trivial (enters_of Try.func45 (by kernel_rfl) rfl) hseq KpB.t (KpB.b (by intro k hk; rcases List.mem_cons.1 hk with rfl | hk; exact hbl.lt; exact hlt2 k hk)) (Below.refl _ _) (fun _ => rfl)
    (fun pre W => KpB FB w2 W ∧ Below w.heap.size w W)
    (fun c pre W => c = .ret ∧ ¬ pre <+: L) ?hI ?hIx ?h0
    (fun x => { tmps := #[.pointer (some ⟨b, 0, none⟩), .pointer (some ⟨b', 0, none⟩), .pointer (some ⟨w.heap.size, 0, none⟩), .pointer (some ⟨w.heap.size + 1, 0, none⟩), .pointer (some ⟨w.heap.size + 1 + 1, 0, none⟩), .int .u64 x.1, .int .i64 x.2, undef, undef, undef, undef, undef, undef, .pointer (some ⟨b, 0, none⟩), .int .i64 count, .pointer (some ⟨b', 0, none⟩), .int .i64 count, .bool false, .bool false, .pointer (some ⟨b, 0, none⟩), .int .i64 n, .pointer (some ⟨b', 0, none⟩), .int .i64 n, .bool false, .bool false, .pointer (some ⟨b, 0, none⟩), .func (.func 45) #[] #[.pointer (some ⟨w.heap.size + 3, 0, none⟩)], .int .u64 x.1, .int .i64 x.2, undef, undef, undef, undef, undef, undef, undef, undef, undef, undef, undef, undef, undef, undef, undef, undef, undef, undef, undef, undef, undef, undef, undef, undef, undef, undef, undef, undef, undef, undef], defers := [] }) ?assign ?body ?done ?stop
  case hI =>
    intro pre W W' row hs hg hr
    obtain ⟨i1, i5⟩ := hs
    have hr' : ∀ r, row = some r → ∃ o : Obj, W.heap[r]? = some o ∧ o.isCells = false := fun r e => (hr r e).2
    exact ⟨own_kp hF pre W W' row i1 hg hr', i5.grown hg (by have := i5.size; omega) (fun k e => by have := (hr k e).1; have := hBw2.size; omega)⟩
  case hIx => exact fun c pre W W' row hs hg hr => hs
  case h0 => exact ⟨fun _ _ => rfl, hBw2⟩
  case assign => intro l x W K hK; gi_wp2; exact hK
  case body =>
    rintro l pre x W ⟨i1, i5⟩ hlen
    have xc : W.cell? ⟨w.heap.size, 0, none⟩ = some (.pointer (some ⟨b, 0, none⟩)) := (World.cell?_of_block (i1 _ m0)).trans hx2.cell
    have yc : W.cell? ⟨w.heap.size + 1, 0, none⟩ = some (.pointer (some ⟨b', 0, none⟩)) := (World.cell?_of_block (i1 _ m1)).trans hy2.cell
    have rc : W.cell? ⟨w.heap.size + 1 + 1, 0, none⟩ = some (.bool false) := (World.cell?_of_block (i1 _ m2)).trans hr2.cell
    have rf : W.frozen? ⟨w.heap.size + 1 + 1, 0, none⟩ = false := (World.frozen?_of_block (i1 _ m2)).trans hr2.frozen
    have JW := hid (J2.out W i1)
    have hG := hid (fun m => HG.out (W.drewN m) x.1 (JW.out.2.drewN m))
    have hG0 := hid (HG.out W x.1 JW.out.2)
    have hP := hid (fun m => HP.out (W.drewN m) x.1 (JW.out.1.drewN m))
    have hP' := hid (fun m => HP'.out (W.drewN m) x.1 (JW.out.2.drewN m))
    have hmem := HM.out x
    obtain ⟨y, hy⟩ := conc_int HT.out (find n S x.1)
    rw [hy] at hG0
    have hmem' : x ∈ L → (conc (.int .i64 0) S (find n S x.1)).1 = true ∧ y = x.2 := fun hx => by
      have := hmem hx
      rw [this] at hy
      refine ⟨by rw [this], ?_⟩
      simp at hy; exact hy.symm
    have HI1 := hid (And.intro i1 i5)
    generalize (conc (Value.int .i64 0) S (find n S x.1)).1 = ok at hG0 hP hP' hmem'
    generalize (if ok = true then find n S x.1 else 0) = at_ at hP hP'
    have HM' := hid hmem'
    clear hmem hmem' hy i1 i5 hseq hFB hF m0 m1 m2 mb mb' hG
    gi_wp2_with fail
    refine ⟨trivial, ?_⟩
    refine (callsIn_wide.2 hG0.out).mono ?_
    rintro r w3 ⟨rfl, q1, rfl⟩
    gi_wp2_with fail
    refine ⟨trivial, ?_⟩
    refine (callsIn_wide.2 (hP.out _)).mono ?_
    rintro r w3 ⟨rfl, q2, rfl⟩
    gi_wp2_with fail
    refine ⟨trivial, ?_⟩
    refine (callsIn_wide.2 (hP'.out _)).mono ?_
    rintro r w3 ⟨rfl, q3, rfl⟩
    by_cases hok : ok = true ∧ y = x.2
    · obtain ⟨rfl, rfl⟩ := hok
      gi_wp2
      obtain ⟨i1, i5⟩ := HI1.out
      exact ⟨drewN_keeps _ _ _, fun k hk => rfl, i1, i5.trans (below_dn _ _ _)⟩
    · have hnp : ¬ (pre ++ [x]) <+: L := fun hp => hok (HM'.out (hp.subset (by simp)))
      cases ok with
      | false =>
        clear hok
        gi_wp2
        exact ⟨(drewN_keeps _ _ _).trans ((KeepsOthers.setCell _ _ _).from _), rfl, hnp⟩
      | true =>
        have hyx : ¬ x.2 = y := fun e => hok ⟨rfl, e.symm⟩
        clear hok
        gi_wp2
        all_goals first
          | exact ⟨(drewN_keeps _ _ _).trans ((KeepsOthers.setCell _ _ _).from _), rfl, hnp⟩
          | (exfalso; simp_all)
  case done =>
    rintro D xs W hD rfl ⟨i1, i5⟩ hDD
    have rb : Boxed W (w.heap.size + 1 + 1) 4 (.bool false) := (i1 _ m2).trans hr2
    have rc := rb.cell
    have rf := rb.frozen
    have HP := hid (And.intro rb i5)
    have hDw : w.heap.size + 1 + 1 < D := Nat.lt_of_lt_of_le hr2.lt hD
    clear i1 i5 hFB hF m0 m1 m2 mb mb' hseq rb
    gi_wp2
    have hDD' : (W.setCell ⟨w.heap.size + 1 + 1, 0, none⟩ (.bool true)).heap[D]? = some (.deferred (some [])) := (Below.heap_setCell _ _ _ _ (by show D ≠ w.heap.size + 1 + 1; omega)).trans hDD
    obtain ⟨i3, i5⟩ := HP.out
    refine ⟨by simp, .inl ⟨_, _, rfl, run_takeDeferred hDD', ?_⟩⟩
    have i6 := i3.set (.bool true)
    have i7 := cell_kept i6.cell (grownBy_putObj' _ D (.deferred none)) (fun r e => by cases e; exact ⟨_, hDD', rfl⟩)
    exact ⟨.bool true, by simp [results, Try.results30, go_sem, i7], rfl, (i5.setCell (p := ⟨w.heap.size + 1 + 1, 0, none⟩) (by show w.heap.size ≤ w.heap.size + 1 + 1; omega) _).trans ⟨rfl, rfl, rfl, by simp, fun k hk => World.putObj_heap_other (by omega)⟩⟩
  case stop =>
    rintro D c pre W hD hp ⟨_, hnp⟩ hDD
    exact absurd hp hnp
end Go.Proofs.Ytcieieljgmkjmaa.LawC
