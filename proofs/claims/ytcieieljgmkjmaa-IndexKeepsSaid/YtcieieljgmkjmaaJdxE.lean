/- THE WALK over All at values of type []int: the pairs are collected, sorted by key. -/
import Derived.Test.YtcieieljgmkjmaaJdxA
import Derived.Test.YtcieieljgmkjmaaSort
import Derived.RangeFuncBox
import Derived.OwnWalk
import Derived.Maps.AppendAt
import Derived.Lib.Bytes
set_option linter.unusedVariables false
namespace Go.Proofs.Ytcieieljgmkjmaa.IdxJ
open Go.RowKit Winnow Go.Sort Go.Lib

theorem cells_new (W : World) (xs : List Value) (t : TypeId) (N : Nat) (hN : N = W.heap.size) : ∀ j u, xs[j]? = some u → (W.alloc (.cells xs.toArray t)).cell? ((⟨N, 0, none⟩ : Addr).add j) = some u := by
  intro j u hj
  subst hN
  have e : (⟨W.heap.size, 0, none⟩ : Addr).add j = ⟨W.heap.size, j, none⟩ := by
    unfold Addr.add; split
    · next h => rw [h]
    · simp
  rw [e, cell_of_block (alloc_at W _)]; simpa using hj

/-- The pairs of the first places. -/
def entsTo (S : Tb Value) : Nat → List (Nat × SV)
  | 0 => []
  | i + 1 => entsTo S i ++ (match S i with | some (k, .slice a l c) => [(k, (a, l, c))] | _ => [])
def enc3 (x : Nat × SV) : List Value := [.bool true, .int .u64 x.1, .slice x.2.1 x.2.2.1 x.2.2.2]
def flat3 (l : List (Nat × SV)) : List Value := l.flatMap enc3
theorem flat3_length (l : List (Nat × SV)) : (flat3 l).length = l.length * 3 := by
  induction l with
  | nil => rfl
  | cons x l ih => simp only [flat3, List.flatMap_cons, List.length_append, List.length_cons] at *; rw [ih]; simp [enc3]; omega
theorem flat3_append (a b : List (Nat × SV)) : flat3 (a ++ b) = flat3 a ++ flat3 b := by simp [flat3]
theorem entsTo_le (S : Tb Value) : ∀ i, (entsTo S i).length ≤ i := by
  intro i
  induction i with
  | zero => simp [entsTo]
  | succ i ih => unfold entsTo; split <;> simp <;> omega

theorem flat3_get (L : List (Nat × SV)) : ∀ i (hi : i < L.length) c, c < 3 → (flat3 L)[i * 3 + c]? = (enc3 L[i])[c]? := by
  induction L with
  | nil => intro i hi; simp at hi
  | cons x L ih =>
    intro i hi c hc
    have hx : flat3 (x :: L) = enc3 x ++ flat3 L := by simp [flat3]
    rw [hx]
    cases i with
    | zero => rw [List.getElem?_append_left (by simp [enc3]; omega)]; simp
    | succ i =>
      rw [List.getElem?_append_right (by simp [enc3]; omega)]
      have := ih i (by simpa using hi) c hc
      rw [show (i + 1) * 3 + c - (enc3 x).length = i * 3 + c from by simp [enc3]; omega]
      simpa using this

theorem holdsK_of {w : World} {g : Nat} {e : TypeId} {cur : Array Value} {L : List (Nat × SV)} (hheap : w.heap[g]? = some (.cells cur e (0, 0))) (htake : cur.toList.take (L.length * 3) = flat3 L) : HoldsK enc3 3 w g 0 L.toArray := by
  intro j hj
  rw [size_flatK] at hj
  simp only [List.size_toArray] at hj
  have hi : j / 3 < L.length := by omega
  refine ⟨?_, frozen_of_block hheap _⟩
  rw [cell_of_block hheap, get_flatK _ _ _ _ (by simpa using hj)]
  have h1 := flat3_get L (j / 3) hi (j % 3) (Nat.mod_lt _ (by decide))
  rw [← htake, show j / 3 * 3 + j % 3 = j from by omega, List.getElem?_take, if_pos hj] at h1
  rw [Nat.zero_add, ← Array.getElem?_toList, h1]
  have h2 : L.toArray[j / 3]! = L[j / 3] := by simp [hi]
  rw [h2]
  have h3 : j % 3 < (enc3 L[j / 3]).length := by simp [enc3]; omega
  simp [h3]

/-- A row of pairs. -/
def Row3 (w : World) (base : Nat) (lv : Value) (L : List (Nat × SV)) : Prop :=
  (L = [] ∧ lv = .slice none 0 0) ∨ ∃ g cap, lv = .slice (some ⟨g, 0, none⟩) L.length cap ∧ base ≤ g ∧ g < w.heap.size ∧ L ≠ [] ∧
    ∀ i (hi : i < L.length), w.cell? ⟨g, i * 3, none⟩ = some (.bool true) ∧ w.cell? ⟨g, i * 3 + 1, none⟩ = some (.int .u64 L[i].1) ∧ w.cell? ⟨g, i * 3 + 2, none⟩ = some (.slice L[i].2.1 L[i].2.2.1 L[i].2.2.2)

theorem row3_of_holds {w : World} {g cap base : Nat} {L : List (Nat × SV)} (h : HoldsK enc3 3 w g 0 L.toArray) (hb : base ≤ g) (hg : g < w.heap.size) (hne : L ≠ []) : Row3 w base (.slice (some ⟨g, 0, none⟩) L.length cap) L := by
  refine .inr ⟨g, cap, rfl, hb, hg, hne, fun i hi => ?_⟩
  have key : ∀ c, c < 3 → w.cell? ⟨g, i * 3 + c, none⟩ = some ((enc3 L[i])[c]!) := by
    intro c hc
    have := (h (i * 3 + c) (by rw [size_flatK]; simp; omega)).1
    rw [get_flatK _ _ _ _ (by simp; omega)] at this
    rw [Nat.zero_add, show (i * 3 + c) / 3 = i from by omega, show (i * 3 + c) % 3 = c from by omega] at this
    have h2 : L.toArray[i]! = L[i] := by simp [hi]
    rw [h2] at this
    exact this
  exact ⟨key 0 (by decide), key 1 (by decide), key 2 (by decide)⟩

theorem sortWorldK_heap {α : Type} [Inhabited α] (enc : α → List Value) (k : Nat) (w : World) (blk off m : Nat) (dk : Array α) (os : Array Obj) (j : Nat) (hj : j < w.heap.size) (hne : j ≠ blk) : (sortWorldK enc k w blk off m dk os).heap[j]? = w.heap[j]? := by
  simp only [sortWorldK, grow, putRowK, putRow, mapBlock, Go.Sort.ahead]
  rw [Array.getElem?_append_left (by simpa using hj), Array.getElem?_modify, if_neg (fun e => hne e.symm)]

theorem perm_toList {d d' : Array (Nat × SV)} (h : PermIn 0 d.size d d') : d'.toList.Perm d.toList := by
  obtain ⟨h1, _, h3⟩ := h
  have a : d'.extract 0 d.size = d' := by rw [← h1]; simp
  have b : d.extract 0 d.size = d := by simp
  rw [a, b] at h3; exact h3

theorem ltKey (x y : Nat × SV) : ltOf (fun x y : Nat × SV => Lib.compareInt x.1 y.1) x y = decide (x.1 < y.1) := by
  unfold ltOf Lib.compareInt
  by_cases h1 : x.1 < y.1
  · simp [h1]
  · by_cases h2 : y.1 < x.1 <;> simp [h1, h2]

theorem swoKey : SWO (ltOf fun x y : Nat × SV => Lib.compareInt x.1 y.1) where
  irrefl x := by rw [ltKey]; simp
  trans x y z h1 h2 := by rw [ltKey] at *; simp at *; omega
  ntrans x y z h1 h2 := by rw [ltKey] at *; simp at *; omega

theorem sorted_list {d : Array (Nat × SV)} {N : Nat} (hN : N = d.size) (h : SortedIn (ltOf fun x y : Nat × SV => Lib.compareInt x.1 y.1) 0 N d) : d.toList.Pairwise (fun a b => a.1 ≤ b.1) := by
  rw [List.pairwise_iff_getElem]
  intro i j hi hj hij
  have := h i j (Nat.zero_le _) hij (by rw [hN]; simpa using hj)
  rw [ltKey] at this
  simp only [Array.length_toList] at hi hj
  rw [getElem!_pos d i hi, getElem!_pos d j hj] at this
  simp at this
  simpa using this

set_option maxHeartbeats 1000000 in
theorem cmp_c (x y : Nat) (w : World) : Calls Try.prog 44 #[.int .u64 x, .int .u64 y] w fun e w' => e = .returned (.int .i64 (Lib.compareInt x y)) ∧ w = w' := by
  unfold Lib.compareInt
  rcases Nat.lt_trichotomy x y with h | h | h
  · have h1 : (x : Int) < y := by omega
    rw [if_pos h1]
    clear h
    go_enter Try.func44, Try.ntmps44
    go_wp2
    go_ret
    exact ⟨rfl, rfl⟩
  · subst h
    rw [if_neg (by omega), if_neg (by omega)]
    go_enter Try.func44, Try.ntmps44
    go_wp2
    go_ret
    exact ⟨rfl, rfl⟩
  · have h1 : (y : Int) < x := by omega
    rw [if_neg (by omega), if_pos h1]
    clear h
    go_enter Try.func44, Try.ntmps44
    go_wp2
    go_ret
    exact ⟨rfl, rfl⟩

set_option maxHeartbeats 1000000 in
theorem closure_c (x y : Nat × SV) (W : World) : Calls Try.prog 57 #[.agg #[.bool true, .int .u64 x.1, .slice x.2.1 x.2.2.1 x.2.2.2], .agg #[.bool true, .int .u64 y.1, .slice y.2.1 y.2.2.1 y.2.2.2]] W fun e w' => e = .returned (.int .i64 (Lib.compareInt x.1 y.1)) ∧ ∃ q os', w' = grow (W.drewN q) os' := by
  have hcon := hid (fun W' => cmp_c x.1 y.1 W')
  generalize Lib.compareInt x.1 y.1 = r at hcon ⊢
  go_enter Try.func57, Try.ntmps57
  go_wp2_with (go_at_call 44; refine (hcon.out _).mono ?_; rintro e w' ⟨rfl, rfl⟩)
  go_ret
  exact ⟨rfl, 0, _, by rw [alloc_eq_grow, alloc_eq_grow, grow_grow]; rfl⟩

theorem cmpLays_c (blk off size : Nat) (w : World) : CmpLays Try.prog 57 #[] enc3 3 (fun x y => Lib.compareInt x.1 y.1) blk off size w :=
  fun _ _ _ _ x y => closure_c x y _

set_option maxHeartbeats 1000000 in
theorem ins_nil (fv : Value) (w : World) : Calls Try.prog 72 #[.slice none 0 0, .int .i64 0, .int .i64 0, fv] w fun e w' => e = .returned (.tuple #[]) ∧ w = w' := by
  go_enter Try.func72, Try.ntmps72
  go_wp2
  refine wp_loop_once ?_
  go_wp2
  go_end0
  exact ⟨rfl, rfl⟩

set_option maxRecDepth 100000 in
set_option maxHeartbeats 1000000 in
theorem pdq_nil (fv : Value) (l : Int) (w : World) : Calls Try.prog 63 #[.slice none 0 0, .int .i64 0, .int .i64 0, .int .i64 l, fv] w fun e w' => e = .returned (.tuple #[]) ∧ w = w' := by
  have H := hid (ins_nil fv w)
  go_enter Try.func63, Try.ntmps63
  go_wp2
  refine wp_loop_once ?_
  go_wp2_with (go_at_call 72; refine H.out.mono ?_; rintro e w' ⟨rfl, rfl⟩)
  refine bodyPost_ret (results_none rfl _ _ _) rfl ?_
  exact ⟨rfl, rfl⟩

set_option maxHeartbeats 1000000 in
theorem sort_nil (fv : Value) (w : World) : Calls Try.prog 56 #[.slice none 0 0, fv] w fun e w' => e = .returned (.tuple #[]) ∧ w = w' := by
  have H1 := hid (Try.bits_Len 0 w (by omega) (by omega))
  have H2 := hid (fun l => pdq_nil fv l w)
  go_enter Try.func56, Try.ntmps56
  go_wp2_with fail
  refine H1.out.mono ?_
  rintro e w' ⟨rfl, rfl⟩
  go_wp2_with fail
  refine (H2.out _).mono ?_
  rintro e w' ⟨rfl, rfl⟩
  go_wp2
  go_end0
  exact ⟨rfl, rfl⟩

/-- What All leaves: a box with the row of the pairs. -/
def AllAt (w : World) (L : List (Nat × SV)) (w' : World) : Prop :=
  Below w.heap.size w w' ∧ w.heap.size < w'.heap.size ∧ ∃ lv, Boxed w' w.heap.size 75 lv ∧ Row3 w' (w.heap.size + 1) lv L

/-- The pairs, by key. -/
def Sorted (S : Tb Value) (n : Nat) (L : List (Nat × SV)) : Prop := L.Perm (entsTo S n) ∧ L.Pairwise (fun a b => a.1 ≤ b.1)

set_option maxRecDepth 100000 in
set_option maxHeartbeats 1000000 in
theorem all_c {w : World} {b s most count n e : Nat} {S : Tb Value} (h : IdxAt w b s most count n (conc (.slice none 0 0) S)) (g : Geo n e) (hint : ∀ i k u, S i = some (k, u) → ∃ x : SV, u = .slice x.1 x.2.1 x.2.2) :
    Calls Try.prog 40 #[.pointer (some ⟨b, 0, none⟩)] w fun r w' => r = .returned (.func (.func 58) #[] #[.pointer (some ⟨w.heap.size, 0, none⟩)]) ∧ ∃ L, Sorted S n L ∧ AllAt w L w' := by
  obtain ⟨i0, hi, hz0, hz1, hz2⟩ := info_parts (show (Try.prog.info? 79).map (fun i => (i.zero, i.size, i.bytes)) = some (some (.agg #[.bool false, .int .u64 0, .slice none 0 0]), 3, 40) by kernel_rfl)
  have hsm : n ≤ 1099511627776 := g.small
  obtain ⟨cp, c2⟩ := h.c2
  have HI := hid h
  have hlb := h.lb
  have hls := h.ls
  have HN := hid hint
  clear h g hint
  go_enter Try.func40, Try.ntmps40
  go_wp2
  go_loopg [11] n (fun f s11 wr => ∃ (i : Nat) (lv : Value), s11 = .int .i64 i ∧ i + f = n ∧ Boxed wr w.heap.size 75 lv ∧ wr.ownsRow w.heap.size 79 3 lv (entsTo S i).length (flat3 (entsTo S i)) ∧ Below w.heap.size w wr ∧ (entsTo S i = [] → lv = .slice none 0 0))
  case atStart => exact ⟨0, .slice none 0 0, rfl, by omega, Boxed.new _ _ _, World.ownsRow_nil .., (Below.refl _ w).alloc (Nat.le_refl _) _, fun _ => rfl⟩
  case round =>
    obtain ⟨i, lv, rfl, hif, hbox, hown, hB, hnl⟩ := hrel
    have hIr : IdxAt wr b s most count n (conc (.slice none 0 0) S) := HI.out.of_blocks (hB.block b hlb) (hB.block s hls)
    by_cases hlt : i < n
    · have k0 := hIr.k0 i hlt
      have k1 := hIr.k1 i hlt
      have k2 := hIr.k2 i hlt
      have bc := hbox.cell
      have bf := hbox.frozen
      have hsz := hB.size
      have hbl := hbox.lt
      cases hS : S i with
      | none =>
        have hc : conc (.slice none 0 0) S i = (false, 0, .slice none 0 0) := by unfold conc; rw [hS]
        rw [hc] at k0 k1 k2
        have he : entsTo S (i + 1) = entsTo S i := by simp only [entsTo, hS, List.append_nil]
        have HW := hid (And.intro hbox (And.intro hown hB))
        have HE := hid he
        have HL := hid hnl
        clear hbox hown hB hIr hc hS he hnl
        go_wp2_with fail
        go_roundg (gk - 1)
        case measure => omega
        case rel => exact ⟨i + 1, lv, by go_num, by omega, HW.out.1.alloc _, by rw [HE.out]; exact HW.out.2.1.alloc _, HW.out.2.2.alloc hsz _, by rw [HE.out]; exact HL.out⟩
      | some x =>
        obtain ⟨k, u⟩ := x
        obtain ⟨v, rfl⟩ := HN.out i k u hS
        have hc : conc (.slice none 0 0) S i = (true, k, .slice v.1 v.2.1 v.2.2) := by unfold conc; rw [hS]
        rw [hc] at k0 k1 k2
        have he : entsTo S (i + 1) = entsTo S i ++ [(k, v)] := by simp only [entsTo, hS]
        have hle := entsTo_le S i
        have HE := hid he
        have HB := hid hB
        have HX := hid hbox
        have HO := hid hown
        have C3 := hid (show (entsTo S i).length + 1 ≤ maxLen by unfold maxLen; omega)
        have C4 := hid (show ((entsTo S i).length + 1) * 40 ≤ 140737488355328 by omega)
        have C2 := hid (show ∀ u ∈ enc3 (k, v), u.oneCell' = true by intro u hu; simp [enc3] at hu; rcases hu with rfl | rfl | rfl <;> rfl)
        clear hbox hown hB hIr hc hS he hnl
        go_wp2_with ((at_builtin; refine wpList_append_own _ rfl _ _ 75 rfl w.heap.size 79 i0 (.agg #[.bool false, .int .u64 0, .slice none 0 0]) 3 40 Try.underlying75 hi hz0 hz1 hz2 rfl (by decide) lv _ _ rfl ((HO.out.alloc _).alloc _) ⟨wr.heap.size + 1, 0, none⟩ 1 1 (enc3 (k, v)) rfl rfl (cells_new _ (enc3 (k, v)) _ _ (by simp)) C2.out C3.out C4.out (by simp; omega) ?_; intro v' w1 hown' hgrow hnil; obtain ⟨hv1, hv2, hr2, hk2, hb2⟩ := (HX.out.alloc _).appended (by decide) (HO.out.alloc _) (by simp; omega) (Nat.le_refl _) hown' hgrow; have hc1 := hv1.cell; have hf1 := hv1.frozen; have HV2 := hid hv2; have HR2 := hid hr2; have HB2 := hid hb2; obtain ⟨g', cap', rfl⟩ := ownsRow_succ hown'; clear hv1 hv2 hr2 hk2 hb2 hown' hgrow hnil))
        go_roundg (gk - 1)
        case measure => omega
        case rel =>
          refine ⟨i + 1, _, by go_num, by omega, HV2.out, ?_, HB.out.trans (((Below.refl _ _).alloc hsz _).trans HB2.out), fun h => by rw [HE.out] at h; simp at h⟩
          rw [HE.out, flat3_append, List.length_append]
          exact HR2.out
    · obtain rfl : i = n := by omega
      have hlen := entsTo_le S i
      rcases hown.2 with ⟨rfl, h0⟩ | ⟨gb, cap, cur, rfl, hgb, hheap, hcap, hmax, hcur, htake⟩
      · have hnil : entsTo S i = [] := List.eq_nil_of_length_eq_zero h0
        have bc := hbox.cell
        have HF : Hid (∃ L, Sorted S i L ∧ AllAt w L wr) := hid ⟨[], ⟨by rw [hnil], .nil⟩, hB, hbox.lt, _, hbox, .inl ⟨rfl, rfl⟩⟩
        have H2 := hid (sort_nil (.func (.func 57) #[] #[]) wr)
        clear hnil hbox hown hB hIr h0 hnl
        go_wp2_with (go_at_call 56; refine H2.out.mono ?_; rintro e w' ⟨rfl, rfl⟩)
        go_ret
        exact ⟨rfl, HF.out⟩
      · have hne : gb ≠ w.heap.size := by
          intro e'; have := hbox; unfold Boxed at this; rw [← e', hheap] at this; simp at this
        have hgs : gb < wr.heap.size := (Array.getElem?_eq_some_iff.1 hheap).1
        have bc := hbox.cell
        have hbl := hbox.lt
        have hsz := hB.size
        by_cases hz : entsTo S i = []
        · have := hnl hz; simp at this
        · clear hnl
          have eg : ∀ args w, (callFunc 57 args).run Try.prog w = .ok (.enter 57 args) w := enters_of Try.func57 (by kernel_rfl) rfl
          have hH := holdsK_of hheap htake
          have hcon := AnyQ.slices_SortFunc Try.sortL 3 Try.isAgg79 Try.sizeOf79 enc3 (fun _ => rfl) (fun x v hv => by simp [enc3] at hv; rcases hv with rfl | rfl | rfl <;> rfl) (fun x y => Lib.compareInt x.1 y.1) swoKey 57 #[] gb 0 cap (entsTo S i).toArray wr eg (cmpLays_c gb 0 _ wr) hH hgs (by simp; omega)
          have hpost : ∀ (d' : Array (Nat × SV)) (m : Nat) (os : Array Obj), PermIn 0 (entsTo S i).toArray.size (entsTo S i).toArray d' → SortedIn (ltOf fun x y : Nat × SV => Lib.compareInt x.1 y.1) 0 (entsTo S i).toArray.size d' →
              ∃ L, Sorted S i L ∧ AllAt w L (sortWorldK enc3 3 wr gb 0 m d' os) := by
            intro d' m os hp hs
            have hpl := perm_toList hp
            have hds : d'.size = (entsTo S i).toArray.size := hp.1
            have hlen' : d'.toList.length = (entsTo S i).length := by simpa using hds
            have hsz2 := size_sortWorldK_c enc3 3 wr gb 0 m d' os
            refine ⟨d'.toList, ⟨by simpa using hpl, sorted_list hds.symm hs⟩, ?_, by omega, .slice (some ⟨gb, 0, none⟩) (entsTo S i).length cap, ?_, ?_⟩
            · exact hB.trans ⟨rfl, rfl, rfl, hsz2, fun k hk => sortWorldK_heap enc3 3 wr gb 0 m d' os k (by omega) (by omega)⟩
            · unfold Boxed; rw [sortWorldK_heap enc3 3 wr gb 0 m d' os _ hbl (fun e => hne e.symm)]; exact hbox
            · rw [← hlen']
              refine row3_of_holds ?_ (by omega) (by omega) (fun e' => hz (List.eq_nil_of_length_eq_zero (by rw [← hlen', e']; rfl)))
              exact holdsK_sortWorldK_c enc3 3 wr gb 0 (entsTo S i).toArray d' m os hH hgs hds
          have HP := hid hpost
          have HC := hid hcon
          simp only [List.size_toArray] at HC HP
          clear hpost hcon hH eg hbox hown hB hIr hheap hcap hmax hcur htake hz
          generalize entsTo S i = L0 at *
          go_wp2_with fail
          refine HC.out.mono ?_
          rintro e w' ⟨rfl, d', m, os, hp, hs, rfl⟩
          have HF := hid (HP.out d' m os hp hs)
          go_wp2
          go_ret
          exact ⟨rfl, HF.out⟩
end Go.Proofs.Ytcieieljgmkjmaa.IdxJ
