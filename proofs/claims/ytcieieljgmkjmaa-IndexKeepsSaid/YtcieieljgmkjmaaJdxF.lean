/- THE WALK over the function that All hands back: it goes over the pairs, one behind the other. -/
import Derived.Test.YtcieieljgmkjmaaJdxE
import Derived.RangeFuncNested
import Derived.RangeFuncBound
import Derived.RangeFuncCalls
import Derived.RangeFuncLeaves
import Derived.RangeFuncBox
import Derived.Shelf.Abstract
import Derived.WalkKit
import Derived.OwnWalkIn
import Derived.TacticsInMore
import Derived.LoopNIn
import Derived.LoopIn
set_option linter.unusedVariables false
namespace Go.Proofs.Ytcieieljgmkjmaa.IdxJ
open Go.RowKit Winnow Go.Shelf
attribute [local go_sem] Oper.semAt_some

/-- The blocks of FB are as they were. -/
def KpB (FB : List Nat) (W W' : World) : Prop := ∀ k, k ∈ FB → W'.heap[k]? = W.heap[k]?
theorem KpB.t {FB : List Nat} {A B C : World} (h : KpB FB A B) (k : KpB FB B C) : KpB FB A C := fun i hi => (k i hi).trans (h i hi)
theorem KpB.b {FB : List Nat} {w : World} (hl : ∀ k, k ∈ FB → k < w.heap.size) (W : World) (l : Nat) (o o' : Obj) (hle : w.heap.size ≤ l) (_ : W.heap[l]? = some o) (_ : o.isCells = false) (_ : o.isWalk = false) : KpB FB W (W.putObj l o') :=
  fun k hk => World.putObj_heap_other (by have := hl k hk; omega)

/-- The blocks that a row lies in. -/
def rowBlk : Value → List Nat
  | .slice (some a) _ _ => [a.block]
  | _ => []

theorem Row3.of_blocks {w w' : World} {base : Nat} {lv : Value} {L : List (Nat × SV)} (h : Row3 w base lv L) (hb : ∀ k, k ∈ rowBlk lv → w'.heap[k]? = w.heap[k]?) (hs : w.heap.size ≤ w'.heap.size) : Row3 w' base lv L := by
  rcases h with h | ⟨g, cap, rfl, h1, h2, h3, h4⟩
  · exact .inl h
  · have e := hb g (by simp [rowBlk])
    refine .inr ⟨g, cap, rfl, h1, by omega, h3, fun i hi => ?_⟩
    have c : ∀ o, w'.cell? ⟨g, o, none⟩ = w.cell? ⟨g, o, none⟩ := fun o => World.cell?_of_block e
    rw [c, c, c]; exact h4 i hi

set_option maxRecDepth 100000 in
set_option maxHeartbeats 2000000 in
theorem iter_in (F : Fence) (n : Nat) (hf : F.fn 58) (hro : F.round = none) (hn : 1 ≤ n) (l B base : Nat) (lv : Value) (L : List (Nat × SV)) (hlen : L.length ≤ 1099511627776) (J Jx : List (Nat × SV) → World → Prop) (n₀ : Nat)
    (hJ : AbidesFrom n₀ J)
    (hY : ∀ pre x W, J pre W → pre.length < L.length → YieldAt F (n - 1) Try.prog l #[.int .u64 x.1, .slice x.2.1 x.2.2.1 x.2.2.2] W fun e W' =>
      (e = .returned (.bool true) ∧ J (pre ++ [x]) W' ∧ KpB (B :: rowBlk lv) W W') ∨ (e = .returned (.bool false) ∧ Jx (pre ++ [x]) W'))
    (W : World) (hB : Boxed W B 75 lv) (hL : Row3 W base lv L) (h0 : J [] W) :
    CallsIn F n Try.prog 58 #[.func (.yield l) #[] #[], .pointer (some ⟨B, 0, none⟩)] W fun e W' => (∃ v, e = .returned v) ∧
      ((∃ ys, ys = L ∧ J ys W') ∨ (∃ pre, pre <+: L ∧ Jx pre W')) := by
  refine callsIn_of_wp Try.func58 rfl hf ?_ hro
  simp only [Try.ntmps58, List.size_toArray, List.length_cons, List.length_nil, Nat.reduceAdd, Nat.reduceSub, Array.replicate_succ, Array.replicate_zero, List.push_toArray, List.append_toArray, List.nil_append, List.cons_append]
  have hbc := hB.cell
  rcases hL with ⟨rfl, rfl⟩ | ⟨g, cap, rfl, hg1, hg2, hne, hc⟩
  · gi_wp2
    gi_loopw [7] (fun i wr => i = .int .i64 0 ∧ J [] wr) (fun i _ => 0)
    case atStart => exact ⟨rfl, h0⟩
    case round =>
      obtain ⟨rfl, hj⟩ := hrel
      gi_wp2
      go_end0
      exact ⟨⟨_, rfl⟩, .inl ⟨_, rfl, hj⟩⟩
  · have HC := hid hc
    have HB := hid hB
    clear hc hB
    gi_wp2
    gi_loopw [7] (fun i wr => ∃ k : Nat, k ≤ L.length ∧ i = .int .i64 k ∧ J (L.take k) wr ∧ wr.heap[g]? = W.heap[g]?)
      (fun i _ => L.length - (intOf i).toNat)
    case atStart => exact ⟨0, Nat.zero_le _, rfl, by simpa using h0, rfl⟩
    case round =>
      obtain ⟨k, hk, rfl, hJs, hgb⟩ := hrel
      by_cases hlt : k < L.length
      · have hcx : ∀ o, wr.cell? ⟨g, o, none⟩ = W.cell? ⟨g, o, none⟩ := fun o => World.cell?_of_block hgb
        obtain ⟨c0, c1, c2⟩ := HC.out k hlt
        rw [← hcx] at c0 c1 c2
        clear hcx
        have hJa : J (L.take k) (wr.alloc (.cells #[.bool true, .int .u64 L[k].1, .slice L[k].2.1 L[k].2.2.1 L[k].2.2.2] 79)) := hJ _ _ _ none hJs (World.grownBy_alloc wr _ none) (fun r e => by cases e)
        obtain ⟨fn, tmps, assign, body, hy, hR⟩ := hY _ L[k] _ hJa (by rw [List.length_take]; omega)
        have ht : L.take k ++ [L[k]] = L.take (k + 1) := by rw [List.take_succ_eq_append_getElem hlt]
        have HT := hid ht
        have HG := hid hgb
        clear ht hgb hJa hJs
        generalize L[k] = x at *
        have hgl : g < wr.heap.size := cell_lt c0
        gi_wp2
        refine hR.mono ?_
        rintro e W3 (⟨rfl, hJ3, hk3⟩ | ⟨rfl, hJx3⟩)
        · have HK := hid (hk3 g (by simp [rowBlk]))
          have HJ := hid hJ3
          clear hk3 hJ3
          gi_wp2
          go_roundw
          case rel => exact ⟨k + 1, by omega, by simp, by rw [← HT.out]; exact HJ.out, by rw [HK.out, Below.heap_alloc _ _ _ hgl]; exact HG.out⟩
          case measure => simp [intOf]; omega
        · have HJ := hid hJx3
          clear hJx3
          gi_wp2
          refine bodyPost_ret (results_none rfl _ _ _) rfl ?_
          exact ⟨⟨_, rfl⟩, .inr ⟨_, by rw [HT.out]; exact List.take_prefix _ _, HJ.out⟩⟩
      · obtain rfl : k = L.length := by omega
        have HJ := hid hJs
        clear hJs
        gi_wp2
        go_end0
        exact ⟨⟨_, rfl⟩, .inl ⟨_, rfl, by have := HJ.out; rwa [List.take_length] at this⟩⟩

/-- The iterator's contract: one behind the other; any round may say 'no more'. -/
theorem iter_stops (F : Fence) (n : Nat) (hf : F.fn 58) (hro : F.round = none) (hn : 1 ≤ n) (B base : Nat) (lv : Value) (L : List (Nat × SV)) (hlen : L.length ≤ 1099511627776)
    (W : World) (hB : Boxed W B 75 lv) (hL : Row3 W base lv L) (hbl : ∀ k, k ∈ rowBlk lv → k < W.heap.size) :
    SeqStopsK F n Try.prog 58 #[.pointer (some ⟨B, 0, none⟩)] (fun x : Nat × SV => #[.int .u64 x.1, .slice x.2.1 x.2.2.1 x.2.2.2]) (KpB (B :: rowBlk lv)) (· = L) (· <+: L) L.length W := by
  intro l J Jx W1 hW hJ hJx hY h0
  have hB1 : Boxed W1 B 75 lv := (hW.block B hB.lt).trans hB
  have hL1 : Row3 W1 base lv L := hL.of_blocks (fun k hk => hW.block k (hbl k hk)) hW.size
  exact iter_in F n hf hro hn l B base lv L hlen J Jx _ hJ hY W1 hB1 hL1 h0
end Go.Proofs.Ytcieieljgmkjmaa.IdxJ
