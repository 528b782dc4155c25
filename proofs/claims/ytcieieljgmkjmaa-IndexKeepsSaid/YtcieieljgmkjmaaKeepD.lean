/- THE WALK over lies: the places of an index of slices, ranged over twice. -/
import Derived.Test.YtcieieljgmkjmaaKeepC
import Derived.OwnWalkIn
import Derived.BigQuiet
import Derived.Laws.EntriesVeiled
import Derived.Outline
set_option linter.unusedVariables false
namespace Go.Proofs.Ytcieieljgmkjmaa.Keep
open Go.RowKit Winnow Go.Shelf
open IdxJ (entsTo Sorted KpB rowBlk Row3)
open LawC (frm_grown boxed_grown Marks marksOf leaves_marks)
attribute [local go_sem] Oper.semAt_some

set_option maxRecDepth 100000
def Fr1 (b bb xb kb rb nb vb cb lb : Nat) (ds : List Deferred) (a : Act) : Prop := ∃ J : Nat → Value, a = { tmps := #[.pointer (some ⟨b, 0, none⟩), .map (some bb), .pointer (some ⟨xb, 0, none⟩), .pointer (some ⟨kb, 0, none⟩), .pointer (some ⟨rb, 0, none⟩), .pointer (some ⟨nb, 0, none⟩), .pointer (some ⟨vb, 0, none⟩), .pointer (some ⟨cb, 0, none⟩), .pointer (some ⟨lb, 0, none⟩), J 9, J 10, J 11, J 12, J 13, J 14, J 15, J 16, J 17, J 18, J 19, J 20, J 21, J 22, J 23, J 24, J 25, J 26, J 27, J 28, J 29, J 30, J 31, J 32, J 33, J 34, J 35, J 36, J 37, J 38, J 39, J 40, J 41, J 42, J 43, J 44, J 45, J 46, J 47, J 48, J 49, J 50, J 51, J 52, J 53, J 54, J 55, J 56, J 57, J 58, J 59, J 60, J 61, J 62, J 63, J 64, J 65, J 66, J 67, J 68, J 69, J 70, J 71, J 72, J 73, J 74, J 75, J 76, J 77, J 78, J 79, J 80, J 81, J 82, J 83, J 84, J 85, J 86, J 87, J 88, J 89, J 90, J 91, J 92, J 93, J 94, J 95, J 96, J 97, J 98, J 99, J 100, J 101, J 102, J 103, J 104, J 105, J 106, J 107, J 108, J 109, J 110, J 111, J 112, J 113, J 114, J 115, J 116, J 117, J 118, J 119], defers := ds }
theorem Fr1.of {b bb xb kb rb nb vb cb lb : Nat} {ds : List Deferred} {A : Array Value} (h : A = #[.pointer (some ⟨b, 0, none⟩), .map (some bb), .pointer (some ⟨xb, 0, none⟩), .pointer (some ⟨kb, 0, none⟩), .pointer (some ⟨rb, 0, none⟩), .pointer (some ⟨nb, 0, none⟩), .pointer (some ⟨vb, 0, none⟩), .pointer (some ⟨cb, 0, none⟩), .pointer (some ⟨lb, 0, none⟩), A.getD 9 undef, A.getD 10 undef, A.getD 11 undef, A.getD 12 undef, A.getD 13 undef, A.getD 14 undef, A.getD 15 undef, A.getD 16 undef, A.getD 17 undef, A.getD 18 undef, A.getD 19 undef, A.getD 20 undef, A.getD 21 undef, A.getD 22 undef, A.getD 23 undef, A.getD 24 undef, A.getD 25 undef, A.getD 26 undef, A.getD 27 undef, A.getD 28 undef, A.getD 29 undef, A.getD 30 undef, A.getD 31 undef, A.getD 32 undef, A.getD 33 undef, A.getD 34 undef, A.getD 35 undef, A.getD 36 undef, A.getD 37 undef, A.getD 38 undef, A.getD 39 undef, A.getD 40 undef, A.getD 41 undef, A.getD 42 undef, A.getD 43 undef, A.getD 44 undef, A.getD 45 undef, A.getD 46 undef, A.getD 47 undef, A.getD 48 undef, A.getD 49 undef, A.getD 50 undef, A.getD 51 undef, A.getD 52 undef, A.getD 53 undef, A.getD 54 undef, A.getD 55 undef, A.getD 56 undef, A.getD 57 undef, A.getD 58 undef, A.getD 59 undef, A.getD 60 undef, A.getD 61 undef, A.getD 62 undef, A.getD 63 undef, A.getD 64 undef, A.getD 65 undef, A.getD 66 undef, A.getD 67 undef, A.getD 68 undef, A.getD 69 undef, A.getD 70 undef, A.getD 71 undef, A.getD 72 undef, A.getD 73 undef, A.getD 74 undef, A.getD 75 undef, A.getD 76 undef, A.getD 77 undef, A.getD 78 undef, A.getD 79 undef, A.getD 80 undef, A.getD 81 undef, A.getD 82 undef, A.getD 83 undef, A.getD 84 undef, A.getD 85 undef, A.getD 86 undef, A.getD 87 undef, A.getD 88 undef, A.getD 89 undef, A.getD 90 undef, A.getD 91 undef, A.getD 92 undef, A.getD 93 undef, A.getD 94 undef, A.getD 95 undef, A.getD 96 undef, A.getD 97 undef, A.getD 98 undef, A.getD 99 undef, A.getD 100 undef, A.getD 101 undef, A.getD 102 undef, A.getD 103 undef, A.getD 104 undef, A.getD 105 undef, A.getD 106 undef, A.getD 107 undef, A.getD 108 undef, A.getD 109 undef, A.getD 110 undef, A.getD 111 undef, A.getD 112 undef, A.getD 113 undef, A.getD 114 undef, A.getD 115 undef, A.getD 116 undef, A.getD 117 undef, A.getD 118 undef, A.getD 119 undef]) : Fr1 b bb xb kb rb nb vb cb lb ds { tmps := A, defers := ds } := ⟨fun i => A.getD i undef, congrArg (fun x => (⟨x, ds⟩ : Act)) h⟩
def Fr2 (b bb xb kb rb nb vb cb lb : Nat) (x : Nat × SV) (a : Act) : Prop := ∃ J : Nat → Value, a = { tmps := #[.pointer (some ⟨b, 0, none⟩), .map (some bb), .pointer (some ⟨xb, 0, none⟩), .pointer (some ⟨kb, 0, none⟩), .pointer (some ⟨rb, 0, none⟩), .pointer (some ⟨nb, 0, none⟩), .pointer (some ⟨vb, 0, none⟩), .pointer (some ⟨cb, 0, none⟩), .pointer (some ⟨lb, 0, none⟩), .int .u64 x.1, .slice x.2.1 x.2.2.1 x.2.2.2, J 11, J 12, J 13, J 14, J 15, J 16, J 17, J 18, J 19, J 20, J 21, J 22, J 23, J 24, J 25, J 26, J 27, J 28, J 29, J 30, J 31, J 32, J 33, J 34, J 35, J 36, J 37, J 38, J 39, J 40, J 41, J 42, J 43, J 44, J 45, J 46, J 47, J 48, J 49, J 50, J 51, J 52, J 53, J 54, J 55, J 56, J 57, J 58, J 59, J 60, J 61, J 62, J 63, J 64, J 65, J 66, J 67, J 68, J 69, J 70, J 71, J 72, J 73, J 74, J 75, J 76, J 77, J 78, J 79, J 80, J 81, J 82, J 83, J 84, J 85, J 86, J 87, J 88, J 89, J 90, J 91, J 92, J 93, J 94, J 95, J 96, J 97, J 98, J 99, J 100, J 101, J 102, J 103, J 104, J 105, J 106, J 107, J 108, J 109, J 110, J 111, J 112, J 113, J 114, J 115, J 116, J 117, J 118, J 119], defers := [] }
theorem Fr2.of {b bb xb kb rb nb vb cb lb : Nat} {x : Nat × SV} {A : Array Value} (h : A = #[.pointer (some ⟨b, 0, none⟩), .map (some bb), .pointer (some ⟨xb, 0, none⟩), .pointer (some ⟨kb, 0, none⟩), .pointer (some ⟨rb, 0, none⟩), .pointer (some ⟨nb, 0, none⟩), .pointer (some ⟨vb, 0, none⟩), .pointer (some ⟨cb, 0, none⟩), .pointer (some ⟨lb, 0, none⟩), .int .u64 x.1, .slice x.2.1 x.2.2.1 x.2.2.2, A.getD 11 undef, A.getD 12 undef, A.getD 13 undef, A.getD 14 undef, A.getD 15 undef, A.getD 16 undef, A.getD 17 undef, A.getD 18 undef, A.getD 19 undef, A.getD 20 undef, A.getD 21 undef, A.getD 22 undef, A.getD 23 undef, A.getD 24 undef, A.getD 25 undef, A.getD 26 undef, A.getD 27 undef, A.getD 28 undef, A.getD 29 undef, A.getD 30 undef, A.getD 31 undef, A.getD 32 undef, A.getD 33 undef, A.getD 34 undef, A.getD 35 undef, A.getD 36 undef, A.getD 37 undef, A.getD 38 undef, A.getD 39 undef, A.getD 40 undef, A.getD 41 undef, A.getD 42 undef, A.getD 43 undef, A.getD 44 undef, A.getD 45 undef, A.getD 46 undef, A.getD 47 undef, A.getD 48 undef, A.getD 49 undef, A.getD 50 undef, A.getD 51 undef, A.getD 52 undef, A.getD 53 undef, A.getD 54 undef, A.getD 55 undef, A.getD 56 undef, A.getD 57 undef, A.getD 58 undef, A.getD 59 undef, A.getD 60 undef, A.getD 61 undef, A.getD 62 undef, A.getD 63 undef, A.getD 64 undef, A.getD 65 undef, A.getD 66 undef, A.getD 67 undef, A.getD 68 undef, A.getD 69 undef, A.getD 70 undef, A.getD 71 undef, A.getD 72 undef, A.getD 73 undef, A.getD 74 undef, A.getD 75 undef, A.getD 76 undef, A.getD 77 undef, A.getD 78 undef, A.getD 79 undef, A.getD 80 undef, A.getD 81 undef, A.getD 82 undef, A.getD 83 undef, A.getD 84 undef, A.getD 85 undef, A.getD 86 undef, A.getD 87 undef, A.getD 88 undef, A.getD 89 undef, A.getD 90 undef, A.getD 91 undef, A.getD 92 undef, A.getD 93 undef, A.getD 94 undef, A.getD 95 undef, A.getD 96 undef, A.getD 97 undef, A.getD 98 undef, A.getD 99 undef, A.getD 100 undef, A.getD 101 undef, A.getD 102 undef, A.getD 103 undef, A.getD 104 undef, A.getD 105 undef, A.getD 106 undef, A.getD 107 undef, A.getD 108 undef, A.getD 109 undef, A.getD 110 undef, A.getD 111 undef, A.getD 112 undef, A.getD 113 undef, A.getD 114 undef, A.getD 115 undef, A.getD 116 undef, A.getD 117 undef, A.getD 118 undef, A.getD 119 undef]) : Fr2 b bb xb kb rb nb vb cb lb x { tmps := A, defers := [] } := ⟨fun i => A.getD i undef, congrArg (fun x => (⟨x, []⟩ : Act)) h⟩
def Fr3 (b bb xb kb rb nb vb cb lb : Nat) (x : Nat × SV) (a : Act) : Prop := ∃ J : Nat → Value, a = { tmps := #[.pointer (some ⟨b, 0, none⟩), .map (some bb), .pointer (some ⟨xb, 0, none⟩), .pointer (some ⟨kb, 0, none⟩), .pointer (some ⟨rb, 0, none⟩), .pointer (some ⟨nb, 0, none⟩), .pointer (some ⟨vb, 0, none⟩), .pointer (some ⟨cb, 0, none⟩), .pointer (some ⟨lb, 0, none⟩), J 9, J 10, J 11, J 12, J 13, J 14, .int .u64 x.1, J 16, J 17, J 18, J 19, J 20, J 21, J 22, J 23, J 24, J 25, J 26, J 27, J 28, J 29, J 30, J 31, J 32, J 33, J 34, J 35, J 36, J 37, J 38, J 39, J 40, J 41, J 42, J 43, J 44, J 45, J 46, J 47, J 48, J 49, J 50, J 51, J 52, J 53, J 54, J 55, J 56, J 57, J 58, J 59, J 60, J 61, J 62, J 63, J 64, J 65, J 66, J 67, J 68, J 69, J 70, J 71, J 72, J 73, J 74, J 75, J 76, J 77, J 78, J 79, J 80, J 81, J 82, J 83, J 84, J 85, J 86, J 87, J 88, J 89, J 90, J 91, J 92, J 93, J 94, J 95, J 96, J 97, J 98, J 99, J 100, J 101, J 102, J 103, J 104, J 105, J 106, J 107, J 108, J 109, J 110, J 111, J 112, J 113, J 114, J 115, J 116, J 117, J 118, J 119], defers := [] }
theorem Fr3.of {b bb xb kb rb nb vb cb lb : Nat} {x : Nat × SV} {A : Array Value} (h : A = #[.pointer (some ⟨b, 0, none⟩), .map (some bb), .pointer (some ⟨xb, 0, none⟩), .pointer (some ⟨kb, 0, none⟩), .pointer (some ⟨rb, 0, none⟩), .pointer (some ⟨nb, 0, none⟩), .pointer (some ⟨vb, 0, none⟩), .pointer (some ⟨cb, 0, none⟩), .pointer (some ⟨lb, 0, none⟩), A.getD 9 undef, A.getD 10 undef, A.getD 11 undef, A.getD 12 undef, A.getD 13 undef, A.getD 14 undef, .int .u64 x.1, A.getD 16 undef, A.getD 17 undef, A.getD 18 undef, A.getD 19 undef, A.getD 20 undef, A.getD 21 undef, A.getD 22 undef, A.getD 23 undef, A.getD 24 undef, A.getD 25 undef, A.getD 26 undef, A.getD 27 undef, A.getD 28 undef, A.getD 29 undef, A.getD 30 undef, A.getD 31 undef, A.getD 32 undef, A.getD 33 undef, A.getD 34 undef, A.getD 35 undef, A.getD 36 undef, A.getD 37 undef, A.getD 38 undef, A.getD 39 undef, A.getD 40 undef, A.getD 41 undef, A.getD 42 undef, A.getD 43 undef, A.getD 44 undef, A.getD 45 undef, A.getD 46 undef, A.getD 47 undef, A.getD 48 undef, A.getD 49 undef, A.getD 50 undef, A.getD 51 undef, A.getD 52 undef, A.getD 53 undef, A.getD 54 undef, A.getD 55 undef, A.getD 56 undef, A.getD 57 undef, A.getD 58 undef, A.getD 59 undef, A.getD 60 undef, A.getD 61 undef, A.getD 62 undef, A.getD 63 undef, A.getD 64 undef, A.getD 65 undef, A.getD 66 undef, A.getD 67 undef, A.getD 68 undef, A.getD 69 undef, A.getD 70 undef, A.getD 71 undef, A.getD 72 undef, A.getD 73 undef, A.getD 74 undef, A.getD 75 undef, A.getD 76 undef, A.getD 77 undef, A.getD 78 undef, A.getD 79 undef, A.getD 80 undef, A.getD 81 undef, A.getD 82 undef, A.getD 83 undef, A.getD 84 undef, A.getD 85 undef, A.getD 86 undef, A.getD 87 undef, A.getD 88 undef, A.getD 89 undef, A.getD 90 undef, A.getD 91 undef, A.getD 92 undef, A.getD 93 undef, A.getD 94 undef, A.getD 95 undef, A.getD 96 undef, A.getD 97 undef, A.getD 98 undef, A.getD 99 undef, A.getD 100 undef, A.getD 101 undef, A.getD 102 undef, A.getD 103 undef, A.getD 104 undef, A.getD 105 undef, A.getD 106 undef, A.getD 107 undef, A.getD 108 undef, A.getD 109 undef, A.getD 110 undef, A.getD 111 undef, A.getD 112 undef, A.getD 113 undef, A.getD 114 undef, A.getD 115 undef, A.getD 116 undef, A.getD 117 undef, A.getD 118 undef, A.getD 119 undef]) : Fr3 b bb xb kb rb nb vb cb lb x { tmps := A, defers := [] } := ⟨fun i => A.getD i undef, congrArg (fun x => (⟨x, []⟩ : Act)) h⟩

/-- While the places are ticked off. -/
structure LS (w2 W : World) (rb tk cb lb n : Nat) (S : Tb Value) {L : List (Nat × SV)} (pre : List (El L)) : Prop where
  fr : Frm [rb, tk, cb, lb] w2 W
  br : Boxed W rb 4 (.bool false)
  bc : Boxed W cb 3 (.int .i64 pre.length)
  bl : Boxed W lb 30 (.int .u64 (lastK pre))
  tks : ∀ i, i < n → W.cell? ⟨tk, i, none⟩ = some (.bool (tkn n S pre i))
  tf : ∀ o, W.frozen? ⟨tk, o, none⟩ = false
theorem LS.drewN {w2 W : World} {rb tk cb lb n : Nat} {S : Tb Value} {L : List (Nat × SV)} {pre : List (El L)} (h : LS w2 W rb tk cb lb n S pre) (m : Nat) : LS w2 (W.drewN m) rb tk cb lb n S pre :=
  ⟨h.fr.drewN m, h.br, h.bc, h.bl, h.tks, h.tf⟩
theorem LS.own {w2 : World} {rb tk cb lb n : Nat} {S : Tb Value} {L : List (Nat × SV)} (hn : 0 < n) : OwnFrom w2.heap.size (fun (pre : List (El L)) W => LS w2 W rb tk cb lb n S pre) := by
  intro pre W W' row h hg hr
  have hr' : ∀ r, row = some r → ∃ o : Obj, W.heap[r]? = some o ∧ o.isCells = false := fun r e => (hr r e).2
  have hb : W'.heap[tk]? = W.heap[tk]? := LawB.grown_cells (cells_of_cell (h.tks 0 hn)) hg hr'
  exact ⟨frm_grown h.fr hg (fun r e => (hr r e).1), boxed_grown h.br hg hr', boxed_grown h.bc hg hr', boxed_grown h.bl hg hr', fun i hi => (World.cell?_of_block hb).trans (h.tks i hi), fun o => (World.frozen?_of_block hb).trans (h.tf o)⟩

/-- One more is ticked off. -/
theorem LS.step {w2 W : World} {rb tk cb lb n : Nat} {S : Tb Value} {L : List (Nat × SV)} {pre : List (El L)} (h : LS w2 W rb tk cb lb n S pre) (x : El L) {p : Nat} (hp : p < n) (hf : find n S x.val.1 = p) (hd : rb ≠ tk ∧ rb ≠ cb ∧ rb ≠ lb ∧ tk ≠ cb ∧ tk ≠ lb ∧ cb ≠ lb) :
    LS w2 (((W.setCell ⟨tk, p, none⟩ (.bool true)).setCell ⟨lb, 0, none⟩ (.int .u64 x.val.1)).setCell ⟨cb, 0, none⟩ (.int .i64 ((pre.length : Int) + 1))) rb tk cb lb n S (pre ++ [x]) := by
  obtain ⟨d1, d2, d3, d4, d5, d6⟩ := hd
  have c0 := h.bc.cell
  refine ⟨((h.fr.setCell (by simp) _).setCell (by simp) _).setCell (by simp) _, ?_, ?_, ?_, fun i hi => ?_, fun o => ?_⟩
  · refine (Boxed.other (Boxed.other ?_ d3 _) d2 _)
    exact (Below.heap_setCell _ _ _ _ d1).trans h.br
  · have h1 : Boxed ((W.setCell ⟨tk, p, none⟩ (.bool true)).setCell ⟨lb, 0, none⟩ (.int .u64 x.val.1)) cb 3 (.int .i64 pre.length) := by
      refine Boxed.other ?_ d6 _
      exact (Below.heap_setCell _ _ _ _ (fun e => d4 e.symm)).trans h.bc
    have := h1.set (.int .i64 ((pre.length : Int) + 1))
    simpa using this
  · rw [lastK_snoc]
    refine Boxed.other ?_ (fun e => d6 e.symm) _
    have h1 : Boxed (W.setCell ⟨tk, p, none⟩ (.bool true)) lb 30 (.int .u64 (lastK pre)) := (Below.heap_setCell _ _ _ _ (fun e => d5 e.symm)).trans h.bl
    exact h1.set _
  · rw [cell_setCell_block d4, cell_setCell_block d5, tkn_snoc, hf]
    by_cases e : i = p
    · subst e
      rw [cell_setCell_same (h.tks i hi)]; simp
    · rw [cell_setCell_off e, h.tks i hi]
      have : (p == i) = false := by simp; exact fun e' => e e'.symm
      rw [this]; simp
  · rw [World.frozen?_setCell, World.frozen?_setCell, World.frozen?_setCell]; exact h.tf o

set_option maxHeartbeats 2000000 in
theorem lies_c {w0 w : World} {b s bb n most e c : Nat} {S : Tb Value} {f : Int → Option Int} (h : Keep w0 w b s bb n most e c S f) :
    Calls Try.prog 22 #[.pointer (some ⟨b, 0, none⟩), .map (some bb)] w fun r w' => r = .returned (.bool true) ∧ Below w.heap.size w w' := by
  obtain ⟨em, hem, hemp⟩ := h.T.emp
  have HA := hid (fun (wx : World) (hx : IdxAt wx b s most c n (conc nilS S)) => IdxJ.all_c hx h.T.fit.geo h.T.sl)
  have HS := hid (fun (wx : World) (hx : IdxAt wx b s most c n (conc nilS S)) => IdxJ.slots_c hx)
  have HSL := hid (fun (wx : World) (key : Nat) (hx : IdxAt wx b s most c n (conc nilS S)) => IdxJ.slot_c hx h.T.fit.geo hem hemp key)
  have HHO := hid (fun (wx : World) (key : Nat) (cp : Nat) (hx : wx.cell? ⟨b, 2, none⟩ = some (.slice (some ⟨s, 0, none⟩) n cp)) => IdxJ.home_c hx h.T.fit.geo key)
  have HI := hid h.I
  have hlb := h.I.lb
  have hls := h.I.ls
  have hlm := h.M.lt
  have hpos := h.T.pos
  have hsm := h.T.fit.geo.small
  have hmk : ∀ (wx : World), (Instr.makeSlice 35 (.int .i64 n) (.int .i64 n)).run Try.prog wx = .ok (.slice (some ⟨wx.heap.size, 0, none⟩) n n) (wx.alloc (.cells (madeCells #[.bool false] (n * 1)) 4)) := by
    intro wx
    obtain ⟨i0, hi, hz0, hz1, hz2⟩ := info_parts (show (Try.prog.info? 4).map (fun i => (i.zero, i.size, i.bytes)) = some (some (.bool false), 1, 1) by kernel_rfl)
    have := run_make (P := Try.prog) wx 35 4 i0 _ Try.underlying35 hi hz0 .i64 .i64 n n (by omega) (by omega) (by rw [hz2]; omega) (by omega)
    rw [hz1] at this
    exact this
  have HK := hid h
  clear h
  refine (callsIn_wide (n := 6)).1 ?_
  refine callsIn_of_wp_marks Try.func22 rfl trivial ?_ rfl
  simp only [Try.ntmps22, List.size_toArray, List.length_cons, List.length_nil, Nat.reduceAdd, Nat.reduceSub, Array.replicate_succ, Array.replicate_zero, List.push_toArray, List.append_toArray, List.nil_append, List.cons_append]
  refine wpIn_wide.2 ?_
  go_wp2_with fail
  refine (HS.out _ (HI.out.frm ((((Frm.refl [] w).alloc _).alloc _).alloc _) (by simp) (by simp))).mono ?_
  rintro r w' ⟨rfl, rfl⟩
  go_wp2_with fail
  clear hmk
  obtain ⟨w1, hw1⟩ : ∃ w1, w1 = (((((((w.alloc (.cells #[.pointer (some ⟨b, 0, none⟩)] 41)).alloc (.cells #[.map (some bb)] 44)).alloc (.cells #[.bool false] 4)).alloc (.cells #[.int .i64 n] 3)).alloc (.cells (madeCells #[.bool false] n) 4)).alloc (.cells #[.slice (some ⟨w.heap.size + 1 + 1 + 1 + 1, 0, none⟩) n n] 35)).alloc (.cells #[.int .i64 0] 3)).alloc (.cells #[.int .u64 0] 30) := ⟨_, rfl⟩
  rw [← hw1]
  have hB1 : Below w.heap.size w w1 := by
    rw [hw1]
    exact (((((((((Below.refl _ w).alloc (by simp) _).alloc (by simp only [alloc_size]; omega) _).alloc (by simp only [alloc_size]; omega) _).alloc (by simp only [alloc_size]; omega) _).alloc (by simp only [alloc_size]; omega) _).alloc (by simp only [alloc_size]; omega) _).alloc (by simp only [alloc_size]; omega) _).alloc (by simp only [alloc_size]; omega) _)
  have hz1 : w1.heap.size = w.heap.size + 1 + 1 + 1 + 1 + 1 + 1 + 1 + 1 := by rw [hw1]; simp
  have bx1 : Boxed w1 w.heap.size 41 (.pointer (some ⟨b, 0, none⟩)) := by unfold Boxed; rw [hw1]; simp only [heap_alloc_if, alloc_size]; (repeat (first | rw [if_pos trivial] | rw [if_pos (by omega)] | rw [if_neg (by omega)]))
  have bk1 : Boxed w1 (w.heap.size + 1) 44 (.map (some bb)) := by unfold Boxed; rw [hw1]; simp only [heap_alloc_if, alloc_size]; (repeat (first | rw [if_pos trivial] | rw [if_pos (by omega)] | rw [if_neg (by omega)]))
  have br1 : Boxed w1 (w.heap.size + 1 + 1) 4 (.bool false) := by unfold Boxed; rw [hw1]; simp only [heap_alloc_if, alloc_size]; (repeat (first | rw [if_pos trivial] | rw [if_pos (by omega)] | rw [if_neg (by omega)]))
  have bn1 : Boxed w1 (w.heap.size + 1 + 1 + 1) 3 (.int .i64 n) := by unfold Boxed; rw [hw1]; simp only [heap_alloc_if, alloc_size]; (repeat (first | rw [if_pos trivial] | rw [if_pos (by omega)] | rw [if_neg (by omega)]))
  have tk1 : w1.heap[w.heap.size + 1 + 1 + 1 + 1]? = some (.cells (madeCells #[.bool false] n) 4 (0, 0)) := by rw [hw1]; simp only [heap_alloc_if, alloc_size]; (repeat (first | rw [if_pos trivial] | rw [if_pos (by omega)] | rw [if_neg (by omega)]))
  have bv1 : Boxed w1 (w.heap.size + 1 + 1 + 1 + 1 + 1) 35 (.slice (some ⟨w.heap.size + 1 + 1 + 1 + 1, 0, none⟩) n n) := by unfold Boxed; rw [hw1]; simp only [heap_alloc_if, alloc_size]; (repeat (first | rw [if_pos trivial] | rw [if_pos (by omega)] | rw [if_neg (by omega)]))
  have bc1 : Boxed w1 (w.heap.size + 1 + 1 + 1 + 1 + 1 + 1) 3 (.int .i64 0) := by unfold Boxed; rw [hw1]; simp only [heap_alloc_if, alloc_size]; (repeat (first | rw [if_pos trivial] | rw [if_pos (by omega)] | rw [if_neg (by omega)]))
  have bl1 : Boxed w1 (w.heap.size + 1 + 1 + 1 + 1 + 1 + 1 + 1) 30 (.int .u64 0) := by unfold Boxed; rw [hw1]; simp only [heap_alloc_if, alloc_size]; (repeat (first | rw [if_pos trivial] | rw [if_pos (by omega)] | rw [if_neg (by omega)]))
  clear hw1
  have HK1 := hid (HK.out.later hB1)
  have HI1 := hid (HI.out.of_blocks (hB1.block _ hlb) (hB1.block _ hls))
  refine (HA.out _ HI1.out).mono ?_
  rintro r w2 ⟨rfl, L, hS, hB2, hs2, lv, hbl, hrow⟩
  have HL0 : Hid (LS w2 w2 (w.heap.size + 1 + 1) (w.heap.size + 1 + 1 + 1 + 1) (w.heap.size + 1 + 1 + 1 + 1 + 1 + 1) (w.heap.size + 1 + 1 + 1 + 1 + 1 + 1 + 1) n S ([] : List (El L))) := by
    have tk2 : w2.heap[w.heap.size + 1 + 1 + 1 + 1]? = some (.cells (madeCells #[.bool false] n) 4 (0, 0)) := (hB2.block _ (by omega)).trans tk1
    refine ⟨Frm.refl _ _, (hB2.block _ br1.lt).trans br1, (hB2.block _ bc1.lt).trans bc1, (hB2.block _ bl1.lt).trans bl1, fun i hi => ?_, fun o => frozen_of_block tk2 o⟩
    rw [cell_of_block tk2, tkn_nil]
    unfold madeCells
    rw [Array.getElem?_map, Array.getElem?_range]
    simp [hi, Nat.mod_one]
  have bx2 : Boxed w2 w.heap.size 41 (.pointer (some ⟨b, 0, none⟩)) := (hB2.block _ bx1.lt).trans bx1
  have bk2 : Boxed w2 (w.heap.size + 1) 44 (.map (some bb)) := (hB2.block _ bk1.lt).trans bk1
  have bn2 : Boxed w2 (w.heap.size + 1 + 1 + 1) 3 (.int .i64 n) := (hB2.block _ bn1.lt).trans bn1
  have bv2 : Boxed w2 (w.heap.size + 1 + 1 + 1 + 1 + 1) 35 (.slice (some ⟨w.heap.size + 1 + 1 + 1 + 1, 0, none⟩) n n) := (hB2.block _ bv1.lt).trans bv1
  have HK2 := hid (HK1.out.later hB2)
  have HBB : Hid (Below w.heap.size w w2) := hid (hB1.trans (hB2.mono (by omega)))
  have hrl : ∀ k, k ∈ rowBlk lv → w1.heap.size < k ∧ k < w2.heap.size := by
    intro k hk
    rcases hrow with ⟨_, rfl⟩ | ⟨gg, cap, rfl, h1, h2, _, _⟩
    · simp [rowBlk] at hk
    · simp [rowBlk] at hk; subst hk; omega
  have hlen : L.length ≤ n := by rw [hS.1.length_eq, ents_length HK2.out.T n (Nat.le_refl _)]; exact cnt_le _ _
  have hAL : L.attach.map Subtype.val = L := List.attach_map_subtype_val L
  have hseq := IdxJ.iter_stopsA (Subtype.val : El L → Nat × SV) Fence.wide 5 trivial rfl (by omega) w1.heap.size (w1.heap.size + 1) lv L.attach (by simp; omega) w2 hbl (by rw [hAL]; exact hrow) (fun k hk => (hrl k hk).2)
  have hseq' : SeqStopsK Fence.wide (6 - 1) Try.prog 58 #[.pointer (some ⟨w1.heap.size, 0, none⟩)] (fun x : El L => #[.int .u64 x.val.1, .slice x.val.2.1 x.val.2.2.1 x.val.2.2.2]) (KpB (w1.heap.size :: rowBlk lv)) (fun ys => ys = L.attach) (fun pre => pre <+: L.attach) L.attach.length w2 := hseq
  have hibl := hbl.lt
  clear hseq bx1 bk1 br1 bn1 tk1 bv1 bc1 bl1 hB1 hB2 HI1 HK1 HS HI hbl hrow hAL
  generalize hxb : w.heap.size = xb at *
  have HXB := hid hxb
  generalize hkb : xb + 1 = kb at *
  generalize hrb : kb + 1 = rb at *
  generalize hnb : rb + 1 = nb at *
  generalize htk : nb + 1 = tk at *
  generalize hvb : tk + 1 = vb at *
  generalize hcb : vb + 1 = cb at *
  generalize hlbq : cb + 1 = lb at *
  generalize hib : w1.heap.size = ib at *
  have hord : xb < kb ∧ kb < rb ∧ rb < nb ∧ nb < tk ∧ tk < vb ∧ vb < cb ∧ cb < lb ∧ lb < ib := by omega
  clear hxb hkb hrb hnb htk hvb hcb hlbq hib hz1
  have hbs : b < xb ∧ s < xb ∧ bb < xb := ⟨hlb, hls, hlm⟩
  have HRB : Hid (∀ k, k ∈ ib :: rowBlk lv → k < w2.heap.size ∧ k ∉ [rb, tk, cb, lb]) := fun k hk => by
    rcases List.mem_cons.1 hk with rfl | hk
    · exact ⟨hibl, by simp; omega⟩
    · have := hrl k hk; exact ⟨this.2, by simp; omega⟩
  clear hlb hls hlm
  go_wp2_with fail
  refine (wpIn_wide (n := 6)).1 ?_
  refine wpIn_rangeFunc_ownH (n := 6) (F := Fence.wide) rfl (by omega) (gf := 58) (lb := #[.pointer (some ⟨ib, 0, none⟩)]) rfl trivial (enters_of Try.func58 (by kernel_rfl) rfl) hseq' KpB.t (KpB.b (by intro k hk; rcases List.mem_cons.1 hk with rfl | hk; exact hibl; exact (hrl k hk).2)) (Below.refl _ _) (by intro _; rfl)
    (fun pre W => LS w2 W rb tk cb lb n S pre)
    (fun c pre W => c = .ret ∧ ¬ pre <+: L.attach) ?hI ?hIx ?h0
    (fun x a' _ => Fr2 b bb xb kb rb nb vb cb lb x.val a') (fun x a' _ _ _ _ hs _ _ => hs) ?assign ?body ?done ?stop
  case hI => exact LS.own hpos
  case hIx => exact fun c pre W W' row hs hg hr => hs
  case h0 => exact HL0.out
  case assign =>
    intro l pre x W K hi hK
    gi_wp2
    exact hK _ _ (KeepsFrom.refl _ _) (fun _ _ => rfl) hi (Fr2.of rfl)
  case body =>
    rintro l pre ⟨⟨key, va, vl, vcp⟩, hx⟩ a' W hl _ hls0 ⟨J, rfl⟩ hlt
    obtain ⟨p, hp, hs⟩ := mem_ents (hS.1.subset hx)
    have hfp := HK2.out.T.inv.find_of hem hemp hp hs
    obtain ⟨g, N, hu, hfN, hcg, hg1, hg2, hg3⟩ := HK.out.ag p _ _ hp hs
    simp only [Value.slice.injEq] at hu
    obtain ⟨rfl, rfl, rfl⟩ := hu
    have hgx : g < xb := by have := cell_lt hcg; rw [HXB.out] at this; exact this
    have hkey := HK2.out.ks p _ _ hs
    have KK : lwf .u64 (key : Int) := by unfold lwf; exact WalkArith.wf_u64 (by omega)
    have hkeep : ∀ {j o : Nat} {v : Value}, j ∉ [rb, tk, cb, lb] → w2.cell? ⟨j, o, none⟩ = some v → W.cell? ⟨j, o, none⟩ = some v := fun hj hc => (World.cell?_of_block (hls0.fr.block _ (cell_lt hc) hj)).trans hc
    have xc := hkeep (by simp; omega) bx2.cell
    have kc := hkeep (by simp; omega) bk2.cell
    have nc := hkeep (by simp; omega) bn2.cell
    have vc := hkeep (by simp; omega) bv2.cell
    have gc : W.cell? ⟨g, 0, none⟩ = some (.int .i64 N) := hkeep (by simp; omega) ((World.cell?_of_block (HBB.out.block g hgx)).trans hcg)
    have HM : Hid (MapB W bb f c) := hid (HK2.out.M.of_block (hls0.fr.block _ (by have := HBB.out.size; omega) (by simp; omega)))
    have HIW : Hid (IdxAt W b s most c n (conc nilS S)) := hid (HK2.out.I.frm hls0.fr (by simp; omega) (by simp; omega))
    have hcon : conc nilS S (find n S key) = (true, key, rowV g) := by unfold conc; rw [hfp, hs]
    have hsl := HSL.out W key HIW.out
    rw [hcon, hfp] at hsl
    have HSL' := hid hsl
    have HFN := hid hfN
    have tkc := hls0.tks p hp
    have HLS := hid hls0
    have HKP := hid (fun (hp' : pre ++ [(⟨(key, some ⟨g, 0, none⟩, 2, 2), hx⟩ : El L)] <+: L.attach) => in_order HK2.out.T.inv hem hemp hS hp')
    clear hkeep hcg hfN hs hsl hcon hls0
    gi_wp2_with (first | (at_lookup; refine wpListIn_F_look_ok_some _ rfl _ _ _ rfl typedB bb c f rfl HM.out _ rfl KK _ HFN.out ?_) | (refine wpListIn_F_look_ok_some _ rfl _ _ _ rfl typedB bb c f rfl HM.out _ rfl KK _ HFN.out ?_))
    refine ⟨trivial, ?_⟩
    refine (callsIn_wide.2 HSL'.out).mono ?_
    rintro r W1 ⟨rfl, m1, rfl⟩
    have lc := HLS.out.bl.cell
    have cc := HLS.out.bc.cell
    have rc := HLS.out.br.cell
    have rf := HLS.out.br.frozen
    have lf := HLS.out.bl.frozen
    have cf := HLS.out.bc.frozen
    have tf := HLS.out.tf p
    have HST := hid ((HLS.out.drewN m1).step (⟨(key, some ⟨g, 0, none⟩, 2, 2), hx⟩ : El L) hp hfp (by omega))
    have hpl : pre.length ≤ 1099511627776 := by simp at hlt; omega
    have HFP := hid hfp
    clear hfp HSL'
    by_cases hC : tkn n S pre p = false ∧ (pre.length = 0 ∨ lastK pre < key)
    · obtain ⟨h1, h2⟩ := hC
      rw [h1] at tkc
      clear h1
      generalize lastK pre = lk at lc h2
      rcases h2 with h2 | h2
      · have h2' : ¬ (0 : Int) < pre.length := by omega
        have H2 := hid h2
        clear h2
        gi_wp2
        refine ⟨(((LawC.drewN_keeps _ _ m1).trans ((KeepsOthers.setCell _ _ _).from _)).trans ((KeepsOthers.setCell _ _ _).from _)).trans ((KeepsOthers.setCell _ _ _).from _), fun k hk => ?_, HST.out⟩
        obtain ⟨q1, q2⟩ := HRB.out k hk
        exact (HST.out.fr.block k q1 q2).trans (HLS.out.fr.block k q1 q2).symm
      · have h2' : ¬ key ≤ lk := by omega
        by_cases h0 : pre.length = 0
        · have h2'' : ¬ (0 : Int) < pre.length := by omega
          clear h0
          gi_wp2
          refine ⟨(((LawC.drewN_keeps _ _ m1).trans ((KeepsOthers.setCell _ _ _).from _)).trans ((KeepsOthers.setCell _ _ _).from _)).trans ((KeepsOthers.setCell _ _ _).from _), fun k hk => ?_, HST.out⟩
          obtain ⟨q1, q2⟩ := HRB.out k hk
          exact (HST.out.fr.block k q1 q2).trans (HLS.out.fr.block k q1 q2).symm
        · have h2'' : (0 : Int) < pre.length := by omega
          clear h0
          gi_wp2
          refine ⟨(((LawC.drewN_keeps _ _ m1).trans ((KeepsOthers.setCell _ _ _).from _)).trans ((KeepsOthers.setCell _ _ _).from _)).trans ((KeepsOthers.setCell _ _ _).from _), fun k hk => ?_, HST.out⟩
          obtain ⟨q1, q2⟩ := HRB.out k hk
          exact (HST.out.fr.block k q1 q2).trans (HLS.out.fr.block k q1 q2).symm
    · have hnp : ¬ (pre ++ [(⟨(key, some ⟨g, 0, none⟩, 2, 2), hx⟩ : El L)]) <+: L.attach := fun hp' => hC (by have := HKP.out hp'; rw [HFP.out] at this; exact this)
      cases hd : tkn n S pre p with
      | true =>
        rw [hd] at tkc
        clear hC hd
        gi_wp2
        exact ⟨(LawC.drewN_keeps _ _ m1).trans ((KeepsOthers.setCell _ _ _).from _), rfl, hnp⟩
      | false =>
        have h1 : (0 : Int) < pre.length := by
          have : pre.length ≠ 0 := fun e => hC ⟨hd, .inl e⟩
          omega
        have h2 : key ≤ lastK pre := by
          have : ¬ lastK pre < key := fun e => hC ⟨hd, .inr e⟩
          omega
        rw [hd] at tkc
        clear hC hd
        generalize lastK pre = lk at lc h2
        gi_wp2
        exact ⟨(LawC.drewN_keeps _ _ m1).trans ((KeepsOthers.setCell _ _ _).from _), rfl, hnp⟩
  case done =>
    rintro D1 ys W hD1 rfl hls1 hDD1
    have hkeep : ∀ {j o : Nat} {v : Value}, j ∉ [rb, tk, cb, lb] → w2.cell? ⟨j, o, none⟩ = some v → W.cell? ⟨j, o, none⟩ = some v := fun hj hc => (World.cell?_of_block (hls1.fr.block _ (cell_lt hc) hj)).trans hc
    have xc := hkeep (by simp; omega) bx2.cell
    have xl := cell_lt xc
    have HIW : Hid (IdxAt W b s most c n (conc nilS S)) := hid (HK2.out.I.frm hls1.fr (by simp; omega) (by simp; omega))
    have HLS := hid hls1
    have hD1l := (Array.getElem?_eq_some_iff.1 hDD1).1
    have HDD1 := hid hDD1
    clear hkeep hls1 hDD1
    go_wp2_with fail
    refine (HA.out _ HIW.out).mono ?_
    rintro r w3 ⟨rfl, L2, hS2, hB3, hs3, lv2, hbl2, hrow2⟩
    have hrl2 : ∀ k, k ∈ rowBlk lv2 → W.heap.size < k ∧ k < w3.heap.size := by
      intro k hk
      rcases hrow2 with ⟨_, rfl⟩ | ⟨gg, cap, rfl, h1, h2, _, _⟩
      · simp [rowBlk] at hk
      · simp [rowBlk] at hk; subst hk; omega
    have hlen2 : L2.length ≤ n := by rw [hS2.1.length_eq, ents_length HK2.out.T n (Nat.le_refl _)]; exact cnt_le _ _
    have hAL2 : L2.attach.map Subtype.val = L2 := List.attach_map_subtype_val L2
    have hseq2 : SeqStopsK Fence.wide (6 - 1) Try.prog 58 #[.pointer (some ⟨W.heap.size, 0, none⟩)] (fun x : El L2 => #[.int .u64 x.val.1, .slice x.val.2.1 x.val.2.2.1 x.val.2.2.2]) (KpB (W.heap.size :: rowBlk lv2)) (fun ys => ys = L2.attach) (fun pre => pre <+: L2.attach) L2.attach.length w3 :=
      IdxJ.iter_stopsA (Subtype.val : El L2 → Nat × SV) Fence.wide 5 trivial rfl (by omega) W.heap.size (W.heap.size + 1) lv2 L2.attach (by simp; omega) w3 hbl2 (by rw [hAL2]; exact hrow2) (fun k hk => (hrl2 k hk).2)
    have hibl2 := hbl2.lt
    have br3 : Boxed w3 rb 4 (.bool false) := (hB3.block _ HLS.out.br.lt).trans HLS.out.br
    have HBR := hid br3
    have HTK : Hid (∀ i, i < n → w3.cell? ⟨tk, i, none⟩ = some (.bool (S i).isSome)) := fun i hi => by
      have h1 := HLS.out.tks i hi
      rw [tkn_all HK2.out.T.inv hem hemp hS HK2.out.T.sl hi] at h1
      exact (World.cell?_of_block (hB3.block _ (cell_lt h1))).trans h1
    have hk3 : ∀ {j o : Nat} {v : Value}, j ∉ [rb, tk, cb, lb] → w2.cell? ⟨j, o, none⟩ = some v → w3.cell? ⟨j, o, none⟩ = some v := fun hj hc => by
      have h1 := (World.cell?_of_block (HLS.out.fr.block _ (cell_lt hc) hj)).trans hc
      exact (World.cell?_of_block (hB3.block _ (cell_lt h1))).trans h1
    have bx3 := hk3 (by simp; omega) bx2.cell
    have bk3 := hk3 (by simp; omega) bk2.cell
    have bn3 := hk3 (by simp; omega) bn2.cell
    have bv3 := hk3 (by simp; omega) bv2.cell
    have bc3 : w3.cell? ⟨cb, 0, none⟩ = some (.int .i64 (c : Nat)) := by
      have h1 := HLS.out.bc.cell
      have h2 : L.attach.length = c := by rw [List.length_attach, hS.1.length_eq, ents_length HK2.out.T n (Nat.le_refl _), HK2.out.T.cnt]
      rw [h2] at h1
      exact (World.cell?_of_block (hB3.block _ (cell_lt h1))).trans h1
    have HI3 : Hid (IdxAt w3 b s most c n (conc nilS S)) := hid (HIW.out.of_blocks (hB3.block _ HIW.out.lb) (hB3.block _ HIW.out.ls))
    have HM3 : Hid (MapB w3 bb f c) := by
      have h1 : MapB W bb f c := HK2.out.M.of_block (HLS.out.fr.block _ (by have := HBB.out.size; omega) (by simp; omega))
      exact hid (h1.of_block (hB3.block _ h1.lt))
    have HB3 : Hid (Below xb w w3) := by
      have h1 : Below xb w W := HBB.out.trans (HLS.out.fr.below (by omega) (by simp; omega))
      exact hid (h1.trans (hB3.mono (by have := HLS.out.fr.size; omega)))
    have HD3 : Hid (w3.heap[D1]? = some (.deferred (some []))) := hid ((hB3.block _ hD1l).trans HDD1.out)
    have hD13 : D1 < w3.heap.size := by have := hB3.size; omega
    have hxD : xb ≤ D1 := by omega
    have hWs : w2.heap.size ≤ W.heap.size := HLS.out.fr.size
    clear hk3 hB3 hbl2 hrow2 br3 hAL2 HLS HIW HDD1 xc xl HA hseq'
    generalize W.heap.size = ib2 at *
    go_wp2_with fail
    refine (wpIn_wide (n := 6)).1 ?_
    refine wpIn_rangeFunc_ownH (n := 6) (F := Fence.wide) rfl (by omega) (gf := 58) (lb := #[.pointer (some ⟨ib2, 0, none⟩)]) rfl trivial (enters_of Try.func58 (by kernel_rfl) rfl) hseq2 KpB.t (KpB.b (by intro k hk; rcases List.mem_cons.1 hk with rfl | hk; exact hibl2; exact (hrl2 k hk).2)) (Below.refl _ _) (by intro _; rfl)
      (fun pre W => Frm [] w3 W)
      (fun c pre W => False) ?hI2 ?hIx2 ?h02
      (fun x a' _ => Fr3 b bb xb kb rb nb vb cb lb x.val a') (fun x a' _ _ _ _ hs _ _ => hs) ?assign2 ?body2 ?done2 ?stop2
    case hI2 => exact fun pre W W' row h hg hr => frm_grown h hg (fun r e => (hr r e).1)
    case hIx2 => exact fun c pre W W' row hs hg hr => hs
    case h02 => exact Frm.refl _ _
    case assign2 =>
      intro l pre x W K hi hK
      gi_wp2
      exact hK _ _ (KeepsFrom.refl _ _) (fun _ _ => rfl) hi (Fr3.of rfl)
    case body2 =>
      rintro l pre ⟨⟨key, va, vl, vcp⟩, hx⟩ a' W' hl _ hfr ⟨J, rfl⟩ hlt
      obtain ⟨p, hp, hs⟩ := mem_ents (hS2.1.subset hx)
      have hfp := HK2.out.T.inv.find_of hem hemp hp hs
      have hpath := HK2.out.T.inv.path p _ _ hp hs
      have hkeep : ∀ {j o : Nat} {v : Value}, w3.cell? ⟨j, o, none⟩ = some v → W'.cell? ⟨j, o, none⟩ = some v := fun hc => (World.cell?_of_block (hfr.block _ (cell_lt hc) (by simp))).trans hc
      have xc := hkeep bx3
      have nc := hkeep bn3
      have vc := hkeep bv3
      have HIW : Hid (IdxAt W' b s most c n (conc nilS S)) := hid (HI3.out.frm hfr (by simp) (by simp))
      have HTW : Hid (∀ i, i < n → W'.cell? ⟨tk, i, none⟩ = some (.bool (S i).isSome)) := fun i hi => hkeep (HTK.out i hi)
      have hcon : (conc nilS S (find n S key)).1 = true := by unfold conc; rw [hfp, hs]
      have hsl := HSL.out W' key HIW.out
      rw [hcon, hfp] at hsl
      have HSL' := hid hsl
      obtain ⟨cpp, hcp⟩ := HIW.out.c2
      have HHO' := hid (fun m => HHO.out (W'.drewN m) key cpp (by rw [World.cell?_drewN]; exact hcp))
      have hh := home_lt hpos key
      have HPA : Hid (∀ i, i < n → dist n (home n key) i < dist n (home n key) p → S i ≠ none) := hpath
      have HFR := hid hfr
      have HDI : Hid (dist n (home n key) (home n key) = 0) := hid (dist_self _ _)
      clear hkeep hs hfp hpath hsl hcon hfr hcp
      generalize home n key = h0 at *
      gi_wp2_with fail
      refine ⟨trivial, ?_⟩
      refine (callsIn_wide.2 HSL'.out).mono ?_
      rintro r W1 ⟨rfl, m1, rfl⟩
      gi_wp2_with fail
      refine ⟨trivial, ?_⟩
      refine (callsIn_wide.2 (HHO'.out m1)).mono ?_
      rintro r W2 ⟨rfl, rfl⟩
      have hd1 : decide ((h0 : Int) < 0) = false := by simp
      have hd2 : decide ((n : Int) ≤ (h0 : Int)) = false := by simp; omega
      gi_wp2_with fail
      gi_loop [19] (fun v => ∃ i : Nat, i < n ∧ v = .int .i64 i ∧ Hid (dist n h0 i + dist n i p = dist n h0 p)) (fun v => dist n (intOf v).toNat p)
      case atStart => exact ⟨h0, hh, rfl, by rw [HDI.out]; exact hid (by omega)⟩
      case round =>
        obtain ⟨i, hi, rfl, hd⟩ := hrel
        have tkc := HTW.out i hi
        by_cases hip : i = p
        · subst hip
          gi_wp2
          exact ⟨LawC.drewN_keeps _ _ _, fun k hk => rfl, HFR.out.drewN _⟩
        · have hpos' := dist_pos hi hp hip
          have hsi := HPA.out i hi (by have := hd.out; omega)
          have hso : (S i).isSome = true := by cases h' : S i with | none => exact absurd h' hsi | some _ => rfl
          rw [hso] at tkc
          have hmod : Hid (((i : Int) + 1) % (n : Int) = ((nx n i : Nat) : Int)) := by rw [← nx_mod hi]; exact hid rfl
          have hnx := nx_lt hi
          have HD1 : Hid (dist n h0 (nx n i) + dist n (nx n i) p = dist n h0 p ∧ dist n (nx n i) p < dist n i p) := hid (way_step hh hi hp hip hd.out)
          clear hsi hso hpos'
          generalize nx n i = i' at hmod hnx HD1
          have hne : ¬ (i : Int) = p := by omega
          gi_wp2
          refine ⟨⟨i', hnx, by rw [hmod.out], hid HD1.out.1⟩, ?_⟩
          rw [hmod.out]
          simpa [intOf] using HD1.out.2
    case done2 =>
      rintro D2 ys W' hD2 hys hfr hDD2
      have hkeep : ∀ {j o : Nat} {v : Value}, w3.cell? ⟨j, o, none⟩ = some v → W'.cell? ⟨j, o, none⟩ = some v := fun hc => (World.cell?_of_block (hfr.block _ (cell_lt hc) (by simp))).trans hc
      have cc := hkeep bc3
      have kc := hkeep bk3
      have brW : Boxed W' rb 4 (.bool false) := (hfr.block _ HBR.out.lt (by simp)).trans HBR.out
      have rc := brW.cell
      have rf := brW.frozen
      have hlz : (Builtin.len_ #[44] 3 #[.map (some bb)]).run Try.prog W' = .ok (.int .i64 (c : Nat)) W' := MapF.len typedB (HM3.out.of_block (hfr.block _ HM3.out.lt (by simp))) _
      have HMK : Hid (Marks W' [D2, D1]) := hid (((Marks.nil W').cons ((hfr.block _ hD13 (by simp)).trans HD3.out) (by simp)).cons hDD2 (by simp; omega))
      have HBW : Hid (Below xb w W') := hid (HB3.out.trans (hfr.below (by omega) (by simp)))
      have HRW := hid brW
      clear hkeep brW hys hfr hDD2
      go_wp2
      have HMK2 : Hid (Marks (W'.setCell ⟨rb, 0, none⟩ (.bool true)) [D2, D1]) := hid (HMK.out.keeps fun k hk => Below.heap_setCell _ _ _ _ (by simp at hk; rcases hk with rfl | rfl <;> (show _ ≠ rb; omega)))
      have r9 := HRW.out.set (.bool true)
      refine leaves_marks [D2, D1] _ HMK2.out fun W'' hW'' => ?_
      have r9' : Boxed W'' rb 4 (.bool true) := (hW''.cells HMK2.out (LawB.boxed_isCells r9)).trans r9
      have i7 := r9'.cell
      exact ⟨.bool true, by simp [results, Try.results22, go_sem, i7], rfl, by rw [HXB.out]; exact (HBW.out.setCell (by show xb ≤ rb; omega) _).trans (hW''.below (by simp; omega))⟩
    case stop2 =>
      rintro D c pre W hD hp h hDD
      exact h.elim
  case stop =>
    rintro D c pre W hD hp ⟨_, hn⟩ hDD
    exact absurd hp hn
end Go.Proofs.Ytcieieljgmkjmaa.Keep
