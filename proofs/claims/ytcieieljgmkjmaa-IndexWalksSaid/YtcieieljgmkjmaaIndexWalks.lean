/- IndexWalks: All goes over what the index was when it was made: left early, ranged over again, within itself, while the index is changed. No condition. -/
import Derived.Test.YtcieieljgmkjmaaRows
import Derived.WalkKit
import Derived.ProofKit
import Derived.OpenShut
import Derived.ShutString
import Derived.ChangeOld
import Derived.Below
import Derived.BigQuiet
import Derived.Laws.EntriesVeiled
import Derived.Deep.CutBlock
import Derived.Deep.DeepCutAuto
import Derived.StillTailTactics
import Derived.Test.YtcieieljgmkjmaaLawW
namespace Go.Proofs.Ytcieieljgmkjmaa.indexWalks
open Go.ChangeShapes Go.WideShapes Go.ChangeAt Go.RowKit Winnow
open Go.ChangeMaps (open_string shut_string)
open IdxI (entsTo Sorted KpB rowBlk Row3)
open Go.Shelf
set_option linter.unusedVariables false
attribute [local go_sem] Oper.semAt_some

theorem own : ownKnob Try.prog.godebug = none := by kernel_rfl
theorem laidOut : laidOutB Try.prog = true := by kernel_rfl

/-- The frames of the loops over the iterator: what is read again; all else is whatever it is. -/
def Fr1 (most : Nat) (a1 : Option Addr) (len1 cap1 : Nat) (stop : Int) (w : World) (c kb vb sb tb : Nat) (a : Act) (ds : List Deferred) : Prop := ∃ J : Nat → Value, a = { tmps := #[.int .i64 ↑most, .slice a1 len1 cap1, .int .i64 stop, J 3, J 4, .pointer (some ⟨w.heap.size, 0, none⟩), .pointer (some ⟨w.heap.size + 1, 0, none⟩), .pointer (some ⟨c, 0, none⟩), J 8, J 9, .pointer (some ⟨kb, 0, none⟩), .pointer (some ⟨vb, 0, none⟩), .pointer (some ⟨sb, 0, none⟩), J 13, J 14, .pointer (some ⟨tb, 0, none⟩), J 16, J 17, J 18, J 19, J 20, J 21, J 22, J 23, J 24, J 25, J 26, J 27, J 28, J 29, J 30, J 31, J 32, J 33, J 34, J 35, J 36, J 37, J 38, J 39, J 40, J 41, J 42, J 43, J 44, J 45, J 46, J 47, J 48, J 49, J 50, J 51, J 52, J 53, J 54, J 55, J 56, J 57, J 58, J 59, J 60, J 61, J 62, J 63, J 64, J 65, J 66, J 67, J 68, J 69, J 70, J 71, J 72, J 73, J 74, J 75, J 76, J 77, J 78, J 79, J 80, J 81, J 82, J 83, J 84, J 85, J 86, J 87, J 88, J 89, J 90, J 91, J 92, J 93, J 94, J 95, J 96, J 97, J 98, J 99, J 100, J 101, J 102, J 103, J 104, J 105, J 106, J 107, J 108, J 109, J 110, J 111, J 112, J 113, J 114, J 115, J 116, J 117, J 118, J 119, J 120, J 121, J 122, J 123, J 124, J 125, J 126, J 127, J 128, J 129, J 130, J 131, J 132, J 133, J 134, J 135, J 136, J 137, J 138, J 139, J 140, J 141, J 142, J 143, J 144, J 145, J 146, J 147, J 148, J 149, J 150, J 151, J 152, J 153, J 154], defers := ds }
def Fr2 (most : Nat) (a1 : Option Addr) (len1 cap1 : Nat) (stop : Int) (w : World) (c kb vb sb tb nb : Nat) (x : Nat × Int) (a : Act) : Prop := ∃ J : Nat → Value, a = { tmps := #[.int .i64 ↑most, .slice a1 len1 cap1, .int .i64 stop, J 3, J 4, .pointer (some ⟨w.heap.size, 0, none⟩), .pointer (some ⟨w.heap.size + 1, 0, none⟩), .pointer (some ⟨c, 0, none⟩), J 8, J 9, .pointer (some ⟨kb, 0, none⟩), .pointer (some ⟨vb, 0, none⟩), .pointer (some ⟨sb, 0, none⟩), J 13, J 14, .pointer (some ⟨tb, 0, none⟩), .pointer (some ⟨nb, 0, none⟩), .int .u64 x.1, .int .i64 x.2, J 19, J 20, J 21, J 22, J 23, J 24, J 25, J 26, J 27, J 28, J 29, J 30, J 31, J 32, J 33, J 34, J 35, J 36, J 37, J 38, J 39, J 40, J 41, J 42, J 43, J 44, J 45, J 46, J 47, J 48, J 49, J 50, J 51, J 52, J 53, J 54, J 55, J 56, J 57, J 58, J 59, J 60, J 61, J 62, J 63, J 64, J 65, J 66, J 67, J 68, J 69, J 70, J 71, J 72, J 73, J 74, J 75, J 76, J 77, J 78, J 79, J 80, J 81, J 82, J 83, J 84, J 85, J 86, J 87, J 88, J 89, J 90, J 91, J 92, J 93, J 94, J 95, J 96, J 97, J 98, J 99, J 100, J 101, J 102, J 103, J 104, J 105, J 106, J 107, J 108, J 109, J 110, J 111, J 112, J 113, J 114, J 115, J 116, J 117, J 118, J 119, J 120, J 121, J 122, J 123, J 124, J 125, J 126, J 127, J 128, J 129, J 130, J 131, J 132, J 133, J 134, J 135, J 136, J 137, J 138, J 139, J 140, J 141, J 142, J 143, J 144, J 145, J 146, J 147, J 148, J 149, J 150, J 151, J 152, J 153, J 154], defers := [] }
def Fr3 (most : Nat) (a1 : Option Addr) (len1 cap1 : Nat) (stop : Int) (w : World) (c kb vb sb tb nb mb : Nat) (x y : Nat × Int) (a : Act) : Prop := ∃ J : Nat → Value, a = { tmps := #[.int .i64 ↑most, .slice a1 len1 cap1, .int .i64 stop, J 3, J 4, .pointer (some ⟨w.heap.size, 0, none⟩), .pointer (some ⟨w.heap.size + 1, 0, none⟩), .pointer (some ⟨c, 0, none⟩), J 8, J 9, .pointer (some ⟨kb, 0, none⟩), .pointer (some ⟨vb, 0, none⟩), .pointer (some ⟨sb, 0, none⟩), J 13, J 14, .pointer (some ⟨tb, 0, none⟩), .pointer (some ⟨nb, 0, none⟩), .int .u64 x.1, .int .i64 x.2, .pointer (some ⟨mb, 0, none⟩), .int .u64 y.1, .int .i64 y.2, J 22, J 23, J 24, J 25, J 26, J 27, J 28, J 29, J 30, J 31, J 32, J 33, J 34, J 35, J 36, J 37, J 38, J 39, J 40, J 41, J 42, J 43, J 44, J 45, J 46, J 47, J 48, J 49, J 50, J 51, J 52, J 53, J 54, J 55, J 56, J 57, J 58, J 59, J 60, J 61, J 62, J 63, J 64, J 65, J 66, J 67, J 68, J 69, J 70, J 71, J 72, J 73, J 74, J 75, J 76, J 77, J 78, J 79, J 80, J 81, J 82, J 83, J 84, J 85, J 86, J 87, J 88, J 89, J 90, J 91, J 92, J 93, J 94, J 95, J 96, J 97, J 98, J 99, J 100, J 101, J 102, J 103, J 104, J 105, J 106, J 107, J 108, J 109, J 110, J 111, J 112, J 113, J 114, J 115, J 116, J 117, J 118, J 119, J 120, J 121, J 122, J 123, J 124, J 125, J 126, J 127, J 128, J 129, J 130, J 131, J 132, J 133, J 134, J 135, J 136, J 137, J 138, J 139, J 140, J 141, J 142, J 143, J 144, J 145, J 146, J 147, J 148, J 149, J 150, J 151, J 152, J 153, J 154], defers := [] }

set_option maxRecDepth 100000
theorem Fr1.of {most : Nat} {a1 : Option Addr} {len1 cap1 : Nat} {stop : Int} {w : World} {c kb vb sb tb : Nat} {A : Array Value} {ds : List Deferred} (h : A = #[.int .i64 ↑most, .slice a1 len1 cap1, .int .i64 stop, A.getD 3 undef, A.getD 4 undef, .pointer (some ⟨w.heap.size, 0, none⟩), .pointer (some ⟨w.heap.size + 1, 0, none⟩), .pointer (some ⟨c, 0, none⟩), A.getD 8 undef, A.getD 9 undef, .pointer (some ⟨kb, 0, none⟩), .pointer (some ⟨vb, 0, none⟩), .pointer (some ⟨sb, 0, none⟩), A.getD 13 undef, A.getD 14 undef, .pointer (some ⟨tb, 0, none⟩), A.getD 16 undef, A.getD 17 undef, A.getD 18 undef, A.getD 19 undef, A.getD 20 undef, A.getD 21 undef, A.getD 22 undef, A.getD 23 undef, A.getD 24 undef, A.getD 25 undef, A.getD 26 undef, A.getD 27 undef, A.getD 28 undef, A.getD 29 undef, A.getD 30 undef, A.getD 31 undef, A.getD 32 undef, A.getD 33 undef, A.getD 34 undef, A.getD 35 undef, A.getD 36 undef, A.getD 37 undef, A.getD 38 undef, A.getD 39 undef, A.getD 40 undef, A.getD 41 undef, A.getD 42 undef, A.getD 43 undef, A.getD 44 undef, A.getD 45 undef, A.getD 46 undef, A.getD 47 undef, A.getD 48 undef, A.getD 49 undef, A.getD 50 undef, A.getD 51 undef, A.getD 52 undef, A.getD 53 undef, A.getD 54 undef, A.getD 55 undef, A.getD 56 undef, A.getD 57 undef, A.getD 58 undef, A.getD 59 undef, A.getD 60 undef, A.getD 61 undef, A.getD 62 undef, A.getD 63 undef, A.getD 64 undef, A.getD 65 undef, A.getD 66 undef, A.getD 67 undef, A.getD 68 undef, A.getD 69 undef, A.getD 70 undef, A.getD 71 undef, A.getD 72 undef, A.getD 73 undef, A.getD 74 undef, A.getD 75 undef, A.getD 76 undef, A.getD 77 undef, A.getD 78 undef, A.getD 79 undef, A.getD 80 undef, A.getD 81 undef, A.getD 82 undef, A.getD 83 undef, A.getD 84 undef, A.getD 85 undef, A.getD 86 undef, A.getD 87 undef, A.getD 88 undef, A.getD 89 undef, A.getD 90 undef, A.getD 91 undef, A.getD 92 undef, A.getD 93 undef, A.getD 94 undef, A.getD 95 undef, A.getD 96 undef, A.getD 97 undef, A.getD 98 undef, A.getD 99 undef, A.getD 100 undef, A.getD 101 undef, A.getD 102 undef, A.getD 103 undef, A.getD 104 undef, A.getD 105 undef, A.getD 106 undef, A.getD 107 undef, A.getD 108 undef, A.getD 109 undef, A.getD 110 undef, A.getD 111 undef, A.getD 112 undef, A.getD 113 undef, A.getD 114 undef, A.getD 115 undef, A.getD 116 undef, A.getD 117 undef, A.getD 118 undef, A.getD 119 undef, A.getD 120 undef, A.getD 121 undef, A.getD 122 undef, A.getD 123 undef, A.getD 124 undef, A.getD 125 undef, A.getD 126 undef, A.getD 127 undef, A.getD 128 undef, A.getD 129 undef, A.getD 130 undef, A.getD 131 undef, A.getD 132 undef, A.getD 133 undef, A.getD 134 undef, A.getD 135 undef, A.getD 136 undef, A.getD 137 undef, A.getD 138 undef, A.getD 139 undef, A.getD 140 undef, A.getD 141 undef, A.getD 142 undef, A.getD 143 undef, A.getD 144 undef, A.getD 145 undef, A.getD 146 undef, A.getD 147 undef, A.getD 148 undef, A.getD 149 undef, A.getD 150 undef, A.getD 151 undef, A.getD 152 undef, A.getD 153 undef, A.getD 154 undef]) : Fr1 most a1 len1 cap1 stop w c kb vb sb tb { tmps := A, defers := ds } ds := ⟨fun i => A.getD i undef, congrArg (fun x => (⟨x, ds⟩ : Act)) h⟩
theorem Fr2.of {most : Nat} {a1 : Option Addr} {len1 cap1 : Nat} {stop : Int} {w : World} {c kb vb sb tb nb : Nat} {x : Nat × Int} {A : Array Value} (h : A = #[.int .i64 ↑most, .slice a1 len1 cap1, .int .i64 stop, A.getD 3 undef, A.getD 4 undef, .pointer (some ⟨w.heap.size, 0, none⟩), .pointer (some ⟨w.heap.size + 1, 0, none⟩), .pointer (some ⟨c, 0, none⟩), A.getD 8 undef, A.getD 9 undef, .pointer (some ⟨kb, 0, none⟩), .pointer (some ⟨vb, 0, none⟩), .pointer (some ⟨sb, 0, none⟩), A.getD 13 undef, A.getD 14 undef, .pointer (some ⟨tb, 0, none⟩), .pointer (some ⟨nb, 0, none⟩), .int .u64 x.1, .int .i64 x.2, A.getD 19 undef, A.getD 20 undef, A.getD 21 undef, A.getD 22 undef, A.getD 23 undef, A.getD 24 undef, A.getD 25 undef, A.getD 26 undef, A.getD 27 undef, A.getD 28 undef, A.getD 29 undef, A.getD 30 undef, A.getD 31 undef, A.getD 32 undef, A.getD 33 undef, A.getD 34 undef, A.getD 35 undef, A.getD 36 undef, A.getD 37 undef, A.getD 38 undef, A.getD 39 undef, A.getD 40 undef, A.getD 41 undef, A.getD 42 undef, A.getD 43 undef, A.getD 44 undef, A.getD 45 undef, A.getD 46 undef, A.getD 47 undef, A.getD 48 undef, A.getD 49 undef, A.getD 50 undef, A.getD 51 undef, A.getD 52 undef, A.getD 53 undef, A.getD 54 undef, A.getD 55 undef, A.getD 56 undef, A.getD 57 undef, A.getD 58 undef, A.getD 59 undef, A.getD 60 undef, A.getD 61 undef, A.getD 62 undef, A.getD 63 undef, A.getD 64 undef, A.getD 65 undef, A.getD 66 undef, A.getD 67 undef, A.getD 68 undef, A.getD 69 undef, A.getD 70 undef, A.getD 71 undef, A.getD 72 undef, A.getD 73 undef, A.getD 74 undef, A.getD 75 undef, A.getD 76 undef, A.getD 77 undef, A.getD 78 undef, A.getD 79 undef, A.getD 80 undef, A.getD 81 undef, A.getD 82 undef, A.getD 83 undef, A.getD 84 undef, A.getD 85 undef, A.getD 86 undef, A.getD 87 undef, A.getD 88 undef, A.getD 89 undef, A.getD 90 undef, A.getD 91 undef, A.getD 92 undef, A.getD 93 undef, A.getD 94 undef, A.getD 95 undef, A.getD 96 undef, A.getD 97 undef, A.getD 98 undef, A.getD 99 undef, A.getD 100 undef, A.getD 101 undef, A.getD 102 undef, A.getD 103 undef, A.getD 104 undef, A.getD 105 undef, A.getD 106 undef, A.getD 107 undef, A.getD 108 undef, A.getD 109 undef, A.getD 110 undef, A.getD 111 undef, A.getD 112 undef, A.getD 113 undef, A.getD 114 undef, A.getD 115 undef, A.getD 116 undef, A.getD 117 undef, A.getD 118 undef, A.getD 119 undef, A.getD 120 undef, A.getD 121 undef, A.getD 122 undef, A.getD 123 undef, A.getD 124 undef, A.getD 125 undef, A.getD 126 undef, A.getD 127 undef, A.getD 128 undef, A.getD 129 undef, A.getD 130 undef, A.getD 131 undef, A.getD 132 undef, A.getD 133 undef, A.getD 134 undef, A.getD 135 undef, A.getD 136 undef, A.getD 137 undef, A.getD 138 undef, A.getD 139 undef, A.getD 140 undef, A.getD 141 undef, A.getD 142 undef, A.getD 143 undef, A.getD 144 undef, A.getD 145 undef, A.getD 146 undef, A.getD 147 undef, A.getD 148 undef, A.getD 149 undef, A.getD 150 undef, A.getD 151 undef, A.getD 152 undef, A.getD 153 undef, A.getD 154 undef]) : Fr2 most a1 len1 cap1 stop w c kb vb sb tb nb x { tmps := A, defers := [] } := ⟨fun i => A.getD i undef, congrArg (fun x => (⟨x, []⟩ : Act)) h⟩
theorem Fr3.of {most : Nat} {a1 : Option Addr} {len1 cap1 : Nat} {stop : Int} {w : World} {c kb vb sb tb nb mb : Nat} {x y : Nat × Int} {A : Array Value} (h : A = #[.int .i64 ↑most, .slice a1 len1 cap1, .int .i64 stop, A.getD 3 undef, A.getD 4 undef, .pointer (some ⟨w.heap.size, 0, none⟩), .pointer (some ⟨w.heap.size + 1, 0, none⟩), .pointer (some ⟨c, 0, none⟩), A.getD 8 undef, A.getD 9 undef, .pointer (some ⟨kb, 0, none⟩), .pointer (some ⟨vb, 0, none⟩), .pointer (some ⟨sb, 0, none⟩), A.getD 13 undef, A.getD 14 undef, .pointer (some ⟨tb, 0, none⟩), .pointer (some ⟨nb, 0, none⟩), .int .u64 x.1, .int .i64 x.2, .pointer (some ⟨mb, 0, none⟩), .int .u64 y.1, .int .i64 y.2, A.getD 22 undef, A.getD 23 undef, A.getD 24 undef, A.getD 25 undef, A.getD 26 undef, A.getD 27 undef, A.getD 28 undef, A.getD 29 undef, A.getD 30 undef, A.getD 31 undef, A.getD 32 undef, A.getD 33 undef, A.getD 34 undef, A.getD 35 undef, A.getD 36 undef, A.getD 37 undef, A.getD 38 undef, A.getD 39 undef, A.getD 40 undef, A.getD 41 undef, A.getD 42 undef, A.getD 43 undef, A.getD 44 undef, A.getD 45 undef, A.getD 46 undef, A.getD 47 undef, A.getD 48 undef, A.getD 49 undef, A.getD 50 undef, A.getD 51 undef, A.getD 52 undef, A.getD 53 undef, A.getD 54 undef, A.getD 55 undef, A.getD 56 undef, A.getD 57 undef, A.getD 58 undef, A.getD 59 undef, A.getD 60 undef, A.getD 61 undef, A.getD 62 undef, A.getD 63 undef, A.getD 64 undef, A.getD 65 undef, A.getD 66 undef, A.getD 67 undef, A.getD 68 undef, A.getD 69 undef, A.getD 70 undef, A.getD 71 undef, A.getD 72 undef, A.getD 73 undef, A.getD 74 undef, A.getD 75 undef, A.getD 76 undef, A.getD 77 undef, A.getD 78 undef, A.getD 79 undef, A.getD 80 undef, A.getD 81 undef, A.getD 82 undef, A.getD 83 undef, A.getD 84 undef, A.getD 85 undef, A.getD 86 undef, A.getD 87 undef, A.getD 88 undef, A.getD 89 undef, A.getD 90 undef, A.getD 91 undef, A.getD 92 undef, A.getD 93 undef, A.getD 94 undef, A.getD 95 undef, A.getD 96 undef, A.getD 97 undef, A.getD 98 undef, A.getD 99 undef, A.getD 100 undef, A.getD 101 undef, A.getD 102 undef, A.getD 103 undef, A.getD 104 undef, A.getD 105 undef, A.getD 106 undef, A.getD 107 undef, A.getD 108 undef, A.getD 109 undef, A.getD 110 undef, A.getD 111 undef, A.getD 112 undef, A.getD 113 undef, A.getD 114 undef, A.getD 115 undef, A.getD 116 undef, A.getD 117 undef, A.getD 118 undef, A.getD 119 undef, A.getD 120 undef, A.getD 121 undef, A.getD 122 undef, A.getD 123 undef, A.getD 124 undef, A.getD 125 undef, A.getD 126 undef, A.getD 127 undef, A.getD 128 undef, A.getD 129 undef, A.getD 130 undef, A.getD 131 undef, A.getD 132 undef, A.getD 133 undef, A.getD 134 undef, A.getD 135 undef, A.getD 136 undef, A.getD 137 undef, A.getD 138 undef, A.getD 139 undef, A.getD 140 undef, A.getD 141 undef, A.getD 142 undef, A.getD 143 undef, A.getD 144 undef, A.getD 145 undef, A.getD 146 undef, A.getD 147 undef, A.getD 148 undef, A.getD 149 undef, A.getD 150 undef, A.getD 151 undef, A.getD 152 undef, A.getD 153 undef, A.getD 154 undef]) : Fr3 most a1 len1 cap1 stop w c kb vb sb tb nb mb x y { tmps := A, defers := [] } := ⟨fun i => A.getD i undef, congrArg (fun x => (⟨x, []⟩ : Act)) h⟩
def Turn (w w6 : World) (FB : List Nat) (most : Nat) (a1 : Option Addr) (len1 cap1 : Nat) (stop : Int) (c kb vb sb b s n e : Nat) (m : Nat) (a : Act) (W : World) : Prop :=
  ∃ (turn tb : Nat) (Ds : List Nat) (t : LawC.Tbl n most e), turn + m = 4 ∧ m ≠ 0 ∧ Fr1 most a1 len1 cap1 stop w c kb vb sb tb a (LawC.marksOf Ds) ∧ Hid (LawC.St w w6 FB b s [(tb, 3, .int .i64 turn), (w.heap.size + 1, 4, .bool false)] Ds t W)

/-- What no turn changes. -/
structure Konst (w W : World) (c b kb vb sb ib : Nat) (stop : Int) (lv : Value) (L : List (Nat × Int)) (ka va : Option Addr) (kc vc : Nat) : Prop where
  x : Boxed W c 24 (.pointer (some ⟨b, 0, none⟩))
  k : Boxed W kb 23 (.slice ka L.length kc)
  v : Boxed W vb 36 (.slice va L.length vc)
  st : Boxed W w.heap.size 3 (.int .i64 stop)
  sq : Boxed W sb 55 (.func (.func 45) #[] #[.pointer (some ⟨ib, 0, none⟩)])
  bib : Boxed W ib 65 lv
  row : Row3 W (ib + 1) lv L
  ek : ∀ i (hi : i < L.length), ∃ g, ka = some ⟨g, 0, none⟩ ∧ W.cell? ⟨g, i, none⟩ = some (.int .u64 L[i].1)
  ev : ∀ i (hi : i < L.length), ∃ g, va = some ⟨g, 0, none⟩ ∧ W.cell? ⟨g, i, none⟩ = some (.int .i64 L[i].2)

set_option maxRecDepth 100000 in
set_option maxHeartbeats 2000000 in
theorem walkSmall (most : Nat) (a1 : Option Addr) (len1 cap1 : Nat) (stop : Int) (w : World) (hn : most ≤ 4096) (w1 : LawC.StepsAt w a1 len1) :
    Calls Try.prog 7 #[.int .i64 most, .slice a1 len1 cap1, .int .i64 stop] w fun e w' => e = .returned (.bool true) ∧ Below w.heap.size w w' := by
  have HK := hid (fun wx => LawA.known_c wx)
  have HN := hid (fun wx => IdxI.new_c most wx (by omega))
  obtain ⟨f1, g1⟩ := w1.fn
  have R1 := hid g1
  have hl1 : len1 ≤ 9223372036854775807 := by have := w1.1; unfold maxLen at this; omega
  clear w1 g1
  refine (callsIn_wide (n := 9)).1 ?_
  refine callsIn_of_wp_marks Try.func7 rfl trivial ?_ rfl
  simp only [Try.ntmps7, List.size_toArray, List.length_cons, List.length_nil, Nat.reduceAdd, Nat.reduceSub, Array.replicate_succ, Array.replicate_zero, List.push_toArray, List.append_toArray, List.nil_append, List.cons_append]
  refine wpIn_wide.2 ?_
  go_upto_block 0 with (first | (go_at_call 14; refine (HK.out _).mono ?_; rintro e w1 ⟨rfl, fr0⟩) | (go_at_call 10; refine (HN.out _).mono ?_; rintro e w2 ⟨rfl, n, ee, F, I, fr, hsz⟩))
  have hz := fr0.size
  have hs1 : w.heap.size + 2 ≤ w1.heap.size := by simpa using hz
  have hB2 : Below w.heap.size w w2 := (((Below.refl _ w).alloc (Nat.le_refl _) _).alloc (by simp only [alloc_size]; omega) _).trans (((fr0.trans fr).below (B := w.heap.size) (by simp only [alloc_size]; omega) (by simp)))
  have hb5 : Boxed w2 w.heap.size 3 (.int .i64 stop) := by
    have h0 : Boxed ((w.alloc (.cells #[.int .i64 stop] 3)).alloc (.cells #[.bool false] 4)) w.heap.size 3 (.int .i64 stop) := (Boxed.new w 3 (.int .i64 stop)).alloc _
    exact ((fr0.trans fr).block _ h0.lt (by simp)).trans h0
  have hb6 : Boxed w2 (w.heap.size + 1) 4 (.bool false) := by
    have h0 := Boxed.new (w.alloc (.cells #[.int .i64 stop] 3)) 4 (.bool false)
    rw [World.size_alloc] at h0
    exact ((fr0.trans fr).block _ h0.lt (by simp)).trans h0
  obtain ⟨wa, hwa⟩ : ∃ wa, wa = w2.alloc (.cells #[.pointer (some ⟨w1.heap.size + 1, 0, none⟩)] 24) := ⟨_, rfl⟩
  rw [← hwa]
  have M0 : Hid (LawC.Walk w wa (w1.heap.size + 1) w1.heap.size (w1.heap.size + 2) stop (LawC.tbl0 F)) := by
    rw [hwa]
    have h0 := Boxed.new w2 24 (.pointer (some ⟨w1.heap.size + 1, 0, none⟩))
    rw [hsz] at h0
    exact ⟨hB2.alloc hB2.size _, IdxAt.of_blocks I (Below.heap_alloc _ _ _ I.lb) (Below.heap_alloc _ _ _ I.ls), by omega, hb5.alloc _, hb6.alloc _, h0⟩
  generalize LawC.tbl0 F = t00 at M0
  clear hb5 hb6 hB2 I F fr fr0 HK HN hsz hz hwa hs1
  generalize w1.heap.size = s at *
  generalize s + 1 = b at *
  generalize s + 2 = c at *
  go_cut [9] from 41 to 56 (fun _ wx => ∃ t, Hid (LawC.Walk w wx b s c stop (t : LawC.Tbl n most ee)))
  case rest =>
    obtain ⟨t, M⟩ := hcut
    have HA := hid (fun (wx : World) (hx : LawC.Holds wx b s t) => IdxI.all_c hx t.ok.fit.geo t.ok.int)
    have xc := M.out.b7.cell
    have hcl := M.out.b7.lt
    go_wp2_with fail
    obtain ⟨w3, hw3⟩ : ∃ w3, w3 = (wc.alloc (.cells #[.slice none 0 0] 23)).alloc (.cells #[.slice none 0 0] 36) := ⟨_, rfl⟩
    rw [← hw3]
    have hB3 : Below wc.heap.size wc w3 := by rw [hw3]; exact ((Below.refl _ _).alloc (Nat.le_refl _) _).alloc (by simp only [alloc_size]; omega) _
    have M3 := hid (M.out.later hB3)
    have hs3 : w3.heap.size = wc.heap.size + 2 := by rw [hw3]; simp
    have hk3 : Boxed w3 wc.heap.size 23 (.slice none 0 0) := by rw [hw3]; exact (Boxed.new wc 23 (.slice none 0 0)).alloc _
    have hv3 : Boxed w3 (wc.heap.size + 1) 36 (.slice none 0 0) := by rw [hw3]; have := Boxed.new (wc.alloc (.cells #[.slice none 0 0] 23)) 36 (.slice none 0 0); rwa [World.size_alloc] at this
    have HK3 := hid (And.intro hk3 hv3)
    have HS3 := hid hs3
    clear hk3 hv3 hB3 hw3 hs3
    refine (HA.out _ M3.out.hold).mono ?_
    rintro r w4 ⟨rfl, L, hS, hB4, hs4, lv, hbl, hrow⟩
    go_wp2_with fail
    obtain ⟨w5, hw5⟩ : ∃ w5, w5 = w4.alloc (.cells #[.func (.func 45) #[] #[.pointer (some ⟨w3.heap.size, 0, none⟩)]] 55) := ⟨_, rfl⟩
    rw [← hw5]
    have hs3 := HS3.out
    have hlen : L.length = t.count := LawC.sorted_length t.ok hS
    have hcnt : t.count ≤ 4096 := by have := t.ok.le; omega
    have hB5 : Below w4.heap.size w4 w5 := by rw [hw5]; exact (Below.refl _ _).alloc (Nat.le_refl _) _
    have hs5 : w5.heap.size = w4.heap.size + 1 := by rw [hw5]; simp
    have hsb5 : Boxed w5 w4.heap.size 55 (.func (.func 45) #[] #[.pointer (some ⟨w3.heap.size, 0, none⟩)]) := by rw [hw5]; exact Boxed.new w4 _ _
    have hB35 : Below w3.heap.size w3 w5 := hB4.trans (hB5.mono (by omega))
    have M5 := hid (M3.out.later hB35)
    have hk5 : Boxed w5 wc.heap.size 23 (.slice none 0 0) := (hB35.block _ (by omega)).trans HK3.out.1
    have hv5 : Boxed w5 (wc.heap.size + 1) 36 (.slice none 0 0) := (hB35.block _ (by omega)).trans HK3.out.2
    have hb5 : Boxed w5 w3.heap.size 65 lv := (hB5.block _ hbl.lt).trans hbl
    have hrl : ∀ k, k ∈ rowBlk lv → w3.heap.size < k ∧ k < w4.heap.size := by
      intro k hk
      rcases hrow with ⟨_, rfl⟩ | ⟨gg, cap, rfl, h1, h2, _, _⟩
      · simp [rowBlk] at hk
      · simp [rowBlk] at hk; subst hk; omega
    have hr5 : Row3 w5 (w3.heap.size + 1) lv L := hrow.of_blocks (fun k hk => hB5.block k (hrl k hk).2) hB5.size
    have hs3' : wc.heap.size + 1 < w3.heap.size := by omega
    have hs5' : w4.heap.size < w5.heap.size := by omega
    clear hw5 hbl hrow hB4 hB5 hB35 M M3 HK3 HA xc hs3 hs5 HS3
    have hseq := IdxI.iter_stops Fence.wide 8 trivial rfl (by omega) w3.heap.size (w3.heap.size + 1) lv L (by omega) w5 hb5 hr5 (fun k hk => by have := (hrl k hk).2; omega)
    obtain ⟨i0, hi, hz0, hz1, hz2⟩ := info_parts (show (Try.prog.info? 30).map (fun i => (i.zero, i.size, i.bytes)) = some (some (.int .u64 0), 1, 8) by kernel_rfl)
    obtain ⟨j0, hj, hy0, hy1, hy2⟩ := info_parts (show (Try.prog.info? 3).map (fun i => (i.zero, i.size, i.bytes)) = some (some (.int .i64 0), 1, 8) by kernel_rfl)
    refine (wpIn_wide (n := 9)).1 ?_
    refine wpIn_rangeFunc_ownG (n := 9) (F := Fence.wide) rfl (by omega) (gf := 45) (lb := #[.pointer (some ⟨w3.heap.size, 0, none⟩)]) rfl trivial (enters_of Try.func45 (by kernel_rfl) rfl) hseq KpB.t (KpB.b (by intro k hk; rcases List.mem_cons.1 hk with rfl | hk; exact hb5.lt; have := (hrl k hk).2; omega)) (Below.refl _ _) (fun _ => rfl)
      (fun pre W => Frm [wc.heap.size, wc.heap.size + 1] w5 W ∧ ∃ kv vv, Boxed W wc.heap.size 23 kv ∧ Boxed W (wc.heap.size + 1) 36 vv ∧ W.ownsRow w5.heap.size 30 1 kv pre.length (Ref.kxs pre) ∧ W.ownsRow w5.heap.size 3 1 vv pre.length (Ref.vxs pre))
      (fun c pre W => False) ?hI ?hIx ?h0
      (fun x => { tmps := #[.int .i64 ↑most, .slice a1 len1 cap1, .int .i64 stop, undef, undef, .pointer (some ⟨w.heap.size, 0, none⟩), .pointer (some ⟨w.heap.size + 1, 0, none⟩), .pointer (some ⟨c, 0, none⟩), .int .i64 0, u9, .pointer (some ⟨wc.heap.size, 0, none⟩), .pointer (some ⟨wc.heap.size + 1, 0, none⟩), .pointer (some ⟨w4.heap.size, 0, none⟩), .int .u64 x.1, .int .i64 x.2, undef, undef, undef, undef, undef, undef, undef, .bool true, .bool false, .int .i64 ↑most, .bool (decide ((most : Int) < 0)), .bool (decide ((most : Int) < 0)), .int .i64 ↑most, .bool (decide (4096 < (most : Int))), .bool (decide ((most : Int) < 0) || decide (4096 < (most : Int))), .tuple #[.pointer (some ⟨b, 0, none⟩), .int .i64 0], .int .i64 ↑most, .tuple #[.pointer (some ⟨b, 0, none⟩), .int .i64 0], .pointer (some ⟨b, 0, none⟩), .int .i64 0, .int .i64 0, .bool false, .bool false, .pointer (some ⟨b, 0, none⟩), .bool false, .bool false, u41, u42, u43, u44, u45, u46, u47, u48, u49, u50, u51, u52, u53, u54, u55, u56, .pointer (some ⟨b, 0, none⟩), .func (.func 45) #[] #[.pointer (some ⟨w3.heap.size, 0, none⟩)], .func (.func 45) #[] #[.pointer (some ⟨w3.heap.size, 0, none⟩)], .int .u64 x.1, .int .i64 x.2, undef, undef, undef, undef, undef, undef, undef, undef, undef, undef, undef, undef, undef, undef, undef, undef, undef, undef, undef, undef, undef, undef, undef, undef, undef, undef, undef, undef, undef, undef, undef, undef, undef, undef, undef, undef, undef, undef, undef, undef, undef, undef, undef, undef, undef, undef, undef, undef, undef, undef, undef, undef, undef, undef, undef, undef, undef, undef, undef, undef, undef, undef, undef, undef, undef, undef, undef, undef, undef, undef, undef, undef, undef, undef, undef, undef, undef, undef, undef, undef, undef, undef, undef, undef, undef, undef, undef, undef, undef, undef, undef, undef, undef], defers := [] }) ?assign ?body ?done ?stop
    case hI =>
      rintro pre W W' row ⟨i1, kv, vv, i2, i3, i4, i5⟩ hg hr
      have hr' : ∀ r, row = some r → ∃ o : Obj, W.heap[r]? = some o ∧ o.isCells = false := fun r e => (hr r e).2
      exact ⟨LawC.frm_grown i1 hg (fun r e => (hr r e).1), kv, vv, LawC.boxed_grown i2 hg hr', LawC.boxed_grown i3 hg hr', LawC.own_grown i4 hg hr', LawC.own_grown i5 hg hr'⟩
    case hIx => exact fun c pre W W' row hs hg hr => hs
    case h0 => exact ⟨Frm.refl _ _, _, _, hk5, hv5, World.ownsRow_nil .., World.ownsRow_nil ..⟩
    case assign => intro l x W K hK; gi_wp2; exact hK
    case body =>
      rintro l pre x W ⟨i1, kv, vv, i2, i3, i4, i5⟩ hlt
      clear hseq
      have hsz := i1.size
      have kc := i2.cell
      have kf := i2.frozen
      have vc := i3.cell
      have vf := i3.frozen
      have hkl := i2.lt
      have hvl := i3.lt
      have I2 := hid i2
      have I3 := hid i3
      have I4 := hid i4
      have I5 := hid i5
      have I1 := hid i1
      have C3 := hid (show pre.length + 1 ≤ maxLen by unfold maxLen; omega)
      have C4 := hid (show (pre.length + 1) * 8 ≤ 140737488355328 by omega)
      clear i1 i2 i3 i4 i5
      gi_wp2_with (first
        | (gi_at_builtin; refine wpListIn_append_own _ rfl _ _ 23 rfl w5.heap.size 30 i0 (.int .u64 0) 1 8 Try.underlying23 hi hz0 hz1 hz2 rfl (by decide) _ _ _ rfl (I4.out.alloc _) ⟨W.heap.size, 0, none⟩ 1 1 [.int .u64 x.1] rfl rfl (IdxI.cells_new _ [.int .u64 x.1] _ _ rfl) (by intro u hu; simp at hu; subst hu; rfl) C3.out C4.out (by simp; omega) ?_; intro v1 w1 hown1 hgrow1 hnil1; obtain ⟨g1, cap1, rfl⟩ := ownsRow_succ hown1; obtain ⟨⟨y1, z1⟩, y2, y3, y4, y5, y6, y7, y8⟩ := LawC.two_boxes I1.out I2.out I3.out (by omega) (by simp) (by omega) (by omega) (by decide) (by decide) (by decide) I4.out I5.out hown1 hgrow1; have kc1 := y1.cell; have kf1 := y1.frozen; have vc1 := z1.cell; have vf1 := z1.frozen; have y9 := z1.lt; have Y2 := hid y2; have Y3 := hid y3; have Y4 := hid y4; have Y5 := hid y5; have Y6 := hid y6; have Y7 := hid y7; clear z1 y1 y2 y3 y4 y5 y6 y7 hown1 hgrow1 hnil1)
        | (gi_at_builtin; refine wpListIn_append_own _ rfl _ _ 36 rfl w5.heap.size 3 j0 (.int .i64 0) 1 8 Try.underlying36 hj hy0 hy1 hy2 rfl (by decide) _ _ _ rfl (Y5.out.alloc _) ⟨w1.heap.size, 0, none⟩ 1 1 [.int .i64 x.2] rfl rfl (IdxI.cells_new _ [.int .i64 x.2] _ _ (by simp)) (by intro u hu; simp at hu; subst hu; rfl) C3.out C4.out (by simp; omega) ?_; intro v2 w2 hown2 hgrow2 hnil2; obtain ⟨g2, cap2, rfl⟩ := ownsRow_succ hown2; obtain ⟨⟨y1, z1⟩, x2, x3, x4, x5, x6, x7, x8⟩ := LawC.two_boxes Y7.out Y4.out Y2.out (by omega) (by simp) (by omega) (by omega) (by decide) (by decide) (by decide) Y5.out Y3.out hown2 hgrow2; have kc2 := y1.cell; have kf2 := y1.frozen; have X2 := hid x2; have X3 := hid x3; have X4 := hid x4; have X5 := hid x5; have X6 := hid x6; have X7 := hid x7; clear z1 y1 x2 x3 x4 x5 x6 x7 hown2 hgrow2 hnil2))
      refine ⟨(Y6.out.trans X6.out).from _, fun k hk => ?_, X7.out, _, _, X4.out, X2.out, by rw [LawC.kxs_snoc]; simpa using X5.out, by rw [LawC.vxs_snoc]; simpa using X3.out⟩
      have hkb : k < w5.heap.size ∧ k ∉ [wc.heap.size, wc.heap.size + 1] := by
        rcases List.mem_cons.1 hk with rfl | hk
        · exact ⟨by omega, by simp; omega⟩
        · have := hrl k hk; exact ⟨by omega, by simp; omega⟩
      exact (X7.out.block k hkb.1 hkb.2).trans (I1.out.block k hkb.1 hkb.2).symm
    case done =>
      rintro D xs w6 hD rfl ⟨F6, kv, vv, hk6, hv6, hok6, hov6⟩ hDD
      have hsz6 := F6.size
      have hx6 : Boxed w6 c 24 (.pointer (some ⟨b, 0, none⟩)) := (F6.block _ (by have := M5.out.b7.lt; omega) (by simp; omega)).trans M5.out.b7
      have hst6 : Boxed w6 w.heap.size 3 (.int .i64 stop) := (F6.block _ M5.out.b5.lt (by have := M5.out.ord; simp; omega)).trans M5.out.b5
      have hr6 : Boxed w6 (w.heap.size + 1) 4 (.bool false) := (F6.block _ M5.out.b6.lt (by have := M5.out.ord; simp; omega)).trans M5.out.b6
      have hsb6 : Boxed w6 w4.heap.size 55 (.func (.func 45) #[] #[.pointer (some ⟨w3.heap.size, 0, none⟩)]) := (F6.block _ hsb5.lt (by simp; omega)).trans hsb5
      have hib6 : Boxed w6 w3.heap.size 65 lv := (F6.block _ hb5.lt (by simp; omega)).trans hb5
      have hr6' : Row3 w6 (w3.heap.size + 1) lv xs := hr5.of_blocks (fun k hk => F6.block k (by have := hrl k hk; omega) (by have := hrl k hk; simp; omega)) F6.size
      have hI6 : LawC.Holds w6 b s t := IdxAt.of_blocks M5.out.hold (F6.block _ (IdxAt.lb M5.out.hold) (by have := M5.out.ord; simp; omega)) (F6.block _ (IdxAt.ls M5.out.hold) (by have := M5.out.ord; simp; omega))
      have hbel6 : Below w.heap.size w w6 := M5.out.bel.trans (F6.below M5.out.bel.size (by have := M5.out.ord; simp; omega))
      have hord := M5.out.ord
      generalize hkb : wc.heap.size = kb at *
      generalize hvb : kb + 1 = vb at *
      generalize hsbq : w4.heap.size = sb at *
      generalize hibq : w3.heap.size = ib at *
      have hvb' : kb < vb := by omega
      clear hkb hvb hsbq hibq
      have HL := hid (fun (wx : World) (hx : LawC.Holds wx b s t) => IdxI.len_c hx)
      have HI6 := hid hI6
      have kc6 := hk6.cell
      have xc6 := hx6.cell
      obtain ⟨ka, kc, rfl, hka⟩ := Ref.own_form hok6
      obtain ⟨va, vc, rfl, hva⟩ := Ref.own_form hov6
      have HLN := hid hlen
      clear hseq hi hz0 hz1 hz2 hj hy0 hy1 hy2 hk5 hv5 hb5 hr5 hsb5 M5 M0
      rw [hlen] at kc6
      have hrk : ∀ k, k ∈ rowBlk (.slice ka xs.length kc) ++ rowBlk (.slice va xs.length vc) → w5.heap.size ≤ k := by
        intro k hk
        rcases List.mem_append.1 hk with hk | hk
        · rcases hok6.2 with ⟨e, _⟩ | ⟨g, cap, cur, e, h1, _⟩
          · simp only [Value.slice.injEq] at e; obtain ⟨rfl, _⟩ := e; simp [rowBlk] at hk
          · simp only [Value.slice.injEq] at e; obtain ⟨rfl, _⟩ := e; simp [rowBlk] at hk; omega
        · rcases hov6.2 with ⟨e, _⟩ | ⟨g, cap, cur, e, h1, _⟩
          · simp only [Value.slice.injEq] at e; obtain ⟨rfl, _⟩ := e; simp [rowBlk] at hk
          · simp only [Value.slice.injEq] at e; obtain ⟨rfl, _⟩ := e; simp [rowBlk] at hk; omega
      obtain ⟨FB, hFB⟩ : ∃ FB, FB = [c, kb, vb, w.heap.size, sb, ib] ++ (rowBlk lv ++ (rowBlk (.slice ka xs.length kc) ++ rowBlk (.slice va xs.length vc))) := ⟨_, rfl⟩
      have X : LawC.Fix w w6 FB b s := by
        refine ⟨fun k hk => ?_, by omega⟩
        rw [hFB] at hk
        simp only [List.mem_append, List.mem_cons, List.not_mem_nil, or_false] at hk
        have key : k ≠ b ∧ k ≠ s ∧ ∃ o : Obj, w6.heap[k]? = some o ∧ o.isCells = true := by
          rcases hk with (rfl | rfl | rfl | rfl | rfl | rfl) | hk | hk | hk
          · exact ⟨by omega, by omega, LawB.boxed_isCells hx6⟩
          · exact ⟨by omega, by omega, LawB.boxed_isCells hk6⟩
          · exact ⟨by omega, by omega, LawB.boxed_isCells hv6⟩
          · exact ⟨by omega, by omega, LawB.boxed_isCells hst6⟩
          · exact ⟨by omega, by omega, LawB.boxed_isCells hsb6⟩
          · exact ⟨by omega, by omega, LawB.boxed_isCells hib6⟩
          · have h1 := hrl k hk
            refine ⟨by omega, by omega, ?_⟩
            rcases hr6' with ⟨_, rfl⟩ | ⟨gg, cap, rfl, _, _, hne, hc⟩
            · simp [rowBlk] at hk
            · simp [rowBlk] at hk; subst hk
              exact cells_of_cell (hc 0 (by cases xs with | nil => exact absurd rfl hne | cons _ _ => simp)).1
          · have h1 := hrk k (List.mem_append_left _ hk)
            exact ⟨by omega, by omega, LawB.own_isCells hok6 k hk⟩
          · have h1 := hrk k (List.mem_append_right _ hk)
            exact ⟨by omega, by omega, LawB.own_isCells hov6 k hk⟩
        obtain ⟨q1, q2, o, q3, q4⟩ := key
        exact ⟨(Array.getElem?_eq_some_iff.1 q3).1, q1, q2, o, q3, q4⟩
      have Ko : Hid (∀ W, KpB FB w6 W → w6.heap.size ≤ W.heap.size → Konst w W c b kb vb sb ib stop lv xs ka va kc vc) := fun W hW hsW => by
        have m : ∀ k, k ∈ [c, kb, vb, w.heap.size, sb, ib] ++ (rowBlk lv ++ (rowBlk (.slice ka xs.length kc) ++ rowBlk (.slice va xs.length vc))) → W.heap[k]? = w6.heap[k]? := fun k hk => hW k (by rw [hFB]; exact hk)
        refine ⟨(m c (by simp)).trans hx6, (m kb (by simp)).trans hk6, (m vb (by simp)).trans hv6, (m _ (by simp)).trans hst6, (m sb (by simp)).trans hsb6, (m ib (by simp)).trans hib6, hr6'.of_blocks (fun k hk => m k (by simp [hk])) hsW, fun i hi => ?_, fun i hi => ?_⟩
        · obtain ⟨g, rfl⟩ := hka (by omega)
          refine ⟨g, rfl, ?_⟩
          rw [World.cell?_of_block (m g (by simp [rowBlk])), hok6.cellAt i (by omega)]; simp [Ref.kxs, hi]
        · obtain ⟨g, rfl⟩ := hva (by omega)
          refine ⟨g, rfl, ?_⟩
          rw [World.cell?_of_block (m g (by simp [rowBlk])), hov6.cellAt i (by omega)]; simp [Ref.vxs, hi]
      have hrb : ∀ k, k ∈ ib :: rowBlk lv → k ∈ FB := fun k hk => by rw [hFB]; rcases List.mem_cons.1 hk with rfl | hk; simp; simp [hk]
      have hRF : w.heap.size + 1 ∉ FB := fun hk => by
        rw [hFB] at hk
        simp only [List.mem_append, List.mem_cons, List.not_mem_nil, or_false] at hk
        rcases hk with hk | hk | hk | hk
        · omega
        · have h1 := hrl _ hk; omega
        · have h1 := hrk _ (List.mem_append_left _ hk); omega
        · have h1 := hrk _ (List.mem_append_right _ hk); omega
      have S6 : LawC.St w w6 FB b s [(w.heap.size + 1, 4, .bool false)] [D] t w6 :=
        ⟨fun _ _ => rfl, fun p hp => by simp at hp; subst hp; exact hr6, fun p hp => by simp at hp; subst hp; exact ⟨by simp, hRF, by simp only []; omega, by simp only []; omega⟩, by simp, hI6, hbel6, (LawC.Marks.nil _).cons hDD (by simp), fun k hk => by simp at hk; omega, Nat.le_refl _⟩
      have HS6 := hid S6
      have hcl6 := hx6.lt
      clear hFB hRF hrk hx6 hk6 hv6 hst6 hr6 hsb6 hib6 hok6 hov6 hr6' hI6 S6 hDD hka hva hbel6
      have HKX := hid X
      have HRB := hid hrb
      clear X hrb
      have hxl : xs.length ≤ 4096 := by omega
      clear hlen
      go_wp2_with fail
      go_quiet (first | (go_at_call 11; exact quietS (HL.out _ (IdxAt.drewN HI6.out _))))
      obtain ⟨w7, hw7⟩ : ∃ w7, w7 = w6.drewN nq := ⟨_, rfl⟩
      rw [← hw7]
      have S7 : Hid (LawC.St w w6 FB b s [(w.heap.size + 1, 4, .bool false)] [D] t w7) := by
        rw [hw7]; exact HS6.out.grown HKX.out (row := none) ⟨rfl, rfl, rfl, Nat.le_refl _, fun _ _ _ => rfl⟩ (fun r e => by cases e)
      clear hw7
      go_wp2_with fail
      have S8 := hid (S7.out.push HKX.out 3 (.int .i64 0))
      refine LawC.wp_loop_inv (Turn w w6 FB most a1 len1 cap1 stop c kb vb sb b s n ee) 4 ?start ?zero ?round
      case start => exact ⟨0, w7.heap.size, [D], t, rfl, by omega, Fr1.of rfl, S8⟩
      case zero => exact fun a W h => by obtain ⟨_, _, _, _, _, h, _⟩ := h; exact h rfl
      clear S8 S7 HS6 HI6 HL xc6 kc6
      case round =>
        rintro m a W ⟨turn, tb, Ds, t, hm, hm0, ⟨J, rfl⟩, hst⟩
        have K := Ko.out W hst.out.kp hst.out.sz
        have bt := hst.out.bx (tb, 3, .int .i64 turn) (by simp)
        have tc := bt.cell
        have tl := bt.lt
        have qc := K.sq.cell
        have ql := K.sq.lt
        clear bt K
        by_cases h3 : turn < 3
        · go_wp2_with fail
          have S8 := hid (hst.out.push HKX.out 3 (.int .i64 0))
          obtain ⟨w8, hw8⟩ : ∃ w8, w8 = W.alloc (.cells #[.int .i64 0] 3) := ⟨_, rfl⟩
          rw [← hw8] at S8 ⊢
          have hs8 : W.heap.size < w8.heap.size := by rw [hw8]; simp
          clear hw8
          generalize W.heap.size = nb at S8 hs8 tl ql ⊢
          have K8 := Ko.out w8 S8.out.kp S8.out.sz
          have hm8 : ∀ D, D ∈ Ds → D < w8.heap.size := fun D hD => (Array.getElem?_eq_some_iff.1 (S8.out.mks.at_ D hD)).1
          have hw8l : w.heap.size ≤ w8.heap.size := S8.out.bel.size
          have hib8 := K8.bib.lt
          have hrl8 : ∀ k, k ∈ rowBlk lv → k < w8.heap.size := fun k hk => by have := (hrl k hk).2; have := K8.sq.lt; omega
          have hseq8 := IdxI.iter_stops Fence.wide 8 trivial rfl (by omega) ib (ib + 1) lv xs (by omega) w8 K8.bib K8.row hrl8
          have HM8 := hid hm8
          clear K8 hm8
          refine (wpIn_wide (n := 9)).1 ?_
          refine wpIn_rangeFunc_ownH (n := 9) (F := Fence.wide) rfl (by omega) (gf := 45) (lb := #[.pointer (some ⟨ib, 0, none⟩)]) rfl trivial (enters_of Try.func45 (by kernel_rfl) rfl) hseq8 KpB.t (KpB.b (by intro k hk; rcases List.mem_cons.1 hk with rfl | hk; exact hib8; exact hrl8 k hk)) (Below.refl _ _) (fun _ => rfl)
            (fun pre W => (∃ t : LawC.Tbl n most ee, LawC.St w w6 FB b s [(nb, 3, .int .i64 pre.length), (tb, 3, .int .i64 turn), (w.heap.size + 1, 4, .bool false)] Ds t W) ∧ pre <+: xs)
            (fun c pre W => (c = .ret ∧ ¬ pre <+: xs) ∨ (c = .exit 6 ∧ turn = 0 ∧ ∃ t : LawC.Tbl n most ee, LawC.St w w6 FB b s [(nb, 3, .int .i64 pre.length), (tb, 3, .int .i64 turn), (w.heap.size + 1, 4, .bool false)] Ds t W))
            ?hI8 ?hIx8 ?h08
            (fun x a' _ => Fr2 most a1 len1 cap1 stop w c kb vb sb tb nb x a') (fun x a' _ _ _ _ hs _ _ => hs) ?assign8 ?body8 ?done8 ?stop8
          case hI8 => exact OwnFrom.and (LawC.St.own (f := fun pre : List (Nat × Int) => [(nb, 3, .int .i64 pre.length), (tb, 3, .int .i64 turn), (w.heap.size + 1, 4, .bool false)]) HKX.out hw8l HM8.out) (ownFrom_pure _ _)
          case hIx8 =>
            intro c pre W W' row hs hg hr
            rcases hs with hs | ⟨h1, h2, hs⟩
            · exact .inl hs
            · exact .inr ⟨h1, h2, LawC.St.own (f := fun pre : List (Nat × Int) => [(nb, 3, .int .i64 pre.length), (tb, 3, .int .i64 turn), (w.heap.size + 1, 4, .bool false)]) HKX.out hw8l HM8.out pre W W' row hs hg hr⟩
          case h08 => exact ⟨⟨t, S8.out⟩, List.nil_prefix⟩
          case assign8 =>
            intro l pre x W K hi hK
            gi_wp2
            exact hK _ _ (KeepsFrom.refl _ _) (fun _ _ => rfl) hi (Fr2.of rfl)
          case body8 =>
            rintro l pre x a' W hl ⟨r, hr⟩ ⟨⟨t, hst⟩, hpre⟩ ⟨J, rfl⟩ hlt
            have K := Ko.out W hst.kp hst.sz
            obtain ⟨gk, rfl, ek⟩ := K.ek pre.length hlt
            obtain ⟨gv, rfl, ev⟩ := K.ev pre.length hlt
            have kc := K.k.cell
            have vc := K.v.cell
            have qc := K.sq.cell
            have xc := K.x.cell
            have stc := K.st.cell
            have ql2 := K.sq.lt
            have xl2 := K.x.lt
            have bn := hst.bx (nb, 3, .int .i64 pre.length) (by simp)
            have nc := bn.cell
            have nf := bn.frozen
            have bt := hst.bx (tb, 3, .int .i64 turn) (by simp)
            have tc := bt.cell
            have br := hst.bx (w.heap.size + 1, 4, .bool false) (by simp)
            have rc := br.cell
            have rf := br.frozen
            have hpr := List.prefix_iff_eq_take.1 hpre
            have HST := hid hst
            have HKN := hid K
            have HPR := hid hpr
            have HHR := hid hr
            have HHP := hid hpre
            clear hst K bn bt br hpr hr hpre
            by_cases hx : x = xs[pre.length]
            · have hpx : Hid (pre ++ [x] <+: xs) := by
                rw [hx]
                have : pre ++ [xs[pre.length]] = xs.take (pre.length + 1) := by
                  rw [List.take_succ_eq_append_getElem hlt, ← HPR.out]
                rw [this]; exact hid (List.take_prefix _ _)
              have e1 : x.1 = xs[pre.length].1 := by rw [hx]
              have e2 : x.2 = xs[pre.length].2 := by rw [hx]
              rw [← e1] at ek
              rw [← e2] at ev
              clear e1 e2 hx
              gi_wp2_with fail
              have S9 := hid ((HST.out.set (.int .i64 ((pre.length : Int) + 1))).push HKX.out 3 (.int .i64 0))
              rw [show (W.setCell ⟨nb, 0, none⟩ (.int .i64 ((pre.length : Int) + 1))).heap.size = W.heap.size from by simp [World.setCell]] at S9
              obtain ⟨w9, hw9⟩ : ∃ w9, w9 = (W.setCell ⟨nb, 0, none⟩ (.int .i64 ((pre.length : Int) + 1))).alloc (.cells #[.int .i64 0] 3) := ⟨_, rfl⟩
              rw [← hw9] at S9 ⊢
              have KF9 : Hid (KeepsFrom w8.heap.size W w9) := by rw [hw9]; exact hid (((KeepsOthers.setCell _ _ _).from _).trans ((KeepsOthers.alloc _ _).from _))
              clear hw9
              generalize hmb : W.heap.size = mb at *
              have HMB := hid hmb
              clear hmb
              have K9 := Ko.out w9 S9.out.kp S9.out.sz
              have hr9 : w9.heap[l]? = some (.loop r) := KF9.out.same l _ hl HHR.out rfl
              have hm9 : Hid (∀ D, D ∈ Ds → D < w9.heap.size) := fun D hD => (Array.getElem?_eq_some_iff.1 (S9.out.mks.at_ D hD)).1
              have hw9l : w.heap.size ≤ w9.heap.size := S9.out.bel.size
              have hw89 : w8.heap.size ≤ w9.heap.size := by have := (Array.getElem?_eq_some_iff.1 hr9).1; omega
              have hib9 := K9.bib.lt
              have hrl9 : ∀ k, k ∈ rowBlk lv → k < w9.heap.size := fun k hk => by have := (hrl k hk).2; have := K9.sq.lt; omega
              have hseq9 := (IdxI.iter_stops Fence.wide 6 trivial rfl (by omega) ib (ib + 1) lv xs (by omega) w9 K9.bib K9.row hrl9).inRound l
              clear K9
              have hseq9' : SeqStopsK (Fence.wide.inRound l) (7 - 1) Try.prog 45 #[.pointer (some ⟨ib, 0, none⟩)] (fun x : Nat × Int => #[.int .u64 x.1, .int .i64 x.2]) (KpB (ib :: rowBlk lv)) (fun ys => ys = xs) (fun pre => pre <+: xs) xs.length w9 := hseq9
              refine wpIn_rangeFunc_ownN (n := 7) (F := Fence.wide.inRound l) (l₀ := l) (r₀ := r) (α := Nat × Int) (encs := fun x : Nat × Int => #[.int .u64 x.1, .int .i64 x.2]) (Kp := KpB (ib :: rowBlk lv)) (S := fun ys => ys = xs) (Sp := fun pre => pre <+: xs) (N := xs.length) (w0 := w9) rfl hr9 (by omega) (gf := 45) (lb := #[.pointer (some ⟨ib, 0, none⟩)]) rfl trivial (enters_of Try.func45 (by kernel_rfl) rfl) hseq9' KpB.t (KpB.b (by intro k hk; rcases List.mem_cons.1 hk with rfl | hk; exact hib9; exact hrl9 k hk)) (Below.refl _ _) (fun _ => rfl)
                (fun pre2 W2 => ((∃ t : LawC.Tbl n most ee, LawC.St w w6 FB b s [(mb, 3, .int .i64 pre2.length), (nb, 3, .int .i64 ((pre.length : Int) + 1)), (tb, 3, .int .i64 turn), (w.heap.size + 1, 4, .bool false)] Ds t W2) ∧ pre2 <+: xs) ∧ KeepsFrom w8.heap.size W W2)
                (fun c pre2 W2 => (c = .ret ∧ ¬ pre2 <+: xs ∧ KeepsFrom w8.heap.size W W2) ∨ (c = .exit 8 ∧ (∃ t : LawC.Tbl n most ee, LawC.St w w6 FB b s [(mb, 3, .int .i64 pre2.length), (nb, 3, .int .i64 ((pre.length : Int) + 1)), (tb, 3, .int .i64 turn), (w.heap.size + 1, 4, .bool false)] Ds t W2) ∧ KeepsFrom w8.heap.size W W2))
                ?hI9 ?hIx9 ?h09
                (fun y a' _ => Fr3 most a1 len1 cap1 stop w c kb vb sb tb nb mb x y a') (fun x a' _ _ _ _ hs _ _ => hs) ?assign9 ?body9 ?done9 ?stop9
              case hI9 => exact OwnFrom.and (OwnFrom.and (LawC.St.own (f := fun pre2 : List (Nat × Int) => [(mb, 3, .int .i64 pre2.length), (nb, 3, .int .i64 ((pre.length : Int) + 1)), (tb, 3, .int .i64 turn), (w.heap.size + 1, 4, .bool false)]) HKX.out hw9l hm9.out) (ownFrom_pure _ _)) (ownFrom_keepsFrom (by rw [HMB.out]; have := (S9.out.bx (mb, 3, .int .i64 0) (by simp)).lt; omega))
              case hIx9 =>
                intro c pre2 W2 W2' row hs hg hr
                have hkf : OwnFrom w9.heap.size (fun (_ : Unit) W2 => KeepsFrom w8.heap.size W W2) := ownFrom_keepsFrom (by rw [HMB.out]; have := (S9.out.bx (mb, 3, .int .i64 0) (by simp)).lt; omega)
                rcases hs with ⟨h1, h2, h3⟩ | ⟨h1, h2, h3⟩
                · exact .inl ⟨h1, h2, hkf () W2 W2' row h3 hg hr⟩
                · exact .inr ⟨h1, LawC.St.own (f := fun pre2 : List (Nat × Int) => [(mb, 3, .int .i64 pre2.length), (nb, 3, .int .i64 ((pre.length : Int) + 1)), (tb, 3, .int .i64 turn), (w.heap.size + 1, 4, .bool false)]) HKX.out hw9l hm9.out pre2 W2 W2' row h2 hg hr, hkf () W2 W2' row h3 hg hr⟩
              case h09 => exact ⟨⟨⟨t, S9.out⟩, List.nil_prefix⟩, KF9.out⟩
              case assign9 =>
                intro l pre x W K hi hK
                gi_wp2
                exact hK _ _ (KeepsFrom.refl _ _) (fun _ _ => rfl) hi (Fr3.of rfl)
              case body9 =>
                rintro l2 pre2 y a' W2 hl2 _ ⟨⟨⟨t2, st2⟩, hp2⟩, kf2⟩ ⟨J2, rfl⟩ hlt2
                have K2 := Ko.out W2 st2.kp st2.sz
                obtain ⟨_, hg1, ek2⟩ := K2.ek pre2.length hlt2
                obtain ⟨_, hg2, ev2⟩ := K2.ev pre2.length hlt2
                cases hg1
                cases hg2
                have kc2 := K2.k.cell
                have vc2 := K2.v.cell
                have stc2 := K2.st.cell
                have bm := st2.bx (mb, 3, .int .i64 pre2.length) (by simp)
                have mc2 := bm.cell
                have mf2 := bm.frozen
                have br := st2.bx (w.heap.size + 1, 4, .bool false) (by simp)
                have rc2 := br.cell
                have rf2 := br.frozen
                have hpr := List.prefix_iff_eq_take.1 hp2
                have HST2 := hid st2
                have HPR2 := hid hpr
                have HKF2 := hid kf2
                clear st2 K2 bm br hpr hp2 kf2 ek ev kc vc qc xc stc nc nf tc rc rf
                by_cases hx : y = xs[pre2.length]
                · have hpx2 : Hid (pre2 ++ [y] <+: xs) := by
                    rw [hx]
                    have : pre2 ++ [xs[pre2.length]] = xs.take (pre2.length + 1) := by
                      rw [List.take_succ_eq_append_getElem hlt2, ← HPR2.out]
                    rw [this]; exact hid (List.take_prefix _ _)
                  have e1 : y.1 = xs[pre2.length].1 := by rw [hx]
                  have e2 : y.2 = xs[pre2.length].2 := by rw [hx]
                  rw [← e1] at ek2
                  rw [← e2] at ev2
                  clear e1 e2 hx
                  have S10 := hid (HST2.out.set (.int .i64 ((pre2.length : Int) + 1)))
                  gi_wp2
                  · exact ⟨(KeepsOthers.setCell _ _ _).from _, .inr ⟨rfl, ⟨t2, by simpa using S10.out⟩, HKF2.out.trans ((KeepsOthers.setCell _ _ _).from _)⟩⟩
                  · exact ⟨(KeepsOthers.setCell _ _ _).from _, fun k hk => (S10.out.kp k (HRB.out k hk)).trans (HST2.out.kp k (HRB.out k hk)).symm, ⟨⟨t2, by simpa using S10.out⟩, hpx2.out⟩, HKF2.out.trans ((KeepsOthers.setCell _ _ _).from _)⟩
                · have hnp : ¬ (pre2 ++ [y]) <+: xs := by
                    intro hp
                    have h2 := List.prefix_iff_eq_take.1 hp
                    rw [List.length_append, List.length_singleton, List.take_succ_eq_append_getElem hlt2, ← HPR2.out] at h2
                    simp at h2
                    exact hx h2
                  generalize hy : xs[pre2.length] = z at ek2 ev2 hx
                  clear hy
                  by_cases hk : y.1 = z.1
                  · have hv : ¬ y.2 = z.2 := fun hv => hx (Prod.ext hk hv)
                    rw [← hk] at ek2
                    clear hx
                    gi_wp2
                    all_goals first
                      | exact ⟨(KeepsOthers.setCell _ _ _).from _, .inl ⟨rfl, hnp, HKF2.out.trans ((KeepsOthers.setCell _ _ _).from _)⟩⟩
                      | (exfalso; have hh : ¬xs.length ≤ pre2.length ∧ (y.2 != z.2) = false := by assumption
                         exact hv (by simpa using hh.2))
                  · have hk' : ¬ (y.1 : Int) = z.1 := by omega
                    clear hx
                    gi_wp2
                    exact ⟨(KeepsOthers.setCell _ _ _).from _, .inl ⟨rfl, hnp, HKF2.out.trans ((KeepsOthers.setCell _ _ _).from _)⟩⟩
              case done9 =>
                rintro ys W2 hys ⟨⟨⟨t2, st2⟩, _⟩, kf2⟩
                have K2 := Ko.out W2 st2.kp st2.sz
                have xc2 := K2.x.cell
                obtain ⟨t3, v3, HD⟩ := LawC.drop_any t2 x.1
                have HD' := hid (HD W2 b s st2.hold)
                have HST2 := hid st2
                have HKF2 := hid kf2
                clear HD K2 st2 kf2 ek ev kc vc qc xc stc nc nf tc rc rf
                gi_wp2_with fail
                refine ⟨trivial, ?_⟩
                refine (callsIn_wide.2 HD'.out).mono ?_
                rintro r3 W3 ⟨rfl, f3, h3'⟩
                have S3 := hid (HST2.out.frm HKX.out f3 h3')
                have KF3 := hid (HKF2.out.trans (LawC.frm_keeps HST2.out.hold f3 _))
                have K3 := Ko.out W3 S3.out.kp S3.out.sz
                have xc3 := K3.x.cell
                clear K3 f3 h3' HD' HST2 HKF2 xc2
                gi_wp2_with fail
                obtain ⟨q, hq⟩ : ∃ q : Nat, IntKind.u64.wrap ((x.1 : Int) + 1) = q := ⟨_, (Int.toNat_of_nonneg (LawC.wrap64_nonneg _)).symm⟩
                rw [hq]
                clear hq
                obtain ⟨t4, v4, HP⟩ := LawC.put_any t3 q (-9)
                refine ⟨trivial, ?_⟩
                refine (callsIn_wide.2 (HP W3 b s S3.out.hold)).mono ?_
                clear HP
                rintro r4 W4 ⟨rfl, f4, h4'⟩
                have S4 := hid (S3.out.frm HKX.out f4 h4')
                have KF4 := hid (KF3.out.trans (LawC.frm_keeps S3.out.hold f4 _))
                have stc4 := (Ko.out W4 S4.out.kp S4.out.sz).st.cell
                have nc4 := (S4.out.bx (nb, 3, .int .i64 ((pre.length : Int) + 1)) (by simp)).cell
                have tc4 := (S4.out.bx (tb, 3, .int .i64 turn) (by simp)).cell
                have hfin : Hid (∃ t : LawC.Tbl n most ee, LawC.St w w6 FB b s [(nb, 3, .int .i64 ((pre ++ [x]).length : Nat)), (tb, 3, .int .i64 turn), (w.heap.size + 1, 4, .bool false)] Ds t W4) := hid ⟨t4, by simpa using S4.out.drop1⟩
                clear f4 h4' xc3 KF3
                by_cases ht : turn = 0
                · have hb : ((turn : Int) == 0) = true := by simp [ht]
                  have HT := hid ht
                  clear ht
                  by_cases hs : stop < (pre.length : Int) + 1
                  · gi_wp2
                    exact ⟨KF4.out, .inr ⟨rfl, HT.out, hfin.out⟩⟩
                  · gi_wp2
                    exact ⟨KF4.out, fun k hk => (S4.out.kp k (HRB.out k hk)).trans (HST.out.kp k (HRB.out k hk)).symm, hfin.out, hpx.out⟩
                · have hb : ((turn : Int) == 0) = false := by simp [ht]
                  clear ht
                  gi_wp2
                  exact ⟨KF4.out, fun k hk => (S4.out.kp k (HRB.out k hk)).trans (HST.out.kp k (HRB.out k hk)).symm, hfin.out, hpx.out⟩
              case stop9 =>
                rintro c pre2 W2 hp (⟨rfl, hn, _⟩ | ⟨rfl, ⟨t2, st2⟩, kf2⟩)
                · exact absurd hp hn
                have K2 := Ko.out W2 st2.kp st2.sz
                have xc2 := K2.x.cell
                obtain ⟨t3, v3, HD⟩ := LawC.drop_any t2 x.1
                have HD' := hid (HD W2 b s st2.hold)
                have HST2 := hid st2
                have HKF2 := hid kf2
                clear HD K2 st2 kf2 ek ev kc vc qc xc stc nc nf tc rc rf
                gi_wp2_with fail
                refine ⟨trivial, ?_⟩
                refine (callsIn_wide.2 HD'.out).mono ?_
                rintro r3 W3 ⟨rfl, f3, h3'⟩
                have S3 := hid (HST2.out.frm HKX.out f3 h3')
                have KF3 := hid (HKF2.out.trans (LawC.frm_keeps HST2.out.hold f3 _))
                have K3 := Ko.out W3 S3.out.kp S3.out.sz
                have xc3 := K3.x.cell
                clear K3 f3 h3' HD' HST2 HKF2 xc2
                gi_wp2_with fail
                obtain ⟨q, hq⟩ : ∃ q : Nat, IntKind.u64.wrap ((x.1 : Int) + 1) = q := ⟨_, (Int.toNat_of_nonneg (LawC.wrap64_nonneg _)).symm⟩
                rw [hq]
                clear hq
                obtain ⟨t4, v4, HP⟩ := LawC.put_any t3 q (-9)
                refine ⟨trivial, ?_⟩
                refine (callsIn_wide.2 (HP W3 b s S3.out.hold)).mono ?_
                clear HP
                rintro r4 W4 ⟨rfl, f4, h4'⟩
                have S4 := hid (S3.out.frm HKX.out f4 h4')
                have KF4 := hid (KF3.out.trans (LawC.frm_keeps S3.out.hold f4 _))
                have stc4 := (Ko.out W4 S4.out.kp S4.out.sz).st.cell
                have nc4 := (S4.out.bx (nb, 3, .int .i64 ((pre.length : Int) + 1)) (by simp)).cell
                have tc4 := (S4.out.bx (tb, 3, .int .i64 turn) (by simp)).cell
                have hfin : Hid (∃ t : LawC.Tbl n most ee, LawC.St w w6 FB b s [(nb, 3, .int .i64 ((pre ++ [x]).length : Nat)), (tb, 3, .int .i64 turn), (w.heap.size + 1, 4, .bool false)] Ds t W4) := hid ⟨t4, by simpa using S4.out.drop1⟩
                clear f4 h4' xc3 KF3
                by_cases ht : turn = 0
                · have hb : ((turn : Int) == 0) = true := by simp [ht]
                  have HT := hid ht
                  clear ht
                  by_cases hs : stop < (pre.length : Int) + 1
                  · gi_wp2
                    exact ⟨KF4.out, .inr ⟨rfl, HT.out, hfin.out⟩⟩
                  · gi_wp2
                    exact ⟨KF4.out, fun k hk => (S4.out.kp k (HRB.out k hk)).trans (HST.out.kp k (HRB.out k hk)).symm, hfin.out, hpx.out⟩
                · have hb : ((turn : Int) == 0) = false := by simp [ht]
                  clear ht
                  gi_wp2
                  exact ⟨KF4.out, fun k hk => (S4.out.kp k (HRB.out k hk)).trans (HST.out.kp k (HRB.out k hk)).symm, hfin.out, hpx.out⟩
            · have hnp : ¬ (pre ++ [x]) <+: xs := by
                intro hp
                have h2 := List.prefix_iff_eq_take.1 hp
                rw [List.length_append, List.length_singleton, List.take_succ_eq_append_getElem hlt, ← HPR.out] at h2
                simp at h2
                exact hx h2
              generalize hy : xs[pre.length] = y at ek ev hx
              clear hy
              by_cases hk : x.1 = y.1
              · have hv : ¬ x.2 = y.2 := fun hv => hx (Prod.ext hk hv)
                rw [← hk] at ek
                clear hx
                gi_wp2
                all_goals first
                  | exact ⟨(KeepsOthers.setCell _ _ _).from _, .inl ⟨rfl, hnp⟩⟩
                  | (exfalso; have hh : ¬xs.length ≤ pre.length ∧ (x.2 != y.2) = false := by assumption
                     exact hv (by simpa using hh.2))
              · have hk' : ¬ (x.1 : Int) = y.1 := by omega
                clear hx
                gi_wp2
                exact ⟨(KeepsOthers.setCell _ _ _).from _, .inl ⟨rfl, hnp⟩⟩
          case done8 =>
            rintro D8 ys W2 hD8 hys ⟨⟨t2, st2⟩, _⟩ hDD8
            rw [hys] at st2
            clear hys
            have K2 := Ko.out W2 st2.kp st2.sz
            have kc2 := K2.k.cell
            have bt2 := st2.bx (tb, 3, .int .i64 turn) (by simp)
            have tc2 := bt2.cell
            have tl2 := bt2.lt
            have nc2 := (st2.bx (nb, 3, .int .i64 (xs.length : Nat)) (by simp)).cell
            have S2 := hid (((st2.mark hDD8 (fun hm => by have := HM8.out _ hm; omega) (by omega)).drop1.drop1).push HKX.out 3 (.int .i64 ((turn : Int) + 1)))
            clear st2 K2 bt2 hDD8 hseq8
            by_cases ht : 0 < turn
            · go_wp2_with fail
              exact ⟨turn + 1, W2.heap.size, D8 :: Ds, t2, by omega, by omega, Fr1.of rfl, S2⟩
            · have ht' : ¬ (0 : Int) < turn := by omega
              go_wp2_with fail
              exact ⟨turn + 1, W2.heap.size, D8 :: Ds, t2, by omega, by omega, Fr1.of rfl, S2⟩
          case stop8 =>
            rintro D8 c pre2 W2 hD8 hp (⟨rfl, hn⟩ | ⟨rfl, h0, ⟨t2, st2⟩⟩) hDD8
            · exact absurd hp hn
            have K2 := Ko.out W2 st2.kp st2.sz
            have kc2 := K2.k.cell
            have bt2 := st2.bx (tb, 3, .int .i64 turn) (by simp)
            have tc2 := bt2.cell
            have tl2 := bt2.lt
            have nc2 := (st2.bx (nb, 3, .int .i64 (pre2.length : Nat)) (by simp)).cell
            have S2 := hid (((st2.mark hDD8 (fun hm => by have := HM8.out _ hm; omega) (by omega)).drop1.drop1).push HKX.out 3 (.int .i64 ((turn : Int) + 1)))
            clear st2 K2 bt2 hDD8 hseq8
            have ht' : ¬ (0 : Int) < turn := by omega
            have HT0 := hid h0
            clear h0
            refine wpIn_wide.2 ?_
            go_wp2_with fail
            exact ⟨turn + 1, W2.heap.size, D8 :: Ds, t2, by omega, by omega, Fr1.of rfl, S2⟩
        · have br := hst.out.bx (w.heap.size + 1, 4, .bool false) (by simp)
          have rc := br.cell
          have rf := br.frozen
          have HBR := hid br
          clear br
          go_wp2
          have S9 := hid (LawC.St.set (xs := []) (B := w.heap.size + 1) (ty := 4) (v := .bool false) hst.out.drop1 (.bool true))
          refine LawC.leaves_marks Ds _ S9.out.mks fun W' hW' => ?_
          have r9 := S9.out.bx (w.heap.size + 1, 4, .bool true) (by simp)
          have r9' : Boxed W' (w.heap.size + 1) 4 (.bool true) := (hW'.cells S9.out.mks (LawB.boxed_isCells r9)).trans r9
          have i7 := r9'.cell
          exact ⟨.bool true, by simp [results, Try.results7, go_sem, i7], rfl, S9.out.bel.trans (hW'.below S9.out.dlo)⟩
    case stop =>
      rintro D c pre W hD hp h hDD
      exact absurd h (by simp)
  go_wp2_with fail
  go_loopg [9] len1 (fun f s9 wr => ∃ i t, s9 = .int .i64 (i : Nat) ∧ i + f = len1 ∧ Hid (LawC.Walk w wr b s c stop (t : LawC.Tbl n most ee)))
  case atStart => exact ⟨0, t00, rfl, by omega, M0⟩
  case round =>
    clear M0
    obtain ⟨i, t, rfl, hi, M⟩ := hrel
    have xc := M.out.b7.cell
    by_cases hlt : i < len1 ∧ i < 200
    · obtain ⟨hlt, h200⟩ := hlt
      obtain ⟨bx, off, rfl, d0, d1, d2⟩ := R1.out i hlt
      have e0 := M.out.cell d0
      have e1 := M.out.cell d1
      have e2 := M.out.cell d2
      clear d0 d1 d2
      have HS := hid (fun wx (hx : LawC.Holds wx b s t) => LawC.do_c t (f1 i) wx b s hx)
      go_wp2
      go_still_tail 5, (by kernel_rfl)
      have M1 : Hid (LawC.Walk w wr.drew b s c stop t) := hid (M.out.later (below_dn _ _ 1))
      change wpList _ _ _ _ _ wr.drew
      generalize wr.drew = wx at M1
      go_wp2_with (go_at_call 23; refine (HS.out _ M1.out.hold).mono ?_; rintro r w3 ⟨rfl, fr3, h3⟩; have M3 := hid (M1.out.frm fr3 h3); clear fr3 h3)
      go_roundg (gk - 1)
      case measure => omega
      case rel => exact ⟨i + 1, _, by go_num, by omega, M3⟩
    · have h1 : ¬ i < len1 ∨ ¬ i < 200 := by omega
      clear hlt
      rcases h1 with h1 | h1
      · go_wp2
        go_meet
        exact ⟨t, M⟩
      · by_cases h2 : i < len1
        · go_wp2
          go_meet
          exact ⟨t, M⟩
        · go_wp2
          go_meet
          exact ⟨t, M⟩

set_option maxRecDepth 100000 in
theorem walk (a0 : Int) (a1 : Option Addr) (len1 cap1 : Nat) (a2 : Int) (w : World) (w0 : (Lit.int .i64 a0).wf = true) (w1 : LawC.StepsAt w a1 len1) :
    Calls Try.prog 7 #[.int .i64 a0, .slice a1 len1 cap1, .int .i64 a2] w fun e w' => e = .returned (.bool true) ∧ Below w.heap.size w w' := by
  by_cases h : a0 < 0 ∨ 4096 < a0
  · have HK := hid (fun wx => LawA.known_c wx)
    clear w0 w1
    refine (callsIn_wide (n := 9)).1 ?_
    refine callsIn_of_wp_marks Try.func7 rfl trivial ?_ rfl
    simp only [Try.ntmps7, List.size_toArray, List.length_cons, List.length_nil, Nat.reduceAdd, Nat.reduceSub, Array.replicate_succ, Array.replicate_zero, List.push_toArray, List.append_toArray, List.nil_append, List.cons_append]
    refine wpIn_wide.2 ?_
    have h0 := Boxed.new (w.alloc (.cells #[.int .i64 a2] 3)) 4 (.bool false)
    rw [World.size_alloc] at h0
    have HB0 := hid h0
    clear h0
    rcases h with h | h
    all_goals
      go_wp2_with (go_at_call 14; refine (HK.out _).mono ?_; rintro e w1 ⟨rfl, fr0⟩; have hb6 := (fr0.block _ HB0.out.lt (by simp)).trans HB0.out; have rc := Boxed.cell hb6; have rf := Boxed.frozen hb6)
      have i7 := (Boxed.set (.bool true) hb6).cell
      exact ⟨.bool true, by simp [results, Try.results7, go_sem, i7], rfl, ((((Below.refl _ w).alloc (Nat.le_refl _) _).alloc (by simp) _).trans (fr0.below (B := w.heap.size) (by simp; omega) (by simp))).setCell (by show w.heap.size ≤ w.heap.size + 1; omega) _⟩
  · obtain ⟨m, rfl⟩ := Int.eq_ofNat_of_zero_le (by omega : 0 ≤ a0)
    exact walkSmall m a1 len1 cap1 a2 w (by omega) w1

/-! ### THE ROW's STEP: WRITTEN OUT: LEAVE IT -/
set_option maxRecDepth 100000 in
theorem lifted (os : Os) (started : os.Started) (H : Type) (enc : TypeId × Value → H) :
    ReturnsInHanded {} Try.checked os 7 .any (Rows.indexWalksSpec.pre6 enc Try.prog Try.f7 Rows.indexWalksRow.domain false) (Rows.indexWalksSpec.post enc Try.prog Try.f7 false true false false) := by
  refine returnsInHanded_of_change (C := Try.checked) own started (by kernel_rfl) Try.func7
    (ChangeSpec.witness6 (enc := enc) (C := Try.checked) false ⟨#[], #[.int .i64 0, .slice none 0 0, .int .i64 0], []⟩ 8 (by kernel_rfl) (by kernel_rfl) (by kernel_rfl) (by kernel_rfl)) ?_
  intro W base args ds gs before hval0 hW hcnd _
  have hval : ∀ (j : Nat) t v, Try.f7.params[j]? = some t → args[j]? = some v → Value.okWide Try.prog W .any base t v := hval0
  have hW' := hW
  obtain ⟨p, q, hA0, hV, rfl, hfz, hnd⟩ := hW
  have hA : DataW.TrodAll enc Try.prog W 0 (fun _ => true) true Try.f7.params.toList args.toList ds p := hA0
  rw [Try.params7] at hA hval
  obtain ⟨v0, vs0, d0, ds0, p0, q0, hargs, rfl, rfl, h0, r0⟩ := trodAll_cons hA
  obtain ⟨v1, vs1, d1, ds1, p1, q1, rfl, rfl, rfl, h1, r1⟩ := trodAll_cons r0
  obtain ⟨v2, vs2, d2, ds2, p2, q2, rfl, rfl, rfl, h2, r2⟩ := trodAll_cons r1
  obtain ⟨rfl, rfl, rfl⟩ := trodAll_nil r2
  obtain rfl : args = #[v0, v1, v2] := by cases args; simp_all
  obtain ⟨rfl, rfl⟩ := trodVars_none hV
  obtain ⟨a0, rfl, rfl, rfl, w0⟩ := open_int Try.underlying3 (hval 0 3 v0 rfl rfl) h0
  obtain ⟨a1, len1, cap1, rfl⟩ := okWide_slice Try.underlying40 (hval 1 40 v1 rfl rfl)
  obtain ⟨a2, rfl, rfl, rfl, w2⟩ := open_int Try.underlying3 (hval 2 3 v2 rfl rfl) h2
  have k1 := h1
  have lt1 : ∀ x ∈ p1, x.block < W.heap.size := by obtain ⟨m, hm⟩ := k1; exact DataW.trod_lt m _ _ _ hm
  have w1 : LawC.StepsAt W a1 len1 := by
    obtain ⟨fuel, hf⟩ := h1
    exact LawC.open_steps Try.underlying40 Try.underlying46 (by kernel_rfl) (by kernel_rfl) Try.underlying3 Try.underlying3 Try.underlying30 hf
  clear hA0 hval0
  refine (walk a0 a1 len1 cap1 a2 W w0 w1).mono fun e W' ⟨he, bel⟩ => ?_
  subst he
  exact ⟨_, rfl, _, _, _, [], _, [], hW', trodAll_mk1 (shut_bool Try.underlying4 _), (trodAll_cons_mk (shut_int Try.underlying3 w0) (trodAll_cons_mk (Below.trod laidOut (by kernel_rfl) (of_decide_eq_true (by kernel_rfl)) k1 bel lt1) (trodAll_cons_mk (shut_int Try.underlying3 w2) trodAll_mk0))), rfl, bel.frame _, fun h => by cases h⟩

theorem over : Rows.indexWalksRow.holds Try.pinned (OpenSpec.ofChange Rows.indexWalksSpec) :=
  OpenClaim.holds_of_wide 7 Try.f7 rfl rfl rfl rfl rfl rfl rfl ⟨rfl, rfl, rfl, rfl, rfl⟩ rfl rfl rfl rfl rfl (by kernel_rfl) Try.func7 (by kernel_rfl)
    (of_decide_eq_true (by kernel_rfl)) (by unfold Func.isWrapper; first | (rw [if_pos (by decide +kernel)]; kernel_rfl) | (rw [if_neg (by decide +kernel)]; exact ⟨rfl, rfl⟩))
    (fun os started H enc _ => lifted os started H enc)

/-- ████ THE STATEMENT ████ -/
theorem proved : Rows.IndexWalksSaid := over
end Go.Proofs.Ytcieieljgmkjmaa.indexWalks
