/-
  No cell of these rows narrows 'for every input' (looked for: loops, veiled, ifaces, maps, wideKeys, modest, calm, conditions, laid).
  DERIVED. THE GIVEN ROWS OF THIS SEAT. 7 by the template 'for every input the law returns true; each argument reads behind the call as it read before'; 0 by the template 'total and deterministic' (their statements: YtcieieljgmkjmaaTotals.lean).
  GIVEN WITH THE SEED: the statements are not yours to turn. If you find one false, say at which input.
  Laid BY PROGRAM, IN A SANDBOX (cutbox-rows.mjs): the forced cells as the released guide's own fill.sh prints them over the translation 39a724649ccef504… (all of the seat's roots in one cut). By AI agents, Wed Nov 11 2026. No macro, syntax, notation, axiom, sorry.
-/
import Derived.Test.YtcieieljgmkjmaaChecked
import GoSem.Claim
import GoSem.ClaimJoined
import GoSem.ClaimMapViews
import Derived.JoinedTies
import Derived.KernelRfl
namespace Go.Proofs.Ytcieieljgmkjmaa
/- THE CELL 'sum', in the pinned program and in every row, IS THE sha256 OF THE DUMP (.gsa) THAT YtcieieljgmkjmaaProg.lean LOADS. Nothing in Lean hashes anything: it is a label: what it is worth is what the hold of that sum in a sandbox is worth. -/
noncomputable def Try.pinned : Pinned := { name := "ytcieieljgmkjmaa", sum := "39a724649ccef5045ece95e6e47833457871f65980d29befd187bec3715f36b5", checked := Try.checked }
namespace Rows
def none {H : Type} : Left H := { results := [], args := [] }

/-- 'winnowlaw6.IndexNames': WHATEVER THE INPUT: true; the input reads as it did. -/
def indexNamesSpec : ChangeSpec := { name := "indexNames", fn := fun _ => fun
  | [] => { results := [.lit (.bool true)], args := [] }
  | _ => none }
def indexNamesRow : OpenClaim := { program := "ytcieieljgmkjmaa", sum := "39a724649ccef5045ece95e6e47833457871f65980d29befd187bec3715f36b5", func := "winnow/winnowlaw6.IndexNames", spec := "indexNames", apart := false }
def IndexNamesSaid : Prop := indexNamesRow.holds Try.pinned (OpenSpec.ofChange indexNamesSpec)

/-- ITS FALSE NEIGHBOUR: 'it returns false'. Refute it at one input. -/
def indexNamesWrong : ChangeSpec := { name := "indexNames", fn := fun _ => fun
  | [] => { results := [.lit (.bool false)], args := [] }
  | _ => none }
def IndexNamesWrongFalsely : Prop := indexNamesRow.holds Try.pinned (OpenSpec.ofChange indexNamesWrong)

/-- 'winnowlaw6.IndexSlots': WHATEVER THE INPUT: true; the input reads as it did. -/
def indexSlotsSpec : ChangeSpec := { name := "indexSlots", fn := fun _ => fun
  | [d1, d2] => { results := [.lit (.bool true)], args := [d1, d2] }
  | _ => none }
def indexSlotsRow : OpenClaim := { program := "ytcieieljgmkjmaa", sum := "39a724649ccef5045ece95e6e47833457871f65980d29befd187bec3715f36b5", func := "winnow/winnowlaw6.IndexSlots", spec := "indexSlots", apart := false }
def IndexSlotsSaid : Prop := indexSlotsRow.holds Try.pinned (OpenSpec.ofChange indexSlotsSpec)

/-- ITS FALSE NEIGHBOUR: 'it returns false'. Refute it at one input. -/
def indexSlotsWrong : ChangeSpec := { name := "indexSlots", fn := fun _ => fun
  | [d1, d2] => { results := [.lit (.bool false)], args := [d1, d2] }
  | _ => none }
def IndexSlotsWrongFalsely : Prop := indexSlotsRow.holds Try.pinned (OpenSpec.ofChange indexSlotsWrong)

/-- 'winnowlaw6.IndexHomes': WHATEVER THE INPUT: true; the input reads as it did. -/
def indexHomesSpec : ChangeSpec := { name := "indexHomes", fn := fun _ => fun
  | [d1, d2] => { results := [.lit (.bool true)], args := [d1, d2] }
  | _ => none }
def indexHomesRow : OpenClaim := { program := "ytcieieljgmkjmaa", sum := "39a724649ccef5045ece95e6e47833457871f65980d29befd187bec3715f36b5", func := "winnow/winnowlaw6.IndexHomes", spec := "indexHomes", apart := false }
def IndexHomesSaid : Prop := indexHomesRow.holds Try.pinned (OpenSpec.ofChange indexHomesSpec)

/-- ITS FALSE NEIGHBOUR: 'it returns false'. Refute it at one input. -/
def indexHomesWrong : ChangeSpec := { name := "indexHomes", fn := fun _ => fun
  | [d1, d2] => { results := [.lit (.bool false)], args := [d1, d2] }
  | _ => none }
def IndexHomesWrongFalsely : Prop := indexHomesRow.holds Try.pinned (OpenSpec.ofChange indexHomesWrong)

/-- 'winnowlaw6.IndexKeeps': WHATEVER THE INPUT: true; the input reads as it did. -/
def indexKeepsSpec : ChangeSpec := { name := "indexKeeps", fn := fun _ => fun
  | [d1, d2] => { results := [.lit (.bool true)], args := [d1, d2] }
  | _ => none }
def indexKeepsRow : OpenClaim := { program := "ytcieieljgmkjmaa", sum := "39a724649ccef5045ece95e6e47833457871f65980d29befd187bec3715f36b5", func := "winnow/winnowlaw6.IndexKeeps", spec := "indexKeeps", unfollowed := true, recurses := true, apart := false }
def IndexKeepsSaid : Prop := indexKeepsRow.holds Try.pinned (OpenSpec.ofChange indexKeepsSpec)

/-- ITS FALSE NEIGHBOUR: 'it returns false'. Refute it at one input. -/
def indexKeepsWrong : ChangeSpec := { name := "indexKeeps", fn := fun _ => fun
  | [d1, d2] => { results := [.lit (.bool false)], args := [d1, d2] }
  | _ => none }
def IndexKeepsWrongFalsely : Prop := indexKeepsRow.holds Try.pinned (OpenSpec.ofChange indexKeepsWrong)

/-- 'winnowlaw6.IndexWalks': WHATEVER THE INPUT: true; the input reads as it did. -/
def indexWalksSpec : ChangeSpec := { name := "indexWalks", fn := fun _ => fun
  | [d1, d2, d3] => { results := [.lit (.bool true)], args := [d1, d2, d3] }
  | _ => none }
def indexWalksRow : OpenClaim := { program := "ytcieieljgmkjmaa", sum := "39a724649ccef5045ece95e6e47833457871f65980d29befd187bec3715f36b5", func := "winnow/winnowlaw6.IndexWalks", spec := "indexWalks", unfollowed := true, recurses := true, apart := false }
def IndexWalksSaid : Prop := indexWalksRow.holds Try.pinned (OpenSpec.ofChange indexWalksSpec)

/-- ITS FALSE NEIGHBOUR: 'it returns false'. Refute it at one input. -/
def indexWalksWrong : ChangeSpec := { name := "indexWalks", fn := fun _ => fun
  | [d1, d2, d3] => { results := [.lit (.bool false)], args := [d1, d2, d3] }
  | _ => none }
def IndexWalksWrongFalsely : Prop := indexWalksRow.holds Try.pinned (OpenSpec.ofChange indexWalksWrong)

/-- 'winnowlaw6.IndexPlays': WHATEVER THE INPUT: true; the input reads as it did. -/
def indexPlaysSpec : ChangeSpec := { name := "indexPlays", fn := fun _ => fun
  | [d1, d2] => { results := [.lit (.bool true)], args := [d1, d2] }
  | _ => none }
def indexPlaysRow : OpenClaim := { program := "ytcieieljgmkjmaa", sum := "39a724649ccef5045ece95e6e47833457871f65980d29befd187bec3715f36b5", func := "winnow/winnowlaw6.IndexPlays", spec := "indexPlays", unfollowed := true, recurses := true, apart := false }
def IndexPlaysSaid : Prop := indexPlaysRow.holds Try.pinned (OpenSpec.ofChange indexPlaysSpec)

/-- ITS FALSE NEIGHBOUR: 'it returns false'. Refute it at one input. -/
def indexPlaysWrong : ChangeSpec := { name := "indexPlays", fn := fun _ => fun
  | [d1, d2] => { results := [.lit (.bool false)], args := [d1, d2] }
  | _ => none }
def IndexPlaysWrongFalsely : Prop := indexPlaysRow.holds Try.pinned (OpenSpec.ofChange indexPlaysWrong)

/-- 'winnowlaw6.IndexTwins': WHATEVER THE INPUT: true; the input reads as it did. -/
def indexTwinsSpec : ChangeSpec := { name := "indexTwins", fn := fun _ => fun
  | [d1, d2, d3, d4] => { results := [.lit (.bool true)], args := [d1, d2, d3, d4] }
  | _ => none }
def indexTwinsRow : OpenClaim := { program := "ytcieieljgmkjmaa", sum := "39a724649ccef5045ece95e6e47833457871f65980d29befd187bec3715f36b5", func := "winnow/winnowlaw6.IndexTwins", spec := "indexTwins", unfollowed := true, recurses := true, apart := false }
def IndexTwinsSaid : Prop := indexTwinsRow.holds Try.pinned (OpenSpec.ofChange indexTwinsSpec)

/-- ITS FALSE NEIGHBOUR: 'it returns false'. Refute it at one input. -/
def indexTwinsWrong : ChangeSpec := { name := "indexTwins", fn := fun _ => fun
  | [d1, d2, d3, d4] => { results := [.lit (.bool false)], args := [d1, d2, d3, d4] }
  | _ => none }
def IndexTwinsWrongFalsely : Prop := indexTwinsRow.holds Try.pinned (OpenSpec.ofChange indexTwinsWrong)

/- THE SECOND FORM. 'bulk': how many values and letters a reading holds, each counted each time it is reached (what is shared counts as often as it is met; a slice's spare places count too). A statement '..UptoSaid' is the law's where the arguments, and the package variables that the reading takes, are together of bulk at most 1048576: NARROWER than '..Said'. Prove '..Said' where nothing that the law and all that it calls make is longer than what came in: it says more and counts as full. Else prove '..UptoSaid'. A law counts once. -/
mutual
def uptoBulk {H : Type} : DataW H → Nat
  | .lit (.string bytes) => bytes.length + 1
  | .lit _ => 1
  | .nil => 1
  | .ptr d => uptoBulk d + 1
  | .slice elems spare => uptoBulkAll elems + uptoBulkAll spare + 1
  | .agg parts => uptoBulkAll parts + 1
  | .iface _ d => uptoBulk d + 1
  | .map entries => uptoBulkEntries entries + 1
  | .held _ => 1
def uptoBulkAll {H : Type} : List (DataW H) → Nat
  | [] => 0
  | d :: r => uptoBulk d + uptoBulkAll r
def uptoBulkEntries {H : Type} : List (Lit × DataW H) → Nat
  | [] => 0
  | x :: r => uptoBulkEntry x + uptoBulkEntries r
def uptoBulkEntry {H : Type} : Lit × DataW H → Nat
  | (.string bytes, d) => bytes.length + uptoBulk d + 1
  | (_, d) => uptoBulk d + 1
 end
def uptoSmall : (H : Type) → List (DataW H) → Bool := fun _ ds => decide (uptoBulkAll ds ≤ 1048576)
def OpenSpec.upto (s : _root_.Go.ChangeSpec) : _root_.Go.OpenSpec := { _root_.Go.OpenSpec.ofChange s with cond := some uptoSmall }

/-- 'winnowlaw6.IndexNames', WHERE WHAT IT READS IS OF BULK AT MOST 1048576: true; the input reads as it did. -/
def indexNamesUptoRow : OpenClaim := { program := "ytcieieljgmkjmaa", sum := "39a724649ccef5045ece95e6e47833457871f65980d29befd187bec3715f36b5", func := "winnow/winnowlaw6.IndexNames", spec := "indexNames", apart := false, narrowed := true }
def IndexNamesUptoSaid : Prop := indexNamesUptoRow.holds Try.pinned (OpenSpec.upto indexNamesSpec)

/-- 'winnowlaw6.IndexSlots', WHERE WHAT IT READS IS OF BULK AT MOST 1048576: true; the input reads as it did. -/
def indexSlotsUptoRow : OpenClaim := { program := "ytcieieljgmkjmaa", sum := "39a724649ccef5045ece95e6e47833457871f65980d29befd187bec3715f36b5", func := "winnow/winnowlaw6.IndexSlots", spec := "indexSlots", apart := false, narrowed := true }
def IndexSlotsUptoSaid : Prop := indexSlotsUptoRow.holds Try.pinned (OpenSpec.upto indexSlotsSpec)

/-- 'winnowlaw6.IndexHomes', WHERE WHAT IT READS IS OF BULK AT MOST 1048576: true; the input reads as it did. -/
def indexHomesUptoRow : OpenClaim := { program := "ytcieieljgmkjmaa", sum := "39a724649ccef5045ece95e6e47833457871f65980d29befd187bec3715f36b5", func := "winnow/winnowlaw6.IndexHomes", spec := "indexHomes", apart := false, narrowed := true }
def IndexHomesUptoSaid : Prop := indexHomesUptoRow.holds Try.pinned (OpenSpec.upto indexHomesSpec)

/-- 'winnowlaw6.IndexKeeps', WHERE WHAT IT READS IS OF BULK AT MOST 1048576: true; the input reads as it did. -/
def indexKeepsUptoRow : OpenClaim := { program := "ytcieieljgmkjmaa", sum := "39a724649ccef5045ece95e6e47833457871f65980d29befd187bec3715f36b5", func := "winnow/winnowlaw6.IndexKeeps", spec := "indexKeeps", unfollowed := true, recurses := true, apart := false, narrowed := true }
def IndexKeepsUptoSaid : Prop := indexKeepsUptoRow.holds Try.pinned (OpenSpec.upto indexKeepsSpec)

/-- 'winnowlaw6.IndexWalks', WHERE WHAT IT READS IS OF BULK AT MOST 1048576: true; the input reads as it did. -/
def indexWalksUptoRow : OpenClaim := { program := "ytcieieljgmkjmaa", sum := "39a724649ccef5045ece95e6e47833457871f65980d29befd187bec3715f36b5", func := "winnow/winnowlaw6.IndexWalks", spec := "indexWalks", unfollowed := true, recurses := true, apart := false, narrowed := true }
def IndexWalksUptoSaid : Prop := indexWalksUptoRow.holds Try.pinned (OpenSpec.upto indexWalksSpec)

/-- 'winnowlaw6.IndexPlays', WHERE WHAT IT READS IS OF BULK AT MOST 1048576: true; the input reads as it did. -/
def indexPlaysUptoRow : OpenClaim := { program := "ytcieieljgmkjmaa", sum := "39a724649ccef5045ece95e6e47833457871f65980d29befd187bec3715f36b5", func := "winnow/winnowlaw6.IndexPlays", spec := "indexPlays", unfollowed := true, recurses := true, apart := false, narrowed := true }
def IndexPlaysUptoSaid : Prop := indexPlaysUptoRow.holds Try.pinned (OpenSpec.upto indexPlaysSpec)

/-- 'winnowlaw6.IndexTwins', WHERE WHAT IT READS IS OF BULK AT MOST 1048576: true; the input reads as it did. -/
def indexTwinsUptoRow : OpenClaim := { program := "ytcieieljgmkjmaa", sum := "39a724649ccef5045ece95e6e47833457871f65980d29befd187bec3715f36b5", func := "winnow/winnowlaw6.IndexTwins", spec := "indexTwins", unfollowed := true, recurses := true, apart := false, narrowed := true }
def IndexTwinsUptoSaid : Prop := indexTwinsUptoRow.holds Try.pinned (OpenSpec.upto indexTwinsSpec)

end Rows
end Go.Proofs.Ytcieieljgmkjmaa
