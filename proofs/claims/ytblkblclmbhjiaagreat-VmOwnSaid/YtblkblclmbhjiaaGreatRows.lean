/-
  No cell of these rows narrows 'for every input' (looked for: loops, veiled, ifaces, maps, wideKeys, modest, calm, conditions, laid).
  DERIVED. THE GIVEN ROWS OF THIS SEAT. 8 by the template 'for every input the law returns true; each argument reads behind the call as it read before'; 0 by the template 'total and deterministic' (their statements: YtblkblclmbhjiaaGreatTotals.lean).
  GIVEN WITH THE SEED: the statements are not yours to turn. If you find one false, say at which input.
  Laid BY PROGRAM, IN A SANDBOX (cutbox-rows.mjs): the forced cells as the released guide's own fill.sh prints them over the translation f3d81692b63fdcaa… (all of the seat's roots in one cut). By AI agents, Wed Nov 11 2026. No macro, syntax, notation, axiom, sorry.
-/
import Derived.Test.YtblkblclmbhjiaaGreatChecked
import GoSem.Claim
import GoSem.ClaimJoined
import GoSem.ClaimMapViews
import Derived.JoinedTies
import Derived.KernelRfl
namespace Go.Proofs.YtblkblclmbhjiaaGreat
/- THE CELL 'sum', in the pinned program and in every row, IS THE sha256 OF THE DUMP (.gsa) THAT YtblkblclmbhjiaaGreatProg.lean LOADS. Nothing in Lean hashes anything: it is a label: what it is worth is what the hold of that sum in a sandbox is worth. -/
noncomputable def Tryz.pinned : Pinned := { name := "ytblkblclmbhjiaagreat", sum := "f3d81692b63fdcaa4ce837ee59624cc8fe343dcad7359764a3313e95246ee622", checked := Tryz.checked }
namespace Rows
def none {H : Type} : Left H := { results := [], args := [] }

/-- 'winnowlaw18.VmOwn': WHATEVER THE INPUT: true; the input reads as it did. -/
def vmOwnSpec : ChangeSpec := { name := "vmOwn", fn := fun _ => fun
  | [d1, d2, d3] => { results := [.lit (.bool true)], args := [d1, d2, d3] }
  | _ => none }
def vmOwnRow : OpenClaim := { program := "ytblkblclmbhjiaagreat", sum := "f3d81692b63fdcaa4ce837ee59624cc8fe343dcad7359764a3313e95246ee622", func := "winnow/winnowlaw18.VmOwn", spec := "vmOwn", unfollowed := true, recurses := true, apart := false }
def VmOwnSaid : Prop := vmOwnRow.holds Tryz.pinned (OpenSpec.ofChange vmOwnSpec)

/-- ITS FALSE NEIGHBOUR: 'it returns false'. Refute it at one input. -/
def vmOwnWrong : ChangeSpec := { name := "vmOwn", fn := fun _ => fun
  | [d1, d2, d3] => { results := [.lit (.bool false)], args := [d1, d2, d3] }
  | _ => none }
def VmOwnWrongFalsely : Prop := vmOwnRow.holds Tryz.pinned (OpenSpec.ofChange vmOwnWrong)

/-- 'winnowlaw18.VmKeeps': WHATEVER THE INPUT: true; the input reads as it did. -/
def vmKeepsSpec : ChangeSpec := { name := "vmKeeps", fn := fun _ => fun
  | [d1, d2, d3] => { results := [.lit (.bool true)], args := [d1, d2, d3] }
  | _ => none }
def vmKeepsRow : OpenClaim := { program := "ytblkblclmbhjiaagreat", sum := "f3d81692b63fdcaa4ce837ee59624cc8fe343dcad7359764a3313e95246ee622", func := "winnow/winnowlaw18.VmKeeps", spec := "vmKeeps", unfollowed := true, recurses := true, apart := false }
def VmKeepsSaid : Prop := vmKeepsRow.holds Tryz.pinned (OpenSpec.ofChange vmKeepsSpec)

/-- ITS FALSE NEIGHBOUR: 'it returns false'. Refute it at one input. -/
def vmKeepsWrong : ChangeSpec := { name := "vmKeeps", fn := fun _ => fun
  | [d1, d2, d3] => { results := [.lit (.bool false)], args := [d1, d2, d3] }
  | _ => none }
def VmKeepsWrongFalsely : Prop := vmKeepsRow.holds Tryz.pinned (OpenSpec.ofChange vmKeepsWrong)

/-- 'winnowlaw18.VmKeys': WHATEVER THE INPUT: true; the input reads as it did. -/
def vmKeysSpec : ChangeSpec := { name := "vmKeys", fn := fun _ => fun
  | [d1, d2, d3, d4] => { results := [.lit (.bool true)], args := [d1, d2, d3, d4] }
  | _ => none }
def vmKeysRow : OpenClaim := { program := "ytblkblclmbhjiaagreat", sum := "f3d81692b63fdcaa4ce837ee59624cc8fe343dcad7359764a3313e95246ee622", func := "winnow/winnowlaw18.VmKeys", spec := "vmKeys", unfollowed := true, recurses := true, apart := false }
def VmKeysSaid : Prop := vmKeysRow.holds Tryz.pinned (OpenSpec.ofChange vmKeysSpec)

/-- ITS FALSE NEIGHBOUR: 'it returns false'. Refute it at one input. -/
def vmKeysWrong : ChangeSpec := { name := "vmKeys", fn := fun _ => fun
  | [d1, d2, d3, d4] => { results := [.lit (.bool false)], args := [d1, d2, d3, d4] }
  | _ => none }
def VmKeysWrongFalsely : Prop := vmKeysRow.holds Tryz.pinned (OpenSpec.ofChange vmKeysWrong)

/-- 'winnowlaw18.VmSound': WHATEVER THE INPUT: true; the input reads as it did. -/
def vmSoundSpec : ChangeSpec := { name := "vmSound", fn := fun _ => fun
  | [d1, d2, d3] => { results := [.lit (.bool true)], args := [d1, d2, d3] }
  | _ => none }
def vmSoundRow : OpenClaim := { program := "ytblkblclmbhjiaagreat", sum := "f3d81692b63fdcaa4ce837ee59624cc8fe343dcad7359764a3313e95246ee622", func := "winnow/winnowlaw18.VmSound", spec := "vmSound", unfollowed := true, recurses := true, apart := false }
def VmSoundSaid : Prop := vmSoundRow.holds Tryz.pinned (OpenSpec.ofChange vmSoundSpec)

/-- ITS FALSE NEIGHBOUR: 'it returns false'. Refute it at one input. -/
def vmSoundWrong : ChangeSpec := { name := "vmSound", fn := fun _ => fun
  | [d1, d2, d3] => { results := [.lit (.bool false)], args := [d1, d2, d3] }
  | _ => none }
def VmSoundWrongFalsely : Prop := vmSoundRow.holds Tryz.pinned (OpenSpec.ofChange vmSoundWrong)

/-- 'winnowlaw18.VmNodes': WHATEVER THE INPUT: true; the input reads as it did. -/
def vmNodesSpec : ChangeSpec := { name := "vmNodes", fn := fun _ => fun
  | [d1, d2, d3] => { results := [.lit (.bool true)], args := [d1, d2, d3] }
  | _ => none }
def vmNodesRow : OpenClaim := { program := "ytblkblclmbhjiaagreat", sum := "f3d81692b63fdcaa4ce837ee59624cc8fe343dcad7359764a3313e95246ee622", func := "winnow/winnowlaw18.VmNodes", spec := "vmNodes", unfollowed := true, recurses := true, apart := false }
def VmNodesSaid : Prop := vmNodesRow.holds Tryz.pinned (OpenSpec.ofChange vmNodesSpec)

/-- ITS FALSE NEIGHBOUR: 'it returns false'. Refute it at one input. -/
def vmNodesWrong : ChangeSpec := { name := "vmNodes", fn := fun _ => fun
  | [d1, d2, d3] => { results := [.lit (.bool false)], args := [d1, d2, d3] }
  | _ => none }
def VmNodesWrongFalsely : Prop := vmNodesRow.holds Tryz.pinned (OpenSpec.ofChange vmNodesWrong)

/-- 'winnowlaw18.VmPlays': WHATEVER THE INPUT: true; the input reads as it did. -/
def vmPlaysSpec : ChangeSpec := { name := "vmPlays", fn := fun _ => fun
  | [d1, d2, d3] => { results := [.lit (.bool true)], args := [d1, d2, d3] }
  | _ => none }
def vmPlaysRow : OpenClaim := { program := "ytblkblclmbhjiaagreat", sum := "f3d81692b63fdcaa4ce837ee59624cc8fe343dcad7359764a3313e95246ee622", func := "winnow/winnowlaw18.VmPlays", spec := "vmPlays", unfollowed := true, recurses := true, apart := false }
def VmPlaysSaid : Prop := vmPlaysRow.holds Tryz.pinned (OpenSpec.ofChange vmPlaysSpec)

/-- ITS FALSE NEIGHBOUR: 'it returns false'. Refute it at one input. -/
def vmPlaysWrong : ChangeSpec := { name := "vmPlays", fn := fun _ => fun
  | [d1, d2, d3] => { results := [.lit (.bool false)], args := [d1, d2, d3] }
  | _ => none }
def VmPlaysWrongFalsely : Prop := vmPlaysRow.holds Tryz.pinned (OpenSpec.ofChange vmPlaysWrong)

/-- 'winnowlaw18.VmTwins': WHATEVER THE INPUT: true; the input reads as it did. -/
def vmTwinsSpec : ChangeSpec := { name := "vmTwins", fn := fun _ => fun
  | [d1, d2, d3, d4, d5] => { results := [.lit (.bool true)], args := [d1, d2, d3, d4, d5] }
  | _ => none }
def vmTwinsRow : OpenClaim := { program := "ytblkblclmbhjiaagreat", sum := "f3d81692b63fdcaa4ce837ee59624cc8fe343dcad7359764a3313e95246ee622", func := "winnow/winnowlaw18.VmTwins", spec := "vmTwins", unfollowed := true, recurses := true, apart := false }
def VmTwinsSaid : Prop := vmTwinsRow.holds Tryz.pinned (OpenSpec.ofChange vmTwinsSpec)

/-- ITS FALSE NEIGHBOUR: 'it returns false'. Refute it at one input. -/
def vmTwinsWrong : ChangeSpec := { name := "vmTwins", fn := fun _ => fun
  | [d1, d2, d3, d4, d5] => { results := [.lit (.bool false)], args := [d1, d2, d3, d4, d5] }
  | _ => none }
def VmTwinsWrongFalsely : Prop := vmTwinsRow.holds Tryz.pinned (OpenSpec.ofChange vmTwinsWrong)

/-- 'winnowlaw18.VmAbsm': WHATEVER THE INPUT: true; the input reads as it did. -/
def vmAbsmSpec : ChangeSpec := { name := "vmAbsm", fn := fun _ => fun
  | [d1, d2, d3] => { results := [.lit (.bool true)], args := [d1, d2, d3] }
  | _ => none }
def vmAbsmRow : OpenClaim := { program := "ytblkblclmbhjiaagreat", sum := "f3d81692b63fdcaa4ce837ee59624cc8fe343dcad7359764a3313e95246ee622", func := "winnow/winnowlaw18.VmAbsm", spec := "vmAbsm", unfollowed := true, recurses := true, apart := false }
def VmAbsmSaid : Prop := vmAbsmRow.holds Tryz.pinned (OpenSpec.ofChange vmAbsmSpec)

/-- ITS FALSE NEIGHBOUR: 'it returns false'. Refute it at one input. -/
def vmAbsmWrong : ChangeSpec := { name := "vmAbsm", fn := fun _ => fun
  | [d1, d2, d3] => { results := [.lit (.bool false)], args := [d1, d2, d3] }
  | _ => none }
def VmAbsmWrongFalsely : Prop := vmAbsmRow.holds Tryz.pinned (OpenSpec.ofChange vmAbsmWrong)

/- THE SECOND FORM. 'bulk': how many values and letters a reading holds, each counted each time it is reached (what is shared counts as often as it is met; a slice's spare places count too). A statement '..UptoSaid' is the law's where the arguments, and the package variables that the reading takes, are together of bulk at most 1048576: NARROWER than '..Said'. Prove '..Said' where nothing that the law and all that it calls make is longer than what came in: it says more and counts as full. Else prove '..UptoSaid'. A law counts once. -/
mutual
def uptoBulk {H : Type} : DataW H → Nat
  | .lit (.string bytes) => bytes.length + 1
  | .lit _ => 1
  | .nil => 1
  | .ptr d => uptoBulk d + 1
  | .slice elems spare => uptoBulkAll elems + uptoBulkAll spare + 1
  | .agg parts => uptoBulkAll parts + 1
  | .iface _ d => uptoBulk d + 1
  | .map entries => uptoBulkEntries entries + 1
  | .held _ => 1
def uptoBulkAll {H : Type} : List (DataW H) → Nat
  | [] => 0
  | d :: r => uptoBulk d + uptoBulkAll r
def uptoBulkEntries {H : Type} : List (Lit × DataW H) → Nat
  | [] => 0
  | x :: r => uptoBulkEntry x + uptoBulkEntries r
def uptoBulkEntry {H : Type} : Lit × DataW H → Nat
  | (.string bytes, d) => bytes.length + uptoBulk d + 1
  | (_, d) => uptoBulk d + 1
 end
def uptoSmall : (H : Type) → List (DataW H) → Bool := fun _ ds => decide (uptoBulkAll ds ≤ 1048576)
def OpenSpec.upto (s : _root_.Go.ChangeSpec) : _root_.Go.OpenSpec := { _root_.Go.OpenSpec.ofChange s with cond := some uptoSmall }

/-- 'winnowlaw18.VmOwn', WHERE WHAT IT READS IS OF BULK AT MOST 1048576: true; the input reads as it did. -/
def vmOwnUptoRow : OpenClaim := { program := "ytblkblclmbhjiaagreat", sum := "f3d81692b63fdcaa4ce837ee59624cc8fe343dcad7359764a3313e95246ee622", func := "winnow/winnowlaw18.VmOwn", spec := "vmOwn", unfollowed := true, recurses := true, apart := false, narrowed := true }
def VmOwnUptoSaid : Prop := vmOwnUptoRow.holds Tryz.pinned (OpenSpec.upto vmOwnSpec)

/-- 'winnowlaw18.VmKeeps', WHERE WHAT IT READS IS OF BULK AT MOST 1048576: true; the input reads as it did. -/
def vmKeepsUptoRow : OpenClaim := { program := "ytblkblclmbhjiaagreat", sum := "f3d81692b63fdcaa4ce837ee59624cc8fe343dcad7359764a3313e95246ee622", func := "winnow/winnowlaw18.VmKeeps", spec := "vmKeeps", unfollowed := true, recurses := true, apart := false, narrowed := true }
def VmKeepsUptoSaid : Prop := vmKeepsUptoRow.holds Tryz.pinned (OpenSpec.upto vmKeepsSpec)

/-- 'winnowlaw18.VmKeys', WHERE WHAT IT READS IS OF BULK AT MOST 1048576: true; the input reads as it did. -/
def vmKeysUptoRow : OpenClaim := { program := "ytblkblclmbhjiaagreat", sum := "f3d81692b63fdcaa4ce837ee59624cc8fe343dcad7359764a3313e95246ee622", func := "winnow/winnowlaw18.VmKeys", spec := "vmKeys", unfollowed := true, recurses := true, apart := false, narrowed := true }
def VmKeysUptoSaid : Prop := vmKeysUptoRow.holds Tryz.pinned (OpenSpec.upto vmKeysSpec)

/-- 'winnowlaw18.VmSound', WHERE WHAT IT READS IS OF BULK AT MOST 1048576: true; the input reads as it did. -/
def vmSoundUptoRow : OpenClaim := { program := "ytblkblclmbhjiaagreat", sum := "f3d81692b63fdcaa4ce837ee59624cc8fe343dcad7359764a3313e95246ee622", func := "winnow/winnowlaw18.VmSound", spec := "vmSound", unfollowed := true, recurses := true, apart := false, narrowed := true }
def VmSoundUptoSaid : Prop := vmSoundUptoRow.holds Tryz.pinned (OpenSpec.upto vmSoundSpec)

/-- 'winnowlaw18.VmNodes', WHERE WHAT IT READS IS OF BULK AT MOST 1048576: true; the input reads as it did. -/
def vmNodesUptoRow : OpenClaim := { program := "ytblkblclmbhjiaagreat", sum := "f3d81692b63fdcaa4ce837ee59624cc8fe343dcad7359764a3313e95246ee622", func := "winnow/winnowlaw18.VmNodes", spec := "vmNodes", unfollowed := true, recurses := true, apart := false, narrowed := true }
def VmNodesUptoSaid : Prop := vmNodesUptoRow.holds Tryz.pinned (OpenSpec.upto vmNodesSpec)

/-- 'winnowlaw18.VmPlays', WHERE WHAT IT READS IS OF BULK AT MOST 1048576: true; the input reads as it did. -/
def vmPlaysUptoRow : OpenClaim := { program := "ytblkblclmbhjiaagreat", sum := "f3d81692b63fdcaa4ce837ee59624cc8fe343dcad7359764a3313e95246ee622", func := "winnow/winnowlaw18.VmPlays", spec := "vmPlays", unfollowed := true, recurses := true, apart := false, narrowed := true }
def VmPlaysUptoSaid : Prop := vmPlaysUptoRow.holds Tryz.pinned (OpenSpec.upto vmPlaysSpec)

/-- 'winnowlaw18.VmTwins', WHERE WHAT IT READS IS OF BULK AT MOST 1048576: true; the input reads as it did. -/
def vmTwinsUptoRow : OpenClaim := { program := "ytblkblclmbhjiaagreat", sum := "f3d81692b63fdcaa4ce837ee59624cc8fe343dcad7359764a3313e95246ee622", func := "winnow/winnowlaw18.VmTwins", spec := "vmTwins", unfollowed := true, recurses := true, apart := false, narrowed := true }
def VmTwinsUptoSaid : Prop := vmTwinsUptoRow.holds Tryz.pinned (OpenSpec.upto vmTwinsSpec)

/-- 'winnowlaw18.VmAbsm', WHERE WHAT IT READS IS OF BULK AT MOST 1048576: true; the input reads as it did. -/
def vmAbsmUptoRow : OpenClaim := { program := "ytblkblclmbhjiaagreat", sum := "f3d81692b63fdcaa4ce837ee59624cc8fe343dcad7359764a3313e95246ee622", func := "winnow/winnowlaw18.VmAbsm", spec := "vmAbsm", unfollowed := true, recurses := true, apart := false, narrowed := true }
def VmAbsmUptoSaid : Prop := vmAbsmUptoRow.holds Tryz.pinned (OpenSpec.upto vmAbsmSpec)

end Rows
end Go.Proofs.YtblkblclmbhjiaaGreat
