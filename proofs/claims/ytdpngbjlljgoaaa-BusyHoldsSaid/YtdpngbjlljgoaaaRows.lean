/-
  No cell of these rows narrows 'for every input' (looked for: loops, veiled, ifaces, maps, wideKeys, modest, calm, conditions, laid).
  DERIVED. THE GIVEN ROWS OF THIS SEAT. 4 by the template 'for every input the law returns true; each argument reads behind the call as it read before'; 0 by the template 'total and deterministic' (their statements: YtdpngbjlljgoaaaTotals.lean).
  GIVEN WITH THE SEED: the statements are not yours to turn. If you find one false, say at which input.
  Laid BY PROGRAM, IN A SANDBOX (cutbox-rows.mjs): the forced cells as the released guide's own fill.sh prints them over the translation f5c6e6fe2b17a77e… (all of the seat's roots in one cut). By AI agents, Wed Nov 11 2026. No macro, syntax, notation, axiom, sorry.
-/
import Derived.Test.YtdpngbjlljgoaaaChecked
import GoSem.Claim
import GoSem.ClaimJoined
import GoSem.ClaimMapViews
import Derived.JoinedTies
import Derived.KernelRfl
namespace Go.Proofs.Ytdpngbjlljgoaaa
/- THE CELL 'sum', in the pinned program and in every row, IS THE sha256 OF THE DUMP (.gsa) THAT YtdpngbjlljgoaaaProg.lean LOADS. Nothing in Lean hashes anything: it is a label: what it is worth is what the hold of that sum in a sandbox is worth. -/
noncomputable def Try.pinned : Pinned := { name := "ytdpngbjlljgoaaa", sum := "f5c6e6fe2b17a77e5a6ac479237ce9b6d4726f5e76ebfde6839e09a4528f95d5", checked := Try.checked }
namespace Rows
def none {H : Type} : Left H := { results := [], args := [] }

/-- 'chimelaw2.LineBack': WHATEVER THE INPUT: true; the input reads as it did. -/
def lineBackSpec : ChangeSpec := { name := "lineBack", fn := fun _ => fun
  | [d1, d2] => { results := [.lit (.bool true)], args := [d1, d2] }
  | _ => none }
def lineBackRow : OpenClaim := { program := "ytdpngbjlljgoaaa", sum := "f5c6e6fe2b17a77e5a6ac479237ce9b6d4726f5e76ebfde6839e09a4528f95d5", func := "chimework/chimelaw2.LineBack", spec := "lineBack", inPlace := ["internal/abi.NoEscape", "internal/bytealg.IndexByteString", "internal/bytealg.IndexString"], unfollowed := true, recurses := true, named := ["internal/bytealg.MaxLen"], apart := false }
def LineBackSaid : Prop := lineBackRow.holds Try.pinned (OpenSpec.ofChange lineBackSpec)

/-- ITS FALSE NEIGHBOUR: 'it returns false'. Refute it at one input. -/
def lineBackWrong : ChangeSpec := { name := "lineBack", fn := fun _ => fun
  | [d1, d2] => { results := [.lit (.bool false)], args := [d1, d2] }
  | _ => none }
def LineBackWrongFalsely : Prop := lineBackRow.holds Try.pinned (OpenSpec.ofChange lineBackWrong)

/-- 'chimelaw4.BusySums': WHATEVER THE INPUT: true; the input reads as it did. -/
def busySumsSpec : ChangeSpec := { name := "busySums", fn := fun _ => fun
  | [d1, d2, d3] => { results := [.lit (.bool true)], args := [d1, d2, d3] }
  | _ => none }
def busySumsRow : OpenClaim := { program := "ytdpngbjlljgoaaa", sum := "f5c6e6fe2b17a77e5a6ac479237ce9b6d4726f5e76ebfde6839e09a4528f95d5", func := "chimework/chimelaw4.BusySums", spec := "busySums", unfollowed := true, recurses := true, apart := false }
def BusySumsSaid : Prop := busySumsRow.holds Try.pinned (OpenSpec.ofChange busySumsSpec)

/-- ITS FALSE NEIGHBOUR: 'it returns false'. Refute it at one input. -/
def busySumsWrong : ChangeSpec := { name := "busySums", fn := fun _ => fun
  | [d1, d2, d3] => { results := [.lit (.bool false)], args := [d1, d2, d3] }
  | _ => none }
def BusySumsWrongFalsely : Prop := busySumsRow.holds Try.pinned (OpenSpec.ofChange busySumsWrong)

/-- 'chimelaw2.BusyHolds': WHATEVER THE INPUT: true; the input reads as it did. -/
def busyHoldsSpec : ChangeSpec := { name := "busyHolds", fn := fun _ => fun
  | [d1, d2, d3, d4, d5, d6] => { results := [.lit (.bool true)], args := [d1, d2, d3, d4, d5, d6] }
  | _ => none }
def busyHoldsRow : OpenClaim := { program := "ytdpngbjlljgoaaa", sum := "f5c6e6fe2b17a77e5a6ac479237ce9b6d4726f5e76ebfde6839e09a4528f95d5", func := "chimework/chimelaw2.BusyHolds", spec := "busyHolds", unfollowed := true, recurses := true, apart := false }
def BusyHoldsSaid : Prop := busyHoldsRow.holds Try.pinned (OpenSpec.ofChange busyHoldsSpec)

/-- ITS FALSE NEIGHBOUR: 'it returns false'. Refute it at one input. -/
def busyHoldsWrong : ChangeSpec := { name := "busyHolds", fn := fun _ => fun
  | [d1, d2, d3, d4, d5, d6] => { results := [.lit (.bool false)], args := [d1, d2, d3, d4, d5, d6] }
  | _ => none }
def BusyHoldsWrongFalsely : Prop := busyHoldsRow.holds Try.pinned (OpenSpec.ofChange busyHoldsWrong)

/-- 'chimelaw2.WheelSame': WHATEVER THE INPUT: true; the input reads as it did. -/
def wheelSameSpec : ChangeSpec := { name := "wheelSame", fn := fun _ => fun
  | [d1, d2, d3] => { results := [.lit (.bool true)], args := [d1, d2, d3] }
  | _ => none }
def wheelSameRow : OpenClaim := { program := "ytdpngbjlljgoaaa", sum := "f5c6e6fe2b17a77e5a6ac479237ce9b6d4726f5e76ebfde6839e09a4528f95d5", func := "chimework/chimelaw2.WheelSame", spec := "wheelSame", inPlace := ["internal/bytealg.abigen_runtime_cmpstring"], unfollowed := true, recurses := true, apart := false }
def WheelSameSaid : Prop := wheelSameRow.holds Try.pinned (OpenSpec.ofChange wheelSameSpec)

/-- ITS FALSE NEIGHBOUR: 'it returns false'. Refute it at one input. -/
def wheelSameWrong : ChangeSpec := { name := "wheelSame", fn := fun _ => fun
  | [d1, d2, d3] => { results := [.lit (.bool false)], args := [d1, d2, d3] }
  | _ => none }
def WheelSameWrongFalsely : Prop := wheelSameRow.holds Try.pinned (OpenSpec.ofChange wheelSameWrong)

/- THE SECOND FORM. 'bulk': how many values and letters a reading holds, each counted each time it is reached (what is shared counts as often as it is met; a slice's spare places count too). A statement '..UptoSaid' is the law's where the arguments, and the package variables that the reading takes, are together of bulk at most 1048576: NARROWER than '..Said'. Prove '..Said' where nothing that the law and all that it calls make is longer than what came in: it says more and counts as full. Else prove '..UptoSaid'. A law counts once. -/
mutual
def uptoBulk {H : Type} : DataW H → Nat
  | .lit (.string bytes) => bytes.length + 1
  | .lit _ => 1
  | .nil => 1
  | .ptr d => uptoBulk d + 1
  | .slice elems spare => uptoBulkAll elems + uptoBulkAll spare + 1
  | .agg parts => uptoBulkAll parts + 1
  | .iface _ d => uptoBulk d + 1
  | .map entries => uptoBulkEntries entries + 1
  | .held _ => 1
def uptoBulkAll {H : Type} : List (DataW H) → Nat
  | [] => 0
  | d :: r => uptoBulk d + uptoBulkAll r
def uptoBulkEntries {H : Type} : List (Lit × DataW H) → Nat
  | [] => 0
  | x :: r => uptoBulkEntry x + uptoBulkEntries r
def uptoBulkEntry {H : Type} : Lit × DataW H → Nat
  | (.string bytes, d) => bytes.length + uptoBulk d + 1
  | (_, d) => uptoBulk d + 1
 end
def uptoSmall : (H : Type) → List (DataW H) → Bool := fun _ ds => decide (uptoBulkAll ds ≤ 1048576)
def OpenSpec.upto (s : _root_.Go.ChangeSpec) : _root_.Go.OpenSpec := { _root_.Go.OpenSpec.ofChange s with cond := some uptoSmall }

/-- 'chimelaw2.LineBack', WHERE WHAT IT READS IS OF BULK AT MOST 1048576: true; the input reads as it did. -/
def lineBackUptoRow : OpenClaim := { program := "ytdpngbjlljgoaaa", sum := "f5c6e6fe2b17a77e5a6ac479237ce9b6d4726f5e76ebfde6839e09a4528f95d5", func := "chimework/chimelaw2.LineBack", spec := "lineBack", inPlace := ["internal/abi.NoEscape", "internal/bytealg.IndexByteString", "internal/bytealg.IndexString"], unfollowed := true, recurses := true, named := ["internal/bytealg.MaxLen"], apart := false, narrowed := true }
def LineBackUptoSaid : Prop := lineBackUptoRow.holds Try.pinned (OpenSpec.upto lineBackSpec)

/-- 'chimelaw4.BusySums', WHERE WHAT IT READS IS OF BULK AT MOST 1048576: true; the input reads as it did. -/
def busySumsUptoRow : OpenClaim := { program := "ytdpngbjlljgoaaa", sum := "f5c6e6fe2b17a77e5a6ac479237ce9b6d4726f5e76ebfde6839e09a4528f95d5", func := "chimework/chimelaw4.BusySums", spec := "busySums", unfollowed := true, recurses := true, apart := false, narrowed := true }
def BusySumsUptoSaid : Prop := busySumsUptoRow.holds Try.pinned (OpenSpec.upto busySumsSpec)

/-- 'chimelaw2.BusyHolds', WHERE WHAT IT READS IS OF BULK AT MOST 1048576: true; the input reads as it did. -/
def busyHoldsUptoRow : OpenClaim := { program := "ytdpngbjlljgoaaa", sum := "f5c6e6fe2b17a77e5a6ac479237ce9b6d4726f5e76ebfde6839e09a4528f95d5", func := "chimework/chimelaw2.BusyHolds", spec := "busyHolds", unfollowed := true, recurses := true, apart := false, narrowed := true }
def BusyHoldsUptoSaid : Prop := busyHoldsUptoRow.holds Try.pinned (OpenSpec.upto busyHoldsSpec)

/-- 'chimelaw2.WheelSame', WHERE WHAT IT READS IS OF BULK AT MOST 1048576: true; the input reads as it did. -/
def wheelSameUptoRow : OpenClaim := { program := "ytdpngbjlljgoaaa", sum := "f5c6e6fe2b17a77e5a6ac479237ce9b6d4726f5e76ebfde6839e09a4528f95d5", func := "chimework/chimelaw2.WheelSame", spec := "wheelSame", inPlace := ["internal/bytealg.abigen_runtime_cmpstring"], unfollowed := true, recurses := true, apart := false, narrowed := true }
def WheelSameUptoSaid : Prop := wheelSameUptoRow.holds Try.pinned (OpenSpec.upto wheelSameSpec)

end Rows
end Go.Proofs.Ytdpngbjlljgoaaa
