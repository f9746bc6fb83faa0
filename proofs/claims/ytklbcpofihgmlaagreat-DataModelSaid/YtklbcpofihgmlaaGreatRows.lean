/-
  No cell of these rows narrows 'for every input' (looked for: loops, veiled, ifaces, maps, wideKeys, modest, calm, conditions, laid).
  DERIVED. THE GIVEN ROWS OF THIS SEAT. 9 by the template 'for every input the law returns true; each argument reads behind the call as it read before'; 0 by the template 'total and deterministic' (their statements: YtklbcpofihgmlaaGreatTotals.lean).
  GIVEN WITH THE SEED: the statements are not yours to turn. If you find one false, say at which input.
  Laid BY PROGRAM, IN A SANDBOX (cutbox-rows.mjs): the forced cells as the released guide's own fill.sh prints them over the translation 0edc77de97178a0c… (all of the seat's roots in one cut). By AI agents, Wed Nov 11 2026. No macro, syntax, notation, axiom, sorry.
-/
import Derived.Test.YtklbcpofihgmlaaGreatChecked
import GoSem.Claim
import GoSem.ClaimJoined
import GoSem.ClaimMapViews
import Derived.JoinedTies
import Derived.KernelRfl
namespace Go.Proofs.YtklbcpofihgmlaaGreat
/- THE CELL 'sum', in the pinned program and in every row, IS THE sha256 OF THE DUMP (.gsa) THAT YtklbcpofihgmlaaGreatProg.lean LOADS. Nothing in Lean hashes anything: it is a label: what it is worth is what the hold of that sum in a sandbox is worth. -/
noncomputable def Tryz.pinned : Pinned := { name := "ytklbcpofihgmlaagreat", sum := "0edc77de97178a0c0fd4c35f1a446c476cb6b9f2e899ecce195470faf6fa6d65", checked := Tryz.checked }
namespace Rows
def none {H : Type} : Left H := { results := [], args := [] }

/-- 'ledgerstonelaw26.DataNumbers': WHATEVER THE INPUT: true; the input reads as it did. -/
def dataNumbersSpec : ChangeSpec := { name := "dataNumbers", fn := fun _ => fun
  | [] => { results := [.lit (.bool true)], args := [] }
  | _ => none }
def dataNumbersRow : OpenClaim := { program := "ytklbcpofihgmlaagreat", sum := "0edc77de97178a0c0fd4c35f1a446c476cb6b9f2e899ecce195470faf6fa6d65", func := "ledgerstone/ledgerstonelaw26.DataNumbers", spec := "dataNumbers", inPlace := ["slices.overlaps[ledgerstone/api.Extent]"], unfollowed := true, recurses := true, apart := false }
def DataNumbersSaid : Prop := dataNumbersRow.holds Tryz.pinned (OpenSpec.ofChange dataNumbersSpec)

/-- ITS FALSE NEIGHBOUR: 'it returns false'. Refute it at one input. -/
def dataNumbersWrong : ChangeSpec := { name := "dataNumbers", fn := fun _ => fun
  | [] => { results := [.lit (.bool false)], args := [] }
  | _ => none }
def DataNumbersWrongFalsely : Prop := dataNumbersRow.holds Tryz.pinned (OpenSpec.ofChange dataNumbersWrong)

/-- 'ledgerstonelaw26.DataWhole': WHATEVER THE INPUT: true; the input reads as it did. -/
def dataWholeSpec : ChangeSpec := { name := "dataWhole", fn := fun _ => fun
  | [d1, d2, d3, d4] => { results := [.lit (.bool true)], args := [d1, d2, d3, d4] }
  | _ => none }
def dataWholeRow : OpenClaim := { program := "ytklbcpofihgmlaagreat", sum := "0edc77de97178a0c0fd4c35f1a446c476cb6b9f2e899ecce195470faf6fa6d65", func := "ledgerstone/ledgerstonelaw26.DataWhole", spec := "dataWhole", inPlace := ["slices.overlaps[ledgerstone/api.Extent]"], unfollowed := true, recurses := true, apart := false }
def DataWholeSaid : Prop := dataWholeRow.holds Tryz.pinned (OpenSpec.ofChange dataWholeSpec)

/-- ITS FALSE NEIGHBOUR: 'it returns false'. Refute it at one input. -/
def dataWholeWrong : ChangeSpec := { name := "dataWhole", fn := fun _ => fun
  | [d1, d2, d3, d4] => { results := [.lit (.bool false)], args := [d1, d2, d3, d4] }
  | _ => none }
def DataWholeWrongFalsely : Prop := dataWholeRow.holds Tryz.pinned (OpenSpec.ofChange dataWholeWrong)

/-- 'ledgerstonelaw26.DataModel': WHATEVER THE INPUT: true; the input reads as it did. -/
def dataModelSpec : ChangeSpec := { name := "dataModel", fn := fun _ => fun
  | [d] => { results := [.lit (.bool true)], args := [d] }
  | _ => none }
def dataModelRow : OpenClaim := { program := "ytklbcpofihgmlaagreat", sum := "0edc77de97178a0c0fd4c35f1a446c476cb6b9f2e899ecce195470faf6fa6d65", func := "ledgerstone/ledgerstonelaw26.DataModel", spec := "dataModel", inPlace := ["slices.overlaps[ledgerstone/api.Extent]"], unfollowed := true, recurses := true, apart := false }
def DataModelSaid : Prop := dataModelRow.holds Tryz.pinned (OpenSpec.ofChange dataModelSpec)

/-- ITS FALSE NEIGHBOUR: 'it returns false'. Refute it at one input. -/
def dataModelWrong : ChangeSpec := { name := "dataModel", fn := fun _ => fun
  | [d] => { results := [.lit (.bool false)], args := [d] }
  | _ => none }
def DataModelWrongFalsely : Prop := dataModelRow.holds Tryz.pinned (OpenSpec.ofChange dataModelWrong)

/-- 'ledgerstonelaw27.DirsNumbers': WHATEVER THE INPUT: true; the input reads as it did. -/
def dirsNumbersSpec : ChangeSpec := { name := "dirsNumbers", fn := fun _ => fun
  | [] => { results := [.lit (.bool true)], args := [] }
  | _ => none }
def dirsNumbersRow : OpenClaim := { program := "ytklbcpofihgmlaagreat", sum := "0edc77de97178a0c0fd4c35f1a446c476cb6b9f2e899ecce195470faf6fa6d65", func := "ledgerstone/ledgerstonelaw27.DirsNumbers", spec := "dirsNumbers", inPlace := ["internal/bytealg.abigen_runtime_cmpstring", "slices.overlaps[ledgerstone/api.Entry]", "slices.overlaps[ledgerstone/api.Extent]"], unfollowed := true, recurses := true, apart := false }
def DirsNumbersSaid : Prop := dirsNumbersRow.holds Tryz.pinned (OpenSpec.ofChange dirsNumbersSpec)

/-- ITS FALSE NEIGHBOUR: 'it returns false'. Refute it at one input. -/
def dirsNumbersWrong : ChangeSpec := { name := "dirsNumbers", fn := fun _ => fun
  | [] => { results := [.lit (.bool false)], args := [] }
  | _ => none }
def DirsNumbersWrongFalsely : Prop := dirsNumbersRow.holds Tryz.pinned (OpenSpec.ofChange dirsNumbersWrong)

/-- 'ledgerstonelaw27.DirsBytes': WHATEVER THE INPUT: true; the input reads as it did. -/
def dirsBytesSpec : ChangeSpec := { name := "dirsBytes", fn := fun _ => fun
  | [d1, d2] => { results := [.lit (.bool true)], args := [d1, d2] }
  | _ => none }
def dirsBytesRow : OpenClaim := { program := "ytklbcpofihgmlaagreat", sum := "0edc77de97178a0c0fd4c35f1a446c476cb6b9f2e899ecce195470faf6fa6d65", func := "ledgerstone/ledgerstonelaw27.DirsBytes", spec := "dirsBytes", inPlace := ["internal/bytealg.abigen_runtime_cmpstring", "slices.overlaps[ledgerstone/api.Entry]", "slices.overlaps[ledgerstone/api.Extent]"], unfollowed := true, recurses := true, apart := false }
def DirsBytesSaid : Prop := dirsBytesRow.holds Tryz.pinned (OpenSpec.ofChange dirsBytesSpec)

/-- ITS FALSE NEIGHBOUR: 'it returns false'. Refute it at one input. -/
def dirsBytesWrong : ChangeSpec := { name := "dirsBytes", fn := fun _ => fun
  | [d1, d2] => { results := [.lit (.bool false)], args := [d1, d2] }
  | _ => none }
def DirsBytesWrongFalsely : Prop := dirsBytesRow.holds Tryz.pinned (OpenSpec.ofChange dirsBytesWrong)

/-- 'ledgerstonelaw27.DirsTells': WHATEVER THE INPUT: true; the input reads as it did. -/
def dirsTellsSpec : ChangeSpec := { name := "dirsTells", fn := fun _ => fun
  | [d] => { results := [.lit (.bool true)], args := [d] }
  | _ => none }
def dirsTellsRow : OpenClaim := { program := "ytklbcpofihgmlaagreat", sum := "0edc77de97178a0c0fd4c35f1a446c476cb6b9f2e899ecce195470faf6fa6d65", func := "ledgerstone/ledgerstonelaw27.DirsTells", spec := "dirsTells", inPlace := ["internal/bytealg.abigen_runtime_cmpstring", "slices.overlaps[ledgerstone/api.Entry]", "slices.overlaps[ledgerstone/api.Extent]"], unfollowed := true, recurses := true, apart := false }
def DirsTellsSaid : Prop := dirsTellsRow.holds Tryz.pinned (OpenSpec.ofChange dirsTellsSpec)

/-- ITS FALSE NEIGHBOUR: 'it returns false'. Refute it at one input. -/
def dirsTellsWrong : ChangeSpec := { name := "dirsTells", fn := fun _ => fun
  | [d] => { results := [.lit (.bool false)], args := [d] }
  | _ => none }
def DirsTellsWrongFalsely : Prop := dirsTellsRow.holds Tryz.pinned (OpenSpec.ofChange dirsTellsWrong)

/-- 'ledgerstonelaw27.DirsSpoilt': WHATEVER THE INPUT: true; the input reads as it did. -/
def dirsSpoiltSpec : ChangeSpec := { name := "dirsSpoilt", fn := fun _ => fun
  | [d1, d2, d3] => { results := [.lit (.bool true)], args := [d1, d2, d3] }
  | _ => none }
def dirsSpoiltRow : OpenClaim := { program := "ytklbcpofihgmlaagreat", sum := "0edc77de97178a0c0fd4c35f1a446c476cb6b9f2e899ecce195470faf6fa6d65", func := "ledgerstone/ledgerstonelaw27.DirsSpoilt", spec := "dirsSpoilt", inPlace := ["internal/bytealg.abigen_runtime_cmpstring", "slices.overlaps[ledgerstone/api.Entry]", "slices.overlaps[ledgerstone/api.Extent]"], unfollowed := true, recurses := true, apart := false }
def DirsSpoiltSaid : Prop := dirsSpoiltRow.holds Tryz.pinned (OpenSpec.ofChange dirsSpoiltSpec)

/-- ITS FALSE NEIGHBOUR: 'it returns false'. Refute it at one input. -/
def dirsSpoiltWrong : ChangeSpec := { name := "dirsSpoilt", fn := fun _ => fun
  | [d1, d2, d3] => { results := [.lit (.bool false)], args := [d1, d2, d3] }
  | _ => none }
def DirsSpoiltWrongFalsely : Prop := dirsSpoiltRow.holds Tryz.pinned (OpenSpec.ofChange dirsSpoiltWrong)

/-- 'ledgerstonelaw27.DirsBack': WHATEVER THE INPUT: true; the input reads as it did. -/
def dirsBackSpec : ChangeSpec := { name := "dirsBack", fn := fun _ => fun
  | [d1, d2] => { results := [.lit (.bool true)], args := [d1, d2] }
  | _ => none }
def dirsBackRow : OpenClaim := { program := "ytklbcpofihgmlaagreat", sum := "0edc77de97178a0c0fd4c35f1a446c476cb6b9f2e899ecce195470faf6fa6d65", func := "ledgerstone/ledgerstonelaw27.DirsBack", spec := "dirsBack", inPlace := ["internal/bytealg.abigen_runtime_cmpstring", "slices.overlaps[ledgerstone/api.Entry]", "slices.overlaps[ledgerstone/api.Extent]"], unfollowed := true, recurses := true, apart := false }
def DirsBackSaid : Prop := dirsBackRow.holds Tryz.pinned (OpenSpec.ofChange dirsBackSpec)

/-- ITS FALSE NEIGHBOUR: 'it returns false'. Refute it at one input. -/
def dirsBackWrong : ChangeSpec := { name := "dirsBack", fn := fun _ => fun
  | [d1, d2] => { results := [.lit (.bool false)], args := [d1, d2] }
  | _ => none }
def DirsBackWrongFalsely : Prop := dirsBackRow.holds Tryz.pinned (OpenSpec.ofChange dirsBackWrong)

/-- 'ledgerstonelaw27.DirsMap': WHATEVER THE INPUT: true; the input reads as it did. -/
def dirsMapSpec : ChangeSpec := { name := "dirsMap", fn := fun _ => fun
  | [d] => { results := [.lit (.bool true)], args := [d] }
  | _ => none }
def dirsMapRow : OpenClaim := { program := "ytklbcpofihgmlaagreat", sum := "0edc77de97178a0c0fd4c35f1a446c476cb6b9f2e899ecce195470faf6fa6d65", func := "ledgerstone/ledgerstonelaw27.DirsMap", spec := "dirsMap", inPlace := ["internal/bytealg.abigen_runtime_cmpstring", "slices.overlaps[ledgerstone/api.Entry]", "slices.overlaps[ledgerstone/api.Extent]"], unfollowed := true, recurses := true, apart := false }
def DirsMapSaid : Prop := dirsMapRow.holds Tryz.pinned (OpenSpec.ofChange dirsMapSpec)

/-- ITS FALSE NEIGHBOUR: 'it returns false'. Refute it at one input. -/
def dirsMapWrong : ChangeSpec := { name := "dirsMap", fn := fun _ => fun
  | [d] => { results := [.lit (.bool false)], args := [d] }
  | _ => none }
def DirsMapWrongFalsely : Prop := dirsMapRow.holds Tryz.pinned (OpenSpec.ofChange dirsMapWrong)

/- THE SECOND FORM. 'bulk': how many values and letters a reading holds, each counted each time it is reached (what is shared counts as often as it is met; a slice's spare places count too). A statement '..UptoSaid' is the law's where the arguments, and the package variables that the reading takes, are together of bulk at most 1048576: NARROWER than '..Said'. Prove '..Said' where nothing that the law and all that it calls make is longer than what came in: it says more and counts as full. Else prove '..UptoSaid'. A law counts once. -/
mutual
def uptoBulk {H : Type} : DataW H → Nat
  | .lit (.string bytes) => bytes.length + 1
  | .lit _ => 1
  | .nil => 1
  | .ptr d => uptoBulk d + 1
  | .slice elems spare => uptoBulkAll elems + uptoBulkAll spare + 1
  | .agg parts => uptoBulkAll parts + 1
  | .iface _ d => uptoBulk d + 1
  | .map entries => uptoBulkEntries entries + 1
  | .held _ => 1
def uptoBulkAll {H : Type} : List (DataW H) → Nat
  | [] => 0
  | d :: r => uptoBulk d + uptoBulkAll r
def uptoBulkEntries {H : Type} : List (Lit × DataW H) → Nat
  | [] => 0
  | x :: r => uptoBulkEntry x + uptoBulkEntries r
def uptoBulkEntry {H : Type} : Lit × DataW H → Nat
  | (.string bytes, d) => bytes.length + uptoBulk d + 1
  | (_, d) => uptoBulk d + 1
 end
def uptoSmall : (H : Type) → List (DataW H) → Bool := fun _ ds => decide (uptoBulkAll ds ≤ 1048576)
def OpenSpec.upto (s : _root_.Go.ChangeSpec) : _root_.Go.OpenSpec := { _root_.Go.OpenSpec.ofChange s with cond := some uptoSmall }

/-- 'ledgerstonelaw26.DataNumbers', WHERE WHAT IT READS IS OF BULK AT MOST 1048576: true; the input reads as it did. -/
def dataNumbersUptoRow : OpenClaim := { program := "ytklbcpofihgmlaagreat", sum := "0edc77de97178a0c0fd4c35f1a446c476cb6b9f2e899ecce195470faf6fa6d65", func := "ledgerstone/ledgerstonelaw26.DataNumbers", spec := "dataNumbers", inPlace := ["slices.overlaps[ledgerstone/api.Extent]"], unfollowed := true, recurses := true, apart := false, narrowed := true }
def DataNumbersUptoSaid : Prop := dataNumbersUptoRow.holds Tryz.pinned (OpenSpec.upto dataNumbersSpec)

/-- 'ledgerstonelaw26.DataWhole', WHERE WHAT IT READS IS OF BULK AT MOST 1048576: true; the input reads as it did. -/
def dataWholeUptoRow : OpenClaim := { program := "ytklbcpofihgmlaagreat", sum := "0edc77de97178a0c0fd4c35f1a446c476cb6b9f2e899ecce195470faf6fa6d65", func := "ledgerstone/ledgerstonelaw26.DataWhole", spec := "dataWhole", inPlace := ["slices.overlaps[ledgerstone/api.Extent]"], unfollowed := true, recurses := true, apart := false, narrowed := true }
def DataWholeUptoSaid : Prop := dataWholeUptoRow.holds Tryz.pinned (OpenSpec.upto dataWholeSpec)

/-- 'ledgerstonelaw26.DataModel', WHERE WHAT IT READS IS OF BULK AT MOST 1048576: true; the input reads as it did. -/
def dataModelUptoRow : OpenClaim := { program := "ytklbcpofihgmlaagreat", sum := "0edc77de97178a0c0fd4c35f1a446c476cb6b9f2e899ecce195470faf6fa6d65", func := "ledgerstone/ledgerstonelaw26.DataModel", spec := "dataModel", inPlace := ["slices.overlaps[ledgerstone/api.Extent]"], unfollowed := true, recurses := true, apart := false, narrowed := true }
def DataModelUptoSaid : Prop := dataModelUptoRow.holds Tryz.pinned (OpenSpec.upto dataModelSpec)

/-- 'ledgerstonelaw27.DirsNumbers', WHERE WHAT IT READS IS OF BULK AT MOST 1048576: true; the input reads as it did. -/
def dirsNumbersUptoRow : OpenClaim := { program := "ytklbcpofihgmlaagreat", sum := "0edc77de97178a0c0fd4c35f1a446c476cb6b9f2e899ecce195470faf6fa6d65", func := "ledgerstone/ledgerstonelaw27.DirsNumbers", spec := "dirsNumbers", inPlace := ["internal/bytealg.abigen_runtime_cmpstring", "slices.overlaps[ledgerstone/api.Entry]", "slices.overlaps[ledgerstone/api.Extent]"], unfollowed := true, recurses := true, apart := false, narrowed := true }
def DirsNumbersUptoSaid : Prop := dirsNumbersUptoRow.holds Tryz.pinned (OpenSpec.upto dirsNumbersSpec)

/-- 'ledgerstonelaw27.DirsBytes', WHERE WHAT IT READS IS OF BULK AT MOST 1048576: true; the input reads as it did. -/
def dirsBytesUptoRow : OpenClaim := { program := "ytklbcpofihgmlaagreat", sum := "0edc77de97178a0c0fd4c35f1a446c476cb6b9f2e899ecce195470faf6fa6d65", func := "ledgerstone/ledgerstonelaw27.DirsBytes", spec := "dirsBytes", inPlace := ["internal/bytealg.abigen_runtime_cmpstring", "slices.overlaps[ledgerstone/api.Entry]", "slices.overlaps[ledgerstone/api.Extent]"], unfollowed := true, recurses := true, apart := false, narrowed := true }
def DirsBytesUptoSaid : Prop := dirsBytesUptoRow.holds Tryz.pinned (OpenSpec.upto dirsBytesSpec)

/-- 'ledgerstonelaw27.DirsTells', WHERE WHAT IT READS IS OF BULK AT MOST 1048576: true; the input reads as it did. -/
def dirsTellsUptoRow : OpenClaim := { program := "ytklbcpofihgmlaagreat", sum := "0edc77de97178a0c0fd4c35f1a446c476cb6b9f2e899ecce195470faf6fa6d65", func := "ledgerstone/ledgerstonelaw27.DirsTells", spec := "dirsTells", inPlace := ["internal/bytealg.abigen_runtime_cmpstring", "slices.overlaps[ledgerstone/api.Entry]", "slices.overlaps[ledgerstone/api.Extent]"], unfollowed := true, recurses := true, apart := false, narrowed := true }
def DirsTellsUptoSaid : Prop := dirsTellsUptoRow.holds Tryz.pinned (OpenSpec.upto dirsTellsSpec)

/-- 'ledgerstonelaw27.DirsSpoilt', WHERE WHAT IT READS IS OF BULK AT MOST 1048576: true; the input reads as it did. -/
def dirsSpoiltUptoRow : OpenClaim := { program := "ytklbcpofihgmlaagreat", sum := "0edc77de97178a0c0fd4c35f1a446c476cb6b9f2e899ecce195470faf6fa6d65", func := "ledgerstone/ledgerstonelaw27.DirsSpoilt", spec := "dirsSpoilt", inPlace := ["internal/bytealg.abigen_runtime_cmpstring", "slices.overlaps[ledgerstone/api.Entry]", "slices.overlaps[ledgerstone/api.Extent]"], unfollowed := true, recurses := true, apart := false, narrowed := true }
def DirsSpoiltUptoSaid : Prop := dirsSpoiltUptoRow.holds Tryz.pinned (OpenSpec.upto dirsSpoiltSpec)

/-- 'ledgerstonelaw27.DirsBack', WHERE WHAT IT READS IS OF BULK AT MOST 1048576: true; the input reads as it did. -/
def dirsBackUptoRow : OpenClaim := { program := "ytklbcpofihgmlaagreat", sum := "0edc77de97178a0c0fd4c35f1a446c476cb6b9f2e899ecce195470faf6fa6d65", func := "ledgerstone/ledgerstonelaw27.DirsBack", spec := "dirsBack", inPlace := ["internal/bytealg.abigen_runtime_cmpstring", "slices.overlaps[ledgerstone/api.Entry]", "slices.overlaps[ledgerstone/api.Extent]"], unfollowed := true, recurses := true, apart := false, narrowed := true }
def DirsBackUptoSaid : Prop := dirsBackUptoRow.holds Tryz.pinned (OpenSpec.upto dirsBackSpec)

/-- 'ledgerstonelaw27.DirsMap', WHERE WHAT IT READS IS OF BULK AT MOST 1048576: true; the input reads as it did. -/
def dirsMapUptoRow : OpenClaim := { program := "ytklbcpofihgmlaagreat", sum := "0edc77de97178a0c0fd4c35f1a446c476cb6b9f2e899ecce195470faf6fa6d65", func := "ledgerstone/ledgerstonelaw27.DirsMap", spec := "dirsMap", inPlace := ["internal/bytealg.abigen_runtime_cmpstring", "slices.overlaps[ledgerstone/api.Entry]", "slices.overlaps[ledgerstone/api.Extent]"], unfollowed := true, recurses := true, apart := false, narrowed := true }
def DirsMapUptoSaid : Prop := dirsMapUptoRow.holds Tryz.pinned (OpenSpec.upto dirsMapSpec)

end Rows
end Go.Proofs.YtklbcpofihgmlaaGreat
