/-
  No cell of these rows narrows 'for every input' (looked for: loops, veiled, ifaces, maps, wideKeys, modest, calm, conditions, laid).
  DERIVED. THE GIVEN ROWS OF THIS SEAT. 11 by the template 'for every input the law returns true; each argument reads behind the call as it read before'; 0 by the template 'total and deterministic' (their statements: YtbpdbgcndfcilaaTotals.lean).
  GIVEN WITH THE SEED: the statements are not yours to turn. If you find one false, say at which input.
  Laid BY PROGRAM, IN A SANDBOX (cutbox-rows.mjs): the forced cells as the released guide's own fill.sh prints them over the translation 3235274700007990… (all of the seat's roots in one cut). By AI agents, Wed Nov 11 2026. No macro, syntax, notation, axiom, sorry.
-/
import Derived.Test.YtbpdbgcndfcilaaChecked
import GoSem.Claim
import GoSem.ClaimJoined
import GoSem.ClaimMapViews
import Derived.JoinedTies
import Derived.KernelRfl
namespace Go.Proofs.Ytbpdbgcndfcilaa
/- THE CELL 'sum', in the pinned program and in every row, IS THE sha256 OF THE DUMP (.gsa) THAT YtbpdbgcndfcilaaProg.lean LOADS. Nothing in Lean hashes anything: it is a label: what it is worth is what the hold of that sum in a sandbox is worth. -/
noncomputable def Try.pinned : Pinned := { name := "ytbpdbgcndfcilaa", sum := "3235274700007990ac6bbeb2979444de2e052686aa1bdb4deb69abec74679bc9", checked := Try.checked }
namespace Rows
def none {H : Type} : Left H := { results := [], args := [] }

/-- 'ledgerstonelaw08.JournalNone': WHATEVER THE INPUT: true; the input reads as it did. -/
def journalNoneSpec : ChangeSpec := { name := "journalNone", fn := fun _ => fun
  | [d] => { results := [.lit (.bool true)], args := [d] }
  | _ => none }
def journalNoneRow : OpenClaim := { program := "ytbpdbgcndfcilaa", sum := "3235274700007990ac6bbeb2979444de2e052686aa1bdb4deb69abec74679bc9", func := "ledgerstone/ledgerstonelaw08.JournalNone", spec := "journalNone", unfollowed := true, recurses := true, apart := false }
def JournalNoneSaid : Prop := journalNoneRow.holds Try.pinned (OpenSpec.ofChange journalNoneSpec)

/-- ITS FALSE NEIGHBOUR: 'it returns false'. Refute it at one input. -/
def journalNoneWrong : ChangeSpec := { name := "journalNone", fn := fun _ => fun
  | [d] => { results := [.lit (.bool false)], args := [d] }
  | _ => none }
def JournalNoneWrongFalsely : Prop := journalNoneRow.holds Try.pinned (OpenSpec.ofChange journalNoneWrong)

/-- 'ledgerstonelaw08.JournalNumbers': WHATEVER THE INPUT: true; the input reads as it did. -/
def journalNumbersSpec : ChangeSpec := { name := "journalNumbers", fn := fun _ => fun
  | [] => { results := [.lit (.bool true)], args := [] }
  | _ => none }
def journalNumbersRow : OpenClaim := { program := "ytbpdbgcndfcilaa", sum := "3235274700007990ac6bbeb2979444de2e052686aa1bdb4deb69abec74679bc9", func := "ledgerstone/ledgerstonelaw08.JournalNumbers", spec := "journalNumbers", unfollowed := true, recurses := true, apart := false }
def JournalNumbersSaid : Prop := journalNumbersRow.holds Try.pinned (OpenSpec.ofChange journalNumbersSpec)

/-- ITS FALSE NEIGHBOUR: 'it returns false'. Refute it at one input. -/
def journalNumbersWrong : ChangeSpec := { name := "journalNumbers", fn := fun _ => fun
  | [] => { results := [.lit (.bool false)], args := [] }
  | _ => none }
def JournalNumbersWrongFalsely : Prop := journalNumbersRow.holds Try.pinned (OpenSpec.ofChange journalNumbersWrong)

/-- 'ledgerstonelaw09.ScanAny': WHATEVER THE INPUT: true; the input reads as it did. -/
def scanAnySpec : ChangeSpec := { name := "scanAny", fn := fun _ => fun
  | [d1, d2] => { results := [.lit (.bool true)], args := [d1, d2] }
  | _ => none }
def scanAnyRow : OpenClaim := { program := "ytbpdbgcndfcilaa", sum := "3235274700007990ac6bbeb2979444de2e052686aa1bdb4deb69abec74679bc9", func := "ledgerstone/ledgerstonelaw09.ScanAny", spec := "scanAny", unfollowed := true, recurses := true, apart := false }
def ScanAnySaid : Prop := scanAnyRow.holds Try.pinned (OpenSpec.ofChange scanAnySpec)

/-- ITS FALSE NEIGHBOUR: 'it returns false'. Refute it at one input. -/
def scanAnyWrong : ChangeSpec := { name := "scanAny", fn := fun _ => fun
  | [d1, d2] => { results := [.lit (.bool false)], args := [d1, d2] }
  | _ => none }
def ScanAnyWrongFalsely : Prop := scanAnyRow.holds Try.pinned (OpenSpec.ofChange scanAnyWrong)

/-- 'ledgerstonelaw09.ScanNumbers': WHATEVER THE INPUT: true; the input reads as it did. -/
def scanNumbersSpec : ChangeSpec := { name := "scanNumbers", fn := fun _ => fun
  | [] => { results := [.lit (.bool true)], args := [] }
  | _ => none }
def scanNumbersRow : OpenClaim := { program := "ytbpdbgcndfcilaa", sum := "3235274700007990ac6bbeb2979444de2e052686aa1bdb4deb69abec74679bc9", func := "ledgerstone/ledgerstonelaw09.ScanNumbers", spec := "scanNumbers", unfollowed := true, recurses := true, apart := false }
def ScanNumbersSaid : Prop := scanNumbersRow.holds Try.pinned (OpenSpec.ofChange scanNumbersSpec)

/-- ITS FALSE NEIGHBOUR: 'it returns false'. Refute it at one input. -/
def scanNumbersWrong : ChangeSpec := { name := "scanNumbers", fn := fun _ => fun
  | [] => { results := [.lit (.bool false)], args := [] }
  | _ => none }
def ScanNumbersWrongFalsely : Prop := scanNumbersRow.holds Try.pinned (OpenSpec.ofChange scanNumbersWrong)

/-- 'ledgerstonelaw09.ScanTells': WHATEVER THE INPUT: true; the input reads as it did. -/
def scanTellsSpec : ChangeSpec := { name := "scanTells", fn := fun _ => fun
  | [d1, d2, d3, d4, d5] => { results := [.lit (.bool true)], args := [d1, d2, d3, d4, d5] }
  | _ => none }
def scanTellsRow : OpenClaim := { program := "ytbpdbgcndfcilaa", sum := "3235274700007990ac6bbeb2979444de2e052686aa1bdb4deb69abec74679bc9", func := "ledgerstone/ledgerstonelaw09.ScanTells", spec := "scanTells", unfollowed := true, recurses := true, apart := false }
def ScanTellsSaid : Prop := scanTellsRow.holds Try.pinned (OpenSpec.ofChange scanTellsSpec)

/-- ITS FALSE NEIGHBOUR: 'it returns false'. Refute it at one input. -/
def scanTellsWrong : ChangeSpec := { name := "scanTells", fn := fun _ => fun
  | [d1, d2, d3, d4, d5] => { results := [.lit (.bool false)], args := [d1, d2, d3, d4, d5] }
  | _ => none }
def ScanTellsWrongFalsely : Prop := scanTellsRow.holds Try.pinned (OpenSpec.ofChange scanTellsWrong)

/-- 'ledgerstonelaw10.ReplaySpares': WHATEVER THE INPUT: true; the input reads as it did. -/
def replaySparesSpec : ChangeSpec := { name := "replaySpares", fn := fun _ => fun
  | [d1, d2] => { results := [.lit (.bool true)], args := [d1, d2] }
  | _ => none }
def replaySparesRow : OpenClaim := { program := "ytbpdbgcndfcilaa", sum := "3235274700007990ac6bbeb2979444de2e052686aa1bdb4deb69abec74679bc9", func := "ledgerstone/ledgerstonelaw10.ReplaySpares", spec := "replaySpares", unfollowed := true, recurses := true, apart := false }
def ReplaySparesSaid : Prop := replaySparesRow.holds Try.pinned (OpenSpec.ofChange replaySparesSpec)

/-- ITS FALSE NEIGHBOUR: 'it returns false'. Refute it at one input. -/
def replaySparesWrong : ChangeSpec := { name := "replaySpares", fn := fun _ => fun
  | [d1, d2] => { results := [.lit (.bool false)], args := [d1, d2] }
  | _ => none }
def ReplaySparesWrongFalsely : Prop := replaySparesRow.holds Try.pinned (OpenSpec.ofChange replaySparesWrong)

/-- 'ledgerstonelaw08.JournalWhole': WHATEVER THE INPUT: true; the input reads as it did. -/
def journalWholeSpec : ChangeSpec := { name := "journalWhole", fn := fun _ => fun
  | [d1, d2] => { results := [.lit (.bool true)], args := [d1, d2] }
  | _ => none }
def journalWholeRow : OpenClaim := { program := "ytbpdbgcndfcilaa", sum := "3235274700007990ac6bbeb2979444de2e052686aa1bdb4deb69abec74679bc9", func := "ledgerstone/ledgerstonelaw08.JournalWhole", spec := "journalWhole", unfollowed := true, recurses := true, apart := false }
def JournalWholeSaid : Prop := journalWholeRow.holds Try.pinned (OpenSpec.ofChange journalWholeSpec)

/-- ITS FALSE NEIGHBOUR: 'it returns false'. Refute it at one input. -/
def journalWholeWrong : ChangeSpec := { name := "journalWhole", fn := fun _ => fun
  | [d1, d2] => { results := [.lit (.bool false)], args := [d1, d2] }
  | _ => none }
def JournalWholeWrongFalsely : Prop := journalWholeRow.holds Try.pinned (OpenSpec.ofChange journalWholeWrong)

/-- 'ledgerstonelaw09.ScanKept': WHATEVER THE INPUT: true; the input reads as it did. -/
def scanKeptSpec : ChangeSpec := { name := "scanKept", fn := fun _ => fun
  | [d1, d2, d3, d4, d5, d6, d7] => { results := [.lit (.bool true)], args := [d1, d2, d3, d4, d5, d6, d7] }
  | _ => none }
def scanKeptRow : OpenClaim := { program := "ytbpdbgcndfcilaa", sum := "3235274700007990ac6bbeb2979444de2e052686aa1bdb4deb69abec74679bc9", func := "ledgerstone/ledgerstonelaw09.ScanKept", spec := "scanKept", unfollowed := true, recurses := true, apart := false }
def ScanKeptSaid : Prop := scanKeptRow.holds Try.pinned (OpenSpec.ofChange scanKeptSpec)

/-- ITS FALSE NEIGHBOUR: 'it returns false'. Refute it at one input. -/
def scanKeptWrong : ChangeSpec := { name := "scanKept", fn := fun _ => fun
  | [d1, d2, d3, d4, d5, d6, d7] => { results := [.lit (.bool false)], args := [d1, d2, d3, d4, d5, d6, d7] }
  | _ => none }
def ScanKeptWrongFalsely : Prop := scanKeptRow.holds Try.pinned (OpenSpec.ofChange scanKeptWrong)

/-- 'ledgerstonelaw10.ReplayNumbers': WHATEVER THE INPUT: true; the input reads as it did. -/
def replayNumbersSpec : ChangeSpec := { name := "replayNumbers", fn := fun _ => fun
  | [] => { results := [.lit (.bool true)], args := [] }
  | _ => none }
def replayNumbersRow : OpenClaim := { program := "ytbpdbgcndfcilaa", sum := "3235274700007990ac6bbeb2979444de2e052686aa1bdb4deb69abec74679bc9", func := "ledgerstone/ledgerstonelaw10.ReplayNumbers", spec := "replayNumbers", unfollowed := true, recurses := true, apart := false }
def ReplayNumbersSaid : Prop := replayNumbersRow.holds Try.pinned (OpenSpec.ofChange replayNumbersSpec)

/-- ITS FALSE NEIGHBOUR: 'it returns false'. Refute it at one input. -/
def replayNumbersWrong : ChangeSpec := { name := "replayNumbers", fn := fun _ => fun
  | [] => { results := [.lit (.bool false)], args := [] }
  | _ => none }
def ReplayNumbersWrongFalsely : Prop := replayNumbersRow.holds Try.pinned (OpenSpec.ofChange replayNumbersWrong)

/-- 'ledgerstonelaw10.ReplayAgain': WHATEVER THE INPUT: true; the input reads as it did. -/
def replayAgainSpec : ChangeSpec := { name := "replayAgain", fn := fun _ => fun
  | [d1, d2] => { results := [.lit (.bool true)], args := [d1, d2] }
  | _ => none }
def replayAgainRow : OpenClaim := { program := "ytbpdbgcndfcilaa", sum := "3235274700007990ac6bbeb2979444de2e052686aa1bdb4deb69abec74679bc9", func := "ledgerstone/ledgerstonelaw10.ReplayAgain", spec := "replayAgain", unfollowed := true, recurses := true, apart := false }
def ReplayAgainSaid : Prop := replayAgainRow.holds Try.pinned (OpenSpec.ofChange replayAgainSpec)

/-- ITS FALSE NEIGHBOUR: 'it returns false'. Refute it at one input. -/
def replayAgainWrong : ChangeSpec := { name := "replayAgain", fn := fun _ => fun
  | [d1, d2] => { results := [.lit (.bool false)], args := [d1, d2] }
  | _ => none }
def ReplayAgainWrongFalsely : Prop := replayAgainRow.holds Try.pinned (OpenSpec.ofChange replayAgainWrong)

/-- 'ledgerstonelaw10.ReplayTells': WHATEVER THE INPUT: true; the input reads as it did. -/
def replayTellsSpec : ChangeSpec := { name := "replayTells", fn := fun _ => fun
  | [d1, d2, d3, d4, d5, d6, d7, d8] => { results := [.lit (.bool true)], args := [d1, d2, d3, d4, d5, d6, d7, d8] }
  | _ => none }
def replayTellsRow : OpenClaim := { program := "ytbpdbgcndfcilaa", sum := "3235274700007990ac6bbeb2979444de2e052686aa1bdb4deb69abec74679bc9", func := "ledgerstone/ledgerstonelaw10.ReplayTells", spec := "replayTells", unfollowed := true, recurses := true, apart := false }
def ReplayTellsSaid : Prop := replayTellsRow.holds Try.pinned (OpenSpec.ofChange replayTellsSpec)

/-- ITS FALSE NEIGHBOUR: 'it returns false'. Refute it at one input. -/
def replayTellsWrong : ChangeSpec := { name := "replayTells", fn := fun _ => fun
  | [d1, d2, d3, d4, d5, d6, d7, d8] => { results := [.lit (.bool false)], args := [d1, d2, d3, d4, d5, d6, d7, d8] }
  | _ => none }
def ReplayTellsWrongFalsely : Prop := replayTellsRow.holds Try.pinned (OpenSpec.ofChange replayTellsWrong)

/- THE SECOND FORM. 'bulk': how many values and letters a reading holds, each counted each time it is reached (what is shared counts as often as it is met; a slice's spare places count too). A statement '..UptoSaid' is the law's where the arguments, and the package variables that the reading takes, are together of bulk at most 1048576: NARROWER than '..Said'. Prove '..Said' where nothing that the law and all that it calls make is longer than what came in: it says more and counts as full. Else prove '..UptoSaid'. A law counts once. -/
mutual
def uptoBulk {H : Type} : DataW H → Nat
  | .lit (.string bytes) => bytes.length + 1
  | .lit _ => 1
  | .nil => 1
  | .ptr d => uptoBulk d + 1
  | .slice elems spare => uptoBulkAll elems + uptoBulkAll spare + 1
  | .agg parts => uptoBulkAll parts + 1
  | .iface _ d => uptoBulk d + 1
  | .map entries => uptoBulkEntries entries + 1
  | .held _ => 1
def uptoBulkAll {H : Type} : List (DataW H) → Nat
  | [] => 0
  | d :: r => uptoBulk d + uptoBulkAll r
def uptoBulkEntries {H : Type} : List (Lit × DataW H) → Nat
  | [] => 0
  | x :: r => uptoBulkEntry x + uptoBulkEntries r
def uptoBulkEntry {H : Type} : Lit × DataW H → Nat
  | (.string bytes, d) => bytes.length + uptoBulk d + 1
  | (_, d) => uptoBulk d + 1
 end
def uptoSmall : (H : Type) → List (DataW H) → Bool := fun _ ds => decide (uptoBulkAll ds ≤ 1048576)
def OpenSpec.upto (s : _root_.Go.ChangeSpec) : _root_.Go.OpenSpec := { _root_.Go.OpenSpec.ofChange s with cond := some uptoSmall }

/-- 'ledgerstonelaw08.JournalNone', WHERE WHAT IT READS IS OF BULK AT MOST 1048576: true; the input reads as it did. -/
def journalNoneUptoRow : OpenClaim := { program := "ytbpdbgcndfcilaa", sum := "3235274700007990ac6bbeb2979444de2e052686aa1bdb4deb69abec74679bc9", func := "ledgerstone/ledgerstonelaw08.JournalNone", spec := "journalNone", unfollowed := true, recurses := true, apart := false, narrowed := true }
def JournalNoneUptoSaid : Prop := journalNoneUptoRow.holds Try.pinned (OpenSpec.upto journalNoneSpec)

/-- 'ledgerstonelaw08.JournalNumbers', WHERE WHAT IT READS IS OF BULK AT MOST 1048576: true; the input reads as it did. -/
def journalNumbersUptoRow : OpenClaim := { program := "ytbpdbgcndfcilaa", sum := "3235274700007990ac6bbeb2979444de2e052686aa1bdb4deb69abec74679bc9", func := "ledgerstone/ledgerstonelaw08.JournalNumbers", spec := "journalNumbers", unfollowed := true, recurses := true, apart := false, narrowed := true }
def JournalNumbersUptoSaid : Prop := journalNumbersUptoRow.holds Try.pinned (OpenSpec.upto journalNumbersSpec)

/-- 'ledgerstonelaw09.ScanAny', WHERE WHAT IT READS IS OF BULK AT MOST 1048576: true; the input reads as it did. -/
def scanAnyUptoRow : OpenClaim := { program := "ytbpdbgcndfcilaa", sum := "3235274700007990ac6bbeb2979444de2e052686aa1bdb4deb69abec74679bc9", func := "ledgerstone/ledgerstonelaw09.ScanAny", spec := "scanAny", unfollowed := true, recurses := true, apart := false, narrowed := true }
def ScanAnyUptoSaid : Prop := scanAnyUptoRow.holds Try.pinned (OpenSpec.upto scanAnySpec)

/-- 'ledgerstonelaw09.ScanNumbers', WHERE WHAT IT READS IS OF BULK AT MOST 1048576: true; the input reads as it did. -/
def scanNumbersUptoRow : OpenClaim := { program := "ytbpdbgcndfcilaa", sum := "3235274700007990ac6bbeb2979444de2e052686aa1bdb4deb69abec74679bc9", func := "ledgerstone/ledgerstonelaw09.ScanNumbers", spec := "scanNumbers", unfollowed := true, recurses := true, apart := false, narrowed := true }
def ScanNumbersUptoSaid : Prop := scanNumbersUptoRow.holds Try.pinned (OpenSpec.upto scanNumbersSpec)

/-- 'ledgerstonelaw09.ScanTells', WHERE WHAT IT READS IS OF BULK AT MOST 1048576: true; the input reads as it did. -/
def scanTellsUptoRow : OpenClaim := { program := "ytbpdbgcndfcilaa", sum := "3235274700007990ac6bbeb2979444de2e052686aa1bdb4deb69abec74679bc9", func := "ledgerstone/ledgerstonelaw09.ScanTells", spec := "scanTells", unfollowed := true, recurses := true, apart := false, narrowed := true }
def ScanTellsUptoSaid : Prop := scanTellsUptoRow.holds Try.pinned (OpenSpec.upto scanTellsSpec)

/-- 'ledgerstonelaw10.ReplaySpares', WHERE WHAT IT READS IS OF BULK AT MOST 1048576: true; the input reads as it did. -/
def replaySparesUptoRow : OpenClaim := { program := "ytbpdbgcndfcilaa", sum := "3235274700007990ac6bbeb2979444de2e052686aa1bdb4deb69abec74679bc9", func := "ledgerstone/ledgerstonelaw10.ReplaySpares", spec := "replaySpares", unfollowed := true, recurses := true, apart := false, narrowed := true }
def ReplaySparesUptoSaid : Prop := replaySparesUptoRow.holds Try.pinned (OpenSpec.upto replaySparesSpec)

/-- 'ledgerstonelaw08.JournalWhole', WHERE WHAT IT READS IS OF BULK AT MOST 1048576: true; the input reads as it did. -/
def journalWholeUptoRow : OpenClaim := { program := "ytbpdbgcndfcilaa", sum := "3235274700007990ac6bbeb2979444de2e052686aa1bdb4deb69abec74679bc9", func := "ledgerstone/ledgerstonelaw08.JournalWhole", spec := "journalWhole", unfollowed := true, recurses := true, apart := false, narrowed := true }
def JournalWholeUptoSaid : Prop := journalWholeUptoRow.holds Try.pinned (OpenSpec.upto journalWholeSpec)

/-- 'ledgerstonelaw09.ScanKept', WHERE WHAT IT READS IS OF BULK AT MOST 1048576: true; the input reads as it did. -/
def scanKeptUptoRow : OpenClaim := { program := "ytbpdbgcndfcilaa", sum := "3235274700007990ac6bbeb2979444de2e052686aa1bdb4deb69abec74679bc9", func := "ledgerstone/ledgerstonelaw09.ScanKept", spec := "scanKept", unfollowed := true, recurses := true, apart := false, narrowed := true }
def ScanKeptUptoSaid : Prop := scanKeptUptoRow.holds Try.pinned (OpenSpec.upto scanKeptSpec)

/-- 'ledgerstonelaw10.ReplayNumbers', WHERE WHAT IT READS IS OF BULK AT MOST 1048576: true; the input reads as it did. -/
def replayNumbersUptoRow : OpenClaim := { program := "ytbpdbgcndfcilaa", sum := "3235274700007990ac6bbeb2979444de2e052686aa1bdb4deb69abec74679bc9", func := "ledgerstone/ledgerstonelaw10.ReplayNumbers", spec := "replayNumbers", unfollowed := true, recurses := true, apart := false, narrowed := true }
def ReplayNumbersUptoSaid : Prop := replayNumbersUptoRow.holds Try.pinned (OpenSpec.upto replayNumbersSpec)

/-- 'ledgerstonelaw10.ReplayAgain', WHERE WHAT IT READS IS OF BULK AT MOST 1048576: true; the input reads as it did. -/
def replayAgainUptoRow : OpenClaim := { program := "ytbpdbgcndfcilaa", sum := "3235274700007990ac6bbeb2979444de2e052686aa1bdb4deb69abec74679bc9", func := "ledgerstone/ledgerstonelaw10.ReplayAgain", spec := "replayAgain", unfollowed := true, recurses := true, apart := false, narrowed := true }
def ReplayAgainUptoSaid : Prop := replayAgainUptoRow.holds Try.pinned (OpenSpec.upto replayAgainSpec)

/-- 'ledgerstonelaw10.ReplayTells', WHERE WHAT IT READS IS OF BULK AT MOST 1048576: true; the input reads as it did. -/
def replayTellsUptoRow : OpenClaim := { program := "ytbpdbgcndfcilaa", sum := "3235274700007990ac6bbeb2979444de2e052686aa1bdb4deb69abec74679bc9", func := "ledgerstone/ledgerstonelaw10.ReplayTells", spec := "replayTells", unfollowed := true, recurses := true, apart := false, narrowed := true }
def ReplayTellsUptoSaid : Prop := replayTellsUptoRow.holds Try.pinned (OpenSpec.upto replayTellsSpec)

end Rows
end Go.Proofs.Ytbpdbgcndfcilaa
