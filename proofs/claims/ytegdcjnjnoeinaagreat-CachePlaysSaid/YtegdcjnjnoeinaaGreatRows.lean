/-
  No cell of these rows narrows 'for every input' (looked for: loops, veiled, ifaces, maps, wideKeys, modest, calm, conditions, laid).
  DERIVED. THE GIVEN ROWS OF THIS SEAT. 11 by the template 'for every input the law returns true; each argument reads behind the call as it read before'; 0 by the template 'total and deterministic' (their statements: YtegdcjnjnoeinaaGreatTotals.lean).
  GIVEN WITH THE SEED: the statements are not yours to turn. If you find one false, say at which input.
  Laid BY PROGRAM, IN A SANDBOX (cutbox-rows.mjs): the forced cells as the released guide's own fill.sh prints them over the translation 885df9db7cde9709… (all of the seat's roots in one cut). By AI agents, Wed Nov 11 2026. No macro, syntax, notation, axiom, sorry.
-/
import Derived.Test.YtegdcjnjnoeinaaGreatChecked
import GoSem.Claim
import GoSem.ClaimJoined
import GoSem.ClaimMapViews
import Derived.JoinedTies
import Derived.KernelRfl
namespace Go.Proofs.YtegdcjnjnoeinaaGreat
/- THE CELL 'sum', in the pinned program and in every row, IS THE sha256 OF THE DUMP (.gsa) THAT YtegdcjnjnoeinaaGreatProg.lean LOADS. Nothing in Lean hashes anything: it is a label: what it is worth is what the hold of that sum in a sandbox is worth. -/
noncomputable def Tryz.pinned : Pinned := { name := "ytegdcjnjnoeinaagreat", sum := "885df9db7cde97097f1c0e0d9667e63029e0c860d0c18b9289f456fcf4bcf406", checked := Tryz.checked }
namespace Rows
def none {H : Type} : Left H := { results := [], args := [] }

/-- 'ledgerstonelaw11.VolumeSpares': WHATEVER THE INPUT: true; the input reads as it did. -/
def volumeSparesSpec : ChangeSpec := { name := "volumeSpares", fn := fun _ => fun
  | [d] => { results := [.lit (.bool true)], args := [d] }
  | _ => none }
def volumeSparesRow : OpenClaim := { program := "ytegdcjnjnoeinaagreat", sum := "885df9db7cde97097f1c0e0d9667e63029e0c860d0c18b9289f456fcf4bcf406", func := "ledgerstone/ledgerstonelaw11.VolumeSpares", spec := "volumeSpares", unfollowed := true, recurses := true, apart := false }
def VolumeSparesSaid : Prop := volumeSparesRow.holds Tryz.pinned (OpenSpec.ofChange volumeSparesSpec)

/-- ITS FALSE NEIGHBOUR: 'it returns false'. Refute it at one input. -/
def volumeSparesWrong : ChangeSpec := { name := "volumeSpares", fn := fun _ => fun
  | [d] => { results := [.lit (.bool false)], args := [d] }
  | _ => none }
def VolumeSparesWrongFalsely : Prop := volumeSparesRow.holds Tryz.pinned (OpenSpec.ofChange volumeSparesWrong)

/-- 'ledgerstonelaw11.VolumeNone': WHATEVER THE INPUT: true; the input reads as it did. -/
def volumeNoneSpec : ChangeSpec := { name := "volumeNone", fn := fun _ => fun
  | [d] => { results := [.lit (.bool true)], args := [d] }
  | _ => none }
def volumeNoneRow : OpenClaim := { program := "ytegdcjnjnoeinaagreat", sum := "885df9db7cde97097f1c0e0d9667e63029e0c860d0c18b9289f456fcf4bcf406", func := "ledgerstone/ledgerstonelaw11.VolumeNone", spec := "volumeNone", unfollowed := true, recurses := true, apart := false }
def VolumeNoneSaid : Prop := volumeNoneRow.holds Tryz.pinned (OpenSpec.ofChange volumeNoneSpec)

/-- ITS FALSE NEIGHBOUR: 'it returns false'. Refute it at one input. -/
def volumeNoneWrong : ChangeSpec := { name := "volumeNone", fn := fun _ => fun
  | [d] => { results := [.lit (.bool false)], args := [d] }
  | _ => none }
def VolumeNoneWrongFalsely : Prop := volumeNoneRow.holds Tryz.pinned (OpenSpec.ofChange volumeNoneWrong)

/-- 'ledgerstonelaw11.VolumeKept': WHATEVER THE INPUT: true; the input reads as it did. -/
def volumeKeptSpec : ChangeSpec := { name := "volumeKept", fn := fun _ => fun
  | [d] => { results := [.lit (.bool true)], args := [d] }
  | _ => none }
def volumeKeptRow : OpenClaim := { program := "ytegdcjnjnoeinaagreat", sum := "885df9db7cde97097f1c0e0d9667e63029e0c860d0c18b9289f456fcf4bcf406", func := "ledgerstone/ledgerstonelaw11.VolumeKept", spec := "volumeKept", unfollowed := true, recurses := true, apart := false }
def VolumeKeptSaid : Prop := volumeKeptRow.holds Tryz.pinned (OpenSpec.ofChange volumeKeptSpec)

/-- ITS FALSE NEIGHBOUR: 'it returns false'. Refute it at one input. -/
def volumeKeptWrong : ChangeSpec := { name := "volumeKept", fn := fun _ => fun
  | [d] => { results := [.lit (.bool false)], args := [d] }
  | _ => none }
def VolumeKeptWrongFalsely : Prop := volumeKeptRow.holds Tryz.pinned (OpenSpec.ofChange volumeKeptWrong)

/-- 'ledgerstonelaw11.VolumeTwice': WHATEVER THE INPUT: true; the input reads as it did. -/
def volumeTwiceSpec : ChangeSpec := { name := "volumeTwice", fn := fun _ => fun
  | [d] => { results := [.lit (.bool true)], args := [d] }
  | _ => none }
def volumeTwiceRow : OpenClaim := { program := "ytegdcjnjnoeinaagreat", sum := "885df9db7cde97097f1c0e0d9667e63029e0c860d0c18b9289f456fcf4bcf406", func := "ledgerstone/ledgerstonelaw11.VolumeTwice", spec := "volumeTwice", unfollowed := true, recurses := true, apart := false }
def VolumeTwiceSaid : Prop := volumeTwiceRow.holds Tryz.pinned (OpenSpec.ofChange volumeTwiceSpec)

/-- ITS FALSE NEIGHBOUR: 'it returns false'. Refute it at one input. -/
def volumeTwiceWrong : ChangeSpec := { name := "volumeTwice", fn := fun _ => fun
  | [d] => { results := [.lit (.bool false)], args := [d] }
  | _ => none }
def VolumeTwiceWrongFalsely : Prop := volumeTwiceRow.holds Tryz.pinned (OpenSpec.ofChange volumeTwiceWrong)

/-- 'ledgerstonelaw11.VolumeNumbers': WHATEVER THE INPUT: true; the input reads as it did. -/
def volumeNumbersSpec : ChangeSpec := { name := "volumeNumbers", fn := fun _ => fun
  | [] => { results := [.lit (.bool true)], args := [] }
  | _ => none }
def volumeNumbersRow : OpenClaim := { program := "ytegdcjnjnoeinaagreat", sum := "885df9db7cde97097f1c0e0d9667e63029e0c860d0c18b9289f456fcf4bcf406", func := "ledgerstone/ledgerstonelaw11.VolumeNumbers", spec := "volumeNumbers", unfollowed := true, recurses := true, apart := false }
def VolumeNumbersSaid : Prop := volumeNumbersRow.holds Tryz.pinned (OpenSpec.ofChange volumeNumbersSpec)

/-- ITS FALSE NEIGHBOUR: 'it returns false'. Refute it at one input. -/
def volumeNumbersWrong : ChangeSpec := { name := "volumeNumbers", fn := fun _ => fun
  | [] => { results := [.lit (.bool false)], args := [] }
  | _ => none }
def VolumeNumbersWrongFalsely : Prop := volumeNumbersRow.holds Tryz.pinned (OpenSpec.ofChange volumeNumbersWrong)

/-- 'ledgerstonelaw11.VolumeMounts': WHATEVER THE INPUT: true; the input reads as it did. -/
def volumeMountsSpec : ChangeSpec := { name := "volumeMounts", fn := fun _ => fun
  | [d] => { results := [.lit (.bool true)], args := [d] }
  | _ => none }
def volumeMountsRow : OpenClaim := { program := "ytegdcjnjnoeinaagreat", sum := "885df9db7cde97097f1c0e0d9667e63029e0c860d0c18b9289f456fcf4bcf406", func := "ledgerstone/ledgerstonelaw11.VolumeMounts", spec := "volumeMounts", unfollowed := true, recurses := true, apart := false }
def VolumeMountsSaid : Prop := volumeMountsRow.holds Tryz.pinned (OpenSpec.ofChange volumeMountsSpec)

/-- ITS FALSE NEIGHBOUR: 'it returns false'. Refute it at one input. -/
def volumeMountsWrong : ChangeSpec := { name := "volumeMounts", fn := fun _ => fun
  | [d] => { results := [.lit (.bool false)], args := [d] }
  | _ => none }
def VolumeMountsWrongFalsely : Prop := volumeMountsRow.holds Tryz.pinned (OpenSpec.ofChange volumeMountsWrong)

/-- 'ledgerstonelaw11.VolumeFormats': WHATEVER THE INPUT: true; the input reads as it did. -/
def volumeFormatsSpec : ChangeSpec := { name := "volumeFormats", fn := fun _ => fun
  | [d1, d2, d3, d4, d5, d6] => { results := [.lit (.bool true)], args := [d1, d2, d3, d4, d5, d6] }
  | _ => none }
def volumeFormatsRow : OpenClaim := { program := "ytegdcjnjnoeinaagreat", sum := "885df9db7cde97097f1c0e0d9667e63029e0c860d0c18b9289f456fcf4bcf406", func := "ledgerstone/ledgerstonelaw11.VolumeFormats", spec := "volumeFormats", unfollowed := true, recurses := true, apart := false }
def VolumeFormatsSaid : Prop := volumeFormatsRow.holds Tryz.pinned (OpenSpec.ofChange volumeFormatsSpec)

/-- ITS FALSE NEIGHBOUR: 'it returns false'. Refute it at one input. -/
def volumeFormatsWrong : ChangeSpec := { name := "volumeFormats", fn := fun _ => fun
  | [d1, d2, d3, d4, d5, d6] => { results := [.lit (.bool false)], args := [d1, d2, d3, d4, d5, d6] }
  | _ => none }
def VolumeFormatsWrongFalsely : Prop := volumeFormatsRow.holds Tryz.pinned (OpenSpec.ofChange volumeFormatsWrong)

/-- 'ledgerstonelaw12.CacheNumbers': WHATEVER THE INPUT: true; the input reads as it did. -/
def cacheNumbersSpec : ChangeSpec := { name := "cacheNumbers", fn := fun _ => fun
  | [] => { results := [.lit (.bool true)], args := [] }
  | _ => none }
def cacheNumbersRow : OpenClaim := { program := "ytegdcjnjnoeinaagreat", sum := "885df9db7cde97097f1c0e0d9667e63029e0c860d0c18b9289f456fcf4bcf406", func := "ledgerstone/ledgerstonelaw12.CacheNumbers", spec := "cacheNumbers", unfollowed := true, recurses := true, apart := false }
def CacheNumbersSaid : Prop := cacheNumbersRow.holds Tryz.pinned (OpenSpec.ofChange cacheNumbersSpec)

/-- ITS FALSE NEIGHBOUR: 'it returns false'. Refute it at one input. -/
def cacheNumbersWrong : ChangeSpec := { name := "cacheNumbers", fn := fun _ => fun
  | [] => { results := [.lit (.bool false)], args := [] }
  | _ => none }
def CacheNumbersWrongFalsely : Prop := cacheNumbersRow.holds Tryz.pinned (OpenSpec.ofChange cacheNumbersWrong)

/-- 'ledgerstonelaw12.CacheNone': WHATEVER THE INPUT: true; the input reads as it did. -/
def cacheNoneSpec : ChangeSpec := { name := "cacheNone", fn := fun _ => fun
  | [d1, d2] => { results := [.lit (.bool true)], args := [d1, d2] }
  | _ => none }
def cacheNoneRow : OpenClaim := { program := "ytegdcjnjnoeinaagreat", sum := "885df9db7cde97097f1c0e0d9667e63029e0c860d0c18b9289f456fcf4bcf406", func := "ledgerstone/ledgerstonelaw12.CacheNone", spec := "cacheNone", unfollowed := true, recurses := true, apart := false }
def CacheNoneSaid : Prop := cacheNoneRow.holds Tryz.pinned (OpenSpec.ofChange cacheNoneSpec)

/-- ITS FALSE NEIGHBOUR: 'it returns false'. Refute it at one input. -/
def cacheNoneWrong : ChangeSpec := { name := "cacheNone", fn := fun _ => fun
  | [d1, d2] => { results := [.lit (.bool false)], args := [d1, d2] }
  | _ => none }
def CacheNoneWrongFalsely : Prop := cacheNoneRow.holds Tryz.pinned (OpenSpec.ofChange cacheNoneWrong)

/-- 'ledgerstonelaw12.CacheStays': WHATEVER THE INPUT: true; the input reads as it did. -/
def cacheStaysSpec : ChangeSpec := { name := "cacheStays", fn := fun _ => fun
  | [d1, d2] => { results := [.lit (.bool true)], args := [d1, d2] }
  | _ => none }
def cacheStaysRow : OpenClaim := { program := "ytegdcjnjnoeinaagreat", sum := "885df9db7cde97097f1c0e0d9667e63029e0c860d0c18b9289f456fcf4bcf406", func := "ledgerstone/ledgerstonelaw12.CacheStays", spec := "cacheStays", unfollowed := true, recurses := true, apart := false }
def CacheStaysSaid : Prop := cacheStaysRow.holds Tryz.pinned (OpenSpec.ofChange cacheStaysSpec)

/-- ITS FALSE NEIGHBOUR: 'it returns false'. Refute it at one input. -/
def cacheStaysWrong : ChangeSpec := { name := "cacheStays", fn := fun _ => fun
  | [d1, d2] => { results := [.lit (.bool false)], args := [d1, d2] }
  | _ => none }
def CacheStaysWrongFalsely : Prop := cacheStaysRow.holds Tryz.pinned (OpenSpec.ofChange cacheStaysWrong)

/-- 'ledgerstonelaw12.CachePlays': WHATEVER THE INPUT: true; the input reads as it did. -/
def cachePlaysSpec : ChangeSpec := { name := "cachePlays", fn := fun _ => fun
  | [d1, d2] => { results := [.lit (.bool true)], args := [d1, d2] }
  | _ => none }
def cachePlaysRow : OpenClaim := { program := "ytegdcjnjnoeinaagreat", sum := "885df9db7cde97097f1c0e0d9667e63029e0c860d0c18b9289f456fcf4bcf406", func := "ledgerstone/ledgerstonelaw12.CachePlays", spec := "cachePlays", unfollowed := true, recurses := true, apart := false }
def CachePlaysSaid : Prop := cachePlaysRow.holds Tryz.pinned (OpenSpec.ofChange cachePlaysSpec)

/-- ITS FALSE NEIGHBOUR: 'it returns false'. Refute it at one input. -/
def cachePlaysWrong : ChangeSpec := { name := "cachePlays", fn := fun _ => fun
  | [d1, d2] => { results := [.lit (.bool false)], args := [d1, d2] }
  | _ => none }
def CachePlaysWrongFalsely : Prop := cachePlaysRow.holds Tryz.pinned (OpenSpec.ofChange cachePlaysWrong)

/- THE SECOND FORM. 'bulk': how many values and letters a reading holds, each counted each time it is reached (what is shared counts as often as it is met; a slice's spare places count too). A statement '..UptoSaid' is the law's where the arguments, and the package variables that the reading takes, are together of bulk at most 1048576: NARROWER than '..Said'. Prove '..Said' where nothing that the law and all that it calls make is longer than what came in: it says more and counts as full. Else prove '..UptoSaid'. A law counts once. -/
mutual
def uptoBulk {H : Type} : DataW H → Nat
  | .lit (.string bytes) => bytes.length + 1
  | .lit _ => 1
  | .nil => 1
  | .ptr d => uptoBulk d + 1
  | .slice elems spare => uptoBulkAll elems + uptoBulkAll spare + 1
  | .agg parts => uptoBulkAll parts + 1
  | .iface _ d => uptoBulk d + 1
  | .map entries => uptoBulkEntries entries + 1
  | .held _ => 1
def uptoBulkAll {H : Type} : List (DataW H) → Nat
  | [] => 0
  | d :: r => uptoBulk d + uptoBulkAll r
def uptoBulkEntries {H : Type} : List (Lit × DataW H) → Nat
  | [] => 0
  | x :: r => uptoBulkEntry x + uptoBulkEntries r
def uptoBulkEntry {H : Type} : Lit × DataW H → Nat
  | (.string bytes, d) => bytes.length + uptoBulk d + 1
  | (_, d) => uptoBulk d + 1
 end
def uptoSmall : (H : Type) → List (DataW H) → Bool := fun _ ds => decide (uptoBulkAll ds ≤ 1048576)
def OpenSpec.upto (s : _root_.Go.ChangeSpec) : _root_.Go.OpenSpec := { _root_.Go.OpenSpec.ofChange s with cond := some uptoSmall }

/-- 'ledgerstonelaw11.VolumeSpares', WHERE WHAT IT READS IS OF BULK AT MOST 1048576: true; the input reads as it did. -/
def volumeSparesUptoRow : OpenClaim := { program := "ytegdcjnjnoeinaagreat", sum := "885df9db7cde97097f1c0e0d9667e63029e0c860d0c18b9289f456fcf4bcf406", func := "ledgerstone/ledgerstonelaw11.VolumeSpares", spec := "volumeSpares", unfollowed := true, recurses := true, apart := false, narrowed := true }
def VolumeSparesUptoSaid : Prop := volumeSparesUptoRow.holds Tryz.pinned (OpenSpec.upto volumeSparesSpec)

/-- 'ledgerstonelaw11.VolumeNone', WHERE WHAT IT READS IS OF BULK AT MOST 1048576: true; the input reads as it did. -/
def volumeNoneUptoRow : OpenClaim := { program := "ytegdcjnjnoeinaagreat", sum := "885df9db7cde97097f1c0e0d9667e63029e0c860d0c18b9289f456fcf4bcf406", func := "ledgerstone/ledgerstonelaw11.VolumeNone", spec := "volumeNone", unfollowed := true, recurses := true, apart := false, narrowed := true }
def VolumeNoneUptoSaid : Prop := volumeNoneUptoRow.holds Tryz.pinned (OpenSpec.upto volumeNoneSpec)

/-- 'ledgerstonelaw11.VolumeKept', WHERE WHAT IT READS IS OF BULK AT MOST 1048576: true; the input reads as it did. -/
def volumeKeptUptoRow : OpenClaim := { program := "ytegdcjnjnoeinaagreat", sum := "885df9db7cde97097f1c0e0d9667e63029e0c860d0c18b9289f456fcf4bcf406", func := "ledgerstone/ledgerstonelaw11.VolumeKept", spec := "volumeKept", unfollowed := true, recurses := true, apart := false, narrowed := true }
def VolumeKeptUptoSaid : Prop := volumeKeptUptoRow.holds Tryz.pinned (OpenSpec.upto volumeKeptSpec)

/-- 'ledgerstonelaw11.VolumeTwice', WHERE WHAT IT READS IS OF BULK AT MOST 1048576: true; the input reads as it did. -/
def volumeTwiceUptoRow : OpenClaim := { program := "ytegdcjnjnoeinaagreat", sum := "885df9db7cde97097f1c0e0d9667e63029e0c860d0c18b9289f456fcf4bcf406", func := "ledgerstone/ledgerstonelaw11.VolumeTwice", spec := "volumeTwice", unfollowed := true, recurses := true, apart := false, narrowed := true }
def VolumeTwiceUptoSaid : Prop := volumeTwiceUptoRow.holds Tryz.pinned (OpenSpec.upto volumeTwiceSpec)

/-- 'ledgerstonelaw11.VolumeNumbers', WHERE WHAT IT READS IS OF BULK AT MOST 1048576: true; the input reads as it did. -/
def volumeNumbersUptoRow : OpenClaim := { program := "ytegdcjnjnoeinaagreat", sum := "885df9db7cde97097f1c0e0d9667e63029e0c860d0c18b9289f456fcf4bcf406", func := "ledgerstone/ledgerstonelaw11.VolumeNumbers", spec := "volumeNumbers", unfollowed := true, recurses := true, apart := false, narrowed := true }
def VolumeNumbersUptoSaid : Prop := volumeNumbersUptoRow.holds Tryz.pinned (OpenSpec.upto volumeNumbersSpec)

/-- 'ledgerstonelaw11.VolumeMounts', WHERE WHAT IT READS IS OF BULK AT MOST 1048576: true; the input reads as it did. -/
def volumeMountsUptoRow : OpenClaim := { program := "ytegdcjnjnoeinaagreat", sum := "885df9db7cde97097f1c0e0d9667e63029e0c860d0c18b9289f456fcf4bcf406", func := "ledgerstone/ledgerstonelaw11.VolumeMounts", spec := "volumeMounts", unfollowed := true, recurses := true, apart := false, narrowed := true }
def VolumeMountsUptoSaid : Prop := volumeMountsUptoRow.holds Tryz.pinned (OpenSpec.upto volumeMountsSpec)

/-- 'ledgerstonelaw11.VolumeFormats', WHERE WHAT IT READS IS OF BULK AT MOST 1048576: true; the input reads as it did. -/
def volumeFormatsUptoRow : OpenClaim := { program := "ytegdcjnjnoeinaagreat", sum := "885df9db7cde97097f1c0e0d9667e63029e0c860d0c18b9289f456fcf4bcf406", func := "ledgerstone/ledgerstonelaw11.VolumeFormats", spec := "volumeFormats", unfollowed := true, recurses := true, apart := false, narrowed := true }
def VolumeFormatsUptoSaid : Prop := volumeFormatsUptoRow.holds Tryz.pinned (OpenSpec.upto volumeFormatsSpec)

/-- 'ledgerstonelaw12.CacheNumbers', WHERE WHAT IT READS IS OF BULK AT MOST 1048576: true; the input reads as it did. -/
def cacheNumbersUptoRow : OpenClaim := { program := "ytegdcjnjnoeinaagreat", sum := "885df9db7cde97097f1c0e0d9667e63029e0c860d0c18b9289f456fcf4bcf406", func := "ledgerstone/ledgerstonelaw12.CacheNumbers", spec := "cacheNumbers", unfollowed := true, recurses := true, apart := false, narrowed := true }
def CacheNumbersUptoSaid : Prop := cacheNumbersUptoRow.holds Tryz.pinned (OpenSpec.upto cacheNumbersSpec)

/-- 'ledgerstonelaw12.CacheNone', WHERE WHAT IT READS IS OF BULK AT MOST 1048576: true; the input reads as it did. -/
def cacheNoneUptoRow : OpenClaim := { program := "ytegdcjnjnoeinaagreat", sum := "885df9db7cde97097f1c0e0d9667e63029e0c860d0c18b9289f456fcf4bcf406", func := "ledgerstone/ledgerstonelaw12.CacheNone", spec := "cacheNone", unfollowed := true, recurses := true, apart := false, narrowed := true }
def CacheNoneUptoSaid : Prop := cacheNoneUptoRow.holds Tryz.pinned (OpenSpec.upto cacheNoneSpec)

/-- 'ledgerstonelaw12.CacheStays', WHERE WHAT IT READS IS OF BULK AT MOST 1048576: true; the input reads as it did. -/
def cacheStaysUptoRow : OpenClaim := { program := "ytegdcjnjnoeinaagreat", sum := "885df9db7cde97097f1c0e0d9667e63029e0c860d0c18b9289f456fcf4bcf406", func := "ledgerstone/ledgerstonelaw12.CacheStays", spec := "cacheStays", unfollowed := true, recurses := true, apart := false, narrowed := true }
def CacheStaysUptoSaid : Prop := cacheStaysUptoRow.holds Tryz.pinned (OpenSpec.upto cacheStaysSpec)

/-- 'ledgerstonelaw12.CachePlays', WHERE WHAT IT READS IS OF BULK AT MOST 1048576: true; the input reads as it did. -/
def cachePlaysUptoRow : OpenClaim := { program := "ytegdcjnjnoeinaagreat", sum := "885df9db7cde97097f1c0e0d9667e63029e0c860d0c18b9289f456fcf4bcf406", func := "ledgerstone/ledgerstonelaw12.CachePlays", spec := "cachePlays", unfollowed := true, recurses := true, apart := false, narrowed := true }
def CachePlaysUptoSaid : Prop := cachePlaysUptoRow.holds Tryz.pinned (OpenSpec.upto cachePlaysSpec)

end Rows
end Go.Proofs.YtegdcjnjnoeinaaGreat
