/-
  No cell of these rows narrows 'for every input' (looked for: loops, veiled, ifaces, maps, wideKeys, modest, calm, conditions, laid).
  DERIVED. THE GIVEN ROWS OF THIS SEAT. 11 by the template 'for every input the law returns true; each argument reads behind the call as it read before'; 0 by the template 'total and deterministic' (their statements: YtihnldhdpiokhaaTotals.lean).
  GIVEN WITH THE SEED: the statements are not yours to turn. If you find one false, say at which input.
  Laid BY PROGRAM, IN A SANDBOX (cutbox-rows.mjs): the forced cells as the released guide's own fill.sh prints them over the translation 8c970bea215096a8… (all of the seat's roots in one cut). By AI agents, Wed Nov 11 2026. No macro, syntax, notation, axiom, sorry.
-/
import Derived.Test.YtihnldhdpiokhaaChecked
import GoSem.Claim
import GoSem.ClaimJoined
import GoSem.ClaimMapViews
import Derived.JoinedTies
import Derived.KernelRfl
namespace Go.Proofs.Ytihnldhdpiokhaa
/- THE CELL 'sum', in the pinned program and in every row, IS THE sha256 OF THE DUMP (.gsa) THAT YtihnldhdpiokhaaProg.lean LOADS. Nothing in Lean hashes anything: it is a label: what it is worth is what the hold of that sum in a sandbox is worth. -/
noncomputable def Try.pinned : Pinned := { name := "ytihnldhdpiokhaa", sum := "8c970bea215096a805ded059578397c4825d9d52edb5574070e3be264716ef1f", checked := Try.checked }
namespace Rows
def none {H : Type} : Left H := { results := [], args := [] }

/-- 'chapbooklaw08.ReplayEchoes': WHATEVER THE INPUT: true; the input reads as it did. -/
def replayEchoesSpec : ChangeSpec := { name := "replayEchoes", fn := fun _ => fun
  | [d1, d2, d3] => { results := [.lit (.bool true)], args := [d1, d2, d3] }
  | _ => none }
def replayEchoesRow : OpenClaim := { program := "ytihnldhdpiokhaa", sum := "8c970bea215096a805ded059578397c4825d9d52edb5574070e3be264716ef1f", func := "chapbook/chapbooklaw08.ReplayEchoes", spec := "replayEchoes", unfollowed := true, recurses := true, apart := false }
def ReplayEchoesSaid : Prop := replayEchoesRow.holds Try.pinned (OpenSpec.ofChange replayEchoesSpec)

/-- ITS FALSE NEIGHBOUR: 'it returns false'. Refute it at one input. -/
def replayEchoesWrong : ChangeSpec := { name := "replayEchoes", fn := fun _ => fun
  | [d1, d2, d3] => { results := [.lit (.bool false)], args := [d1, d2, d3] }
  | _ => none }
def ReplayEchoesWrongFalsely : Prop := replayEchoesRow.holds Try.pinned (OpenSpec.ofChange replayEchoesWrong)

/-- 'chapbooklaw08.ReplayGrows': WHATEVER THE INPUT: true; the input reads as it did. -/
def replayGrowsSpec : ChangeSpec := { name := "replayGrows", fn := fun _ => fun
  | [d1, d2, d3] => { results := [.lit (.bool true)], args := [d1, d2, d3] }
  | _ => none }
def replayGrowsRow : OpenClaim := { program := "ytihnldhdpiokhaa", sum := "8c970bea215096a805ded059578397c4825d9d52edb5574070e3be264716ef1f", func := "chapbook/chapbooklaw08.ReplayGrows", spec := "replayGrows", unfollowed := true, recurses := true, apart := false }
def ReplayGrowsSaid : Prop := replayGrowsRow.holds Try.pinned (OpenSpec.ofChange replayGrowsSpec)

/-- ITS FALSE NEIGHBOUR: 'it returns false'. Refute it at one input. -/
def replayGrowsWrong : ChangeSpec := { name := "replayGrows", fn := fun _ => fun
  | [d1, d2, d3] => { results := [.lit (.bool false)], args := [d1, d2, d3] }
  | _ => none }
def ReplayGrowsWrongFalsely : Prop := replayGrowsRow.holds Try.pinned (OpenSpec.ofChange replayGrowsWrong)

/-- 'chapbooklaw05.StorePlays': WHATEVER THE INPUT: true; the input reads as it did. -/
def storePlaysSpec : ChangeSpec := { name := "storePlays", fn := fun _ => fun
  | [d1, d2] => { results := [.lit (.bool true)], args := [d1, d2] }
  | _ => none }
def storePlaysRow : OpenClaim := { program := "ytihnldhdpiokhaa", sum := "8c970bea215096a805ded059578397c4825d9d52edb5574070e3be264716ef1f", func := "chapbook/chapbooklaw05.StorePlays", spec := "storePlays", unfollowed := true, recurses := true, apart := false }
def StorePlaysSaid : Prop := storePlaysRow.holds Try.pinned (OpenSpec.ofChange storePlaysSpec)

/-- ITS FALSE NEIGHBOUR: 'it returns false'. Refute it at one input. -/
def storePlaysWrong : ChangeSpec := { name := "storePlays", fn := fun _ => fun
  | [d1, d2] => { results := [.lit (.bool false)], args := [d1, d2] }
  | _ => none }
def StorePlaysWrongFalsely : Prop := storePlaysRow.holds Try.pinned (OpenSpec.ofChange storePlaysWrong)

/-- 'chapbooklaw05.StoreKeys': WHATEVER THE INPUT: true; the input reads as it did. -/
def storeKeysSpec : ChangeSpec := { name := "storeKeys", fn := fun _ => fun
  | [d] => { results := [.lit (.bool true)], args := [d] }
  | _ => none }
def storeKeysRow : OpenClaim := { program := "ytihnldhdpiokhaa", sum := "8c970bea215096a805ded059578397c4825d9d52edb5574070e3be264716ef1f", func := "chapbook/chapbooklaw05.StoreKeys", spec := "storeKeys", unfollowed := true, recurses := true, apart := false }
def StoreKeysSaid : Prop := storeKeysRow.holds Try.pinned (OpenSpec.ofChange storeKeysSpec)

/-- ITS FALSE NEIGHBOUR: 'it returns false'. Refute it at one input. -/
def storeKeysWrong : ChangeSpec := { name := "storeKeys", fn := fun _ => fun
  | [d] => { results := [.lit (.bool false)], args := [d] }
  | _ => none }
def StoreKeysWrongFalsely : Prop := storeKeysRow.holds Try.pinned (OpenSpec.ofChange storeKeysWrong)

/-- 'chapbooklaw05.StoreApart': WHATEVER THE INPUT: true; the input reads as it did. -/
def storeApartSpec : ChangeSpec := { name := "storeApart", fn := fun _ => fun
  | [d1, d2] => { results := [.lit (.bool true)], args := [d1, d2] }
  | _ => none }
def storeApartRow : OpenClaim := { program := "ytihnldhdpiokhaa", sum := "8c970bea215096a805ded059578397c4825d9d52edb5574070e3be264716ef1f", func := "chapbook/chapbooklaw05.StoreApart", spec := "storeApart", unfollowed := true, recurses := true, apart := false }
def StoreApartSaid : Prop := storeApartRow.holds Try.pinned (OpenSpec.ofChange storeApartSpec)

/-- ITS FALSE NEIGHBOUR: 'it returns false'. Refute it at one input. -/
def storeApartWrong : ChangeSpec := { name := "storeApart", fn := fun _ => fun
  | [d1, d2] => { results := [.lit (.bool false)], args := [d1, d2] }
  | _ => none }
def StoreApartWrongFalsely : Prop := storeApartRow.holds Try.pinned (OpenSpec.ofChange storeApartWrong)

/-- 'chapbooklaw05.StoreTwice': WHATEVER THE INPUT: true; the input reads as it did. -/
def storeTwiceSpec : ChangeSpec := { name := "storeTwice", fn := fun _ => fun
  | [d] => { results := [.lit (.bool true)], args := [d] }
  | _ => none }
def storeTwiceRow : OpenClaim := { program := "ytihnldhdpiokhaa", sum := "8c970bea215096a805ded059578397c4825d9d52edb5574070e3be264716ef1f", func := "chapbook/chapbooklaw05.StoreTwice", spec := "storeTwice", unfollowed := true, recurses := true, apart := false }
def StoreTwiceSaid : Prop := storeTwiceRow.holds Try.pinned (OpenSpec.ofChange storeTwiceSpec)

/-- ITS FALSE NEIGHBOUR: 'it returns false'. Refute it at one input. -/
def storeTwiceWrong : ChangeSpec := { name := "storeTwice", fn := fun _ => fun
  | [d] => { results := [.lit (.bool false)], args := [d] }
  | _ => none }
def StoreTwiceWrongFalsely : Prop := storeTwiceRow.holds Try.pinned (OpenSpec.ofChange storeTwiceWrong)

/-- 'chapbooklaw05.StoreCopies': WHATEVER THE INPUT: true; the input reads as it did. -/
def storeCopiesSpec : ChangeSpec := { name := "storeCopies", fn := fun _ => fun
  | [d1, d2] => { results := [.lit (.bool true)], args := [d1, d2] }
  | _ => none }
def storeCopiesRow : OpenClaim := { program := "ytihnldhdpiokhaa", sum := "8c970bea215096a805ded059578397c4825d9d52edb5574070e3be264716ef1f", func := "chapbook/chapbooklaw05.StoreCopies", spec := "storeCopies", inPlace := ["maps.clone"], unfollowed := true, recurses := true, apart := false }
def StoreCopiesSaid : Prop := storeCopiesRow.holds Try.pinned (OpenSpec.ofChange storeCopiesSpec)

/-- ITS FALSE NEIGHBOUR: 'it returns false'. Refute it at one input. -/
def storeCopiesWrong : ChangeSpec := { name := "storeCopies", fn := fun _ => fun
  | [d1, d2] => { results := [.lit (.bool false)], args := [d1, d2] }
  | _ => none }
def StoreCopiesWrongFalsely : Prop := storeCopiesRow.holds Try.pinned (OpenSpec.ofChange storeCopiesWrong)

/-- 'chapbooklaw08.ReplayReads': WHATEVER THE INPUT: true; the input reads as it did. -/
def replayReadsSpec : ChangeSpec := { name := "replayReads", fn := fun _ => fun
  | [d1, d2, d3] => { results := [.lit (.bool true)], args := [d1, d2, d3] }
  | _ => none }
def replayReadsRow : OpenClaim := { program := "ytihnldhdpiokhaa", sum := "8c970bea215096a805ded059578397c4825d9d52edb5574070e3be264716ef1f", func := "chapbook/chapbooklaw08.ReplayReads", spec := "replayReads", unfollowed := true, recurses := true, apart := false }
def ReplayReadsSaid : Prop := replayReadsRow.holds Try.pinned (OpenSpec.ofChange replayReadsSpec)

/-- ITS FALSE NEIGHBOUR: 'it returns false'. Refute it at one input. -/
def replayReadsWrong : ChangeSpec := { name := "replayReads", fn := fun _ => fun
  | [d1, d2, d3] => { results := [.lit (.bool false)], args := [d1, d2, d3] }
  | _ => none }
def ReplayReadsWrongFalsely : Prop := replayReadsRow.holds Try.pinned (OpenSpec.ofChange replayReadsWrong)

/-- 'chapbooklaw08.ReplayAll': WHATEVER THE INPUT: true; the input reads as it did. -/
def replayAllSpec : ChangeSpec := { name := "replayAll", fn := fun _ => fun
  | [d1, d2] => { results := [.lit (.bool true)], args := [d1, d2] }
  | _ => none }
def replayAllRow : OpenClaim := { program := "ytihnldhdpiokhaa", sum := "8c970bea215096a805ded059578397c4825d9d52edb5574070e3be264716ef1f", func := "chapbook/chapbooklaw08.ReplayAll", spec := "replayAll", unfollowed := true, recurses := true, apart := false }
def ReplayAllSaid : Prop := replayAllRow.holds Try.pinned (OpenSpec.ofChange replayAllSpec)

/-- ITS FALSE NEIGHBOUR: 'it returns false'. Refute it at one input. -/
def replayAllWrong : ChangeSpec := { name := "replayAll", fn := fun _ => fun
  | [d1, d2] => { results := [.lit (.bool false)], args := [d1, d2] }
  | _ => none }
def ReplayAllWrongFalsely : Prop := replayAllRow.holds Try.pinned (OpenSpec.ofChange replayAllWrong)

/-- 'chapbooklaw08.ReplayParts': WHATEVER THE INPUT: true; the input reads as it did. -/
def replayPartsSpec : ChangeSpec := { name := "replayParts", fn := fun _ => fun
  | [d1, d2, d3] => { results := [.lit (.bool true)], args := [d1, d2, d3] }
  | _ => none }
def replayPartsRow : OpenClaim := { program := "ytihnldhdpiokhaa", sum := "8c970bea215096a805ded059578397c4825d9d52edb5574070e3be264716ef1f", func := "chapbook/chapbooklaw08.ReplayParts", spec := "replayParts", unfollowed := true, recurses := true, apart := false }
def ReplayPartsSaid : Prop := replayPartsRow.holds Try.pinned (OpenSpec.ofChange replayPartsSpec)

/-- ITS FALSE NEIGHBOUR: 'it returns false'. Refute it at one input. -/
def replayPartsWrong : ChangeSpec := { name := "replayParts", fn := fun _ => fun
  | [d1, d2, d3] => { results := [.lit (.bool false)], args := [d1, d2, d3] }
  | _ => none }
def ReplayPartsWrongFalsely : Prop := replayPartsRow.holds Try.pinned (OpenSpec.ofChange replayPartsWrong)

/-- 'chapbooklaw08.ReplayApart': WHATEVER THE INPUT: true; the input reads as it did. -/
def replayApartSpec : ChangeSpec := { name := "replayApart", fn := fun _ => fun
  | [d1, d2] => { results := [.lit (.bool true)], args := [d1, d2] }
  | _ => none }
def replayApartRow : OpenClaim := { program := "ytihnldhdpiokhaa", sum := "8c970bea215096a805ded059578397c4825d9d52edb5574070e3be264716ef1f", func := "chapbook/chapbooklaw08.ReplayApart", spec := "replayApart", unfollowed := true, recurses := true, apart := false }
def ReplayApartSaid : Prop := replayApartRow.holds Try.pinned (OpenSpec.ofChange replayApartSpec)

/-- ITS FALSE NEIGHBOUR: 'it returns false'. Refute it at one input. -/
def replayApartWrong : ChangeSpec := { name := "replayApart", fn := fun _ => fun
  | [d1, d2] => { results := [.lit (.bool false)], args := [d1, d2] }
  | _ => none }
def ReplayApartWrongFalsely : Prop := replayApartRow.holds Try.pinned (OpenSpec.ofChange replayApartWrong)

/- THE SECOND FORM. 'bulk': how many values and letters a reading holds, each counted each time it is reached (what is shared counts as often as it is met; a slice's spare places count too). A statement '..UptoSaid' is the law's where the arguments, and the package variables that the reading takes, are together of bulk at most 1048576: NARROWER than '..Said'. Prove '..Said' where nothing that the law and all that it calls make is longer than what came in: it says more and counts as full. Else prove '..UptoSaid'. A law counts once. -/
mutual
def uptoBulk {H : Type} : DataW H → Nat
  | .lit (.string bytes) => bytes.length + 1
  | .lit _ => 1
  | .nil => 1
  | .ptr d => uptoBulk d + 1
  | .slice elems spare => uptoBulkAll elems + uptoBulkAll spare + 1
  | .agg parts => uptoBulkAll parts + 1
  | .iface _ d => uptoBulk d + 1
  | .map entries => uptoBulkEntries entries + 1
  | .held _ => 1
def uptoBulkAll {H : Type} : List (DataW H) → Nat
  | [] => 0
  | d :: r => uptoBulk d + uptoBulkAll r
def uptoBulkEntries {H : Type} : List (Lit × DataW H) → Nat
  | [] => 0
  | x :: r => uptoBulkEntry x + uptoBulkEntries r
def uptoBulkEntry {H : Type} : Lit × DataW H → Nat
  | (.string bytes, d) => bytes.length + uptoBulk d + 1
  | (_, d) => uptoBulk d + 1
 end
def uptoSmall : (H : Type) → List (DataW H) → Bool := fun _ ds => decide (uptoBulkAll ds ≤ 1048576)
def OpenSpec.upto (s : _root_.Go.ChangeSpec) : _root_.Go.OpenSpec := { _root_.Go.OpenSpec.ofChange s with cond := some uptoSmall }

/-- 'chapbooklaw08.ReplayEchoes', WHERE WHAT IT READS IS OF BULK AT MOST 1048576: true; the input reads as it did. -/
def replayEchoesUptoRow : OpenClaim := { program := "ytihnldhdpiokhaa", sum := "8c970bea215096a805ded059578397c4825d9d52edb5574070e3be264716ef1f", func := "chapbook/chapbooklaw08.ReplayEchoes", spec := "replayEchoes", unfollowed := true, recurses := true, apart := false, narrowed := true }
def ReplayEchoesUptoSaid : Prop := replayEchoesUptoRow.holds Try.pinned (OpenSpec.upto replayEchoesSpec)

/-- 'chapbooklaw08.ReplayGrows', WHERE WHAT IT READS IS OF BULK AT MOST 1048576: true; the input reads as it did. -/
def replayGrowsUptoRow : OpenClaim := { program := "ytihnldhdpiokhaa", sum := "8c970bea215096a805ded059578397c4825d9d52edb5574070e3be264716ef1f", func := "chapbook/chapbooklaw08.ReplayGrows", spec := "replayGrows", unfollowed := true, recurses := true, apart := false, narrowed := true }
def ReplayGrowsUptoSaid : Prop := replayGrowsUptoRow.holds Try.pinned (OpenSpec.upto replayGrowsSpec)

/-- 'chapbooklaw05.StorePlays', WHERE WHAT IT READS IS OF BULK AT MOST 1048576: true; the input reads as it did. -/
def storePlaysUptoRow : OpenClaim := { program := "ytihnldhdpiokhaa", sum := "8c970bea215096a805ded059578397c4825d9d52edb5574070e3be264716ef1f", func := "chapbook/chapbooklaw05.StorePlays", spec := "storePlays", unfollowed := true, recurses := true, apart := false, narrowed := true }
def StorePlaysUptoSaid : Prop := storePlaysUptoRow.holds Try.pinned (OpenSpec.upto storePlaysSpec)

/-- 'chapbooklaw05.StoreKeys', WHERE WHAT IT READS IS OF BULK AT MOST 1048576: true; the input reads as it did. -/
def storeKeysUptoRow : OpenClaim := { program := "ytihnldhdpiokhaa", sum := "8c970bea215096a805ded059578397c4825d9d52edb5574070e3be264716ef1f", func := "chapbook/chapbooklaw05.StoreKeys", spec := "storeKeys", unfollowed := true, recurses := true, apart := false, narrowed := true }
def StoreKeysUptoSaid : Prop := storeKeysUptoRow.holds Try.pinned (OpenSpec.upto storeKeysSpec)

/-- 'chapbooklaw05.StoreApart', WHERE WHAT IT READS IS OF BULK AT MOST 1048576: true; the input reads as it did. -/
def storeApartUptoRow : OpenClaim := { program := "ytihnldhdpiokhaa", sum := "8c970bea215096a805ded059578397c4825d9d52edb5574070e3be264716ef1f", func := "chapbook/chapbooklaw05.StoreApart", spec := "storeApart", unfollowed := true, recurses := true, apart := false, narrowed := true }
def StoreApartUptoSaid : Prop := storeApartUptoRow.holds Try.pinned (OpenSpec.upto storeApartSpec)

/-- 'chapbooklaw05.StoreTwice', WHERE WHAT IT READS IS OF BULK AT MOST 1048576: true; the input reads as it did. -/
def storeTwiceUptoRow : OpenClaim := { program := "ytihnldhdpiokhaa", sum := "8c970bea215096a805ded059578397c4825d9d52edb5574070e3be264716ef1f", func := "chapbook/chapbooklaw05.StoreTwice", spec := "storeTwice", unfollowed := true, recurses := true, apart := false, narrowed := true }
def StoreTwiceUptoSaid : Prop := storeTwiceUptoRow.holds Try.pinned (OpenSpec.upto storeTwiceSpec)

/-- 'chapbooklaw05.StoreCopies', WHERE WHAT IT READS IS OF BULK AT MOST 1048576: true; the input reads as it did. -/
def storeCopiesUptoRow : OpenClaim := { program := "ytihnldhdpiokhaa", sum := "8c970bea215096a805ded059578397c4825d9d52edb5574070e3be264716ef1f", func := "chapbook/chapbooklaw05.StoreCopies", spec := "storeCopies", inPlace := ["maps.clone"], unfollowed := true, recurses := true, apart := false, narrowed := true }
def StoreCopiesUptoSaid : Prop := storeCopiesUptoRow.holds Try.pinned (OpenSpec.upto storeCopiesSpec)

/-- 'chapbooklaw08.ReplayReads', WHERE WHAT IT READS IS OF BULK AT MOST 1048576: true; the input reads as it did. -/
def replayReadsUptoRow : OpenClaim := { program := "ytihnldhdpiokhaa", sum := "8c970bea215096a805ded059578397c4825d9d52edb5574070e3be264716ef1f", func := "chapbook/chapbooklaw08.ReplayReads", spec := "replayReads", unfollowed := true, recurses := true, apart := false, narrowed := true }
def ReplayReadsUptoSaid : Prop := replayReadsUptoRow.holds Try.pinned (OpenSpec.upto replayReadsSpec)

/-- 'chapbooklaw08.ReplayAll', WHERE WHAT IT READS IS OF BULK AT MOST 1048576: true; the input reads as it did. -/
def replayAllUptoRow : OpenClaim := { program := "ytihnldhdpiokhaa", sum := "8c970bea215096a805ded059578397c4825d9d52edb5574070e3be264716ef1f", func := "chapbook/chapbooklaw08.ReplayAll", spec := "replayAll", unfollowed := true, recurses := true, apart := false, narrowed := true }
def ReplayAllUptoSaid : Prop := replayAllUptoRow.holds Try.pinned (OpenSpec.upto replayAllSpec)

/-- 'chapbooklaw08.ReplayParts', WHERE WHAT IT READS IS OF BULK AT MOST 1048576: true; the input reads as it did. -/
def replayPartsUptoRow : OpenClaim := { program := "ytihnldhdpiokhaa", sum := "8c970bea215096a805ded059578397c4825d9d52edb5574070e3be264716ef1f", func := "chapbook/chapbooklaw08.ReplayParts", spec := "replayParts", unfollowed := true, recurses := true, apart := false, narrowed := true }
def ReplayPartsUptoSaid : Prop := replayPartsUptoRow.holds Try.pinned (OpenSpec.upto replayPartsSpec)

/-- 'chapbooklaw08.ReplayApart', WHERE WHAT IT READS IS OF BULK AT MOST 1048576: true; the input reads as it did. -/
def replayApartUptoRow : OpenClaim := { program := "ytihnldhdpiokhaa", sum := "8c970bea215096a805ded059578397c4825d9d52edb5574070e3be264716ef1f", func := "chapbook/chapbooklaw08.ReplayApart", spec := "replayApart", unfollowed := true, recurses := true, apart := false, narrowed := true }
def ReplayApartUptoSaid : Prop := replayApartUptoRow.holds Try.pinned (OpenSpec.upto replayApartSpec)

end Rows
end Go.Proofs.Ytihnldhdpiokhaa
