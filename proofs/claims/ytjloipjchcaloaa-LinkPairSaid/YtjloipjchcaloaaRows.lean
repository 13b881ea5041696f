/-
  No cell of these rows narrows 'for every input' (looked for: loops, veiled, ifaces, maps, wideKeys, modest, calm, conditions, laid).
  DERIVED. THE GIVEN ROWS OF THIS SEAT. 15 by the template 'for every input the law returns true; each argument reads behind the call as it read before'; 0 by the template 'total and deterministic' (their statements: YtjloipjchcaloaaTotals.lean).
  GIVEN WITH THE SEED: the statements are not yours to turn. If you find one false, say at which input.
  Laid BY PROGRAM, IN A SANDBOX (cutbox-rows.mjs): the forced cells as the released guide's own fill.sh prints them over the translation 27d3b35be63588a3… (all of the seat's roots in one cut). By AI agents, Wed Nov 11 2026. No macro, syntax, notation, axiom, sorry.
-/
import Derived.Test.YtjloipjchcaloaaChecked
import GoSem.Claim
import GoSem.ClaimJoined
import GoSem.ClaimMapViews
import Derived.JoinedTies
import Derived.KernelRfl
namespace Go.Proofs.Ytjloipjchcaloaa
/- THE CELL 'sum', in the pinned program and in every row, IS THE sha256 OF THE DUMP (.gsa) THAT YtjloipjchcaloaaProg.lean LOADS. Nothing in Lean hashes anything: it is a label: what it is worth is what the hold of that sum in a sandbox is worth. -/
noncomputable def Try.pinned : Pinned := { name := "ytjloipjchcaloaa", sum := "27d3b35be63588a3233eb4e83899536e2851de70dc206a36759480c48bba4d80", checked := Try.checked }
namespace Rows
def none {H : Type} : Left H := { results := [], args := [] }

/-- 'chapbooklaw10.SenderFifo': WHATEVER THE INPUT: true; the input reads as it did. -/
def senderFifoSpec : ChangeSpec := { name := "senderFifo", fn := fun _ => fun
  | [d1, d2] => { results := [.lit (.bool true)], args := [d1, d2] }
  | _ => none }
def senderFifoRow : OpenClaim := { program := "ytjloipjchcaloaa", sum := "27d3b35be63588a3233eb4e83899536e2851de70dc206a36759480c48bba4d80", func := "chapbook/chapbooklaw10.SenderFifo", spec := "senderFifo", apart := false }
def SenderFifoSaid : Prop := senderFifoRow.holds Try.pinned (OpenSpec.ofChange senderFifoSpec)

/-- ITS FALSE NEIGHBOUR: 'it returns false'. Refute it at one input. -/
def senderFifoWrong : ChangeSpec := { name := "senderFifo", fn := fun _ => fun
  | [d1, d2] => { results := [.lit (.bool false)], args := [d1, d2] }
  | _ => none }
def SenderFifoWrongFalsely : Prop := senderFifoRow.holds Try.pinned (OpenSpec.ofChange senderFifoWrong)

/-- 'chapbooklaw10.SenderFull': WHATEVER THE INPUT: true; the input reads as it did. -/
def senderFullSpec : ChangeSpec := { name := "senderFull", fn := fun _ => fun
  | [d1, d2] => { results := [.lit (.bool true)], args := [d1, d2] }
  | _ => none }
def senderFullRow : OpenClaim := { program := "ytjloipjchcaloaa", sum := "27d3b35be63588a3233eb4e83899536e2851de70dc206a36759480c48bba4d80", func := "chapbook/chapbooklaw10.SenderFull", spec := "senderFull", apart := false }
def SenderFullSaid : Prop := senderFullRow.holds Try.pinned (OpenSpec.ofChange senderFullSpec)

/-- ITS FALSE NEIGHBOUR: 'it returns false'. Refute it at one input. -/
def senderFullWrong : ChangeSpec := { name := "senderFull", fn := fun _ => fun
  | [d1, d2] => { results := [.lit (.bool false)], args := [d1, d2] }
  | _ => none }
def SenderFullWrongFalsely : Prop := senderFullRow.holds Try.pinned (OpenSpec.ofChange senderFullWrong)

/-- 'chapbooklaw10.SenderAcks': WHATEVER THE INPUT: true; the input reads as it did. -/
def senderAcksSpec : ChangeSpec := { name := "senderAcks", fn := fun _ => fun
  | [d1, d2] => { results := [.lit (.bool true)], args := [d1, d2] }
  | _ => none }
def senderAcksRow : OpenClaim := { program := "ytjloipjchcaloaa", sum := "27d3b35be63588a3233eb4e83899536e2851de70dc206a36759480c48bba4d80", func := "chapbook/chapbooklaw10.SenderAcks", spec := "senderAcks", apart := false }
def SenderAcksSaid : Prop := senderAcksRow.holds Try.pinned (OpenSpec.ofChange senderAcksSpec)

/-- ITS FALSE NEIGHBOUR: 'it returns false'. Refute it at one input. -/
def senderAcksWrong : ChangeSpec := { name := "senderAcks", fn := fun _ => fun
  | [d1, d2] => { results := [.lit (.bool false)], args := [d1, d2] }
  | _ => none }
def SenderAcksWrongFalsely : Prop := senderAcksRow.holds Try.pinned (OpenSpec.ofChange senderAcksWrong)

/-- 'chapbooklaw11.ReceiverPlays': WHATEVER THE INPUT: true; the input reads as it did. -/
def receiverPlaysSpec : ChangeSpec := { name := "receiverPlays", fn := fun _ => fun
  | [d1, d2] => { results := [.lit (.bool true)], args := [d1, d2] }
  | _ => none }
def receiverPlaysRow : OpenClaim := { program := "ytjloipjchcaloaa", sum := "27d3b35be63588a3233eb4e83899536e2851de70dc206a36759480c48bba4d80", func := "chapbook/chapbooklaw11.ReceiverPlays", spec := "receiverPlays", apart := false }
def ReceiverPlaysSaid : Prop := receiverPlaysRow.holds Try.pinned (OpenSpec.ofChange receiverPlaysSpec)

/-- ITS FALSE NEIGHBOUR: 'it returns false'. Refute it at one input. -/
def receiverPlaysWrong : ChangeSpec := { name := "receiverPlays", fn := fun _ => fun
  | [d1, d2] => { results := [.lit (.bool false)], args := [d1, d2] }
  | _ => none }
def ReceiverPlaysWrongFalsely : Prop := receiverPlaysRow.holds Try.pinned (OpenSpec.ofChange receiverPlaysWrong)

/-- 'chapbooklaw11.ReceiverOnce': WHATEVER THE INPUT: true; the input reads as it did. -/
def receiverOnceSpec : ChangeSpec := { name := "receiverOnce", fn := fun _ => fun
  | [d1, d2] => { results := [.lit (.bool true)], args := [d1, d2] }
  | _ => none }
def receiverOnceRow : OpenClaim := { program := "ytjloipjchcaloaa", sum := "27d3b35be63588a3233eb4e83899536e2851de70dc206a36759480c48bba4d80", func := "chapbook/chapbooklaw11.ReceiverOnce", spec := "receiverOnce", apart := false }
def ReceiverOnceSaid : Prop := receiverOnceRow.holds Try.pinned (OpenSpec.ofChange receiverOnceSpec)

/-- ITS FALSE NEIGHBOUR: 'it returns false'. Refute it at one input. -/
def receiverOnceWrong : ChangeSpec := { name := "receiverOnce", fn := fun _ => fun
  | [d1, d2] => { results := [.lit (.bool false)], args := [d1, d2] }
  | _ => none }
def ReceiverOnceWrongFalsely : Prop := receiverOnceRow.holds Try.pinned (OpenSpec.ofChange receiverOnceWrong)

/-- 'chapbooklaw11.ReceiverRoom': WHATEVER THE INPUT: true; the input reads as it did. -/
def receiverRoomSpec : ChangeSpec := { name := "receiverRoom", fn := fun _ => fun
  | [d1, d2] => { results := [.lit (.bool true)], args := [d1, d2] }
  | _ => none }
def receiverRoomRow : OpenClaim := { program := "ytjloipjchcaloaa", sum := "27d3b35be63588a3233eb4e83899536e2851de70dc206a36759480c48bba4d80", func := "chapbook/chapbooklaw11.ReceiverRoom", spec := "receiverRoom", apart := false }
def ReceiverRoomSaid : Prop := receiverRoomRow.holds Try.pinned (OpenSpec.ofChange receiverRoomSpec)

/-- ITS FALSE NEIGHBOUR: 'it returns false'. Refute it at one input. -/
def receiverRoomWrong : ChangeSpec := { name := "receiverRoom", fn := fun _ => fun
  | [d1, d2] => { results := [.lit (.bool false)], args := [d1, d2] }
  | _ => none }
def ReceiverRoomWrongFalsely : Prop := receiverRoomRow.holds Try.pinned (OpenSpec.ofChange receiverRoomWrong)

/-- 'chapbooklaw11.ReceiverOrder': WHATEVER THE INPUT: true; the input reads as it did. -/
def receiverOrderSpec : ChangeSpec := { name := "receiverOrder", fn := fun _ => fun
  | [d] => { results := [.lit (.bool true)], args := [d] }
  | _ => none }
def receiverOrderRow : OpenClaim := { program := "ytjloipjchcaloaa", sum := "27d3b35be63588a3233eb4e83899536e2851de70dc206a36759480c48bba4d80", func := "chapbook/chapbooklaw11.ReceiverOrder", spec := "receiverOrder", apart := false }
def ReceiverOrderSaid : Prop := receiverOrderRow.holds Try.pinned (OpenSpec.ofChange receiverOrderSpec)

/-- ITS FALSE NEIGHBOUR: 'it returns false'. Refute it at one input. -/
def receiverOrderWrong : ChangeSpec := { name := "receiverOrder", fn := fun _ => fun
  | [d] => { results := [.lit (.bool false)], args := [d] }
  | _ => none }
def ReceiverOrderWrongFalsely : Prop := receiverOrderRow.holds Try.pinned (OpenSpec.ofChange receiverOrderWrong)

/-- 'chapbooklaw10.SenderPlays': WHATEVER THE INPUT: true; the input reads as it did. -/
def senderPlaysSpec : ChangeSpec := { name := "senderPlays", fn := fun _ => fun
  | [d1, d2] => { results := [.lit (.bool true)], args := [d1, d2] }
  | _ => none }
def senderPlaysRow : OpenClaim := { program := "ytjloipjchcaloaa", sum := "27d3b35be63588a3233eb4e83899536e2851de70dc206a36759480c48bba4d80", func := "chapbook/chapbooklaw10.SenderPlays", spec := "senderPlays", apart := false }
def SenderPlaysSaid : Prop := senderPlaysRow.holds Try.pinned (OpenSpec.ofChange senderPlaysSpec)

/-- ITS FALSE NEIGHBOUR: 'it returns false'. Refute it at one input. -/
def senderPlaysWrong : ChangeSpec := { name := "senderPlays", fn := fun _ => fun
  | [d1, d2] => { results := [.lit (.bool false)], args := [d1, d2] }
  | _ => none }
def SenderPlaysWrongFalsely : Prop := senderPlaysRow.holds Try.pinned (OpenSpec.ofChange senderPlaysWrong)

/-- 'chapbooklaw10.SenderCopies': WHATEVER THE INPUT: true; the input reads as it did. -/
def senderCopiesSpec : ChangeSpec := { name := "senderCopies", fn := fun _ => fun
  | [d1, d2, d3] => { results := [.lit (.bool true)], args := [d1, d2, d3] }
  | _ => none }
def senderCopiesRow : OpenClaim := { program := "ytjloipjchcaloaa", sum := "27d3b35be63588a3233eb4e83899536e2851de70dc206a36759480c48bba4d80", func := "chapbook/chapbooklaw10.SenderCopies", spec := "senderCopies", apart := false }
def SenderCopiesSaid : Prop := senderCopiesRow.holds Try.pinned (OpenSpec.ofChange senderCopiesSpec)

/-- ITS FALSE NEIGHBOUR: 'it returns false'. Refute it at one input. -/
def senderCopiesWrong : ChangeSpec := { name := "senderCopies", fn := fun _ => fun
  | [d1, d2, d3] => { results := [.lit (.bool false)], args := [d1, d2, d3] }
  | _ => none }
def SenderCopiesWrongFalsely : Prop := senderCopiesRow.holds Try.pinned (OpenSpec.ofChange senderCopiesWrong)

/-- 'chapbooklaw12.LinkPlays': WHATEVER THE INPUT: true; the input reads as it did. -/
def linkPlaysSpec : ChangeSpec := { name := "linkPlays", fn := fun _ => fun
  | [d1, d2, d3] => { results := [.lit (.bool true)], args := [d1, d2, d3] }
  | _ => none }
def linkPlaysRow : OpenClaim := { program := "ytjloipjchcaloaa", sum := "27d3b35be63588a3233eb4e83899536e2851de70dc206a36759480c48bba4d80", func := "chapbook/chapbooklaw12.LinkPlays", spec := "linkPlays", apart := false }
def LinkPlaysSaid : Prop := linkPlaysRow.holds Try.pinned (OpenSpec.ofChange linkPlaysSpec)

/-- ITS FALSE NEIGHBOUR: 'it returns false'. Refute it at one input. -/
def linkPlaysWrong : ChangeSpec := { name := "linkPlays", fn := fun _ => fun
  | [d1, d2, d3] => { results := [.lit (.bool false)], args := [d1, d2, d3] }
  | _ => none }
def LinkPlaysWrongFalsely : Prop := linkPlaysRow.holds Try.pinned (OpenSpec.ofChange linkPlaysWrong)

/-- 'chapbooklaw12.LinkPair': WHATEVER THE INPUT: true; the input reads as it did. -/
def linkPairSpec : ChangeSpec := { name := "linkPair", fn := fun _ => fun
  | [d1, d2, d3] => { results := [.lit (.bool true)], args := [d1, d2, d3] }
  | _ => none }
def linkPairRow : OpenClaim := { program := "ytjloipjchcaloaa", sum := "27d3b35be63588a3233eb4e83899536e2851de70dc206a36759480c48bba4d80", func := "chapbook/chapbooklaw12.LinkPair", spec := "linkPair", apart := false }
def LinkPairSaid : Prop := linkPairRow.holds Try.pinned (OpenSpec.ofChange linkPairSpec)

/-- ITS FALSE NEIGHBOUR: 'it returns false'. Refute it at one input. -/
def linkPairWrong : ChangeSpec := { name := "linkPair", fn := fun _ => fun
  | [d1, d2, d3] => { results := [.lit (.bool false)], args := [d1, d2, d3] }
  | _ => none }
def LinkPairWrongFalsely : Prop := linkPairRow.holds Try.pinned (OpenSpec.ofChange linkPairWrong)

/-- 'chapbooklaw12.LinkEpochs': WHATEVER THE INPUT: true; the input reads as it did. -/
def linkEpochsSpec : ChangeSpec := { name := "linkEpochs", fn := fun _ => fun
  | [d1, d2, d3] => { results := [.lit (.bool true)], args := [d1, d2, d3] }
  | _ => none }
def linkEpochsRow : OpenClaim := { program := "ytjloipjchcaloaa", sum := "27d3b35be63588a3233eb4e83899536e2851de70dc206a36759480c48bba4d80", func := "chapbook/chapbooklaw12.LinkEpochs", spec := "linkEpochs", apart := false }
def LinkEpochsSaid : Prop := linkEpochsRow.holds Try.pinned (OpenSpec.ofChange linkEpochsSpec)

/-- ITS FALSE NEIGHBOUR: 'it returns false'. Refute it at one input. -/
def linkEpochsWrong : ChangeSpec := { name := "linkEpochs", fn := fun _ => fun
  | [d1, d2, d3] => { results := [.lit (.bool false)], args := [d1, d2, d3] }
  | _ => none }
def LinkEpochsWrongFalsely : Prop := linkEpochsRow.holds Try.pinned (OpenSpec.ofChange linkEpochsWrong)

/-- 'chapbooklaw12.LinkQuiet': WHATEVER THE INPUT: true; the input reads as it did. -/
def linkQuietSpec : ChangeSpec := { name := "linkQuiet", fn := fun _ => fun
  | [d1, d2] => { results := [.lit (.bool true)], args := [d1, d2] }
  | _ => none }
def linkQuietRow : OpenClaim := { program := "ytjloipjchcaloaa", sum := "27d3b35be63588a3233eb4e83899536e2851de70dc206a36759480c48bba4d80", func := "chapbook/chapbooklaw12.LinkQuiet", spec := "linkQuiet", apart := false }
def LinkQuietSaid : Prop := linkQuietRow.holds Try.pinned (OpenSpec.ofChange linkQuietSpec)

/-- ITS FALSE NEIGHBOUR: 'it returns false'. Refute it at one input. -/
def linkQuietWrong : ChangeSpec := { name := "linkQuiet", fn := fun _ => fun
  | [d1, d2] => { results := [.lit (.bool false)], args := [d1, d2] }
  | _ => none }
def LinkQuietWrongFalsely : Prop := linkQuietRow.holds Try.pinned (OpenSpec.ofChange linkQuietWrong)

/-- 'chapbooklaw12.LinkLate': WHATEVER THE INPUT: true; the input reads as it did. -/
def linkLateSpec : ChangeSpec := { name := "linkLate", fn := fun _ => fun
  | [d1, d2] => { results := [.lit (.bool true)], args := [d1, d2] }
  | _ => none }
def linkLateRow : OpenClaim := { program := "ytjloipjchcaloaa", sum := "27d3b35be63588a3233eb4e83899536e2851de70dc206a36759480c48bba4d80", func := "chapbook/chapbooklaw12.LinkLate", spec := "linkLate", apart := false }
def LinkLateSaid : Prop := linkLateRow.holds Try.pinned (OpenSpec.ofChange linkLateSpec)

/-- ITS FALSE NEIGHBOUR: 'it returns false'. Refute it at one input. -/
def linkLateWrong : ChangeSpec := { name := "linkLate", fn := fun _ => fun
  | [d1, d2] => { results := [.lit (.bool false)], args := [d1, d2] }
  | _ => none }
def LinkLateWrongFalsely : Prop := linkLateRow.holds Try.pinned (OpenSpec.ofChange linkLateWrong)

/-- 'chapbooklaw12.LinkSame': WHATEVER THE INPUT: true; the input reads as it did. -/
def linkSameSpec : ChangeSpec := { name := "linkSame", fn := fun _ => fun
  | [d1, d2, d3] => { results := [.lit (.bool true)], args := [d1, d2, d3] }
  | _ => none }
def linkSameRow : OpenClaim := { program := "ytjloipjchcaloaa", sum := "27d3b35be63588a3233eb4e83899536e2851de70dc206a36759480c48bba4d80", func := "chapbook/chapbooklaw12.LinkSame", spec := "linkSame", apart := false }
def LinkSameSaid : Prop := linkSameRow.holds Try.pinned (OpenSpec.ofChange linkSameSpec)

/-- ITS FALSE NEIGHBOUR: 'it returns false'. Refute it at one input. -/
def linkSameWrong : ChangeSpec := { name := "linkSame", fn := fun _ => fun
  | [d1, d2, d3] => { results := [.lit (.bool false)], args := [d1, d2, d3] }
  | _ => none }
def LinkSameWrongFalsely : Prop := linkSameRow.holds Try.pinned (OpenSpec.ofChange linkSameWrong)

/- THE SECOND FORM. 'bulk': how many values and letters a reading holds, each counted each time it is reached (what is shared counts as often as it is met; a slice's spare places count too). A statement '..UptoSaid' is the law's where the arguments, and the package variables that the reading takes, are together of bulk at most 1048576: NARROWER than '..Said'. Prove '..Said' where nothing that the law and all that it calls make is longer than what came in: it says more and counts as full. Else prove '..UptoSaid'. A law counts once. -/
mutual
def uptoBulk {H : Type} : DataW H → Nat
  | .lit (.string bytes) => bytes.length + 1
  | .lit _ => 1
  | .nil => 1
  | .ptr d => uptoBulk d + 1
  | .slice elems spare => uptoBulkAll elems + uptoBulkAll spare + 1
  | .agg parts => uptoBulkAll parts + 1
  | .iface _ d => uptoBulk d + 1
  | .map entries => uptoBulkEntries entries + 1
  | .held _ => 1
def uptoBulkAll {H : Type} : List (DataW H) → Nat
  | [] => 0
  | d :: r => uptoBulk d + uptoBulkAll r
def uptoBulkEntries {H : Type} : List (Lit × DataW H) → Nat
  | [] => 0
  | x :: r => uptoBulkEntry x + uptoBulkEntries r
def uptoBulkEntry {H : Type} : Lit × DataW H → Nat
  | (.string bytes, d) => bytes.length + uptoBulk d + 1
  | (_, d) => uptoBulk d + 1
 end
def uptoSmall : (H : Type) → List (DataW H) → Bool := fun _ ds => decide (uptoBulkAll ds ≤ 1048576)
def OpenSpec.upto (s : _root_.Go.ChangeSpec) : _root_.Go.OpenSpec := { _root_.Go.OpenSpec.ofChange s with cond := some uptoSmall }

/-- 'chapbooklaw10.SenderFifo', WHERE WHAT IT READS IS OF BULK AT MOST 1048576: true; the input reads as it did. -/
def senderFifoUptoRow : OpenClaim := { program := "ytjloipjchcaloaa", sum := "27d3b35be63588a3233eb4e83899536e2851de70dc206a36759480c48bba4d80", func := "chapbook/chapbooklaw10.SenderFifo", spec := "senderFifo", apart := false, narrowed := true }
def SenderFifoUptoSaid : Prop := senderFifoUptoRow.holds Try.pinned (OpenSpec.upto senderFifoSpec)

/-- 'chapbooklaw10.SenderFull', WHERE WHAT IT READS IS OF BULK AT MOST 1048576: true; the input reads as it did. -/
def senderFullUptoRow : OpenClaim := { program := "ytjloipjchcaloaa", sum := "27d3b35be63588a3233eb4e83899536e2851de70dc206a36759480c48bba4d80", func := "chapbook/chapbooklaw10.SenderFull", spec := "senderFull", apart := false, narrowed := true }
def SenderFullUptoSaid : Prop := senderFullUptoRow.holds Try.pinned (OpenSpec.upto senderFullSpec)

/-- 'chapbooklaw10.SenderAcks', WHERE WHAT IT READS IS OF BULK AT MOST 1048576: true; the input reads as it did. -/
def senderAcksUptoRow : OpenClaim := { program := "ytjloipjchcaloaa", sum := "27d3b35be63588a3233eb4e83899536e2851de70dc206a36759480c48bba4d80", func := "chapbook/chapbooklaw10.SenderAcks", spec := "senderAcks", apart := false, narrowed := true }
def SenderAcksUptoSaid : Prop := senderAcksUptoRow.holds Try.pinned (OpenSpec.upto senderAcksSpec)

/-- 'chapbooklaw11.ReceiverPlays', WHERE WHAT IT READS IS OF BULK AT MOST 1048576: true; the input reads as it did. -/
def receiverPlaysUptoRow : OpenClaim := { program := "ytjloipjchcaloaa", sum := "27d3b35be63588a3233eb4e83899536e2851de70dc206a36759480c48bba4d80", func := "chapbook/chapbooklaw11.ReceiverPlays", spec := "receiverPlays", apart := false, narrowed := true }
def ReceiverPlaysUptoSaid : Prop := receiverPlaysUptoRow.holds Try.pinned (OpenSpec.upto receiverPlaysSpec)

/-- 'chapbooklaw11.ReceiverOnce', WHERE WHAT IT READS IS OF BULK AT MOST 1048576: true; the input reads as it did. -/
def receiverOnceUptoRow : OpenClaim := { program := "ytjloipjchcaloaa", sum := "27d3b35be63588a3233eb4e83899536e2851de70dc206a36759480c48bba4d80", func := "chapbook/chapbooklaw11.ReceiverOnce", spec := "receiverOnce", apart := false, narrowed := true }
def ReceiverOnceUptoSaid : Prop := receiverOnceUptoRow.holds Try.pinned (OpenSpec.upto receiverOnceSpec)

/-- 'chapbooklaw11.ReceiverRoom', WHERE WHAT IT READS IS OF BULK AT MOST 1048576: true; the input reads as it did. -/
def receiverRoomUptoRow : OpenClaim := { program := "ytjloipjchcaloaa", sum := "27d3b35be63588a3233eb4e83899536e2851de70dc206a36759480c48bba4d80", func := "chapbook/chapbooklaw11.ReceiverRoom", spec := "receiverRoom", apart := false, narrowed := true }
def ReceiverRoomUptoSaid : Prop := receiverRoomUptoRow.holds Try.pinned (OpenSpec.upto receiverRoomSpec)

/-- 'chapbooklaw11.ReceiverOrder', WHERE WHAT IT READS IS OF BULK AT MOST 1048576: true; the input reads as it did. -/
def receiverOrderUptoRow : OpenClaim := { program := "ytjloipjchcaloaa", sum := "27d3b35be63588a3233eb4e83899536e2851de70dc206a36759480c48bba4d80", func := "chapbook/chapbooklaw11.ReceiverOrder", spec := "receiverOrder", apart := false, narrowed := true }
def ReceiverOrderUptoSaid : Prop := receiverOrderUptoRow.holds Try.pinned (OpenSpec.upto receiverOrderSpec)

/-- 'chapbooklaw10.SenderPlays', WHERE WHAT IT READS IS OF BULK AT MOST 1048576: true; the input reads as it did. -/
def senderPlaysUptoRow : OpenClaim := { program := "ytjloipjchcaloaa", sum := "27d3b35be63588a3233eb4e83899536e2851de70dc206a36759480c48bba4d80", func := "chapbook/chapbooklaw10.SenderPlays", spec := "senderPlays", apart := false, narrowed := true }
def SenderPlaysUptoSaid : Prop := senderPlaysUptoRow.holds Try.pinned (OpenSpec.upto senderPlaysSpec)

/-- 'chapbooklaw10.SenderCopies', WHERE WHAT IT READS IS OF BULK AT MOST 1048576: true; the input reads as it did. -/
def senderCopiesUptoRow : OpenClaim := { program := "ytjloipjchcaloaa", sum := "27d3b35be63588a3233eb4e83899536e2851de70dc206a36759480c48bba4d80", func := "chapbook/chapbooklaw10.SenderCopies", spec := "senderCopies", apart := false, narrowed := true }
def SenderCopiesUptoSaid : Prop := senderCopiesUptoRow.holds Try.pinned (OpenSpec.upto senderCopiesSpec)

/-- 'chapbooklaw12.LinkPlays', WHERE WHAT IT READS IS OF BULK AT MOST 1048576: true; the input reads as it did. -/
def linkPlaysUptoRow : OpenClaim := { program := "ytjloipjchcaloaa", sum := "27d3b35be63588a3233eb4e83899536e2851de70dc206a36759480c48bba4d80", func := "chapbook/chapbooklaw12.LinkPlays", spec := "linkPlays", apart := false, narrowed := true }
def LinkPlaysUptoSaid : Prop := linkPlaysUptoRow.holds Try.pinned (OpenSpec.upto linkPlaysSpec)

/-- 'chapbooklaw12.LinkPair', WHERE WHAT IT READS IS OF BULK AT MOST 1048576: true; the input reads as it did. -/
def linkPairUptoRow : OpenClaim := { program := "ytjloipjchcaloaa", sum := "27d3b35be63588a3233eb4e83899536e2851de70dc206a36759480c48bba4d80", func := "chapbook/chapbooklaw12.LinkPair", spec := "linkPair", apart := false, narrowed := true }
def LinkPairUptoSaid : Prop := linkPairUptoRow.holds Try.pinned (OpenSpec.upto linkPairSpec)

/-- 'chapbooklaw12.LinkEpochs', WHERE WHAT IT READS IS OF BULK AT MOST 1048576: true; the input reads as it did. -/
def linkEpochsUptoRow : OpenClaim := { program := "ytjloipjchcaloaa", sum := "27d3b35be63588a3233eb4e83899536e2851de70dc206a36759480c48bba4d80", func := "chapbook/chapbooklaw12.LinkEpochs", spec := "linkEpochs", apart := false, narrowed := true }
def LinkEpochsUptoSaid : Prop := linkEpochsUptoRow.holds Try.pinned (OpenSpec.upto linkEpochsSpec)

/-- 'chapbooklaw12.LinkQuiet', WHERE WHAT IT READS IS OF BULK AT MOST 1048576: true; the input reads as it did. -/
def linkQuietUptoRow : OpenClaim := { program := "ytjloipjchcaloaa", sum := "27d3b35be63588a3233eb4e83899536e2851de70dc206a36759480c48bba4d80", func := "chapbook/chapbooklaw12.LinkQuiet", spec := "linkQuiet", apart := false, narrowed := true }
def LinkQuietUptoSaid : Prop := linkQuietUptoRow.holds Try.pinned (OpenSpec.upto linkQuietSpec)

/-- 'chapbooklaw12.LinkLate', WHERE WHAT IT READS IS OF BULK AT MOST 1048576: true; the input reads as it did. -/
def linkLateUptoRow : OpenClaim := { program := "ytjloipjchcaloaa", sum := "27d3b35be63588a3233eb4e83899536e2851de70dc206a36759480c48bba4d80", func := "chapbook/chapbooklaw12.LinkLate", spec := "linkLate", apart := false, narrowed := true }
def LinkLateUptoSaid : Prop := linkLateUptoRow.holds Try.pinned (OpenSpec.upto linkLateSpec)

/-- 'chapbooklaw12.LinkSame', WHERE WHAT IT READS IS OF BULK AT MOST 1048576: true; the input reads as it did. -/
def linkSameUptoRow : OpenClaim := { program := "ytjloipjchcaloaa", sum := "27d3b35be63588a3233eb4e83899536e2851de70dc206a36759480c48bba4d80", func := "chapbook/chapbooklaw12.LinkSame", spec := "linkSame", apart := false, narrowed := true }
def LinkSameUptoSaid : Prop := linkSameUptoRow.holds Try.pinned (OpenSpec.upto linkSameSpec)

end Rows
end Go.Proofs.Ytjloipjchcaloaa
