/-
  No cell of these rows narrows 'for every input' (looked for: loops, veiled, ifaces, maps, wideKeys, modest, calm, conditions, laid).
  DERIVED. THE GIVEN ROWS OF THIS SEAT. 10 by the template 'for every input the law returns true; each argument reads behind the call as it read before'; 0 by the template 'total and deterministic' (their statements: YtbofcocfcmlcaaaTotals.lean).
  GIVEN WITH THE SEED: the statements are not yours to turn. If you find one false, say at which input.
  Laid BY PROGRAM, IN A SANDBOX (cutbox-rows.mjs): the forced cells as the released guide's own fill.sh prints them over the translation 248c49940ec62325… (all of the seat's roots in one cut). By AI agents, Wed Nov 11 2026. No macro, syntax, notation, axiom, sorry.
-/
import Derived.Test.YtbofcocfcmlcaaaChecked
import GoSem.Claim
import GoSem.ClaimJoined
import GoSem.ClaimMapViews
import Derived.JoinedTies
import Derived.KernelRfl
namespace Go.Proofs.Ytbofcocfcmlcaaa
/- THE CELL 'sum', in the pinned program and in every row, IS THE sha256 OF THE DUMP (.gsa) THAT YtbofcocfcmlcaaaProg.lean LOADS. Nothing in Lean hashes anything: it is a label: what it is worth is what the hold of that sum in a sandbox is worth. -/
noncomputable def Try.pinned : Pinned := { name := "ytbofcocfcmlcaaa", sum := "248c49940ec623258fdabbadb682106cd4e1742f402d7d20150fb66d02458c02", checked := Try.checked }
namespace Rows
def none {H : Type} : Left H := { results := [], args := [] }

/-- 'gazettelaw04.StoreRoom': WHATEVER THE INPUT: true; the input reads as it did. -/
def storeRoomSpec : ChangeSpec := { name := "storeRoom", fn := fun _ => fun
  | [d1, d2] => { results := [.lit (.bool true)], args := [d1, d2] }
  | _ => none }
def storeRoomRow : OpenClaim := { program := "ytbofcocfcmlcaaa", sum := "248c49940ec623258fdabbadb682106cd4e1742f402d7d20150fb66d02458c02", func := "gazette/gazettelaw04.StoreRoom", spec := "storeRoom", unfollowed := true, recurses := true, plainKeys := false, apart := false }
def StoreRoomSaid : Prop := storeRoomRow.holds Try.pinned (OpenSpec.ofChange storeRoomSpec)

/-- ITS FALSE NEIGHBOUR: 'it returns false'. Refute it at one input. -/
def storeRoomWrong : ChangeSpec := { name := "storeRoom", fn := fun _ => fun
  | [d1, d2] => { results := [.lit (.bool false)], args := [d1, d2] }
  | _ => none }
def StoreRoomWrongFalsely : Prop := storeRoomRow.holds Try.pinned (OpenSpec.ofChange storeRoomWrong)

/-- 'gazettelaw04.StoreOnce': WHATEVER THE INPUT: true; the input reads as it did. -/
def storeOnceSpec : ChangeSpec := { name := "storeOnce", fn := fun _ => fun
  | [d1, d2] => { results := [.lit (.bool true)], args := [d1, d2] }
  | _ => none }
def storeOnceRow : OpenClaim := { program := "ytbofcocfcmlcaaa", sum := "248c49940ec623258fdabbadb682106cd4e1742f402d7d20150fb66d02458c02", func := "gazette/gazettelaw04.StoreOnce", spec := "storeOnce", unfollowed := true, recurses := true, plainKeys := false, apart := false }
def StoreOnceSaid : Prop := storeOnceRow.holds Try.pinned (OpenSpec.ofChange storeOnceSpec)

/-- ITS FALSE NEIGHBOUR: 'it returns false'. Refute it at one input. -/
def storeOnceWrong : ChangeSpec := { name := "storeOnce", fn := fun _ => fun
  | [d1, d2] => { results := [.lit (.bool false)], args := [d1, d2] }
  | _ => none }
def StoreOnceWrongFalsely : Prop := storeOnceRow.holds Try.pinned (OpenSpec.ofChange storeOnceWrong)

/-- 'gazettelaw04.StoreApart': WHATEVER THE INPUT: true; the input reads as it did. -/
def storeApartSpec : ChangeSpec := { name := "storeApart", fn := fun _ => fun
  | [d1, d2] => { results := [.lit (.bool true)], args := [d1, d2] }
  | _ => none }
def storeApartRow : OpenClaim := { program := "ytbofcocfcmlcaaa", sum := "248c49940ec623258fdabbadb682106cd4e1742f402d7d20150fb66d02458c02", func := "gazette/gazettelaw04.StoreApart", spec := "storeApart", unfollowed := true, recurses := true, plainKeys := false, apart := false }
def StoreApartSaid : Prop := storeApartRow.holds Try.pinned (OpenSpec.ofChange storeApartSpec)

/-- ITS FALSE NEIGHBOUR: 'it returns false'. Refute it at one input. -/
def storeApartWrong : ChangeSpec := { name := "storeApart", fn := fun _ => fun
  | [d1, d2] => { results := [.lit (.bool false)], args := [d1, d2] }
  | _ => none }
def StoreApartWrongFalsely : Prop := storeApartRow.holds Try.pinned (OpenSpec.ofChange storeApartWrong)

/-- 'gazettelaw05.NodeBytes': WHATEVER THE INPUT: true; the input reads as it did. -/
def nodeBytesSpec : ChangeSpec := { name := "nodeBytes", fn := fun _ => fun
  | [d1, d2, d3] => { results := [.lit (.bool true)], args := [d1, d2, d3] }
  | _ => none }
def nodeBytesRow : OpenClaim := { program := "ytbofcocfcmlcaaa", sum := "248c49940ec623258fdabbadb682106cd4e1742f402d7d20150fb66d02458c02", func := "gazette/gazettelaw05.NodeBytes", spec := "nodeBytes", unfollowed := true, recurses := true, plainKeys := false, apart := false }
def NodeBytesSaid : Prop := nodeBytesRow.holds Try.pinned (OpenSpec.ofChange nodeBytesSpec)

/-- ITS FALSE NEIGHBOUR: 'it returns false'. Refute it at one input. -/
def nodeBytesWrong : ChangeSpec := { name := "nodeBytes", fn := fun _ => fun
  | [d1, d2, d3] => { results := [.lit (.bool false)], args := [d1, d2, d3] }
  | _ => none }
def NodeBytesWrongFalsely : Prop := nodeBytesRow.holds Try.pinned (OpenSpec.ofChange nodeBytesWrong)

/-- 'gazettelaw05.NodeBack': WHATEVER THE INPUT: true; the input reads as it did. -/
def nodeBackSpec : ChangeSpec := { name := "nodeBack", fn := fun _ => fun
  | [d1, d2, d3] => { results := [.lit (.bool true)], args := [d1, d2, d3] }
  | _ => none }
def nodeBackRow : OpenClaim := { program := "ytbofcocfcmlcaaa", sum := "248c49940ec623258fdabbadb682106cd4e1742f402d7d20150fb66d02458c02", func := "gazette/gazettelaw05.NodeBack", spec := "nodeBack", unfollowed := true, recurses := true, plainKeys := false, apart := false }
def NodeBackSaid : Prop := nodeBackRow.holds Try.pinned (OpenSpec.ofChange nodeBackSpec)

/-- ITS FALSE NEIGHBOUR: 'it returns false'. Refute it at one input. -/
def nodeBackWrong : ChangeSpec := { name := "nodeBack", fn := fun _ => fun
  | [d1, d2, d3] => { results := [.lit (.bool false)], args := [d1, d2, d3] }
  | _ => none }
def NodeBackWrongFalsely : Prop := nodeBackRow.holds Try.pinned (OpenSpec.ofChange nodeBackWrong)

/-- 'gazettelaw05.NodeTwice': WHATEVER THE INPUT: true; the input reads as it did. -/
def nodeTwiceSpec : ChangeSpec := { name := "nodeTwice", fn := fun _ => fun
  | [d1, d2, d3] => { results := [.lit (.bool true)], args := [d1, d2, d3] }
  | _ => none }
def nodeTwiceRow : OpenClaim := { program := "ytbofcocfcmlcaaa", sum := "248c49940ec623258fdabbadb682106cd4e1742f402d7d20150fb66d02458c02", func := "gazette/gazettelaw05.NodeTwice", spec := "nodeTwice", unfollowed := true, recurses := true, plainKeys := false, apart := false }
def NodeTwiceSaid : Prop := nodeTwiceRow.holds Try.pinned (OpenSpec.ofChange nodeTwiceSpec)

/-- ITS FALSE NEIGHBOUR: 'it returns false'. Refute it at one input. -/
def nodeTwiceWrong : ChangeSpec := { name := "nodeTwice", fn := fun _ => fun
  | [d1, d2, d3] => { results := [.lit (.bool false)], args := [d1, d2, d3] }
  | _ => none }
def NodeTwiceWrongFalsely : Prop := nodeTwiceRow.holds Try.pinned (OpenSpec.ofChange nodeTwiceWrong)

/-- 'gazettelaw05.NodeRequests': WHATEVER THE INPUT: true; the input reads as it did. -/
def nodeRequestsSpec : ChangeSpec := { name := "nodeRequests", fn := fun _ => fun
  | [d1, d2] => { results := [.lit (.bool true)], args := [d1, d2] }
  | _ => none }
def nodeRequestsRow : OpenClaim := { program := "ytbofcocfcmlcaaa", sum := "248c49940ec623258fdabbadb682106cd4e1742f402d7d20150fb66d02458c02", func := "gazette/gazettelaw05.NodeRequests", spec := "nodeRequests", unfollowed := true, recurses := true, plainKeys := false, apart := false }
def NodeRequestsSaid : Prop := nodeRequestsRow.holds Try.pinned (OpenSpec.ofChange nodeRequestsSpec)

/-- ITS FALSE NEIGHBOUR: 'it returns false'. Refute it at one input. -/
def nodeRequestsWrong : ChangeSpec := { name := "nodeRequests", fn := fun _ => fun
  | [d1, d2] => { results := [.lit (.bool false)], args := [d1, d2] }
  | _ => none }
def NodeRequestsWrongFalsely : Prop := nodeRequestsRow.holds Try.pinned (OpenSpec.ofChange nodeRequestsWrong)

/-- 'gazettelaw05.NodeReplies': WHATEVER THE INPUT: true; the input reads as it did. -/
def nodeRepliesSpec : ChangeSpec := { name := "nodeReplies", fn := fun _ => fun
  | [d1, d2] => { results := [.lit (.bool true)], args := [d1, d2] }
  | _ => none }
def nodeRepliesRow : OpenClaim := { program := "ytbofcocfcmlcaaa", sum := "248c49940ec623258fdabbadb682106cd4e1742f402d7d20150fb66d02458c02", func := "gazette/gazettelaw05.NodeReplies", spec := "nodeReplies", unfollowed := true, recurses := true, plainKeys := false, apart := false }
def NodeRepliesSaid : Prop := nodeRepliesRow.holds Try.pinned (OpenSpec.ofChange nodeRepliesSpec)

/-- ITS FALSE NEIGHBOUR: 'it returns false'. Refute it at one input. -/
def nodeRepliesWrong : ChangeSpec := { name := "nodeReplies", fn := fun _ => fun
  | [d1, d2] => { results := [.lit (.bool false)], args := [d1, d2] }
  | _ => none }
def NodeRepliesWrongFalsely : Prop := nodeRepliesRow.holds Try.pinned (OpenSpec.ofChange nodeRepliesWrong)

/-- 'gazettelaw04.StoreNil': WHATEVER THE INPUT: true; the input reads as it did. -/
def storeNilSpec : ChangeSpec := { name := "storeNil", fn := fun _ => fun
  | [d1, d2, d3] => { results := [.lit (.bool true)], args := [d1, d2, d3] }
  | _ => none }
def storeNilRow : OpenClaim := { program := "ytbofcocfcmlcaaa", sum := "248c49940ec623258fdabbadb682106cd4e1742f402d7d20150fb66d02458c02", func := "gazette/gazettelaw04.StoreNil", spec := "storeNil", unfollowed := true, recurses := true, plainKeys := false, apart := false }
def StoreNilSaid : Prop := storeNilRow.holds Try.pinned (OpenSpec.ofChange storeNilSpec)

/-- ITS FALSE NEIGHBOUR: 'it returns false'. Refute it at one input. -/
def storeNilWrong : ChangeSpec := { name := "storeNil", fn := fun _ => fun
  | [d1, d2, d3] => { results := [.lit (.bool false)], args := [d1, d2, d3] }
  | _ => none }
def StoreNilWrongFalsely : Prop := storeNilRow.holds Try.pinned (OpenSpec.ofChange storeNilWrong)

/-- 'gazettelaw04.StoreLasts': WHATEVER THE INPUT: true; the input reads as it did. -/
def storeLastsSpec : ChangeSpec := { name := "storeLasts", fn := fun _ => fun
  | [d1, d2] => { results := [.lit (.bool true)], args := [d1, d2] }
  | _ => none }
def storeLastsRow : OpenClaim := { program := "ytbofcocfcmlcaaa", sum := "248c49940ec623258fdabbadb682106cd4e1742f402d7d20150fb66d02458c02", func := "gazette/gazettelaw04.StoreLasts", spec := "storeLasts", unfollowed := true, recurses := true, plainKeys := false, apart := false }
def StoreLastsSaid : Prop := storeLastsRow.holds Try.pinned (OpenSpec.ofChange storeLastsSpec)

/-- ITS FALSE NEIGHBOUR: 'it returns false'. Refute it at one input. -/
def storeLastsWrong : ChangeSpec := { name := "storeLasts", fn := fun _ => fun
  | [d1, d2] => { results := [.lit (.bool false)], args := [d1, d2] }
  | _ => none }
def StoreLastsWrongFalsely : Prop := storeLastsRow.holds Try.pinned (OpenSpec.ofChange storeLastsWrong)

/- THE SECOND FORM. 'bulk': how many values and letters a reading holds, each counted each time it is reached (what is shared counts as often as it is met; a slice's spare places count too). A statement '..UptoSaid' is the law's where the arguments, and the package variables that the reading takes, are together of bulk at most 1048576: NARROWER than '..Said'. Prove '..Said' where nothing that the law and all that it calls make is longer than what came in: it says more and counts as full. Else prove '..UptoSaid'. A law counts once. -/
mutual
def uptoBulk {H : Type} : DataW H → Nat
  | .lit (.string bytes) => bytes.length + 1
  | .lit _ => 1
  | .nil => 1
  | .ptr d => uptoBulk d + 1
  | .slice elems spare => uptoBulkAll elems + uptoBulkAll spare + 1
  | .agg parts => uptoBulkAll parts + 1
  | .iface _ d => uptoBulk d + 1
  | .map entries => uptoBulkEntries entries + 1
  | .held _ => 1
def uptoBulkAll {H : Type} : List (DataW H) → Nat
  | [] => 0
  | d :: r => uptoBulk d + uptoBulkAll r
def uptoBulkEntries {H : Type} : List (Lit × DataW H) → Nat
  | [] => 0
  | x :: r => uptoBulkEntry x + uptoBulkEntries r
def uptoBulkEntry {H : Type} : Lit × DataW H → Nat
  | (.string bytes, d) => bytes.length + uptoBulk d + 1
  | (_, d) => uptoBulk d + 1
 end
def uptoSmall : (H : Type) → List (DataW H) → Bool := fun _ ds => decide (uptoBulkAll ds ≤ 1048576)
def OpenSpec.upto (s : _root_.Go.ChangeSpec) : _root_.Go.OpenSpec := { _root_.Go.OpenSpec.ofChange s with cond := some uptoSmall }

/-- 'gazettelaw04.StoreRoom', WHERE WHAT IT READS IS OF BULK AT MOST 1048576: true; the input reads as it did. -/
def storeRoomUptoRow : OpenClaim := { program := "ytbofcocfcmlcaaa", sum := "248c49940ec623258fdabbadb682106cd4e1742f402d7d20150fb66d02458c02", func := "gazette/gazettelaw04.StoreRoom", spec := "storeRoom", unfollowed := true, recurses := true, plainKeys := false, apart := false, narrowed := true }
def StoreRoomUptoSaid : Prop := storeRoomUptoRow.holds Try.pinned (OpenSpec.upto storeRoomSpec)

/-- 'gazettelaw04.StoreOnce', WHERE WHAT IT READS IS OF BULK AT MOST 1048576: true; the input reads as it did. -/
def storeOnceUptoRow : OpenClaim := { program := "ytbofcocfcmlcaaa", sum := "248c49940ec623258fdabbadb682106cd4e1742f402d7d20150fb66d02458c02", func := "gazette/gazettelaw04.StoreOnce", spec := "storeOnce", unfollowed := true, recurses := true, plainKeys := false, apart := false, narrowed := true }
def StoreOnceUptoSaid : Prop := storeOnceUptoRow.holds Try.pinned (OpenSpec.upto storeOnceSpec)

/-- 'gazettelaw04.StoreApart', WHERE WHAT IT READS IS OF BULK AT MOST 1048576: true; the input reads as it did. -/
def storeApartUptoRow : OpenClaim := { program := "ytbofcocfcmlcaaa", sum := "248c49940ec623258fdabbadb682106cd4e1742f402d7d20150fb66d02458c02", func := "gazette/gazettelaw04.StoreApart", spec := "storeApart", unfollowed := true, recurses := true, plainKeys := false, apart := false, narrowed := true }
def StoreApartUptoSaid : Prop := storeApartUptoRow.holds Try.pinned (OpenSpec.upto storeApartSpec)

/-- 'gazettelaw05.NodeBytes', WHERE WHAT IT READS IS OF BULK AT MOST 1048576: true; the input reads as it did. -/
def nodeBytesUptoRow : OpenClaim := { program := "ytbofcocfcmlcaaa", sum := "248c49940ec623258fdabbadb682106cd4e1742f402d7d20150fb66d02458c02", func := "gazette/gazettelaw05.NodeBytes", spec := "nodeBytes", unfollowed := true, recurses := true, plainKeys := false, apart := false, narrowed := true }
def NodeBytesUptoSaid : Prop := nodeBytesUptoRow.holds Try.pinned (OpenSpec.upto nodeBytesSpec)

/-- 'gazettelaw05.NodeBack', WHERE WHAT IT READS IS OF BULK AT MOST 1048576: true; the input reads as it did. -/
def nodeBackUptoRow : OpenClaim := { program := "ytbofcocfcmlcaaa", sum := "248c49940ec623258fdabbadb682106cd4e1742f402d7d20150fb66d02458c02", func := "gazette/gazettelaw05.NodeBack", spec := "nodeBack", unfollowed := true, recurses := true, plainKeys := false, apart := false, narrowed := true }
def NodeBackUptoSaid : Prop := nodeBackUptoRow.holds Try.pinned (OpenSpec.upto nodeBackSpec)

/-- 'gazettelaw05.NodeTwice', WHERE WHAT IT READS IS OF BULK AT MOST 1048576: true; the input reads as it did. -/
def nodeTwiceUptoRow : OpenClaim := { program := "ytbofcocfcmlcaaa", sum := "248c49940ec623258fdabbadb682106cd4e1742f402d7d20150fb66d02458c02", func := "gazette/gazettelaw05.NodeTwice", spec := "nodeTwice", unfollowed := true, recurses := true, plainKeys := false, apart := false, narrowed := true }
def NodeTwiceUptoSaid : Prop := nodeTwiceUptoRow.holds Try.pinned (OpenSpec.upto nodeTwiceSpec)

/-- 'gazettelaw05.NodeRequests', WHERE WHAT IT READS IS OF BULK AT MOST 1048576: true; the input reads as it did. -/
def nodeRequestsUptoRow : OpenClaim := { program := "ytbofcocfcmlcaaa", sum := "248c49940ec623258fdabbadb682106cd4e1742f402d7d20150fb66d02458c02", func := "gazette/gazettelaw05.NodeRequests", spec := "nodeRequests", unfollowed := true, recurses := true, plainKeys := false, apart := false, narrowed := true }
def NodeRequestsUptoSaid : Prop := nodeRequestsUptoRow.holds Try.pinned (OpenSpec.upto nodeRequestsSpec)

/-- 'gazettelaw05.NodeReplies', WHERE WHAT IT READS IS OF BULK AT MOST 1048576: true; the input reads as it did. -/
def nodeRepliesUptoRow : OpenClaim := { program := "ytbofcocfcmlcaaa", sum := "248c49940ec623258fdabbadb682106cd4e1742f402d7d20150fb66d02458c02", func := "gazette/gazettelaw05.NodeReplies", spec := "nodeReplies", unfollowed := true, recurses := true, plainKeys := false, apart := false, narrowed := true }
def NodeRepliesUptoSaid : Prop := nodeRepliesUptoRow.holds Try.pinned (OpenSpec.upto nodeRepliesSpec)

/-- 'gazettelaw04.StoreNil', WHERE WHAT IT READS IS OF BULK AT MOST 1048576: true; the input reads as it did. -/
def storeNilUptoRow : OpenClaim := { program := "ytbofcocfcmlcaaa", sum := "248c49940ec623258fdabbadb682106cd4e1742f402d7d20150fb66d02458c02", func := "gazette/gazettelaw04.StoreNil", spec := "storeNil", unfollowed := true, recurses := true, plainKeys := false, apart := false, narrowed := true }
def StoreNilUptoSaid : Prop := storeNilUptoRow.holds Try.pinned (OpenSpec.upto storeNilSpec)

/-- 'gazettelaw04.StoreLasts', WHERE WHAT IT READS IS OF BULK AT MOST 1048576: true; the input reads as it did. -/
def storeLastsUptoRow : OpenClaim := { program := "ytbofcocfcmlcaaa", sum := "248c49940ec623258fdabbadb682106cd4e1742f402d7d20150fb66d02458c02", func := "gazette/gazettelaw04.StoreLasts", spec := "storeLasts", unfollowed := true, recurses := true, plainKeys := false, apart := false, narrowed := true }
def StoreLastsUptoSaid : Prop := storeLastsUptoRow.holds Try.pinned (OpenSpec.upto storeLastsSpec)

end Rows
end Go.Proofs.Ytbofcocfcmlcaaa
