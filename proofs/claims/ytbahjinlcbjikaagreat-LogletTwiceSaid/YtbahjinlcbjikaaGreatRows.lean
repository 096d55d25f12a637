/-
  No cell of these rows narrows 'for every input' (looked for: loops, veiled, ifaces, maps, wideKeys, modest, calm, conditions, laid).
  DERIVED. THE GIVEN ROWS OF THIS SEAT. 6 by the template 'for every input the law returns true; each argument reads behind the call as it read before'; 0 by the template 'total and deterministic' (their statements: YtbahjinlcbjikaaGreatTotals.lean).
  GIVEN WITH THE SEED: the statements are not yours to turn. If you find one false, say at which input.
  Laid BY PROGRAM, IN A SANDBOX (cutbox-rows.mjs): the forced cells as the released guide's own fill.sh prints them over the translation 096a1632ba77ca7b… (all of the seat's roots in one cut). By AI agents, Wed Nov 11 2026. No macro, syntax, notation, axiom, sorry.
-/
import Derived.Test.YtbahjinlcbjikaaGreatChecked
import GoSem.Claim
import GoSem.ClaimJoined
import GoSem.ClaimMapViews
import Derived.JoinedTies
import Derived.KernelRfl
namespace Go.Proofs.YtbahjinlcbjikaaGreat
/- THE CELL 'sum', in the pinned program and in every row, IS THE sha256 OF THE DUMP (.gsa) THAT YtbahjinlcbjikaaGreatProg.lean LOADS. Nothing in Lean hashes anything: it is a label: what it is worth is what the hold of that sum in a sandbox is worth. -/
noncomputable def Tryz.pinned : Pinned := { name := "ytbahjinlcbjikaagreat", sum := "096a1632ba77ca7b8954361691ed50d1535a4283c3fb2e5427bcd09483eff1f8", checked := Tryz.checked }
namespace Rows
def none {H : Type} : Left H := { results := [], args := [] }

/-- 'gazettelaw07.LogletConfigs': WHATEVER THE INPUT: true; the input reads as it did. -/
def logletConfigsSpec : ChangeSpec := { name := "logletConfigs", fn := fun _ => fun
  | [d1, d2, d3] => { results := [.lit (.bool true)], args := [d1, d2, d3] }
  | _ => none }
def logletConfigsRow : OpenClaim := { program := "ytbahjinlcbjikaagreat", sum := "096a1632ba77ca7b8954361691ed50d1535a4283c3fb2e5427bcd09483eff1f8", func := "gazette/gazettelaw07.LogletConfigs", spec := "logletConfigs", unfollowed := true, recurses := true, plainKeys := false, apart := false }
def LogletConfigsSaid : Prop := logletConfigsRow.holds Tryz.pinned (OpenSpec.ofChange logletConfigsSpec)

/-- ITS FALSE NEIGHBOUR: 'it returns false'. Refute it at one input. -/
def logletConfigsWrong : ChangeSpec := { name := "logletConfigs", fn := fun _ => fun
  | [d1, d2, d3] => { results := [.lit (.bool false)], args := [d1, d2, d3] }
  | _ => none }
def LogletConfigsWrongFalsely : Prop := logletConfigsRow.holds Tryz.pinned (OpenSpec.ofChange logletConfigsWrong)

/-- 'gazettelaw07.LogletCounts': WHATEVER THE INPUT: true; the input reads as it did. -/
def logletCountsSpec : ChangeSpec := { name := "logletCounts", fn := fun _ => fun
  | [d1, d2, d3] => { results := [.lit (.bool true)], args := [d1, d2, d3] }
  | _ => none }
def logletCountsRow : OpenClaim := { program := "ytbahjinlcbjikaagreat", sum := "096a1632ba77ca7b8954361691ed50d1535a4283c3fb2e5427bcd09483eff1f8", func := "gazette/gazettelaw07.LogletCounts", spec := "logletCounts", unfollowed := true, recurses := true, plainKeys := false, apart := false }
def LogletCountsSaid : Prop := logletCountsRow.holds Tryz.pinned (OpenSpec.ofChange logletCountsSpec)

/-- ITS FALSE NEIGHBOUR: 'it returns false'. Refute it at one input. -/
def logletCountsWrong : ChangeSpec := { name := "logletCounts", fn := fun _ => fun
  | [d1, d2, d3] => { results := [.lit (.bool false)], args := [d1, d2, d3] }
  | _ => none }
def LogletCountsWrongFalsely : Prop := logletCountsRow.holds Tryz.pinned (OpenSpec.ofChange logletCountsWrong)

/-- 'gazettelaw07.LogletNil': WHATEVER THE INPUT: true; the input reads as it did. -/
def logletNilSpec : ChangeSpec := { name := "logletNil", fn := fun _ => fun
  | [d1, d2, d3] => { results := [.lit (.bool true)], args := [d1, d2, d3] }
  | _ => none }
def logletNilRow : OpenClaim := { program := "ytbahjinlcbjikaagreat", sum := "096a1632ba77ca7b8954361691ed50d1535a4283c3fb2e5427bcd09483eff1f8", func := "gazette/gazettelaw07.LogletNil", spec := "logletNil", unfollowed := true, recurses := true, plainKeys := false, apart := false }
def LogletNilSaid : Prop := logletNilRow.holds Tryz.pinned (OpenSpec.ofChange logletNilSpec)

/-- ITS FALSE NEIGHBOUR: 'it returns false'. Refute it at one input. -/
def logletNilWrong : ChangeSpec := { name := "logletNil", fn := fun _ => fun
  | [d1, d2, d3] => { results := [.lit (.bool false)], args := [d1, d2, d3] }
  | _ => none }
def LogletNilWrongFalsely : Prop := logletNilRow.holds Tryz.pinned (OpenSpec.ofChange logletNilWrong)

/-- 'gazettelaw07.LogletTwice': WHATEVER THE INPUT: true; the input reads as it did. -/
def logletTwiceSpec : ChangeSpec := { name := "logletTwice", fn := fun _ => fun
  | [d1, d2] => { results := [.lit (.bool true)], args := [d1, d2] }
  | _ => none }
def logletTwiceRow : OpenClaim := { program := "ytbahjinlcbjikaagreat", sum := "096a1632ba77ca7b8954361691ed50d1535a4283c3fb2e5427bcd09483eff1f8", func := "gazette/gazettelaw07.LogletTwice", spec := "logletTwice", unfollowed := true, recurses := true, plainKeys := false, apart := false }
def LogletTwiceSaid : Prop := logletTwiceRow.holds Tryz.pinned (OpenSpec.ofChange logletTwiceSpec)

/-- ITS FALSE NEIGHBOUR: 'it returns false'. Refute it at one input. -/
def logletTwiceWrong : ChangeSpec := { name := "logletTwice", fn := fun _ => fun
  | [d1, d2] => { results := [.lit (.bool false)], args := [d1, d2] }
  | _ => none }
def LogletTwiceWrongFalsely : Prop := logletTwiceRow.holds Tryz.pinned (OpenSpec.ofChange logletTwiceWrong)

/-- 'gazettelaw07.LogletLasts': WHATEVER THE INPUT: true; the input reads as it did. -/
def logletLastsSpec : ChangeSpec := { name := "logletLasts", fn := fun _ => fun
  | [d] => { results := [.lit (.bool true)], args := [d] }
  | _ => none }
def logletLastsRow : OpenClaim := { program := "ytbahjinlcbjikaagreat", sum := "096a1632ba77ca7b8954361691ed50d1535a4283c3fb2e5427bcd09483eff1f8", func := "gazette/gazettelaw07.LogletLasts", spec := "logletLasts", unfollowed := true, recurses := true, plainKeys := false, apart := false }
def LogletLastsSaid : Prop := logletLastsRow.holds Tryz.pinned (OpenSpec.ofChange logletLastsSpec)

/-- ITS FALSE NEIGHBOUR: 'it returns false'. Refute it at one input. -/
def logletLastsWrong : ChangeSpec := { name := "logletLasts", fn := fun _ => fun
  | [d] => { results := [.lit (.bool false)], args := [d] }
  | _ => none }
def LogletLastsWrongFalsely : Prop := logletLastsRow.holds Tryz.pinned (OpenSpec.ofChange logletLastsWrong)

/-- 'gazettelaw07.LogletPlays': WHATEVER THE INPUT: true; the input reads as it did. -/
def logletPlaysSpec : ChangeSpec := { name := "logletPlays", fn := fun _ => fun
  | [d1, d2, d3] => { results := [.lit (.bool true)], args := [d1, d2, d3] }
  | _ => none }
def logletPlaysRow : OpenClaim := { program := "ytbahjinlcbjikaagreat", sum := "096a1632ba77ca7b8954361691ed50d1535a4283c3fb2e5427bcd09483eff1f8", func := "gazette/gazettelaw07.LogletPlays", spec := "logletPlays", unfollowed := true, recurses := true, plainKeys := false, apart := false }
def LogletPlaysSaid : Prop := logletPlaysRow.holds Tryz.pinned (OpenSpec.ofChange logletPlaysSpec)

/-- ITS FALSE NEIGHBOUR: 'it returns false'. Refute it at one input. -/
def logletPlaysWrong : ChangeSpec := { name := "logletPlays", fn := fun _ => fun
  | [d1, d2, d3] => { results := [.lit (.bool false)], args := [d1, d2, d3] }
  | _ => none }
def LogletPlaysWrongFalsely : Prop := logletPlaysRow.holds Tryz.pinned (OpenSpec.ofChange logletPlaysWrong)

/- THE SECOND FORM. 'bulk': how many values and letters a reading holds, each counted each time it is reached (what is shared counts as often as it is met; a slice's spare places count too). A statement '..UptoSaid' is the law's where the arguments, and the package variables that the reading takes, are together of bulk at most 1048576: NARROWER than '..Said'. Prove '..Said' where nothing that the law and all that it calls make is longer than what came in: it says more and counts as full. Else prove '..UptoSaid'. A law counts once. -/
mutual
def uptoBulk {H : Type} : DataW H → Nat
  | .lit (.string bytes) => bytes.length + 1
  | .lit _ => 1
  | .nil => 1
  | .ptr d => uptoBulk d + 1
  | .slice elems spare => uptoBulkAll elems + uptoBulkAll spare + 1
  | .agg parts => uptoBulkAll parts + 1
  | .iface _ d => uptoBulk d + 1
  | .map entries => uptoBulkEntries entries + 1
  | .held _ => 1
def uptoBulkAll {H : Type} : List (DataW H) → Nat
  | [] => 0
  | d :: r => uptoBulk d + uptoBulkAll r
def uptoBulkEntries {H : Type} : List (Lit × DataW H) → Nat
  | [] => 0
  | x :: r => uptoBulkEntry x + uptoBulkEntries r
def uptoBulkEntry {H : Type} : Lit × DataW H → Nat
  | (.string bytes, d) => bytes.length + uptoBulk d + 1
  | (_, d) => uptoBulk d + 1
 end
def uptoSmall : (H : Type) → List (DataW H) → Bool := fun _ ds => decide (uptoBulkAll ds ≤ 1048576)
def OpenSpec.upto (s : _root_.Go.ChangeSpec) : _root_.Go.OpenSpec := { _root_.Go.OpenSpec.ofChange s with cond := some uptoSmall }

/-- 'gazettelaw07.LogletConfigs', WHERE WHAT IT READS IS OF BULK AT MOST 1048576: true; the input reads as it did. -/
def logletConfigsUptoRow : OpenClaim := { program := "ytbahjinlcbjikaagreat", sum := "096a1632ba77ca7b8954361691ed50d1535a4283c3fb2e5427bcd09483eff1f8", func := "gazette/gazettelaw07.LogletConfigs", spec := "logletConfigs", unfollowed := true, recurses := true, plainKeys := false, apart := false, narrowed := true }
def LogletConfigsUptoSaid : Prop := logletConfigsUptoRow.holds Tryz.pinned (OpenSpec.upto logletConfigsSpec)

/-- 'gazettelaw07.LogletCounts', WHERE WHAT IT READS IS OF BULK AT MOST 1048576: true; the input reads as it did. -/
def logletCountsUptoRow : OpenClaim := { program := "ytbahjinlcbjikaagreat", sum := "096a1632ba77ca7b8954361691ed50d1535a4283c3fb2e5427bcd09483eff1f8", func := "gazette/gazettelaw07.LogletCounts", spec := "logletCounts", unfollowed := true, recurses := true, plainKeys := false, apart := false, narrowed := true }
def LogletCountsUptoSaid : Prop := logletCountsUptoRow.holds Tryz.pinned (OpenSpec.upto logletCountsSpec)

/-- 'gazettelaw07.LogletNil', WHERE WHAT IT READS IS OF BULK AT MOST 1048576: true; the input reads as it did. -/
def logletNilUptoRow : OpenClaim := { program := "ytbahjinlcbjikaagreat", sum := "096a1632ba77ca7b8954361691ed50d1535a4283c3fb2e5427bcd09483eff1f8", func := "gazette/gazettelaw07.LogletNil", spec := "logletNil", unfollowed := true, recurses := true, plainKeys := false, apart := false, narrowed := true }
def LogletNilUptoSaid : Prop := logletNilUptoRow.holds Tryz.pinned (OpenSpec.upto logletNilSpec)

/-- 'gazettelaw07.LogletTwice', WHERE WHAT IT READS IS OF BULK AT MOST 1048576: true; the input reads as it did. -/
def logletTwiceUptoRow : OpenClaim := { program := "ytbahjinlcbjikaagreat", sum := "096a1632ba77ca7b8954361691ed50d1535a4283c3fb2e5427bcd09483eff1f8", func := "gazette/gazettelaw07.LogletTwice", spec := "logletTwice", unfollowed := true, recurses := true, plainKeys := false, apart := false, narrowed := true }
def LogletTwiceUptoSaid : Prop := logletTwiceUptoRow.holds Tryz.pinned (OpenSpec.upto logletTwiceSpec)

/-- 'gazettelaw07.LogletLasts', WHERE WHAT IT READS IS OF BULK AT MOST 1048576: true; the input reads as it did. -/
def logletLastsUptoRow : OpenClaim := { program := "ytbahjinlcbjikaagreat", sum := "096a1632ba77ca7b8954361691ed50d1535a4283c3fb2e5427bcd09483eff1f8", func := "gazette/gazettelaw07.LogletLasts", spec := "logletLasts", unfollowed := true, recurses := true, plainKeys := false, apart := false, narrowed := true }
def LogletLastsUptoSaid : Prop := logletLastsUptoRow.holds Tryz.pinned (OpenSpec.upto logletLastsSpec)

/-- 'gazettelaw07.LogletPlays', WHERE WHAT IT READS IS OF BULK AT MOST 1048576: true; the input reads as it did. -/
def logletPlaysUptoRow : OpenClaim := { program := "ytbahjinlcbjikaagreat", sum := "096a1632ba77ca7b8954361691ed50d1535a4283c3fb2e5427bcd09483eff1f8", func := "gazette/gazettelaw07.LogletPlays", spec := "logletPlays", unfollowed := true, recurses := true, plainKeys := false, apart := false, narrowed := true }
def LogletPlaysUptoSaid : Prop := logletPlaysUptoRow.holds Tryz.pinned (OpenSpec.upto logletPlaysSpec)

end Rows
end Go.Proofs.YtbahjinlcbjikaaGreat
