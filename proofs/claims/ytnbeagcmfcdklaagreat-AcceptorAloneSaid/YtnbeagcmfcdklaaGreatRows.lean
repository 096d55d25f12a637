/-
  No cell of these rows narrows 'for every input' (looked for: loops, veiled, ifaces, maps, wideKeys, modest, calm, conditions, laid).
  DERIVED. THE GIVEN ROWS OF THIS SEAT. 6 by the template 'for every input the law returns true; each argument reads behind the call as it read before'; 0 by the template 'total and deterministic' (their statements: YtnbeagcmfcdklaaGreatTotals.lean).
  GIVEN WITH THE SEED: the statements are not yours to turn. If you find one false, say at which input.
  Laid BY PROGRAM, IN A SANDBOX (cutbox-rows.mjs): the forced cells as the released guide's own fill.sh prints them over the translation eed0ecd689e20a82… (all of the seat's roots in one cut). By AI agents, Wed Nov 11 2026. No macro, syntax, notation, axiom, sorry.
-/
import Derived.Test.YtnbeagcmfcdklaaGreatChecked
import GoSem.Claim
import GoSem.ClaimJoined
import GoSem.ClaimMapViews
import Derived.JoinedTies
import Derived.KernelRfl
namespace Go.Proofs.YtnbeagcmfcdklaaGreat
/- THE CELL 'sum', in the pinned program and in every row, IS THE sha256 OF THE DUMP (.gsa) THAT YtnbeagcmfcdklaaGreatProg.lean LOADS. Nothing in Lean hashes anything: it is a label: what it is worth is what the hold of that sum in a sandbox is worth. -/
noncomputable def Tryz.pinned : Pinned := { name := "ytnbeagcmfcdklaagreat", sum := "eed0ecd689e20a82bd38b2faa4973b000755823fb894546ab7c8e29168f373b8", checked := Tryz.checked }
namespace Rows
def none {H : Type} : Left H := { results := [], args := [] }

/-- 'gazettelaw08.AcceptorBytes': WHATEVER THE INPUT: true; the input reads as it did. -/
def acceptorBytesSpec : ChangeSpec := { name := "acceptorBytes", fn := fun _ => fun
  | [d1, d2, d3] => { results := [.lit (.bool true)], args := [d1, d2, d3] }
  | _ => none }
def acceptorBytesRow : OpenClaim := { program := "ytnbeagcmfcdklaagreat", sum := "eed0ecd689e20a82bd38b2faa4973b000755823fb894546ab7c8e29168f373b8", func := "gazette/gazettelaw08.AcceptorBytes", spec := "acceptorBytes", unfollowed := true, recurses := true, plainKeys := false, apart := false }
def AcceptorBytesSaid : Prop := acceptorBytesRow.holds Tryz.pinned (OpenSpec.ofChange acceptorBytesSpec)

/-- ITS FALSE NEIGHBOUR: 'it returns false'. Refute it at one input. -/
def acceptorBytesWrong : ChangeSpec := { name := "acceptorBytes", fn := fun _ => fun
  | [d1, d2, d3] => { results := [.lit (.bool false)], args := [d1, d2, d3] }
  | _ => none }
def AcceptorBytesWrongFalsely : Prop := acceptorBytesRow.holds Tryz.pinned (OpenSpec.ofChange acceptorBytesWrong)

/-- 'gazettelaw08.AcceptorAsks': WHATEVER THE INPUT: true; the input reads as it did. -/
def acceptorAsksSpec : ChangeSpec := { name := "acceptorAsks", fn := fun _ => fun
  | [d1, d2] => { results := [.lit (.bool true)], args := [d1, d2] }
  | _ => none }
def acceptorAsksRow : OpenClaim := { program := "ytnbeagcmfcdklaagreat", sum := "eed0ecd689e20a82bd38b2faa4973b000755823fb894546ab7c8e29168f373b8", func := "gazette/gazettelaw08.AcceptorAsks", spec := "acceptorAsks", unfollowed := true, recurses := true, plainKeys := false, apart := false }
def AcceptorAsksSaid : Prop := acceptorAsksRow.holds Tryz.pinned (OpenSpec.ofChange acceptorAsksSpec)

/-- ITS FALSE NEIGHBOUR: 'it returns false'. Refute it at one input. -/
def acceptorAsksWrong : ChangeSpec := { name := "acceptorAsks", fn := fun _ => fun
  | [d1, d2] => { results := [.lit (.bool false)], args := [d1, d2] }
  | _ => none }
def AcceptorAsksWrongFalsely : Prop := acceptorAsksRow.holds Tryz.pinned (OpenSpec.ofChange acceptorAsksWrong)

/-- 'gazettelaw08.AcceptorAlone': WHATEVER THE INPUT: true; the input reads as it did. -/
def acceptorAloneSpec : ChangeSpec := { name := "acceptorAlone", fn := fun _ => fun
  | [d] => { results := [.lit (.bool true)], args := [d] }
  | _ => none }
def acceptorAloneRow : OpenClaim := { program := "ytnbeagcmfcdklaagreat", sum := "eed0ecd689e20a82bd38b2faa4973b000755823fb894546ab7c8e29168f373b8", func := "gazette/gazettelaw08.AcceptorAlone", spec := "acceptorAlone", unfollowed := true, recurses := true, plainKeys := false, apart := false }
def AcceptorAloneSaid : Prop := acceptorAloneRow.holds Tryz.pinned (OpenSpec.ofChange acceptorAloneSpec)

/-- ITS FALSE NEIGHBOUR: 'it returns false'. Refute it at one input. -/
def acceptorAloneWrong : ChangeSpec := { name := "acceptorAlone", fn := fun _ => fun
  | [d] => { results := [.lit (.bool false)], args := [d] }
  | _ => none }
def AcceptorAloneWrongFalsely : Prop := acceptorAloneRow.holds Tryz.pinned (OpenSpec.ofChange acceptorAloneWrong)

/-- 'gazettelaw08.AcceptorPlays': WHATEVER THE INPUT: true; the input reads as it did. -/
def acceptorPlaysSpec : ChangeSpec := { name := "acceptorPlays", fn := fun _ => fun
  | [d1, d2, d3] => { results := [.lit (.bool true)], args := [d1, d2, d3] }
  | _ => none }
def acceptorPlaysRow : OpenClaim := { program := "ytnbeagcmfcdklaagreat", sum := "eed0ecd689e20a82bd38b2faa4973b000755823fb894546ab7c8e29168f373b8", func := "gazette/gazettelaw08.AcceptorPlays", spec := "acceptorPlays", unfollowed := true, recurses := true, plainKeys := false, apart := false }
def AcceptorPlaysSaid : Prop := acceptorPlaysRow.holds Tryz.pinned (OpenSpec.ofChange acceptorPlaysSpec)

/-- ITS FALSE NEIGHBOUR: 'it returns false'. Refute it at one input. -/
def acceptorPlaysWrong : ChangeSpec := { name := "acceptorPlays", fn := fun _ => fun
  | [d1, d2, d3] => { results := [.lit (.bool false)], args := [d1, d2, d3] }
  | _ => none }
def AcceptorPlaysWrongFalsely : Prop := acceptorPlaysRow.holds Tryz.pinned (OpenSpec.ofChange acceptorPlaysWrong)

/-- 'gazettelaw08.AcceptorNil': WHATEVER THE INPUT: true; the input reads as it did. -/
def acceptorNilSpec : ChangeSpec := { name := "acceptorNil", fn := fun _ => fun
  | [d1, d2] => { results := [.lit (.bool true)], args := [d1, d2] }
  | _ => none }
def acceptorNilRow : OpenClaim := { program := "ytnbeagcmfcdklaagreat", sum := "eed0ecd689e20a82bd38b2faa4973b000755823fb894546ab7c8e29168f373b8", func := "gazette/gazettelaw08.AcceptorNil", spec := "acceptorNil", unfollowed := true, recurses := true, plainKeys := false, apart := false }
def AcceptorNilSaid : Prop := acceptorNilRow.holds Tryz.pinned (OpenSpec.ofChange acceptorNilSpec)

/-- ITS FALSE NEIGHBOUR: 'it returns false'. Refute it at one input. -/
def acceptorNilWrong : ChangeSpec := { name := "acceptorNil", fn := fun _ => fun
  | [d1, d2] => { results := [.lit (.bool false)], args := [d1, d2] }
  | _ => none }
def AcceptorNilWrongFalsely : Prop := acceptorNilRow.holds Tryz.pinned (OpenSpec.ofChange acceptorNilWrong)

/-- 'gazettelaw08.AcceptorKeeps': WHATEVER THE INPUT: true; the input reads as it did. -/
def acceptorKeepsSpec : ChangeSpec := { name := "acceptorKeeps", fn := fun _ => fun
  | [d] => { results := [.lit (.bool true)], args := [d] }
  | _ => none }
def acceptorKeepsRow : OpenClaim := { program := "ytnbeagcmfcdklaagreat", sum := "eed0ecd689e20a82bd38b2faa4973b000755823fb894546ab7c8e29168f373b8", func := "gazette/gazettelaw08.AcceptorKeeps", spec := "acceptorKeeps", unfollowed := true, recurses := true, plainKeys := false, apart := false }
def AcceptorKeepsSaid : Prop := acceptorKeepsRow.holds Tryz.pinned (OpenSpec.ofChange acceptorKeepsSpec)

/-- ITS FALSE NEIGHBOUR: 'it returns false'. Refute it at one input. -/
def acceptorKeepsWrong : ChangeSpec := { name := "acceptorKeeps", fn := fun _ => fun
  | [d] => { results := [.lit (.bool false)], args := [d] }
  | _ => none }
def AcceptorKeepsWrongFalsely : Prop := acceptorKeepsRow.holds Tryz.pinned (OpenSpec.ofChange acceptorKeepsWrong)

/- THE SECOND FORM. 'bulk': how many values and letters a reading holds, each counted each time it is reached (what is shared counts as often as it is met; a slice's spare places count too). A statement '..UptoSaid' is the law's where the arguments, and the package variables that the reading takes, are together of bulk at most 1048576: NARROWER than '..Said'. Prove '..Said' where nothing that the law and all that it calls make is longer than what came in: it says more and counts as full. Else prove '..UptoSaid'. A law counts once. -/
mutual
def uptoBulk {H : Type} : DataW H → Nat
  | .lit (.string bytes) => bytes.length + 1
  | .lit _ => 1
  | .nil => 1
  | .ptr d => uptoBulk d + 1
  | .slice elems spare => uptoBulkAll elems + uptoBulkAll spare + 1
  | .agg parts => uptoBulkAll parts + 1
  | .iface _ d => uptoBulk d + 1
  | .map entries => uptoBulkEntries entries + 1
  | .held _ => 1
def uptoBulkAll {H : Type} : List (DataW H) → Nat
  | [] => 0
  | d :: r => uptoBulk d + uptoBulkAll r
def uptoBulkEntries {H : Type} : List (Lit × DataW H) → Nat
  | [] => 0
  | x :: r => uptoBulkEntry x + uptoBulkEntries r
def uptoBulkEntry {H : Type} : Lit × DataW H → Nat
  | (.string bytes, d) => bytes.length + uptoBulk d + 1
  | (_, d) => uptoBulk d + 1
 end
def uptoSmall : (H : Type) → List (DataW H) → Bool := fun _ ds => decide (uptoBulkAll ds ≤ 1048576)
def OpenSpec.upto (s : _root_.Go.ChangeSpec) : _root_.Go.OpenSpec := { _root_.Go.OpenSpec.ofChange s with cond := some uptoSmall }

/-- 'gazettelaw08.AcceptorBytes', WHERE WHAT IT READS IS OF BULK AT MOST 1048576: true; the input reads as it did. -/
def acceptorBytesUptoRow : OpenClaim := { program := "ytnbeagcmfcdklaagreat", sum := "eed0ecd689e20a82bd38b2faa4973b000755823fb894546ab7c8e29168f373b8", func := "gazette/gazettelaw08.AcceptorBytes", spec := "acceptorBytes", unfollowed := true, recurses := true, plainKeys := false, apart := false, narrowed := true }
def AcceptorBytesUptoSaid : Prop := acceptorBytesUptoRow.holds Tryz.pinned (OpenSpec.upto acceptorBytesSpec)

/-- 'gazettelaw08.AcceptorAsks', WHERE WHAT IT READS IS OF BULK AT MOST 1048576: true; the input reads as it did. -/
def acceptorAsksUptoRow : OpenClaim := { program := "ytnbeagcmfcdklaagreat", sum := "eed0ecd689e20a82bd38b2faa4973b000755823fb894546ab7c8e29168f373b8", func := "gazette/gazettelaw08.AcceptorAsks", spec := "acceptorAsks", unfollowed := true, recurses := true, plainKeys := false, apart := false, narrowed := true }
def AcceptorAsksUptoSaid : Prop := acceptorAsksUptoRow.holds Tryz.pinned (OpenSpec.upto acceptorAsksSpec)

/-- 'gazettelaw08.AcceptorAlone', WHERE WHAT IT READS IS OF BULK AT MOST 1048576: true; the input reads as it did. -/
def acceptorAloneUptoRow : OpenClaim := { program := "ytnbeagcmfcdklaagreat", sum := "eed0ecd689e20a82bd38b2faa4973b000755823fb894546ab7c8e29168f373b8", func := "gazette/gazettelaw08.AcceptorAlone", spec := "acceptorAlone", unfollowed := true, recurses := true, plainKeys := false, apart := false, narrowed := true }
def AcceptorAloneUptoSaid : Prop := acceptorAloneUptoRow.holds Tryz.pinned (OpenSpec.upto acceptorAloneSpec)

/-- 'gazettelaw08.AcceptorPlays', WHERE WHAT IT READS IS OF BULK AT MOST 1048576: true; the input reads as it did. -/
def acceptorPlaysUptoRow : OpenClaim := { program := "ytnbeagcmfcdklaagreat", sum := "eed0ecd689e20a82bd38b2faa4973b000755823fb894546ab7c8e29168f373b8", func := "gazette/gazettelaw08.AcceptorPlays", spec := "acceptorPlays", unfollowed := true, recurses := true, plainKeys := false, apart := false, narrowed := true }
def AcceptorPlaysUptoSaid : Prop := acceptorPlaysUptoRow.holds Tryz.pinned (OpenSpec.upto acceptorPlaysSpec)

/-- 'gazettelaw08.AcceptorNil', WHERE WHAT IT READS IS OF BULK AT MOST 1048576: true; the input reads as it did. -/
def acceptorNilUptoRow : OpenClaim := { program := "ytnbeagcmfcdklaagreat", sum := "eed0ecd689e20a82bd38b2faa4973b000755823fb894546ab7c8e29168f373b8", func := "gazette/gazettelaw08.AcceptorNil", spec := "acceptorNil", unfollowed := true, recurses := true, plainKeys := false, apart := false, narrowed := true }
def AcceptorNilUptoSaid : Prop := acceptorNilUptoRow.holds Tryz.pinned (OpenSpec.upto acceptorNilSpec)

/-- 'gazettelaw08.AcceptorKeeps', WHERE WHAT IT READS IS OF BULK AT MOST 1048576: true; the input reads as it did. -/
def acceptorKeepsUptoRow : OpenClaim := { program := "ytnbeagcmfcdklaagreat", sum := "eed0ecd689e20a82bd38b2faa4973b000755823fb894546ab7c8e29168f373b8", func := "gazette/gazettelaw08.AcceptorKeeps", spec := "acceptorKeeps", unfollowed := true, recurses := true, plainKeys := false, apart := false, narrowed := true }
def AcceptorKeepsUptoSaid : Prop := acceptorKeepsUptoRow.holds Tryz.pinned (OpenSpec.upto acceptorKeepsSpec)

end Rows
end Go.Proofs.YtnbeagcmfcdklaaGreat
