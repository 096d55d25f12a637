/-
  No cell of these rows narrows 'for every input' (looked for: loops, veiled, ifaces, maps, wideKeys, modest, calm, conditions, laid).
  DERIVED. THE GIVEN ROWS OF THIS SEAT. 5 by the template 'for every input the law returns true; each argument reads behind the call as it read before'; 0 by the template 'total and deterministic' (their statements: YtcdcjoofcbdilaaGreatTotals.lean).
  GIVEN WITH THE SEED: the statements are not yours to turn. If you find one false, say at which input.
  Laid BY PROGRAM, IN A SANDBOX (cutbox-rows.mjs): the forced cells as the released guide's own fill.sh prints them over the translation 96908047049ffe8d… (all of the seat's roots in one cut). By AI agents, Wed Nov 11 2026. No macro, syntax, notation, axiom, sorry.
-/
import Derived.Test.YtcdcjoofcbdilaaGreatChecked
import GoSem.Claim
import GoSem.ClaimJoined
import GoSem.ClaimMapViews
import Derived.JoinedTies
import Derived.KernelRfl
namespace Go.Proofs.YtcdcjoofcbdilaaGreat
/- THE CELL 'sum', in the pinned program and in every row, IS THE sha256 OF THE DUMP (.gsa) THAT YtcdcjoofcbdilaaGreatProg.lean LOADS. Nothing in Lean hashes anything: it is a label: what it is worth is what the hold of that sum in a sandbox is worth. -/
noncomputable def Tryz.pinned : Pinned := { name := "ytcdcjoofcbdilaagreat", sum := "96908047049ffe8df7b0b1222bef567f6de4776dcbd842bf25c316beb30781fc", checked := Tryz.checked }
namespace Rows
def none {H : Type} : Left H := { results := [], args := [] }

/-- 'gazettelaw09.RegisterApart': WHATEVER THE INPUT: true; the input reads as it did. -/
def registerApartSpec : ChangeSpec := { name := "registerApart", fn := fun _ => fun
  | [d] => { results := [.lit (.bool true)], args := [d] }
  | _ => none }
def registerApartRow : OpenClaim := { program := "ytcdcjoofcbdilaagreat", sum := "96908047049ffe8df7b0b1222bef567f6de4776dcbd842bf25c316beb30781fc", func := "gazette/gazettelaw09.RegisterApart", spec := "registerApart", unfollowed := true, recurses := true, plainKeys := false, apart := false }
def RegisterApartSaid : Prop := registerApartRow.holds Tryz.pinned (OpenSpec.ofChange registerApartSpec)

/-- ITS FALSE NEIGHBOUR: 'it returns false'. Refute it at one input. -/
def registerApartWrong : ChangeSpec := { name := "registerApart", fn := fun _ => fun
  | [d] => { results := [.lit (.bool false)], args := [d] }
  | _ => none }
def RegisterApartWrongFalsely : Prop := registerApartRow.holds Tryz.pinned (OpenSpec.ofChange registerApartWrong)

/-- 'gazettelaw09.RegisterRow': WHATEVER THE INPUT: true; the input reads as it did. -/
def registerRowSpec : ChangeSpec := { name := "registerRow", fn := fun _ => fun
  | [d1, d2, d3, d4] => { results := [.lit (.bool true)], args := [d1, d2, d3, d4] }
  | _ => none }
def registerRowRow : OpenClaim := { program := "ytcdcjoofcbdilaagreat", sum := "96908047049ffe8df7b0b1222bef567f6de4776dcbd842bf25c316beb30781fc", func := "gazette/gazettelaw09.RegisterRow", spec := "registerRow", unfollowed := true, recurses := true, plainKeys := false, apart := false }
def RegisterRowSaid : Prop := registerRowRow.holds Tryz.pinned (OpenSpec.ofChange registerRowSpec)

/-- ITS FALSE NEIGHBOUR: 'it returns false'. Refute it at one input. -/
def registerRowWrong : ChangeSpec := { name := "registerRow", fn := fun _ => fun
  | [d1, d2, d3, d4] => { results := [.lit (.bool false)], args := [d1, d2, d3, d4] }
  | _ => none }
def RegisterRowWrongFalsely : Prop := registerRowRow.holds Tryz.pinned (OpenSpec.ofChange registerRowWrong)

/-- 'gazettelaw09.RegisterNil': WHATEVER THE INPUT: true; the input reads as it did. -/
def registerNilSpec : ChangeSpec := { name := "registerNil", fn := fun _ => fun
  | [d1, d2] => { results := [.lit (.bool true)], args := [d1, d2] }
  | _ => none }
def registerNilRow : OpenClaim := { program := "ytcdcjoofcbdilaagreat", sum := "96908047049ffe8df7b0b1222bef567f6de4776dcbd842bf25c316beb30781fc", func := "gazette/gazettelaw09.RegisterNil", spec := "registerNil", unfollowed := true, recurses := true, plainKeys := false, apart := false }
def RegisterNilSaid : Prop := registerNilRow.holds Tryz.pinned (OpenSpec.ofChange registerNilSpec)

/-- ITS FALSE NEIGHBOUR: 'it returns false'. Refute it at one input. -/
def registerNilWrong : ChangeSpec := { name := "registerNil", fn := fun _ => fun
  | [d1, d2] => { results := [.lit (.bool false)], args := [d1, d2] }
  | _ => none }
def RegisterNilWrongFalsely : Prop := registerNilRow.holds Tryz.pinned (OpenSpec.ofChange registerNilWrong)

/-- 'gazettelaw09.RegisterOne': WHATEVER THE INPUT: true; the input reads as it did. -/
def registerOneSpec : ChangeSpec := { name := "registerOne", fn := fun _ => fun
  | [d] => { results := [.lit (.bool true)], args := [d] }
  | _ => none }
def registerOneRow : OpenClaim := { program := "ytcdcjoofcbdilaagreat", sum := "96908047049ffe8df7b0b1222bef567f6de4776dcbd842bf25c316beb30781fc", func := "gazette/gazettelaw09.RegisterOne", spec := "registerOne", unfollowed := true, recurses := true, plainKeys := false, apart := false }
def RegisterOneSaid : Prop := registerOneRow.holds Tryz.pinned (OpenSpec.ofChange registerOneSpec)

/-- ITS FALSE NEIGHBOUR: 'it returns false'. Refute it at one input. -/
def registerOneWrong : ChangeSpec := { name := "registerOne", fn := fun _ => fun
  | [d] => { results := [.lit (.bool false)], args := [d] }
  | _ => none }
def RegisterOneWrongFalsely : Prop := registerOneRow.holds Tryz.pinned (OpenSpec.ofChange registerOneWrong)

/-- 'gazettelaw09.RegisterPlays': WHATEVER THE INPUT: true; the input reads as it did. -/
def registerPlaysSpec : ChangeSpec := { name := "registerPlays", fn := fun _ => fun
  | [d1, d2, d3] => { results := [.lit (.bool true)], args := [d1, d2, d3] }
  | _ => none }
def registerPlaysRow : OpenClaim := { program := "ytcdcjoofcbdilaagreat", sum := "96908047049ffe8df7b0b1222bef567f6de4776dcbd842bf25c316beb30781fc", func := "gazette/gazettelaw09.RegisterPlays", spec := "registerPlays", unfollowed := true, recurses := true, plainKeys := false, apart := false }
def RegisterPlaysSaid : Prop := registerPlaysRow.holds Tryz.pinned (OpenSpec.ofChange registerPlaysSpec)

/-- ITS FALSE NEIGHBOUR: 'it returns false'. Refute it at one input. -/
def registerPlaysWrong : ChangeSpec := { name := "registerPlays", fn := fun _ => fun
  | [d1, d2, d3] => { results := [.lit (.bool false)], args := [d1, d2, d3] }
  | _ => none }
def RegisterPlaysWrongFalsely : Prop := registerPlaysRow.holds Tryz.pinned (OpenSpec.ofChange registerPlaysWrong)

/- THE SECOND FORM. 'bulk': how many values and letters a reading holds, each counted each time it is reached (what is shared counts as often as it is met; a slice's spare places count too). A statement '..UptoSaid' is the law's where the arguments, and the package variables that the reading takes, are together of bulk at most 1048576: NARROWER than '..Said'. Prove '..Said' where nothing that the law and all that it calls make is longer than what came in: it says more and counts as full. Else prove '..UptoSaid'. A law counts once. -/
mutual
def uptoBulk {H : Type} : DataW H → Nat
  | .lit (.string bytes) => bytes.length + 1
  | .lit _ => 1
  | .nil => 1
  | .ptr d => uptoBulk d + 1
  | .slice elems spare => uptoBulkAll elems + uptoBulkAll spare + 1
  | .agg parts => uptoBulkAll parts + 1
  | .iface _ d => uptoBulk d + 1
  | .map entries => uptoBulkEntries entries + 1
  | .held _ => 1
def uptoBulkAll {H : Type} : List (DataW H) → Nat
  | [] => 0
  | d :: r => uptoBulk d + uptoBulkAll r
def uptoBulkEntries {H : Type} : List (Lit × DataW H) → Nat
  | [] => 0
  | x :: r => uptoBulkEntry x + uptoBulkEntries r
def uptoBulkEntry {H : Type} : Lit × DataW H → Nat
  | (.string bytes, d) => bytes.length + uptoBulk d + 1
  | (_, d) => uptoBulk d + 1
 end
def uptoSmall : (H : Type) → List (DataW H) → Bool := fun _ ds => decide (uptoBulkAll ds ≤ 1048576)
def OpenSpec.upto (s : _root_.Go.ChangeSpec) : _root_.Go.OpenSpec := { _root_.Go.OpenSpec.ofChange s with cond := some uptoSmall }

/-- 'gazettelaw09.RegisterApart', WHERE WHAT IT READS IS OF BULK AT MOST 1048576: true; the input reads as it did. -/
def registerApartUptoRow : OpenClaim := { program := "ytcdcjoofcbdilaagreat", sum := "96908047049ffe8df7b0b1222bef567f6de4776dcbd842bf25c316beb30781fc", func := "gazette/gazettelaw09.RegisterApart", spec := "registerApart", unfollowed := true, recurses := true, plainKeys := false, apart := false, narrowed := true }
def RegisterApartUptoSaid : Prop := registerApartUptoRow.holds Tryz.pinned (OpenSpec.upto registerApartSpec)

/-- 'gazettelaw09.RegisterRow', WHERE WHAT IT READS IS OF BULK AT MOST 1048576: true; the input reads as it did. -/
def registerRowUptoRow : OpenClaim := { program := "ytcdcjoofcbdilaagreat", sum := "96908047049ffe8df7b0b1222bef567f6de4776dcbd842bf25c316beb30781fc", func := "gazette/gazettelaw09.RegisterRow", spec := "registerRow", unfollowed := true, recurses := true, plainKeys := false, apart := false, narrowed := true }
def RegisterRowUptoSaid : Prop := registerRowUptoRow.holds Tryz.pinned (OpenSpec.upto registerRowSpec)

/-- 'gazettelaw09.RegisterNil', WHERE WHAT IT READS IS OF BULK AT MOST 1048576: true; the input reads as it did. -/
def registerNilUptoRow : OpenClaim := { program := "ytcdcjoofcbdilaagreat", sum := "96908047049ffe8df7b0b1222bef567f6de4776dcbd842bf25c316beb30781fc", func := "gazette/gazettelaw09.RegisterNil", spec := "registerNil", unfollowed := true, recurses := true, plainKeys := false, apart := false, narrowed := true }
def RegisterNilUptoSaid : Prop := registerNilUptoRow.holds Tryz.pinned (OpenSpec.upto registerNilSpec)

/-- 'gazettelaw09.RegisterOne', WHERE WHAT IT READS IS OF BULK AT MOST 1048576: true; the input reads as it did. -/
def registerOneUptoRow : OpenClaim := { program := "ytcdcjoofcbdilaagreat", sum := "96908047049ffe8df7b0b1222bef567f6de4776dcbd842bf25c316beb30781fc", func := "gazette/gazettelaw09.RegisterOne", spec := "registerOne", unfollowed := true, recurses := true, plainKeys := false, apart := false, narrowed := true }
def RegisterOneUptoSaid : Prop := registerOneUptoRow.holds Tryz.pinned (OpenSpec.upto registerOneSpec)

/-- 'gazettelaw09.RegisterPlays', WHERE WHAT IT READS IS OF BULK AT MOST 1048576: true; the input reads as it did. -/
def registerPlaysUptoRow : OpenClaim := { program := "ytcdcjoofcbdilaagreat", sum := "96908047049ffe8df7b0b1222bef567f6de4776dcbd842bf25c316beb30781fc", func := "gazette/gazettelaw09.RegisterPlays", spec := "registerPlays", unfollowed := true, recurses := true, plainKeys := false, apart := false, narrowed := true }
def RegisterPlaysUptoSaid : Prop := registerPlaysUptoRow.holds Tryz.pinned (OpenSpec.upto registerPlaysSpec)

end Rows
end Go.Proofs.YtcdcjoofcbdilaaGreat
