/-
  No cell of these rows narrows 'for every input' (looked for: loops, veiled, ifaces, maps, wideKeys, modest, calm, conditions, laid).
  DERIVED. THE GIVEN ROWS OF THIS SEAT. 5 by the template 'for every input the law returns true; each argument reads behind the call as it read before'; 0 by the template 'total and deterministic' (their statements: YtnhcjpmamgdeoaaTotals.lean).
  GIVEN WITH THE SEED: the statements are not yours to turn. If you find one false, say at which input.
  Laid BY PROGRAM, IN A SANDBOX (cutbox-rows.mjs): the forced cells as the released guide's own fill.sh prints them over the translation 8f26bed6e04cb108… (all of the seat's roots in one cut). By AI agents, Wed Nov 11 2026. No macro, syntax, notation, axiom, sorry.
-/
import Derived.Test.YtnhcjpmamgdeoaaChecked
import GoSem.Claim
import GoSem.ClaimJoined
import GoSem.ClaimMapViews
import Derived.JoinedTies
import Derived.KernelRfl
namespace Go.Proofs.Ytnhcjpmamgdeoaa
/- THE CELL 'sum', in the pinned program and in every row, IS THE sha256 OF THE DUMP (.gsa) THAT YtnhcjpmamgdeoaaProg.lean LOADS. Nothing in Lean hashes anything: it is a label: what it is worth is what the hold of that sum in a sandbox is worth. -/
noncomputable def Try.pinned : Pinned := { name := "ytnhcjpmamgdeoaa", sum := "8f26bed6e04cb1087cc9ea25f22058fdbcff4d3b23dcc33fbbebcc1d611ba066", checked := Try.checked }
namespace Rows
def none {H : Type} : Left H := { results := [], args := [] }

/-- 'wicketgatelaw4.TruthWays': WHATEVER THE INPUT: true; the input reads as it did. -/
def truthWaysSpec : ChangeSpec := { name := "truthWays", fn := fun _ => fun
  | [d1, d2] => { results := [.lit (.bool true)], args := [d1, d2] }
  | _ => none }
def truthWaysRow : OpenClaim := { program := "ytnhcjpmamgdeoaa", sum := "8f26bed6e04cb1087cc9ea25f22058fdbcff4d3b23dcc33fbbebcc1d611ba066", func := "wicketgate/wicketgatelaw4.TruthWays", spec := "truthWays", inPlace := ["internal/bytealg.abigen_runtime_cmpstring"], unfollowed := true, recurses := true, plainKeys := false, apart := false }
def TruthWaysSaid : Prop := truthWaysRow.holds Try.pinned (OpenSpec.ofChange truthWaysSpec)

/-- ITS FALSE NEIGHBOUR: 'it returns false'. Refute it at one input. -/
def truthWaysWrong : ChangeSpec := { name := "truthWays", fn := fun _ => fun
  | [d1, d2] => { results := [.lit (.bool false)], args := [d1, d2] }
  | _ => none }
def TruthWaysWrongFalsely : Prop := truthWaysRow.holds Try.pinned (OpenSpec.ofChange truthWaysWrong)

/-- 'wicketgatelaw4.TruthSplits': WHATEVER THE INPUT: true; the input reads as it did. -/
def truthSplitsSpec : ChangeSpec := { name := "truthSplits", fn := fun _ => fun
  | [d1, d2, d3] => { results := [.lit (.bool true)], args := [d1, d2, d3] }
  | _ => none }
def truthSplitsRow : OpenClaim := { program := "ytnhcjpmamgdeoaa", sum := "8f26bed6e04cb1087cc9ea25f22058fdbcff4d3b23dcc33fbbebcc1d611ba066", func := "wicketgate/wicketgatelaw4.TruthSplits", spec := "truthSplits", inPlace := ["internal/bytealg.abigen_runtime_cmpstring"], unfollowed := true, recurses := true, plainKeys := false, apart := false }
def TruthSplitsSaid : Prop := truthSplitsRow.holds Try.pinned (OpenSpec.ofChange truthSplitsSpec)

/-- ITS FALSE NEIGHBOUR: 'it returns false'. Refute it at one input. -/
def truthSplitsWrong : ChangeSpec := { name := "truthSplits", fn := fun _ => fun
  | [d1, d2, d3] => { results := [.lit (.bool false)], args := [d1, d2, d3] }
  | _ => none }
def TruthSplitsWrongFalsely : Prop := truthSplitsRow.holds Try.pinned (OpenSpec.ofChange truthSplitsWrong)

/-- 'wicketgatelaw4.TruthOne': WHATEVER THE INPUT: true; the input reads as it did. -/
def truthOneSpec : ChangeSpec := { name := "truthOne", fn := fun _ => fun
  | [d1, d2, d3] => { results := [.lit (.bool true)], args := [d1, d2, d3] }
  | _ => none }
def truthOneRow : OpenClaim := { program := "ytnhcjpmamgdeoaa", sum := "8f26bed6e04cb1087cc9ea25f22058fdbcff4d3b23dcc33fbbebcc1d611ba066", func := "wicketgate/wicketgatelaw4.TruthOne", spec := "truthOne", inPlace := ["internal/bytealg.abigen_runtime_cmpstring"], unfollowed := true, recurses := true, plainKeys := false, apart := false }
def TruthOneSaid : Prop := truthOneRow.holds Try.pinned (OpenSpec.ofChange truthOneSpec)

/-- ITS FALSE NEIGHBOUR: 'it returns false'. Refute it at one input. -/
def truthOneWrong : ChangeSpec := { name := "truthOne", fn := fun _ => fun
  | [d1, d2, d3] => { results := [.lit (.bool false)], args := [d1, d2, d3] }
  | _ => none }
def TruthOneWrongFalsely : Prop := truthOneRow.holds Try.pinned (OpenSpec.ofChange truthOneWrong)

/-- 'wicketgatelaw4.MoveApart': WHATEVER THE INPUT: true; the input reads as it did. -/
def moveApartSpec : ChangeSpec := { name := "moveApart", fn := fun _ => fun
  | [d1, d2, d3] => { results := [.lit (.bool true)], args := [d1, d2, d3] }
  | _ => none }
def moveApartRow : OpenClaim := { program := "ytnhcjpmamgdeoaa", sum := "8f26bed6e04cb1087cc9ea25f22058fdbcff4d3b23dcc33fbbebcc1d611ba066", func := "wicketgate/wicketgatelaw4.MoveApart", spec := "moveApart", inPlace := ["internal/bytealg.abigen_runtime_cmpstring"], unfollowed := true, recurses := true, plainKeys := false, apart := false }
def MoveApartSaid : Prop := moveApartRow.holds Try.pinned (OpenSpec.ofChange moveApartSpec)

/-- ITS FALSE NEIGHBOUR: 'it returns false'. Refute it at one input. -/
def moveApartWrong : ChangeSpec := { name := "moveApart", fn := fun _ => fun
  | [d1, d2, d3] => { results := [.lit (.bool false)], args := [d1, d2, d3] }
  | _ => none }
def MoveApartWrongFalsely : Prop := moveApartRow.holds Try.pinned (OpenSpec.ofChange moveApartWrong)

/-- 'wicketgatelaw4.MoveBack': WHATEVER THE INPUT: true; the input reads as it did. -/
def moveBackSpec : ChangeSpec := { name := "moveBack", fn := fun _ => fun
  | [d1, d2, d3] => { results := [.lit (.bool true)], args := [d1, d2, d3] }
  | _ => none }
def moveBackRow : OpenClaim := { program := "ytnhcjpmamgdeoaa", sum := "8f26bed6e04cb1087cc9ea25f22058fdbcff4d3b23dcc33fbbebcc1d611ba066", func := "wicketgate/wicketgatelaw4.MoveBack", spec := "moveBack", inPlace := ["internal/bytealg.abigen_runtime_cmpstring"], unfollowed := true, recurses := true, plainKeys := false, apart := false }
def MoveBackSaid : Prop := moveBackRow.holds Try.pinned (OpenSpec.ofChange moveBackSpec)

/-- ITS FALSE NEIGHBOUR: 'it returns false'. Refute it at one input. -/
def moveBackWrong : ChangeSpec := { name := "moveBack", fn := fun _ => fun
  | [d1, d2, d3] => { results := [.lit (.bool false)], args := [d1, d2, d3] }
  | _ => none }
def MoveBackWrongFalsely : Prop := moveBackRow.holds Try.pinned (OpenSpec.ofChange moveBackWrong)

/- THE SECOND FORM. 'bulk': how many values and letters a reading holds, each counted each time it is reached (what is shared counts as often as it is met; a slice's spare places count too). A statement '..UptoSaid' is the law's where the arguments, and the package variables that the reading takes, are together of bulk at most 1048576: NARROWER than '..Said'. Prove '..Said' where nothing that the law and all that it calls make is longer than what came in: it says more and counts as full. Else prove '..UptoSaid'. A law counts once. -/
mutual
def uptoBulk {H : Type} : DataW H → Nat
  | .lit (.string bytes) => bytes.length + 1
  | .lit _ => 1
  | .nil => 1
  | .ptr d => uptoBulk d + 1
  | .slice elems spare => uptoBulkAll elems + uptoBulkAll spare + 1
  | .agg parts => uptoBulkAll parts + 1
  | .iface _ d => uptoBulk d + 1
  | .map entries => uptoBulkEntries entries + 1
  | .held _ => 1
def uptoBulkAll {H : Type} : List (DataW H) → Nat
  | [] => 0
  | d :: r => uptoBulk d + uptoBulkAll r
def uptoBulkEntries {H : Type} : List (Lit × DataW H) → Nat
  | [] => 0
  | x :: r => uptoBulkEntry x + uptoBulkEntries r
def uptoBulkEntry {H : Type} : Lit × DataW H → Nat
  | (.string bytes, d) => bytes.length + uptoBulk d + 1
  | (_, d) => uptoBulk d + 1
 end
def uptoSmall : (H : Type) → List (DataW H) → Bool := fun _ ds => decide (uptoBulkAll ds ≤ 1048576)
def OpenSpec.upto (s : _root_.Go.ChangeSpec) : _root_.Go.OpenSpec := { _root_.Go.OpenSpec.ofChange s with cond := some uptoSmall }

/-- 'wicketgatelaw4.TruthWays', WHERE WHAT IT READS IS OF BULK AT MOST 1048576: true; the input reads as it did. -/
def truthWaysUptoRow : OpenClaim := { program := "ytnhcjpmamgdeoaa", sum := "8f26bed6e04cb1087cc9ea25f22058fdbcff4d3b23dcc33fbbebcc1d611ba066", func := "wicketgate/wicketgatelaw4.TruthWays", spec := "truthWays", inPlace := ["internal/bytealg.abigen_runtime_cmpstring"], unfollowed := true, recurses := true, plainKeys := false, apart := false, narrowed := true }
def TruthWaysUptoSaid : Prop := truthWaysUptoRow.holds Try.pinned (OpenSpec.upto truthWaysSpec)

/-- 'wicketgatelaw4.TruthSplits', WHERE WHAT IT READS IS OF BULK AT MOST 1048576: true; the input reads as it did. -/
def truthSplitsUptoRow : OpenClaim := { program := "ytnhcjpmamgdeoaa", sum := "8f26bed6e04cb1087cc9ea25f22058fdbcff4d3b23dcc33fbbebcc1d611ba066", func := "wicketgate/wicketgatelaw4.TruthSplits", spec := "truthSplits", inPlace := ["internal/bytealg.abigen_runtime_cmpstring"], unfollowed := true, recurses := true, plainKeys := false, apart := false, narrowed := true }
def TruthSplitsUptoSaid : Prop := truthSplitsUptoRow.holds Try.pinned (OpenSpec.upto truthSplitsSpec)

/-- 'wicketgatelaw4.TruthOne', WHERE WHAT IT READS IS OF BULK AT MOST 1048576: true; the input reads as it did. -/
def truthOneUptoRow : OpenClaim := { program := "ytnhcjpmamgdeoaa", sum := "8f26bed6e04cb1087cc9ea25f22058fdbcff4d3b23dcc33fbbebcc1d611ba066", func := "wicketgate/wicketgatelaw4.TruthOne", spec := "truthOne", inPlace := ["internal/bytealg.abigen_runtime_cmpstring"], unfollowed := true, recurses := true, plainKeys := false, apart := false, narrowed := true }
def TruthOneUptoSaid : Prop := truthOneUptoRow.holds Try.pinned (OpenSpec.upto truthOneSpec)

/-- 'wicketgatelaw4.MoveApart', WHERE WHAT IT READS IS OF BULK AT MOST 1048576: true; the input reads as it did. -/
def moveApartUptoRow : OpenClaim := { program := "ytnhcjpmamgdeoaa", sum := "8f26bed6e04cb1087cc9ea25f22058fdbcff4d3b23dcc33fbbebcc1d611ba066", func := "wicketgate/wicketgatelaw4.MoveApart", spec := "moveApart", inPlace := ["internal/bytealg.abigen_runtime_cmpstring"], unfollowed := true, recurses := true, plainKeys := false, apart := false, narrowed := true }
def MoveApartUptoSaid : Prop := moveApartUptoRow.holds Try.pinned (OpenSpec.upto moveApartSpec)

/-- 'wicketgatelaw4.MoveBack', WHERE WHAT IT READS IS OF BULK AT MOST 1048576: true; the input reads as it did. -/
def moveBackUptoRow : OpenClaim := { program := "ytnhcjpmamgdeoaa", sum := "8f26bed6e04cb1087cc9ea25f22058fdbcff4d3b23dcc33fbbebcc1d611ba066", func := "wicketgate/wicketgatelaw4.MoveBack", spec := "moveBack", inPlace := ["internal/bytealg.abigen_runtime_cmpstring"], unfollowed := true, recurses := true, plainKeys := false, apart := false, narrowed := true }
def MoveBackUptoSaid : Prop := moveBackUptoRow.holds Try.pinned (OpenSpec.upto moveBackSpec)

end Rows
end Go.Proofs.Ytnhcjpmamgdeoaa
