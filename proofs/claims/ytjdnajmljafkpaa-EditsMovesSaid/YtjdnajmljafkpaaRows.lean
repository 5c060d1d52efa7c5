/-
  No cell of these rows narrows 'for every input' (looked for: loops, veiled, ifaces, maps, wideKeys, modest, calm, conditions, laid).
  DERIVED. THE GIVEN ROWS OF THIS SEAT. 9 by the template 'for every input the law returns true; each argument reads behind the call as it read before'; 0 by the template 'total and deterministic' (their statements: YtjdnajmljafkpaaTotals.lean).
  GIVEN WITH THE SEED: the statements are not yours to turn. If you find one false, say at which input.
  Laid BY PROGRAM, IN A SANDBOX (cutbox-rows.mjs): the forced cells as the released guide's own fill.sh prints them over the translation ad7fa90128e34ac1… (all of the seat's roots in one cut). By AI agents, Wed Nov 11 2026. No macro, syntax, notation, axiom, sorry.
-/
import Derived.Test.YtjdnajmljafkpaaChecked
import GoSem.Claim
import GoSem.ClaimJoined
import GoSem.ClaimMapViews
import Derived.JoinedTies
import Derived.KernelRfl
namespace Go.Proofs.Ytjdnajmljafkpaa
/- THE CELL 'sum', in the pinned program and in every row, IS THE sha256 OF THE DUMP (.gsa) THAT YtjdnajmljafkpaaProg.lean LOADS. Nothing in Lean hashes anything: it is a label: what it is worth is what the hold of that sum in a sandbox is worth. -/
noncomputable def Try.pinned : Pinned := { name := "ytjdnajmljafkpaa", sum := "ad7fa90128e34ac1372a4b5ed763c7ae55b287f78de9aadb86e6f5d4b5642ba7", checked := Try.checked }
namespace Rows
def none {H : Type} : Left H := { results := [], args := [] }

/-- 'unicodetextlaw53.EditsChecks': WHATEVER THE INPUT: true; the input reads as it did. -/
def editsChecksSpec : ChangeSpec := { name := "editsChecks", fn := fun _ => fun
  | [d1, d2] => { results := [.lit (.bool true)], args := [d1, d2] }
  | _ => none }
def editsChecksRow : OpenClaim := { program := "ytjdnajmljafkpaa", sum := "ad7fa90128e34ac1372a4b5ed763c7ae55b287f78de9aadb86e6f5d4b5642ba7", func := "unicodetext/unicodetextlaw53.EditsChecks", spec := "editsChecks", apart := false }
def EditsChecksSaid : Prop := editsChecksRow.holds Try.pinned (OpenSpec.ofChange editsChecksSpec)

/-- ITS FALSE NEIGHBOUR: 'it returns false'. Refute it at one input. -/
def editsChecksWrong : ChangeSpec := { name := "editsChecks", fn := fun _ => fun
  | [d1, d2] => { results := [.lit (.bool false)], args := [d1, d2] }
  | _ => none }
def EditsChecksWrongFalsely : Prop := editsChecksRow.holds Try.pinned (OpenSpec.ofChange editsChecksWrong)

/-- 'unicodetextlaw53.EditsDiffs': WHATEVER THE INPUT: true; the input reads as it did. -/
def editsDiffsSpec : ChangeSpec := { name := "editsDiffs", fn := fun _ => fun
  | [d1, d2] => { results := [.lit (.bool true)], args := [d1, d2] }
  | _ => none }
def editsDiffsRow : OpenClaim := { program := "ytjdnajmljafkpaa", sum := "ad7fa90128e34ac1372a4b5ed763c7ae55b287f78de9aadb86e6f5d4b5642ba7", func := "unicodetext/unicodetextlaw53.EditsDiffs", spec := "editsDiffs", apart := false }
def EditsDiffsSaid : Prop := editsDiffsRow.holds Try.pinned (OpenSpec.ofChange editsDiffsSpec)

/-- ITS FALSE NEIGHBOUR: 'it returns false'. Refute it at one input. -/
def editsDiffsWrong : ChangeSpec := { name := "editsDiffs", fn := fun _ => fun
  | [d1, d2] => { results := [.lit (.bool false)], args := [d1, d2] }
  | _ => none }
def EditsDiffsWrongFalsely : Prop := editsDiffsRow.holds Try.pinned (OpenSpec.ofChange editsDiffsWrong)

/-- 'unicodetextlaw53.EditsMerges': WHATEVER THE INPUT: true; the input reads as it did. -/
def editsMergesSpec : ChangeSpec := { name := "editsMerges", fn := fun _ => fun
  | [d1, d2] => { results := [.lit (.bool true)], args := [d1, d2] }
  | _ => none }
def editsMergesRow : OpenClaim := { program := "ytjdnajmljafkpaa", sum := "ad7fa90128e34ac1372a4b5ed763c7ae55b287f78de9aadb86e6f5d4b5642ba7", func := "unicodetext/unicodetextlaw53.EditsMerges", spec := "editsMerges", apart := false }
def EditsMergesSaid : Prop := editsMergesRow.holds Try.pinned (OpenSpec.ofChange editsMergesSpec)

/-- ITS FALSE NEIGHBOUR: 'it returns false'. Refute it at one input. -/
def editsMergesWrong : ChangeSpec := { name := "editsMerges", fn := fun _ => fun
  | [d1, d2] => { results := [.lit (.bool false)], args := [d1, d2] }
  | _ => none }
def EditsMergesWrongFalsely : Prop := editsMergesRow.holds Try.pinned (OpenSpec.ofChange editsMergesWrong)

/-- 'unicodetextlaw53.EditsApplies': WHATEVER THE INPUT: true; the input reads as it did. -/
def editsAppliesSpec : ChangeSpec := { name := "editsApplies", fn := fun _ => fun
  | [d1, d2] => { results := [.lit (.bool true)], args := [d1, d2] }
  | _ => none }
def editsAppliesRow : OpenClaim := { program := "ytjdnajmljafkpaa", sum := "ad7fa90128e34ac1372a4b5ed763c7ae55b287f78de9aadb86e6f5d4b5642ba7", func := "unicodetext/unicodetextlaw53.EditsApplies", spec := "editsApplies", apart := false }
def EditsAppliesSaid : Prop := editsAppliesRow.holds Try.pinned (OpenSpec.ofChange editsAppliesSpec)

/-- ITS FALSE NEIGHBOUR: 'it returns false'. Refute it at one input. -/
def editsAppliesWrong : ChangeSpec := { name := "editsApplies", fn := fun _ => fun
  | [d1, d2] => { results := [.lit (.bool false)], args := [d1, d2] }
  | _ => none }
def EditsAppliesWrongFalsely : Prop := editsAppliesRow.holds Try.pinned (OpenSpec.ofChange editsAppliesWrong)

/-- 'unicodetextlaw53.EditsInverts': WHATEVER THE INPUT: true; the input reads as it did. -/
def editsInvertsSpec : ChangeSpec := { name := "editsInverts", fn := fun _ => fun
  | [d1, d2] => { results := [.lit (.bool true)], args := [d1, d2] }
  | _ => none }
def editsInvertsRow : OpenClaim := { program := "ytjdnajmljafkpaa", sum := "ad7fa90128e34ac1372a4b5ed763c7ae55b287f78de9aadb86e6f5d4b5642ba7", func := "unicodetext/unicodetextlaw53.EditsInverts", spec := "editsInverts", apart := false }
def EditsInvertsSaid : Prop := editsInvertsRow.holds Try.pinned (OpenSpec.ofChange editsInvertsSpec)

/-- ITS FALSE NEIGHBOUR: 'it returns false'. Refute it at one input. -/
def editsInvertsWrong : ChangeSpec := { name := "editsInverts", fn := fun _ => fun
  | [d1, d2] => { results := [.lit (.bool false)], args := [d1, d2] }
  | _ => none }
def EditsInvertsWrongFalsely : Prop := editsInvertsRow.holds Try.pinned (OpenSpec.ofChange editsInvertsWrong)

/-- 'unicodetextlaw53.EditsTurns': WHATEVER THE INPUT: true; the input reads as it did. -/
def editsTurnsSpec : ChangeSpec := { name := "editsTurns", fn := fun _ => fun
  | [d1, d2] => { results := [.lit (.bool true)], args := [d1, d2] }
  | _ => none }
def editsTurnsRow : OpenClaim := { program := "ytjdnajmljafkpaa", sum := "ad7fa90128e34ac1372a4b5ed763c7ae55b287f78de9aadb86e6f5d4b5642ba7", func := "unicodetext/unicodetextlaw53.EditsTurns", spec := "editsTurns", apart := false }
def EditsTurnsSaid : Prop := editsTurnsRow.holds Try.pinned (OpenSpec.ofChange editsTurnsSpec)

/-- ITS FALSE NEIGHBOUR: 'it returns false'. Refute it at one input. -/
def editsTurnsWrong : ChangeSpec := { name := "editsTurns", fn := fun _ => fun
  | [d1, d2] => { results := [.lit (.bool false)], args := [d1, d2] }
  | _ => none }
def EditsTurnsWrongFalsely : Prop := editsTurnsRow.holds Try.pinned (OpenSpec.ofChange editsTurnsWrong)

/-- 'unicodetextlaw53.EditsTwice': WHATEVER THE INPUT: true; the input reads as it did. -/
def editsTwiceSpec : ChangeSpec := { name := "editsTwice", fn := fun _ => fun
  | [d1, d2, d3] => { results := [.lit (.bool true)], args := [d1, d2, d3] }
  | _ => none }
def editsTwiceRow : OpenClaim := { program := "ytjdnajmljafkpaa", sum := "ad7fa90128e34ac1372a4b5ed763c7ae55b287f78de9aadb86e6f5d4b5642ba7", func := "unicodetext/unicodetextlaw53.EditsTwice", spec := "editsTwice", apart := false }
def EditsTwiceSaid : Prop := editsTwiceRow.holds Try.pinned (OpenSpec.ofChange editsTwiceSpec)

/-- ITS FALSE NEIGHBOUR: 'it returns false'. Refute it at one input. -/
def editsTwiceWrong : ChangeSpec := { name := "editsTwice", fn := fun _ => fun
  | [d1, d2, d3] => { results := [.lit (.bool false)], args := [d1, d2, d3] }
  | _ => none }
def EditsTwiceWrongFalsely : Prop := editsTwiceRow.holds Try.pinned (OpenSpec.ofChange editsTwiceWrong)

/-- 'unicodetextlaw53.EditsMoves': WHATEVER THE INPUT: true; the input reads as it did. -/
def editsMovesSpec : ChangeSpec := { name := "editsMoves", fn := fun _ => fun
  | [d1, d2] => { results := [.lit (.bool true)], args := [d1, d2] }
  | _ => none }
def editsMovesRow : OpenClaim := { program := "ytjdnajmljafkpaa", sum := "ad7fa90128e34ac1372a4b5ed763c7ae55b287f78de9aadb86e6f5d4b5642ba7", func := "unicodetext/unicodetextlaw53.EditsMoves", spec := "editsMoves", apart := false }
def EditsMovesSaid : Prop := editsMovesRow.holds Try.pinned (OpenSpec.ofChange editsMovesSpec)

/-- ITS FALSE NEIGHBOUR: 'it returns false'. Refute it at one input. -/
def editsMovesWrong : ChangeSpec := { name := "editsMoves", fn := fun _ => fun
  | [d1, d2] => { results := [.lit (.bool false)], args := [d1, d2] }
  | _ => none }
def EditsMovesWrongFalsely : Prop := editsMovesRow.holds Try.pinned (OpenSpec.ofChange editsMovesWrong)

/-- 'unicodetextlaw53.EditsUndoes': WHATEVER THE INPUT: true; the input reads as it did. -/
def editsUndoesSpec : ChangeSpec := { name := "editsUndoes", fn := fun _ => fun
  | [d1, d2] => { results := [.lit (.bool true)], args := [d1, d2] }
  | _ => none }
def editsUndoesRow : OpenClaim := { program := "ytjdnajmljafkpaa", sum := "ad7fa90128e34ac1372a4b5ed763c7ae55b287f78de9aadb86e6f5d4b5642ba7", func := "unicodetext/unicodetextlaw53.EditsUndoes", spec := "editsUndoes", apart := false }
def EditsUndoesSaid : Prop := editsUndoesRow.holds Try.pinned (OpenSpec.ofChange editsUndoesSpec)

/-- ITS FALSE NEIGHBOUR: 'it returns false'. Refute it at one input. -/
def editsUndoesWrong : ChangeSpec := { name := "editsUndoes", fn := fun _ => fun
  | [d1, d2] => { results := [.lit (.bool false)], args := [d1, d2] }
  | _ => none }
def EditsUndoesWrongFalsely : Prop := editsUndoesRow.holds Try.pinned (OpenSpec.ofChange editsUndoesWrong)

/- THE SECOND FORM. 'bulk': how many values and letters a reading holds, each counted each time it is reached (what is shared counts as often as it is met; a slice's spare places count too). A statement '..UptoSaid' is the law's where the arguments, and the package variables that the reading takes, are together of bulk at most 1048576: NARROWER than '..Said'. Prove '..Said' where nothing that the law and all that it calls make is longer than what came in: it says more and counts as full. Else prove '..UptoSaid'. A law counts once. -/
mutual
def uptoBulk {H : Type} : DataW H → Nat
  | .lit (.string bytes) => bytes.length + 1
  | .lit _ => 1
  | .nil => 1
  | .ptr d => uptoBulk d + 1
  | .slice elems spare => uptoBulkAll elems + uptoBulkAll spare + 1
  | .agg parts => uptoBulkAll parts + 1
  | .iface _ d => uptoBulk d + 1
  | .map entries => uptoBulkEntries entries + 1
  | .held _ => 1
def uptoBulkAll {H : Type} : List (DataW H) → Nat
  | [] => 0
  | d :: r => uptoBulk d + uptoBulkAll r
def uptoBulkEntries {H : Type} : List (Lit × DataW H) → Nat
  | [] => 0
  | x :: r => uptoBulkEntry x + uptoBulkEntries r
def uptoBulkEntry {H : Type} : Lit × DataW H → Nat
  | (.string bytes, d) => bytes.length + uptoBulk d + 1
  | (_, d) => uptoBulk d + 1
 end
def uptoSmall : (H : Type) → List (DataW H) → Bool := fun _ ds => decide (uptoBulkAll ds ≤ 1048576)
def OpenSpec.upto (s : _root_.Go.ChangeSpec) : _root_.Go.OpenSpec := { _root_.Go.OpenSpec.ofChange s with cond := some uptoSmall }

/-- 'unicodetextlaw53.EditsChecks', WHERE WHAT IT READS IS OF BULK AT MOST 1048576: true; the input reads as it did. -/
def editsChecksUptoRow : OpenClaim := { program := "ytjdnajmljafkpaa", sum := "ad7fa90128e34ac1372a4b5ed763c7ae55b287f78de9aadb86e6f5d4b5642ba7", func := "unicodetext/unicodetextlaw53.EditsChecks", spec := "editsChecks", apart := false, narrowed := true }
def EditsChecksUptoSaid : Prop := editsChecksUptoRow.holds Try.pinned (OpenSpec.upto editsChecksSpec)

/-- 'unicodetextlaw53.EditsDiffs', WHERE WHAT IT READS IS OF BULK AT MOST 1048576: true; the input reads as it did. -/
def editsDiffsUptoRow : OpenClaim := { program := "ytjdnajmljafkpaa", sum := "ad7fa90128e34ac1372a4b5ed763c7ae55b287f78de9aadb86e6f5d4b5642ba7", func := "unicodetext/unicodetextlaw53.EditsDiffs", spec := "editsDiffs", apart := false, narrowed := true }
def EditsDiffsUptoSaid : Prop := editsDiffsUptoRow.holds Try.pinned (OpenSpec.upto editsDiffsSpec)

/-- 'unicodetextlaw53.EditsMerges', WHERE WHAT IT READS IS OF BULK AT MOST 1048576: true; the input reads as it did. -/
def editsMergesUptoRow : OpenClaim := { program := "ytjdnajmljafkpaa", sum := "ad7fa90128e34ac1372a4b5ed763c7ae55b287f78de9aadb86e6f5d4b5642ba7", func := "unicodetext/unicodetextlaw53.EditsMerges", spec := "editsMerges", apart := false, narrowed := true }
def EditsMergesUptoSaid : Prop := editsMergesUptoRow.holds Try.pinned (OpenSpec.upto editsMergesSpec)

/-- 'unicodetextlaw53.EditsApplies', WHERE WHAT IT READS IS OF BULK AT MOST 1048576: true; the input reads as it did. -/
def editsAppliesUptoRow : OpenClaim := { program := "ytjdnajmljafkpaa", sum := "ad7fa90128e34ac1372a4b5ed763c7ae55b287f78de9aadb86e6f5d4b5642ba7", func := "unicodetext/unicodetextlaw53.EditsApplies", spec := "editsApplies", apart := false, narrowed := true }
def EditsAppliesUptoSaid : Prop := editsAppliesUptoRow.holds Try.pinned (OpenSpec.upto editsAppliesSpec)

/-- 'unicodetextlaw53.EditsInverts', WHERE WHAT IT READS IS OF BULK AT MOST 1048576: true; the input reads as it did. -/
def editsInvertsUptoRow : OpenClaim := { program := "ytjdnajmljafkpaa", sum := "ad7fa90128e34ac1372a4b5ed763c7ae55b287f78de9aadb86e6f5d4b5642ba7", func := "unicodetext/unicodetextlaw53.EditsInverts", spec := "editsInverts", apart := false, narrowed := true }
def EditsInvertsUptoSaid : Prop := editsInvertsUptoRow.holds Try.pinned (OpenSpec.upto editsInvertsSpec)

/-- 'unicodetextlaw53.EditsTurns', WHERE WHAT IT READS IS OF BULK AT MOST 1048576: true; the input reads as it did. -/
def editsTurnsUptoRow : OpenClaim := { program := "ytjdnajmljafkpaa", sum := "ad7fa90128e34ac1372a4b5ed763c7ae55b287f78de9aadb86e6f5d4b5642ba7", func := "unicodetext/unicodetextlaw53.EditsTurns", spec := "editsTurns", apart := false, narrowed := true }
def EditsTurnsUptoSaid : Prop := editsTurnsUptoRow.holds Try.pinned (OpenSpec.upto editsTurnsSpec)

/-- 'unicodetextlaw53.EditsTwice', WHERE WHAT IT READS IS OF BULK AT MOST 1048576: true; the input reads as it did. -/
def editsTwiceUptoRow : OpenClaim := { program := "ytjdnajmljafkpaa", sum := "ad7fa90128e34ac1372a4b5ed763c7ae55b287f78de9aadb86e6f5d4b5642ba7", func := "unicodetext/unicodetextlaw53.EditsTwice", spec := "editsTwice", apart := false, narrowed := true }
def EditsTwiceUptoSaid : Prop := editsTwiceUptoRow.holds Try.pinned (OpenSpec.upto editsTwiceSpec)

/-- 'unicodetextlaw53.EditsMoves', WHERE WHAT IT READS IS OF BULK AT MOST 1048576: true; the input reads as it did. -/
def editsMovesUptoRow : OpenClaim := { program := "ytjdnajmljafkpaa", sum := "ad7fa90128e34ac1372a4b5ed763c7ae55b287f78de9aadb86e6f5d4b5642ba7", func := "unicodetext/unicodetextlaw53.EditsMoves", spec := "editsMoves", apart := false, narrowed := true }
def EditsMovesUptoSaid : Prop := editsMovesUptoRow.holds Try.pinned (OpenSpec.upto editsMovesSpec)

/-- 'unicodetextlaw53.EditsUndoes', WHERE WHAT IT READS IS OF BULK AT MOST 1048576: true; the input reads as it did. -/
def editsUndoesUptoRow : OpenClaim := { program := "ytjdnajmljafkpaa", sum := "ad7fa90128e34ac1372a4b5ed763c7ae55b287f78de9aadb86e6f5d4b5642ba7", func := "unicodetext/unicodetextlaw53.EditsUndoes", spec := "editsUndoes", apart := false, narrowed := true }
def EditsUndoesUptoSaid : Prop := editsUndoesUptoRow.holds Try.pinned (OpenSpec.upto editsUndoesSpec)

end Rows
end Go.Proofs.Ytjdnajmljafkpaa
