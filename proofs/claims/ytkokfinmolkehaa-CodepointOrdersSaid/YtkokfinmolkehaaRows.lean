/-
  No cell of these rows narrows 'for every input' (looked for: loops, veiled, ifaces, maps, wideKeys, modest, calm, conditions, laid).
  DERIVED. THE GIVEN ROWS OF THIS SEAT. 7 by the template 'for every input the law returns true; each argument reads behind the call as it read before'; 0 by the template 'total and deterministic' (their statements: YtkokfinmolkehaaTotals.lean).
  GIVEN WITH THE SEED: the statements are not yours to turn. If you find one false, say at which input.
  Laid BY PROGRAM, IN A SANDBOX (cutbox-rows.mjs): the forced cells as the released guide's own fill.sh prints them over the translation 11bf89c85f503d63… (all of the seat's roots in one cut). By AI agents, Wed Nov 11 2026. No macro, syntax, notation, axiom, sorry.
-/
import Derived.Test.YtkokfinmolkehaaChecked
import GoSem.Claim
import GoSem.ClaimJoined
import GoSem.ClaimMapViews
import Derived.JoinedTies
import Derived.KernelRfl
namespace Go.Proofs.Ytkokfinmolkehaa
/- THE CELL 'sum', in the pinned program and in every row, IS THE sha256 OF THE DUMP (.gsa) THAT YtkokfinmolkehaaProg.lean LOADS. Nothing in Lean hashes anything: it is a label: what it is worth is what the hold of that sum in a sandbox is worth. -/
noncomputable def Try.pinned : Pinned := { name := "ytkokfinmolkehaa", sum := "11bf89c85f503d63a7922e7983a1718e2daaac39e0029fc5652b4070824383cd", checked := Try.checked }
namespace Rows
def none {H : Type} : Left H := { results := [], args := [] }

/-- 'unicodetextlaw01.CodepointDigits': WHATEVER THE INPUT: true; the input reads as it did. -/
def codepointDigitsSpec : ChangeSpec := { name := "codepointDigits", fn := fun _ => fun
  | [d] => { results := [.lit (.bool true)], args := [d] }
  | _ => none }
def codepointDigitsRow : OpenClaim := { program := "ytkokfinmolkehaa", sum := "11bf89c85f503d63a7922e7983a1718e2daaac39e0029fc5652b4070824383cd", func := "unicodetext/unicodetextlaw01.CodepointDigits", spec := "codepointDigits", apart := false }
def CodepointDigitsSaid : Prop := codepointDigitsRow.holds Try.pinned (OpenSpec.ofChange codepointDigitsSpec)

/-- ITS FALSE NEIGHBOUR: 'it returns false'. Refute it at one input. -/
def codepointDigitsWrong : ChangeSpec := { name := "codepointDigits", fn := fun _ => fun
  | [d] => { results := [.lit (.bool false)], args := [d] }
  | _ => none }
def CodepointDigitsWrongFalsely : Prop := codepointDigitsRow.holds Try.pinned (OpenSpec.ofChange codepointDigitsWrong)

/-- 'unicodetextlaw01.CodepointParses': WHATEVER THE INPUT: true; the input reads as it did. -/
def codepointParsesSpec : ChangeSpec := { name := "codepointParses", fn := fun _ => fun
  | [d] => { results := [.lit (.bool true)], args := [d] }
  | _ => none }
def codepointParsesRow : OpenClaim := { program := "ytkokfinmolkehaa", sum := "11bf89c85f503d63a7922e7983a1718e2daaac39e0029fc5652b4070824383cd", func := "unicodetext/unicodetextlaw01.CodepointParses", spec := "codepointParses", apart := false }
def CodepointParsesSaid : Prop := codepointParsesRow.holds Try.pinned (OpenSpec.ofChange codepointParsesSpec)

/-- ITS FALSE NEIGHBOUR: 'it returns false'. Refute it at one input. -/
def codepointParsesWrong : ChangeSpec := { name := "codepointParses", fn := fun _ => fun
  | [d] => { results := [.lit (.bool false)], args := [d] }
  | _ => none }
def CodepointParsesWrongFalsely : Prop := codepointParsesRow.holds Try.pinned (OpenSpec.ofChange codepointParsesWrong)

/-- 'unicodetextlaw01.CodepointPrefixes': WHATEVER THE INPUT: true; the input reads as it did. -/
def codepointPrefixesSpec : ChangeSpec := { name := "codepointPrefixes", fn := fun _ => fun
  | [d1, d2, d3] => { results := [.lit (.bool true)], args := [d1, d2, d3] }
  | _ => none }
def codepointPrefixesRow : OpenClaim := { program := "ytkokfinmolkehaa", sum := "11bf89c85f503d63a7922e7983a1718e2daaac39e0029fc5652b4070824383cd", func := "unicodetext/unicodetextlaw01.CodepointPrefixes", spec := "codepointPrefixes", apart := false }
def CodepointPrefixesSaid : Prop := codepointPrefixesRow.holds Try.pinned (OpenSpec.ofChange codepointPrefixesSpec)

/-- ITS FALSE NEIGHBOUR: 'it returns false'. Refute it at one input. -/
def codepointPrefixesWrong : ChangeSpec := { name := "codepointPrefixes", fn := fun _ => fun
  | [d1, d2, d3] => { results := [.lit (.bool false)], args := [d1, d2, d3] }
  | _ => none }
def CodepointPrefixesWrongFalsely : Prop := codepointPrefixesRow.holds Try.pinned (OpenSpec.ofChange codepointPrefixesWrong)

/-- 'unicodetextlaw01.CodepointCompares': WHATEVER THE INPUT: true; the input reads as it did. -/
def codepointComparesSpec : ChangeSpec := { name := "codepointCompares", fn := fun _ => fun
  | [d1, d2] => { results := [.lit (.bool true)], args := [d1, d2] }
  | _ => none }
def codepointComparesRow : OpenClaim := { program := "ytkokfinmolkehaa", sum := "11bf89c85f503d63a7922e7983a1718e2daaac39e0029fc5652b4070824383cd", func := "unicodetext/unicodetextlaw01.CodepointCompares", spec := "codepointCompares", apart := false }
def CodepointComparesSaid : Prop := codepointComparesRow.holds Try.pinned (OpenSpec.ofChange codepointComparesSpec)

/-- ITS FALSE NEIGHBOUR: 'it returns false'. Refute it at one input. -/
def codepointComparesWrong : ChangeSpec := { name := "codepointCompares", fn := fun _ => fun
  | [d1, d2] => { results := [.lit (.bool false)], args := [d1, d2] }
  | _ => none }
def CodepointComparesWrongFalsely : Prop := codepointComparesRow.holds Try.pinned (OpenSpec.ofChange codepointComparesWrong)

/-- 'unicodetextlaw01.CodepointOrders': WHATEVER THE INPUT: true; the input reads as it did. -/
def codepointOrdersSpec : ChangeSpec := { name := "codepointOrders", fn := fun _ => fun
  | [d1, d2, d3] => { results := [.lit (.bool true)], args := [d1, d2, d3] }
  | _ => none }
def codepointOrdersRow : OpenClaim := { program := "ytkokfinmolkehaa", sum := "11bf89c85f503d63a7922e7983a1718e2daaac39e0029fc5652b4070824383cd", func := "unicodetext/unicodetextlaw01.CodepointOrders", spec := "codepointOrders", apart := false }
def CodepointOrdersSaid : Prop := codepointOrdersRow.holds Try.pinned (OpenSpec.ofChange codepointOrdersSpec)

/-- ITS FALSE NEIGHBOUR: 'it returns false'. Refute it at one input. -/
def codepointOrdersWrong : ChangeSpec := { name := "codepointOrders", fn := fun _ => fun
  | [d1, d2, d3] => { results := [.lit (.bool false)], args := [d1, d2, d3] }
  | _ => none }
def CodepointOrdersWrongFalsely : Prop := codepointOrdersRow.holds Try.pinned (OpenSpec.ofChange codepointOrdersWrong)

/-- 'unicodetextlaw01.CodepointKinds': WHATEVER THE INPUT: true; the input reads as it did. -/
def codepointKindsSpec : ChangeSpec := { name := "codepointKinds", fn := fun _ => fun
  | [d] => { results := [.lit (.bool true)], args := [d] }
  | _ => none }
def codepointKindsRow : OpenClaim := { program := "ytkokfinmolkehaa", sum := "11bf89c85f503d63a7922e7983a1718e2daaac39e0029fc5652b4070824383cd", func := "unicodetext/unicodetextlaw01.CodepointKinds", spec := "codepointKinds", apart := false }
def CodepointKindsSaid : Prop := codepointKindsRow.holds Try.pinned (OpenSpec.ofChange codepointKindsSpec)

/-- ITS FALSE NEIGHBOUR: 'it returns false'. Refute it at one input. -/
def codepointKindsWrong : ChangeSpec := { name := "codepointKinds", fn := fun _ => fun
  | [d] => { results := [.lit (.bool false)], args := [d] }
  | _ => none }
def CodepointKindsWrongFalsely : Prop := codepointKindsRow.holds Try.pinned (OpenSpec.ofChange codepointKindsWrong)

/-- 'unicodetextlaw01.CodepointScalars': WHATEVER THE INPUT: true; the input reads as it did. -/
def codepointScalarsSpec : ChangeSpec := { name := "codepointScalars", fn := fun _ => fun
  | [d] => { results := [.lit (.bool true)], args := [d] }
  | _ => none }
def codepointScalarsRow : OpenClaim := { program := "ytkokfinmolkehaa", sum := "11bf89c85f503d63a7922e7983a1718e2daaac39e0029fc5652b4070824383cd", func := "unicodetext/unicodetextlaw01.CodepointScalars", spec := "codepointScalars", apart := false }
def CodepointScalarsSaid : Prop := codepointScalarsRow.holds Try.pinned (OpenSpec.ofChange codepointScalarsSpec)

/-- ITS FALSE NEIGHBOUR: 'it returns false'. Refute it at one input. -/
def codepointScalarsWrong : ChangeSpec := { name := "codepointScalars", fn := fun _ => fun
  | [d] => { results := [.lit (.bool false)], args := [d] }
  | _ => none }
def CodepointScalarsWrongFalsely : Prop := codepointScalarsRow.holds Try.pinned (OpenSpec.ofChange codepointScalarsWrong)

/- THE SECOND FORM. 'bulk': how many values and letters a reading holds, each counted each time it is reached (what is shared counts as often as it is met; a slice's spare places count too). A statement '..UptoSaid' is the law's where the arguments, and the package variables that the reading takes, are together of bulk at most 1048576: NARROWER than '..Said'. Prove '..Said' where nothing that the law and all that it calls make is longer than what came in: it says more and counts as full. Else prove '..UptoSaid'. A law counts once. -/
mutual
def uptoBulk {H : Type} : DataW H → Nat
  | .lit (.string bytes) => bytes.length + 1
  | .lit _ => 1
  | .nil => 1
  | .ptr d => uptoBulk d + 1
  | .slice elems spare => uptoBulkAll elems + uptoBulkAll spare + 1
  | .agg parts => uptoBulkAll parts + 1
  | .iface _ d => uptoBulk d + 1
  | .map entries => uptoBulkEntries entries + 1
  | .held _ => 1
def uptoBulkAll {H : Type} : List (DataW H) → Nat
  | [] => 0
  | d :: r => uptoBulk d + uptoBulkAll r
def uptoBulkEntries {H : Type} : List (Lit × DataW H) → Nat
  | [] => 0
  | x :: r => uptoBulkEntry x + uptoBulkEntries r
def uptoBulkEntry {H : Type} : Lit × DataW H → Nat
  | (.string bytes, d) => bytes.length + uptoBulk d + 1
  | (_, d) => uptoBulk d + 1
 end
def uptoSmall : (H : Type) → List (DataW H) → Bool := fun _ ds => decide (uptoBulkAll ds ≤ 1048576)
def OpenSpec.upto (s : _root_.Go.ChangeSpec) : _root_.Go.OpenSpec := { _root_.Go.OpenSpec.ofChange s with cond := some uptoSmall }

/-- 'unicodetextlaw01.CodepointDigits', WHERE WHAT IT READS IS OF BULK AT MOST 1048576: true; the input reads as it did. -/
def codepointDigitsUptoRow : OpenClaim := { program := "ytkokfinmolkehaa", sum := "11bf89c85f503d63a7922e7983a1718e2daaac39e0029fc5652b4070824383cd", func := "unicodetext/unicodetextlaw01.CodepointDigits", spec := "codepointDigits", apart := false, narrowed := true }
def CodepointDigitsUptoSaid : Prop := codepointDigitsUptoRow.holds Try.pinned (OpenSpec.upto codepointDigitsSpec)

/-- 'unicodetextlaw01.CodepointParses', WHERE WHAT IT READS IS OF BULK AT MOST 1048576: true; the input reads as it did. -/
def codepointParsesUptoRow : OpenClaim := { program := "ytkokfinmolkehaa", sum := "11bf89c85f503d63a7922e7983a1718e2daaac39e0029fc5652b4070824383cd", func := "unicodetext/unicodetextlaw01.CodepointParses", spec := "codepointParses", apart := false, narrowed := true }
def CodepointParsesUptoSaid : Prop := codepointParsesUptoRow.holds Try.pinned (OpenSpec.upto codepointParsesSpec)

/-- 'unicodetextlaw01.CodepointPrefixes', WHERE WHAT IT READS IS OF BULK AT MOST 1048576: true; the input reads as it did. -/
def codepointPrefixesUptoRow : OpenClaim := { program := "ytkokfinmolkehaa", sum := "11bf89c85f503d63a7922e7983a1718e2daaac39e0029fc5652b4070824383cd", func := "unicodetext/unicodetextlaw01.CodepointPrefixes", spec := "codepointPrefixes", apart := false, narrowed := true }
def CodepointPrefixesUptoSaid : Prop := codepointPrefixesUptoRow.holds Try.pinned (OpenSpec.upto codepointPrefixesSpec)

/-- 'unicodetextlaw01.CodepointCompares', WHERE WHAT IT READS IS OF BULK AT MOST 1048576: true; the input reads as it did. -/
def codepointComparesUptoRow : OpenClaim := { program := "ytkokfinmolkehaa", sum := "11bf89c85f503d63a7922e7983a1718e2daaac39e0029fc5652b4070824383cd", func := "unicodetext/unicodetextlaw01.CodepointCompares", spec := "codepointCompares", apart := false, narrowed := true }
def CodepointComparesUptoSaid : Prop := codepointComparesUptoRow.holds Try.pinned (OpenSpec.upto codepointComparesSpec)

/-- 'unicodetextlaw01.CodepointOrders', WHERE WHAT IT READS IS OF BULK AT MOST 1048576: true; the input reads as it did. -/
def codepointOrdersUptoRow : OpenClaim := { program := "ytkokfinmolkehaa", sum := "11bf89c85f503d63a7922e7983a1718e2daaac39e0029fc5652b4070824383cd", func := "unicodetext/unicodetextlaw01.CodepointOrders", spec := "codepointOrders", apart := false, narrowed := true }
def CodepointOrdersUptoSaid : Prop := codepointOrdersUptoRow.holds Try.pinned (OpenSpec.upto codepointOrdersSpec)

/-- 'unicodetextlaw01.CodepointKinds', WHERE WHAT IT READS IS OF BULK AT MOST 1048576: true; the input reads as it did. -/
def codepointKindsUptoRow : OpenClaim := { program := "ytkokfinmolkehaa", sum := "11bf89c85f503d63a7922e7983a1718e2daaac39e0029fc5652b4070824383cd", func := "unicodetext/unicodetextlaw01.CodepointKinds", spec := "codepointKinds", apart := false, narrowed := true }
def CodepointKindsUptoSaid : Prop := codepointKindsUptoRow.holds Try.pinned (OpenSpec.upto codepointKindsSpec)

/-- 'unicodetextlaw01.CodepointScalars', WHERE WHAT IT READS IS OF BULK AT MOST 1048576: true; the input reads as it did. -/
def codepointScalarsUptoRow : OpenClaim := { program := "ytkokfinmolkehaa", sum := "11bf89c85f503d63a7922e7983a1718e2daaac39e0029fc5652b4070824383cd", func := "unicodetext/unicodetextlaw01.CodepointScalars", spec := "codepointScalars", apart := false, narrowed := true }
def CodepointScalarsUptoSaid : Prop := codepointScalarsUptoRow.holds Try.pinned (OpenSpec.upto codepointScalarsSpec)

end Rows
end Go.Proofs.Ytkokfinmolkehaa
