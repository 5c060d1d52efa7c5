/-
  No cell of these rows narrows 'for every input' (looked for: loops, veiled, ifaces, maps, wideKeys, modest, calm, conditions, laid).
  DERIVED. THE GIVEN ROWS OF THIS SEAT. 7 by the template 'for every input the law returns true; each argument reads behind the call as it read before'; 0 by the template 'total and deterministic' (their statements: YthkmlfefofgnhaaTotals.lean).
  GIVEN WITH THE SEED: the statements are not yours to turn. If you find one false, say at which input.
  Laid BY PROGRAM, IN A SANDBOX (cutbox-rows.mjs): the forced cells as the released guide's own fill.sh prints them over the translation c0aaa018cebd6648… (all of the seat's roots in one cut). By AI agents, Wed Nov 11 2026. No macro, syntax, notation, axiom, sorry.
-/
import Derived.Test.YthkmlfefofgnhaaChecked
import GoSem.Claim
import GoSem.ClaimJoined
import GoSem.ClaimMapViews
import Derived.JoinedTies
import Derived.KernelRfl
namespace Go.Proofs.Ythkmlfefofgnhaa
/- THE CELL 'sum', in the pinned program and in every row, IS THE sha256 OF THE DUMP (.gsa) THAT YthkmlfefofgnhaaProg.lean LOADS. Nothing in Lean hashes anything: it is a label: what it is worth is what the hold of that sum in a sandbox is worth. -/
noncomputable def Try.pinned : Pinned := { name := "ythkmlfefofgnhaa", sum := "c0aaa018cebd6648ea272d45e06f0f9161683602c525b6235f4a7f447265bb20", checked := Try.checked }
namespace Rows
def none {H : Type} : Left H := { results := [], args := [] }

/-- 'unicodetextlaw19.HangulKinds': WHATEVER THE INPUT: true; the input reads as it did. -/
def hangulKindsSpec : ChangeSpec := { name := "hangulKinds", fn := fun _ => fun
  | [d] => { results := [.lit (.bool true)], args := [d] }
  | _ => none }
def hangulKindsRow : OpenClaim := { program := "ythkmlfefofgnhaa", sum := "c0aaa018cebd6648ea272d45e06f0f9161683602c525b6235f4a7f447265bb20", func := "unicodetext/unicodetextlaw19.HangulKinds", spec := "hangulKinds", apart := false }
def HangulKindsSaid : Prop := hangulKindsRow.holds Try.pinned (OpenSpec.ofChange hangulKindsSpec)

/-- ITS FALSE NEIGHBOUR: 'it returns false'. Refute it at one input. -/
def hangulKindsWrong : ChangeSpec := { name := "hangulKinds", fn := fun _ => fun
  | [d] => { results := [.lit (.bool false)], args := [d] }
  | _ => none }
def HangulKindsWrongFalsely : Prop := hangulKindsRow.holds Try.pinned (OpenSpec.ofChange hangulKindsWrong)

/-- 'unicodetextlaw19.HangulComposes': WHATEVER THE INPUT: true; the input reads as it did. -/
def hangulComposesSpec : ChangeSpec := { name := "hangulComposes", fn := fun _ => fun
  | [d1, d2] => { results := [.lit (.bool true)], args := [d1, d2] }
  | _ => none }
def hangulComposesRow : OpenClaim := { program := "ythkmlfefofgnhaa", sum := "c0aaa018cebd6648ea272d45e06f0f9161683602c525b6235f4a7f447265bb20", func := "unicodetext/unicodetextlaw19.HangulComposes", spec := "hangulComposes", apart := false }
def HangulComposesSaid : Prop := hangulComposesRow.holds Try.pinned (OpenSpec.ofChange hangulComposesSpec)

/-- ITS FALSE NEIGHBOUR: 'it returns false'. Refute it at one input. -/
def hangulComposesWrong : ChangeSpec := { name := "hangulComposes", fn := fun _ => fun
  | [d1, d2] => { results := [.lit (.bool false)], args := [d1, d2] }
  | _ => none }
def HangulComposesWrongFalsely : Prop := hangulComposesRow.holds Try.pinned (OpenSpec.ofChange hangulComposesWrong)

/-- 'unicodetextlaw19.HangulSplits': WHATEVER THE INPUT: true; the input reads as it did. -/
def hangulSplitsSpec : ChangeSpec := { name := "hangulSplits", fn := fun _ => fun
  | [d] => { results := [.lit (.bool true)], args := [d] }
  | _ => none }
def hangulSplitsRow : OpenClaim := { program := "ythkmlfefofgnhaa", sum := "c0aaa018cebd6648ea272d45e06f0f9161683602c525b6235f4a7f447265bb20", func := "unicodetext/unicodetextlaw19.HangulSplits", spec := "hangulSplits", apart := false }
def HangulSplitsSaid : Prop := hangulSplitsRow.holds Try.pinned (OpenSpec.ofChange hangulSplitsSpec)

/-- ITS FALSE NEIGHBOUR: 'it returns false'. Refute it at one input. -/
def hangulSplitsWrong : ChangeSpec := { name := "hangulSplits", fn := fun _ => fun
  | [d] => { results := [.lit (.bool false)], args := [d] }
  | _ => none }
def HangulSplitsWrongFalsely : Prop := hangulSplitsRow.holds Try.pinned (OpenSpec.ofChange hangulSplitsWrong)

/-- 'unicodetextlaw19.HangulReturns': WHATEVER THE INPUT: true; the input reads as it did. -/
def hangulReturnsSpec : ChangeSpec := { name := "hangulReturns", fn := fun _ => fun
  | [d] => { results := [.lit (.bool true)], args := [d] }
  | _ => none }
def hangulReturnsRow : OpenClaim := { program := "ythkmlfefofgnhaa", sum := "c0aaa018cebd6648ea272d45e06f0f9161683602c525b6235f4a7f447265bb20", func := "unicodetext/unicodetextlaw19.HangulReturns", spec := "hangulReturns", apart := false }
def HangulReturnsSaid : Prop := hangulReturnsRow.holds Try.pinned (OpenSpec.ofChange hangulReturnsSpec)

/-- ITS FALSE NEIGHBOUR: 'it returns false'. Refute it at one input. -/
def hangulReturnsWrong : ChangeSpec := { name := "hangulReturns", fn := fun _ => fun
  | [d] => { results := [.lit (.bool false)], args := [d] }
  | _ => none }
def HangulReturnsWrongFalsely : Prop := hangulReturnsRow.holds Try.pinned (OpenSpec.ofChange hangulReturnsWrong)

/-- 'unicodetextlaw19.HangulParts': WHATEVER THE INPUT: true; the input reads as it did. -/
def hangulPartsSpec : ChangeSpec := { name := "hangulParts", fn := fun _ => fun
  | [d1, d2] => { results := [.lit (.bool true)], args := [d1, d2] }
  | _ => none }
def hangulPartsRow : OpenClaim := { program := "ythkmlfefofgnhaa", sum := "c0aaa018cebd6648ea272d45e06f0f9161683602c525b6235f4a7f447265bb20", func := "unicodetext/unicodetextlaw19.HangulParts", spec := "hangulParts", apart := false }
def HangulPartsSaid : Prop := hangulPartsRow.holds Try.pinned (OpenSpec.ofChange hangulPartsSpec)

/-- ITS FALSE NEIGHBOUR: 'it returns false'. Refute it at one input. -/
def hangulPartsWrong : ChangeSpec := { name := "hangulParts", fn := fun _ => fun
  | [d1, d2] => { results := [.lit (.bool false)], args := [d1, d2] }
  | _ => none }
def HangulPartsWrongFalsely : Prop := hangulPartsRow.holds Try.pinned (OpenSpec.ofChange hangulPartsWrong)

/-- 'unicodetextlaw19.HangulRanges': WHATEVER THE INPUT: true; the input reads as it did. -/
def hangulRangesSpec : ChangeSpec := { name := "hangulRanges", fn := fun _ => fun
  | [d] => { results := [.lit (.bool true)], args := [d] }
  | _ => none }
def hangulRangesRow : OpenClaim := { program := "ythkmlfefofgnhaa", sum := "c0aaa018cebd6648ea272d45e06f0f9161683602c525b6235f4a7f447265bb20", func := "unicodetext/unicodetextlaw19.HangulRanges", spec := "hangulRanges", apart := false }
def HangulRangesSaid : Prop := hangulRangesRow.holds Try.pinned (OpenSpec.ofChange hangulRangesSpec)

/-- ITS FALSE NEIGHBOUR: 'it returns false'. Refute it at one input. -/
def hangulRangesWrong : ChangeSpec := { name := "hangulRanges", fn := fun _ => fun
  | [d] => { results := [.lit (.bool false)], args := [d] }
  | _ => none }
def HangulRangesWrongFalsely : Prop := hangulRangesRow.holds Try.pinned (OpenSpec.ofChange hangulRangesWrong)

/-- 'unicodetextlaw19.HangulNumbers': WHATEVER THE INPUT: true; the input reads as it did. -/
def hangulNumbersSpec : ChangeSpec := { name := "hangulNumbers", fn := fun _ => fun
  | [d1, d2, d3] => { results := [.lit (.bool true)], args := [d1, d2, d3] }
  | _ => none }
def hangulNumbersRow : OpenClaim := { program := "ythkmlfefofgnhaa", sum := "c0aaa018cebd6648ea272d45e06f0f9161683602c525b6235f4a7f447265bb20", func := "unicodetext/unicodetextlaw19.HangulNumbers", spec := "hangulNumbers", apart := false }
def HangulNumbersSaid : Prop := hangulNumbersRow.holds Try.pinned (OpenSpec.ofChange hangulNumbersSpec)

/-- ITS FALSE NEIGHBOUR: 'it returns false'. Refute it at one input. -/
def hangulNumbersWrong : ChangeSpec := { name := "hangulNumbers", fn := fun _ => fun
  | [d1, d2, d3] => { results := [.lit (.bool false)], args := [d1, d2, d3] }
  | _ => none }
def HangulNumbersWrongFalsely : Prop := hangulNumbersRow.holds Try.pinned (OpenSpec.ofChange hangulNumbersWrong)

/- THE SECOND FORM. 'bulk': how many values and letters a reading holds, each counted each time it is reached (what is shared counts as often as it is met; a slice's spare places count too). A statement '..UptoSaid' is the law's where the arguments, and the package variables that the reading takes, are together of bulk at most 1048576: NARROWER than '..Said'. Prove '..Said' where nothing that the law and all that it calls make is longer than what came in: it says more and counts as full. Else prove '..UptoSaid'. A law counts once. -/
mutual
def uptoBulk {H : Type} : DataW H → Nat
  | .lit (.string bytes) => bytes.length + 1
  | .lit _ => 1
  | .nil => 1
  | .ptr d => uptoBulk d + 1
  | .slice elems spare => uptoBulkAll elems + uptoBulkAll spare + 1
  | .agg parts => uptoBulkAll parts + 1
  | .iface _ d => uptoBulk d + 1
  | .map entries => uptoBulkEntries entries + 1
  | .held _ => 1
def uptoBulkAll {H : Type} : List (DataW H) → Nat
  | [] => 0
  | d :: r => uptoBulk d + uptoBulkAll r
def uptoBulkEntries {H : Type} : List (Lit × DataW H) → Nat
  | [] => 0
  | x :: r => uptoBulkEntry x + uptoBulkEntries r
def uptoBulkEntry {H : Type} : Lit × DataW H → Nat
  | (.string bytes, d) => bytes.length + uptoBulk d + 1
  | (_, d) => uptoBulk d + 1
 end
def uptoSmall : (H : Type) → List (DataW H) → Bool := fun _ ds => decide (uptoBulkAll ds ≤ 1048576)
def OpenSpec.upto (s : _root_.Go.ChangeSpec) : _root_.Go.OpenSpec := { _root_.Go.OpenSpec.ofChange s with cond := some uptoSmall }

/-- 'unicodetextlaw19.HangulKinds', WHERE WHAT IT READS IS OF BULK AT MOST 1048576: true; the input reads as it did. -/
def hangulKindsUptoRow : OpenClaim := { program := "ythkmlfefofgnhaa", sum := "c0aaa018cebd6648ea272d45e06f0f9161683602c525b6235f4a7f447265bb20", func := "unicodetext/unicodetextlaw19.HangulKinds", spec := "hangulKinds", apart := false, narrowed := true }
def HangulKindsUptoSaid : Prop := hangulKindsUptoRow.holds Try.pinned (OpenSpec.upto hangulKindsSpec)

/-- 'unicodetextlaw19.HangulComposes', WHERE WHAT IT READS IS OF BULK AT MOST 1048576: true; the input reads as it did. -/
def hangulComposesUptoRow : OpenClaim := { program := "ythkmlfefofgnhaa", sum := "c0aaa018cebd6648ea272d45e06f0f9161683602c525b6235f4a7f447265bb20", func := "unicodetext/unicodetextlaw19.HangulComposes", spec := "hangulComposes", apart := false, narrowed := true }
def HangulComposesUptoSaid : Prop := hangulComposesUptoRow.holds Try.pinned (OpenSpec.upto hangulComposesSpec)

/-- 'unicodetextlaw19.HangulSplits', WHERE WHAT IT READS IS OF BULK AT MOST 1048576: true; the input reads as it did. -/
def hangulSplitsUptoRow : OpenClaim := { program := "ythkmlfefofgnhaa", sum := "c0aaa018cebd6648ea272d45e06f0f9161683602c525b6235f4a7f447265bb20", func := "unicodetext/unicodetextlaw19.HangulSplits", spec := "hangulSplits", apart := false, narrowed := true }
def HangulSplitsUptoSaid : Prop := hangulSplitsUptoRow.holds Try.pinned (OpenSpec.upto hangulSplitsSpec)

/-- 'unicodetextlaw19.HangulReturns', WHERE WHAT IT READS IS OF BULK AT MOST 1048576: true; the input reads as it did. -/
def hangulReturnsUptoRow : OpenClaim := { program := "ythkmlfefofgnhaa", sum := "c0aaa018cebd6648ea272d45e06f0f9161683602c525b6235f4a7f447265bb20", func := "unicodetext/unicodetextlaw19.HangulReturns", spec := "hangulReturns", apart := false, narrowed := true }
def HangulReturnsUptoSaid : Prop := hangulReturnsUptoRow.holds Try.pinned (OpenSpec.upto hangulReturnsSpec)

/-- 'unicodetextlaw19.HangulParts', WHERE WHAT IT READS IS OF BULK AT MOST 1048576: true; the input reads as it did. -/
def hangulPartsUptoRow : OpenClaim := { program := "ythkmlfefofgnhaa", sum := "c0aaa018cebd6648ea272d45e06f0f9161683602c525b6235f4a7f447265bb20", func := "unicodetext/unicodetextlaw19.HangulParts", spec := "hangulParts", apart := false, narrowed := true }
def HangulPartsUptoSaid : Prop := hangulPartsUptoRow.holds Try.pinned (OpenSpec.upto hangulPartsSpec)

/-- 'unicodetextlaw19.HangulRanges', WHERE WHAT IT READS IS OF BULK AT MOST 1048576: true; the input reads as it did. -/
def hangulRangesUptoRow : OpenClaim := { program := "ythkmlfefofgnhaa", sum := "c0aaa018cebd6648ea272d45e06f0f9161683602c525b6235f4a7f447265bb20", func := "unicodetext/unicodetextlaw19.HangulRanges", spec := "hangulRanges", apart := false, narrowed := true }
def HangulRangesUptoSaid : Prop := hangulRangesUptoRow.holds Try.pinned (OpenSpec.upto hangulRangesSpec)

/-- 'unicodetextlaw19.HangulNumbers', WHERE WHAT IT READS IS OF BULK AT MOST 1048576: true; the input reads as it did. -/
def hangulNumbersUptoRow : OpenClaim := { program := "ythkmlfefofgnhaa", sum := "c0aaa018cebd6648ea272d45e06f0f9161683602c525b6235f4a7f447265bb20", func := "unicodetext/unicodetextlaw19.HangulNumbers", spec := "hangulNumbers", apart := false, narrowed := true }
def HangulNumbersUptoSaid : Prop := hangulNumbersUptoRow.holds Try.pinned (OpenSpec.upto hangulNumbersSpec)

end Rows
end Go.Proofs.Ythkmlfefofgnhaa
