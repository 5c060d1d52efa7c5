import Derived.Test.YthkmlfefofgnhaaHgAwake
namespace Go.Proofs.Ythkmlfefofgnhaa
open Go.RowKit
set_option linter.unusedVariables false
set_option linter.unusedSimpArgs false

theorem decl_len (c : Int) : (decl c).length ≤ 3 := by unfold decl; (repeat' split) <;> simp
end Go.Proofs.Ythkmlfefofgnhaa
