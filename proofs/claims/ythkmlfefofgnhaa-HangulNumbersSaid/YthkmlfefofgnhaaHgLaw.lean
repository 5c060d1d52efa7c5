import Derived.Test.YthkmlfefofgnhaaHgAwake
namespace Go.Proofs.Ythkmlfefofgnhaa
open Go.RowKit
set_option linter.unusedVariables false
set_option linter.unusedSimpArgs false

theorem decl_len (c : Int) : (decl c).length ≤ 3 := by unfold decl; (repeat' split) <;> simp
theorem kind_of_4 {c : Int} (h0 : 44032 ≤ c) (h1 : c ≤ 55203) (h2 : (c - 44032) % 28 = 0) : kind c = 4 := by
  unfold kind; rw [if_neg (by omega), if_neg (by omega), if_neg (by omega), if_pos ⟨h0, h1⟩, if_pos h2]
theorem kind_of_5 {c : Int} (h0 : 44032 ≤ c) (h1 : c ≤ 55203) (h2 : ¬ (c - 44032) % 28 = 0) : kind c = 5 := by
  unfold kind; rw [if_neg (by omega), if_neg (by omega), if_neg (by omega), if_pos ⟨h0, h1⟩, if_neg h2]
theorem kind_of_1 {c : Int} (h0 : 4352 ≤ c) (h1 : c ≤ 4370) : kind c = 1 := by unfold kind; rw [if_pos ⟨h0, h1⟩]
theorem kind_of_2 {c : Int} (h0 : 4449 ≤ c) (h1 : c ≤ 4469) : kind c = 2 := by unfold kind; rw [if_neg (by omega), if_pos ⟨h0, h1⟩]
theorem kind_of_3 {c : Int} (h0 : 4520 ≤ c) (h1 : c ≤ 4546) : kind c = 3 := by unfold kind; rw [if_neg (by omega), if_neg (by omega), if_pos ⟨h0, h1⟩]
theorem comp_12 {a b : Int} (h1 : kind a = 1) (h2 : kind b = 2) : compI a b = 44032 + ((a - 4352) * 21 + b - 4449) * 28 ∧ compB a b = true :=
  ⟨by unfold compI; rw [if_pos ⟨h1, h2⟩], by unfold compB; rw [decide_eq_true ⟨h1, h2⟩]; rfl⟩
theorem comp_43 {a b : Int} (h1 : kind a = 4) (h2 : kind b = 3) : compI a b = a + b - 4520 + 1 ∧ compB a b = true :=
  ⟨by unfold compI; rw [if_neg (by omega), if_pos ⟨h1, h2⟩], by unfold compB; rw [decide_eq_true (⟨h1, h2⟩ : kind a = 4 ∧ kind b = 3), Bool.or_true]⟩
end Go.Proofs.Ythkmlfefofgnhaa
