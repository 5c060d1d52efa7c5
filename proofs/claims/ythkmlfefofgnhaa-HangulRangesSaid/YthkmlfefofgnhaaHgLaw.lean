import Derived.Test.YthkmlfefofgnhaaHgAwake
import Derived.OpenShut
namespace Go.Proofs.Ythkmlfefofgnhaa
open Go.RowKit
set_option linter.unusedVariables false
set_option linter.unusedSimpArgs false

theorem below_undrew {w w' : World} (h : Below w.drew.heap.size w.drew w') : Below w.heap.size w w' := ⟨h.os, h.tape, h.output, h.size, h.block⟩
theorem decl_len (c : Int) : (decl c).length ≤ 3 := by unfold decl; (repeat' split) <;> simp
theorem kind_of_4 {c : Int} (h0 : 44032 ≤ c) (h1 : c ≤ 55203) (h2 : (c - 44032) % 28 = 0) : kind c = 4 := by
  unfold kind; rw [if_neg (by omega), if_neg (by omega), if_neg (by omega), if_pos ⟨h0, h1⟩, if_pos h2]
theorem kind_of_5 {c : Int} (h0 : 44032 ≤ c) (h1 : c ≤ 55203) (h2 : ¬ (c - 44032) % 28 = 0) : kind c = 5 := by
  unfold kind; rw [if_neg (by omega), if_neg (by omega), if_neg (by omega), if_pos ⟨h0, h1⟩, if_neg h2]
theorem kind_of_1 {c : Int} (h0 : 4352 ≤ c) (h1 : c ≤ 4370) : kind c = 1 := by unfold kind; rw [if_pos ⟨h0, h1⟩]
theorem kind_of_2 {c : Int} (h0 : 4449 ≤ c) (h1 : c ≤ 4469) : kind c = 2 := by unfold kind; rw [if_neg (by omega), if_pos ⟨h0, h1⟩]
theorem kind_of_3 {c : Int} (h0 : 4520 ≤ c) (h1 : c ≤ 4546) : kind c = 3 := by unfold kind; rw [if_neg (by omega), if_neg (by omega), if_pos ⟨h0, h1⟩]
theorem comp_12 {a b : Int} (h1 : kind a = 1) (h2 : kind b = 2) : compI a b = 44032 + ((a - 4352) * 21 + b - 4449) * 28 ∧ compB a b = true :=
  ⟨by unfold compI; rw [if_pos ⟨h1, h2⟩], by unfold compB; rw [decide_eq_true ⟨h1, h2⟩]; rfl⟩
theorem comp_43 {a b : Int} (h1 : kind a = 4) (h2 : kind b = 3) : compI a b = a + b - 4520 + 1 ∧ compB a b = true :=
  ⟨by unfold compI; rw [if_neg (by omega), if_pos ⟨h1, h2⟩], by unfold compB; rw [decide_eq_true (⟨h1, h2⟩ : kind a = 4 ∧ kind b = 3), Bool.or_true]⟩
theorem Own.below {w w' : World} {B : Nat} {E : TypeId} {v : Value} {xs : List Int} (h : Own w B E v xs) (hb : Below w.heap.size w w') : Own w' B E v xs := by
  rcases h with h | ⟨g, cap, cur, h1, h2, h3, h4⟩
  · exact .inl h
  · exact .inr ⟨g, cap, cur, h1, h2, (hb.block g (lt_of_heap h3)).trans h3, h4⟩
theorem small_of {xs : List Int} (h : ∀ n ∈ xs, (Lit.int .i64 n).wf = true) : Small xs := fun j => by
  by_cases hj : j < xs.length
  · rw [el_lt hj]; exact bounds_i64 (h _ (List.getElem_mem hj))
  · rw [el_out (by omega)]; decide
theorem compB_or {a b : Int} (h : compB a b = true) : (kind a = 1 ∧ kind b = 2) ∨ (kind a = 4 ∧ kind b = 3) := by
  unfold compB at h; simpa using h
theorem comp_none {a b : Int} (h : compB a b = false) : compI a b = 0 := by
  unfold compB at h
  rw [Bool.or_eq_false_iff, decide_eq_false_iff_not, decide_eq_false_iff_not] at h
  unfold compI; rw [if_neg h.1, if_neg h.2]
theorem comp_bounds {a b : Int} (h : compB a b = true) : (-9223372036854775808 ≤ compI a b ∧ compI a b ≤ 9223372036854775807) ∧ 4 ≤ kind (compI a b) := by
  rcases compB_or h with ⟨h1, h2⟩ | ⟨h1, h2⟩
  · have e := (comp_12 h1 h2).1
    have g1 := kind_1 h1
    have g2 := kind_2 h2
    rw [e]
    exact ⟨by omega, by rw [kind_of_4 (by omega) (by omega) (by omega)]; omega⟩
  · have e := (comp_43 h1 h2).1
    have g1 := kind_4 h1
    have g2 := kind_3 h2
    rw [e]
    exact ⟨by omega, by rw [kind_of_5 (by omega) (by omega) (by omega)]; omega⟩
theorem parts_of {a b : Int} (h : compB a b = true) : decl (compI a b) = decl a ++ decl b := by
  rcases compB_or h with ⟨h1, h2⟩ | ⟨h1, h2⟩
  · have e := (comp_12 h1 h2).1
    have g1 := kind_1 h1
    have g2 := kind_2 h2
    have k4 : kind (compI a b) = 4 := by rw [e]; exact kind_of_4 (by omega) (by omega) (by omega)
    rw [decl_two k4, decl_none (c := a) (by omega), decl_none (c := b) (by omega), e, show 4352 + (44032 + ((a - 4352) * 21 + b - 4449) * 28 - 44032) / 28 / 21 = a by omega,
      show 4449 + (44032 + ((a - 4352) * 21 + b - 4449) * 28 - 44032) / 28 % 21 = b by omega]
    rfl
  · have e := (comp_43 h1 h2).1
    have g1 := kind_4 h1
    have g2 := kind_3 h2
    have k5 : kind (compI a b) = 5 := by rw [e]; exact kind_of_5 (by omega) (by omega) (by omega)
    rw [decl_three k5, decl_two h1, decl_none (c := b) (by omega), e, show (a + b - 4520 + 1 - 44032) / 28 = (a - 44032) / 28 by omega, show 4520 + (a + b - 4520 + 1 - 44032) % 28 - 1 = b by omega]
    rfl
end Go.Proofs.Ythkmlfefofgnhaa
