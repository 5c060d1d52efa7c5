import Derived.Test.YtkokfinmolkehaaCpCmp
namespace Go.Proofs.Ytkokfinmolkehaa
open Go.RowKit
set_option linter.unusedVariables false
set_option linter.unusedSimpArgs false

def vld (c : Int) : Bool := decide (0 ≤ c) && decide (c ≤ 1114111)
def sur (c : Int) : Bool := decide (55296 ≤ c) && decide (c ≤ 57343)
theorem vld_calls (c : Int) (w : World) : Calls Try.prog 12 #[.int .i64 c] w fun e w' => e = .returned (.bool (vld c)) ∧ w' = w := by
  go_enter Try.func12, Try.ntmps12
  by_cases h1 : 0 ≤ c <;> by_cases h2 : c ≤ 1114111 <;>
  · go_wp2
    go_ret
    exact ⟨ret_bool (by simp [vld, h1, h2]), rfl⟩
theorem vldR_calls (c : Int) (w : World) : Calls Try.prog 19 #[.int .i64 c] w fun e w' => e = .returned (.bool (vld c)) ∧ w' = w := by
  go_enter Try.func19, Try.ntmps19
  by_cases h1 : 0 ≤ c <;> by_cases h2 : c ≤ 1114111 <;>
  · go_wp2
    go_ret
    exact ⟨ret_bool (by simp [vld, h1, h2]), rfl⟩
theorem sur_calls (c : Int) (w : World) : Calls Try.prog 22 #[.int .i64 c] w fun e w' => e = .returned (.bool (sur c)) ∧ w' = w := by
  go_enter Try.func22, Try.ntmps22
  by_cases h1 : 55296 ≤ c <;> by_cases h2 : c ≤ 57343 <;>
  · go_wp2
    go_ret
    exact ⟨ret_bool (by simp [sur, h1, h2]), rfl⟩
theorem surR_calls (c : Int) (w : World) : Calls Try.prog 23 #[.int .i64 c] w fun e w' => e = .returned (.bool (sur c)) ∧ w' = w := by
  go_enter Try.func23, Try.ntmps23
  by_cases h1 : 55296 ≤ c <;> by_cases h2 : c ≤ 57343 <;>
  · go_wp2
    go_ret
    exact ⟨ret_bool (by simp [sur, h1, h2]), rfl⟩
theorem sca_calls (c : Int) (w : World) : Calls Try.prog 20 #[.int .i64 c] w fun e w' => e = .returned (.bool (vld c && !sur c)) ∧ w' = w := by
  go_enter Try.func20, Try.ntmps20
  cases h1 : vld c <;> cases h2 : sur c <;>
  · go_wp2_with (first
      | (go_at_call 12; refine (vld_calls _ _).mono ?_; rw [h1]; rintro e w' ⟨rfl, rfl⟩)
      | (go_at_call 22; refine (sur_calls _ _).mono ?_; rw [h2]; rintro e w' ⟨rfl, rfl⟩))
    go_ret
    exact ⟨ret_bool (by simp [h1, h2]), rfl⟩
theorem scaR_calls (c : Int) (w : World) : Calls Try.prog 21 #[.int .i64 c] w fun e w' => e = .returned (.bool (vld c && !sur c)) ∧ w' = w := by
  go_enter Try.func21, Try.ntmps21
  cases h1 : vld c <;> cases h2 : sur c <;>
  · go_wp2_with (first
      | (go_at_call 19; refine (vldR_calls _ _).mono ?_; rw [h1]; rintro e w' ⟨rfl, rfl⟩)
      | (go_at_call 23; refine (surR_calls _ _).mono ?_; rw [h2]; rintro e w' ⟨rfl, rfl⟩))
    go_ret
    exact ⟨ret_bool (by simp [h1, h2]), rfl⟩
end Go.Proofs.Ytkokfinmolkehaa
