import Derived.Test.YtkokfinmolkehaaCpAwake
import Derived.Test.YtkokfinmolkehaaCut
namespace Go.Proofs.Ytkokfinmolkehaa
open Go.RowKit
set_option linter.unusedVariables false
set_option linter.unusedSimpArgs false

/-! ### The order of lists, and the calls as laws see them -/
theorem cmp_anti (xs ys : List Int) : cmp ys xs = - cmp xs ys := by
  induction xs generalizing ys with
  | nil => cases ys <;> simp [cmp]
  | cons a l ih =>
    cases ys with
    | nil => simp [cmp]
    | cons b m =>
      simp only [cmp]
      by_cases h1 : a < b
      · have h2 : ¬ b < a := by omega
        simp [h1, h2]
      · by_cases h2 : b < a
        · simp [h1, h2]
        · simp [h1, h2, ih]
theorem cmp_trans {xs ys zs : List Int} (h1 : cmp xs ys ≤ 0) (h2 : cmp ys zs ≤ 0) : cmp xs zs ≤ 0 := by
  induction xs generalizing ys zs with
  | nil => cases zs <;> simp [cmp]
  | cons a l ih =>
    cases ys with
    | nil => simp [cmp] at h1
    | cons b m =>
      cases zs with
      | nil => simp [cmp] at h2
      | cons c n =>
        simp only [cmp] at h1 h2 ⊢
        by_cases a1 : a < b
        · by_cases b1 : b < c
          · rw [if_pos (by omega)]; decide
          · rw [if_neg b1] at h2
            by_cases b2 : c < b
            · rw [if_pos b2] at h2; omega
            · rw [if_pos (by omega)]; decide
        · rw [if_neg a1] at h1
          by_cases a2 : b < a
          · rw [if_pos a2] at h1; omega
          · rw [if_neg a2] at h1
            by_cases b1 : b < c
            · rw [if_pos (by omega)]; decide
            · rw [if_neg b1] at h2
              by_cases b2 : c < b
              · rw [if_pos b2] at h2; omega
              · rw [if_neg b2] at h2
                rw [if_neg (by omega), if_neg (by omega)]
                exact ih h1 h2
theorem cmp_longer (xs ys : List Int) : cmp xs (xs ++ ys) ≤ 0 := by
  induction xs with
  | nil => cases ys <;> simp [cmp]
  | cons a l ih => simp [cmp, ih]
theorem cmp_prefix (cs xs ys : List Int) : cmp (cs ++ xs) (cs ++ ys) = cmp xs ys := by
  induction cs with
  | nil => rfl
  | cons a l ih => simp [cmp, ih]
theorem cmp_suffix (cs xs ys : List Int) (h : xs.length = ys.length) : cmp (xs ++ cs) (ys ++ cs) = cmp xs ys := by
  induction xs generalizing ys with
  | nil =>
    cases ys with
    | nil => simp [cmp, cmp_self]
    | cons b m => simp at h
  | cons a l ih =>
    cases ys with
    | nil => simp at h
    | cons b m =>
      simp only [List.cons_append, cmp]
      rw [ih m (by simpa using h)]
theorem compB (A B : Option Addr) (c d : Nat) (xs ys : List Int) (x : Int) (w : World) (hx : Rd w A xs) (hy : Rd w B ys) (hX : Hid (cmp xs ys = x))
    (hn : xs.length ≤ 1000) (hm : ys.length ≤ 1000) :
    Calls Try.prog 16 #[.slice A xs.length c, .slice B ys.length d] w fun e w' => e = .returned (.int .i64 x) ∧ Below w.heap.size w w' := by
  refine (compare_calls A B c d xs ys w hx hy (by omega) (by omega)).mono ?_
  rintro e w' ⟨rfl, hd⟩
  exact ⟨ret_int hX.out, hd.below⟩
theorem refB (A B : Option Addr) (c d : Nat) (xs ys : List Int) (x : Int) (w : World) (hx : Rd w A xs) (hy : Rd w B ys) (hX : Hid (cmp xs ys = x))
    (hn : xs.length ≤ 1000) (hm : ys.length ≤ 1000) :
    Calls Try.prog 17 #[.slice A xs.length c, .slice B ys.length d] w fun e w' => e = .returned (.int .i64 x) ∧ Below w.heap.size w w' := by
  refine (cmp_calls A B c d xs ys w hx hy (by omega) (by omega)).mono ?_
  rintro e w' ⟨rfl, hd⟩
  exact ⟨ret_int hX.out, hd.below⟩
theorem equalB (A B : Option Addr) (c d : Nat) (xs ys : List Int) (x : Bool) (w : World) (hx : Rd w A xs) (hy : Rd w B ys) (hX : Hid (decide (xs = ys) = x))
    (hn : xs.length ≤ 1000) (hm : ys.length ≤ 1000) :
    Calls Try.prog 18 #[.slice A xs.length c, .slice B ys.length d] w fun e w' => e = .returned (.bool x) ∧ Below w.heap.size w w' := by
  refine (equal_calls A B c d xs ys w hx hy (by omega) (by omega)).mono ?_
  rintro e w' ⟨rfl, hd⟩
  exact ⟨ret_bool hX.out, hd.below⟩
end Go.Proofs.Ytkokfinmolkehaa
