import Derived.Test.YtjdnajmljafkpaaBase
namespace Go.Proofs.Ytjdnajmljafkpaa
open Go.RowKit
set_option linter.unusedVariables false
set_option linter.unusedSimpArgs false

/-- The length of the longest common beginning. -/
def lcp : List Int → List Int → Nat
  | a :: as, b :: bs => if a = b then lcp as bs + 1 else 0
  | _, _ => 0
theorem lcp_le (xs ys : List Int) : lcp xs ys ≤ xs.length ∧ lcp xs ys ≤ ys.length := by
  induction xs generalizing ys with
  | nil => simp [lcp]
  | cons a as ih =>
    cases ys with
    | nil => simp [lcp]
    | cons b bs =>
      have := ih bs
      simp only [lcp]
      split <;> simp <;> omega
theorem lcp_take (xs ys : List Int) : xs.take (lcp xs ys) = ys.take (lcp xs ys) := by
  induction xs generalizing ys with
  | nil => simp [lcp]
  | cons a as ih =>
    cases ys with
    | nil => simp [lcp]
    | cons b bs =>
      simp only [lcp]
      split
      · rename_i h; simp [h, ih bs]
      · simp
theorem lcp_self (xs : List Int) : lcp xs xs = xs.length := by
  induction xs with
  | nil => rfl
  | cons a as ih => simp [lcp, ih]
/-- Behind the common beginning the elements differ. -/
theorem lcp_ne {xs ys : List Int} (hx : lcp xs ys < xs.length) (hy : lcp xs ys < ys.length) : el xs (lcp xs ys) ≠ el ys (lcp xs ys) := by
  induction xs generalizing ys with
  | nil => simp at hx
  | cons a as ih =>
    cases ys with
    | nil => simp at hy
    | cons b bs =>
      simp only [lcp] at hx hy ⊢
      split
      · rename_i h
        rw [if_pos h] at hx hy
        simp only [List.length_cons] at hx hy
        have := ih (ys := bs) (by omega) (by omega)
        simpa [el] using this
      · rename_i h
        simpa [el] using h
theorem lcp_step {xs ys : List Int} {k : Nat} (hx : k < xs.length) (hy : k < ys.length) (h : el xs k = el ys k) : lcp (xs.drop k) (ys.drop k) = lcp (xs.drop (k + 1)) (ys.drop (k + 1)) + 1 := by
  rw [drop_el hx, drop_el hy]; simp [lcp, h]
theorem lcp_stop {xs ys : List Int} {k : Nat} (h : k < xs.length → k < ys.length → el xs k ≠ el ys k) : lcp (xs.drop k) (ys.drop k) = 0 := by
  by_cases hx : k < xs.length
  · by_cases hy : k < ys.length
    · rw [drop_el hx, drop_el hy]; simp [lcp, h hx hy]
    · rw [List.drop_eq_nil_of_le (by omega : ys.length ≤ k), drop_el hx]; rfl
  · rw [List.drop_eq_nil_of_le (by omega : xs.length ≤ k)]; rfl
theorem el_reverse {xs : List Int} {j : Nat} (h : j < xs.length) : el xs.reverse j = el xs (xs.length - 1 - j) := by
  rw [el_lt (by simpa using h), el_lt (by omega)]; simp

/-- Where two texts differ first; and, of the rest, the length of the longest common end. -/
def dAt (a b : List Int) : Nat := lcp a b
def dEnd (a b : List Int) : Nat := lcp (a.drop (dAt a b)).reverse (b.drop (dAt a b)).reverse
theorem dAt_le (a b : List Int) : dAt a b ≤ a.length ∧ dAt a b ≤ b.length := lcp_le a b
theorem dEnd_le (a b : List Int) : dEnd a b + dAt a b ≤ a.length ∧ dEnd a b + dAt a b ≤ b.length := by
  have h1 := lcp_le (a.drop (dAt a b)).reverse (b.drop (dAt a b)).reverse
  have h2 := dAt_le a b
  simp only [List.length_reverse, List.length_drop] at h1
  unfold dEnd
  omega
/-- What Diff puts in. -/
def dIns (a b : List Int) : List Int := (b.drop (dAt a b)).take (b.length - dAt a b - dEnd a b)
theorem dIns_length (a b : List Int) : (dIns a b).length + dEnd a b + dAt a b = b.length := by
  have := dEnd_le a b
  simp [dIns]; omega
end Go.Proofs.Ytjdnajmljafkpaa
