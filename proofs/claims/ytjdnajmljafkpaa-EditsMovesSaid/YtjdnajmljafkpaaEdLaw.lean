import Derived.Test.YtjdnajmljafkpaaEdC
import Derived.Test.YtjdnajmljafkpaaLcp
namespace Go.Proofs.Ytjdnajmljafkpaa
open Go.RowKit
set_option linter.unusedVariables false
set_option linter.unusedSimpArgs false

theorem el_repl {xs ys : List Int} {a d : Nat} (h : a + d ≤ xs.length) (j : Nat) :
    el (repl xs a d ys) j = if j < a then el xs j else if j < a + ys.length then el ys (j - a) else el xs (j + d - ys.length) := by
  unfold repl
  have hta : (xs.take a).length = a := by rw [List.length_take]; omega
  by_cases h1 : j < a
  · rw [if_pos h1, List.append_assoc, el_append_left (by omega), el_take h1]
  · rw [if_neg h1]
    by_cases h2 : j < a + ys.length
    · rw [if_pos h2, List.append_assoc, el_append_right (by omega), el_append_left (by omega), hta]
    · rw [if_neg h2, el_append_right (by rw [List.length_append]; omega), el_drop, List.length_append, hta]
      congr 1
      omega
theorem repl_back {xs ys : List Int} {a d : Nat} (h : a + d ≤ xs.length) : repl (repl xs a d ys) a ys.length ((xs.take (a + d)).drop a) = xs := by
  have hl := length_repl (ys := ys) h
  have hm : ((xs.take (a + d)).drop a).length = d := by simp; omega
  have h2 : a + ys.length ≤ (repl xs a d ys).length := by omega
  have hl2 := length_repl (ys := (xs.take (a + d)).drop a) h2
  refine ext_el (by omega) fun j hj => ?_
  rw [el_repl h2, hm]
  by_cases h3 : j < a
  · rw [if_pos h3, el_repl h, if_pos h3]
  · rw [if_neg h3]
    by_cases h4 : j < a + d
    · rw [if_pos h4, el_drop, el_take (by omega)]; congr 1; omega
    · rw [if_neg h4, el_repl h, if_neg (by omega), if_neg (by omega)]; congr 1; omega
theorem cut_repl {xs ys : List Int} {a d : Nat} (h : a + d ≤ xs.length) : ((repl xs a d ys).take (a + ys.length)).drop a = ys := by
  have hl := length_repl (ys := ys) h
  refine ext_el (by simp; omega) fun j hj => ?_
  have hj' : j < ys.length := by simp at hj; omega
  rw [el_drop, el_take (by omega), el_repl h, if_neg (by omega), if_pos (by omega)]
  congr 1
  omega
theorem repl_repl {xs ys zs : List Int} {a d k e : Nat} (h : a + d ≤ xs.length) (hk : k + e ≤ ys.length) :
    repl (repl xs a d ys) (a + k) e zs = repl xs a d (repl ys k e zs) := by
  have hl := length_repl (ys := ys) h
  have hl2 := length_repl (ys := zs) hk
  have hl3 := length_repl (ys := repl ys k e zs) h
  have h4 : a + k + e ≤ (repl xs a d ys).length := by omega
  have hl4 := length_repl (ys := zs) h4
  refine ext_el (by omega) fun j hj => ?_
  rw [el_repl h4, el_repl (ys := repl ys k e zs) h]
  by_cases h1 : j < a
  · rw [if_pos (by omega), if_pos h1, el_repl h, if_pos h1]
  · rw [if_neg h1]
    by_cases h2 : j < a + k
    · rw [if_pos h2, if_pos (by omega), el_repl h, if_neg h1, if_pos (by omega), el_repl hk, if_pos (by omega)]
    · rw [if_neg h2]
      by_cases h3 : j < a + k + zs.length
      · rw [if_pos h3, if_pos (by omega), el_repl hk, if_neg (by omega), if_pos (by omega)]; congr 1; omega
      · rw [if_neg h3, el_repl h, if_neg (by omega)]
        by_cases h5 : j < a + (repl ys k e zs).length
        · rw [if_pos (by omega), if_pos h5, el_repl hk, if_neg (by omega), if_neg (by omega)]; congr 1; omega
        · rw [if_neg (by omega), if_neg h5]; congr 1; omega

/-! ### Diff -/
theorem el_dIns {xs ys : List Int} {j : Nat} (hj : j < (dIns xs ys).length) : el (dIns xs ys) j = el ys (dAt xs ys + j) := by
  have := dIns_length xs ys
  unfold dIns
  rw [el_take (by omega), el_drop]
theorem el_common {xs ys : List Int} {j : Nat} (hj : j < dAt xs ys) : el xs j = el ys j := by
  have h := lcp_take xs ys
  rw [← el_take (xs := xs) hj, ← el_take (xs := ys) hj]
  unfold dAt
  rw [h]
theorem el_common_end {xs ys : List Int} {j : Nat} (hj : j < dEnd xs ys) : el xs (xs.length - 1 - j) = el ys (ys.length - 1 - j) := by
  have he := dEnd_le xs ys
  have h := lcp_take (xs.drop (dAt xs ys)).reverse (ys.drop (dAt xs ys)).reverse
  have h1 : el (xs.drop (dAt xs ys)).reverse j = el (ys.drop (dAt xs ys)).reverse j := by
    have e1 := el_take (xs := (xs.drop (dAt xs ys)).reverse) (k := dEnd xs ys) hj
    have e2 := el_take (xs := (ys.drop (dAt xs ys)).reverse) (k := dEnd xs ys) hj
    rw [← e1, ← e2]
    unfold dEnd
    rw [h]
  rw [el_reverse (by simp; omega), el_reverse (by simp; omega), el_drop, el_drop] at h1
  simp only [List.length_drop] at h1
  rw [show dAt xs ys + (xs.length - dAt xs ys - 1 - j) = xs.length - 1 - j from by omega, show dAt xs ys + (ys.length - dAt xs ys - 1 - j) = ys.length - 1 - j from by omega] at h1
  exact h1
theorem repl_diff (xs ys : List Int) : repl xs (dAt xs ys) (xs.length - dAt xs ys - dEnd xs ys) (dIns xs ys) = ys := by
  have he := dEnd_le xs ys
  have hi := dIns_length xs ys
  have h : dAt xs ys + (xs.length - dAt xs ys - dEnd xs ys) ≤ xs.length := by omega
  have hl := length_repl (ys := dIns xs ys) h
  refine ext_el (by omega) fun j hj => ?_
  rw [el_repl h]
  by_cases h1 : j < dAt xs ys
  · rw [if_pos h1, el_common h1]
  · rw [if_neg h1]
    by_cases h2 : j < dAt xs ys + (dIns xs ys).length
    · rw [if_pos h2, el_dIns (by omega)]; congr 1; omega
    · rw [if_neg h2]
      have hj' : j < ys.length := by omega
      have hh := el_common_end (xs := xs) (ys := ys) (j := ys.length - 1 - j) (by omega)
      rw [show xs.length - 1 - (ys.length - 1 - j) = j + (xs.length - dAt xs ys - dEnd xs ys) - (dIns xs ys).length from by omega, show ys.length - 1 - (ys.length - 1 - j) = j from by omega] at hh
      exact hh
theorem diff_first {xs ys : List Int} (h1 : dAt xs ys + dEnd xs ys < xs.length) (h2 : 0 < (dIns xs ys).length) : el xs (dAt xs ys) ≠ el (dIns xs ys) 0 := by
  have hi := dIns_length xs ys
  rw [el_dIns h2, Nat.add_zero]
  exact lcp_ne (by show dAt xs ys < _; omega) (by show dAt xs ys < _; omega)
theorem diff_last {xs ys : List Int} (h1 : dAt xs ys + dEnd xs ys < xs.length) (h2 : 0 < (dIns xs ys).length) :
    el xs (xs.length - dEnd xs ys - 1) ≠ el (dIns xs ys) ((dIns xs ys).length - 1) := by
  have hi := dIns_length xs ys
  rw [el_dIns (by omega)]
  have hx : (xs.drop (dAt xs ys)).reverse.length = xs.length - dAt xs ys := by simp
  have hy : (ys.drop (dAt xs ys)).reverse.length = ys.length - dAt xs ys := by simp
  have h := lcp_ne (xs := (xs.drop (dAt xs ys)).reverse) (ys := (ys.drop (dAt xs ys)).reverse) (by show dEnd xs ys < _; omega) (by show dEnd xs ys < _; omega)
  have h3 : el (xs.drop (dAt xs ys)).reverse (dEnd xs ys) ≠ el (ys.drop (dAt xs ys)).reverse (dEnd xs ys) := h
  rw [el_reverse (by simp; omega), el_reverse (by simp; omega), el_drop, el_drop] at h3
  simp only [List.length_drop] at h3
  rw [show dAt xs ys + (xs.length - dAt xs ys - 1 - dEnd xs ys) = xs.length - dEnd xs ys - 1 from by omega, show dAt xs ys + (ys.length - dAt xs ys - 1 - dEnd xs ys) = dAt xs ys + ((dIns xs ys).length - 1) from by omega] at h3
  exact h3
theorem diff_self (xs : List Int) : dAt xs xs = xs.length ∧ dEnd xs xs = 0 ∧ (dIns xs xs).length = 0 := by
  have h1 : dAt xs xs = xs.length := lcp_self xs
  have h2 := dEnd_le xs xs
  have h3 := dIns_length xs xs
  exact ⟨h1, by omega, by omega⟩
end Go.Proofs.Ytjdnajmljafkpaa
