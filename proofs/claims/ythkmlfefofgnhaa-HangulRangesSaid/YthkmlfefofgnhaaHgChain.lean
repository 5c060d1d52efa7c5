import Derived.Test.YthkmlfefofgnhaaHgLaw
namespace Go.Proofs.Ythkmlfefofgnhaa
open Go.RowKit
set_option linter.unusedVariables false
set_option linter.unusedSimpArgs false

/-- Where the range before the j-th ends. -/
def at_ (ps : List (Nat × Nat)) (j : Nat) : Nat := if j = 0 then 0 else (ps.getD (j - 1) (0, 0)).2
theorem getD_left {ps : List (Nat × Nat)} {q : Nat × Nat} {j : Nat} (h : j < ps.length) : (ps ++ [q]).getD j (0, 0) = ps.getD j (0, 0) := by
  simp [List.getD_eq_getElem?_getD, List.getElem?_append_left h]
theorem getD_last {ps : List (Nat × Nat)} {q : Nat × Nat} : (ps ++ [q]).getD ps.length (0, 0) = q := by simp
theorem at_left {ps : List (Nat × Nat)} {q : Nat × Nat} {j : Nat} (h : j ≤ ps.length) : at_ (ps ++ [q]) j = at_ ps j := by
  unfold at_
  by_cases h0 : j = 0
  · rw [if_pos h0, if_pos h0]
  · rw [if_neg h0, if_neg h0, getD_left (by omega)]
theorem at_last {ps : List (Nat × Nat)} {q : Nat × Nat} : at_ (ps ++ [q]) (ps.length + 1) = q.2 := by
  unfold at_; rw [if_neg (by omega), Nat.add_sub_cancel, getD_last]
theorem runs_facts (xs : List Int) (i : Nat) (hi : i ≤ xs.length) :
    (∀ j, j < (runs xs i).1.length → at_ (runs xs i).1 j ≤ ((runs xs i).1.getD j (0, 0)).1 ∧ ((runs xs i).1.getD j (0, 0)).1 + plen (xs.drop ((runs xs i).1.getD j (0, 0)).1) = ((runs xs i).1.getD j (0, 0)).2 ∧
      0 < plen (xs.drop ((runs xs i).1.getD j (0, 0)).1) ∧ ∀ k, at_ (runs xs i).1 j ≤ k → k < ((runs xs i).1.getD j (0, 0)).1 → plen (xs.drop k) = 0) ∧
    (runs xs i).2 = at_ (runs xs i).1 (runs xs i).1.length ∧ ∀ k, (runs xs i).2 ≤ k → k < i → plen (xs.drop k) = 0 := by
  induction i with
  | zero => exact ⟨fun j hj => absurd hj (Nat.not_lt_zero _), rfl, fun k _ hk => absurd hk (Nat.not_lt_zero _)⟩
  | succ i ih =>
    obtain ⟨ih1, ih2, ih3⟩ := ih (by omega)
    by_cases h1 : i < (runs xs i).2
    · rw [runs_in h1]
      exact ⟨ih1, ih2, fun k hk hk2 => by omega⟩
    · by_cases h2 : 0 < plen (xs.drop i)
      · rw [runs_new h1 h2]
        obtain ⟨ps, hps⟩ : ∃ ps, ps = (runs xs i).1 := ⟨_, rfl⟩
        rw [← hps] at ih1 ih2 ⊢
        refine ⟨fun j hj => ?_, ?_, fun k hk hk2 => ?_⟩
        · have hj : j < (ps ++ [(i, i + plen (xs.drop i))]).length := hj
          rw [List.length_append] at hj
          have hj2 : j < ps.length + 1 := hj
          show at_ (ps ++ [(i, i + plen (xs.drop i))]) j ≤ ((ps ++ [(i, i + plen (xs.drop i))]).getD j (0, 0)).1 ∧ _
          by_cases h3 : j < ps.length
          · rw [at_left (by omega), getD_left h3]
            exact ih1 j h3
          · obtain rfl : j = ps.length := by omega
            rw [at_left (Nat.le_refl _), getD_last]
            exact ⟨by show at_ ps ps.length ≤ i; omega, rfl, h2, fun k hk hk2 => ih3 k (by omega) hk2⟩
        · show i + plen (xs.drop i) = at_ (ps ++ [(i, i + plen (xs.drop i))]) (ps ++ [(i, i + plen (xs.drop i))]).length
          rw [List.length_append]
          exact (at_last (q := (i, i + plen (xs.drop i)))).symm
        · have hk : i + plen (xs.drop i) ≤ k := hk
          omega
      · rw [runs_out h1 h2]
        refine ⟨ih1, ih2, fun k hk hk2 => ?_⟩
        by_cases h3 : k = i
        · subst h3; omega
        · exact ih3 k hk (by omega)
theorem kind_small {xs : List Int} {k : Nat} (h : plen (xs.drop k) = 0) : kind (el xs k) < 4 := by
  have hr := kind_range (el xs k)
  unfold plen at h
  rw [el_drop] at h
  rw [Nat.add_zero] at h
  by_cases h4 : kind (el xs k) = 4
  · rw [if_neg (by omega), if_pos h4] at h
    split at h <;> omega
  · by_cases h5 : kind (el xs k) = 5
    · rw [if_neg (by omega), if_neg h4, if_pos h5] at h; omega
    · omega
/-- The syllable of the first i + 1 elements from lo on. -/
def sy (xs : List Int) (lo : Nat) : Nat → Int
  | 0 => el xs lo
  | i + 1 => compI (sy xs lo i) (el xs (lo + 1 + i))
/-- What composes from place lo on. -/
theorem sy_facts (xs : List Int) (lo : Nat) (hp : 0 < plen (xs.drop lo)) :
    (∀ i, i + 1 < plen (xs.drop lo) → compB (sy xs lo i) (el xs (lo + 1 + i)) = true) ∧ 4 ≤ kind (sy xs lo (plen (xs.drop lo) - 1)) ∧
    compB (sy xs lo (plen (xs.drop lo) - 1)) (el xs (lo + plen (xs.drop lo))) = false := by
  have nob : ∀ {a b : Int}, kind a = 5 → compB a b = false := fun {a b} h => by
    unfold compB; rw [decide_eq_false (by omega), decide_eq_false (by omega)]; rfl
  have nob4 : ∀ {a b : Int}, kind a = 4 → kind b ≠ 3 → compB a b = false := fun {a b} h h2 => by
    unfold compB; rw [decide_eq_false (by omega), decide_eq_false (by omega)]; rfl
  have hlv : ∀ {a b : Int}, kind a = 1 → kind b = 2 → kind (compI a b) = 4 := fun {a b} h1 h2 => by
    have g1 := kind_1 h1
    have g2 := kind_2 h2
    rw [(comp_12 h1 h2).1]; exact kind_of_4 (by omega) (by omega) (by omega)
  have hlt : ∀ {a b : Int}, kind a = 4 → kind b = 3 → kind (compI a b) = 5 := fun {a b} h1 h2 => by
    have g1 := kind_4 h1
    have g2 := kind_3 h2
    rw [(comp_43 h1 h2).1]; exact kind_of_5 (by omega) (by omega) (by omega)
  obtain ⟨n, hn⟩ : ∃ n, n = plen (xs.drop lo) := ⟨_, rfl⟩
  rw [← hn] at hp ⊢
  unfold plen at hn
  simp only [el_drop, Nat.add_zero] at hn
  by_cases h1 : kind (el xs lo) = 1 ∧ kind (el xs (lo + 1)) = 2
  · have k4 := hlv h1.1 h1.2
    have b1 := (comp_12 h1.1 h1.2).2
    rw [if_pos h1] at hn
    by_cases h2 : kind (el xs (lo + 2)) = 3
    · rw [if_pos h2] at hn
      subst hn
      refine ⟨fun i hi => ?_, ?_, ?_⟩
      · rcases (show i = 0 ∨ i = 1 by omega) with rfl | rfl
        · exact b1
        · exact (comp_43 k4 h2).2
      · show 4 ≤ kind (compI (compI (el xs lo) (el xs (lo + 1))) (el xs (lo + 2)))
        rw [hlt k4 h2]; omega
      · exact nob (hlt k4 h2)
    · rw [if_neg h2] at hn
      subst hn
      refine ⟨fun i hi => ?_, ?_, ?_⟩
      · obtain rfl : i = 0 := by omega
        exact b1
      · show 4 ≤ kind (compI (el xs lo) (el xs (lo + 1)))
        rw [k4]; omega
      · exact nob4 k4 h2
  · rw [if_neg h1] at hn
    by_cases h2 : kind (el xs lo) = 4
    · rw [if_pos h2] at hn
      by_cases h3 : kind (el xs (lo + 1)) = 3
      · rw [if_pos h3] at hn
        subst hn
        refine ⟨fun i hi => ?_, ?_, ?_⟩
        · obtain rfl : i = 0 := by omega
          exact (comp_43 h2 h3).2
        · show 4 ≤ kind (compI (el xs lo) (el xs (lo + 1)))
          rw [hlt h2 h3]; omega
        · exact nob (hlt h2 h3)
      · rw [if_neg h3] at hn
        subst hn
        exact ⟨fun i hi => by omega, by show 4 ≤ kind (el xs lo); omega, nob4 h2 h3⟩
    · rw [if_neg h2] at hn
      by_cases h3 : kind (el xs lo) = 5
      · rw [if_pos h3] at hn
        subst hn
        exact ⟨fun i hi => by omega, by show 4 ≤ kind (el xs lo); omega, nob h3⟩
      · rw [if_neg h3] at hn; omega
theorem sy_small {xs : List Int} (hs : Small xs) {lo : Nat} (h : ∀ i, i + 1 < plen (xs.drop lo) → compB (sy xs lo i) (el xs (lo + 1 + i)) = true) (i : Nat) (hi : i < plen (xs.drop lo)) :
    -9223372036854775808 ≤ sy xs lo i ∧ sy xs lo i ≤ 9223372036854775807 := by
  cases i with
  | zero => exact hs lo
  | succ i => exact (comp_bounds (h i (by omega))).1
end Go.Proofs.Ythkmlfefofgnhaa
