import Derived.Test.YtkokfinmolkehaaCpRParse
namespace Go.Proofs.Ytkokfinmolkehaa
open Go.RowKit
set_option linter.unusedVariables false
set_option linter.unusedSimpArgs false

/-! ### The digits of a number name it (no program in sight) -/
theorem hexI_get (k n j : Nat) (h : j < k) : (hexI k n)[j]? = some (dg (n / 16 ^ (k - 1 - j) % 16)) := by
  induction k generalizing j with
  | zero => omega
  | succ k ih =>
    cases j with
    | zero => simp [hexI]
    | succ j =>
      simp only [hexI, List.getElem?_cons_succ]
      rw [ih j (by omega)]
      congr 5
      omega
theorem bt_strOf {l : List Int} {j : Nat} {v : Int} (h : l[j]? = some v) (h0 : 0 ≤ v) (h1 : v < 256) : (bt (strOf l) j : Int) = v := by
  obtain ⟨hj, hv⟩ := List.getElem?_eq_some_iff.mp h
  have hs : j < (strOf l).size := by rw [strOf_size]; exact hj
  rw [← bt_at _ _ hs]
  have e : (strOf l)[j] = UInt8.ofNat v.toNat := by
    have e2 := strOf_eq l
    simp only [e2]
    show (bytesOf l).toArray[j]'(by simp [bytesOf]; exact hj) = _
    simp [bytesOf, hv]
  rw [e]
  simp
  omega
theorem dg_range (d : Nat) (h : d < 16) : 0 ≤ dg d ∧ dg d < 256 := by unfold dg; split <;> omega
theorem hval_dg (d b : Nat) (h : d < 16) (e : (b : Int) = dg d) : hval b = d := hv_hit d b h e.symm
theorem bt_hex (k n j : Nat) (h : j < k) : hval (bt (strOf (hexI k n)) j) = ((n / 16 ^ (k - 1 - j) % 16 : Nat) : Int) := by
  have hd : n / 16 ^ (k - 1 - j) % 16 < 16 := Nat.mod_lt _ (by omega)
  have hr := dg_range _ hd
  exact hval_dg _ _ hd (bt_strOf (hexI_get k n j h) hr.1 hr.2)
theorem acc_hex (k n : Nat) (hn : n < 16 ^ k) (j : Nat) (h : j ≤ k) : accs (strOf (hexI k n)) j = ((n / 16 ^ (k - j) : Nat) : Int) := by
  induction j with
  | zero => simp [accs, Nat.div_eq_of_lt hn]
  | succ j ih =>
    simp only [accs]
    rw [ih (by omega), bt_hex k n j (by omega)]
    have e1 : k - j = (k - 1 - j) + 1 := by omega
    have e2 : k - (j + 1) = k - 1 - j := by omega
    rw [e1, e2, Nat.pow_succ, ← Nat.div_div_eq_div_mul]
    omega
theorem hexLen_pow (n : Nat) (h : n ≤ 1114111) : n < 16 ^ hexLen n := by
  unfold hexLen
  (repeat' split) <;> omega
theorem names_hex {c : Int} (h : vld c = true) : Names (hexOf c) ∧ accs (hexOf c) (hexOf c).size = c := by
  have hv := vld_of h
  obtain ⟨n, rfl⟩ := Int.eq_ofNat_of_zero_le hv.1
  have e : hexOf (n : Int) = strOf (hexI (hexLen n) n) := by simp [hexOf, h, hexS]
  have hz : (hexOf (n : Int)).size = hexLen n := by rw [e, strOf_size, hexI_length]
  have hl := hexLen_ge n
  have ha : accs (hexOf (n : Int)) (hexOf (n : Int)).size = (n : Int) := by
    rw [hz, e, acc_hex _ _ (hexLen_pow n (by omega)) _ (Nat.le_refl _)]
    simp
  refine ⟨⟨by omega, by omega, fun j hj => ?_, by rw [ha]⟩, ha⟩
  rw [e, bt_hex _ _ _ (by omega)]
  omega
theorem parsed_hex {c : Int} (h : vld c = true) : parsed (hexOf c) = (c, 0) := by
  obtain ⟨h1, h2⟩ := names_hex h
  unfold parsed
  rw [if_pos h1, h2]
theorem parsed_empty : parsed ByteArray.empty = (0, 3) := if_neg fun h => h.2.1 rfl
theorem parsed_or (s : ByteArray) : parsed s = (0, 3) ∨ ∃ a, parsed s = (a, 0) ∧ hexOf a = s := by
  unfold parsed
  by_cases h : Names s
  · rw [if_pos h]; exact .inr ⟨_, rfl, h.2.2.2⟩
  · rw [if_neg h]; exact .inl rfl
end Go.Proofs.Ytkokfinmolkehaa
