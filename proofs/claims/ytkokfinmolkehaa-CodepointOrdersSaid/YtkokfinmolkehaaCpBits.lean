import Derived.Test.YtkokfinmolkehaaCpNum
import Derived.Laws.BitsLemmas
namespace Go.Proofs.Ytkokfinmolkehaa
open Go.RowKit
set_option linter.unusedVariables false
set_option linter.unusedSimpArgs false

theorem vld_of {c : Int} (h : vld c = true) : 0 ≤ c ∧ c ≤ 1114111 := by simpa [vld] using h
def pln (c : Int) : Int := if vld c then c / 65536 else -1
theorem pln_calls (c : Int) (w : World) : Calls Try.prog 26 #[.int .i64 c] w fun e w' => e = .returned (.int .i64 (pln c)) ∧ w' = w := by
  go_enter Try.func26, Try.ntmps26
  cases h1 : vld c
  · go_wp2_with (go_at_call 12; refine (vld_calls _ _).mono ?_; rw [h1]; rintro e w' ⟨rfl, rfl⟩)
    go_ret
    exact ⟨ret_int (by simp [pln, h1]), rfl⟩
  · go_wp2_with (go_at_call 12; refine (vld_calls _ _).mono ?_; rw [h1]; rintro e w' ⟨rfl, rfl⟩)
    go_ret
    exact ⟨ret_int (by simp [pln, h1]), rfl⟩
theorem plnR_calls (c : Int) (w : World) : Calls Try.prog 27 #[.int .i64 c] w fun e w' => e = .returned (.int .i64 (pln c)) ∧ w' = w := by
  go_enter Try.func27, Try.ntmps27
  cases h1 : vld c
  · go_wp2_with (go_at_call 19; refine (vldR_calls _ _).mono ?_; rw [h1]; rintro e w' ⟨rfl, rfl⟩)
    go_ret
    exact ⟨ret_int (by simp [pln, h1]), rfl⟩
  · go_wp2_with (go_at_call 19; refine (vldR_calls _ _).mono ?_; rw [h1]; rintro e w' ⟨rfl, rfl⟩)
    go_ret
    have h2 := vld_of h1
    exact ⟨ret_int (by rw [Int.tdiv_eq_ediv_of_nonneg h2.1]; simp only [pln, h1, if_true]; unfold wrap64; omega), rfl⟩

/-- The numbers that are no characters. -/
def ncb (c : Int) : Bool := vld c && (decide (64976 ≤ c) && decide (c ≤ 65007) || decide (65534 ≤ c % 65536))
theorem and_65534 (n : Nat) : n &&& 65534 = 2 * (n / 2 % 32768) := by
  have h1 : (n &&& 65534) / 2 = n / 2 % 32768 := by
    rw [Nat.and_div_two]; exact Nat.and_two_pow_sub_one_eq_mod (n / 2) 15
  have h2 : (n &&& 65534) % 2 = 0 := by
    have := Nat.and_mod_two_pow (a := n) (b := 65534) (n := 1)
    simpa using this
  omega
theorem bits_65534 {c : Int} (h0 : 0 ≤ c) (h1 : c ≤ 1114111) : (bits .and .i64 c 65534 == 65534) = decide (65534 ≤ c % 65536) := by
  obtain ⟨n, rfl⟩ := Int.eq_ofNat_of_zero_le h0
  have hk : ∀ n : Int, 0 ≤ n → n < 2 ^ 63 → IntKind.i64.wrap n = n := fun n h0 h1 => by rw [IntKind.wrap_i64]; omega
  have hB := (bits_nat .i64 63 (by decide) hk n 65534 (by omega) (by decide)).1
  have hC : bits .and .i64 (n : Int) 65534 = ((2 * (n / 2 % 32768) : Nat) : Int) := by rw [← and_65534]; exact hB
  rw [hC, Bool.eq_iff_iff]
  simp only [beq_iff_eq, decide_eq_true_eq]
  omega
theorem ncR_calls (c : Int) (w : World) : Calls Try.prog 25 #[.int .i64 c] w fun e w' => e = .returned (.bool (ncb c)) ∧ w' = w := by
  go_enter Try.func25, Try.ntmps25
  cases h1 : vld c
  · go_wp2_with (go_at_call 19; refine (vldR_calls _ _).mono ?_; rw [h1]; rintro e w' ⟨rfl, rfl⟩)
    go_ret
    exact ⟨ret_bool (by simp [ncb, h1]), rfl⟩
  · have hv := vld_of h1
    have ht : c.tmod 65536 = c % 65536 := Int.tmod_eq_emod_of_nonneg hv.1
    by_cases h2 : 64976 ≤ c <;> by_cases h3 : c ≤ 65007 <;>
    · go_wp2_with (go_at_call 19; refine (vldR_calls _ _).mono ?_; rw [h1]; rintro e w' ⟨rfl, rfl⟩)
      all_goals (go_ret; exact ⟨ret_bool (by simp [ncb, h1, h2, h3, ht] <;> omega), rfl⟩)
theorem nc_calls (c : Int) (w : World) : Calls Try.prog 24 #[.int .i64 c] w fun e w' => e = .returned (.bool (ncb c)) ∧ w' = w := by
  go_enter Try.func24, Try.ntmps24
  cases h1 : vld c
  · go_wp2_with (go_at_call 12; refine (vld_calls _ _).mono ?_; rw [h1]; rintro e w' ⟨rfl, rfl⟩)
    go_ret
    exact ⟨ret_bool (by simp [ncb, h1]), rfl⟩
  · have hv := vld_of h1
    have hb := Lib.hid (bits_65534 hv.1 hv.2)
    by_cases h2 : 64976 ≤ c <;> by_cases h3 : c ≤ 65007 <;>
    · go_wp2_with (go_at_call 12; refine (vld_calls _ _).mono ?_; rw [h1]; rintro e w' ⟨rfl, rfl⟩)
      all_goals (go_ret; exact ⟨ret_bool (by (try rw [hb.out]); simp [ncb, h1, h2, h3] <;> omega), rfl⟩)

/-- Whether two texts are the same. -/
theorem equal_calls (A B : Option Addr) (c d : Nat) (xs ys : List Int) (w : World) (hx : Rd w A xs) (hy : Rd w B ys)
    (hn : xs.length ≤ 4611686018427387904) (hm : ys.length ≤ 4611686018427387904) :
    Calls Try.prog 18 #[.slice A xs.length c, .slice B ys.length d] w fun e w' => e = .returned (.bool (decide (xs = ys))) ∧ Drawn w w' := by
  by_cases h1 : xs.length = ys.length
  · have h2 := cmp_zero xs ys
    have h3 : ((xs.length : Int) == (ys.length : Int)) = true := by simp [h1]
    by_cases h4 : xs = ys
    · have h5 := Lib.hid (h2.mpr h4)
      have h6 := Lib.hid h4
      clear h4 h2 h1
      go_enter Try.func18, Try.ntmps18
      go_wp2_with (go_at_call 16; refine (compare_calls _ _ _ _ _ _ _ hx hy hn hm).mono ?_; rw [h5.out]; rintro e w' ⟨rfl, hd⟩)
      go_ret
      exact ⟨ret_bool (by rw [decide_eq_true h6.out]), hd⟩
    · have h5 : (cmp xs ys == 0) = false := by simp only [beq_eq_false_iff_ne, ne_eq]; exact fun h => h4 (h2.mp h)
      have h6 := Lib.hid h4
      clear h4 h2 h1
      go_enter Try.func18, Try.ntmps18
      go_wp2_with (go_at_call 16; refine (compare_calls _ _ _ _ _ _ _ hx hy hn hm).mono ?_; rintro e w' ⟨rfl, hd⟩)
      go_ret
      exact ⟨ret_bool (by rw [decide_eq_false h6.out]; try exact h5), hd⟩
  · have h3 : ((xs.length : Int) == (ys.length : Int)) = false := by simp; omega
    have h6 : ¬ xs = ys := fun h => h1 (by rw [h])
    have h7 := Lib.hid h6
    clear h6
    go_enter Try.func18, Try.ntmps18
    go_wp2
    go_ret
    exact ⟨ret_bool (by rw [decide_eq_false h7.out]), Drawn.refl _⟩
end Go.Proofs.Ytkokfinmolkehaa
