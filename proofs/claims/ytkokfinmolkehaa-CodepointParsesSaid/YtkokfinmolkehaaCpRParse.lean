import Derived.Test.YtkokfinmolkehaaCpRHex
namespace Go.Proofs.Ytkokfinmolkehaa
open Go.RowKit
set_option linter.unusedVariables false
set_option linter.unusedSimpArgs false

theorem hv_hit (k b : Nat) (hk : k < 16) (h : dg k = (b : Int)) : hval b = k := by
  unfold dg at h
  unfold hval
  split at h <;> (repeat' split) <;> omega
theorem hv_miss (b : Nat) (h : ∀ j, j < 16 → dg j ≠ (b : Int)) : hval b = -1 := by
  unfold hval
  split
  · exfalso
    have := h (b - 48) (by omega)
    unfold dg at this
    rw [if_pos (by omega)] at this
    omega
  · split
    · exfalso
      have := h (b - 55) (by omega)
      unfold dg at this
      rw [if_neg (by omega)] at this
      omega
    · rfl
theorem rindex (k : Nat) (h : k < 16) (w : World) : (Instr.index 9 (.string ⟨#[48, 49, 50, 51, 52, 53, 54, 55, 56, 57, 65, 66, 67, 68, 69, 70]⟩) (.int .i64 (k : Int))).run Try.prog w =
    .ok (.int .u8 (dg k)) w := by
  have hs : hexDigits.size = 16 := by rfl
  refine (run_index_string w 9 hexDigits .i64 (k : Int) (by rfl)).trans ?_
  rw [dif_pos ⟨by omega, by rw [hs]; omega⟩]
  congr 2
  rcases (show k = 0 ∨ k = 1 ∨ k = 2 ∨ k = 3 ∨ k = 4 ∨ k = 5 ∨ k = 6 ∨ k = 7 ∨ k = 8 ∨ k = 9 ∨ k = 10 ∨ k = 11 ∨ k = 12 ∨ k = 13 ∨ k = 14 ∨ k = 15 by omega) with
    rfl | rfl | rfl | rfl | rfl | rfl | rfl | rfl | rfl | rfl | rfl | rfl | rfl | rfl | rfl | rfl <;> rfl
theorem digit_calls (b : Nat) (hb : b < 256) (w : World) : Calls Try.prog 28 #[.int .u8 (b : Int)] w fun e w' => e = .returned (.int .i64 (hval b)) ∧ w' = w := by
  go_enter Try.func28, Try.ntmps28
  go_wp2
  go_loopw [3] (fun i wr => ∃ k : Nat, k ≤ 16 ∧ i = .int .i64 (k : Int) ∧ wr = w ∧ Hid (∀ j, j < k → dg j ≠ (b : Int)))
    (fun i _ => 16 - (intOf i).toNat)
  case atStart => exact ⟨0, by omega, rfl, rfl, fun j hj => absurd hj (by omega)⟩
  case round =>
    obtain ⟨k, hk, rfl, rfl, HM⟩ := hrel
    by_cases h1 : k < 16
    · have hix := rindex k h1
      by_cases h2 : dg k = (b : Int)
      · have HH := Lib.hid (hv_hit k b h1 h2)
        rw [h2] at hix
        clear h2
        go_wp2
        go_ret
        exact ⟨ret_int HH.out.symm, rfl⟩
      · have HS := Lib.hid (show ∀ j, j < k + 1 → dg j ≠ (b : Int) from fun j hj => by
          rcases Nat.lt_succ_iff_lt_or_eq.mp hj with h | rfl
          · exact HM.out j h
          · exact h2)
        obtain ⟨v, hv⟩ : ∃ v, v = dg k := ⟨_, rfl⟩
        rw [← hv] at hix h2
        have h3 : (v == (b : Int)) = false := by simp [h2]
        clear hv h2
        go_wp2
        go_roundw
        case rel => exact ⟨k + 1, by omega, by go_num, trivial, HS⟩
        case measure => simp [intOf]; omega
    · have hke : k = 16 := by omega
      subst hke
      have HH := Lib.hid (hv_miss b HM.out)
      go_wp2
      go_ret
      exact ⟨ret_int HH.out.symm, rfl⟩
theorem hexLen_ge (n : Nat) : 4 ≤ hexLen n ∧ hexLen n ≤ 6 := by unfold hexLen; (repeat' split) <;> omega
theorem hexOf_size (c : Int) : (hexOf c).size = 0 ∨ 4 ≤ (hexOf c).size := by
  unfold hexOf
  split
  · right; unfold hexS; rw [strOf_size, hexI_length]; exact (hexLen_ge _).1
  · left; rfl
theorem names_size {s : ByteArray} (h : Names s) : 4 ≤ s.size := by
  have := hexOf_size (accs s s.size)
  rw [h.2.2.2] at this
  have := h.2.1
  omega
theorem rparse_calls (s : ByteArray) (w : World) : Calls Try.prog 15 #[.string s] w fun e w' =>
    e = .returned (.tuple #[.int .i64 (parsed s).1, .int .i64 (parsed s).2]) ∧ w' = w := by
  by_cases h4 : 4 ≤ s.size
  · by_cases h6 : s.size ≤ 6
    · go_enter Try.func15, Try.ntmps15
      go_wp2
      go_loopw [4, 5] (fun n t wr => ∃ k : Nat, k ≤ s.size ∧ n = .int .i64 (accs s k) ∧ t = .int .i64 (k : Int) ∧ wr = w ∧ Hid (Hexy s k))
        (fun _ t _ => s.size - (intOf t).toNat)
      case atStart => exact ⟨0, by omega, rfl, rfl, rfl, fun j hj => absurd hj (by omega)⟩
      case round =>
        obtain ⟨k, hk, rfl, rfl, rfl, HX⟩ := hrel
        obtain ⟨ha0, ha1⟩ := acc_small HX.out (Nat.le_trans hk h6)
        by_cases hk2 : k < s.size
        · have hbt := bt_at s k hk2
          have HA := Lib.hid (show accs s (k + 1) = 16 * accs s k + hval (bt s k) from rfl)
          have HXs := Lib.hid (fun h => HX.out.succ (k := k) h)
          have hb256 := bt_lt s k
          have hlt := hval_lt (bt s k)
          have HN := Lib.hid (show ¬ 0 ≤ hval (bt s k) → parsed s = (0, 3) from fun h => if_neg fun hN => h (hN.2.2.1 k hk2))
          obtain ⟨a, hae⟩ : ∃ a, a = accs s k := ⟨_, rfl⟩
          rw [← hae] at HA ha0 ha1 ⊢
          clear hae
          obtain ⟨b, hbe⟩ : ∃ b, b = bt s k := ⟨_, rfl⟩
          rw [← hbe] at HA HXs hbt hb256 HN hlt
          clear hbe
          have hd := fun W => digit_calls b hb256 W
          obtain ⟨v, hv⟩ : ∃ v, v = hval b := ⟨_, rfl⟩
          rw [← hv] at HA HXs HN hlt
          simp only [← hv] at hd
          clear hv
          by_cases h1 : 0 ≤ v
          · have HXs := HXs.out h1
            have HXs := Lib.hid HXs
            clear HN
            go_wp2_with (go_at_call 28; refine (hd _).mono ?_; rintro e w' ⟨rfl, rfl⟩)
            go_roundw
            case rel => exact ⟨k + 1, by omega, by rw [HA.out] <;> go_num, by go_num, by trivial, HXs⟩
            case measure => simp [intOf] <;> omega
          · have HP := Lib.hid (HN.out h1)
            have h1' : v < 0 := by omega
            clear HA HXs HN h1
            go_wp2_with (go_at_call 28; refine (hd _).mono ?_; rintro e w' ⟨rfl, rfl⟩)
            exact bodyPost_ret (v := .tuple #[.int .i64 0, .int .i64 3]) ((results_tmp2 rfl _ _ _).trans rfl) rfl ⟨by rw [(‹Hid (parsed s = (0, 3))›).out], rfl⟩
        · have hke : k = s.size := by omega
          subst hke
          have HN := Lib.hid (show parsed s = if hexOf (accs s s.size) = s then (accs s s.size, 0) else (0, 3) by
            unfold parsed Names
            by_cases h1 : hexOf (accs s s.size) = s
            · rw [if_pos ⟨h6, by omega, HX.out, h1⟩, if_pos h1]
            · rw [if_neg (fun h => h1 h.2.2.2), if_neg h1])
          obtain ⟨a, hae⟩ : ∃ a, a = accs s s.size := ⟨_, rfl⟩
          rw [← hae] at HN ha0 ha1 ⊢
          clear hae
          by_cases h1 : hexOf a = s
          · have HP := Lib.hid (HN.out.trans (if_pos h1))
            have h2 : ((hexOf a).toList == s.toList) = true := by rw [bytes_eq, decide_eq_true h1]
            clear HN h1
            go_wp2_with (go_at_call 14; refine (rhex_calls _ _).mono ?_; rintro e w' ⟨rfl, rfl⟩)
            exact bodyPost_ret (v := .tuple #[.int .i64 a, .int .i64 0]) ((results_tmp2 rfl _ _ _).trans rfl) rfl ⟨by rw [(‹Hid (parsed s = (a, 0))›).out], rfl⟩
          · have HP := Lib.hid (HN.out.trans (if_neg h1))
            have h2 : ((hexOf a).toList == s.toList) = false := by rw [bytes_eq, decide_eq_false h1]
            clear HN h1
            go_wp2_with (go_at_call 14; refine (rhex_calls _ _).mono ?_; rintro e w' ⟨rfl, rfl⟩)
            exact bodyPost_ret (v := .tuple #[.int .i64 0, .int .i64 3]) ((results_tmp2 rfl _ _ _).trans rfl) rfl ⟨by rw [(‹Hid (parsed s = (0, 3))›).out], rfl⟩
    · have HE := Lib.hid (show parsed s = (0, 3) from if_neg fun h => h6 h.1)
      go_enter Try.func15, Try.ntmps15
      go_wp2
      exact bodyPost_ret (v := .tuple #[.int .i64 0, .int .i64 3]) ((results_tmp2 rfl _ _ _).trans rfl) rfl ⟨by rw [HE.out], rfl⟩
  · have HE := Lib.hid (show parsed s = (0, 3) from if_neg fun h => h4 (names_size h))
    go_enter Try.func15, Try.ntmps15
    go_wp2
    exact bodyPost_ret (v := .tuple #[.int .i64 0, .int .i64 3]) ((results_tmp2 rfl _ _ _).trans rfl) rfl ⟨by rw [HE.out], rfl⟩
end Go.Proofs.Ytkokfinmolkehaa
