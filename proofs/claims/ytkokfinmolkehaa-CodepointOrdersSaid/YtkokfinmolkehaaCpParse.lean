import Derived.Test.YtkokfinmolkehaaCpHex
namespace Go.Proofs.Ytkokfinmolkehaa
open Go.RowKit
set_option linter.unusedVariables false
set_option linter.unusedSimpArgs false

/-- The byte at a place, 0 beyond the end. -/
def bt (s : ByteArray) (k : Nat) : Nat := if h : k < s.size then (s[k]'h).toNat else 0
theorem bt_at (s : ByteArray) (k : Nat) (h : k < s.size) : (s[k]'h).toNat = bt s k := by simp [bt, h]
theorem bt_lt (s : ByteArray) (k : Nat) : bt s k < 256 := by
  unfold bt; split
  · exact UInt8.toNat_lt _
  · omega
/-- The value of a hexadecimal digit's byte, or -1. -/
def hval (b : Nat) : Int := if 48 ≤ b ∧ b ≤ 57 then (b : Int) - 48 else if 65 ≤ b ∧ b ≤ 70 then (b : Int) - 55 else -1
theorem hval_lt (b : Nat) : hval b < 16 := by unfold hval; (repeat' split) <;> omega
def accs (s : ByteArray) : Nat → Int
  | 0 => 0
  | k + 1 => 16 * accs s k + hval (bt s k)
def Hexy (s : ByteArray) (k : Nat) : Prop := ∀ j, j < k → 0 ≤ hval (bt s j)
theorem Hexy.succ {s : ByteArray} {k : Nat} (h : Hexy s k) (h1 : 0 ≤ hval (bt s k)) : Hexy s (k + 1) := fun j hj => by
  rcases Nat.lt_succ_iff_lt_or_eq.mp hj with h2 | rfl
  · exact h j h2
  · exact h1
theorem acc_bound {s : ByteArray} {k : Nat} (h : Hexy s k) : 0 ≤ accs s k ∧ accs s k < 16 ^ k := by
  induction k with
  | zero => exact ⟨Int.le_refl _, show (0:Int) < 16 ^ 0 by decide⟩
  | succ k ih =>
    have h1 := ih fun j hj => h j (by omega)
    have h2 := h k (by omega)
    have h3 := hval_lt (bt s k)
    have h4 : (16 : Int) ^ (k + 1) = 16 * 16 ^ k := by rw [Int.pow_succ]; omega
    rw [h4]
    simp only [accs]
    omega
theorem acc_small {s : ByteArray} {k : Nat} (h : Hexy s k) (hk : k ≤ 6) : 0 ≤ accs s k ∧ accs s k ≤ 16777215 := by
  have h1 := acc_bound h
  have h2 : (16 : Int) ^ k ≤ 16777216 := by
    rcases (show k = 0 ∨ k = 1 ∨ k = 2 ∨ k = 3 ∨ k = 4 ∨ k = 5 ∨ k = 6 by omega) with rfl | rfl | rfl | rfl | rfl | rfl | rfl <;> decide
  omega
/-- The number that a text of digits names. -/
def Names (s : ByteArray) : Prop := s.size ≤ 6 ∧ s.size ≠ 0 ∧ Hexy s s.size ∧ hexOf (accs s s.size) = s
open Classical in
noncomputable def parsed (s : ByteArray) : Int × Int := if Names s then (accs s s.size, 0) else (0, 3)
theorem bytes_ne {s : ByteArray} (h : s.size ≠ 0) : s.toList.isEmpty = false := by
  rw [List.isEmpty_eq_false_iff, ByteArray.toList_eq]
  intro h1
  have h2 : s.data.toList.length = 0 := by rw [h1]; rfl
  rw [Array.length_toList] at h2
  exact h h2
theorem bytes_eq {s t : ByteArray} : (s.toList == t.toList) = decide (s = t) := by
  rw [Bool.eq_iff_iff, beq_iff_eq, decide_eq_true_eq, ByteArray.toList_eq, ByteArray.toList_eq]
  exact ⟨fun h => ByteArray.ext (Array.toList_inj.mp h), fun h => by rw [h]⟩
theorem parse_calls (s : ByteArray) (w : World) : Calls Try.prog 11 #[.string s] w fun e w' =>
    e = .returned (.tuple #[.int .i64 (parsed s).1, .int .i64 (parsed s).2]) ∧ Below w.heap.size w w' := by
  by_cases h6 : s.size ≤ 6
  · go_enter Try.func11, Try.ntmps11
    go_wp2
    go_loopw [4, 12] (fun n t wr => ∃ k : Nat, k ≤ s.size ∧ n = .int .i64 (accs s k) ∧ t = .int .i64 (k : Int) ∧ wr = w ∧ Hid (Hexy s k))
      (fun _ t _ => s.size - (intOf t).toNat)
    case atStart => exact ⟨0, by omega, rfl, rfl, rfl, fun j hj => absurd hj (by omega)⟩
    case round =>
      obtain ⟨k, hk, rfl, rfl, rfl, HX⟩ := hrel
      obtain ⟨ha0, ha1⟩ := acc_small HX.out (Nat.le_trans hk h6)
      by_cases hk2 : k < s.size
      · have hbt := bt_at s k hk2
        have HA := Lib.hid (show accs s (k + 1) = 16 * accs s k + hval (bt s k) from rfl)
        have HXs := Lib.hid (fun h => HX.out.succ (k := k) h)
        have hb256 := bt_lt s k
        have HN := Lib.hid (show ¬ 0 ≤ hval (bt s k) → parsed s = (0, 3) from fun h => if_neg fun hN => h (hN.2.2.1 k hk2))
        obtain ⟨a, hae⟩ : ∃ a, a = accs s k := ⟨_, rfl⟩
        rw [← hae] at HA ha0 ha1 ⊢
        clear hae
        obtain ⟨b, hbe⟩ : ∃ b, b = bt s k := ⟨_, rfl⟩
        rw [← hbe] at HA HXs hbt hb256 HN
        clear hbe
        by_cases h1 : 48 ≤ b ∧ b ≤ 57
        · have hv : hval b = (b : Int) - 48 := by unfold hval; rw [if_pos h1]
          have HA := Lib.hid (show accs s (k + 1) = 16 * a + ((b : Int) - 48) by rw [HA.out, hv])
          have HXs := HXs.out (by omega)
          have HXs := Lib.hid HXs
          have h1a := h1.1
          have h1b := h1.2
          clear hv HN h1
          go_wp2
          go_roundw
          case rel => exact ⟨k + 1, by omega, by rw [HA.out]; go_num, by go_num, by trivial, HXs⟩
          case measure => simp [intOf]; omega
        · by_cases h2 : 65 ≤ b ∧ b ≤ 70
          · have hv : hval b = (b : Int) - 55 := by unfold hval; rw [if_neg h1, if_pos h2]
            have HA := Lib.hid (show accs s (k + 1) = 16 * a + ((b : Int) - 55) by rw [HA.out, hv])
            have HXs := HXs.out (by omega)
            have HXs := Lib.hid HXs
            have h2a := h2.1
            have h2b := h2.2
            clear hv HN h1 h2
            go_wp2
            go_roundw
            case rel => exact ⟨k + 1, by omega, by rw [HA.out]; go_num, by go_num, by trivial, HXs⟩
            case measure => simp [intOf]; omega
          · have HN := Lib.hid (HN.out (by unfold hval; rw [if_neg h1, if_neg h2]; omega))
            clear HA HXs
            have h1' : ¬ 48 ≤ (b : Int) ∨ 57 < (b : Int) := by omega
            have h2' : ¬ 65 ≤ (b : Int) ∨ 70 < (b : Int) := by omega
            clear h1 h2
            go_wp2
            all_goals first | (exfalso; omega) | refine bodyPost_ret (v := .tuple #[.int .i64 0, .int .i64 3]) ((results_tmp2 rfl _ _ _).trans rfl) rfl ⟨by rw [(‹Hid (parsed s = (0, 3))›).out], Below.refl _ _⟩
      · have hke : k = s.size := by omega
        subst hke
        have HN := Lib.hid (show parsed s = if s.size = 0 then (0, 3) else if hexOf (accs s s.size) = s then (accs s s.size, 0) else (0, 3) by
          unfold parsed Names
          by_cases h0 : s.size = 0
          · rw [if_neg (fun h => h.2.1 h0), if_pos h0]
          · by_cases h1 : hexOf (accs s s.size) = s
            · rw [if_pos ⟨h6, h0, HX.out, h1⟩, if_neg h0, if_pos h1]
            · rw [if_neg (fun h => h1 h.2.2.2), if_neg h0, if_neg h1])
        obtain ⟨a, hae⟩ : ∃ a, a = accs s s.size := ⟨_, rfl⟩
        rw [← hae] at HN ha0 ha1 ⊢
        clear hae
        by_cases h0 : s.size = 0
        · have HN := Lib.hid (HN.out.trans (if_pos h0))
          have hs0 : s = ⟨#[]⟩ := by
            apply ByteArray.ext; exact Array.eq_empty_of_size_eq_zero h0
          have hs1 : s.toList = [] := by rw [hs0]; simp
          clear hs0
          go_wp2
          exact bodyPost_ret (v := .tuple #[.int .i64 0, .int .i64 3]) ((results_tmp2 rfl _ _ _).trans rfl) rfl ⟨by rw [(‹Hid (parsed s = (0, 3))›).out], Below.refl _ _⟩
        · have HN := Lib.hid (HN.out.trans (if_neg h0))
          have hs1 := bytes_ne h0
          by_cases h1 : hexOf a = s
          · have HP := Lib.hid (HN.out.trans (if_pos h1))
            have h2 : ((hexOf a).toList == s.toList) = true := by rw [bytes_eq, decide_eq_true h1]
            clear HN h1
            go_wp2_with (go_at_call 10; refine (hex_calls _ _).mono ?_; rintro e w' ⟨rfl, hb⟩)
            exact bodyPost_ret (v := .tuple #[.int .i64 a, .int .i64 0]) ((results_tmp2 rfl _ _ _).trans rfl) rfl ⟨by rw [(‹Hid (parsed s = (a, 0))›).out], hb⟩
          · have HP := Lib.hid (HN.out.trans (if_neg h1))
            have h2 : ((hexOf a).toList == s.toList) = false := by rw [bytes_eq, decide_eq_false h1]
            clear HN h1
            go_wp2_with (go_at_call 10; refine (hex_calls _ _).mono ?_; rintro e w' ⟨rfl, hb⟩)
            exact bodyPost_ret (v := .tuple #[.int .i64 0, .int .i64 3]) ((results_tmp2 rfl _ _ _).trans rfl) rfl ⟨by rw [(‹Hid (parsed s = (0, 3))›).out], hb⟩
  · have HE := Lib.hid (show parsed s = (0, 3) from if_neg fun h => h6 h.1)
    go_enter Try.func11, Try.ntmps11
    go_wp2
    exact bodyPost_ret (v := .tuple #[.int .i64 0, .int .i64 3]) ((results_tmp2 rfl _ _ _).trans rfl) rfl ⟨by rw [HE.out], Below.refl _ _⟩
end Go.Proofs.Ytkokfinmolkehaa
