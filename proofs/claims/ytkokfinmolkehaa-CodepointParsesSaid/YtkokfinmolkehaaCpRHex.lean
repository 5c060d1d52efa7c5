import Derived.Test.YtkokfinmolkehaaCpLaw
namespace Go.Proofs.Ytkokfinmolkehaa
open Go.RowKit
set_option linter.unusedVariables false
set_option linter.unusedSimpArgs false

def bytesOf (l : List Int) : List UInt8 := l.map fun n => UInt8.ofNat n.toNat
theorem foldl_push (l : List Int) (s : ByteArray) : l.foldl (fun r n => r.push (UInt8.ofNat n.toNat)) s = ⟨s.data ++ (bytesOf l).toArray⟩ := by
  induction l generalizing s with
  | nil => simp [bytesOf]
  | cons a l ih =>
    rw [List.foldl_cons, ih]
    apply ByteArray.ext
    apply Array.toList_inj.mp
    simp [bytesOf]
theorem strOf_eq (l : List Int) : strOf l = ⟨(bytesOf l).toArray⟩ := by
  unfold strOf
  rw [foldl_push]
  apply ByteArray.ext
  apply Array.toList_inj.mp
  show (#[] ++ (bytesOf l).toArray).toList = _
  simp
theorem strOf_size (l : List Int) : (strOf l).size = l.length := by rw [strOf_eq]; simp [ByteArray.size, bytesOf]
theorem strOf_cons (a : Int) (l : List Int) : (⟨#[UInt8.ofNat a.toNat]⟩ : ByteArray) ++ strOf l = strOf (a :: l) := by
  rw [strOf_eq, strOf_eq]
  apply ByteArray.ext
  apply Array.toList_inj.mp
  simp [ByteArray.data_append, bytesOf]
def hexDigits : ByteArray := ⟨#[48, 49, 50, 51, 52, 53, 54, 55, 56, 57, 65, 66, 67, 68, 69, 70]⟩
theorem hexDigits_at (d : Nat) (h : d < 16) : hexDigits.extract d (d + 1) = ⟨#[UInt8.ofNat (dg d).toNat]⟩ := by
  rcases (show d = 0 ∨ d = 1 ∨ d = 2 ∨ d = 3 ∨ d = 4 ∨ d = 5 ∨ d = 6 ∨ d = 7 ∨ d = 8 ∨ d = 9 ∨ d = 10 ∨ d = 11 ∨ d = 12 ∨ d = 13 ∨ d = 14 ∨ d = 15 by omega) with
    rfl | rfl | rfl | rfl | rfl | rfl | rfl | rfl | rfl | rfl | rfl | rfl | rfl | rfl | rfl | rfl <;> decide
theorem tmod16 (q : Nat) : ((q : Int).tmod 16) = ((q % 16 : Nat) : Int) := by rw [Int.tmod_eq_emod_of_nonneg (by omega)]; omega
theorem tdiv16 (q : Nat) : ((q : Int).tdiv 16) = ((q / 16 : Nat) : Int) := by rw [Int.tdiv_eq_ediv_of_nonneg (by omega)]; omega
theorem rslice (d : Nat) (h : d < 16) (w : World) : (Instr.slice 9 (.string ⟨#[48, 49, 50, 51, 52, 53, 54, 55, 56, 57, 65, 66, 67, 68, 69, 70]⟩) (some (.int .i64 (d : Int))) (some (.int .i64 ((d : Int) + 1))) none).run Try.prog w =
    .ok (.string ⟨#[UInt8.ofNat (dg d).toNat]⟩) w := by
  have hs : hexDigits.size = 16 := by rfl
  rw [← hexDigits_at d h]
  refine (run_slice_string w 9 hexDigits .i64 .i64 (d : Int) ((d : Int) + 1) (by rfl) (by omega) (by omega) (by rw [hs]; omega)).trans ?_
  rw [Int.toNat_natCast, show ((d : Int) + 1).toNat = d + 1 by omega]
theorem rhex_calls (c : Int) (w : World) : Calls Try.prog 14 #[.int .i64 c] w fun e w' => e = .returned (.string (hexOf c)) ∧ w' = w := by
  cases h1 : vld c
  · have HE := Lib.hid (show hexOf c = ByteArray.empty by simp [hexOf, h1])
    go_enter Try.func14, Try.ntmps14
    go_wp2_with (go_at_call 19; refine (vldR_calls _ _).mono ?_; rw [h1]; rintro e w' ⟨rfl, rfl⟩)
    go_ret
    exact ⟨by rw [HE.out]; rfl, rfl⟩
  · have hv := vld_of h1
    obtain ⟨n, rfl⟩ := Int.eq_ofNat_of_zero_le hv.1
    have HE := Lib.hid (show hexOf n = hexS n by simp [hexOf, h1])
    have hn : n ≤ 1114111 := by omega
    clear hv
    go_enter Try.func14, Try.ntmps14
    go_wp2_with (go_at_call 19; refine (vldR_calls _ _).mono ?_; rw [h1]; rintro e w' ⟨rfl, rfl⟩)
    go_loopw [0, 3] (fun cc s wr => ∃ k : Nat, k ≤ 6 ∧ cc = .int .i64 ((n / 16 ^ k : Nat) : Int) ∧ s = .string (strOf (hexI k n)) ∧ wr = w'
        ∧ (k = 5 → 65536 ≤ n) ∧ (k = 6 → 1048576 ≤ n))
      (fun _ s _ => 6 - (match s with | .string b => b.size | _ => 0))
    case atStart => exact ⟨0, by omega, by simp, rfl, rfl, by omega, by omega⟩
    case round =>
      obtain ⟨k, hk, rfl, rfl, rfl, hk5, hk6⟩ := hrel
      have hsz : (strOf (hexI k n)).size = k := by rw [strOf_size, hexI_length]
      by_cases hgo : 0 < n / 16 ^ k ∨ k < 4
      · have hk' : k < 6 := by
          rcases hgo with h | h
          · by_cases h6 : k = 6
            · subst h6; have : n / 16 ^ 6 = 0 := Nat.div_eq_of_lt (by omega); omega
            · omega
          · omega
        have hk5' : k + 1 = 5 → 65536 ≤ n := by
          intro h; have : k = 4 := by omega
          subst this
          rcases hgo with h | h
          · have := Nat.div_pos_iff.mp h; omega
          · omega
        have hk6' : k + 1 = 6 → 1048576 ≤ n := by
          intro h; have : k = 5 := by omega
          subst this
          rcases hgo with h | h
          · have := Nat.div_pos_iff.mp h; omega
          · omega
        have hS : n / 16 ^ (k + 1) = n / 16 ^ k / 16 := by rw [Nat.pow_succ, Nat.div_div_eq_div_mul]
        have hq1 : n / 16 ^ k ≤ 1114111 := Nat.le_trans (Nat.div_le_self _ _) hn
        have hN : strOf (hexI (k + 1) n) = (⟨#[UInt8.ofNat (dg (n / 16 ^ k % 16)).toNat]⟩ : ByteArray) ++ strOf (hexI k n) := (strOf_cons _ _).symm
        have hsz' : (strOf (hexI (k + 1) n)).size = k + 1 := by rw [strOf_size, hexI_length]
        have htm := tmod16 (n / 16 ^ k)
        have htd := tdiv16 (n / 16 ^ k)
        obtain ⟨q, hq⟩ : ∃ q, q = n / 16 ^ k := ⟨_, rfl⟩
        rw [← hq] at hN htm htd hgo hq1 hS ⊢
        obtain ⟨d, hd⟩ : ∃ d, d = q % 16 := ⟨_, rfl⟩
        have hd16 : d < 16 := by omega
        rw [← hd] at hN htm
        have hsl := rslice d hd16
        obtain ⟨X, hX⟩ : ∃ X : ByteArray, X = ⟨#[UInt8.ofNat (dg d).toNat]⟩ := ⟨_, rfl⟩
        have hXs : X.size = 1 := by rw [hX]; rfl
        rw [← hX] at hN hsl
        clear hX
        obtain ⟨t, ht⟩ : ∃ t, t = strOf (hexI k n) := ⟨_, rfl⟩
        rw [← ht] at hsz hN ⊢
        have HN := Lib.hid hN
        have HS := Lib.hid hS
        have HZ := Lib.hid hsz'
        have hk5' := Lib.hid hk5'
        have hk6' := Lib.hid hk6'
        have hgo' : k < 4 ∨ (4 ≤ k ∧ 0 < q) := by omega
        clear hk5 hk6 hgo hd hq ht hN hS hsz'
        rcases hgo' with h0 | ⟨h0, h00⟩
        · go_wp2
          go_roundw
          case rel => exact ⟨k + 1, by omega, by rw [HS.out]; rfl, by rw [HN.out], trivial, hk5'.out, hk6'.out⟩
          case measure =>
            have h9 := HZ.out
            rw [HN.out] at h9
            show 6 - (X ++ t).size < 6 - t.size
            omega
        · have h00i : 0 < (q : Int) := by omega
          go_wp2
          go_roundw
          case rel => exact ⟨k + 1, by omega, by rw [HS.out]; rfl, by rw [HN.out], trivial, hk5'.out, hk6'.out⟩
          case measure =>
            have h9 := HZ.out
            rw [HN.out] at h9
            show 6 - (X ++ t).size < 6 - t.size
            omega
      · have h0 : n / 16 ^ k = 0 := Nat.eq_zero_of_not_pos fun h => hgo (.inl h)
        have hk4' : ¬ k < 4 := fun h => hgo (.inr h)
        have hk4 : 4 ≤ k := by omega
        have hL : hexLen n = k := by
          rcases (show k = 4 ∨ k = 5 ∨ k = 6 by omega) with rfl | rfl | rfl <;> rcases Nat.div_eq_zero_iff.mp h0 with h | h <;> unfold hexLen <;> (repeat' split) <;> omega
        rw [h0]
        have HF := Lib.hid (show hexS n = strOf (hexI k n) by unfold hexS; rw [hL])
        obtain ⟨t, ht⟩ : ∃ t, t = strOf (hexI k n) := ⟨_, rfl⟩
        rw [← ht] at hsz HF ⊢
        clear hgo hk5 hk6 h0 hL ht
        go_wp2
        go_ret
        exact ⟨by rw [HE.out, HF.out]; rfl, rfl⟩
end Go.Proofs.Ytkokfinmolkehaa
