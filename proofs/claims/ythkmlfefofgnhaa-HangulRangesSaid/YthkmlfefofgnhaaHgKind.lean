import Derived.Test.YthkmlfefofgnhaaRefCmp
namespace Go.Proofs.Ythkmlfefofgnhaa
open Go.RowKit
set_option linter.unusedVariables false
set_option linter.unusedSimpArgs false

/-- The kind of a code point. -/
def kind (c : Int) : Int :=
  if 4352 ≤ c ∧ c ≤ 4370 then 1 else if 4449 ≤ c ∧ c ≤ 4469 then 2 else if 4520 ≤ c ∧ c ≤ 4546 then 3 else
    if 44032 ≤ c ∧ c ≤ 55203 then (if (c - 44032) % 28 = 0 then 4 else 5) else 0
/-- The place in a range, or -1. -/
def idx (c f n : Int) : Int := if c < f ∨ f + n ≤ c then -1 else c - f
theorem idx_calls (c f n : Int) (w : World) (hc : -9223372036854775808 ≤ c ∧ c ≤ 9223372036854775807) (hf : 0 ≤ f ∧ f ≤ 100000) (hn : 0 ≤ n ∧ n ≤ 100000) :
    Calls Try.prog 20 #[.int .i64 c, .int .i64 f, .int .i64 n] w fun e w' => e = .returned (.int .i64 (idx c f n)) ∧ w' = w := by
  have e0 : IntKind.i64.wrap (f + n) = f + n := IntWalk.i64_in _ (by omega)
  by_cases h1 : c < f
  · have HE := Lib.hid (show idx c f n = -1 by unfold idx; rw [if_pos (Or.inl h1)])
    go_enter Try.func20, Try.ntmps20
    go_wp2
    go_ret
    exact ⟨ret_int HE.out.symm, rfl⟩
  · by_cases h2 : f + n ≤ c
    · have HE := Lib.hid (show idx c f n = -1 by unfold idx; rw [if_pos (Or.inr h2)])
      go_enter Try.func20, Try.ntmps20
      go_wp2
      go_ret
      exact ⟨ret_int HE.out.symm, rfl⟩
    · have HE := Lib.hid (show idx c f n = c - f by unfold idx; rw [if_neg (by omega)])
      have e1 : IntKind.i64.wrap (c - f) = c - f := IntWalk.i64_in _ (by omega)
      go_enter Try.func20, Try.ntmps20
      go_wp2
      go_ret
      exact ⟨ret_int HE.out.symm, rfl⟩
theorem kindR_calls (c : Int) (w : World) (hc : -9223372036854775808 ≤ c ∧ c ≤ 9223372036854775807) :
    Calls Try.prog 11 #[.int .i64 c] w fun e w' => e = .returned (.int .i64 (kind c)) ∧ w' = w := by
  obtain ⟨k, hk⟩ : ∃ k, k = kind c := ⟨_, rfl⟩
  rw [← hk]
  by_cases h1 : 4352 ≤ c ∧ c ≤ 4370
  · have HK : k = 1 := by rw [hk]; unfold kind; rw [if_pos h1]
    subst HK
    obtain ⟨h1, h2⟩ := h1
    clear hk
    go_enter Try.func11, Try.ntmps11
    go_wp2
    go_ret
    exact ⟨rfl, rfl⟩
  · by_cases h2 : 4449 ≤ c ∧ c ≤ 4469
    · have HK : k = 2 := by rw [hk]; unfold kind; rw [if_neg h1, if_pos h2]
      subst HK
      obtain ⟨h2, h3⟩ := h2
      have h4 : 4352 ≤ c := by omega
      have h5 : ¬ c ≤ 4370 := by omega
      clear hk h1
      go_enter Try.func11, Try.ntmps11
      go_wp2
      go_ret
      exact ⟨rfl, rfl⟩
    · by_cases h3 : 4520 ≤ c ∧ c ≤ 4546
      · have HK : k = 3 := by rw [hk]; unfold kind; rw [if_neg h1, if_neg h2, if_pos h3]
        subst HK
        obtain ⟨h3, h4⟩ := h3
        have h5 : 4352 ≤ c := by omega
        have h6 : ¬ c ≤ 4370 := by omega
        have h7 : 4449 ≤ c := by omega
        have h8 : ¬ c ≤ 4469 := by omega
        clear hk h1 h2
        go_enter Try.func11, Try.ntmps11
        go_wp2
        go_ret
        exact ⟨rfl, rfl⟩
      · by_cases h4 : 44032 ≤ c ∧ c ≤ 55203
        · have HK : k = if (c - 44032) % 28 = 0 then 4 else 5 := by rw [hk]; unfold kind; rw [if_neg h1, if_neg h2, if_neg h3, if_pos h4]
          obtain ⟨h4, h9⟩ := h4
          have h5 : 4352 ≤ c := by omega
          have h6 : ¬ c ≤ 4370 := by omega
          have h7 : 4449 ≤ c := by omega
          have h8 : ¬ c ≤ 4469 := by omega
          have h10 : 4520 ≤ c := by omega
          have h11 : ¬ c ≤ 4546 := by omega
          have e1 : IntKind.i64.wrap (c - 44032) = c - 44032 := IntWalk.i64_in _ (by omega)
          clear hk h1 h2 h3
          obtain ⟨i, hi⟩ : ∃ i, i = c - 44032 := ⟨_, rfl⟩
          rw [← hi] at HK e1
          have hi0 : 0 ≤ i := by omega
          have t1 : i.tmod 28 = i % 28 := by rw [Int.tmod_eq_emod_of_nonneg hi0]
          have e2 : IntKind.i64.wrap (i % 28) = i % 28 := IntWalk.i64_in _ (by omega)
          by_cases h0 : i % 28 = 0
          · rw [if_pos h0] at HK
            subst HK
            go_enter Try.func11, Try.ntmps11
            go_wp2
            go_ret
            exact ⟨rfl, rfl⟩
          · rw [if_neg h0] at HK
            subst HK
            go_enter Try.func11, Try.ntmps11
            go_wp2
            go_ret
            exact ⟨rfl, rfl⟩
        · have HK : k = 0 := by rw [hk]; unfold kind; rw [if_neg h1, if_neg h2, if_neg h3, if_neg h4]
          subst HK
          clear hk
          by_cases g1 : 4352 ≤ c <;> by_cases g2 : c ≤ 4370 <;> by_cases g3 : 4449 ≤ c <;> by_cases g4 : c ≤ 4469 <;> by_cases g5 : 4520 ≤ c <;> by_cases g6 : c ≤ 4546 <;> by_cases g7 : 44032 ≤ c <;> by_cases g8 : c ≤ 55203 <;>
            first
            | (exfalso; omega)
            | (clear h1 h2 h3 h4
               go_enter Try.func11, Try.ntmps11
               go_wp2
               go_ret
               exact ⟨rfl, rfl⟩)
def tab : Array Value := #[.int .i64 4352, .int .i64 19, .int .i64 4449, .int .i64 21, .int .i64 4520, .int .i64 27]
theorem tab_at (j : Nat) (hj : j < 3) (w : World) : (Instr.index 39 (.agg #[.int .i64 4352, .int .i64 19, .int .i64 4449, .int .i64 21, .int .i64 4520, .int .i64 27]) (.int .i64 (j : Int))).run Try.prog w =
    .ok (.agg #[tab.getD (2 * j) default, tab.getD (2 * j + 1) default]) w := by
  rcases (show j = 0 ∨ j = 1 ∨ j = 2 by omega) with rfl | rfl | rfl <;> rfl
theorem idx_in {c f n : Int} (h0 : f ≤ c) (h1 : c < f + n) : idx c f n = c - f := by unfold idx; rw [if_neg (by omega)]
theorem idx_out {c f n : Int} (h : ¬ (f ≤ c ∧ c < f + n)) : idx c f n = -1 := by unfold idx; rw [if_pos (by omega)]
theorem ix0 (w : World) : (Instr.index 39 (.agg #[.int .i64 4352, .int .i64 19, .int .i64 4449, .int .i64 21, .int .i64 4520, .int .i64 27]) (.int .i64 0)).run Try.prog w =
    .ok (.agg #[.int .i64 4352, .int .i64 19]) w := tab_at 0 (by decide) w
theorem ix1 (w : World) : (Instr.index 39 (.agg #[.int .i64 4352, .int .i64 19, .int .i64 4449, .int .i64 21, .int .i64 4520, .int .i64 27]) (.int .i64 1)).run Try.prog w =
    .ok (.agg #[.int .i64 4449, .int .i64 21]) w := tab_at 1 (by decide) w
theorem ix2 (w : World) : (Instr.index 39 (.agg #[.int .i64 4352, .int .i64 19, .int .i64 4449, .int .i64 21, .int .i64 4520, .int .i64 27]) (.int .i64 2)).run Try.prog w =
    .ok (.agg #[.int .i64 4520, .int .i64 27]) w := tab_at 2 (by decide) w
theorem kind_calls (c : Int) (w : World) (hc : -9223372036854775808 ≤ c ∧ c ≤ 9223372036854775807) :
    Calls Try.prog 10 #[.int .i64 c] w fun e w' => e = .returned (.int .i64 (kind c)) ∧ Below w.heap.size w w' := by
  by_cases h4 : 44032 ≤ c ∧ c ≤ 55203
  · have HK : Hid (kind c = if (c - 44032) % 28 = 0 then 4 else 5) := Lib.hid (by unfold kind; rw [if_neg (by omega), if_neg (by omega), if_neg (by omega), if_pos h4])
    have hi := idx_in (c := c) (f := 44032) (n := 11172) (by omega) (by omega)
    obtain ⟨i, hi2⟩ : ∃ i, i = c - 44032 := ⟨_, rfl⟩
    rw [← hi2] at HK hi
    have HI := Lib.hid hi
    have hi0 : 0 ≤ i := by omega
    have t1 : i.tmod 28 = i % 28 := by rw [Int.tmod_eq_emod_of_nonneg hi0]
    have e2 : IntKind.i64.wrap (i % 28) = i % 28 := IntWalk.i64_in _ (by omega)
    clear h4 hi hi2
    by_cases h0 : i % 28 = 0
    · replace HK := Lib.hid (show kind c = 4 by rw [HK.out, if_pos h0])
      go_enter Try.func10, Try.ntmps10
      go_wp2_with fail
      refine (idx_calls c 44032 11172 w hc (by decide) (by decide)).mono ?_
      rintro e w1 ⟨rfl, rfl⟩
      rw [HI.out]
      go_wp2_with fail
      go_ret
      exact ⟨ret_int HK.out.symm, Below.refl _ _⟩
    · replace HK := Lib.hid (show kind c = 5 by rw [HK.out, if_neg h0])
      go_enter Try.func10, Try.ntmps10
      go_wp2_with fail
      refine (idx_calls c 44032 11172 w hc (by decide) (by decide)).mono ?_
      rintro e w1 ⟨rfl, rfl⟩
      rw [HI.out]
      go_wp2_with fail
      go_ret
      exact ⟨ret_int HK.out.symm, Below.refl _ _⟩
  · have HI := Lib.hid (idx_out (c := c) (f := 44032) (n := 11172) (by omega))
    go_enter Try.func10, Try.ntmps10
    go_wp2_with fail
    refine (idx_calls c 44032 11172 w hc (by decide) (by decide)).mono ?_
    rintro e w1 ⟨rfl, rfl⟩
    rw [HI.out]
    go_wp2_with fail
    go_loopw [17] (fun i wr => ∃ k : Nat, k ≤ 3 ∧ i = .int .i64 k ∧ Below w1.heap.size w1 wr ∧ Hid ((1 ≤ k → ¬ (4352 ≤ c ∧ c < 4352 + 19)) ∧ (2 ≤ k → ¬ (4449 ≤ c ∧ c < 4449 + 21)) ∧ (3 ≤ k → ¬ (4520 ≤ c ∧ c < 4520 + 27))))
      (fun i _ => 3 - (intOf i).toNat)
    case atStart => exact ⟨0, Nat.zero_le _, rfl, Below.refl _ _, Lib.hid ⟨by omega, by omega, by omega⟩⟩
    case round =>
      obtain ⟨k, hk, rfl, hb, HC⟩ := hrel
      have hs := hb.size
      rcases (show k = 0 ∨ k = 1 ∨ k = 2 ∨ k = 3 by omega) with rfl | rfl | rfl | rfl
      · have hix := ix0 wr
        by_cases h1 : 4352 ≤ c ∧ c < 4352 + 19
        · have HJ := Lib.hid (idx_in h1.1 h1.2)
          have hj : 0 ≤ c - 4352 := by omega
          have HK := Lib.hid (show kind c = 1 by obtain ⟨a1, a2, a3⟩ := HC.out; unfold kind; rw [if_pos (by omega)])
          clear h1 h4
          go_wp2_with fail
          refine (idx_calls c 4352 19 _ hc (by decide) (by decide)).mono ?_
          rintro e w2 ⟨rfl, rfl⟩
          rw [HJ.out]
          go_wp2_with fail
          go_ret
          exact ⟨ret_int HK.out.symm, hb.alloc hs _⟩
        · have HJ := Lib.hid (idx_out h1)
          go_wp2_with fail
          refine (idx_calls c 4352 19 _ hc (by decide) (by decide)).mono ?_
          rintro e w2 ⟨rfl, rfl⟩
          rw [HJ.out]
          go_wp2_with fail
          go_roundw
          case rel => exact ⟨1, by omega, by go_num, hb.alloc hs _, Lib.hid (by obtain ⟨a1, a2, a3⟩ := HC.out; exact ⟨by omega, by omega, by omega⟩)⟩
          case measure => simp [intOf]
      · have hix := ix1 wr
        by_cases h1 : 4449 ≤ c ∧ c < 4449 + 21
        · have HJ := Lib.hid (idx_in h1.1 h1.2)
          have hj : 0 ≤ c - 4449 := by omega
          have HK := Lib.hid (show kind c = 2 by obtain ⟨a1, a2, a3⟩ := HC.out; unfold kind; rw [if_neg (by omega), if_pos (by omega)])
          clear h1 h4
          go_wp2_with fail
          refine (idx_calls c 4449 21 _ hc (by decide) (by decide)).mono ?_
          rintro e w2 ⟨rfl, rfl⟩
          rw [HJ.out]
          go_wp2_with fail
          go_ret
          exact ⟨ret_int HK.out.symm, hb.alloc hs _⟩
        · have HJ := Lib.hid (idx_out h1)
          go_wp2_with fail
          refine (idx_calls c 4449 21 _ hc (by decide) (by decide)).mono ?_
          rintro e w2 ⟨rfl, rfl⟩
          rw [HJ.out]
          go_wp2_with fail
          go_roundw
          case rel => exact ⟨2, by omega, by go_num, hb.alloc hs _, Lib.hid (by obtain ⟨a1, a2, a3⟩ := HC.out; exact ⟨by omega, by omega, by omega⟩)⟩
          case measure => simp [intOf]
      · have hix := ix2 wr
        by_cases h1 : 4520 ≤ c ∧ c < 4520 + 27
        · have HJ := Lib.hid (idx_in h1.1 h1.2)
          have hj : 0 ≤ c - 4520 := by omega
          have HK := Lib.hid (show kind c = 3 by obtain ⟨a1, a2, a3⟩ := HC.out; unfold kind; rw [if_neg (by omega), if_neg (by omega), if_pos (by omega)])
          clear h1 h4
          go_wp2_with fail
          refine (idx_calls c 4520 27 _ hc (by decide) (by decide)).mono ?_
          rintro e w2 ⟨rfl, rfl⟩
          rw [HJ.out]
          go_wp2_with fail
          go_ret
          exact ⟨ret_int HK.out.symm, hb.alloc hs _⟩
        · have HJ := Lib.hid (idx_out h1)
          go_wp2_with fail
          refine (idx_calls c 4520 27 _ hc (by decide) (by decide)).mono ?_
          rintro e w2 ⟨rfl, rfl⟩
          rw [HJ.out]
          go_wp2_with fail
          go_roundw
          case rel => exact ⟨3, by omega, by go_num, hb.alloc hs _, Lib.hid (by obtain ⟨a1, a2, a3⟩ := HC.out; exact ⟨by omega, by omega, by omega⟩)⟩
          case measure => simp [intOf]
      · have HK := Lib.hid (show kind c = 0 by obtain ⟨a1, a2, a3⟩ := HC.out; unfold kind; rw [if_neg (by omega), if_neg (by omega), if_neg (by omega), if_neg (by omega)])
        clear h4
        go_wp2_with fail
        go_ret
        exact ⟨ret_int HK.out.symm, hb⟩
end Go.Proofs.Ythkmlfefofgnhaa
