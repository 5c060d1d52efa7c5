import Derived.Test.YtkokfinmolkehaaRefCmp
namespace Go.Proofs.Ytkokfinmolkehaa
open Go.RowKit
set_option linter.unusedVariables false
set_option linter.unusedSimpArgs false

theorem run_min2 {P : Program} (ts : Array TypeId) (t : TypeId) (x y : Nat) : ∃ m : Nat, m ≤ x ∧ m ≤ y ∧ (∀ k, k < x → k < y → k < m) ∧
    ∀ w : World, (Builtin.min_ ts t #[.int .i64 (x : Int), .int .i64 (y : Int)]).run P w = .ok (.int .i64 (m : Int)) w := by
  by_cases h : (y : Int) < x
  · exact ⟨y, by omega, by omega, fun k _ h2 => h2, fun w => by simp [Builtin.min_, Builtin.min2, h]⟩
  · exact ⟨x, by omega, by omega, fun k h1 _ => h1, fun w => by simp [Builtin.min_, Builtin.min2, h]⟩

/-- The order of two numbers. -/
def ord (a b : Int) : Int := if a < b then -1 else if b < a then 1 else 0
theorem ord_len (x y : Nat) : ord (x : Int) (y : Int) = if x < y then -1 else if y < x then 1 else 0 := by unfold ord; simp only [Int.ofNat_lt]
theorem order_calls (a b : Int) (w : World) : Calls Try.prog 29 #[.int .i64 a, .int .i64 b] w fun e w' => e = .returned (.int .i64 (ord a b)) ∧ w' = w := by
  by_cases h1 : a < b
  · have HC := Lib.hid (show ord a b = -1 by unfold ord; rw [if_pos h1])
    go_enter Try.func29, Try.ntmps29
    go_wp2
    go_ret
    exact ⟨ret_int HC.out.symm, rfl⟩
  · by_cases h2 : b < a
    · have HC := Lib.hid (show ord a b = 1 by unfold ord; rw [if_neg h1, if_pos h2])
      go_enter Try.func29, Try.ntmps29
      go_wp2
      go_ret
      exact ⟨ret_int HC.out.symm, rfl⟩
    · have HC := Lib.hid (show ord a b = 0 by unfold ord; rw [if_neg h1, if_neg h2])
      go_enter Try.func29, Try.ntmps29
      go_wp2
      go_ret
      exact ⟨ret_int HC.out.symm, rfl⟩
theorem cmp_ne_at {xs ys : List Int} {k : Nat} (hx : k < xs.length) (hy : k < ys.length) (h : el xs k ≠ el ys k) : cmp (xs.drop k) (ys.drop k) = ord (el xs k) (el ys k) := by
  by_cases h1 : el xs k < el ys k
  · rw [cmp_lt_at hx hy h1]; unfold ord; rw [if_pos h1]
  · have h2 : el ys k < el xs k := by omega
    rw [cmp_gt_at hx hy h2]; unfold ord; rw [if_neg h1, if_pos h2]

set_option maxHeartbeats 1000000 in
theorem compare_calls (A B : Option Addr) (c d : Nat) (xs ys : List Int) (w : World) (hx : Rd w A xs) (hy : Rd w B ys)
    (hn : xs.length ≤ 4611686018427387904) (hm : ys.length ≤ 4611686018427387904) :
    Calls Try.prog 16 #[.slice A xs.length c, .slice B ys.length d] w fun e w' => e = .returned (.int .i64 (cmp xs ys)) ∧ Drawn w w' := by
  have HC0 : Hid (cmp (xs.drop 0) (ys.drop 0) = cmp xs ys) := by exact rfl
  obtain ⟨mn, hmn1, hmn2, hmn3, hmin⟩ := run_min2 (P := Try.prog) #[3, 3] 3 xs.length ys.length
  go_enter Try.func16, Try.ntmps16
  go_wp2
  go_loopw [11] (fun i wr => ∃ k : Nat, k ≤ mn ∧ i = .int .i64 k ∧ Drawn w wr ∧ Hid (cmp (xs.drop k) (ys.drop k) = cmp xs ys))
    (fun i _ => mn - (intOf i).toNat)
  case atStart => exact ⟨0, Nat.zero_le _, rfl, Drawn.refl _, HC0⟩
  case round =>
    obtain ⟨k, hk, rfl, ⟨m, rfl⟩, HC⟩ := hrel
    by_cases h1 : k < mn
    · have h1x : k < xs.length := by omega
      have h1y : k < ys.length := by omega
      obtain ⟨a, rfl, ha⟩ := hx.at_ h1x
      obtain ⟨b, rfl, hb⟩ := hy.at_ h1y
      by_cases h3 : el xs k = el ys k
      · have HR := Lib.hid (cmp_eq_at h1x h1y (by omega) (by omega))
        have e3 : (el xs k != el ys k) = false := by simp [h3]
        clear hmn3 h3
        go_wp2
        go_quiet (fail)
        go_wp2
        go_roundw
        case rel => exact ⟨k + 1, by omega, by go_num, by repeat (first | exact Drawn.refl _ | refine Drawn.step ?_ _), by rw [← HR.out]; exact HC⟩
        case measure => simp [intOf]; omega
      · have HR := Lib.hid (cmp_ne_at h1x h1y h3)
        have e3 : (el xs k != el ys k) = true := by simp [h3]
        clear hmn3 h3
        go_wp2
        go_quiet (fail)
        go_wp2
        obtain ⟨W, hW⟩ : ∃ W, W = (w.drewN m).drewN nq := ⟨_, rfl⟩
        have hdW : Drawn w W := by rw [hW]; exact ((Drawn.refl w).step m).step nq
        have haW : W.cell? (a.add k) = some (.int .i64 (el xs k)) := by rw [hW]; exact ha
        have hbW : W.cell? (b.add k) = some (.int .i64 (el ys k)) := by rw [hW]; exact hb
        rw [← hW]
        clear hW ha hb
        go_quiet ((go_at_call 29; exact Calls.quiet_of_same (order_calls _ _ _)))
        go_wp2
        go_ret
        exact ⟨ret_int (by rw [← HC.out, HR.out]), by repeat (first | exact hdW | refine Drawn.step ?_ _)⟩
    · have hk2 : k = mn := by omega
      have hE := cmp_end (xs := xs) (ys := ys) (k := k) (by omega) (by omega) (fun h => h1 (hmn3 k h.1 h.2))
      have HE := Lib.hid (show cmp xs ys = ord (xs.length : Int) (ys.length : Int) by rw [← HC.out, hE, ord_len])
      clear hE hk2 hmn3
      go_wp2_with (go_at_call 29; refine (order_calls _ _ _).mono ?_; rintro e w' ⟨rfl, rfl⟩)
      go_ret
      exact ⟨ret_int HE.out.symm, by repeat (first | exact Drawn.refl _ | refine Drawn.step ?_ _)⟩
end Go.Proofs.Ytkokfinmolkehaa
