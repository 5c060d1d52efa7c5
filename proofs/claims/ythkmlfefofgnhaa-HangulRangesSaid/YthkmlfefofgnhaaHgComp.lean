import Derived.Test.YthkmlfefofgnhaaHgKind
namespace Go.Proofs.Ythkmlfefofgnhaa
open Go.RowKit
set_option linter.unusedVariables false
set_option linter.unusedSimpArgs false

theorem kind_range (c : Int) : 0 ≤ kind c ∧ kind c ≤ 5 := by unfold kind; (repeat' split) <;> omega
theorem kind_1 {c : Int} (h : kind c = 1) : 4352 ≤ c ∧ c ≤ 4370 := by unfold kind at h; (repeat' split at h) <;> omega
theorem kind_2 {c : Int} (h : kind c = 2) : 4449 ≤ c ∧ c ≤ 4469 := by unfold kind at h; (repeat' split at h) <;> omega
theorem kind_3 {c : Int} (h : kind c = 3) : 4520 ≤ c ∧ c ≤ 4546 := by unfold kind at h; (repeat' split at h) <;> omega
theorem kind_4 {c : Int} (h : kind c = 4) : 44032 ≤ c ∧ c ≤ 55203 ∧ (c - 44032) % 28 = 0 := by unfold kind at h; (repeat' split at h) <;> omega
theorem kind_5 {c : Int} (h : kind c = 5) : 44032 ≤ c ∧ c ≤ 55203 ∧ (c - 44032) % 28 ≠ 0 := by unfold kind at h; (repeat' split at h) <;> omega
/-- The syllable of a pair. -/
def compI (a b : Int) : Int := if kind a = 1 ∧ kind b = 2 then 44032 + ((a - 4352) * 21 + b - 4449) * 28 else if kind a = 4 ∧ kind b = 3 then a + b - 4520 + 1 else 0
def compB (a b : Int) : Bool := decide (kind a = 1 ∧ kind b = 2) || decide (kind a = 4 ∧ kind b = 3)
theorem ret_two {a b : Int} {x y : Bool} (h : a = b) (h2 : x = y) : Ending.returned (.tuple #[.int .i64 a, .bool x]) = .returned (.tuple #[.int .i64 b, .bool y]) := by rw [h, h2]
theorem eq2 (a b c d : Int) (w : World) : (Op.equalIn 10000 38 (.agg #[.int .i64 a, .int .i64 b]) (.agg #[.int .i64 c, .int .i64 d])).run Try.prog w = .ok (a == c && b == d) w := by
  have u3 := Try.underlying3
  have a3 := Try.isAgg3
  have z3 := Try.sizeOf3
  rw [show (10000 : Nat) = 9999 + 1 from rfl, Op.equalIn]
  simp only [Sem.run_bind, run_underlying Try.underlying38, Result.andThen_ok]
  simp only [Std.Legacy.Range.forIn_eq_forIn_range', Std.Legacy.Range.size, Nat.sub_zero, Nat.add_sub_cancel, Nat.div_one, List.range'_succ, List.range'_zero, List.forIn_cons, List.forIn_nil]
  go_simp
  by_cases h1 : a = c <;> by_cases h2 : b = d <;> simp [h1, h2]
theorem compose_calls (a b : Int) (w : World) (ha : -9223372036854775808 ≤ a ∧ a ≤ 9223372036854775807) (hb : -9223372036854775808 ≤ b ∧ b ≤ 9223372036854775807) :
    Calls Try.prog 16 #[.int .i64 a, .int .i64 b] w fun e w' => e = .returned (.tuple #[.int .i64 (compI a b), .bool (compB a b)]) ∧ Below w.heap.size w w' := by
  by_cases h1 : kind a = 1 ∧ kind b = 2
  · have HI := Lib.hid (show compI a b = 44032 + ((a - 4352) * 21 + b - 4449) * 28 by unfold compI; rw [if_pos h1])
    have HB := Lib.hid (show compB a b = true by unfold compB; rw [decide_eq_true h1]; rfl)
    have a1 := kind_1 h1.1
    have b1 := kind_2 h1.2
    have KA := Lib.hid h1.1
    have KB := Lib.hid h1.2
    clear h1
    have e1 : IntKind.i64.wrap (a - 4352) = a - 4352 := IntWalk.i64_in _ (by omega)
    have e2 : IntKind.i64.wrap ((a - 4352) * 21) = (a - 4352) * 21 := IntWalk.i64_in _ (by omega)
    have e3 : IntKind.i64.wrap ((a - 4352) * 21 + b) = (a - 4352) * 21 + b := IntWalk.i64_in _ (by omega)
    have e4 : IntKind.i64.wrap ((a - 4352) * 21 + b - 4449) = (a - 4352) * 21 + b - 4449 := IntWalk.i64_in _ (by omega)
    have e5 : IntKind.i64.wrap (((a - 4352) * 21 + b - 4449) * 28) = ((a - 4352) * 21 + b - 4449) * 28 := IntWalk.i64_in _ (by omega)
    have e6 : IntKind.i64.wrap (44032 + ((a - 4352) * 21 + b - 4449) * 28) = 44032 + ((a - 4352) * 21 + b - 4449) * 28 := IntWalk.i64_in _ (by omega)
    go_enter Try.func16, Try.ntmps16
    go_wp2_with fail
    refine (kind_calls a _ ha).mono ?_
    rintro e w1 ⟨rfl, hb1⟩
    rw [KA.out]
    go_wp2_with fail
    refine (kind_calls b _ hb).mono ?_
    rintro e w2 ⟨rfl, hb2⟩
    rw [KB.out]
    have hB := below_then' hb1 hb1.size hb2
    have q := eq2 1 2 1 2 w2
    go_wp2_with fail
    refine bodyPost_ret (v := .tuple #[.int .i64 _, .bool true]) ((results_tmp2 rfl _ _ _).trans rfl) rfl ⟨ret_two HI.out.symm HB.out.symm, hB⟩
  · by_cases h2 : kind a = 4 ∧ kind b = 3
    · have HI := Lib.hid (show compI a b = a + b - 4520 + 1 by unfold compI; rw [if_neg h1, if_pos h2])
      have HB := Lib.hid (show compB a b = true by unfold compB; rw [decide_eq_true h2, Bool.or_true])
      have a1 := kind_4 h2.1
      have b1 := kind_3 h2.2
      have KA := Lib.hid h2.1
      have KB := Lib.hid h2.2
      clear h1 h2
      have e1 : IntKind.i64.wrap (a + b) = a + b := IntWalk.i64_in _ (by omega)
      have e2 : IntKind.i64.wrap (a + b - 4520) = a + b - 4520 := IntWalk.i64_in _ (by omega)
      have e3 : IntKind.i64.wrap (a + b - 4520 + 1) = a + b - 4520 + 1 := IntWalk.i64_in _ (by omega)
      go_enter Try.func16, Try.ntmps16
      go_wp2_with fail
      refine (kind_calls a _ ha).mono ?_
      rintro e w1 ⟨rfl, hb1⟩
      rw [KA.out]
      go_wp2_with fail
      refine (kind_calls b _ hb).mono ?_
      rintro e w2 ⟨rfl, hb2⟩
      rw [KB.out]
      have hB := below_then' hb1 hb1.size hb2
      have q := eq2 4 3 1 2 w2
      have q1 := eq2 4 3 4 3 w2
      go_wp2_with fail
      refine bodyPost_ret (v := .tuple #[.int .i64 _, .bool true]) ((results_tmp2 rfl _ _ _).trans rfl) rfl ⟨ret_two HI.out.symm HB.out.symm, hB⟩
    · have HI := Lib.hid (show compI a b = 0 by unfold compI; rw [if_neg h1, if_neg h2])
      have HB := Lib.hid (show compB a b = false by unfold compB; rw [decide_eq_false h1, decide_eq_false h2]; rfl)
      obtain ⟨ka, hka⟩ : ∃ ka, ka = kind a := ⟨_, rfl⟩
      obtain ⟨kb, hkb⟩ : ∃ kb, kb = kind b := ⟨_, rfl⟩
      rw [← hka, ← hkb] at h1 h2
      have KA := Lib.hid hka
      have KB := Lib.hid hkb
      have g1 : (ka == 1 && kb == 2) = false := by simpa using h1
      have g2 : (ka == 4 && kb == 3) = false := by simpa using h2
      clear hka hkb h1 h2
      go_enter Try.func16, Try.ntmps16
      go_wp2_with fail
      refine (kind_calls a _ ha).mono ?_
      rintro e w1 ⟨rfl, hb1⟩
      rw [← KA.out]
      go_wp2_with fail
      refine (kind_calls b _ hb).mono ?_
      rintro e w2 ⟨rfl, hb2⟩
      rw [← KB.out]
      have hB := below_then' hb1 hb1.size hb2
      have q := eq2 ka kb 1 2 w2
      have q1 := eq2 ka kb 4 3 w2
      rw [g1] at q
      rw [g2] at q1
      clear g1 g2
      go_wp2_with fail
      refine bodyPost_ret (v := .tuple #[.int .i64 _, .bool false]) ((results_tmp2 rfl _ _ _).trans rfl) rfl ⟨ret_two HI.out.symm HB.out.symm, hB⟩
theorem composeR_calls (a b : Int) (w : World) (ha : -9223372036854775808 ≤ a ∧ a ≤ 9223372036854775807) (hb : -9223372036854775808 ≤ b ∧ b ≤ 9223372036854775807) :
    Calls Try.prog 17 #[.int .i64 a, .int .i64 b] w fun e w' => e = .returned (.tuple #[.int .i64 (compI a b), .bool (compB a b)]) ∧ w' = w := by
  obtain ⟨ka, hka⟩ : ∃ ka, ka = kind a := ⟨_, rfl⟩
  obtain ⟨kb, hkb⟩ : ∃ kb, kb = kind b := ⟨_, rfl⟩
  have KA := Lib.hid hka
  have KB := Lib.hid hkb
  by_cases h1 : kind a = 1 ∧ kind b = 2
  · have HI := Lib.hid (show compI a b = 44032 + ((a - 4352) * 21 + b - 4449) * 28 by unfold compI; rw [if_pos h1])
    have HB := Lib.hid (show compB a b = true by unfold compB; rw [decide_eq_true h1]; rfl)
    have a1 := kind_1 h1.1
    have b1 := kind_2 h1.2
    rw [← hka, ← hkb] at h1
    obtain ⟨h1, h2⟩ := h1
    have f1 : IntKind.i64.wrap (a - 4352) = a - 4352 := IntWalk.i64_in _ (by omega)
    have f2 : IntKind.i64.wrap (21 * (a - 4352)) = 21 * (a - 4352) := IntWalk.i64_in _ (by omega)
    have f3 : IntKind.i64.wrap (21 * (a - 4352) + b) = 21 * (a - 4352) + b := IntWalk.i64_in _ (by omega)
    have f4 : IntKind.i64.wrap (21 * (a - 4352) + b - 4449) = 21 * (a - 4352) + b - 4449 := IntWalk.i64_in _ (by omega)
    have f5 : IntKind.i64.wrap ((21 * (a - 4352) + b - 4449) * 28) = (21 * (a - 4352) + b - 4449) * 28 := IntWalk.i64_in _ (by omega)
    have f6 : IntKind.i64.wrap (44032 + (21 * (a - 4352) + b - 4449) * 28) = 44032 + (21 * (a - 4352) + b - 4449) * 28 := IntWalk.i64_in _ (by omega)
    have HJ := Lib.hid (show 44032 + (21 * (a - 4352) + b - 4449) * 28 = compI a b by rw [HI.out]; omega)
    clear hka hkb HI
    go_enter Try.func17, Try.ntmps17
    go_wp2_with fail
    refine (kindR_calls a _ ha).mono ?_
    rintro e w1 ⟨rfl, rfl⟩
    rw [← KA.out]
    go_wp2_with fail
    refine (kindR_calls b _ hb).mono ?_
    rintro e w2 ⟨rfl, rfl⟩
    rw [← KB.out]
    go_wp2_with fail
    refine bodyPost_ret (v := .tuple #[.int .i64 _, .bool true]) ((results_tmp2 rfl _ _ _).trans rfl) rfl ⟨ret_two HJ.out HB.out.symm, rfl⟩
  · by_cases h2 : kind a = 4 ∧ kind b = 3
    · have HI := Lib.hid (show compI a b = a + b - 4520 + 1 by unfold compI; rw [if_neg h1, if_pos h2])
      have HB := Lib.hid (show compB a b = true by unfold compB; rw [decide_eq_true h2, Bool.or_true])
      have a1 := kind_4 h2.1
      have b1 := kind_3 h2.2
      rw [← hka, ← hkb] at h2
      obtain ⟨h2, h3⟩ := h2
      clear h1 hka hkb
      have e1 : IntKind.i64.wrap (a + b) = a + b := IntWalk.i64_in _ (by omega)
      have e2 : IntKind.i64.wrap (a + b - 4520) = a + b - 4520 := IntWalk.i64_in _ (by omega)
      have e3 : IntKind.i64.wrap (a + b - 4520 + 1) = a + b - 4520 + 1 := IntWalk.i64_in _ (by omega)
      go_enter Try.func17, Try.ntmps17
      go_wp2_with fail
      refine (kindR_calls a _ ha).mono ?_
      rintro e w1 ⟨rfl, rfl⟩
      rw [← KA.out]
      go_wp2_with fail
      refine (kindR_calls a _ ha).mono ?_
      rintro e w1 ⟨rfl, rfl⟩
      rw [← KA.out]
      go_wp2_with fail
      refine (kindR_calls b _ hb).mono ?_
      rintro e w2 ⟨rfl, rfl⟩
      rw [← KB.out]
      go_wp2_with fail
      refine bodyPost_ret (v := .tuple #[.int .i64 _, .bool true]) ((results_tmp2 rfl _ _ _).trans rfl) rfl ⟨ret_two HI.out.symm HB.out.symm, rfl⟩
    · have HI := Lib.hid (show compI a b = 0 by unfold compI; rw [if_neg h1, if_neg h2])
      have HB := Lib.hid (show compB a b = false by unfold compB; rw [decide_eq_false h1, decide_eq_false h2]; rfl)
      rw [← hka, ← hkb] at h1 h2
      clear hka hkb
      by_cases c1 : ka = 1
      · have c2 : ¬ kb = 2 := fun h => h1 ⟨c1, h⟩
        have c3 : ¬ ka = 4 := by omega
        clear h1 h2
        go_enter Try.func17, Try.ntmps17
        go_wp2_with fail
        refine (kindR_calls a _ ha).mono ?_
        rintro e w1 ⟨rfl, rfl⟩
        rw [← KA.out]
        go_wp2_with fail
        refine (kindR_calls b _ hb).mono ?_
        rintro e w2 ⟨rfl, rfl⟩
        rw [← KB.out]
        go_wp2_with fail
        refine (kindR_calls a _ ha).mono ?_
        rintro e w1 ⟨rfl, rfl⟩
        rw [← KA.out]
        go_wp2_with fail
        refine bodyPost_ret (v := .tuple #[.int .i64 _, .bool false]) ((results_tmp2 rfl _ _ _).trans rfl) rfl ⟨ret_two HI.out.symm HB.out.symm, rfl⟩
      · by_cases c2 : ka = 4
        · have c3 : ¬ kb = 3 := fun h => h2 ⟨c2, h⟩
          clear h1 h2
          go_enter Try.func17, Try.ntmps17
          go_wp2_with fail
          refine (kindR_calls a _ ha).mono ?_
          rintro e w1 ⟨rfl, rfl⟩
          rw [← KA.out]
          go_wp2_with fail
          refine (kindR_calls a _ ha).mono ?_
          rintro e w1 ⟨rfl, rfl⟩
          rw [← KA.out]
          go_wp2_with fail
          refine (kindR_calls b _ hb).mono ?_
          rintro e w2 ⟨rfl, rfl⟩
          rw [← KB.out]
          go_wp2_with fail
          refine bodyPost_ret (v := .tuple #[.int .i64 _, .bool false]) ((results_tmp2 rfl _ _ _).trans rfl) rfl ⟨ret_two HI.out.symm HB.out.symm, rfl⟩
        · clear h1 h2
          go_enter Try.func17, Try.ntmps17
          go_wp2_with fail
          refine (kindR_calls a _ ha).mono ?_
          rintro e w1 ⟨rfl, rfl⟩
          rw [← KA.out]
          go_wp2_with fail
          refine (kindR_calls a _ ha).mono ?_
          rintro e w1 ⟨rfl, rfl⟩
          rw [← KA.out]
          go_wp2_with fail
          refine bodyPost_ret (v := .tuple #[.int .i64 _, .bool false]) ((results_tmp2 rfl _ _ _).trans rfl) rfl ⟨ret_two HI.out.symm HB.out.symm, rfl⟩
end Go.Proofs.Ythkmlfefofgnhaa
