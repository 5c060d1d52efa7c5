/- EditsMoves returns true for every edit and every text, and its arguments read behind the call as before. No condition beyond the row's own. -/
import Derived.Test.YtjdnajmljafkpaaRows
import Derived.Test.YtjdnajmljafkpaaFrame
import Derived.Test.YtjdnajmljafkpaaEdK
import Derived.Test.YtjdnajmljafkpaaEdE
import Derived.Test.YtjdnajmljafkpaaEdLaw
import Derived.Deep.QuietTactic
import Derived.BigQuiet
namespace Go.Proofs.Ytjdnajmljafkpaa.editsMoves
open Go.ChangeShapes Go.WideShapes Go.ChangeAt Go.RowKit Go.Deep
open Go.ChangeMaps (open_string shut_string)
set_option linter.unusedVariables false
set_option linter.unusedSimpArgs false

theorem apply_yes' (a d : Int) (C A : Option Addr) (b c : Nat) (xs ys rs : List Int) (w : World) (HR : Hid (rs = repl xs a.toNat d.toNat ys)) (hx : Rd w A xs) (hy : Rd w C ys) (hc : xs.length ≤ c)
    (hn : xs.length ≤ 1000000) (hm : ys.length ≤ 1000000) (h0 : 0 ≤ a) (h1 : 0 ≤ d) (h2 : a + d ≤ xs.length) :
    Calls Try.prog 22 #[.agg #[.int .i64 a, .int .i64 d, .slice C ys.length b], .slice A xs.length c] w fun e w' =>
      ∃ A1 c1, e = .returned (.tuple #[.slice A1 rs.length c1, .int .i64 0]) ∧ rs.length ≤ c1 ∧ Rd w' A1 rs ∧ Below w.heap.size w w' := by
  refine (apply_yes a d C A b c xs ys w hx hy hc hn hm h0 h1 h2).mono ?_
  rintro e w' ⟨v, rfl, hs, hb⟩
  rw [← HR.out] at hs
  obtain ⟨A1, c1, rfl, h4, _, hr⟩ := hs
  exact ⟨A1, c1, rfl, h4, hr, hb⟩
/-- What the loop keeps: the place of the position before. -/
def lastOf (a d : Int) (n k : Nat) : Int := if k = 0 then 0 else shf a d n ((k - 1 : Nat) : Int)
theorem mv_facts {a d : Int} {n k m r : Nat} (h0 : 0 ≤ a) (h1 : 0 ≤ d) (h2 : a + d ≤ m) (hk : k ≤ m) (hr : (r : Int) + d = m + n) :
    ∃ sv lv : Nat, shf a d n k = (sv : Int) ∧ lastOf a d n k = (lv : Int) ∧ lastOf a d n (k + 1) = (sv : Int) ∧ lv ≤ sv ∧ sv ≤ r ∧ (k = 0 → sv = 0) ∧ ((k : Int) ≤ a → sv = k) ∧
      (a < k → a + d ≤ k → (sv : Int) = k - d + n) := by
  have e3 : lastOf a d n (k + 1) = shf a d n k := by unfold lastOf; rw [if_neg (by omega), Nat.add_sub_cancel]
  have e1 : 0 ≤ shf a d n k ∧ shf a d n k ≤ r ∧ (k = 0 → shf a d n k = 0) ∧ ((k : Int) ≤ a → shf a d n k = k) ∧ (a < k → a + d ≤ k → shf a d n k = k - d + n) := by
    unfold shf; (repeat' split) <;> omega
  have e2 : 0 ≤ lastOf a d n k ∧ lastOf a d n k ≤ shf a d n k := by
    unfold lastOf shf; (repeat' split) <;> omega
  refine ⟨(shf a d n k).toNat, (lastOf a d n k).toNat, by omega, by omega, by rw [e3]; omega, by omega, by omega, by omega, by omega, by omega⟩
theorem mv_end {a d : Int} {n m : Nat} : True := trivial
set_option maxRecDepth 20000 in
set_option maxHeartbeats 8000000 in
theorem editsMoves_walk (w : World) (a d : Int) (C : Option Addr) (b : Nat) (zs : List Int) (wa : (Lit.int .i64 a).wf = true) (wd : (Lit.int .i64 d).wf = true) (hz : InRow w C b zs) (A : Option Addr) (c : Nat) (xs : List Int) (hx : InRow w A c xs) :
    Calls Try.prog 10 #[.agg #[.int .i64 a, .int .i64 d, .slice C zs.length b], .slice A xs.length c] w fun e w' => e = .returned (.bool true) ∧ Below w.heap.size w w' := by
  have ba := bounds_i64 wa
  have bd := bounds_i64 wd
  clear wa wd
  obtain ⟨hz, hzc, hzm, _⟩ := hz
  have hzl : zs.length ≤ 9223372036854775807 := by unfold maxLen at hzm; omega
  clear hzm
  obtain ⟨hx, hxc, hxm, _⟩ := hx
  have hxl : xs.length ≤ 9223372036854775807 := by unfold maxLen at hxm; omega
  clear hxm
  obtain ⟨w1, HW, hB, _, ⟨p0, p1, p2⟩, _⟩ := new_block w (.int .i64 a) (.int .i64 d) (.slice C zs.length b) 24
  replace hz := hz.below hB
  replace hx := hx.below hB
  by_cases h1 : zs.length ≤ 40
  · have H1 := Lib.hid (decide_eq_true h1)
    by_cases h2 : xs.length ≤ 60
    · have H2 := Lib.hid (decide_eq_true h2)
      by_cases h3 : chk a d xs.length = 0
      · obtain ⟨k0, k1, k2, k3⟩ := chk_ok.1 h3
        obtain ⟨rs, hrs⟩ : ∃ rs, rs = repl xs a.toNat d.toNat zs := ⟨_, rfl⟩
        have hrl := length_repl (xs := xs) (ys := zs) (a := a.toNat) (d := d.toNat) (by omega)
        rw [← hrs] at hrl
        have hrl1 : rs.length + d.toNat ≤ xs.length + zs.length ∧ xs.length + zs.length ≤ rs.length + d.toNat := by omega
        have HR := Lib.hid hrs
        clear hrs hrl
        have ER0 := fun j => el_repl (xs := xs) (ys := zs) (a := a.toNat) (d := d.toNat) (by omega) j
        rw [← HR.out] at ER0
        have hE1 := Lib.hid (show ∀ k : Nat, 0 < k → (k : Int) ≤ a → el rs (k - 1) = el xs (k - 1) from fun k h0 h1 => by rw [ER0, if_pos (by omega)])
        have hE2 := Lib.hid (show ∀ k sv : Nat, a < k → a + d ≤ k → (sv : Int) = k - d + zs.length → el rs sv = el xs k from fun k sv h0 h1 h2 => by
          rw [ER0, if_neg (by omega), if_neg (by omega)]; congr 1; omega)
        have hrl2 : (rs.length : Int) + d = xs.length + zs.length := by omega
        clear ER0 h3
        go_enter Try.func10, Try.ntmps10
        go_wp2_with fail
        rw [show w.alloc (.cells #[.int .i64 a, .int .i64 d, .slice C zs.length b] 24) = w1 from HW.out.symm]
        refine (small_calls a d C zs.length b _ hzl).mono ?_
        rintro e w_1 ⟨rfl, hb⟩
        replace p0 := cell_keep hb p0
        replace p1 := cell_keep hb p1
        replace p2 := cell_keep hb p2
        replace hz := Rd.below hz hb
        replace hx := Rd.below hx hb
        replace hB := below_on hB hb
        clear hb
        rw [H1.out]
        go_wp2_with fail
        refine (few_calls A xs.length c _ hxl).mono ?_
        rintro e w' ⟨rfl, rfl⟩
        rw [H2.out]
        go_wp2_with fail
        refine (apply_yes' a d C A b c xs zs rs _ HR hx hz hxc (by omega) (by omega) k0 k1 (by omega)).mono ?_
        rintro e w_2 ⟨A1, c1, rfl, hr1c, hr1, hb⟩
        replace p0 := cell_keep hb p0
        replace p1 := cell_keep hb p1
        replace p2 := cell_keep hb p2
        replace hz := Rd.below hz hb
        replace hx := Rd.below hx hb
        replace hB := below_on hB hb
        clear hb
        go_wp2_with fail
        go_loopw [7, 8] (fun l i wr => ∃ k : Nat, k ≤ xs.length + 1 ∧ i = .int .i64 k ∧ l = .int .i64 (lastOf a d zs.length k) ∧ Below w_2.heap.size w_2 wr) (fun _ i _ => xs.length + 1 - (intOf i).toNat)
        case atStart => exact ⟨0, Nat.zero_le _, rfl, rfl, Below.refl _ _⟩
        case round =>
          obtain ⟨k, hk, rfl, rfl, hb⟩ := hrel
          replace p0 := cell_keep hb p0
          replace p1 := cell_keep hb p1
          replace p2 := cell_keep hb p2
          replace hx := Rd.below hx hb
          replace hr1 := Rd.below hr1 hb
          replace hB := below_on hB hb
          by_cases hgo : k ≤ xs.length
          · obtain ⟨sv, lv, es, el0, el1, f1, f2, f3, f4, f5⟩ := mv_facts (n := zs.length) k0 k1 (by omega) hgo hrl2
            rw [el0]
            have HL := Lib.hid el1
            have HS := Lib.hid es
            clear el0 el1 es
            go_wp2_with fail
            refine (shift_calls a d k C zs.length b _ (by omega) (by omega) ba.1 (by omega)).mono ?_
            rintro e w9 ⟨rfl, hb9⟩
            rw [HS.out]
            have q0 := cell_keep hb9 p0
            have q1 := cell_keep hb9 p1
            have q2 := cell_keep hb9 p2
            have hx9 := Rd.below hx hb9
            have hr9 := Rd.below hr1 hb9
            have hB9 := below_then' hb hb.size hb9
            clear p0 p1 p2 hx hr1 hb9
            have hx60 : xs.length ≤ 60 := h2
            have hwad : IntKind.i64.wrap (a + d) = a + d := IntWalk.i64_in _ (by omega)
            have hE1k := hE1.out k
            have hE2k := hE2.out k sv
            by_cases c1 : (k : Int) ≤ a
            · have hs := f4 c1
              clear f3 f4 f5 hE2k
              subst hs
              by_cases c0 : sv = 0
              · subst c0
                clear hE1k
                have hl0 : lv = 0 := by omega
                subst hl0
                have hna : ¬ a < 0 := by omega
                have z1 : decide (a < 0) = false := decide_eq_false (by omega)
                have z2 : decide (a < ((0 : Nat) : Int)) = false := decide_eq_false (by omega)
                by_cases c3 : 0 < xs.length
                · by_cases c2 : a + d ≤ (0 : Int)
                  · have z3 : decide ((0 : Int) < (xs.length : Int)) = true := decide_eq_true (by omega)
                    have z4 : decide (0 < xs.length) = true := decide_eq_true (by omega)
                    have z5 : decide (a + d ≤ (0 : Int)) = true := decide_eq_true (by omega)
                    go_wp2
                    go_quiet (fail)
                    go_wp2
                    go_quiet (fail)
                    go_wp2
                    go_roundw
                    case rel => exact ⟨0 + 1, by omega, by go_num, by first | (rw [HL.out]; done) | (rw [HL.out]; rfl), by repeat (first | exact hB9 | refine below_drewN' ?_ _)⟩
                    case measure => first | (simp [intOf]; done) | (simp [intOf]; omega)
                  · have z6 : decide ((0 : Int) < (xs.length : Int)) = true := decide_eq_true (by omega)
                    have z7 : decide (0 < xs.length) = true := decide_eq_true (by omega)
                    have z8 : decide (a + d ≤ (0 : Int)) = false := decide_eq_false (by omega)
                    go_wp2
                    go_quiet (fail)
                    go_wp2
                    go_quiet (fail)
                    go_wp2
                    go_roundw
                    case rel => exact ⟨0 + 1, by omega, by go_num, by first | (rw [HL.out]; done) | (rw [HL.out]; rfl), by repeat (first | exact hB9 | refine below_drewN' ?_ _)⟩
                    case measure => first | (simp [intOf]; done) | (simp [intOf]; omega)
                · have z9 : decide ((0 : Int) < (xs.length : Int)) = false := decide_eq_false (by omega)
                  have z10 : decide (0 < xs.length) = false := decide_eq_false (by omega)
                  go_wp2
                  go_quiet (fail)
                  go_wp2
                  go_quiet (fail)
                  go_wp2
                  go_roundw
                  case rel => exact ⟨0 + 1, by omega, by go_num, by first | (rw [HL.out]; done) | (rw [HL.out]; rfl), by repeat (first | exact hB9 | refine below_drewN' ?_ _)⟩
                  case measure => first | (simp [intOf]; done) | (simp [intOf]; omega)
              · have hE := hE1k (by omega) c1
                clear hE1k
                obtain ⟨ax, rfl, hcx⟩ := hx9.at_ (k := sv - 1) (by omega)
                obtain ⟨ar, rfl, hcr⟩ := hr9.at_ (k := sv - 1) (by omega)
                rw [hE] at hcr
                have hp : 0 < sv := by omega
                have hna : ¬ a < (sv : Int) := by omega
                have hn1 : ¬ sv < 1 := by omega
                have z11 : decide ((sv : Int) < 1) = false := decide_eq_false (by omega)
                have z12 : decide (sv < 1) = false := decide_eq_false (by omega)
                have z13 : decide (sv = 0) = false := decide_eq_false (by omega)
                have z14 : decide ((sv : Int) ≤ a) = true := decide_eq_true (by omega)
                have z15 : decide (a < (sv : Int)) = false := decide_eq_false (by omega)
                have z16 : decide (0 < sv) = true := decide_eq_true (by omega)
                have z17 : decide (0 < (sv : Int)) = true := decide_eq_true (by omega)
                have hne : (el xs (sv - 1) != el xs (sv - 1)) = false := by simp
                by_cases c3 : sv < xs.length
                · by_cases c2 : a + d ≤ (sv : Int)
                  · have z18 : decide ((sv : Int) < (xs.length : Int)) = true := decide_eq_true (by omega)
                    have z19 : decide (sv < xs.length) = true := decide_eq_true (by omega)
                    have z20 : decide (a + d ≤ (sv : Int)) = true := decide_eq_true (by omega)
                    go_wp2
                    go_quiet (fail)
                    go_wp2
                    go_quiet (fail)
                    go_wp2
                    go_roundw
                    case rel => exact ⟨sv + 1, by omega, by go_num, by first | (rw [HL.out]; done) | (rw [HL.out]; rfl), by repeat (first | exact hB9 | refine below_drewN' ?_ _)⟩
                    case measure => first | (simp [intOf]; done) | (simp [intOf]; omega)
                  · have z21 : decide ((sv : Int) < (xs.length : Int)) = true := decide_eq_true (by omega)
                    have z22 : decide (sv < xs.length) = true := decide_eq_true (by omega)
                    have z23 : decide (a + d ≤ (sv : Int)) = false := decide_eq_false (by omega)
                    go_wp2
                    go_quiet (fail)
                    go_wp2
                    go_quiet (fail)
                    go_wp2
                    go_roundw
                    case rel => exact ⟨sv + 1, by omega, by go_num, by first | (rw [HL.out]; done) | (rw [HL.out]; rfl), by repeat (first | exact hB9 | refine below_drewN' ?_ _)⟩
                    case measure => first | (simp [intOf]; done) | (simp [intOf]; omega)
                · have z24 : decide ((sv : Int) < (xs.length : Int)) = false := decide_eq_false (by omega)
                  have z25 : decide (sv < xs.length) = false := decide_eq_false (by omega)
                  go_wp2
                  go_quiet (fail)
                  go_wp2
                  go_quiet (fail)
                  go_wp2
                  go_roundw
                  case rel => exact ⟨sv + 1, by omega, by go_num, by first | (rw [HL.out]; done) | (rw [HL.out]; rfl), by repeat (first | exact hB9 | refine below_drewN' ?_ _)⟩
                  case measure => first | (simp [intOf]; done) | (simp [intOf]; omega)
            · have hp : 0 < k := by omega
              have hk0 : ¬ k = 0 := by omega
              have c1' : a < (k : Int) := by omega
              clear f3 f4 hE1k
              have z26 : decide (0 < k) = true := decide_eq_true (by omega)
              have z27 : decide (0 < (k : Int)) = true := decide_eq_true (by omega)
              have z28 : decide ((k : Int) ≤ a) = false := decide_eq_false (by omega)
              have z29 : decide (a < (k : Int)) = true := decide_eq_true (by omega)
              by_cases c2 : a + d ≤ (k : Int)
              · have hs := f5 c1' c2
                by_cases c3 : k < xs.length
                · have hE := hE2k c1' c2 hs
                  clear hE2k f5
                  have hsr : sv < rs.length := by omega
                  obtain ⟨ax, rfl, hcx⟩ := hx9.at_ (k := k) c3
                  obtain ⟨ar, rfl, hcr⟩ := hr9.at_ (k := sv) hsr
                  rw [hE] at hcr
                  have hsn : ¬ sv = rs.length := by omega
                  have hsm : ((sv : Int) == (rs.length : Int)) = false := by rw [beq_eq_false_iff_ne]; omega
                  have hsm2 : (sv == rs.length) = false := by rw [beq_eq_false_iff_ne]; omega
                  have hne : (el xs k != el xs k) = false := by simp
                  clear hs
                  have z30 : decide ((k : Int) < (xs.length : Int)) = true := decide_eq_true (by omega)
                  have z31 : decide (k < xs.length) = true := decide_eq_true (by omega)
                  have z32 : decide (a + d ≤ (k : Int)) = true := decide_eq_true (by omega)
                  have z33 : decide (sv = rs.length) = false := decide_eq_false (by omega)
                  go_wp2
                  go_quiet (fail)
                  go_wp2
                  go_quiet (fail)
                  go_wp2
                  go_roundw
                  case rel => exact ⟨k + 1, by omega, by go_num, by first | (rw [HL.out]; done) | (rw [HL.out]; rfl), by repeat (first | exact hB9 | refine below_drewN' ?_ _)⟩
                  case measure => first | (simp [intOf]; done) | (simp [intOf]; omega)
                · clear hE2k f5 hs
                  have z34 : decide ((k : Int) < (xs.length : Int)) = false := decide_eq_false (by omega)
                  have z35 : decide (k < xs.length) = false := decide_eq_false (by omega)
                  go_wp2
                  go_quiet (fail)
                  go_wp2
                  go_quiet (fail)
                  go_wp2
                  go_roundw
                  case rel => exact ⟨k + 1, by omega, by go_num, by first | (rw [HL.out]; done) | (rw [HL.out]; rfl), by repeat (first | exact hB9 | refine below_drewN' ?_ _)⟩
                  case measure => first | (simp [intOf]; done) | (simp [intOf]; omega)
              · clear hE2k f5
                have z36 : decide ((k : Int) < (xs.length : Int)) = true := decide_eq_true (by omega)
                have z37 : decide (k < xs.length) = true := decide_eq_true (by omega)
                have z38 : decide (a + d ≤ (k : Int)) = false := decide_eq_false (by omega)
                go_wp2
                go_quiet (fail)
                go_wp2
                go_quiet (fail)
                go_wp2
                go_roundw
                case rel => exact ⟨k + 1, by omega, by go_num, by first | (rw [HL.out]; done) | (rw [HL.out]; rfl), by repeat (first | exact hB9 | refine below_drewN' ?_ _)⟩
                case measure => first | (simp [intOf]; done) | (simp [intOf]; omega)
          · go_wp2_with fail
            refine (alive_calls _).mono ?_
            rintro e w9 ⟨rfl, hb9⟩
            go_wp2
            go_ret
            exact ⟨rfl, below_on hB hb9⟩
      · have H3 := h3
        go_enter Try.func10, Try.ntmps10
        go_wp2_with fail
        rw [show w.alloc (.cells #[.int .i64 a, .int .i64 d, .slice C zs.length b] 24) = w1 from HW.out.symm]
        refine (small_calls a d C zs.length b _ hzl).mono ?_
        rintro e w_1 ⟨rfl, hb⟩
        replace p0 := cell_keep hb p0
        replace p1 := cell_keep hb p1
        replace p2 := cell_keep hb p2
        replace hz := Rd.below hz hb
        replace hx := Rd.below hx hb
        replace hB := below_on hB hb
        clear hb
        rw [H1.out]
        go_wp2_with fail
        refine (few_calls A xs.length c _ hxl).mono ?_
        rintro e w' ⟨rfl, rfl⟩
        rw [H2.out]
        have H4 := Lib.hid h3
        clear h3 H3
        go_wp2_with fail
        refine (apply_no a d _ A c xs.length _ ba.1 (by omega) H4.out).mono ?_
        rintro e w_2 ⟨rfl, hb⟩
        replace p0 := cell_keep hb p0
        replace p1 := cell_keep hb p1
        replace p2 := cell_keep hb p2
        replace hz := Rd.below hz hb
        replace hx := Rd.below hx hb
        replace hB := below_on hB hb
        clear hb
        go_wp2_with fail
        refine (alive_calls _).mono ?_
        rintro e w_3 ⟨rfl, hb⟩
        replace p0 := cell_keep hb p0
        replace p1 := cell_keep hb p1
        replace p2 := cell_keep hb p2
        replace hz := Rd.below hz hb
        replace hx := Rd.below hx hb
        replace hB := below_on hB hb
        clear hb
        go_wp2
        go_ret
        exact ⟨rfl, hB⟩
    · have H2 := Lib.hid (decide_eq_false h2)
      go_enter Try.func10, Try.ntmps10
      go_wp2_with fail
      rw [show w.alloc (.cells #[.int .i64 a, .int .i64 d, .slice C zs.length b] 24) = w1 from HW.out.symm]
      refine (small_calls a d C zs.length b _ hzl).mono ?_
      rintro e w_1 ⟨rfl, hb⟩
      replace p0 := cell_keep hb p0
      replace p1 := cell_keep hb p1
      replace p2 := cell_keep hb p2
      replace hz := Rd.below hz hb
      replace hx := Rd.below hx hb
      replace hB := below_on hB hb
      clear hb
      rw [H1.out]
      go_wp2_with fail
      refine (few_calls A xs.length c _ hxl).mono ?_
      rintro e w' ⟨rfl, rfl⟩
      rw [H2.out]
      go_wp2_with fail
      refine (alive_calls _).mono ?_
      rintro e w_2 ⟨rfl, hb⟩
      replace p0 := cell_keep hb p0
      replace p1 := cell_keep hb p1
      replace p2 := cell_keep hb p2
      replace hz := Rd.below hz hb
      replace hx := Rd.below hx hb
      replace hB := below_on hB hb
      clear hb
      go_wp2
      go_ret
      exact ⟨rfl, hB⟩
  · have H1 := Lib.hid (decide_eq_false h1)
    go_enter Try.func10, Try.ntmps10
    go_wp2_with fail
    rw [show w.alloc (.cells #[.int .i64 a, .int .i64 d, .slice C zs.length b] 24) = w1 from HW.out.symm]
    refine (small_calls a d C zs.length b _ hzl).mono ?_
    rintro e w_1 ⟨rfl, hb⟩
    replace p0 := cell_keep hb p0
    replace p1 := cell_keep hb p1
    replace p2 := cell_keep hb p2
    replace hz := Rd.below hz hb
    replace hx := Rd.below hx hb
    replace hB := below_on hB hb
    clear hb
    rw [H1.out]
    go_wp2_with fail
    refine (alive_calls _).mono ?_
    rintro e w_2 ⟨rfl, hb⟩
    replace p0 := cell_keep hb p0
    replace p1 := cell_keep hb p1
    replace p2 := cell_keep hb p2
    replace hz := Rd.below hz hb
    replace hx := Rd.below hx hb
    replace hB := below_on hB hb
    clear hb
    go_wp2
    go_ret
    exact ⟨rfl, hB⟩

theorem own : ownKnob Try.prog.godebug = none := by kernel_rfl
theorem laidOut : laidOutB Try.prog = true := by kernel_rfl

set_option maxRecDepth 100000 in
theorem lifted (os : Os) (started : os.Started) (H : Type) (enc : TypeId × Value → H) :
    ReturnsInHanded {} Try.checked os 10 .any (Rows.editsMovesSpec.pre6 enc Try.prog Try.f10 Rows.editsMovesRow.domain false) (Rows.editsMovesSpec.post enc Try.prog Try.f10 false true false false) := by
  refine returnsInHanded_of_change (C := Try.checked) own started (by kernel_rfl) Try.func10
    (ChangeSpec.witness6 (enc := enc) (C := Try.checked) false ⟨#[], #[.agg #[.int .i64 0, .int .i64 0, .slice none 0 0], .slice none 0 0], []⟩ 8 (by kernel_rfl) (by kernel_rfl) (by kernel_rfl) (by kernel_rfl)) ?_
  intro W base args ds gs before hval0 hW hcnd _
  have hval : ∀ (j : Nat) t v, Try.f10.params[j]? = some t → args[j]? = some v → Value.okWide Try.prog W .any base t v := hval0
  have hW' := hW
  obtain ⟨p, q, hA0, hV, rfl, hfz, hnd⟩ := hW
  have hA : DataW.TrodAll enc Try.prog W 0 (fun _ => true) true Try.f10.params.toList args.toList ds p := hA0
  rw [Try.params10] at hA hval
  obtain ⟨v0, vs0, d0, ds0, p0, q0, hargs, rfl, rfl, h0, r0⟩ := trodAll_cons hA
  obtain ⟨v1, vs1, d1, ds1, p1, q1, rfl, rfl, rfl, h1, r1⟩ := trodAll_cons r0
  obtain ⟨rfl, rfl, rfl⟩ := trodAll_nil r1
  obtain rfl : args = #[v0, v1] := by cases args; simp_all
  obtain ⟨rfl, rfl⟩ := trodVars_none hV
  have k0 := h0
  have lt0 := InRow.trod_lt k0
  obtain ⟨a0, b0, A0, c0, x0, rfl, wa0, wb0, w0⟩ := open_edit (ti := 3) (ts := 22) Try.underlying24 (by kernel_rfl) (by kernel_rfl) rfl rfl rfl Try.underlying3 Try.underlying22 (by kernel_rfl) (hval 0 24 v0 rfl rfl) h0
  obtain ⟨A1, len1, c1, rfl⟩ := okWide_slice Try.underlying22 (hval 1 22 v1 rfl rfl)
  have k1 := h1
  have lt1 := InRow.trod_lt k1
  obtain ⟨x1, e1, w1⟩ : ∃ xs : List Int, xs.length = len1 ∧ InRow W A1 c1 xs := by
    obtain ⟨fuel, hf⟩ := h1
    exact open_rd Try.underlying22 Try.underlying3 (by kernel_rfl) (by simpa [Value.cells] using hf)
  subst e1
  clear hA0 hval0
  refine (editsMoves_walk W a0 b0 A0 c0 x0 wa0 wb0 w0 A1 c1 x1 w1).mono fun e W' ⟨he, bel⟩ => ?_
  subst he
  exact ⟨_, rfl, _, _, _, [], _, [], hW', trodAll_mk1 (shut_bool Try.underlying4 _), (trodAll_cons_mk (Below.trod laidOut (by kernel_rfl) (of_decide_eq_true (by kernel_rfl)) k0 bel lt0) (trodAll_cons_mk (Below.trod laidOut (by kernel_rfl) (of_decide_eq_true (by kernel_rfl)) k1 bel lt1) trodAll_mk0)), rfl, bel.frame _, fun h => by cases h⟩

theorem over : Rows.editsMovesRow.holds Try.pinned (OpenSpec.ofChange Rows.editsMovesSpec) :=
  OpenClaim.holds_of_wide 10 Try.f10 rfl rfl rfl rfl rfl rfl rfl ⟨rfl, rfl, rfl, rfl, rfl⟩ rfl rfl rfl rfl rfl (by kernel_rfl) Try.func10 (by kernel_rfl)
    (of_decide_eq_true (by kernel_rfl)) (by unfold Func.isWrapper; first | (rw [if_pos (by decide +kernel)]; kernel_rfl) | (rw [if_neg (by decide +kernel)]; exact ⟨rfl, rfl⟩))
    (fun os started H enc _ => lifted os started H enc)

end Go.Proofs.Ytjdnajmljafkpaa.editsMoves
namespace Go.Proofs.Ytjdnajmljafkpaa
/-- EditsMoves returns true for every edit and every text, and its arguments read behind the call as before. No condition beyond the row's own. -/
theorem editsMoves_holds : Rows.EditsMovesSaid := editsMoves.over
#print axioms editsMoves_holds
end Go.Proofs.Ytjdnajmljafkpaa
