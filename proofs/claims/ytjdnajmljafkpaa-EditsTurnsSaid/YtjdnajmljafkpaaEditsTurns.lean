/- EditsTurns returns true for every pair of texts, and its arguments read behind the call as before. No condition beyond the row's own. -/
import Derived.Test.YtjdnajmljafkpaaRows
import Derived.Test.YtjdnajmljafkpaaFrame
import Derived.Test.YtjdnajmljafkpaaEdK
import Derived.Test.YtjdnajmljafkpaaEdC
import Derived.Test.YtjdnajmljafkpaaEdD
import Derived.Test.YtjdnajmljafkpaaEdLaw
import Derived.Deep.QuietTactic
import Derived.BigQuiet
namespace Go.Proofs.Ytjdnajmljafkpaa.editsTurns
open Go.ChangeShapes Go.WideShapes Go.ChangeAt Go.RowKit Go.Deep
open Go.ChangeMaps (open_string shut_string)
set_option linter.unusedVariables false
set_option linter.unusedSimpArgs false

theorem apply_yes' (a d : Int) (C A : Option Addr) (b c : Nat) (xs ys rs : List Int) (w : World) (HR : Hid (rs = repl xs a.toNat d.toNat ys)) (hx : Rd w A xs) (hy : Rd w C ys) (hc : xs.length ≤ c)
    (hn : xs.length ≤ 1000000) (hm : ys.length ≤ 1000000) (h0 : 0 ≤ a) (h1 : 0 ≤ d) (h2 : a + d ≤ xs.length) :
    Calls Try.prog 22 #[.agg #[.int .i64 a, .int .i64 d, .slice C ys.length b], .slice A xs.length c] w fun e w' =>
      ∃ A1 c1, e = .returned (.tuple #[.slice A1 rs.length c1, .int .i64 0]) ∧ rs.length ≤ c1 ∧ Rd w' A1 rs ∧ Below w.heap.size w w' := by
  refine (apply_yes a d C A b c xs ys w hx hy hc hn hm h0 h1 h2).mono ?_
  rintro e w' ⟨v, rfl, hs, hb⟩
  rw [← HR.out] at hs
  obtain ⟨A1, c1, rfl, h4, _, hr⟩ := hs
  exact ⟨A1, c1, rfl, h4, hr, hb⟩
theorem diff_calls' (A B : Option Addr) (c b p q : Nat) (xs ys vs : List Int) (w : World) (HP : Hid (p = dAt xs ys)) (HQ : Hid (q = xs.length - dAt xs ys - dEnd xs ys)) (HV : Hid (vs = dIns xs ys)) (hx : Rd w A xs) (hy : Rd w B ys) (hc : xs.length ≤ c) (hb : ys.length ≤ b) (hn : xs.length ≤ 1000000) (hm : ys.length ≤ 1000000) :
    Calls Try.prog 18 #[.slice A xs.length c, .slice B ys.length b] w fun e w' =>
      ∃ A1 c1, e = .returned (.agg #[.int .i64 (p : Int), .int .i64 (q : Int), .slice A1 vs.length c1]) ∧ Rd w' A1 vs ∧ Below w.heap.size w w' := by
  refine (diff_calls A B c b xs ys w hx hy hc hb hn hm).mono ?_
  rintro e w' ⟨v, rfl, hs, hb⟩
  rw [← HV.out] at hs
  obtain ⟨A1, c1, rfl, h4, _, hr⟩ := hs
  have he := dEnd_le xs ys
  refine ⟨A1, c1, ?_, hr, hb⟩
  rw [HP.out, show (q : Int) = (xs.length : Int) - dAt xs ys - dEnd xs ys from by rw [HQ.out]; omega]
set_option maxHeartbeats 4000000 in
theorem editsTurns_walk (w : World) (A : Option Addr) (c : Nat) (xs : List Int) (hx : InRow w A c xs) (B : Option Addr) (b : Nat) (ys : List Int) (hy : InRow w B b ys) :
    Calls Try.prog 8 #[.slice A xs.length c, .slice B ys.length b] w fun e w' => e = .returned (.bool true) ∧ Below w.heap.size w w' := by
  obtain ⟨hx, hxc, hxm, _⟩ := hx
  have hxl : xs.length ≤ 9223372036854775807 := by unfold maxLen at hxm; omega
  clear hxm
  obtain ⟨hy, hyc, hym, _⟩ := hy
  have hyl : ys.length ≤ 9223372036854775807 := by unfold maxLen at hym; omega
  clear hym
  by_cases h1 : xs.length ≤ 60
  · have H1 := Lib.hid (decide_eq_true h1)
    by_cases h2 : ys.length ≤ 60
    · have H2 := Lib.hid (decide_eq_true h2)
      have he := dEnd_le xs ys
      have hi := dIns_length xs ys
      obtain ⟨p, hp⟩ : ∃ p, p = dAt xs ys := ⟨_, rfl⟩
      obtain ⟨q, hq⟩ : ∃ q, q = xs.length - dAt xs ys - dEnd xs ys := ⟨_, rfl⟩
      obtain ⟨vs, hv⟩ : ∃ vs, vs = dIns xs ys := ⟨_, rfl⟩
      have hpx : p + q ≤ xs.length := by omega
      have hvl : vs.length ≤ ys.length := by rw [hv]; omega
      have HR : Hid (ys = repl xs (p : Int).toNat (q : Int).toNat vs) := by
        rw [Int.toNat_natCast, Int.toNat_natCast, hp, hq, hv]
        exact Lib.hid (repl_diff xs ys).symm
      by_cases h4 : xs = ys
      · have hs := diff_self xs
        have hq0 : q = 0 := by rw [← h4] at hq; omega
        have hp0 : p = xs.length := by rw [← h4] at hp; omega
        have hv0 : vs.length = 0 := by rw [hv, ← h4]; exact hs.2.2
        have hq1 : q ≤ 0 := by omega
        have hp1 : p ≤ xs.length ∧ xs.length ≤ p := by omega
        have hv1 : vs.length ≤ 0 := by omega
        have HP := Lib.hid hp
        have HQ := Lib.hid hq
        have HV := Lib.hid hv
        have HE := Lib.hid (decide_eq_true h4)
        clear hp hq hv h4 hs hq0 hp0 hv0 he hi
        go_enter Try.func8, Try.ntmps8
        go_wp2_with fail
        refine (few_calls A xs.length c _ hxl).mono ?_
        rintro e w' ⟨rfl, rfl⟩
        rw [H1.out]
        go_wp2_with fail
        refine (few_calls B ys.length b _ hyl).mono ?_
        rintro e w' ⟨rfl, rfl⟩
        rw [H2.out]
        go_wp2_with fail
        refine (diff_calls' A B c b p q xs ys vs _ HP HQ HV hx hy hxc hyc (by omega) (by omega)).mono ?_
        rintro e w_1 ⟨A1, c1, rfl, hr1, hb⟩
        replace hx := Rd.below hx hb
        replace hy := Rd.below hy hb
        have hB := hb
        clear hb
        go_wp2_with fail
        refine (apply_yes' p q A1 A c1 c xs vs ys _ HR (rd_alloc _ hx) (rd_alloc _ hr1) hxc (by omega) (by omega) (by omega) (by omega) (by omega)).mono ?_
        rintro e w_2 ⟨A2, c2, rfl, _, hr2, hb⟩
        replace hx := Rd.below (rd_alloc _ hx) hb
        replace hy := Rd.below (rd_alloc _ hy) hb
        replace hr1 := Rd.below (rd_alloc _ hr1) hb
        have m0 : w_2.cell? ⟨w_1.heap.size, 0, none⟩ = some (.int .i64 (p : Int)) := cell_keep hb (new_cell w_1 #[.int .i64 (p : Int), .int .i64 (q : Int), .slice A1 vs.length c1] 24 w_1.heap.size rfl 0)
        have m1 : w_2.cell? ⟨w_1.heap.size, 1, none⟩ = some (.int .i64 (q : Int)) := cell_keep hb (new_cell w_1 #[.int .i64 (p : Int), .int .i64 (q : Int), .slice A1 vs.length c1] 24 w_1.heap.size rfl 1)
        have m2 : w_2.cell? ⟨w_1.heap.size, 2, none⟩ = some (.slice A1 vs.length c1) := cell_keep hb (new_cell w_1 #[.int .i64 (p : Int), .int .i64 (q : Int), .slice A1 vs.length c1] 24 w_1.heap.size rfl 2)
        replace hB := below_on (below_box hB hB.size _) hb
        clear hb
        go_wp2_with fail
        refine (equal_calls A2 B c2 b ys ys _ hr2 hy (by omega) (by omega)).mono ?_
        rintro e w_3 ⟨rfl, hd⟩
        have hb := hd.below
        clear hd
        replace m0 := cell_keep hb m0
        replace m1 := cell_keep hb m1
        replace m2 := cell_keep hb m2
        replace hx := Rd.below hx hb
        replace hy := Rd.below hy hb
        replace hr1 := Rd.below hr1 hb
        replace hr2 := Rd.below hr2 hb
        replace hB := below_on hB hb
        clear hb
        rw [decide_eq_true rfl]
        have d1 : decide (0 < q) = false := decide_eq_false (by omega)
        go_wp2_with fail
        go_quiet (fail)
        obtain ⟨w_4, hw, hb⟩ : ∃ W, W = w_3.drewN nq ∧ Below w_3.heap.size w_3 W := ⟨_, rfl, below_drewN' (Below.refl _ _) _⟩
        rw [← hw]
        clear hw
        replace m0 := cell_keep hb m0
        replace m1 := cell_keep hb m1
        replace m2 := cell_keep hb m2
        replace hx := Rd.below hx hb
        replace hy := Rd.below hy hb
        replace hr1 := Rd.below hr1 hb
        replace hr2 := Rd.below hr2 hb
        replace hB := below_on hB hb
        clear hb
        have t1 : ((q : Int) == 0) = true := by rw [beq_iff_eq]; omega
        have t2 : ((vs.length : Int) == 0) = true := by rw [beq_iff_eq]; omega
        have t3 : ((p : Int) == (xs.length : Int)) = true := by rw [beq_iff_eq]; omega
        go_wp2_with fail
        refine (equal_calls _ B c b xs ys _ hx hy (by omega) (by omega)).mono ?_
        rintro e w_5 ⟨rfl, hd⟩
        have hb := hd.below
        clear hd
        replace m0 := cell_keep hb m0
        replace m1 := cell_keep hb m1
        replace m2 := cell_keep hb m2
        replace hx := Rd.below hx hb
        replace hy := Rd.below hy hb
        replace hr1 := Rd.below hr1 hb
        replace hr2 := Rd.below hr2 hb
        replace hB := below_on hB hb
        clear hb
        rw [HE.out]
        go_wp2_with fail
        refine (alive_calls _).mono ?_
        rintro e w_6 ⟨rfl, hb⟩
        replace m0 := cell_keep hb m0
        replace m1 := cell_keep hb m1
        replace m2 := cell_keep hb m2
        replace hx := Rd.below hx hb
        replace hy := Rd.below hy hb
        replace hr1 := Rd.below hr1 hb
        replace hr2 := Rd.below hr2 hb
        replace hB := below_on hB hb
        clear hb
        go_wp2
        go_ret
        exact ⟨rfl, hB⟩
      · have HE := Lib.hid (decide_eq_false h4)
        have hf := fun g1 g2 => diff_first (xs := xs) (ys := ys) g1 g2
        have hg := fun g1 g2 => diff_last (xs := xs) (ys := ys) g1 g2
        by_cases h5 : 0 < q
        · by_cases h6 : 0 < vs.length
          · have hf' := hf (by omega) (by rw [← hv]; exact h6)
            have hg' := hg (by omega) (by rw [← hv]; exact h6)
            rw [← hp, ← hv] at hf'
            rw [← hv, show xs.length - dEnd xs ys - 1 = p + q - 1 from by omega] at hg'
            have e3 : (el xs p == el vs 0) = false := by simpa using hf'
            have e4 : (el xs (p + q - 1) == el vs (vs.length - 1)) = false := by simpa using hg'
            have HP := Lib.hid hp
            have HQ := Lib.hid hq
            have HV := Lib.hid hv
            clear hp hq hv h4 he hi hf hg hf' hg'
            go_enter Try.func8, Try.ntmps8
            go_wp2_with fail
            refine (few_calls A xs.length c _ hxl).mono ?_
            rintro e w' ⟨rfl, rfl⟩
            rw [H1.out]
            go_wp2_with fail
            refine (few_calls B ys.length b _ hyl).mono ?_
            rintro e w' ⟨rfl, rfl⟩
            rw [H2.out]
            go_wp2_with fail
            refine (diff_calls' A B c b p q xs ys vs _ HP HQ HV hx hy hxc hyc (by omega) (by omega)).mono ?_
            rintro e w_1 ⟨A1, c1, rfl, hr1, hb⟩
            replace hx := Rd.below hx hb
            replace hy := Rd.below hy hb
            have hB := hb
            clear hb
            go_wp2_with fail
            refine (apply_yes' p q A1 A c1 c xs vs ys _ HR (rd_alloc _ hx) (rd_alloc _ hr1) hxc (by omega) (by omega) (by omega) (by omega) (by omega)).mono ?_
            rintro e w_2 ⟨A2, c2, rfl, _, hr2, hb⟩
            replace hx := Rd.below (rd_alloc _ hx) hb
            replace hy := Rd.below (rd_alloc _ hy) hb
            replace hr1 := Rd.below (rd_alloc _ hr1) hb
            have m0 : w_2.cell? ⟨w_1.heap.size, 0, none⟩ = some (.int .i64 (p : Int)) := cell_keep hb (new_cell w_1 #[.int .i64 (p : Int), .int .i64 (q : Int), .slice A1 vs.length c1] 24 w_1.heap.size rfl 0)
            have m1 : w_2.cell? ⟨w_1.heap.size, 1, none⟩ = some (.int .i64 (q : Int)) := cell_keep hb (new_cell w_1 #[.int .i64 (p : Int), .int .i64 (q : Int), .slice A1 vs.length c1] 24 w_1.heap.size rfl 1)
            have m2 : w_2.cell? ⟨w_1.heap.size, 2, none⟩ = some (.slice A1 vs.length c1) := cell_keep hb (new_cell w_1 #[.int .i64 (p : Int), .int .i64 (q : Int), .slice A1 vs.length c1] 24 w_1.heap.size rfl 2)
            replace hB := below_on (below_box hB hB.size _) hb
            clear hb
            go_wp2_with fail
            refine (equal_calls A2 B c2 b ys ys _ hr2 hy (by omega) (by omega)).mono ?_
            rintro e w_3 ⟨rfl, hd⟩
            have hb := hd.below
            clear hd
            replace m0 := cell_keep hb m0
            replace m1 := cell_keep hb m1
            replace m2 := cell_keep hb m2
            replace hx := Rd.below hx hb
            replace hy := Rd.below hy hb
            replace hr1 := Rd.below hr1 hb
            replace hr2 := Rd.below hr2 hb
            replace hB := below_on hB hb
            clear hb
            rw [decide_eq_true rfl]
            obtain ⟨ad, rfl, hc1⟩ := hx.at_ (k := p) (by omega)
            obtain ⟨ad', hae, hc2⟩ := hx.at_ (k := p + q - 1) (by omega)
            injection hae with hae
            subst hae
            obtain ⟨bd, rfl, hc3⟩ := hr1.at_ (k := 0) (by omega)
            obtain ⟨bd', hbe, hc4⟩ := hr1.at_ (k := vs.length - 1) (by omega)
            injection hbe with hbe
            subst hbe
            simp only [Addr.add, if_pos] at hc3
            have hpq : IntKind.i64.wrap ((p : Int) + q) = (p : Int) + q := IntWalk.i64_in _ (by omega)
            have hpq1 : IntKind.i64.wrap ((p : Int) + q - 1) = (p : Int) + q - 1 := IntWalk.i64_in _ (by omega)
            have hpq2 : (0 : Int) ≤ (p : Int) + q - 1 := by omega
            have hpq3 : ((p : Int) + q - 1).toNat = p + q - 1 := by omega
            have hvl1 : IntKind.i64.wrap ((vs.length : Int) - 1) = (vs.length : Int) - 1 := IntWalk.i64_in _ (by omega)
            have hvl2 : (0 : Int) ≤ (vs.length : Int) - 1 := by omega
            have hvl3 : ((vs.length : Int) - 1).toNat = vs.length - 1 := by omega
            have hi1 : (p : Int) < (xs.length : Int) := by omega
            have hi2 : (p : Int) + q - 1 < (xs.length : Int) := by omega
            have hi3 : (0 : Int) < (vs.length : Int) := by omega
            have hi4 : (vs.length : Int) - 1 < (vs.length : Int) := by omega
            have d1 : decide (0 < q) = true := decide_eq_true (by omega)
            have d2 : decide (0 < vs.length) = true := decide_eq_true (by omega)
            go_wp2_with fail
            go_quiet (fail)
            obtain ⟨w_4, hw, hb⟩ : ∃ W, W = w_3.drewN nq ∧ Below w_3.heap.size w_3 W := ⟨_, rfl, below_drewN' (Below.refl _ _) _⟩
            rw [← hw]
            clear hw
            replace m0 := cell_keep hb m0
            replace m1 := cell_keep hb m1
            replace m2 := cell_keep hb m2
            replace hx := Rd.below hx hb
            replace hy := Rd.below hy hb
            replace hr1 := Rd.below hr1 hb
            replace hr2 := Rd.below hr2 hb
            replace hB := below_on hB hb
            clear hb
            clear hpq hpq1 hpq2 hpq3 hvl1 hvl2 hvl3 hc1 hc2 hc3 hc4
            go_wp2_with fail
            refine (equal_calls _ B c b xs ys _ hx hy (by omega) (by omega)).mono ?_
            rintro e w_5 ⟨rfl, hd⟩
            have hb := hd.below
            clear hd
            replace m0 := cell_keep hb m0
            replace m1 := cell_keep hb m1
            replace m2 := cell_keep hb m2
            replace hx := Rd.below hx hb
            replace hy := Rd.below hy hb
            replace hr1 := Rd.below hr1 hb
            replace hr2 := Rd.below hr2 hb
            replace hB := below_on hB hb
            clear hb
            rw [HE.out]
            go_wp2_with fail
            refine (alive_calls _).mono ?_
            rintro e w_6 ⟨rfl, hb⟩
            replace m0 := cell_keep hb m0
            replace m1 := cell_keep hb m1
            replace m2 := cell_keep hb m2
            replace hx := Rd.below hx hb
            replace hy := Rd.below hy hb
            replace hr1 := Rd.below hr1 hb
            replace hr2 := Rd.below hr2 hb
            replace hB := below_on hB hb
            clear hb
            go_wp2
            go_ret
            exact ⟨rfl, hB⟩
          · have HP := Lib.hid hp
            have HQ := Lib.hid hq
            have HV := Lib.hid hv
            clear hp hq hv h4 he hi hf hg
            go_enter Try.func8, Try.ntmps8
            go_wp2_with fail
            refine (few_calls A xs.length c _ hxl).mono ?_
            rintro e w' ⟨rfl, rfl⟩
            rw [H1.out]
            go_wp2_with fail
            refine (few_calls B ys.length b _ hyl).mono ?_
            rintro e w' ⟨rfl, rfl⟩
            rw [H2.out]
            go_wp2_with fail
            refine (diff_calls' A B c b p q xs ys vs _ HP HQ HV hx hy hxc hyc (by omega) (by omega)).mono ?_
            rintro e w_1 ⟨A1, c1, rfl, hr1, hb⟩
            replace hx := Rd.below hx hb
            replace hy := Rd.below hy hb
            have hB := hb
            clear hb
            go_wp2_with fail
            refine (apply_yes' p q A1 A c1 c xs vs ys _ HR (rd_alloc _ hx) (rd_alloc _ hr1) hxc (by omega) (by omega) (by omega) (by omega) (by omega)).mono ?_
            rintro e w_2 ⟨A2, c2, rfl, _, hr2, hb⟩
            replace hx := Rd.below (rd_alloc _ hx) hb
            replace hy := Rd.below (rd_alloc _ hy) hb
            replace hr1 := Rd.below (rd_alloc _ hr1) hb
            have m0 : w_2.cell? ⟨w_1.heap.size, 0, none⟩ = some (.int .i64 (p : Int)) := cell_keep hb (new_cell w_1 #[.int .i64 (p : Int), .int .i64 (q : Int), .slice A1 vs.length c1] 24 w_1.heap.size rfl 0)
            have m1 : w_2.cell? ⟨w_1.heap.size, 1, none⟩ = some (.int .i64 (q : Int)) := cell_keep hb (new_cell w_1 #[.int .i64 (p : Int), .int .i64 (q : Int), .slice A1 vs.length c1] 24 w_1.heap.size rfl 1)
            have m2 : w_2.cell? ⟨w_1.heap.size, 2, none⟩ = some (.slice A1 vs.length c1) := cell_keep hb (new_cell w_1 #[.int .i64 (p : Int), .int .i64 (q : Int), .slice A1 vs.length c1] 24 w_1.heap.size rfl 2)
            replace hB := below_on (below_box hB hB.size _) hb
            clear hb
            go_wp2_with fail
            refine (equal_calls A2 B c2 b ys ys _ hr2 hy (by omega) (by omega)).mono ?_
            rintro e w_3 ⟨rfl, hd⟩
            have hb := hd.below
            clear hd
            replace m0 := cell_keep hb m0
            replace m1 := cell_keep hb m1
            replace m2 := cell_keep hb m2
            replace hx := Rd.below hx hb
            replace hy := Rd.below hy hb
            replace hr1 := Rd.below hr1 hb
            replace hr2 := Rd.below hr2 hb
            replace hB := below_on hB hb
            clear hb
            rw [decide_eq_true rfl]
            have d1 : decide (0 < q) = true := decide_eq_true (by omega)
            have d2 : decide (0 < vs.length) = false := decide_eq_false (by omega)
            go_wp2_with fail
            go_quiet (fail)
            obtain ⟨w_4, hw, hb⟩ : ∃ W, W = w_3.drewN nq ∧ Below w_3.heap.size w_3 W := ⟨_, rfl, below_drewN' (Below.refl _ _) _⟩
            rw [← hw]
            clear hw
            replace m0 := cell_keep hb m0
            replace m1 := cell_keep hb m1
            replace m2 := cell_keep hb m2
            replace hx := Rd.below hx hb
            replace hy := Rd.below hy hb
            replace hr1 := Rd.below hr1 hb
            replace hr2 := Rd.below hr2 hb
            replace hB := below_on hB hb
            clear hb
            go_wp2_with fail
            refine (equal_calls _ B c b xs ys _ hx hy (by omega) (by omega)).mono ?_
            rintro e w_5 ⟨rfl, hd⟩
            have hb := hd.below
            clear hd
            replace m0 := cell_keep hb m0
            replace m1 := cell_keep hb m1
            replace m2 := cell_keep hb m2
            replace hx := Rd.below hx hb
            replace hy := Rd.below hy hb
            replace hr1 := Rd.below hr1 hb
            replace hr2 := Rd.below hr2 hb
            replace hB := below_on hB hb
            clear hb
            rw [HE.out]
            go_wp2_with fail
            refine (alive_calls _).mono ?_
            rintro e w_6 ⟨rfl, hb⟩
            replace m0 := cell_keep hb m0
            replace m1 := cell_keep hb m1
            replace m2 := cell_keep hb m2
            replace hx := Rd.below hx hb
            replace hy := Rd.below hy hb
            replace hr1 := Rd.below hr1 hb
            replace hr2 := Rd.below hr2 hb
            replace hB := below_on hB hb
            clear hb
            go_wp2
            go_ret
            exact ⟨rfl, hB⟩
        · have HP := Lib.hid hp
          have HQ := Lib.hid hq
          have HV := Lib.hid hv
          clear hp hq hv h4 he hi hf hg
          go_enter Try.func8, Try.ntmps8
          go_wp2_with fail
          refine (few_calls A xs.length c _ hxl).mono ?_
          rintro e w' ⟨rfl, rfl⟩
          rw [H1.out]
          go_wp2_with fail
          refine (few_calls B ys.length b _ hyl).mono ?_
          rintro e w' ⟨rfl, rfl⟩
          rw [H2.out]
          go_wp2_with fail
          refine (diff_calls' A B c b p q xs ys vs _ HP HQ HV hx hy hxc hyc (by omega) (by omega)).mono ?_
          rintro e w_1 ⟨A1, c1, rfl, hr1, hb⟩
          replace hx := Rd.below hx hb
          replace hy := Rd.below hy hb
          have hB := hb
          clear hb
          go_wp2_with fail
          refine (apply_yes' p q A1 A c1 c xs vs ys _ HR (rd_alloc _ hx) (rd_alloc _ hr1) hxc (by omega) (by omega) (by omega) (by omega) (by omega)).mono ?_
          rintro e w_2 ⟨A2, c2, rfl, _, hr2, hb⟩
          replace hx := Rd.below (rd_alloc _ hx) hb
          replace hy := Rd.below (rd_alloc _ hy) hb
          replace hr1 := Rd.below (rd_alloc _ hr1) hb
          have m0 : w_2.cell? ⟨w_1.heap.size, 0, none⟩ = some (.int .i64 (p : Int)) := cell_keep hb (new_cell w_1 #[.int .i64 (p : Int), .int .i64 (q : Int), .slice A1 vs.length c1] 24 w_1.heap.size rfl 0)
          have m1 : w_2.cell? ⟨w_1.heap.size, 1, none⟩ = some (.int .i64 (q : Int)) := cell_keep hb (new_cell w_1 #[.int .i64 (p : Int), .int .i64 (q : Int), .slice A1 vs.length c1] 24 w_1.heap.size rfl 1)
          have m2 : w_2.cell? ⟨w_1.heap.size, 2, none⟩ = some (.slice A1 vs.length c1) := cell_keep hb (new_cell w_1 #[.int .i64 (p : Int), .int .i64 (q : Int), .slice A1 vs.length c1] 24 w_1.heap.size rfl 2)
          replace hB := below_on (below_box hB hB.size _) hb
          clear hb
          go_wp2_with fail
          refine (equal_calls A2 B c2 b ys ys _ hr2 hy (by omega) (by omega)).mono ?_
          rintro e w_3 ⟨rfl, hd⟩
          have hb := hd.below
          clear hd
          replace m0 := cell_keep hb m0
          replace m1 := cell_keep hb m1
          replace m2 := cell_keep hb m2
          replace hx := Rd.below hx hb
          replace hy := Rd.below hy hb
          replace hr1 := Rd.below hr1 hb
          replace hr2 := Rd.below hr2 hb
          replace hB := below_on hB hb
          clear hb
          rw [decide_eq_true rfl]
          have d1 : decide (0 < q) = false := decide_eq_false (by omega)
          go_wp2_with fail
          go_quiet (fail)
          obtain ⟨w_4, hw, hb⟩ : ∃ W, W = w_3.drewN nq ∧ Below w_3.heap.size w_3 W := ⟨_, rfl, below_drewN' (Below.refl _ _) _⟩
          rw [← hw]
          clear hw
          replace m0 := cell_keep hb m0
          replace m1 := cell_keep hb m1
          replace m2 := cell_keep hb m2
          replace hx := Rd.below hx hb
          replace hy := Rd.below hy hb
          replace hr1 := Rd.below hr1 hb
          replace hr2 := Rd.below hr2 hb
          replace hB := below_on hB hb
          clear hb
          go_wp2_with fail
          refine (equal_calls _ B c b xs ys _ hx hy (by omega) (by omega)).mono ?_
          rintro e w_5 ⟨rfl, hd⟩
          have hb := hd.below
          clear hd
          replace m0 := cell_keep hb m0
          replace m1 := cell_keep hb m1
          replace m2 := cell_keep hb m2
          replace hx := Rd.below hx hb
          replace hy := Rd.below hy hb
          replace hr1 := Rd.below hr1 hb
          replace hr2 := Rd.below hr2 hb
          replace hB := below_on hB hb
          clear hb
          rw [HE.out]
          go_wp2_with fail
          refine (alive_calls _).mono ?_
          rintro e w_6 ⟨rfl, hb⟩
          replace m0 := cell_keep hb m0
          replace m1 := cell_keep hb m1
          replace m2 := cell_keep hb m2
          replace hx := Rd.below hx hb
          replace hy := Rd.below hy hb
          replace hr1 := Rd.below hr1 hb
          replace hr2 := Rd.below hr2 hb
          replace hB := below_on hB hb
          clear hb
          go_wp2
          go_ret
          exact ⟨rfl, hB⟩
    · have H2 := Lib.hid (decide_eq_false h2)
      go_enter Try.func8, Try.ntmps8
      go_wp2_with fail
      refine (few_calls A xs.length c _ hxl).mono ?_
      rintro e w' ⟨rfl, rfl⟩
      rw [H1.out]
      go_wp2_with fail
      refine (few_calls B ys.length b _ hyl).mono ?_
      rintro e w' ⟨rfl, rfl⟩
      rw [H2.out]
      go_wp2_with fail
      refine (alive_calls _).mono ?_
      rintro e w_1 ⟨rfl, hb⟩
      replace hx := Rd.below hx hb
      replace hy := Rd.below hy hb
      have hB := hb
      clear hb
      go_wp2
      go_ret
      exact ⟨rfl, hB⟩
  · have H1 := Lib.hid (decide_eq_false h1)
    go_enter Try.func8, Try.ntmps8
    go_wp2_with fail
    refine (few_calls A xs.length c _ hxl).mono ?_
    rintro e w' ⟨rfl, rfl⟩
    rw [H1.out]
    go_wp2_with fail
    refine (alive_calls _).mono ?_
    rintro e w_1 ⟨rfl, hb⟩
    replace hx := Rd.below hx hb
    replace hy := Rd.below hy hb
    have hB := hb
    clear hb
    go_wp2
    go_ret
    exact ⟨rfl, hB⟩

theorem own : ownKnob Try.prog.godebug = none := by kernel_rfl
theorem laidOut : laidOutB Try.prog = true := by kernel_rfl

set_option maxRecDepth 100000 in
theorem lifted (os : Os) (started : os.Started) (H : Type) (enc : TypeId × Value → H) :
    ReturnsInHanded {} Try.checked os 8 .any (Rows.editsTurnsSpec.pre6 enc Try.prog Try.f8 Rows.editsTurnsRow.domain false) (Rows.editsTurnsSpec.post enc Try.prog Try.f8 false true false false) := by
  refine returnsInHanded_of_change (C := Try.checked) own started (by kernel_rfl) Try.func8
    (ChangeSpec.witness6 (enc := enc) (C := Try.checked) false ⟨#[], #[.slice none 0 0, .slice none 0 0], []⟩ 8 (by kernel_rfl) (by kernel_rfl) (by kernel_rfl) (by kernel_rfl)) ?_
  intro W base args ds gs before hval0 hW hcnd _
  have hval : ∀ (j : Nat) t v, Try.f8.params[j]? = some t → args[j]? = some v → Value.okWide Try.prog W .any base t v := hval0
  have hW' := hW
  obtain ⟨p, q, hA0, hV, rfl, hfz, hnd⟩ := hW
  have hA : DataW.TrodAll enc Try.prog W 0 (fun _ => true) true Try.f8.params.toList args.toList ds p := hA0
  rw [Try.params8] at hA hval
  obtain ⟨v0, vs0, d0, ds0, p0, q0, hargs, rfl, rfl, h0, r0⟩ := trodAll_cons hA
  obtain ⟨v1, vs1, d1, ds1, p1, q1, rfl, rfl, rfl, h1, r1⟩ := trodAll_cons r0
  obtain ⟨rfl, rfl, rfl⟩ := trodAll_nil r1
  obtain rfl : args = #[v0, v1] := by cases args; simp_all
  obtain ⟨rfl, rfl⟩ := trodVars_none hV
  obtain ⟨A0, len0, c0, rfl⟩ := okWide_slice Try.underlying22 (hval 0 22 v0 rfl rfl)
  have k0 := h0
  have lt0 := InRow.trod_lt k0
  obtain ⟨x0, e0, w0⟩ : ∃ xs : List Int, xs.length = len0 ∧ InRow W A0 c0 xs := by
    obtain ⟨fuel, hf⟩ := h0
    exact open_rd Try.underlying22 Try.underlying3 (by kernel_rfl) (by simpa [Value.cells] using hf)
  subst e0
  obtain ⟨A1, len1, c1, rfl⟩ := okWide_slice Try.underlying22 (hval 1 22 v1 rfl rfl)
  have k1 := h1
  have lt1 := InRow.trod_lt k1
  obtain ⟨x1, e1, w1⟩ : ∃ xs : List Int, xs.length = len1 ∧ InRow W A1 c1 xs := by
    obtain ⟨fuel, hf⟩ := h1
    exact open_rd Try.underlying22 Try.underlying3 (by kernel_rfl) (by simpa [Value.cells] using hf)
  subst e1
  clear hA0 hval0
  refine (editsTurns_walk W A0 c0 x0 w0 A1 c1 x1 w1).mono fun e W' ⟨he, bel⟩ => ?_
  subst he
  exact ⟨_, rfl, _, _, _, [], _, [], hW', trodAll_mk1 (shut_bool Try.underlying4 _), (trodAll_cons_mk (Below.trod laidOut (by kernel_rfl) (of_decide_eq_true (by kernel_rfl)) k0 bel lt0) (trodAll_cons_mk (Below.trod laidOut (by kernel_rfl) (of_decide_eq_true (by kernel_rfl)) k1 bel lt1) trodAll_mk0)), rfl, bel.frame _, fun h => by cases h⟩

theorem over : Rows.editsTurnsRow.holds Try.pinned (OpenSpec.ofChange Rows.editsTurnsSpec) :=
  OpenClaim.holds_of_wide 8 Try.f8 rfl rfl rfl rfl rfl rfl rfl ⟨rfl, rfl, rfl, rfl, rfl⟩ rfl rfl rfl rfl rfl (by kernel_rfl) Try.func8 (by kernel_rfl)
    (of_decide_eq_true (by kernel_rfl)) (by unfold Func.isWrapper; first | (rw [if_pos (by decide +kernel)]; kernel_rfl) | (rw [if_neg (by decide +kernel)]; exact ⟨rfl, rfl⟩))
    (fun os started H enc _ => lifted os started H enc)

end Go.Proofs.Ytjdnajmljafkpaa.editsTurns
namespace Go.Proofs.Ytjdnajmljafkpaa
/-- EditsTurns returns true for every pair of texts, and its arguments read behind the call as before. No condition beyond the row's own. -/
theorem editsTurns_holds : Rows.EditsTurnsSaid := editsTurns.over
#print axioms editsTurns_holds
end Go.Proofs.Ytjdnajmljafkpaa
