/- EditsTwice returns true for every pair of edits and every text, and its arguments read behind the call as before. No condition beyond the row's own. -/
import Derived.Test.YtjdnajmljafkpaaRows
import Derived.Test.YtjdnajmljafkpaaFrame
import Derived.Test.YtjdnajmljafkpaaEdK
import Derived.Test.YtjdnajmljafkpaaEdI
import Derived.Test.YtjdnajmljafkpaaEdD
import Derived.Test.YtjdnajmljafkpaaEdLaw
namespace Go.Proofs.Ytjdnajmljafkpaa.editsTwice
open Go.ChangeShapes Go.WideShapes Go.ChangeAt Go.RowKit Go.Deep
open Go.ChangeMaps (open_string shut_string)
set_option linter.unusedVariables false
set_option linter.unusedSimpArgs false

theorem apply_yes' (a d : Int) (C A : Option Addr) (b c : Nat) (xs ys rs : List Int) (w : World) (HR : Hid (rs = repl xs a.toNat d.toNat ys)) (hx : Rd w A xs) (hy : Rd w C ys) (hc : xs.length ≤ c)
    (hn : xs.length ≤ 1000000) (hm : ys.length ≤ 1000000) (h0 : 0 ≤ a) (h1 : 0 ≤ d) (h2 : a + d ≤ xs.length) :
    Calls Try.prog 22 #[.agg #[.int .i64 a, .int .i64 d, .slice C ys.length b], .slice A xs.length c] w fun e w' =>
      ∃ A1 c1, e = .returned (.tuple #[.slice A1 rs.length c1, .int .i64 0]) ∧ rs.length ≤ c1 ∧ Rd w' A1 rs ∧ Below w.heap.size w w' := by
  refine (apply_yes a d C A b c xs ys w hx hy hc hn hm h0 h1 h2).mono ?_
  rintro e w' ⟨v, rfl, hs, hb⟩
  rw [← HR.out] at hs
  obtain ⟨A1, c1, rfl, h4, _, hr⟩ := hs
  exact ⟨A1, c1, rfl, h4, hr, hb⟩
theorem merge_yes' (a d a' d' : Int) (A B : Option Addr) (c b : Nat) (xs ys vs : List Int) (w : World) (HV : Hid (vs = repl xs (a' - a).toNat d'.toNat ys)) (hx : Rd w A xs) (hy : Rd w B ys) (hcx : xs.length ≤ c) (hcy : ys.length ≤ b) (hn : xs.length ≤ 1000000) (hm : ys.length ≤ 1000000)
    (ha1 : a ≤ 9223372036854775807) (hb1 : a' ≤ 9223372036854775807) (h : mg a d a' d' xs.length) :
    Calls Try.prog 20 #[.agg #[.int .i64 a, .int .i64 d, .slice A xs.length c], .agg #[.int .i64 a', .int .i64 d', .slice B ys.length b]] w fun e w' =>
      ∃ A1 c1, e = .returned (.tuple #[.agg #[.int .i64 a, .int .i64 d, .slice A1 vs.length c1], .bool true]) ∧ Rd w' A1 vs ∧ Below w.heap.size w w' := by
  refine (merge_yes a d a' d' A B c b xs ys w hx hy hcx hcy hn hm ha1 hb1 h).mono ?_
  rintro e w' ⟨v, rfl, hs, hb⟩
  rw [← HV.out] at hs
  obtain ⟨A1, c1, rfl, _, _, hr⟩ := hs
  exact ⟨A1, c1, rfl, hr, hb⟩
set_option maxHeartbeats 4000000 in
theorem editsTwice_walk (w : World) (a d : Int) (C : Option Addr) (b : Nat) (zs : List Int) (wa : (Lit.int .i64 a).wf = true) (wd : (Lit.int .i64 d).wf = true) (hz : InRow w C b zs) (a' d' : Int) (D : Option Addr) (e : Nat) (us : List Int) (wa' : (Lit.int .i64 a').wf = true) (wd' : (Lit.int .i64 d').wf = true) (hu : InRow w D e us) (A : Option Addr) (c : Nat) (xs : List Int) (hx : InRow w A c xs) :
    Calls Try.prog 9 #[.agg #[.int .i64 a, .int .i64 d, .slice C zs.length b], .agg #[.int .i64 a', .int .i64 d', .slice D us.length e], .slice A xs.length c] w fun e w' => e = .returned (.bool true) ∧ Below w.heap.size w w' := by
  have ba := bounds_i64 wa
  have bd := bounds_i64 wd
  clear wa wd
  obtain ⟨hz, hzc, hzm, _⟩ := hz
  have hzl : zs.length ≤ 9223372036854775807 := by unfold maxLen at hzm; omega
  clear hzm
  obtain ⟨hx, hxc, hxm, _⟩ := hx
  have hxl : xs.length ≤ 9223372036854775807 := by unfold maxLen at hxm; omega
  clear hxm
  have ba' := bounds_i64 wa'
  have bd' := bounds_i64 wd'
  clear wa' wd'
  obtain ⟨hu, huc, hum, _⟩ := hu
  have hul : us.length ≤ 9223372036854775807 := by unfold maxLen at hum; omega
  clear hum
  obtain ⟨w1, hw1⟩ : ∃ w1, w1 = (w.alloc (.cells #[.int .i64 a, .int .i64 d, .slice C zs.length b] 24)).alloc (.cells #[.int .i64 a', .int .i64 d', .slice D us.length e] 24) := ⟨_, rfl⟩
  have hB : Below w.heap.size w w1 := by rw [hw1]; exact (box_below w _).alloc (by simp) _
  have p0 : w1.cell? ⟨w.heap.size, 0, none⟩ = some (.int .i64 a) := by rw [hw1]; exact cell_alloc _ (new_cell w #[.int .i64 a, .int .i64 d, .slice C zs.length b] 24 w.heap.size rfl 0)
  have p1 : w1.cell? ⟨w.heap.size, 1, none⟩ = some (.int .i64 d) := by rw [hw1]; exact cell_alloc _ (new_cell w #[.int .i64 a, .int .i64 d, .slice C zs.length b] 24 w.heap.size rfl 1)
  have p2 : w1.cell? ⟨w.heap.size, 2, none⟩ = some (.slice C zs.length b) := by rw [hw1]; exact cell_alloc _ (new_cell w #[.int .i64 a, .int .i64 d, .slice C zs.length b] 24 w.heap.size rfl 2)
  have q0 : w1.cell? ⟨w.heap.size + 1, 0, none⟩ = some (.int .i64 a') := by rw [hw1]; exact new_cell _ #[.int .i64 a', .int .i64 d', .slice D us.length e] 24 (w.heap.size + 1) (by simp) 0
  have q1 : w1.cell? ⟨w.heap.size + 1, 1, none⟩ = some (.int .i64 d') := by rw [hw1]; exact new_cell _ #[.int .i64 a', .int .i64 d', .slice D us.length e] 24 (w.heap.size + 1) (by simp) 1
  have q2 : w1.cell? ⟨w.heap.size + 1, 2, none⟩ = some (.slice D us.length e) := by rw [hw1]; exact new_cell _ #[.int .i64 a', .int .i64 d', .slice D us.length e] 24 (w.heap.size + 1) (by simp) 2
  have HW := Lib.hid hw1
  clear hw1
  replace hz := hz.below hB
  replace hu := hu.below hB
  replace hx := hx.below hB
  by_cases h1 : zs.length ≤ 40
  · have H1 := Lib.hid (decide_eq_true h1)
    by_cases h2 : us.length ≤ 40
    · have H2 := Lib.hid (decide_eq_true h2)
      by_cases h3 : xs.length ≤ 60
      · have H3 := Lib.hid (decide_eq_true h3)
        by_cases hM : mg a d a' d' zs.length
        · by_cases h4 : chk a d xs.length = 0
          · obtain ⟨k0, k1, k2, k3⟩ := chk_ok.1 h4
            clear h4
            obtain ⟨rs, hrs⟩ : ∃ rs, rs = repl xs a.toNat d.toNat zs := ⟨_, rfl⟩
            have hrl := length_repl (xs := xs) (ys := zs) (a := a.toNat) (d := d.toNat) (by omega)
            rw [← hrs] at hrl
            have hrl1 : rs.length + d.toNat ≤ xs.length + zs.length ∧ xs.length + zs.length ≤ rs.length + d.toNat := by omega
            have HR := Lib.hid hrs
            clear hrs hrl
            obtain ⟨g0, g1, g2, g3, g4, g5⟩ := id hM
            obtain ⟨vs, hvs⟩ : ∃ vs, vs = repl zs (a' - a).toNat d'.toNat us := ⟨_, rfl⟩
            have hvl := length_repl (xs := zs) (ys := us) (a := (a' - a).toNat) (d := d'.toNat) (by omega)
            rw [← hvs] at hvl
            have hvl1 : vs.length ≤ 1000000 := by omega
            have HV := Lib.hid hvs
            obtain ⟨ts, hts⟩ : ∃ ts, ts = repl rs a'.toNat d'.toNat us := ⟨_, rfl⟩
            have htl := length_repl (xs := rs) (ys := us) (a := a'.toNat) (d := d'.toNat) (by omega)
            rw [← hts] at htl
            have htl1 : ts.length ≤ 1000000 := by omega
            have HT := Lib.hid hts
            have HT2 : Hid (ts = repl xs a.toNat d.toNat vs) := by
              have h5 := repl_repl (xs := xs) (ys := zs) (zs := us) (a := a.toNat) (d := d.toNat) (k := (a' - a).toNat) (e := d'.toNat) (by omega) (by omega)
              rw [show a.toNat + (a' - a).toNat = a'.toNat from by omega, ← HR.out, ← hts, ← hvs] at h5
              exact h5
            have HM := Lib.hid hM
            clear hvs hvl hts htl hM
            go_enter Try.func9, Try.ntmps9
            go_wp2_with fail
            rw [show (w.alloc (.cells #[.int .i64 a, .int .i64 d, .slice C zs.length b] 24)).alloc (.cells #[.int .i64 a', .int .i64 d', .slice D us.length e] 24) = w1 from HW.out.symm]
            refine (small_calls a d C zs.length b _ hzl).mono ?_
            rintro e w_1 ⟨rfl, hb⟩
            replace p0 := cell_keep hb p0
            replace p1 := cell_keep hb p1
            replace p2 := cell_keep hb p2
            replace q0 := cell_keep hb q0
            replace q1 := cell_keep hb q1
            replace q2 := cell_keep hb q2
            replace hz := Rd.below hz hb
            replace hx := Rd.below hx hb
            replace hu := Rd.below hu hb
            replace hB := below_on hB hb
            clear hb
            rw [H1.out]
            go_wp2_with fail
            refine (small_calls a' d' D us.length e _ hul).mono ?_
            rintro e w_2 ⟨rfl, hb⟩
            replace p0 := cell_keep hb p0
            replace p1 := cell_keep hb p1
            replace p2 := cell_keep hb p2
            replace q0 := cell_keep hb q0
            replace q1 := cell_keep hb q1
            replace q2 := cell_keep hb q2
            replace hz := Rd.below hz hb
            replace hx := Rd.below hx hb
            replace hu := Rd.below hu hb
            replace hB := below_on hB hb
            clear hb
            rw [H2.out]
            go_wp2_with fail
            refine (few_calls A xs.length c _ hxl).mono ?_
            rintro e w' ⟨rfl, rfl⟩
            rw [H3.out]
            go_wp2_with fail
            refine (merge_yes' a d a' d' C D b e zs us vs _ HV hz hu hzc huc (by omega) (by omega) ba.2 ba'.2 HM.out).mono ?_
            rintro e w_3 ⟨A1, c1, rfl, hr1, hb⟩
            replace p0 := cell_keep hb p0
            replace p1 := cell_keep hb p1
            replace p2 := cell_keep hb p2
            replace q0 := cell_keep hb q0
            replace q1 := cell_keep hb q1
            replace q2 := cell_keep hb q2
            replace hz := Rd.below hz hb
            replace hx := Rd.below hx hb
            replace hu := Rd.below hu hb
            replace hB := below_on hB hb
            clear hb
            have x_p0 : ∀ o, (w_3.alloc o).cell? ⟨w.heap.size, 0, none⟩ = some (.int .i64 a) := fun o => cell_alloc o p0
            have x_p1 : ∀ o, (w_3.alloc o).cell? ⟨w.heap.size, 1, none⟩ = some (.int .i64 d) := fun o => cell_alloc o p1
            have x_p2 : ∀ o, (w_3.alloc o).cell? ⟨w.heap.size, 2, none⟩ = some (.slice C zs.length b) := fun o => cell_alloc o p2
            have x_q0 : ∀ o, (w_3.alloc o).cell? ⟨w.heap.size + 1, 0, none⟩ = some (.int .i64 a') := fun o => cell_alloc o q0
            have x_q1 : ∀ o, (w_3.alloc o).cell? ⟨w.heap.size + 1, 1, none⟩ = some (.int .i64 d') := fun o => cell_alloc o q1
            have x_q2 : ∀ o, (w_3.alloc o).cell? ⟨w.heap.size + 1, 2, none⟩ = some (.slice D us.length e) := fun o => cell_alloc o q2
            go_wp2_with fail
            refine (apply_yes' a d C A b c xs zs rs _ HR (rd_alloc _ hx) (rd_alloc _ hz) hxc (by omega) (by omega) k0 k1 (by omega)).mono ?_
            rintro e w_4 ⟨A2, c2, rfl, hr2c, hr2, hb⟩
            clear x_p0 x_p1 x_p2 x_q0 x_q1 x_q2
            replace p0 := cell_keep hb (cell_alloc _ p0)
            replace p1 := cell_keep hb (cell_alloc _ p1)
            replace p2 := cell_keep hb (cell_alloc _ p2)
            replace q0 := cell_keep hb (cell_alloc _ q0)
            replace q1 := cell_keep hb (cell_alloc _ q1)
            replace q2 := cell_keep hb (cell_alloc _ q2)
            replace hz := Rd.below (rd_alloc _ hz) hb
            replace hx := Rd.below (rd_alloc _ hx) hb
            replace hu := Rd.below (rd_alloc _ hu) hb
            replace hr1 := Rd.below (rd_alloc _ hr1) hb
            have m0 : w_4.cell? ⟨w_3.heap.size, 0, none⟩ = some (.int .i64 a) := cell_keep hb (new_cell w_3 #[.int .i64 a, .int .i64 d, .slice A1 vs.length c1] 24 w_3.heap.size rfl 0)
            have m1 : w_4.cell? ⟨w_3.heap.size, 1, none⟩ = some (.int .i64 d) := cell_keep hb (new_cell w_3 #[.int .i64 a, .int .i64 d, .slice A1 vs.length c1] 24 w_3.heap.size rfl 1)
            have m2 : w_4.cell? ⟨w_3.heap.size, 2, none⟩ = some (.slice A1 vs.length c1) := cell_keep hb (new_cell w_3 #[.int .i64 a, .int .i64 d, .slice A1 vs.length c1] 24 w_3.heap.size rfl 2)
            replace hB := below_on (below_box hB hB.size _) hb
            clear hb
            go_wp2_with fail
            refine (apply_yes' a' d' D _ e c2 rs us ts _ HT hr2 hu hr2c (by omega) (by omega) (by omega) g3 (by omega)).mono ?_
            rintro e w_5 ⟨A3, c3, rfl, _, hr3, hb⟩
            replace p0 := cell_keep hb p0
            replace p1 := cell_keep hb p1
            replace p2 := cell_keep hb p2
            replace q0 := cell_keep hb q0
            replace q1 := cell_keep hb q1
            replace q2 := cell_keep hb q2
            replace m0 := cell_keep hb m0
            replace m1 := cell_keep hb m1
            replace m2 := cell_keep hb m2
            replace hz := Rd.below hz hb
            replace hx := Rd.below hx hb
            replace hu := Rd.below hu hb
            replace hr1 := Rd.below hr1 hb
            replace hr2 := Rd.below hr2 hb
            replace hB := below_on hB hb
            clear hb
            go_wp2_with fail
            refine (apply_yes' a d _ A c1 c xs vs ts _ HT2 hx hr1 hxc (by omega) hvl1 k0 k1 (by omega)).mono ?_
            rintro e w_6 ⟨A4, c4, rfl, _, hr4, hb⟩
            replace p0 := cell_keep hb p0
            replace p1 := cell_keep hb p1
            replace p2 := cell_keep hb p2
            replace q0 := cell_keep hb q0
            replace q1 := cell_keep hb q1
            replace q2 := cell_keep hb q2
            replace m0 := cell_keep hb m0
            replace m1 := cell_keep hb m1
            replace m2 := cell_keep hb m2
            replace hz := Rd.below hz hb
            replace hx := Rd.below hx hb
            replace hu := Rd.below hu hb
            replace hr1 := Rd.below hr1 hb
            replace hr2 := Rd.below hr2 hb
            replace hr3 := Rd.below hr3 hb
            replace hB := below_on hB hb
            clear hb
            go_wp2_with fail
            refine (equal_calls A3 A4 c3 c4 ts ts _ hr3 hr4 (by omega) (by omega)).mono ?_
            rintro e w_7 ⟨rfl, hd⟩
            have hb := hd.below
            clear hd
            replace p0 := cell_keep hb p0
            replace p1 := cell_keep hb p1
            replace p2 := cell_keep hb p2
            replace q0 := cell_keep hb q0
            replace q1 := cell_keep hb q1
            replace q2 := cell_keep hb q2
            replace m0 := cell_keep hb m0
            replace m1 := cell_keep hb m1
            replace m2 := cell_keep hb m2
            replace hz := Rd.below hz hb
            replace hx := Rd.below hx hb
            replace hu := Rd.below hu hb
            replace hr1 := Rd.below hr1 hb
            replace hr2 := Rd.below hr2 hb
            replace hr3 := Rd.below hr3 hb
            replace hr4 := Rd.below hr4 hb
            replace hB := below_on hB hb
            clear hb
            rw [decide_eq_true rfl]
            go_wp2_with fail
            refine (alive_calls _).mono ?_
            rintro e w_8 ⟨rfl, hb⟩
            replace p0 := cell_keep hb p0
            replace p1 := cell_keep hb p1
            replace p2 := cell_keep hb p2
            replace q0 := cell_keep hb q0
            replace q1 := cell_keep hb q1
            replace q2 := cell_keep hb q2
            replace m0 := cell_keep hb m0
            replace m1 := cell_keep hb m1
            replace m2 := cell_keep hb m2
            replace hz := Rd.below hz hb
            replace hx := Rd.below hx hb
            replace hu := Rd.below hu hb
            replace hr1 := Rd.below hr1 hb
            replace hr2 := Rd.below hr2 hb
            replace hr3 := Rd.below hr3 hb
            replace hr4 := Rd.below hr4 hb
            replace hB := below_on hB hb
            clear hb
            go_wp2
            go_ret
            exact ⟨rfl, hB⟩
          · have H4 := Lib.hid h4
            clear h4
            obtain ⟨vs, hvs⟩ : ∃ vs, vs = repl zs (a' - a).toNat d'.toNat us := ⟨_, rfl⟩
            have HV := Lib.hid hvs
            have HM := Lib.hid hM
            clear hvs hM
            go_enter Try.func9, Try.ntmps9
            go_wp2_with fail
            rw [show (w.alloc (.cells #[.int .i64 a, .int .i64 d, .slice C zs.length b] 24)).alloc (.cells #[.int .i64 a', .int .i64 d', .slice D us.length e] 24) = w1 from HW.out.symm]
            refine (small_calls a d C zs.length b _ hzl).mono ?_
            rintro e w_1 ⟨rfl, hb⟩
            replace p0 := cell_keep hb p0
            replace p1 := cell_keep hb p1
            replace p2 := cell_keep hb p2
            replace q0 := cell_keep hb q0
            replace q1 := cell_keep hb q1
            replace q2 := cell_keep hb q2
            replace hz := Rd.below hz hb
            replace hx := Rd.below hx hb
            replace hu := Rd.below hu hb
            replace hB := below_on hB hb
            clear hb
            rw [H1.out]
            go_wp2_with fail
            refine (small_calls a' d' D us.length e _ hul).mono ?_
            rintro e w_2 ⟨rfl, hb⟩
            replace p0 := cell_keep hb p0
            replace p1 := cell_keep hb p1
            replace p2 := cell_keep hb p2
            replace q0 := cell_keep hb q0
            replace q1 := cell_keep hb q1
            replace q2 := cell_keep hb q2
            replace hz := Rd.below hz hb
            replace hx := Rd.below hx hb
            replace hu := Rd.below hu hb
            replace hB := below_on hB hb
            clear hb
            rw [H2.out]
            go_wp2_with fail
            refine (few_calls A xs.length c _ hxl).mono ?_
            rintro e w' ⟨rfl, rfl⟩
            rw [H3.out]
            go_wp2_with fail
            refine (merge_yes' a d a' d' C D b e zs us vs _ HV hz hu hzc huc (by omega) (by omega) ba.2 ba'.2 HM.out).mono ?_
            rintro e w_3 ⟨A1, c1, rfl, hr1, hb⟩
            replace p0 := cell_keep hb p0
            replace p1 := cell_keep hb p1
            replace p2 := cell_keep hb p2
            replace q0 := cell_keep hb q0
            replace q1 := cell_keep hb q1
            replace q2 := cell_keep hb q2
            replace hz := Rd.below hz hb
            replace hx := Rd.below hx hb
            replace hu := Rd.below hu hb
            replace hB := below_on hB hb
            clear hb
            have x_p0 : ∀ o, (w_3.alloc o).cell? ⟨w.heap.size, 0, none⟩ = some (.int .i64 a) := fun o => cell_alloc o p0
            have x_p1 : ∀ o, (w_3.alloc o).cell? ⟨w.heap.size, 1, none⟩ = some (.int .i64 d) := fun o => cell_alloc o p1
            have x_p2 : ∀ o, (w_3.alloc o).cell? ⟨w.heap.size, 2, none⟩ = some (.slice C zs.length b) := fun o => cell_alloc o p2
            have x_q0 : ∀ o, (w_3.alloc o).cell? ⟨w.heap.size + 1, 0, none⟩ = some (.int .i64 a') := fun o => cell_alloc o q0
            have x_q1 : ∀ o, (w_3.alloc o).cell? ⟨w.heap.size + 1, 1, none⟩ = some (.int .i64 d') := fun o => cell_alloc o q1
            have x_q2 : ∀ o, (w_3.alloc o).cell? ⟨w.heap.size + 1, 2, none⟩ = some (.slice D us.length e) := fun o => cell_alloc o q2
            go_wp2_with fail
            refine (apply_no a d _ A c xs.length _ ba.1 (by omega) H4.out).mono ?_
            rintro e w_4 ⟨rfl, hb⟩
            clear x_p0 x_p1 x_p2 x_q0 x_q1 x_q2
            replace p0 := cell_keep hb (cell_alloc _ p0)
            replace p1 := cell_keep hb (cell_alloc _ p1)
            replace p2 := cell_keep hb (cell_alloc _ p2)
            replace q0 := cell_keep hb (cell_alloc _ q0)
            replace q1 := cell_keep hb (cell_alloc _ q1)
            replace q2 := cell_keep hb (cell_alloc _ q2)
            replace hz := Rd.below (rd_alloc _ hz) hb
            replace hx := Rd.below (rd_alloc _ hx) hb
            replace hu := Rd.below (rd_alloc _ hu) hb
            replace hr1 := Rd.below (rd_alloc _ hr1) hb
            have m0 : w_4.cell? ⟨w_3.heap.size, 0, none⟩ = some (.int .i64 a) := cell_keep hb (new_cell w_3 #[.int .i64 a, .int .i64 d, .slice A1 vs.length c1] 24 w_3.heap.size rfl 0)
            have m1 : w_4.cell? ⟨w_3.heap.size, 1, none⟩ = some (.int .i64 d) := cell_keep hb (new_cell w_3 #[.int .i64 a, .int .i64 d, .slice A1 vs.length c1] 24 w_3.heap.size rfl 1)
            have m2 : w_4.cell? ⟨w_3.heap.size, 2, none⟩ = some (.slice A1 vs.length c1) := cell_keep hb (new_cell w_3 #[.int .i64 a, .int .i64 d, .slice A1 vs.length c1] 24 w_3.heap.size rfl 2)
            replace hB := below_on (below_box hB hB.size _) hb
            clear hb
            go_wp2_with fail
            refine (alive_calls _).mono ?_
            rintro e w_5 ⟨rfl, hb⟩
            replace p0 := cell_keep hb p0
            replace p1 := cell_keep hb p1
            replace p2 := cell_keep hb p2
            replace q0 := cell_keep hb q0
            replace q1 := cell_keep hb q1
            replace q2 := cell_keep hb q2
            replace m0 := cell_keep hb m0
            replace m1 := cell_keep hb m1
            replace m2 := cell_keep hb m2
            replace hz := Rd.below hz hb
            replace hx := Rd.below hx hb
            replace hu := Rd.below hu hb
            replace hr1 := Rd.below hr1 hb
            replace hB := below_on hB hb
            clear hb
            go_wp2
            go_ret
            exact ⟨rfl, hB⟩
        · have HM := Lib.hid hM
          clear hM
          by_cases h4 : chk a d xs.length = 0
          · obtain ⟨k0, k1, k2, k3⟩ := chk_ok.1 h4
            clear h4
            obtain ⟨rs, hrs⟩ : ∃ rs, rs = repl xs a.toNat d.toNat zs := ⟨_, rfl⟩
            have hrl := length_repl (xs := xs) (ys := zs) (a := a.toNat) (d := d.toNat) (by omega)
            rw [← hrs] at hrl
            have hrl1 : rs.length + d.toNat ≤ xs.length + zs.length ∧ xs.length + zs.length ≤ rs.length + d.toNat := by omega
            have HR := Lib.hid hrs
            clear hrs hrl
            go_enter Try.func9, Try.ntmps9
            go_wp2_with fail
            rw [show (w.alloc (.cells #[.int .i64 a, .int .i64 d, .slice C zs.length b] 24)).alloc (.cells #[.int .i64 a', .int .i64 d', .slice D us.length e] 24) = w1 from HW.out.symm]
            refine (small_calls a d C zs.length b _ hzl).mono ?_
            rintro e w_1 ⟨rfl, hb⟩
            replace p0 := cell_keep hb p0
            replace p1 := cell_keep hb p1
            replace p2 := cell_keep hb p2
            replace q0 := cell_keep hb q0
            replace q1 := cell_keep hb q1
            replace q2 := cell_keep hb q2
            replace hz := Rd.below hz hb
            replace hx := Rd.below hx hb
            replace hu := Rd.below hu hb
            replace hB := below_on hB hb
            clear hb
            rw [H1.out]
            go_wp2_with fail
            refine (small_calls a' d' D us.length e _ hul).mono ?_
            rintro e w_2 ⟨rfl, hb⟩
            replace p0 := cell_keep hb p0
            replace p1 := cell_keep hb p1
            replace p2 := cell_keep hb p2
            replace q0 := cell_keep hb q0
            replace q1 := cell_keep hb q1
            replace q2 := cell_keep hb q2
            replace hz := Rd.below hz hb
            replace hx := Rd.below hx hb
            replace hu := Rd.below hu hb
            replace hB := below_on hB hb
            clear hb
            rw [H2.out]
            go_wp2_with fail
            refine (few_calls A xs.length c _ hxl).mono ?_
            rintro e w' ⟨rfl, rfl⟩
            rw [H3.out]
            go_wp2_with fail
            refine (merge_no a d a' d' C D zs.length us.length b e _ (by omega) ba.1 ba.2 ba'.2 bd'.1 HM.out).mono ?_
            rintro e w_3 ⟨rfl, hb⟩
            replace p0 := cell_keep hb p0
            replace p1 := cell_keep hb p1
            replace p2 := cell_keep hb p2
            replace q0 := cell_keep hb q0
            replace q1 := cell_keep hb q1
            replace q2 := cell_keep hb q2
            replace hz := Rd.below hz hb
            replace hx := Rd.below hx hb
            replace hu := Rd.below hu hb
            replace hB := below_on hB hb
            clear hb
            have x_p0 : ∀ o, (w_3.alloc o).cell? ⟨w.heap.size, 0, none⟩ = some (.int .i64 a) := fun o => cell_alloc o p0
            have x_p1 : ∀ o, (w_3.alloc o).cell? ⟨w.heap.size, 1, none⟩ = some (.int .i64 d) := fun o => cell_alloc o p1
            have x_p2 : ∀ o, (w_3.alloc o).cell? ⟨w.heap.size, 2, none⟩ = some (.slice C zs.length b) := fun o => cell_alloc o p2
            have x_q0 : ∀ o, (w_3.alloc o).cell? ⟨w.heap.size + 1, 0, none⟩ = some (.int .i64 a') := fun o => cell_alloc o q0
            have x_q1 : ∀ o, (w_3.alloc o).cell? ⟨w.heap.size + 1, 1, none⟩ = some (.int .i64 d') := fun o => cell_alloc o q1
            have x_q2 : ∀ o, (w_3.alloc o).cell? ⟨w.heap.size + 1, 2, none⟩ = some (.slice D us.length e) := fun o => cell_alloc o q2
            go_wp2_with fail
            refine (apply_yes' a d C A b c xs zs rs _ HR (rd_alloc _ hx) (rd_alloc _ hz) hxc (by omega) (by omega) k0 k1 (by omega)).mono ?_
            rintro e w_4 ⟨A2, c2, rfl, hr2c, hr2, hb⟩
            clear x_p0 x_p1 x_p2 x_q0 x_q1 x_q2
            replace p0 := cell_keep hb (cell_alloc _ p0)
            replace p1 := cell_keep hb (cell_alloc _ p1)
            replace p2 := cell_keep hb (cell_alloc _ p2)
            replace q0 := cell_keep hb (cell_alloc _ q0)
            replace q1 := cell_keep hb (cell_alloc _ q1)
            replace q2 := cell_keep hb (cell_alloc _ q2)
            replace hz := Rd.below (rd_alloc _ hz) hb
            replace hx := Rd.below (rd_alloc _ hx) hb
            replace hu := Rd.below (rd_alloc _ hu) hb
            have m0 : w_4.cell? ⟨w_3.heap.size, 0, none⟩ = some (.int .i64 0) := cell_keep hb (new_cell w_3 #[.int .i64 0, .int .i64 0, .slice none 0 0] 24 w_3.heap.size rfl 0)
            have m1 : w_4.cell? ⟨w_3.heap.size, 1, none⟩ = some (.int .i64 0) := cell_keep hb (new_cell w_3 #[.int .i64 0, .int .i64 0, .slice none 0 0] 24 w_3.heap.size rfl 1)
            have m2 : w_4.cell? ⟨w_3.heap.size, 2, none⟩ = some (.slice none 0 0) := cell_keep hb (new_cell w_3 #[.int .i64 0, .int .i64 0, .slice none 0 0] 24 w_3.heap.size rfl 2)
            replace hB := below_on (below_box hB hB.size _) hb
            clear hb
            go_wp2_with fail
            refine (same_calls 0 0 0 0 none none 0 0 [] [] _ (Rd.nil _ _) (Rd.nil _ _) (by decide) (by decide)).mono ?_
            rintro e w_5 ⟨rfl, hb⟩
            replace p0 := cell_keep hb p0
            replace p1 := cell_keep hb p1
            replace p2 := cell_keep hb p2
            replace q0 := cell_keep hb q0
            replace q1 := cell_keep hb q1
            replace q2 := cell_keep hb q2
            replace m0 := cell_keep hb m0
            replace m1 := cell_keep hb m1
            replace m2 := cell_keep hb m2
            replace hz := Rd.below hz hb
            replace hx := Rd.below hx hb
            replace hu := Rd.below hu hb
            replace hr2 := Rd.below hr2 hb
            replace hB := below_on hB hb
            clear hb
            rw [decide_eq_true (⟨rfl, rfl, rfl⟩ : _ ∧ _ ∧ _)]
            go_wp2_with fail
            refine (alive_calls _).mono ?_
            rintro e w_6 ⟨rfl, hb⟩
            replace p0 := cell_keep hb p0
            replace p1 := cell_keep hb p1
            replace p2 := cell_keep hb p2
            replace q0 := cell_keep hb q0
            replace q1 := cell_keep hb q1
            replace q2 := cell_keep hb q2
            replace m0 := cell_keep hb m0
            replace m1 := cell_keep hb m1
            replace m2 := cell_keep hb m2
            replace hz := Rd.below hz hb
            replace hx := Rd.below hx hb
            replace hu := Rd.below hu hb
            replace hr2 := Rd.below hr2 hb
            replace hB := below_on hB hb
            clear hb
            go_wp2
            go_ret
            exact ⟨rfl, hB⟩
          · have H4 := Lib.hid h4
            clear h4
            go_enter Try.func9, Try.ntmps9
            go_wp2_with fail
            rw [show (w.alloc (.cells #[.int .i64 a, .int .i64 d, .slice C zs.length b] 24)).alloc (.cells #[.int .i64 a', .int .i64 d', .slice D us.length e] 24) = w1 from HW.out.symm]
            refine (small_calls a d C zs.length b _ hzl).mono ?_
            rintro e w_1 ⟨rfl, hb⟩
            replace p0 := cell_keep hb p0
            replace p1 := cell_keep hb p1
            replace p2 := cell_keep hb p2
            replace q0 := cell_keep hb q0
            replace q1 := cell_keep hb q1
            replace q2 := cell_keep hb q2
            replace hz := Rd.below hz hb
            replace hx := Rd.below hx hb
            replace hu := Rd.below hu hb
            replace hB := below_on hB hb
            clear hb
            rw [H1.out]
            go_wp2_with fail
            refine (small_calls a' d' D us.length e _ hul).mono ?_
            rintro e w_2 ⟨rfl, hb⟩
            replace p0 := cell_keep hb p0
            replace p1 := cell_keep hb p1
            replace p2 := cell_keep hb p2
            replace q0 := cell_keep hb q0
            replace q1 := cell_keep hb q1
            replace q2 := cell_keep hb q2
            replace hz := Rd.below hz hb
            replace hx := Rd.below hx hb
            replace hu := Rd.below hu hb
            replace hB := below_on hB hb
            clear hb
            rw [H2.out]
            go_wp2_with fail
            refine (few_calls A xs.length c _ hxl).mono ?_
            rintro e w' ⟨rfl, rfl⟩
            rw [H3.out]
            go_wp2_with fail
            refine (merge_no a d a' d' C D zs.length us.length b e _ (by omega) ba.1 ba.2 ba'.2 bd'.1 HM.out).mono ?_
            rintro e w_3 ⟨rfl, hb⟩
            replace p0 := cell_keep hb p0
            replace p1 := cell_keep hb p1
            replace p2 := cell_keep hb p2
            replace q0 := cell_keep hb q0
            replace q1 := cell_keep hb q1
            replace q2 := cell_keep hb q2
            replace hz := Rd.below hz hb
            replace hx := Rd.below hx hb
            replace hu := Rd.below hu hb
            replace hB := below_on hB hb
            clear hb
            have x_p0 : ∀ o, (w_3.alloc o).cell? ⟨w.heap.size, 0, none⟩ = some (.int .i64 a) := fun o => cell_alloc o p0
            have x_p1 : ∀ o, (w_3.alloc o).cell? ⟨w.heap.size, 1, none⟩ = some (.int .i64 d) := fun o => cell_alloc o p1
            have x_p2 : ∀ o, (w_3.alloc o).cell? ⟨w.heap.size, 2, none⟩ = some (.slice C zs.length b) := fun o => cell_alloc o p2
            have x_q0 : ∀ o, (w_3.alloc o).cell? ⟨w.heap.size + 1, 0, none⟩ = some (.int .i64 a') := fun o => cell_alloc o q0
            have x_q1 : ∀ o, (w_3.alloc o).cell? ⟨w.heap.size + 1, 1, none⟩ = some (.int .i64 d') := fun o => cell_alloc o q1
            have x_q2 : ∀ o, (w_3.alloc o).cell? ⟨w.heap.size + 1, 2, none⟩ = some (.slice D us.length e) := fun o => cell_alloc o q2
            go_wp2_with fail
            refine (apply_no a d _ A c xs.length _ ba.1 (by omega) H4.out).mono ?_
            rintro e w_4 ⟨rfl, hb⟩
            clear x_p0 x_p1 x_p2 x_q0 x_q1 x_q2
            replace p0 := cell_keep hb (cell_alloc _ p0)
            replace p1 := cell_keep hb (cell_alloc _ p1)
            replace p2 := cell_keep hb (cell_alloc _ p2)
            replace q0 := cell_keep hb (cell_alloc _ q0)
            replace q1 := cell_keep hb (cell_alloc _ q1)
            replace q2 := cell_keep hb (cell_alloc _ q2)
            replace hz := Rd.below (rd_alloc _ hz) hb
            replace hx := Rd.below (rd_alloc _ hx) hb
            replace hu := Rd.below (rd_alloc _ hu) hb
            have m0 : w_4.cell? ⟨w_3.heap.size, 0, none⟩ = some (.int .i64 0) := cell_keep hb (new_cell w_3 #[.int .i64 0, .int .i64 0, .slice none 0 0] 24 w_3.heap.size rfl 0)
            have m1 : w_4.cell? ⟨w_3.heap.size, 1, none⟩ = some (.int .i64 0) := cell_keep hb (new_cell w_3 #[.int .i64 0, .int .i64 0, .slice none 0 0] 24 w_3.heap.size rfl 1)
            have m2 : w_4.cell? ⟨w_3.heap.size, 2, none⟩ = some (.slice none 0 0) := cell_keep hb (new_cell w_3 #[.int .i64 0, .int .i64 0, .slice none 0 0] 24 w_3.heap.size rfl 2)
            replace hB := below_on (below_box hB hB.size _) hb
            clear hb
            go_wp2_with fail
            refine (same_calls 0 0 0 0 none none 0 0 [] [] _ (Rd.nil _ _) (Rd.nil _ _) (by decide) (by decide)).mono ?_
            rintro e w_5 ⟨rfl, hb⟩
            replace p0 := cell_keep hb p0
            replace p1 := cell_keep hb p1
            replace p2 := cell_keep hb p2
            replace q0 := cell_keep hb q0
            replace q1 := cell_keep hb q1
            replace q2 := cell_keep hb q2
            replace m0 := cell_keep hb m0
            replace m1 := cell_keep hb m1
            replace m2 := cell_keep hb m2
            replace hz := Rd.below hz hb
            replace hx := Rd.below hx hb
            replace hu := Rd.below hu hb
            replace hB := below_on hB hb
            clear hb
            rw [decide_eq_true (⟨rfl, rfl, rfl⟩ : _ ∧ _ ∧ _)]
            go_wp2_with fail
            refine (alive_calls _).mono ?_
            rintro e w_6 ⟨rfl, hb⟩
            replace p0 := cell_keep hb p0
            replace p1 := cell_keep hb p1
            replace p2 := cell_keep hb p2
            replace q0 := cell_keep hb q0
            replace q1 := cell_keep hb q1
            replace q2 := cell_keep hb q2
            replace m0 := cell_keep hb m0
            replace m1 := cell_keep hb m1
            replace m2 := cell_keep hb m2
            replace hz := Rd.below hz hb
            replace hx := Rd.below hx hb
            replace hu := Rd.below hu hb
            replace hB := below_on hB hb
            clear hb
            go_wp2
            go_ret
            exact ⟨rfl, hB⟩
      · have H3 := Lib.hid (decide_eq_false h3)
        go_enter Try.func9, Try.ntmps9
        go_wp2_with fail
        rw [show (w.alloc (.cells #[.int .i64 a, .int .i64 d, .slice C zs.length b] 24)).alloc (.cells #[.int .i64 a', .int .i64 d', .slice D us.length e] 24) = w1 from HW.out.symm]
        refine (small_calls a d C zs.length b _ hzl).mono ?_
        rintro e w_1 ⟨rfl, hb⟩
        replace p0 := cell_keep hb p0
        replace p1 := cell_keep hb p1
        replace p2 := cell_keep hb p2
        replace q0 := cell_keep hb q0
        replace q1 := cell_keep hb q1
        replace q2 := cell_keep hb q2
        replace hz := Rd.below hz hb
        replace hx := Rd.below hx hb
        replace hu := Rd.below hu hb
        replace hB := below_on hB hb
        clear hb
        rw [H1.out]
        go_wp2_with fail
        refine (small_calls a' d' D us.length e _ hul).mono ?_
        rintro e w_2 ⟨rfl, hb⟩
        replace p0 := cell_keep hb p0
        replace p1 := cell_keep hb p1
        replace p2 := cell_keep hb p2
        replace q0 := cell_keep hb q0
        replace q1 := cell_keep hb q1
        replace q2 := cell_keep hb q2
        replace hz := Rd.below hz hb
        replace hx := Rd.below hx hb
        replace hu := Rd.below hu hb
        replace hB := below_on hB hb
        clear hb
        rw [H2.out]
        go_wp2_with fail
        refine (few_calls A xs.length c _ hxl).mono ?_
        rintro e w' ⟨rfl, rfl⟩
        rw [H3.out]
        go_wp2_with fail
        refine (alive_calls _).mono ?_
        rintro e w_3 ⟨rfl, hb⟩
        replace p0 := cell_keep hb p0
        replace p1 := cell_keep hb p1
        replace p2 := cell_keep hb p2
        replace q0 := cell_keep hb q0
        replace q1 := cell_keep hb q1
        replace q2 := cell_keep hb q2
        replace hz := Rd.below hz hb
        replace hx := Rd.below hx hb
        replace hu := Rd.below hu hb
        replace hB := below_on hB hb
        clear hb
        go_wp2
        go_ret
        exact ⟨rfl, hB⟩
    · have H2 := Lib.hid (decide_eq_false h2)
      go_enter Try.func9, Try.ntmps9
      go_wp2_with fail
      rw [show (w.alloc (.cells #[.int .i64 a, .int .i64 d, .slice C zs.length b] 24)).alloc (.cells #[.int .i64 a', .int .i64 d', .slice D us.length e] 24) = w1 from HW.out.symm]
      refine (small_calls a d C zs.length b _ hzl).mono ?_
      rintro e w_1 ⟨rfl, hb⟩
      replace p0 := cell_keep hb p0
      replace p1 := cell_keep hb p1
      replace p2 := cell_keep hb p2
      replace q0 := cell_keep hb q0
      replace q1 := cell_keep hb q1
      replace q2 := cell_keep hb q2
      replace hz := Rd.below hz hb
      replace hx := Rd.below hx hb
      replace hu := Rd.below hu hb
      replace hB := below_on hB hb
      clear hb
      rw [H1.out]
      go_wp2_with fail
      refine (small_calls a' d' D us.length e _ hul).mono ?_
      rintro e w_2 ⟨rfl, hb⟩
      replace p0 := cell_keep hb p0
      replace p1 := cell_keep hb p1
      replace p2 := cell_keep hb p2
      replace q0 := cell_keep hb q0
      replace q1 := cell_keep hb q1
      replace q2 := cell_keep hb q2
      replace hz := Rd.below hz hb
      replace hx := Rd.below hx hb
      replace hu := Rd.below hu hb
      replace hB := below_on hB hb
      clear hb
      rw [H2.out]
      go_wp2_with fail
      refine (alive_calls _).mono ?_
      rintro e w_3 ⟨rfl, hb⟩
      replace p0 := cell_keep hb p0
      replace p1 := cell_keep hb p1
      replace p2 := cell_keep hb p2
      replace q0 := cell_keep hb q0
      replace q1 := cell_keep hb q1
      replace q2 := cell_keep hb q2
      replace hz := Rd.below hz hb
      replace hx := Rd.below hx hb
      replace hu := Rd.below hu hb
      replace hB := below_on hB hb
      clear hb
      go_wp2
      go_ret
      exact ⟨rfl, hB⟩
  · have H1 := Lib.hid (decide_eq_false h1)
    go_enter Try.func9, Try.ntmps9
    go_wp2_with fail
    rw [show (w.alloc (.cells #[.int .i64 a, .int .i64 d, .slice C zs.length b] 24)).alloc (.cells #[.int .i64 a', .int .i64 d', .slice D us.length e] 24) = w1 from HW.out.symm]
    refine (small_calls a d C zs.length b _ hzl).mono ?_
    rintro e w_1 ⟨rfl, hb⟩
    replace p0 := cell_keep hb p0
    replace p1 := cell_keep hb p1
    replace p2 := cell_keep hb p2
    replace q0 := cell_keep hb q0
    replace q1 := cell_keep hb q1
    replace q2 := cell_keep hb q2
    replace hz := Rd.below hz hb
    replace hx := Rd.below hx hb
    replace hu := Rd.below hu hb
    replace hB := below_on hB hb
    clear hb
    rw [H1.out]
    go_wp2_with fail
    refine (alive_calls _).mono ?_
    rintro e w_2 ⟨rfl, hb⟩
    replace p0 := cell_keep hb p0
    replace p1 := cell_keep hb p1
    replace p2 := cell_keep hb p2
    replace q0 := cell_keep hb q0
    replace q1 := cell_keep hb q1
    replace q2 := cell_keep hb q2
    replace hz := Rd.below hz hb
    replace hx := Rd.below hx hb
    replace hu := Rd.below hu hb
    replace hB := below_on hB hb
    clear hb
    go_wp2
    go_ret
    exact ⟨rfl, hB⟩

theorem own : ownKnob Try.prog.godebug = none := by kernel_rfl
theorem laidOut : laidOutB Try.prog = true := by kernel_rfl

set_option maxRecDepth 100000 in
theorem lifted (os : Os) (started : os.Started) (H : Type) (enc : TypeId × Value → H) :
    ReturnsInHanded {} Try.checked os 9 .any (Rows.editsTwiceSpec.pre6 enc Try.prog Try.f9 Rows.editsTwiceRow.domain false) (Rows.editsTwiceSpec.post enc Try.prog Try.f9 false true false false) := by
  refine returnsInHanded_of_change (C := Try.checked) own started (by kernel_rfl) Try.func9
    (ChangeSpec.witness6 (enc := enc) (C := Try.checked) false ⟨#[], #[.agg #[.int .i64 0, .int .i64 0, .slice none 0 0], .agg #[.int .i64 0, .int .i64 0, .slice none 0 0], .slice none 0 0], []⟩ 8 (by kernel_rfl) (by kernel_rfl) (by kernel_rfl) (by kernel_rfl)) ?_
  intro W base args ds gs before hval0 hW hcnd _
  have hval : ∀ (j : Nat) t v, Try.f9.params[j]? = some t → args[j]? = some v → Value.okWide Try.prog W .any base t v := hval0
  have hW' := hW
  obtain ⟨p, q, hA0, hV, rfl, hfz, hnd⟩ := hW
  have hA : DataW.TrodAll enc Try.prog W 0 (fun _ => true) true Try.f9.params.toList args.toList ds p := hA0
  rw [Try.params9] at hA hval
  obtain ⟨v0, vs0, d0, ds0, p0, q0, hargs, rfl, rfl, h0, r0⟩ := trodAll_cons hA
  obtain ⟨v1, vs1, d1, ds1, p1, q1, rfl, rfl, rfl, h1, r1⟩ := trodAll_cons r0
  obtain ⟨v2, vs2, d2, ds2, p2, q2, rfl, rfl, rfl, h2, r2⟩ := trodAll_cons r1
  obtain ⟨rfl, rfl, rfl⟩ := trodAll_nil r2
  obtain rfl : args = #[v0, v1, v2] := by cases args; simp_all
  obtain ⟨rfl, rfl⟩ := trodVars_none hV
  have k0 := h0
  have lt0 := InRow.trod_lt k0
  obtain ⟨a0, b0, A0, c0, x0, rfl, wa0, wb0, w0⟩ := open_edit (ti := 3) (ts := 22) Try.underlying24 (by kernel_rfl) (by kernel_rfl) rfl rfl rfl Try.underlying3 Try.underlying22 (by kernel_rfl) (hval 0 24 v0 rfl rfl) h0
  have k1 := h1
  have lt1 := InRow.trod_lt k1
  obtain ⟨a1, b1, A1, c1, x1, rfl, wa1, wb1, w1⟩ := open_edit (ti := 3) (ts := 22) Try.underlying24 (by kernel_rfl) (by kernel_rfl) rfl rfl rfl Try.underlying3 Try.underlying22 (by kernel_rfl) (hval 1 24 v1 rfl rfl) h1
  obtain ⟨A2, len2, c2, rfl⟩ := okWide_slice Try.underlying22 (hval 2 22 v2 rfl rfl)
  have k2 := h2
  have lt2 := InRow.trod_lt k2
  obtain ⟨x2, e2, w2⟩ : ∃ xs : List Int, xs.length = len2 ∧ InRow W A2 c2 xs := by
    obtain ⟨fuel, hf⟩ := h2
    exact open_rd Try.underlying22 Try.underlying3 (by kernel_rfl) (by simpa [Value.cells] using hf)
  subst e2
  clear hA0 hval0
  refine (editsTwice_walk W a0 b0 A0 c0 x0 wa0 wb0 w0 a1 b1 A1 c1 x1 wa1 wb1 w1 A2 c2 x2 w2).mono fun e W' ⟨he, bel⟩ => ?_
  subst he
  exact ⟨_, rfl, _, _, _, [], _, [], hW', trodAll_mk1 (shut_bool Try.underlying4 _), (trodAll_cons_mk (Below.trod laidOut (by kernel_rfl) (of_decide_eq_true (by kernel_rfl)) k0 bel lt0) (trodAll_cons_mk (Below.trod laidOut (by kernel_rfl) (of_decide_eq_true (by kernel_rfl)) k1 bel lt1) (trodAll_cons_mk (Below.trod laidOut (by kernel_rfl) (of_decide_eq_true (by kernel_rfl)) k2 bel lt2) trodAll_mk0))), rfl, bel.frame _, fun h => by cases h⟩

theorem over : Rows.editsTwiceRow.holds Try.pinned (OpenSpec.ofChange Rows.editsTwiceSpec) :=
  OpenClaim.holds_of_wide 9 Try.f9 rfl rfl rfl rfl rfl rfl rfl ⟨rfl, rfl, rfl, rfl, rfl⟩ rfl rfl rfl rfl rfl (by kernel_rfl) Try.func9 (by kernel_rfl)
    (of_decide_eq_true (by kernel_rfl)) (by unfold Func.isWrapper; first | (rw [if_pos (by decide +kernel)]; kernel_rfl) | (rw [if_neg (by decide +kernel)]; exact ⟨rfl, rfl⟩))
    (fun os started H enc _ => lifted os started H enc)

end Go.Proofs.Ytjdnajmljafkpaa.editsTwice
namespace Go.Proofs.Ytjdnajmljafkpaa
/-- EditsTwice returns true for every pair of edits and every text, and its arguments read behind the call as before. No condition beyond the row's own. -/
theorem editsTwice_holds : Rows.EditsTwiceSaid := editsTwice.over
#print axioms editsTwice_holds
end Go.Proofs.Ytjdnajmljafkpaa
