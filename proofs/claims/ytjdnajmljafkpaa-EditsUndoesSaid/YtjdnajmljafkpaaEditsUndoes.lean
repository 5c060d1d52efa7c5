/- EditsUndoes returns true for every edit and every text, and its arguments read behind the call as before. No condition beyond the row's own. -/
import Derived.Test.YtjdnajmljafkpaaRows
import Derived.Test.YtjdnajmljafkpaaFrame
import Derived.Test.YtjdnajmljafkpaaEdK
import Derived.Test.YtjdnajmljafkpaaEdE
import Derived.Test.YtjdnajmljafkpaaEdLaw
namespace Go.Proofs.Ytjdnajmljafkpaa.editsUndoes
open Go.ChangeShapes Go.WideShapes Go.ChangeAt Go.RowKit Go.Deep
open Go.ChangeMaps (open_string shut_string)
set_option linter.unusedVariables false
set_option linter.unusedSimpArgs false

theorem apply_yes' (a d : Int) (C A : Option Addr) (b c : Nat) (xs ys rs : List Int) (w : World) (HR : Hid (rs = repl xs a.toNat d.toNat ys)) (hx : Rd w A xs) (hy : Rd w C ys) (hc : xs.length ≤ c)
    (hn : xs.length ≤ 1000000) (hm : ys.length ≤ 1000000) (h0 : 0 ≤ a) (h1 : 0 ≤ d) (h2 : a + d ≤ xs.length) :
    Calls Try.prog 22 #[.agg #[.int .i64 a, .int .i64 d, .slice C ys.length b], .slice A xs.length c] w fun e w' =>
      ∃ A1 c1, e = .returned (.tuple #[.slice A1 rs.length c1, .int .i64 0]) ∧ rs.length ≤ c1 ∧ Rd w' A1 rs ∧ Below w.heap.size w w' := by
  refine (apply_yes a d C A b c xs ys w hx hy hc hn hm h0 h1 h2).mono ?_
  rintro e w' ⟨v, rfl, hs, hb⟩
  rw [← HR.out] at hs
  obtain ⟨A1, c1, rfl, h4, _, hr⟩ := hs
  exact ⟨A1, c1, rfl, h4, hr, hb⟩
theorem invert_yes' (a d : Int) (C A : Option Addr) (b c n : Nat) (xs vs : List Int) (w : World) (HV : Hid (vs = (xs.take (a.toNat + d.toNat)).drop a.toNat)) (hx : Rd w A xs) (hc : xs.length ≤ c)
    (hn : xs.length ≤ 1000000) (hm : n ≤ 1000000) (h0 : 0 ≤ a) (h1 : 0 ≤ d) (h2 : a + d ≤ xs.length) :
    Calls Try.prog 25 #[.agg #[.int .i64 a, .int .i64 d, .slice C n b], .slice A xs.length c] w fun e w' =>
      ∃ A1 c1, e = .returned (.tuple #[.agg #[.int .i64 a, .int .i64 n, .slice A1 vs.length c1], .int .i64 0]) ∧ Rd w' A1 vs ∧ Below w.heap.size w w' := by
  refine (invert_yes a d C A b c n xs w hx hc hn hm h0 h1 h2).mono ?_
  rintro e w' ⟨v, rfl, hs, hb⟩
  rw [← HV.out] at hs
  obtain ⟨A1, c1, rfl, _, _, hr⟩ := hs
  exact ⟨A1, c1, rfl, hr, hb⟩
set_option maxHeartbeats 4000000 in
theorem editsUndoes_walk (w : World) (a d : Int) (C : Option Addr) (b : Nat) (zs : List Int) (wa : (Lit.int .i64 a).wf = true) (wd : (Lit.int .i64 d).wf = true) (hz : InRow w C b zs) (A : Option Addr) (c : Nat) (xs : List Int) (hx : InRow w A c xs) :
    Calls Try.prog 11 #[.agg #[.int .i64 a, .int .i64 d, .slice C zs.length b], .slice A xs.length c] w fun e w' => e = .returned (.bool true) ∧ Below w.heap.size w w' := by
  have ba := bounds_i64 wa
  have bd := bounds_i64 wd
  clear wa wd
  obtain ⟨hz, hzc, hzm, _⟩ := hz
  have hzl : zs.length ≤ 9223372036854775807 := by unfold maxLen at hzm; omega
  clear hzm
  obtain ⟨hx, hxc, hxm, _⟩ := hx
  have hxl : xs.length ≤ 9223372036854775807 := by unfold maxLen at hxm; omega
  clear hxm
  obtain ⟨w1, HW, hB, _, ⟨p0, p1, p2⟩, _⟩ := new_block w (.int .i64 a) (.int .i64 d) (.slice C zs.length b) 24
  replace hz := hz.below hB
  replace hx := hx.below hB
  by_cases h1 : zs.length ≤ 40
  · have H1 := Lib.hid (decide_eq_true h1)
    by_cases h2 : xs.length ≤ 60
    · have H2 := Lib.hid (decide_eq_true h2)
      by_cases h3 : chk a d xs.length = 0
      · obtain ⟨k0, k1, k2, k3⟩ := chk_ok.1 h3
        obtain ⟨rs, hrs⟩ : ∃ rs, rs = repl xs a.toNat d.toNat zs := ⟨_, rfl⟩
        have hrl := length_repl (xs := xs) (ys := zs) (a := a.toNat) (d := d.toNat) (by omega)
        rw [← hrs] at hrl
        have hrl1 : rs.length + d.toNat ≤ xs.length + zs.length ∧ xs.length + zs.length ≤ rs.length + d.toNat := by omega
        have HR := Lib.hid hrs
        clear hrs hrl
        obtain ⟨vs, hvs⟩ : ∃ vs, vs = (xs.take (a.toNat + d.toNat)).drop a.toNat := ⟨_, rfl⟩
        have hvl : vs.length ≤ d.toNat ∧ d.toNat ≤ vs.length := by rw [hvs]; simp; omega
        have HV := Lib.hid hvs
        have HX : Hid (xs = repl rs a.toNat (zs.length : Int).toNat vs) := by
          have h5 := repl_back (xs := xs) (ys := zs) (a := a.toNat) (d := d.toNat) (by omega)
          rw [← HR.out, ← hvs] at h5
          rw [Int.toNat_natCast]
          exact Lib.hid h5.symm
        have HZ : Hid (zs = (rs.take (a.toNat + (zs.length : Int).toNat)).drop a.toNat) := by
          have h5 := cut_repl (xs := xs) (ys := zs) (a := a.toNat) (d := d.toNat) (by omega)
          rw [← HR.out] at h5
          rw [Int.toNat_natCast]
          exact Lib.hid h5.symm
        have HC := Lib.hid h3
        have hd1 : (vs.length : Int) = d := by omega
        have HD := Lib.hid hd1
        clear hvs hd1 h3
        go_enter Try.func11, Try.ntmps11
        go_wp2_with fail
        rw [show w.alloc (.cells #[.int .i64 a, .int .i64 d, .slice C zs.length b] 24) = w1 from HW.out.symm]
        refine (small_calls a d C zs.length b _ hzl).mono ?_
        rintro e w_1 ⟨rfl, hb⟩
        replace p0 := cell_keep hb p0
        replace p1 := cell_keep hb p1
        replace p2 := cell_keep hb p2
        replace hz := Rd.below hz hb
        replace hx := Rd.below hx hb
        replace hB := below_on hB hb
        clear hb
        rw [H1.out]
        go_wp2_with fail
        refine (few_calls A xs.length c _ hxl).mono ?_
        rintro e w' ⟨rfl, rfl⟩
        rw [H2.out]
        go_wp2_with fail
        refine (apply_yes' a d C A b c xs zs rs _ HR hx hz hxc (by omega) (by omega) k0 k1 (by omega)).mono ?_
        rintro e w_2 ⟨A1, c1, rfl, hr1c, hr1, hb⟩
        replace p0 := cell_keep hb p0
        replace p1 := cell_keep hb p1
        replace p2 := cell_keep hb p2
        replace hz := Rd.below hz hb
        replace hx := Rd.below hx hb
        replace hB := below_on hB hb
        clear hb
        go_wp2_with fail
        refine (invert_yes' a d C A b c zs.length xs vs _ HV hx hxc (by omega) (by omega) k0 k1 (by omega)).mono ?_
        rintro e w_3 ⟨A2, c2, rfl, hr2, hb⟩
        replace p0 := cell_keep hb p0
        replace p1 := cell_keep hb p1
        replace p2 := cell_keep hb p2
        replace hz := Rd.below hz hb
        replace hx := Rd.below hx hb
        replace hr1 := Rd.below hr1 hb
        replace hB := below_on hB hb
        clear hb
        have x_p0 : ∀ o, (w_3.alloc o).cell? ⟨w.heap.size, 0, none⟩ = some (.int .i64 a) := fun o => cell_alloc o p0
        have x_p1 : ∀ o, (w_3.alloc o).cell? ⟨w.heap.size, 1, none⟩ = some (.int .i64 d) := fun o => cell_alloc o p1
        have x_p2 : ∀ o, (w_3.alloc o).cell? ⟨w.heap.size, 2, none⟩ = some (.slice C zs.length b) := fun o => cell_alloc o p2
        go_wp2_with fail
        refine (check_calls a d xs.length _ _ ba.1 (by omega)).mono ?_
        rintro e w_4 ⟨rfl, hb⟩
        clear x_p0 x_p1 x_p2
        replace p0 := cell_keep hb (cell_alloc _ p0)
        replace p1 := cell_keep hb (cell_alloc _ p1)
        replace p2 := cell_keep hb (cell_alloc _ p2)
        replace hz := Rd.below (rd_alloc _ hz) hb
        replace hx := Rd.below (rd_alloc _ hx) hb
        replace hr1 := Rd.below (rd_alloc _ hr1) hb
        replace hr2 := Rd.below (rd_alloc _ hr2) hb
        have m0 : w_4.cell? ⟨w_3.heap.size, 0, none⟩ = some (.int .i64 a) := cell_keep hb (new_cell w_3 #[.int .i64 a, .int .i64 (zs.length : Int), .slice A2 vs.length c2] 24 w_3.heap.size rfl 0)
        have m1 : w_4.cell? ⟨w_3.heap.size, 1, none⟩ = some (.int .i64 (zs.length : Int)) := cell_keep hb (new_cell w_3 #[.int .i64 a, .int .i64 (zs.length : Int), .slice A2 vs.length c2] 24 w_3.heap.size rfl 1)
        have m2 : w_4.cell? ⟨w_3.heap.size, 2, none⟩ = some (.slice A2 vs.length c2) := cell_keep hb (new_cell w_3 #[.int .i64 a, .int .i64 (zs.length : Int), .slice A2 vs.length c2] 24 w_3.heap.size rfl 2)
        replace hB := below_on (below_box hB hB.size _) hb
        clear hb
        rw [HC.out]
        go_wp2_with fail
        refine (apply_yes' a zs.length _ _ c2 c1 rs vs xs _ HX hr1 hr2 hr1c (by omega) (by omega) k0 (by omega) (by omega)).mono ?_
        rintro e w_5 ⟨A3, c3, rfl, _, hr3, hb⟩
        replace p0 := cell_keep hb p0
        replace p1 := cell_keep hb p1
        replace p2 := cell_keep hb p2
        replace m0 := cell_keep hb m0
        replace m1 := cell_keep hb m1
        replace m2 := cell_keep hb m2
        replace hz := Rd.below hz hb
        replace hx := Rd.below hx hb
        replace hr1 := Rd.below hr1 hb
        replace hr2 := Rd.below hr2 hb
        replace hB := below_on hB hb
        clear hb
        go_wp2_with fail
        refine (invert_yes' a zs.length _ _ c2 c1 vs.length rs zs _ HZ hr1 hr1c (by omega) (by omega) k0 (by omega) (by omega)).mono ?_
        rintro e w_6 ⟨A4, c4, rfl, hr4, hb⟩
        replace p0 := cell_keep hb p0
        replace p1 := cell_keep hb p1
        replace p2 := cell_keep hb p2
        replace m0 := cell_keep hb m0
        replace m1 := cell_keep hb m1
        replace m2 := cell_keep hb m2
        replace hz := Rd.below hz hb
        replace hx := Rd.below hx hb
        replace hr1 := Rd.below hr1 hb
        replace hr2 := Rd.below hr2 hb
        replace hr3 := Rd.below hr3 hb
        replace hB := below_on hB hb
        clear hb
        have x_p0 : ∀ o, (w_6.alloc o).cell? ⟨w.heap.size, 0, none⟩ = some (.int .i64 a) := fun o => cell_alloc o p0
        have x_p1 : ∀ o, (w_6.alloc o).cell? ⟨w.heap.size, 1, none⟩ = some (.int .i64 d) := fun o => cell_alloc o p1
        have x_p2 : ∀ o, (w_6.alloc o).cell? ⟨w.heap.size, 2, none⟩ = some (.slice C zs.length b) := fun o => cell_alloc o p2
        have x_m0 : ∀ o, (w_6.alloc o).cell? ⟨w_3.heap.size, 0, none⟩ = some (.int .i64 a) := fun o => cell_alloc o m0
        have x_m1 : ∀ o, (w_6.alloc o).cell? ⟨w_3.heap.size, 1, none⟩ = some (.int .i64 (zs.length : Int)) := fun o => cell_alloc o m1
        have x_m2 : ∀ o, (w_6.alloc o).cell? ⟨w_3.heap.size, 2, none⟩ = some (.slice A2 vs.length c2) := fun o => cell_alloc o m2
        go_wp2_with fail
        refine (equal_calls A3 A c3 c xs xs _ (rd_alloc _ hr3) (rd_alloc _ hx) (by omega) (by omega)).mono ?_
        rintro e w_7 ⟨rfl, hd⟩
        clear x_p0 x_p1 x_p2 x_m0 x_m1 x_m2
        have hb := hd.below
        clear hd
        replace p0 := cell_keep hb (cell_alloc _ p0)
        replace p1 := cell_keep hb (cell_alloc _ p1)
        replace p2 := cell_keep hb (cell_alloc _ p2)
        replace m0 := cell_keep hb (cell_alloc _ m0)
        replace m1 := cell_keep hb (cell_alloc _ m1)
        replace m2 := cell_keep hb (cell_alloc _ m2)
        replace hz := Rd.below (rd_alloc _ hz) hb
        replace hx := Rd.below (rd_alloc _ hx) hb
        replace hr1 := Rd.below (rd_alloc _ hr1) hb
        replace hr2 := Rd.below (rd_alloc _ hr2) hb
        replace hr3 := Rd.below (rd_alloc _ hr3) hb
        replace hr4 := Rd.below (rd_alloc _ hr4) hb
        have n0 : w_7.cell? ⟨w_6.heap.size, 0, none⟩ = some (.int .i64 a) := cell_keep hb (new_cell w_6 #[.int .i64 a, .int .i64 (vs.length : Int), .slice A4 zs.length c4] 24 w_6.heap.size rfl 0)
        have n1 : w_7.cell? ⟨w_6.heap.size, 1, none⟩ = some (.int .i64 (vs.length : Int)) := cell_keep hb (new_cell w_6 #[.int .i64 a, .int .i64 (vs.length : Int), .slice A4 zs.length c4] 24 w_6.heap.size rfl 1)
        have n2 : w_7.cell? ⟨w_6.heap.size, 2, none⟩ = some (.slice A4 zs.length c4) := cell_keep hb (new_cell w_6 #[.int .i64 a, .int .i64 (vs.length : Int), .slice A4 zs.length c4] 24 w_6.heap.size rfl 2)
        replace hB := below_on (below_box hB hB.size _) hb
        clear hb
        rw [decide_eq_true rfl]
        go_wp2_with fail
        refine (same_calls a vs.length a d A4 C c4 b zs zs _ hr4 hz (by omega) (by omega)).mono ?_
        rintro e w_8 ⟨rfl, hb⟩
        replace p0 := cell_keep hb p0
        replace p1 := cell_keep hb p1
        replace p2 := cell_keep hb p2
        replace m0 := cell_keep hb m0
        replace m1 := cell_keep hb m1
        replace m2 := cell_keep hb m2
        replace n0 := cell_keep hb n0
        replace n1 := cell_keep hb n1
        replace n2 := cell_keep hb n2
        replace hz := Rd.below hz hb
        replace hx := Rd.below hx hb
        replace hr1 := Rd.below hr1 hb
        replace hr2 := Rd.below hr2 hb
        replace hr3 := Rd.below hr3 hb
        replace hr4 := Rd.below hr4 hb
        replace hB := below_on hB hb
        clear hb
        rw [decide_eq_true (⟨rfl, HD.out, rfl⟩ : _ ∧ _ ∧ _)]
        have t1 : ((rs.length : Int) == (xs.length : Int) - d + (zs.length : Int)) = true := by rw [beq_iff_eq]; omega
        go_wp2_with fail
        refine (alive_calls _).mono ?_
        rintro e w_9 ⟨rfl, hb⟩
        replace p0 := cell_keep hb p0
        replace p1 := cell_keep hb p1
        replace p2 := cell_keep hb p2
        replace m0 := cell_keep hb m0
        replace m1 := cell_keep hb m1
        replace m2 := cell_keep hb m2
        replace n0 := cell_keep hb n0
        replace n1 := cell_keep hb n1
        replace n2 := cell_keep hb n2
        replace hz := Rd.below hz hb
        replace hx := Rd.below hx hb
        replace hr1 := Rd.below hr1 hb
        replace hr2 := Rd.below hr2 hb
        replace hr3 := Rd.below hr3 hb
        replace hr4 := Rd.below hr4 hb
        replace hB := below_on hB hb
        clear hb
        go_wp2
        go_ret
        exact ⟨rfl, hB⟩
      · have H3 := h3
        have HC : Hid (chk a d xs.length = 1) := by
          have h5 : chk a d xs.length = 1 := by
            unfold chk at h3 ⊢; split <;> simp_all
          exact Lib.hid h5
        have H4 := Lib.hid h3
        clear h3 H3
        go_enter Try.func11, Try.ntmps11
        go_wp2_with fail
        rw [show w.alloc (.cells #[.int .i64 a, .int .i64 d, .slice C zs.length b] 24) = w1 from HW.out.symm]
        refine (small_calls a d C zs.length b _ hzl).mono ?_
        rintro e w_1 ⟨rfl, hb⟩
        replace p0 := cell_keep hb p0
        replace p1 := cell_keep hb p1
        replace p2 := cell_keep hb p2
        replace hz := Rd.below hz hb
        replace hx := Rd.below hx hb
        replace hB := below_on hB hb
        clear hb
        rw [H1.out]
        go_wp2_with fail
        refine (few_calls A xs.length c _ hxl).mono ?_
        rintro e w' ⟨rfl, rfl⟩
        rw [H2.out]
        go_wp2_with fail
        refine (apply_no a d _ A c xs.length _ ba.1 (by omega) H4.out).mono ?_
        rintro e w_2 ⟨rfl, hb⟩
        replace p0 := cell_keep hb p0
        replace p1 := cell_keep hb p1
        replace p2 := cell_keep hb p2
        replace hz := Rd.below hz hb
        replace hx := Rd.below hx hb
        replace hB := below_on hB hb
        clear hb
        go_wp2_with fail
        refine (invert_no a d _ A c xs.length _ ba.1 (by omega) H4.out).mono ?_
        rintro e w_3 ⟨rfl, hb⟩
        replace p0 := cell_keep hb p0
        replace p1 := cell_keep hb p1
        replace p2 := cell_keep hb p2
        replace hz := Rd.below hz hb
        replace hx := Rd.below hx hb
        replace hB := below_on hB hb
        clear hb
        have x_p0 : ∀ o, (w_3.alloc o).cell? ⟨w.heap.size, 0, none⟩ = some (.int .i64 a) := fun o => cell_alloc o p0
        have x_p1 : ∀ o, (w_3.alloc o).cell? ⟨w.heap.size, 1, none⟩ = some (.int .i64 d) := fun o => cell_alloc o p1
        have x_p2 : ∀ o, (w_3.alloc o).cell? ⟨w.heap.size, 2, none⟩ = some (.slice C zs.length b) := fun o => cell_alloc o p2
        go_wp2_with fail
        refine (check_calls a d xs.length _ _ ba.1 (by omega)).mono ?_
        rintro e w_4 ⟨rfl, hb⟩
        clear x_p0 x_p1 x_p2
        replace p0 := cell_keep hb (cell_alloc _ p0)
        replace p1 := cell_keep hb (cell_alloc _ p1)
        replace p2 := cell_keep hb (cell_alloc _ p2)
        replace hz := Rd.below (rd_alloc _ hz) hb
        replace hx := Rd.below (rd_alloc _ hx) hb
        have m0 : w_4.cell? ⟨w_3.heap.size, 0, none⟩ = some (.int .i64 0) := cell_keep hb (new_cell w_3 #[.int .i64 0, .int .i64 0, .slice none 0 0] 24 w_3.heap.size rfl 0)
        have m1 : w_4.cell? ⟨w_3.heap.size, 1, none⟩ = some (.int .i64 0) := cell_keep hb (new_cell w_3 #[.int .i64 0, .int .i64 0, .slice none 0 0] 24 w_3.heap.size rfl 1)
        have m2 : w_4.cell? ⟨w_3.heap.size, 2, none⟩ = some (.slice none 0 0) := cell_keep hb (new_cell w_3 #[.int .i64 0, .int .i64 0, .slice none 0 0] 24 w_3.heap.size rfl 2)
        replace hB := below_on (below_box hB hB.size _) hb
        clear hb
        rw [HC.out]
        go_wp2_with fail
        refine (alive_calls _).mono ?_
        rintro e w_5 ⟨rfl, hb⟩
        replace p0 := cell_keep hb p0
        replace p1 := cell_keep hb p1
        replace p2 := cell_keep hb p2
        replace m0 := cell_keep hb m0
        replace m1 := cell_keep hb m1
        replace m2 := cell_keep hb m2
        replace hz := Rd.below hz hb
        replace hx := Rd.below hx hb
        replace hB := below_on hB hb
        clear hb
        go_wp2
        go_ret
        exact ⟨rfl, hB⟩
    · have H2 := Lib.hid (decide_eq_false h2)
      go_enter Try.func11, Try.ntmps11
      go_wp2_with fail
      rw [show w.alloc (.cells #[.int .i64 a, .int .i64 d, .slice C zs.length b] 24) = w1 from HW.out.symm]
      refine (small_calls a d C zs.length b _ hzl).mono ?_
      rintro e w_1 ⟨rfl, hb⟩
      replace p0 := cell_keep hb p0
      replace p1 := cell_keep hb p1
      replace p2 := cell_keep hb p2
      replace hz := Rd.below hz hb
      replace hx := Rd.below hx hb
      replace hB := below_on hB hb
      clear hb
      rw [H1.out]
      go_wp2_with fail
      refine (few_calls A xs.length c _ hxl).mono ?_
      rintro e w' ⟨rfl, rfl⟩
      rw [H2.out]
      go_wp2_with fail
      refine (alive_calls _).mono ?_
      rintro e w_2 ⟨rfl, hb⟩
      replace p0 := cell_keep hb p0
      replace p1 := cell_keep hb p1
      replace p2 := cell_keep hb p2
      replace hz := Rd.below hz hb
      replace hx := Rd.below hx hb
      replace hB := below_on hB hb
      clear hb
      go_wp2
      go_ret
      exact ⟨rfl, hB⟩
  · have H1 := Lib.hid (decide_eq_false h1)
    go_enter Try.func11, Try.ntmps11
    go_wp2_with fail
    rw [show w.alloc (.cells #[.int .i64 a, .int .i64 d, .slice C zs.length b] 24) = w1 from HW.out.symm]
    refine (small_calls a d C zs.length b _ hzl).mono ?_
    rintro e w_1 ⟨rfl, hb⟩
    replace p0 := cell_keep hb p0
    replace p1 := cell_keep hb p1
    replace p2 := cell_keep hb p2
    replace hz := Rd.below hz hb
    replace hx := Rd.below hx hb
    replace hB := below_on hB hb
    clear hb
    rw [H1.out]
    go_wp2_with fail
    refine (alive_calls _).mono ?_
    rintro e w_2 ⟨rfl, hb⟩
    replace p0 := cell_keep hb p0
    replace p1 := cell_keep hb p1
    replace p2 := cell_keep hb p2
    replace hz := Rd.below hz hb
    replace hx := Rd.below hx hb
    replace hB := below_on hB hb
    clear hb
    go_wp2
    go_ret
    exact ⟨rfl, hB⟩

theorem own : ownKnob Try.prog.godebug = none := by kernel_rfl
theorem laidOut : laidOutB Try.prog = true := by kernel_rfl

set_option maxRecDepth 100000 in
theorem lifted (os : Os) (started : os.Started) (H : Type) (enc : TypeId × Value → H) :
    ReturnsInHanded {} Try.checked os 11 .any (Rows.editsUndoesSpec.pre6 enc Try.prog Try.f11 Rows.editsUndoesRow.domain false) (Rows.editsUndoesSpec.post enc Try.prog Try.f11 false true false false) := by
  refine returnsInHanded_of_change (C := Try.checked) own started (by kernel_rfl) Try.func11
    (ChangeSpec.witness6 (enc := enc) (C := Try.checked) false ⟨#[], #[.agg #[.int .i64 0, .int .i64 0, .slice none 0 0], .slice none 0 0], []⟩ 8 (by kernel_rfl) (by kernel_rfl) (by kernel_rfl) (by kernel_rfl)) ?_
  intro W base args ds gs before hval0 hW hcnd _
  have hval : ∀ (j : Nat) t v, Try.f11.params[j]? = some t → args[j]? = some v → Value.okWide Try.prog W .any base t v := hval0
  have hW' := hW
  obtain ⟨p, q, hA0, hV, rfl, hfz, hnd⟩ := hW
  have hA : DataW.TrodAll enc Try.prog W 0 (fun _ => true) true Try.f11.params.toList args.toList ds p := hA0
  rw [Try.params11] at hA hval
  obtain ⟨v0, vs0, d0, ds0, p0, q0, hargs, rfl, rfl, h0, r0⟩ := trodAll_cons hA
  obtain ⟨v1, vs1, d1, ds1, p1, q1, rfl, rfl, rfl, h1, r1⟩ := trodAll_cons r0
  obtain ⟨rfl, rfl, rfl⟩ := trodAll_nil r1
  obtain rfl : args = #[v0, v1] := by cases args; simp_all
  obtain ⟨rfl, rfl⟩ := trodVars_none hV
  have k0 := h0
  have lt0 := InRow.trod_lt k0
  obtain ⟨a0, b0, A0, c0, x0, rfl, wa0, wb0, w0⟩ := open_edit (ti := 3) (ts := 22) Try.underlying24 (by kernel_rfl) (by kernel_rfl) rfl rfl rfl Try.underlying3 Try.underlying22 (by kernel_rfl) (hval 0 24 v0 rfl rfl) h0
  obtain ⟨A1, len1, c1, rfl⟩ := okWide_slice Try.underlying22 (hval 1 22 v1 rfl rfl)
  have k1 := h1
  have lt1 := InRow.trod_lt k1
  obtain ⟨x1, e1, w1⟩ : ∃ xs : List Int, xs.length = len1 ∧ InRow W A1 c1 xs := by
    obtain ⟨fuel, hf⟩ := h1
    exact open_rd Try.underlying22 Try.underlying3 (by kernel_rfl) (by simpa [Value.cells] using hf)
  subst e1
  clear hA0 hval0
  refine (editsUndoes_walk W a0 b0 A0 c0 x0 wa0 wb0 w0 A1 c1 x1 w1).mono fun e W' ⟨he, bel⟩ => ?_
  subst he
  exact ⟨_, rfl, _, _, _, [], _, [], hW', trodAll_mk1 (shut_bool Try.underlying4 _), (trodAll_cons_mk (Below.trod laidOut (by kernel_rfl) (of_decide_eq_true (by kernel_rfl)) k0 bel lt0) (trodAll_cons_mk (Below.trod laidOut (by kernel_rfl) (of_decide_eq_true (by kernel_rfl)) k1 bel lt1) trodAll_mk0)), rfl, bel.frame _, fun h => by cases h⟩

theorem over : Rows.editsUndoesRow.holds Try.pinned (OpenSpec.ofChange Rows.editsUndoesSpec) :=
  OpenClaim.holds_of_wide 11 Try.f11 rfl rfl rfl rfl rfl rfl rfl ⟨rfl, rfl, rfl, rfl, rfl⟩ rfl rfl rfl rfl rfl (by kernel_rfl) Try.func11 (by kernel_rfl)
    (of_decide_eq_true (by kernel_rfl)) (by unfold Func.isWrapper; first | (rw [if_pos (by decide +kernel)]; kernel_rfl) | (rw [if_neg (by decide +kernel)]; exact ⟨rfl, rfl⟩))
    (fun os started H enc _ => lifted os started H enc)

end Go.Proofs.Ytjdnajmljafkpaa.editsUndoes
namespace Go.Proofs.Ytjdnajmljafkpaa
/-- EditsUndoes returns true for every edit and every text, and its arguments read behind the call as before. No condition beyond the row's own. -/
theorem editsUndoes_holds : Rows.EditsUndoesSaid := editsUndoes.over
#print axioms editsUndoes_holds
end Go.Proofs.Ytjdnajmljafkpaa
