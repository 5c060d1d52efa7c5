import Derived.Test.YtjdnajmljafkpaaEdI
namespace Go.Proofs.Ytjdnajmljafkpaa
open Go.RowKit
set_option linter.unusedVariables false
set_option linter.unusedSimpArgs false

theorem lit_rd (w : World) (cur : Array Value) (E : TypeId) (n : Nat) (xs : List Int) (hn : n = w.heap.size) (h : cur.toList = ints xs) : Rd (w.alloc (.cells cur E)) (some ⟨n, 0, none⟩) xs := by
  subst hn
  exact Rd.of_cells (by simp) (cells_of_row (heap_alloc_new w (.cells cur E)) (by rw [h, ← ints_length xs, List.take_length]))
theorem cell_keep {w w1 : World} {a : Addr} {v : Value} (hb : Below w.heap.size w w1) (h : w.cell? a = some v) : w1.cell? a = some v := (hb.cell (World.block_lt_of_cell? w a h)).trans h
theorem cell_alloc {w : World} {a : Addr} {v : Value} (o : Obj) (h : w.cell? a = some v) : (w.alloc o).cell? a = some v := cell_keep (box_below _ _) h
theorem rd_alloc {w : World} {A : Option Addr} {xs : List Int} (o : Obj) (h : Rd w A xs) : Rd (w.alloc o) A xs := h.below (box_below _ _)
theorem below_box {B : Nat} {w W : World} (h : Below B w W) (hB : B ≤ W.heap.size) (o : Obj) : Below B w (W.alloc o) := h.alloc hB o

theorem diff_ex (A B : Option Addr) (w : World) (hx : Rd w A [97, 98, 99]) (hy : Rd w B [97, 120, 99]) :
    Calls Try.prog 18 #[.slice A 3 3, .slice B 3 3] w fun e w' => ∃ A2 c2, e = .returned (.agg #[.int .i64 1, .int .i64 1, .slice A2 1 c2]) ∧ Rd w' A2 [120] ∧ Below w.heap.size w w' := by
  refine (diff_calls A B 3 3 [97, 98, 99] [97, 120, 99] w hx hy (by decide) (by decide) (by decide) (by decide)).mono ?_
  rintro e w' ⟨v, rfl, ⟨A2, c2, rfl, _, _, h⟩, hb⟩
  exact ⟨A2, c2, rfl, h, hb⟩

theorem merge_ex (A B : Option Addr) (w : World) (hx : Rd w A [120, 121, 122]) (hy : Rd w B [118]) :
    Calls Try.prog 20 #[.agg #[.int .i64 1, .int .i64 0, .slice A 3 3], .agg #[.int .i64 2, .int .i64 2, .slice B 1 1]] w fun e w' =>
      ∃ A2 c2, e = .returned (.tuple #[.agg #[.int .i64 1, .int .i64 0, .slice A2 2 c2], .bool true]) ∧ Rd w' A2 [120, 118] ∧ Below w.heap.size w w' := by
  refine (merge_yes 1 0 2 2 A B 3 1 [120, 121, 122] [118] w hx hy (by decide) (by decide) (by decide) (by decide) (by decide) (by decide) (by unfold mg; simp)).mono ?_
  rintro e w' ⟨v, rfl, ⟨A2, c2, rfl, _, _, h⟩, hb⟩
  exact ⟨A2, c2, rfl, h, hb⟩

theorem same_ex1 (A B : Option Addr) (c : Nat) (w : World) (hx : Rd w A [120]) (hy : Rd w B [120]) :
    Calls Try.prog 17 #[.agg #[.int .i64 1, .int .i64 1, .slice A 1 c], .agg #[.int .i64 1, .int .i64 1, .slice B 1 1]] w fun e w' => e = .returned (.bool true) ∧ Below w.heap.size w w' := by
  refine (same_calls 1 1 1 1 A B c 1 [120] [120] w hx hy (by decide) (by decide)).mono ?_
  rintro e w' ⟨rfl, hb⟩
  exact ⟨ret_bool (by decide), hb⟩

theorem same_ex2 (A B : Option Addr) (c : Nat) (w : World) (hx : Rd w A [120, 118]) (hy : Rd w B [120, 118]) :
    Calls Try.prog 17 #[.agg #[.int .i64 1, .int .i64 0, .slice A 2 c], .agg #[.int .i64 1, .int .i64 0, .slice B 2 2]] w fun e w' => e = .returned (.bool true) ∧ Below w.heap.size w w' := by
  refine (same_calls 1 0 1 0 A B c 2 [120, 118] [120, 118] w hx hy (by decide) (by decide)).mono ?_
  rintro e w' ⟨rfl, hb⟩
  exact ⟨ret_bool (by decide), hb⟩

set_option maxHeartbeats 2000000 in
theorem alive_calls (w : World) : Calls Try.prog 15 #[] w fun e w' => e = .returned (.bool true) ∧ Below w.heap.size w w' := by
  go_enter Try.func15, Try.ntmps15
  go_wp2_with fail
  refine (diff_ex _ _ _ ?_ ?_).mono ?_
  · exact rd_alloc _ (lit_rd w _ _ _ [97, 98, 99] rfl rfl)
  · exact lit_rd _ _ _ _ [97, 120, 99] (by simp) rfl
  rintro e w1 ⟨A1, c1, rfl, hr1, hb1⟩
  have hs1 : w.heap.size ≤ w1.heap.size := by have := hb1.size; simp at this; omega
  have hbb1 : Below w.heap.size w w1 := below_then' ((box_below w _).alloc (by simp) _) (by first | (simp; done) | (simp; omega)) hb1
  go_wp2_with fail
  refine (merge_ex _ _ _ ?_ ?_).mono ?_
  · exact rd_alloc _ (lit_rd _ _ _ _ [120, 121, 122] (by simp) rfl)
  · exact lit_rd _ _ _ _ [118] (by simp) rfl
  rintro e w2 ⟨A2, c2, rfl, hr2, hb2⟩
  have e0 : w2.cell? ⟨w1.heap.size, 0, none⟩ = some (.int .i64 1) := cell_keep hb2 (cell_alloc _ (cell_alloc _ (cell_alloc _ (cell_alloc _ (new_cell w1 #[.int .i64 1, .int .i64 1, .slice A1 1 c1] 24 w1.heap.size rfl 0)))))
  have e1 : w2.cell? ⟨w1.heap.size, 1, none⟩ = some (.int .i64 1) := cell_keep hb2 (cell_alloc _ (cell_alloc _ (cell_alloc _ (cell_alloc _ (new_cell w1 #[.int .i64 1, .int .i64 1, .slice A1 1 c1] 24 w1.heap.size rfl 1)))))
  have e2 : w2.cell? ⟨w1.heap.size, 2, none⟩ = some (.slice A1 1 c1) := cell_keep hb2 (cell_alloc _ (cell_alloc _ (cell_alloc _ (cell_alloc _ (new_cell w1 #[.int .i64 1, .int .i64 1, .slice A1 1 c1] 24 w1.heap.size rfl 2)))))
  have f0 : w2.cell? ⟨w1.heap.size + 1 + 1, 0, none⟩ = some (.int .i64 1) := cell_keep hb2 (cell_alloc _ (cell_alloc _ (new_cell _ #[.int .i64 1, .int .i64 2, .slice (some ⟨w1.heap.size + 1, 0, none⟩) 1 1] 24 (w1.heap.size + 1 + 1) (by simp) 0)))
  have f1 : w2.cell? ⟨w1.heap.size + 1 + 1, 1, none⟩ = some (.int .i64 2) := cell_keep hb2 (cell_alloc _ (cell_alloc _ (new_cell _ #[.int .i64 1, .int .i64 2, .slice (some ⟨w1.heap.size + 1, 0, none⟩) 1 1] 24 (w1.heap.size + 1 + 1) (by simp) 1)))
  have f2 : w2.cell? ⟨w1.heap.size + 1 + 1, 2, none⟩ = some (.slice (some ⟨w1.heap.size + 1, 0, none⟩) 1 1) := cell_keep hb2 (cell_alloc _ (cell_alloc _ (new_cell _ #[.int .i64 1, .int .i64 2, .slice (some ⟨w1.heap.size + 1, 0, none⟩) 1 1] 24 (w1.heap.size + 1 + 1) (by simp) 2)))
  have x0 : ∀ o, (w2.alloc o).cell? ⟨w1.heap.size, 0, none⟩ = some (.int .i64 1) := fun o => cell_alloc o e0
  have x1 : ∀ o, (w2.alloc o).cell? ⟨w1.heap.size, 1, none⟩ = some (.int .i64 1) := fun o => cell_alloc o e1
  have x2 : ∀ o, (w2.alloc o).cell? ⟨w1.heap.size, 2, none⟩ = some (.slice A1 1 c1) := fun o => cell_alloc o e2
  have hbw : Below w1.heap.size w1 w2 := below_then' (below_box (below_box (below_box (below_box (box_below w1 _) (by simp) _) (by first | (simp; done) | (simp; omega)) _) (by first | (simp; done) | (simp; omega)) _) (by first | (simp; done) | (simp; omega)) _) (by first | (simp; done) | (simp; omega)) hb2
  have hr1' := hr1.below hbw
  have hbb2 := below_then' hbb1 hs1 hbw
  have hs2 : w.heap.size ≤ w2.heap.size := by have := hbw.size; omega
  clear e0 e1 e2
  go_wp2_with fail
  refine (same_ex1 _ _ _ _ ?_ ?_).mono ?_
  · exact rd_alloc _ (rd_alloc _ hr1')
  · exact lit_rd _ _ _ _ [120] (by simp) rfl
  rintro e w3 ⟨rfl, hb3⟩
  have g0 : w3.cell? ⟨w1.heap.size + 1 + 1, 0, none⟩ = some (.int .i64 1) := cell_keep hb3 (cell_alloc _ (cell_alloc _ f0))
  have g1 : w3.cell? ⟨w1.heap.size + 1 + 1, 1, none⟩ = some (.int .i64 2) := cell_keep hb3 (cell_alloc _ (cell_alloc _ f1))
  have g2 : w3.cell? ⟨w1.heap.size + 1 + 1, 2, none⟩ = some (.slice (some ⟨w1.heap.size + 1, 0, none⟩) 1 1) := cell_keep hb3 (cell_alloc _ (cell_alloc _ f2))
  have y0 : w3.cell? ⟨w2.heap.size, 0, none⟩ = some (.int .i64 1) := cell_keep hb3 (cell_alloc _ (new_cell w2 #[.int .i64 1, .int .i64 0, .slice A2 2 c2] 24 w2.heap.size rfl 0))
  have y1 : w3.cell? ⟨w2.heap.size, 1, none⟩ = some (.int .i64 0) := cell_keep hb3 (cell_alloc _ (new_cell w2 #[.int .i64 1, .int .i64 0, .slice A2 2 c2] 24 w2.heap.size rfl 1))
  have y2 : w3.cell? ⟨w2.heap.size, 2, none⟩ = some (.slice A2 2 c2) := cell_keep hb3 (cell_alloc _ (new_cell w2 #[.int .i64 1, .int .i64 0, .slice A2 2 c2] 24 w2.heap.size rfl 2))
  have hbw3 : Below w2.heap.size w2 w3 := below_then' (below_box (box_below w2 _) (by simp) _) (by first | (simp; done) | (simp; omega)) hb3
  have hr2' := hr2.below hbw3
  have hbb3 := below_then' hbb2 hs2 hbw3
  have hs3 : w.heap.size ≤ w3.heap.size := by have := hbw3.size; omega
  clear x0 x1 x2 f0 f1 f2
  go_wp2_with fail
  refine (shift_calls 1 2 2 _ 1 1 _ (by decide) (by decide) (by decide) (by decide)).mono ?_
  rintro e w4 ⟨rfl, hb4⟩
  rw [show shf 1 2 (1 : Nat) 2 = 1 from by decide]
  have k0 : w4.cell? ⟨w1.heap.size + 1 + 1, 0, none⟩ = some (.int .i64 1) := cell_keep hb4 g0
  have k1 : w4.cell? ⟨w1.heap.size + 1 + 1, 1, none⟩ = some (.int .i64 2) := cell_keep hb4 g1
  have k2 : w4.cell? ⟨w1.heap.size + 1 + 1, 2, none⟩ = some (.slice (some ⟨w1.heap.size + 1, 0, none⟩) 1 1) := cell_keep hb4 g2
  have z0 : w4.cell? ⟨w2.heap.size, 0, none⟩ = some (.int .i64 1) := cell_keep hb4 y0
  have z1 : w4.cell? ⟨w2.heap.size, 1, none⟩ = some (.int .i64 0) := cell_keep hb4 y1
  have z2 : w4.cell? ⟨w2.heap.size, 2, none⟩ = some (.slice A2 2 c2) := cell_keep hb4 y2
  have hr2b := hr2'.below hb4
  have hbb4 := below_then' hbb3 hs3 hb4
  have hs4 : w.heap.size ≤ w4.heap.size := by have := hb4.size; omega
  clear g0 g1 g2 y0 y1 y2
  go_wp2_with fail
  refine (shift_calls 1 2 4 _ 1 1 _ (by decide) (by decide) (by decide) (by decide)).mono ?_
  rintro e w5 ⟨rfl, hb5⟩
  rw [show shf 1 2 (1 : Nat) 4 = 3 from by decide]
  have l0 : w5.cell? ⟨w1.heap.size + 1 + 1, 0, none⟩ = some (.int .i64 1) := cell_keep hb5 k0
  have l1 : w5.cell? ⟨w1.heap.size + 1 + 1, 1, none⟩ = some (.int .i64 2) := cell_keep hb5 k1
  have l2 : w5.cell? ⟨w1.heap.size + 1 + 1, 2, none⟩ = some (.slice (some ⟨w1.heap.size + 1, 0, none⟩) 1 1) := cell_keep hb5 k2
  have t0 : w5.cell? ⟨w2.heap.size, 0, none⟩ = some (.int .i64 1) := cell_keep hb5 z0
  have t1 : w5.cell? ⟨w2.heap.size, 1, none⟩ = some (.int .i64 0) := cell_keep hb5 z1
  have t2 : w5.cell? ⟨w2.heap.size, 2, none⟩ = some (.slice A2 2 c2) := cell_keep hb5 z2
  have hr2c := hr2b.below hb5
  have hbb5 := below_then' hbb4 hs4 hb5
  have hs5 : w.heap.size ≤ w5.heap.size := by have := hb5.size; omega
  clear k0 k1 k2 z0 z1 z2
  go_wp2_with fail
  refine (same_ex2 _ _ _ _ ?_ ?_).mono ?_
  · exact rd_alloc _ hr2c
  · exact lit_rd _ _ _ _ [120, 118] (by simp) rfl
  rintro e w6 ⟨rfl, hb6⟩
  have m0 : w6.cell? ⟨w1.heap.size + 1 + 1, 0, none⟩ = some (.int .i64 1) := cell_keep hb6 (cell_alloc _ l0)
  have m1 : w6.cell? ⟨w1.heap.size + 1 + 1, 1, none⟩ = some (.int .i64 2) := cell_keep hb6 (cell_alloc _ l1)
  have m2 : w6.cell? ⟨w1.heap.size + 1 + 1, 2, none⟩ = some (.slice (some ⟨w1.heap.size + 1, 0, none⟩) 1 1) := cell_keep hb6 (cell_alloc _ l2)
  have hbb6 := below_then' (below_box hbb5 hs5 _) (by first | (simp; done) | (simp; omega)) hb6
  have hs6 : w.heap.size ≤ w6.heap.size := by have := hb6.size; simp at this; omega
  clear l0 l1 l2 t0 t1 t2
  go_wp2_with fail
  refine (check_calls 1 2 2 _ _ (by decide) (by decide)).mono ?_
  rintro e w7 ⟨rfl, hb7⟩
  rw [show chk 1 2 2 = 1 from by decide]
  go_wp2
  go_ret
  exact ⟨rfl, below_then' hbb6 hs6 hb7⟩
end Go.Proofs.Ytjdnajmljafkpaa
