import Derived.Test.YthkmlfefofgnhaaHgRSplit
namespace Go.Proofs.Ythkmlfefofgnhaa
open Go.RowKit
set_option linter.unusedVariables false
set_option linter.unusedSimpArgs false

theorem equal_calls (A B : Option Addr) (c d : Nat) (xs ys : List Int) (w : World) (hx : Rd w A xs) (hy : Rd w B ys)
    (hn : xs.length ≤ 4611686018427387904) (hm : ys.length ≤ 4611686018427387904) :
    Calls Try.prog 12 #[.slice A xs.length c, .slice B ys.length d] w fun e w' => e = .returned (.bool (decide (xs = ys))) ∧ Drawn w w' := by
  have HE := Lib.hid (cmp_zero xs ys)
  go_enter Try.func12, Try.ntmps12
  go_wp2_with (go_at_call 21; refine (cmp_calls A B c d xs ys _ hx hy hn hm).mono ?_; rintro e w' ⟨rfl, hd⟩)
  go_ret
  refine ⟨ret_bool ?_, hd⟩
  have := HE.out
  by_cases h : xs = ys
  · rw [decide_eq_true h]; simp [this.2 h]
  · rw [decide_eq_false h]; simp [mt this.1 h]
theorem equalB (A B : Option Addr) (c d : Nat) (xs ys : List Int) (x : Bool) (w : World) (hx : Rd w A xs) (hy : Rd w B ys) (hX : Hid (decide (xs = ys) = x))
    (hn : xs.length ≤ 1000) (hm : ys.length ≤ 1000) :
    Calls Try.prog 12 #[.slice A xs.length c, .slice B ys.length d] w fun e w' => e = .returned (.bool x) ∧ Below w.heap.size w w' := by
  refine (equal_calls A B c d xs ys w hx hy (by omega) (by omega)).mono ?_
  rintro e w' ⟨rfl, hd⟩
  exact ⟨ret_bool hX.out, hd.below⟩
/-- The cells from A on hold these ranges, in memory that is there. -/
def RdP (w : World) (A : Option Addr) (ps : List (Nat × Nat)) : Prop :=
  0 < ps.length → ∃ g : Nat, A = some ⟨g, 0, none⟩ ∧ g < w.heap.size ∧ ∀ j, j < ps.length → w.cell? ⟨g, j * 2, none⟩ = some (.int .i64 ((ps.getD j (0, 0)).1 : Int)) ∧ w.cell? ⟨g, j * 2 + 1, none⟩ = some (.int .i64 ((ps.getD j (0, 0)).2 : Int))
theorem flat_at {ps : List (Nat × Nat)} {j : Nat} (h : j < ps.length) : (flat ps)[j * 2]? = some (.int .i64 ((ps.getD j (0, 0)).1 : Int)) ∧ (flat ps)[j * 2 + 1]? = some (.int .i64 ((ps.getD j (0, 0)).2 : Int)) := by
  induction ps generalizing j with
  | nil => simp at h
  | cons p ps ih =>
    cases j with
    | zero => exact ⟨rfl, rfl⟩
    | succ j =>
      have h2 := ih (j := j) (by simpa using h)
      have e : flat (p :: ps) = (.int .i64 (p.1 : Int)) :: (.int .i64 (p.2 : Int)) :: flat ps := rfl
      rw [e, show (j + 1) * 2 = j * 2 + 1 + 1 by omega]
      simpa using h2
theorem RdP.of {w : World} {B : Nat} {v : Value} {ps : List (Nat × Nat)} (h : OwnP w B v ps) : ∃ A c, v = .slice A ps.length c ∧ RdP w A ps := by
  rcases h.2 with ⟨rfl, h0⟩ | ⟨g, cap, cur, rfl, h2, h3, h4, h5, h6, h7⟩
  · exact ⟨none, 0, by rw [h0], fun h => absurd h0 (by omega)⟩
  · refine ⟨_, cap, rfl, fun _ => ⟨g, rfl, lt_of_heap h3, fun j hj => ?_⟩⟩
    have h8 := flat_at hj
    rw [← h7, List.getElem?_take, if_pos (by omega), List.getElem?_take, if_pos (by omega)] at h8
    rw [cell_of_row w g _ cur _ (0, 0) h3, cell_of_row w g _ cur _ (0, 0) h3, ← Array.getElem?_toList, ← Array.getElem?_toList]
    exact h8
theorem RdP.below {w w' : World} {A : Option Addr} {ps : List (Nat × Nat)} (h : RdP w A ps) (hb : Below w.heap.size w w') : RdP w' A ps := fun hn => by
  obtain ⟨g, e, hg, hc⟩ := h hn
  exact ⟨g, e, by have := hb.size; omega, fun j hj => by rw [hb.cell (p := ⟨g, j * 2, none⟩) hg, hb.cell (p := ⟨g, j * 2 + 1, none⟩) hg]; exact hc j hj⟩
def exA : List Int := [4352, 4449, 4520, 65, 44032]
theorem exA_runs : (runs exA 5).1 = [(0, 3), (4, 5)] := by decide
theorem exA_small : Small exA := fun j => by
  by_cases h : j < 5
  · rcases (show j = 0 ∨ j = 1 ∨ j = 2 ∨ j = 3 ∨ j = 4 by omega) with rfl | rfl | rfl | rfl | rfl <;> decide
  · rw [el_out (xs := exA) (by show 5 ≤ j; omega)]; decide
theorem aC (w : World) : Calls Try.prog 16 #[.int .i64 4352, .int .i64 4449] w fun e w' => e = .returned (.tuple #[.int .i64 44032, .bool true]) ∧ Below w.heap.size w w' :=
  compose_calls 4352 4449 w (by decide) (by decide)
theorem aK (w : World) : Calls Try.prog 10 #[.int .i64 44033] w fun e w' => e = .returned (.int .i64 5) ∧ Below w.heap.size w w' :=
  kind_calls 44033 w (by decide)
theorem aD (w : World) : Calls Try.prog 13 #[.int .i64 44033] w fun e w' => (∃ (A : Option Addr) (k : Nat), e = .returned (.slice A 3 k) ∧ Rd w' A [4352, 4449, 4520]) ∧ Below w.heap.size w w' := by
  refine (dec_calls 44033 w (by decide)).mono ?_
  rintro e w' ⟨A, k, rfl, hr, hb⟩
  exact ⟨⟨A, k, rfl, hr⟩, hb⟩
theorem aS (w : World) : Calls Try.prog 18 #[.slice (some ⟨w.heap.size, 0, none⟩) 5 5] (w.alloc (.cells #[.int .i64 4352, .int .i64 4449, .int .i64 4520, .int .i64 65, .int .i64 44032] 3))
    fun e w' => (∃ (g c : Nat), e = .returned (.slice (some ⟨g, 0, none⟩) 2 c) ∧ g < w'.heap.size ∧ w'.cell? ⟨g, 1, none⟩ = some (.int .i64 3) ∧ w'.cell? ⟨g, 2, none⟩ = some (.int .i64 4)) ∧ Below w.heap.size w w' := by
  have hr : Rd (w.alloc (.cells #[.int .i64 4352, .int .i64 4449, .int .i64 4520, .int .i64 65, .int .i64 44032] 3)) (some ⟨w.heap.size, 0, none⟩) exA :=
    rd_at w 3 _ exA fun j hj => by
      have h5 : j < 5 := hj
      rcases (show j = 0 ∨ j = 1 ∨ j = 2 ∨ j = 3 ∨ j = 4 by omega) with rfl | rfl | rfl | rfl | rfl <;> rfl
  refine (split_calls (some ⟨w.heap.size, 0, none⟩) 5 exA _ hr exA_small (by decide) (by decide)).mono ?_
  rintro e w' ⟨⟨v, rfl, ho⟩, hb⟩
  have ho2 : OwnP w' (w.alloc (.cells #[.int .i64 4352, .int .i64 4449, .int .i64 4520, .int .i64 65, .int .i64 44032] 3)).heap.size v [(0, 3), (4, 5)] := by
    rw [← exA_runs]; exact ho
  obtain ⟨A, c, rfl, hp⟩ := RdP.of ho2
  obtain ⟨g, rfl, hg, hc⟩ := hp (by decide)
  exact ⟨⟨g, c, rfl, hg, (hc 0 (by decide)).2, (hc 1 (by decide)).1⟩, below_then' ((Below.refl _ w).alloc (Nat.le_refl _) _) (by simp) hb⟩
theorem cell_keep {w w1 : World} {a : Addr} {v : Value} (hb : Below w.heap.size w w1) (h : w.cell? a = some v) : w1.cell? a = some v := (hb.cell (World.block_lt_of_cell? w a h)).trans h
theorem cells_at3' (w : World) (x y z : Int) : Rd (w.alloc (.cells #[.int .i64 x, .int .i64 y, .int .i64 z] 3)) (some ⟨w.heap.size, 0, none⟩) [x, y, z] :=
  rd_at w 3 _ _ fun j hj => by rcases (show j = 0 ∨ j = 1 ∨ j = 2 by simp at hj; omega) with rfl | rfl | rfl <;> rfl
theorem aE (w : World) (A : Option Addr) (k : Nat) (hr : Rd w A [4352, 4449, 4520]) : Calls Try.prog 12 #[.slice A 3 k, .slice (some ⟨w.heap.size, 0, none⟩) 3 3] (w.alloc (.cells #[.int .i64 4352, .int .i64 4449, .int .i64 4520] 3))
    fun e w' => e = .returned (.bool true) ∧ Below w.heap.size w w' := by
  have hal : Below w.heap.size w (w.alloc (.cells #[.int .i64 4352, .int .i64 4449, .int .i64 4520] 3)) := (Below.refl _ w).alloc (Nat.le_refl _) _
  refine (equalB A (some ⟨w.heap.size, 0, none⟩) k 3 [4352, 4449, 4520] [4352, 4449, 4520] true _ (hr.below hal) (cells_at3' w 4352 4449 4520) (Lib.hid (by decide)) (by decide) (by decide)).mono ?_
  rintro e w' ⟨rfl, hb⟩
  exact ⟨rfl, below_then' hal hal.size hb⟩
theorem awake_calls (w : World) : Calls Try.prog 15 #[] w fun e w' => e = .returned (.bool true) ∧ Below w.heap.size w w' := by
  go_enter Try.func15, Try.ntmps15
  go_wp2_with fail
  refine (aC _).mono ?_; rintro e w1 ⟨rfl, hb1⟩
  have hb := Lib.hid hb1
  clear hb1
  go_wp2_with fail
  refine (aS w1).mono ?_; rintro e w2 ⟨⟨g, c, rfl, hg, c1, c2⟩, hb2⟩
  replace hb := Lib.hid (below_then' hb.out hb.out.size hb2)
  clear hb2
  go_wp2_with fail
  refine (aD _).mono ?_; rintro e w3 ⟨⟨A, k, rfl, hr⟩, hb3⟩
  replace hb := Lib.hid (below_then' hb.out hb.out.size hb3)
  replace c1 := cell_keep hb3 c1
  replace c2 := cell_keep hb3 c2
  go_wp2_with fail
  refine (aE w3 A k hr).mono ?_; rintro e w4 ⟨rfl, hb4⟩
  replace hb := Lib.hid (below_then' hb.out hb.out.size hb4)
  have c3 := cell_keep hb4 c1
  have c4 := cell_keep hb4 c2
  clear c1 c2 hb3 hb4 hr
  go_wp2_with fail
  refine (aK _).mono ?_; rintro e w5 ⟨rfl, hb5⟩
  replace hb := Lib.hid (below_then' hb.out hb.out.size hb5)
  have c1 := cell_keep hb5 c3
  have c2 := cell_keep hb5 c4
  clear c3 c4 hb5
  go_wp2_with fail
  go_ret
  exact ⟨ret_bool rfl, hb.out⟩
end Go.Proofs.Ythkmlfefofgnhaa
