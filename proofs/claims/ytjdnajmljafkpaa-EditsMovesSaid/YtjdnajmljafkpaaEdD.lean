import Derived.Test.YtjdnajmljafkpaaEdC
namespace Go.Proofs.Ytjdnajmljafkpaa
open Go.RowKit
set_option linter.unusedVariables false
set_option linter.unusedSimpArgs false

/-- An edit as a value. -/
abbrev edV (a d : Int) (C : Option Addr) (n b : Nat) : Value := .agg #[.int .i64 a, .int .i64 d, .slice C n b]

set_option maxHeartbeats 400000 in
theorem apply_no (a d : Int) (v : Value) (A : Option Addr) (c n : Nat) (w : World) (ha : -9223372036854775808 ≤ a) (hn : n ≤ 1000000) (h : chk a d n ≠ 0) :
    Calls Try.prog 22 #[.agg #[.int .i64 a, .int .i64 d, v], .slice A n c] w fun e w' => e = .returned (.tuple #[.slice none 0 0, .int .i64 1]) ∧ Below w.heap.size w w' := by
  have hch : chk a d n = 1 := by
    unfold chk at h ⊢; split <;> simp_all
  have HC := Lib.hid hch
  clear hch h
  have hb0 := box_below w (.cells #[.int .i64 a, .int .i64 d, v] 24)
  go_enter Try.func22, Try.ntmps22
  go_wp2_with fail
  refine (check_calls a d n v _ ha (by omega)).mono ?_
  rintro e w1 ⟨rfl, hb1⟩
  rw [HC.out]
  go_wp2
  go_ret2
  exact ⟨rfl, below_then' hb0 hb0.size hb1⟩

set_option maxHeartbeats 400000 in
theorem apply_yes (a d : Int) (C A : Option Addr) (b c : Nat) (xs ys : List Int) (w : World) (hx : Rd w A xs) (hy : Rd w C ys) (hc : xs.length ≤ c)
    (hn : xs.length ≤ 1000000) (hm : ys.length ≤ 1000000) (h0 : 0 ≤ a) (h1 : 0 ≤ d) (h2 : a + d ≤ xs.length) :
    Calls Try.prog 22 #[.agg #[.int .i64 a, .int .i64 d, .slice C ys.length b], .slice A xs.length c] w fun e w' =>
      ∃ v, e = .returned (.tuple #[v, .int .i64 0]) ∧ Sl w' v (repl xs a.toNat d.toNat ys) ∧ Below w.heap.size w w' := by
  have HC := Lib.hid (chk_yes (a := a) (d := d) (s := xs.length) (by omega))
  have hb0 := box_below w (.cells #[.int .i64 a, .int .i64 d, .slice C ys.length b] 24)
  go_enter Try.func22, Try.ntmps22
  go_wp2_with fail
  refine (check_calls a d xs.length _ _ (by omega) (by omega)).mono ?_
  rintro e w1 ⟨rfl, hb1⟩
  rw [HC.out]
  have hc0 : w1.cell? ⟨w.heap.size, 0, none⟩ = some (.int .i64 a) := (hb1.cell (p := ⟨w.heap.size, 0, none⟩) (by simp)).trans (by simp)
  have hc1 : w1.cell? ⟨w.heap.size, 1, none⟩ = some (.int .i64 d) := (hb1.cell (p := ⟨w.heap.size, 1, none⟩) (by simp)).trans (by simp)
  have hc2 : w1.cell? ⟨w.heap.size, 2, none⟩ = some (.slice C ys.length b) := (hb1.cell (p := ⟨w.heap.size, 2, none⟩) (by simp)).trans (by simp)
  have hbb := below_then' hb0 hb0.size hb1
  go_wp2_with fail
  refine (replaced_calls A C c b xs ys a d w1 (hx.below hbb) (hy.below hbb) hc h0 h1 h2 hn hm).mono ?_
  rintro e w2 ⟨v, rfl, hv, hb2⟩
  go_wp2
  go_ret2
  exact ⟨v, rfl, hv.sl, below_then' hbb hbb.size hb2⟩


set_option maxHeartbeats 400000 in
theorem rcheck_calls (a d s : Int) (v : Value) (w : World) (ha : -9223372036854775808 ≤ a) (hs : s ≤ 9223372036854775807) :
    Calls Try.prog 14 #[.agg #[.int .i64 a, .int .i64 d, v], .int .i64 s] w fun e w' => e = .returned (.int .i64 (chk a d s)) ∧ Below w.heap.size w w' := by
  by_cases h1 : a < 0
  · have HC := Lib.hid (chk_no (a := a) (d := d) (s := s) (by omega))
    go_enter Try.func14, Try.ntmps14
    go_wp2
    go_ret
    exact ⟨ret_int HC.out.symm, box_below _ _⟩
  · by_cases h2 : d < 0
    · have HC := Lib.hid (chk_no (a := a) (d := d) (s := s) (by omega))
      go_enter Try.func14, Try.ntmps14
      go_wp2
      go_ret
      exact ⟨ret_int HC.out.symm, box_below _ _⟩
    · by_cases h3 : s < a
      · have HC := Lib.hid (chk_no (a := a) (d := d) (s := s) (by omega))
        go_enter Try.func14, Try.ntmps14
        go_wp2
        go_ret
        exact ⟨ret_int HC.out.symm, box_below _ _⟩
      · by_cases h4 : s - a < d
        · have HC := Lib.hid (chk_no (a := a) (d := d) (s := s) (by omega))
          go_enter Try.func14, Try.ntmps14
          go_wp2
          go_ret
          exact ⟨ret_int HC.out.symm, box_below _ _⟩
        · have HC := Lib.hid (chk_yes (a := a) (d := d) (s := s) (by omega))
          go_enter Try.func14, Try.ntmps14
          go_wp2
          go_ret
          exact ⟨ret_int HC.out.symm, box_below _ _⟩

set_option maxHeartbeats 400000 in
theorem rapply_no (a d : Int) (v : Value) (A : Option Addr) (c n : Nat) (w : World) (ha : -9223372036854775808 ≤ a) (hn : n ≤ 1000000) (h : chk a d n ≠ 0) :
    Calls Try.prog 23 #[.agg #[.int .i64 a, .int .i64 d, v], .slice A n c] w fun e w' => e = .returned (.tuple #[.slice none 0 0, .int .i64 1]) ∧ Below w.heap.size w w' := by
  have hch : chk a d n = 1 := by
    unfold chk at h ⊢; split <;> simp_all
  have HC := Lib.hid hch
  clear hch h
  have hb0 := box_below w (.cells #[.int .i64 a, .int .i64 d, v] 24)
  go_enter Try.func23, Try.ntmps23
  go_wp2_with fail
  refine (rcheck_calls a d n v _ ha (by omega)).mono ?_
  rintro e w1 ⟨rfl, hb1⟩
  rw [HC.out]
  go_wp2
  go_ret2
  exact ⟨rfl, below_then' hb0 hb0.size hb1⟩
end Go.Proofs.Ytjdnajmljafkpaa
