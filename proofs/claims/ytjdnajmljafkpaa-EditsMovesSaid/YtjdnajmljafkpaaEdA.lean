import Derived.Test.YtjdnajmljafkpaaApp
import Derived.Test.YtjdnajmljafkpaaCmp
import Derived.Laws.CopyOwn
namespace Go.Proofs.Ytjdnajmljafkpaa
open Go.RowKit
set_option linter.unusedVariables false
set_option linter.unusedSimpArgs false

/-- What Check answers. -/
def chk (a d s : Int) : Int := if a < 0 ∨ d < 0 ∨ s < a ∨ s - a < d then 1 else 0
theorem chk_ok {a d s : Int} : chk a d s = 0 ↔ 0 ≤ a ∧ 0 ≤ d ∧ a ≤ s ∧ d ≤ s - a := by
  unfold chk; split <;> constructor <;> intro h <;> simp_all <;> omega
theorem chk_no {a d s : Int} (h : a < 0 ∨ d < 0 ∨ s < a ∨ s - a < d) : chk a d s = 1 := by
  unfold chk; rw [if_pos h]
theorem chk_yes {a d s : Int} (h : 0 ≤ a ∧ 0 ≤ d ∧ a ≤ s ∧ d ≤ s - a) : chk a d s = 0 := chk_ok.2 h

theorem box_below (w : World) (o : Obj) : Below w.heap.size w (w.alloc o) := (Below.refl _ _).alloc (Nat.le_refl _) _

set_option maxHeartbeats 400000 in
theorem check_calls (a d s : Int) (v : Value) (w : World) (ha : -9223372036854775808 ≤ a) (hs : s ≤ 9223372036854775807) :
    Calls Try.prog 13 #[.agg #[.int .i64 a, .int .i64 d, v], .int .i64 s] w fun e w' => e = .returned (.int .i64 (chk a d s)) ∧ Below w.heap.size w w' := by
  by_cases h1 : a < 0
  · have HC := Lib.hid (chk_no (a := a) (d := d) (s := s) (by omega))
    go_enter Try.func13, Try.ntmps13
    go_wp2
    go_ret
    exact ⟨ret_int HC.out.symm, box_below _ _⟩
  · by_cases h2 : d < 0
    · have HC := Lib.hid (chk_no (a := a) (d := d) (s := s) (by omega))
      go_enter Try.func13, Try.ntmps13
      go_wp2
      go_ret
      exact ⟨ret_int HC.out.symm, box_below _ _⟩
    · by_cases h3 : s < a
      · have HC := Lib.hid (chk_no (a := a) (d := d) (s := s) (by omega))
        go_enter Try.func13, Try.ntmps13
        go_wp2
        go_ret
        exact ⟨ret_int HC.out.symm, box_below _ _⟩
      · by_cases h4 : s - a < d
        · have HC := Lib.hid (chk_no (a := a) (d := d) (s := s) (by omega))
          go_enter Try.func13, Try.ntmps13
          go_wp2
          go_ret
          exact ⟨ret_int HC.out.symm, box_below _ _⟩
        · have HC := Lib.hid (chk_yes (a := a) (d := d) (s := s) (by omega))
          go_enter Try.func13, Try.ntmps13
          go_wp2
          go_ret
          exact ⟨ret_int HC.out.symm, box_below _ _⟩

theorem small_calls (a d : Int) (A : Option Addr) (n c : Nat) (w : World) (hn : n ≤ 9223372036854775807) :
    Calls Try.prog 12 #[.agg #[.int .i64 a, .int .i64 d, .slice A n c]] w fun e w' => e = .returned (.bool (decide (n ≤ 40))) ∧ Below w.heap.size w w' := by
  by_cases h : n ≤ 40
  · have HC := Lib.hid (decide_eq_true h)
    go_enter Try.func12, Try.ntmps12
    go_wp2
    go_ret
    exact ⟨ret_bool (by rw [HC.out]; simp; omega), box_below _ _⟩
  · have HC := Lib.hid (decide_eq_false h)
    go_enter Try.func12, Try.ntmps12
    go_wp2
    go_ret
    exact ⟨ret_bool (by rw [HC.out]; simp; omega), box_below _ _⟩

theorem few_calls (A : Option Addr) (n c : Nat) (w : World) (hn : n ≤ 9223372036854775807) :
    Calls Try.prog 16 #[.slice A n c] w fun e w' => e = .returned (.bool (decide (n ≤ 60))) ∧ w = w' := by
  by_cases h : n ≤ 60
  · have HC := Lib.hid (decide_eq_true h)
    go_enter Try.func16, Try.ntmps16
    go_wp2
    go_ret
    exact ⟨ret_bool (by rw [HC.out]; simp; omega), rfl⟩
  · have HC := Lib.hid (decide_eq_false h)
    go_enter Try.func16, Try.ntmps16
    go_wp2
    go_ret
    exact ⟨ret_bool (by rw [HC.out]; simp; omega), rfl⟩
end Go.Proofs.Ytjdnajmljafkpaa
