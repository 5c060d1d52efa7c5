import Derived.Test.YtjdnajmljafkpaaBase
import Derived.Test.YtjdnajmljafkpaaProg
import Derived.KernelRfl
import Derived.Deep.QuietTactic
import Derived.BigQuiet
import Derived.Outline
namespace Go.Proofs.Ytjdnajmljafkpaa
open Go.RowKit
set_option linter.unusedVariables false
set_option linter.unusedSimpArgs false

/-- The world is the old one, some orders having been drawn. -/
def Drawn (w w' : World) : Prop := ∃ n, w' = w.drewN n
theorem Drawn.refl (w : World) : Drawn w w := ⟨0, rfl⟩
theorem Drawn.step {w w' : World} (h : Drawn w w') (n : Nat) : Drawn w (w'.drewN n) := by
  obtain ⟨m, rfl⟩ := h
  exact ⟨m + n, World.drewN_drewN ..⟩
theorem Drawn.below {w w' : World} (h : Drawn w w') : Below w.heap.size w w' := by
  obtain ⟨n, rfl⟩ := h
  exact below_drewN' (Below.refl _ _) n

set_option maxHeartbeats 1000000 in
theorem cmp_calls (A B : Option Addr) (c d : Nat) (xs ys : List Int) (w : World) (hx : Rd w A xs) (hy : Rd w B ys)
    (hn : xs.length ≤ 4611686018427387904) (hm : ys.length ≤ 4611686018427387904) :
    Calls Try.prog 31 #[.slice A xs.length c, .slice B ys.length d] w fun e w' => e = .returned (.int .i64 (cmp xs ys)) ∧ Drawn w w' := by
  have HC0 : Hid (cmp (xs.drop 0) (ys.drop 0) = cmp xs ys) := by exact rfl
  go_enter Try.func31, Try.ntmps31
  go_wp2
  go_loopw [5] (fun i wr => ∃ k : Nat, k ≤ xs.length ∧ k ≤ ys.length ∧ i = .int .i64 k ∧ Drawn w wr ∧ Hid (cmp (xs.drop k) (ys.drop k) = cmp xs ys))
    (fun i _ => xs.length - (intOf i).toNat)
  case atStart => exact ⟨0, Nat.zero_le _, Nat.zero_le _, rfl, Drawn.refl _, HC0⟩
  case round =>
    obtain ⟨k, hk, hl, rfl, ⟨m, rfl⟩, HC⟩ := hrel
    by_cases h1 : k < xs.length
    · by_cases h2 : k < ys.length
      · obtain ⟨a, rfl, ha⟩ := hx.at_ h1
        obtain ⟨b, rfl, hb⟩ := hy.at_ h2
        by_cases h3 : el xs k < el ys k
        · have HR := Lib.hid (cmp_lt_at h1 h2 h3)
          go_wp2
          go_quiet (fail)
          go_wp2
          go_ret
          exact ⟨ret_int (by rw [← HC.out, HR.out]), by repeat (first | exact Drawn.refl _ | refine Drawn.step ?_ _)⟩
        · by_cases h4 : el ys k < el xs k
          · have HR := Lib.hid (cmp_gt_at h1 h2 h4)
            go_wp2
            go_quiet (fail)
            go_wp2
            go_quiet (fail)
            go_wp2
            go_ret
            exact ⟨ret_int (by rw [← HC.out, HR.out]), by repeat (first | exact Drawn.refl _ | refine Drawn.step ?_ _)⟩
          · have HR := Lib.hid (cmp_eq_at h1 h2 h3 h4)
            go_wp2
            go_quiet (fail)
            go_wp2
            go_quiet (fail)
            go_wp2
            go_roundw
            case rel => exact ⟨k + 1, h1, h2, by go_num, ⟨_, rfl⟩, by rw [← HR.out]; exact HC⟩
            case measure => simp [intOf]; omega
      · have HE := Lib.hid (cmp_end (k := k) hk hl (by omega))
        have h3 : ¬ xs.length < ys.length := by omega
        have h4 : ys.length < xs.length := by omega
        go_wp2
        go_ret
        exact ⟨ret_int (by rw [← HC.out, HE.out, if_neg h3, if_pos h4]), ⟨_, rfl⟩⟩
    · have HE := Lib.hid (cmp_end (k := k) hk hl (by omega))
      have h4 : ¬ ys.length < xs.length := by omega
      by_cases h3 : xs.length < ys.length
      · go_wp2
        go_ret
        exact ⟨ret_int (by rw [← HC.out, HE.out, if_pos h3]), ⟨_, rfl⟩⟩
      · go_wp2
        go_ret
        exact ⟨ret_int (by rw [← HC.out, HE.out, if_neg h3, if_neg h4]), ⟨_, rfl⟩⟩

theorem equal_calls (A B : Option Addr) (c d : Nat) (xs ys : List Int) (w : World) (hx : Rd w A xs) (hy : Rd w B ys)
    (hn : xs.length ≤ 4611686018427387904) (hm : ys.length ≤ 4611686018427387904) :
    Calls Try.prog 24 #[.slice A xs.length c, .slice B ys.length d] w fun e w' => e = .returned (.bool (decide (xs = ys))) ∧ Drawn w w' := by
  have HE := Lib.hid (cmp_zero xs ys)
  go_enter Try.func24, Try.ntmps24
  go_wp2_with (go_at_call 31; refine (cmp_calls A B c d xs ys _ hx hy hn hm).mono ?_; rintro e w' ⟨rfl, hd⟩)
  go_ret
  refine ⟨ret_bool ?_, hd⟩
  have := HE.out
  by_cases h : xs = ys
  · rw [decide_eq_true h]; simp [this.2 h]
  · rw [decide_eq_false h]; simp [mt this.1 h]
end Go.Proofs.Ytjdnajmljafkpaa
