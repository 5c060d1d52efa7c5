import Derived.Test.YtkokfinmolkehaaCpParse
namespace Go.Proofs.Ytkokfinmolkehaa
open Go.RowKit
set_option linter.unusedVariables false
set_option linter.unusedSimpArgs false
def sA : ByteArray := ⟨#[0x31, 0x30, 0x46, 0x46, 0x46, 0x46]⟩
def sB : ByteArray := ⟨#[0x30, 0x34, 0x31]⟩
def sC : ByteArray := ⟨#[0x30, 0x30, 0x30, 0x34, 0x31]⟩
instance (s : ByteArray) (k : Nat) : Decidable (Hexy s k) := by unfold Hexy; infer_instance
theorem parsed_A : parsed sA = (1114111, 0) := by
  have h : Names sA := ⟨by decide, by decide, by decide, by decide⟩
  unfold parsed; rw [if_pos h]; rfl
theorem parsed_B : parsed sB = (0, 3) := by
  have h : ¬ Names sB := fun h => absurd h.2.2.2 (by decide)
  unfold parsed; rw [if_neg h]
theorem parsed_C : parsed sC = (0, 3) := by
  have h : ¬ Names sC := fun h => absurd h.2.2.2 (by decide)
  unfold parsed; rw [if_neg h]
theorem hex_65 : hexOf 65 = ⟨#[0x30, 0x30, 0x34, 0x31]⟩ := by decide
theorem pA (w : World) : Calls Try.prog 11 #[.string sA] w fun e w' => e = .returned (.tuple #[.int .i64 1114111, .int .i64 0]) ∧ Below w.heap.size w w' := by
  refine (parse_calls sA w).mono ?_; rw [parsed_A]; exact fun e w' h => h
theorem pB (w : World) : Calls Try.prog 11 #[.string sB] w fun e w' => e = .returned (.tuple #[.int .i64 0, .int .i64 3]) ∧ Below w.heap.size w w' := by
  refine (parse_calls sB w).mono ?_; rw [parsed_B]; exact fun e w' h => h
theorem pC (w : World) : Calls Try.prog 11 #[.string sC] w fun e w' => e = .returned (.tuple #[.int .i64 0, .int .i64 3]) ∧ Below w.heap.size w w' := by
  refine (parse_calls sC w).mono ?_; rw [parsed_C]; exact fun e w' h => h
theorem pH (w : World) : Calls Try.prog 10 #[.int .i64 65] w fun e w' => e = .returned (.string ⟨#[0x30, 0x30, 0x34, 0x31]⟩) ∧ Below w.heap.size w w' := by
  refine (hex_calls 65 w).mono ?_; rw [hex_65]; exact fun e w' h => h
def aW (w : World) : World := (w.alloc (.cells #[.int .i64 1] 3)).alloc (.cells #[.int .i64 1, .int .i64 0] 3)
theorem aW_x (w : World) : Rd (aW w) (some ⟨w.heap.size, 0, none⟩) [1] := fun _ =>
  ⟨_, rfl, by simp [aW] <;> omega, fun j hj => by
    have : j = 0 := by simp at hj; omega
    subst this
    rw [Addr.add_lit]; unfold aW
    rw [World.cell?_alloc_past _ _ _ (by simp), World.cell?_alloc_at _ _ _ _ rfl]; rfl⟩
theorem aW_y (w : World) : Rd (aW w) (some ⟨w.heap.size + 1, 0, none⟩) [1, 0] := fun _ =>
  ⟨_, rfl, by simp [aW] <;> omega, fun j hj => by
    rw [Addr.add_lit]; unfold aW
    rw [World.cell?_alloc_at _ _ _ _ (by simp)]
    rcases (show j = 0 ∨ j = 1 by simp at hj; omega) with rfl | rfl <;> rfl⟩
theorem aW_below (w : World) : Below w.heap.size w (aW w) := ((Below.refl _ w).alloc (Nat.le_refl _) _).alloc (by simp) _
theorem pW (w : World) : Calls Try.prog 16 #[.slice (some ⟨w.heap.size, 0, none⟩) 1 1, .slice (some ⟨w.heap.size + 1, 0, none⟩) 2 2] (aW w)
    fun e w' => e = .returned (.int .i64 (-1)) ∧ Below w.heap.size w w' := by
  refine (compare_calls _ _ 1 2 [1] [1, 0] _ (aW_x w) (aW_y w) (by decide) (by decide)).mono ?_
  rintro e w' ⟨rfl, ⟨m, rfl⟩⟩
  exact ⟨rfl, below_drewN' (aW_below w) m⟩
theorem awake_calls (w : World) : Calls Try.prog 13 #[] w fun e w' => e = .returned (.bool true) ∧ Below w.heap.size w w' := by
  go_enter Try.func13, Try.ntmps13
  go_wp2_with fail
  refine (pA _).mono ?_; rintro e w1 ⟨rfl, hb1⟩
  go_wp2_with fail
  refine (pB _).mono ?_; rintro e w2 ⟨rfl, hb2⟩
  have hb := Lib.hid (below_then' hb1 hb1.size hb2)
  clear hb1 hb2
  go_wp2_with fail
  refine (pC _).mono ?_; rintro e w3 ⟨rfl, hb3⟩
  have hb := Lib.hid (below_then' hb.out hb.out.size hb3)
  clear hb3
  go_wp2_with fail
  refine (pH _).mono ?_; rintro e w4 ⟨rfl, hb4⟩
  have hb := Lib.hid (below_then' hb.out hb.out.size hb4)
  clear hb4
  go_wp2_with fail
  refine (pW w4).mono ?_; rintro e w5 ⟨rfl, hb5⟩
  have hb := Lib.hid (below_then' hb.out hb.out.size hb5)
  clear hb5
  go_wp2_with fail
  go_ret
  exact ⟨ret_bool rfl, hb.out⟩
end Go.Proofs.Ytkokfinmolkehaa
