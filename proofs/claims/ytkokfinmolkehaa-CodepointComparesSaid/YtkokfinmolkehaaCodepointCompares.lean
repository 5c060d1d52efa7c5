/- CodepointCompares returns true for every pair of texts, and its arguments read behind the call as before. No condition beyond the row's own. -/
import Derived.Test.YtkokfinmolkehaaRows
import Derived.Test.YtkokfinmolkehaaFrame
import Derived.Test.YtkokfinmolkehaaCpLaw
namespace Go.Proofs.Ytkokfinmolkehaa.codepointCompares
open Go.ChangeShapes Go.WideShapes Go.ChangeAt Go.RowKit Go.Deep
open Go.ChangeMaps (open_string shut_string)
set_option linter.unusedVariables false
set_option linter.unusedSimpArgs false

theorem codepointCompares_walk (w : World) (A : Option Addr) (c : Nat) (xs : List Int) (hx : InRow w A c xs) (B : Option Addr) (b : Nat) (ys : List Int) (hy : InRow w B b ys) :
    Calls Try.prog 6 #[.slice A xs.length c, .slice B ys.length b] w fun e w' => e = .returned (.bool true) ∧ Below w.heap.size w w' := by
  obtain ⟨hx, hxc, hxm, _⟩ := hx
  have hxl : xs.length ≤ 9223372036854775807 := by unfold maxLen at hxm; omega
  clear hxm
  obtain ⟨hy, hyc, hym, _⟩ := hy
  have hyl : ys.length ≤ 9223372036854775807 := by unfold maxLen at hym; omega
  clear hym
  by_cases h1 : xs.length ≤ 300
  · by_cases h2 : ys.length ≤ 300
    · obtain ⟨x, hX⟩ : ∃ x, Hid (cmp xs ys = x) := ⟨_, rfl⟩
      have hN := Lib.hid ((cmp_anti xs ys).trans (by rw [hX.out]))
      have hS := Lib.hid (cmp_self xs)
      have hr : x = -1 ∨ x = 0 ∨ x = 1 := by rw [← hX.out]; exact cmp_range xs ys
      have hE := Lib.hid (show decide (xs = ys) = (x == 0) by rw [Bool.eq_iff_iff, decide_eq_true_eq, beq_iff_eq, ← hX.out]; exact (cmp_zero xs ys).symm)
      go_enter Try.func6, Try.ntmps6
      rcases hr with rfl | rfl | rfl
      · have hE : Hid (decide (xs = ys) = false) := hE.out
        go_wp2_with fail
        refine (compB _ _ _ _ _ _ _ _ hx hy hX (by omega) (by omega)).mono ?_
        rintro e w_1 ⟨rfl, hb⟩
        replace hx := Rd.below hx hb
        replace hy := Rd.below hy hb
        have hB := hb
        clear hb
        go_wp2_with fail
        refine (refB _ _ _ _ _ _ _ _ hx hy hX (by omega) (by omega)).mono ?_
        rintro e w_2 ⟨rfl, hb⟩
        replace hx := Rd.below hx hb
        replace hy := Rd.below hy hb
        replace hB := below_on hB hb
        clear hb
        go_wp2_with fail
        refine (equalB _ _ _ _ _ _ _ _ hx hy hE (by omega) (by omega)).mono ?_
        rintro e w_3 ⟨rfl, hb⟩
        replace hx := Rd.below hx hb
        replace hy := Rd.below hy hb
        replace hB := below_on hB hb
        clear hb
        go_wp2_with fail
        refine (compB _ _ _ _ _ _ _ _ hy hx hN (by omega) (by omega)).mono ?_
        rintro e w_4 ⟨rfl, hb⟩
        replace hx := Rd.below hx hb
        replace hy := Rd.below hy hb
        replace hB := below_on hB hb
        clear hb
        go_wp2_with fail
        refine (compB _ _ _ _ _ _ _ _ hx hx hS (by omega) (by omega)).mono ?_
        rintro e w_5 ⟨rfl, hb⟩
        replace hx := Rd.below hx hb
        replace hy := Rd.below hy hb
        replace hB := below_on hB hb
        clear hb
        go_wp2_with fail
        refine (awake_calls _).mono ?_
        rintro e w_6 ⟨rfl, hb⟩
        replace hx := Rd.below hx hb
        replace hy := Rd.below hy hb
        replace hB := below_on hB hb
        clear hb
        go_wp2
        go_ret
        exact ⟨rfl, hB⟩
      · have hE : Hid (decide (xs = ys) = true) := hE.out
        go_wp2_with fail
        refine (compB _ _ _ _ _ _ _ _ hx hy hX (by omega) (by omega)).mono ?_
        rintro e w_1 ⟨rfl, hb⟩
        replace hx := Rd.below hx hb
        replace hy := Rd.below hy hb
        have hB := hb
        clear hb
        go_wp2_with fail
        refine (refB _ _ _ _ _ _ _ _ hx hy hX (by omega) (by omega)).mono ?_
        rintro e w_2 ⟨rfl, hb⟩
        replace hx := Rd.below hx hb
        replace hy := Rd.below hy hb
        replace hB := below_on hB hb
        clear hb
        go_wp2_with fail
        refine (equalB _ _ _ _ _ _ _ _ hx hy hE (by omega) (by omega)).mono ?_
        rintro e w_3 ⟨rfl, hb⟩
        replace hx := Rd.below hx hb
        replace hy := Rd.below hy hb
        replace hB := below_on hB hb
        clear hb
        go_wp2_with fail
        refine (compB _ _ _ _ _ _ _ _ hy hx hN (by omega) (by omega)).mono ?_
        rintro e w_4 ⟨rfl, hb⟩
        replace hx := Rd.below hx hb
        replace hy := Rd.below hy hb
        replace hB := below_on hB hb
        clear hb
        go_wp2_with fail
        refine (compB _ _ _ _ _ _ _ _ hx hx hS (by omega) (by omega)).mono ?_
        rintro e w_5 ⟨rfl, hb⟩
        replace hx := Rd.below hx hb
        replace hy := Rd.below hy hb
        replace hB := below_on hB hb
        clear hb
        go_wp2_with fail
        refine (awake_calls _).mono ?_
        rintro e w_6 ⟨rfl, hb⟩
        replace hx := Rd.below hx hb
        replace hy := Rd.below hy hb
        replace hB := below_on hB hb
        clear hb
        go_wp2
        go_ret
        exact ⟨rfl, hB⟩
      · have hE : Hid (decide (xs = ys) = false) := hE.out
        go_wp2_with fail
        refine (compB _ _ _ _ _ _ _ _ hx hy hX (by omega) (by omega)).mono ?_
        rintro e w_1 ⟨rfl, hb⟩
        replace hx := Rd.below hx hb
        replace hy := Rd.below hy hb
        have hB := hb
        clear hb
        go_wp2_with fail
        refine (refB _ _ _ _ _ _ _ _ hx hy hX (by omega) (by omega)).mono ?_
        rintro e w_2 ⟨rfl, hb⟩
        replace hx := Rd.below hx hb
        replace hy := Rd.below hy hb
        replace hB := below_on hB hb
        clear hb
        go_wp2_with fail
        refine (equalB _ _ _ _ _ _ _ _ hx hy hE (by omega) (by omega)).mono ?_
        rintro e w_3 ⟨rfl, hb⟩
        replace hx := Rd.below hx hb
        replace hy := Rd.below hy hb
        replace hB := below_on hB hb
        clear hb
        go_wp2_with fail
        refine (compB _ _ _ _ _ _ _ _ hy hx hN (by omega) (by omega)).mono ?_
        rintro e w_4 ⟨rfl, hb⟩
        replace hx := Rd.below hx hb
        replace hy := Rd.below hy hb
        replace hB := below_on hB hb
        clear hb
        go_wp2_with fail
        refine (compB _ _ _ _ _ _ _ _ hx hx hS (by omega) (by omega)).mono ?_
        rintro e w_5 ⟨rfl, hb⟩
        replace hx := Rd.below hx hb
        replace hy := Rd.below hy hb
        replace hB := below_on hB hb
        clear hb
        go_wp2_with fail
        refine (awake_calls _).mono ?_
        rintro e w_6 ⟨rfl, hb⟩
        replace hx := Rd.below hx hb
        replace hy := Rd.below hy hb
        replace hB := below_on hB hb
        clear hb
        go_wp2
        go_ret
        exact ⟨rfl, hB⟩
    · go_enter Try.func6, Try.ntmps6
      go_wp2_with fail
      refine (awake_calls _).mono ?_
      rintro e w_1 ⟨rfl, hb⟩
      have hB := hb
      clear hb
      go_wp2
      go_ret
      exact ⟨rfl, hB⟩
  · go_enter Try.func6, Try.ntmps6
    go_wp2_with fail
    refine (awake_calls _).mono ?_
    rintro e w_1 ⟨rfl, hb⟩
    have hB := hb
    clear hb
    go_wp2
    go_ret
    exact ⟨rfl, hB⟩

theorem own : ownKnob Try.prog.godebug = none := by kernel_rfl
theorem laidOut : laidOutB Try.prog = true := by kernel_rfl

set_option maxRecDepth 100000 in
theorem lifted (os : Os) (started : os.Started) (H : Type) (enc : TypeId × Value → H) :
    ReturnsInHanded {} Try.checked os 6 .any (Rows.codepointComparesSpec.pre6 enc Try.prog Try.f6 Rows.codepointComparesRow.domain false) (Rows.codepointComparesSpec.post enc Try.prog Try.f6 false true false false) := by
  refine returnsInHanded_of_change (C := Try.checked) own started (by kernel_rfl) Try.func6
    (ChangeSpec.witness6 (enc := enc) (C := Try.checked) false ⟨#[], #[.slice none 0 0, .slice none 0 0], []⟩ 8 (by kernel_rfl) (by kernel_rfl) (by kernel_rfl) (by kernel_rfl)) ?_
  intro W base args ds gs before hval0 hW hcnd _
  have hval : ∀ (j : Nat) t v, Try.f6.params[j]? = some t → args[j]? = some v → Value.okWide Try.prog W .any base t v := hval0
  have hW' := hW
  obtain ⟨p, q, hA0, hV, rfl, hfz, hnd⟩ := hW
  have hA : DataW.TrodAll enc Try.prog W 0 (fun _ => true) true Try.f6.params.toList args.toList ds p := hA0
  rw [Try.params6] at hA hval
  obtain ⟨v0, vs0, d0, ds0, p0, q0, hargs, rfl, rfl, h0, r0⟩ := trodAll_cons hA
  obtain ⟨v1, vs1, d1, ds1, p1, q1, rfl, rfl, rfl, h1, r1⟩ := trodAll_cons r0
  obtain ⟨rfl, rfl, rfl⟩ := trodAll_nil r1
  obtain rfl : args = #[v0, v1] := by cases args; simp_all
  obtain ⟨rfl, rfl⟩ := trodVars_none hV
  obtain ⟨A0, len0, c0, rfl⟩ := okWide_slice Try.underlying29 (hval 0 29 v0 rfl rfl)
  have k0 := h0
  have lt0 := InRow.trod_lt k0
  obtain ⟨x0, e0, w0⟩ : ∃ xs : List Int, xs.length = len0 ∧ InRow W A0 c0 xs := by
    obtain ⟨fuel, hf⟩ := h0
    exact open_rd Try.underlying29 Try.underlying3 (by kernel_rfl) (by simpa [Value.cells] using hf)
  subst e0
  obtain ⟨A1, len1, c1, rfl⟩ := okWide_slice Try.underlying29 (hval 1 29 v1 rfl rfl)
  have k1 := h1
  have lt1 := InRow.trod_lt k1
  obtain ⟨x1, e1, w1⟩ : ∃ xs : List Int, xs.length = len1 ∧ InRow W A1 c1 xs := by
    obtain ⟨fuel, hf⟩ := h1
    exact open_rd Try.underlying29 Try.underlying3 (by kernel_rfl) (by simpa [Value.cells] using hf)
  subst e1
  clear hA0 hval0
  refine (codepointCompares_walk W A0 c0 x0 w0 A1 c1 x1 w1).mono fun e W' ⟨he, bel⟩ => ?_
  subst he
  exact ⟨_, rfl, _, _, _, [], _, [], hW', trodAll_mk1 (shut_bool Try.underlying4 _), (trodAll_cons_mk (Below.trod laidOut (by kernel_rfl) (of_decide_eq_true (by kernel_rfl)) k0 bel lt0) (trodAll_cons_mk (Below.trod laidOut (by kernel_rfl) (of_decide_eq_true (by kernel_rfl)) k1 bel lt1) trodAll_mk0)), rfl, bel.frame _, fun h => by cases h⟩

theorem over : Rows.codepointComparesRow.holds Try.pinned (OpenSpec.ofChange Rows.codepointComparesSpec) :=
  OpenClaim.holds_of_wide 6 Try.f6 rfl rfl rfl rfl rfl rfl rfl ⟨rfl, rfl, rfl, rfl, rfl⟩ rfl rfl rfl rfl rfl (by kernel_rfl) Try.func6 (by kernel_rfl)
    (of_decide_eq_true (by kernel_rfl)) (by unfold Func.isWrapper; first | (rw [if_pos (by decide +kernel)]; kernel_rfl) | (rw [if_neg (by decide +kernel)]; exact ⟨rfl, rfl⟩))
    (fun os started H enc _ => lifted os started H enc)

end Go.Proofs.Ytkokfinmolkehaa.codepointCompares
namespace Go.Proofs.Ytkokfinmolkehaa
/-- CodepointCompares returns true for every pair of texts, and its arguments read behind the call as before. No condition beyond the row's own. -/
theorem codepointCompares_holds : Rows.CodepointComparesSaid := codepointCompares.over
#print axioms codepointCompares_holds
end Go.Proofs.Ytkokfinmolkehaa
