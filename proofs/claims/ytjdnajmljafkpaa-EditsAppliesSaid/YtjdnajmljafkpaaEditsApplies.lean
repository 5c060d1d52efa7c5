/- EditsApplies returns true for every edit and every text, and its arguments read behind the call as before. No condition beyond the row's own. -/
import Derived.Test.YtjdnajmljafkpaaRows
import Derived.Test.YtjdnajmljafkpaaFrame
import Derived.Test.YtjdnajmljafkpaaEdK
import Derived.Test.YtjdnajmljafkpaaEdE
import Derived.Test.YtjdnajmljafkpaaEdC
import Derived.Test.YtjdnajmljafkpaaLcp
import Derived.Test.YtjdnajmljafkpaaEdLaw
namespace Go.Proofs.Ytjdnajmljafkpaa.editsApplies
open Go.ChangeShapes Go.WideShapes Go.ChangeAt Go.RowKit Go.Deep
open Go.ChangeMaps (open_string shut_string)
set_option linter.unusedVariables false
set_option linter.unusedSimpArgs false

set_option maxHeartbeats 4000000 in
theorem editsApplies_walk (w : World) (a d : Int) (C : Option Addr) (b : Nat) (zs : List Int) (wa : (Lit.int .i64 a).wf = true) (wd : (Lit.int .i64 d).wf = true) (hz : InRow w C b zs) (A : Option Addr) (c : Nat) (xs : List Int) (hx : InRow w A c xs) :
    Calls Try.prog 6 #[.agg #[.int .i64 a, .int .i64 d, .slice C zs.length b], .slice A xs.length c] w fun e w' => e = .returned (.bool true) ∧ Below w.heap.size w w' := by
  have ba := bounds_i64 wa
  have bd := bounds_i64 wd
  clear wa wd
  obtain ⟨hz, hzc, hzm, _⟩ := hz
  have hzl : zs.length ≤ 9223372036854775807 := by unfold maxLen at hzm; omega
  clear hzm
  obtain ⟨hx, hxc, hxm, _⟩ := hx
  have hxl : xs.length ≤ 9223372036854775807 := by unfold maxLen at hxm; omega
  clear hxm
  obtain ⟨w1, HW, hB, _, ⟨p0, p1, p2⟩, _⟩ := new_block w (.int .i64 a) (.int .i64 d) (.slice C zs.length b) 24
  replace hz := hz.below hB
  replace hx := hx.below hB
  by_cases h1 : zs.length ≤ 40
  · have H1 := Lib.hid (decide_eq_true h1)
    by_cases h2 : xs.length ≤ 60
    · have H2 := Lib.hid (decide_eq_true h2)
      by_cases h3 : chk a d xs.length = 0
      · obtain ⟨k0, k1, k2, k3⟩ := chk_ok.1 h3
        go_enter Try.func6, Try.ntmps6
        go_wp2_with fail
        rw [show w.alloc (.cells #[.int .i64 a, .int .i64 d, .slice C zs.length b] 24) = w1 from HW.out.symm]
        refine (small_calls a d C zs.length b _ hzl).mono ?_
        rintro e w_1 ⟨rfl, hb⟩
        replace p0 := cell_keep hb p0
        replace p1 := cell_keep hb p1
        replace p2 := cell_keep hb p2
        replace hz := Rd.below hz hb
        replace hx := Rd.below hx hb
        replace hB := below_on hB hb
        clear hb
        rw [H1.out]
        go_wp2_with fail
        refine (few_calls A xs.length c _ hxl).mono ?_
        rintro e w' ⟨rfl, rfl⟩
        rw [H2.out]
        go_wp2_with fail
        refine (apply_yes a d C A b c xs zs _ hx hz hxc (by omega) (by omega) k0 k1 (by omega)).mono ?_
        rintro e w_2 ⟨_, rfl, ⟨A1, c1, rfl, _, _, hr1⟩, hb⟩
        replace p0 := cell_keep hb p0
        replace p1 := cell_keep hb p1
        replace p2 := cell_keep hb p2
        replace hz := Rd.below hz hb
        replace hx := Rd.below hx hb
        replace hB := below_on hB hb
        clear hb
        go_wp2_with fail
        refine (rapply_yes a d C A b c xs zs _ hx hz hxc hzc (by omega) (by omega) k0 k1 (by omega)).mono ?_
        rintro e w_3 ⟨_, rfl, ⟨A2, c2, rfl, _, _, hr2⟩, hb⟩
        replace p0 := cell_keep hb p0
        replace p1 := cell_keep hb p1
        replace p2 := cell_keep hb p2
        replace hz := Rd.below hz hb
        replace hx := Rd.below hx hb
        replace hr1 := Rd.below hr1 hb
        replace hB := below_on hB hb
        clear hb
        have hl := length_repl (xs := xs) (ys := zs) (a := a.toNat) (d := d.toNat) (by omega)
        have hl' : (repl xs a.toNat d.toNat zs).length ≤ 1000000 := by omega
        clear hl
        go_wp2_with fail
        refine (equal_calls A1 A2 c1 c2 _ _ _ hr1 hr2 (by omega) (by omega)).mono ?_
        rintro e w_4 ⟨rfl, hd⟩
        have hb := hd.below
        clear hd
        replace p0 := cell_keep hb p0
        replace p1 := cell_keep hb p1
        replace p2 := cell_keep hb p2
        replace hz := Rd.below hz hb
        replace hx := Rd.below hx hb
        replace hr1 := Rd.below hr1 hb
        replace hr2 := Rd.below hr2 hb
        replace hB := below_on hB hb
        clear hb
        rw [decide_eq_true rfl]
        go_wp2_with fail
        refine (alive_calls _).mono ?_
        rintro e w_5 ⟨rfl, hb⟩
        replace p0 := cell_keep hb p0
        replace p1 := cell_keep hb p1
        replace p2 := cell_keep hb p2
        replace hz := Rd.below hz hb
        replace hx := Rd.below hx hb
        replace hr1 := Rd.below hr1 hb
        replace hr2 := Rd.below hr2 hb
        replace hB := below_on hB hb
        clear hb
        go_wp2
        go_ret
        exact ⟨rfl, hB⟩
      · have H3 := h3
        go_enter Try.func6, Try.ntmps6
        go_wp2_with fail
        rw [show w.alloc (.cells #[.int .i64 a, .int .i64 d, .slice C zs.length b] 24) = w1 from HW.out.symm]
        refine (small_calls a d C zs.length b _ hzl).mono ?_
        rintro e w_1 ⟨rfl, hb⟩
        replace p0 := cell_keep hb p0
        replace p1 := cell_keep hb p1
        replace p2 := cell_keep hb p2
        replace hz := Rd.below hz hb
        replace hx := Rd.below hx hb
        replace hB := below_on hB hb
        clear hb
        rw [H1.out]
        go_wp2_with fail
        refine (few_calls A xs.length c _ hxl).mono ?_
        rintro e w' ⟨rfl, rfl⟩
        rw [H2.out]
        go_wp2_with fail
        refine (apply_no a d _ A c xs.length _ ba.1 (by omega) h3).mono ?_
        rintro e w_2 ⟨rfl, hb⟩
        replace p0 := cell_keep hb p0
        replace p1 := cell_keep hb p1
        replace p2 := cell_keep hb p2
        replace hz := Rd.below hz hb
        replace hx := Rd.below hx hb
        replace hB := below_on hB hb
        clear hb
        go_wp2_with fail
        refine (rapply_no a d _ A c xs.length _ ba.1 (by omega) h3).mono ?_
        rintro e w_3 ⟨rfl, hb⟩
        replace p0 := cell_keep hb p0
        replace p1 := cell_keep hb p1
        replace p2 := cell_keep hb p2
        replace hz := Rd.below hz hb
        replace hx := Rd.below hx hb
        replace hB := below_on hB hb
        clear hb
        go_wp2_with fail
        refine (equal_calls none none 0 0 [] [] _ (Rd.nil _ _) (Rd.nil _ _) (by decide) (by decide)).mono ?_
        rintro e w_4 ⟨rfl, hd⟩
        have hb := hd.below
        clear hd
        replace p0 := cell_keep hb p0
        replace p1 := cell_keep hb p1
        replace p2 := cell_keep hb p2
        replace hz := Rd.below hz hb
        replace hx := Rd.below hx hb
        replace hB := below_on hB hb
        clear hb
        rw [decide_eq_true rfl]
        go_wp2_with fail
        refine (alive_calls _).mono ?_
        rintro e w_5 ⟨rfl, hb⟩
        replace p0 := cell_keep hb p0
        replace p1 := cell_keep hb p1
        replace p2 := cell_keep hb p2
        replace hz := Rd.below hz hb
        replace hx := Rd.below hx hb
        replace hB := below_on hB hb
        clear hb
        go_wp2
        go_ret
        exact ⟨rfl, hB⟩
    · have H2 := Lib.hid (decide_eq_false h2)
      go_enter Try.func6, Try.ntmps6
      go_wp2_with fail
      rw [show w.alloc (.cells #[.int .i64 a, .int .i64 d, .slice C zs.length b] 24) = w1 from HW.out.symm]
      refine (small_calls a d C zs.length b _ hzl).mono ?_
      rintro e w_1 ⟨rfl, hb⟩
      replace p0 := cell_keep hb p0
      replace p1 := cell_keep hb p1
      replace p2 := cell_keep hb p2
      replace hz := Rd.below hz hb
      replace hx := Rd.below hx hb
      replace hB := below_on hB hb
      clear hb
      rw [H1.out]
      go_wp2_with fail
      refine (few_calls A xs.length c _ hxl).mono ?_
      rintro e w' ⟨rfl, rfl⟩
      rw [H2.out]
      go_wp2_with fail
      refine (alive_calls _).mono ?_
      rintro e w_2 ⟨rfl, hb⟩
      replace p0 := cell_keep hb p0
      replace p1 := cell_keep hb p1
      replace p2 := cell_keep hb p2
      replace hz := Rd.below hz hb
      replace hx := Rd.below hx hb
      replace hB := below_on hB hb
      clear hb
      go_wp2
      go_ret
      exact ⟨rfl, hB⟩
  · have H1 := Lib.hid (decide_eq_false h1)
    go_enter Try.func6, Try.ntmps6
    go_wp2_with fail
    rw [show w.alloc (.cells #[.int .i64 a, .int .i64 d, .slice C zs.length b] 24) = w1 from HW.out.symm]
    refine (small_calls a d C zs.length b _ hzl).mono ?_
    rintro e w_1 ⟨rfl, hb⟩
    replace p0 := cell_keep hb p0
    replace p1 := cell_keep hb p1
    replace p2 := cell_keep hb p2
    replace hz := Rd.below hz hb
    replace hx := Rd.below hx hb
    replace hB := below_on hB hb
    clear hb
    rw [H1.out]
    go_wp2_with fail
    refine (alive_calls _).mono ?_
    rintro e w_2 ⟨rfl, hb⟩
    replace p0 := cell_keep hb p0
    replace p1 := cell_keep hb p1
    replace p2 := cell_keep hb p2
    replace hz := Rd.below hz hb
    replace hx := Rd.below hx hb
    replace hB := below_on hB hb
    clear hb
    go_wp2
    go_ret
    exact ⟨rfl, hB⟩

theorem own : ownKnob Try.prog.godebug = none := by kernel_rfl
theorem laidOut : laidOutB Try.prog = true := by kernel_rfl

set_option maxRecDepth 100000 in
theorem lifted (os : Os) (started : os.Started) (H : Type) (enc : TypeId × Value → H) :
    ReturnsInHanded {} Try.checked os 6 .any (Rows.editsAppliesSpec.pre6 enc Try.prog Try.f6 Rows.editsAppliesRow.domain false) (Rows.editsAppliesSpec.post enc Try.prog Try.f6 false true false false) := by
  refine returnsInHanded_of_change (C := Try.checked) own started (by kernel_rfl) Try.func6
    (ChangeSpec.witness6 (enc := enc) (C := Try.checked) false ⟨#[], #[.agg #[.int .i64 0, .int .i64 0, .slice none 0 0], .slice none 0 0], []⟩ 8 (by kernel_rfl) (by kernel_rfl) (by kernel_rfl) (by kernel_rfl)) ?_
  intro W base args ds gs before hval0 hW hcnd _
  have hval : ∀ (j : Nat) t v, Try.f6.params[j]? = some t → args[j]? = some v → Value.okWide Try.prog W .any base t v := hval0
  have hW' := hW
  obtain ⟨p, q, hA0, hV, rfl, hfz, hnd⟩ := hW
  have hA : DataW.TrodAll enc Try.prog W 0 (fun _ => true) true Try.f6.params.toList args.toList ds p := hA0
  rw [Try.params6] at hA hval
  obtain ⟨v0, vs0, d0, ds0, p0, q0, hargs, rfl, rfl, h0, r0⟩ := trodAll_cons hA
  obtain ⟨v1, vs1, d1, ds1, p1, q1, rfl, rfl, rfl, h1, r1⟩ := trodAll_cons r0
  obtain ⟨rfl, rfl, rfl⟩ := trodAll_nil r1
  obtain rfl : args = #[v0, v1] := by cases args; simp_all
  obtain ⟨rfl, rfl⟩ := trodVars_none hV
  have k0 := h0
  have lt0 := InRow.trod_lt k0
  obtain ⟨a0, b0, A0, c0, x0, rfl, wa0, wb0, w0⟩ := open_edit (ti := 3) (ts := 22) Try.underlying24 (by kernel_rfl) (by kernel_rfl) rfl rfl rfl Try.underlying3 Try.underlying22 (by kernel_rfl) (hval 0 24 v0 rfl rfl) h0
  obtain ⟨A1, len1, c1, rfl⟩ := okWide_slice Try.underlying22 (hval 1 22 v1 rfl rfl)
  have k1 := h1
  have lt1 := InRow.trod_lt k1
  obtain ⟨x1, e1, w1⟩ : ∃ xs : List Int, xs.length = len1 ∧ InRow W A1 c1 xs := by
    obtain ⟨fuel, hf⟩ := h1
    exact open_rd Try.underlying22 Try.underlying3 (by kernel_rfl) (by simpa [Value.cells] using hf)
  subst e1
  clear hA0 hval0
  refine (editsApplies_walk W a0 b0 A0 c0 x0 wa0 wb0 w0 A1 c1 x1 w1).mono fun e W' ⟨he, bel⟩ => ?_
  subst he
  exact ⟨_, rfl, _, _, _, [], _, [], hW', trodAll_mk1 (shut_bool Try.underlying4 _), (trodAll_cons_mk (Below.trod laidOut (by kernel_rfl) (of_decide_eq_true (by kernel_rfl)) k0 bel lt0) (trodAll_cons_mk (Below.trod laidOut (by kernel_rfl) (of_decide_eq_true (by kernel_rfl)) k1 bel lt1) trodAll_mk0)), rfl, bel.frame _, fun h => by cases h⟩

theorem over : Rows.editsAppliesRow.holds Try.pinned (OpenSpec.ofChange Rows.editsAppliesSpec) :=
  OpenClaim.holds_of_wide 6 Try.f6 rfl rfl rfl rfl rfl rfl rfl ⟨rfl, rfl, rfl, rfl, rfl⟩ rfl rfl rfl rfl rfl (by kernel_rfl) Try.func6 (by kernel_rfl)
    (of_decide_eq_true (by kernel_rfl)) (by unfold Func.isWrapper; first | (rw [if_pos (by decide +kernel)]; kernel_rfl) | (rw [if_neg (by decide +kernel)]; exact ⟨rfl, rfl⟩))
    (fun os started H enc _ => lifted os started H enc)

end Go.Proofs.Ytjdnajmljafkpaa.editsApplies
namespace Go.Proofs.Ytjdnajmljafkpaa
/-- EditsApplies returns true for every edit and every text, and its arguments read behind the call as before. No condition beyond the row's own. -/
theorem editsApplies_holds : Rows.EditsAppliesSaid := editsApplies.over
#print axioms editsApplies_holds
end Go.Proofs.Ytjdnajmljafkpaa
