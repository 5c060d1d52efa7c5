/- CodepointOrders returns true for every three texts, and its arguments read behind the call as before. No condition beyond the row's own. -/
import Derived.Test.YtkokfinmolkehaaRows
import Derived.Test.YtkokfinmolkehaaFrame
import Derived.Test.YtkokfinmolkehaaCpLaw
namespace Go.Proofs.Ytkokfinmolkehaa.codepointOrders
open Go.ChangeShapes Go.WideShapes Go.ChangeAt Go.RowKit Go.Deep
open Go.ChangeMaps (open_string shut_string)
set_option linter.unusedVariables false
set_option linter.unusedSimpArgs false

theorem cmp_append_eq (xs ys : List Int) : decide (xs = xs ++ ys) = decide (ys.length = 0) := by
  rw [Bool.eq_iff_iff, decide_eq_true_eq, decide_eq_true_eq]
  constructor
  · intro h
    have := congrArg List.length h
    simp at this
    simp [this]
  · intro h
    rw [List.eq_nil_of_length_eq_zero h]; simp
set_option maxHeartbeats 16000000 in
theorem codepointOrders_walk (w : World) (A : Option Addr) (c : Nat) (xs : List Int) (hx : InRow w A c xs) (B : Option Addr) (b : Nat) (ys : List Int) (hy : InRow w B b ys) (C : Option Addr) (d : Nat) (zs : List Int) (hz : InRow w C d zs) :
    Calls Try.prog 7 #[.slice A xs.length c, .slice B ys.length b, .slice C zs.length d] w fun e w' => e = .returned (.bool true) ∧ Below w.heap.size w w' := by
  obtain ⟨hx, hxc, hxm, _⟩ := hx
  have hxl : xs.length ≤ 9223372036854775807 := by unfold maxLen at hxm; omega
  clear hxm
  obtain ⟨hy, hyc, hym, _⟩ := hy
  have hyl : ys.length ≤ 9223372036854775807 := by unfold maxLen at hym; omega
  clear hym
  obtain ⟨hz, hzc, hzm, _⟩ := hz
  have hzl : zs.length ≤ 9223372036854775807 := by unfold maxLen at hzm; omega
  clear hzm
  by_cases h1 : xs.length ≤ 300
  · by_cases h2 : ys.length ≤ 300
    · by_cases h3 : zs.length ≤ 300
      · obtain ⟨p, hP⟩ : ∃ p, Hid (cmp xs ys = p) := ⟨_, rfl⟩
        obtain ⟨q, hQ⟩ : ∃ q, Hid (cmp ys zs = q) := ⟨_, rfl⟩
        obtain ⟨r, hR⟩ : ∃ r, Hid (cmp xs zs = r) := ⟨_, rfl⟩
        obtain ⟨us, hus⟩ : ∃ us, us = xs ++ ys := ⟨_, rfl⟩
        have hul : us.length ≤ 600 := by rw [hus, List.length_append]; omega
        obtain ⟨m, hM⟩ : ∃ m, Hid (cmp xs us = m) := ⟨_, rfl⟩
        have hm0 : m ≤ 0 := by rw [← hM.out, hus]; exact cmp_longer xs ys
        have hD := Lib.hid (show decide (xs = us) = decide (ys.length = 0) by rw [hus]; exact cmp_append_eq xs ys)
        have hT : p ≤ 0 → q ≤ 0 → r ≤ 0 := fun ha hb => by rw [← hR.out]; exact cmp_trans (ys := ys) (by rw [hP.out]; exact ha) (by rw [hQ.out]; exact hb)
        replace hus := Lib.hid hus
        have info_int : (Try.prog.info? 3).map (fun i => (i.zero, i.size, i.bytes)) = some (some (.int .i64 0), 1, 8) := by rfl
        obtain ⟨z, hZ⟩ : ∃ z, Hid (decide (ys.length = 0) = z) := ⟨_, rfl⟩
        have hD : Hid (decide (xs = us) = z) := hD.out.trans hZ.out
        by_cases hp : p ≤ 0
        · by_cases hq : q ≤ 0
          · have hr := hT hp hq
            clear hT
            go_enter Try.func7, Try.ntmps7
            go_wp2_with fail
            refine (compB _ _ _ _ _ _ _ _ hx hy hP (by omega) (by omega)).mono ?_
            rintro e w_1 ⟨rfl, hb⟩
            replace hx := Rd.below hx hb
            replace hy := Rd.below hy hb
            replace hz := Rd.below hz hb
            have hB := hb
            clear hb
            go_wp2_with fail
            refine (compB _ _ _ _ _ _ _ _ hy hz hQ (by omega) (by omega)).mono ?_
            rintro e w_2 ⟨rfl, hb⟩
            replace hx := Rd.below hx hb
            replace hy := Rd.below hy hb
            replace hz := Rd.below hz hb
            replace hB := below_on hB hb
            clear hb
            go_wp2_with fail
            refine (compB _ _ _ _ _ _ _ _ hx hz hR (by omega) (by omega)).mono ?_
            rintro e w_3 ⟨rfl, hb⟩
            replace hx := Rd.below hx hb
            replace hy := Rd.below hy hb
            replace hz := Rd.below hz hb
            replace hB := below_on hB hb
            clear hb
            go_wp2_with (first
              | (at_builtin; refine wpList_app rfl (.tmp 38) (.tmp 39) 29 rfl w_3.heap.size 3 Try.underlying29 info_int _ _ rfl (Own.nil w_3 w_3.heap.size 3) _ _ _ xs rfl rfl hx (by simp; omega) (Nat.le_refl _) ?_; intro v1 w1 ho1 hg1; have HO1 := Lib.hid ho1; have hb1 := Own.below_app (Below.refl _ _) (Nat.le_refl _) (Own.nil w_3 w_3.heap.size 3) hg1; clear ho1 hg1)
              | (at_builtin; refine wpList_app rfl (.tmp 41) (.tmp 42) 29 rfl w_3.heap.size 3 Try.underlying29 info_int _ _ rfl HO1.out _ _ _ ys rfl rfl (hy.below hb1) (by simp; omega) hb1.size ?_; intro v2 w2 ho2 hg2; have hb2 := Own.below_app hb1 hb1.size HO1.out hg2; clear hg2; obtain ⟨A2, c2, hv2, hr2⟩ : ∃ A2 c2, v2 = .slice A2 us.length c2 ∧ Rd w2 A2 us := by { obtain ⟨A2, c2, e1, _, _, e4, _⟩ := ho2.fr; exact ⟨A2, c2, by rw [hus.out]; exact e1, by rw [hus.out]; exact e4⟩ }; clear ho2; subst hv2))
            replace hx := hx.below hb2
            replace hy := hy.below hb2
            replace hB := below_on hB hb2
            clear hb1 hb2
            refine (compB _ _ _ _ _ _ _ _ hx hr2 hM (by omega) (by omega)).mono ?_
            rintro e w6 ⟨rfl, hb⟩
            replace hx := hx.below hb
            replace hr2 := hr2.below hb
            replace hB := below_on hB hb
            clear hb
            go_wp2_with fail
            refine (equalB _ _ _ _ _ _ _ _ hx hr2 hD (by omega) (by omega)).mono ?_
            rintro e w_4 ⟨rfl, hb⟩
            replace hx := Rd.below hx hb
            replace hr2 := Rd.below hr2 hb
            replace hB := below_on hB hb
            clear hb
            cases z
            · have h00 := of_decide_eq_false hZ.out
              clear hZ
              go_wp2_with fail
              refine (awake_calls _).mono ?_
              rintro e w_10 ⟨rfl, hb⟩
              replace hx := Rd.below hx hb
              replace hr2 := Rd.below hr2 hb
              replace hB := below_on hB hb
              clear hb
              go_wp2
              go_ret
              exact ⟨by first | rfl | exact ret_bool (by rw [show ((ys.length : Int) == 0) = false by simp only [beq_eq_false_iff_ne, ne_eq]; omega]; rfl), hB⟩
            · have h00 := of_decide_eq_true hZ.out
              clear hZ
              go_wp2_with fail
              refine (awake_calls _).mono ?_
              rintro e w_10 ⟨rfl, hb⟩
              replace hx := Rd.below hx hb
              replace hr2 := Rd.below hr2 hb
              replace hB := below_on hB hb
              clear hb
              go_wp2
              go_ret
              exact ⟨by first | rfl | exact ret_bool (by rw [show ((ys.length : Int) == 0) = false by simp only [beq_eq_false_iff_ne, ne_eq]; omega]; rfl), hB⟩
          · clear hT
            go_enter Try.func7, Try.ntmps7
            go_wp2_with fail
            refine (compB _ _ _ _ _ _ _ _ hx hy hP (by omega) (by omega)).mono ?_
            rintro e w_1 ⟨rfl, hb⟩
            replace hx := Rd.below hx hb
            replace hy := Rd.below hy hb
            replace hz := Rd.below hz hb
            have hB := hb
            clear hb
            go_wp2_with fail
            refine (compB _ _ _ _ _ _ _ _ hy hz hQ (by omega) (by omega)).mono ?_
            rintro e w_2 ⟨rfl, hb⟩
            replace hx := Rd.below hx hb
            replace hy := Rd.below hy hb
            replace hz := Rd.below hz hb
            replace hB := below_on hB hb
            clear hb
            go_wp2_with (first
              | (at_builtin; refine wpList_app rfl (.tmp 38) (.tmp 39) 29 rfl w_2.heap.size 3 Try.underlying29 info_int _ _ rfl (Own.nil w_2 w_2.heap.size 3) _ _ _ xs rfl rfl hx (by simp; omega) (Nat.le_refl _) ?_; intro v1 w1 ho1 hg1; have HO1 := Lib.hid ho1; have hb1 := Own.below_app (Below.refl _ _) (Nat.le_refl _) (Own.nil w_2 w_2.heap.size 3) hg1; clear ho1 hg1)
              | (at_builtin; refine wpList_app rfl (.tmp 41) (.tmp 42) 29 rfl w_2.heap.size 3 Try.underlying29 info_int _ _ rfl HO1.out _ _ _ ys rfl rfl (hy.below hb1) (by simp; omega) hb1.size ?_; intro v2 w2 ho2 hg2; have hb2 := Own.below_app hb1 hb1.size HO1.out hg2; clear hg2; obtain ⟨A2, c2, hv2, hr2⟩ : ∃ A2 c2, v2 = .slice A2 us.length c2 ∧ Rd w2 A2 us := by { obtain ⟨A2, c2, e1, _, _, e4, _⟩ := ho2.fr; exact ⟨A2, c2, by rw [hus.out]; exact e1, by rw [hus.out]; exact e4⟩ }; clear ho2; subst hv2))
            replace hx := hx.below hb2
            replace hy := hy.below hb2
            replace hB := below_on hB hb2
            clear hb1 hb2
            refine (compB _ _ _ _ _ _ _ _ hx hr2 hM (by omega) (by omega)).mono ?_
            rintro e w6 ⟨rfl, hb⟩
            replace hx := hx.below hb
            replace hr2 := hr2.below hb
            replace hB := below_on hB hb
            clear hb
            go_wp2_with fail
            refine (equalB _ _ _ _ _ _ _ _ hx hr2 hD (by omega) (by omega)).mono ?_
            rintro e w_3 ⟨rfl, hb⟩
            replace hx := Rd.below hx hb
            replace hr2 := Rd.below hr2 hb
            replace hB := below_on hB hb
            clear hb
            cases z
            · have h00 := of_decide_eq_false hZ.out
              clear hZ
              go_wp2_with fail
              refine (awake_calls _).mono ?_
              rintro e w_10 ⟨rfl, hb⟩
              replace hx := Rd.below hx hb
              replace hr2 := Rd.below hr2 hb
              replace hB := below_on hB hb
              clear hb
              go_wp2
              go_ret
              exact ⟨by first | rfl | exact ret_bool (by rw [show ((ys.length : Int) == 0) = false by simp only [beq_eq_false_iff_ne, ne_eq]; omega]; rfl), hB⟩
            · have h00 := of_decide_eq_true hZ.out
              clear hZ
              go_wp2_with fail
              refine (awake_calls _).mono ?_
              rintro e w_10 ⟨rfl, hb⟩
              replace hx := Rd.below hx hb
              replace hr2 := Rd.below hr2 hb
              replace hB := below_on hB hb
              clear hb
              go_wp2
              go_ret
              exact ⟨by first | rfl | exact ret_bool (by rw [show ((ys.length : Int) == 0) = false by simp only [beq_eq_false_iff_ne, ne_eq]; omega]; rfl), hB⟩
        · clear hT
          go_enter Try.func7, Try.ntmps7
          go_wp2_with fail
          refine (compB _ _ _ _ _ _ _ _ hx hy hP (by omega) (by omega)).mono ?_
          rintro e w_1 ⟨rfl, hb⟩
          replace hx := Rd.below hx hb
          replace hy := Rd.below hy hb
          replace hz := Rd.below hz hb
          have hB := hb
          clear hb
          go_wp2_with (first
            | (at_builtin; refine wpList_app rfl (.tmp 38) (.tmp 39) 29 rfl w_1.heap.size 3 Try.underlying29 info_int _ _ rfl (Own.nil w_1 w_1.heap.size 3) _ _ _ xs rfl rfl hx (by simp; omega) (Nat.le_refl _) ?_; intro v1 w1 ho1 hg1; have HO1 := Lib.hid ho1; have hb1 := Own.below_app (Below.refl _ _) (Nat.le_refl _) (Own.nil w_1 w_1.heap.size 3) hg1; clear ho1 hg1)
            | (at_builtin; refine wpList_app rfl (.tmp 41) (.tmp 42) 29 rfl w_1.heap.size 3 Try.underlying29 info_int _ _ rfl HO1.out _ _ _ ys rfl rfl (hy.below hb1) (by simp; omega) hb1.size ?_; intro v2 w2 ho2 hg2; have hb2 := Own.below_app hb1 hb1.size HO1.out hg2; clear hg2; obtain ⟨A2, c2, hv2, hr2⟩ : ∃ A2 c2, v2 = .slice A2 us.length c2 ∧ Rd w2 A2 us := by { obtain ⟨A2, c2, e1, _, _, e4, _⟩ := ho2.fr; exact ⟨A2, c2, by rw [hus.out]; exact e1, by rw [hus.out]; exact e4⟩ }; clear ho2; subst hv2))
          replace hx := hx.below hb2
          replace hy := hy.below hb2
          replace hB := below_on hB hb2
          clear hb1 hb2
          refine (compB _ _ _ _ _ _ _ _ hx hr2 hM (by omega) (by omega)).mono ?_
          rintro e w6 ⟨rfl, hb⟩
          replace hx := hx.below hb
          replace hr2 := hr2.below hb
          replace hB := below_on hB hb
          clear hb
          go_wp2_with fail
          refine (equalB _ _ _ _ _ _ _ _ hx hr2 hD (by omega) (by omega)).mono ?_
          rintro e w_2 ⟨rfl, hb⟩
          replace hx := Rd.below hx hb
          replace hr2 := Rd.below hr2 hb
          replace hB := below_on hB hb
          clear hb
          cases z
          · have h00 := of_decide_eq_false hZ.out
            clear hZ
            go_wp2_with fail
            refine (awake_calls _).mono ?_
            rintro e w_10 ⟨rfl, hb⟩
            replace hx := Rd.below hx hb
            replace hr2 := Rd.below hr2 hb
            replace hB := below_on hB hb
            clear hb
            go_wp2
            go_ret
            exact ⟨by first | rfl | exact ret_bool (by rw [show ((ys.length : Int) == 0) = false by simp only [beq_eq_false_iff_ne, ne_eq]; omega]; rfl), hB⟩
          · have h00 := of_decide_eq_true hZ.out
            clear hZ
            go_wp2_with fail
            refine (awake_calls _).mono ?_
            rintro e w_10 ⟨rfl, hb⟩
            replace hx := Rd.below hx hb
            replace hr2 := Rd.below hr2 hb
            replace hB := below_on hB hb
            clear hb
            go_wp2
            go_ret
            exact ⟨by first | rfl | exact ret_bool (by rw [show ((ys.length : Int) == 0) = false by simp only [beq_eq_false_iff_ne, ne_eq]; omega]; rfl), hB⟩
      · go_enter Try.func7, Try.ntmps7
        go_wp2_with fail
        refine (awake_calls _).mono ?_
        rintro e w_1 ⟨rfl, hb⟩
        have hB := hb
        clear hb
        go_wp2
        go_ret
        exact ⟨rfl, hB⟩
    · go_enter Try.func7, Try.ntmps7
      go_wp2_with fail
      refine (awake_calls _).mono ?_
      rintro e w_1 ⟨rfl, hb⟩
      have hB := hb
      clear hb
      go_wp2
      go_ret
      exact ⟨rfl, hB⟩
  · go_enter Try.func7, Try.ntmps7
    go_wp2_with fail
    refine (awake_calls _).mono ?_
    rintro e w_1 ⟨rfl, hb⟩
    have hB := hb
    clear hb
    go_wp2
    go_ret
    exact ⟨rfl, hB⟩

theorem own : ownKnob Try.prog.godebug = none := by kernel_rfl
theorem laidOut : laidOutB Try.prog = true := by kernel_rfl

set_option maxRecDepth 100000 in
theorem lifted (os : Os) (started : os.Started) (H : Type) (enc : TypeId × Value → H) :
    ReturnsInHanded {} Try.checked os 7 .any (Rows.codepointOrdersSpec.pre6 enc Try.prog Try.f7 Rows.codepointOrdersRow.domain false) (Rows.codepointOrdersSpec.post enc Try.prog Try.f7 false true false false) := by
  refine returnsInHanded_of_change (C := Try.checked) own started (by kernel_rfl) Try.func7
    (ChangeSpec.witness6 (enc := enc) (C := Try.checked) false ⟨#[], #[.slice none 0 0, .slice none 0 0, .slice none 0 0], []⟩ 8 (by kernel_rfl) (by kernel_rfl) (by kernel_rfl) (by kernel_rfl)) ?_
  intro W base args ds gs before hval0 hW hcnd _
  have hval : ∀ (j : Nat) t v, Try.f7.params[j]? = some t → args[j]? = some v → Value.okWide Try.prog W .any base t v := hval0
  have hW' := hW
  obtain ⟨p, q, hA0, hV, rfl, hfz, hnd⟩ := hW
  have hA : DataW.TrodAll enc Try.prog W 0 (fun _ => true) true Try.f7.params.toList args.toList ds p := hA0
  rw [Try.params7] at hA hval
  obtain ⟨v0, vs0, d0, ds0, p0, q0, hargs, rfl, rfl, h0, r0⟩ := trodAll_cons hA
  obtain ⟨v1, vs1, d1, ds1, p1, q1, rfl, rfl, rfl, h1, r1⟩ := trodAll_cons r0
  obtain ⟨v2, vs2, d2, ds2, p2, q2, rfl, rfl, rfl, h2, r2⟩ := trodAll_cons r1
  obtain ⟨rfl, rfl, rfl⟩ := trodAll_nil r2
  obtain rfl : args = #[v0, v1, v2] := by cases args; simp_all
  obtain ⟨rfl, rfl⟩ := trodVars_none hV
  obtain ⟨A0, len0, c0, rfl⟩ := okWide_slice Try.underlying29 (hval 0 29 v0 rfl rfl)
  have k0 := h0
  have lt0 := InRow.trod_lt k0
  obtain ⟨x0, e0, w0⟩ : ∃ xs : List Int, xs.length = len0 ∧ InRow W A0 c0 xs := by
    obtain ⟨fuel, hf⟩ := h0
    exact open_rd Try.underlying29 Try.underlying3 (by kernel_rfl) (by simpa [Value.cells] using hf)
  subst e0
  obtain ⟨A1, len1, c1, rfl⟩ := okWide_slice Try.underlying29 (hval 1 29 v1 rfl rfl)
  have k1 := h1
  have lt1 := InRow.trod_lt k1
  obtain ⟨x1, e1, w1⟩ : ∃ xs : List Int, xs.length = len1 ∧ InRow W A1 c1 xs := by
    obtain ⟨fuel, hf⟩ := h1
    exact open_rd Try.underlying29 Try.underlying3 (by kernel_rfl) (by simpa [Value.cells] using hf)
  subst e1
  obtain ⟨A2, len2, c2, rfl⟩ := okWide_slice Try.underlying29 (hval 2 29 v2 rfl rfl)
  have k2 := h2
  have lt2 := InRow.trod_lt k2
  obtain ⟨x2, e2, w2⟩ : ∃ xs : List Int, xs.length = len2 ∧ InRow W A2 c2 xs := by
    obtain ⟨fuel, hf⟩ := h2
    exact open_rd Try.underlying29 Try.underlying3 (by kernel_rfl) (by simpa [Value.cells] using hf)
  subst e2
  clear hA0 hval0
  refine (codepointOrders_walk W A0 c0 x0 w0 A1 c1 x1 w1 A2 c2 x2 w2).mono fun e W' ⟨he, bel⟩ => ?_
  subst he
  exact ⟨_, rfl, _, _, _, [], _, [], hW', trodAll_mk1 (shut_bool Try.underlying4 _), (trodAll_cons_mk (Below.trod laidOut (by kernel_rfl) (of_decide_eq_true (by kernel_rfl)) k0 bel lt0) (trodAll_cons_mk (Below.trod laidOut (by kernel_rfl) (of_decide_eq_true (by kernel_rfl)) k1 bel lt1) (trodAll_cons_mk (Below.trod laidOut (by kernel_rfl) (of_decide_eq_true (by kernel_rfl)) k2 bel lt2) trodAll_mk0))), rfl, bel.frame _, fun h => by cases h⟩

theorem over : Rows.codepointOrdersRow.holds Try.pinned (OpenSpec.ofChange Rows.codepointOrdersSpec) :=
  OpenClaim.holds_of_wide 7 Try.f7 rfl rfl rfl rfl rfl rfl rfl ⟨rfl, rfl, rfl, rfl, rfl⟩ rfl rfl rfl rfl rfl (by kernel_rfl) Try.func7 (by kernel_rfl)
    (of_decide_eq_true (by kernel_rfl)) (by unfold Func.isWrapper; first | (rw [if_pos (by decide +kernel)]; kernel_rfl) | (rw [if_neg (by decide +kernel)]; exact ⟨rfl, rfl⟩))
    (fun os started H enc _ => lifted os started H enc)

end Go.Proofs.Ytkokfinmolkehaa.codepointOrders
namespace Go.Proofs.Ytkokfinmolkehaa
/-- CodepointOrders returns true for every three texts, and its arguments read behind the call as before. No condition beyond the row's own. -/
theorem codepointOrders_holds : Rows.CodepointOrdersSaid := codepointOrders.over
#print axioms codepointOrders_holds
end Go.Proofs.Ytkokfinmolkehaa
