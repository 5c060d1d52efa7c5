/- CodepointPrefixes returns true for every three texts, and its arguments read behind the call as before. No condition beyond the row's own. -/
import Derived.Test.YtkokfinmolkehaaRows
import Derived.Test.YtkokfinmolkehaaFrame
import Derived.Test.YtkokfinmolkehaaCpLaw
namespace Go.Proofs.Ytkokfinmolkehaa.codepointPrefixes
open Go.ChangeShapes Go.WideShapes Go.ChangeAt Go.RowKit Go.Deep
open Go.ChangeMaps (open_string shut_string)
set_option linter.unusedVariables false
set_option linter.unusedSimpArgs false

set_option maxHeartbeats 16000000 in
theorem codepointPrefixes_walk (w : World) (A : Option Addr) (c : Nat) (xs : List Int) (hx : InRow w A c xs) (B : Option Addr) (b : Nat) (ys : List Int) (hy : InRow w B b ys) (C : Option Addr) (d : Nat) (zs : List Int) (hz : InRow w C d zs) :
    Calls Try.prog 5 #[.slice A xs.length c, .slice B ys.length b, .slice C zs.length d] w fun e w' => e = .returned (.bool true) ∧ Below w.heap.size w w' := by
  obtain ⟨hx, hxc, hxm, _⟩ := hx
  have hxl : xs.length ≤ 9223372036854775807 := by unfold maxLen at hxm; omega
  clear hxm hxc
  obtain ⟨hy, hyc, hym, _⟩ := hy
  have hyl : ys.length ≤ 9223372036854775807 := by unfold maxLen at hym; omega
  clear hym hyc
  obtain ⟨hz, hzc, hzm, _⟩ := hz
  have hzl : zs.length ≤ 9223372036854775807 := by unfold maxLen at hzm; omega
  clear hzm hzc
  by_cases h1 : xs.length ≤ 300
  · by_cases h2 : ys.length ≤ 300
    · by_cases h3 : zs.length ≤ 300
      · obtain ⟨m, hM⟩ : ∃ m, Hid (cmp xs ys = m) := ⟨_, rfl⟩
        obtain ⟨us, hus⟩ : ∃ us, us = zs ++ xs := ⟨_, rfl⟩
        obtain ⟨vs, hvs⟩ : ∃ vs, vs = zs ++ ys := ⟨_, rfl⟩
        obtain ⟨us', hus'⟩ : ∃ us, us = xs ++ zs := ⟨_, rfl⟩
        obtain ⟨vs', hvs'⟩ : ∃ vs, vs = ys ++ zs := ⟨_, rfl⟩
        have l1 : us.length ≤ 600 := by rw [hus, List.length_append]; omega
        have l2 : vs.length ≤ 600 := by rw [hvs, List.length_append]; omega
        have l3 : us'.length ≤ 600 := by rw [hus', List.length_append]; omega
        have l4 : vs'.length ≤ 600 := by rw [hvs', List.length_append]; omega
        have hM1 := Lib.hid (show cmp us vs = m by rw [hus, hvs, cmp_prefix]; exact hM.out)
        have hM2' : xs.length = ys.length → cmp us' vs' = m := fun h => by rw [hus', hvs', cmp_suffix _ _ _ h]; exact hM.out
        have HU1 := Lib.hid hus
        have HU2 := Lib.hid hvs
        have HU3 := Lib.hid hus'
        have HU4 := Lib.hid hvs'
        clear hus hvs hus' hvs'
        have info_int : (Try.prog.info? 3).map (fun i => (i.zero, i.size, i.bytes)) = some (some (.int .i64 0), 1, 8) := by rfl
        by_cases hl : xs.length = ys.length
        · have hM2 := Lib.hid (hM2' hl)
          have hl0 := Lib.hid (show (xs.length : Int) = (ys.length : Int) by rw [hl])
          clear hM2' hl
          go_enter Try.func5, Try.ntmps5
          go_wp2_with (first
            | (at_builtin; refine wpList_app rfl (.tmp 26) (.tmp 27) 29 rfl w.heap.size 3 Try.underlying29 info_int _ _ rfl (Own.nil w w.heap.size 3) _ _ _ zs rfl rfl hz (by simp; omega) (Nat.le_refl _) ?_; intro v1 w1 ho1 hg1; have HO := Lib.hid ho1; have hb1 := Own.below_app (Below.refl _ _) (Nat.le_refl _) (Own.nil w w.heap.size 3) hg1; clear ho1 hg1)
            | (at_builtin; refine wpList_app rfl (.tmp 29) (.tmp 30) 29 rfl w.heap.size 3 Try.underlying29 info_int _ _ rfl HO.out _ _ _ xs rfl rfl (hx.below hb1) (by simp; omega) hb1.size ?_; intro v2 W1 ho2 hg2; have hb2 := Own.below_app hb1 hb1.size HO.out hg2; clear hg2; obtain ⟨A0, c0, hv2, hrus⟩ : ∃ A2 c2, v2 = .slice A2 us.length c2 ∧ Rd W1 A2 us := by { obtain ⟨A2, c2, e1, _, _, e4, _⟩ := ho2.fr; exact ⟨A2, c2, by rw [HU1.out]; exact e1, by rw [HU1.out]; exact e4⟩ }; clear ho2; subst hv2; clear HO hb1; replace hx := hx.below hb2; replace hy := hy.below hb2; replace hz := hz.below hb2; have hB := hb2; clear hb2)
            | (at_builtin; refine wpList_app rfl (.tmp 32) (.tmp 33) 29 rfl W1.heap.size 3 Try.underlying29 info_int _ _ rfl (Own.nil W1 W1.heap.size 3) _ _ _ zs rfl rfl hz (by simp; omega) (Nat.le_refl _) ?_; intro v1 w1 ho1 hg1; have HO := Lib.hid ho1; have hb1 := Own.below_app (Below.refl _ _) (Nat.le_refl _) (Own.nil W1 W1.heap.size 3) hg1; clear ho1 hg1)
            | (at_builtin; refine wpList_app rfl (.tmp 35) (.tmp 36) 29 rfl W1.heap.size 3 Try.underlying29 info_int _ _ rfl HO.out _ _ _ ys rfl rfl (hy.below hb1) (by simp; omega) hb1.size ?_; intro v2 W2 ho2 hg2; have hb2 := Own.below_app hb1 hb1.size HO.out hg2; clear hg2; obtain ⟨A1, c1, hv2, hrvs⟩ : ∃ A2 c2, v2 = .slice A2 vs.length c2 ∧ Rd W2 A2 vs := by { obtain ⟨A2, c2, e1, _, _, e4, _⟩ := ho2.fr; exact ⟨A2, c2, by rw [HU2.out]; exact e1, by rw [HU2.out]; exact e4⟩ }; clear ho2; subst hv2; clear HO hb1; replace hx := hx.below hb2; replace hy := hy.below hb2; replace hz := hz.below hb2; replace hrus := hrus.below hb2; replace hB := below_on hB hb2; clear hb2)
            | (at_builtin; refine wpList_app rfl (.tmp 38) (.tmp 39) 29 rfl W2.heap.size 3 Try.underlying29 info_int _ _ rfl (Own.nil W2 W2.heap.size 3) _ _ _ xs rfl rfl hx (by simp; omega) (Nat.le_refl _) ?_; intro v1 w1 ho1 hg1; have HO := Lib.hid ho1; have hb1 := Own.below_app (Below.refl _ _) (Nat.le_refl _) (Own.nil W2 W2.heap.size 3) hg1; clear ho1 hg1)
            | (at_builtin; refine wpList_app rfl (.tmp 41) (.tmp 42) 29 rfl W2.heap.size 3 Try.underlying29 info_int _ _ rfl HO.out _ _ _ zs rfl rfl (hz.below hb1) (by simp; omega) hb1.size ?_; intro v2 W3 ho2 hg2; have hb2 := Own.below_app hb1 hb1.size HO.out hg2; clear hg2; obtain ⟨A2, c2, hv2, hrus'⟩ : ∃ A2 c2, v2 = .slice A2 us'.length c2 ∧ Rd W3 A2 us' := by { obtain ⟨A2, c2, e1, _, _, e4, _⟩ := ho2.fr; exact ⟨A2, c2, by rw [HU3.out]; exact e1, by rw [HU3.out]; exact e4⟩ }; clear ho2; subst hv2; clear HO hb1; replace hx := hx.below hb2; replace hy := hy.below hb2; replace hz := hz.below hb2; replace hrus := hrus.below hb2; replace hrvs := hrvs.below hb2; replace hB := below_on hB hb2; clear hb2)
            | (at_builtin; refine wpList_app rfl (.tmp 44) (.tmp 45) 29 rfl W3.heap.size 3 Try.underlying29 info_int _ _ rfl (Own.nil W3 W3.heap.size 3) _ _ _ ys rfl rfl hy (by simp; omega) (Nat.le_refl _) ?_; intro v1 w1 ho1 hg1; have HO := Lib.hid ho1; have hb1 := Own.below_app (Below.refl _ _) (Nat.le_refl _) (Own.nil W3 W3.heap.size 3) hg1; clear ho1 hg1)
            | (at_builtin; refine wpList_app rfl (.tmp 47) (.tmp 48) 29 rfl W3.heap.size 3 Try.underlying29 info_int _ _ rfl HO.out _ _ _ zs rfl rfl (hz.below hb1) (by simp; omega) hb1.size ?_; intro v2 W4 ho2 hg2; have hb2 := Own.below_app hb1 hb1.size HO.out hg2; clear hg2; obtain ⟨A3, c3, hv2, hrvs'⟩ : ∃ A2 c2, v2 = .slice A2 vs'.length c2 ∧ Rd W4 A2 vs' := by { obtain ⟨A2, c2, e1, _, _, e4, _⟩ := ho2.fr; exact ⟨A2, c2, by rw [HU4.out]; exact e1, by rw [HU4.out]; exact e4⟩ }; clear ho2; subst hv2; clear HO hb1; replace hx := hx.below hb2; replace hy := hy.below hb2; replace hz := hz.below hb2; replace hrus := hrus.below hb2; replace hrvs := hrvs.below hb2; replace hrus' := hrus'.below hb2; replace hB := below_on hB hb2; clear hb2))
          refine (compB _ _ _ _ _ _ _ _ hx hy hM (by omega) (by omega)).mono ?_
          rintro e V1 ⟨rfl, hb⟩
          replace hrus := hrus.below hb
          replace hrvs := hrvs.below hb
          replace hrus' := hrus'.below hb
          replace hrvs' := hrvs'.below hb
          replace hB := below_on hB hb
          clear hb
          go_wp2_with fail
          refine (compB _ _ _ _ _ _ _ _ hrus hrvs hM1 (by omega) (by omega)).mono ?_
          rintro e V2 ⟨rfl, hb⟩
          replace hrus := hrus.below hb
          replace hrvs := hrvs.below hb
          replace hrus' := hrus'.below hb
          replace hrvs' := hrvs'.below hb
          replace hB := below_on hB hb
          clear hb
          have hl := hl0.out
          clear hl0
          go_wp2_with fail
          refine (compB _ _ _ _ _ _ _ _ hrus' hrvs' hM2 (by omega) (by omega)).mono ?_
          rintro e V3 ⟨rfl, hb⟩
          replace hrus := hrus.below hb
          replace hrvs := hrvs.below hb
          replace hrus' := hrus'.below hb
          replace hrvs' := hrvs'.below hb
          replace hB := below_on hB hb
          clear hb
          go_wp2_with fail
          refine (awake_calls _).mono ?_
          rintro e V9 ⟨rfl, hb⟩
          replace hB := below_on hB hb
          go_wp2
          go_ret
          exact ⟨rfl, hB⟩
        · have hl0 := Lib.hid (show ¬ (xs.length : Int) = (ys.length : Int) by omega)
          clear hM2' hl
          go_enter Try.func5, Try.ntmps5
          go_wp2_with (first
            | (at_builtin; refine wpList_app rfl (.tmp 26) (.tmp 27) 29 rfl w.heap.size 3 Try.underlying29 info_int _ _ rfl (Own.nil w w.heap.size 3) _ _ _ zs rfl rfl hz (by simp; omega) (Nat.le_refl _) ?_; intro v1 w1 ho1 hg1; have HO := Lib.hid ho1; have hb1 := Own.below_app (Below.refl _ _) (Nat.le_refl _) (Own.nil w w.heap.size 3) hg1; clear ho1 hg1)
            | (at_builtin; refine wpList_app rfl (.tmp 29) (.tmp 30) 29 rfl w.heap.size 3 Try.underlying29 info_int _ _ rfl HO.out _ _ _ xs rfl rfl (hx.below hb1) (by simp; omega) hb1.size ?_; intro v2 W1 ho2 hg2; have hb2 := Own.below_app hb1 hb1.size HO.out hg2; clear hg2; obtain ⟨A0, c0, hv2, hrus⟩ : ∃ A2 c2, v2 = .slice A2 us.length c2 ∧ Rd W1 A2 us := by { obtain ⟨A2, c2, e1, _, _, e4, _⟩ := ho2.fr; exact ⟨A2, c2, by rw [HU1.out]; exact e1, by rw [HU1.out]; exact e4⟩ }; clear ho2; subst hv2; clear HO hb1; replace hx := hx.below hb2; replace hy := hy.below hb2; replace hz := hz.below hb2; have hB := hb2; clear hb2)
            | (at_builtin; refine wpList_app rfl (.tmp 32) (.tmp 33) 29 rfl W1.heap.size 3 Try.underlying29 info_int _ _ rfl (Own.nil W1 W1.heap.size 3) _ _ _ zs rfl rfl hz (by simp; omega) (Nat.le_refl _) ?_; intro v1 w1 ho1 hg1; have HO := Lib.hid ho1; have hb1 := Own.below_app (Below.refl _ _) (Nat.le_refl _) (Own.nil W1 W1.heap.size 3) hg1; clear ho1 hg1)
            | (at_builtin; refine wpList_app rfl (.tmp 35) (.tmp 36) 29 rfl W1.heap.size 3 Try.underlying29 info_int _ _ rfl HO.out _ _ _ ys rfl rfl (hy.below hb1) (by simp; omega) hb1.size ?_; intro v2 W2 ho2 hg2; have hb2 := Own.below_app hb1 hb1.size HO.out hg2; clear hg2; obtain ⟨A1, c1, hv2, hrvs⟩ : ∃ A2 c2, v2 = .slice A2 vs.length c2 ∧ Rd W2 A2 vs := by { obtain ⟨A2, c2, e1, _, _, e4, _⟩ := ho2.fr; exact ⟨A2, c2, by rw [HU2.out]; exact e1, by rw [HU2.out]; exact e4⟩ }; clear ho2; subst hv2; clear HO hb1; replace hx := hx.below hb2; replace hy := hy.below hb2; replace hz := hz.below hb2; replace hrus := hrus.below hb2; replace hB := below_on hB hb2; clear hb2)
            | (at_builtin; refine wpList_app rfl (.tmp 38) (.tmp 39) 29 rfl W2.heap.size 3 Try.underlying29 info_int _ _ rfl (Own.nil W2 W2.heap.size 3) _ _ _ xs rfl rfl hx (by simp; omega) (Nat.le_refl _) ?_; intro v1 w1 ho1 hg1; have HO := Lib.hid ho1; have hb1 := Own.below_app (Below.refl _ _) (Nat.le_refl _) (Own.nil W2 W2.heap.size 3) hg1; clear ho1 hg1)
            | (at_builtin; refine wpList_app rfl (.tmp 41) (.tmp 42) 29 rfl W2.heap.size 3 Try.underlying29 info_int _ _ rfl HO.out _ _ _ zs rfl rfl (hz.below hb1) (by simp; omega) hb1.size ?_; intro v2 W3 ho2 hg2; have hb2 := Own.below_app hb1 hb1.size HO.out hg2; clear hg2; obtain ⟨A2, c2, hv2, hrus'⟩ : ∃ A2 c2, v2 = .slice A2 us'.length c2 ∧ Rd W3 A2 us' := by { obtain ⟨A2, c2, e1, _, _, e4, _⟩ := ho2.fr; exact ⟨A2, c2, by rw [HU3.out]; exact e1, by rw [HU3.out]; exact e4⟩ }; clear ho2; subst hv2; clear HO hb1; replace hx := hx.below hb2; replace hy := hy.below hb2; replace hz := hz.below hb2; replace hrus := hrus.below hb2; replace hrvs := hrvs.below hb2; replace hB := below_on hB hb2; clear hb2)
            | (at_builtin; refine wpList_app rfl (.tmp 44) (.tmp 45) 29 rfl W3.heap.size 3 Try.underlying29 info_int _ _ rfl (Own.nil W3 W3.heap.size 3) _ _ _ ys rfl rfl hy (by simp; omega) (Nat.le_refl _) ?_; intro v1 w1 ho1 hg1; have HO := Lib.hid ho1; have hb1 := Own.below_app (Below.refl _ _) (Nat.le_refl _) (Own.nil W3 W3.heap.size 3) hg1; clear ho1 hg1)
            | (at_builtin; refine wpList_app rfl (.tmp 47) (.tmp 48) 29 rfl W3.heap.size 3 Try.underlying29 info_int _ _ rfl HO.out _ _ _ zs rfl rfl (hz.below hb1) (by simp; omega) hb1.size ?_; intro v2 W4 ho2 hg2; have hb2 := Own.below_app hb1 hb1.size HO.out hg2; clear hg2; obtain ⟨A3, c3, hv2, hrvs'⟩ : ∃ A2 c2, v2 = .slice A2 vs'.length c2 ∧ Rd W4 A2 vs' := by { obtain ⟨A2, c2, e1, _, _, e4, _⟩ := ho2.fr; exact ⟨A2, c2, by rw [HU4.out]; exact e1, by rw [HU4.out]; exact e4⟩ }; clear ho2; subst hv2; clear HO hb1; replace hx := hx.below hb2; replace hy := hy.below hb2; replace hz := hz.below hb2; replace hrus := hrus.below hb2; replace hrvs := hrvs.below hb2; replace hrus' := hrus'.below hb2; replace hB := below_on hB hb2; clear hb2))
          refine (compB _ _ _ _ _ _ _ _ hx hy hM (by omega) (by omega)).mono ?_
          rintro e V1 ⟨rfl, hb⟩
          replace hrus := hrus.below hb
          replace hrvs := hrvs.below hb
          replace hrus' := hrus'.below hb
          replace hrvs' := hrvs'.below hb
          replace hB := below_on hB hb
          clear hb
          go_wp2_with fail
          refine (compB _ _ _ _ _ _ _ _ hrus hrvs hM1 (by omega) (by omega)).mono ?_
          rintro e V2 ⟨rfl, hb⟩
          replace hrus := hrus.below hb
          replace hrvs := hrvs.below hb
          replace hrus' := hrus'.below hb
          replace hrvs' := hrvs'.below hb
          replace hB := below_on hB hb
          clear hb
          have hl := hl0.out
          clear hl0
          go_wp2_with fail
          refine (awake_calls _).mono ?_
          rintro e V9 ⟨rfl, hb⟩
          replace hB := below_on hB hb
          go_wp2
          go_ret
          exact ⟨rfl, hB⟩
      · go_enter Try.func5, Try.ntmps5
        go_wp2_with fail
        refine (awake_calls _).mono ?_
        rintro e w_1 ⟨rfl, hb⟩
        have hB := hb
        clear hb
        go_wp2
        go_ret
        exact ⟨rfl, hB⟩
    · go_enter Try.func5, Try.ntmps5
      go_wp2_with fail
      refine (awake_calls _).mono ?_
      rintro e w_1 ⟨rfl, hb⟩
      have hB := hb
      clear hb
      go_wp2
      go_ret
      exact ⟨rfl, hB⟩
  · go_enter Try.func5, Try.ntmps5
    go_wp2_with fail
    refine (awake_calls _).mono ?_
    rintro e w_1 ⟨rfl, hb⟩
    have hB := hb
    clear hb
    go_wp2
    go_ret
    exact ⟨rfl, hB⟩

theorem own : ownKnob Try.prog.godebug = none := by kernel_rfl
theorem laidOut : laidOutB Try.prog = true := by kernel_rfl

set_option maxRecDepth 100000 in
theorem lifted (os : Os) (started : os.Started) (H : Type) (enc : TypeId × Value → H) :
    ReturnsInHanded {} Try.checked os 5 .any (Rows.codepointPrefixesSpec.pre6 enc Try.prog Try.f5 Rows.codepointPrefixesRow.domain false) (Rows.codepointPrefixesSpec.post enc Try.prog Try.f5 false true false false) := by
  refine returnsInHanded_of_change (C := Try.checked) own started (by kernel_rfl) Try.func5
    (ChangeSpec.witness6 (enc := enc) (C := Try.checked) false ⟨#[], #[.slice none 0 0, .slice none 0 0, .slice none 0 0], []⟩ 8 (by kernel_rfl) (by kernel_rfl) (by kernel_rfl) (by kernel_rfl)) ?_
  intro W base args ds gs before hval0 hW hcnd _
  have hval : ∀ (j : Nat) t v, Try.f5.params[j]? = some t → args[j]? = some v → Value.okWide Try.prog W .any base t v := hval0
  have hW' := hW
  obtain ⟨p, q, hA0, hV, rfl, hfz, hnd⟩ := hW
  have hA : DataW.TrodAll enc Try.prog W 0 (fun _ => true) true Try.f5.params.toList args.toList ds p := hA0
  rw [Try.params5] at hA hval
  obtain ⟨v0, vs0, d0, ds0, p0, q0, hargs, rfl, rfl, h0, r0⟩ := trodAll_cons hA
  obtain ⟨v1, vs1, d1, ds1, p1, q1, rfl, rfl, rfl, h1, r1⟩ := trodAll_cons r0
  obtain ⟨v2, vs2, d2, ds2, p2, q2, rfl, rfl, rfl, h2, r2⟩ := trodAll_cons r1
  obtain ⟨rfl, rfl, rfl⟩ := trodAll_nil r2
  obtain rfl : args = #[v0, v1, v2] := by cases args; simp_all
  obtain ⟨rfl, rfl⟩ := trodVars_none hV
  obtain ⟨A0, len0, c0, rfl⟩ := okWide_slice Try.underlying29 (hval 0 29 v0 rfl rfl)
  have k0 := h0
  have lt0 := InRow.trod_lt k0
  obtain ⟨x0, e0, w0⟩ : ∃ xs : List Int, xs.length = len0 ∧ InRow W A0 c0 xs := by
    obtain ⟨fuel, hf⟩ := h0
    exact open_rd Try.underlying29 Try.underlying3 (by kernel_rfl) (by simpa [Value.cells] using hf)
  subst e0
  obtain ⟨A1, len1, c1, rfl⟩ := okWide_slice Try.underlying29 (hval 1 29 v1 rfl rfl)
  have k1 := h1
  have lt1 := InRow.trod_lt k1
  obtain ⟨x1, e1, w1⟩ : ∃ xs : List Int, xs.length = len1 ∧ InRow W A1 c1 xs := by
    obtain ⟨fuel, hf⟩ := h1
    exact open_rd Try.underlying29 Try.underlying3 (by kernel_rfl) (by simpa [Value.cells] using hf)
  subst e1
  obtain ⟨A2, len2, c2, rfl⟩ := okWide_slice Try.underlying29 (hval 2 29 v2 rfl rfl)
  have k2 := h2
  have lt2 := InRow.trod_lt k2
  obtain ⟨x2, e2, w2⟩ : ∃ xs : List Int, xs.length = len2 ∧ InRow W A2 c2 xs := by
    obtain ⟨fuel, hf⟩ := h2
    exact open_rd Try.underlying29 Try.underlying3 (by kernel_rfl) (by simpa [Value.cells] using hf)
  subst e2
  clear hA0 hval0
  refine (codepointPrefixes_walk W A0 c0 x0 w0 A1 c1 x1 w1 A2 c2 x2 w2).mono fun e W' ⟨he, bel⟩ => ?_
  subst he
  exact ⟨_, rfl, _, _, _, [], _, [], hW', trodAll_mk1 (shut_bool Try.underlying4 _), (trodAll_cons_mk (Below.trod laidOut (by kernel_rfl) (of_decide_eq_true (by kernel_rfl)) k0 bel lt0) (trodAll_cons_mk (Below.trod laidOut (by kernel_rfl) (of_decide_eq_true (by kernel_rfl)) k1 bel lt1) (trodAll_cons_mk (Below.trod laidOut (by kernel_rfl) (of_decide_eq_true (by kernel_rfl)) k2 bel lt2) trodAll_mk0))), rfl, bel.frame _, fun h => by cases h⟩

theorem over : Rows.codepointPrefixesRow.holds Try.pinned (OpenSpec.ofChange Rows.codepointPrefixesSpec) :=
  OpenClaim.holds_of_wide 5 Try.f5 rfl rfl rfl rfl rfl rfl rfl ⟨rfl, rfl, rfl, rfl, rfl⟩ rfl rfl rfl rfl rfl (by kernel_rfl) Try.func5 (by kernel_rfl)
    (of_decide_eq_true (by kernel_rfl)) (by unfold Func.isWrapper; first | (rw [if_pos (by decide +kernel)]; kernel_rfl) | (rw [if_neg (by decide +kernel)]; exact ⟨rfl, rfl⟩))
    (fun os started H enc _ => lifted os started H enc)

end Go.Proofs.Ytkokfinmolkehaa.codepointPrefixes
namespace Go.Proofs.Ytkokfinmolkehaa
/-- CodepointPrefixes returns true for every three texts, and its arguments read behind the call as before. No condition beyond the row's own. -/
theorem codepointPrefixes_holds : Rows.CodepointPrefixesSaid := codepointPrefixes.over
#print axioms codepointPrefixes_holds
end Go.Proofs.Ytkokfinmolkehaa
