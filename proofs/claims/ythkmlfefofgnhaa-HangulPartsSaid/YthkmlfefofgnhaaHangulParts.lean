/- HangulParts returns true for every pair of numbers. No condition beyond the row's own. -/
import Derived.Test.YthkmlfefofgnhaaRows
import Derived.Test.YthkmlfefofgnhaaFrame
import Derived.Test.YthkmlfefofgnhaaHgAwake
import Derived.Test.YthkmlfefofgnhaaHgLaw
namespace Go.Proofs.Ythkmlfefofgnhaa.hangulParts
open Go.ChangeShapes Go.WideShapes Go.ChangeAt Go.RowKit Go.Deep
open Go.ChangeMaps (open_string shut_string)
set_option linter.unusedVariables false
set_option linter.unusedSimpArgs false

set_option maxHeartbeats 2000000 in
theorem hangulParts_walk (w : World) (a : Int) (wa : (Lit.int .i64 a).wf = true) (b : Int) (wb : (Lit.int .i64 b).wf = true) :
    Calls Try.prog 7 #[.int .i64 a, .int .i64 b] w fun e w' => e = .returned (.bool true) ∧ Below w.heap.size w w' := by
  have ba := bounds_i64 wa
  have bb := bounds_i64 wb
  clear wa wb
  have C := fun w => compose_calls a b w ba bb
  have info_int : (Try.prog.info? 3).map (fun i => (i.zero, i.size, i.bytes)) = some (some (.int .i64 0), 1, 8) := by rfl
  by_cases hB : compB a b = true
  · have hp := parts_of hB
    have bc := comp_bounds hB
    obtain ⟨c, hc⟩ : ∃ c, c = compI a b := ⟨_, rfl⟩
    rw [hB, ← hc] at C
    rw [← hc] at hp bc
    have DA := fun w => dec_calls a w ba
    have DB := fun w => dec_calls b w bb
    have DC := fun w => dec_calls c w bc.1
    have K := fun w => kind_calls c w bc.1
    unfold DecOut at DA DB DC
    have la := decl_len a
    have lb := decl_len b
    have lc := decl_len c
    obtain ⟨xs, hxs⟩ : ∃ xs, xs = decl a := ⟨_, rfl⟩
    obtain ⟨ys, hys⟩ : ∃ ys, ys = decl b := ⟨_, rfl⟩
    obtain ⟨zs, hzs⟩ : ∃ zs, zs = decl c := ⟨_, rfl⟩
    rw [← hxs] at DA la
    rw [← hys] at DB lb
    rw [← hzs] at DC lc
    rw [← hxs, ← hys, ← hzs] at hp
    have HP := Lib.hid hp
    obtain ⟨k, hk⟩ : ∃ k, k = kind c := ⟨_, rfl⟩
    rw [← hk] at K bc
    have hk4 := bc.2
    clear hp hxs hys hzs hk bc ba bb hB hc
    go_enter Try.func7, Try.ntmps7
    go_wp2_with fail
    refine (C _).mono ?_
    rintro e w1 ⟨rfl, hb1⟩
    go_wp2_with fail
    refine (DA _).mono ?_
    rintro e w2 ⟨A, c1, rfl, hr1, hb2⟩
    have hB2 := below_then' hb1 hb1.size hb2
    go_wp2_with (at_builtin; refine wpList_app rfl (.tmp 21) (.tmp 23) 24 rfl w2.heap.size 3 Try.underlying24 info_int _ _ rfl (Own.nil w2 w2.heap.size 3) _ _ _ xs rfl rfl hr1 (by simp; omega) (Nat.le_refl _) ?_; intro v1 w3 ho1 hg1; have HO := Lib.hid (show Own w3 w2.heap.size 3 v1 xs from ho1); have hb3 := Own.below_app (Below.refl _ _) (Nat.le_refl _) (Own.nil w2 w2.heap.size 3) hg1; clear ho1 hg1)
    have hB3 := below_then' hB2 hB2.size hb3
    go_wp2_with fail
    refine (DB _).mono ?_
    rintro e w4 ⟨B, c2, rfl, hr2, hb4⟩
    have hB4 := below_then' hB3 hB3.size hb4
    have HO4 := Lib.hid (Own.below HO.out hb4)
    have hs4 : w2.heap.size ≤ w4.heap.size := Nat.le_trans hb3.size hb4.size
    go_wp2_with (at_builtin; refine wpList_app rfl (.tmp 25) (.tmp 27) 24 rfl w2.heap.size 3 Try.underlying24 info_int _ _ rfl HO4.out _ _ _ ys rfl rfl hr2 (by omega) hs4 ?_; intro v2 w5 ho2 hg2; have hB5 := Own.below_app (below_then' hb3 hb3.size hb4) hs4 HO4.out hg2; clear hg2; obtain ⟨A2, k2, hv2, hr5⟩ : ∃ A2 k2, v2 = .slice A2 zs.length k2 ∧ Rd w5 A2 zs := by { rw [HP.out]; obtain ⟨A2, k2, e1, _, _, e4, _⟩ := ho2.fr; exact ⟨A2, k2, e1, e4⟩ }; clear ho2; subst hv2)
    have hB6 := below_then' hB2 hB2.size hB5
    clear hB5 hB4 hB3 HO HO4 HP hb3 hb4 hs4
    refine (DC _).mono ?_
    rintro e w6 ⟨A3, k3, rfl, hr6, hb6⟩
    have hB7 := below_then' hB6 hB6.size hb6
    go_wp2_with fail
    refine (equalB A3 A2 k3 k2 zs zs true _ hr6 (hr5.below hb6) (Lib.hid (decide_eq_true rfl)) (by omega) (by omega)).mono ?_
    rintro e w7 ⟨rfl, hb7⟩
    have hB8 := below_then' hB7 hB7.size hb7
    go_wp2_with fail
    refine (K _).mono ?_
    rintro e w8 ⟨rfl, hb8⟩
    have hB9 := below_then' hB8 hB8.size hb8
    go_wp2_with fail
    refine (awake_calls _).mono ?_
    rintro e w9 ⟨rfl, hb9⟩
    go_wp2_with fail
    go_ret
    exact ⟨ret_bool rfl, below_then' hB9 hB9.size hb9⟩
  · have hB' : compB a b = false := by simpa using hB
    have h0 := comp_none hB'
    rw [hB', h0] at C
    clear hB hB' h0
    go_enter Try.func7, Try.ntmps7
    go_wp2_with fail
    refine (C _).mono ?_
    rintro e w1 ⟨rfl, hb1⟩
    go_wp2_with fail
    refine (awake_calls _).mono ?_
    rintro e w9 ⟨rfl, hb9⟩
    go_wp2_with fail
    go_ret
    exact ⟨ret_bool rfl, below_then' hb1 hb1.size hb9⟩

theorem own : ownKnob Try.prog.godebug = none := by kernel_rfl
theorem laidOut : laidOutB Try.prog = true := by kernel_rfl

set_option maxRecDepth 100000 in
theorem lifted (os : Os) (started : os.Started) (H : Type) (enc : TypeId × Value → H) :
    ReturnsInHanded {} Try.checked os 7 .any (Rows.hangulPartsSpec.pre6 enc Try.prog Try.f7 Rows.hangulPartsRow.domain false) (Rows.hangulPartsSpec.post enc Try.prog Try.f7 false true false false) := by
  refine returnsInHanded_of_change (C := Try.checked) own started (by kernel_rfl) Try.func7
    (ChangeSpec.witness6 (enc := enc) (C := Try.checked) false ⟨#[], #[.int .i64 0, .int .i64 0], []⟩ 8 (by kernel_rfl) (by kernel_rfl) (by kernel_rfl) (by kernel_rfl)) ?_
  intro W base args ds gs before hval0 hW hcnd _
  have hval : ∀ (j : Nat) t v, Try.f7.params[j]? = some t → args[j]? = some v → Value.okWide Try.prog W .any base t v := hval0
  have hW' := hW
  obtain ⟨p, q, hA0, hV, rfl, hfz, hnd⟩ := hW
  have hA : DataW.TrodAll enc Try.prog W 0 (fun _ => true) true Try.f7.params.toList args.toList ds p := hA0
  rw [Try.params7] at hA hval
  obtain ⟨v0, vs0, d0, ds0, p0, q0, hargs, rfl, rfl, h0, r0⟩ := trodAll_cons hA
  obtain ⟨v1, vs1, d1, ds1, p1, q1, rfl, rfl, rfl, h1, r1⟩ := trodAll_cons r0
  obtain ⟨rfl, rfl, rfl⟩ := trodAll_nil r1
  obtain rfl : args = #[v0, v1] := by cases args; simp_all
  obtain ⟨rfl, rfl⟩ := trodVars_none hV
  obtain ⟨a0, rfl, rfl, rfl, w0⟩ := open_int Try.underlying3 (hval 0 3 v0 rfl rfl) h0
  obtain ⟨a1, rfl, rfl, rfl, w1⟩ := open_int Try.underlying3 (hval 1 3 v1 rfl rfl) h1
  clear hA0 hval0
  refine (hangulParts_walk W a0 w0 a1 w1).mono fun e W' ⟨he, bel⟩ => ?_
  subst he
  exact ⟨_, rfl, _, _, _, [], _, [], hW', trodAll_mk1 (shut_bool Try.underlying4 _), (trodAll_cons_mk (shut_int Try.underlying3 w0) (trodAll_cons_mk (shut_int Try.underlying3 w1) trodAll_mk0)), rfl, bel.frame _, fun h => by cases h⟩

theorem over : Rows.hangulPartsRow.holds Try.pinned (OpenSpec.ofChange Rows.hangulPartsSpec) :=
  OpenClaim.holds_of_wide 7 Try.f7 rfl rfl rfl rfl rfl rfl rfl ⟨rfl, rfl, rfl, rfl, rfl⟩ rfl rfl rfl rfl rfl (by kernel_rfl) Try.func7 (by kernel_rfl)
    (of_decide_eq_true (by kernel_rfl)) (by unfold Func.isWrapper; first | (rw [if_pos (by decide +kernel)]; kernel_rfl) | (rw [if_neg (by decide +kernel)]; exact ⟨rfl, rfl⟩))
    (fun os started H enc _ => lifted os started H enc)

end Go.Proofs.Ythkmlfefofgnhaa.hangulParts
namespace Go.Proofs.Ythkmlfefofgnhaa
/-- HangulParts returns true for every pair of numbers. No condition beyond the row's own. -/
theorem hangulParts_holds : Rows.HangulPartsSaid := hangulParts.over
#print axioms hangulParts_holds
end Go.Proofs.Ythkmlfefofgnhaa
