/- HangulKinds returns true for every number. No condition beyond the row's own. -/
import Derived.Test.YthkmlfefofgnhaaRows
import Derived.Test.YthkmlfefofgnhaaFrame
import Derived.Test.YthkmlfefofgnhaaHgAwake
import Derived.Test.YthkmlfefofgnhaaHgLaw
namespace Go.Proofs.Ythkmlfefofgnhaa.hangulKinds
open Go.ChangeShapes Go.WideShapes Go.ChangeAt Go.RowKit Go.Deep
open Go.ChangeMaps (open_string shut_string)
set_option linter.unusedVariables false
set_option linter.unusedSimpArgs false

theorem hangulKinds_walk (w : World) (c : Int) (wc : (Lit.int .i64 c).wf = true) :
    Calls Try.prog 3 #[.int .i64 c] w fun e w' => e = .returned (.bool true) ∧ Below w.heap.size w w' := by
  have bc := bounds_i64 wc
  clear wc
  have K := fun w => kind_calls c w bc
  have KR := fun w => kindR_calls c w bc
  have D := fun w => dec_calls c w bc
  have DR := fun w => decR_calls c w bc
  obtain ⟨k, hk⟩ : ∃ k, k = kind c := ⟨_, rfl⟩
  rw [← hk] at K KR
  have hl := decl_len c
  unfold DecOut at D DR
  obtain ⟨l, hl2⟩ : ∃ l, l = decl c := ⟨_, rfl⟩
  rw [← hl2] at D DR hl
  clear hk hl2 bc
  go_enter Try.func3, Try.ntmps3
  go_wp2_with fail
  refine (K _).mono ?_
  rintro e w1 ⟨rfl, hb1⟩
  go_wp2_with fail
  refine (KR _).mono ?_
  rintro e w2 ⟨rfl, rfl⟩
  go_wp2_with fail
  refine (D _).mono ?_
  rintro e w3 ⟨A, c1, rfl, hr1, hb3⟩
  have hB3 := below_then' hb1 hb1.size hb3
  go_wp2_with fail
  refine (DR _).mono ?_
  rintro e w4 ⟨B, c2, rfl, hr2, hb4⟩
  have hB4 := below_then' hB3 hB3.size hb4
  go_wp2_with fail
  refine (equalB A B c1 c2 l l true _ (hr1.below hb4) hr2 (Lib.hid (decide_eq_true rfl)) (by omega) (by omega)).mono ?_
  rintro e w5 ⟨rfl, hb5⟩
  have hB5 := below_then' hB4 hB4.size hb5
  go_wp2_with fail
  refine (awake_calls _).mono ?_
  rintro e w9 ⟨rfl, hb9⟩
  go_wp2_with fail
  go_ret
  exact ⟨ret_bool rfl, below_then' hB5 hB5.size hb9⟩

theorem own : ownKnob Try.prog.godebug = none := by kernel_rfl
theorem laidOut : laidOutB Try.prog = true := by kernel_rfl

set_option maxRecDepth 100000 in
theorem lifted (os : Os) (started : os.Started) (H : Type) (enc : TypeId × Value → H) :
    ReturnsInHanded {} Try.checked os 3 .any (Rows.hangulKindsSpec.pre6 enc Try.prog Try.f3 Rows.hangulKindsRow.domain false) (Rows.hangulKindsSpec.post enc Try.prog Try.f3 false true false false) := by
  refine returnsInHanded_of_change (C := Try.checked) own started (by kernel_rfl) Try.func3
    (ChangeSpec.witness6 (enc := enc) (C := Try.checked) false ⟨#[], #[.int .i64 0], []⟩ 8 (by kernel_rfl) (by kernel_rfl) (by kernel_rfl) (by kernel_rfl)) ?_
  intro W base args ds gs before hval0 hW hcnd _
  have hval : ∀ (j : Nat) t v, Try.f3.params[j]? = some t → args[j]? = some v → Value.okWide Try.prog W .any base t v := hval0
  have hW' := hW
  obtain ⟨p, q, hA0, hV, rfl, hfz, hnd⟩ := hW
  have hA : DataW.TrodAll enc Try.prog W 0 (fun _ => true) true Try.f3.params.toList args.toList ds p := hA0
  rw [Try.params3] at hA hval
  obtain ⟨v0, vs0, d0, ds0, p0, q0, hargs, rfl, rfl, h0, r0⟩ := trodAll_cons hA
  obtain ⟨rfl, rfl, rfl⟩ := trodAll_nil r0
  obtain rfl : args = #[v0] := by cases args; simp_all
  obtain ⟨rfl, rfl⟩ := trodVars_none hV
  obtain ⟨a0, rfl, rfl, rfl, w0⟩ := open_int Try.underlying3 (hval 0 3 v0 rfl rfl) h0
  clear hA0 hval0
  refine (hangulKinds_walk W a0 w0).mono fun e W' ⟨he, bel⟩ => ?_
  subst he
  exact ⟨_, rfl, _, _, _, [], _, [], hW', trodAll_mk1 (shut_bool Try.underlying4 _), (trodAll_cons_mk (shut_int Try.underlying3 w0) trodAll_mk0), rfl, bel.frame _, fun h => by cases h⟩

theorem over : Rows.hangulKindsRow.holds Try.pinned (OpenSpec.ofChange Rows.hangulKindsSpec) :=
  OpenClaim.holds_of_wide 3 Try.f3 rfl rfl rfl rfl rfl rfl rfl ⟨rfl, rfl, rfl, rfl, rfl⟩ rfl rfl rfl rfl rfl (by kernel_rfl) Try.func3 (by kernel_rfl)
    (of_decide_eq_true (by kernel_rfl)) (by unfold Func.isWrapper; first | (rw [if_pos (by decide +kernel)]; kernel_rfl) | (rw [if_neg (by decide +kernel)]; exact ⟨rfl, rfl⟩))
    (fun os started H enc _ => lifted os started H enc)

end Go.Proofs.Ythkmlfefofgnhaa.hangulKinds
namespace Go.Proofs.Ythkmlfefofgnhaa
/-- HangulKinds returns true for every number. No condition beyond the row's own. -/
theorem hangulKinds_holds : Rows.HangulKindsSaid := hangulKinds.over
#print axioms hangulKinds_holds
end Go.Proofs.Ythkmlfefofgnhaa
