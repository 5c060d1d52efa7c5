/- CodepointDigits returns true for every number. No condition beyond the row's own. -/
import Derived.Test.YtkokfinmolkehaaRows
import Derived.Test.YtkokfinmolkehaaFrame
import Derived.Test.YtkokfinmolkehaaCpBack
namespace Go.Proofs.Ytkokfinmolkehaa.codepointDigits
open Go.ChangeShapes Go.WideShapes Go.ChangeAt Go.RowKit Go.Deep
open Go.ChangeMaps (open_string shut_string)
set_option linter.unusedVariables false
set_option linter.unusedSimpArgs false

theorem codepointDigits_walk (w : World) (c : Int) (hc : (Lit.int .i64 c).wf = true) :
    Calls Try.prog 3 #[.int .i64 c] w fun e w' => e = .returned (.bool true) ∧ Below w.heap.size w w' := by
  clear hc
  cases hv : vld c
  · have he : hexOf c = ByteArray.empty := by simp [hexOf, hv]
    have A : ∀ w, Calls Try.prog 10 #[.int .i64 c] w fun e w' => e = .returned (.string ⟨#[]⟩) ∧ Below w.heap.size w w' := fun w => by have := hex_calls c w; rwa [he] at this
    have B : ∀ w, Calls Try.prog 11 #[.string ⟨#[]⟩] w fun e w' => e = .returned (.tuple #[.int .i64 0, .int .i64 3]) ∧ Below w.heap.size w w' := fun w => by have := parse_calls ByteArray.empty w; rwa [parsed_empty] at this
    have V : ∀ w, Calls Try.prog 12 #[.int .i64 c] w fun e w' => e = .returned (.bool false) ∧ w' = w := fun w => by have := vld_calls c w; rwa [hv] at this
    clear he hv
    go_enter Try.func3, Try.ntmps3
    go_wp2_with fail
    refine (A _).mono ?_
    rintro e w1 ⟨rfl, hb1⟩
    go_wp2_with fail
    refine (B _).mono ?_
    rintro e w2 ⟨rfl, hb2⟩
    go_wp2_with fail
    refine (V _).mono ?_
    rintro e w3 ⟨rfl, rfl⟩
    go_wp2_with fail
    refine (awake_calls _).mono ?_
    rintro e w4 ⟨rfl, hb4⟩
    go_wp2
    go_ret
    exact ⟨rfl, below_on (below_on hb1 hb2) hb4⟩
  · have hq := parsed_hex hv
    have hA := fun w => hex_calls c w
    have hG := fun w => rhex_calls c w
    obtain ⟨s, hs⟩ : ∃ s, s = hexOf c := ⟨_, rfl⟩
    rw [← hs] at hq
    simp only [← hs] at hA hG
    have B : ∀ w, Calls Try.prog 11 #[.string s] w fun e w' => e = .returned (.tuple #[.int .i64 c, .int .i64 0]) ∧ Below w.heap.size w w' := fun w => by have := parse_calls s w; rwa [hq] at this
    have V : ∀ w, Calls Try.prog 12 #[.int .i64 c] w fun e w' => e = .returned (.bool true) ∧ w' = w := fun w => by have := vld_calls c w; rwa [hv] at this
    clear hs hq hv
    go_enter Try.func3, Try.ntmps3
    go_wp2_with fail
    refine (hA _).mono ?_
    rintro e w1 ⟨rfl, hb1⟩
    go_wp2_with fail
    refine (B _).mono ?_
    rintro e w2 ⟨rfl, hb2⟩
    go_wp2_with fail
    refine (V _).mono ?_
    rintro e w3 ⟨rfl, rfl⟩
    go_wp2_with fail
    refine (hG _).mono ?_
    rintro e w4 ⟨rfl, rfl⟩
    go_wp2_with fail
    refine (awake_calls _).mono ?_
    rintro e w5 ⟨rfl, hb4⟩
    go_wp2
    go_ret
    exact ⟨rfl, below_on (below_on hb1 hb2) hb4⟩

theorem own : ownKnob Try.prog.godebug = none := by kernel_rfl
theorem laidOut : laidOutB Try.prog = true := by kernel_rfl

set_option maxRecDepth 100000 in
theorem lifted (os : Os) (started : os.Started) (H : Type) (enc : TypeId × Value → H) :
    ReturnsInHanded {} Try.checked os 3 .any (Rows.codepointDigitsSpec.pre6 enc Try.prog Try.f3 Rows.codepointDigitsRow.domain false) (Rows.codepointDigitsSpec.post enc Try.prog Try.f3 false true false false) := by
  refine returnsInHanded_of_change (C := Try.checked) own started (by kernel_rfl) Try.func3
    (ChangeSpec.witness6 (enc := enc) (C := Try.checked) false ⟨#[], #[.int .i64 0], []⟩ 8 (by kernel_rfl) (by kernel_rfl) (by kernel_rfl) (by kernel_rfl)) ?_
  intro W base args ds gs before hval0 hW hcnd _
  have hval : ∀ (j : Nat) t v, Try.f3.params[j]? = some t → args[j]? = some v → Value.okWide Try.prog W .any base t v := hval0
  have hW' := hW
  obtain ⟨p, q, hA0, hV, rfl, hfz, hnd⟩ := hW
  have hA : DataW.TrodAll enc Try.prog W 0 (fun _ => true) true Try.f3.params.toList args.toList ds p := hA0
  rw [Try.params3] at hA hval
  obtain ⟨v0, vs0, d0, ds0, p0, q0, hargs, rfl, rfl, h0, r0⟩ := trodAll_cons hA
  obtain ⟨rfl, rfl, rfl⟩ := trodAll_nil r0
  obtain rfl : args = #[v0] := by cases args; simp_all
  obtain ⟨rfl, rfl⟩ := trodVars_none hV
  obtain ⟨a0, rfl, rfl, rfl, w0⟩ := open_int Try.underlying3 (hval 0 3 v0 rfl rfl) h0
  clear hA0 hval0
  refine (codepointDigits_walk W a0 w0).mono fun e W' ⟨he, bel⟩ => ?_
  subst he
  exact ⟨_, rfl, _, _, _, [], _, [], hW', trodAll_mk1 (shut_bool Try.underlying4 _), (trodAll_cons_mk (shut_int Try.underlying3 w0) trodAll_mk0), rfl, bel.frame _, fun h => by cases h⟩

theorem over : Rows.codepointDigitsRow.holds Try.pinned (OpenSpec.ofChange Rows.codepointDigitsSpec) :=
  OpenClaim.holds_of_wide 3 Try.f3 rfl rfl rfl rfl rfl rfl rfl ⟨rfl, rfl, rfl, rfl, rfl⟩ rfl rfl rfl rfl rfl (by kernel_rfl) Try.func3 (by kernel_rfl)
    (of_decide_eq_true (by kernel_rfl)) (by unfold Func.isWrapper; first | (rw [if_pos (by decide +kernel)]; kernel_rfl) | (rw [if_neg (by decide +kernel)]; exact ⟨rfl, rfl⟩))
    (fun os started H enc _ => lifted os started H enc)

end Go.Proofs.Ytkokfinmolkehaa.codepointDigits
namespace Go.Proofs.Ytkokfinmolkehaa
/-- CodepointDigits returns true for every number. No condition beyond the row's own. -/
theorem codepointDigits_holds : Rows.CodepointDigitsSaid := codepointDigits.over
#print axioms codepointDigits_holds
end Go.Proofs.Ytkokfinmolkehaa
