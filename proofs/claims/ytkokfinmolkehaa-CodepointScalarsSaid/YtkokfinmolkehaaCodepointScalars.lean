/- CodepointScalars returns true for every number. No condition beyond the row's own. -/
import Derived.Test.YtkokfinmolkehaaRows
import Derived.Test.YtkokfinmolkehaaFrame
import Derived.Test.YtkokfinmolkehaaCpAwake
namespace Go.Proofs.Ytkokfinmolkehaa.codepointScalars
open Go.ChangeShapes Go.WideShapes Go.ChangeAt Go.RowKit Go.Deep
open Go.ChangeMaps (open_string shut_string)
set_option linter.unusedVariables false
set_option linter.unusedSimpArgs false

theorem codepointScalars_walk (w : World) (c : Int) (hc : (Lit.int .i64 c).wf = true) :
    Calls Try.prog 9 #[.int .i64 c] w fun e w' => e = .returned (.bool true) ∧ Below w.heap.size w w' := by
  clear hc
  cases hv : vld c
  · have hsur : sur c = false := by
      simp [vld] at hv
      simp [sur]
      omega
    have e1 : (vld c && !sur c) = false := by simp [hv]
    have e2 : ncb c = false := by simp [ncb, hv]
    have e3 : pln c = -1 := by simp [pln, hv]
    have V : Calls Try.prog 12 #[.int .i64 c] w fun e w' => e = .returned (.bool false) ∧ w' = w := by have := vld_calls c w; rwa [hv] at this
    have A : Calls Try.prog 20 #[.int .i64 c] w fun e w' => e = .returned (.bool false) ∧ w' = w := by have := sca_calls c w; rwa [e1] at this
    have B : Calls Try.prog 22 #[.int .i64 c] w fun e w' => e = .returned (.bool false) ∧ w' = w := by have := sur_calls c w; rwa [hsur] at this
    have C : Calls Try.prog 24 #[.int .i64 c] w fun e w' => e = .returned (.bool false) ∧ w' = w := by have := nc_calls c w; rwa [e2] at this
    have D : Calls Try.prog 26 #[.int .i64 c] w fun e w' => e = .returned (.int .i64 (-1)) ∧ w' = w := by have := pln_calls c w; rwa [e3] at this
    clear hv hsur e1 e2 e3
    go_enter Try.func9, Try.ntmps9
    go_wp2_with fail
    refine V.mono ?_; rintro e w1 ⟨rfl, rfl⟩
    go_wp2_with fail
    refine A.mono ?_; rintro e w1 ⟨rfl, rfl⟩
    go_wp2_with fail
    refine B.mono ?_; rintro e w1 ⟨rfl, rfl⟩
    go_wp2_with fail
    refine C.mono ?_; rintro e w1 ⟨rfl, rfl⟩
    go_wp2_with fail
    refine D.mono ?_; rintro e w1 ⟨rfl, rfl⟩
    go_wp2_with fail
    refine (awake_calls _).mono ?_; rintro e w11 ⟨rfl, hb⟩
    go_wp2
    go_ret
    exact ⟨rfl, hb⟩
  · have hv2 := vld_of hv
    obtain ⟨p, hp⟩ : ∃ p, p = c / 65536 := ⟨_, rfl⟩
    have e3 : pln c = p := by simp [pln, hv, hp]
    have e1 : (vld c && !sur c) = !sur c := by simp [hv]
    have V : Calls Try.prog 12 #[.int .i64 c] w fun e w' => e = .returned (.bool true) ∧ w' = w := by have := vld_calls c w; rwa [hv] at this
    have D : Calls Try.prog 26 #[.int .i64 c] w fun e w' => e = .returned (.int .i64 p) ∧ w' = w := by have := pln_calls c w; rwa [e3] at this
    have p0 : 0 ≤ p := by omega
    have p1 : p ≤ 16 := by omega
    have p2 : 65536 * p ≤ c := by omega
    have p3 : c < 65536 * (p + 1) := by omega
    have c1 : c ≤ 1114111 := hv2.2
    cases hs : sur c
    · have A : Calls Try.prog 20 #[.int .i64 c] w fun e w' => e = .returned (.bool true) ∧ w' = w := by have := sca_calls c w; rwa [e1, hs] at this
      have B : Calls Try.prog 22 #[.int .i64 c] w fun e w' => e = .returned (.bool false) ∧ w' = w := by have := sur_calls c w; rwa [hs] at this
      clear hv hv2 hs e1 e3 hp
      go_enter Try.func9, Try.ntmps9
      go_wp2_with fail
      refine V.mono ?_; rintro e w1 ⟨rfl, rfl⟩
      go_wp2_with fail
      refine D.mono ?_; rintro e w1 ⟨rfl, rfl⟩
      go_wp2_with fail
      refine A.mono ?_; rintro e w1 ⟨rfl, rfl⟩
      go_wp2_with fail
      refine B.mono ?_; rintro e w1 ⟨rfl, rfl⟩
      go_wp2_with fail
      refine (awake_calls _).mono ?_; rintro e w11 ⟨rfl, hb⟩
      go_wp2
      go_ret
      exact ⟨rfl, hb⟩
    · have A : Calls Try.prog 20 #[.int .i64 c] w fun e w' => e = .returned (.bool false) ∧ w' = w := by have := sca_calls c w; rwa [e1, hs] at this
      have B : Calls Try.prog 22 #[.int .i64 c] w fun e w' => e = .returned (.bool true) ∧ w' = w := by have := sur_calls c w; rwa [hs] at this
      clear hv hv2 hs e1 e3 hp
      go_enter Try.func9, Try.ntmps9
      go_wp2_with fail
      refine V.mono ?_; rintro e w1 ⟨rfl, rfl⟩
      go_wp2_with fail
      refine D.mono ?_; rintro e w1 ⟨rfl, rfl⟩
      go_wp2_with fail
      refine A.mono ?_; rintro e w1 ⟨rfl, rfl⟩
      go_wp2_with fail
      refine B.mono ?_; rintro e w1 ⟨rfl, rfl⟩
      go_wp2_with fail
      refine (awake_calls _).mono ?_; rintro e w11 ⟨rfl, hb⟩
      go_wp2
      go_ret
      exact ⟨rfl, hb⟩

theorem own : ownKnob Try.prog.godebug = none := by kernel_rfl
theorem laidOut : laidOutB Try.prog = true := by kernel_rfl

set_option maxRecDepth 100000 in
theorem lifted (os : Os) (started : os.Started) (H : Type) (enc : TypeId × Value → H) :
    ReturnsInHanded {} Try.checked os 9 .any (Rows.codepointScalarsSpec.pre6 enc Try.prog Try.f9 Rows.codepointScalarsRow.domain false) (Rows.codepointScalarsSpec.post enc Try.prog Try.f9 false true false false) := by
  refine returnsInHanded_of_change (C := Try.checked) own started (by kernel_rfl) Try.func9
    (ChangeSpec.witness6 (enc := enc) (C := Try.checked) false ⟨#[], #[.int .i64 0], []⟩ 8 (by kernel_rfl) (by kernel_rfl) (by kernel_rfl) (by kernel_rfl)) ?_
  intro W base args ds gs before hval0 hW hcnd _
  have hval : ∀ (j : Nat) t v, Try.f9.params[j]? = some t → args[j]? = some v → Value.okWide Try.prog W .any base t v := hval0
  have hW' := hW
  obtain ⟨p, q, hA0, hV, rfl, hfz, hnd⟩ := hW
  have hA : DataW.TrodAll enc Try.prog W 0 (fun _ => true) true Try.f9.params.toList args.toList ds p := hA0
  rw [Try.params9] at hA hval
  obtain ⟨v0, vs0, d0, ds0, p0, q0, hargs, rfl, rfl, h0, r0⟩ := trodAll_cons hA
  obtain ⟨rfl, rfl, rfl⟩ := trodAll_nil r0
  obtain rfl : args = #[v0] := by cases args; simp_all
  obtain ⟨rfl, rfl⟩ := trodVars_none hV
  obtain ⟨a0, rfl, rfl, rfl, w0⟩ := open_int Try.underlying3 (hval 0 3 v0 rfl rfl) h0
  clear hA0 hval0
  refine (codepointScalars_walk W a0 w0).mono fun e W' ⟨he, bel⟩ => ?_
  subst he
  exact ⟨_, rfl, _, _, _, [], _, [], hW', trodAll_mk1 (shut_bool Try.underlying4 _), (trodAll_cons_mk (shut_int Try.underlying3 w0) trodAll_mk0), rfl, bel.frame _, fun h => by cases h⟩

theorem over : Rows.codepointScalarsRow.holds Try.pinned (OpenSpec.ofChange Rows.codepointScalarsSpec) :=
  OpenClaim.holds_of_wide 9 Try.f9 rfl rfl rfl rfl rfl rfl rfl ⟨rfl, rfl, rfl, rfl, rfl⟩ rfl rfl rfl rfl rfl (by kernel_rfl) Try.func9 (by kernel_rfl)
    (of_decide_eq_true (by kernel_rfl)) (by unfold Func.isWrapper; first | (rw [if_pos (by decide +kernel)]; kernel_rfl) | (rw [if_neg (by decide +kernel)]; exact ⟨rfl, rfl⟩))
    (fun os started H enc _ => lifted os started H enc)

end Go.Proofs.Ytkokfinmolkehaa.codepointScalars
namespace Go.Proofs.Ytkokfinmolkehaa
/-- CodepointScalars returns true for every number. No condition beyond the row's own. -/
theorem codepointScalars_holds : Rows.CodepointScalarsSaid := codepointScalars.over
#print axioms codepointScalars_holds
end Go.Proofs.Ytkokfinmolkehaa
