/- CodepointParses returns true for every string, and its argument reads behind the call as before. No condition beyond the row's own. -/
import Derived.Test.YtkokfinmolkehaaRows
import Derived.Test.YtkokfinmolkehaaFrame
import Derived.Test.YtkokfinmolkehaaCpBack
namespace Go.Proofs.Ytkokfinmolkehaa.codepointParses
open Go.ChangeShapes Go.WideShapes Go.ChangeAt Go.RowKit Go.Deep
open Go.ChangeMaps (open_string shut_string)
set_option linter.unusedVariables false
set_option linter.unusedSimpArgs false

theorem codepointParses_walk (w : World) (s : ByteArray) (hs : s.size ≤ maxLen) :
    Calls Try.prog 4 #[.string s] w fun e w' => e = .returned (.bool true) ∧ Below w.heap.size w w' := by
  have hsl : s.size ≤ 9223372036854775807 := by unfold maxLen at hs; omega
  clear hs
  by_cases h1 : s.size ≤ 200
  · rcases parsed_or s with hp | ⟨a, hp, ha⟩
    · have A : ∀ w, Calls Try.prog 11 #[.string s] w fun e w' => e = .returned (.tuple #[.int .i64 0, .int .i64 3]) ∧ Below w.heap.size w w' := fun w => by have := parse_calls s w; rwa [hp] at this
      have B : ∀ w, Calls Try.prog 15 #[.string s] w fun e w' => e = .returned (.tuple #[.int .i64 0, .int .i64 3]) ∧ w' = w := fun w => by have := rparse_calls s w; rwa [hp] at this
      clear hp
      go_enter Try.func4, Try.ntmps4
      go_wp2_with fail
      refine (A _).mono ?_
      rintro e w' ⟨rfl, hb⟩
      go_wp2_with fail
      refine (B _).mono ?_
      rintro e w' ⟨rfl, rfl⟩
      go_wp2_with fail
      refine (awake_calls _).mono ?_
      rintro e w1 ⟨rfl, hb2⟩
      go_wp2
      go_ret
      exact ⟨rfl, below_on hb hb2⟩
    · have A : ∀ w, Calls Try.prog 11 #[.string s] w fun e w' => e = .returned (.tuple #[.int .i64 a, .int .i64 0]) ∧ Below w.heap.size w w' := fun w => by have := parse_calls s w; rwa [hp] at this
      have B : ∀ w, Calls Try.prog 15 #[.string s] w fun e w' => e = .returned (.tuple #[.int .i64 a, .int .i64 0]) ∧ w' = w := fun w => by have := rparse_calls s w; rwa [hp] at this
      clear hp
      have C : ∀ w, Calls Try.prog 10 #[.int .i64 a] w fun e w' => e = .returned (.string s) ∧ Below w.heap.size w w' := fun w => by have := hex_calls a w; rwa [ha] at this
      clear ha
      go_enter Try.func4, Try.ntmps4
      go_wp2_with fail
      refine (A _).mono ?_
      rintro e w' ⟨rfl, hb⟩
      go_wp2_with fail
      refine (B _).mono ?_
      rintro e w' ⟨rfl, rfl⟩
      go_wp2_with fail
      refine (C _).mono ?_
      rintro e w1 ⟨rfl, hb1⟩
      go_wp2_with fail
      refine (awake_calls _).mono ?_
      rintro e w2 ⟨rfl, hb2⟩
      go_wp2
      go_ret
      exact ⟨rfl, below_on (below_on hb hb1) hb2⟩
  · go_enter Try.func4, Try.ntmps4
    go_wp2_with fail
    refine (awake_calls _).mono ?_
    rintro e w1 ⟨rfl, hb2⟩
    go_wp2
    go_ret
    exact ⟨rfl, hb2⟩

theorem own : ownKnob Try.prog.godebug = none := by kernel_rfl
theorem laidOut : laidOutB Try.prog = true := by kernel_rfl

set_option maxRecDepth 100000 in
theorem lifted (os : Os) (started : os.Started) (H : Type) (enc : TypeId × Value → H) :
    ReturnsInHanded {} Try.checked os 4 .any (Rows.codepointParsesSpec.pre6 enc Try.prog Try.f4 Rows.codepointParsesRow.domain false) (Rows.codepointParsesSpec.post enc Try.prog Try.f4 false true false false) := by
  refine returnsInHanded_of_change (C := Try.checked) own started (by kernel_rfl) Try.func4
    (ChangeSpec.witness6 (enc := enc) (C := Try.checked) false ⟨#[], #[.string ByteArray.empty], []⟩ 8 (by kernel_rfl) (by kernel_rfl) (by kernel_rfl) (by kernel_rfl)) ?_
  intro W base args ds gs before hval0 hW hcnd _
  have hval : ∀ (j : Nat) t v, Try.f4.params[j]? = some t → args[j]? = some v → Value.okWide Try.prog W .any base t v := hval0
  have hW' := hW
  obtain ⟨p, q, hA0, hV, rfl, hfz, hnd⟩ := hW
  have hA : DataW.TrodAll enc Try.prog W 0 (fun _ => true) true Try.f4.params.toList args.toList ds p := hA0
  rw [Try.params4] at hA hval
  obtain ⟨v0, vs0, d0, ds0, p0, q0, hargs, rfl, rfl, h0, r0⟩ := trodAll_cons hA
  obtain ⟨rfl, rfl, rfl⟩ := trodAll_nil r0
  obtain rfl : args = #[v0] := by cases args; simp_all
  obtain ⟨rfl, rfl⟩ := trodVars_none hV
  obtain ⟨a0, rfl, rfl, rfl, w0⟩ := open_string Try.underlying9 (hval 0 9 v0 rfl rfl) h0
  clear hA0 hval0
  refine (codepointParses_walk W a0 w0).mono fun e W' ⟨he, bel⟩ => ?_
  subst he
  exact ⟨_, rfl, _, _, _, [], _, [], hW', trodAll_mk1 (shut_bool Try.underlying4 _), (trodAll_cons_mk (shut_string Try.underlying9 w0) trodAll_mk0), rfl, bel.frame _, fun h => by cases h⟩

theorem over : Rows.codepointParsesRow.holds Try.pinned (OpenSpec.ofChange Rows.codepointParsesSpec) :=
  OpenClaim.holds_of_wide 4 Try.f4 rfl rfl rfl rfl rfl rfl rfl ⟨rfl, rfl, rfl, rfl, rfl⟩ rfl rfl rfl rfl rfl (by kernel_rfl) Try.func4 (by kernel_rfl)
    (of_decide_eq_true (by kernel_rfl)) (by unfold Func.isWrapper; first | (rw [if_pos (by decide +kernel)]; kernel_rfl) | (rw [if_neg (by decide +kernel)]; exact ⟨rfl, rfl⟩))
    (fun os started H enc _ => lifted os started H enc)

end Go.Proofs.Ytkokfinmolkehaa.codepointParses
namespace Go.Proofs.Ytkokfinmolkehaa
/-- CodepointParses returns true for every string, and its argument reads behind the call as before. No condition beyond the row's own. -/
theorem codepointParses_holds : Rows.CodepointParsesSaid := codepointParses.over
#print axioms codepointParses_holds
end Go.Proofs.Ytkokfinmolkehaa
