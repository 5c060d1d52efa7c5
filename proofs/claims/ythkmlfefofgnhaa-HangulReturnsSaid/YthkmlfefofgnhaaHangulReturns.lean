/- HangulReturns returns true for every number. No condition beyond the row's own. -/
import Derived.Test.YthkmlfefofgnhaaRows
import Derived.Test.YthkmlfefofgnhaaFrame
import Derived.Test.YthkmlfefofgnhaaHgAwake
import Derived.Test.YthkmlfefofgnhaaHgLaw
import Derived.Deep.RegionWith
namespace Go.Proofs.Ythkmlfefofgnhaa.hangulReturns
open Go.ChangeShapes Go.WideShapes Go.ChangeAt Go.RowKit Go.Deep
open Go.ChangeMaps (open_string shut_string)
set_option linter.unusedVariables false
set_option linter.unusedSimpArgs false

set_option maxHeartbeats 2000000 in
theorem hangulReturns_walk (w : World) (c : Int) (wc : (Lit.int .i64 c).wf = true) :
    Calls Try.prog 6 #[.int .i64 c] w fun e w' => e = .returned (.bool true) ∧ Below w.heap.size w w' := by
  have bc := bounds_i64 wc
  clear wc
  have KR := fun w => kindR_calls c w bc
  by_cases h1 : kind c < 4
  · obtain ⟨k, hk⟩ : ∃ k, k = kind c := ⟨_, rfl⟩
    rw [← hk] at KR h1
    clear hk
    go_enter Try.func6, Try.ntmps6
    go_wp2_with fail
    refine (KR _).mono ?_
    rintro e w1 ⟨rfl, rfl⟩
    go_wp2_with fail
    refine (awake_calls _).mono ?_
    rintro e w9 ⟨rfl, hb9⟩
    go_wp2_with fail
    go_ret
    exact ⟨ret_bool rfl, hb9⟩
  · by_cases h2 : kind c = 4
    · have D := fun w => dec_calls c w bc
      unfold DecOut at D
      have g := kind_4 h2
      obtain ⟨x, hx⟩ : ∃ x, x = 4352 + (c - 44032) / 28 / 21 := ⟨_, rfl⟩
      obtain ⟨y, hy⟩ : ∃ y, y = 4449 + (c - 44032) / 28 % 21 := ⟨_, rfl⟩
      rw [decl_two h2, ← hx, ← hy] at D
      rw [h2] at KR
      simp only [List.length_cons, List.length_nil, Nat.zero_add, Nat.reduceAdd] at D
      have k1 := comp_12 (kind_of_1 (c := x) (by omega) (by omega)) (kind_of_2 (c := y) (by omega) (by omega))
      rw [show 44032 + ((x - 4352) * 21 + y - 4449) * 28 = c by omega] at k1
      have C1 := fun w => compose_calls x y w (by omega) (by omega)
      rw [k1.1, k1.2] at C1
      clear k1 hx hy h1 h2 g
      go_enter Try.func6, Try.ntmps6
      go_wp2_with fail
      refine (KR _).mono ?_
      rintro e w1 ⟨rfl, rfl⟩
      go_wp2_with fail
      refine (D _).mono ?_
      rintro e w2 ⟨A, k, rfl, hr, hb2⟩
      obtain ⟨a, rfl, c0'⟩ := hr.at_ (k := 0) (by simp)
      have c0 : w2.cell? a = some (.int .i64 x) := c0'
      obtain ⟨a', ea, c1'⟩ := hr.at_ (k := 1) (by simp)
      injection ea with ea
      subst ea
      have c1 : w2.cell? ⟨a.block, a.off + 1, none⟩ = some (.int .i64 y) := c1'
      clear c1'
      clear c0' hr
      go_wp2_with fail
      go_region_with (go_at_call 16; refine (C1 _).mono ?_; rintro e w3 ⟨rfl, hb3⟩; replace hb3 := below_undrew hb3; have hB3 := below_then' hb2 hb2.size hb3)
      all_goals (
        go_wp2_with fail
        refine (awake_calls _).mono ?_
        rintro e w9 ⟨rfl, hb9⟩
        go_wp2_with fail
        go_ret
        exact ⟨ret_bool rfl, below_then' hB3 hB3.size hb9⟩)
    · have D := fun w => dec_calls c w bc
      unfold DecOut at D
      have h3 : kind c = 5 := by have := kind_range c; omega
      have g := kind_5 h3
      obtain ⟨x, hx⟩ : ∃ x, x = 4352 + (c - 44032) / 28 / 21 := ⟨_, rfl⟩
      obtain ⟨y, hy⟩ : ∃ y, y = 4449 + (c - 44032) / 28 % 21 := ⟨_, rfl⟩
      obtain ⟨z, hz⟩ : ∃ z, z = 4520 + (c - 44032) % 28 - 1 := ⟨_, rfl⟩
      rw [decl_three h3, ← hx, ← hy, ← hz] at D
      rw [h3] at KR
      simp only [List.length_cons, List.length_nil, Nat.zero_add, Nat.reduceAdd] at D
      obtain ⟨s, hs⟩ : ∃ s, s = 44032 + ((x - 4352) * 21 + y - 4449) * 28 := ⟨_, rfl⟩
      have k1 := comp_12 (kind_of_1 (c := x) (by omega) (by omega)) (kind_of_2 (c := y) (by omega) (by omega))
      rw [← hs] at k1
      have k2 := comp_43 (kind_of_4 (c := s) (by omega) (by omega) (by omega)) (kind_of_3 (c := z) (by omega) (by omega))
      rw [show s + z - 4520 + 1 = c by omega] at k2
      have C1 := fun w => compose_calls x y w (by omega) (by omega)
      rw [k1.1, k1.2] at C1
      have C2 := fun w => compose_calls s z w (by omega) (by omega)
      rw [k2.1, k2.2] at C2
      clear k1 k2 hx hy hz hs h1 h2 h3 g
      go_enter Try.func6, Try.ntmps6
      go_wp2_with fail
      refine (KR _).mono ?_
      rintro e w1 ⟨rfl, rfl⟩
      go_wp2_with fail
      refine (D _).mono ?_
      rintro e w2 ⟨A, k, rfl, hr, hb2⟩
      obtain ⟨a, rfl, c0'⟩ := hr.at_ (k := 0) (by simp)
      have c0 : w2.cell? a = some (.int .i64 x) := c0'
      obtain ⟨a', ea, c1'⟩ := hr.at_ (k := 1) (by simp)
      injection ea with ea
      subst ea
      have c1 : w2.cell? ⟨a.block, a.off + 1, none⟩ = some (.int .i64 y) := c1'
      clear c1'
      obtain ⟨a', ea, c2'⟩ := hr.at_ (k := 2) (by simp)
      injection ea with ea
      subst ea
      have c2 : w2.cell? ⟨a.block, a.off + 2, none⟩ = some (.int .i64 z) := c2'
      clear c2'
      clear c0' hr
      go_wp2_with fail
      go_region_with (go_at_call 16; refine (C1 _).mono ?_; rintro e w3 ⟨rfl, hb3⟩; replace hb3 := below_undrew hb3; have hB3 := below_then' hb2 hb2.size hb3)
      all_goals (
        have c3 := cell_keep hb3 c2
        go_wp2_with fail
        refine (C2 _).mono ?_
        rintro e w4 ⟨rfl, hb4⟩
        have hB4 := below_then' hB3 hB3.size hb4
        go_wp2_with fail
        refine (awake_calls _).mono ?_
        rintro e w9 ⟨rfl, hb9⟩
        go_wp2_with fail
        go_ret
        exact ⟨ret_bool rfl, below_then' hB4 hB4.size hb9⟩)

theorem own : ownKnob Try.prog.godebug = none := by kernel_rfl
theorem laidOut : laidOutB Try.prog = true := by kernel_rfl

set_option maxRecDepth 100000 in
theorem lifted (os : Os) (started : os.Started) (H : Type) (enc : TypeId × Value → H) :
    ReturnsInHanded {} Try.checked os 6 .any (Rows.hangulReturnsSpec.pre6 enc Try.prog Try.f6 Rows.hangulReturnsRow.domain false) (Rows.hangulReturnsSpec.post enc Try.prog Try.f6 false true false false) := by
  refine returnsInHanded_of_change (C := Try.checked) own started (by kernel_rfl) Try.func6
    (ChangeSpec.witness6 (enc := enc) (C := Try.checked) false ⟨#[], #[.int .i64 0], []⟩ 8 (by kernel_rfl) (by kernel_rfl) (by kernel_rfl) (by kernel_rfl)) ?_
  intro W base args ds gs before hval0 hW hcnd _
  have hval : ∀ (j : Nat) t v, Try.f6.params[j]? = some t → args[j]? = some v → Value.okWide Try.prog W .any base t v := hval0
  have hW' := hW
  obtain ⟨p, q, hA0, hV, rfl, hfz, hnd⟩ := hW
  have hA : DataW.TrodAll enc Try.prog W 0 (fun _ => true) true Try.f6.params.toList args.toList ds p := hA0
  rw [Try.params6] at hA hval
  obtain ⟨v0, vs0, d0, ds0, p0, q0, hargs, rfl, rfl, h0, r0⟩ := trodAll_cons hA
  obtain ⟨rfl, rfl, rfl⟩ := trodAll_nil r0
  obtain rfl : args = #[v0] := by cases args; simp_all
  obtain ⟨rfl, rfl⟩ := trodVars_none hV
  obtain ⟨a0, rfl, rfl, rfl, w0⟩ := open_int Try.underlying3 (hval 0 3 v0 rfl rfl) h0
  clear hA0 hval0
  refine (hangulReturns_walk W a0 w0).mono fun e W' ⟨he, bel⟩ => ?_
  subst he
  exact ⟨_, rfl, _, _, _, [], _, [], hW', trodAll_mk1 (shut_bool Try.underlying4 _), (trodAll_cons_mk (shut_int Try.underlying3 w0) trodAll_mk0), rfl, bel.frame _, fun h => by cases h⟩

theorem over : Rows.hangulReturnsRow.holds Try.pinned (OpenSpec.ofChange Rows.hangulReturnsSpec) :=
  OpenClaim.holds_of_wide 6 Try.f6 rfl rfl rfl rfl rfl rfl rfl ⟨rfl, rfl, rfl, rfl, rfl⟩ rfl rfl rfl rfl rfl (by kernel_rfl) Try.func6 (by kernel_rfl)
    (of_decide_eq_true (by kernel_rfl)) (by unfold Func.isWrapper; first | (rw [if_pos (by decide +kernel)]; kernel_rfl) | (rw [if_neg (by decide +kernel)]; exact ⟨rfl, rfl⟩))
    (fun os started H enc _ => lifted os started H enc)

end Go.Proofs.Ythkmlfefofgnhaa.hangulReturns
namespace Go.Proofs.Ythkmlfefofgnhaa
/-- HangulReturns returns true for every number. No condition beyond the row's own. -/
theorem hangulReturns_holds : Rows.HangulReturnsSaid := hangulReturns.over
#print axioms hangulReturns_holds
end Go.Proofs.Ythkmlfefofgnhaa
