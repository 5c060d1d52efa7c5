/- HangulNumbers returns true for all numbers of parts. No condition beyond the row's own. -/
import Derived.Test.YthkmlfefofgnhaaRows
import Derived.Test.YthkmlfefofgnhaaFrame
import Derived.Test.YthkmlfefofgnhaaHgAwake
import Derived.Test.YthkmlfefofgnhaaHgLaw
namespace Go.Proofs.Ythkmlfefofgnhaa.hangulNumbers
open Go.ChangeShapes Go.WideShapes Go.ChangeAt Go.RowKit Go.Deep
open Go.ChangeMaps (open_string shut_string)
set_option linter.unusedVariables false
set_option linter.unusedSimpArgs false

theorem hangulNumbers_walk (w : World) (p : Int) (wp : (Lit.int .u8 p).wf = true) (q : Int) (wq : (Lit.int .u8 q).wf = true) (r : Int) (wr : (Lit.int .u8 r).wf = true) :
    Calls Try.prog 9 #[.int .u8 p, .int .u8 q, .int .u8 r] w fun e w' => e = .returned (.bool true) ∧ Below w.heap.size w w' := by
  have bp : 0 ≤ p ∧ p ≤ 255 := by simp [Lit.wf, IntKind.min, IntKind.max, IntKind.signed, IntKind.bits] at wp; omega
  have bq : 0 ≤ q ∧ q ≤ 255 := by simp [Lit.wf, IntKind.min, IntKind.max, IntKind.signed, IntKind.bits] at wq; omega
  have br : 0 ≤ r ∧ r ≤ 255 := by simp [Lit.wf, IntKind.min, IntKind.max, IntKind.signed, IntKind.bits] at wr; omega
  clear wp wq wr
  have hl0 : 0 ≤ p % 19 ∧ p % 19 ≤ 18 := by omega
  have hv0 : 0 ≤ q % 21 ∧ q % 21 ≤ 20 := by omega
  have ht0 : 0 ≤ r % 27 ∧ r % 27 ≤ 26 := by omega
  go_enter Try.func9, Try.ntmps9
  go_wp2_with fail
  obtain ⟨l, hl⟩ : ∃ l, l = p % 19 := ⟨_, rfl⟩
  obtain ⟨v, hv⟩ : ∃ v, v = q % 21 := ⟨_, rfl⟩
  obtain ⟨t, ht⟩ : ∃ t, t = r % 27 := ⟨_, rfl⟩
  rw [← hl] at hl0 ⊢
  rw [← hv] at hv0 ⊢
  rw [← ht] at ht0 ⊢
  clear hl hv ht
  obtain ⟨x, hx⟩ : ∃ x, x = 44032 + (21 * l + v) * 28 := ⟨_, rfl⟩
  obtain ⟨y, hy⟩ : ∃ y, y = x + 1 + t := ⟨_, rfl⟩
  have k1 := comp_12 (kind_of_1 (c := 4352 + l) (by omega) (by omega)) (kind_of_2 (c := 4449 + v) (by omega) (by omega))
  have k2 := comp_43 (kind_of_4 (c := x) (by omega) (by omega) (by omega)) (kind_of_3 (c := 4520 + t) (by omega) (by omega))
  rw [show 44032 + ((4352 + l - 4352) * 21 + (4449 + v) - 4449) * 28 = x by omega] at k1
  rw [show x + (4520 + t) - 4520 + 1 = y by omega] at k2
  have C1 := compose_calls (4352 + l) (4449 + v) w (by omega) (by omega)
  have C2 := fun w => compose_calls x (4520 + t) w (by omega) (by omega)
  rw [k1.1, k1.2] at C1
  rw [k2.1, k2.2] at C2
  have K1 := fun w => kind_calls x w (by omega)
  have K2 := fun w => kind_calls y w (by omega)
  rw [kind_of_4 (c := x) (by omega) (by omega) (by omega)] at K1
  rw [kind_of_5 (c := y) (by omega) (by omega) (by omega)] at K2
  have t1 : (x == 44032 + (21 * l + v) * 28) = true := by rw [beq_iff_eq]; exact hx
  have t2 : (y == x + 1 + t) = true := by rw [beq_iff_eq]; exact hy
  have hx0 : 44032 ≤ x ∧ x ≤ 55203 := by omega
  clear k1 k2 hx hy
  refine C1.mono ?_
  rintro e w1 ⟨rfl, hb1⟩
  go_wp2_with fail
  refine (C2 _).mono ?_
  rintro e w2 ⟨rfl, hb2⟩
  have hB2 := below_then' hb1 hb1.size hb2
  go_wp2_with fail
  refine (K1 _).mono ?_
  rintro e w3 ⟨rfl, hb3⟩
  have hB3 := below_then' hB2 hB2.size hb3
  go_wp2_with fail
  refine (K2 _).mono ?_
  rintro e w4 ⟨rfl, hb4⟩
  have hB4 := below_then' hB3 hB3.size hb4
  go_wp2_with fail
  refine (awake_calls _).mono ?_
  rintro e w9 ⟨rfl, hb9⟩
  go_wp2_with fail
  go_ret
  exact ⟨ret_bool rfl, below_then' hB4 hB4.size hb9⟩

theorem own : ownKnob Try.prog.godebug = none := by kernel_rfl
theorem laidOut : laidOutB Try.prog = true := by kernel_rfl

set_option maxRecDepth 100000 in
theorem lifted (os : Os) (started : os.Started) (H : Type) (enc : TypeId × Value → H) :
    ReturnsInHanded {} Try.checked os 9 .any (Rows.hangulNumbersSpec.pre6 enc Try.prog Try.f9 Rows.hangulNumbersRow.domain false) (Rows.hangulNumbersSpec.post enc Try.prog Try.f9 false true false false) := by
  refine returnsInHanded_of_change (C := Try.checked) own started (by kernel_rfl) Try.func9
    (ChangeSpec.witness6 (enc := enc) (C := Try.checked) false ⟨#[], #[.int .u8 0, .int .u8 0, .int .u8 0], []⟩ 8 (by kernel_rfl) (by kernel_rfl) (by kernel_rfl) (by kernel_rfl)) ?_
  intro W base args ds gs before hval0 hW hcnd _
  have hval : ∀ (j : Nat) t v, Try.f9.params[j]? = some t → args[j]? = some v → Value.okWide Try.prog W .any base t v := hval0
  have hW' := hW
  obtain ⟨p, q, hA0, hV, rfl, hfz, hnd⟩ := hW
  have hA : DataW.TrodAll enc Try.prog W 0 (fun _ => true) true Try.f9.params.toList args.toList ds p := hA0
  rw [Try.params9] at hA hval
  obtain ⟨v0, vs0, d0, ds0, p0, q0, hargs, rfl, rfl, h0, r0⟩ := trodAll_cons hA
  obtain ⟨v1, vs1, d1, ds1, p1, q1, rfl, rfl, rfl, h1, r1⟩ := trodAll_cons r0
  obtain ⟨v2, vs2, d2, ds2, p2, q2, rfl, rfl, rfl, h2, r2⟩ := trodAll_cons r1
  obtain ⟨rfl, rfl, rfl⟩ := trodAll_nil r2
  obtain rfl : args = #[v0, v1, v2] := by cases args; simp_all
  obtain ⟨rfl, rfl⟩ := trodVars_none hV
  obtain ⟨a0, rfl, rfl, rfl, w0⟩ := open_int Try.underlying5 (hval 0 5 v0 rfl rfl) h0
  obtain ⟨a1, rfl, rfl, rfl, w1⟩ := open_int Try.underlying5 (hval 1 5 v1 rfl rfl) h1
  obtain ⟨a2, rfl, rfl, rfl, w2⟩ := open_int Try.underlying5 (hval 2 5 v2 rfl rfl) h2
  clear hA0 hval0
  refine (hangulNumbers_walk W a0 w0 a1 w1 a2 w2).mono fun e W' ⟨he, bel⟩ => ?_
  subst he
  exact ⟨_, rfl, _, _, _, [], _, [], hW', trodAll_mk1 (shut_bool Try.underlying4 _), (trodAll_cons_mk (shut_int Try.underlying5 w0) (trodAll_cons_mk (shut_int Try.underlying5 w1) (trodAll_cons_mk (shut_int Try.underlying5 w2) trodAll_mk0))), rfl, bel.frame _, fun h => by cases h⟩

theorem over : Rows.hangulNumbersRow.holds Try.pinned (OpenSpec.ofChange Rows.hangulNumbersSpec) :=
  OpenClaim.holds_of_wide 9 Try.f9 rfl rfl rfl rfl rfl rfl rfl ⟨rfl, rfl, rfl, rfl, rfl⟩ rfl rfl rfl rfl rfl (by kernel_rfl) Try.func9 (by kernel_rfl)
    (of_decide_eq_true (by kernel_rfl)) (by unfold Func.isWrapper; first | (rw [if_pos (by decide +kernel)]; kernel_rfl) | (rw [if_neg (by decide +kernel)]; exact ⟨rfl, rfl⟩))
    (fun os started H enc _ => lifted os started H enc)

end Go.Proofs.Ythkmlfefofgnhaa.hangulNumbers
namespace Go.Proofs.Ythkmlfefofgnhaa
/-- HangulNumbers returns true for all numbers of parts. No condition beyond the row's own. -/
theorem hangulNumbers_holds : Rows.HangulNumbersSaid := hangulNumbers.over
#print axioms hangulNumbers_holds
end Go.Proofs.Ythkmlfefofgnhaa
