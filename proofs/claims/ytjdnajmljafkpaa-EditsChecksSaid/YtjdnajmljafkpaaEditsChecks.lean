/- EditsChecks returns true for every edit and every size, and its arguments read behind the call as before; no condition beyond the row's own. -/
import Derived.Test.YtjdnajmljafkpaaRows
import Derived.Test.YtjdnajmljafkpaaFrame
import Derived.Test.YtjdnajmljafkpaaEdK
import Derived.Deep.RegionWith
namespace Go.Proofs.Ytjdnajmljafkpaa.editsChecks
open Go.ChangeShapes Go.WideShapes Go.ChangeAt Go.RowKit Go.Deep
open Go.ChangeMaps (open_string shut_string)
set_option linter.unusedVariables false
set_option linter.unusedSimpArgs false

set_option maxHeartbeats 4000000 in
theorem editsChecks_walk (w : World) (a d : Int) (A : Option Addr) (c : Nat) (xs : List Int) (wa : (Lit.int .i64 a).wf = true) (wd : (Lit.int .i64 d).wf = true) (hr : InRow w A c xs) (s : Int) (ws : (Lit.int .i64 s).wf = true) :
    Calls Try.prog 3 #[.agg #[.int .i64 a, .int .i64 d, .slice A xs.length c], .int .i64 s] w fun e w' => e = .returned (.bool true) ∧ Below w.heap.size w w' := by
  have ba := bounds_i64 wa
  have bs := bounds_i64 ws
  obtain ⟨hr1, hr2, hr3, _⟩ := hr
  have hl : xs.length ≤ 9223372036854775807 := by unfold maxLen at hr3; omega
  clear wa wd ws hr3
  obtain ⟨w1, HW, hb0, hz0, ⟨p0, p1, p2⟩, _⟩ := new_block w (.int .i64 a) (.int .i64 d) (.slice A xs.length c) 24
  go_enter Try.func3, Try.ntmps3
  go_wp2_with fail
  rw [show w.alloc (.cells #[.int .i64 a, .int .i64 d, .slice A xs.length c] 24) = w1 from HW.out.symm]
  by_cases h : xs.length ≤ 40
  · have HS := Lib.hid (decide_eq_true h)
    have e1 : (chk a d s == chk a d s) = true := by simp
    go_region_held3 (fun w' => w'.cell? ⟨w.heap.size, 0, none⟩ = some (.int .i64 a) ∧ w'.cell? ⟨w.heap.size, 1, none⟩ = some (.int .i64 d) ∧ w'.cell? ⟨w.heap.size, 2, none⟩ = some (.slice A xs.length c))
      (first | exact ⟨p0, p1, p2⟩ | exact ⟨q0, q1, q2⟩ | exact ⟨r0, r1, r2⟩ | exact ⟨s0, s1, s2⟩ | exact ⟨t0, t1, t2⟩)
      (first
        | ((go_at_call 12; refine (small_calls a d A xs.length c _ hl).mono ?_; rintro e w2 ⟨rfl, hb2⟩; rw [HS.out]; have q0 := cell_keep hb2 p0; have q1 := cell_keep hb2 p1; have q2 := cell_keep hb2 p2))
        | ((go_at_call 13; refine (check_calls a d s _ _ ba.1 bs.2).mono ?_; rintro e w3 ⟨rfl, hb3⟩; have r0 := cell_keep hb3 q0; have r1 := cell_keep hb3 q1; have r2 := cell_keep hb3 q2))
        | ((go_at_call 14; refine (rcheck_calls a d s _ _ ba.1 bs.2).mono ?_; rintro e w4 ⟨rfl, hb4⟩; have s0 := cell_keep hb4 r0; have s1 := cell_keep hb4 r1; have s2 := cell_keep hb4 r2))
        | ((go_at_call 15; refine (alive_calls _).mono ?_; rintro e w5 ⟨rfl, hb5⟩; have t0 := cell_keep hb5 s0; have t1 := cell_keep hb5 s1; have t2 := cell_keep hb5 s2)))
    go_wp2
    go_ret
    exact ⟨rfl, below_on (below_on (below_on (below_on hb0.drew hb2) hb3) hb4) hb5⟩
  · have HS := Lib.hid (decide_eq_false h)
    have hb0' := hb0.drew
    first | (go_region_with (first
        | (go_at_call 12; refine (small_calls a d A xs.length c _ hl).mono ?_; rintro e w2 ⟨rfl, hb2⟩; rw [HS.out])
        | (go_at_call 15; refine (alive_calls _).mono ?_; rintro e w5 ⟨rfl, hb5⟩; have hb6 := below_on (below_on hb0' hb2) hb5))) | fail
    all_goals
      go_wp2
      go_ret
      exact ⟨rfl, hb6⟩

theorem own : ownKnob Try.prog.godebug = none := by kernel_rfl
theorem laidOut : laidOutB Try.prog = true := by kernel_rfl

set_option maxRecDepth 100000 in
theorem lifted (os : Os) (started : os.Started) (H : Type) (enc : TypeId × Value → H) :
    ReturnsInHanded {} Try.checked os 3 .any (Rows.editsChecksSpec.pre6 enc Try.prog Try.f3 Rows.editsChecksRow.domain false) (Rows.editsChecksSpec.post enc Try.prog Try.f3 false true false false) := by
  refine returnsInHanded_of_change (C := Try.checked) own started (by kernel_rfl) Try.func3
    (ChangeSpec.witness6 (enc := enc) (C := Try.checked) false ⟨#[], #[.agg #[.int .i64 0, .int .i64 0, .slice none 0 0], .int .i64 0], []⟩ 8 (by kernel_rfl) (by kernel_rfl) (by kernel_rfl) (by kernel_rfl)) ?_
  intro W base args ds gs before hval0 hW hcnd _
  have hval : ∀ (j : Nat) t v, Try.f3.params[j]? = some t → args[j]? = some v → Value.okWide Try.prog W .any base t v := hval0
  have hW' := hW
  obtain ⟨p, q, hA0, hV, rfl, hfz, hnd⟩ := hW
  have hA : DataW.TrodAll enc Try.prog W 0 (fun _ => true) true Try.f3.params.toList args.toList ds p := hA0
  rw [Try.params3] at hA hval
  obtain ⟨v0, vs0, d0, ds0, p0, q0, hargs, rfl, rfl, h0, r0⟩ := trodAll_cons hA
  obtain ⟨v1, vs1, d1, ds1, p1, q1, rfl, rfl, rfl, h1, r1⟩ := trodAll_cons r0
  obtain ⟨rfl, rfl, rfl⟩ := trodAll_nil r1
  obtain rfl : args = #[v0, v1] := by cases args; simp_all
  obtain ⟨rfl, rfl⟩ := trodVars_none hV
  have k0 := h0
  have lt0 := InRow.trod_lt k0
  obtain ⟨a0, b0, A0, c0, x0, rfl, wa0, wb0, w0⟩ := open_edit (ti := 3) (ts := 22) Try.underlying24 (by kernel_rfl) (by kernel_rfl) rfl rfl rfl Try.underlying3 Try.underlying22 (by kernel_rfl) (hval 0 24 v0 rfl rfl) h0
  obtain ⟨a1, rfl, rfl, rfl, w1⟩ := open_int Try.underlying3 (hval 1 3 v1 rfl rfl) h1
  clear hA0 hval0
  refine (editsChecks_walk W a0 b0 A0 c0 x0 wa0 wb0 w0 a1 w1).mono fun e W' ⟨he, bel⟩ => ?_
  subst he
  exact ⟨_, rfl, _, _, _, [], _, [], hW', trodAll_mk1 (shut_bool Try.underlying4 _), (trodAll_cons_mk (Below.trod laidOut (by kernel_rfl) (of_decide_eq_true (by kernel_rfl)) k0 bel lt0) (trodAll_cons_mk (shut_int Try.underlying3 w1) trodAll_mk0)), rfl, bel.frame _, fun h => by cases h⟩

theorem over : Rows.editsChecksRow.holds Try.pinned (OpenSpec.ofChange Rows.editsChecksSpec) :=
  OpenClaim.holds_of_wide 3 Try.f3 rfl rfl rfl rfl rfl rfl rfl ⟨rfl, rfl, rfl, rfl, rfl⟩ rfl rfl rfl rfl rfl (by kernel_rfl) Try.func3 (by kernel_rfl)
    (of_decide_eq_true (by kernel_rfl)) (by unfold Func.isWrapper; first | (rw [if_pos (by decide +kernel)]; kernel_rfl) | (rw [if_neg (by decide +kernel)]; exact ⟨rfl, rfl⟩))
    (fun os started H enc _ => lifted os started H enc)

end Go.Proofs.Ytjdnajmljafkpaa.editsChecks
namespace Go.Proofs.Ytjdnajmljafkpaa
/-- EditsChecks returns true for every edit and every size, and its arguments read behind the call as before; no condition beyond the row's own. -/
theorem editsChecks_holds : Rows.EditsChecksSaid := editsChecks.over
#print axioms editsChecks_holds
end Go.Proofs.Ytjdnajmljafkpaa
