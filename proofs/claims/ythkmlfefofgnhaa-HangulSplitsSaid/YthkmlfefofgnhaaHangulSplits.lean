/- HangulSplits returns true for every text, and its argument reads behind the call as before. No condition beyond the row's own. -/
import Derived.Test.YthkmlfefofgnhaaRows
import Derived.Test.YthkmlfefofgnhaaFrame
import Derived.Test.YthkmlfefofgnhaaHgAwake
import Derived.Test.YthkmlfefofgnhaaHgLaw
import Derived.Deep.QuietTactic
import Derived.BigQuiet
namespace Go.Proofs.Ythkmlfefofgnhaa.hangulSplits
open Go.ChangeShapes Go.WideShapes Go.ChangeAt Go.RowKit Go.Deep
open Go.ChangeMaps (open_string shut_string)
set_option linter.unusedVariables false
set_option linter.unusedSimpArgs false

set_option maxHeartbeats 2000000 in
theorem hangulSplits_walk (w : World) (A : Option Addr) (c : Nat) (xs : List Int) (hx : InRow w A c xs) :
    Calls Try.prog 5 #[.slice A xs.length c] w fun e w' => e = .returned (.bool true) ∧ Below w.heap.size w w' := by
  obtain ⟨hxr, hxc, hxm, hxs⟩ := hx
  have hs := small_of hxs
  clear hxs hxm
  by_cases h1 : xs.length ≤ 500
  · have L := split_calls A c xs w hxr hs hxc (by omega)
    have R := fun w1 (hb : Below w.heap.size w w1) => rsplit_calls A c xs w1 (hxr.below hb) hs hxc (by omega)
    have hlen := (runs_bound xs xs.length (Nat.le_refl _)).2
    obtain ⟨ps, hps⟩ : ∃ ps, ps = (runs xs xs.length).1 := ⟨_, rfl⟩
    rw [← hps] at L R hlen
    clear hps hs
    go_enter Try.func5, Try.ntmps5
    go_wp2_with fail
    refine L.mono ?_
    rintro e w1 ⟨⟨v1, rfl, ho1⟩, hb1⟩
    obtain ⟨B, k1, rfl, hr1⟩ := RdP.of ho1
    clear ho1
    go_wp2_with fail
    refine (R _ hb1).mono ?_
    rintro e w2 ⟨⟨v2, rfl, ho2⟩, hb2⟩
    obtain ⟨C, k2, rfl, hr2⟩ := RdP.of ho2
    clear ho2 L R
    replace hr1 := hr1.below hb2
    have hB2 := below_then' hb1 hb1.size hb2
    go_wp2_with fail
    go_loopw [5] (fun i wr => ∃ k : Nat, k ≤ ps.length ∧ i = .int .i64 k ∧ Drawn w2 wr) (fun i _ => ps.length - (intOf i).toNat)
    case atStart => exact ⟨0, Nat.zero_le _, rfl, Drawn.refl _⟩
    case round =>
      obtain ⟨k, hk, rfl, ⟨m, rfl⟩⟩ := hrel
      by_cases hgo : k < ps.length
      · obtain ⟨g, rfl, hg, hcg⟩ := hr1 (by omega)
        obtain ⟨g', rfl, hg', hcg'⟩ := hr2 (by omega)
        have q0 := (hcg k hgo).1
        have q1 := (hcg k hgo).2
        have q2 := (hcg' k hgo).1
        have q3 := (hcg' k hgo).2
        obtain ⟨lo, hlo⟩ : ∃ lo : Nat, lo = (ps.getD k (0, 0)).1 := ⟨_, rfl⟩
        obtain ⟨hi, hhi⟩ : ∃ hi : Nat, hi = (ps.getD k (0, 0)).2 := ⟨_, rfl⟩
        rw [← hlo] at q0 q2
        rw [← hhi] at q1 q3
        clear hlo hhi hcg hcg'
        go_wp2_with fail
        go_quiet (fail)
        go_wp2
        go_roundw
        case rel => exact ⟨k + 1, by omega, by go_num, by repeat (first | exact Drawn.refl _ | refine Drawn.step ?_ _)⟩
        case measure => simp [intOf]; omega
      · go_wp2_with fail
        refine (awake_calls _).mono ?_
        rintro e w9 ⟨rfl, hb9⟩
        go_wp2_with fail
        go_ret
        exact ⟨ret_bool rfl, below_then' hB2 hB2.size (below_then' (below_drewN' (Below.refl _ w2) m) (Nat.le_refl _) hb9)⟩
  · have h2 : 500 < xs.length := by omega
    clear h1
    go_enter Try.func5, Try.ntmps5
    go_wp2_with fail
    refine (awake_calls _).mono ?_
    rintro e w9 ⟨rfl, hb9⟩
    go_wp2_with fail
    go_ret
    exact ⟨ret_bool rfl, hb9⟩

theorem own : ownKnob Try.prog.godebug = none := by kernel_rfl
theorem laidOut : laidOutB Try.prog = true := by kernel_rfl

set_option maxRecDepth 100000 in
theorem lifted (os : Os) (started : os.Started) (H : Type) (enc : TypeId × Value → H) :
    ReturnsInHanded {} Try.checked os 5 .any (Rows.hangulSplitsSpec.pre6 enc Try.prog Try.f5 Rows.hangulSplitsRow.domain false) (Rows.hangulSplitsSpec.post enc Try.prog Try.f5 false true false false) := by
  refine returnsInHanded_of_change (C := Try.checked) own started (by kernel_rfl) Try.func5
    (ChangeSpec.witness6 (enc := enc) (C := Try.checked) false ⟨#[], #[.slice none 0 0], []⟩ 8 (by kernel_rfl) (by kernel_rfl) (by kernel_rfl) (by kernel_rfl)) ?_
  intro W base args ds gs before hval0 hW hcnd _
  have hval : ∀ (j : Nat) t v, Try.f5.params[j]? = some t → args[j]? = some v → Value.okWide Try.prog W .any base t v := hval0
  have hW' := hW
  obtain ⟨p, q, hA0, hV, rfl, hfz, hnd⟩ := hW
  have hA : DataW.TrodAll enc Try.prog W 0 (fun _ => true) true Try.f5.params.toList args.toList ds p := hA0
  rw [Try.params5] at hA hval
  obtain ⟨v0, vs0, d0, ds0, p0, q0, hargs, rfl, rfl, h0, r0⟩ := trodAll_cons hA
  obtain ⟨rfl, rfl, rfl⟩ := trodAll_nil r0
  obtain rfl : args = #[v0] := by cases args; simp_all
  obtain ⟨rfl, rfl⟩ := trodVars_none hV
  obtain ⟨A0, len0, c0, rfl⟩ := okWide_slice Try.underlying24 (hval 0 24 v0 rfl rfl)
  have k0 := h0
  have lt0 := InRow.trod_lt k0
  obtain ⟨x0, e0, w0⟩ : ∃ xs : List Int, xs.length = len0 ∧ InRow W A0 c0 xs := by
    obtain ⟨fuel, hf⟩ := h0
    exact open_rd Try.underlying24 Try.underlying3 (by kernel_rfl) (by simpa [Value.cells] using hf)
  subst e0
  clear hA0 hval0
  refine (hangulSplits_walk W A0 c0 x0 w0).mono fun e W' ⟨he, bel⟩ => ?_
  subst he
  exact ⟨_, rfl, _, _, _, [], _, [], hW', trodAll_mk1 (shut_bool Try.underlying4 _), (trodAll_cons_mk (Below.trod laidOut (by kernel_rfl) (of_decide_eq_true (by kernel_rfl)) k0 bel lt0) trodAll_mk0), rfl, bel.frame _, fun h => by cases h⟩

theorem over : Rows.hangulSplitsRow.holds Try.pinned (OpenSpec.ofChange Rows.hangulSplitsSpec) :=
  OpenClaim.holds_of_wide 5 Try.f5 rfl rfl rfl rfl rfl rfl rfl ⟨rfl, rfl, rfl, rfl, rfl⟩ rfl rfl rfl rfl rfl (by kernel_rfl) Try.func5 (by kernel_rfl)
    (of_decide_eq_true (by kernel_rfl)) (by unfold Func.isWrapper; first | (rw [if_pos (by decide +kernel)]; kernel_rfl) | (rw [if_neg (by decide +kernel)]; exact ⟨rfl, rfl⟩))
    (fun os started H enc _ => lifted os started H enc)

end Go.Proofs.Ythkmlfefofgnhaa.hangulSplits
namespace Go.Proofs.Ythkmlfefofgnhaa
/-- HangulSplits returns true for every text, and its argument reads behind the call as before. No condition beyond the row's own. -/
theorem hangulSplits_holds : Rows.HangulSplitsSaid := hangulSplits.over
#print axioms hangulSplits_holds
end Go.Proofs.Ythkmlfefofgnhaa
