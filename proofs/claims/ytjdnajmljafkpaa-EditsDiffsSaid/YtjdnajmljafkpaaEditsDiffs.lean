/- EditsDiffs returns true for all pairs of texts, and its arguments read behind the call as before; no condition beyond the row's own. -/
import Derived.Test.YtjdnajmljafkpaaRows
import Derived.Test.YtjdnajmljafkpaaFrame
import Derived.Test.YtjdnajmljafkpaaEdK
import Derived.Test.YtjdnajmljafkpaaEdH
namespace Go.Proofs.Ytjdnajmljafkpaa.editsDiffs
open Go.ChangeShapes Go.WideShapes Go.ChangeAt Go.RowKit Go.Deep
open Go.ChangeMaps (open_string shut_string)
set_option linter.unusedVariables false
set_option linter.unusedSimpArgs false

set_option maxHeartbeats 4000000 in
theorem editsDiffs_walk (w : World) (A : Option Addr) (c : Nat) (xs : List Int) (hx : InRow w A c xs) (B : Option Addr) (b : Nat) (ys : List Int) (hy : InRow w B b ys) :
    Calls Try.prog 4 #[.slice A xs.length c, .slice B ys.length b] w fun e w' => e = .returned (.bool true) ∧ Below w.heap.size w w' := by
  obtain ⟨hx1, hx2, hx3, _⟩ := hx
  obtain ⟨hy1, hy2, hy3, _⟩ := hy
  have hlx : xs.length ≤ 9223372036854775807 := by unfold maxLen at hx3; omega
  have hly : ys.length ≤ 9223372036854775807 := by unfold maxLen at hy3; omega
  clear hx3 hy3
  by_cases h1 : xs.length ≤ 60
  · have H1 := Lib.hid (decide_eq_true h1)
    by_cases h2 : ys.length ≤ 60
    · have H2 := Lib.hid (decide_eq_true h2)
      go_enter Try.func4, Try.ntmps4
      go_wp2_with fail
      refine (few_calls A xs.length c _ hlx).mono ?_
      rintro e w' ⟨rfl, rfl⟩
      rw [H1.out]
      go_wp2_with fail
      refine (few_calls B ys.length b _ hly).mono ?_
      rintro e w' ⟨rfl, rfl⟩
      rw [H2.out]
      go_wp2_with fail
      refine (diff_calls A B c b xs ys _ hx1 hy1 hx2 hy2 (by omega) (by omega)).mono ?_
      rintro e w1 ⟨v, rfl, ⟨A1, c1, rfl, _, _, hr1⟩, hb1⟩
      go_wp2_with fail
      refine (rdiff_calls A B c b xs ys _ (hx1.below hb1) (hy1.below hb1) hx2 hy2 (by omega) (by omega)).mono ?_
      rintro e w2 ⟨v, rfl, ⟨A2, c2, rfl, _, _, hr2⟩, hb2⟩
      have hli := dIns_length xs ys
      have hli' : (dIns xs ys).length ≤ ys.length := by omega
      clear hli
      go_wp2_with fail
      refine (same_calls _ _ _ _ A1 A2 c1 c2 (dIns xs ys) (dIns xs ys) _ (hr1.below hb2) hr2 (by omega) (by omega)).mono ?_
      rintro e w3 ⟨rfl, hb3⟩
      rw [decide_eq_true (⟨rfl, rfl, rfl⟩ : _ ∧ _ ∧ _)]
      go_wp2_with fail
      refine (alive_calls _).mono ?_
      rintro e w4 ⟨rfl, hb4⟩
      go_wp2
      go_ret
      exact ⟨rfl, below_on (below_on (below_on hb1 hb2) hb3) hb4⟩
    · have H2 := Lib.hid (decide_eq_false h2)
      go_enter Try.func4, Try.ntmps4
      go_wp2_with fail
      refine (few_calls A xs.length c _ hlx).mono ?_
      rintro e w' ⟨rfl, rfl⟩
      rw [H1.out]
      go_wp2_with fail
      refine (few_calls B ys.length b _ hly).mono ?_
      rintro e w' ⟨rfl, rfl⟩
      rw [H2.out]
      go_wp2_with fail
      refine (alive_calls _).mono ?_
      rintro e w4 ⟨rfl, hb4⟩
      go_wp2
      go_ret
      exact ⟨rfl, hb4⟩
  · have H1 := Lib.hid (decide_eq_false h1)
    go_enter Try.func4, Try.ntmps4
    go_wp2_with fail
    refine (few_calls A xs.length c _ hlx).mono ?_
    rintro e w' ⟨rfl, rfl⟩
    rw [H1.out]
    go_wp2_with fail
    refine (alive_calls _).mono ?_
    rintro e w4 ⟨rfl, hb4⟩
    go_wp2
    go_ret
    exact ⟨rfl, hb4⟩

theorem own : ownKnob Try.prog.godebug = none := by kernel_rfl
theorem laidOut : laidOutB Try.prog = true := by kernel_rfl

set_option maxRecDepth 100000 in
theorem lifted (os : Os) (started : os.Started) (H : Type) (enc : TypeId × Value → H) :
    ReturnsInHanded {} Try.checked os 4 .any (Rows.editsDiffsSpec.pre6 enc Try.prog Try.f4 Rows.editsDiffsRow.domain false) (Rows.editsDiffsSpec.post enc Try.prog Try.f4 false true false false) := by
  refine returnsInHanded_of_change (C := Try.checked) own started (by kernel_rfl) Try.func4
    (ChangeSpec.witness6 (enc := enc) (C := Try.checked) false ⟨#[], #[.slice none 0 0, .slice none 0 0], []⟩ 8 (by kernel_rfl) (by kernel_rfl) (by kernel_rfl) (by kernel_rfl)) ?_
  intro W base args ds gs before hval0 hW hcnd _
  have hval : ∀ (j : Nat) t v, Try.f4.params[j]? = some t → args[j]? = some v → Value.okWide Try.prog W .any base t v := hval0
  have hW' := hW
  obtain ⟨p, q, hA0, hV, rfl, hfz, hnd⟩ := hW
  have hA : DataW.TrodAll enc Try.prog W 0 (fun _ => true) true Try.f4.params.toList args.toList ds p := hA0
  rw [Try.params4] at hA hval
  obtain ⟨v0, vs0, d0, ds0, p0, q0, hargs, rfl, rfl, h0, r0⟩ := trodAll_cons hA
  obtain ⟨v1, vs1, d1, ds1, p1, q1, rfl, rfl, rfl, h1, r1⟩ := trodAll_cons r0
  obtain ⟨rfl, rfl, rfl⟩ := trodAll_nil r1
  obtain rfl : args = #[v0, v1] := by cases args; simp_all
  obtain ⟨rfl, rfl⟩ := trodVars_none hV
  obtain ⟨A0, len0, c0, rfl⟩ := okWide_slice Try.underlying22 (hval 0 22 v0 rfl rfl)
  have k0 := h0
  have lt0 := InRow.trod_lt k0
  obtain ⟨x0, e0, w0⟩ : ∃ xs : List Int, xs.length = len0 ∧ InRow W A0 c0 xs := by
    obtain ⟨fuel, hf⟩ := h0
    exact open_rd Try.underlying22 Try.underlying3 (by kernel_rfl) (by simpa [Value.cells] using hf)
  subst e0
  obtain ⟨A1, len1, c1, rfl⟩ := okWide_slice Try.underlying22 (hval 1 22 v1 rfl rfl)
  have k1 := h1
  have lt1 := InRow.trod_lt k1
  obtain ⟨x1, e1, w1⟩ : ∃ xs : List Int, xs.length = len1 ∧ InRow W A1 c1 xs := by
    obtain ⟨fuel, hf⟩ := h1
    exact open_rd Try.underlying22 Try.underlying3 (by kernel_rfl) (by simpa [Value.cells] using hf)
  subst e1
  clear hA0 hval0
  refine (editsDiffs_walk W A0 c0 x0 w0 A1 c1 x1 w1).mono fun e W' ⟨he, bel⟩ => ?_
  subst he
  exact ⟨_, rfl, _, _, _, [], _, [], hW', trodAll_mk1 (shut_bool Try.underlying4 _), (trodAll_cons_mk (Below.trod laidOut (by kernel_rfl) (of_decide_eq_true (by kernel_rfl)) k0 bel lt0) (trodAll_cons_mk (Below.trod laidOut (by kernel_rfl) (of_decide_eq_true (by kernel_rfl)) k1 bel lt1) trodAll_mk0)), rfl, bel.frame _, fun h => by cases h⟩

theorem over : Rows.editsDiffsRow.holds Try.pinned (OpenSpec.ofChange Rows.editsDiffsSpec) :=
  OpenClaim.holds_of_wide 4 Try.f4 rfl rfl rfl rfl rfl rfl rfl ⟨rfl, rfl, rfl, rfl, rfl⟩ rfl rfl rfl rfl rfl (by kernel_rfl) Try.func4 (by kernel_rfl)
    (of_decide_eq_true (by kernel_rfl)) (by unfold Func.isWrapper; first | (rw [if_pos (by decide +kernel)]; kernel_rfl) | (rw [if_neg (by decide +kernel)]; exact ⟨rfl, rfl⟩))
    (fun os started H enc _ => lifted os started H enc)

end Go.Proofs.Ytjdnajmljafkpaa.editsDiffs
namespace Go.Proofs.Ytjdnajmljafkpaa
/-- EditsDiffs returns true for all pairs of texts, and its arguments read behind the call as before; no condition beyond the row's own. -/
theorem editsDiffs_holds : Rows.EditsDiffsSaid := editsDiffs.over
#print axioms editsDiffs_holds
end Go.Proofs.Ytjdnajmljafkpaa
