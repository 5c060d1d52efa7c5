/- HangulRanges returns true for every text, and its argument reads behind the call as before. No condition beyond the row's own. -/
import Derived.Test.YthkmlfefofgnhaaRows
import Derived.Test.YthkmlfefofgnhaaFrame
import Derived.Test.YthkmlfefofgnhaaHgAwake
import Derived.Test.YthkmlfefofgnhaaHgLaw
import Derived.Test.YthkmlfefofgnhaaHgChain
import Derived.Deep.QuietTactic
import Derived.BigQuiet
namespace Go.Proofs.Ythkmlfefofgnhaa.hangulRanges
open Go.ChangeShapes Go.WideShapes Go.ChangeAt Go.RowKit Go.Deep
open Go.ChangeMaps (open_string shut_string)
set_option linter.unusedVariables false
set_option linter.unusedSimpArgs false

set_option maxHeartbeats 4000000 in
set_option maxRecDepth 20000 in
theorem hangulRanges_walk (w : World) (A : Option Addr) (c : Nat) (xs : List Int) (hx : InRow w A c xs) :
    Calls Try.prog 8 #[.slice A xs.length c] w fun e w' => e = .returned (.bool true) ∧ Below w.heap.size w w' := by
  obtain ⟨hxr, hxc, hxm, hxs⟩ := hx
  have hs := small_of hxs
  clear hxs hxm
  by_cases h1 : xs.length ≤ 500
  · have L := split_calls A c xs w hxr hs hxc (by omega)
    have hlen := runs_bound xs xs.length (Nat.le_refl _)
    have hf := runs_facts xs xs.length (Nat.le_refl _)
    have HE := Lib.hid hf.2.2
    obtain ⟨hf1, hf2, _⟩ := hf
    rw [hf2] at HE hlen
    obtain ⟨ps, hps⟩ : ∃ ps, ps = (runs xs xs.length).1 := ⟨_, rfl⟩
    rw [← hps] at L hlen hf1 HE
    clear hps hf2
    have HF := Lib.hid hf1
    clear hf1
    obtain ⟨hle, hln⟩ := hlen
    go_enter Try.func8, Try.ntmps8
    go_wp2_with fail
    refine L.mono ?_
    rintro e w1 ⟨⟨v1, rfl, ho1⟩, hb1⟩
    obtain ⟨B, k1, rfl, hr1⟩ := RdP.of ho1
    clear ho1 L
    have hx1 := hxr.below hb1
    clear hxr
    go_wp2_with fail
    go_loopw [4, 5] (fun a i wr => ∃ k : Nat, k ≤ ps.length ∧ i = .int .i64 k ∧ a = .int .i64 (at_ ps k : Int) ∧ Below w1.heap.size w1 wr) (fun _ i _ => ps.length - (intOf i).toNat)
    case atStart => exact ⟨0, Nat.zero_le _, rfl, rfl, Below.refl _ _⟩
    case round =>
      obtain ⟨k, hk, rfl, rfl, hb2⟩ := hrel
      have hx2 := hx1.below hb2
      have hr2 := hr1.below hb2
      by_cases hgo : k < ps.length
      · obtain ⟨g, rfl, hg, hcg⟩ := hr2 (by omega)
        have q0 := (hcg k hgo).1
        have q1 := (hcg k hgo).2
        have f := HF.out k hgo
        obtain ⟨lo, hlo⟩ : ∃ lo : Nat, lo = (ps.getD k (0, 0)).1 := ⟨_, rfl⟩
        obtain ⟨hi, hhi⟩ : ∃ hi : Nat, hi = (ps.getD k (0, 0)).2 := ⟨_, rfl⟩
        obtain ⟨at0, hat⟩ : ∃ a0 : Nat, a0 = at_ ps k := ⟨_, rfl⟩
        rw [← hlo, ← hhi, ← hat] at f
        rw [← hlo] at q0
        rw [← hhi] at q1
        rw [← hat]
        have hnx : Hid (at_ ps (k + 1) = hi) := Lib.hid (by unfold at_; rw [if_neg (by omega), Nat.add_sub_cancel, hhi])
        clear hlo hhi hat hcg
        obtain ⟨f1, f2, f3, f4⟩ := f
        have sf := sy_facts xs lo f3
        have f5 := plen_le (xs.drop lo)
        rw [List.length_drop] at f5
        obtain ⟨n, hn⟩ : ∃ n, n = plen (xs.drop lo) := ⟨_, rfl⟩
        have ss := fun i hi => sy_small hs sf.1 i hi
        rw [← hn] at f2 f3 f5 sf ss
        obtain ⟨s1, s2, s3⟩ := sf
        rw [f2] at s3
        clear hn
        have F4 := Lib.hid f4
        have S1 := Lib.hid s1
        have S2 := Lib.hid s2
        have S3 := Lib.hid s3
        have SS := Lib.hid ss
        clear f4 s1 s2 s3 ss
        have g1 : lo < hi := by omega
        have g2 : hi ≤ xs.length := by omega
        have b0 : decide ((lo : Int) < (at0 : Int)) = false := decide_eq_false (by omega)
        have b1 : decide ((hi : Int) ≤ (lo : Int)) = false := decide_eq_false (by omega)
        have b2 : decide ((xs.length : Int) < (hi : Int)) = false := decide_eq_false (by omega)
        have b3 : decide (lo < at0) = false := decide_eq_false (by omega)
        have b4 : decide (hi ≤ lo) = false := decide_eq_false (by omega)
        have b5 : decide (xs.length < hi) = false := decide_eq_false (by omega)
        go_wp2_with fail
        go_quiet (fail)
        clear b0 b1 b2 b3 b4 b5
        go_wp2_with fail
        obtain ⟨W, hW⟩ : ∃ W, W = wr.drewN nq := ⟨_, rfl⟩
        have hbW : Below w1.heap.size w1 W := by rw [hW]; exact below_drewN' hb2 _
        have hxW : Rd W A xs := by rw [hW]; exact hx2
        have p0 : W.cell? ⟨g, k * 2, none⟩ = some (.int .i64 (lo : Int)) := by rw [hW]; exact q0
        have p1 : W.cell? ⟨g, k * 2 + 1, none⟩ = some (.int .i64 (hi : Int)) := by rw [hW]; exact q1
        rw [← hW]
        clear hW q0 q1 hx2 hr2 hr1 hg hb2 h1
        go_loopw [6] (fun i w3 => ∃ j : Nat, at0 ≤ j ∧ j ≤ lo ∧ i = .int .i64 j ∧ w3 = W) (fun i _ => lo - (intOf i).toNat)
        case atStart => exact ⟨_, Nat.le_refl _, f1, rfl, rfl⟩
        case round =>
          obtain ⟨j, hj0, hj, rfl, rfl⟩ := hrel
          by_cases hgj : j < lo
          · obtain ⟨a, rfl, hca⟩ := hxW.at_ (k := j) (by omega)
            have hks : kind (el xs j) < 4 := kind_small (F4.out j hj0 hgj)
            have KR := kindR_calls (el xs j) wr (hs j)
            obtain ⟨kj, hkj⟩ : ∃ kj, kj = kind (el xs j) := ⟨_, rfl⟩
            rw [← hkj] at KR hks
            clear hkj
            have hjx : j < xs.length := by omega
            go_wp2_with fail
            refine KR.mono ?_
            rintro e w4 ⟨rfl, rfl⟩
            go_wp2_with fail
            go_roundw
            case rel => exact ⟨j + 1, by omega, by omega, by go_num, by trivial⟩
            case measure => simp [intOf]; omega
          · obtain ⟨a, ha, hca⟩ := hxW.at_ (k := lo) (by omega)
            have hlx : lo < xs.length := by omega
            subst ha
            go_wp2_with fail
            go_loopw [7, 8] (fun s i w3 => ∃ (q m : Nat), q < n ∧ m = lo + 1 + q ∧ i = .int .i64 m ∧ s = .int .i64 (sy xs lo q) ∧ Below wr.heap.size wr w3) (fun _ i _ => hi - (intOf i).toNat)
            case atStart => exact ⟨0, lo + 1, f3, rfl, by go_num, rfl, Below.refl _ _⟩
            case round =>
              obtain ⟨q, m, hq, hm, rfl, rfl, hb4⟩ := hrel
              have hx4 := Rd.below hxW hb4
              have r0 := cell_keep hb4 p0
              have r1 := cell_keep hb4 p1
              have hbb := SS.out q hq
              have hB4 := below_then' hbW hbW.size hb4
              obtain ⟨s, hsy⟩ : ∃ s, s = sy xs lo q := ⟨_, rfl⟩
              rw [← hsy] at hbb
              rw [← hsy]
              by_cases hgm : m < hi
              · obtain ⟨a', ha', hcm⟩ := hx4.at_ (k := m) (by omega)
                injection ha' with ha'
                subst ha'
                have hb5 := S1.out q (by omega)
                rw [← hm, ← hsy] at hb5
                have hny : Hid (compI s (el xs m) = sy xs lo (q + 1)) := Lib.hid (by rw [hsy, hm]; rfl)
                have C := fun w => compose_calls s (el xs m) w hbb (hs m)
                rw [hb5] at C
                have hmx : m < xs.length := by omega
                have hq1 : q + 1 < n := by omega
                replace hm := Lib.hid hm
                clear hb5 hsy
                go_wp2_with fail
                refine (C _).mono ?_
                rintro e w5 ⟨rfl, hb6⟩
                have hB6 := below_then' hb4 hb4.size hb6
                go_wp2_with fail
                go_roundw
                case rel => exact ⟨q + 1, m + 1, by omega, by have := hm.out; omega, by go_num, by rw [hny.out], hB6⟩
                case measure => simp [intOf]; omega
              · have hqn : q = n - 1 := by omega
                have hk4 : 4 ≤ kind s := by rw [hsy, hqn]; exact S2.out
                have hno : compB s (el xs hi) = false := by rw [hsy, hqn]; exact S3.out
                have K := fun w => kind_calls s w hbb
                obtain ⟨ks, hks⟩ : ∃ ks, ks = kind s := ⟨_, rfl⟩
                rw [← hks] at K hk4
                have hmh : ¬ m < hi := hgm
                clear hks hsy hm hqn hq
                by_cases hend : hi < xs.length
                · obtain ⟨a', ha', hcm⟩ := hx4.at_ (k := hi) (by omega)
                  injection ha' with ha'
                  subst ha'
                  have C := fun w => compose_calls s (el xs hi) w hbb (hs hi)
                  rw [hno] at C
                  go_wp2_with fail
                  refine (K _).mono ?_
                  rintro e w5 ⟨rfl, hb6⟩
                  have t1 := cell_keep hb6 r1
                  have t2 := cell_keep hb6 hcm
                  have hB6 := below_then' hB4 hB4.size hb6
                  go_wp2_with fail
                  refine (C _).mono ?_
                  rintro e w6 ⟨rfl, hb7⟩
                  have hB7 := below_then' hB6 hB6.size hb7
                  go_wp2_with fail
                  go_roundw
                  case rel => exact ⟨k + 1, by omega, by go_num, by rw [hnx.out], hB7⟩
                  case measure => simp [intOf]; omega
                · go_wp2_with fail
                  refine (K _).mono ?_
                  rintro e w5 ⟨rfl, hb6⟩
                  have t1 := cell_keep hb6 r1
                  have hB6 := below_then' hB4 hB4.size hb6
                  go_wp2_with fail
                  go_roundw
                  case rel => exact ⟨k + 1, by omega, by go_num, by rw [hnx.out], hB6⟩
                  case measure => simp [intOf]; omega
      · have hk3 : k = ps.length := by omega
        subst hk3
        go_wp2_with fail
        go_loopw [13] (fun i w3 => ∃ j : Nat, at_ ps ps.length ≤ j ∧ j ≤ xs.length ∧ i = .int .i64 j ∧ w3 = wr) (fun i _ => xs.length - (intOf i).toNat)
        case atStart => exact ⟨_, Nat.le_refl _, hle, rfl, rfl⟩
        case round =>
          obtain ⟨j, hj0, hj, rfl, rfl⟩ := hrel
          by_cases hg : j < xs.length
          · obtain ⟨a, rfl, hca⟩ := hx2.at_ hg
            have hks : kind (el xs j) < 4 := kind_small (HE.out j hj0 hg)
            have KR := kindR_calls (el xs j) wr (hs j)
            obtain ⟨kj, hkj⟩ : ∃ kj, kj = kind (el xs j) := ⟨_, rfl⟩
            rw [← hkj] at KR hks
            clear hkj
            go_wp2_with fail
            refine KR.mono ?_
            rintro e w4 ⟨rfl, rfl⟩
            go_wp2_with fail
            go_roundw
            case rel => exact ⟨j + 1, by omega, by omega, by go_num, by trivial⟩
            case measure => simp [intOf]; omega
          · go_wp2_with fail
            refine (awake_calls _).mono ?_
            rintro e w9 ⟨rfl, hb9⟩
            go_wp2_with fail
            go_ret
            exact ⟨ret_bool rfl, below_then' (below_then' hb1 hb1.size hb2) (Nat.le_trans hb1.size hb2.size) hb9⟩
  · have h2 : 500 < xs.length := by omega
    clear h1
    go_enter Try.func8, Try.ntmps8
    go_wp2_with fail
    refine (awake_calls _).mono ?_
    rintro e w9 ⟨rfl, hb9⟩
    go_wp2_with fail
    go_ret
    exact ⟨ret_bool rfl, hb9⟩

theorem own : ownKnob Try.prog.godebug = none := by kernel_rfl
theorem laidOut : laidOutB Try.prog = true := by kernel_rfl

set_option maxRecDepth 100000 in
theorem lifted (os : Os) (started : os.Started) (H : Type) (enc : TypeId × Value → H) :
    ReturnsInHanded {} Try.checked os 8 .any (Rows.hangulRangesSpec.pre6 enc Try.prog Try.f8 Rows.hangulRangesRow.domain false) (Rows.hangulRangesSpec.post enc Try.prog Try.f8 false true false false) := by
  refine returnsInHanded_of_change (C := Try.checked) own started (by kernel_rfl) Try.func8
    (ChangeSpec.witness6 (enc := enc) (C := Try.checked) false ⟨#[], #[.slice none 0 0], []⟩ 8 (by kernel_rfl) (by kernel_rfl) (by kernel_rfl) (by kernel_rfl)) ?_
  intro W base args ds gs before hval0 hW hcnd _
  have hval : ∀ (j : Nat) t v, Try.f8.params[j]? = some t → args[j]? = some v → Value.okWide Try.prog W .any base t v := hval0
  have hW' := hW
  obtain ⟨p, q, hA0, hV, rfl, hfz, hnd⟩ := hW
  have hA : DataW.TrodAll enc Try.prog W 0 (fun _ => true) true Try.f8.params.toList args.toList ds p := hA0
  rw [Try.params8] at hA hval
  obtain ⟨v0, vs0, d0, ds0, p0, q0, hargs, rfl, rfl, h0, r0⟩ := trodAll_cons hA
  obtain ⟨rfl, rfl, rfl⟩ := trodAll_nil r0
  obtain rfl : args = #[v0] := by cases args; simp_all
  obtain ⟨rfl, rfl⟩ := trodVars_none hV
  obtain ⟨A0, len0, c0, rfl⟩ := okWide_slice Try.underlying24 (hval 0 24 v0 rfl rfl)
  have k0 := h0
  have lt0 := InRow.trod_lt k0
  obtain ⟨x0, e0, w0⟩ : ∃ xs : List Int, xs.length = len0 ∧ InRow W A0 c0 xs := by
    obtain ⟨fuel, hf⟩ := h0
    exact open_rd Try.underlying24 Try.underlying3 (by kernel_rfl) (by simpa [Value.cells] using hf)
  subst e0
  clear hA0 hval0
  refine (hangulRanges_walk W A0 c0 x0 w0).mono fun e W' ⟨he, bel⟩ => ?_
  subst he
  exact ⟨_, rfl, _, _, _, [], _, [], hW', trodAll_mk1 (shut_bool Try.underlying4 _), (trodAll_cons_mk (Below.trod laidOut (by kernel_rfl) (of_decide_eq_true (by kernel_rfl)) k0 bel lt0) trodAll_mk0), rfl, bel.frame _, fun h => by cases h⟩

theorem over : Rows.hangulRangesRow.holds Try.pinned (OpenSpec.ofChange Rows.hangulRangesSpec) :=
  OpenClaim.holds_of_wide 8 Try.f8 rfl rfl rfl rfl rfl rfl rfl ⟨rfl, rfl, rfl, rfl, rfl⟩ rfl rfl rfl rfl rfl (by kernel_rfl) Try.func8 (by kernel_rfl)
    (of_decide_eq_true (by kernel_rfl)) (by unfold Func.isWrapper; first | (rw [if_pos (by decide +kernel)]; kernel_rfl) | (rw [if_neg (by decide +kernel)]; exact ⟨rfl, rfl⟩))
    (fun os started H enc _ => lifted os started H enc)

end Go.Proofs.Ythkmlfefofgnhaa.hangulRanges
namespace Go.Proofs.Ythkmlfefofgnhaa
/-- HangulRanges returns true for every text, and its argument reads behind the call as before. No condition beyond the row's own. -/
theorem hangulRanges_holds : Rows.HangulRangesSaid := hangulRanges.over
#print axioms hangulRanges_holds
end Go.Proofs.Ythkmlfefofgnhaa
