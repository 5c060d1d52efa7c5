import Derived.Test.YtjdnajmljafkpaaEdG
namespace Go.Proofs.Ytjdnajmljafkpaa
open Go.RowKit
set_option linter.unusedVariables false
set_option linter.unusedSimpArgs false

set_option maxHeartbeats 2000000 in
theorem rdiff_calls (A B : Option Addr) (c b : Nat) (xs ys : List Int) (w : World) (hx : Rd w A xs) (hy : Rd w B ys) (hc : xs.length ≤ c) (hb : ys.length ≤ b) (hn : xs.length ≤ 1000000) (hm : ys.length ≤ 1000000) :
    Calls Try.prog 19 #[.slice A xs.length c, .slice B ys.length b] w fun e w' =>
      ∃ v, e = .returned (.agg #[.int .i64 (dAt xs ys), .int .i64 ((xs.length : Int) - dAt xs ys - dEnd xs ys), v]) ∧ Sl w' v (dIns xs ys) ∧ Below w.heap.size w w' := by
  have HL0 : Hid (lcp (xs.drop 0) (ys.drop 0) + 0 = dAt xs ys) := by exact rfl
  obtain ⟨w0, HW0, hb0, hz0, ⟨s0, s1, s2⟩, ⟨t0, t1, t2⟩⟩ := new_block w (.int .i64 0) (.int .i64 0) (.slice none 0 0) 24
  have hx0 := hx.below hb0
  have hy0 := hy.below hb0
  obtain ⟨mn, hmn1, hmn2, hmn3, hmin⟩ := run_min2 (P := Try.prog) #[3, 3] 3 xs.length ys.length
  go_enter Try.func19, Try.ntmps19
  go_wp2
  go_loopw [5] (fun i wr => ∃ k : Nat, k ≤ xs.length ∧ k ≤ ys.length ∧ i = .int .i64 k ∧ Drawn w0 wr ∧ Hid (lcp (xs.drop k) (ys.drop k) + k = dAt xs ys))
    (fun i _ => xs.length - (intOf i).toNat)
  case atStart => exact ⟨0, Nat.zero_le _, Nat.zero_le _, rfl, by rw [HW0.out]; exact Drawn.refl _, HL0⟩
  case round =>
    obtain ⟨k, hk, hl, rfl, ⟨m, rfl⟩, HC⟩ := hrel
    by_cases hgo : k < mn ∧ el xs k = el ys k
    · obtain ⟨h1, h3⟩ := hgo
      have h1x : k < xs.length := by omega
      have h1y : k < ys.length := by omega
      obtain ⟨a, rfl, ha⟩ := hx0.at_ h1x
      obtain ⟨b, rfl, hb⟩ := hy0.at_ h1y
      have HR := Lib.hid (lcp_step h1x h1y h3)
      have e3 : (el xs k == el ys k) = true := by simp [h3]
      clear hmn3 h3
      go_wp2
      go_quiet (fail)
      go_wp2
      go_roundw
      case rel => exact ⟨k + 1, h1x, h1y, by go_num, by repeat (first | exact Drawn.refl _ | refine Drawn.step ?_ _), by have h1 := HC.out; have h2 := HR.out; exact (show _ = _ by omega)⟩
      case measure => simp [intOf]; omega
    · have hK : k = dAt xs ys := by
        have h1 := HC.out
        rw [lcp_stop fun h2 h3 h4 => hgo ⟨hmn3 k h2 h3, h4⟩] at h1
        omega
      have HK := Lib.hid hK
      clear hK
      obtain ⟨us, hus⟩ : ∃ us, us = xs.drop k := ⟨_, rfl⟩
      obtain ⟨vs, hvs⟩ : ∃ vs, vs = ys.drop k := ⟨_, rfl⟩
      have hul : us.length ≤ xs.length - k ∧ xs.length - k ≤ us.length := by rw [hus]; simp
      have hvl : vs.length ≤ ys.length - k ∧ ys.length - k ≤ vs.length := by rw [hvs]; simp
      have HU' := Lib.hid hus
      have HV' := Lib.hid hvs
      clear hus hvs
      obtain ⟨mm, hmm1, hmm2, hmm3, hmin2⟩ := run_min2 (P := Try.prog) #[3, 3] 3 us.length vs.length
      have HM0 : Hid (lcp (us.reverse.drop 0) (vs.reverse.drop 0) + 0 = lcp us.reverse vs.reverse) := by exact rfl
      by_cases h1 : k < mn
      · have h1x : k < xs.length := by omega
        have h1y : k < ys.length := by omega
        have h3 : el xs k ≠ el ys k := fun h => hgo ⟨h1, h⟩
        have e3 : (el xs k == el ys k) = false := by simp [h3]
        obtain ⟨a, rfl, ha⟩ := hx0.at_ h1x
        obtain ⟨b', rfl, hb'⟩ := hy0.at_ h1y
        clear hgo hmn3 h3
        have ela : ∀ n, n < us.length → el us (us.length - 1 - n) = el xs (xs.length - 1 - n) := fun n h => by
          rw [HU'.out, el_drop]; congr 1; have := hul; rw [HU'.out] at this; simp at *; omega
        have elb : ∀ n, n < vs.length → el vs (vs.length - 1 - n) = el ys (ys.length - 1 - n) := fun n h => by
          rw [HV'.out, el_drop]; congr 1; have := hvl; rw [HV'.out] at this; simp at *; omega
        have ELA := Lib.hid ela
        have ELB := Lib.hid elb
        clear ela elb
        go_wp2
        go_quiet (fail)
        go_wp2
        go_loopw [6] (fun i wr => ∃ n : Nat, n ≤ us.length ∧ n ≤ vs.length ∧ i = .int .i64 n ∧ Drawn w0 wr ∧ Hid (lcp (us.reverse.drop n) (vs.reverse.drop n) + n = lcp us.reverse vs.reverse))
          (fun i _ => us.length - (intOf i).toNat)
        case atStart => exact ⟨0, Nat.zero_le _, Nat.zero_le _, rfl, by repeat (first | exact Drawn.refl _ | refine Drawn.step ?_ _), HM0⟩
        case round =>
          obtain ⟨n, hn1, hn2, rfl, ⟨m2, rfl⟩, HC2⟩ := hrel
          by_cases hgo2 : n < mm ∧ el us.reverse n = el vs.reverse n
          · obtain ⟨g1, g3⟩ := hgo2
            have g1x : n < us.length := by omega
            have g1y : n < vs.length := by omega
            have hcx := hx0.at_ (k := xs.length - 1 - n) (by omega)
            have hcy := hy0.at_ (k := ys.length - 1 - n) (by omega)
            first | (obtain ⟨p, hpe, hp⟩ := hcx; injection hpe with hpe; subst hpe) | obtain ⟨p, rfl, hp⟩ := hcx
            first | (obtain ⟨q, hqe, hq⟩ := hcy; injection hqe with hqe; subst hqe) | obtain ⟨q, rfl, hq⟩ := hcy
            have HR2 := Lib.hid (lcp_step (xs := us.reverse) (ys := vs.reverse) (by simpa using g1x) (by simpa using g1y) g3)
            have e4 : (el xs (xs.length - 1 - n) == el ys (ys.length - 1 - n)) = true := by rw [← ELA.out n g1x, ← ELB.out n g1y, ← el_reverse g1x, ← el_reverse g1y]; simp [g3]
            clear hmm3 g3
            have d1 : decide ((k : Int) + n < (xs.length : Int)) = true := by simp; omega
            have d2 : decide ((k : Int) + n < (ys.length : Int)) = true := by simp; omega
            have qx1 : IntKind.i64.wrap ((xs.length : Int) - 1) = (xs.length : Int) - 1 := IntWalk.i64_in _ (by omega)
            have qx2 : IntKind.i64.wrap ((xs.length : Int) - 1 - n) = (xs.length : Int) - 1 - n := IntWalk.i64_in _ (by omega)
            have qx3 : (0 : Int) ≤ (xs.length : Int) - 1 - n := by omega
            have qx4 : ((xs.length : Int) - 1 - n).toNat = xs.length - 1 - n := by omega
            have qy1 : IntKind.i64.wrap ((ys.length : Int) - 1) = (ys.length : Int) - 1 := IntWalk.i64_in _ (by omega)
            have qy2 : IntKind.i64.wrap ((ys.length : Int) - 1 - n) = (ys.length : Int) - 1 - n := IntWalk.i64_in _ (by omega)
            have qy3 : (0 : Int) ≤ (ys.length : Int) - 1 - n := by omega
            have qy4 : ((ys.length : Int) - 1 - n).toNat = ys.length - 1 - n := by omega
            have hwk : IntKind.i64.wrap ((k : Int) + n) = (k : Int) + n := IntWalk.i64_in _ (by omega)
            go_wp2
            go_quiet (fail)
            go_wp2
            go_roundw
            case rel => exact ⟨n + 1, g1x, g1y, by go_num, by repeat (first | exact Drawn.refl _ | refine Drawn.step ?_ _), by have h1 := HC2.out; have h2 := HR2.out; exact (show _ = _ by omega)⟩
            case measure => simp [intOf]; omega
          · have hN : n = lcp us.reverse vs.reverse := by
              have h1 := HC2.out
              rw [lcp_stop fun h2 h3 h4 => hgo2 ⟨hmm3 n (by simpa using h2) (by simpa using h3), h4⟩] at h1
              omega
            have HN := Lib.hid (show n = dEnd xs ys by rw [hN, HU'.out, HV'.out, HK.out]; rfl)
            clear hN
            obtain ⟨B1, zs, b1, HZ, hzl, hzc, hcutz, hzr⟩ := cut_mid' (P := Try.prog) 22 3 Try.underlying22 info_int hy0 b (k : Int) ((ys.length : Int) - n) (by omega) (by omega) (by omega) hb
            have eZ : ((ys.length : Int) - n).toNat - k = ys.length - k - n := by omega
            have HZ' := Lib.hid (show zs = dIns xs ys by
              rw [HZ.out, Int.toNat_natCast, List.drop_take, eZ]
              unfold dIns
              rw [← HK.out, ← HN.out])
            clear eZ
            by_cases g1 : n < mm
            · have g1x : n < us.length := by omega
              have g1y : n < vs.length := by omega
              have g3 : el us.reverse n ≠ el vs.reverse n := fun h => hgo2 ⟨g1, h⟩
              have e4 : (el xs (xs.length - 1 - n) == el ys (ys.length - 1 - n)) = false := by rw [← ELA.out n g1x, ← ELB.out n g1y, ← el_reverse g1x, ← el_reverse g1y]; simp [g3]
              have hcx := hx0.at_ (k := xs.length - 1 - n) (by omega)
              have hcy := hy0.at_ (k := ys.length - 1 - n) (by omega)
              first | (obtain ⟨p, hpe, hp⟩ := hcx; injection hpe with hpe; subst hpe) | obtain ⟨p, rfl, hp⟩ := hcx
              first | (obtain ⟨q, hqe, hq⟩ := hcy; injection hqe with hqe; subst hqe) | obtain ⟨q, rfl, hq⟩ := hcy
              clear hgo2 hmm3 g3
              have d1 : decide ((k : Int) + n < (xs.length : Int)) = true := by simp; omega
              have d2 : decide ((k : Int) + n < (ys.length : Int)) = true := by simp; omega
              have qx1 : IntKind.i64.wrap ((xs.length : Int) - 1) = (xs.length : Int) - 1 := IntWalk.i64_in _ (by omega)
              have qx2 : IntKind.i64.wrap ((xs.length : Int) - 1 - n) = (xs.length : Int) - 1 - n := IntWalk.i64_in _ (by omega)
              have qx3 : (0 : Int) ≤ (xs.length : Int) - 1 - n := by omega
              have qx4 : ((xs.length : Int) - 1 - n).toNat = xs.length - 1 - n := by omega
              have qy1 : IntKind.i64.wrap ((ys.length : Int) - 1) = (ys.length : Int) - 1 := IntWalk.i64_in _ (by omega)
              have qy2 : IntKind.i64.wrap ((ys.length : Int) - 1 - n) = (ys.length : Int) - 1 - n := IntWalk.i64_in _ (by omega)
              have qy3 : (0 : Int) ≤ (ys.length : Int) - 1 - n := by omega
              have qy4 : ((ys.length : Int) - 1 - n).toNat = ys.length - 1 - n := by omega
              have hwk : IntKind.i64.wrap ((k : Int) + n) = (k : Int) + n := IntWalk.i64_in _ (by omega)
              go_wp2
              go_quiet (fail)
              go_wp2_with fail
              refine (join_one _ b1 zs _ ?_ (by omega)).mono ?_
              exact hzr
              rintro e w2 ⟨_, rfl, ⟨A2, c2, rfl, hv1, hv2, hv3⟩, hb2⟩
              have HV3 := Lib.hid hv3
              clear hv3
              have hbb : Below w.heap.size w w2 := below_then' (below_drewN' hb0 _) hb0.size hb2
              have r0 := (hb2.cell (p := ⟨w.heap.size, 0, none⟩) hz0).trans s0
              have f0 := (hb2.frozen (p := ⟨w.heap.size, 0, none⟩) hz0).trans t0
              have r1 := (hb2.cell (p := ⟨w.heap.size, 1, none⟩) hz0).trans s1
              have f1 := (hb2.frozen (p := ⟨w.heap.size, 1, none⟩) hz0).trans t1
              have r2 := (hb2.cell (p := ⟨w.heap.size, 2, none⟩) hz0).trans s2
              have f2 := (hb2.frozen (p := ⟨w.heap.size, 2, none⟩) hz0).trans t2
              go_wp2
              have hD : ((us.length : Int) - n) = (xs.length : Int) - dAt xs ys - dEnd xs ys := by
                rw [← HK.out, ← HN.out]; omega
              have hA : (k : Int) = dAt xs ys := by rw [← HK.out]
              have h0 : Fr w2 w0.heap.size (.slice A2 zs.length c2) zs := ⟨A2, c2, rfl, hv1, hv2, HV3.out⟩
              refine bodyPost_ret (v := .agg #[.int .i64 (k : Int), .int .i64 ((xs.length : Int) - n - k), .slice A2 zs.length c2]) (by simp [results, Try.results19, go_sem, r0, r1, r2]) rfl ⟨_, by rw [← hD, ← hA]; rw [show (us.length : Int) - n = (xs.length : Int) - n - k from by omega], ?_, ?_⟩
              · have h := (((h0).setCell (p := ⟨w.heap.size, 0, none⟩) hz0 (.int .i64 (k : Int))).setCell (p := ⟨w.heap.size, 1, none⟩) hz0 (.int .i64 ((xs.length : Int) - n - k))).setCell (p := ⟨w.heap.size, 2, none⟩) hz0 (.slice A2 zs.length c2)
                rw [← HZ'.out]
                exact h.sl
              · exact (((hbb).setCell (by simp) _).setCell (by simp) _).setCell (by simp) _
            · clear hgo2
              by_cases g2 : n < us.length
              · have g3 : ¬ n < vs.length := fun h => g1 (hmm3 n g2 h)
                have hd2 : decide ((k : Int) + n < (ys.length : Int)) = false := by simp; omega
                clear hmm3
                have d1 : decide ((k : Int) + n < (xs.length : Int)) = true := by simp; omega
                have hwk : IntKind.i64.wrap ((k : Int) + n) = (k : Int) + n := IntWalk.i64_in _ (by omega)
                go_wp2
                go_quiet (fail)
                go_wp2_with fail
                refine (join_one _ b1 zs _ ?_ (by omega)).mono ?_
                exact hzr
                rintro e w2 ⟨_, rfl, ⟨A2, c2, rfl, hv1, hv2, hv3⟩, hb2⟩
                have HV3 := Lib.hid hv3
                clear hv3
                have hbb : Below w.heap.size w w2 := below_then' (below_drewN' hb0 _) hb0.size hb2
                have r0 := (hb2.cell (p := ⟨w.heap.size, 0, none⟩) hz0).trans s0
                have f0 := (hb2.frozen (p := ⟨w.heap.size, 0, none⟩) hz0).trans t0
                have r1 := (hb2.cell (p := ⟨w.heap.size, 1, none⟩) hz0).trans s1
                have f1 := (hb2.frozen (p := ⟨w.heap.size, 1, none⟩) hz0).trans t1
                have r2 := (hb2.cell (p := ⟨w.heap.size, 2, none⟩) hz0).trans s2
                have f2 := (hb2.frozen (p := ⟨w.heap.size, 2, none⟩) hz0).trans t2
                go_wp2
                have hD : ((us.length : Int) - n) = (xs.length : Int) - dAt xs ys - dEnd xs ys := by
                  rw [← HK.out, ← HN.out]; omega
                have hA : (k : Int) = dAt xs ys := by rw [← HK.out]
                have h0 : Fr w2 w0.heap.size (.slice A2 zs.length c2) zs := ⟨A2, c2, rfl, hv1, hv2, HV3.out⟩
                refine bodyPost_ret (v := .agg #[.int .i64 (k : Int), .int .i64 ((xs.length : Int) - n - k), .slice A2 zs.length c2]) (by simp [results, Try.results19, go_sem, r0, r1, r2]) rfl ⟨_, by rw [← hD, ← hA]; rw [show (us.length : Int) - n = (xs.length : Int) - n - k from by omega], ?_, ?_⟩
                · have h := (((h0).setCell (p := ⟨w.heap.size, 0, none⟩) hz0 (.int .i64 (k : Int))).setCell (p := ⟨w.heap.size, 1, none⟩) hz0 (.int .i64 ((xs.length : Int) - n - k))).setCell (p := ⟨w.heap.size, 2, none⟩) hz0 (.slice A2 zs.length c2)
                  rw [← HZ'.out]
                  exact h.sl
                · exact (((hbb).setCell (by simp) _).setCell (by simp) _).setCell (by simp) _
              · have hd2 : decide ((k : Int) + n < (xs.length : Int)) = false := by simp; omega
                clear hmm3
                have hwk : IntKind.i64.wrap ((k : Int) + n) = (k : Int) + n := IntWalk.i64_in _ (by omega)
                go_wp2
                go_quiet (fail)
                go_wp2_with fail
                refine (join_one _ b1 zs _ ?_ (by omega)).mono ?_
                exact hzr
                rintro e w2 ⟨_, rfl, ⟨A2, c2, rfl, hv1, hv2, hv3⟩, hb2⟩
                have HV3 := Lib.hid hv3
                clear hv3
                have hbb : Below w.heap.size w w2 := below_then' (below_drewN' hb0 _) hb0.size hb2
                have r0 := (hb2.cell (p := ⟨w.heap.size, 0, none⟩) hz0).trans s0
                have f0 := (hb2.frozen (p := ⟨w.heap.size, 0, none⟩) hz0).trans t0
                have r1 := (hb2.cell (p := ⟨w.heap.size, 1, none⟩) hz0).trans s1
                have f1 := (hb2.frozen (p := ⟨w.heap.size, 1, none⟩) hz0).trans t1
                have r2 := (hb2.cell (p := ⟨w.heap.size, 2, none⟩) hz0).trans s2
                have f2 := (hb2.frozen (p := ⟨w.heap.size, 2, none⟩) hz0).trans t2
                go_wp2
                have hD : ((us.length : Int) - n) = (xs.length : Int) - dAt xs ys - dEnd xs ys := by
                  rw [← HK.out, ← HN.out]; omega
                have hA : (k : Int) = dAt xs ys := by rw [← HK.out]
                have h0 : Fr w2 w0.heap.size (.slice A2 zs.length c2) zs := ⟨A2, c2, rfl, hv1, hv2, HV3.out⟩
                refine bodyPost_ret (v := .agg #[.int .i64 (k : Int), .int .i64 ((xs.length : Int) - n - k), .slice A2 zs.length c2]) (by simp [results, Try.results19, go_sem, r0, r1, r2]) rfl ⟨_, by rw [← hD, ← hA]; rw [show (us.length : Int) - n = (xs.length : Int) - n - k from by omega], ?_, ?_⟩
                · have h := (((h0).setCell (p := ⟨w.heap.size, 0, none⟩) hz0 (.int .i64 (k : Int))).setCell (p := ⟨w.heap.size, 1, none⟩) hz0 (.int .i64 ((xs.length : Int) - n - k))).setCell (p := ⟨w.heap.size, 2, none⟩) hz0 (.slice A2 zs.length c2)
                  rw [← HZ'.out]
                  exact h.sl
                · exact (((hbb).setCell (by simp) _).setCell (by simp) _).setCell (by simp) _
      · clear hgo
        by_cases h2 : k < xs.length
        · have h3 : ¬ k < ys.length := fun h => h1 (hmn3 k h2 h)
          have hd : decide ((k : Int) < (ys.length : Int)) = false := by simp; omega
          clear hmn3
          have ela : ∀ n, n < us.length → el us (us.length - 1 - n) = el xs (xs.length - 1 - n) := fun n h => by
            rw [HU'.out, el_drop]; congr 1; have := hul; rw [HU'.out] at this; simp at *; omega
          have elb : ∀ n, n < vs.length → el vs (vs.length - 1 - n) = el ys (ys.length - 1 - n) := fun n h => by
            rw [HV'.out, el_drop]; congr 1; have := hvl; rw [HV'.out] at this; simp at *; omega
          have ELA := Lib.hid ela
          have ELB := Lib.hid elb
          clear ela elb
          go_wp2
          go_quiet (fail)
          go_wp2
          go_loopw [6] (fun i wr => ∃ n : Nat, n ≤ us.length ∧ n ≤ vs.length ∧ i = .int .i64 n ∧ Drawn w0 wr ∧ Hid (lcp (us.reverse.drop n) (vs.reverse.drop n) + n = lcp us.reverse vs.reverse))
            (fun i _ => us.length - (intOf i).toNat)
          case atStart => exact ⟨0, Nat.zero_le _, Nat.zero_le _, rfl, by repeat (first | exact Drawn.refl _ | refine Drawn.step ?_ _), HM0⟩
          case round =>
            obtain ⟨n, hn1, hn2, rfl, ⟨m2, rfl⟩, HC2⟩ := hrel
            have g0 : ¬ n < mm := by omega
            have hN : n = lcp us.reverse vs.reverse := by
              have h1 := HC2.out
              rw [lcp_stop fun h2 h3 h4 => g0 (hmm3 n (by simpa using h2) (by simpa using h3))] at h1
              omega
            have HN := Lib.hid (show n = dEnd xs ys by rw [hN, HU'.out, HV'.out, HK.out]; rfl)
            clear hN
            obtain ⟨B1, zs, b1, HZ, hzl, hzc, hcutz, hzr⟩ := cut_mid' (P := Try.prog) 22 3 Try.underlying22 info_int hy0 b (k : Int) ((ys.length : Int) - n) (by omega) (by omega) (by omega) hb
            have eZ : ((ys.length : Int) - n).toNat - k = ys.length - k - n := by omega
            have HZ' := Lib.hid (show zs = dIns xs ys by
              rw [HZ.out, Int.toNat_natCast, List.drop_take, eZ]
              unfold dIns
              rw [← HK.out, ← HN.out])
            clear eZ
            have g2 : n < us.length := by omega
            have d1 : decide ((k : Int) + n < (xs.length : Int)) = true := by simp; omega
            have hd2 : decide ((k : Int) + n < (ys.length : Int)) = false := by simp; omega
            clear hmm3 g0
            have hwk : IntKind.i64.wrap ((k : Int) + n) = (k : Int) + n := IntWalk.i64_in _ (by omega)
            go_wp2
            go_quiet (fail)
            go_wp2_with fail
            refine (join_one _ b1 zs _ ?_ (by omega)).mono ?_
            exact hzr
            rintro e w2 ⟨_, rfl, ⟨A2, c2, rfl, hv1, hv2, hv3⟩, hb2⟩
            have HV3 := Lib.hid hv3
            clear hv3
            have hbb : Below w.heap.size w w2 := below_then' (below_drewN' hb0 _) hb0.size hb2
            have r0 := (hb2.cell (p := ⟨w.heap.size, 0, none⟩) hz0).trans s0
            have f0 := (hb2.frozen (p := ⟨w.heap.size, 0, none⟩) hz0).trans t0
            have r1 := (hb2.cell (p := ⟨w.heap.size, 1, none⟩) hz0).trans s1
            have f1 := (hb2.frozen (p := ⟨w.heap.size, 1, none⟩) hz0).trans t1
            have r2 := (hb2.cell (p := ⟨w.heap.size, 2, none⟩) hz0).trans s2
            have f2 := (hb2.frozen (p := ⟨w.heap.size, 2, none⟩) hz0).trans t2
            go_wp2
            have hD : ((us.length : Int) - n) = (xs.length : Int) - dAt xs ys - dEnd xs ys := by
              rw [← HK.out, ← HN.out]; omega
            have hA : (k : Int) = dAt xs ys := by rw [← HK.out]
            have h0 : Fr w2 w0.heap.size (.slice A2 zs.length c2) zs := ⟨A2, c2, rfl, hv1, hv2, HV3.out⟩
            refine bodyPost_ret (v := .agg #[.int .i64 (k : Int), .int .i64 ((xs.length : Int) - n - k), .slice A2 zs.length c2]) (by simp [results, Try.results19, go_sem, r0, r1, r2]) rfl ⟨_, by rw [← hD, ← hA]; rw [show (us.length : Int) - n = (xs.length : Int) - n - k from by omega], ?_, ?_⟩
            · have h := (((h0).setCell (p := ⟨w.heap.size, 0, none⟩) hz0 (.int .i64 (k : Int))).setCell (p := ⟨w.heap.size, 1, none⟩) hz0 (.int .i64 ((xs.length : Int) - n - k))).setCell (p := ⟨w.heap.size, 2, none⟩) hz0 (.slice A2 zs.length c2)
              rw [← HZ'.out]
              exact h.sl
            · exact (((hbb).setCell (by simp) _).setCell (by simp) _).setCell (by simp) _
        · have hd : decide ((k : Int) < (xs.length : Int)) = false := by simp; omega
          clear hmn3
          have ela : ∀ n, n < us.length → el us (us.length - 1 - n) = el xs (xs.length - 1 - n) := fun n h => by
            rw [HU'.out, el_drop]; congr 1; have := hul; rw [HU'.out] at this; simp at *; omega
          have elb : ∀ n, n < vs.length → el vs (vs.length - 1 - n) = el ys (ys.length - 1 - n) := fun n h => by
            rw [HV'.out, el_drop]; congr 1; have := hvl; rw [HV'.out] at this; simp at *; omega
          have ELA := Lib.hid ela
          have ELB := Lib.hid elb
          clear ela elb
          go_wp2
          go_quiet (fail)
          go_wp2
          go_loopw [6] (fun i wr => ∃ n : Nat, n ≤ us.length ∧ n ≤ vs.length ∧ i = .int .i64 n ∧ Drawn w0 wr ∧ Hid (lcp (us.reverse.drop n) (vs.reverse.drop n) + n = lcp us.reverse vs.reverse))
            (fun i _ => us.length - (intOf i).toNat)
          case atStart => exact ⟨0, Nat.zero_le _, Nat.zero_le _, rfl, by repeat (first | exact Drawn.refl _ | refine Drawn.step ?_ _), HM0⟩
          case round =>
            obtain ⟨n, hn1, hn2, rfl, ⟨m2, rfl⟩, HC2⟩ := hrel
            have g0 : ¬ n < mm := by omega
            have hN : n = lcp us.reverse vs.reverse := by
              have h1 := HC2.out
              rw [lcp_stop fun h2 h3 h4 => g0 (hmm3 n (by simpa using h2) (by simpa using h3))] at h1
              omega
            have HN := Lib.hid (show n = dEnd xs ys by rw [hN, HU'.out, HV'.out, HK.out]; rfl)
            clear hN
            obtain ⟨B1, zs, b1, HZ, hzl, hzc, hcutz, hzr⟩ := cut_mid' (P := Try.prog) 22 3 Try.underlying22 info_int hy0 b (k : Int) ((ys.length : Int) - n) (by omega) (by omega) (by omega) hb
            have eZ : ((ys.length : Int) - n).toNat - k = ys.length - k - n := by omega
            have HZ' := Lib.hid (show zs = dIns xs ys by
              rw [HZ.out, Int.toNat_natCast, List.drop_take, eZ]
              unfold dIns
              rw [← HK.out, ← HN.out])
            clear eZ
            have hd2 : decide ((k : Int) + n < (xs.length : Int)) = false := by simp; omega
            clear hmm3 g0
            have hwk : IntKind.i64.wrap ((k : Int) + n) = (k : Int) + n := IntWalk.i64_in _ (by omega)
            go_wp2
            go_quiet (fail)
            go_wp2_with fail
            refine (join_one _ b1 zs _ ?_ (by omega)).mono ?_
            exact hzr
            rintro e w2 ⟨_, rfl, ⟨A2, c2, rfl, hv1, hv2, hv3⟩, hb2⟩
            have HV3 := Lib.hid hv3
            clear hv3
            have hbb : Below w.heap.size w w2 := below_then' (below_drewN' hb0 _) hb0.size hb2
            have r0 := (hb2.cell (p := ⟨w.heap.size, 0, none⟩) hz0).trans s0
            have f0 := (hb2.frozen (p := ⟨w.heap.size, 0, none⟩) hz0).trans t0
            have r1 := (hb2.cell (p := ⟨w.heap.size, 1, none⟩) hz0).trans s1
            have f1 := (hb2.frozen (p := ⟨w.heap.size, 1, none⟩) hz0).trans t1
            have r2 := (hb2.cell (p := ⟨w.heap.size, 2, none⟩) hz0).trans s2
            have f2 := (hb2.frozen (p := ⟨w.heap.size, 2, none⟩) hz0).trans t2
            go_wp2
            have hD : ((us.length : Int) - n) = (xs.length : Int) - dAt xs ys - dEnd xs ys := by
              rw [← HK.out, ← HN.out]; omega
            have hA : (k : Int) = dAt xs ys := by rw [← HK.out]
            have h0 : Fr w2 w0.heap.size (.slice A2 zs.length c2) zs := ⟨A2, c2, rfl, hv1, hv2, HV3.out⟩
            refine bodyPost_ret (v := .agg #[.int .i64 (k : Int), .int .i64 ((xs.length : Int) - n - k), .slice A2 zs.length c2]) (by simp [results, Try.results19, go_sem, r0, r1, r2]) rfl ⟨_, by rw [← hD, ← hA]; rw [show (us.length : Int) - n = (xs.length : Int) - n - k from by omega], ?_, ?_⟩
            · have h := (((h0).setCell (p := ⟨w.heap.size, 0, none⟩) hz0 (.int .i64 (k : Int))).setCell (p := ⟨w.heap.size, 1, none⟩) hz0 (.int .i64 ((xs.length : Int) - n - k))).setCell (p := ⟨w.heap.size, 2, none⟩) hz0 (.slice A2 zs.length c2)
              rw [← HZ'.out]
              exact h.sl
            · exact (((hbb).setCell (by simp) _).setCell (by simp) _).setCell (by simp) _
end Go.Proofs.Ytjdnajmljafkpaa
