import Derived.Test.YtjdnajmljafkpaaEdF
import Derived.Test.YtjdnajmljafkpaaLcp
import Derived.BigRegion
import Derived.RegionTactic
namespace Go.Proofs.Ytjdnajmljafkpaa
open Go.RowKit
set_option linter.unusedVariables false
set_option linter.unusedSimpArgs false

theorem run_min2 {P : Program} (ts : Array TypeId) (t : TypeId) (x y : Nat) : ∃ m : Nat, m ≤ x ∧ m ≤ y ∧ (∀ k, k < x → k < y → k < m) ∧
    ∀ w : World, (Builtin.min_ ts t #[.int .i64 (x : Int), .int .i64 (y : Int)]).run P w = .ok (.int .i64 (m : Int)) w := by
  by_cases h : (y : Int) < x
  · exact ⟨y, by omega, by omega, fun k _ h2 => h2, fun w => by simp [Builtin.min_, Builtin.min2, h]⟩
  · exact ⟨x, by omega, by omega, fun k h1 _ => h1, fun w => by simp [Builtin.min_, Builtin.min2, h]⟩

/-- A new block of three cells, as the walk sees it later. -/
theorem new_block (w : World) (x y z : Value) (t : TypeId) : ∃ w0 : World, Hid (w0 = w.alloc (.cells #[x, y, z] t)) ∧ Below w.heap.size w w0 ∧ w.heap.size < w0.heap.size ∧
    (w0.cell? ⟨w.heap.size, 0, none⟩ = some x ∧ w0.cell? ⟨w.heap.size, 1, none⟩ = some y ∧ w0.cell? ⟨w.heap.size, 2, none⟩ = some z) ∧
    (w0.frozen? ⟨w.heap.size, 0, none⟩ = false ∧ w0.frozen? ⟨w.heap.size, 1, none⟩ = false ∧ w0.frozen? ⟨w.heap.size, 2, none⟩ = false) :=
  ⟨_, rfl, box_below w _, by simp, ⟨by simp, by simp, by simp⟩, ⟨by simp, by simp, by simp⟩⟩

set_option maxHeartbeats 2000000 in
theorem diff_calls (A B : Option Addr) (c b : Nat) (xs ys : List Int) (w : World) (hx : Rd w A xs) (hy : Rd w B ys) (hc : xs.length ≤ c) (hb : ys.length ≤ b) (hn : xs.length ≤ 1000000) (hm : ys.length ≤ 1000000) :
    Calls Try.prog 18 #[.slice A xs.length c, .slice B ys.length b] w fun e w' =>
      ∃ v, e = .returned (.agg #[.int .i64 (dAt xs ys), .int .i64 ((xs.length : Int) - dAt xs ys - dEnd xs ys), v]) ∧ Sl w' v (dIns xs ys) ∧ Below w.heap.size w w' := by
  have HL0 : Hid (lcp (xs.drop 0) (ys.drop 0) + 0 = dAt xs ys) := by exact rfl
  obtain ⟨w0, HW0, hb0, hz0, ⟨s0, s1, s2⟩, ⟨t0, t1, t2⟩⟩ := new_block w (.int .i64 0) (.int .i64 0) (.slice none 0 0) 24
  have hx0 := hx.below hb0
  have hy0 := hy.below hb0
  obtain ⟨mn, hmn1, hmn2, hmn3, hmin⟩ := run_min2 (P := Try.prog) #[3, 3] 3 xs.length ys.length
  go_enter Try.func18, Try.ntmps18
  go_wp2
  go_loopw [5] (fun i wr => ∃ k : Nat, k ≤ xs.length ∧ k ≤ ys.length ∧ i = .int .i64 k ∧ Drawn w0 wr ∧ Hid (lcp (xs.drop k) (ys.drop k) + k = dAt xs ys))
    (fun i _ => xs.length - (intOf i).toNat)
  case atStart => exact ⟨0, Nat.zero_le _, Nat.zero_le _, rfl, by rw [HW0.out]; exact Drawn.refl _, HL0⟩
  case round =>
    obtain ⟨k, hk, hl, rfl, ⟨m, rfl⟩, HC⟩ := hrel
    by_cases hgo : k < mn ∧ el xs k = el ys k
    · obtain ⟨h1, h3⟩ := hgo
      have h1x : k < xs.length := by omega
      have h1y : k < ys.length := by omega
      obtain ⟨a, rfl, ha⟩ := hx0.at_ h1x
      obtain ⟨b, rfl, hb⟩ := hy0.at_ h1y
      have HR := Lib.hid (lcp_step h1x h1y h3)
      have e3 : (el xs k == el ys k) = true := by simp [h3]
      clear hmn3 h3
      go_wp2
      go_quiet (fail)
      go_wp2
      go_roundw
      case rel => exact ⟨k + 1, h1x, h1y, by go_num, by repeat (first | exact Drawn.refl _ | refine Drawn.step ?_ _), by have h1 := HC.out; have h2 := HR.out; exact (show _ = _ by omega)⟩
      case measure => simp [intOf]; omega
    · have hK : k = dAt xs ys := by
        have h1 := HC.out
        rw [lcp_stop fun h2 h3 h4 => hgo ⟨hmn3 k h2 h3, h4⟩] at h1
        omega
      have HK := Lib.hid hK
      clear hK
      obtain ⟨A1, us, c1, HU, hul, huc, hcutx, hur⟩ := cut_from' (P := Try.prog) 22 3 Try.underlying22 info_int hx0 c (k : Int) (by omega) (by omega) hc
      obtain ⟨B1, vs, b1, HV, hvl, hvc, hcuty, hvr⟩ := cut_from' (P := Try.prog) 22 3 Try.underlying22 info_int hy0 b (k : Int) (by omega) (by omega) hb
      rw [Int.toNat_natCast] at hul hvl
      have HU' := Lib.hid (show us = xs.drop k by rw [HU.out, Int.toNat_natCast])
      have HV' := Lib.hid (show vs = ys.drop k by rw [HV.out, Int.toNat_natCast])
      clear HU HV
      obtain ⟨mm, hmm1, hmm2, hmm3, hmin2⟩ := run_min2 (P := Try.prog) #[3, 3] 3 us.length vs.length
      have HM0 : Hid (lcp (us.reverse.drop 0) (vs.reverse.drop 0) + 0 = lcp us.reverse vs.reverse) := by exact rfl
      by_cases h1 : k < mn
      · have h1x : k < xs.length := by omega
        have h1y : k < ys.length := by omega
        have h3 : el xs k ≠ el ys k := fun h => hgo ⟨h1, h⟩
        have e3 : (el xs k == el ys k) = false := by simp [h3]
        obtain ⟨a, rfl, ha⟩ := hx0.at_ h1x
        obtain ⟨b', rfl, hb'⟩ := hy0.at_ h1y
        clear hgo hmn3 h3
        go_wp2
        go_quiet (fail)
        go_wp2
        go_quiet (fail)
        go_wp2
        go_loopw [8] (fun i wr => ∃ n : Nat, n ≤ us.length ∧ n ≤ vs.length ∧ i = .int .i64 n ∧ Drawn w0 wr ∧ Hid (lcp (us.reverse.drop n) (vs.reverse.drop n) + n = lcp us.reverse vs.reverse))
          (fun i _ => us.length - (intOf i).toNat)
        case atStart => exact ⟨0, Nat.zero_le _, Nat.zero_le _, rfl, by repeat (first | exact Drawn.refl _ | refine Drawn.step ?_ _), HM0⟩
        case round =>
          obtain ⟨n, hn1, hn2, rfl, ⟨m2, rfl⟩, HC2⟩ := hrel
          by_cases hgo2 : n < mm ∧ el us.reverse n = el vs.reverse n
          · obtain ⟨g1, g3⟩ := hgo2
            have g1x : n < us.length := by omega
            have g1y : n < vs.length := by omega
            have hcx := hur.at_ (k := us.length - 1 - n) (by omega)
            have hcy := hvr.at_ (k := vs.length - 1 - n) (by omega)
            first | (obtain ⟨p, hpe, hp⟩ := hcx; injection hpe with hpe; subst hpe) | obtain ⟨p, rfl, hp⟩ := hcx
            first | (obtain ⟨q, hqe, hq⟩ := hcy; injection hqe with hqe; subst hqe) | obtain ⟨q, rfl, hq⟩ := hcy
            have HR2 := Lib.hid (lcp_step (xs := us.reverse) (ys := vs.reverse) (by simpa using g1x) (by simpa using g1y) g3)
            have e4 : (el us (us.length - 1 - n) == el vs (vs.length - 1 - n)) = true := by rw [← el_reverse g1x, ← el_reverse g1y]; simp [g3]
            clear hmm3 g3
            go_wp2
            go_quiet (fail)
            go_wp2
            go_roundw
            case rel => exact ⟨n + 1, g1x, g1y, by go_num, by repeat (first | exact Drawn.refl _ | refine Drawn.step ?_ _), by have h1 := HC2.out; have h2 := HR2.out; exact (show _ = _ by omega)⟩
            case measure => simp [intOf]; omega
          · have hN : n = lcp us.reverse vs.reverse := by
              have h1 := HC2.out
              rw [lcp_stop fun h2 h3 h4 => hgo2 ⟨hmm3 n (by simpa using h2) (by simpa using h3), h4⟩] at h1
              omega
            have HN := Lib.hid (show n = dEnd xs ys by rw [hN, HU'.out, HV'.out, HK.out]; rfl)
            clear hN
            obtain ⟨zs, HZ, hzl, hcutz, hzr⟩ := cut_to' (P := Try.prog) 22 3 Try.underlying22 info_int hvr b1 ((vs.length : Int) - n) (by omega) (by omega) hvc
            have eZ : ((vs.length : Int) - n).toNat = ys.length - k - n := by omega
            have HZ' := Lib.hid (show zs = dIns xs ys by
              rw [HZ.out, eZ, HV'.out]
              unfold dIns
              rw [← HK.out, ← HN.out])
            clear eZ
            by_cases g1 : n < mm
            · have g1x : n < us.length := by omega
              have g1y : n < vs.length := by omega
              have g3 : el us.reverse n ≠ el vs.reverse n := fun h => hgo2 ⟨g1, h⟩
              have e4 : (el us (us.length - 1 - n) == el vs (vs.length - 1 - n)) = false := by rw [← el_reverse g1x, ← el_reverse g1y]; simp [g3]
              have hcx := hur.at_ (k := us.length - 1 - n) (by omega)
              have hcy := hvr.at_ (k := vs.length - 1 - n) (by omega)
              first | (obtain ⟨p, hpe, hp⟩ := hcx; injection hpe with hpe; subst hpe) | obtain ⟨p, rfl, hp⟩ := hcx
              first | (obtain ⟨q, hqe, hq⟩ := hcy; injection hqe with hqe; subst hqe) | obtain ⟨q, rfl, hq⟩ := hcy
              clear hgo2 hmm3 g3
              go_wp2
              go_quiet (fail)
              go_wp2_with fail
              refine (copied_calls _ b1 zs _ ?_ (by omega)).mono ?_
              exact hzr
              rintro e w2 ⟨g, cur, rfl, hg, hcur, hl2, hb2⟩
              have HG := Lib.hid hcur
              have HL := Lib.hid hl2
              clear hcur hl2
              have hbb : Below w.heap.size w w2 := below_then' (below_drewN' hb0 _) hb0.size hb2
              have r0 := (hb2.cell (p := ⟨w.heap.size, 0, none⟩) hz0).trans s0
              have f0 := (hb2.frozen (p := ⟨w.heap.size, 0, none⟩) hz0).trans t0
              have r1 := (hb2.cell (p := ⟨w.heap.size, 1, none⟩) hz0).trans s1
              have f1 := (hb2.frozen (p := ⟨w.heap.size, 1, none⟩) hz0).trans t1
              have r2 := (hb2.cell (p := ⟨w.heap.size, 2, none⟩) hz0).trans s2
              have f2 := (hb2.frozen (p := ⟨w.heap.size, 2, none⟩) hz0).trans t2
              go_wp2
              have hD : ((us.length : Int) - n) = (xs.length : Int) - dAt xs ys - dEnd xs ys := by
                rw [← HK.out, ← HN.out]; omega
              have hA : (k : Int) = dAt xs ys := by rw [← HK.out]
              refine bodyPost_ret (v := .agg #[.int .i64 (k : Int), .int .i64 ((us.length : Int) - n), .slice (some ⟨g, 0, none⟩) zs.length zs.length]) (by simp [results, Try.results18, go_sem, r0, r1, r2]) rfl ⟨_, by rw [← hD, ← hA], ?_, ?_⟩
              · have h := (((row_fr (B := w0.heap.size) hg HG.out HL.out (by omega)).setCell (p := ⟨w.heap.size, 0, none⟩) hz0 (.int .i64 (k : Int))).setCell (p := ⟨w.heap.size, 1, none⟩) hz0 (.int .i64 ((us.length : Int) - n))).setCell (p := ⟨w.heap.size, 2, none⟩) hz0 (.slice (some ⟨g, 0, none⟩) zs.length zs.length)
                rw [← HZ'.out]
                exact h.sl
              · exact (((hbb).setCell (by simp) _).setCell (by simp) _).setCell (by simp) _
            · have hd2 : decide ((n : Int) < (mm : Int)) = false := by simp; omega
              clear hgo2 hmm3
              go_wp2
              go_quiet (fail)
              go_wp2_with fail
              refine (copied_calls _ b1 zs _ ?_ (by omega)).mono ?_
              exact hzr
              rintro e w2 ⟨g, cur, rfl, hg, hcur, hl2, hb2⟩
              have HG := Lib.hid hcur
              have HL := Lib.hid hl2
              clear hcur hl2
              have hbb : Below w.heap.size w w2 := below_then' (below_drewN' hb0 _) hb0.size hb2
              have r0 := (hb2.cell (p := ⟨w.heap.size, 0, none⟩) hz0).trans s0
              have f0 := (hb2.frozen (p := ⟨w.heap.size, 0, none⟩) hz0).trans t0
              have r1 := (hb2.cell (p := ⟨w.heap.size, 1, none⟩) hz0).trans s1
              have f1 := (hb2.frozen (p := ⟨w.heap.size, 1, none⟩) hz0).trans t1
              have r2 := (hb2.cell (p := ⟨w.heap.size, 2, none⟩) hz0).trans s2
              have f2 := (hb2.frozen (p := ⟨w.heap.size, 2, none⟩) hz0).trans t2
              go_wp2
              have hD : ((us.length : Int) - n) = (xs.length : Int) - dAt xs ys - dEnd xs ys := by
                rw [← HK.out, ← HN.out]; omega
              have hA : (k : Int) = dAt xs ys := by rw [← HK.out]
              refine bodyPost_ret (v := .agg #[.int .i64 (k : Int), .int .i64 ((us.length : Int) - n), .slice (some ⟨g, 0, none⟩) zs.length zs.length]) (by simp [results, Try.results18, go_sem, r0, r1, r2]) rfl ⟨_, by rw [← hD, ← hA], ?_, ?_⟩
              · have h := (((row_fr (B := w0.heap.size) hg HG.out HL.out (by omega)).setCell (p := ⟨w.heap.size, 0, none⟩) hz0 (.int .i64 (k : Int))).setCell (p := ⟨w.heap.size, 1, none⟩) hz0 (.int .i64 ((us.length : Int) - n))).setCell (p := ⟨w.heap.size, 2, none⟩) hz0 (.slice (some ⟨g, 0, none⟩) zs.length zs.length)
                rw [← HZ'.out]
                exact h.sl
              · exact (((hbb).setCell (by simp) _).setCell (by simp) _).setCell (by simp) _
      · have hd : decide ((k : Int) < (mn : Int)) = false := by simp; omega
        clear hgo hmn3
        go_wp2
        go_quiet (fail)
        go_wp2
        go_quiet (fail)
        go_wp2
        go_loopw [8] (fun i wr => ∃ n : Nat, n ≤ us.length ∧ n ≤ vs.length ∧ i = .int .i64 n ∧ Drawn w0 wr ∧ Hid (lcp (us.reverse.drop n) (vs.reverse.drop n) + n = lcp us.reverse vs.reverse))
          (fun i _ => us.length - (intOf i).toNat)
        case atStart => exact ⟨0, Nat.zero_le _, Nat.zero_le _, rfl, by repeat (first | exact Drawn.refl _ | refine Drawn.step ?_ _), HM0⟩
        case round =>
          obtain ⟨n, hn1, hn2, rfl, ⟨m2, rfl⟩, HC2⟩ := hrel
          by_cases hgo2 : n < mm ∧ el us.reverse n = el vs.reverse n
          · obtain ⟨g1, g3⟩ := hgo2
            have g1x : n < us.length := by omega
            have g1y : n < vs.length := by omega
            have hcx := hur.at_ (k := us.length - 1 - n) (by omega)
            have hcy := hvr.at_ (k := vs.length - 1 - n) (by omega)
            first | (obtain ⟨p, hpe, hp⟩ := hcx; injection hpe with hpe; subst hpe) | obtain ⟨p, rfl, hp⟩ := hcx
            first | (obtain ⟨q, hqe, hq⟩ := hcy; injection hqe with hqe; subst hqe) | obtain ⟨q, rfl, hq⟩ := hcy
            have HR2 := Lib.hid (lcp_step (xs := us.reverse) (ys := vs.reverse) (by simpa using g1x) (by simpa using g1y) g3)
            have e4 : (el us (us.length - 1 - n) == el vs (vs.length - 1 - n)) = true := by rw [← el_reverse g1x, ← el_reverse g1y]; simp [g3]
            clear hmm3 g3
            go_wp2
            go_quiet (fail)
            go_wp2
            go_roundw
            case rel => exact ⟨n + 1, g1x, g1y, by go_num, by repeat (first | exact Drawn.refl _ | refine Drawn.step ?_ _), by have h1 := HC2.out; have h2 := HR2.out; exact (show _ = _ by omega)⟩
            case measure => simp [intOf]; omega
          · have hN : n = lcp us.reverse vs.reverse := by
              have h1 := HC2.out
              rw [lcp_stop fun h2 h3 h4 => hgo2 ⟨hmm3 n (by simpa using h2) (by simpa using h3), h4⟩] at h1
              omega
            have HN := Lib.hid (show n = dEnd xs ys by rw [hN, HU'.out, HV'.out, HK.out]; rfl)
            clear hN
            obtain ⟨zs, HZ, hzl, hcutz, hzr⟩ := cut_to' (P := Try.prog) 22 3 Try.underlying22 info_int hvr b1 ((vs.length : Int) - n) (by omega) (by omega) hvc
            have eZ : ((vs.length : Int) - n).toNat = ys.length - k - n := by omega
            have HZ' := Lib.hid (show zs = dIns xs ys by
              rw [HZ.out, eZ, HV'.out]
              unfold dIns
              rw [← HK.out, ← HN.out])
            clear eZ
            by_cases g1 : n < mm
            · have g1x : n < us.length := by omega
              have g1y : n < vs.length := by omega
              have g3 : el us.reverse n ≠ el vs.reverse n := fun h => hgo2 ⟨g1, h⟩
              have e4 : (el us (us.length - 1 - n) == el vs (vs.length - 1 - n)) = false := by rw [← el_reverse g1x, ← el_reverse g1y]; simp [g3]
              have hcx := hur.at_ (k := us.length - 1 - n) (by omega)
              have hcy := hvr.at_ (k := vs.length - 1 - n) (by omega)
              first | (obtain ⟨p, hpe, hp⟩ := hcx; injection hpe with hpe; subst hpe) | obtain ⟨p, rfl, hp⟩ := hcx
              first | (obtain ⟨q, hqe, hq⟩ := hcy; injection hqe with hqe; subst hqe) | obtain ⟨q, rfl, hq⟩ := hcy
              clear hgo2 hmm3 g3
              go_wp2
              go_quiet (fail)
              go_wp2_with fail
              refine (copied_calls _ b1 zs _ ?_ (by omega)).mono ?_
              exact hzr
              rintro e w2 ⟨g, cur, rfl, hg, hcur, hl2, hb2⟩
              have HG := Lib.hid hcur
              have HL := Lib.hid hl2
              clear hcur hl2
              have hbb : Below w.heap.size w w2 := below_then' (below_drewN' hb0 _) hb0.size hb2
              have r0 := (hb2.cell (p := ⟨w.heap.size, 0, none⟩) hz0).trans s0
              have f0 := (hb2.frozen (p := ⟨w.heap.size, 0, none⟩) hz0).trans t0
              have r1 := (hb2.cell (p := ⟨w.heap.size, 1, none⟩) hz0).trans s1
              have f1 := (hb2.frozen (p := ⟨w.heap.size, 1, none⟩) hz0).trans t1
              have r2 := (hb2.cell (p := ⟨w.heap.size, 2, none⟩) hz0).trans s2
              have f2 := (hb2.frozen (p := ⟨w.heap.size, 2, none⟩) hz0).trans t2
              go_wp2
              have hD : ((us.length : Int) - n) = (xs.length : Int) - dAt xs ys - dEnd xs ys := by
                rw [← HK.out, ← HN.out]; omega
              have hA : (k : Int) = dAt xs ys := by rw [← HK.out]
              refine bodyPost_ret (v := .agg #[.int .i64 (k : Int), .int .i64 ((us.length : Int) - n), .slice (some ⟨g, 0, none⟩) zs.length zs.length]) (by simp [results, Try.results18, go_sem, r0, r1, r2]) rfl ⟨_, by rw [← hD, ← hA], ?_, ?_⟩
              · have h := (((row_fr (B := w0.heap.size) hg HG.out HL.out (by omega)).setCell (p := ⟨w.heap.size, 0, none⟩) hz0 (.int .i64 (k : Int))).setCell (p := ⟨w.heap.size, 1, none⟩) hz0 (.int .i64 ((us.length : Int) - n))).setCell (p := ⟨w.heap.size, 2, none⟩) hz0 (.slice (some ⟨g, 0, none⟩) zs.length zs.length)
                rw [← HZ'.out]
                exact h.sl
              · exact (((hbb).setCell (by simp) _).setCell (by simp) _).setCell (by simp) _
            · have hd2 : decide ((n : Int) < (mm : Int)) = false := by simp; omega
              clear hgo2 hmm3
              go_wp2
              go_quiet (fail)
              go_wp2_with fail
              refine (copied_calls _ b1 zs _ ?_ (by omega)).mono ?_
              exact hzr
              rintro e w2 ⟨g, cur, rfl, hg, hcur, hl2, hb2⟩
              have HG := Lib.hid hcur
              have HL := Lib.hid hl2
              clear hcur hl2
              have hbb : Below w.heap.size w w2 := below_then' (below_drewN' hb0 _) hb0.size hb2
              have r0 := (hb2.cell (p := ⟨w.heap.size, 0, none⟩) hz0).trans s0
              have f0 := (hb2.frozen (p := ⟨w.heap.size, 0, none⟩) hz0).trans t0
              have r1 := (hb2.cell (p := ⟨w.heap.size, 1, none⟩) hz0).trans s1
              have f1 := (hb2.frozen (p := ⟨w.heap.size, 1, none⟩) hz0).trans t1
              have r2 := (hb2.cell (p := ⟨w.heap.size, 2, none⟩) hz0).trans s2
              have f2 := (hb2.frozen (p := ⟨w.heap.size, 2, none⟩) hz0).trans t2
              go_wp2
              have hD : ((us.length : Int) - n) = (xs.length : Int) - dAt xs ys - dEnd xs ys := by
                rw [← HK.out, ← HN.out]; omega
              have hA : (k : Int) = dAt xs ys := by rw [← HK.out]
              refine bodyPost_ret (v := .agg #[.int .i64 (k : Int), .int .i64 ((us.length : Int) - n), .slice (some ⟨g, 0, none⟩) zs.length zs.length]) (by simp [results, Try.results18, go_sem, r0, r1, r2]) rfl ⟨_, by rw [← hD, ← hA], ?_, ?_⟩
              · have h := (((row_fr (B := w0.heap.size) hg HG.out HL.out (by omega)).setCell (p := ⟨w.heap.size, 0, none⟩) hz0 (.int .i64 (k : Int))).setCell (p := ⟨w.heap.size, 1, none⟩) hz0 (.int .i64 ((us.length : Int) - n))).setCell (p := ⟨w.heap.size, 2, none⟩) hz0 (.slice (some ⟨g, 0, none⟩) zs.length zs.length)
                rw [← HZ'.out]
                exact h.sl
              · exact (((hbb).setCell (by simp) _).setCell (by simp) _).setCell (by simp) _
end Go.Proofs.Ytjdnajmljafkpaa
