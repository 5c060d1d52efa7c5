import Derived.Test.YtjdnajmljafkpaaEdI
namespace Go.Proofs.Ytjdnajmljafkpaa
open Go.RowKit
set_option linter.unusedVariables false
set_option linter.unusedSimpArgs false

set_option maxHeartbeats 4000000 in
theorem rmerge_yes (a d a' d' : Int) (A B : Option Addr) (c b : Nat) (xs ys : List Int) (w : World) (hx : Rd w A xs) (hy : Rd w B ys) (hcx : xs.length ≤ c) (hcy : ys.length ≤ b) (hn : xs.length ≤ 1000000) (hm : ys.length ≤ 1000000)
    (ha1 : a ≤ 9223372036854775807) (hb1 : a' ≤ 9223372036854775807) (h : mg a d a' d' xs.length) :
    Calls Try.prog 21 #[.agg #[.int .i64 a, .int .i64 d, .slice A xs.length c], .agg #[.int .i64 a', .int .i64 d', .slice B ys.length b]] w fun e w' =>
      ∃ v, e = .returned (.tuple #[.agg #[.int .i64 a, .int .i64 d, v], .bool true]) ∧ Sl w' v (repl xs (a' - a).toNat d'.toNat ys) ∧ Below w.heap.size w w' := by
  obtain ⟨h0, h1, h2, h3, h4, h5⟩ := h
  obtain ⟨w1, hw1⟩ : ∃ w1, w1 = blocks3 w a d a' d' A B xs.length ys.length c b := ⟨_, rfl⟩
  have hb0 : Below w.heap.size w w1 := by rw [hw1]; exact blocks3_below w a d a' d' A B xs.length ys.length c b
  have hz : w.heap.size + 2 < w1.heap.size := by rw [hw1]; simp [blocks3]
  have c3 : ∀ p : Addr, p.block < w.heap.size + 2 → w1.cell? p = ((w.alloc (.cells #[.int .i64 a, .int .i64 d, .slice A xs.length c] 24)).alloc (.cells #[.int .i64 a', .int .i64 d', .slice B ys.length b] 24)).cell? p := fun p h => by rw [hw1]; exact (box_below _ _).cell (by first | (simp; done) | (simp; omega))
  have c2 : ∀ p : Addr, p.block < w.heap.size + 1 → ((w.alloc (.cells #[.int .i64 a, .int .i64 d, .slice A xs.length c] 24)).alloc (.cells #[.int .i64 a', .int .i64 d', .slice B ys.length b] 24)).cell? p = (w.alloc (.cells #[.int .i64 a, .int .i64 d, .slice A xs.length c] 24)).cell? p := fun p h => (box_below _ _).cell (by first | (simp; done) | (simp; omega))
  have p0 : w1.cell? ⟨w.heap.size, 0, none⟩ = some (.int .i64 a) := (c3 ⟨w.heap.size, 0, none⟩ (by first | (simp; done) | (simp; omega))).trans ((c2 ⟨w.heap.size, 0, none⟩ (by first | (simp; done) | (simp; omega))).trans (by simp))
  have p1 : w1.cell? ⟨w.heap.size, 1, none⟩ = some (.int .i64 d) := (c3 ⟨w.heap.size, 1, none⟩ (by first | (simp; done) | (simp; omega))).trans ((c2 ⟨w.heap.size, 1, none⟩ (by first | (simp; done) | (simp; omega))).trans (by simp))
  have p2 : w1.cell? ⟨w.heap.size, 2, none⟩ = some (.slice A xs.length c) := (c3 ⟨w.heap.size, 2, none⟩ (by first | (simp; done) | (simp; omega))).trans ((c2 ⟨w.heap.size, 2, none⟩ (by first | (simp; done) | (simp; omega))).trans (by simp))
  have q0 : w1.cell? ⟨w.heap.size + 1, 0, none⟩ = some (.int .i64 a') := (c3 ⟨w.heap.size + 1, 0, none⟩ (by first | (simp; done) | (simp; omega))).trans (by simp)
  have q1 : w1.cell? ⟨w.heap.size + 1, 1, none⟩ = some (.int .i64 d') := (c3 ⟨w.heap.size + 1, 1, none⟩ (by first | (simp; done) | (simp; omega))).trans (by simp)
  have q2 : w1.cell? ⟨w.heap.size + 1, 2, none⟩ = some (.slice B ys.length b) := (c3 ⟨w.heap.size + 1, 2, none⟩ (by first | (simp; done) | (simp; omega))).trans (by simp)
  have r0 : w1.cell? ⟨w.heap.size + 2, 0, none⟩ = some (.int .i64 0) := by rw [hw1]; exact new_cell _ _ _ _ (by simp) 0
  have r1 : w1.cell? ⟨w.heap.size + 2, 1, none⟩ = some (.int .i64 0) := by rw [hw1]; exact new_cell _ _ _ _ (by simp) 1
  have r2 : w1.cell? ⟨w.heap.size + 2, 2, none⟩ = some (.slice none 0 0) := by rw [hw1]; exact new_cell _ _ _ _ (by simp) 2
  clear c2 c3
  have f0 : w1.frozen? ⟨w.heap.size + 2, 0, none⟩ = false := by rw [hw1]; exact new_frozen _ _ _ _ (by simp) 0
  have f1 : w1.frozen? ⟨w.heap.size + 2, 1, none⟩ = false := by rw [hw1]; exact new_frozen _ _ _ _ (by simp) 1
  have f2 : w1.frozen? ⟨w.heap.size + 2, 2, none⟩ = false := by rw [hw1]; exact new_frozen _ _ _ _ (by simp) 2
  have hne : ¬ w.heap.size = w.heap.size + 1 + 1 := by omega
  have HW := Lib.hid hw1
  have hwr : IntKind.i64.wrap (a' - a) = a' - a := IntWalk.i64_in _ (by omega)
  have HC := Lib.hid (chk_yes (a := a' - a) (d := d') (s := xs.length) (by omega))
  obtain ⟨us, HU, hul, hcut2, hur0⟩ := cut_to' (P := Try.prog) 22 3 Try.underlying22 info_int (hx.below hb0) c (a' - a) (by omega) (by omega) hcx
  obtain ⟨A1, zs, c1, HZ, hzl, hzc, hcut, hzr0⟩ := cut_from' (P := Try.prog) 22 3 Try.underlying22 info_int (hx.below hb0) c (a' - a + d') (by omega) (by omega) hcx
  have hwr2 : IntKind.i64.wrap (a' - a + d') = a' - a + d' := IntWalk.i64_in _ (by omega)
  have hyr0 := hy.below hb0
  obtain ⟨rs, hrs⟩ : ∃ rs, rs = us ++ ys ++ zs := ⟨_, rfl⟩
  have HRS := Lib.hid hrs
  clear hrs
  clear hw1
  go_enter Try.func21, Try.ntmps21
  go_wp2_with fail
  rw [show ((w.alloc (.cells #[.int .i64 a, .int .i64 d, .slice A xs.length c] 24)).alloc (.cells #[.int .i64 a', .int .i64 d', .slice B ys.length b] 24)).alloc (.cells #[.int .i64 0, .int .i64 0, .slice none 0 0] 24) = w1 from HW.out.symm]
  refine (rcheck_calls (a' - a) d' xs.length _ _ (by omega) (by omega)).mono ?_
  rintro e w3 ⟨rfl, hb3⟩
  rw [HC.out]
  have hz3 : w.heap.size + 2 < w3.heap.size := by have := hb3.size; omega
  have kp0 := (hb3.cell (p := ⟨w.heap.size, 0, none⟩) (by first | (simp; done) | (simp; omega))).trans p0
  have kq0 := (hb3.cell (p := ⟨w.heap.size + 1, 0, none⟩) (by first | (simp; done) | (simp; omega))).trans q0
  have kr0 := (hb3.cell (p := ⟨w.heap.size + 2, 0, none⟩) (by first | (simp; done) | (simp; omega))).trans r0
  have kf0 := (hb3.frozen (p := ⟨w.heap.size + 2, 0, none⟩) (by first | (simp; done) | (simp; omega))).trans f0
  have kp1 := (hb3.cell (p := ⟨w.heap.size, 1, none⟩) (by first | (simp; done) | (simp; omega))).trans p1
  have kq1 := (hb3.cell (p := ⟨w.heap.size + 1, 1, none⟩) (by first | (simp; done) | (simp; omega))).trans q1
  have kr1 := (hb3.cell (p := ⟨w.heap.size + 2, 1, none⟩) (by first | (simp; done) | (simp; omega))).trans r1
  have kf1 := (hb3.frozen (p := ⟨w.heap.size + 2, 1, none⟩) (by first | (simp; done) | (simp; omega))).trans f1
  have kp2 := (hb3.cell (p := ⟨w.heap.size, 2, none⟩) (by first | (simp; done) | (simp; omega))).trans p2
  have kq2 := (hb3.cell (p := ⟨w.heap.size + 1, 2, none⟩) (by first | (simp; done) | (simp; omega))).trans q2
  have kr2 := (hb3.cell (p := ⟨w.heap.size + 2, 2, none⟩) (by first | (simp; done) | (simp; omega))).trans r2
  have kf2 := (hb3.frozen (p := ⟨w.heap.size + 2, 2, none⟩) (by first | (simp; done) | (simp; omega))).trans f2
  have hbb := below_then' hb0 hb0.size hb3
  have hur := hur0.below hb3
  have hzr := hzr0.below hb3
  have hyr := hyr0.below hb3
  go_wp2_with fail
  go_region_held3 (fun w' => w'.cell? ⟨w.heap.size, 0, none⟩ = some (.int .i64 a) ∧ w'.cell? ⟨w.heap.size, 1, none⟩ = some (.int .i64 d) ∧ w'.cell? ⟨w.heap.size, 2, none⟩ = some (.slice A xs.length c) ∧ w'.cell? ⟨w.heap.size + 1, 0, none⟩ = some (.int .i64 a') ∧ w'.cell? ⟨w.heap.size + 1, 1, none⟩ = some (.int .i64 d') ∧ w'.cell? ⟨w.heap.size + 1, 2, none⟩ = some (.slice B ys.length b)) (first | exact ⟨kp0, kp1, kp2, kq0, kq1, kq2⟩ | exact ⟨xp0, xp1, xp2, xq0, xq1, xq2⟩ | exact ⟨keep3 xp0 (by show w.heap.size ≠ _; omega), keep3 xp1 (by show w.heap.size ≠ _; omega), keep3 xp2 (by show w.heap.size ≠ _; omega), keep3 xq0 (by show w.heap.size + 1 ≠ _; omega), keep3 xq1 (by show w.heap.size + 1 ≠ _; omega), keep3 xq2 (by show w.heap.size + 1 ≠ _; omega)⟩)
    ((go_at_call 29; refine (join_calls A B A1 c b c1 us ys zs _ ?_ ?_ ?_ (by omega) hm (by omega)).mono ?_; exact hur; exact hyr; exact hzr; rintro e w2 ⟨v, rfl, hv, hb2⟩; rw [← HRS.out] at hv; obtain ⟨A2, c2, rfl, hv1, hv2, hv3⟩ := hv; have HV := Lib.hid hv3; clear hv3; have hz2 : w.heap.size + 2 < w2.heap.size := (by have := hb2.size; simp at this; omega); have xp0 := (hb2.cell (p := ⟨w.heap.size, 0, none⟩) (by first | (simp; done) | (simp; omega))).trans kp0; have xq0 := (hb2.cell (p := ⟨w.heap.size + 1, 0, none⟩) (by first | (simp; done) | (simp; omega))).trans kq0; have xr0 := (hb2.cell (p := ⟨w.heap.size + 2, 0, none⟩) (by first | (simp; done) | (simp; omega))).trans kr0; have xf0 := (hb2.frozen (p := ⟨w.heap.size + 2, 0, none⟩) (by first | (simp; done) | (simp; omega))).trans kf0; have xp1 := (hb2.cell (p := ⟨w.heap.size, 1, none⟩) (by first | (simp; done) | (simp; omega))).trans kp1; have xq1 := (hb2.cell (p := ⟨w.heap.size + 1, 1, none⟩) (by first | (simp; done) | (simp; omega))).trans kq1; have xr1 := (hb2.cell (p := ⟨w.heap.size + 2, 1, none⟩) (by first | (simp; done) | (simp; omega))).trans kr1; have xf1 := (hb2.frozen (p := ⟨w.heap.size + 2, 1, none⟩) (by first | (simp; done) | (simp; omega))).trans kf1; have xp2 := (hb2.cell (p := ⟨w.heap.size, 2, none⟩) (by first | (simp; done) | (simp; omega))).trans kp2; have xq2 := (hb2.cell (p := ⟨w.heap.size + 1, 2, none⟩) (by first | (simp; done) | (simp; omega))).trans kq2; have xr2 := (hb2.cell (p := ⟨w.heap.size + 2, 2, none⟩) (by first | (simp; done) | (simp; omega))).trans kr2; have xf2 := (hb2.frozen (p := ⟨w.heap.size + 2, 2, none⟩) (by first | (simp; done) | (simp; omega))).trans kf2; skip))
  go_wp2
  refine bodyPost_ret (v := .tuple #[.agg #[.int .i64 a, .int .i64 d, .slice A2 rs.length c2], .bool true]) (by simp [results, Try.results21, go_sem, xr0, xr1, xr2]) rfl ⟨_, rfl, ?_, ?_⟩
  · have h0' : Fr w2 w3.heap.size (.slice A2 rs.length c2) (rs) := ⟨A2, c2, rfl, hv1, hv2, HV.out⟩
    have h := ((h0'.setCell (p := ⟨w.heap.size + 2, 0, none⟩) (by simp; omega) (.int .i64 a)).setCell (p := ⟨w.heap.size + 2, 1, none⟩) (by simp; omega) (.int .i64 d)).setCell (p := ⟨w.heap.size + 2, 2, none⟩) (by simp; omega) (.slice A2 rs.length c2)
    have h' := h.sl
    unfold repl
    rw [show (a' - a).toNat + d'.toNat = (a' - a + d').toNat from by omega, ← HU.out, ← HZ.out, ← HRS.out]
    exact h'
  · exact (((below_then' hbb.drew hbb.size hb2).setCell (by first | (simp; done) | (simp; omega)) _).setCell (by first | (simp; done) | (simp; omega)) _).setCell (by first | (simp; done) | (simp; omega)) _
end Go.Proofs.Ytjdnajmljafkpaa
