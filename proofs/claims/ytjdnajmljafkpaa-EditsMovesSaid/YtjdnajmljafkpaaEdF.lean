import Derived.Test.YtjdnajmljafkpaaEdE
namespace Go.Proofs.Ytjdnajmljafkpaa
open Go.RowKit
set_option linter.unusedVariables false
set_option linter.unusedSimpArgs false

theorem join_one (B : Option Addr) (b : Nat) (ys : List Int) (w : World) (hy : Rd w B ys) (hm : ys.length ≤ 1000000) :
    Calls Try.prog 29 #[.slice none 0 0, .slice B ys.length b, .slice none 0 0] w fun e w' => ∃ v, e = .returned v ∧ Fr w' w.heap.size v ys ∧ Below w.heap.size w w' :=
  (join_calls none B none 0 b 0 [] ys [] w (Rd.nil _ _) hy (Rd.nil _ _) (by simp) hm (by simp)).mono fun e w' h => by simpa using h

set_option maxHeartbeats 400000 in
theorem rinvert_no (a d : Int) (v : Value) (A : Option Addr) (c n : Nat) (w : World) (ha : -9223372036854775808 ≤ a) (hn : n ≤ 1000000) (h : chk a d n ≠ 0) :
    Calls Try.prog 26 #[.agg #[.int .i64 a, .int .i64 d, v], .slice A n c] w fun e w' => e = .returned (.tuple #[.agg #[.int .i64 0, .int .i64 0, .slice none 0 0], .int .i64 1]) ∧ Below w.heap.size w w' := by
  have hch : chk a d n = 1 := by
    unfold chk at h ⊢; split <;> simp_all
  have HC := Lib.hid hch
  clear hch h
  have hb0 := (box_below w (.cells #[.int .i64 a, .int .i64 d, v] 24)).alloc (by simp) (.cells #[.int .i64 0, .int .i64 0, .slice none 0 0] 24)
  go_enter Try.func26, Try.ntmps26
  go_wp2_with fail
  refine (rcheck_calls a d n v _ ha (by omega)).mono ?_
  rintro e w1 ⟨rfl, hb1⟩
  rw [HC.out]
  obtain ⟨hc, hf⟩ := bcell hb1
  have hz : w.heap.size + 1 < w1.heap.size := by have := hb1.size; simp at this; omega
  go_wp2
  exact bodyPost_ret (v := .tuple #[.agg #[.int .i64 0, .int .i64 0, .slice none 0 0], .int .i64 1]) (by simp [results, Try.results26, go_sem, hc, hz]) rfl ⟨rfl, (((below_then' hb0 hb0.size hb1).setCell (by simp) _).setCell (by simp) _).setCell (by simp) _⟩

set_option maxHeartbeats 1000000 in
theorem rinvert_yes (a d : Int) (C A : Option Addr) (b c n : Nat) (xs : List Int) (w : World) (hx : Rd w A xs) (hc : xs.length ≤ c)
    (hn : xs.length ≤ 1000000) (hm : n ≤ 1000000) (h0 : 0 ≤ a) (h1 : 0 ≤ d) (h2 : a + d ≤ xs.length) :
    Calls Try.prog 26 #[.agg #[.int .i64 a, .int .i64 d, .slice C n b], .slice A xs.length c] w fun e w' =>
      ∃ v, e = .returned (.tuple #[.agg #[.int .i64 a, .int .i64 n, v], .int .i64 0]) ∧ Sl w' v ((xs.take (a.toNat + d.toNat)).drop a.toNat) ∧ Below w.heap.size w w' := by
  have HC := Lib.hid (chk_yes (a := a) (d := d) (s := xs.length) (by omega))
  have hb0 := (box_below w (.cells #[.int .i64 a, .int .i64 d, .slice C n b] 24)).alloc (by simp) (.cells #[.int .i64 0, .int .i64 0, .slice none 0 0] 24)
  obtain ⟨A1, zs, c1, HZ, hzl, hzc, _, hcut, hcutR⟩ := cut_mid (P := Try.prog) 22 3 Try.underlying22 info_int A c xs a (a + d) h0 (by omega) h2 hc
  go_enter Try.func26, Try.ntmps26
  go_wp2_with fail
  refine (rcheck_calls a d xs.length _ _ (by omega) (by omega)).mono ?_
  rintro e w1 ⟨rfl, hb1⟩
  rw [HC.out]
  have hbb := below_then' hb0 hb0.size hb1
  have hz : w.heap.size + 1 < w1.heap.size := by have := hb1.size; simp at this; omega
  have p0 : w1.cell? ⟨w.heap.size, 0, none⟩ = some (.int .i64 a) := (hb1.cell (p := ⟨w.heap.size, 0, none⟩) (by first | (simp; done) | (simp; omega))).trans (by simp)
  have p1 : w1.cell? ⟨w.heap.size, 1, none⟩ = some (.int .i64 d) := (hb1.cell (p := ⟨w.heap.size, 1, none⟩) (by first | (simp; done) | (simp; omega))).trans (by simp)
  have p2 : w1.cell? ⟨w.heap.size, 2, none⟩ = some (.slice C n b) := (hb1.cell (p := ⟨w.heap.size, 2, none⟩) (by first | (simp; done) | (simp; omega))).trans (by simp)
  have s0 : w1.cell? ⟨w.heap.size + 1, 0, none⟩ = some (.int .i64 0) := (hb1.cell (p := ⟨w.heap.size + 1, 0, none⟩) (by first | (simp; done) | (simp; omega))).trans (by simp)
  have s1 : w1.cell? ⟨w.heap.size + 1, 1, none⟩ = some (.int .i64 0) := (hb1.cell (p := ⟨w.heap.size + 1, 1, none⟩) (by first | (simp; done) | (simp; omega))).trans (by simp)
  have s2 : w1.cell? ⟨w.heap.size + 1, 2, none⟩ = some (.slice none 0 0) := (hb1.cell (p := ⟨w.heap.size + 1, 2, none⟩) (by first | (simp; done) | (simp; omega))).trans (by simp)
  have t0 : w1.frozen? ⟨w.heap.size + 1, 0, none⟩ = false := (hb1.frozen (p := ⟨w.heap.size + 1, 0, none⟩) (by first | (simp; done) | (simp; omega))).trans (by simp)
  have t1 : w1.frozen? ⟨w.heap.size + 1, 1, none⟩ = false := (hb1.frozen (p := ⟨w.heap.size + 1, 1, none⟩) (by first | (simp; done) | (simp; omega))).trans (by simp)
  have t2 : w1.frozen? ⟨w.heap.size + 1, 2, none⟩ = false := (hb1.frozen (p := ⟨w.heap.size + 1, 2, none⟩) (by first | (simp; done) | (simp; omega))).trans (by simp)
  have H3 := Lib.hid (hcutR w1 (hx.below hbb))
  have hwr : IntKind.i64.wrap (a + d) = a + d := IntWalk.i64_in _ (by omega)
  go_wp2_with fail
  go_region_held3 (fun w' => w'.cell? ⟨w.heap.size, 0, none⟩ = some (.int .i64 a) ∧ w'.cell? ⟨w.heap.size, 1, none⟩ = some (.int .i64 d) ∧ w'.cell? ⟨w.heap.size, 2, none⟩ = some (.slice C n b)) (first | exact ⟨p0, p1, p2⟩ | exact ⟨q0, q1, q2⟩ | go_keep)
    ((go_at_call 29; refine (join_one A1 c1 zs _ ?_ (by omega)).mono ?_; exact H3.out; rintro e w2 ⟨_, rfl, ⟨A2, c2, rfl, hv1, hv2, hv3⟩, hb2⟩; have HV := Lib.hid hv3; clear hv3; have hz2 : w.heap.size + 1 < w2.heap.size := (by have := hb2.size; simp at this; omega); have r0 := (hb2.cell (p := ⟨w.heap.size + 1, 0, none⟩) (by first | (simp; done) | (simp; omega))).trans s0; have f0 := (hb2.frozen (p := ⟨w.heap.size + 1, 0, none⟩) (by first | (simp; done) | (simp; omega))).trans t0; have q0 := (hb2.cell (p := ⟨w.heap.size, 0, none⟩) (by first | (simp; done) | (simp; omega))).trans p0; have r1 := (hb2.cell (p := ⟨w.heap.size + 1, 1, none⟩) (by first | (simp; done) | (simp; omega))).trans s1; have f1 := (hb2.frozen (p := ⟨w.heap.size + 1, 1, none⟩) (by first | (simp; done) | (simp; omega))).trans t1; have q1 := (hb2.cell (p := ⟨w.heap.size, 1, none⟩) (by first | (simp; done) | (simp; omega))).trans p1; have r2 := (hb2.cell (p := ⟨w.heap.size + 1, 2, none⟩) (by first | (simp; done) | (simp; omega))).trans s2; have f2 := (hb2.frozen (p := ⟨w.heap.size + 1, 2, none⟩) (by first | (simp; done) | (simp; omega))).trans t2; have q2 := (hb2.cell (p := ⟨w.heap.size, 2, none⟩) (by first | (simp; done) | (simp; omega))).trans p2; skip))
  go_wp2
  refine bodyPost_ret (v := .tuple #[.agg #[.int .i64 a, .int .i64 n, .slice A2 zs.length c2], .int .i64 0]) (by simp [results, Try.results26, go_sem, r0, r1, r2]) rfl ⟨_, rfl, ?_, ?_⟩
  · have h0' : Fr w2 w1.heap.size (.slice A2 zs.length c2) zs := ⟨A2, c2, rfl, hv1, hv2, HV.out⟩
    have h := ((h0'.setCell (p := ⟨w.heap.size + 1, 0, none⟩) hz (.int .i64 a)).setCell (p := ⟨w.heap.size + 1, 1, none⟩) hz (.int .i64 n)).setCell (p := ⟨w.heap.size + 1, 2, none⟩) hz (.slice A2 zs.length c2)
    have h' := h.sl
    rw [show a.toNat + d.toNat = (a + d).toNat from by omega, ← HZ.out]
    exact h'
  · exact (((below_then' hbb.drew hbb.size hb2).setCell (by simp) _).setCell (by simp) _).setCell (by simp) _

/-- What Shift answers. -/
def shf (a d n t : Int) : Int := if a < 0 ∨ d < 0 ∨ t ≤ a then t else if d ≤ t - a then t - d + n else a

set_option maxHeartbeats 400000 in
theorem shift_calls (a d t : Int) (A : Option Addr) (n c : Nat) (w : World) (hn : n ≤ 1000000) (hd : d ≤ 1000000000000) (ha : -9223372036854775808 ≤ a) (ht : t ≤ 1000000000000) :
    Calls Try.prog 27 #[.agg #[.int .i64 a, .int .i64 d, .slice A n c], .int .i64 t] w fun e w' => e = .returned (.int .i64 (shf a d n t)) ∧ Below w.heap.size w w' := by
  by_cases h1 : a < 0
  · have HC := Lib.hid (show shf a d n t = t by unfold shf; rw [if_pos (by omega)])
    go_enter Try.func27, Try.ntmps27
    go_wp2
    go_ret
    exact ⟨ret_int HC.out.symm, box_below _ _⟩
  by_cases h2 : d < 0
  · have HC := Lib.hid (show shf a d n t = t by unfold shf; rw [if_pos (by omega)])
    go_enter Try.func27, Try.ntmps27
    go_wp2
    go_ret
    exact ⟨ret_int HC.out.symm, box_below _ _⟩
  by_cases h3 : t ≤ a
  · have HC := Lib.hid (show shf a d n t = t by unfold shf; rw [if_pos (by omega)])
    go_enter Try.func27, Try.ntmps27
    go_wp2
    go_ret
    exact ⟨ret_int HC.out.symm, box_below _ _⟩
  by_cases h4 : d ≤ t - a
  · have HC := Lib.hid (show shf a d n t = t - d + n by unfold shf; rw [if_neg (by omega), if_pos (by omega)])
    go_enter Try.func27, Try.ntmps27
    go_wp2
    go_ret
    exact ⟨ret_int HC.out.symm, box_below _ _⟩
  · have HC := Lib.hid (show shf a d n t = a by unfold shf; rw [if_neg (by omega), if_neg (by omega)])
    go_enter Try.func27, Try.ntmps27
    go_wp2
    go_ret
    exact ⟨ret_int HC.out.symm, box_below _ _⟩

set_option maxHeartbeats 400000 in
theorem same_calls (a d a' d' : Int) (A B : Option Addr) (c b : Nat) (xs ys : List Int) (w : World) (hx : Rd w A xs) (hy : Rd w B ys) (hn : xs.length ≤ 1000000) (hm : ys.length ≤ 1000000) :
    Calls Try.prog 17 #[.agg #[.int .i64 a, .int .i64 d, .slice A xs.length c], .agg #[.int .i64 a', .int .i64 d', .slice B ys.length b]] w fun e w' =>
      e = .returned (.bool (decide (a = a' ∧ d = d' ∧ xs = ys))) ∧ Below w.heap.size w w' := by
  have hb0 := (box_below w (.cells #[.int .i64 a, .int .i64 d, .slice A xs.length c] 24)).alloc (by simp) (.cells #[.int .i64 a', .int .i64 d', .slice B ys.length b] 24)
  by_cases h1 : a = a'
  · by_cases h2 : d = d'
    · have hE : decide (a = a' ∧ d = d' ∧ xs = ys) = decide (xs = ys) := by simp [h1, h2]
      have HC := Lib.hid hE
      have e1 : (a == a') = true := by simp [h1]
      have e2 : (d == d') = true := by simp [h2]
      clear h1 h2 hE
      go_enter Try.func17, Try.ntmps17
      go_wp2_with (go_at_call 24; refine (equal_calls A B c b xs ys _ (hx.below hb0) (hy.below hb0) (by omega) (by omega)).mono ?_; rintro e w' ⟨rfl, hd⟩)
      go_ret
      exact ⟨ret_bool HC.out.symm, below_then' hb0 hb0.size hd.below⟩
    · have HC := Lib.hid (show decide (a = a' ∧ d = d' ∧ xs = ys) = false by simp [h2])
      have e1 : (a == a') = true := by simp [h1]
      have e2 : (d == d') = false := by simp [h2]
      clear h1 h2
      go_enter Try.func17, Try.ntmps17
      go_wp2
      go_ret
      exact ⟨ret_bool HC.out.symm, hb0⟩
  · have HC := Lib.hid (show decide (a = a' ∧ d = d' ∧ xs = ys) = false by simp [h1])
    have e1 : (a == a') = false := by simp [h1]
    clear h1
    go_enter Try.func17, Try.ntmps17
    go_wp2
    go_ret
    exact ⟨ret_bool HC.out.symm, hb0⟩
end Go.Proofs.Ytjdnajmljafkpaa
