import Derived.Test.YtjdnajmljafkpaaEdD
import Derived.Deep.RegionHeld3
namespace Go.Proofs.Ytjdnajmljafkpaa
open Go.RowKit
set_option linter.unusedVariables false
set_option linter.unusedSimpArgs false

set_option maxHeartbeats 1000000 in
theorem rapply_yes (a d : Int) (C A : Option Addr) (b c : Nat) (xs ys : List Int) (w : World) (hx : Rd w A xs) (hy : Rd w C ys) (hc : xs.length ≤ c) (hcb : ys.length ≤ b)
    (hn : xs.length ≤ 1000000) (hm : ys.length ≤ 1000000) (h0 : 0 ≤ a) (h1 : 0 ≤ d) (h2 : a + d ≤ xs.length) :
    Calls Try.prog 23 #[.agg #[.int .i64 a, .int .i64 d, .slice C ys.length b], .slice A xs.length c] w fun e w' =>
      ∃ v, e = .returned (.tuple #[v, .int .i64 0]) ∧ Sl w' v (repl xs a.toNat d.toNat ys) ∧ Below w.heap.size w w' := by
  have HC := Lib.hid (chk_yes (a := a) (d := d) (s := xs.length) (by omega))
  have hb0 := box_below w (.cells #[.int .i64 a, .int .i64 d, .slice C ys.length b] 24)
  obtain ⟨A1, zs, c1, HZ, hzl, _, _, hcut, hcutR⟩ := cut_from (P := Try.prog) 22 3 Try.underlying22 info_int A c xs (a + d) (by omega) h2 hc
  obtain ⟨us, HU, hul, hcut2, hcut2R⟩ := cut_to (P := Try.prog) 22 3 Try.underlying22 info_int A c xs a h0 (by omega) hc
  go_enter Try.func23, Try.ntmps23
  go_wp2_with fail
  refine (rcheck_calls a d xs.length _ _ (by omega) (by omega)).mono ?_
  rintro e w1 ⟨rfl, hb1⟩
  rw [HC.out]
  have hc0 : w1.cell? ⟨w.heap.size, 0, none⟩ = some (.int .i64 a) := (hb1.cell (p := ⟨w.heap.size, 0, none⟩) (by first | (simp; done) | (simp; omega))).trans (by simp)
  have hc1 : w1.cell? ⟨w.heap.size, 1, none⟩ = some (.int .i64 d) := (hb1.cell (p := ⟨w.heap.size, 1, none⟩) (by first | (simp; done) | (simp; omega))).trans (by simp)
  have hc2 : w1.cell? ⟨w.heap.size, 2, none⟩ = some (.slice C ys.length b) := (hb1.cell (p := ⟨w.heap.size, 2, none⟩) (by first | (simp; done) | (simp; omega))).trans (by simp)
  have hbb := below_then' hb0 hb0.size hb1
  have H1 := Lib.hid (hcut2R w1 (hx.below hbb))
  have H2 := Lib.hid (hy.below hbb)
  have H3 := Lib.hid (hcutR w1 (hx.below hbb))
  have hwr : IntKind.i64.wrap (a + d) = a + d := IntWalk.i64_in _ (by omega)
  go_wp2_with fail
  go_region_held3 (fun w' => w'.cell? ⟨w.heap.size, 0, none⟩ = some (.int .i64 a) ∧ w'.cell? ⟨w.heap.size, 1, none⟩ = some (.int .i64 d) ∧ w'.cell? ⟨w.heap.size, 2, none⟩ = some (.slice C ys.length b)) (first | exact ⟨hc0, hc1, hc2⟩ | exact ⟨q0, q1, q2⟩)
    ((go_at_call 29; refine (join_calls A C A1 c b c1 us ys zs _ ?_ ?_ ?_ (by omega) hm (by omega)).mono ?_; exact H1.out; exact H2.out; exact H3.out; rintro e w2 ⟨v, rfl, hv, hb2⟩; have q0 := (hb2.cell (p := ⟨w.heap.size, 0, none⟩) (by have := hb1.size; simp at this ⊢; omega)).trans hc0; have q1 := (hb2.cell (p := ⟨w.heap.size, 1, none⟩) (by have := hb1.size; simp at this ⊢; omega)).trans hc1; have q2 := (hb2.cell (p := ⟨w.heap.size, 2, none⟩) (by have := hb1.size; simp at this ⊢; omega)).trans hc2))
  go_wp2
  go_ret2
  refine ⟨v, rfl, ?_, below_then' hbb.drew hbb.size hb2⟩
  rw [HU.out, HZ.out, show (a + d).toNat = a.toNat + d.toNat from by omega] at hv
  exact hv.sl

set_option maxHeartbeats 400000 in
theorem invert_no (a d : Int) (v : Value) (A : Option Addr) (c n : Nat) (w : World) (ha : -9223372036854775808 ≤ a) (hn : n ≤ 1000000) (h : chk a d n ≠ 0) :
    Calls Try.prog 25 #[.agg #[.int .i64 a, .int .i64 d, v], .slice A n c] w fun e w' => e = .returned (.tuple #[.agg #[.int .i64 0, .int .i64 0, .slice none 0 0], .int .i64 1]) ∧ Below w.heap.size w w' := by
  have hch : chk a d n = 1 := by
    unfold chk at h ⊢; split <;> simp_all
  have HC := Lib.hid hch
  clear hch h
  have hb0 := (box_below w (.cells #[.int .i64 a, .int .i64 d, v] 24)).alloc (by simp) (.cells #[.int .i64 0, .int .i64 0, .slice none 0 0] 24)
  go_enter Try.func25, Try.ntmps25
  go_wp2_with fail
  refine (check_calls a d n v _ ha (by omega)).mono ?_
  rintro e w1 ⟨rfl, hb1⟩
  rw [HC.out]
  obtain ⟨hc, hf⟩ := bcell hb1
  have hz : w.heap.size + 1 < w1.heap.size := by have := hb1.size; simp at this; omega
  go_wp2
  exact bodyPost_ret (v := .tuple #[.agg #[.int .i64 0, .int .i64 0, .slice none 0 0], .int .i64 1]) (by simp [results, Try.results25, go_sem, hc, hz]) rfl ⟨rfl, (((below_then' hb0 hb0.size hb1).setCell (by simp) _).setCell (by simp) _).setCell (by simp) _⟩

set_option maxHeartbeats 1000000 in
theorem invert_yes (a d : Int) (C A : Option Addr) (b c n : Nat) (xs : List Int) (w : World) (hx : Rd w A xs) (hc : xs.length ≤ c)
    (hn : xs.length ≤ 1000000) (hm : n ≤ 1000000) (h0 : 0 ≤ a) (h1 : 0 ≤ d) (h2 : a + d ≤ xs.length) :
    Calls Try.prog 25 #[.agg #[.int .i64 a, .int .i64 d, .slice C n b], .slice A xs.length c] w fun e w' =>
      ∃ v, e = .returned (.tuple #[.agg #[.int .i64 a, .int .i64 n, v], .int .i64 0]) ∧ Sl w' v ((xs.take (a.toNat + d.toNat)).drop a.toNat) ∧ Below w.heap.size w w' := by
  have HC := Lib.hid (chk_yes (a := a) (d := d) (s := xs.length) (by omega))
  have hb0 := (box_below w (.cells #[.int .i64 a, .int .i64 d, .slice C n b] 24)).alloc (by simp) (.cells #[.int .i64 0, .int .i64 0, .slice none 0 0] 24)
  obtain ⟨A1, zs, c1, HZ, hzl, hzc, _, hcut, hcutR⟩ := cut_mid (P := Try.prog) 22 3 Try.underlying22 info_int A c xs a (a + d) h0 (by omega) h2 hc
  go_enter Try.func25, Try.ntmps25
  go_wp2_with fail
  refine (check_calls a d xs.length _ _ (by omega) (by omega)).mono ?_
  rintro e w1 ⟨rfl, hb1⟩
  rw [HC.out]
  have hbb := below_then' hb0 hb0.size hb1
  have hz : w.heap.size + 1 < w1.heap.size := by have := hb1.size; simp at this; omega
  have p0 : w1.cell? ⟨w.heap.size, 0, none⟩ = some (.int .i64 a) := (hb1.cell (p := ⟨w.heap.size, 0, none⟩) (by first | (simp; done) | (simp; omega))).trans (by simp)
  have p1 : w1.cell? ⟨w.heap.size, 1, none⟩ = some (.int .i64 d) := (hb1.cell (p := ⟨w.heap.size, 1, none⟩) (by first | (simp; done) | (simp; omega))).trans (by simp)
  have p2 : w1.cell? ⟨w.heap.size, 2, none⟩ = some (.slice C n b) := (hb1.cell (p := ⟨w.heap.size, 2, none⟩) (by first | (simp; done) | (simp; omega))).trans (by simp)
  have s0 : w1.cell? ⟨w.heap.size + 1, 0, none⟩ = some (.int .i64 0) := (hb1.cell (p := ⟨w.heap.size + 1, 0, none⟩) (by first | (simp; done) | (simp; omega))).trans (by simp)
  have t0 : w1.frozen? ⟨w.heap.size + 1, 0, none⟩ = false := (hb1.frozen (p := ⟨w.heap.size + 1, 0, none⟩) (by first | (simp; done) | (simp; omega))).trans (by simp)
  have s1 : w1.cell? ⟨w.heap.size + 1, 1, none⟩ = some (.int .i64 0) := (hb1.cell (p := ⟨w.heap.size + 1, 1, none⟩) (by first | (simp; done) | (simp; omega))).trans (by simp)
  have t1 : w1.frozen? ⟨w.heap.size + 1, 1, none⟩ = false := (hb1.frozen (p := ⟨w.heap.size + 1, 1, none⟩) (by first | (simp; done) | (simp; omega))).trans (by simp)
  have s2 : w1.cell? ⟨w.heap.size + 1, 2, none⟩ = some (.slice none 0 0) := (hb1.cell (p := ⟨w.heap.size + 1, 2, none⟩) (by first | (simp; done) | (simp; omega))).trans (by simp)
  have t2 : w1.frozen? ⟨w.heap.size + 1, 2, none⟩ = false := (hb1.frozen (p := ⟨w.heap.size + 1, 2, none⟩) (by first | (simp; done) | (simp; omega))).trans (by simp)
  have H3 := Lib.hid (hcutR w1 (hx.below hbb))
  have hwr : IntKind.i64.wrap (a + d) = a + d := IntWalk.i64_in _ (by omega)
  go_wp2_with fail
  go_region_held3 (fun w' => w'.cell? ⟨w.heap.size, 0, none⟩ = some (.int .i64 a) ∧ w'.cell? ⟨w.heap.size, 1, none⟩ = some (.int .i64 d) ∧ w'.cell? ⟨w.heap.size, 2, none⟩ = some (.slice C n b)) (first | exact ⟨p0, p1, p2⟩ | exact ⟨q0, q1, q2⟩ | go_keep)
    ((go_at_call 28; refine (copied_calls A1 c1 zs _ ?_ (by omega)).mono ?_; exact H3.out; rintro e w2 ⟨g, cur, rfl, hg, hcur, hl, hb2⟩; have HG := Lib.hid hcur; have HL := Lib.hid hl; clear hcur hl; have hz2 : w.heap.size + 1 < w2.heap.size := (by have := hb2.size; simp at this; omega); have r0 := (hb2.cell (p := ⟨w.heap.size + 1, 0, none⟩) (by first | (simp; done) | (simp; omega))).trans s0; have f0 := (hb2.frozen (p := ⟨w.heap.size + 1, 0, none⟩) (by first | (simp; done) | (simp; omega))).trans t0; have r1 := (hb2.cell (p := ⟨w.heap.size + 1, 1, none⟩) (by first | (simp; done) | (simp; omega))).trans s1; have f1 := (hb2.frozen (p := ⟨w.heap.size + 1, 1, none⟩) (by first | (simp; done) | (simp; omega))).trans t1; have r2 := (hb2.cell (p := ⟨w.heap.size + 1, 2, none⟩) (by first | (simp; done) | (simp; omega))).trans s2; have f2 := (hb2.frozen (p := ⟨w.heap.size + 1, 2, none⟩) (by first | (simp; done) | (simp; omega))).trans t2;  have q0 := (hb2.cell (p := ⟨w.heap.size, 0, none⟩) (by first | (simp; done) | (simp; omega))).trans p0; have q1 := (hb2.cell (p := ⟨w.heap.size, 1, none⟩) (by first | (simp; done) | (simp; omega))).trans p1; have q2 := (hb2.cell (p := ⟨w.heap.size, 2, none⟩) (by first | (simp; done) | (simp; omega))).trans p2))
  go_wp2
  refine bodyPost_ret (v := .tuple #[.agg #[.int .i64 a, .int .i64 n, .slice (some ⟨g, 0, none⟩) zs.length zs.length], .int .i64 0]) (by simp [results, Try.results25, go_sem, r0, r1, r2]) rfl ⟨_, rfl, ?_, ?_⟩
  · have h := (((row_fr hg HG.out HL.out (by omega)).setCell (p := ⟨w.heap.size + 1, 0, none⟩) hz (.int .i64 a)).setCell (p := ⟨w.heap.size + 1, 1, none⟩) hz (.int .i64 n)).setCell (p := ⟨w.heap.size + 1, 2, none⟩) hz (.slice (some ⟨g, 0, none⟩) zs.length zs.length)
    have h' := h.sl
    rw [show a.toNat + d.toNat = (a + d).toNat from by omega, ← HZ.out]
    exact h'
  · exact (((below_then' hbb.drew hbb.size hb2).setCell (by simp) _).setCell (by simp) _).setCell (by simp) _
end Go.Proofs.Ytjdnajmljafkpaa
