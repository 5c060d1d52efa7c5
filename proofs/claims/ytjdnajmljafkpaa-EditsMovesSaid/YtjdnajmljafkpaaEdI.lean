import Derived.Test.YtjdnajmljafkpaaEdG
namespace Go.Proofs.Ytjdnajmljafkpaa
open Go.RowKit
set_option linter.unusedVariables false
set_option linter.unusedSimpArgs false

theorem new_cell (W : World) (cs : Array Value) (t : TypeId) (n : Nat) (hn : n = W.heap.size) (j : Nat) : (W.alloc (.cells cs t)).cell? ⟨n, j, none⟩ = cs[j]? := by
  subst hn
  exact cell_of_row _ _ j cs t (0, 0) (heap_alloc_new W _)
theorem new_frozen (W : World) (cs : Array Value) (t : TypeId) (n : Nat) (hn : n = W.heap.size) (j : Nat) : (W.alloc (.cells cs t)).frozen? ⟨n, j, none⟩ = false := by
  subst hn
  have h := heap_alloc_new W (.cells cs t)
  simp only [World.frozen?, h]
  simp
theorem keep3 {w : World} {g : Nat} {v0 v1 v2 : Value} {q : Addr} {r : Option Value} (h : w.cell? q = r) (hne : q.block ≠ g) :
    (((w.setCell ⟨g, 0, none⟩ v0).setCell ⟨g, 1, none⟩ v1).setCell ⟨g, 2, none⟩ v2).cell? q = r := by
  have e : ∀ (W : World) (j : Nat) (v : Value), (W.setCell ⟨g, j, none⟩ v).cell? q = W.cell? q := fun W j v => World.cell?_of_block (Below.heap_setCell W ⟨g, j, none⟩ v q.block hne)
  rw [e, e, e]; exact h

/-- Merge merges. -/
def mg (a d a' d' : Int) (n : Nat) : Prop := 0 ≤ a ∧ 0 ≤ d ∧ a ≤ a' ∧ 0 ≤ d' ∧ a' - a ≤ n ∧ d' ≤ n - (a' - a)
instance (a d a' d' : Int) (n : Nat) : Decidable (mg a d a' d' n) := by unfold mg; infer_instance

abbrev blocks3 (w : World) (a d a' d' : Int) (A B : Option Addr) (n m c b : Nat) : World :=
  ((w.alloc (.cells #[.int .i64 a, .int .i64 d, .slice A n c] 24)).alloc (.cells #[.int .i64 a', .int .i64 d', .slice B m b] 24)).alloc (.cells #[.int .i64 0, .int .i64 0, .slice none 0 0] 24)
theorem blocks3_below (w : World) (a d a' d' : Int) (A B : Option Addr) (n m c b : Nat) : Below w.heap.size w (blocks3 w a d a' d' A B n m c b) :=
  (((Below.refl _ _).alloc (Nat.le_refl _) _).alloc (by simp) _).alloc (by first | (simp; done) | (simp; omega)) _

set_option maxHeartbeats 2000000 in
theorem merge_no (a d a' d' : Int) (A B : Option Addr) (n m c b : Nat) (w : World) (hn : n ≤ 1000000) (ha : -9223372036854775808 ≤ a) (ha1 : a ≤ 9223372036854775807) (hb : a' ≤ 9223372036854775807) (hd' : -9223372036854775808 ≤ d') (h : ¬ mg a d a' d' n) :
    Calls Try.prog 20 #[.agg #[.int .i64 a, .int .i64 d, .slice A n c], .agg #[.int .i64 a', .int .i64 d', .slice B m b]] w fun e w' =>
      e = .returned (.tuple #[.agg #[.int .i64 0, .int .i64 0, .slice none 0 0], .bool false]) ∧ Below w.heap.size w w' := by
  have hb0 := blocks3_below w a d a' d' A B n m c b
  by_cases h0 : a < 0
  · clear h
    go_enter Try.func20, Try.ntmps20
    go_wp2
    exact bodyPost_ret (v := .tuple #[.agg #[.int .i64 0, .int .i64 0, .slice none 0 0], .bool false]) (by simp [results, Try.results20, go_sem]) rfl ⟨rfl, by repeat (first | exact hb0 | refine Below.setCell ?_ (by first | (simp; done) | (simp; omega)) _)⟩
  by_cases h1 : d < 0
  · clear h
    go_enter Try.func20, Try.ntmps20
    go_wp2
    exact bodyPost_ret (v := .tuple #[.agg #[.int .i64 0, .int .i64 0, .slice none 0 0], .bool false]) (by simp [results, Try.results20, go_sem]) rfl ⟨rfl, by repeat (first | exact hb0 | refine Below.setCell ?_ (by first | (simp; done) | (simp; omega)) _)⟩
  by_cases h2 : a' < a
  · clear h
    go_enter Try.func20, Try.ntmps20
    go_wp2
    exact bodyPost_ret (v := .tuple #[.agg #[.int .i64 0, .int .i64 0, .slice none 0 0], .bool false]) (by simp [results, Try.results20, go_sem]) rfl ⟨rfl, by repeat (first | exact hb0 | refine Below.setCell ?_ (by first | (simp; done) | (simp; omega)) _)⟩
  by_cases h3 : d' < 0
  · clear h
    go_enter Try.func20, Try.ntmps20
    go_wp2
    exact bodyPost_ret (v := .tuple #[.agg #[.int .i64 0, .int .i64 0, .slice none 0 0], .bool false]) (by simp [results, Try.results20, go_sem]) rfl ⟨rfl, by repeat (first | exact hb0 | refine Below.setCell ?_ (by first | (simp; done) | (simp; omega)) _)⟩
  by_cases h4 : (n : Int) < a' - a
  · clear h
    go_enter Try.func20, Try.ntmps20
    go_wp2
    exact bodyPost_ret (v := .tuple #[.agg #[.int .i64 0, .int .i64 0, .slice none 0 0], .bool false]) (by simp [results, Try.results20, go_sem]) rfl ⟨rfl, by repeat (first | exact hb0 | refine Below.setCell ?_ (by first | (simp; done) | (simp; omega)) _)⟩
  have h5 : (n : Int) - (a' - a) < d' := by
    refine Classical.byContradiction fun h6 => h ?_
    unfold mg
    omega
  clear h
  go_enter Try.func20, Try.ntmps20
  go_wp2
  exact bodyPost_ret (v := .tuple #[.agg #[.int .i64 0, .int .i64 0, .slice none 0 0], .bool false]) (by simp [results, Try.results20, go_sem]) rfl ⟨rfl, by repeat (first | exact hb0 | refine Below.setCell ?_ (by first | (simp; done) | (simp; omega)) _)⟩

set_option maxHeartbeats 2000000 in
theorem rmerge_no (a d a' d' : Int) (A B : Option Addr) (n m c b : Nat) (w : World) (hn : n ≤ 1000000) (ha : -9223372036854775808 ≤ a) (ha1 : a ≤ 9223372036854775807) (hb : a' ≤ 9223372036854775807) (hd' : -9223372036854775808 ≤ d') (h : ¬ mg a d a' d' n) :
    Calls Try.prog 21 #[.agg #[.int .i64 a, .int .i64 d, .slice A n c], .agg #[.int .i64 a', .int .i64 d', .slice B m b]] w fun e w' =>
      e = .returned (.tuple #[.agg #[.int .i64 0, .int .i64 0, .slice none 0 0], .bool false]) ∧ Below w.heap.size w w' := by
  have hb0 := blocks3_below w a d a' d' A B n m c b
  by_cases h0 : a < 0
  · clear h
    go_enter Try.func21, Try.ntmps21
    go_wp2
    exact bodyPost_ret (v := .tuple #[.agg #[.int .i64 0, .int .i64 0, .slice none 0 0], .bool false]) (by simp [results, Try.results21, go_sem]) rfl ⟨rfl, by repeat (first | exact hb0 | refine Below.setCell ?_ (by first | (simp; done) | (simp; omega)) _)⟩
  by_cases h1 : d < 0
  · clear h
    go_enter Try.func21, Try.ntmps21
    go_wp2
    exact bodyPost_ret (v := .tuple #[.agg #[.int .i64 0, .int .i64 0, .slice none 0 0], .bool false]) (by simp [results, Try.results21, go_sem]) rfl ⟨rfl, by repeat (first | exact hb0 | refine Below.setCell ?_ (by first | (simp; done) | (simp; omega)) _)⟩
  by_cases h2 : a' < a
  · clear h
    go_enter Try.func21, Try.ntmps21
    go_wp2
    exact bodyPost_ret (v := .tuple #[.agg #[.int .i64 0, .int .i64 0, .slice none 0 0], .bool false]) (by simp [results, Try.results21, go_sem]) rfl ⟨rfl, by repeat (first | exact hb0 | refine Below.setCell ?_ (by first | (simp; done) | (simp; omega)) _)⟩
  have hch : chk (a' - a) d' n = 1 := by
    refine chk_no ?_
    refine Classical.byContradiction fun h6 => h ?_
    unfold mg
    omega
  have HC := Lib.hid hch
  clear hch h
  go_enter Try.func21, Try.ntmps21
  go_wp2_with fail
  refine (rcheck_calls (a' - a) d' n _ _ (by omega) (by omega)).mono ?_
  rintro e w1 ⟨rfl, hb1⟩
  rw [HC.out]
  obtain ⟨hc, hf⟩ := bcell hb1
  have hz : w.heap.size + 2 < w1.heap.size := by have := hb1.size; simp at this; omega
  have hbb := below_then' hb0 hb0.size hb1
  go_wp2
  exact bodyPost_ret (v := .tuple #[.agg #[.int .i64 0, .int .i64 0, .slice none 0 0], .bool false]) (by simp [results, Try.results21, go_sem, hc, hz]) rfl ⟨rfl, by repeat (first | exact hbb | refine Below.setCell ?_ (by first | (simp; done) | (simp; omega)) _)⟩

set_option maxHeartbeats 4000000 in
theorem merge_yes (a d a' d' : Int) (A B : Option Addr) (c b : Nat) (xs ys : List Int) (w : World) (hx : Rd w A xs) (hy : Rd w B ys) (hcx : xs.length ≤ c) (hcy : ys.length ≤ b) (hn : xs.length ≤ 1000000) (hm : ys.length ≤ 1000000)
    (ha1 : a ≤ 9223372036854775807) (hb1 : a' ≤ 9223372036854775807) (h : mg a d a' d' xs.length) :
    Calls Try.prog 20 #[.agg #[.int .i64 a, .int .i64 d, .slice A xs.length c], .agg #[.int .i64 a', .int .i64 d', .slice B ys.length b]] w fun e w' =>
      ∃ v, e = .returned (.tuple #[.agg #[.int .i64 a, .int .i64 d, v], .bool true]) ∧ Sl w' v (repl xs (a' - a).toNat d'.toNat ys) ∧ Below w.heap.size w w' := by
  obtain ⟨h0, h1, h2, h3, h4, h5⟩ := h
  obtain ⟨w1, hw1⟩ : ∃ w1, w1 = blocks3 w a d a' d' A B xs.length ys.length c b := ⟨_, rfl⟩
  have hb0 : Below w.heap.size w w1 := by rw [hw1]; exact blocks3_below w a d a' d' A B xs.length ys.length c b
  have hz : w.heap.size + 2 < w1.heap.size := by rw [hw1]; simp [blocks3]
  have c3 : ∀ p : Addr, p.block < w.heap.size + 2 → w1.cell? p = ((w.alloc (.cells #[.int .i64 a, .int .i64 d, .slice A xs.length c] 24)).alloc (.cells #[.int .i64 a', .int .i64 d', .slice B ys.length b] 24)).cell? p := fun p h => by rw [hw1]; exact (box_below _ _).cell (by first | (simp; done) | (simp; omega))
  have c2 : ∀ p : Addr, p.block < w.heap.size + 1 → ((w.alloc (.cells #[.int .i64 a, .int .i64 d, .slice A xs.length c] 24)).alloc (.cells #[.int .i64 a', .int .i64 d', .slice B ys.length b] 24)).cell? p = (w.alloc (.cells #[.int .i64 a, .int .i64 d, .slice A xs.length c] 24)).cell? p := fun p h => (box_below _ _).cell (by first | (simp; done) | (simp; omega))
  have p0 : w1.cell? ⟨w.heap.size, 0, none⟩ = some (.int .i64 a) := (c3 ⟨w.heap.size, 0, none⟩ (by first | (simp; done) | (simp; omega))).trans ((c2 ⟨w.heap.size, 0, none⟩ (by first | (simp; done) | (simp; omega))).trans (by simp))
  have p1 : w1.cell? ⟨w.heap.size, 1, none⟩ = some (.int .i64 d) := (c3 ⟨w.heap.size, 1, none⟩ (by first | (simp; done) | (simp; omega))).trans ((c2 ⟨w.heap.size, 1, none⟩ (by first | (simp; done) | (simp; omega))).trans (by simp))
  have p2 : w1.cell? ⟨w.heap.size, 2, none⟩ = some (.slice A xs.length c) := (c3 ⟨w.heap.size, 2, none⟩ (by first | (simp; done) | (simp; omega))).trans ((c2 ⟨w.heap.size, 2, none⟩ (by first | (simp; done) | (simp; omega))).trans (by simp))
  have q0 : w1.cell? ⟨w.heap.size + 1, 0, none⟩ = some (.int .i64 a') := (c3 ⟨w.heap.size + 1, 0, none⟩ (by first | (simp; done) | (simp; omega))).trans (by simp)
  have q1 : w1.cell? ⟨w.heap.size + 1, 1, none⟩ = some (.int .i64 d') := (c3 ⟨w.heap.size + 1, 1, none⟩ (by first | (simp; done) | (simp; omega))).trans (by simp)
  have q2 : w1.cell? ⟨w.heap.size + 1, 2, none⟩ = some (.slice B ys.length b) := (c3 ⟨w.heap.size + 1, 2, none⟩ (by first | (simp; done) | (simp; omega))).trans (by simp)
  have r0 : w1.cell? ⟨w.heap.size + 2, 0, none⟩ = some (.int .i64 0) := by rw [hw1]; exact new_cell _ _ _ _ (by simp) 0
  have r1 : w1.cell? ⟨w.heap.size + 2, 1, none⟩ = some (.int .i64 0) := by rw [hw1]; exact new_cell _ _ _ _ (by simp) 1
  have r2 : w1.cell? ⟨w.heap.size + 2, 2, none⟩ = some (.slice none 0 0) := by rw [hw1]; exact new_cell _ _ _ _ (by simp) 2
  clear c2 c3
  have f0 : w1.frozen? ⟨w.heap.size + 2, 0, none⟩ = false := by rw [hw1]; exact new_frozen _ _ _ _ (by simp) 0
  have f1 : w1.frozen? ⟨w.heap.size + 2, 1, none⟩ = false := by rw [hw1]; exact new_frozen _ _ _ _ (by simp) 1
  have f2 : w1.frozen? ⟨w.heap.size + 2, 2, none⟩ = false := by rw [hw1]; exact new_frozen _ _ _ _ (by simp) 2
  have hne : ¬ w.heap.size = w.heap.size + 1 + 1 := by omega
  have HW := Lib.hid hw1
  have hwr : IntKind.i64.wrap (a' - a) = a' - a := IntWalk.i64_in _ (by omega)
  have hxr := hx.below hb0
  have hyr := hy.below hb0
  clear hw1
  go_enter Try.func20, Try.ntmps20
  go_wp2_with fail
  rw [show ((w.alloc (.cells #[.int .i64 a, .int .i64 d, .slice A xs.length c] 24)).alloc (.cells #[.int .i64 a', .int .i64 d', .slice B ys.length b] 24)).alloc (.cells #[.int .i64 0, .int .i64 0, .slice none 0 0] 24) = w1 from HW.out.symm]
  have hbb := hb0
  go_region_held3 (fun w' => w'.cell? ⟨w.heap.size, 0, none⟩ = some (.int .i64 a) ∧ w'.cell? ⟨w.heap.size, 1, none⟩ = some (.int .i64 d) ∧ w'.cell? ⟨w.heap.size, 2, none⟩ = some (.slice A xs.length c) ∧ w'.cell? ⟨w.heap.size + 1, 0, none⟩ = some (.int .i64 a') ∧ w'.cell? ⟨w.heap.size + 1, 1, none⟩ = some (.int .i64 d') ∧ w'.cell? ⟨w.heap.size + 1, 2, none⟩ = some (.slice B ys.length b)) (first | exact ⟨p0, p1, p2, q0, q1, q2⟩ | exact ⟨xp0, xp1, xp2, xq0, xq1, xq2⟩ | exact ⟨keep3 xp0 (by show w.heap.size ≠ _; omega), keep3 xp1 (by show w.heap.size ≠ _; omega), keep3 xp2 (by show w.heap.size ≠ _; omega), keep3 xq0 (by show w.heap.size + 1 ≠ _; omega), keep3 xq1 (by show w.heap.size + 1 ≠ _; omega), keep3 xq2 (by show w.heap.size + 1 ≠ _; omega)⟩)
    ((go_at_call 30; refine (replaced_calls A B c b xs ys (a' - a) d' _ ?_ ?_ hcx (by omega) h3 (by omega) hn hm).mono ?_; exact hxr; exact hyr; rintro e w2 ⟨_, rfl, ⟨A2, c2, rfl, hv1, hv2, hv3⟩, hb2⟩; have HV := Lib.hid hv3; clear hv3; have hz2 : w.heap.size + 2 < w2.heap.size := (by have := hb2.size; simp at this; omega); have xp0 := (hb2.cell (p := ⟨w.heap.size, 0, none⟩) (by first | (simp; done) | (simp; omega))).trans p0; have xq0 := (hb2.cell (p := ⟨w.heap.size + 1, 0, none⟩) (by first | (simp; done) | (simp; omega))).trans q0; have xr0 := (hb2.cell (p := ⟨w.heap.size + 2, 0, none⟩) (by first | (simp; done) | (simp; omega))).trans r0; have xf0 := (hb2.frozen (p := ⟨w.heap.size + 2, 0, none⟩) (by first | (simp; done) | (simp; omega))).trans f0; have xp1 := (hb2.cell (p := ⟨w.heap.size, 1, none⟩) (by first | (simp; done) | (simp; omega))).trans p1; have xq1 := (hb2.cell (p := ⟨w.heap.size + 1, 1, none⟩) (by first | (simp; done) | (simp; omega))).trans q1; have xr1 := (hb2.cell (p := ⟨w.heap.size + 2, 1, none⟩) (by first | (simp; done) | (simp; omega))).trans r1; have xf1 := (hb2.frozen (p := ⟨w.heap.size + 2, 1, none⟩) (by first | (simp; done) | (simp; omega))).trans f1; have xp2 := (hb2.cell (p := ⟨w.heap.size, 2, none⟩) (by first | (simp; done) | (simp; omega))).trans p2; have xq2 := (hb2.cell (p := ⟨w.heap.size + 1, 2, none⟩) (by first | (simp; done) | (simp; omega))).trans q2; have xr2 := (hb2.cell (p := ⟨w.heap.size + 2, 2, none⟩) (by first | (simp; done) | (simp; omega))).trans r2; have xf2 := (hb2.frozen (p := ⟨w.heap.size + 2, 2, none⟩) (by first | (simp; done) | (simp; omega))).trans f2; skip))
  go_wp2
  refine bodyPost_ret (v := .tuple #[.agg #[.int .i64 a, .int .i64 d, .slice A2 (repl xs (a' - a).toNat d'.toNat ys).length c2], .bool true]) (by simp [results, Try.results20, go_sem, xr0, xr1, xr2]) rfl ⟨_, rfl, ?_, ?_⟩
  · have h0' : Fr w2 w1.heap.size (.slice A2 (repl xs (a' - a).toNat d'.toNat ys).length c2) ((repl xs (a' - a).toNat d'.toNat ys)) := ⟨A2, c2, rfl, hv1, hv2, HV.out⟩
    have h := ((h0'.setCell (p := ⟨w.heap.size + 2, 0, none⟩) (by simp; omega) (.int .i64 a)).setCell (p := ⟨w.heap.size + 2, 1, none⟩) (by simp; omega) (.int .i64 d)).setCell (p := ⟨w.heap.size + 2, 2, none⟩) (by simp; omega) (.slice A2 (repl xs (a' - a).toNat d'.toNat ys).length c2)
    have h' := h.sl
    exact h'
  · exact (((below_then' hbb.drew hbb.size hb2).setCell (by first | (simp; done) | (simp; omega)) _).setCell (by first | (simp; done) | (simp; omega)) _).setCell (by first | (simp; done) | (simp; omega)) _
end Go.Proofs.Ytjdnajmljafkpaa
