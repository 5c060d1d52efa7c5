import Derived.Test.YtjdnajmljafkpaaEdA
import Derived.OwnWalk
namespace Go.Proofs.Ytjdnajmljafkpaa
open Go.RowKit
set_option linter.unusedVariables false
set_option linter.unusedSimpArgs false

theorem info_int : (Try.prog.info? 3).map (fun i => (i.zero, i.size, i.bytes)) = some (some (.int .i64 0), 1, 8) := by kernel_rfl

theorem size_int : (Try.prog.info? 3).map (·.size) = some 1 := by kernel_rfl

/-- copy of all of a slice into a row of just that length. -/
theorem run_copy_all {P : Program} (w1 : World) (dT ty E : TypeId) (hu : P.underlying dT = some (.slice E)) (hsz : (P.info? E).map (·.size) = some 1)
    (g cap : Nat) (cur : Array Value) (xs : List Int) (hg : w1.heap[g]? = some (.cells cur E (0, 0))) (hcur : cur.size = xs.length) (A : Option Addr) (c : Nat) (hr : Rd w1 A xs) :
    ∃ w2 cur2, (Builtin.copy_ #[dT, dT] ty #[.slice (some ⟨g, 0, none⟩) xs.length cap, .slice A xs.length c]).run P w1 = .ok (goInt xs.length) w2 ∧ w2.heap[g]? = some (.cells cur2 E (0, 0)) ∧ cur2.toList = ints xs ∧
      ∀ B w0, Below B w0 w1 → B ≤ g → Below B w0 w2 := by
  by_cases h0 : xs.length = 0
  · obtain rfl : xs = [] := List.eq_nil_of_length_eq_zero h0
    refine ⟨w1, cur, run_copy_none (P := P) w1 dT dT ty E _ A _ cap _ c hu hsz rfl, hg, ?_, fun B w0 h _ => h⟩
    obtain rfl : cur = #[] := by simpa using hcur
    rfl
  · obtain ⟨ad, rfl, _⟩ := hr (by omega)
    have hrun := run_copy_row (P := P) w1 dT dT ty E g 0 xs.length cap ad xs.length c cur E (ints xs) hu hsz hg (by simp [ints]) hr.cells (by rw [ints_length]; omega) (ints_one xs)
    rw [ints_length] at hrun
    refine ⟨_, _, hrun, setRow_heap w1 g cur _ E _ hg, ?_, fun B w0 h hB => below_setRow h hB _⟩
    simp only [List.take_zero, List.nil_append, Nat.zero_add]
    rw [List.drop_eq_nil_of_le (by simp [hcur]), List.append_nil]

set_option maxHeartbeats 400000 in
theorem copied_calls (A : Option Addr) (c : Nat) (xs : List Int) (w : World) (hx : Rd w A xs) (hn : xs.length * 8 ≤ 140737488355328) :
    Calls Try.prog 28 #[.slice A xs.length c] w fun e w' =>
      ∃ g cur, e = .returned (.slice (some ⟨g, 0, none⟩) xs.length xs.length) ∧ w.heap.size ≤ g ∧ w'.heap[g]? = some (.cells cur 3 (0, 0)) ∧ cur.toList = ints xs ∧ Below w.heap.size w w' := by
  obtain ⟨i, hi, hz, hsize, hby⟩ := info_parts info_int
  have hcopy : ∀ w1 : World, w1.ownsRow w.heap.size 3 1 (.slice (some ⟨w.heap.size, 0, none⟩) xs.length xs.length) xs.length (madeCells (Value.int IntKind.i64 0).cells (xs.length * 1)).toList → w.grownBy w1 none →
      ∃ w2 cur2, (Builtin.copy_ #[22, 22] 3 #[.slice (some ⟨w.heap.size, 0, none⟩) xs.length xs.length, .slice A xs.length c]).run Try.prog w1 = .ok (goInt xs.length) w2 ∧
        w2.heap[w.heap.size]? = some (.cells cur2 3 (0, 0)) ∧ cur2.toList = ints xs ∧ Below w.heap.size w w2 := by
    intro w1 hown hgrow
    have hb1 : Below w.heap.size w w1 := (Below.refl _ _).grown hgrow (Nat.le_refl _) (by simp)
    rcases hown.2 with ⟨h, _⟩ | ⟨g, cap, cur, h, _, hg, _, _, hs, _⟩
    · simp at h
    · obtain ⟨rfl, rfl⟩ : w.heap.size = g ∧ xs.length = cap := by simpa using h
      obtain ⟨w2, cur2, h1, h2, h3, h4⟩ := run_copy_all (P := Try.prog) w1 22 3 3 Try.underlying22 size_int w.heap.size xs.length cur xs hg (by omega) A c (hx.below hb1)
      exact ⟨w2, cur2, h1, h2, h3, h4 _ _ hb1 (Nat.le_refl _)⟩
  have HC := hcopy
  go_enter Try.func28, Try.ntmps28
  clear hcopy
  go_wp2_with (at_make; refine wpList_make_full _ rfl (.tmp 5) (.tmp 5) 22 rfl w.heap.size 3 i (.int .i64 0) 1 Try.underlying22 hi hz hsize .i64 .i64 _ _ xs.length rfl rfl rfl rfl (by rw [hby]; omega) (by unfold maxLen; omega) (Nat.le_refl _) ?_; intro w1 hown hgrow; obtain ⟨w2, cur2, hrun, h2, h3, h4⟩ := HC w1 hown hgrow; clear hown hgrow HC; have H2 := Lib.hid h2; have H3 := Lib.hid h3; clear h2 h3)
  go_ret
  exact ⟨_, _, rfl, Nat.le_refl _, H2.out, H3.out, h4⟩

theorem row_fr {w : World} {B g : Nat} {E : TypeId} {cur : Array Value} {xs : List Int} (hB : B ≤ g) (hg : w.heap[g]? = some (.cells cur E (0, 0))) (hc : cur.toList = ints xs) (hm : xs.length * 8 ≤ 140737488355328) :
    Fr w B (.slice (some ⟨g, 0, none⟩) xs.length xs.length) xs := by
  have hs : cur.size = xs.length := by rw [← Array.length_toList, hc, ints_length]
  refine Own.fr (E := E) (.inr ⟨g, xs.length, cur, rfl, hB, hg, Nat.le_refl _, by unfold maxLen; omega, by omega, ?_⟩)
  rw [hc, ← ints_length xs, List.take_length]
end Go.Proofs.Ytjdnajmljafkpaa
