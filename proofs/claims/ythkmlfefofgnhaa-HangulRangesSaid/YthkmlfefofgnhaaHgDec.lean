import Derived.Test.YthkmlfefofgnhaaHgComp
import Derived.Test.YthkmlfefofgnhaaApp
namespace Go.Proofs.Ythkmlfefofgnhaa
open Go.RowKit
set_option linter.unusedVariables false
set_option linter.unusedSimpArgs false

/-- The parts of a syllable; the point itself where it is none. -/
def decl (c : Int) : List Int :=
  if kind c < 4 then [c] else if (c - 44032) % 28 = 0 then [4352 + (c - 44032) / 28 / 21, 4449 + (c - 44032) / 28 % 21]
  else [4352 + (c - 44032) / 28 / 21, 4449 + (c - 44032) / 28 % 21, 4520 + (c - 44032) % 28 - 1]
theorem eq3 (a b c d e f : Int) (w : World) : (Op.equalIn 10000 41 (.agg #[.int .i64 a, .int .i64 b, .int .i64 c]) (.agg #[.int .i64 d, .int .i64 e, .int .i64 f])).run Try.prog w = .ok (a == d && b == e && c == f) w := by
  have u3 := Try.underlying3
  have a3 := Try.isAgg3
  have z3 := Try.sizeOf3
  rw [show (10000 : Nat) = 9999 + 1 from rfl, Op.equalIn]
  simp only [Sem.run_bind, run_underlying Try.underlying41, Result.andThen_ok]
  simp only [Std.Legacy.Range.forIn_eq_forIn_range', Std.Legacy.Range.size, Nat.sub_zero, Nat.add_sub_cancel, Nat.div_one, List.range'_succ, List.range'_zero, List.forIn_cons, List.forIn_nil]
  go_simp
  by_cases h1 : a = d <;> by_cases h2 : b = e <;> by_cases h3 : c = f <;> simp [h1, h2, h3]
theorem parts0_calls (c : Int) (w : World) (h : 44032 ≤ c ∧ c ≤ 55203) (h0 : (c - 44032) % 28 = 0) :
    Calls Try.prog 22 #[.int .i64 c] w fun e w' => e = .returned (.agg #[.int .i64 (4352 + (c - 44032) / 28 / 21), .int .i64 (4449 + (c - 44032) / 28 % 21), .int .i64 0]) ∧ Below w.heap.size w w' := by
  go_enter Try.func22, Try.ntmps22
  go_wp2_with fail
  refine bodyPost_ret (v := .agg #[.int .i64 (4352 + (c - 44032) / 28 / 21), .int .i64 (4449 + (c - 44032) / 28 % 21), .int .i64 0]) ?_ rfl ⟨rfl, ((Below.refl _ w).alloc (Nat.le_refl _) _).alloc (by simp) _⟩
  unfold results
  rw [show Try.f22.results = #[.cell 2 41] from rfl]
  go_simp
  done
theorem parts1_calls (c : Int) (w : World) (h : 44032 ≤ c ∧ c ≤ 55203) (h0 : 0 < (c - 44032) % 28) :
    Calls Try.prog 22 #[.int .i64 c] w fun e w' => e = .returned (.agg #[.int .i64 (4352 + (c - 44032) / 28 / 21), .int .i64 (4449 + (c - 44032) / 28 % 21), .int .i64 (4520 + (c - 44032) % 28 - 1)]) ∧ Below w.heap.size w w' := by
  go_enter Try.func22, Try.ntmps22
  go_wp2_with fail
  refine bodyPost_ret (v := .agg #[.int .i64 (4352 + (c - 44032) / 28 / 21), .int .i64 (4449 + (c - 44032) / 28 % 21), .int .i64 (4520 + (c - 44032) % 28 - 1)]) ?_ rfl ⟨rfl, ((Below.refl _ w).alloc (Nat.le_refl _) _).alloc (by simp) _⟩
  unfold results
  rw [show Try.f22.results = #[.cell 2 41] from rfl]
  go_simp
  done
theorem slen : Try.prog.arrayLen 41 = 3 := by rfl
theorem sl2 (b : Nat) (w : World) : (Instr.sliceAt 41 (.pointer (some ⟨b, 0, none⟩)) none (some (.int .i64 2)) none).run Try.prog w = .ok (.slice (some ⟨b, 0, none⟩) 2 3) w := by
  rw [run_sliceAt_array_h w 41 ⟨b, 0, none⟩ (by rfl) .i64 2 (by omega) (by rw [slen]; omega)]
  have hs : (sizeOf (Try.prog.elem 41)).run Try.prog w = .ok 1 w := by rfl
  rw [hs]
  simp [slicedAt, slen, Result.andThen, Addr.add]
theorem slall (b : Nat) (w : World) : (Instr.sliceAt 41 (.pointer (some ⟨b, 0, none⟩)) none none none).run Try.prog w = .ok (.slice (some ⟨b, 0, none⟩) 3 3) w := by
  rw [run_sliceAt_array_all w 41 ⟨b, 0, none⟩ (by rfl)]
  have hs : (sizeOf (Try.prog.elem 41)).run Try.prog w = .ok 1 w := by rfl
  rw [hs]
  simp [slicedAt, slen, Result.andThen, Addr.add]
theorem rd_at (w : World) (t : TypeId) (arr : Array Value) (xs : List Int) (h : ∀ j, j < xs.length → arr[j]? = some (.int .i64 (el xs j))) : Rd (w.alloc (.cells arr t)) (some ⟨w.heap.size, 0, none⟩) xs :=
  Rd.of_cells (by simp) fun j hj => by rw [Addr.add_lit, World.cell?_alloc_at _ _ _ _ rfl, ← h j hj]; simp
theorem cells_at1 (w : World) (t : TypeId) (x : Int) : ∀ j, j < [x].length → (w.alloc (.cells #[.int .i64 x] t)).cell? ((⟨w.heap.size, 0, none⟩ : Addr).add j) = some (.int .i64 (el [x] j)) := by
  intro j hj
  rw [Addr.add_lit, World.cell?_alloc_at _ _ _ _ rfl]
  rcases (show j = 0 by simp at hj; omega) with rfl
  rfl
theorem cells_at2 (w : World) (t : TypeId) (x y : Int) : ∀ j, j < [x, y].length → (w.alloc (.cells #[.int .i64 x, .int .i64 y, .int .i64 0] t)).cell? ((⟨w.heap.size, 0, none⟩ : Addr).add j) = some (.int .i64 (el [x, y] j)) := by
  intro j hj
  rw [Addr.add_lit, World.cell?_alloc_at _ _ _ _ rfl]
  rcases (show j = 0 ∨ j = 1 by simp at hj; omega) with rfl | rfl <;> rfl
theorem cells_at3 (w : World) (t : TypeId) (x y z : Int) : ∀ j, j < [x, y, z].length → (w.alloc (.cells #[.int .i64 x, .int .i64 y, .int .i64 z] t)).cell? ((⟨w.heap.size, 0, none⟩ : Addr).add j) = some (.int .i64 (el [x, y, z] j)) := by
  intro j hj
  rw [Addr.add_lit, World.cell?_alloc_at _ _ _ _ rfl]
  rcases (show j = 0 ∨ j = 1 ∨ j = 2 by simp at hj; omega) with rfl | rfl | rfl <;> rfl
def DecOut (w : World) (c : Int) (e : Ending) (w' : World) : Prop := ∃ (A : Option Addr) (k : Nat), e = .returned (.slice A (decl c).length k) ∧ Rd w' A (decl c) ∧ Below w.heap.size w w'
theorem decl_none {c : Int} (h : kind c < 4) : decl c = [c] := by unfold decl; rw [if_pos h]
theorem decl_two {c : Int} (h : kind c = 4) : decl c = [4352 + (c - 44032) / 28 / 21, 4449 + (c - 44032) / 28 % 21] := by unfold decl; rw [if_neg (by omega), if_pos (kind_4 h).2.2]
theorem decl_three {c : Int} (h : kind c = 5) : decl c = [4352 + (c - 44032) / 28 / 21, 4449 + (c - 44032) / 28 % 21, 4520 + (c - 44032) % 28 - 1] := by unfold decl; rw [if_neg (by omega), if_neg (kind_5 h).2.2]
theorem dec_calls (c : Int) (w : World) (hc : -9223372036854775808 ≤ c ∧ c ≤ 9223372036854775807) : Calls Try.prog 13 #[.int .i64 c] w (DecOut w c) := by
  by_cases h1 : kind c < 4
  · have HD := Lib.hid (decl_none h1)
    obtain ⟨k, hk⟩ : ∃ k, k = kind c := ⟨_, rfl⟩
    rw [← hk] at h1
    have HK := Lib.hid hk
    clear hk
    go_enter Try.func13, Try.ntmps13
    go_wp2_with fail
    refine (kind_calls c _ hc).mono ?_
    rintro e w1 ⟨rfl, hb⟩
    rw [← HK.out]
    have hs := hb.size
    go_wp2_with fail
    go_ret
    exact ⟨some ⟨w1.heap.size, 0, none⟩, 1, by rw [HD.out]; rfl, by rw [HD.out]; exact Rd.of_cells (by simp) (cells_at1 _ _ _), hb.alloc hs _⟩
  · by_cases h2 : kind c = 4
    · have HD := Lib.hid (decl_two h2)
      have h4 := kind_4 h2
      have HK := Lib.hid h2
      clear h1 h2
      go_enter Try.func13, Try.ntmps13
      go_wp2_with fail
      refine (kind_calls c _ hc).mono ?_
      rintro e w1 ⟨rfl, hb⟩
      rw [HK.out]
      have hs := hb.size
      go_wp2_with fail
      refine (parts0_calls c _ ⟨h4.1, h4.2.1⟩ h4.2.2).mono ?_
      rintro e w2 ⟨rfl, hb2⟩
      have hB := below_then' hb hb.size hb2
      obtain ⟨x, hx⟩ : ∃ x, x = 4352 + (c - 44032) / 28 / 21 := ⟨_, rfl⟩
      obtain ⟨y, hy⟩ : ∃ y, y = 4449 + (c - 44032) / 28 % 21 := ⟨_, rfl⟩
      rw [← hx, ← hy] at HD ⊢
      clear hx hy
      have q := eq3 x y 0 x y 0 (w2.alloc (.cells #[.int .i64 x, .int .i64 y, .int .i64 0] 41))
      have qs := sl2 w2.heap.size (w2.alloc (.cells #[.int .i64 x, .int .i64 y, .int .i64 0] 41))
      have hs2 := hB.size
      go_wp2_with fail
      go_ret
      exact ⟨some ⟨w2.heap.size, 0, none⟩, 3, by rw [HD.out]; rfl, by rw [HD.out]; exact Rd.of_cells (by simp) (cells_at2 _ _ _ _), hB.alloc hs2 _⟩
    · have h3 : kind c = 5 := by have := kind_range c; omega
      have HD := Lib.hid (decl_three h3)
      have h5 := kind_5 h3
      have h6 : 0 < (c - 44032) % 28 := by omega
      have HK := Lib.hid h3
      clear h1 h2 h3
      go_enter Try.func13, Try.ntmps13
      go_wp2_with fail
      refine (kind_calls c _ hc).mono ?_
      rintro e w1 ⟨rfl, hb⟩
      rw [HK.out]
      have hs := hb.size
      go_wp2_with fail
      refine (parts1_calls c _ ⟨h5.1, h5.2.1⟩ h6).mono ?_
      rintro e w2 ⟨rfl, hb2⟩
      have hB := below_then' hb hb.size hb2
      obtain ⟨x, hx⟩ : ∃ x, x = 4352 + (c - 44032) / 28 / 21 := ⟨_, rfl⟩
      obtain ⟨y, hy⟩ : ∃ y, y = 4449 + (c - 44032) / 28 % 21 := ⟨_, rfl⟩
      obtain ⟨z, hz⟩ : ∃ z, z = 4520 + (c - 44032) % 28 - 1 := ⟨_, rfl⟩
      rw [← hx, ← hy, ← hz] at HD ⊢
      have hz0 : 0 < z := by omega
      clear hx hy hz
      have hzz : (z == 0) = false := by rw [beq_eq_false_iff_ne]; omega
      have q := eq3 x y z x y 0 (w2.alloc (.cells #[.int .i64 x, .int .i64 y, .int .i64 z] 41))
      rw [hzz, Bool.and_false] at q
      have qs := slall w2.heap.size (w2.alloc (.cells #[.int .i64 x, .int .i64 y, .int .i64 z] 41))
      have hs2 := hB.size
      go_wp2_with fail
      go_ret
      exact ⟨some ⟨w2.heap.size, 0, none⟩, 3, by rw [HD.out]; rfl, by rw [HD.out]; exact Rd.of_cells (by simp) (cells_at3 _ _ _ _ _), hB.alloc hs2 _⟩
theorem decR_calls (c : Int) (w : World) (hc : -9223372036854775808 ≤ c ∧ c ≤ 9223372036854775807) : Calls Try.prog 14 #[.int .i64 c] w (DecOut w c) := by
  by_cases h1 : kind c < 4
  · have HD := Lib.hid (decl_none h1)
    obtain ⟨k, hk⟩ : ∃ k, k = kind c := ⟨_, rfl⟩
    rw [← hk] at h1
    have HK := Lib.hid hk
    clear hk
    go_enter Try.func14, Try.ntmps14
    go_wp2_with fail
    refine (kindR_calls c _ hc).mono ?_
    rintro e w1 ⟨rfl, rfl⟩
    rw [← HK.out]
    go_wp2_with fail
    go_ret
    exact ⟨some ⟨w1.heap.size, 0, none⟩, 1, by rw [HD.out]; rfl, by rw [HD.out]; exact Rd.of_cells (by simp) (cells_at1 _ _ _), (Below.refl _ _).alloc (Nat.le_refl _) _⟩
  · by_cases h2 : kind c = 4
    · have HD := Lib.hid (decl_two h2)
      have h4 := kind_4 h2
      have HK := Lib.hid h2
      obtain ⟨h40, h41, h42⟩ := h4
      clear h1 h2
      go_enter Try.func14, Try.ntmps14
      go_wp2_with fail
      refine (kindR_calls c _ hc).mono ?_
      rintro e w1 ⟨rfl, rfl⟩
      rw [HK.out]
      go_wp2_with fail
      go_ret
      exact ⟨some ⟨w1.heap.size, 0, none⟩, 2, by rw [HD.out]; rfl, by rw [HD.out]; exact rd_at _ _ _ _ fun j hj => by rcases (show j = 0 ∨ j = 1 by simp at hj; omega) with rfl | rfl <;> rfl, (Below.refl _ _).alloc (Nat.le_refl _) _⟩
    · have h3 : kind c = 5 := by have := kind_range c; omega
      have HD := Lib.hid (decl_three h3)
      have h5 := kind_5 h3
      obtain ⟨h50, h51, h52⟩ := h5
      have h6 : 0 < (c - 44032) % 28 := by omega
      have HK := Lib.hid h3
      clear h1 h2 h3 h52
      go_enter Try.func14, Try.ntmps14
      go_wp2_with fail
      refine (kindR_calls c _ hc).mono ?_
      rintro e w1 ⟨rfl, rfl⟩
      rw [HK.out]
      go_wp2_with fail
      go_ret
      exact ⟨some ⟨w1.heap.size + 1 + 1, 0, none⟩, _, by rw [HD.out]; rfl, by
        rw [HD.out]
        refine Rd.drew ?_
        have hsz : ∀ a b : Obj, ((w1.alloc a).alloc b).heap.size = w1.heap.size + 1 + 1 := fun a b => by simp
        rw [← hsz _ _]
        exact rd_at _ _ _ _ fun j hj => by
          rw [Array.getElem?_append_left (by simpa using hj)]
          rcases (show j = 0 ∨ j = 1 ∨ j = 2 by simp at hj; omega) with rfl | rfl | rfl <;> rfl,
        by
          have hd := (((Below.refl _ w1).alloc (Nat.le_refl _) (.cells #[.int .i64 (4352 + (c - 44032) / 28 / 21), .int .i64 (4449 + (c - 44032) / 28 % 21)] 3)).alloc (by simp) (.cells #[.int .i64 (4520 + (c - 44032) % 28 - 1)] 3))
          exact below_drewN' (hd.alloc (by simp; omega) _) 1⟩
end Go.Proofs.Ythkmlfefofgnhaa
