import Derived.Test.YtkokfinmolkehaaCpBits
import Derived.Laws.BytesString
namespace Go.Proofs.Ytkokfinmolkehaa
open Go.RowKit
set_option linter.unusedVariables false
set_option linter.unusedSimpArgs false

/-- The byte of a hexadecimal digit. -/
def dg (d : Nat) : Int := if d < 10 then 48 + d else 55 + d
/-- The lowest k hexadecimal digits of a number, the highest first. -/
def hexI : Nat → Nat → List Int
  | 0, _ => []
  | k + 1, n => dg (n / 16 ^ k % 16) :: hexI k n
theorem hexI_length (k n : Nat) : (hexI k n).length = k := by
  induction k with
  | zero => rfl
  | succ k ih => simp [hexI, ih]
def digs : Array Value := #[Value.int IntKind.u8 48, Value.int IntKind.u8 49, Value.int IntKind.u8 50, Value.int IntKind.u8 51,
              Value.int IntKind.u8 52, Value.int IntKind.u8 53, Value.int IntKind.u8 54, Value.int IntKind.u8 55,
              Value.int IntKind.u8 56, Value.int IntKind.u8 57, Value.int IntKind.u8 65, Value.int IntKind.u8 66,
              Value.int IntKind.u8 67, Value.int IntKind.u8 68, Value.int IntKind.u8 69, Value.int IntKind.u8 70]
theorem digs_at (d : Nat) (h : d < 16) : digs[d]? = some (.int .u8 (dg d)) := by
  rcases (show d = 0 ∨ d = 1 ∨ d = 2 ∨ d = 3 ∨ d = 4 ∨ d = 5 ∨ d = 6 ∨ d = 7 ∨ d = 8 ∨ d = 9 ∨ d = 10 ∨ d = 11 ∨ d = 12 ∨ d = 13 ∨ d = 14 ∨ d = 15 by omega) with
    rfl | rfl | rfl | rfl | rfl | rfl | rfl | rfl | rfl | rfl | rfl | rfl | rfl | rfl | rfl | rfl <;> rfl
/-- The six bytes after k rounds. -/
def hcells (k n : Nat) : Array Value := (List.replicate (6 - k) (Value.int .u8 0) ++ (hexI k n).map (Value.int .u8)).toArray
theorem hcells_step (k n : Nat) (h : k < 6) : (hcells k n).setIfInBounds (5 - k) (.int .u8 (dg (n / 16 ^ k % 16))) = hcells (k + 1) n := by
  obtain ⟨j, hj⟩ : ∃ j, 5 - k = j := ⟨_, rfl⟩
  have h6 : 6 - k = j + 1 := by omega
  have h7 : 6 - (k + 1) = j := by omega
  unfold hcells
  rw [hj, h6, h7, List.replicate_succ']
  simp [hexI, List.set_append]
theorem hcells_at (k n j : Nat) (h : k < 6) (hj : j = 5 - k) : (hcells k n)[j]? = some (.int .u8 0) := by
  subst hj
  unfold hcells
  rw [List.getElem?_toArray, List.getElem?_append_left (by simp; omega), List.getElem?_replicate, if_pos (by omega)]
/-- The two arrays of a call. -/
def hW (w : World) (k n : Nat) : World := (w.alloc (.cells digs 34)).alloc (.cells (hcells k n) 35)
theorem hW_below (w : World) (k n : Nat) : Below w.heap.size w (hW w k n) :=
  ((Below.refl _ w).alloc (Nat.le_refl _) _).alloc (by simp) _
theorem hW_size (w : World) (k n : Nat) : (hW w k n).heap.size = w.heap.size + 2 := by simp [hW]
theorem hW_dig (w : World) (k n d : Nat) (h : d < 16) : (hW w k n).cell? ⟨w.heap.size, d, none⟩ = some (.int .u8 (dg d)) := by
  unfold hW
  rw [World.cell?_alloc_past _ _ _ (by simp), World.cell?_alloc_at _ _ _ _ rfl, digs_at d h]
theorem hW_old (w : World) (k n j : Nat) (h : k < 6) (hj : j = 5 - k) : (hW w k n).cell? ⟨w.heap.size + 1, j, none⟩ = some (.int .u8 0) := by
  unfold hW
  rw [World.cell?_alloc_at _ _ _ _ (by simp), hcells_at k n j h hj]
theorem hW_frozen (w : World) (k n j : Nat) : (hW w k n).frozen? ⟨w.heap.size + 1, j, none⟩ = false := by
  unfold hW
  rw [World.frozen?_alloc_at _ _ _ _ (by simp)]
theorem hW_store (w : World) (k n j : Nat) (h : k < 6) (hj : j = 5 - k) :
    (hW w k n).setCell ⟨w.heap.size + 1, j, none⟩ (.int .u8 (dg (n / 16 ^ k % 16))) = hW w (k + 1) n := by
  subst hj
  unfold hW
  rw [World.setCell_alloc_at _ _ _ _ _ (by simp), hcells_step k n h]
theorem bits_15 (n : Nat) (h : n ≤ 1114111) : bits .and .i64 (n : Int) 15 = ((n % 16 : Nat) : Int) := by
  have hk : ∀ n : Int, 0 ≤ n → n < 2 ^ 63 → IntKind.i64.wrap n = n := fun n h0 h1 => by rw [IntKind.wrap_i64]; omega
  have := bits_mask .i64 63 (by decide) hk 4 (by decide) (n : Int) (by omega) (by omega)
  simpa using this
/-- The bytes of a list. -/
def strOf (ns : List Int) : ByteArray := ns.foldl (fun r n => r.push (UInt8.ofNat n.toNat)) ByteArray.empty
def hexLen (n : Nat) : Nat := if n < 65536 then 4 else if n < 1048576 then 5 else 6
def hexS (n : Nat) : ByteArray := strOf (hexI (hexLen n) n)
def hexOf (c : Int) : ByteArray := if vld c then hexS c.toNat else ByteArray.empty
theorem slice6 (b j : Nat) (hj : j ≤ 2) (w : World) : (Instr.sliceAt 35 (.pointer (some ⟨b, 0, none⟩)) (some (.int .i64 (j : Int))) none none).run Try.prog w =
    .ok (.slice (some ⟨b, j, none⟩) (6 - j) (6 - j)) w := by
  have hal : Try.prog.arrayLen 35 = 6 := by rfl
  rw [run_sliceAt_array_l w 35 ⟨b, 0, none⟩ (by rfl) .i64 (j : Int) (by omega) (by rw [hal]; omega)]
  have hs : (sizeOf (Try.prog.elem 35)).run Try.prog w = .ok 1 w := by rfl
  rw [hs]
  have h6 : ¬ (6 : Nat) = j := by omega
  simp [slicedAt, hal, Result.andThen, Addr.add, h6]
  try omega
theorem hcells_tail (k n j : Nat) (h : k ≤ 6) (hj : j = 6 - k) (i : Nat) (v : Value) (hi : ((hexI k n).map (Value.int .u8))[i]? = some v) :
    (hcells k n)[j + i]? = some v := by
  subst hj
  unfold hcells
  rw [List.getElem?_toArray, List.getElem?_append_right (by simp), ← hi]
  simp
theorem conv6 (w : World) (k n j : Nat) (h : k ≤ 6) (hj : j = 6 - k) :
    (convert 37 9 (.slice (some ⟨w.heap.size + 1, j, none⟩) (6 - j) (6 - j))).run Try.prog (hW w k n) = .ok (.string (strOf (hexI k n))) (hW w k n) := by
  have h6 : 6 - j = ((hexI k n).map (Value.int .u8)).length := by simp [hexI_length]; omega
  rw [run_convert_bytes_string (hW w k n) 37 9 5 _ _ _ (by rfl) (by rfl) (by rfl)]
  refine run_bytesToString _ _ _ _ (hexI k n) ?_
  rw [h6]
  refine run_loadCells_list _ _ _ fun i v hi => ?_
  rw [Addr.add_lit]
  unfold hW
  rw [World.cell?_alloc_at _ _ _ _ (by simp)]
  exact hcells_tail k n j h hj i v hi
theorem hex_calls (c : Int) (w : World) : Calls Try.prog 10 #[.int .i64 c] w fun e w' => e = .returned (.string (hexOf c)) ∧ Below w.heap.size w w' := by
  cases h1 : vld c
  · have HE := Lib.hid (show hexOf c = ByteArray.empty by simp [hexOf, h1])
    go_enter Try.func10, Try.ntmps10
    go_wp2_with (go_at_call 12; refine (vld_calls _ _).mono ?_; rw [h1]; rintro e w' ⟨rfl, rfl⟩)
    go_ret
    exact ⟨by rw [HE.out]; rfl, Below.refl _ _⟩
  · have hv := vld_of h1
    obtain ⟨n, rfl⟩ := Int.eq_ofNat_of_zero_le hv.1
    have HE := Lib.hid (show hexOf n = hexS n by simp [hexOf, h1])
    have hn : n ≤ 1114111 := by omega
    clear hv
    go_enter Try.func10, Try.ntmps10
    go_wp2_with (go_at_call 12; refine (vld_calls _ _).mono ?_; rw [h1]; rintro e w' ⟨rfl, rfl⟩)
    go_loopw [0, 5] (fun cc at_ wr => ∃ k : Nat, k ≤ 6 ∧ cc = .int .i64 ((n / 16 ^ k : Nat) : Int) ∧ at_ = .int .i64 ((6 - k : Nat) : Int) ∧ wr = hW w' k n
        ∧ (k = 5 → 65536 ≤ n) ∧ (k = 6 → 1048576 ≤ n))
      (fun _ at_ _ => (intOf at_).toNat)
    case atStart => exact ⟨0, by omega, by simp, rfl, rfl, by omega, by omega⟩
    case round =>
      obtain ⟨k, hk, rfl, rfl, rfl, hk5, hk6⟩ := hrel
      by_cases hgo : 0 < n / 16 ^ k ∨ k < 4
      · have hk' : k < 6 := by
          rcases hgo with h | h
          · by_cases h6 : k = 6
            · subst h6; have : n / 16 ^ 6 = 0 := Nat.div_eq_of_lt (by omega); omega
            · omega
          · omega
        have hk5' : k + 1 = 5 → 65536 ≤ n := by
          intro h; have : k = 4 := by omega
          subst this
          rcases hgo with h | h
          · have := Nat.div_pos_iff.mp h; omega
          · omega
        have hk6' : k + 1 = 6 → 1048576 ≤ n := by
          intro h; have : k = 5 := by omega
          subst this
          rcases hgo with h | h
          · have := Nat.div_pos_iff.mp h; omega
          · omega
        have hS : n / 16 ^ (k + 1) = n / 16 ^ k / 16 := by rw [Nat.pow_succ, Nat.div_div_eq_div_mul]
        have hq1 : n / 16 ^ k ≤ 1114111 := Nat.le_trans (Nat.div_le_self _ _) hn
        obtain ⟨j, hj⟩ : ∃ j, 5 - k = j := ⟨_, rfl⟩
        have hj6 : 6 - k = j + 1 := by omega
        have hst := hW_store w' k n j hk' hj.symm
        have hold := hW_old w' k n j hk' hj.symm
        have hfr := hW_frozen w' k n j
        have hdg := hW_dig w' k n (n / 16 ^ k % 16) (Nat.mod_lt _ (by omega))
        have hb := bits_15 (n / 16 ^ k) hq1
        obtain ⟨W, hWW⟩ : ∃ W, W = hW w' k n := ⟨_, rfl⟩
        rw [← hWW] at hst hold hfr hdg ⊢
        rw [hj6]
        obtain ⟨q, hq⟩ : ∃ q, q = n / 16 ^ k := ⟨_, rfl⟩
        rw [← hq] at hst hdg hb hgo hq1 hS ⊢
        obtain ⟨d, hd⟩ : ∃ d, d = q % 16 := ⟨_, rfl⟩
        have hd16 : d < 16 := by omega
        rw [← hd] at hst hdg hb
        obtain ⟨v, hv⟩ : ∃ v, v = dg d := ⟨_, rfl⟩
        rw [← hv] at hst hdg
        have hst := Lib.hid hst
        have hS := Lib.hid hS
        have hjk : 6 - (k + 1) = j := by omega
        have hjk := Lib.hid hjk
        have hk5' := Lib.hid hk5'
        have hk6' := Lib.hid hk6'
        have hgo' : 0 < q ∨ (q = 0 ∧ 2 < j + 1) := by omega
        have hj5 : j < 6 := by omega
        clear hk5 hk6 hj hj6 hgo hWW hd hq hv
        rcases hgo' with h0 | ⟨h0, h00⟩
        · have h0i : 0 < (q : Int) := by omega
          go_wp2
          go_roundw
          case rel => exact ⟨k + 1, by omega, by rw [hS.out]; rfl, by rw [hjk.out], rfl, hk5'.out, hk6'.out⟩
          case measure => simp [intOf]
        · subst h0
          have hb0 : bits .and .i64 0 15 = (d : Int) := hb
          clear hb
          go_wp2
          go_roundw
          case rel => exact ⟨k + 1, by omega, by rw [hS.out]; rfl, by rw [hjk.out], rfl, hk5'.out, hk6'.out⟩
          case measure => simp [intOf]
      · have h0 : n / 16 ^ k = 0 := Nat.eq_zero_of_not_pos fun h => hgo (.inl h)
        have hk4' : ¬ k < 4 := fun h => hgo (.inr h)
        have hk4 : 4 ≤ k := by omega
        have hL : hexLen n = k := by
          rcases (show k = 4 ∨ k = 5 ∨ k = 6 by omega) with rfl | rfl | rfl <;> rcases Nat.div_eq_zero_iff.mp h0 with h | h <;> unfold hexLen <;> (repeat' split) <;> omega
        obtain ⟨j, hj⟩ : ∃ j, 6 - k = j := ⟨_, rfl⟩
        have hj2 : j ≤ 2 := by omega
        rw [h0, hj]
        have hL := Lib.hid hL
        have hj := Lib.hid hj
        clear hgo hk5 hk6 h0
        obtain ⟨W, hWW⟩ : ∃ W, W = hW w' k n := ⟨_, rfl⟩
        rw [← hWW]
        have hsl := slice6 (w'.heap.size + 1) j hj2
        have hcv := conv6 w' k n j hk hj.out.symm
        go_wp2
        go_ret
        exact ⟨by rw [HE.out]; unfold hexS; rw [hL.out]; rfl, hW_below _ _ _⟩
end Go.Proofs.Ytkokfinmolkehaa
