import Derived.Test.YthkmlfefofgnhaaHgSplit
namespace Go.Proofs.Ythkmlfefofgnhaa
open Go.RowKit
set_option linter.unusedVariables false
set_option linter.unusedSimpArgs false

theorem runs_skip {xs : List Int} {m : Nat} (j : Nat) (h : m + j ≤ (runs xs m).2) : runs xs (m + j) = runs xs m := by
  induction j with
  | zero => rfl
  | succ j ih =>
    have ih := ih (by omega)
    rw [show m + (j + 1) = m + j + 1 from rfl, runs_in (by rw [ih]; omega), ih]
theorem runs_jump {xs : List Int} {i n : Nat} (h : ¬ i < (runs xs i).2) (hn : n = plen (xs.drop i)) (h2 : 0 < n) : runs xs (i + n) = ((runs xs i).1 ++ [(i, i + n)], i + n) := by
  have h3 := runs_new h (by rw [← hn]; exact h2)
  rw [← hn] at h3
  have h4 := runs_skip (xs := xs) (m := i + 1) (n - 1) (by rw [h3]; show i + 1 + (n - 1) ≤ i + n; omega)
  rw [show i + 1 + (n - 1) = i + n by omega] at h4
  rw [h4, h3]
set_option maxHeartbeats 1000000 in
theorem rsplit_calls (A : Option Addr) (c : Nat) (xs : List Int) (w : World) (hx : Rd w A xs) (hs : Small xs) (hc : xs.length ≤ c) (hm : xs.length ≤ 1000000) :
    Calls Try.prog 19 #[.slice A xs.length c] w fun e w' => (∃ v, e = .returned v ∧ OwnP w' w.heap.size v (runs xs xs.length).1) ∧ Below w.heap.size w w' := by
  go_enter Try.func19, Try.ntmps19
  go_wp2_with fail
  go_loopw [3, 4] (fun o i wr => ∃ k : Nat, k ≤ xs.length ∧ i = .int .i64 k ∧ Hid (¬ k < (runs xs k).2) ∧ OwnP wr w.heap.size o (runs xs k).1 ∧ Below w.heap.size w wr)
    (fun _ i _ => xs.length - (intOf i).toNat)
  case atStart => exact ⟨0, Nat.zero_le _, rfl, Lib.hid (Nat.lt_irrefl 0), OwnP.nil _ _, Below.refl _ _⟩
  case round =>
    obtain ⟨k, hk, rfl, HE, ho, hb⟩ := hrel
    obtain ⟨R, hR⟩ : ∃ R, R = (runs xs k).1 := ⟨_, rfl⟩
    rw [← hR] at ho
    have hbd := (runs_bound xs k hk).2
    rw [← hR] at hbd
    have HR := Lib.hid hR
    have HO := Lib.hid ho
    clear hR ho
    by_cases hgo : k < xs.length
    · have hx1 := Rd.below hx hb
      have hcut : Rd wr (A.map (·.add k)) (xs.drop k) := by
        have h5 := Rd.cut hx1 k c hk hc
        rwa [if_neg (by omega)] at h5
      have hld : (xs.drop k).length = xs.length - k := by simp
      have hpl := plen_le (xs.drop k)
      rw [hld] at hpl
      obtain ⟨n, hn⟩ : ∃ n, n = plen (xs.drop k) := ⟨_, rfl⟩
      rw [← hn] at hpl
      have LC := part_calls _ (c - k) _ wr hcut (small_drop hs k) (by rw [hld]; omega) (by rw [hld]; omega)
      rw [hld, ← hn] at LC
      by_cases h2 : 0 < n
      · have HN := Lib.hid (runs_jump HE.out hn h2)
        clear hn
        go_wp2_with fail
        refine LC.mono ?_
        rintro e w1 ⟨rfl, rfl⟩
        clear hcut LC hld
        have hal := Below.alloc hb hb.size (.cells #[.int .i64 (k : Int), .int .i64 ((k : Int) + (n : Int))] 34)
        have HO2 := Lib.hid (OwnP.below HO.out ((Below.refl _ w1).alloc (Nat.le_refl _) (.cells #[.int .i64 (k : Int), .int .i64 ((k : Int) + (n : Int))] 34)))
        clear HO
        go_wp2_with (at_builtin; refine wpList_appP rfl (.tmp 16) (.tmp 22) rfl w.heap.size _ R rfl HO2.out ⟨w1.heap.size, 0, none⟩ 1 k (k + n) rfl (World.cell?_alloc_at _ _ _ _ rfl) (World.cell?_alloc_at _ _ _ _ rfl) (by omega) hal.size ?_; intro v2 w2 ho2 hg2; have hB2 := hal.grown hg2 hal.size HO2.out.block; clear hg2)
        have HO3 := Lib.hid ho2
        clear ho2 HO2
        go_wp2_with fail
        go_roundw
        case rel => exact ⟨k + n, by omega, by go_num, Lib.hid (by rw [HN.out]; exact Nat.lt_irrefl _), by rw [HN.out, ← HR.out]; exact HO3.out, hB2⟩
        case measure => simp [intOf]; omega
      · have HN := Lib.hid (runs_out (xs := xs) (i := k) HE.out (by rw [← hn]; exact h2))
        obtain rfl : n = 0 := by omega
        clear hn
        go_wp2_with fail
        refine LC.mono ?_
        rintro e w1 ⟨rfl, rfl⟩
        go_wp2_with fail
        go_roundw
        case rel => exact ⟨k + 1, by omega, by go_num, Lib.hid (by rw [HN.out]; have := HE.out; omega), by rw [HN.out, ← HR.out]; exact HO.out, hb⟩
        case measure => simp [intOf]; omega
    · have hk2 : k = xs.length := by omega
      have HK := Lib.hid hk2
      clear hk2
      go_wp2_with fail
      go_ret
      exact ⟨⟨_, rfl, by rw [← HK.out, ← HR.out]; exact HO.out⟩, hb⟩
end Go.Proofs.Ythkmlfefofgnhaa
