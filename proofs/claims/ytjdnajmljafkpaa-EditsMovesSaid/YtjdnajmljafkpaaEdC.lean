import Derived.Test.YtjdnajmljafkpaaEdB
import Derived.Test.YtjdnajmljafkpaaCut
namespace Go.Proofs.Ytjdnajmljafkpaa
open Go.RowKit
set_option linter.unusedVariables false
set_option linter.unusedSimpArgs false

/-- A text with other elements in place of some. -/
def repl (xs : List Int) (a d : Nat) (ys : List Int) : List Int := xs.take a ++ ys ++ xs.drop (a + d)
theorem length_repl {xs ys : List Int} {a d : Nat} (h : a + d ≤ xs.length) : (repl xs a d ys).length + d = xs.length + ys.length := by
  simp [repl]; omega

/-- A fresh row, cut. -/
theorem own_cut {w : World} {B g : Nat} {E : TypeId} {cur : Array Value} {xs : List Int} (k : Int) (h0 : 0 ≤ k) (hk : k ≤ xs.length) (hB : B ≤ g) (hg : w.heap[g]? = some (.cells cur E (0, 0))) (hc : cur.toList = ints xs)
    (hm : xs.length * 8 ≤ 140737488355328) : Own w B E (.slice (some ⟨g, 0, none⟩) k.toNat k.toNat) (xs.take k.toNat) := by
  have hl : (xs.take k.toNat).length = k.toNat := by simp; omega
  have hs : cur.size = xs.length := by rw [← Array.length_toList, hc, ints_length]
  refine .inr ⟨g, k.toNat, cur, by rw [hl], hB, hg, by omega, by unfold maxLen; omega, by omega, ?_⟩
  rw [hc, hl]
  simp [ints, List.map_take]

set_option maxHeartbeats 1000000 in
theorem replaced_calls (A C : Option Addr) (c b : Nat) (xs ys : List Int) (a d : Int) (w : World) (hx : Rd w A xs) (hy : Rd w C ys) (hc : xs.length ≤ c)
    (ha : 0 ≤ a) (hd : 0 ≤ d) (had : a + d ≤ xs.length) (hn : xs.length ≤ 1000000) (hm : ys.length ≤ 1000000) :
    Calls Try.prog 30 #[.slice A xs.length c, .int .i64 a, .int .i64 d, .slice C ys.length b] w fun e w' =>
      ∃ v, e = .returned v ∧ Fr w' w.heap.size v (repl xs a.toNat d.toNat ys) ∧ Below w.heap.size w w' := by
  obtain ⟨A1, zs, c1, HZ, hzl, _, _, hcut, hcutR⟩ := cut_from (P := Try.prog) 22 3 Try.underlying22 info_int A c xs (a + d) (by omega) had hc
  have hsh := fun A' => cut_short (P := Try.prog) 22 3 Try.underlying22 info_int A' xs.length xs.length a ha (by omega)
  go_enter Try.func30, Try.ntmps30
  go_wp2_with fail
  refine (copied_calls A c xs w hx (by omega)).mono ?_
  rintro e w1 ⟨g, cur, rfl, hg, hcur, hl, hb⟩
  have hb1 := hb.size
  have HO := Lib.hid (own_cut a ha (by omega) hg hcur hl (by omega))
  clear hcur hl
  go_wp2_with (first
    | (at_builtin; refine wpList_app rfl (.tmp 14) (.tmp 15) 22 rfl w.heap.size 3 Try.underlying22 info_int _ _ rfl HO.out _ _ _ ys rfl rfl (hy.below hb) (by simp; omega) hb.size ?_; intro v2 w2 ho2 hg2; have HO2 := Lib.hid ho2; have hb2 := Own.below_app hb hb.size HO.out hg2; clear ho2 hg2)
    | (at_builtin; refine wpList_app rfl (.tmp 17) (.tmp 22) 22 rfl w.heap.size 3 Try.underlying22 info_int _ _ rfl HO2.out _ _ _ zs rfl rfl ((hcutR w hx).below hb2) (by simp; omega) hb2.size ?_; intro v3 w3 ho3 hg3; have HO3 := Lib.hid ho3; have hb3 := Own.below_app hb2 hb2.size HO2.out hg3; clear ho3 hg3))
  go_ret
  refine ⟨_, rfl, ?_, hb3⟩
  have h := HO3.out.fr
  rw [HZ.out, show (a + d).toNat = a.toNat + d.toNat from by omega] at h
  exact h

set_option maxHeartbeats 1000000 in
theorem join_calls (A B C : Option Addr) (a b c : Nat) (xs ys zs : List Int) (w : World) (hx : Rd w A xs) (hy : Rd w B ys) (hz : Rd w C zs) (hn : xs.length ≤ 1000000) (hm : ys.length ≤ 1000000) (hk : zs.length ≤ 1000000) :
    Calls Try.prog 29 #[.slice A xs.length a, .slice B ys.length b, .slice C zs.length c] w fun e w' =>
      ∃ v, e = .returned v ∧ Fr w' w.heap.size v (xs ++ ys ++ zs) ∧ Below w.heap.size w w' := by
  have H0 := Lib.hid (Own.nil w w.heap.size 3)
  have hs := Nat.le_refl w.heap.size
  have hb0 := Below.refl w.heap.size w
  go_enter Try.func29, Try.ntmps29
  go_wp2_with (first
    | (at_builtin; refine wpList_app rfl (.tmp 8) (.tmp 9) 22 rfl w.heap.size 3 Try.underlying22 info_int _ _ rfl H0.out _ _ _ xs rfl rfl hx (by simp; omega) hs ?_; intro v1 w1 ho1 hg1; have H1 := Lib.hid ho1; have hb1 := Own.below_app hb0 hs H0.out hg1; clear ho1 hg1)
    | (at_builtin; refine wpList_app rfl (.tmp 11) (.tmp 12) 22 rfl w.heap.size 3 Try.underlying22 info_int _ _ rfl H1.out _ _ _ ys rfl rfl (hy.below hb1) (by simp; omega) hb1.size ?_; intro v2 w2 ho2 hg2; have H2 := Lib.hid ho2; have hb2 := Own.below_app hb1 hb1.size H1.out hg2; clear ho2 hg2)
    | (at_builtin; refine wpList_app rfl (.tmp 14) (.tmp 15) 22 rfl w.heap.size 3 Try.underlying22 info_int _ _ rfl H2.out _ _ _ zs rfl rfl (hz.below hb2) (by simp; omega) hb2.size ?_; intro v3 w3 ho3 hg3; have H3 := Lib.hid ho3; have hb3 := Own.below_app hb2 hb2.size H2.out hg3; clear ho3 hg3))
  go_ret
  exact ⟨_, rfl, by simpa using H3.out.fr, hb3⟩
end Go.Proofs.Ytjdnajmljafkpaa
