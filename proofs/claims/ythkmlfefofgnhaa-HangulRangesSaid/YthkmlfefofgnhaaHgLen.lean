import Derived.Test.YthkmlfefofgnhaaHgDec
namespace Go.Proofs.Ythkmlfefofgnhaa
open Go.RowKit
set_option linter.unusedVariables false
set_option linter.unusedSimpArgs false

/-- The length of the syllable at the beginning of a text; 0 if none begins there. -/
def plen (xs : List Int) : Nat :=
  if kind (el xs 0) = 1 ∧ kind (el xs 1) = 2 then (if kind (el xs 2) = 3 then 3 else 2)
  else if kind (el xs 0) = 4 then (if kind (el xs 1) = 3 then 2 else 1) else if kind (el xs 0) = 5 then 1 else 0
theorem kind_0 : kind 0 = 0 := by decide
theorem el_out {xs : List Int} {j : Nat} (h : xs.length ≤ j) : el xs j = 0 := by simp [el, List.getElem?_eq_none h]
theorem kind_out {xs : List Int} {j : Nat} (h : xs.length ≤ j) : kind (el xs j) = 0 := by rw [el_out h, kind_0]
/-- The numbers of a text are those of the machine. -/
def Small (xs : List Int) : Prop := ∀ j, -9223372036854775808 ≤ el xs j ∧ el xs j ≤ 9223372036854775807
theorem length_calls (A : Option Addr) (c : Nat) (xs : List Int) (w : World) (hx : Rd w A xs) (hs : Small xs) (hn : 0 < xs.length) (hm : xs.length ≤ 4611686018427387904) :
    Calls Try.prog 23 #[.slice A xs.length c] w fun e w' => e = .returned (.int .i64 (plen xs : Int)) ∧ Below w.heap.size w w' := by
  obtain ⟨a, rfl, c0'⟩ := hx.at_ hn
  have c0 : w.cell? a = some (.int .i64 (el xs 0)) := c0'
  clear c0'
  obtain ⟨k0, hk0⟩ : ∃ k0, k0 = kind (el xs 0) := ⟨_, rfl⟩
  obtain ⟨k1, hk1⟩ : ∃ k1, k1 = kind (el xs 1) := ⟨_, rfl⟩
  obtain ⟨k2, hk2⟩ : ∃ k2, k2 = kind (el xs 2) := ⟨_, rfl⟩
  have K0 := Lib.hid hk0
  have K1 := Lib.hid hk1
  have K2 := Lib.hid hk2
  have K1o : xs.length ≤ 1 → k1 = 0 := fun h => hk1.trans (kind_out h)
  have K2o : xs.length ≤ 2 → k2 = 0 := fun h => hk2.trans (kind_out h)
  have hr := kind_range (el xs 0)
  rw [← hk0] at hr
  obtain ⟨p, hp⟩ : ∃ p, p = plen xs := ⟨_, rfl⟩
  have hpl := hp
  unfold plen at hpl
  rw [← hk0, ← hk1, ← hk2] at hpl
  rw [← hp]
  clear hk0 hk1 hk2 hp
  by_cases h1 : k0 = 1
  · subst h1
    by_cases h2 : xs.length < 2
    · have hp : p = 0 := by rw [hpl, K1o (by omega)]; rfl
      subst hp
      clear hpl
      go_enter Try.func23, Try.ntmps23
      go_wp2_with fail
      refine (kind_calls (el xs 0) _ (hs 0)).mono ?_
      rintro e w1 ⟨rfl, hb1⟩
      rw [← K0.out]
      go_wp2_with fail
      go_ret
      exact ⟨rfl, hb1⟩
    · by_cases h3 : k1 = 2
      · subst h3
        by_cases h4 : xs.length < 3
        · have hp : p = 2 := by rw [hpl, K2o (by omega)]; rfl
          subst hp
          have h5 : ¬ 2 < xs.length := by omega
          clear hpl
          go_enter Try.func23, Try.ntmps23
          go_wp2_with fail
          refine (kind_calls (el xs 0) _ (hs 0)).mono ?_
          rintro e w1 ⟨rfl, hb1⟩
          rw [← K0.out]
          have hx1 := Rd.below hx hb1
          obtain ⟨a', ea, c1'⟩ := hx1.at_ (k := 1) (by omega)
          injection ea with ea
          subst ea
          have c1 : w1.cell? ⟨a.block, a.off + 1, none⟩ = some (.int .i64 (el xs 1)) := c1'
          clear c1'
          go_wp2_with fail
          refine (kind_calls (el xs 1) _ (hs 1)).mono ?_
          rintro e w2 ⟨rfl, hb2⟩
          rw [← K1.out]
          have hB2 := below_then' hb1 hb1.size hb2
          go_wp2_with fail
          go_ret
          exact ⟨rfl, hB2⟩
        · have h5 : 2 < xs.length := by omega
          by_cases h6 : k2 = 3
          · subst h6
            have hp : p = 3 := by rw [hpl]; rfl
            subst hp
            clear hpl
            go_enter Try.func23, Try.ntmps23
            go_wp2_with fail
            refine (kind_calls (el xs 0) _ (hs 0)).mono ?_
            rintro e w1 ⟨rfl, hb1⟩
            rw [← K0.out]
            have hx1 := Rd.below hx hb1
            obtain ⟨a', ea, c1'⟩ := hx1.at_ (k := 1) (by omega)
            injection ea with ea
            subst ea
            have c1 : w1.cell? ⟨a.block, a.off + 1, none⟩ = some (.int .i64 (el xs 1)) := c1'
            clear c1'
            go_wp2_with fail
            refine (kind_calls (el xs 1) _ (hs 1)).mono ?_
            rintro e w2 ⟨rfl, hb2⟩
            rw [← K1.out]
            have hB2 := below_then' hb1 hb1.size hb2
            have hx2 := Rd.below hx1 hb2
            obtain ⟨a', ea, c2'⟩ := hx2.at_ (k := 2) (by omega)
            injection ea with ea
            subst ea
            have c2 : w2.cell? ⟨a.block, a.off + 2, none⟩ = some (.int .i64 (el xs 2)) := c2'
            clear c2'
            go_wp2_with fail
            refine (kind_calls (el xs 2) _ (hs 2)).mono ?_
            rintro e w3 ⟨rfl, hb3⟩
            rw [← K2.out]
            have hB3 := below_then' hB2 hB2.size hb3
            go_wp2_with fail
            go_ret
            exact ⟨rfl, hB3⟩
          · have hp : p = 2 := by rw [hpl, if_pos ⟨rfl, rfl⟩, if_neg h6]
            subst hp
            clear hpl
            go_enter Try.func23, Try.ntmps23
            go_wp2_with fail
            refine (kind_calls (el xs 0) _ (hs 0)).mono ?_
            rintro e w1 ⟨rfl, hb1⟩
            rw [← K0.out]
            have hx1 := Rd.below hx hb1
            obtain ⟨a', ea, c1'⟩ := hx1.at_ (k := 1) (by omega)
            injection ea with ea
            subst ea
            have c1 : w1.cell? ⟨a.block, a.off + 1, none⟩ = some (.int .i64 (el xs 1)) := c1'
            clear c1'
            go_wp2_with fail
            refine (kind_calls (el xs 1) _ (hs 1)).mono ?_
            rintro e w2 ⟨rfl, hb2⟩
            rw [← K1.out]
            have hB2 := below_then' hb1 hb1.size hb2
            have hx2 := Rd.below hx1 hb2
            obtain ⟨a', ea, c2'⟩ := hx2.at_ (k := 2) (by omega)
            injection ea with ea
            subst ea
            have c2 : w2.cell? ⟨a.block, a.off + 2, none⟩ = some (.int .i64 (el xs 2)) := c2'
            clear c2'
            go_wp2_with fail
            refine (kind_calls (el xs 2) _ (hs 2)).mono ?_
            rintro e w3 ⟨rfl, hb3⟩
            rw [← K2.out]
            have hB3 := below_then' hB2 hB2.size hb3
            go_wp2_with fail
            go_ret
            exact ⟨rfl, hB3⟩
      · have hp : p = 0 := by rw [hpl, if_neg (fun h => h3 h.2), if_neg (by omega), if_neg (by omega)]
        subst hp
        have g3 : (k1 != 2) = true := by rw [bne_iff_ne]; exact h3
        clear hpl
        go_enter Try.func23, Try.ntmps23
        go_wp2_with fail
        refine (kind_calls (el xs 0) _ (hs 0)).mono ?_
        rintro e w1 ⟨rfl, hb1⟩
        rw [← K0.out]
        have hx1 := Rd.below hx hb1
        obtain ⟨a', ea, c1'⟩ := hx1.at_ (k := 1) (by omega)
        injection ea with ea
        subst ea
        have c1 : w1.cell? ⟨a.block, a.off + 1, none⟩ = some (.int .i64 (el xs 1)) := c1'
        clear c1'
        go_wp2_with fail
        refine (kind_calls (el xs 1) _ (hs 1)).mono ?_
        rintro e w2 ⟨rfl, hb2⟩
        rw [← K1.out]
        have hB2 := below_then' hb1 hb1.size hb2
        go_wp2_with fail
        go_ret
        exact ⟨rfl, hB2⟩
  · by_cases h2 : k0 = 4
    · subst h2
      by_cases h4 : xs.length < 2
      · have hp : p = 1 := by rw [hpl, K1o (by omega)]; rfl
        subst hp
        have h5 : ¬ 1 < xs.length := by omega
        clear hpl
        go_enter Try.func23, Try.ntmps23
        go_wp2_with fail
        refine (kind_calls (el xs 0) _ (hs 0)).mono ?_
        rintro e w1 ⟨rfl, hb1⟩
        rw [← K0.out]
        go_wp2_with fail
        go_ret
        exact ⟨rfl, hb1⟩
      · have h5 : 1 < xs.length := by omega
        by_cases h6 : k1 = 3
        · subst h6
          have hp : p = 2 := by rw [hpl]; rfl
          subst hp
          clear hpl
          go_enter Try.func23, Try.ntmps23
          go_wp2_with fail
          refine (kind_calls (el xs 0) _ (hs 0)).mono ?_
          rintro e w1 ⟨rfl, hb1⟩
          rw [← K0.out]
          have hx1 := Rd.below hx hb1
          obtain ⟨a', ea, c1'⟩ := hx1.at_ (k := 1) (by omega)
          injection ea with ea
          subst ea
          have c1 : w1.cell? ⟨a.block, a.off + 1, none⟩ = some (.int .i64 (el xs 1)) := c1'
          clear c1'
          go_wp2_with fail
          refine (kind_calls (el xs 1) _ (hs 1)).mono ?_
          rintro e w2 ⟨rfl, hb2⟩
          rw [← K1.out]
          have hB2 := below_then' hb1 hb1.size hb2
          go_wp2_with fail
          go_ret
          exact ⟨rfl, hB2⟩
        · have hp : p = 1 := by rw [hpl, if_neg (by omega), if_pos rfl, if_neg h6]
          subst hp
          clear hpl
          go_enter Try.func23, Try.ntmps23
          go_wp2_with fail
          refine (kind_calls (el xs 0) _ (hs 0)).mono ?_
          rintro e w1 ⟨rfl, hb1⟩
          rw [← K0.out]
          have hx1 := Rd.below hx hb1
          obtain ⟨a', ea, c1'⟩ := hx1.at_ (k := 1) (by omega)
          injection ea with ea
          subst ea
          have c1 : w1.cell? ⟨a.block, a.off + 1, none⟩ = some (.int .i64 (el xs 1)) := c1'
          clear c1'
          go_wp2_with fail
          refine (kind_calls (el xs 1) _ (hs 1)).mono ?_
          rintro e w2 ⟨rfl, hb2⟩
          rw [← K1.out]
          have hB2 := below_then' hb1 hb1.size hb2
          go_wp2_with fail
          go_ret
          exact ⟨rfl, hB2⟩
    · by_cases h3 : k0 = 5
      · subst h3
        have hp : p = 1 := by rw [hpl]; rfl
        subst hp
        clear hpl
        go_enter Try.func23, Try.ntmps23
        go_wp2_with fail
        refine (kind_calls (el xs 0) _ (hs 0)).mono ?_
        rintro e w1 ⟨rfl, hb1⟩
        rw [← K0.out]
        go_wp2_with fail
        go_ret
        exact ⟨rfl, hb1⟩
      · have hp : p = 0 := by rw [hpl, if_neg (fun h => h1 h.1), if_neg h2, if_neg h3]
        subst hp
        clear hpl
        go_enter Try.func23, Try.ntmps23
        go_wp2_with fail
        refine (kind_calls (el xs 0) _ (hs 0)).mono ?_
        rintro e w1 ⟨rfl, hb1⟩
        rw [← K0.out]
        go_wp2_with fail
        go_ret
        exact ⟨rfl, hb1⟩
theorem part_calls (A : Option Addr) (c : Nat) (xs : List Int) (w : World) (hx : Rd w A xs) (hs : Small xs) (hn : 0 < xs.length) (hm : xs.length ≤ 4611686018427387904) :
    Calls Try.prog 24 #[.slice A xs.length c] w fun e w' => e = .returned (.int .i64 (plen xs : Int)) ∧ w' = w := by
  obtain ⟨a, rfl, c0'⟩ := hx.at_ hn
  have c0 : w.cell? a = some (.int .i64 (el xs 0)) := c0'
  clear c0'
  obtain ⟨k0, hk0⟩ : ∃ k0, k0 = kind (el xs 0) := ⟨_, rfl⟩
  obtain ⟨k1, hk1⟩ : ∃ k1, k1 = kind (el xs 1) := ⟨_, rfl⟩
  obtain ⟨k2, hk2⟩ : ∃ k2, k2 = kind (el xs 2) := ⟨_, rfl⟩
  have K0 := Lib.hid hk0
  have K1 := Lib.hid hk1
  have K2 := Lib.hid hk2
  have K1o : xs.length ≤ 1 → k1 = 0 := fun h => hk1.trans (kind_out h)
  have K2o : xs.length ≤ 2 → k2 = 0 := fun h => hk2.trans (kind_out h)
  have hr := kind_range (el xs 0)
  rw [← hk0] at hr
  obtain ⟨p, hp⟩ : ∃ p, p = plen xs := ⟨_, rfl⟩
  have hpl := hp
  unfold plen at hpl
  rw [← hk0, ← hk1, ← hk2] at hpl
  rw [← hp]
  clear hk0 hk1 hk2 hp
  have hnz : ¬ xs.length = 0 := by omega
  by_cases g1 : xs.length ≤ 1
  · have z1 := K1o g1
    have z2 := K2o (by omega)
    have g2 : ¬ 1 < xs.length := by omega
    have g3 : ¬ 2 < xs.length := by omega
    clear K1 K2 K1o K2o g1
    obtain ⟨x1, hx1⟩ : ∃ x1, x1 = k1 := ⟨_, rfl⟩
    clear hx1 x1
    subst z1 z2
    by_cases d0 : k0 = 1
    · subst d0
      have hp : p = 0 := by rw [hpl]; rfl
      subst hp
      clear hpl
      go_enter Try.func24, Try.ntmps24
      go_wp2_with fail
      refine (kindR_calls (el xs 0) _ (hs 0)).mono ?_
      rintro e w1 ⟨rfl, rfl⟩
      rw [← K0.out]
      go_wp2_with fail
      go_ret
      exact ⟨rfl, rfl⟩
    · by_cases d1 : k0 = 4
      · subst d1
        have hp : p = 1 := by rw [hpl]; rfl
        subst hp
        clear hpl
        go_enter Try.func24, Try.ntmps24
        go_wp2_with fail
        refine (kindR_calls (el xs 0) _ (hs 0)).mono ?_
        rintro e w1 ⟨rfl, rfl⟩
        rw [← K0.out]
        go_wp2_with fail
        go_ret
        exact ⟨rfl, rfl⟩
      · have d2 : (k0 == 1) = false := by rw [beq_eq_false_iff_ne]; exact d0
        have d3 : (k0 == 4) = false := by rw [beq_eq_false_iff_ne]; exact d1
        by_cases d4 : k0 = 5
        · subst d4
          have hp : p = 1 := by rw [hpl]; rfl
          subst hp
          clear hpl
          go_enter Try.func24, Try.ntmps24
          go_wp2_with fail
          refine (kindR_calls (el xs 0) _ (hs 0)).mono ?_
          rintro e w1 ⟨rfl, rfl⟩
          rw [← K0.out]
          go_wp2_with fail
          go_ret
          exact ⟨rfl, rfl⟩
        · have d5 : ¬ 4 ≤ k0 := by omega
          have hp : p = 0 := by rw [hpl]; rw [if_neg (fun h => d0 h.1), if_neg d1, if_neg d4]
          subst hp
          clear hpl
          go_enter Try.func24, Try.ntmps24
          go_wp2_with fail
          refine (kindR_calls (el xs 0) _ (hs 0)).mono ?_
          rintro e w1 ⟨rfl, rfl⟩
          rw [← K0.out]
          go_wp2_with fail
          go_ret
          exact ⟨rfl, rfl⟩
  · by_cases g2 : xs.length ≤ 2
    · have z2 := K2o g2
      have g4 : 1 < xs.length := by omega
      have g3 : ¬ 2 < xs.length := by omega
      clear K2 K1o K2o g1 g2
      subst z2
      obtain ⟨a', ea, c1'⟩ := hx.at_ (k := 1) (by omega)
      injection ea with ea
      subst ea
      have c1 : w.cell? ⟨a.block, a.off + 1, none⟩ = some (.int .i64 (el xs 1)) := c1'
      clear c1'
      by_cases d0 : k0 = 1
      · subst d0
        by_cases d1 : k1 = 2
        · subst d1
          have hp : p = 2 := by rw [hpl]; rfl
          subst hp
          clear hpl
          go_enter Try.func24, Try.ntmps24
          go_wp2_with fail
          refine (kindR_calls (el xs 0) _ (hs 0)).mono ?_
          rintro e w1 ⟨rfl, rfl⟩
          rw [← K0.out]
          go_wp2_with fail
          refine (kindR_calls (el xs 1) _ (hs 1)).mono ?_
          rintro e w1 ⟨rfl, rfl⟩
          rw [← K1.out]
          go_wp2_with fail
          go_ret
          exact ⟨rfl, rfl⟩
        · have d2 : (k1 == 2) = false := by rw [beq_eq_false_iff_ne]; exact d1
          have hp : p = 0 := by rw [hpl]; rw [if_neg (fun h => d1 h.2), if_neg (by omega), if_neg (by omega)]
          subst hp
          clear hpl
          go_enter Try.func24, Try.ntmps24
          go_wp2_with fail
          refine (kindR_calls (el xs 0) _ (hs 0)).mono ?_
          rintro e w1 ⟨rfl, rfl⟩
          rw [← K0.out]
          go_wp2_with fail
          refine (kindR_calls (el xs 1) _ (hs 1)).mono ?_
          rintro e w1 ⟨rfl, rfl⟩
          rw [← K1.out]
          go_wp2_with fail
          go_ret
          exact ⟨rfl, rfl⟩
      · by_cases d1 : k0 = 4
        · subst d1
          by_cases d2 : k1 = 3
          · subst d2
            have hp : p = 2 := by rw [hpl]; rfl
            subst hp
            clear hpl
            go_enter Try.func24, Try.ntmps24
            go_wp2_with fail
            refine (kindR_calls (el xs 0) _ (hs 0)).mono ?_
            rintro e w1 ⟨rfl, rfl⟩
            rw [← K0.out]
            go_wp2_with fail
            refine (kindR_calls (el xs 1) _ (hs 1)).mono ?_
            rintro e w1 ⟨rfl, rfl⟩
            rw [← K1.out]
            go_wp2_with fail
            go_ret
            exact ⟨rfl, rfl⟩
          · have d3 : (k1 == 3) = false := by rw [beq_eq_false_iff_ne]; exact d2
            have hp : p = 1 := by rw [hpl]; rw [if_neg (by omega), if_pos rfl, if_neg d2]
            subst hp
            clear hpl
            go_enter Try.func24, Try.ntmps24
            go_wp2_with fail
            refine (kindR_calls (el xs 0) _ (hs 0)).mono ?_
            rintro e w1 ⟨rfl, rfl⟩
            rw [← K0.out]
            go_wp2_with fail
            refine (kindR_calls (el xs 1) _ (hs 1)).mono ?_
            rintro e w1 ⟨rfl, rfl⟩
            rw [← K1.out]
            go_wp2_with fail
            go_ret
            exact ⟨rfl, rfl⟩
        · have d2 : (k0 == 1) = false := by rw [beq_eq_false_iff_ne]; exact d0
          have d3 : (k0 == 4) = false := by rw [beq_eq_false_iff_ne]; exact d1
          by_cases d4 : k0 = 5
          · subst d4
            have hp : p = 1 := by rw [hpl]; rfl
            subst hp
            clear hpl
            go_enter Try.func24, Try.ntmps24
            go_wp2_with fail
            refine (kindR_calls (el xs 0) _ (hs 0)).mono ?_
            rintro e w1 ⟨rfl, rfl⟩
            rw [← K0.out]
            go_wp2_with fail
            refine (kindR_calls (el xs 1) _ (hs 1)).mono ?_
            rintro e w1 ⟨rfl, rfl⟩
            rw [← K1.out]
            go_wp2_with fail
            go_ret
            exact ⟨rfl, rfl⟩
          · have d5 : ¬ 4 ≤ k0 := by omega
            have hp : p = 0 := by rw [hpl]; rw [if_neg (fun h => d0 h.1), if_neg d1, if_neg d4]
            subst hp
            clear hpl
            go_enter Try.func24, Try.ntmps24
            go_wp2_with fail
            refine (kindR_calls (el xs 0) _ (hs 0)).mono ?_
            rintro e w1 ⟨rfl, rfl⟩
            rw [← K0.out]
            go_wp2_with fail
            refine (kindR_calls (el xs 1) _ (hs 1)).mono ?_
            rintro e w1 ⟨rfl, rfl⟩
            rw [← K1.out]
            go_wp2_with fail
            go_ret
            exact ⟨rfl, rfl⟩
    · have g4 : 1 < xs.length := by omega
      have g3 : 2 < xs.length := by omega
      clear K1o K2o g1 g2
      obtain ⟨a', ea, c1'⟩ := hx.at_ (k := 1) (by omega)
      injection ea with ea
      subst ea
      have c1 : w.cell? ⟨a.block, a.off + 1, none⟩ = some (.int .i64 (el xs 1)) := c1'
      clear c1'
      obtain ⟨a', ea, c2'⟩ := hx.at_ (k := 2) (by omega)
      injection ea with ea
      subst ea
      have c2 : w.cell? ⟨a.block, a.off + 2, none⟩ = some (.int .i64 (el xs 2)) := c2'
      clear c2'
      by_cases d0 : k0 = 1
      · subst d0
        by_cases d1 : k1 = 2
        · subst d1
          by_cases d2 : k2 = 3
          · subst d2
            have hp : p = 3 := by rw [hpl]; rfl
            subst hp
            clear hpl
            go_enter Try.func24, Try.ntmps24
            go_wp2_with fail
            refine (kindR_calls (el xs 0) _ (hs 0)).mono ?_
            rintro e w1 ⟨rfl, rfl⟩
            rw [← K0.out]
            go_wp2_with fail
            refine (kindR_calls (el xs 1) _ (hs 1)).mono ?_
            rintro e w1 ⟨rfl, rfl⟩
            rw [← K1.out]
            go_wp2_with fail
            refine (kindR_calls (el xs 2) _ (hs 2)).mono ?_
            rintro e w1 ⟨rfl, rfl⟩
            rw [← K2.out]
            go_wp2_with fail
            go_ret
            exact ⟨rfl, rfl⟩
          · have d3 : (k2 == 3) = false := by rw [beq_eq_false_iff_ne]; exact d2
            have hp : p = 2 := by rw [hpl]; rw [if_pos ⟨rfl, rfl⟩, if_neg d2]
            subst hp
            clear hpl
            go_enter Try.func24, Try.ntmps24
            go_wp2_with fail
            refine (kindR_calls (el xs 0) _ (hs 0)).mono ?_
            rintro e w1 ⟨rfl, rfl⟩
            rw [← K0.out]
            go_wp2_with fail
            refine (kindR_calls (el xs 1) _ (hs 1)).mono ?_
            rintro e w1 ⟨rfl, rfl⟩
            rw [← K1.out]
            go_wp2_with fail
            refine (kindR_calls (el xs 2) _ (hs 2)).mono ?_
            rintro e w1 ⟨rfl, rfl⟩
            rw [← K2.out]
            go_wp2_with fail
            go_ret
            exact ⟨rfl, rfl⟩
        · have d2 : (k1 == 2) = false := by rw [beq_eq_false_iff_ne]; exact d1
          have hp : p = 0 := by rw [hpl]; rw [if_neg (fun h => d1 h.2), if_neg (by omega), if_neg (by omega)]
          subst hp
          clear hpl
          go_enter Try.func24, Try.ntmps24
          go_wp2_with fail
          refine (kindR_calls (el xs 0) _ (hs 0)).mono ?_
          rintro e w1 ⟨rfl, rfl⟩
          rw [← K0.out]
          go_wp2_with fail
          refine (kindR_calls (el xs 1) _ (hs 1)).mono ?_
          rintro e w1 ⟨rfl, rfl⟩
          rw [← K1.out]
          go_wp2_with fail
          refine (kindR_calls (el xs 2) _ (hs 2)).mono ?_
          rintro e w1 ⟨rfl, rfl⟩
          rw [← K2.out]
          go_wp2_with fail
          go_ret
          exact ⟨rfl, rfl⟩
      · by_cases d1 : k0 = 4
        · subst d1
          by_cases d2 : k1 = 3
          · subst d2
            have hp : p = 2 := by rw [hpl]; rfl
            subst hp
            clear hpl
            go_enter Try.func24, Try.ntmps24
            go_wp2_with fail
            refine (kindR_calls (el xs 0) _ (hs 0)).mono ?_
            rintro e w1 ⟨rfl, rfl⟩
            rw [← K0.out]
            go_wp2_with fail
            refine (kindR_calls (el xs 1) _ (hs 1)).mono ?_
            rintro e w1 ⟨rfl, rfl⟩
            rw [← K1.out]
            go_wp2_with fail
            refine (kindR_calls (el xs 2) _ (hs 2)).mono ?_
            rintro e w1 ⟨rfl, rfl⟩
            rw [← K2.out]
            go_wp2_with fail
            go_ret
            exact ⟨rfl, rfl⟩
          · have d3 : (k1 == 3) = false := by rw [beq_eq_false_iff_ne]; exact d2
            have hp : p = 1 := by rw [hpl]; rw [if_neg (by omega), if_pos rfl, if_neg d2]
            subst hp
            clear hpl
            go_enter Try.func24, Try.ntmps24
            go_wp2_with fail
            refine (kindR_calls (el xs 0) _ (hs 0)).mono ?_
            rintro e w1 ⟨rfl, rfl⟩
            rw [← K0.out]
            go_wp2_with fail
            refine (kindR_calls (el xs 1) _ (hs 1)).mono ?_
            rintro e w1 ⟨rfl, rfl⟩
            rw [← K1.out]
            go_wp2_with fail
            refine (kindR_calls (el xs 2) _ (hs 2)).mono ?_
            rintro e w1 ⟨rfl, rfl⟩
            rw [← K2.out]
            go_wp2_with fail
            go_ret
            exact ⟨rfl, rfl⟩
        · have d2 : (k0 == 1) = false := by rw [beq_eq_false_iff_ne]; exact d0
          have d3 : (k0 == 4) = false := by rw [beq_eq_false_iff_ne]; exact d1
          by_cases d4 : k0 = 5
          · subst d4
            have hp : p = 1 := by rw [hpl]; rfl
            subst hp
            clear hpl
            go_enter Try.func24, Try.ntmps24
            go_wp2_with fail
            refine (kindR_calls (el xs 0) _ (hs 0)).mono ?_
            rintro e w1 ⟨rfl, rfl⟩
            rw [← K0.out]
            go_wp2_with fail
            refine (kindR_calls (el xs 1) _ (hs 1)).mono ?_
            rintro e w1 ⟨rfl, rfl⟩
            rw [← K1.out]
            go_wp2_with fail
            refine (kindR_calls (el xs 2) _ (hs 2)).mono ?_
            rintro e w1 ⟨rfl, rfl⟩
            rw [← K2.out]
            go_wp2_with fail
            go_ret
            exact ⟨rfl, rfl⟩
          · have d5 : ¬ 4 ≤ k0 := by omega
            have hp : p = 0 := by rw [hpl]; rw [if_neg (fun h => d0 h.1), if_neg d1, if_neg d4]
            subst hp
            clear hpl
            go_enter Try.func24, Try.ntmps24
            go_wp2_with fail
            refine (kindR_calls (el xs 0) _ (hs 0)).mono ?_
            rintro e w1 ⟨rfl, rfl⟩
            rw [← K0.out]
            go_wp2_with fail
            refine (kindR_calls (el xs 1) _ (hs 1)).mono ?_
            rintro e w1 ⟨rfl, rfl⟩
            rw [← K1.out]
            go_wp2_with fail
            refine (kindR_calls (el xs 2) _ (hs 2)).mono ?_
            rintro e w1 ⟨rfl, rfl⟩
            rw [← K2.out]
            go_wp2_with fail
            go_ret
            exact ⟨rfl, rfl⟩
end Go.Proofs.Ythkmlfefofgnhaa
