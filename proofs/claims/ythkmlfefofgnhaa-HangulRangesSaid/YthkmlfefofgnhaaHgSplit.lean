import Derived.Test.YthkmlfefofgnhaaHgLen
namespace Go.Proofs.Ythkmlfefofgnhaa
open Go.RowKit
set_option linter.unusedVariables false
set_option linter.unusedSimpArgs false

/-- The ranges that begin before place i, and where the last one ends. -/
def runs (xs : List Int) : Nat → List (Nat × Nat) × Nat
  | 0 => ([], 0)
  | i + 1 => if i < (runs xs i).2 then runs xs i else if 0 < plen (xs.drop i) then ((runs xs i).1 ++ [(i, i + plen (xs.drop i))], i + plen (xs.drop i)) else runs xs i
theorem runs_in {xs : List Int} {i : Nat} (h : i < (runs xs i).2) : runs xs (i + 1) = runs xs i := by rw [runs, if_pos h]
theorem runs_new {xs : List Int} {i : Nat} (h : ¬ i < (runs xs i).2) (h2 : 0 < plen (xs.drop i)) : runs xs (i + 1) = ((runs xs i).1 ++ [(i, i + plen (xs.drop i))], i + plen (xs.drop i)) := by rw [runs, if_neg h, if_pos h2]
theorem runs_out {xs : List Int} {i : Nat} (h : ¬ i < (runs xs i).2) (h2 : ¬ 0 < plen (xs.drop i)) : runs xs (i + 1) = runs xs i := by rw [runs, if_neg h, if_neg h2]
theorem plen_le (xs : List Int) : plen xs ≤ xs.length := by
  unfold plen
  have h0 := fun h => kind_out (xs := xs) (j := 0) h
  have h1 := fun h => kind_out (xs := xs) (j := 1) h
  have h2 := fun h => kind_out (xs := xs) (j := 2) h
  by_cases g0 : xs.length ≤ 0
  · have := h0 g0; (repeat' split) <;> omega
  · by_cases g1 : xs.length ≤ 1
    · have := h1 g1; (repeat' split) <;> omega
    · by_cases g2 : xs.length ≤ 2
      · have := h2 g2; (repeat' split) <;> omega
      · (repeat' split) <;> omega
theorem runs_bound (xs : List Int) (i : Nat) (hi : i ≤ xs.length) : (runs xs i).2 ≤ xs.length ∧ (runs xs i).1.length ≤ i := by
  induction i with
  | zero => exact ⟨Nat.zero_le _, Nat.le_refl _⟩
  | succ i ih =>
    have ih := ih (by omega)
    have hp := plen_le (xs.drop i)
    rw [List.length_drop] at hp
    rw [runs]
    split
    · exact ⟨ih.1, by omega⟩
    · split
      · refine ⟨?_, ?_⟩
        · show i + plen (xs.drop i) ≤ xs.length
          omega
        · show ((runs xs i).1 ++ [(i, i + plen (xs.drop i))]).length ≤ i + 1
          rw [List.length_append]
          have : [(i, i + plen (xs.drop i))].length = 1 := rfl
          omega
      · exact ⟨ih.1, by omega⟩
/-- The cells of ranges. -/
def flat (ps : List (Nat × Nat)) : List Value := ps.flatMap fun p => [.int .i64 (p.1 : Int), .int .i64 (p.2 : Int)]
theorem flat_app (ps qs : List (Nat × Nat)) : flat (ps ++ qs) = flat ps ++ flat qs := by simp [flat]
theorem flat_length (ps : List (Nat × Nat)) : (flat ps).length = ps.length * 2 := by
  induction ps with
  | nil => rfl
  | cons p ps ih => show ((_ : Value) :: (_ : Value) :: flat ps).length = _; simp only [List.length_cons, ih]; omega
/-- A slice value of the call's own that reads as these ranges. -/
def OwnP (w : World) (B : Nat) (v : Value) (ps : List (Nat × Nat)) : Prop := w.ownsRow B 34 2 v ps.length (flat ps)
theorem OwnP.nil (w : World) (B : Nat) : OwnP w B (.slice none 0 0) [] := ⟨rfl, .inl ⟨rfl, rfl⟩⟩
theorem OwnP.below {w w' : World} {B : Nat} {v : Value} {ps : List (Nat × Nat)} (h : OwnP w B v ps) (hb : Below w.heap.size w w') : OwnP w' B v ps := by
  refine ⟨h.1, ?_⟩
  rcases h.2 with h1 | ⟨g, cap, cur, h1, h2, h3, h4⟩
  · exact .inl h1
  · exact .inr ⟨g, cap, cur, h1, h2, (hb.block g (lt_of_heap h3)).trans h3, h4⟩
theorem OwnP.block {w : World} {B : Nat} {v : Value} {ps : List (Nat × Nat)} (h : OwnP w B v ps) : ∀ k, v.ownBlock = some k → B ≤ k := by
  rcases h.2 with ⟨rfl, _⟩ | ⟨g, cap, cur, rfl, hB, _⟩
  · intro k hk; simp [Value.ownBlock] at hk
  · intro k hk
    have : g = k := by simpa [Value.ownBlock] using hk
    omega
theorem small_drop {xs : List Int} (h : Small xs) (k : Nat) : Small (xs.drop k) := fun j => by rw [el_drop]; exact h _
theorem info_range : (Try.prog.info? 34).map (fun i => (i.zero, i.size, i.bytes)) = some (some (.agg #[.int .i64 0, .int .i64 0]), 2, 16) := by rfl
theorem wpList_appP {w : World} {ops : Array Oper} {rest : List Oper} {o : Oper} {a : Act} {Q : Exit → Act → World → Prop} (hgd : o.guard = none) (s x : Operand)
    (ho : o.op = .call { callee := .builtin .append, args := #[s, x], argTypes := #[31, 31] })
    (B : Nat) (v : Value) (ps : List (Nat × Nat)) (hs : a.eval s = v) (hown : OwnP w B v ps) (A : Addr) (c lo hi : Nat) (hx : a.eval x = .slice (some A) 1 c)
    (hr0 : w.cell? (A.add 0) = some (.int .i64 (lo : Int))) (hr1 : w.cell? (A.add 1) = some (.int .i64 (hi : Int))) (hlen : ps.length ≤ 1000000) (hB : B ≤ w.heap.size)
    (h : ∀ v' w', OwnP w' B v' (ps ++ [(lo, hi)]) → w.grownBy w' v.ownBlock → wpList Try.prog ops Q rest (a.put o.dst v') w') : wpList Try.prog ops Q (o :: rest) a w := by
  obtain ⟨i, hi1, hz, hsize, hby⟩ := info_parts info_range
  refine wpList_plain hgd fun K hK => ?_
  obtain ⟨v', w', hrun, h1, h2, _⟩ := run_append_own (P := Try.prog) w B 31 o.type 34 i _ 2 16 Try.underlying31 hi1 hz hsize hby rfl (by decide) v ps.length (flat ps) hown A 1 c (flat [(lo, hi)]) rfl
    (by
      intro j u hj
      rcases (show j = 0 ∨ j = 1 by have := (List.getElem?_eq_some_iff.1 hj).1; simp [flat] at this; omega) with rfl | rfl
      · have e : u = .int .i64 (lo : Int) := by simpa [flat] using hj.symm
        rw [e]; exact hr0
      · have e : u = .int .i64 (hi : Int) := by simpa [flat] using hj.symm
        rw [e]; exact hr1)
    (by intro u hu; simp [flat] at hu; rcases hu with rfl | rfl <;> rfl)
    (by unfold maxLen; omega) (by omega) hB
  unfold Oper.wp execOp
  simp only [ho, resolve, invoke, builtin, Sem.run_bind, Sem.run_pure, Result.andThen_ok, List.map_toArray, List.map_cons, List.map_nil, hs, hx, hrun]
  refine hK _ _ (h v' w' ?_ h2)
  unfold OwnP
  rw [flat_app, List.length_append]
  exact h1
set_option maxHeartbeats 1000000 in
theorem split_calls (A : Option Addr) (c : Nat) (xs : List Int) (w : World) (hx : Rd w A xs) (hs : Small xs) (hc : xs.length ≤ c) (hm : xs.length ≤ 1000000) :
    Calls Try.prog 18 #[.slice A xs.length c] w fun e w' => (∃ v, e = .returned v ∧ OwnP w' w.heap.size v (runs xs xs.length).1) ∧ Below w.heap.size w w' := by
  go_enter Try.func18, Try.ntmps18
  go_wp2_with fail
  go_loopw [3, 4, 9] (fun o e i wr => ∃ k : Nat, k ≤ xs.length ∧ i = .int .i64 k ∧ e = .int .i64 ((runs xs k).2 : Int) ∧ OwnP wr w.heap.size o (runs xs k).1 ∧ Below w.heap.size w wr)
    (fun _ _ i _ => xs.length - (intOf i).toNat)
  case atStart => exact ⟨0, Nat.zero_le _, rfl, rfl, OwnP.nil _ _, Below.refl _ _⟩
  case round =>
    obtain ⟨k, hk, rfl, rfl, ho, hb⟩ := hrel
    obtain ⟨R, hR⟩ : ∃ R, R = runs xs k := ⟨_, rfl⟩
    rw [← hR] at ho
    rw [← hR]
    have hbd := runs_bound xs k hk
    rw [← hR] at hbd
    obtain ⟨ps, e2⟩ := R
    have hbd1 : e2 ≤ xs.length := hbd.1
    have hbd2 : ps.length ≤ k := hbd.2
    have ho : OwnP wr w.heap.size u3 ps := ho
    show Code.wp _ _ _ _ _
    dsimp only
    clear hbd
    by_cases hgo : k < xs.length
    · by_cases h1 : k < e2
      · have HN := Lib.hid (runs_in (xs := xs) (i := k) (by rw [← hR]; exact h1))
        have HR := Lib.hid hR
        have HO := Lib.hid ho
        clear hR ho
        go_wp2_with fail
        go_roundw
        case rel => exact ⟨k + 1, by omega, by go_num, by rw [HN.out, ← HR.out], by rw [HN.out, ← HR.out]; exact HO.out, hb⟩
        case measure => simp [intOf]; omega
      · have hx1 := Rd.below hx hb
        have hcut : Rd wr (A.map (·.add k)) (xs.drop k) := by
          have h5 := Rd.cut hx1 k c hk hc
          rwa [if_neg (by omega)] at h5
        have hld : (xs.drop k).length = xs.length - k := by simp
        have hpl := plen_le (xs.drop k)
        rw [hld] at hpl
        have HR := Lib.hid hR
        have HO := Lib.hid ho
        clear hR ho
        by_cases h2 : 0 < plen (xs.drop k)
        · have HN := Lib.hid (runs_new (xs := xs) (i := k) (by rw [← HR.out]; exact h1) h2)
          obtain ⟨n, hn⟩ : ∃ n, n = plen (xs.drop k) := ⟨_, rfl⟩
          rw [← hn] at h2 hpl HN
          have HL := Lib.hid hn
          clear hn
          have LC := length_calls _ (c - k) _ wr hcut (small_drop hs k) (by rw [hld]; omega) (by rw [hld]; omega)
          rw [hld, ← HL.out] at LC
          go_wp2_with fail
          refine LC.mono ?_
          rintro e w1 ⟨rfl, hb1⟩
          have HO1 := Lib.hid (OwnP.below HO.out hb1)
          have hB1 := below_then' hb hb.size hb1
          clear HO hb1 hcut LC hld
          have hal := Below.alloc hB1 hB1.size (.cells #[.int .i64 (k : Int), .int .i64 ((k : Int) + (n : Int))] 34)
          have HO2 := Lib.hid (OwnP.below HO1.out ((Below.refl _ w1).alloc (Nat.le_refl _) (.cells #[.int .i64 (k : Int), .int .i64 ((k : Int) + (n : Int))] 34)))
          clear HO1
          go_wp2_with (at_builtin; refine wpList_appP rfl (.tmp 24) (.tmp 28) rfl w.heap.size _ ps rfl HO2.out ⟨w1.heap.size, 0, none⟩ 1 k (k + n) rfl (World.cell?_alloc_at _ _ _ _ rfl) (World.cell?_alloc_at _ _ _ _ rfl) (by omega) hal.size ?_; intro v2 w2 ho2 hg2; have hB2 := hal.grown hg2 hal.size HO2.out.block; clear hg2)
          have HO3 := Lib.hid ho2
          clear ho2 HO2
          go_wp2_with fail
          go_roundw
          case rel => exact ⟨k + 1, by omega, by go_num, by rw [HN.out]; rfl, by rw [HN.out, ← HR.out]; exact HO3.out, hB2⟩
          case measure => simp [intOf]; omega
        · have HN := Lib.hid (runs_out (xs := xs) (i := k) (by rw [← HR.out]; exact h1) h2)
          have h3 : plen (xs.drop k) = 0 := by omega
          have HL := Lib.hid h3
          clear h2 h3
          have LC := length_calls _ (c - k) _ wr hcut (small_drop hs k) (by rw [hld]; omega) (by rw [hld]; omega)
          rw [hld, HL.out] at LC
          go_wp2_with fail
          refine LC.mono ?_
          rintro e w1 ⟨rfl, hb1⟩
          have HO1 := Lib.hid (OwnP.below HO.out hb1)
          have hB1 := below_then' hb hb.size hb1
          clear HO hb1 hcut LC hld
          go_wp2_with fail
          go_roundw
          case rel => exact ⟨k + 1, by omega, by go_num, by rw [HN.out, ← HR.out], by rw [HN.out, ← HR.out]; exact HO1.out, hB1⟩
          case measure => simp [intOf]; omega
    · have hk2 : k = xs.length := by omega
      have HR := Lib.hid hR
      have HO := Lib.hid ho
      have HK := Lib.hid hk2
      clear hR ho hk2
      go_wp2_with fail
      go_ret
      exact ⟨⟨_, rfl, by rw [← HK.out, ← HR.out]; exact HO.out⟩, hb⟩
end Go.Proofs.Ythkmlfefofgnhaa
