import Derived.Test.YtjdnajmljafkpaaBase
import Derived.Laws.Rows
import Derived.RegionTactic
namespace Go.Proofs.Ytjdnajmljafkpaa
open Go.RowKit
set_option linter.unusedVariables false
set_option linter.unusedSimpArgs false

/-- Whole numbers as values. -/
def ints (xs : List Int) : List Value := xs.map (Value.int .i64)
theorem ints_length (xs : List Int) : (ints xs).length = xs.length := by simp [ints]
theorem ints_append (xs ys : List Int) : ints (xs ++ ys) = ints xs ++ ints ys := by simp [ints]
theorem ints_get {xs : List Int} {j : Nat} (h : j < xs.length) : (ints xs)[j]? = some (.int .i64 (el xs j)) := by
  simp [ints, el, h]
theorem ints_one (xs : List Int) : ∀ u ∈ ints xs, u.oneCell' = true := by
  intro u hu
  simp only [ints, List.mem_map] at hu
  obtain ⟨x, _, rfl⟩ := hu
  rfl
theorem Rd.cells {w : World} {ad : Addr} {xs : List Int} (h : Rd w (some ad) xs) : ∀ j u, (ints xs)[j]? = some u → w.cell? (ad.add j) = some u := by
  intro j u hj
  have hl : j < xs.length := by
    have := (List.getElem?_eq_some_iff.1 hj).1
    simpa [ints] using this
  obtain ⟨ad', e, _, hc⟩ := h (by omega)
  injection e with e
  subst e
  rw [hc j hl]
  rw [ints_get hl] at hj
  exact hj
theorem Rd.of_cells {w : World} {ad : Addr} {xs : List Int} (hb : ad.block < w.heap.size) (h : ∀ j, j < xs.length → w.cell? (ad.add j) = some (.int .i64 (el xs j))) : Rd w (some ad) xs :=
  fun _ => ⟨ad, rfl, hb, h⟩
theorem Rd.take {w : World} {A : Option Addr} {xs : List Int} (h : Rd w A xs) (k : Nat) : Rd w A (xs.take k) := fun hn => by
  have hl : (xs.take k).length = min k xs.length := by simp
  obtain ⟨ad, e, hb, hc⟩ := h (by omega)
  exact ⟨ad, e, hb, fun j hj => by rw [el_take (by omega)]; exact hc j (by omega)⟩
/-- A cut at its beginning: the address as the model has it. -/
theorem Rd.cut {w : World} {A : Option Addr} {xs : List Int} (h : Rd w A xs) (k c : Nat) (hk : k ≤ xs.length) (hc : xs.length ≤ c) :
    Rd w (if c = k then A else A.map (·.add k)) (xs.drop k) := fun hn => by
  have hl : (xs.drop k).length = xs.length - k := by simp
  obtain ⟨ad, rfl, hb, hcell⟩ := h (by omega)
  rw [if_neg (by omega)]
  refine ⟨ad.add k, rfl, by rw [block_add]; exact hb, fun j hj => ?_⟩
  rw [add_add', el_drop]
  exact hcell _ (by omega)

/-- A slice value that reads as xs. -/
def Sl (w : World) (v : Value) (xs : List Int) : Prop :=
  ∃ (A : Option Addr) (c : Nat), v = .slice A xs.length c ∧ xs.length ≤ c ∧ c ≤ maxLen ∧ Rd w A xs
theorem Sl.below {w w' : World} {v : Value} {xs : List Int} (h : Sl w v xs) (hb : Below w.heap.size w w') : Sl w' v xs := by
  obtain ⟨A, c, h1, h2, h3, h4⟩ := h
  exact ⟨A, c, h1, h2, h3, h4.below hb⟩
theorem Sl.nil (w : World) : Sl w (.slice none 0 0) [] := ⟨none, 0, rfl, Nat.le_refl _, by unfold maxLen; omega, Rd.nil _ _⟩

/-- A slice value that is nil, or the head of a row of the call's own (blocks from B on), and reads as xs. Its row may be longer than its capacity. -/
def Own (w : World) (B : Nat) (E : TypeId) (v : Value) (xs : List Int) : Prop :=
  (v = .slice none 0 0 ∧ xs = []) ∨
  ∃ g cap cur, v = .slice (some ⟨g, 0, none⟩) xs.length cap ∧ B ≤ g ∧ w.heap[g]? = some (.cells cur E (0, 0)) ∧ xs.length ≤ cap ∧ cap ≤ maxLen ∧ cap ≤ cur.size ∧ cur.toList.take xs.length = ints xs
theorem Own.nil (w : World) (B : Nat) (E : TypeId) : Own w B E (.slice none 0 0) [] := .inl ⟨rfl, rfl⟩
theorem add_lit' (g j : Nat) : (⟨g, 0, none⟩ : Addr).add j = ⟨g, j, none⟩ := by unfold Addr.add; split <;> simp_all
theorem cells_of_row {w : World} {g : Nat} {E : TypeId} {cur : Array Value} {xs : List Int} (hg : w.heap[g]? = some (.cells cur E (0, 0))) (ht : cur.toList.take xs.length = ints xs) :
    ∀ j, j < xs.length → w.cell? ((⟨g, 0, none⟩ : Addr).add j) = some (.int .i64 (el xs j)) := by
  intro j hj
  rw [add_lit', cell_of_row w g j cur E (0, 0) hg, ← Array.getElem?_toList]
  have := ints_get hj
  rw [← ht, List.getElem?_take, if_pos hj] at this
  exact this
theorem lt_of_heap {w : World} {g : Nat} {o : Obj} (h : w.heap[g]? = some o) : g < w.heap.size := (Array.getElem?_eq_some_iff.1 h).1
theorem Own.sl {w : World} {B : Nat} {E : TypeId} {v : Value} {xs : List Int} (h : Own w B E v xs) : Sl w v xs := by
  rcases h with ⟨rfl, rfl⟩ | ⟨g, cap, cur, rfl, hB, hg, hc, hm, hs, ht⟩
  · exact Sl.nil w
  · exact ⟨_, cap, rfl, hc, hm, Rd.of_cells (lt_of_heap hg) (cells_of_row hg ht)⟩
theorem Own.block {w : World} {B : Nat} {E : TypeId} {v : Value} {xs : List Int} (h : Own w B E v xs) : ∀ k, v.ownBlock = some k → B ≤ k := by
  rcases h with ⟨rfl, _⟩ | ⟨g, cap, cur, rfl, hB, _⟩
  · intro k hk; simp [Value.ownBlock] at hk
  · intro k hk
    have : g = k := by simpa [Value.ownBlock] using hk
    omega
theorem Own.of_row {w : World} {B n : Nat} {E : TypeId} {v : Value} {xs : List Int} (h : w.ownsRow B E 1 v n (ints xs)) : Own w B E v xs := by
  have hl : xs.length = n := by have := h.1; simpa [ints] using this
  subst hl
  rcases h.2 with ⟨rfl, h0⟩ | ⟨g, cap, cur, rfl, hB, hg, hc, hm, hs, ht⟩
  · exact .inl ⟨rfl, List.eq_nil_of_length_eq_zero h0⟩
  · exact .inr ⟨g, cap, cur, rfl, hB, hg, hc, hm, by omega, by simpa using ht⟩

theorem Rd.setCell {w : World} {A : Option Addr} {xs : List Int} (h : Rd w A xs) {p : Addr} (hp : ∀ ad, A = some ad → ad.block ≠ p.block) (u : Value) : Rd (w.setCell p u) A xs := fun hn => by
  obtain ⟨ad, rfl, hb, hc⟩ := h hn
  exact ⟨ad, rfl, by simpa [World.setCell] using hb, fun j hj => (World.cell?_of_block (Below.heap_setCell w p u _ (by rw [block_add]; exact hp ad rfl))).trans (hc j hj)⟩
/-- A slice value that reads as xs and lies in blocks from B on. -/
def Fr (w : World) (B : Nat) (v : Value) (xs : List Int) : Prop :=
  ∃ (A : Option Addr) (c : Nat), v = .slice A xs.length c ∧ xs.length ≤ c ∧ c ≤ maxLen ∧ Rd w A xs ∧ ∀ ad, A = some ad → B ≤ ad.block
theorem Fr.sl {w : World} {B : Nat} {v : Value} {xs : List Int} (h : Fr w B v xs) : Sl w v xs := by
  obtain ⟨A, c, h1, h2, h3, h4, _⟩ := h
  exact ⟨A, c, h1, h2, h3, h4⟩
theorem Fr.setCell {w : World} {B : Nat} {v : Value} {xs : List Int} (h : Fr w B v xs) {p : Addr} (hp : p.block < B) (u : Value) : Fr (w.setCell p u) B v xs := by
  obtain ⟨A, c, h1, h2, h3, h4, h5⟩ := h
  exact ⟨A, c, h1, h2, h3, h4.setCell (fun ad e => by have := h5 ad e; omega) u, h5⟩
theorem Own.fr {w : World} {B : Nat} {E : TypeId} {v : Value} {xs : List Int} (h : Own w B E v xs) : Fr w B v xs := by
  rcases h with ⟨rfl, rfl⟩ | ⟨g, cap, cur, rfl, hB, hg, hc, hm, hs, ht⟩
  · exact ⟨none, 0, rfl, Nat.le_refl _, by unfold maxLen; omega, Rd.nil _ _, fun ad e => by cases e⟩
  · exact ⟨_, cap, rfl, hc, hm, Rd.of_cells (lt_of_heap hg) (cells_of_row hg ht), fun ad e => by injection e with e; subst e; exact hB⟩

section
variable {P : Program}
/-- append(v, src...): whatever room there is. -/
theorem run_app (w : World) (B : Nat) (t ty E : TypeId) (ht : P.underlying t = some (.slice E)) (hinfo : (P.info? E).map (fun i => (i.zero, i.size, i.bytes)) = some (some (.int .i64 0), 1, 8))
    (v : Value) (xs : List Int) (hown : Own w B E v xs) (A : Option Addr) (c : Nat) (ys : List Int) (hr : Rd w A ys)
    (hlen : (xs.length + ys.length) * 8 ≤ 140737488355328) (hB : B ≤ w.heap.size) :
    ∃ v' w', (Builtin.append_ #[t, t] ty #[v, .slice A ys.length c]).run P w = .ok v' w' ∧ Own w' B E v' (xs ++ ys) ∧ w.grownBy w' v.ownBlock := by
  obtain ⟨i, hi, hz, hsize, hby⟩ := info_parts hinfo
  have h63 : xs.length + ys.length ≤ maxLen := by unfold maxLen; omega
  have hl1 : (ints ys).length = ys.length * 1 := by simp [ints]
  by_cases h0 : ys.length = 0
  · obtain rfl : ys = [] := List.eq_nil_of_length_eq_zero h0
    refine ⟨v, w, ?_, by simpa using hown, World.grownBy.refl w _⟩
    rcases hown with ⟨rfl, rfl⟩ | ⟨g, cap, cur, rfl, hBg, hg, hc, hm, hs, htk⟩
    · cases A <;> simp [Builtin.append_, run_underlying ht, sizeOf, typeInfo, hi, Builtin.lenOf, Builtin.firstCells, loadCells, loadCellsFrom]
    · cases A <;> simp [Builtin.append_, run_underlying ht, sizeOf, typeInfo, hi, Builtin.lenOf, Builtin.firstCells, loadCells, loadCellsFrom, hc, storeCells]
  · obtain ⟨ad, rfl, hbk, _⟩ := hr (by omega)
    have hcells := hr.cells
    rcases hown with ⟨rfl, rfl⟩ | ⟨g, cap, cur, rfl, hBg, hg, hc, hm, hs, htk⟩
    · obtain ⟨v', w', h1, h2, h3, _⟩ := run_append_own (P := P) w B t ty E i _ 1 8 ht hi hz hsize hby rfl (by decide) (.slice none 0 0) 0 [] (World.ownsRow_nil w B E 1) ad ys.length c (ints ys) hl1 hcells (ints_one ys)
        (by simpa using h63) (by simpa using hlen) hB
      exact ⟨v', w', h1, by simpa using Own.of_row (xs := ys) (by simpa using h2), h3⟩
    · by_cases hroom : xs.length + ys.length ≤ cap
      · have hrun := run_append_room (P := P) w t ty E i ht hi g xs.length cap cur hg ad ys.length c (ints ys) (by rw [hl1, hsize]) hcells (ints_one ys) hroom (by rw [hsize, ints_length]; omega)
        refine ⟨_, _, hrun, .inr ⟨g, cap, _, by rw [List.length_append], hBg, setRow_heap w g cur _ E _ hg, by rw [List.length_append]; exact hroom, hm, ?_, ?_⟩, ⟨rfl, rfl, rfl, by simp, fun k _ hk => setRow_other w g k _ (fun e => hk (by simp [Value.ownBlock, e]))⟩⟩
        · simp only [List.size_toArray, List.length_append, List.length_take, List.length_drop, Array.length_toList, ints_length, hsize]
          omega
        · rw [hsize, Nat.mul_one, htk, ints_append]
          have : (xs ++ ys).length = (ints xs ++ ints ys).length := by simp [ints]
          rw [this]
          exact List.take_left
      · have holds : ∀ j u, (ints xs)[j]? = some u → w.cell? ((⟨g, 0, none⟩ : Addr).add j) = some u := (Rd.of_cells (lt_of_heap hg) (cells_of_row hg htk)).cells
        obtain ⟨v', w', h1, h2, h3⟩ := run_append_arg_grows (P := P) w t ty E i _ 1 8 ht hi hz hsize hby rfl (by decide) ⟨g, 0, none⟩ xs.length cap (ints xs) (by simp [ints]) holds ad ys.length c (ints ys) hl1 hcells
          (by omega) h63 hlen
        refine ⟨v', w', h1, ?_, ⟨h3.os, h3.tape, h3.output, h3.size, fun k hk _ => h3.block k hk (by simp)⟩⟩
        rw [← ints_append] at h2
        rcases Own.of_row h2 with h | ⟨g', cap', cur', e, hb', r⟩
        · exact .inl h
        · exact .inr ⟨g', cap', cur', e, by omega, r⟩

theorem wpList_app {w : World} {ops : Array Oper} {rest : List Oper} {o : Oper} {a : Act} {Q : Exit → Act → World → Prop} (hgd : o.guard = none) (s x : Operand) (t : TypeId)
    (ho : o.op = .call { callee := .builtin .append, args := #[s, x], argTypes := #[t, t] })
    (B : Nat) (E : TypeId) (ht : P.underlying t = some (.slice E)) (hinfo : (P.info? E).map (fun i => (i.zero, i.size, i.bytes)) = some (some (.int .i64 0), 1, 8))
    (v : Value) (xs : List Int) (hs : a.eval s = v) (hown : Own w B E v xs) (A : Option Addr) (c n : Nat) (ys : List Int) (hx : a.eval x = .slice A n c) (hn : n = ys.length) (hr : Rd w A ys)
    (hlen : (xs.length + ys.length) * 8 ≤ 140737488355328) (hB : B ≤ w.heap.size)
    (h : ∀ v' w', Own w' B E v' (xs ++ ys) → w.grownBy w' v.ownBlock → wpList P ops Q rest (a.put o.dst v') w') : wpList P ops Q (o :: rest) a w := by
  subst hn
  refine wpList_plain hgd fun K hK => ?_
  obtain ⟨v', w', hrun, h1, h2⟩ := run_app (P := P) w B t o.type E ht hinfo v xs hown A c ys hr hlen hB
  unfold Oper.wp execOp
  simp only [ho, resolve, invoke, builtin, Sem.run_bind, Sem.run_pure, Result.andThen_ok, List.map_toArray, List.map_cons, List.map_nil, hs, hx, hrun]
  exact hK _ _ (h v' w' h1 h2)
end
theorem Own.below_app {w0 w w' : World} {B : Nat} {E : TypeId} {v : Value} {xs : List Int} (hb : Below B w0 w) (hB : B ≤ w.heap.size) (ho : Own w B E v xs) (hg : w.grownBy w' v.ownBlock) : Below B w0 w' :=
  hb.grown hg hB ho.block
end Go.Proofs.Ytjdnajmljafkpaa
