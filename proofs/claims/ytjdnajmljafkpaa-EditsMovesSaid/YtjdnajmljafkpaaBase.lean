import Derived.WalkKit
import Derived.Below
import Derived.Deep.Draws
import Derived.Deep.AppendLies
import Derived.Maps.AppendAt
import Derived.OwnWalk
import Derived.Laws.OwnMore
import Derived.Lib.Hide
namespace Go.Proofs.Ytjdnajmljafkpaa
open Go.RowKit
set_option linter.unusedVariables false
set_option linter.unusedSimpArgs false

/-! ### Lists of whole numbers, and slices that read as such (no program in sight) -/
/-- The element at a place, 0 beyond the end. -/
def el (xs : List Int) (j : Nat) : Int := xs.getD j 0
theorem el_lt {xs : List Int} {j : Nat} (h : j < xs.length) : el xs j = xs[j] := by simp [el, h]
theorem drop_el {xs : List Int} {k : Nat} (h : k < xs.length) : xs.drop k = el xs k :: xs.drop (k + 1) := by
  rw [el_lt h]; exact List.drop_eq_getElem_cons h
theorem el_drop (xs : List Int) (k j : Nat) : el (xs.drop k) j = el xs (k + j) := by simp [el, List.getElem?_drop]
theorem el_take {xs : List Int} {k j : Nat} (h : j < k) : el (xs.take k) j = el xs j := by simp [el, List.getElem?_take, h]
theorem el_append_left {xs ys : List Int} {j : Nat} (h : j < xs.length) : el (xs ++ ys) j = el xs j := by simp [el, List.getElem?_append, h]
theorem el_append_right {xs ys : List Int} {j : Nat} (h : xs.length ≤ j) : el (xs ++ ys) j = el ys (j - xs.length) := by
  simp [el, List.getElem?_append, Nat.not_lt.mpr h]
theorem ext_el {xs ys : List Int} (hl : xs.length = ys.length) (h : ∀ j, j < xs.length → el xs j = el ys j) : xs = ys := by
  refine List.ext_getElem hl fun j h1 h2 => ?_
  have := h j h1
  rwa [el_lt h1, el_lt h2] at this

/-- The cells from A on hold the numbers xs, in memory that is there. -/
def Rd (w : World) (A : Option Addr) (xs : List Int) : Prop :=
  0 < xs.length → ∃ ad : Addr, A = some ad ∧ ad.block < w.heap.size ∧ ∀ j, j < xs.length → w.cell? (ad.add j) = some (.int .i64 (el xs j))
theorem Rd.nil (w : World) (A : Option Addr) : Rd w A [] := fun h => absurd h (by simp)
theorem Rd.at_ {w : World} {A : Option Addr} {xs : List Int} (h : Rd w A xs) {k : Nat} (hk : k < xs.length) :
    ∃ ad : Addr, A = some ad ∧ w.cell? (ad.add k) = some (.int .i64 (el xs k)) := by
  obtain ⟨ad, e, _, hc⟩ := h (by omega)
  exact ⟨ad, e, hc k hk⟩
theorem block_add (a : Addr) (n : Nat) : (a.add n).block = a.block := by unfold Addr.add; split <;> rfl
theorem add_add' (a : Addr) (i j : Nat) : (a.add i).add j = a.add (i + j) := by
  unfold Addr.add
  by_cases hi : i = 0 <;> by_cases hj : j = 0 <;> simp [hi, hj, Nat.add_assoc]
theorem Rd.keep {w w' : World} {A : Option Addr} {xs : List Int} (h : Rd w A xs) (hs : w.heap.size ≤ w'.heap.size)
    (hk : ∀ p : Addr, p.block < w.heap.size → w'.cell? p = w.cell? p) : Rd w' A xs := fun hn => by
  obtain ⟨ad, e, hb, hc⟩ := h hn
  exact ⟨ad, e, by omega, fun j hj => (hk _ (by rw [block_add]; exact hb)).trans (hc j hj)⟩
theorem Rd.below {w w' : World} {A : Option Addr} {xs : List Int} (h : Rd w A xs) (hb : Below w.heap.size w w') : Rd w' A xs :=
  h.keep hb.size fun _ hp => hb.cell hp
theorem Rd.drewN {w : World} {A : Option Addr} {xs : List Int} (h : Rd w A xs) (n : Nat) : Rd (w.drewN n) A xs := h
theorem Rd.drew {w : World} {A : Option Addr} {xs : List Int} (h : Rd w A xs) : Rd w.drew A xs := h

theorem below_drewN' {B : Nat} {a w : World} (h : Below B a w) (n : Nat) : Below B a (w.drewN n) := ⟨h.os, h.tape, h.output, h.size, h.block⟩
theorem below_then' {B : Nat} {w w1 w2 : World} (h : Below B w w1) (hB : B ≤ w1.heap.size) (k : Below w1.heap.size w1 w2) : Below B w w2 :=
  h.trans ⟨k.os, k.tape, k.output, k.size, fun i hi => k.block i (Nat.lt_of_lt_of_le hi hB)⟩

theorem bcell {W w1 : World} (hb : Below W.heap.size W w1) : (∀ b o, b < W.heap.size → w1.cell? ⟨b, o, none⟩ = W.cell? ⟨b, o, none⟩) ∧ (∀ b o, b < W.heap.size → w1.frozen? ⟨b, o, none⟩ = W.frozen? ⟨b, o, none⟩) :=
  ⟨fun b o h => hb.cell (p := ⟨b, o, none⟩) h, fun b o h => hb.frozen (p := ⟨b, o, none⟩) h⟩

/-! ### The order of two lists -/
def cmp : List Int → List Int → Int
  | [], [] => 0
  | [], _ :: _ => -1
  | _ :: _, [] => 1
  | a :: as, b :: bs => if a < b then -1 else if b < a then 1 else cmp as bs
theorem cmp_self (xs : List Int) : cmp xs xs = 0 := by
  induction xs with
  | nil => rfl
  | cons a as ih => simp [cmp, ih]
theorem cmp_zero (xs ys : List Int) : cmp xs ys = 0 ↔ xs = ys := by
  induction xs generalizing ys with
  | nil => cases ys <;> simp [cmp]
  | cons a as ih =>
    cases ys with
    | nil => simp [cmp]
    | cons b bs =>
      simp only [cmp]
      by_cases h1 : a < b
      · simp [h1]; omega
      · by_cases h2 : b < a
        · simp [h1, h2]; omega
        · have : a = b := by omega
          simp [h1, h2, ih, this]
theorem cmp_range (xs ys : List Int) : cmp xs ys = -1 ∨ cmp xs ys = 0 ∨ cmp xs ys = 1 := by
  induction xs generalizing ys with
  | nil => cases ys <;> simp [cmp]
  | cons a as ih =>
    cases ys with
    | nil => simp [cmp]
    | cons b bs =>
      simp only [cmp]
      split
      · simp
      · split
        · simp
        · exact ih bs
theorem cmp_lt_at {xs ys : List Int} {k : Nat} (hx : k < xs.length) (hy : k < ys.length) (h : el xs k < el ys k) : cmp (xs.drop k) (ys.drop k) = -1 := by
  rw [drop_el hx, drop_el hy]; simp [cmp, h]
theorem cmp_gt_at {xs ys : List Int} {k : Nat} (hx : k < xs.length) (hy : k < ys.length) (h : el ys k < el xs k) : cmp (xs.drop k) (ys.drop k) = 1 := by
  rw [drop_el hx, drop_el hy]; simp only [cmp]; rw [if_neg (by omega), if_pos h]
theorem cmp_eq_at {xs ys : List Int} {k : Nat} (hx : k < xs.length) (hy : k < ys.length) (h1 : ¬ el xs k < el ys k) (h2 : ¬ el ys k < el xs k) :
    cmp (xs.drop k) (ys.drop k) = cmp (xs.drop (k + 1)) (ys.drop (k + 1)) := by
  rw [drop_el hx, drop_el hy]; simp only [cmp]; rw [if_neg h1, if_neg h2]
theorem cmp_end {xs ys : List Int} {k : Nat} (hx : k ≤ xs.length) (hy : k ≤ ys.length) (h : ¬ (k < xs.length ∧ k < ys.length)) :
    cmp (xs.drop k) (ys.drop k) = if xs.length < ys.length then -1 else if ys.length < xs.length then 1 else 0 := by
  by_cases h1 : k < xs.length
  · have h2 : k = ys.length := by omega
    rw [drop_el h1, h2, List.drop_length]
    rw [if_neg (by omega), if_pos (by omega)]; rfl
  · have h3 : k = xs.length := by omega
    by_cases h2 : k < ys.length
    · rw [drop_el h2, h3, List.drop_length, if_pos (by omega)]; rfl
    · have h4 : k = ys.length := by omega
      rw [List.drop_eq_nil_of_le (by omega), List.drop_eq_nil_of_le (by omega), if_neg (by omega), if_neg (by omega)]; rfl

theorem ret_int {k : IntKind} {a b : Int} (h : a = b) : Ending.returned (.int k a) = .returned (.int k b) := by rw [h]
theorem ret_bool {a b : Bool} (h : a = b) : Ending.returned (.bool a) = .returned (.bool b) := by rw [h]
end Go.Proofs.Ytjdnajmljafkpaa
