import Derived.Test.YtjdnajmljafkpaaApp
import Derived.WalkKit
import Derived.ProofKit
import Derived.OpenShut
import Derived.ShutString
import Derived.ChangeOld
import Derived.Below
import Derived.Lib.SmallJoins
namespace Go.Proofs.Ytjdnajmljafkpaa
open Go.ChangeShapes Go.WideShapes Go.ChangeAt Go.RowKit Go.Deep
set_option linter.unusedVariables false
set_option linter.unusedSimpArgs false

theorem below_on {w w1 w2 : World} (h : Below w.heap.size w w1) (k : Below w1.heap.size w1 w2) : Below w.heap.size w w2 := below_then' h h.size k
/-- A slice of ints that came in: what the walks are told of it. -/
def InRow (w : World) (A : Option Addr) (c : Nat) (xs : List Int) : Prop := Rd w A xs ∧ xs.length ≤ c ∧ c ≤ maxLen ∧ ∀ n ∈ xs, (Lit.int .i64 n).wf = true
theorem open_rd {H : Type} {enc : TypeId × Value → H} {P : Program} {w : World} {base : Nat} {spare : Nat → Bool} {held : Bool} {t e : TypeId} {fuel len cap : Nat} {A : Option Addr} {x : DataW H × List MemPlace}
    (ht : P.underlying t = some (.slice e)) (he : P.underlying e = some (.int .i64)) (hc : P.cellsOf e = 1) (h : DataW.trod enc P w base spare held fuel t [.slice A len cap] = some x) :
    ∃ xs : List Int, xs.length = len ∧ InRow w A cap xs := by
  rcases open_ints ht he hc h with ⟨hcs, _⟩ | ⟨a, l, c, zs, hcs, _, hl, hm, hz, _, hcell, hwz⟩
  · simp at hcs
    obtain ⟨rfl, rfl, rfl⟩ := hcs
    exact ⟨[], rfl, Rd.nil _ _, Nat.le_refl _, by unfold maxLen; omega, by simp⟩
  · simp at hcs
    obtain ⟨rfl, rfl, rfl⟩ := hcs
    have hzl : len ≤ zs.length := by
      rw [hz]; split <;> omega
    have htl : (zs.take len).length = len := by rw [List.length_take]; omega
    refine ⟨zs.take len, htl, fun h0 => ?_, by omega, hm, fun n hn => hwz n (List.mem_of_mem_take hn)⟩
    refine ⟨a, rfl, ?_, fun j hj => ?_⟩
    · have := World.block_lt_of_cell? w _ (hcell 0 (by omega))
      rwa [block_add] at this
    · rw [hcell j (by omega), el_take (by omega)]; rfl
theorem InRow.trod_lt {H : Type} {enc : TypeId × Value → H} {P : Program} {w : World} {base : Nat} {spare : Nat → Bool} {held : Bool} {t : TypeId} {v : Value} {d : DataW H} {p : List MemPlace} (h : DataW.Trod enc P w base spare held t v d p) :
    ∀ x ∈ p, x.block < w.heap.size := by
  obtain ⟨m, hm⟩ := h
  exact DataW.trod_lt m _ _ _ hm
/-- A struct of two ints and a slice of ints, by value. -/
theorem open_edit {H : Type} {enc : TypeId × Value → H} {P : Program} {w : World} {base : Nat} {spare : Nat → Bool} {held : Bool} {r : Reach} {b0 : Nat} {t ts ti : TypeId} {f0 f1 f2 : Field} {v : Value} {d : DataW H} {p : List MemPlace}
    (hs : P.underlying t = some (.struct #[f0, f1, f2])) (hone : oneCellFields P #[f0, f1, f2] = true) (hC : P.cellsOf t = 3) (hf0 : f0.type = ti) (hf1 : f1.type = ti) (hf2 : f2.type = ts)
    (hti : P.underlying ti = some (.int .i64)) (hts : P.underlying ts = some (.slice ti)) (hci : P.cellsOf ti = 1) (hv : Value.okWide P w r b0 t v) (h : DataW.Trod enc P w base spare held t v d p) :
    ∃ (a b : Int) (A : Option Addr) (c : Nat) (xs : List Int), v = .agg #[.int .i64 a, .int .i64 b, .slice A xs.length c] ∧ (Lit.int .i64 a).wf = true ∧ (Lit.int .i64 b).wf = true ∧ InRow w A c xs := by
  obtain ⟨v0, v1, v2, y0, y1, y2, n, rfl, _, _, h0, h1, h2⟩ := Go.Joins.open_agg3 hs hone hC hv h
  rw [hf0] at h0
  rw [hf1] at h1
  rw [hf2] at h2
  obtain ⟨a, e0, _, wa⟩ := DataW.trod_int hti h0
  obtain ⟨b, e1, _, wb⟩ := DataW.trod_int hti h1
  simp at e0 e1
  subst e0 e1
  have hform : ∃ A l c, v2 = .slice A l c := by
    rcases open_ints hts hti hci h2 with ⟨hcs, _⟩ | ⟨x, l, c, zs, hcs, _⟩
    · simp at hcs; exact ⟨_, _, _, hcs⟩
    · simp at hcs; exact ⟨_, _, _, hcs⟩
  obtain ⟨A, l, c, rfl⟩ := hform
  obtain ⟨xs, rfl, hr⟩ := open_rd hts hti hci h2
  exact ⟨a, b, A, c, xs, rfl, wa, wb, hr⟩
end Go.Proofs.Ytjdnajmljafkpaa
