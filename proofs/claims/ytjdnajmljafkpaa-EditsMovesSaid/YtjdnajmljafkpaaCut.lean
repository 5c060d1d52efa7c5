import Derived.Test.YtjdnajmljafkpaaApp
import Derived.Laws.Slices
namespace Go.Proofs.Ytjdnajmljafkpaa
open Go.RowKit
set_option linter.unusedVariables false
set_option linter.unusedSimpArgs false

section
variable {P : Program}
/-- xs[k:] as one equation; its address is a letter. -/
theorem cut_from (t E : TypeId) (ht : P.underlying t = some (.slice E)) (hinfo : (P.info? E).map (fun i => (i.zero, i.size, i.bytes)) = some (some (.int .i64 0), 1, 8))
    (A : Option Addr) (c : Nat) (xs : List Int) (k : Int) (h0 : 0 ≤ k) (hk : k ≤ xs.length) (hc : xs.length ≤ c) :
    ∃ (A' : Option Addr) (ys : List Int) (c' : Nat), Hid (ys = xs.drop k.toNat) ∧ (ys.length ≤ xs.length - k.toNat ∧ xs.length - k.toNat ≤ ys.length) ∧ ys.length ≤ c' ∧ c' ≤ c ∧
      (∀ W : World, (Instr.slice t (.slice A xs.length c) (some (.int .i64 k)) none none).run P W = .ok (.slice A' ys.length c') W) ∧ (∀ w : World, Rd w A xs → Rd w A' ys) := by
  obtain ⟨i, hi, _, hsz, _⟩ := info_parts hinfo
  obtain ⟨m, rfl⟩ := Int.eq_ofNat_of_zero_le h0
  simp only [Int.toNat_natCast]
  have hmn : m ≤ xs.length := by omega
  refine ⟨if c = m then A else A.map (·.add m), xs.drop m, c - m, rfl, by simp, by simp; omega, by omega, fun W => ?_, fun w h => h.cut m c hmn hc⟩
  have hel : P.elem t = E := by simp [Program.elem, ht]
  have hu : P.underlying t = some (.slice (P.elem t)) := by rw [hel]; exact ht
  rw [run_slice_l W t A xs.length c hu .i64 (m : Int) (Int.natCast_nonneg _) (by omega), hel]
  simp [sizeOf, typeInfo, hi, hsz, sliced, Result.andThen]
/-- xs[:k]. -/
theorem cut_to (t E : TypeId) (ht : P.underlying t = some (.slice E)) (hinfo : (P.info? E).map (fun i => (i.zero, i.size, i.bytes)) = some (some (.int .i64 0), 1, 8))
    (A : Option Addr) (c : Nat) (xs : List Int) (k : Int) (h0 : 0 ≤ k) (hk : k ≤ xs.length) (hc : xs.length ≤ c) :
    ∃ ys : List Int, Hid (ys = xs.take k.toNat) ∧ (ys.length ≤ k.toNat ∧ k.toNat ≤ ys.length) ∧
      (∀ W : World, (Instr.slice t (.slice A xs.length c) none (some (.int .i64 k)) none).run P W = .ok (.slice A ys.length c) W) ∧ (∀ w : World, Rd w A xs → Rd w A ys) := by
  obtain ⟨i, hi, _, hsz, _⟩ := info_parts hinfo
  have hl : (xs.take k.toNat).length = k.toNat := by rw [List.length_take]; omega
  refine ⟨xs.take k.toNat, rfl, by omega, fun W => ?_, fun w h => h.take _⟩
  have hel : P.elem t = E := by simp [Program.elem, ht]
  have hu : P.underlying t = some (.slice (P.elem t)) := by rw [hel]; exact ht
  have ha : (A.map fun x => x.add 0) = A := by cases A <;> simp [Addr.add]
  rw [run_slice_h W t A xs.length c hu .i64 k h0 (by omega), hel, hl]
  simp [sizeOf, typeInfo, hi, hsz, sliced, Result.andThen, ha]
/-- xs[a:b]. -/
theorem cut_mid (t E : TypeId) (ht : P.underlying t = some (.slice E)) (hinfo : (P.info? E).map (fun i => (i.zero, i.size, i.bytes)) = some (some (.int .i64 0), 1, 8))
    (A : Option Addr) (c : Nat) (xs : List Int) (a b : Int) (h0 : 0 ≤ a) (h1 : a ≤ b) (hk : b ≤ xs.length) (hc : xs.length ≤ c) :
    ∃ (A' : Option Addr) (ys : List Int) (c' : Nat), Hid (ys = (xs.take b.toNat).drop a.toNat) ∧ (ys.length ≤ b.toNat - a.toNat ∧ b.toNat - a.toNat ≤ ys.length) ∧ ys.length ≤ c' ∧ c' ≤ c ∧
      (∀ W : World, (Instr.slice t (.slice A xs.length c) (some (.int .i64 a)) (some (.int .i64 b)) none).run P W = .ok (.slice A' ys.length c') W) ∧ (∀ w : World, Rd w A xs → Rd w A' ys) := by
  obtain ⟨i, hi, _, hsz, _⟩ := info_parts hinfo
  have hlt : (xs.take b.toNat).length = b.toNat := by rw [List.length_take]; omega
  have hl : ((xs.take b.toNat).drop a.toNat).length = b.toNat - a.toNat := by rw [List.length_drop, hlt]
  refine ⟨if c = a.toNat then A else A.map (·.add a.toNat), (xs.take b.toNat).drop a.toNat, c - a.toNat, rfl, by omega, by omega, by omega, fun W => ?_, fun w h => (h.take b.toNat).cut a.toNat c (by omega) (by omega)⟩
  have hel : P.elem t = E := by simp [Program.elem, ht]
  have hu : P.underlying t = some (.slice (P.elem t)) := by rw [hel]; exact ht
  rw [run_slice_lh W t A xs.length c hu .i64 .i64 a b h0 h1 (by omega), hel, hl]
  simp [sizeOf, typeInfo, hi, hsz, sliced, Result.andThen]
/-- xs[:k:k]. -/
theorem cut_short (t E : TypeId) (ht : P.underlying t = some (.slice E)) (hinfo : (P.info? E).map (fun i => (i.zero, i.size, i.bytes)) = some (some (.int .i64 0), 1, 8))
    (A : Option Addr) (c n : Nat) (k : Int) (h0 : 0 ≤ k) (hk : k ≤ c) :
    ∀ W : World, (Instr.slice t (.slice A n c) none (some (.int .i64 k)) (some (.int .i64 k))).run P W = .ok (.slice A k.toNat k.toNat) W := by
  intro W
  obtain ⟨i, hi, _, hsz, _⟩ := info_parts hinfo
  have hel : P.elem t = E := by simp [Program.elem, ht]
  have hu : P.underlying t = some (.slice (P.elem t)) := by rw [hel]; exact ht
  have ha : (A.map fun x => x.add 0) = A := by cases A <;> simp [Addr.add]
  rw [run_slice_hm W t A n c hu .i64 .i64 k k h0 (by omega) (by omega), hel]
  simp [sizeOf, typeInfo, hi, hsz, sliced, Result.andThen, ha]
theorem cut_from' (t E : TypeId) (ht : P.underlying t = some (.slice E)) (hinfo : (P.info? E).map (fun i => (i.zero, i.size, i.bytes)) = some (some (.int .i64 0), 1, 8))
    {w : World} {A : Option Addr} {xs : List Int} (hr : Rd w A xs) (c : Nat) (k : Int) (h0 : 0 ≤ k) (hk : k ≤ xs.length) (hc : xs.length ≤ c) :
    ∃ (A' : Option Addr) (ys : List Int) (c' : Nat), Hid (ys = xs.drop k.toNat) ∧ (ys.length ≤ xs.length - k.toNat ∧ xs.length - k.toNat ≤ ys.length) ∧ ys.length ≤ c' ∧
      (∀ W : World, (Instr.slice t (.slice A xs.length c) (some (.int .i64 k)) none none).run P W = .ok (.slice A' ys.length c') W) ∧ Rd w A' ys := by
  obtain ⟨A', ys, c', h1, h2, h3, _, h5, h6⟩ := cut_from (P := P) t E ht hinfo A c xs k h0 hk hc
  exact ⟨A', ys, c', h1, h2, h3, h5, h6 w hr⟩
theorem cut_to' (t E : TypeId) (ht : P.underlying t = some (.slice E)) (hinfo : (P.info? E).map (fun i => (i.zero, i.size, i.bytes)) = some (some (.int .i64 0), 1, 8))
    {w : World} {A : Option Addr} {xs : List Int} (hr : Rd w A xs) (c : Nat) (k : Int) (h0 : 0 ≤ k) (hk : k ≤ xs.length) (hc : xs.length ≤ c) :
    ∃ ys : List Int, Hid (ys = xs.take k.toNat) ∧ (ys.length ≤ k.toNat ∧ k.toNat ≤ ys.length) ∧
      (∀ W : World, (Instr.slice t (.slice A xs.length c) none (some (.int .i64 k)) none).run P W = .ok (.slice A ys.length c) W) ∧ Rd w A ys := by
  obtain ⟨ys, h1, h2, h3, h4⟩ := cut_to (P := P) t E ht hinfo A c xs k h0 hk hc
  exact ⟨ys, h1, h2, h3, h4 w hr⟩
theorem cut_mid' (t E : TypeId) (ht : P.underlying t = some (.slice E)) (hinfo : (P.info? E).map (fun i => (i.zero, i.size, i.bytes)) = some (some (.int .i64 0), 1, 8))
    {w : World} {A : Option Addr} {xs : List Int} (hr : Rd w A xs) (c : Nat) (a b : Int) (h0 : 0 ≤ a) (h1 : a ≤ b) (hk : b ≤ xs.length) (hc : xs.length ≤ c) :
    ∃ (A' : Option Addr) (ys : List Int) (c' : Nat), Hid (ys = (xs.take b.toNat).drop a.toNat) ∧ (ys.length ≤ b.toNat - a.toNat ∧ b.toNat - a.toNat ≤ ys.length) ∧ ys.length ≤ c' ∧
      (∀ W : World, (Instr.slice t (.slice A xs.length c) (some (.int .i64 a)) (some (.int .i64 b)) none).run P W = .ok (.slice A' ys.length c') W) ∧ Rd w A' ys := by
  obtain ⟨A', ys, c', h1, h2, h3, _, h5, h6⟩ := cut_mid (P := P) t E ht hinfo A c xs a b h0 h1 hk hc
  exact ⟨A', ys, c', h1, h2, h3, h5, h6 w hr⟩
end
end Go.Proofs.Ytjdnajmljafkpaa
