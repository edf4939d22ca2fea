/- The texts behind a chain of edits; a list of edits as it is read. -/
import Derived.Test.YtgefbbdahhoglaaEditText
namespace Go.Proofs.Ytgefbbdahhoglaa.PT
open Go.RowKit Go.Proofs.YtgefbbdahhoglaaW.PrintWords Go.Proofs.YtgefbbdahhoglaaW.PrintLast Go.Proofs.YtgefbbdahhoglaaW.PrintMore Go.Proofs.Ytgefbbdahhoglaa.PAll

abbrev Ed := Int × Int × ByteArray
def edK : Kd Ed := Kd.pair (Kd.int .i64) (Kd.pair (Kd.int .i64) Kd.string)
def edAt (l : List Ed) (i : Nat) : Ed := l.getD i (0, 0, ByteArray.empty)
/-- the text behind the first i edits -/
def aft (t : ByteArray) (l : List Ed) : Nat → ByteArray
  | 0 => t
  | i + 1 => behind (aft t l i) (edAt l i).1 (edAt l i).2.1 (edAt l i).2.2
/-- the bytes that the first i edits bring -/
def insN (l : List Ed) : Nat → Nat
  | 0 => 0
  | i + 1 => insN l i + (edAt l i).2.2.size
def txts (t : ByteArray) (l : List Ed) : Nat → List ByteArray
  | 0 => []
  | i + 1 => txts t l i ++ [aft t l i]
theorem txts_len (t : ByteArray) (l : List Ed) (i : Nat) : (txts t l i).length = i := by
  induction i with
  | zero => rfl
  | succ i ih => rw [txts, List.length_append, ih]; rfl
theorem txts_get (t : ByteArray) (l : List Ed) (i j : Nat) (h : j < i) : (txts t l i).getD j ByteArray.empty = aft t l j := by
  induction i with
  | zero => omega
  | succ i ih =>
    rw [txts, List.getD_eq_getElem?_getD]
    by_cases e : j < i
    · rw [List.getElem?_append_left (by rw [txts_len]; exact e), ← List.getD_eq_getElem?_getD, ih e]
    · obtain rfl : j = i := by omega
      rw [List.getElem?_append_right (by rw [txts_len]; omega), txts_len]
      simp
theorem aft_size (t : ByteArray) (l : List Ed) (i : Nat) : (aft t l i).size ≤ t.size + insN l i := by
  induction i with
  | zero => simp [aft, insN]
  | succ i ih =>
    rw [aft, behind_size, insN]
    omega
theorem insN_mono (l : List Ed) {i j : Nat} (h : i ≤ j) : insN l i ≤ insN l j := by
  induction j with
  | zero => obtain rfl : i = 0 := by omega
            exact Nat.le_refl _
  | succ j ih =>
    by_cases e : i = j + 1
    · subst e; exact Nat.le_refl _
    · have := ih (by omega)
      rw [insN]
      omega
theorem ed_cells {w : World} {A : Option Addr} {n : Nat} {l : List Ed} (h : edK.C w A n l) (j : Nat) (hj : j < n) :
    ∃ ad, A = some ad ∧ w.cell? (ad.add (j * 3)) = some (.int .i64 (edAt l j).1) ∧ w.cell? ⟨(ad.add (j * 3)).block, (ad.add (j * 3)).off + 1, none⟩ = some (.int .i64 (edAt l j).2.1) ∧
      w.cell? ⟨(ad.add (j * 3)).block, (ad.add (j * 3)).off + 2, none⟩ = some (.string (edAt l j).2.2) := by
  obtain ⟨ad, c, rfl, _, ⟨c0, c1, rfl, h0, c2, c3, rfl, h2, h3⟩, hc⟩ := Kd.C_get h (0, 0, ByteArray.empty) (j : Int) (by omega) (by omega)
  rw [Int.toNat_natCast] at h0 h2 h3 hc
  have h0' : c0 = [.int .i64 (edAt l j).1] := h0
  have h2' : c2 = [.int .i64 (edAt l j).2.1] := h2
  have h3' : c3 = [.string (edAt l j).2.2] := h3
  subst h0'; subst h2'; subst h3'
  have e0 := hc 0 _ rfl
  have e1 := hc 1 _ rfl
  have e2 := hc 2 _ rfl
  rw [show edK.sz = 3 from rfl] at e0 e1 e2
  rw [Nat.add_zero] at e0
  rw [add_field _ _ 1 (by omega)] at e1
  rw [add_field _ _ 2 (by omega)] at e2
  exact ⟨ad, rfl, e0, e1, e2⟩
end Go.Proofs.Ytgefbbdahhoglaa.PT
