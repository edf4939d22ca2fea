/- Columns in units: what the loops of the document's Wide and AtWide, and of the program's, come to. -/
import Derived.Test.YtgefbbdahhoglaaChars
namespace Go.Proofs.Ytgefbbdahhoglaa.PT
open Go.RowKit Go.Proofs.YtgefbbdahhoglaaW.PrintWords Go.Proofs.YtgefbbdahhoglaaW.PrintLast Go.Proofs.YtgefbbdahhoglaaW.PrintMore Go.Proofs.Ytgefbbdahhoglaa.PAll
set_option linter.unusedVariables false

theorem wdt_spec (s : ByteArray) (i : Nat) (hi : i < s.size) : 1 ≤ wdt s i ∧ wdt s i ≤ 4 ∧ i + wdt s i ≤ s.size := by
  obtain ⟨p, n, hpn⟩ : ∃ p n, dec (nb s i) (nb s (i + 1)) (nb s (i + 2)) (nb s (i + 3)) (cnt s (i + 1)) (cnt s (i + 2)) (cnt s (i + 3)) = (p, n) := ⟨_, _, rfl⟩
  have r : ∀ j, cnt s j = true → j < s.size ∧ 128 ≤ nb s j ∧ nb s j ≤ 191 := fun j h => (In_cnt s j).2 h
  have hd := dec_spec _ _ _ _ _ _ _ (nb_lt s i) (fun h => (r _ h).2) (fun h => (r _ h).2) (fun h => (r _ h).2) p n hpn
  have e : wdt s i = n := by unfold wdt; rw [decode_eq, hpn]
  have r1 := r (i + 1)
  have r2 := r (i + 2)
  have r3 := r (i + 3)
  rw [e]
  rcases hd with ⟨h1, h2, h3, h4, h5⟩ | ⟨h1, h2, h3, h4, h5⟩ | ⟨h1, h2, h3, h4, h5, h6⟩ | ⟨h1, h2, h3⟩
  · have := (r1 h5).1; omega
  · have := (r2 h4).1; omega
  · have := (r3 h5).1; omega
  · omega
theorem uts_spec (s : ByteArray) (i : Nat) : 1 ≤ uts s i ∧ uts s i ≤ 2 := by unfold uts; split <;> omega
/-- a character's units are at most its bytes -/
theorem uts_le_wdt (s : ByteArray) (i : Nat) (hi : i < s.size) : uts s i ≤ wdt s i := by
  obtain ⟨p, n, hpn⟩ : ∃ p n, dec (nb s i) (nb s (i + 1)) (nb s (i + 2)) (nb s (i + 3)) (cnt s (i + 1)) (cnt s (i + 2)) (cnt s (i + 3)) = (p, n) := ⟨_, _, rfl⟩
  have r : ∀ j, cnt s j = true → j < s.size ∧ 128 ≤ nb s j ∧ nb s j ≤ 191 := fun j h => (In_cnt s j).2 h
  have hd := dec_spec _ _ _ _ _ _ _ (nb_lt s i) (fun h => (r _ h).2) (fun h => (r _ h).2) (fun h => (r _ h).2) p n hpn
  have e : wdt s i = n := by unfold wdt; rw [decode_eq, hpn]
  have e2 : uts s i = if 65536 ≤ (p : Int) then 2 else 1 := by unfold uts; rw [decode_eq, hpn]
  rw [e, e2]
  split <;> omega

/-- the units of the characters that end at the byte C of a row, or ahead of it -/
def colAt (s : ByteArray) (C : Int) : Nat → Nat → Int → Int
  | 0, _, col => col
  | f + 1, i, col => if i < s.size then (if (i : Int) + wdt s i > C then col else colAt s C f (i + wdt s i) (col + uts s i)) else col
/-- the greatest border with at most C units ahead of it -/
def posAt (s : ByteArray) (C : Int) : Nat → Nat → Int → Nat
  | 0, i, _ => i
  | f + 1, i, col => if i < s.size then (if col + uts s i > C then i else posAt s C f (i + wdt s i) (col + uts s i)) else i
def wideC (s : ByteArray) (C : Int) : Int := colAt s C (s.size + 1) 0 0
def wideP (s : ByteArray) (C : Int) : Nat := posAt s (if C < 0 then 0 else C) (s.size + 1) 0 0

theorem posAt_neg (s : ByteArray) (C : Int) (f : Nat) (h : C < 0) : posAt s C (f + 1) 0 0 = posAt s 0 (f + 1) 0 0 := by
  have := (uts_spec s 0).1
  simp only [posAt]
  by_cases h0 : 0 < s.size
  · rw [if_pos h0, if_pos h0, if_pos (by omega), if_pos (by omega)]
  · rw [if_neg h0, if_neg h0]
theorem wideP_eq (s : ByteArray) (C : Int) : wideP s C = posAt s C (s.size + 1) 0 0 := by
  unfold wideP
  split
  · rename_i h; exact (posAt_neg s C _ h).symm
  · rfl

/-- one step of the document's loops -/
theorem colAt_step (s : ByteArray) (C : Int) (f i : Nat) (col : Int) (h : i < s.size) : colAt s C (f + 1) i col = if (i : Int) + wdt s i > C then col else colAt s C f (i + wdt s i) (col + uts s i) := by
  simp only [colAt]; rw [if_pos h]
theorem colAt_end (s : ByteArray) (C : Int) (f i : Nat) (col : Int) (h : ¬ i < s.size) : colAt s C f i col = col := by
  cases f with
  | zero => rfl
  | succ f => simp only [colAt]; rw [if_neg h]
theorem posAt_step (s : ByteArray) (C : Int) (f i : Nat) (col : Int) (h : i < s.size) : posAt s C (f + 1) i col = if col + uts s i > C then i else posAt s C f (i + wdt s i) (col + uts s i) := by
  simp only [posAt]; rw [if_pos h]
theorem posAt_end (s : ByteArray) (C : Int) (f i : Nat) (col : Int) (h : ¬ i < s.size) : posAt s C f i col = i := by
  cases f with
  | zero => rfl
  | succ f => simp only [posAt]; rw [if_neg h]

/-- the program's loop for Wide: at the border i, 'col' units behind the border ahead of it, 'all' ahead of i -/
def WideAt (s : ByteArray) (C : Int) (i : Nat) (col all : Int) : Prop :=
  i ≤ s.size ∧ 0 ≤ col ∧ 0 ≤ all ∧ all ≤ i ∧ col ≤ all ∧ if (i : Int) > C then wideC s C = col else ∃ f, s.size < f + i ∧ wideC s C = colAt s C f i all
theorem WideAt.start (s : ByteArray) (C : Int) (h : 0 ≤ C) : WideAt s C 0 0 0 :=
  ⟨Nat.zero_le _, by omega, by omega, by omega, by omega, by rw [if_neg (by omega)]; exact ⟨s.size + 1, by omega, rfl⟩⟩
theorem WideAt.step {s : ByteArray} {C : Int} {i : Nat} {col all : Int} (h : WideAt s C i col all) (hi : i < s.size) (hc : (i : Int) ≤ C) : WideAt s C (i + wdt s i) all (all + uts s i) := by
  obtain ⟨h1, h2, h3, h4, h4b, h5⟩ := h
  obtain ⟨w1, w2, w3⟩ := wdt_spec s i hi
  have u1 := uts_spec s i
  have u2 := uts_le_wdt s i hi
  rw [if_neg (by omega)] at h5
  obtain ⟨f, hf, he⟩ := h5
  obtain ⟨f, rfl⟩ : ∃ m, f = m + 1 := ⟨f - 1, by omega⟩
  rw [colAt_step s C f i all hi] at he
  refine ⟨w3, h3, by omega, by omega, by omega, ?_⟩
  split
  · rename_i hg
    rw [if_pos (by omega)] at he
    exact he
  · rename_i hg
    rw [if_neg (by omega)] at he
    exact ⟨f, by omega, he⟩
theorem WideAt.over {s : ByteArray} {C : Int} {i : Nat} {col all : Int} (h : WideAt s C i col all) (hc : C < (i : Int)) : wideC s C = col := by
  obtain ⟨h1, h2, h3, h4, h4b, h5⟩ := h
  rwa [if_pos (by omega)] at h5
theorem WideAt.end_ {s : ByteArray} {C : Int} {i : Nat} {col all : Int} (h : WideAt s C i col all) (hi : ¬ i < s.size) (hc : (s.size : Int) ≤ C) : wideC s C = all := by
  obtain ⟨h1, h2, h3, h4, h4b, h5⟩ := h
  rw [if_neg (by omega)] at h5
  obtain ⟨f, hf, he⟩ := h5
  rw [he, colAt_end s C f i all hi]

/-- the program's loop for AtWide (D: the column, at least 0): 'at_' the border ahead of i -/
def PosIs (s : ByteArray) (D : Int) (i at_ : Nat) (all : Int) : Prop :=
  i ≤ s.size ∧ at_ ≤ s.size ∧ 0 ≤ all ∧ all ≤ i ∧ if all > D then posAt s D (s.size + 1) 0 0 = at_ else ∃ f, s.size < f + i ∧ posAt s D (s.size + 1) 0 0 = posAt s D f i all
theorem PosIs.start (s : ByteArray) (D : Int) (h : 0 ≤ D) : PosIs s D 0 0 0 :=
  ⟨Nat.zero_le _, Nat.zero_le _, by omega, by omega, by rw [if_neg (by omega)]; exact ⟨s.size + 1, by omega, rfl⟩⟩
theorem PosIs.step {s : ByteArray} {D : Int} {i at_ : Nat} {all : Int} (h : PosIs s D i at_ all) (hi : i < s.size) (hc : all ≤ D) : PosIs s D (i + wdt s i) i (all + uts s i) := by
  obtain ⟨h1, h2, h3, h4, h5⟩ := h
  obtain ⟨w1, w2, w3⟩ := wdt_spec s i hi
  have u1 := uts_spec s i
  have u2 := uts_le_wdt s i hi
  rw [if_neg (by omega)] at h5
  obtain ⟨f, hf, he⟩ := h5
  obtain ⟨f, rfl⟩ : ∃ m, f = m + 1 := ⟨f - 1, by omega⟩
  rw [posAt_step s D f i all hi] at he
  refine ⟨w3, by omega, by omega, by omega, ?_⟩
  split
  · rename_i hg
    rw [if_pos (by omega)] at he
    exact he
  · rename_i hg
    rw [if_neg (by omega)] at he
    exact ⟨f, by omega, he⟩
theorem PosIs.over {s : ByteArray} {D : Int} {i at_ : Nat} {all : Int} (h : PosIs s D i at_ all) (hc : D < all) : posAt s D (s.size + 1) 0 0 = at_ := by
  obtain ⟨h1, h2, h3, h4, h5⟩ := h
  rwa [if_pos (by omega)] at h5
theorem PosIs.end_ {s : ByteArray} {D : Int} {i at_ : Nat} {all : Int} (h : PosIs s D i at_ all) (hi : ¬ i < s.size) (hc : all ≤ D) : posAt s D (s.size + 1) 0 0 = s.size := by
  obtain ⟨h1, h2, h3, h4, h5⟩ := h
  rw [if_neg (by omega)] at h5
  obtain ⟨f, hf, he⟩ := h5
  rw [he, posAt_end s D f i all hi]
  omega

/-- a row's bytes -/
def rowS (t : ByteArray) (r : Nat) : ByteArray := t.extract (fromR t r).toNat (toR t r).toNat
theorem rowS_size (t : ByteArray) {r : Nat} (h : r ≤ rowN t t.size) : ((rowS t r).size : Int) = toR t r - fromR t r := by
  have := from_to t h
  unfold rowS
  rw [ByteArray.size_extract]
  omega
/-- 2.4, 2.5 -/
def widC (t : ByteArray) (a : Nat) : Int := wideC (rowS t (rowN t a)) ((a : Int) - begN t a)
def atW (t : ByteArray) (r c : Int) : Int :=
  if r < 0 then 0 else if r > rowN t t.size then t.size else fromR t r.toNat + wideP (rowS t r.toNat) c
end Go.Proofs.Ytgefbbdahhoglaa.PT
