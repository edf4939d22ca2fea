/- The borders of a row's characters, and there and back (2.7), order (2.8), in plain Lean. -/
import Derived.Test.YtgefbbdahhoglaaCols
namespace Go.Proofs.Ytgefbbdahhoglaa.PT
open Go.RowKit Go.Proofs.YtgefbbdahhoglaaW.PrintWords Go.Proofs.YtgefbbdahhoglaaW.PrintLast Go.Proofs.YtgefbbdahhoglaaW.PrintMore Go.Proofs.Ytgefbbdahhoglaa.PAll
set_option linter.unusedVariables false

/-- the n-th border of a row, and the units ahead of it -/
def bi (s : ByteArray) : Nat → Nat
  | 0 => 0
  | n + 1 => if bi s n < s.size then bi s n + wdt s (bi s n) else bi s n
def bu (s : ByteArray) : Nat → Int
  | 0 => 0
  | n + 1 => if bi s n < s.size then bu s n + uts s (bi s n) else bu s n
theorem bi_step {s : ByteArray} {n : Nat} (h : bi s n < s.size) : bi s (n + 1) = bi s n + wdt s (bi s n) := by simp [bi, h]
theorem bu_step {s : ByteArray} {n : Nat} (h : bi s n < s.size) : bu s (n + 1) = bu s n + uts s (bi s n) := by simp [bu, h]
theorem bi_stop {s : ByteArray} {n : Nat} (h : ¬ bi s n < s.size) : bi s (n + 1) = bi s n := by simp [bi, h]
theorem bu_stop {s : ByteArray} {n : Nat} (h : ¬ bi s n < s.size) : bu s (n + 1) = bu s n := by simp [bu, h]
theorem bi_le (s : ByteArray) (n : Nat) : bi s n ≤ s.size := by
  induction n with
  | zero => exact Nat.zero_le _
  | succ n ih =>
    by_cases h : bi s n < s.size
    · rw [bi_step h]; exact (wdt_spec s _ h).2.2
    · rw [bi_stop h]; exact ih
theorem bu_bi (s : ByteArray) (n : Nat) : 0 ≤ bu s n ∧ bu s n ≤ bi s n := by
  induction n with
  | zero => exact ⟨by simp [bu], by simp [bu, bi]⟩
  | succ n ih =>
    by_cases h : bi s n < s.size
    · rw [bi_step h, bu_step h]
      have := uts_spec s (bi s n)
      have := uts_le_wdt s _ h
      omega
    · rw [bi_stop h, bu_stop h]; exact ih
theorem b_mono (s : ByteArray) {n m : Nat} (h : n ≤ m) : bi s n ≤ bi s m ∧ bu s n ≤ bu s m := by
  induction m with
  | zero => obtain rfl : n = 0 := by omega
            exact ⟨Nat.le_refl _, Int.le_refl _⟩
  | succ m ih =>
    by_cases e : n = m + 1
    · rw [e]; exact ⟨Nat.le_refl _, Int.le_refl _⟩
    · obtain ⟨h1, h2⟩ := ih (by omega)
      by_cases hl : bi s m < s.size
      · rw [bi_step hl, bu_step hl]
        have := uts_spec s (bi s m)
        omega
      · rw [bi_stop hl, bu_stop hl]; exact ⟨h1, h2⟩
/-- the next border is at or ahead of any later one -/
theorem b_next (s : ByteArray) {n m : Nat} (h : n < m) (hl : bi s n < s.size) : bi s n + wdt s (bi s n) ≤ bi s m ∧ bu s n + uts s (bi s n) ≤ bu s m := by
  have := b_mono s (show n + 1 ≤ m from h)
  rw [bi_step hl, bu_step hl] at this
  exact this
theorem b_lt (s : ByteArray) {n m : Nat} (h : bi s n < bi s m) : n < m := by
  rcases Nat.lt_or_ge n m with h1 | h1
  · exact h1
  · have := (b_mono s h1).1; omega
theorem b_same (s : ByteArray) {n m : Nat} (h : bi s n = bi s m) : bu s n = bu s m := by
  have key : ∀ {n m : Nat}, n ≤ m → bi s n = bi s m → bu s n = bu s m := by
    intro n m
    induction m with
    | zero => intro h1 _; obtain rfl : n = 0 := by omega
              rfl
    | succ m ih =>
      intro h1 h2
      by_cases e : n = m + 1
      · rw [e]
      · have hm := (b_mono s (show n ≤ m by omega)).1
        by_cases hl : bi s m < s.size
        · rw [bi_step hl] at h2
          have := wdt_spec s _ hl
          omega
        · rw [bi_stop hl] at h2
          rw [bu_stop hl]
          exact ih (by omega) h2
  rcases Nat.le_total n m with h1 | h1
  · exact key h1 h
  · exact (key h1 h.symm).symm
theorem b_size (s : ByteArray) : ∃ n, bi s n = s.size := by
  have key : ∀ d n, s.size - bi s n ≤ d → ∃ n, bi s n = s.size := by
    intro d
    induction d with
    | zero => intro n h; exact ⟨n, by have := bi_le s n; omega⟩
    | succ d ih =>
      intro n h
      by_cases hl : bi s n < s.size
      · refine ih (n + 1) ?_
        rw [bi_step hl]
        have := wdt_spec s _ hl
        omega
      · exact ⟨n, by have := bi_le s n; omega⟩
  exact key s.size 0 (by simp [bi])

theorem colAt_reach (s : ByteArray) (C : Int) (n : Nat) : (bi s n : Int) ≤ C → ∃ f, s.size < f + bi s n ∧ wideC s C = colAt s C f (bi s n) (bu s n) := by
  induction n with
  | zero => exact fun _ => ⟨s.size + 1, by simp [bi], rfl⟩
  | succ n ih =>
    intro h
    by_cases hl : bi s n < s.size
    · rw [bi_step hl] at h ⊢
      rw [bu_step hl]
      obtain ⟨f, hf, he⟩ := ih (by omega)
      obtain ⟨f, rfl⟩ : ∃ m, f = m + 1 := ⟨f - 1, by omega⟩
      rw [colAt_step s C f _ _ hl, if_neg (by omega)] at he
      have := wdt_spec s _ hl
      exact ⟨f, by omega, he⟩
    · rw [bi_stop hl] at h ⊢
      rw [bu_stop hl]
      exact ih h
theorem posAt_reach (s : ByteArray) (D : Int) (n : Nat) : bu s n ≤ D → ∃ f, s.size < f + bi s n ∧ posAt s D (s.size + 1) 0 0 = posAt s D f (bi s n) (bu s n) := by
  induction n with
  | zero => exact fun _ => ⟨s.size + 1, by simp [bi], rfl⟩
  | succ n ih =>
    intro h
    by_cases hl : bi s n < s.size
    · rw [bu_step hl] at h ⊢
      rw [bi_step hl]
      have hu := uts_spec s (bi s n)
      obtain ⟨f, hf, he⟩ := ih (by omega)
      obtain ⟨f, rfl⟩ : ∃ m, f = m + 1 := ⟨f - 1, by omega⟩
      rw [posAt_step s D f _ _ hl, if_neg (by omega)] at he
      have := wdt_spec s _ hl
      exact ⟨f, by omega, he⟩
    · rw [bu_stop hl] at h ⊢
      rw [bi_stop hl]
      exact ih h
theorem wideC_of (s : ByteArray) (C : Int) (n : Nat) (h1 : (bi s n : Int) ≤ C) (h2 : bi s n < s.size → C < (bi s n : Int) + wdt s (bi s n)) : wideC s C = bu s n := by
  obtain ⟨f, hf, he⟩ := colAt_reach s C n h1
  rw [he]
  by_cases hl : bi s n < s.size
  · obtain ⟨f, rfl⟩ : ∃ m, f = m + 1 := ⟨f - 1, by omega⟩
    rw [colAt_step s C f _ _ hl, if_pos (by have := h2 hl; omega)]
  · exact colAt_end s C f _ _ hl
theorem posAt_of (s : ByteArray) (D : Int) (n : Nat) (h1 : bu s n ≤ D) (h2 : bi s n < s.size → D < bu s n + uts s (bi s n)) : posAt s D (s.size + 1) 0 0 = bi s n := by
  obtain ⟨f, hf, he⟩ := posAt_reach s D n h1
  rw [he]
  by_cases hl : bi s n < s.size
  · obtain ⟨f, rfl⟩ : ∃ m, f = m + 1 := ⟨f - 1, by omega⟩
    rw [posAt_step s D f _ _ hl, if_pos (by have := h2 hl; omega)]
  · exact posAt_end s D f _ _ hl
/-- the greatest border at or ahead of C -/
theorem border_of (s : ByteArray) (C : Int) (hC : 0 ≤ C) : ∃ n, (bi s n : Int) ≤ C ∧ (bi s n < s.size → C < (bi s n : Int) + wdt s (bi s n)) := by
  have key : ∀ d n, s.size - bi s n ≤ d → (bi s n : Int) ≤ C → ∃ n, (bi s n : Int) ≤ C ∧ (bi s n < s.size → C < (bi s n : Int) + wdt s (bi s n)) := by
    intro d
    induction d with
    | zero => intro n h h1; exact ⟨n, h1, fun hl => by omega⟩
    | succ d ih =>
      intro n h h1
      by_cases hl : bi s n < s.size
      · by_cases hc : C < (bi s n : Int) + wdt s (bi s n)
        · exact ⟨n, h1, fun _ => hc⟩
        · have := wdt_spec s _ hl
          exact ih (n + 1) (by rw [bi_step hl]; omega) (by rw [bi_step hl]; omega)
      · exact ⟨n, h1, fun h => absurd h hl⟩
  exact key s.size 0 (by simp [bi]) (by simpa [bi] using hC)
/-- the greatest border with at most D units ahead of it -/
theorem border_units (s : ByteArray) (D : Int) (hD : 0 ≤ D) : ∃ n, bu s n ≤ D ∧ (bi s n < s.size → D < bu s n + uts s (bi s n)) := by
  have key : ∀ d n, s.size - bi s n ≤ d → bu s n ≤ D → ∃ n, bu s n ≤ D ∧ (bi s n < s.size → D < bu s n + uts s (bi s n)) := by
    intro d
    induction d with
    | zero => intro n h h1; exact ⟨n, h1, fun hl => by omega⟩
    | succ d ih =>
      intro n h h1
      by_cases hl : bi s n < s.size
      · by_cases hc : D < bu s n + uts s (bi s n)
        · exact ⟨n, h1, fun _ => hc⟩
        · have := wdt_spec s _ hl
          exact ih (n + 1) (by rw [bi_step hl]; omega) (by rw [bu_step hl]; omega)
      · exact ⟨n, h1, fun h => absurd h hl⟩
  exact key s.size 0 (by simp [bi]) (by simpa [bu] using hD)

/-- a column of units is that of a border; from there and back -/
theorem wide_there (s : ByteArray) (C : Int) (hC : 0 ≤ C) : ∃ b : Nat, posAt s (wideC s C) (s.size + 1) 0 0 = b ∧ (b : Int) ≤ C ∧ (C ≤ s.size → C - b ≤ 3) ∧ b ≤ s.size ∧ wideC s b = wideC s C ∧ ((b : Int) < C → wideC s ((b : Int) + 1) = wideC s C) := by
  obtain ⟨n, h1, h2⟩ := border_of s C hC
  have hw := wideC_of s C n h1 h2
  have hb := bi_le s n
  refine ⟨bi s n, ?_, h1, ?_, hb, ?_, ?_⟩
  · rw [hw]
    refine posAt_of s _ n (Int.le_refl _) (fun hl => ?_)
    have := uts_spec s (bi s n)
    omega
  · intro hs
    by_cases hl : bi s n < s.size
    · have := wdt_spec s _ hl
      have := h2 hl
      omega
    · omega
  · rw [hw]
    refine wideC_of s _ n (by omega) (fun hl => ?_)
    have := wdt_spec s _ hl
    omega
  · intro hlt
    rw [hw]
    exact wideC_of s _ n (by omega) (fun hl => by have := h2 hl; omega)
theorem wideC_bounds (s : ByteArray) (C : Int) (hC : 0 ≤ C) : 0 ≤ wideC s C ∧ wideC s C ≤ C := by
  obtain ⟨n, h1, h2⟩ := border_of s C hC
  rw [wideC_of s C n h1 h2]
  have := bu_bi s n
  omega
theorem wideC_mono (s : ByteArray) (C C' : Int) (hC : 0 ≤ C) (h : C ≤ C') : wideC s C ≤ wideC s C' := by
  obtain ⟨n, h1, h2⟩ := border_of s C hC
  obtain ⟨m, g1, g2⟩ := border_of s C' (by omega)
  rw [wideC_of s C n h1 h2, wideC_of s C' m g1 g2]
  rcases Nat.lt_or_ge m n with hmn | hmn
  · by_cases hl : bi s m < s.size
    · have := (b_next s hmn hl).1
      have := g2 hl
      omega
    · have e1 := (b_mono s (Nat.le_of_lt hmn)).1
      have e2 := bi_le s n
      have e3 := bi_le s m
      rw [b_same s (show bi s n = bi s m by omega)]
      exact Int.le_refl _
  · exact (b_mono s hmn).2
/-- from a column of units (at least 0) to a place, and back -/
theorem units_back (s : ByteArray) (D : Int) (hD : 0 ≤ D) : ∃ b : Nat, posAt s D (s.size + 1) 0 0 = b ∧ b ≤ s.size ∧ wideC s b ≤ D ∧ (wideC s b = D ∨ (D - wideC s b = 1 ∧ D ≤ wideC s s.size) ∨ wideC s b = wideC s s.size) := by
  obtain ⟨n, h1, h2⟩ := border_units s D hD
  have hp := posAt_of s D n h1 h2
  have hb := bi_le s n
  have hw : wideC s (bi s n) = bu s n := wideC_of s _ n (Int.le_refl _) (fun hl => by have := wdt_spec s _ hl; omega)
  obtain ⟨m, hm⟩ := b_size s
  have hW : wideC s s.size = bu s m := by
    have := wideC_of s (s.size : Int) m (by rw [hm]; exact Int.le_refl _) (fun hl => by rw [hm] at hl; omega)
    exact this
  refine ⟨bi s n, hp, hb, by rw [hw]; exact h1, ?_⟩
  rw [hw, hW]
  by_cases hl : bi s n < s.size
  · have hnm : n < m := b_lt s (by rw [hm]; exact hl)
    have hx := (b_next s hnm hl).2
    have hu := uts_spec s (bi s n)
    have := h2 hl
    omega
  · exact .inr (.inr (b_same s (by rw [hm]; omega)))

/-! ### places of one row -/
theorem in_row (t : ByteArray) {r j : Nat} (hr : r ≤ rowN t t.size) (h1 : fromR t r ≤ j) (h2 : (j : Int) ≤ toR t r) : rowN t j = r ∧ (begN t j : Int) = fromR t r := by
  obtain ⟨p, hp, g1, g2, g3⟩ := row_from t t.size (Nat.le_refl _) r hr
  obtain ⟨e, e1, e2, e3, e4, e5, e6, e7⟩ := line_end t (t.size - p) p (by omega)
  rw [g1] at e3 e4
  rw [g3] at h1 ⊢
  rw [e3] at h2
  have m1 := rowN_mono t (show p ≤ j by omega)
  have m2 := rowN_mono t (show j ≤ e by omega)
  have n1 := begN_mono t (show p ≤ j by omega)
  have n2 := begN_mono t (show j ≤ e by omega)
  rw [g1] at m1
  rw [e4] at m2
  rw [g2] at n1
  rw [e5, g2] at n2
  exact ⟨by omega, by omega⟩
theorem place_in_row (t : ByteArray) {a : Nat} (h : a ≤ t.size) : fromR t (rowN t a) = begN t a ∧ (a : Int) ≤ toR t (rowN t a) := by
  refine ⟨from_at t h, ?_⟩
  obtain ⟨e, e1, e2, e3, _⟩ := line_end t (t.size - a) a (by omega)
  rw [e3]
  omega
end Go.Proofs.Ytgefbbdahhoglaa.PT
