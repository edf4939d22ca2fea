/- The rows of a text, in plain Lean: where they begin and end, what a place's row and column are, and that the printed functions of the document's answer (trellisref2) and of the program's own scan for line ends come to just these. -/
import Derived.Test.YtgefbbdahhoglaaPAllx3
namespace Go.Proofs.Ytgefbbdahhoglaa.PT
open Go.RowKit Go.Proofs.YtgefbbdahhoglaaW.PrintWords Go.Proofs.YtgefbbdahhoglaaW.PrintLast Go.Proofs.YtgefbbdahhoglaaW.PrintMore Go.Proofs.Ytgefbbdahhoglaa.PAll

theorem w64 {i : Int} (h0 : -9223372036854775808 ≤ i) (h1 : i ≤ 9223372036854775807) : wrap64 i = i := by
  unfold wrap64
  omega

/-- where rows begin that the first k bytes make, the text standing at a -/
def lin (t : ByteArray) (a : Int) : Nat → List Int
  | 0 => []
  | k + 1 => if bt t (k : Int) = 10 then lin t a k ++ [a + k + 1] else lin t a k
def stl (t : ByteArray) (k : Nat) : List Int := 0 :: lin t 0 k
def rowN (t : ByteArray) : Nat → Nat
  | 0 => 0
  | k + 1 => if bt t (k : Int) = 10 then rowN t k + 1 else rowN t k
def begN (t : ByteArray) : Nat → Nat
  | 0 => 0
  | k + 1 => if bt t (k : Int) = 10 then k + 1 else begN t k

theorem lin_length (t : ByteArray) (a : Int) (k : Nat) : (lin t a k).length = rowN t k := by
  induction k with
  | zero => rfl
  | succ k ih => unfold lin rowN; split <;> simp [ih]
theorem stl_length (t : ByteArray) (k : Nat) : (stl t k).length = rowN t k + 1 := by simp [stl, lin_length]
theorem rowN_le (t : ByteArray) (k : Nat) : rowN t k ≤ k := by
  induction k with
  | zero => exact Nat.le_refl _
  | succ k ih => unfold rowN; split <;> omega
theorem begN_le (t : ByteArray) (k : Nat) : begN t k ≤ k := by
  induction k with
  | zero => exact Nat.le_refl _
  | succ k ih => unfold begN; split <;> omega
theorem rowN_nl {t : ByteArray} {k : Nat} (h : bt t (k : Int) = 10) : rowN t (k + 1) = rowN t k + 1 := by simp [rowN, h]
theorem rowN_no {t : ByteArray} {k : Nat} (h : ¬ bt t (k : Int) = 10) : rowN t (k + 1) = rowN t k := by simp [rowN, h]
theorem begN_nl {t : ByteArray} {k : Nat} (h : bt t (k : Int) = 10) : begN t (k + 1) = k + 1 := by simp [begN, h]
theorem begN_no {t : ByteArray} {k : Nat} (h : ¬ bt t (k : Int) = 10) : begN t (k + 1) = begN t k := by simp [begN, h]
theorem rowN_mono (t : ByteArray) {j k : Nat} (h : j ≤ k) : rowN t j ≤ rowN t k := by
  induction k with
  | zero => obtain rfl : j = 0 := by omega
            exact Nat.le_refl _
  | succ k ih =>
    by_cases e : j = k + 1
    · rw [e]; exact Nat.le_refl _
    · have := ih (by omega)
      by_cases hn : bt t (k : Int) = 10
      · rw [rowN_nl hn]; omega
      · rw [rowN_no hn]; omega
theorem begN_mono (t : ByteArray) {j k : Nat} (h : j ≤ k) : begN t j ≤ begN t k := by
  induction k with
  | zero => obtain rfl : j = 0 := by omega
            exact Nat.le_refl _
  | succ k ih =>
    by_cases e : j = k + 1
    · rw [e]; exact Nat.le_refl _
    · have := ih (by omega)
      have h2 := begN_le t j
      by_cases hn : bt t (k : Int) = 10
      · rw [begN_nl hn]; omega
      · rw [begN_no hn]; omega

/-- from the number's own Nat -/
def at_ (l : List Int) (i : Nat) : Int := l.getD i 0
theorem rd_nat (l : List Int) (i : Nat) : rd l (i : Int) = at_ l i := by simp [rd, at_]
theorem at_append_left {l r : List Int} {i : Nat} (h : i < l.length) : at_ (l ++ r) i = at_ l i := by
  simp [at_, List.getD_eq_getElem?_getD, List.getElem?_append_left h]
theorem at_append_last (l : List Int) (x : Int) : at_ (l ++ [x]) l.length = x := by
  simp [at_, List.getD_eq_getElem?_getD]
theorem stl_nl {t : ByteArray} {k : Nat} (h : bt t (k : Int) = 10) : stl t (k + 1) = stl t k ++ [((k : Int) + 1)] := by
  simp [stl, lin, h]
theorem stl_no {t : ByteArray} {k : Nat} (h : ¬ bt t (k : Int) = 10) : stl t (k + 1) = stl t k := by simp [stl, lin, h]

theorem stl_last (t : ByteArray) (k : Nat) : at_ (stl t k) (rowN t k) = begN t k := by
  induction k with
  | zero => rfl
  | succ k ih =>
    by_cases h : bt t (k : Int) = 10
    · rw [stl_nl h, rowN_nl h, begN_nl h, ← stl_length, at_append_last]; simp
    · rw [stl_no h, rowN_no h, begN_no h, ih]
theorem stl_old (t : ByteArray) {j k i : Nat} (h : j ≤ k) (hi : i ≤ rowN t j) : at_ (stl t k) i = at_ (stl t j) i := by
  induction k with
  | zero => obtain rfl : j = 0 := by omega
            rfl
  | succ k ih =>
    by_cases e : j = k + 1
    · rw [e]
    · have hr := rowN_mono t (show j ≤ k by omega)
      by_cases hn : bt t (k : Int) = 10
      · rw [stl_nl hn, at_append_left (by rw [stl_length]; omega)]
        exact ih (by omega)
      · rw [stl_no hn]; exact ih (by omega)
theorem stl_gt (t : ByteArray) {j k i : Nat} (h : j ≤ k) (h1 : rowN t j < i) (h2 : i ≤ rowN t k) : (j : Int) < at_ (stl t k) i := by
  induction k with
  | zero => obtain rfl : j = 0 := by omega
            omega
  | succ k ih =>
    by_cases e : j = k + 1
    · subst e; omega
    · by_cases hn : bt t (k : Int) = 10
      · rw [rowN_nl hn] at h2
        rw [stl_nl hn]
        by_cases e2 : i = rowN t k + 1
        · rw [e2, ← stl_length, at_append_last]; omega
        · rw [at_append_left (by rw [stl_length]; omega)]
          exact ih (by omega) (by omega)
      · rw [rowN_no hn] at h2
        rw [stl_no hn]
        exact ih (by omega) h2
theorem stl_le (t : ByteArray) {k i : Nat} (hi : i ≤ rowN t k) : 0 ≤ at_ (stl t k) i ∧ at_ (stl t k) i ≤ k := by
  induction k with
  | zero => obtain rfl : i = 0 := by simp [rowN] at hi; exact hi
            exact ⟨by simp [at_, stl], by simp [at_, stl, lin]⟩
  | succ k ih =>
    by_cases hn : bt t (k : Int) = 10
    · rw [rowN_nl hn] at hi
      rw [stl_nl hn]
      by_cases e2 : i = rowN t k + 1
      · rw [e2, ← stl_length, at_append_last]; omega
      · rw [at_append_left (by rw [stl_length]; omega)]
        have := ih (by omega)
        omega
    · rw [rowN_no hn] at hi
      rw [stl_no hn]
      have := ih hi
      omega

/-- where row r begins, and where its line end (or the text's end) is -/
def fromR (t : ByteArray) (r : Nat) : Int := at_ (stl t t.size) r
def toR (t : ByteArray) (r : Nat) : Int := if r < rowN t t.size then at_ (stl t t.size) (r + 1) - 1 else t.size

theorem from_at (t : ByteArray) {a : Nat} (h : a ≤ t.size) : fromR t (rowN t a) = begN t a := by
  unfold fromR
  rw [stl_old t h (Nat.le_refl _), stl_last]
theorem from_le (t : ByteArray) {r : Nat} (h : r ≤ rowN t t.size) : 0 ≤ fromR t r ∧ fromR t r ≤ t.size := stl_le t h
/-- the row of a place, by what a search for it leaves -/
theorem row_unique (t : ByteArray) {a r : Nat} (h : a ≤ t.size) (hr : r ≤ rowN t t.size) (h1 : r = 0 ∨ at_ (stl t t.size) r ≤ a) (h2 : r = rowN t t.size ∨ (a : Int) < at_ (stl t t.size) (r + 1)) : r = rowN t a := by
  have hm := rowN_mono t h
  rcases Nat.lt_trichotomy r (rowN t a) with hlt | heq | hgt
  · rcases h2 with h2 | h2
    · omega
    · have h3 := stl_old t (i := r + 1) h (by omega)
      have h4 := (stl_le t (k := a) (i := r + 1) (by omega)).2
      omega
  · exact heq
  · rcases h1 with h1 | h1
    · omega
    · have := stl_gt t h hgt hr
      omega
theorem to_of_nl (t : ByteArray) {j : Nat} (h : j < t.size) (hn : bt t (j : Int) = 10) : toR t (rowN t j) = j := by
  have h1 := rowN_mono t (show j + 1 ≤ t.size by omega)
  have h2 := rowN_nl hn
  unfold toR
  rw [if_pos (by omega), ← h2]
  have := from_at t (show j + 1 ≤ t.size by omega)
  unfold fromR at this
  rw [this, begN_nl hn]
  omega
theorem to_of_end (t : ByteArray) : toR t (rowN t t.size) = t.size := by unfold toR; rw [if_neg (by omega)]
/-- the line end behind a place: at or behind it, with no line end between -/
theorem line_end (t : ByteArray) (d : Nat) : ∀ a, a + d = t.size → ∃ e, a ≤ e ∧ e ≤ t.size ∧ toR t (rowN t a) = e ∧ rowN t e = rowN t a ∧ begN t e = begN t a ∧ (∀ k, a ≤ k → k < e → ¬ bt t (k : Int) = 10) ∧ (e < t.size → bt t (e : Int) = 10) := by
  induction d with
  | zero =>
    intro a ha
    obtain rfl : a = t.size := by omega
    exact ⟨t.size, Nat.le_refl _, Nat.le_refl _, to_of_end t, rfl, rfl, fun k h1 h2 => by omega, fun h => by omega⟩
  | succ d ih =>
    intro a ha
    by_cases hn : bt t (a : Int) = 10
    · exact ⟨a, Nat.le_refl _, by omega, to_of_nl t (by omega) hn, rfl, rfl, fun k h1 h2 => by omega, fun _ => hn⟩
    · obtain ⟨e, h1, h2, h3, h4, h4b, h5, h6⟩ := ih (a + 1) (by omega)
      rw [rowN_no hn] at h3 h4
      rw [begN_no hn] at h4b
      refine ⟨e, by omega, h2, h3, h4, h4b, fun k hk1 hk2 => ?_, h6⟩
      by_cases e1 : k = a
      · rw [e1]; exact hn
      · exact h5 k (by omega) hk2
/-- each row is that of the place where it begins -/
theorem row_from (t : ByteArray) (n : Nat) : n ≤ t.size → ∀ r, r ≤ rowN t n → ∃ p, p ≤ n ∧ rowN t p = r ∧ begN t p = p ∧ fromR t r = p := by
  induction n with
  | zero =>
    intro _ r hr
    obtain rfl : r = 0 := by simpa [rowN] using hr
    exact ⟨0, Nat.le_refl _, rfl, rfl, by rw [show (0 : Nat) = rowN t 0 from rfl, from_at t (Nat.zero_le _)]; rfl⟩
  | succ n ih =>
    intro hn r hr
    by_cases e : r ≤ rowN t n
    · obtain ⟨p, h1, h2⟩ := ih (by omega) r e
      exact ⟨p, by omega, h2⟩
    · by_cases hb : bt t (n : Int) = 10
      · rw [rowN_nl hb] at hr
        obtain rfl : r = rowN t n + 1 := by omega
        refine ⟨n + 1, Nat.le_refl _, rowN_nl hb, begN_nl hb, ?_⟩
        rw [← rowN_nl hb, from_at t hn, begN_nl hb]
      · rw [rowN_no hb] at hr
        omega
theorem from_to (t : ByteArray) {r : Nat} (h : r ≤ rowN t t.size) : 0 ≤ fromR t r ∧ fromR t r ≤ toR t r ∧ toR t r ≤ t.size := by
  obtain ⟨p, h1, h2, h3, h4⟩ := row_from t t.size (Nat.le_refl _) r h
  obtain ⟨e, g1, g2, g3, _⟩ := line_end t (t.size - p) p (by omega)
  rw [h2] at g3
  rw [h4, g3]
  omega

/-! ### the printed functions -/
theorem lines_l0 (t : ByteArray) (a : Int) (l : List Int) (ha : 0 ≤ a) (hb : a ≤ 4294967296) (hs : t.size ≤ 4294967296) (hl : l.length ≤ 4294967296) (d : Nat) : ∀ (k i : Nat), i + d = t.size → d < k →
    place_lines.l0 k (l ++ lin t a i) t a (i : Int) = some (l ++ lin t a t.size) := by
  induction d with
  | zero =>
    intro k i hi hk
    obtain ⟨k, rfl⟩ : ∃ m, k = m + 1 := ⟨k - 1, by omega⟩
    obtain rfl : i = t.size := by omega
    simp only [place_lines.l0]
    rw [if_neg (by omega)]
  | succ d ih =>
    intro k i hi hk
    obtain ⟨k, rfl⟩ : ∃ m, k = m + 1 := ⟨k - 1, by omega⟩
    have hlen := lin_length t a i
    have hrow := rowN_le t i
    simp only [place_lines.l0]
    rw [if_pos (by omega), if_pos (by omega), w64 (i := (i : Int) + 1) (by omega) (by omega), show (i : Int) + 1 = ((i + 1 : Nat) : Int) by omega]
    have h := ih k (i + 1) (by omega) (by omega)
    by_cases hn : bt t (i : Int) = 10
    · rw [if_pos hn, if_pos (by rw [List.length_append]; omega), w64 (i := a + (i : Int)) (by omega) (by omega), w64 (by omega) (by omega)]
      rw [show lin t a (i + 1) = lin t a i ++ [a + i + 1] by simp [lin, hn]] at h
      rw [List.append_assoc]
      exact h
    · rw [if_neg hn]
      rw [show lin t a (i + 1) = lin t a i by simp [lin, hn]] at h
      exact h
theorem lines_f (t : ByteArray) (a : Int) (l : List Int) (ha : 0 ≤ a) (hb : a ≤ 4294967296) (hs : t.size ≤ 4294967296) (hl : l.length ≤ 4294967296) : place_lines.f (t.size + 1) l t a = some (l ++ lin t a t.size) := by
  have h := lines_l0 t a l ha hb hs hl t.size (t.size + 1) 0 (by omega) (by omega)
  simpa [place_lines.f, lin] using h

theorem ref_rows_l0 (t : ByteArray) (hs : t.size ≤ 4294967296) (d : Nat) : ∀ (k i : Nat), i + d = t.size → d < k → trellisref2_Rows.l0 k t ((rowN t i : Int) + 1) (i : Int) = some ((rowN t t.size : Int) + 1) := by
  induction d with
  | zero =>
    intro k i hi hk
    obtain ⟨k, rfl⟩ : ∃ m, k = m + 1 := ⟨k - 1, by omega⟩
    obtain rfl : i = t.size := by omega
    simp only [trellisref2_Rows.l0]
    rw [if_neg (by omega)]
  | succ d ih =>
    intro k i hi hk
    obtain ⟨k, rfl⟩ : ∃ m, k = m + 1 := ⟨k - 1, by omega⟩
    have hrow := rowN_le t i
    simp only [trellisref2_Rows.l0]
    rw [if_pos (by omega), if_pos (by omega), w64 (i := (i : Int) + 1) (by omega) (by omega), show (i : Int) + 1 = ((i + 1 : Nat) : Int) by omega]
    have h := ih k (i + 1) (by omega) (by omega)
    by_cases hn : bt t (i : Int) = 10
    · rw [if_pos hn, w64 (by omega) (by omega)]
      rw [rowN_nl hn] at h
      exact h
    · rw [if_neg hn]
      rw [rowN_no hn] at h
      exact h
theorem ref_rows (t : ByteArray) (hs : t.size ≤ 4294967296) {k : Nat} (hk : t.size < k) : trellisref2_Rows.f k t = some ((rowN t t.size : Int) + 1) := ref_rows_l0 t hs t.size k 0 (by omega) hk

theorem ref_row_l1 (t : ByteArray) (hs : t.size ≤ 4294967296) (f : Int) (d : Nat) : ∀ (k i : Nat), i + d = t.size → d < k → trellisref2_Row.l1 k t f (i : Int) = some (f, toR t (rowN t i), true) := by
  induction d with
  | zero =>
    intro k i hi hk
    obtain ⟨k, rfl⟩ : ∃ m, k = m + 1 := ⟨k - 1, by omega⟩
    obtain rfl : i = t.size := by omega
    simp only [trellisref2_Row.l1]
    rw [if_neg (by omega), to_of_end]
  | succ d ih =>
    intro k i hi hk
    obtain ⟨k, rfl⟩ : ∃ m, k = m + 1 := ⟨k - 1, by omega⟩
    simp only [trellisref2_Row.l1]
    rw [if_pos (by omega), if_pos (by omega), w64 (i := (i : Int) + 1) (by omega) (by omega), show (i : Int) + 1 = ((i + 1 : Nat) : Int) by omega]
    by_cases hn : bt t (i : Int) = 10
    · rw [if_pos hn, to_of_nl t (by omega) hn]
    · rw [if_neg hn]
      have h := ih k (i + 1) (by omega) (by omega)
      rw [rowN_no hn] at h
      exact h
theorem ref_row_l0 (t : ByteArray) (hs : t.size ≤ 4294967296) (r : Nat) (hr : r ≤ rowN t t.size) (d : Nat) : ∀ (k i : Nat), i + d = t.size → 2 * t.size + 2 ≤ k + i → rowN t i ≤ r → (rowN t i = r → begN t i = i) →
    trellisref2_Row.l0 k t ((r : Int) - rowN t i) (i : Int) = some (fromR t r, toR t r, true) := by
  induction d with
  | zero =>
    intro k i hi hk h1 h2
    obtain ⟨k, rfl⟩ : ∃ m, k = m + 1 := ⟨k - 1, by omega⟩
    obtain rfl : i = t.size := by omega
    have e : rowN t t.size = r := by omega
    simp only [trellisref2_Row.l0]
    rw [if_neg (by omega), ref_row_l1 t hs _ 0 k t.size (by omega) (by omega), e, ← e, from_at t (Nat.le_refl _), h2 e]
  | succ d ih =>
    intro k i hi hk h1 h2
    obtain ⟨k, rfl⟩ : ∃ m, k = m + 1 := ⟨k - 1, by omega⟩
    by_cases e : rowN t i = r
    · simp only [trellisref2_Row.l0]
      rw [if_neg (by omega), ref_row_l1 t hs _ (d + 1) k i (by omega) (by omega), e, ← e, from_at t (by omega), h2 e]
    · simp only [trellisref2_Row.l0]
      have hrow := rowN_le t i
      have hrr := rowN_le t t.size
      rw [if_pos (by omega), if_pos (by omega), if_pos (by omega), w64 (i := (i : Int) + 1) (by omega) (by omega), w64 (i := (r : Int) - (rowN t i : Int) - 1) (by omega) (by omega), show (i : Int) + 1 = ((i + 1 : Nat) : Int) by omega]
      have h := ih k (i + 1) (by omega) (by omega)
      by_cases hn : bt t (i : Int) = 10
      · rw [if_pos hn]
        rw [rowN_nl hn, begN_nl hn] at h
        rw [show (r : Int) - (rowN t i : Int) - 1 = (r : Int) - ((rowN t i + 1 : Nat) : Int) by omega]
        exact h (by omega) (fun _ => rfl)
      · rw [if_neg hn]
        rw [rowN_no hn, begN_no hn] at h
        exact h h1 (fun e' => absurd e' e)
theorem ref_row (t : ByteArray) (hs : t.size ≤ 4294967296) (row : Int) {k : Nat} (hk : 2 * t.size + 4 ≤ k) :
    trellisref2_Row.f k t row = if 0 ≤ row ∧ row ≤ rowN t t.size then some (fromR t row.toNat, toR t row.toNat, true) else some (0, 0, false) := by
  obtain ⟨k, rfl⟩ : ∃ m, k = m + 1 := ⟨k - 1, by omega⟩
  unfold trellisref2_Row.f
  by_cases h0 : row < 0
  · rw [if_pos h0, if_neg (by omega)]
    simp only [trellisref2_Row.j0]
    rfl
  · rw [if_neg h0, ref_rows t hs (by omega)]
    simp only [Option.bind_some, trellisref2_Row.j0]
    by_cases h1 : row ≤ rowN t t.size
    · rw [if_neg (by simp; omega), if_pos ⟨by omega, h1⟩]
      obtain ⟨r, rfl⟩ := Int.eq_ofNat_of_zero_le (show 0 ≤ row by omega)
      have h := ref_row_l0 t hs r (by omega) t.size k 0 (by omega) (by omega) (by simp [rowN]) (fun _ => rfl)
      simpa [rowN] using h
    · rw [if_pos (by simp; omega), if_neg (by omega)]

/-- a place of the text -/
def clampN (t : ByteArray) (a : Int) : Nat := if a < 0 then 0 else if a > (t.size : Int) then t.size else a.toNat
theorem clampN_le (t : ByteArray) (a : Int) : clampN t a ≤ t.size := by unfold clampN; (repeat' split) <;> omega
theorem ref_clamp (t : ByteArray) (a : Int) : trellisref2_clamp.f t a = some (clampN t a : Int) := by
  unfold trellisref2_clamp.f clampN
  (repeat' split) <;> simp <;> omega
theorem ref_pos_l0 (t : ByteArray) (hs : t.size ≤ 4294967296) (a : Nat) (ha : a ≤ t.size) (d : Nat) : ∀ (k i : Nat), i + d = a → d < k →
    trellisref2_Pos.l0 k t (a : Int) (i : Int) (rowN t i : Int) ((i : Int) - begN t i) = some ((rowN t a : Int), (a : Int) - begN t a) := by
  induction d with
  | zero =>
    intro k i hi hk
    obtain ⟨k, rfl⟩ : ∃ m, k = m + 1 := ⟨k - 1, by omega⟩
    obtain rfl : i = a := by omega
    simp only [trellisref2_Pos.l0]
    rw [if_neg (by omega)]
  | succ d ih =>
    intro k i hi hk
    obtain ⟨k, rfl⟩ : ∃ m, k = m + 1 := ⟨k - 1, by omega⟩
    have hrow := rowN_le t i
    have hbeg := begN_le t i
    simp only [trellisref2_Pos.l0]
    rw [if_pos (by omega), if_pos (by omega), if_pos (by omega), w64 (i := (i : Int) + 1) (by omega) (by omega), show (i : Int) + 1 = ((i + 1 : Nat) : Int) by omega]
    have h := ih k (i + 1) (by omega) (by omega)
    by_cases hn : bt t (i : Int) = 10
    · rw [if_pos hn, w64 (by omega) (by omega)]
      rw [rowN_nl hn, begN_nl hn] at h
      rw [show ((i + 1 : Nat) : Int) - ((i + 1 : Nat) : Int) = 0 by omega] at h
      exact h
    · rw [if_neg hn, w64 (by omega) (by omega)]
      rw [rowN_no hn, begN_no hn] at h
      rw [show ((i + 1 : Nat) : Int) - (begN t i : Int) = (i : Int) - begN t i + 1 by omega] at h
      exact h
theorem ref_pos (t : ByteArray) (hs : t.size ≤ 4294967296) (a : Int) {k : Nat} (hk : t.size < k) :
    trellisref2_Pos.f k t a = some ((rowN t (clampN t a) : Int), (clampN t a : Int) - begN t (clampN t a)) := by
  unfold trellisref2_Pos.f
  rw [ref_clamp]
  simp only [Option.bind_some]
  have hc := clampN_le t a
  have h := ref_pos_l0 t hs (clampN t a) hc (clampN t a) k 0 (by omega) (by omega)
  simpa [rowN, begN] using h

/-- 2.3 -/
def atP (t : ByteArray) (row col : Int) : Int :=
  if row < 0 then 0 else if row > rowN t t.size then t.size else if col < 0 then fromR t row.toNat else if col > toR t row.toNat - fromR t row.toNat then toR t row.toNat else fromR t row.toNat + col
theorem ref_at (t : ByteArray) (hs : t.size ≤ 4294967296) (row col : Int) {k : Nat} (hk : 2 * t.size + 4 ≤ k) : trellisref2_At.f k t row col = some (atP t row col) := by
  unfold trellisref2_At.f atP
  by_cases h0 : row < 0
  · rw [if_pos h0, if_pos h0]
  · rw [if_neg h0, if_neg h0, ref_row t hs row hk]
    by_cases h1 : row ≤ rowN t t.size
    · rw [if_pos ⟨by omega, h1⟩, if_neg (by omega)]
      have hft := from_to t (r := row.toNat) (by omega)
      simp only [Option.bind_some, if_true]
      rw [w64 (i := toR t row.toNat - fromR t row.toNat) (by omega) (by omega)]
      by_cases c0 : col < 0
      · rw [if_pos c0, if_pos c0]
      · rw [if_neg c0, if_neg c0]
        by_cases c1 : col > toR t row.toNat - fromR t row.toNat
        · rw [if_pos c1, if_pos c1]
        · rw [if_neg c1, if_neg c1, w64 (by omega) (by omega)]
    · rw [if_neg (by omega), if_pos (by omega)]
      simp
end Go.Proofs.Ytgefbbdahhoglaa.PT
