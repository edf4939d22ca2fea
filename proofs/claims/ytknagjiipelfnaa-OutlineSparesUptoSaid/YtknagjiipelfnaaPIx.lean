/- The rows of a text, in plain Lean: where they begin and end, what a place's row and column are, and that the printed functions of the document's answer (trellisref2) and of the program's own scan for line ends come to just these. The walks of the index of a text: what New makes, and what its methods answer, for a text of at most 2^32 bytes. -/
import Derived.Test.YtknagjiipelfnaaQg
import Derived.Test.YtknagjiipelfnaaQh
import Derived.BigRegion
import Derived.Deep.DeepCutAuto
namespace Go.Proofs.Ytknagjiipelfnaa.PT
open Go.RowKit Go.Proofs.YtknagjiipelfnaaW.PrintWords Go.Proofs.YtknagjiipelfnaaW.PrintLast Go.Proofs.YtknagjiipelfnaaW.PrintMore Go.Proofs.Ytknagjiipelfnaa.PAll

theorem w64 {i : Int} (h0 : -9223372036854775808 ≤ i) (h1 : i ≤ 9223372036854775807) : wrap64 i = i := by
  unfold wrap64
  omega

/-- where rows begin that the first k bytes make, the text standing at a -/
def lin (t : ByteArray) (a : Int) : Nat → List Int
  | 0 => []
  | k + 1 => if bt t (k : Int) = 10 then lin t a k ++ [a + k + 1] else lin t a k
def stl (t : ByteArray) (k : Nat) : List Int := 0 :: lin t 0 k
def rowN (t : ByteArray) : Nat → Nat
  | 0 => 0
  | k + 1 => if bt t (k : Int) = 10 then rowN t k + 1 else rowN t k
def begN (t : ByteArray) : Nat → Nat
  | 0 => 0
  | k + 1 => if bt t (k : Int) = 10 then k + 1 else begN t k

theorem lin_length (t : ByteArray) (a : Int) (k : Nat) : (lin t a k).length = rowN t k := by
  induction k with
  | zero => rfl
  | succ k ih => unfold lin rowN; split <;> simp [ih]
theorem stl_length (t : ByteArray) (k : Nat) : (stl t k).length = rowN t k + 1 := by simp [stl, lin_length]
theorem rowN_le (t : ByteArray) (k : Nat) : rowN t k ≤ k := by
  induction k with
  | zero => exact Nat.le_refl _
  | succ k ih => unfold rowN; split <;> omega
theorem begN_le (t : ByteArray) (k : Nat) : begN t k ≤ k := by
  induction k with
  | zero => exact Nat.le_refl _
  | succ k ih => unfold begN; split <;> omega
theorem rowN_nl {t : ByteArray} {k : Nat} (h : bt t (k : Int) = 10) : rowN t (k + 1) = rowN t k + 1 := by simp [rowN, h]
theorem rowN_no {t : ByteArray} {k : Nat} (h : ¬ bt t (k : Int) = 10) : rowN t (k + 1) = rowN t k := by simp [rowN, h]
theorem begN_nl {t : ByteArray} {k : Nat} (h : bt t (k : Int) = 10) : begN t (k + 1) = k + 1 := by simp [begN, h]
theorem begN_no {t : ByteArray} {k : Nat} (h : ¬ bt t (k : Int) = 10) : begN t (k + 1) = begN t k := by simp [begN, h]
theorem rowN_mono (t : ByteArray) {j k : Nat} (h : j ≤ k) : rowN t j ≤ rowN t k := by
  induction k with
  | zero => obtain rfl : j = 0 := by omega
            exact Nat.le_refl _
  | succ k ih =>
    by_cases e : j = k + 1
    · rw [e]; exact Nat.le_refl _
    · have := ih (by omega)
      by_cases hn : bt t (k : Int) = 10
      · rw [rowN_nl hn]; omega
      · rw [rowN_no hn]; omega
theorem begN_mono (t : ByteArray) {j k : Nat} (h : j ≤ k) : begN t j ≤ begN t k := by
  induction k with
  | zero => obtain rfl : j = 0 := by omega
            exact Nat.le_refl _
  | succ k ih =>
    by_cases e : j = k + 1
    · rw [e]; exact Nat.le_refl _
    · have := ih (by omega)
      have h2 := begN_le t j
      by_cases hn : bt t (k : Int) = 10
      · rw [begN_nl hn]; omega
      · rw [begN_no hn]; omega

/-- from the number's own Nat -/
def at_ (l : List Int) (i : Nat) : Int := l.getD i 0
theorem rd_nat (l : List Int) (i : Nat) : rd l (i : Int) = at_ l i := by simp [rd, at_]
theorem at_append_left {l r : List Int} {i : Nat} (h : i < l.length) : at_ (l ++ r) i = at_ l i := by
  simp [at_, List.getD_eq_getElem?_getD, List.getElem?_append_left h]
theorem at_append_last (l : List Int) (x : Int) : at_ (l ++ [x]) l.length = x := by
  simp [at_, List.getD_eq_getElem?_getD]
theorem stl_nl {t : ByteArray} {k : Nat} (h : bt t (k : Int) = 10) : stl t (k + 1) = stl t k ++ [((k : Int) + 1)] := by
  simp [stl, lin, h]
theorem stl_no {t : ByteArray} {k : Nat} (h : ¬ bt t (k : Int) = 10) : stl t (k + 1) = stl t k := by simp [stl, lin, h]

theorem stl_last (t : ByteArray) (k : Nat) : at_ (stl t k) (rowN t k) = begN t k := by
  induction k with
  | zero => rfl
  | succ k ih =>
    by_cases h : bt t (k : Int) = 10
    · rw [stl_nl h, rowN_nl h, begN_nl h, ← stl_length, at_append_last]; simp
    · rw [stl_no h, rowN_no h, begN_no h, ih]
theorem stl_old (t : ByteArray) {j k i : Nat} (h : j ≤ k) (hi : i ≤ rowN t j) : at_ (stl t k) i = at_ (stl t j) i := by
  induction k with
  | zero => obtain rfl : j = 0 := by omega
            rfl
  | succ k ih =>
    by_cases e : j = k + 1
    · rw [e]
    · have hr := rowN_mono t (show j ≤ k by omega)
      by_cases hn : bt t (k : Int) = 10
      · rw [stl_nl hn, at_append_left (by rw [stl_length]; omega)]
        exact ih (by omega)
      · rw [stl_no hn]; exact ih (by omega)
theorem stl_gt (t : ByteArray) {j k i : Nat} (h : j ≤ k) (h1 : rowN t j < i) (h2 : i ≤ rowN t k) : (j : Int) < at_ (stl t k) i := by
  induction k with
  | zero => obtain rfl : j = 0 := by omega
            omega
  | succ k ih =>
    by_cases e : j = k + 1
    · subst e; omega
    · by_cases hn : bt t (k : Int) = 10
      · rw [rowN_nl hn] at h2
        rw [stl_nl hn]
        by_cases e2 : i = rowN t k + 1
        · rw [e2, ← stl_length, at_append_last]; omega
        · rw [at_append_left (by rw [stl_length]; omega)]
          exact ih (by omega) (by omega)
      · rw [rowN_no hn] at h2
        rw [stl_no hn]
        exact ih (by omega) h2
theorem stl_le (t : ByteArray) {k i : Nat} (hi : i ≤ rowN t k) : 0 ≤ at_ (stl t k) i ∧ at_ (stl t k) i ≤ k := by
  induction k with
  | zero => obtain rfl : i = 0 := by simp [rowN] at hi; exact hi
            exact ⟨by simp [at_, stl], by simp [at_, stl, lin]⟩
  | succ k ih =>
    by_cases hn : bt t (k : Int) = 10
    · rw [rowN_nl hn] at hi
      rw [stl_nl hn]
      by_cases e2 : i = rowN t k + 1
      · rw [e2, ← stl_length, at_append_last]; omega
      · rw [at_append_left (by rw [stl_length]; omega)]
        have := ih (by omega)
        omega
    · rw [rowN_no hn] at hi
      rw [stl_no hn]
      have := ih hi
      omega

/-- where row r begins, and where its line end (or the text's end) is -/
def fromR (t : ByteArray) (r : Nat) : Int := at_ (stl t t.size) r
def toR (t : ByteArray) (r : Nat) : Int := if r < rowN t t.size then at_ (stl t t.size) (r + 1) - 1 else t.size

theorem from_at (t : ByteArray) {a : Nat} (h : a ≤ t.size) : fromR t (rowN t a) = begN t a := by
  unfold fromR
  rw [stl_old t h (Nat.le_refl _), stl_last]
theorem from_le (t : ByteArray) {r : Nat} (h : r ≤ rowN t t.size) : 0 ≤ fromR t r ∧ fromR t r ≤ t.size := stl_le t h
/-- the row of a place, by what a search for it leaves -/
theorem row_unique (t : ByteArray) {a r : Nat} (h : a ≤ t.size) (hr : r ≤ rowN t t.size) (h1 : r = 0 ∨ at_ (stl t t.size) r ≤ a) (h2 : r = rowN t t.size ∨ (a : Int) < at_ (stl t t.size) (r + 1)) : r = rowN t a := by
  have hm := rowN_mono t h
  rcases Nat.lt_trichotomy r (rowN t a) with hlt | heq | hgt
  · rcases h2 with h2 | h2
    · omega
    · have h3 := stl_old t (i := r + 1) h (by omega)
      have h4 := (stl_le t (k := a) (i := r + 1) (by omega)).2
      omega
  · exact heq
  · rcases h1 with h1 | h1
    · omega
    · have := stl_gt t h hgt hr
      omega
theorem to_of_nl (t : ByteArray) {j : Nat} (h : j < t.size) (hn : bt t (j : Int) = 10) : toR t (rowN t j) = j := by
  have h1 := rowN_mono t (show j + 1 ≤ t.size by omega)
  have h2 := rowN_nl hn
  unfold toR
  rw [if_pos (by omega), ← h2]
  have := from_at t (show j + 1 ≤ t.size by omega)
  unfold fromR at this
  rw [this, begN_nl hn]
  omega
theorem to_of_end (t : ByteArray) : toR t (rowN t t.size) = t.size := by unfold toR; rw [if_neg (by omega)]
/-- the line end behind a place: at or behind it, with no line end between -/
theorem line_end (t : ByteArray) (d : Nat) : ∀ a, a + d = t.size → ∃ e, a ≤ e ∧ e ≤ t.size ∧ toR t (rowN t a) = e ∧ rowN t e = rowN t a ∧ begN t e = begN t a ∧ (∀ k, a ≤ k → k < e → ¬ bt t (k : Int) = 10) ∧ (e < t.size → bt t (e : Int) = 10) := by
  induction d with
  | zero =>
    intro a ha
    obtain rfl : a = t.size := by omega
    exact ⟨t.size, Nat.le_refl _, Nat.le_refl _, to_of_end t, rfl, rfl, fun k h1 h2 => by omega, fun h => by omega⟩
  | succ d ih =>
    intro a ha
    by_cases hn : bt t (a : Int) = 10
    · exact ⟨a, Nat.le_refl _, by omega, to_of_nl t (by omega) hn, rfl, rfl, fun k h1 h2 => by omega, fun _ => hn⟩
    · obtain ⟨e, h1, h2, h3, h4, h4b, h5, h6⟩ := ih (a + 1) (by omega)
      rw [rowN_no hn] at h3 h4
      rw [begN_no hn] at h4b
      refine ⟨e, by omega, h2, h3, h4, h4b, fun k hk1 hk2 => ?_, h6⟩
      by_cases e1 : k = a
      · rw [e1]; exact hn
      · exact h5 k (by omega) hk2
/-- each row is that of the place where it begins -/
theorem row_from (t : ByteArray) (n : Nat) : n ≤ t.size → ∀ r, r ≤ rowN t n → ∃ p, p ≤ n ∧ rowN t p = r ∧ begN t p = p ∧ fromR t r = p := by
  induction n with
  | zero =>
    intro _ r hr
    obtain rfl : r = 0 := by simpa [rowN] using hr
    exact ⟨0, Nat.le_refl _, rfl, rfl, by rw [show (0 : Nat) = rowN t 0 from rfl, from_at t (Nat.zero_le _)]; rfl⟩
  | succ n ih =>
    intro hn r hr
    by_cases e : r ≤ rowN t n
    · obtain ⟨p, h1, h2⟩ := ih (by omega) r e
      exact ⟨p, by omega, h2⟩
    · by_cases hb : bt t (n : Int) = 10
      · rw [rowN_nl hb] at hr
        obtain rfl : r = rowN t n + 1 := by omega
        refine ⟨n + 1, Nat.le_refl _, rowN_nl hb, begN_nl hb, ?_⟩
        rw [← rowN_nl hb, from_at t hn, begN_nl hb]
      · rw [rowN_no hb] at hr
        omega
theorem from_to (t : ByteArray) {r : Nat} (h : r ≤ rowN t t.size) : 0 ≤ fromR t r ∧ fromR t r ≤ toR t r ∧ toR t r ≤ t.size := by
  obtain ⟨p, h1, h2, h3, h4⟩ := row_from t t.size (Nat.le_refl _) r h
  obtain ⟨e, g1, g2, g3, _⟩ := line_end t (t.size - p) p (by omega)
  rw [h2] at g3
  rw [h4, g3]
  omega

/-! ### the printed functions -/
theorem lines_l0 (t : ByteArray) (a : Int) (l : List Int) (ha : 0 ≤ a) (hb : a ≤ 4294967296) (hs : t.size ≤ 4294967296) (hl : l.length ≤ 4294967296) (d : Nat) : ∀ (k i : Nat), i + d = t.size → d < k →
    place_lines.l0 k (l ++ lin t a i) t a (i : Int) = some (l ++ lin t a t.size) := by
  induction d with
  | zero =>
    intro k i hi hk
    obtain ⟨k, rfl⟩ : ∃ m, k = m + 1 := ⟨k - 1, by omega⟩
    obtain rfl : i = t.size := by omega
    simp only [place_lines.l0]
    rw [if_neg (by omega)]
  | succ d ih =>
    intro k i hi hk
    obtain ⟨k, rfl⟩ : ∃ m, k = m + 1 := ⟨k - 1, by omega⟩
    have hlen := lin_length t a i
    have hrow := rowN_le t i
    simp only [place_lines.l0]
    rw [if_pos (by omega), if_pos (by omega), w64 (i := (i : Int) + 1) (by omega) (by omega), show (i : Int) + 1 = ((i + 1 : Nat) : Int) by omega]
    have h := ih k (i + 1) (by omega) (by omega)
    by_cases hn : bt t (i : Int) = 10
    · rw [if_pos hn, if_pos (by rw [List.length_append]; omega), w64 (i := a + (i : Int)) (by omega) (by omega), w64 (by omega) (by omega)]
      rw [show lin t a (i + 1) = lin t a i ++ [a + i + 1] by simp [lin, hn]] at h
      rw [List.append_assoc]
      exact h
    · rw [if_neg hn]
      rw [show lin t a (i + 1) = lin t a i by simp [lin, hn]] at h
      exact h
theorem lines_f (t : ByteArray) (a : Int) (l : List Int) (ha : 0 ≤ a) (hb : a ≤ 4294967296) (hs : t.size ≤ 4294967296) (hl : l.length ≤ 4294967296) : place_lines.f (t.size + 1) l t a = some (l ++ lin t a t.size) := by
  have h := lines_l0 t a l ha hb hs hl t.size (t.size + 1) 0 (by omega) (by omega)
  simpa [place_lines.f, lin] using h

theorem ref_rows_l0 (t : ByteArray) (hs : t.size ≤ 4294967296) (d : Nat) : ∀ (k i : Nat), i + d = t.size → d < k → trellisref2_Rows.l0 k t ((rowN t i : Int) + 1) (i : Int) = some ((rowN t t.size : Int) + 1) := by
  induction d with
  | zero =>
    intro k i hi hk
    obtain ⟨k, rfl⟩ : ∃ m, k = m + 1 := ⟨k - 1, by omega⟩
    obtain rfl : i = t.size := by omega
    simp only [trellisref2_Rows.l0]
    rw [if_neg (by omega)]
  | succ d ih =>
    intro k i hi hk
    obtain ⟨k, rfl⟩ : ∃ m, k = m + 1 := ⟨k - 1, by omega⟩
    have hrow := rowN_le t i
    simp only [trellisref2_Rows.l0]
    rw [if_pos (by omega), if_pos (by omega), w64 (i := (i : Int) + 1) (by omega) (by omega), show (i : Int) + 1 = ((i + 1 : Nat) : Int) by omega]
    have h := ih k (i + 1) (by omega) (by omega)
    by_cases hn : bt t (i : Int) = 10
    · rw [if_pos hn, w64 (by omega) (by omega)]
      rw [rowN_nl hn] at h
      exact h
    · rw [if_neg hn]
      rw [rowN_no hn] at h
      exact h
theorem ref_rows (t : ByteArray) (hs : t.size ≤ 4294967296) {k : Nat} (hk : t.size < k) : trellisref2_Rows.f k t = some ((rowN t t.size : Int) + 1) := ref_rows_l0 t hs t.size k 0 (by omega) hk

/-- a place of the text -/
def clampN (t : ByteArray) (a : Int) : Nat := if a < 0 then 0 else if a > (t.size : Int) then t.size else a.toNat
theorem clampN_le (t : ByteArray) (a : Int) : clampN t a ≤ t.size := by unfold clampN; (repeat' split) <;> omega
theorem ref_clamp (t : ByteArray) (a : Int) : trellisref2_clamp.f t a = some (clampN t a : Int) := by
  unfold trellisref2_clamp.f clampN
  (repeat' split) <;> simp <;> omega
theorem ref_pos_l0 (t : ByteArray) (hs : t.size ≤ 4294967296) (a : Nat) (ha : a ≤ t.size) (d : Nat) : ∀ (k i : Nat), i + d = a → d < k →
    trellisref2_Pos.l0 k t (a : Int) (i : Int) (rowN t i : Int) ((i : Int) - begN t i) = some ((rowN t a : Int), (a : Int) - begN t a) := by
  induction d with
  | zero =>
    intro k i hi hk
    obtain ⟨k, rfl⟩ : ∃ m, k = m + 1 := ⟨k - 1, by omega⟩
    obtain rfl : i = a := by omega
    simp only [trellisref2_Pos.l0]
    rw [if_neg (by omega)]
  | succ d ih =>
    intro k i hi hk
    obtain ⟨k, rfl⟩ : ∃ m, k = m + 1 := ⟨k - 1, by omega⟩
    have hrow := rowN_le t i
    have hbeg := begN_le t i
    simp only [trellisref2_Pos.l0]
    rw [if_pos (by omega), if_pos (by omega), if_pos (by omega), w64 (i := (i : Int) + 1) (by omega) (by omega), show (i : Int) + 1 = ((i + 1 : Nat) : Int) by omega]
    have h := ih k (i + 1) (by omega) (by omega)
    by_cases hn : bt t (i : Int) = 10
    · rw [if_pos hn, w64 (by omega) (by omega)]
      rw [rowN_nl hn, begN_nl hn] at h
      rw [show ((i + 1 : Nat) : Int) - ((i + 1 : Nat) : Int) = 0 by omega] at h
      exact h
    · rw [if_neg hn, w64 (by omega) (by omega)]
      rw [rowN_no hn, begN_no hn] at h
      rw [show ((i + 1 : Nat) : Int) - (begN t i : Int) = (i : Int) - begN t i + 1 by omega] at h
      exact h
theorem ref_pos (t : ByteArray) (hs : t.size ≤ 4294967296) (a : Int) {k : Nat} (hk : t.size < k) :
    trellisref2_Pos.f k t a = some ((rowN t (clampN t a) : Int), (clampN t a : Int) - begN t (clampN t a)) := by
  unfold trellisref2_Pos.f
  rw [ref_clamp]
  simp only [Option.bind_some]
  have hc := clampN_le t a
  have h := ref_pos_l0 t hs (clampN t a) hc (clampN t a) k 0 (by omega) (by omega)
  simpa [rowN, begN] using h

/-- 2.3 -/
def atP (t : ByteArray) (row col : Int) : Int :=
  if row < 0 then 0 else if row > rowN t t.size then t.size else if col < 0 then fromR t row.toNat else if col > toR t row.toNat - fromR t row.toNat then toR t row.toNat else fromR t row.toNat + col
end Go.Proofs.Ytknagjiipelfnaa.PT
namespace Go.Proofs.Ytknagjiipelfnaa.PT
open Go.RowKit Go.Proofs.YtknagjiipelfnaaW.PrintWords Go.Proofs.YtknagjiipelfnaaW.PrintLast Go.Proofs.YtknagjiipelfnaaW.PrintMore Go.Proofs.Ytknagjiipelfnaa.PAll
attribute [local go_sem] max2_int min2_int max_two min_two

abbrev starts (t : ByteArray) : List Int := stl t t.size
/-- An index of the text t at block g: the text, and where its rows begin. -/
def Ix (w : World) (g : Nat) (t : ByteArray) : Prop :=
  ∃ A c, w.heap[g]? = some (.cells #[.string t, .slice A (starts t).length c] 151 (0, 0)) ∧ Kd.C (Kd.int .i64) w A (starts t).length (starts t)
theorem Ix.below {w w1 : World} {g : Nat} {t : ByteArray} (h : Ix w g t) (hb : Below w.heap.size w w1) : Ix w1 g t := by
  obtain ⟨A, c, hg, hc⟩ := h
  exact ⟨A, c, (hb.block g (blk_lt hg)).trans hg, Kd.C_below hc hb⟩

theorem R_one (w : World) : Kd.R (Kd.int .i64) 3 (w.alloc (.cells #[.int .i64 0] 3)) w.heap.size (fun k => k = w.heap.size) (.slice (some ⟨w.heap.size, 0, none⟩) 1 1) [0] := by
  refine ⟨fun k hk => by simpa [Value.ownBlock] using hk.symm, [.int .i64 0], ?_, ?_⟩
  · have h2 := World.ownsRow_lit (base := w.heap.size) (e := 3) (size := 1) w #[.int .i64 0] 1 (Nat.le_refl _) (by simp [maxLen]) (by simp)
    exact h2
  · refine ⟨rfl, fun j p hj => ?_⟩
    rcases j with _ | j
    · simp at hj
      subst hj
      exact rfl
    · simp at hj

set_option maxHeartbeats 1000000 in
theorem New_calls (t : ByteArray) (w : World) (hs : t.size ≤ 4294967296) :
    Calls Try.prog 50 #[.string t] w fun e w' => ∃ g, e = .returned (.pointer (some ⟨g, 0, none⟩)) ∧ Ix w' g t ∧ Below w.heap.size w w' := by
  have H := Aside0.mk (lines_f t 0 [0] (by omega) (by omega) hs (by simp))
  go_enter Try.func50, Try.ntmps50
  go_wp2_with fail
  have hR := Kd.R_below (R_one w) (below_alloc (Below.refl (w.alloc (.cells #[.int .i64 0] 3)).heap.size _) (.cells #[.string t, .slice (some ⟨w.heap.size, 0, none⟩) 1 1] 151))
  have hB := below_alloc (below_alloc (Below.refl w.heap.size w) (.cells #[.int .i64 0] 3)) (.cells #[.string t, .slice (some ⟨w.heap.size, 0, none⟩) 1 1] 151)
  refine (place_lines.calls (t.size + 1) (fun k => k = w.heap.size) _ [0] t 0 _ w _ hB hR H.out).mono ?_
  clear hR hB
  rintro e w1 ⟨v, rfl, hR, hB, hK⟩
  obtain ⟨A, c, rfl, hcl, hC⟩ := Kd.R_reads hR
  have hb : w1.heap[w.heap.size + 1]? = some (.cells #[.string t, .slice (some ⟨w.heap.size, 0, none⟩) 1 1] 151 (0, 0)) := by
    refine blk_kept (o := _) ?_ hK (by simp)
    have h3 := heap_alloc_new (w.alloc (.cells #[.int .i64 0] 3)) (.cells #[.string t, .slice (some ⟨w.heap.size, 0, none⟩) 1 1] 151)
    simpa using h3
  have hc1 := blk_cell hb 1
  simp at hc1
  have hf1 := blk_frozen hb 1
  have HR := Aside0.mk hR
  have HB := Aside0.mk hB
  have HK := Aside0.mk hK
  have HC := Aside0.mk hC
  have Hb := Aside0.mk hb
  have Hcl := Aside0.mk hcl
  clear hR hB hK hC hb hcl
  go_wp2
  go_ret
  refine ⟨_, rfl, ?_, below_set HB.out (by simp)⟩
  obtain ⟨A', c', he, _, hC'⟩ := Kd.R_reads (Kd.R_set HR.out Hb.out (by decide) 1 (.slice A ([0] ++ lin t 0 t.size).length c))
  injection he with h1 _ h2
  subst h1; subst h2
  exact ⟨_, _, (blk_set Hb.out 1 _).trans rfl, hC'⟩
theorem Ix.open_ {w : World} {g : Nat} {t : ByteArray} (h : Ix w g t) : ∃ ad c, w.cell? ⟨g, 0, none⟩ = some (.string t) ∧ w.cell? ⟨g, 1, none⟩ = some (.slice (some ad) (rowN t t.size + 1) c) ∧
    ∀ i : Int, 0 ≤ i → i ≤ rowN t t.size → w.cell? (ad.add i.toNat) = some (.int .i64 (fromR t i.toNat)) := by
  obtain ⟨A, c, hg, hC⟩ := h
  rw [stl_length] at hg hC
  obtain ⟨ad, rfl, _⟩ := Kd.at_int hC 0 (by omega) (by omega)
  refine ⟨ad, c, (blk_cell hg 0).trans rfl, (blk_cell hg 1).trans rfl, fun i h0 h1 => ?_⟩
  obtain ⟨ad', e, hx⟩ := Kd.at_int hC i h0 (by omega)
  injection e with e
  subst e
  exact hx

theorem far {w : World} {a : Addr} {v : Value} (h : w.cell? a = some v) : ∀ o, (w.alloc o).cell? a = some v := fun o => pw_cell_below (below_alloc (Below.refl _ _) o) h
theorem far_drew {w : World} {a : Addr} {v : Value} (h : w.cell? a = some v) : ∀ o n, ((w.alloc o).drewN n).cell? a = some v := fun o n => pw_cell_below (pw_below_drewN (below_alloc (Below.refl _ _) o) n) h

/-! row: the search -/
set_option maxHeartbeats 1000000 in
theorem row_calls (t : ByteArray) (g a : Nat) (w : World) (hI : Ix w g t) (hs : t.size ≤ 4294967296) (ha : a ≤ t.size) :
    Calls Try.prog 77 #[.pointer (some ⟨g, 0, none⟩), .int .i64 (a : Int)] w fun e w' => e = .returned (.int .i64 (rowN t a : Int)) ∧ Below w.heap.size w w' := by
  obtain ⟨ad, c, hc0, hc1, hx⟩ := hI.open_
  have hN := rowN_le t t.size
  obtain ⟨N, HN⟩ : ∃ N, rowN t t.size = N := ⟨_, rfl⟩
  rw [HN] at hc1 hN hx
  have hx0 := Aside0.mk hx
  have HN' := Aside0.mk HN
  clear hx HN hc0 hI
  go_enter Try.func77, Try.ntmps77
  go_wp2
  go_quiet (fail)
  go_wp2
  go_loop [5, 6] (fun v5 v6 => ∃ lo hi : Int, v5 = .int .i64 lo ∧ v6 = .int .i64 hi ∧ 0 ≤ lo ∧ lo < hi ∧ hi ≤ (N : Int) + 1 ∧ Aside0 (lo = 0 ∨ fromR t lo.toNat ≤ a) ∧ Aside0 (hi = (N : Int) + 1 ∨ (a : Int) < fromR t hi.toNat)) (fun v5 v6 => (intOf v6 - intOf v5).toNat)
  case atStart => exact ⟨0, (N : Int) + 1, rfl, rfl, by omega, by omega, by omega, ⟨.inl rfl⟩, ⟨.inl rfl⟩⟩
  case round =>
    obtain ⟨lo, hi, rfl, rfl, l0, l1, l2, HL, HH⟩ := hrel
    by_cases hgt : 1 < hi - lo
    · have hm0 : 0 ≤ (lo + hi) / 2 := by omega
      have hm1 : (lo + hi) / 2 < (N : Int) + 1 := by omega
      have hc := hx0.out ((lo + hi) / 2) hm0 (by omega)
      obtain ⟨f, Hf⟩ : ∃ f, fromR t ((lo + hi) / 2).toNat = f := ⟨_, rfl⟩
      rw [Hf] at hc
      have HF := Aside0.mk Hf
      clear Hf
      by_cases hle : f ≤ (a : Int)
      · go_wp2
        go_round
        case rel => exact ⟨(lo + hi) / 2, hi, rfl, rfl, by omega, by omega, by omega, ⟨.inr (by rw [HF.out]; exact hle)⟩, HH⟩
        case measure => simp [intOf]; omega
      · go_wp2
        go_round
        case rel => exact ⟨lo, (lo + hi) / 2, rfl, rfl, by omega, by omega, by omega, HL, ⟨.inr (by rw [HF.out]; omega)⟩⟩
        case measure => simp [intOf]; omega
    · have hd : decide (1 < hi - lo) = false := decide_eq_false hgt
      go_wp2
      go_ret
      refine ⟨?_, pw_below_drewN (Below.refl _ _) _⟩
      have e1 : hi = lo + 1 := by omega
      have hr := row_unique t (a := a) (r := lo.toNat) ha (by rw [HN'.out]; omega) (HL.out.imp (fun h => by omega) (fun h => h))
        (HH.out.imp (fun h => by rw [HN'.out]; omega) (fun h => by rw [e1, show (lo + 1).toNat = lo.toNat + 1 by omega] at h; exact h))
      rw [← hr, Int.toNat_of_nonneg l0]; rfl
set_option maxHeartbeats 1000000 in
theorem Pos_calls (t : ByteArray) (g : Nat) (a : Int) (w : World) (hI : Ix w g t) (hs : t.size ≤ 4294967296) :
    Calls Try.prog 52 #[.pointer (some ⟨g, 0, none⟩), .int .i64 a] w fun e w' => e = .returned (.agg #[.int .i64 (rowN t (clampN t a)), .int .i64 ((clampN t a : Int) - begN t (clampN t a))]) ∧ Below w.heap.size w w' := by
  have HI := Aside0.mk hI
  obtain ⟨m1, hm1⟩ : ∃ m : Int, (if a < 0 then 0 else a) = m := ⟨_, rfl⟩
  have hm2 : (if (t.size : Int) < m1 then (t.size : Int) else m1) = (clampN t a : Int) := by
    rw [← hm1]; unfold clampN; (repeat' split) <;> omega
  have hcl := clampN_le t a
  obtain ⟨c, Hc⟩ : ∃ c, clampN t a = c := ⟨_, rfl⟩
  rw [Hc] at hm2 hcl ⊢
  clear Hc
  obtain ⟨ad, cp, hc0, hc1, hx⟩ := hI.open_
  replace hc0 := far hc0
  have hN := rowN_le t t.size
  have hrm := rowN_mono t hcl
  have hbeg := begN_le t c
  have hx1 := hx (rowN t c : Int) (by omega) (by omega)
  rw [show (rowN t c : Int).toNat = rowN t c from Int.toNat_natCast _, from_at t hcl] at hx1
  have HX := Aside0.mk hx1
  have HC1 := Aside0.mk hc1
  have hlg := blk_lt (show w.heap[g]? = some _ from HI.out.choose_spec.choose_spec.1)
  clear hx hx1 hc1 hI
  go_enter Try.func52, Try.ntmps52
  go_wp2_with fail
  refine (row_calls t g c _ (HI.out.below (below_alloc (Below.refl _ _) _)) hs hcl).mono ?_
  rintro e w1 ⟨rfl, hB⟩
  have hc1 : w1.cell? ⟨g, 1, none⟩ = some (.slice (some ad) (rowN t t.size + 1) cp) := pw_cell_below hB (far HC1.out _)
  have hx1 : w1.cell? (ad.add (rowN t c)) = some (.int .i64 (begN t c)) := pw_cell_below hB (far HX.out _)
  have hg : w1.heap[w.heap.size]? = some (.cells #[.int .i64 0, .int .i64 0] 120 (0, 0)) := (hB.block _ (by simp)).trans (heap_alloc_new w _)
  have q0 := (blk_cell hg 0).trans rfl
  have q1 := (blk_cell hg 1).trans rfl
  have f0 := blk_frozen hg 0
  have f1 := blk_frozen hg 1
  have HB := Aside0.mk hB
  have Hg := Aside0.mk hg
  obtain ⟨r, Hr⟩ : ∃ r, rowN t c = r := ⟨_, rfl⟩
  obtain ⟨b, Hb⟩ : ∃ b, begN t c = b := ⟨_, rfl⟩
  rw [Hr] at hx1 hrm ⊢
  rw [Hb] at hx1 hbeg
  have HR := Aside0.mk Hr
  have HBg := Aside0.mk Hb
  clear hB hg Hr Hb hc0 hm1 hm2
  go_wp2
  refine bodyPost_ret (results_cell_row rfl _ _ w.heap.size 120 #[.int .i64 r, .int .i64 ((c : Int) - b)] (0, 0) _ rfl ((blk_set (blk_set Hg.out 0 _) 1 _).trans rfl) Try.underlying120 rfl (by kernel_rfl)) rfl ⟨by rw [HR.out, HBg.out], ?_⟩
  exact below_set (below_set (below_then (below_alloc (Below.refl _ _) _) (by simp) HB.out) (Nat.le_refl _)) (Nat.le_refl _)

end Go.Proofs.Ytknagjiipelfnaa.PT
