/- The text behind an edit, and where its rows begin: what Edit gathers is what New would find. -/
import Derived.Test.YtgefbbdahhoglaaOrderLaw
namespace Go.Proofs.Ytgefbbdahhoglaa.PT
open Go.RowKit Go.Proofs.YtgefbbdahhoglaaW.PrintWords Go.Proofs.YtgefbbdahhoglaaW.PrintLast Go.Proofs.YtgefbbdahhoglaaW.PrintMore Go.Proofs.Ytgefbbdahhoglaa.PAll
set_option linter.unusedVariables false

def keepLe (m : Int) (l : List Int) : List Int := l.filter (fun s => decide (s ≤ m))
def moveGt (m d : Int) (l : List Int) : List Int := (l.filter (fun s => decide (m < s))).map (fun s => s + d)

theorem keep_low (t : ByteArray) (m k : Nat) (h : k ≤ m) : keepLe m (lin t 0 k) = lin t 0 k := by
  induction k with
  | zero => rfl
  | succ k ih =>
    unfold lin
    split
    · unfold keepLe at ih ⊢
      rw [List.filter_append, ih (by omega)]
      simp
      omega
    · exact ih (by omega)
theorem keep_high (t : ByteArray) (m d : Nat) : keepLe m (lin t 0 (m + d)) = lin t 0 m := by
  induction d with
  | zero => exact keep_low t m m (Nat.le_refl _)
  | succ d ih =>
    have e1 : lin t 0 ((m + d) + 1) = if bt t ((m + d : Nat) : Int) = 10 then lin t 0 (m + d) ++ [0 + ((m + d : Nat) : Int) + 1] else lin t 0 (m + d) := rfl
    rw [show m + (d + 1) = (m + d) + 1 by omega, e1]
    split
    · unfold keepLe at ih ⊢
      rw [List.filter_append, ih, List.filter_cons_of_neg (by simp; omega)]
      simp
    · exact ih
theorem move_low (t : ByteArray) (m k : Nat) (d : Int) (h : k ≤ m) : moveGt m d (lin t 0 k) = [] := by
  induction k with
  | zero => rfl
  | succ k ih =>
    unfold lin
    split
    · unfold moveGt at ih ⊢
      rw [List.filter_append, List.map_append, ih (by omega)]
      simp
      omega
    · exact ih (by omega)

/-- lines found further on, in a text that goes on alike -/
theorem lin_on (T t : ByteArray) (p q : Nat) (d : Int) (h : ∀ j, q ≤ j → j < t.size → bt T ((j - q + p : Nat) : Int) = bt t (j : Int)) (hd : d = (p : Int) - q) (k : Nat) :
    q + k ≤ t.size → lin T 0 (p + k) = lin T 0 p ++ moveGt q d (lin t 0 (q + k)) := by
  induction k with
  | zero => intro _; rw [show q + 0 = q by omega, move_low t q q d (Nat.le_refl _)]; simp
  | succ k ih =>
    intro hk
    have hb := h (q + k) (by omega) (by omega)
    rw [show q + k - q + p = p + k by omega] at hb
    rw [show p + (k + 1) = (p + k) + 1 by omega, show q + (k + 1) = (q + k) + 1 by omega]
    have ih' := ih (by omega)
    have e1 : lin T 0 ((p + k) + 1) = if bt T ((p + k : Nat) : Int) = 10 then lin T 0 (p + k) ++ [0 + ((p + k : Nat) : Int) + 1] else lin T 0 (p + k) := rfl
    have e2 : lin t 0 ((q + k) + 1) = if bt t ((q + k : Nat) : Int) = 10 then lin t 0 (q + k) ++ [0 + ((q + k : Nat) : Int) + 1] else lin t 0 (q + k) := rfl
    rw [e1, e2, hb]
    split
    · rw [ih']
      unfold moveGt
      rw [List.filter_append, List.map_append, List.append_assoc]
      congr 2
      have : decide ((q : Int) < 0 + ((q + k : Nat) : Int) + 1) = true := decide_eq_true (by omega)
      simp only [List.filter_cons, this, if_true, List.filter_nil, List.map_cons, List.map_nil]
      congr 1
      omega
    · exact ih'
/-- a text laid behind another's beginning -/
theorem lin_in (T s : ByteArray) (p : Nat) (h : ∀ j, j < s.size → bt T ((p + j : Nat) : Int) = bt s (j : Int)) (k : Nat) : k ≤ s.size → lin T 0 (p + k) = lin T 0 p ++ lin s p k := by
  induction k with
  | zero => intro _; simp [lin]
  | succ k ih =>
    intro hk
    have hb := h k (by omega)
    have e1 : lin T 0 ((p + k) + 1) = if bt T ((p + k : Nat) : Int) = 10 then lin T 0 (p + k) ++ [0 + ((p + k : Nat) : Int) + 1] else lin T 0 (p + k) := rfl
    have e2 : lin s p (k + 1) = if bt s (k : Int) = 10 then lin s p k ++ [(p : Int) + k + 1] else lin s p k := rfl
    rw [show p + (k + 1) = (p + k) + 1 by omega, e1, e2, hb, ih (by omega)]
    split
    · rw [List.append_assoc]
      congr 3
      omega
    · rfl
theorem lin_same (T t : ByteArray) (n : Nat) (h : ∀ j, j < n → bt T (j : Int) = bt t (j : Int)) (k : Nat) : k ≤ n → lin T 0 k = lin t 0 k := by
  induction k with
  | zero => intro _; rfl
  | succ k ih =>
    intro hk
    have e1 : lin T 0 (k + 1) = if bt T (k : Int) = 10 then lin T 0 k ++ [0 + (k : Int) + 1] else lin T 0 k := rfl
    have e2 : lin t 0 (k + 1) = if bt t (k : Int) = 10 then lin t 0 k ++ [0 + (k : Int) + 1] else lin t 0 k := rfl
    rw [e1, e2, h k (by omega), ih (by omega)]

theorem bt_eq (T t : ByteArray) (i j : Nat) (h : T.data[i]? = t.data[j]?) : bt T (i : Int) = bt t (j : Int) := by
  unfold bt
  have hT : ∀ (s : ByteArray) (k : Nat), s.data[k]? = if h : k < s.size then some (s[k]'h) else none := by
    intro s k
    split
    · rename_i h; exact Array.getElem?_eq_getElem h
    · rename_i h; exact Array.getElem?_eq_none (Nat.le_of_not_lt h)
  simp only [Int.toNat_natCast]
  rw [hT, hT] at h
  by_cases h1 : i < T.size
  · by_cases h2 : j < t.size
    · rw [dif_pos h1, dif_pos h2] at h ⊢
      injection h with h
      rw [h]
    · rw [dif_pos h1, dif_neg h2] at h; cases h
  · by_cases h2 : j < t.size
    · rw [dif_neg h1, dif_pos h2] at h; cases h
    · rw [dif_neg h1, dif_neg h2]

/-- the text behind an edit: 'at' and 'del' clamped -/
def cutAt (t : ByteArray) (a : Int) : Nat := clampN t a
def cutDel (t : ByteArray) (a d : Int) : Nat := if d < 0 then 0 else if d > t.size - cutAt t a then t.size - cutAt t a else d.toNat
def behind (t : ByteArray) (a d : Int) (s : ByteArray) : ByteArray := t.extract 0 (cutAt t a) ++ s ++ t.extract (cutAt t a + cutDel t a d) t.size
theorem cut_le (t : ByteArray) (a d : Int) : cutAt t a + cutDel t a d ≤ t.size := by
  have := clampN_le t a
  unfold cutDel cutAt
  (repeat' split) <;> omega
theorem behind_size (t : ByteArray) (a d : Int) (s : ByteArray) : (behind t a d s).size = t.size - cutDel t a d + s.size := by
  have := cut_le t a d
  unfold behind
  rw [ByteArray.size_append, ByteArray.size_append, ByteArray.size_extract, ByteArray.size_extract]
  omega
theorem behind_starts (t : ByteArray) (a d : Int) (s : ByteArray) :
    keepLe (cutAt t a) (stl t t.size) ++ lin s (cutAt t a) s.size ++ moveGt ((cutAt t a + cutDel t a d : Nat) : Int) ((s.size : Int) - cutDel t a d) (stl t t.size) = stl (behind t a d s) (behind t a d s).size := by
  have hc := cut_le t a d
  have hz := behind_size t a d s
  obtain ⟨m, hm⟩ : ∃ m, cutAt t a = m := ⟨_, rfl⟩
  obtain ⟨n, hn⟩ : ∃ n, cutDel t a d = n := ⟨_, rfl⟩
  obtain ⟨T, hT⟩ : ∃ T, behind t a d s = T := ⟨_, rfl⟩
  have hT' : T = t.extract 0 m ++ s ++ t.extract (m + n) t.size := by rw [← hT, ← hm, ← hn]; rfl
  rw [hm, hn] at hc
  rw [hT, hn] at hz
  rw [hm, hn, hT, hz]
  have hdat : T.data = t.data.extract 0 m ++ s.data ++ t.data.extract (m + n) t.size := by rw [hT', ByteArray.data_append, ByteArray.data_append, ByteArray.data_extract, ByteArray.data_extract]
  have hts : t.data.size = t.size := rfl
  have hss : s.data.size = s.size := rfl
  have s1 : ∀ j, j < m → bt T (j : Int) = bt t (j : Int) := fun j hj => bt_eq T t j j (by
    rw [hdat, Array.append_assoc, Array.getElem?_append_left (by rw [Array.size_extract]; omega), Array.getElem?_extract, if_pos (by omega)]
    congr 1; omega)
  have s2 : ∀ j, j < s.size → bt T ((m + j : Nat) : Int) = bt s (j : Int) := fun j hj => bt_eq T s (m + j) j (by
    rw [hdat, Array.append_assoc, Array.getElem?_append_right (by rw [Array.size_extract]; omega), Array.getElem?_append_left (by rw [Array.size_extract]; omega)]
    congr 1
    rw [Array.size_extract]; omega)
  have s3 : ∀ j, m + n ≤ j → j < t.size → bt T ((j - (m + n) + (m + s.size) : Nat) : Int) = bt t (j : Int) := fun j h1 h2 => bt_eq T t _ j (by
    rw [hdat, Array.append_assoc, Array.getElem?_append_right (by rw [Array.size_extract]; omega), Array.getElem?_append_right (by rw [Array.size_extract]; omega), Array.getElem?_extract, if_pos (by simp only [Array.size_extract]; omega)]
    congr 1
    simp only [Array.size_extract]
    omega)
  have l1 := lin_same T t m s1 m (Nat.le_refl _)
  have l2 := lin_in T s m s2 s.size (Nat.le_refl _)
  have l3 := lin_on T t (m + s.size) (m + n) ((s.size : Int) - n) s3 (by omega) (t.size - (m + n)) (by omega)
  rw [show m + n + (t.size - (m + n)) = t.size by omega, show m + s.size + (t.size - (m + n)) = t.size - n + s.size by omega] at l3
  have k1 := keep_high t m (t.size - m)
  rw [show m + (t.size - m) = t.size by omega] at k1
  unfold stl
  rw [l3, l2, l1]
  have a1 : keepLe (m : Int) (0 :: lin t 0 t.size) = 0 :: lin t 0 m := by
    rw [← k1]; unfold keepLe; rw [List.filter_cons_of_pos (by simp)]
  have a2 : moveGt ((m + n : Nat) : Int) ((s.size : Int) - n) (0 :: lin t 0 t.size) = moveGt ((m + n : Nat) : Int) ((s.size : Int) - n) (lin t 0 t.size) := by
    unfold moveGt; rw [List.filter_cons_of_neg (by simp; omega)]
  rw [a1, a2]
  simp
end Go.Proofs.Ytgefbbdahhoglaa.PT
