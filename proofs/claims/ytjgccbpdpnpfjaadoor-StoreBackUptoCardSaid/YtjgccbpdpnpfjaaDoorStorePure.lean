/- The bytes of a kept result, in plain lists; and what the printed functions Sum, word, count, num, text and kept answer. -/
import Derived.Test.YtjgccbpdpnpfjaaDoorPAllx4
import Derived.Test.YtjgccbpdpnpfjaaDoorPAllx4
import Derived.Test.YtjgccbpdpnpfjaaDoorPAllx5
import Derived.Test.YtjgccbpdpnpfjaaDoorPAllx5
namespace Go.Proofs.YtjgccbpdpnpfjaaDoor.ST
open Go.RowKit Go.Proofs.YtjgccbpdpnpfjaaDoorW.PrintWords Go.Proofs.YtjgccbpdpnpfjaaDoorW.PrintLast Go.Proofs.YtjgccbpdpnpfjaaDoorW.PrintMore Go.Proofs.YtjgccbpdpnpfjaaDoor.PAll

/-! ### strings of lists -/
theorem str_append (a b : List Int) : strOfNums (a ++ b) = strOfNums a ++ strOfNums b := by
  apply ByteArray.ext
  simp [strOfNums]
theorem str_bytes (s : ByteArray) : strOfNums (bytesOf s) = s := by
  apply ByteArray.ext
  apply Array.ext'
  simp only [strOfNums, bytesOf, List.map_map]
  conv => rhs; rw [← List.map_id s.data.toList]
  apply List.map_congr_left
  intro x _
  simp
theorem str_nil : strOfNums [] = ByteArray.empty := rfl
theorem byte_str (xs : List Int) (h : ∀ x ∈ xs, 0 ≤ x ∧ x < 256) : bytesOf (strOfNums xs) = xs := by
  unfold bytesOf strOfNums
  simp only [List.map_map]
  conv => rhs; rw [← List.map_id xs]
  apply List.map_congr_left
  intro x hx
  have := h x hx
  simp only [Function.comp, id, UInt8.toNat_ofNat']
  omega
theorem bytes_ok (s : ByteArray) : ∀ x ∈ bytesOf s, 0 ≤ x ∧ x < 256 := by
  intro x hx
  unfold bytesOf at hx
  rw [List.mem_map] at hx
  obtain ⟨b, _, rfl⟩ := hx
  have := b.toNat_lt
  omega

/-! ### a count's bytes -/
def cnt : Nat → Nat → List Int
  | 0, n => [(n : Int)]
  | k + 1, n => if n < 128 then [(n : Int)] else ((n % 128 + 128 : Nat) : Int) :: cnt k (n / 128)
def cntL (n : Nat) : List Int := cnt 10 n
theorem cnt_more : ∀ k n, n < 128 ^ (k + 1) → cnt k n = cnt (k + 1) n := by
  intro k
  induction k with
  | zero => intro n h; simp [cnt]; omega
  | succ k ih =>
    intro n h
    have e : cnt (k + 1) n = if n < 128 then [(n : Int)] else ((n % 128 + 128 : Nat) : Int) :: cnt k (n / 128) := rfl
    rw [e]
    conv => rhs; rw [cnt]
    by_cases h1 : n < 128
    · rw [if_pos h1, if_pos h1]
    · rw [if_neg h1, if_neg h1, ih (n / 128) (by rw [Nat.pow_succ] at h; omega)]
theorem cntL_lt {n : Nat} (h : n < 128) : cntL n = [(n : Int)] := by unfold cntL; rw [cnt, if_pos h]
theorem cntL_ge {n : Nat} (h : 128 ≤ n) (hn : n < 18446744073709551616) : cntL n = ((n % 128 + 128 : Nat) : Int) :: cntL (n / 128) := by
  unfold cntL
  rw [cnt, if_neg (by omega), cnt_more 9 (n / 128) (by have : 128 ^ (9 + 1) = 1180591620717411303424 := rfl; omega)]
theorem cnt_len : ∀ k n, (cnt k n).length ≤ k + 1 := by
  intro k
  induction k with
  | zero => intro n; simp [cnt]
  | succ k ih =>
    intro n
    rw [cnt]
    split
    · simp
    · have := ih (n / 128); simp; omega
theorem cntL_len (n : Nat) : (cntL n).length ≤ 11 := cnt_len 10 n
theorem cnt_ok : ∀ k n, n < 128 ^ (k + 1) → ∀ x ∈ cnt k n, 0 ≤ x ∧ x < 256 := by
  intro k
  induction k with
  | zero => intro n h x hx; simp [cnt] at hx; subst hx; omega
  | succ k ih =>
    intro n h x hx
    rw [cnt] at hx
    split at hx
    · simp at hx; subst hx; omega
    · rw [List.mem_cons] at hx
      rcases hx with rfl | hx
      · omega
      · exact ih (n / 128) (by rw [Nat.pow_succ] at h; omega) x hx
theorem cntL_ok {n : Nat} (hn : n < 18446744073709551616) : ∀ x ∈ cntL n, 0 ≤ x ∧ x < 256 :=
  cnt_ok 10 n (by have : 128 ^ (10 + 1) = 151115727451828646838272 := rfl; omega)

/-! ### eight bytes -/
def wrd : Nat → Nat → List Int
  | 0, _ => []
  | k + 1, n => ((n % 256 : Nat) : Int) :: wrd k (n / 256)
def wordL (n : Nat) : List Int := wrd 8 n
theorem wrd_len : ∀ k n, (wrd k n).length = k := by
  intro k
  induction k with
  | zero => intro n; rfl
  | succ k ih => intro n; simp [wrd, ih]
theorem wrd_ok : ∀ k n, ∀ x ∈ wrd k n, 0 ≤ x ∧ x < 256 := by
  intro k
  induction k with
  | zero => intro n x hx; simp [wrd] at hx
  | succ k ih =>
    intro n x hx
    rw [wrd, List.mem_cons] at hx
    rcases hx with rfl | hx
    · omega
    · exact ih _ x hx
def numL (z : Int) : List Int := cntL z.toNat
def textL (s : ByteArray) : List Int := cntL s.size ++ bytesOf s

/-! ### a sum -/
def mixI (h c : Int) : Int := IntKind.u64.wrap ((Go.bits .xor .u64 h (IntKind.u64.wrap c)) * 1099511628211)
def sumL (l : List Int) : Int := l.foldl mixI 14695981039346656037
def sumS (s : ByteArray) : Nat := (sumL (bytesOf s)).toNat
theorem wrap_u64 (n : Int) : IntKind.u64.wrap n = n % 18446744073709551616 := by simp [IntKind.wrap, IntKind.bits, IntKind.signed]
theorem mixI_range (h c : Int) : 0 ≤ mixI h c ∧ mixI h c < 18446744073709551616 := by
  unfold mixI
  rw [wrap_u64]
  omega
theorem fold_range (l : List Int) : ∀ h, 0 ≤ h ∧ h < 18446744073709551616 → 0 ≤ l.foldl mixI h ∧ l.foldl mixI h < 18446744073709551616 := by
  induction l with
  | nil => intro h hh; exact hh
  | cons x r ih => intro h hh; exact ih _ (mixI_range h x)
theorem sumL_range (l : List Int) : 0 ≤ sumL l ∧ sumL l < 18446744073709551616 := fold_range l _ (by omega)
theorem sumS_int (s : ByteArray) : ((sumS s : Nat) : Int) = sumL (bytesOf s) := by
  have := sumL_range (bytesOf s)
  unfold sumS
  omega
theorem sumS_lt (s : ByteArray) : sumS s < 18446744073709551616 := by
  have := sumL_range (bytesOf s)
  unfold sumS
  omega
theorem bytes_take (s : ByteArray) (i : Nat) (h : i < s.size) : (bytesOf s).take (i + 1) = (bytesOf s).take i ++ [bt s (i : Int)] := by
  rw [List.take_succ_eq_append_getElem (by rw [bytesOf_length]; exact h)]
  congr 2
  have h1 := rd_bytesOf s (i : Int)
  unfold rd at h1
  rw [Int.toNat_natCast, List.getD_eq_getElem?_getD, List.getElem?_eq_getElem (by rw [bytesOf_length]; exact h)] at h1
  exact h1
theorem w64 {a : Int} (h0 : -9223372036854775808 ≤ a) (h1 : a ≤ 9223372036854775807) : wrap64 a = a := by unfold wrap64; omega
theorem Sum_l0 (s : ByteArray) (hs : s.size ≤ 140737488351232) : ∀ d i k, i + d = s.size → d < k → store_Sum.l0 k s (((bytesOf s).take i).foldl mixI 14695981039346656037) (i : Int) = some (sumL (bytesOf s)) := by
  intro d
  induction d with
  | zero =>
    intro i k hi hk
    obtain ⟨k, rfl⟩ : ∃ m, k = m + 1 := ⟨k - 1, by omega⟩
    simp only [store_Sum.l0]
    rw [if_neg (by omega)]
    obtain rfl : i = s.size := by omega
    rw [← bytesOf_length s, List.take_length]
    rfl
  | succ d ih =>
    intro i k hi hk
    obtain ⟨k, rfl⟩ : ∃ m, k = m + 1 := ⟨k - 1, by omega⟩
    simp only [store_Sum.l0]
    rw [if_pos (by omega), if_pos (by omega), w64 (by omega) (by omega)]
    have h := ih (i + 1) k (by omega) (by omega)
    rw [bytes_take s i (by omega), List.foldl_append] at h
    exact h
theorem Sum_f (s : ByteArray) (hs : s.size ≤ 140737488351232) : store_Sum.f (s.size + 1) s = some ((sumS s : Nat) : Int) := by
  rw [sumS_int]
  exact Sum_l0 s hs s.size 0 (s.size + 1) (by omega) (by omega)
theorem rSum_l0 (s : ByteArray) (hs : s.size ≤ 140737488351232) : ∀ d i k, i + d = s.size → d < k → trellisref33_Sum.l0 k s (((bytesOf s).take i).foldl mixI 14695981039346656037) (i : Int) = some (sumL (bytesOf s)) := by
  intro d
  induction d with
  | zero =>
    intro i k hi hk
    obtain ⟨k, rfl⟩ : ∃ m, k = m + 1 := ⟨k - 1, by omega⟩
    simp only [trellisref33_Sum.l0]
    rw [if_neg (by omega)]
    obtain rfl : i = s.size := by omega
    rw [← bytesOf_length s, List.take_length]
    rfl
  | succ d ih =>
    intro i k hi hk
    obtain ⟨k, rfl⟩ : ∃ m, k = m + 1 := ⟨k - 1, by omega⟩
    simp only [trellisref33_Sum.l0]
    rw [if_pos (by omega), if_pos (by omega), w64 (by omega) (by omega)]
    have h := ih (i + 1) k (by omega) (by omega)
    rw [bytes_take s i (by omega), List.foldl_append] at h
    exact h
theorem rSum_f (s : ByteArray) (hs : s.size ≤ 140737488351232) : trellisref33_Sum.f (s.size + 1) s = some ((sumS s : Nat) : Int) := by
  rw [sumS_int]
  exact rSum_l0 s hs s.size 0 (s.size + 1) (by omega) (by omega)
end Go.Proofs.YtjgccbpdpnpfjaaDoor.ST
