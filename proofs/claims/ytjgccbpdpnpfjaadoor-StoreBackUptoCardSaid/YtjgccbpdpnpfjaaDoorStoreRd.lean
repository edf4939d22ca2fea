/- store: what the readers answer, in plain Lean; the reference's reader. store: what the readers answer: words, flags, the store's own reader. store: what the store's own reader answers: counts, words, texts, leaves, nodes. store: leaves, nodes, lists and whole results, as the readers answer them. store: lists and whole results; the reference's result. store: the verdict on bytes, as the reference comes to it. -/
import Derived.Test.YtjgccbpdpnpfjaaDoorStoreEncPure
import Derived.Test.YtjgccbpdpnpfjaaDoorPAllx8
namespace Go.Proofs.YtjgccbpdpnpfjaaDoor.ST
open Go.RowKit Go.Proofs.YtjgccbpdpnpfjaaDoorW.PrintWords Go.Proofs.YtjgccbpdpnpfjaaDoorW.PrintLast Go.Proofs.YtjgccbpdpnpfjaaDoorW.PrintMore Go.Proofs.YtjgccbpdpnpfjaaDoor.PAll
set_option linter.unusedVariables false
set_option linter.unusedSimpArgs false

def nb (b : ByteArray) (i : Nat) : Nat := (bt b (i : Int)).toNat
theorem bt_nb (b : ByteArray) (i : Nat) : bt b (i : Int) = (nb b i : Int) := by
  unfold nb bt
  split <;> simp
theorem nb_lt (b : ByteArray) (i : Nat) : nb b i < 256 := by
  unfold nb bt
  split
  · simp only [Int.toNat_natCast]
    exact UInt8.toNat_lt _
  · simp
theorem w64' {a : Int} (h0 : -9223372036854775808 ≤ a) (h1 : a ≤ 9223372036854775807) : wrap64 a = a := by unfold wrap64; omega
theorem wu {a : Int} (h0 : 0 ≤ a) (h1 : a < 18446744073709551616) : IntKind.u64.wrap a = a := by rw [wrap_u64]; omega
/-- a count: how many bytes may yet come, the byte's number, what was gathered -/
def dcl (b : ByteArray) (at_ : Nat) : Nat → Nat → Nat → Option (Nat × Nat)
  | 0, _, _ => none
  | d + 1, i, n => if at_ + i < b.size then (if nb b (at_ + i) < 128 then (if nb b (at_ + i) = 0 ∧ 0 < i then none else some (n + 128 ^ i * nb b (at_ + i), at_ + i + 1)) else dcl b at_ d (i + 1) (n + 128 ^ i * (nb b (at_ + i) % 128))) else none
def dcnt (b : ByteArray) (at_ : Nat) : Option (Nat × Nat) := dcl b at_ 9 0 0
abbrev Sv (α : Type) := α × Nat × Bool
def rdC (b : ByteArray) (at_ : Nat) (ok : Bool) : Sv Nat :=
  if ok then (match dcnt b at_ with | some (n, a) => (n, a, true) | none => (0, at_, false)) else (0, at_, false)
def rdK (b : ByteArray) (at_ : Nat) (ok : Bool) (n : Nat) : Sv ByteArray :=
  if ok = true ∧ n + at_ ≤ b.size then (b.extract at_ (at_ + n), at_ + n, true) else (ByteArray.empty, at_, false)
def w8 (b : ByteArray) (at_ : Nat) : Nat → Nat
  | 0 => 0
  | d + 1 => w8 b at_ d + 256 ^ d * nb b (at_ + d)
def rdW (b : ByteArray) (at_ : Nat) (ok : Bool) : Sv Nat :=
  if ok = true ∧ 8 + at_ ≤ b.size then (w8 b at_ 8, at_ + 8, true) else (0, at_, false)
def rdT (b : ByteArray) (at_ : Nat) (ok : Bool) : Sv ByteArray := rdK b (rdC b at_ ok).2.1 (rdC b at_ ok).2.2 (rdC b at_ ok).1
def rdB (least most : Nat) (b : ByteArray) (at_ : Nat) (ok : Bool) : Sv Nat :=
  if ok = true ∧ at_ + 1 ≤ b.size then (if least ≤ nb b at_ ∧ nb b at_ ≤ most then (nb b at_, at_ + 1, true) else (0, at_, false)) else (0, at_, false)
theorem dcl_lt (b : ByteArray) (at_ : Nat) : ∀ d i n x, n < 128 ^ i → dcl b at_ d i n = some x → x.1 < 128 ^ (i + d) ∧ at_ + i < x.2 ∧ x.2 ≤ b.size := by
  intro d
  induction d with
  | zero => intro i n x _ h; simp [dcl] at h
  | succ d ih =>
    intro i n x hn h
    rw [dcl] at h
    by_cases h1 : at_ + i < b.size
    · rw [if_pos h1] at h
      have hp : 128 ^ (i + 1) = 128 ^ i * 128 := Nat.pow_succ ..
      have hle : ∀ y, y < 128 → n + 128 ^ i * y < 128 ^ (i + 1) := by
        intro y hy
        have : 128 ^ i * y ≤ 128 ^ i * 127 := Nat.mul_le_mul_left _ (by omega)
        omega
      by_cases h2 : nb b (at_ + i) < 128
      · rw [if_pos h2] at h
        split at h
        · cases h
        · injection h with h
          subst h
          refine ⟨Nat.lt_of_lt_of_le (hle _ h2) (Nat.pow_le_pow_right (by omega) (by omega)), by show at_ + i < at_ + i + 1; omega, by show at_ + i + 1 ≤ b.size; omega⟩
      · rw [if_neg h2] at h
        have := ih (i + 1) _ x (hle _ (Nat.mod_lt _ (by omega))) h
        rw [show i + 1 + d = i + (d + 1) by omega] at this
        exact ⟨this.1, by omega, this.2.2⟩
    · rw [if_neg h1] at h
      cases h
theorem dcnt_lt {b : ByteArray} {at_ n a : Nat} (h : dcnt b at_ = some (n, a)) : n < 9223372036854775808 ∧ at_ < a ∧ a ≤ b.size := by
  have := dcl_lt b at_ 9 0 0 (n, a) (by decide) h
  exact ⟨this.1, by have := this.2.1; simpa using this, this.2.2⟩
theorem rdC_ok {b : ByteArray} {at_ : Nat} {ok : Bool} (h : at_ ≤ b.size) : (rdC b at_ ok).1 < 9223372036854775808 ∧ at_ ≤ (rdC b at_ ok).2.1 ∧ (rdC b at_ ok).2.1 ≤ b.size := by
  unfold rdC
  split
  · split
    · rename_i n a he
      have := dcnt_lt he
      exact ⟨this.1, by show at_ ≤ a; omega, this.2.2⟩
    · exact ⟨by show 0 < 9223372036854775808; decide, Nat.le_refl _, h⟩
  · exact ⟨by show 0 < 9223372036854775808; decide, Nat.le_refl _, h⟩
theorem rdK_ok {b : ByteArray} {at_ n : Nat} {ok : Bool} (h : at_ ≤ b.size) : at_ ≤ (rdK b at_ ok n).2.1 ∧ (rdK b at_ ok n).2.1 ≤ b.size := by
  unfold rdK
  split
  · rename_i hh
    exact ⟨by show at_ ≤ at_ + n; omega, by show at_ + n ≤ b.size; omega⟩
  · exact ⟨Nat.le_refl _, h⟩
theorem rdW_ok {b : ByteArray} {at_ : Nat} {ok : Bool} (h : at_ ≤ b.size) : at_ ≤ (rdW b at_ ok).2.1 ∧ (rdW b at_ ok).2.1 ≤ b.size ∧ ((rdW b at_ ok).2.2 = true → at_ + 8 ≤ (rdW b at_ ok).2.1) := by
  unfold rdW
  split
  · rename_i hh
    exact ⟨by show at_ ≤ at_ + 8; omega, by show at_ + 8 ≤ b.size; omega, fun _ => Nat.le_refl _⟩
  · exact ⟨Nat.le_refl _, h, fun he => by cases he⟩
theorem rdT_ok {b : ByteArray} {at_ : Nat} {ok : Bool} (h : at_ ≤ b.size) : at_ ≤ (rdT b at_ ok).2.1 ∧ (rdT b at_ ok).2.1 ≤ b.size := by
  have h1 := rdC_ok (ok := ok) h
  have h2 := rdK_ok (n := (rdC b at_ ok).1) (ok := (rdC b at_ ok).2.2) h1.2.2
  exact ⟨Nat.le_trans h1.2.1 h2.1, h2.2⟩
theorem rdB_ok {l m : Nat} {b : ByteArray} {at_ : Nat} {ok : Bool} (h : at_ ≤ b.size) : at_ ≤ (rdB l m b at_ ok).2.1 ∧ (rdB l m b at_ ok).2.1 ≤ b.size ∧ ((rdB l m b at_ ok).2.2 = true → at_ + 1 ≤ (rdB l m b at_ ok).2.1) := by
  unfold rdB
  split
  · rename_i hh
    split
    · exact ⟨by show at_ ≤ at_ + 1; omega, hh.2, fun _ => Nat.le_refl _⟩
    · exact ⟨Nat.le_refl _, h, fun he => by cases he⟩
  · exact ⟨Nat.le_refl _, h, fun he => by cases he⟩
/-- what is not well stays so, and nothing is read -/
theorem rdC_no (b : ByteArray) (at_ : Nat) : rdC b at_ false = (0, at_, false) := rfl
theorem pow_nat (i : Nat) : ((128 ^ i : Nat) : Int) = (128 : Int) ^ i := by simp

/-! ### the reference's reader -/
end Go.Proofs.YtjgccbpdpnpfjaaDoor.ST
namespace Go.Proofs.YtjgccbpdpnpfjaaDoor.ST
open Go.RowKit Go.Proofs.YtjgccbpdpnpfjaaDoorW.PrintWords Go.Proofs.YtjgccbpdpnpfjaaDoorW.PrintLast Go.Proofs.YtjgccbpdpnpfjaaDoorW.PrintMore Go.Proofs.YtjgccbpdpnpfjaaDoor.PAll
set_option linter.unusedVariables false
set_option linter.unusedSimpArgs false

theorem ext_size {b : ByteArray} {a n : Nat} (h : n + a ≤ b.size) : (b.extract a (a + n)).size = n := by rw [ByteArray.size_extract]; omega
theorem nb_ext {b : ByteArray} {a n j : Nat} (h : n + a ≤ b.size) (hj : j < n) : nb (b.extract a (a + n)) j = nb b (a + j) := by
  unfold nb bt
  simp only [Int.toNat_natCast]
  rw [dif_pos (by rw [ext_size h]; exact hj), dif_pos (by omega), ByteArray.getElem_extract]
theorem w8_lt (b : ByteArray) (at_ : Nat) : ∀ d, w8 b at_ d < 256 ^ d := by
  intro d
  induction d with
  | zero => show 0 < 1; decide
  | succ d ih =>
    rw [w8, Nat.pow_succ]
    have h1 := nb_lt b (at_ + d)
    have : 256 ^ d * nb b (at_ + d) ≤ 256 ^ d * 255 := Nat.mul_le_mul_left _ (by omega)
    omega
theorem w8_ext {b : ByteArray} {a n : Nat} (h : n + a ≤ b.size) : ∀ d, d ≤ n → w8 (b.extract a (a + n)) 0 d = w8 b a d := by
  intro d
  induction d with
  | zero => intro _; rfl
  | succ d ih =>
    intro hd
    rw [w8, w8, ih (by omega), Nat.zero_add, nb_ext h (by omega)]
theorem rdW_lt (b : ByteArray) (at_ : Nat) (ok : Bool) : (rdW b at_ ok).1 < 18446744073709551616 := by
  unfold rdW
  split
  · exact w8_lt b at_ 8
  · show 0 < 18446744073709551616; decide
theorem pow256 : ∀ i, i ≤ 8 → 256 ^ i ≤ 18446744073709551616 := by
  intro i hi
  exact Nat.le_trans (Nat.pow_le_pow_right (by omega) hi) (by decide)
/-! ### the reference's word and flag -/
/-! ### the store's reader -/
theorem st_take (b : ByteArray) (at_ : Nat) (ok : Bool) (n : Nat) (hb : b.size ≤ 1073741824) (ha : at_ ≤ b.size) (hn : n < 9223372036854775808) :
    store_reader_take.f b (at_ : Int) ok (n : Int) = some ((rdK b at_ ok n).1, (rdK b at_ ok n).2.2, b, ((rdK b at_ ok n).2.1 : Int), (rdK b at_ ok n).2.2) := by
  unfold store_reader_take.f rdK
  cases ok with
  | true =>
    rw [if_pos rfl, w64' (a := (b.size : Int) - (at_ : Int)) (by omega) (by omega)]
    by_cases h : n + at_ ≤ b.size
    · have e : wrap64 ((at_ : Int) + (n : Int)) = ((at_ + n : Nat) : Int) := by rw [w64' (by omega) (by omega)]; omega
      have e2 : wrap64 (((at_ + n : Nat) : Int) - (n : Int)) = (at_ : Int) := by rw [w64' (by omega) (by omega)]; omega
      rw [if_neg (by omega), e, e2, if_pos (by omega), if_pos (by omega), if_pos (by omega), if_pos ⟨rfl, h⟩, Int.toNat_natCast, Int.toNat_natCast]
    · rw [if_pos (by omega), if_neg (fun hh => h hh.2)]
      rfl
  | false =>
    rw [if_neg (by simp), if_neg (by simp)]
    rfl
theorem and_127f : ∀ x : Fin 256, Go.bits .and .u8 ((x.val : Nat) : Int) 127 = ((x.val % 128 : Nat) : Int) := by decide +kernel
theorem and_127 {c : Nat} (h : c < 256) : Go.bits .and .u8 (c : Int) 127 = ((c % 128 : Nat) : Int) := and_127f ⟨c, h⟩
theorem or_nat {n m : Nat} (hn : n < 18446744073709551616) (hm : m < 18446744073709551616) : Go.bits .or .u64 (n : Int) (m : Int) = ((n ||| m : Nat) : Int) := by
  have h : n ||| m < 2 ^ 64 := Nat.or_lt_two_pow hn hm
  unfold Go.bits
  have e1 : (BitVec.ofInt IntKind.u64.bits (n : Int)).toNat = n := by
    rw [BitVec.ofInt_natCast, BitVec.toNat_ofNat]
    exact Nat.mod_eq_of_lt hn
  have e2 : (BitVec.ofInt IntKind.u64.bits (m : Int)).toNat = m := by
    rw [BitVec.ofInt_natCast, BitVec.toNat_ofNat]
    exact Nat.mod_eq_of_lt hm
  show IntKind.u64.wrap ((BitVec.ofInt IntKind.u64.bits (n : Int) ||| BitVec.ofInt IntKind.u64.bits (m : Int)).toNat : Int) = _
  rw [BitVec.toNat_or, e1, e2]
  exact wu (by omega) (by omega)
theorem or_add {n y s : Nat} (hn : n < 2 ^ s) (hm : n + 2 ^ s * y < 18446744073709551616) : Go.bits .or .u64 (n : Int) ((2 ^ s * y : Nat) : Int) = ((n + 2 ^ s * y : Nat) : Int) := by
  rw [or_nat (by omega) (by omega), Nat.or_comm, ← Nat.two_pow_add_eq_or_of_lt hn, Nat.add_comm]
theorem shl_nat {y s : Nat} (hs : s ≤ 63) (h : 2 ^ s * y < 18446744073709551616) : shl .u64 (y : Int) (s : Int) = ((2 ^ s * y : Nat) : Int) := by
  unfold shl
  have e : min (s : Int).toNat IntKind.u64.bits = s := by
    rw [Int.toNat_natCast]
    exact Nat.min_eq_left (by show s ≤ 64; omega)
  rw [e, show ((y : Int) * 2 ^ s) = ((2 ^ s * y : Nat) : Int) from by rw [Nat.mul_comm]; simp]
  exact wu (by omega) (by omega)
theorem pow128 (i : Nat) : 128 ^ i = 2 ^ (7 * i) := by rw [Nat.pow_mul]
end Go.Proofs.YtjgccbpdpnpfjaaDoor.ST
namespace Go.Proofs.YtjgccbpdpnpfjaaDoor.ST
open Go.RowKit Go.Proofs.YtjgccbpdpnpfjaaDoorW.PrintWords Go.Proofs.YtjgccbpdpnpfjaaDoorW.PrintLast Go.Proofs.YtjgccbpdpnpfjaaDoorW.PrintMore Go.Proofs.YtjgccbpdpnpfjaaDoor.PAll
set_option linter.unusedVariables false
set_option linter.unusedSimpArgs false

theorem cnt_fail (b : ByteArray) (at_ : Nat) (x : Int) (k : Nat) (hk : 2 ≤ k) : store_reader_count.l0 k x 10 b (at_ : Int) true = some (0, b, (at_ : Int), false) := by
  obtain ⟨k, rfl⟩ : ∃ k', k = k' + 2 := ⟨k - 2, by omega⟩
  rw [store_reader_count.l0, if_neg (by decide), store_reader_count.j1, if_neg (by decide)]
theorem cnt_l0 (b : ByteArray) (at_ : Nat) (hb : b.size ≤ 1073741824) (ha : at_ ≤ b.size) : ∀ (d i n k : Nat), i + d = 9 → 2 * d + 4 ≤ k → n < 128 ^ i →
    store_reader_count.l0 k (n : Int) (i : Int) b (at_ : Int) true = some (match dcl b at_ d i n with | some (x, a) => ((x : Int), b, (a : Int), true) | none => (0, b, (at_ : Int), false)) := by
  intro d
  induction d with
  | zero =>
    intro i n k hi hk hn
    obtain rfl : i = 9 := by omega
    obtain ⟨k, rfl⟩ : ∃ k', k = k' + 4 := ⟨k - 4, by omega⟩
    have e : wrap64 ((at_ : Int) + ((9 : Nat) : Int)) = ((at_ + 9 : Nat) : Int) := by rw [w64' (by omega) (by omega)]; omega
    have e7 : wrap64 (7 * ((9 : Nat) : Int)) = 63 := by rw [w64' (by omega) (by omega)]; rfl
    have e10 : wrap64 (((9 : Nat) : Int) + 1) = 10 := by rw [w64' (by omega) (by omega)]; rfl
    rw [store_reader_count.l0, if_pos (by decide), store_reader_count.j1, e, e7, e10]
    by_cases h1 : at_ + 9 < b.size
    · rw [decide_eq_true (by omega), if_pos rfl, if_pos (by omega), if_pos (by omega), if_pos (by decide)]
      by_cases h2 : bt b ((at_ + 9 : Nat) : Int) ≥ 128
      · rw [if_pos h2]
        exact cnt_fail b at_ _ _ (by omega)
      · rw [if_neg h2]
        split
        · rfl
        · rw [if_pos (by decide)]
          rfl
    · rw [decide_eq_false (by omega), if_neg (by decide)]
      rfl
  | succ d ih =>
    intro i n k hi hk hn
    obtain ⟨k, rfl⟩ : ∃ k', k = k' + 2 := ⟨k - 2, by omega⟩
    have e : wrap64 ((at_ : Int) + (i : Int)) = ((at_ + i : Nat) : Int) := by rw [w64' (by omega) (by omega)]; omega
    have e7 : wrap64 (7 * (i : Int)) = ((7 * i : Nat) : Int) := by rw [w64' (by omega) (by omega)]; omega
    have e2 : wrap64 ((i : Int) + 1) = ((i + 1 : Nat) : Int) := by rw [w64' (by omega) (by omega)]; omega
    have hp : 128 ^ (i + 1) = 128 ^ i * 128 := Nat.pow_succ ..
    have hp8 : 128 ^ i ≤ 128 ^ 8 := Nat.pow_le_pow_right (by omega) (by omega)
    have h8 : 128 ^ 8 = 72057594037927936 := by decide
    rw [store_reader_count.l0, if_pos (by omega), store_reader_count.j1, dcl, e, e7, e2]
    by_cases h1 : at_ + i < b.size
    · rw [decide_eq_true (by omega), if_pos rfl, if_pos (by omega), if_pos (by omega), if_pos (by omega), if_pos h1, bt_nb]
      have hb2 := nb_lt b (at_ + i)
      generalize nb b (at_ + i) = c at hb2 ⊢
      have hlt : c % 128 < 128 := Nat.mod_lt _ (by omega)
      have hmul : 128 ^ i * (c % 128) ≤ 128 ^ i * 127 := Nat.mul_le_mul_left _ (by omega)
      have h127 : Go.bits .and .u8 (c : Int) 127 = ((c % 128 : Nat) : Int) := and_127 hb2
      have hw : IntKind.u64.wrap ((c % 128 : Nat) : Int) = ((c % 128 : Nat) : Int) := wu (by omega) (by omega)
      have hsh : shl .u64 ((c % 128 : Nat) : Int) ((7 * i : Nat) : Int) = ((2 ^ (7 * i) * (c % 128) : Nat) : Int) := shl_nat (by omega) (by rw [← pow128]; omega)
      have hor : Go.bits .or .u64 (n : Int) ((2 ^ (7 * i) * (c % 128) : Nat) : Int) = ((n + 128 ^ i * (c % 128) : Nat) : Int) := by
        rw [pow128] at hn hmul hp8 ⊢
        exact or_add hn (by omega)
      rw [h127, hw, hsh, hor]
      by_cases h2 : c < 128
      · have hcc : c % 128 = c := Nat.mod_eq_of_lt h2
        have e3 : wrap64 ((at_ : Int) + ((i + 1 : Nat) : Int)) = ((at_ + i + 1 : Nat) : Int) := by rw [w64' (by omega) (by omega)]; omega
        rw [if_neg (by omega), if_neg (by omega), if_neg (by omega), if_pos h2, e3]
        by_cases h4 : 0 < i
        · rw [if_pos (by omega)]
          by_cases h3 : c = 0
          · rw [if_pos (by omega), if_pos ⟨h3, h4⟩]
          · rw [if_neg (by omega), if_neg (fun h => h3 h.1), hcc]
        · rw [if_neg (by omega), if_neg (fun h => h4 h.2), hcc]
      · rw [if_pos (by omega), if_neg h2]
        exact ih (i + 1) _ k (by omega) (by omega) (by omega)
    · rw [decide_eq_false (by omega), if_neg (by decide), if_neg h1]
theorem st_count (b : ByteArray) (at_ : Nat) (ok : Bool) (k : Nat) (hb : b.size ≤ 1073741824) (ha : at_ ≤ b.size) (hk : 30 ≤ k) :
    store_reader_count.f k b (at_ : Int) ok = some (((rdC b at_ ok).1 : Int), b, ((rdC b at_ ok).2.1 : Int), (rdC b at_ ok).2.2) := by
  unfold store_reader_count.f
  cases ok with
  | true =>
    have h := cnt_l0 b at_ hb ha 9 0 0 k rfl (by omega) (by decide)
    have h' : store_reader_count.l0 k 0 0 b (at_ : Int) true = _ := h
    rw [if_pos rfl, h', rdC, if_pos rfl]
    show some (match dcnt b at_ with | some (x, a) => ((x : Int), b, (a : Int), true) | none => (0, b, (at_ : Int), false)) = _
    cases dcnt b at_ with
    | none => rfl
    | some x => rfl
  | false => rfl
theorem st_number (b : ByteArray) (at_ : Nat) (ok : Bool) (k : Nat) (hb : b.size ≤ 1073741824) (ha : at_ ≤ b.size) (hk : 30 ≤ k) :
    store_reader_number.f k b (at_ : Int) ok = some (((rdC b at_ ok).1 : Int), b, ((rdC b at_ ok).2.1 : Int), (rdC b at_ ok).2.2) := by
  have h := (rdC_ok (ok := ok) ha).1
  unfold store_reader_number.f
  rw [st_count b at_ ok k hb ha hk]
  show some (wrap64 ((rdC b at_ ok).1 : Int), _, _, _) = _
  rw [w64' (by omega) (by omega)]
theorem st_text (b : ByteArray) (at_ : Nat) (ok : Bool) (k : Nat) (hb : b.size ≤ 1073741824) (ha : at_ ≤ b.size) (hk : 30 ≤ k) :
    store_reader_text.f k b (at_ : Int) ok = some ((rdT b at_ ok).1, b, ((rdT b at_ ok).2.1 : Int), (rdT b at_ ok).2.2) := by
  have h1 := rdC_ok (ok := ok) ha
  unfold store_reader_text.f
  rw [st_number b at_ ok k hb ha hk]
  show (store_reader_take.f b ((rdC b at_ ok).2.1 : Int) (rdC b at_ ok).2.2 ((rdC b at_ ok).1 : Int)).bind _ = _
  rw [st_take b _ _ _ hb h1.2.2 h1.1]
  rfl
theorem word_up (s b' : ByteArray) (a : Int) (o : Bool) (hs : s.size = 8) : ∀ (d i k : Nat), i + d = 8 → d < k →
    store_reader_word.l0 k s ((w8 s 0 i : Nat) : Int) (i : Int) b' a o = some (((w8 s 0 8 : Nat) : Int), b', a, o) := by
  intro d
  induction d with
  | zero =>
    intro i k hi hk
    obtain rfl : i = 8 := by omega
    obtain ⟨k, rfl⟩ : ∃ k', k = k' + 1 := ⟨k - 1, by omega⟩
    rw [store_reader_word.l0, if_neg (by decide)]
  | succ d ih =>
    intro i k hi hk
    obtain ⟨k, rfl⟩ : ∃ k', k = k' + 1 := ⟨k - 1, by omega⟩
    have e7 : wrap64 (8 * (i : Int)) = ((8 * i : Nat) : Int) := by rw [w64' (by omega) (by omega)]; omega
    have e2 : wrap64 ((i : Int) + 1) = ((i + 1 : Nat) : Int) := by rw [w64' (by omega) (by omega)]; omega
    have hp : 256 ^ (i + 1) = 256 ^ i * 256 := Nat.pow_succ ..
    have hp8 := pow256 (i + 1) (by omega)
    have hpw : 256 ^ i = 2 ^ (8 * i) := by rw [Nat.pow_mul]
    have hb2 := nb_lt s i
    have hlt := w8_lt s 0 i
    have hmul : 256 ^ i * nb s i ≤ 256 ^ i * 255 := Nat.mul_le_mul_left _ (by omega)
    rw [store_reader_word.l0, if_pos (by omega), if_pos (by omega), if_pos (by omega), e7, e2, if_pos (by omega), bt_nb, wu (a := ((nb s i : Nat) : Int)) (by omega) (by omega), shl_nat (by omega) (by rw [← hpw]; omega)]
    have hor : Go.bits .or .u64 ((w8 s 0 i : Nat) : Int) ((2 ^ (8 * i) * nb s i : Nat) : Int) = ((w8 s 0 (i + 1) : Nat) : Int) := by
      rw [w8, Nat.zero_add]
      rw [hp, hpw] at hp8
      rw [hpw] at hlt hmul ⊢
      exact or_add hlt (by omega)
    rw [hor]
    exact ih (i + 1) k (by omega) (by omega)
theorem st_word (b : ByteArray) (at_ : Nat) (ok : Bool) (k : Nat) (hb : b.size ≤ 1073741824) (ha : at_ ≤ b.size) (hk : 30 ≤ k) :
    store_reader_word.f k b (at_ : Int) ok = some (((rdW b at_ ok).1 : Int), b, ((rdW b at_ ok).2.1 : Int), (rdW b at_ ok).2.2) := by
  unfold store_reader_word.f
  have h' : store_reader_take.f b (at_ : Int) ok 8 = _ := st_take b at_ ok 8 hb ha (by omega)
  rw [h']
  show (if (rdK b at_ ok 8).2.2 = true then store_reader_word.l0 k (rdK b at_ ok 8).1 0 0 b ((rdK b at_ ok 8).2.1 : Int) (rdK b at_ ok 8).2.2 else some (0, b, ((rdK b at_ ok 8).2.1 : Int), (rdK b at_ ok 8).2.2)) = _
  by_cases hc : ok = true ∧ 8 + at_ ≤ b.size
  · have hk' : rdK b at_ ok 8 = (b.extract at_ (at_ + 8), at_ + 8, true) := if_pos hc
    have hW : rdW b at_ ok = (w8 b at_ 8, at_ + 8, true) := if_pos hc
    rw [hk', hW, if_pos rfl]
    have h2 := word_up (b.extract at_ (at_ + 8)) b ((at_ + 8 : Nat) : Int) true (ext_size hc.2) 8 0 k (by omega) (by omega)
    rw [w8_ext hc.2 8 (Nat.le_refl _)] at h2
    exact h2
  · have hk' : rdK b at_ ok 8 = (ByteArray.empty, at_, false) := if_neg hc
    have hW : rdW b at_ ok = (0, at_, false) := if_neg hc
    rw [hk', hW]
    rfl
theorem st_one (l m : Nat) (b : ByteArray) (at_ : Nat) (ok : Bool) (k : Nat) (hb : b.size ≤ 1073741824) (ha : at_ ≤ b.size) (hk : 30 ≤ k) :
    store_reader_one.f k b (at_ : Int) ok (l : Int) (m : Int) = some (((rdB l m b at_ ok).1 : Int), b, ((rdB l m b at_ ok).2.1 : Int), (rdB l m b at_ ok).2.2) := by
  obtain ⟨k, rfl⟩ : ∃ k', k = k' + 1 := ⟨k - 1, by omega⟩
  unfold store_reader_one.f
  have h' : store_reader_take.f b (at_ : Int) ok 1 = _ := st_take b at_ ok 1 hb ha (by omega)
  rw [h']
  by_cases hc : ok = true ∧ 1 + at_ ≤ b.size
  · have hk' : rdK b at_ ok 1 = (b.extract at_ (at_ + 1), at_ + 1, true) := if_pos hc
    have hB : rdB l m b at_ ok = if l ≤ nb b at_ ∧ nb b at_ ≤ m then (nb b at_, at_ + 1, true) else (0, at_, false) := if_pos ⟨hc.1, by omega⟩
    have hs := ext_size (a := at_) (n := 1) hc.2
    have e : wrap64 (((at_ + 1 : Nat) : Int) - 1) = (at_ : Int) := by rw [w64' (by omega) (by omega)]; omega
    have hbt : bt (b.extract at_ (at_ + 1)) 0 = ((nb b at_ : Nat) : Int) := by
      have := bt_nb (b.extract at_ (at_ + 1)) 0
      rw [nb_ext hc.2 (by omega), Nat.add_zero] at this
      exact this
    rw [hk', hB]
    show (if true = true then (if 0 < ((b.extract at_ (at_ + 1)).size : Int) then (if bt (b.extract at_ (at_ + 1)) 0 < (l : Int) then store_reader_one.j0 (k + 1) (b.extract at_ (at_ + 1)) true true b ((at_ + 1 : Nat) : Int) true else store_reader_one.j0 (k + 1) (b.extract at_ (at_ + 1)) true (decide (bt (b.extract at_ (at_ + 1)) 0 > (m : Int))) b ((at_ + 1 : Nat) : Int) true) else none) else none) = _
    rw [if_pos rfl, if_pos (by omega), store_reader_one.j0, store_reader_one.j0, e, hbt]
    generalize nb b at_ = c
    by_cases h1 : c < l
    · rw [if_pos (by omega), if_pos rfl, if_neg (fun h => absurd h.1 (by omega))]
      rfl
    · rw [if_neg (by omega)]
      by_cases h2 : c > m
      · rw [decide_eq_true (by omega), if_pos rfl, if_neg (fun h => absurd h.2 (by omega))]
        rfl
      · rw [decide_eq_false (by omega), if_neg (by decide), if_pos rfl, if_pos (by omega), if_pos ⟨by omega, by omega⟩]
  · have hk' : rdK b at_ ok 1 = (ByteArray.empty, at_, false) := if_neg hc
    have hB : rdB l m b at_ ok = (0, at_, false) := if_neg (fun h => hc ⟨h.1, by omega⟩)
    rw [hk', hB]
    rfl
end Go.Proofs.YtjgccbpdpnpfjaaDoor.ST
namespace Go.Proofs.YtjgccbpdpnpfjaaDoor.ST
open Go.RowKit Go.Proofs.YtjgccbpdpnpfjaaDoorW.PrintWords Go.Proofs.YtjgccbpdpnpfjaaDoorW.PrintLast Go.Proofs.YtjgccbpdpnpfjaaDoorW.PrintMore Go.Proofs.YtjgccbpdpnpfjaaDoor.PAll
set_option linter.unusedVariables false
set_option linter.unusedSimpArgs false

def bindS {α β : Type} (s : Sv α) (f : α → Nat → Bool → Sv β) : Sv β := f s.1 s.2.1 s.2.2
abbrev Rd (α : Type) := Nat → Bool → Sv α
/-- goes on, stays within the bytes, and is not well again -/
def Good {α : Type} (b : ByteArray) (f : Rd α) : Prop := ∀ a o, a ≤ b.size → a ≤ (f a o).2.1 ∧ (f a o).2.1 ≤ b.size ∧ ((f a o).2.2 = true → o = true)
def Eats {α : Type} (b : ByteArray) (f : Rd α) : Prop := ∀ a o, a ≤ b.size → (f a o).2.2 = true → a + 1 ≤ (f a o).2.1
section
variable {α β : Type} {b : ByteArray} {f : Rd α} {g : α → Rd β}
theorem Good.bind (hf : Good b f) (hg : ∀ x, Good b (g x)) : Good b (fun a o => bindS (f a o) g) := by
  intro a o ha
  obtain ⟨h1, h2, h3⟩ := hf a o ha
  obtain ⟨g1, g2, g3⟩ := hg (f a o).1 (f a o).2.1 (f a o).2.2 h2
  exact ⟨Nat.le_trans h1 g1, g2, fun h => h3 (g3 h)⟩
theorem Eats.left (hf : Good b f) (he : Eats b f) (hg : ∀ x, Good b (g x)) : Eats b (fun a o => bindS (f a o) g) := by
  intro a o ha h
  obtain ⟨h1, h2, h3⟩ := hf a o ha
  obtain ⟨g1, g2, g3⟩ := hg (f a o).1 (f a o).2.1 (f a o).2.2 h2
  exact Nat.le_trans (he a o ha (g3 h)) g1
theorem Eats.right (hf : Good b f) (he : ∀ x, Eats b (g x)) : Eats b (fun a o => bindS (f a o) g) := by
  intro a o ha h
  obtain ⟨h1, h2, h3⟩ := hf a o ha
  have := he (f a o).1 (f a o).2.1 (f a o).2.2 h2 h
  show a + 1 ≤ _
  exact Nat.le_trans (Nat.succ_le_succ h1) this
theorem Good.pure (x : α) : Good b (fun a o => (x, a, o)) := fun a o ha => ⟨Nat.le_refl _, ha, fun h => h⟩
end
theorem good_C (b : ByteArray) : Good b (rdC b) := by
  intro a o ha
  obtain ⟨_, h1, h2⟩ := rdC_ok (ok := o) ha
  refine ⟨h1, h2, fun h => ?_⟩
  cases o with
  | true => rfl
  | false => cases h
theorem good_W (b : ByteArray) : Good b (rdW b) := by
  intro a o ha
  obtain ⟨h1, h2, _⟩ := rdW_ok (ok := o) ha
  refine ⟨h1, h2, fun h => ?_⟩
  cases o with
  | true => rfl
  | false => cases h
theorem eats_W (b : ByteArray) : Eats b (rdW b) := by
  intro a o ha h
  have := (rdW_ok (ok := o) ha).2.2 h
  omega
theorem good_K (b : ByteArray) (n : Nat) : Good b (fun a o => rdK b a o n) := by
  intro a o ha
  obtain ⟨h1, h2⟩ := rdK_ok (ok := o) (n := n) ha
  refine ⟨h1, h2, fun h => ?_⟩
  cases o with
  | true => rfl
  | false => cases h
theorem good_T (b : ByteArray) : Good b (rdT b) := by
  have h := Good.bind (good_C b) (g := fun n a o => rdK b a o n) (fun n => good_K b n)
  exact h
theorem good_B (l m : Nat) (b : ByteArray) : Good b (rdB l m b) := by
  intro a o ha
  obtain ⟨h1, h2, _⟩ := rdB_ok (l := l) (m := m) (ok := o) ha
  refine ⟨h1, h2, fun h => ?_⟩
  cases o with
  | true => rfl
  | false => cases h
theorem eats_B (l m : Nat) (b : ByteArray) : Eats b (rdB l m b) := fun a o ha h => (rdB_ok (l := l) (m := m) (ok := o) ha).2.2 h

def rdLeaf (b : ByteArray) : Rd S39 := fun a o => bindS (rdC b a o) fun f0 a o => bindS (rdC b a o) fun f1 a o => bindS (rdC b a o) fun f2 a o => bindS (rdC b a o) fun f3 a o => bindS (rdW b a o) fun f4 a o => bindS (rdT b a o) fun f5 a o => (⟨f0, f1, f2, f3, f4, f5⟩, a, o)
def rdNode (b : ByteArray) : Rd S41 := fun a o => bindS (rdT b a o) fun f0 a o => bindS (rdB 0 1 b a o) fun f1 a o => bindS (rdT b a o) fun f2 a o => bindS (rdC b a o) fun f3 a o => bindS (rdC b a o) fun f4 a o => bindS (rdC b a o) fun f5 a o => bindS (rdC b a o) fun f6 a o => (⟨f0, f1 == 1, f2, f3, f4, f5, (f6 : Int) - 1⟩, a, o)
theorem good_leaf (b : ByteArray) : Good b (rdLeaf b) := (good_C b).bind fun _ => (good_C b).bind fun _ => (good_C b).bind fun _ => (good_C b).bind fun _ => (good_W b).bind fun _ => (good_T b).bind fun _ => Good.pure _
theorem eats_leaf (b : ByteArray) : Eats b (rdLeaf b) := Eats.right (good_C b) fun _ => Eats.right (good_C b) fun _ => Eats.right (good_C b) fun _ => Eats.right (good_C b) fun _ => Eats.left (good_W b) (eats_W b) fun _ => (good_T b).bind fun _ => Good.pure _
theorem good_node (b : ByteArray) : Good b (rdNode b) := (good_T b).bind fun _ => (good_B 0 1 b).bind fun _ => (good_T b).bind fun _ => (good_C b).bind fun _ => (good_C b).bind fun _ => (good_C b).bind fun _ => (good_C b).bind fun _ => Good.pure _
theorem eats_node (b : ByteArray) : Eats b (rdNode b) := Eats.right (good_T b) fun _ => Eats.left (good_B 0 1 b) (eats_B 0 1 b) fun _ => (good_T b).bind fun _ => (good_C b).bind fun _ => (good_C b).bind fun _ => (good_C b).bind fun _ => (good_C b).bind fun _ => Good.pure _
theorem sub_one (b : ByteArray) {a : Nat} (o : Bool) (ha : a ≤ b.size) : wrap64 (((rdC b a o).1 : Int) - 1) = ((rdC b a o).1 : Int) - 1 := by
  have h := (rdC_ok (ok := o) ha).1
  exact w64' (by omega) (by omega)
theorem eq_one (c : Nat) : (((c : Nat) : Int) == 1) = (c == 1) := by
  by_cases h2 : c = 1
  · subst h2; rfl
  · rw [beq_eq_false_iff_ne.2 h2, beq_eq_false_iff_ne.2 (by omega)]
theorem st_leaf (b : ByteArray) (a : Nat) (o : Bool) (k : Nat) (hb : b.size ≤ 1073741824) (ha : a ≤ b.size) (hk : 30 ≤ k) :
    store_reader_leaf.f k b (a : Int) o = some ((rdLeaf b a o).1.f0, (rdLeaf b a o).1.f1, (rdLeaf b a o).1.f2, (rdLeaf b a o).1.f3, (rdLeaf b a o).1.f4, (rdLeaf b a o).1.f5, b, ((rdLeaf b a o).2.1 : Int), (rdLeaf b a o).2.2) := by
  have h1 := (good_C b a o ha).2.1
  have h2 := (good_C b _ (rdC b a o).2.2 h1).2.1
  have h3 := (good_C b _ (rdC b (rdC b a o).2.1 (rdC b a o).2.2).2.2 h2).2.1
  have h4 := (good_C b _ (rdC b (rdC b (rdC b a o).2.1 (rdC b a o).2.2).2.1 (rdC b (rdC b a o).2.1 (rdC b a o).2.2).2.2).2.2 h3).2.1
  unfold store_reader_leaf.f
  rw [st_number b a o k hb ha hk]
  dsimp only [Option.bind]
  rw [st_number b _ _ k hb h1 hk]
  dsimp only [Option.bind]
  rw [st_number b _ _ k hb h2 hk]
  dsimp only [Option.bind]
  rw [st_number b _ _ k hb h3 hk]
  dsimp only [Option.bind]
  rw [st_word b _ _ k hb h4 hk]
  dsimp only [Option.bind]
  rw [st_text b _ _ k hb (good_W b _ _ h4).2.1 hk]
  rfl
theorem st_node (b : ByteArray) (a : Nat) (o : Bool) (k : Nat) (hb : b.size ≤ 1073741824) (ha : a ≤ b.size) (hk : 30 ≤ k) :
    store_reader_node.f k b (a : Int) o = some ((rdNode b a o).1.f0, (rdNode b a o).1.f1, (rdNode b a o).1.f2, (rdNode b a o).1.f3, (rdNode b a o).1.f4, (rdNode b a o).1.f5, (rdNode b a o).1.f6, b, ((rdNode b a o).2.1 : Int), (rdNode b a o).2.2) := by
  unfold store_reader_node.f rdNode bindS
  rw [st_text b a o k hb ha hk]
  have h1 := (good_T b _ o ha).2.1
  generalize rdT b a o = r at h1 ⊢
  obtain ⟨x1, a1, o1⟩ := r
  dsimp only [Option.bind] at h1 ⊢
  rw [show store_reader_one.f k b (a1 : Int) o1 0 1 = _ from st_one 0 1 b a1 o1 k hb h1 hk]
  have h2 := (good_B 0 1 b _ o1 h1).2.1
  generalize rdB 0 1 b a1 o1 = r at h2 ⊢
  obtain ⟨x2, a2, o2⟩ := r
  dsimp only [Option.bind] at h2 ⊢
  rw [st_text b a2 o2 k hb h2 hk]
  have h3 := (good_T b _ o2 h2).2.1
  generalize rdT b a2 o2 = r at h3 ⊢
  obtain ⟨x3, a3, o3⟩ := r
  dsimp only [Option.bind] at h3 ⊢
  rw [st_number b a3 o3 k hb h3 hk]
  have h4 := (good_C b _ o3 h3).2.1
  generalize rdC b a3 o3 = r at h4 ⊢
  obtain ⟨x4, a4, o4⟩ := r
  dsimp only [Option.bind] at h4 ⊢
  rw [st_number b a4 o4 k hb h4 hk]
  have h5 := (good_C b _ o4 h4).2.1
  generalize rdC b a4 o4 = r at h5 ⊢
  obtain ⟨x5, a5, o5⟩ := r
  dsimp only [Option.bind] at h5 ⊢
  rw [st_number b a5 o5 k hb h5 hk]
  have h6 := (good_C b _ o5 h5).2.1
  generalize rdC b a5 o5 = r at h6 ⊢
  obtain ⟨x6, a6, o6⟩ := r
  dsimp only [Option.bind] at h6 ⊢
  rw [st_number b a6 o6 k hb h6 hk]
  dsimp only [Option.bind]
  rw [sub_one b _ h6, eq_one]
end Go.Proofs.YtjgccbpdpnpfjaaDoor.ST
namespace Go.Proofs.YtjgccbpdpnpfjaaDoor.ST
open Go.RowKit Go.Proofs.YtjgccbpdpnpfjaaDoorW.PrintWords Go.Proofs.YtjgccbpdpnpfjaaDoorW.PrintLast Go.Proofs.YtjgccbpdpnpfjaaDoorW.PrintMore Go.Proofs.YtjgccbpdpnpfjaaDoor.PAll
set_option linter.unusedVariables false
set_option linter.unusedSimpArgs false

def rdList {α : Type} (f : Rd α) : Nat → List α → Rd (List α)
  | 0, acc, a, o => (acc, a, o)
  | n + 1, acc, a, o => if o = true then rdList f n (acc ++ [(f a o).1]) (f a o).2.1 (f a o).2.2 else (acc, a, o)
theorem rdList_no {α : Type} (f : Rd α) (n : Nat) (acc : List α) (a : Nat) : rdList f n acc a false = (acc, a, false) := by
  cases n <;> rfl
theorem good_list {α : Type} {b : ByteArray} {f : Rd α} (hf : Good b f) : ∀ n acc, Good b (rdList f n acc) := by
  intro n
  induction n with
  | zero => intro acc; exact Good.pure acc
  | succ n ih =>
    intro acc a o ha
    rw [rdList]
    split
    · obtain ⟨h1, h2, h3⟩ := hf a o ha
      obtain ⟨g1, g2, g3⟩ := ih (acc ++ [(f a o).1]) (f a o).2.1 (f a o).2.2 h2
      exact ⟨Nat.le_trans h1 g1, g2, fun h => h3 (g3 h)⟩
    · exact ⟨Nat.le_refl _, ha, fun h => h⟩
structure Rs where
  c : Nat
  at_ : Nat
  wt : Nat
  ls : List S39
  ns : List S41
  rt : Nat
def rdNodes (b : ByteArray) : Rd (List S41) := fun a o => bindS (rdC b a o) fun n a o => rdList (rdNode b) n [] a o
def rdLeaves (b : ByteArray) : Rd (List S39) := fun a o => bindS (rdC b a o) fun n a o => rdList (rdLeaf b) n [] a o
theorem good_nodes (b : ByteArray) : Good b (rdNodes b) := (good_C b).bind fun n => good_list (good_node b) n []
theorem good_leaves (b : ByteArray) : Good b (rdLeaves b) := (good_C b).bind fun n => good_list (good_leaf b) n []
def rdRes (b : ByteArray) : Rd Rs := fun a o => bindS (rdC b a o) fun c a o => bindS (rdC b a o) fun p a o => bindS (rdC b a o) fun r a o => bindS (rdW b a o) fun w a o => bindS (rdLeaves b a o) fun ls a o => bindS (rdNodes b a o) fun ns a o => (⟨c, p, w, ls, ns, r⟩, a, o)
theorem good_res (b : ByteArray) : Good b (rdRes b) := (good_C b).bind fun _ => (good_C b).bind fun _ => (good_C b).bind fun _ => (good_W b).bind fun _ => (good_leaves b).bind fun _ => (good_nodes b).bind fun _ => Good.pure _

end Go.Proofs.YtjgccbpdpnpfjaaDoor.ST
namespace Go.Proofs.YtjgccbpdpnpfjaaDoor.ST
open Go.RowKit Go.Proofs.YtjgccbpdpnpfjaaDoorW.PrintWords Go.Proofs.YtjgccbpdpnpfjaaDoorW.PrintLast Go.Proofs.YtjgccbpdpnpfjaaDoorW.PrintMore Go.Proofs.YtjgccbpdpnpfjaaDoor.PAll
set_option linter.unusedVariables false

/-- all that is read of the bytes -/
structure Hd where
  dw : Nat
  tw : Nat
  rs : Rs
  e : Nat
  sv : Nat
  a : Nat
  o : Bool
def rdHd (b : ByteArray) : Rd (Nat × Nat × Rs) := fun a o => bindS (rdB 83 83 b a o) fun _ a o => bindS (rdB 1 1 b a o) fun _ a o => bindS (rdW b a o) fun dw a o => bindS (rdW b a o) fun tw a o => bindS (rdRes b a o) fun rs a o => ((dw, tw, rs), a, o)
theorem good_hd (b : ByteArray) : Good b (rdHd b) := (good_B 83 83 b).bind fun _ => (good_B 1 1 b).bind fun _ => (good_W b).bind fun _ => (good_W b).bind fun _ => (good_res b).bind fun _ => Good.pure _
def hd (b : ByteArray) : Hd :=
  let s := rdHd b 0 true
  let q := rdW b s.2.1 s.2.2
  ⟨s.1.1, s.1.2.1, s.1.2.2, s.2.1, q.1, q.2.1, q.2.2⟩
/-- the code and the place -/
def verdict (b d t : ByteArray) : Nat × Nat :=
  if (hd b).o = true ∧ (hd b).sv ≠ sumS (b.extract 0 (hd b).e) then (330, (hd b).e) else if (hd b).o = false ∨ (hd b).a < b.size then (330, (hd b).a) else if (hd b).dw ≠ sumS d then (331, 0) else if (hd b).tw ≠ sumS t then (331, 1) else (0, 0)
def rs0 : Rs := ⟨0, 0, 0, [], [], 0⟩
def outOf (b d t : ByteArray) : Rs := if (verdict b d t).1 = 0 then (hd b).rs else rs0

/-- what is not well reads nothing, and stays where it is -/
def Still {α : Type} (f : Rd α) : Prop := ∀ a, (f a false).2.1 = a ∧ (f a false).2.2 = false
theorem Still.bind {α β : Type} {f : Rd α} {g : α → Rd β} (hf : Still f) (hg : ∀ x, Still (g x)) : Still (fun a o => bindS (f a o) g) := by
  intro a
  obtain ⟨h1, h2⟩ := hf a
  show (g (f a false).1 (f a false).2.1 (f a false).2.2).2.1 = a ∧ (g (f a false).1 (f a false).2.1 (f a false).2.2).2.2 = false
  rw [h1, h2]
  exact hg _ a
theorem Still.pure {α : Type} (x : α) : Still (fun a o => (x, a, o)) := fun a => ⟨rfl, rfl⟩
theorem still_C (b : ByteArray) : Still (rdC b) := fun a => ⟨rfl, rfl⟩
theorem still_W (b : ByteArray) : Still (rdW b) := fun a => ⟨rfl, rfl⟩
theorem still_K (b : ByteArray) (n : Nat) : Still (fun a o => rdK b a o n) := fun a => ⟨rfl, rfl⟩
theorem still_B (l m : Nat) (b : ByteArray) : Still (rdB l m b) := fun a => ⟨rfl, rfl⟩
theorem still_list {α : Type} (f : Rd α) (n : Nat) (acc : List α) : Still (rdList f n acc) := fun a => by rw [rdList_no]; exact ⟨rfl, rfl⟩
theorem still_res (b : ByteArray) : Still (rdRes b) := (still_C b).bind fun _ => (still_C b).bind fun _ => (still_C b).bind fun _ => (still_W b).bind fun _ => Still.bind ((still_C b).bind fun n => still_list _ n []) fun _ => Still.bind ((still_C b).bind fun n => still_list _ n []) fun _ => Still.pure _
theorem still_rest (b : ByteArray) : Still (fun a o => bindS (rdW b a o) fun dw a o => bindS (rdW b a o) fun tw a o => bindS (rdRes b a o) fun rs a o => (((dw, tw, rs), a, o) : Sv (Nat × Nat × Rs))) :=
  (still_W b).bind fun _ => (still_W b).bind fun _ => (still_res b).bind fun _ => Still.pure _
/-- bytes whose head is not well are refused there -/
theorem verdict_of_bad {b d t : ByteArray} {p : Nat} (h1 : (rdHd b 0 true).2.1 = p) (h2 : (rdHd b 0 true).2.2 = false) : verdict b d t = (330, p) := by
  have ho : (hd b).o = false := by unfold hd; dsimp only; rw [h2]; rfl
  have ha : (hd b).a = p := by unfold hd; dsimp only; rw [h2, h1]; rfl
  unfold verdict
  rw [if_neg (fun h => by rw [ho] at h; cases h.1), if_pos (.inl ho), ha]
theorem bad0 {b : ByteArray} (d t : ByteArray) (h : ¬(1 ≤ b.size ∧ nb b 0 = 83)) : verdict b d t = (330, 0) := by
  have e : rdB 83 83 b 0 true = (0, 0, false) := by
    unfold rdB
    by_cases h1 : 0 + 1 ≤ b.size
    · rw [if_pos ⟨rfl, h1⟩, if_neg (fun h2 => h ⟨by omega, by omega⟩)]
    · rw [if_neg (fun h2 => h1 h2.2)]
  have hs := Still.bind (g := fun _ a o => bindS (rdW b a o) fun dw a o => bindS (rdW b a o) fun tw a o => bindS (rdRes b a o) fun rs a o => (((dw, tw, rs), a, o) : Sv (Nat × Nat × Rs))) (still_B 1 1 b) (fun _ => still_rest b) 0
  refine verdict_of_bad ?_ ?_
  · unfold rdHd
    show (bindS (rdB 83 83 b 0 true) _).2.1 = 0
    rw [e]
    exact hs.1
  · unfold rdHd
    show (bindS (rdB 83 83 b 0 true) _).2.2 = false
    rw [e]
    exact hs.2
theorem well0 {b : ByteArray} (h : 1 ≤ b.size ∧ nb b 0 = 83) : rdB 83 83 b 0 true = (83, 1, true) := by
  unfold rdB
  rw [if_pos ⟨rfl, by omega⟩, if_pos ⟨by omega, by omega⟩, h.2]
theorem bad1 {b : ByteArray} (d t : ByteArray) (h0 : 1 ≤ b.size ∧ nb b 0 = 83) (h : ¬(2 ≤ b.size ∧ nb b 1 = 1)) : verdict b d t = (330, 1) := by
  have e : rdB 1 1 b 1 true = (0, 1, false) := by
    unfold rdB
    by_cases h1 : 1 + 1 ≤ b.size
    · rw [if_pos ⟨rfl, h1⟩, if_neg (fun h2 => h ⟨by omega, by omega⟩)]
    · rw [if_neg (fun h2 => h1 h2.2)]
  have hs := still_rest b 1
  refine verdict_of_bad ?_ ?_
  · unfold rdHd bindS
    rw [well0 h0]
    dsimp only
    rw [e]
    exact hs.1
  · unfold rdHd bindS
    rw [well0 h0]
    dsimp only
    rw [e]
    exact hs.2
theorem well1 {b : ByteArray} (h0 : 1 ≤ b.size ∧ nb b 0 = 83) (h : 2 ≤ b.size ∧ nb b 1 = 1) : rdHd b 0 true = bindS (rdW b 2 true) fun dw a o => bindS (rdW b a o) fun tw a o => bindS (rdRes b a o) fun rs a o => ((dw, tw, rs), a, o) := by
  have e : rdB 1 1 b 1 true = (1, 2, true) := by
    unfold rdB
    rw [if_pos ⟨rfl, by omega⟩, if_pos ⟨by omega, by omega⟩, h.2]
  unfold rdHd bindS
  rw [well0 h0]
  dsimp only
  rw [e]
end Go.Proofs.YtjgccbpdpnpfjaaDoor.ST
