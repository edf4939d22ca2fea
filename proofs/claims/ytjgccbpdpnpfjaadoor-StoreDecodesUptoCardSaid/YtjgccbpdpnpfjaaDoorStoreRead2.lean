/- store: what the readers answer: words, flags, the store's own reader. -/
import Derived.Test.YtjgccbpdpnpfjaaDoorStoreRead
namespace Go.Proofs.YtjgccbpdpnpfjaaDoor.ST
open Go.RowKit Go.Proofs.YtjgccbpdpnpfjaaDoorW.PrintWords Go.Proofs.YtjgccbpdpnpfjaaDoorW.PrintLast Go.Proofs.YtjgccbpdpnpfjaaDoorW.PrintMore Go.Proofs.YtjgccbpdpnpfjaaDoor.PAll
set_option linter.unusedVariables false
set_option linter.unusedSimpArgs false

theorem ext_size {b : ByteArray} {a n : Nat} (h : n + a ≤ b.size) : (b.extract a (a + n)).size = n := by rw [ByteArray.size_extract]; omega
theorem nb_ext {b : ByteArray} {a n j : Nat} (h : n + a ≤ b.size) (hj : j < n) : nb (b.extract a (a + n)) j = nb b (a + j) := by
  unfold nb bt
  simp only [Int.toNat_natCast]
  rw [dif_pos (by rw [ext_size h]; exact hj), dif_pos (by omega), ByteArray.getElem_extract]
theorem w8_lt (b : ByteArray) (at_ : Nat) : ∀ d, w8 b at_ d < 256 ^ d := by
  intro d
  induction d with
  | zero => show 0 < 1; decide
  | succ d ih =>
    rw [w8, Nat.pow_succ]
    have h1 := nb_lt b (at_ + d)
    have : 256 ^ d * nb b (at_ + d) ≤ 256 ^ d * 255 := Nat.mul_le_mul_left _ (by omega)
    omega
theorem w8_ext {b : ByteArray} {a n : Nat} (h : n + a ≤ b.size) : ∀ d, d ≤ n → w8 (b.extract a (a + n)) 0 d = w8 b a d := by
  intro d
  induction d with
  | zero => intro _; rfl
  | succ d ih =>
    intro hd
    rw [w8, w8, ih (by omega), Nat.zero_add, nb_ext h (by omega)]
theorem rdW_lt (b : ByteArray) (at_ : Nat) (ok : Bool) : (rdW b at_ ok).1 < 18446744073709551616 := by
  unfold rdW
  split
  · exact w8_lt b at_ 8
  · show 0 < 18446744073709551616; decide
theorem pow256 : ∀ i, i ≤ 8 → 256 ^ i ≤ 18446744073709551616 := by
  intro i hi
  exact Nat.le_trans (Nat.pow_le_pow_right (by omega) hi) (by decide)
/-! ### the reference's word and flag -/
theorem rword_down (s b' : ByteArray) (a : Int) (o : Bool) (hs : s.size = 8) : ∀ (i k x : Nat), i ≤ 8 → i < k → w8 s 0 i + 256 ^ i * x = w8 s 0 8 →
    trellisref33_Reader_word.l0 k s (x : Int) ((i : Int) - 1) b' a o = some (((w8 s 0 8 : Nat) : Int), b', a, o) := by
  intro i
  induction i with
  | zero =>
    intro k x _ hk hx
    obtain ⟨k, rfl⟩ : ∃ k', k = k' + 1 := ⟨k - 1, by omega⟩
    rw [trellisref33_Reader_word.l0, if_neg (by omega)]
    have : x = w8 s 0 8 := by rw [← hx]; simp [w8]
    rw [this]
  | succ i ih =>
    intro k x hi hk hx
    obtain ⟨k, rfl⟩ : ∃ k', k = k' + 1 := ⟨k - 1, by omega⟩
    have e : ((i + 1 : Nat) : Int) - 1 = (i : Int) := by omega
    rw [e, trellisref33_Reader_word.l0, if_pos (by omega), if_pos (by omega), if_pos (by omega), bt_nb]
    have hb := nb_lt s i
    have h8 := w8_lt s 0 8
    have hp : 256 ^ (i + 1) = 256 ^ i * 256 := Nat.pow_succ ..
    have hq : 1 ≤ 256 ^ i := Nat.pow_pos (by omega)
    have hx2 : w8 s 0 i + 256 ^ i * (256 * x + nb s i) = w8 s 0 8 := by
      rw [← hx, w8, hp, Nat.zero_add, Nat.mul_add, Nat.mul_assoc]
      omega
    have hle : 256 * x + nb s i ≤ 256 ^ i * (256 * x + nb s i) := Nat.le_mul_of_pos_left _ (by omega)
    have h88 : (256 : Nat) ^ 8 = 18446744073709551616 := by decide
    have e1 : IntKind.u64.wrap (256 * (x : Int)) = ((256 * x : Nat) : Int) := by rw [wu (by omega) (by omega)]; omega
    have e2 : IntKind.u64.wrap ((nb s i : Nat) : Int) = ((nb s i : Nat) : Int) := wu (by omega) (by omega)
    have e3 : IntKind.u64.wrap (((256 * x : Nat) : Int) + ((nb s i : Nat) : Int)) = ((256 * x + nb s i : Nat) : Int) := by rw [wu (by omega) (by omega)]; omega
    rw [e1, e2, e3, w64' (by omega) (by omega)]
    exact ih k _ (by omega) (by omega) hx2
theorem rword_nil (b' : ByteArray) (a : Int) (o : Bool) (k : Nat) (hk : 1 ≤ k) : trellisref33_Reader_word.l0 k ByteArray.empty 0 (wrap64 (((ByteArray.empty : ByteArray).size : Int) - 1)) b' a o = some (0, b', a, o) := by
  obtain ⟨k, rfl⟩ : ∃ k', k = k' + 1 := ⟨k - 1, by omega⟩
  have e : wrap64 (((ByteArray.empty : ByteArray).size : Int) - 1) = -1 := by
    rw [show (((ByteArray.empty : ByteArray).size : Nat) : Int) = 0 from rfl, w64' (by omega) (by omega)]
    rfl
  rw [e, trellisref33_Reader_word.l0, if_neg (by decide)]
theorem ref_word (b : ByteArray) (at_ : Nat) (ok : Bool) (k : Nat) (hb : b.size ≤ 1048576) (ha : at_ ≤ b.size) (hk : 20 ≤ k) :
    trellisref33_Reader_word.f k b (at_ : Int) ok = some (((rdW b at_ ok).1 : Int), b, ((rdW b at_ ok).2.1 : Int), (rdW b at_ ok).2.2) := by
  unfold trellisref33_Reader_word.f
  have h := ref_bytes b at_ ok 8 hb ha (by omega)
  have h' : trellisref33_Reader_bytes.f b (at_ : Int) ok 8 = _ := h
  rw [h']
  show trellisref33_Reader_word.l0 k (rdK b at_ ok 8).1 0 (wrap64 (((rdK b at_ ok 8).1.size : Int) - 1)) b ((rdK b at_ ok 8).2.1 : Int) (rdK b at_ ok 8).2.2 = _
  unfold rdK rdW
  by_cases hc : ok = true ∧ 8 + at_ ≤ b.size
  · rw [if_pos hc, if_pos hc]
    have hs := ext_size (a := at_) (n := 8) hc.2
    have e : wrap64 (((b.extract at_ (at_ + 8)).size : Int) - 1) = ((8 : Nat) : Int) - 1 := by rw [hs, w64' (by omega) (by omega)]
    show trellisref33_Reader_word.l0 k (b.extract at_ (at_ + 8)) 0 (wrap64 (((b.extract at_ (at_ + 8)).size : Int) - 1)) b ((at_ + 8 : Nat) : Int) true = _
    rw [e]
    have h2 := rword_down (b.extract at_ (at_ + 8)) b ((at_ + 8 : Nat) : Int) true hs 8 k 0 (by omega) (by omega) (by omega)
    rw [w8_ext hc.2 8 (Nat.le_refl _)] at h2
    exact h2
  · rw [if_neg hc, if_neg hc]
    exact rword_nil b _ _ k (by omega)
theorem ref_flag (b : ByteArray) (at_ : Nat) (ok : Bool) (hb : b.size ≤ 1048576) (ha : at_ ≤ b.size) :
    trellisref33_Reader_flag.f b (at_ : Int) ok = some (((rdB 0 1 b at_ ok).1 == 1), b, ((rdB 0 1 b at_ ok).2.1 : Int), (rdB 0 1 b at_ ok).2.2) := by
  unfold trellisref33_Reader_flag.f
  have h' : trellisref33_Reader_bytes.f b (at_ : Int) ok 1 = _ := ref_bytes b at_ ok 1 hb ha (by omega)
  rw [h']
  by_cases hc : ok = true ∧ 1 + at_ ≤ b.size
  · have hs := ext_size (a := at_) (n := 1) hc.2
    have hk : rdK b at_ ok 1 = (b.extract at_ (at_ + 1), at_ + 1, true) := if_pos hc
    have hB : rdB 0 1 b at_ ok = if 0 ≤ nb b at_ ∧ nb b at_ ≤ 1 then (nb b at_, at_ + 1, true) else (0, at_, false) := if_pos ⟨hc.1, by omega⟩
    rw [hk, hB]
    show (if true = true then (if 0 < ((b.extract at_ (at_ + 1)).size : Int) then (if bt (b.extract at_ (at_ + 1)) ((0 : Nat) : Int) > 1 then some (false, b, wrap64 (((at_ + 1 : Nat) : Int) - 1), false) else some ((bt (b.extract at_ (at_ + 1)) ((0 : Nat) : Int) == 1), b, ((at_ + 1 : Nat) : Int), true)) else none) else none) = _
    rw [if_pos rfl, if_pos (by omega), bt_nb, nb_ext hc.2 (by omega), Nat.add_zero]
    have hb2 := nb_lt b at_
    generalize nb b at_ = c at hb2 ⊢
    by_cases h1 : c ≤ 1
    · rw [if_neg (by omega), if_pos ⟨by omega, h1⟩]
      have : (((c : Nat) : Int) == 1) = (c == 1) := by
        by_cases h2 : c = 1
        · subst h2; rfl
        · rw [beq_eq_false_iff_ne.2 h2, beq_eq_false_iff_ne.2 (by omega)]
      rw [this]
    · rw [if_pos (by omega), if_neg (fun h => h1 h.2), w64' (by omega) (by omega)]
      have : ((at_ + 1 : Nat) : Int) - 1 = (at_ : Int) := by omega
      rw [this]
      rfl
  · have hk : rdK b at_ ok 1 = (ByteArray.empty, at_, false) := if_neg hc
    have hB : rdB 0 1 b at_ ok = (0, at_, false) := if_neg (fun h => hc ⟨h.1, by omega⟩)
    rw [hk, hB]
    rfl
/-! ### the store's reader -/
theorem st_take (b : ByteArray) (at_ : Nat) (ok : Bool) (n : Nat) (hb : b.size ≤ 1048576) (ha : at_ ≤ b.size) (hn : n < 9223372036854775808) :
    store_reader_take.f b (at_ : Int) ok (n : Int) = some ((rdK b at_ ok n).1, (rdK b at_ ok n).2.2, b, ((rdK b at_ ok n).2.1 : Int), (rdK b at_ ok n).2.2) := by
  unfold store_reader_take.f rdK
  cases ok with
  | true =>
    rw [if_pos rfl, w64' (a := (b.size : Int) - (at_ : Int)) (by omega) (by omega)]
    by_cases h : n + at_ ≤ b.size
    · have e : wrap64 ((at_ : Int) + (n : Int)) = ((at_ + n : Nat) : Int) := by rw [w64' (by omega) (by omega)]; omega
      have e2 : wrap64 (((at_ + n : Nat) : Int) - (n : Int)) = (at_ : Int) := by rw [w64' (by omega) (by omega)]; omega
      rw [if_neg (by omega), e, e2, if_pos (by omega), if_pos (by omega), if_pos (by omega), if_pos ⟨rfl, h⟩, Int.toNat_natCast, Int.toNat_natCast]
    · rw [if_pos (by omega), if_neg (fun hh => h hh.2)]
      rfl
  | false =>
    rw [if_neg (by simp), if_neg (by simp)]
    rfl
theorem and_127f : ∀ x : Fin 256, Go.bits .and .u8 ((x.val : Nat) : Int) 127 = ((x.val % 128 : Nat) : Int) := by decide +kernel
theorem and_127 {c : Nat} (h : c < 256) : Go.bits .and .u8 (c : Int) 127 = ((c % 128 : Nat) : Int) := and_127f ⟨c, h⟩
theorem or_nat {n m : Nat} (hn : n < 18446744073709551616) (hm : m < 18446744073709551616) : Go.bits .or .u64 (n : Int) (m : Int) = ((n ||| m : Nat) : Int) := by
  have h : n ||| m < 2 ^ 64 := Nat.or_lt_two_pow hn hm
  unfold Go.bits
  have e1 : (BitVec.ofInt IntKind.u64.bits (n : Int)).toNat = n := by
    rw [BitVec.ofInt_natCast, BitVec.toNat_ofNat]
    exact Nat.mod_eq_of_lt hn
  have e2 : (BitVec.ofInt IntKind.u64.bits (m : Int)).toNat = m := by
    rw [BitVec.ofInt_natCast, BitVec.toNat_ofNat]
    exact Nat.mod_eq_of_lt hm
  show IntKind.u64.wrap ((BitVec.ofInt IntKind.u64.bits (n : Int) ||| BitVec.ofInt IntKind.u64.bits (m : Int)).toNat : Int) = _
  rw [BitVec.toNat_or, e1, e2]
  exact wu (by omega) (by omega)
theorem or_add {n y s : Nat} (hn : n < 2 ^ s) (hm : n + 2 ^ s * y < 18446744073709551616) : Go.bits .or .u64 (n : Int) ((2 ^ s * y : Nat) : Int) = ((n + 2 ^ s * y : Nat) : Int) := by
  rw [or_nat (by omega) (by omega), Nat.or_comm, ← Nat.two_pow_add_eq_or_of_lt hn, Nat.add_comm]
theorem shl_nat {y s : Nat} (hs : s ≤ 63) (h : 2 ^ s * y < 18446744073709551616) : shl .u64 (y : Int) (s : Int) = ((2 ^ s * y : Nat) : Int) := by
  unfold shl
  have e : min (s : Int).toNat IntKind.u64.bits = s := by
    rw [Int.toNat_natCast]
    exact Nat.min_eq_left (by show s ≤ 64; omega)
  rw [e, show ((y : Int) * 2 ^ s) = ((2 ^ s * y : Nat) : Int) from by rw [Nat.mul_comm]; simp]
  exact wu (by omega) (by omega)
theorem pow128 (i : Nat) : 128 ^ i = 2 ^ (7 * i) := by rw [Nat.pow_mul]
end Go.Proofs.YtjgccbpdpnpfjaaDoor.ST
