/- store: what the readers answer, in plain Lean; the reference's reader. -/
import Derived.Test.YtjgccbpdpnpfjaaDoorStoreEncPure
import Derived.Test.YtjgccbpdpnpfjaaDoorPAllx8
import Derived.Test.YtjgccbpdpnpfjaaDoorPAllx10
namespace Go.Proofs.YtjgccbpdpnpfjaaDoor.ST
open Go.RowKit Go.Proofs.YtjgccbpdpnpfjaaDoorW.PrintWords Go.Proofs.YtjgccbpdpnpfjaaDoorW.PrintLast Go.Proofs.YtjgccbpdpnpfjaaDoorW.PrintMore Go.Proofs.YtjgccbpdpnpfjaaDoor.PAll
set_option linter.unusedVariables false
set_option linter.unusedSimpArgs false

def nb (b : ByteArray) (i : Nat) : Nat := (bt b (i : Int)).toNat
theorem bt_nb (b : ByteArray) (i : Nat) : bt b (i : Int) = (nb b i : Int) := by
  unfold nb bt
  split <;> simp
theorem nb_lt (b : ByteArray) (i : Nat) : nb b i < 256 := by
  unfold nb bt
  split
  · simp only [Int.toNat_natCast]
    exact UInt8.toNat_lt _
  · simp
theorem w64' {a : Int} (h0 : -9223372036854775808 ≤ a) (h1 : a ≤ 9223372036854775807) : wrap64 a = a := by unfold wrap64; omega
theorem wu {a : Int} (h0 : 0 ≤ a) (h1 : a < 18446744073709551616) : IntKind.u64.wrap a = a := by rw [wrap_u64]; omega
/-- a count: how many bytes may yet come, the byte's number, what was gathered -/
def dcl (b : ByteArray) (at_ : Nat) : Nat → Nat → Nat → Option (Nat × Nat)
  | 0, _, _ => none
  | d + 1, i, n => if at_ + i < b.size then (if nb b (at_ + i) < 128 then (if nb b (at_ + i) = 0 ∧ 0 < i then none else some (n + 128 ^ i * nb b (at_ + i), at_ + i + 1)) else dcl b at_ d (i + 1) (n + 128 ^ i * (nb b (at_ + i) % 128))) else none
def dcnt (b : ByteArray) (at_ : Nat) : Option (Nat × Nat) := dcl b at_ 9 0 0
abbrev Sv (α : Type) := α × Nat × Bool
def rdC (b : ByteArray) (at_ : Nat) (ok : Bool) : Sv Nat :=
  if ok then (match dcnt b at_ with | some (n, a) => (n, a, true) | none => (0, at_, false)) else (0, at_, false)
def rdK (b : ByteArray) (at_ : Nat) (ok : Bool) (n : Nat) : Sv ByteArray :=
  if ok = true ∧ n + at_ ≤ b.size then (b.extract at_ (at_ + n), at_ + n, true) else (ByteArray.empty, at_, false)
def w8 (b : ByteArray) (at_ : Nat) : Nat → Nat
  | 0 => 0
  | d + 1 => w8 b at_ d + 256 ^ d * nb b (at_ + d)
def rdW (b : ByteArray) (at_ : Nat) (ok : Bool) : Sv Nat :=
  if ok = true ∧ 8 + at_ ≤ b.size then (w8 b at_ 8, at_ + 8, true) else (0, at_, false)
def rdT (b : ByteArray) (at_ : Nat) (ok : Bool) : Sv ByteArray := rdK b (rdC b at_ ok).2.1 (rdC b at_ ok).2.2 (rdC b at_ ok).1
def rdB (least most : Nat) (b : ByteArray) (at_ : Nat) (ok : Bool) : Sv Nat :=
  if ok = true ∧ at_ + 1 ≤ b.size then (if least ≤ nb b at_ ∧ nb b at_ ≤ most then (nb b at_, at_ + 1, true) else (0, at_, false)) else (0, at_, false)
theorem dcl_lt (b : ByteArray) (at_ : Nat) : ∀ d i n x, n < 128 ^ i → dcl b at_ d i n = some x → x.1 < 128 ^ (i + d) ∧ at_ + i < x.2 ∧ x.2 ≤ b.size := by
  intro d
  induction d with
  | zero => intro i n x _ h; simp [dcl] at h
  | succ d ih =>
    intro i n x hn h
    rw [dcl] at h
    by_cases h1 : at_ + i < b.size
    · rw [if_pos h1] at h
      have hp : 128 ^ (i + 1) = 128 ^ i * 128 := Nat.pow_succ ..
      have hle : ∀ y, y < 128 → n + 128 ^ i * y < 128 ^ (i + 1) := by
        intro y hy
        have : 128 ^ i * y ≤ 128 ^ i * 127 := Nat.mul_le_mul_left _ (by omega)
        omega
      by_cases h2 : nb b (at_ + i) < 128
      · rw [if_pos h2] at h
        split at h
        · cases h
        · injection h with h
          subst h
          refine ⟨Nat.lt_of_lt_of_le (hle _ h2) (Nat.pow_le_pow_right (by omega) (by omega)), by show at_ + i < at_ + i + 1; omega, by show at_ + i + 1 ≤ b.size; omega⟩
      · rw [if_neg h2] at h
        have := ih (i + 1) _ x (hle _ (Nat.mod_lt _ (by omega))) h
        rw [show i + 1 + d = i + (d + 1) by omega] at this
        exact ⟨this.1, by omega, this.2.2⟩
    · rw [if_neg h1] at h
      cases h
theorem dcnt_lt {b : ByteArray} {at_ n a : Nat} (h : dcnt b at_ = some (n, a)) : n < 9223372036854775808 ∧ at_ < a ∧ a ≤ b.size := by
  have := dcl_lt b at_ 9 0 0 (n, a) (by decide) h
  exact ⟨this.1, by have := this.2.1; simpa using this, this.2.2⟩
theorem rdC_ok {b : ByteArray} {at_ : Nat} {ok : Bool} (h : at_ ≤ b.size) : (rdC b at_ ok).1 < 9223372036854775808 ∧ at_ ≤ (rdC b at_ ok).2.1 ∧ (rdC b at_ ok).2.1 ≤ b.size := by
  unfold rdC
  split
  · split
    · rename_i n a he
      have := dcnt_lt he
      exact ⟨this.1, by show at_ ≤ a; omega, this.2.2⟩
    · exact ⟨by show 0 < 9223372036854775808; decide, Nat.le_refl _, h⟩
  · exact ⟨by show 0 < 9223372036854775808; decide, Nat.le_refl _, h⟩
theorem rdK_ok {b : ByteArray} {at_ n : Nat} {ok : Bool} (h : at_ ≤ b.size) : at_ ≤ (rdK b at_ ok n).2.1 ∧ (rdK b at_ ok n).2.1 ≤ b.size := by
  unfold rdK
  split
  · rename_i hh
    exact ⟨by show at_ ≤ at_ + n; omega, by show at_ + n ≤ b.size; omega⟩
  · exact ⟨Nat.le_refl _, h⟩
theorem rdW_ok {b : ByteArray} {at_ : Nat} {ok : Bool} (h : at_ ≤ b.size) : at_ ≤ (rdW b at_ ok).2.1 ∧ (rdW b at_ ok).2.1 ≤ b.size ∧ ((rdW b at_ ok).2.2 = true → at_ + 8 ≤ (rdW b at_ ok).2.1) := by
  unfold rdW
  split
  · rename_i hh
    exact ⟨by show at_ ≤ at_ + 8; omega, by show at_ + 8 ≤ b.size; omega, fun _ => Nat.le_refl _⟩
  · exact ⟨Nat.le_refl _, h, fun he => by cases he⟩
theorem rdT_ok {b : ByteArray} {at_ : Nat} {ok : Bool} (h : at_ ≤ b.size) : at_ ≤ (rdT b at_ ok).2.1 ∧ (rdT b at_ ok).2.1 ≤ b.size := by
  have h1 := rdC_ok (ok := ok) h
  have h2 := rdK_ok (n := (rdC b at_ ok).1) (ok := (rdC b at_ ok).2.2) h1.2.2
  exact ⟨Nat.le_trans h1.2.1 h2.1, h2.2⟩
theorem rdB_ok {l m : Nat} {b : ByteArray} {at_ : Nat} {ok : Bool} (h : at_ ≤ b.size) : at_ ≤ (rdB l m b at_ ok).2.1 ∧ (rdB l m b at_ ok).2.1 ≤ b.size ∧ ((rdB l m b at_ ok).2.2 = true → at_ + 1 ≤ (rdB l m b at_ ok).2.1) := by
  unfold rdB
  split
  · rename_i hh
    split
    · exact ⟨by show at_ ≤ at_ + 1; omega, hh.2, fun _ => Nat.le_refl _⟩
    · exact ⟨Nat.le_refl _, h, fun he => by cases he⟩
  · exact ⟨Nat.le_refl _, h, fun he => by cases he⟩
/-- what is not well stays so, and nothing is read -/
theorem rdC_no (b : ByteArray) (at_ : Nat) : rdC b at_ false = (0, at_, false) := rfl
theorem pow_nat (i : Nat) : ((128 ^ i : Nat) : Int) = (128 : Int) ^ i := by simp

/-! ### the reference's reader -/
theorem num_l0 (b : ByteArray) (at_ : Nat) (hb : b.size ≤ 1048576) (ha : at_ ≤ b.size) : ∀ (d i n k : Nat), i + d = 9 → 2 * d + 2 ≤ k → n < 128 ^ i →
    trellisref33_Reader_num.l0 k (n : Int) ((128 ^ i : Nat) : Int) (i : Int) b (at_ : Int) true = some (match dcl b at_ d i n with | some (x, a) => ((x : Int), b, (a : Int), true) | none => (0, b, (at_ : Int), false)) := by
  intro d
  induction d with
  | zero =>
    intro i n k hi hk hn
    obtain rfl : i = 9 := by omega
    obtain ⟨k, rfl⟩ : ∃ k', k = k' + 2 := ⟨k - 2, by omega⟩
    rw [trellisref33_Reader_num.l0, if_pos rfl]
    split
    · rw [trellisref33_Reader_num.j1, if_pos rfl]; rfl
    · rw [trellisref33_Reader_num.j1, if_pos (by decide)]; rfl
  | succ d ih =>
    intro i n k hi hk hn
    obtain ⟨k, rfl⟩ : ∃ k', k = k' + 2 := ⟨k - 2, by omega⟩
    have e : wrap64 ((at_ : Int) + (i : Int)) = ((at_ + i : Nat) : Int) := by rw [w64' (by omega) (by omega)]; omega
    have e2 : wrap64 ((i : Int) + 1) = ((i + 1 : Nat) : Int) := by rw [w64' (by omega) (by omega)]; omega
    have hp : 128 ^ (i + 1) = 128 ^ i * 128 := Nat.pow_succ ..
    have hp8 : 128 ^ i ≤ 128 ^ 8 := Nat.pow_le_pow_right (by omega) (by omega)
    have h8 : 128 ^ 8 = 72057594037927936 := by decide
    rw [trellisref33_Reader_num.l0, if_pos rfl, dcl, e]
    by_cases h1 : at_ + i < b.size
    · rw [if_neg (by omega), if_pos h1, trellisref33_Reader_num.j1, if_neg (by simp; omega), e, if_pos (by omega), if_pos (by omega), bt_nb]
      have hb2 := nb_lt b (at_ + i)
      generalize nb b (at_ + i) = c at hb2 ⊢
      have hm : Int.tmod (c : Int) 128 = ((c % 128 : Nat) : Int) := rfl
      have hc : IntKind.u64.wrap ((c % 128 : Nat) : Int) = ((c % 128 : Nat) : Int) := wu (by omega) (by omega)
      have hlt : c % 128 < 128 := Nat.mod_lt _ (by omega)
      have hmul : 128 ^ i * (c % 128) ≤ 128 ^ i * 127 := Nat.mul_le_mul_left _ (by omega)
      have hx : IntKind.u64.wrap (((128 ^ i : Nat) : Int) * ((c % 128 : Nat) : Int)) = ((128 ^ i * (c % 128) : Nat) : Int) := by
        rw [← Int.natCast_mul]
        exact wu (by omega) (by omega)
      have hs : IntKind.u64.wrap ((n : Int) + ((128 ^ i * (c % 128) : Nat) : Int)) = ((n + 128 ^ i * (c % 128) : Nat) : Int) := by
        rw [wu (by omega) (by omega)]
        omega
      have hq : IntKind.u64.wrap (((128 ^ i : Nat) : Int) * 128) = ((128 ^ (i + 1) : Nat) : Int) := by
        rw [hp, wu (by omega) (by omega)]
        omega
      rw [hm, hc, hx, hs, hq, e2]
      by_cases h2 : c < 128
      · have hcc : c % 128 = c := Nat.mod_eq_of_lt h2
        rw [if_pos (by omega), if_pos h2]
        have e3 : wrap64 (((at_ + i : Nat) : Int) + 1) = ((at_ + i + 1 : Nat) : Int) := by rw [w64' (by omega) (by omega)]; omega
        have e4 : wrap64 ((n + 128 ^ i * (c % 128) : Nat) : Int) = ((n + 128 ^ i * (c % 128) : Nat) : Int) := w64' (by omega) (by omega)
        rw [e3, e4, hcc]
        by_cases h3 : c = 0
        · rw [if_pos (by omega)]
          by_cases h4 : 0 < i
          · rw [if_pos (by omega), if_pos ⟨h3, h4⟩]
          · rw [if_neg (by omega), if_neg (fun h => h4 h.2)]
        · rw [if_neg (by omega), if_neg (fun h => h3 h.1)]
      · rw [if_neg (by omega), if_neg h2]
        exact ih (i + 1) _ k (by omega) (by omega) (by omega)
    · rw [if_pos (by omega), if_neg h1, trellisref33_Reader_num.j1, if_pos rfl]
theorem ref_num (b : ByteArray) (at_ : Nat) (ok : Bool) (k : Nat) (hb : b.size ≤ 1048576) (ha : at_ ≤ b.size) (hk : 20 ≤ k) :
    trellisref33_Reader_num.f k b (at_ : Int) ok = some (((rdC b at_ ok).1 : Int), b, ((rdC b at_ ok).2.1 : Int), (rdC b at_ ok).2.2) := by
  unfold trellisref33_Reader_num.f
  cases ok with
  | true =>
    have h := num_l0 b at_ hb ha 9 0 0 k rfl (by omega) (by decide)
    have h' : trellisref33_Reader_num.l0 k 0 1 0 b (at_ : Int) true = _ := h
    rw [h', rdC, if_pos rfl]
    show some (match dcnt b at_ with | some (x, a) => ((x : Int), b, (a : Int), true) | none => (0, b, (at_ : Int), false)) = _
    cases dcnt b at_ with
    | none => rfl
    | some x => rfl
  | false =>
    obtain ⟨k, rfl⟩ : ∃ k', k = k' + 1 := ⟨k - 1, by omega⟩
    rw [trellisref33_Reader_num.l0, if_neg (by simp)]
    rfl
theorem ref_bytes (b : ByteArray) (at_ : Nat) (ok : Bool) (n : Nat) (hb : b.size ≤ 1048576) (ha : at_ ≤ b.size) (hn : n < 9223372036854775808) :
    trellisref33_Reader_bytes.f b (at_ : Int) ok (n : Int) = some ((rdK b at_ ok n).1, b, ((rdK b at_ ok n).2.1 : Int), (rdK b at_ ok n).2.2) := by
  unfold trellisref33_Reader_bytes.f rdK
  cases ok with
  | true =>
    rw [if_pos rfl, w64' (a := (b.size : Int) - (at_ : Int)) (by omega) (by omega)]
    by_cases h : n + at_ ≤ b.size
    · have e : wrap64 ((at_ : Int) + (n : Int)) = ((at_ + n : Nat) : Int) := by rw [w64' (by omega) (by omega)]; omega
      rw [if_neg (by omega), if_pos (by omega), e, if_pos (by omega), if_pos (by omega), if_pos ⟨rfl, h⟩, Int.toNat_natCast, Int.toNat_natCast]
    · rw [if_pos (by omega), if_neg (fun hh => h hh.2)]
      rfl
  | false =>
    rw [if_neg (by simp), if_neg (by simp)]
    rfl
theorem ref_text (b : ByteArray) (at_ : Nat) (ok : Bool) (k : Nat) (hb : b.size ≤ 1048576) (ha : at_ ≤ b.size) (hk : 20 ≤ k) :
    trellisref33_Reader_text.f k b (at_ : Int) ok = some ((rdT b at_ ok).1, b, ((rdT b at_ ok).2.1 : Int), (rdT b at_ ok).2.2) := by
  have h1 := rdC_ok (ok := ok) ha
  unfold trellisref33_Reader_text.f
  rw [ref_num b at_ ok k hb ha hk]
  show (trellisref33_Reader_bytes.f b ((rdC b at_ ok).2.1 : Int) (rdC b at_ ok).2.2 ((rdC b at_ ok).1 : Int)).bind _ = _
  rw [ref_bytes b _ _ _ hb h1.2.2 h1.1]
  rfl
end Go.Proofs.YtjgccbpdpnpfjaaDoor.ST
