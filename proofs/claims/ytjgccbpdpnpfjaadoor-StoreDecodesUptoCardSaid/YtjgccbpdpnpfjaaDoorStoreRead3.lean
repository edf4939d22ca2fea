/- store: what the store's own reader answers: counts, words, texts, leaves, nodes. -/
import Derived.Test.YtjgccbpdpnpfjaaDoorStoreRead2
namespace Go.Proofs.YtjgccbpdpnpfjaaDoor.ST
open Go.RowKit Go.Proofs.YtjgccbpdpnpfjaaDoorW.PrintWords Go.Proofs.YtjgccbpdpnpfjaaDoorW.PrintLast Go.Proofs.YtjgccbpdpnpfjaaDoorW.PrintMore Go.Proofs.YtjgccbpdpnpfjaaDoor.PAll
set_option linter.unusedVariables false
set_option linter.unusedSimpArgs false

theorem cnt_fail (b : ByteArray) (at_ : Nat) (x : Int) (k : Nat) (hk : 2 ≤ k) : store_reader_count.l0 k x 10 b (at_ : Int) true = some (0, b, (at_ : Int), false) := by
  obtain ⟨k, rfl⟩ : ∃ k', k = k' + 2 := ⟨k - 2, by omega⟩
  rw [store_reader_count.l0, if_neg (by decide), store_reader_count.j1, if_neg (by decide)]
theorem cnt_l0 (b : ByteArray) (at_ : Nat) (hb : b.size ≤ 1048576) (ha : at_ ≤ b.size) : ∀ (d i n k : Nat), i + d = 9 → 2 * d + 4 ≤ k → n < 128 ^ i →
    store_reader_count.l0 k (n : Int) (i : Int) b (at_ : Int) true = some (match dcl b at_ d i n with | some (x, a) => ((x : Int), b, (a : Int), true) | none => (0, b, (at_ : Int), false)) := by
  intro d
  induction d with
  | zero =>
    intro i n k hi hk hn
    obtain rfl : i = 9 := by omega
    obtain ⟨k, rfl⟩ : ∃ k', k = k' + 4 := ⟨k - 4, by omega⟩
    have e : wrap64 ((at_ : Int) + ((9 : Nat) : Int)) = ((at_ + 9 : Nat) : Int) := by rw [w64' (by omega) (by omega)]; omega
    have e7 : wrap64 (7 * ((9 : Nat) : Int)) = 63 := by rw [w64' (by omega) (by omega)]; rfl
    have e10 : wrap64 (((9 : Nat) : Int) + 1) = 10 := by rw [w64' (by omega) (by omega)]; rfl
    rw [store_reader_count.l0, if_pos (by decide), store_reader_count.j1, e, e7, e10]
    by_cases h1 : at_ + 9 < b.size
    · rw [decide_eq_true (by omega), if_pos rfl, if_pos (by omega), if_pos (by omega), if_pos (by decide)]
      by_cases h2 : bt b ((at_ + 9 : Nat) : Int) ≥ 128
      · rw [if_pos h2]
        exact cnt_fail b at_ _ _ (by omega)
      · rw [if_neg h2]
        split
        · rfl
        · rw [if_pos (by decide)]
          rfl
    · rw [decide_eq_false (by omega), if_neg (by decide)]
      rfl
  | succ d ih =>
    intro i n k hi hk hn
    obtain ⟨k, rfl⟩ : ∃ k', k = k' + 2 := ⟨k - 2, by omega⟩
    have e : wrap64 ((at_ : Int) + (i : Int)) = ((at_ + i : Nat) : Int) := by rw [w64' (by omega) (by omega)]; omega
    have e7 : wrap64 (7 * (i : Int)) = ((7 * i : Nat) : Int) := by rw [w64' (by omega) (by omega)]; omega
    have e2 : wrap64 ((i : Int) + 1) = ((i + 1 : Nat) : Int) := by rw [w64' (by omega) (by omega)]; omega
    have hp : 128 ^ (i + 1) = 128 ^ i * 128 := Nat.pow_succ ..
    have hp8 : 128 ^ i ≤ 128 ^ 8 := Nat.pow_le_pow_right (by omega) (by omega)
    have h8 : 128 ^ 8 = 72057594037927936 := by decide
    rw [store_reader_count.l0, if_pos (by omega), store_reader_count.j1, dcl, e, e7, e2]
    by_cases h1 : at_ + i < b.size
    · rw [decide_eq_true (by omega), if_pos rfl, if_pos (by omega), if_pos (by omega), if_pos (by omega), if_pos h1, bt_nb]
      have hb2 := nb_lt b (at_ + i)
      generalize nb b (at_ + i) = c at hb2 ⊢
      have hlt : c % 128 < 128 := Nat.mod_lt _ (by omega)
      have hmul : 128 ^ i * (c % 128) ≤ 128 ^ i * 127 := Nat.mul_le_mul_left _ (by omega)
      have h127 : Go.bits .and .u8 (c : Int) 127 = ((c % 128 : Nat) : Int) := and_127 hb2
      have hw : IntKind.u64.wrap ((c % 128 : Nat) : Int) = ((c % 128 : Nat) : Int) := wu (by omega) (by omega)
      have hsh : shl .u64 ((c % 128 : Nat) : Int) ((7 * i : Nat) : Int) = ((2 ^ (7 * i) * (c % 128) : Nat) : Int) := shl_nat (by omega) (by rw [← pow128]; omega)
      have hor : Go.bits .or .u64 (n : Int) ((2 ^ (7 * i) * (c % 128) : Nat) : Int) = ((n + 128 ^ i * (c % 128) : Nat) : Int) := by
        rw [pow128] at hn hmul hp8 ⊢
        exact or_add hn (by omega)
      rw [h127, hw, hsh, hor]
      by_cases h2 : c < 128
      · have hcc : c % 128 = c := Nat.mod_eq_of_lt h2
        have e3 : wrap64 ((at_ : Int) + ((i + 1 : Nat) : Int)) = ((at_ + i + 1 : Nat) : Int) := by rw [w64' (by omega) (by omega)]; omega
        rw [if_neg (by omega), if_neg (by omega), if_neg (by omega), if_pos h2, e3]
        by_cases h4 : 0 < i
        · rw [if_pos (by omega)]
          by_cases h3 : c = 0
          · rw [if_pos (by omega), if_pos ⟨h3, h4⟩]
          · rw [if_neg (by omega), if_neg (fun h => h3 h.1), hcc]
        · rw [if_neg (by omega), if_neg (fun h => h4 h.2), hcc]
      · rw [if_pos (by omega), if_neg h2]
        exact ih (i + 1) _ k (by omega) (by omega) (by omega)
    · rw [decide_eq_false (by omega), if_neg (by decide), if_neg h1]
theorem st_count (b : ByteArray) (at_ : Nat) (ok : Bool) (k : Nat) (hb : b.size ≤ 1048576) (ha : at_ ≤ b.size) (hk : 30 ≤ k) :
    store_reader_count.f k b (at_ : Int) ok = some (((rdC b at_ ok).1 : Int), b, ((rdC b at_ ok).2.1 : Int), (rdC b at_ ok).2.2) := by
  unfold store_reader_count.f
  cases ok with
  | true =>
    have h := cnt_l0 b at_ hb ha 9 0 0 k rfl (by omega) (by decide)
    have h' : store_reader_count.l0 k 0 0 b (at_ : Int) true = _ := h
    rw [if_pos rfl, h', rdC, if_pos rfl]
    show some (match dcnt b at_ with | some (x, a) => ((x : Int), b, (a : Int), true) | none => (0, b, (at_ : Int), false)) = _
    cases dcnt b at_ with
    | none => rfl
    | some x => rfl
  | false => rfl
theorem st_number (b : ByteArray) (at_ : Nat) (ok : Bool) (k : Nat) (hb : b.size ≤ 1048576) (ha : at_ ≤ b.size) (hk : 30 ≤ k) :
    store_reader_number.f k b (at_ : Int) ok = some (((rdC b at_ ok).1 : Int), b, ((rdC b at_ ok).2.1 : Int), (rdC b at_ ok).2.2) := by
  have h := (rdC_ok (ok := ok) ha).1
  unfold store_reader_number.f
  rw [st_count b at_ ok k hb ha hk]
  show some (wrap64 ((rdC b at_ ok).1 : Int), _, _, _) = _
  rw [w64' (by omega) (by omega)]
theorem st_text (b : ByteArray) (at_ : Nat) (ok : Bool) (k : Nat) (hb : b.size ≤ 1048576) (ha : at_ ≤ b.size) (hk : 30 ≤ k) :
    store_reader_text.f k b (at_ : Int) ok = some ((rdT b at_ ok).1, b, ((rdT b at_ ok).2.1 : Int), (rdT b at_ ok).2.2) := by
  have h1 := rdC_ok (ok := ok) ha
  unfold store_reader_text.f
  rw [st_number b at_ ok k hb ha hk]
  show (store_reader_take.f b ((rdC b at_ ok).2.1 : Int) (rdC b at_ ok).2.2 ((rdC b at_ ok).1 : Int)).bind _ = _
  rw [st_take b _ _ _ hb h1.2.2 h1.1]
  rfl
theorem word_up (s b' : ByteArray) (a : Int) (o : Bool) (hs : s.size = 8) : ∀ (d i k : Nat), i + d = 8 → d < k →
    store_reader_word.l0 k s ((w8 s 0 i : Nat) : Int) (i : Int) b' a o = some (((w8 s 0 8 : Nat) : Int), b', a, o) := by
  intro d
  induction d with
  | zero =>
    intro i k hi hk
    obtain rfl : i = 8 := by omega
    obtain ⟨k, rfl⟩ : ∃ k', k = k' + 1 := ⟨k - 1, by omega⟩
    rw [store_reader_word.l0, if_neg (by decide)]
  | succ d ih =>
    intro i k hi hk
    obtain ⟨k, rfl⟩ : ∃ k', k = k' + 1 := ⟨k - 1, by omega⟩
    have e7 : wrap64 (8 * (i : Int)) = ((8 * i : Nat) : Int) := by rw [w64' (by omega) (by omega)]; omega
    have e2 : wrap64 ((i : Int) + 1) = ((i + 1 : Nat) : Int) := by rw [w64' (by omega) (by omega)]; omega
    have hp : 256 ^ (i + 1) = 256 ^ i * 256 := Nat.pow_succ ..
    have hp8 := pow256 (i + 1) (by omega)
    have hpw : 256 ^ i = 2 ^ (8 * i) := by rw [Nat.pow_mul]
    have hb2 := nb_lt s i
    have hlt := w8_lt s 0 i
    have hmul : 256 ^ i * nb s i ≤ 256 ^ i * 255 := Nat.mul_le_mul_left _ (by omega)
    rw [store_reader_word.l0, if_pos (by omega), if_pos (by omega), if_pos (by omega), e7, e2, if_pos (by omega), bt_nb, wu (a := ((nb s i : Nat) : Int)) (by omega) (by omega), shl_nat (by omega) (by rw [← hpw]; omega)]
    have hor : Go.bits .or .u64 ((w8 s 0 i : Nat) : Int) ((2 ^ (8 * i) * nb s i : Nat) : Int) = ((w8 s 0 (i + 1) : Nat) : Int) := by
      rw [w8, Nat.zero_add]
      rw [hp, hpw] at hp8
      rw [hpw] at hlt hmul ⊢
      exact or_add hlt (by omega)
    rw [hor]
    exact ih (i + 1) k (by omega) (by omega)
theorem st_word (b : ByteArray) (at_ : Nat) (ok : Bool) (k : Nat) (hb : b.size ≤ 1048576) (ha : at_ ≤ b.size) (hk : 30 ≤ k) :
    store_reader_word.f k b (at_ : Int) ok = some (((rdW b at_ ok).1 : Int), b, ((rdW b at_ ok).2.1 : Int), (rdW b at_ ok).2.2) := by
  unfold store_reader_word.f
  have h' : store_reader_take.f b (at_ : Int) ok 8 = _ := st_take b at_ ok 8 hb ha (by omega)
  rw [h']
  show (if (rdK b at_ ok 8).2.2 = true then store_reader_word.l0 k (rdK b at_ ok 8).1 0 0 b ((rdK b at_ ok 8).2.1 : Int) (rdK b at_ ok 8).2.2 else some (0, b, ((rdK b at_ ok 8).2.1 : Int), (rdK b at_ ok 8).2.2)) = _
  by_cases hc : ok = true ∧ 8 + at_ ≤ b.size
  · have hk' : rdK b at_ ok 8 = (b.extract at_ (at_ + 8), at_ + 8, true) := if_pos hc
    have hW : rdW b at_ ok = (w8 b at_ 8, at_ + 8, true) := if_pos hc
    rw [hk', hW, if_pos rfl]
    have h2 := word_up (b.extract at_ (at_ + 8)) b ((at_ + 8 : Nat) : Int) true (ext_size hc.2) 8 0 k (by omega) (by omega)
    rw [w8_ext hc.2 8 (Nat.le_refl _)] at h2
    exact h2
  · have hk' : rdK b at_ ok 8 = (ByteArray.empty, at_, false) := if_neg hc
    have hW : rdW b at_ ok = (0, at_, false) := if_neg hc
    rw [hk', hW]
    rfl
theorem st_one (l m : Nat) (b : ByteArray) (at_ : Nat) (ok : Bool) (k : Nat) (hb : b.size ≤ 1048576) (ha : at_ ≤ b.size) (hk : 30 ≤ k) :
    store_reader_one.f k b (at_ : Int) ok (l : Int) (m : Int) = some (((rdB l m b at_ ok).1 : Int), b, ((rdB l m b at_ ok).2.1 : Int), (rdB l m b at_ ok).2.2) := by
  obtain ⟨k, rfl⟩ : ∃ k', k = k' + 1 := ⟨k - 1, by omega⟩
  unfold store_reader_one.f
  have h' : store_reader_take.f b (at_ : Int) ok 1 = _ := st_take b at_ ok 1 hb ha (by omega)
  rw [h']
  by_cases hc : ok = true ∧ 1 + at_ ≤ b.size
  · have hk' : rdK b at_ ok 1 = (b.extract at_ (at_ + 1), at_ + 1, true) := if_pos hc
    have hB : rdB l m b at_ ok = if l ≤ nb b at_ ∧ nb b at_ ≤ m then (nb b at_, at_ + 1, true) else (0, at_, false) := if_pos ⟨hc.1, by omega⟩
    have hs := ext_size (a := at_) (n := 1) hc.2
    have e : wrap64 (((at_ + 1 : Nat) : Int) - 1) = (at_ : Int) := by rw [w64' (by omega) (by omega)]; omega
    have hbt : bt (b.extract at_ (at_ + 1)) 0 = ((nb b at_ : Nat) : Int) := by
      have := bt_nb (b.extract at_ (at_ + 1)) 0
      rw [nb_ext hc.2 (by omega), Nat.add_zero] at this
      exact this
    rw [hk', hB]
    show (if true = true then (if 0 < ((b.extract at_ (at_ + 1)).size : Int) then (if bt (b.extract at_ (at_ + 1)) 0 < (l : Int) then store_reader_one.j0 (k + 1) (b.extract at_ (at_ + 1)) true true b ((at_ + 1 : Nat) : Int) true else store_reader_one.j0 (k + 1) (b.extract at_ (at_ + 1)) true (decide (bt (b.extract at_ (at_ + 1)) 0 > (m : Int))) b ((at_ + 1 : Nat) : Int) true) else none) else none) = _
    rw [if_pos rfl, if_pos (by omega), store_reader_one.j0, store_reader_one.j0, e, hbt]
    generalize nb b at_ = c
    by_cases h1 : c < l
    · rw [if_pos (by omega), if_pos rfl, if_neg (fun h => absurd h.1 (by omega))]
      rfl
    · rw [if_neg (by omega)]
      by_cases h2 : c > m
      · rw [decide_eq_true (by omega), if_pos rfl, if_neg (fun h => absurd h.2 (by omega))]
        rfl
      · rw [decide_eq_false (by omega), if_neg (by decide), if_pos rfl, if_pos (by omega), if_pos ⟨by omega, by omega⟩]
  · have hk' : rdK b at_ ok 1 = (ByteArray.empty, at_, false) := if_neg hc
    have hB : rdB l m b at_ ok = (0, at_, false) := if_neg (fun h => hc ⟨h.1, by omega⟩)
    rw [hk', hB]
    rfl
end Go.Proofs.YtjgccbpdpnpfjaaDoor.ST
