/- The characters of a row: the document's table of well formed UTF-8 is what a range over the string decodes: widths and units; and where the columns of units stand. -/
import Derived.Test.YtgefbbdahhoglaaText
namespace Go.Proofs.Ytgefbbdahhoglaa.PT
set_option linter.unusedVariables false
set_option linter.unusedSimpArgs false
open Go.RowKit Go.Proofs.YtgefbbdahhoglaaW.PrintWords Go.Proofs.YtgefbbdahhoglaaW.PrintLast Go.Proofs.YtgefbbdahhoglaaW.PrintMore Go.Proofs.Ytgefbbdahhoglaa.PAll

/-- width and units of the character at a place -/
def wdt (s : ByteArray) (i : Nat) : Nat := (Utf8.decode s i).2
def uts (s : ByteArray) (i : Nat) : Int := if 65536 ≤ ((Utf8.decode s i).1 : Int) then 2 else 1

def nb (s : ByteArray) (j : Nat) : Nat := (s.get! j).toNat
theorem nb_lt (s : ByteArray) (j : Nat) : nb s j < 256 := (s.get! j).toNat_lt
theorem bt_nb (s : ByteArray) (j : Nat) (h : j < s.size) : bt s (j : Int) = nb s j := by
  unfold bt nb
  have h' : ((j : Int).toNat) < s.size := by simpa using h
  rw [dif_pos h']
  simp only [Int.toNat_natCast]
  have := get_at s j h
  simp only [Nat.add_zero] at this
  rw [this]

def dec (b0 b1 b2 b3 : Nat) (c1 c2 c3 : Bool) : Nat × Nat :=
  if b0 < 0x80 then (b0, 1)
  else if b0 / 32 == 6 && c1 then
    if (b0 % 32) * 64 + b1 % 64 ≥ 0x80 then ((b0 % 32) * 64 + b1 % 64, 2) else (0xFFFD, 1)
  else if b0 / 16 == 14 && c1 && c2 then
    if (b0 % 16) * 4096 + (b1 % 64) * 64 + b2 % 64 ≥ 0x800 && Utf8.valid (((b0 % 16) * 4096 + (b1 % 64) * 64 + b2 % 64 : Nat) : Int) then ((b0 % 16) * 4096 + (b1 % 64) * 64 + b2 % 64, 3) else (0xFFFD, 1)
  else if b0 / 8 == 30 && c1 && c2 && c3 then
    if (b0 % 8) * 262144 + (b1 % 64) * 4096 + (b2 % 64) * 64 + b3 % 64 ≥ 0x10000 && Utf8.valid (((b0 % 8) * 262144 + (b1 % 64) * 4096 + (b2 % 64) * 64 + b3 % 64 : Nat) : Int) then ((b0 % 8) * 262144 + (b1 % 64) * 4096 + (b2 % 64) * 64 + b3 % 64, 4) else (0xFFFD, 1)
  else (0xFFFD, 1)
def cnt (s : ByteArray) (j : Nat) : Bool := decide (j < s.size) && nb s j / 64 == 2
theorem decode_eq (s : ByteArray) (i : Nat) : Utf8.decode s i = dec (nb s i) (nb s (i + 1)) (nb s (i + 2)) (nb s (i + 3)) (cnt s (i + 1)) (cnt s (i + 2)) (cnt s (i + 3)) := rfl

/-! ### the table -/
theorem fol_step (s : ByteArray) (hs : s.size ≤ 4294967296) (p : Nat) (lo hi : Int) (n j : Nat) (hp : p ≤ 4294967300) (hj : j < n) (hn : n ≤ 4) (k : Nat) :
    trellisref2_follows.l0 (k + 1) s (p : Int) lo hi (n : Int) (j : Int) = if p + j < s.size ∧ lo ≤ bt s ((p + j : Nat) : Int) ∧ bt s ((p + j : Nat) : Int) ≤ hi then trellisref2_follows.l0 k s (p : Int) 128 191 (n : Int) ((j + 1 : Nat) : Int) else some false := by
  simp only [trellisref2_follows.l0]
  rw [if_pos (by omega), w64 (i := (p : Int) + (j : Int)) (by omega) (by omega), w64 (i := (j : Int) + 1) (by omega) (by omega), show (p : Int) + (j : Int) = ((p + j : Nat) : Int) by omega, show (j : Int) + 1 = ((j + 1 : Nat) : Int) by omega]
  by_cases h1 : p + j < s.size
  · rw [if_neg (by omega), if_pos (by omega), if_pos (by omega)]
    by_cases h2 : bt s ((p + j : Nat) : Int) < lo
    · rw [if_pos h2, if_neg (by omega)]
    · rw [if_neg h2]
      by_cases h3 : bt s ((p + j : Nat) : Int) > hi
      · rw [if_pos h3, if_neg (by omega)]
      · rw [if_neg h3, if_pos ⟨h1, by omega, by omega⟩]
  · rw [if_pos (by omega), if_neg (by omega)]
theorem fol_end (s : ByteArray) (p : Nat) (lo hi : Int) (n : Nat) (k : Nat) : trellisref2_follows.l0 (k + 1) s (p : Int) lo hi (n : Int) (n : Int) = some true := by
  simp only [trellisref2_follows.l0]
  rw [if_neg (by omega)]
/-- the byte at j is there, and from lo to hi -/
def In (s : ByteArray) (j : Nat) (lo hi : Nat) : Prop := j < s.size ∧ lo ≤ nb s j ∧ nb s j ≤ hi
instance (s : ByteArray) (j lo hi : Nat) : Decidable (In s j lo hi) := by unfold In; infer_instance
theorem in_iff (s : ByteArray) (j lo hi : Nat) : (j < s.size ∧ (lo : Int) ≤ bt s (j : Int) ∧ bt s (j : Int) ≤ (hi : Int)) ↔ In s j lo hi := by
  unfold In
  constructor
  · rintro ⟨h, h1, h2⟩
    rw [bt_nb s j h] at h1 h2
    omega
  · rintro ⟨h, h1, h2⟩
    rw [bt_nb s j h]
    omega
theorem fol1 (s : ByteArray) (hs : s.size ≤ 4294967296) (p lo hi : Nat) (hp : p ≤ 4294967300) (k : Nat) : trellisref2_follows.f (k + 4) s (p : Int) (lo : Int) (hi : Int) 1 = some (decide (In s p lo hi)) := by
  unfold trellisref2_follows.f
  have h := fol_step s hs p lo hi 1 0 hp (by omega) (by omega) (k + 3)
  simp only [Nat.add_zero, in_iff] at h
  rw [show (0 : Int) = ((0 : Nat) : Int) from rfl, show (1 : Int) = ((1 : Nat) : Int) from rfl, h]
  by_cases c : In s p lo hi
  · rw [if_pos c, fol_end]; simp [c]
  · rw [if_neg c]; simp [c]
theorem fol2 (s : ByteArray) (hs : s.size ≤ 4294967296) (p lo hi : Nat) (hp : p ≤ 4294967300) (k : Nat) : trellisref2_follows.f (k + 4) s (p : Int) (lo : Int) (hi : Int) 2 = some (decide (In s p lo hi ∧ In s (p + 1) 128 191)) := by
  unfold trellisref2_follows.f
  have h := fol_step s hs p lo hi 2 0 hp (by omega) (by omega) (k + 3)
  have h1 := fol_step s hs p 128 191 2 1 hp (by omega) (by omega) (k + 2)
  have i1 := in_iff s (p + 1) 128 191
  simp only [Nat.add_zero, in_iff] at h
  simp only [show (128 : Int) = ((128 : Nat) : Int) from rfl, show (191 : Int) = ((191 : Nat) : Int) from rfl, in_iff] at h1 h
  rw [show (0 : Int) = ((0 : Nat) : Int) from rfl, show (2 : Int) = ((2 : Nat) : Int) from rfl, h]
  by_cases c : In s p lo hi
  · rw [if_pos c, h1]
    by_cases c1 : In s (p + 1) 128 191
    · rw [if_pos c1, fol_end]; simp [c, c1]
    · rw [if_neg c1]; simp [c1]
  · rw [if_neg c]; simp [c]
theorem fol3 (s : ByteArray) (hs : s.size ≤ 4294967296) (p lo hi : Nat) (hp : p ≤ 4294967300) (k : Nat) : trellisref2_follows.f (k + 4) s (p : Int) (lo : Int) (hi : Int) 3 = some (decide (In s p lo hi ∧ In s (p + 1) 128 191 ∧ In s (p + 2) 128 191)) := by
  unfold trellisref2_follows.f
  have h := fol_step s hs p lo hi 3 0 hp (by omega) (by omega) (k + 3)
  have h1 := fol_step s hs p 128 191 3 1 hp (by omega) (by omega) (k + 2)
  have h2 := fol_step s hs p 128 191 3 2 hp (by omega) (by omega) (k + 1)
  simp only [Nat.add_zero, in_iff] at h
  simp only [show (128 : Int) = ((128 : Nat) : Int) from rfl, show (191 : Int) = ((191 : Nat) : Int) from rfl, in_iff] at h1 h2 h
  rw [show (0 : Int) = ((0 : Nat) : Int) from rfl, show (3 : Int) = ((3 : Nat) : Int) from rfl, h]
  by_cases c : In s p lo hi
  · rw [if_pos c, h1]
    by_cases c1 : In s (p + 1) 128 191
    · rw [if_pos c1, h2]
      by_cases c2 : In s (p + 2) 128 191
      · rw [if_pos c2, fol_end]; simp [c, c1, c2]
      · rw [if_neg c2]; simp [c2]
    · rw [if_neg c1]; simp [c1]
  · rw [if_neg c]; simp [c]

theorem In_cnt (s : ByteArray) (j : Nat) : In s j 128 191 ↔ cnt s j = true := by
  unfold In cnt
  simp
  omega
theorem if_some {α : Type} {p : Prop} [Decidable p] (b : Bool) (hb : b = decide p) (x y : α) : (if b = true then x else y) = if p then x else y := by subst hb; simp
/-- what the decoding comes to, by the bytes (c1, c2, c3: is the next byte there, and from 0x80 to 0xbf?) -/
theorem dec_spec (b0 b1 b2 b3 : Nat) (c1 c2 c3 : Bool) (h0 : b0 < 256) (h1 : c1 = true → 128 ≤ b1 ∧ b1 ≤ 191) (h2 : c2 = true → 128 ≤ b2 ∧ b2 ≤ 191) (h3 : c3 = true → 128 ≤ b3 ∧ b3 ≤ 191) (p n : Nat) (hd : dec b0 b1 b2 b3 c1 c2 c3 = (p, n)) :
    (n = 2 ∧ p < 65536 ∧ 194 ≤ b0 ∧ b0 ≤ 223 ∧ c1 = true) ∨
    (n = 3 ∧ p < 65536 ∧ c1 = true ∧ c2 = true ∧ ((b0 = 224 ∧ 160 ≤ b1) ∨ (b0 = 237 ∧ b1 ≤ 159) ∨ (225 ≤ b0 ∧ b0 ≤ 236) ∨ (238 ≤ b0 ∧ b0 ≤ 239))) ∨
    (n = 4 ∧ 65536 ≤ p ∧ c1 = true ∧ c2 = true ∧ c3 = true ∧ ((b0 = 240 ∧ 144 ≤ b1) ∨ (241 ≤ b0 ∧ b0 ≤ 243) ∨ (b0 = 244 ∧ b1 ≤ 143))) ∨
    (n = 1 ∧ p < 65536 ∧ ¬ (194 ≤ b0 ∧ b0 ≤ 223 ∧ c1 = true) ∧ ¬ (c1 = true ∧ c2 = true ∧ ((b0 = 224 ∧ 160 ≤ b1) ∨ (b0 = 237 ∧ b1 ≤ 159) ∨ (225 ≤ b0 ∧ b0 ≤ 236) ∨ (238 ≤ b0 ∧ b0 ≤ 239))) ∧
      ¬ (c1 = true ∧ c2 = true ∧ c3 = true ∧ ((b0 = 240 ∧ 144 ≤ b1) ∨ (241 ≤ b0 ∧ b0 ≤ 243) ∨ (b0 = 244 ∧ b1 ≤ 143)))) := by
  unfold dec Utf8.valid at hd
  cases c1 <;> cases c2 <;> cases c3 <;>
    simp only [Bool.and_true, Bool.and_false, beq_iff_eq, Bool.and_eq_true, Bool.or_eq_true, decide_eq_true_eq, Bool.false_eq_true, if_false, true_and, and_true, false_and, and_false, true_implies, false_implies, forall_const, or_false, false_or, not_false_eq_true, reduceCtorEq] at hd h1 h2 h3 ⊢ <;>
    (repeat' split at hd) <;> (simp only [Prod.mk.injEq] at hd; omega)
set_option maxHeartbeats 1000000 in
theorem char_f (s : ByteArray) (hs : s.size ≤ 4294967296) (i : Nat) (hi : i < s.size) (k : Nat) : trellisref2_Char.f (k + 10) s (i : Int) = some ((wdt s i : Int), uts s i) := by
  have hw : ∀ q : Nat, q ≤ 4294967300 → wrap64 ((i : Int) + 1) = ((i + 1 : Nat) : Int) := fun q _ => by rw [w64 (by omega) (by omega)]; omega
  have hw := hw 0 (by omega)
  have f1 := fun (k lo hi : Nat) => fol1 s hs (i + 1) lo hi (by omega) k
  have f2 := fun (k lo hi : Nat) => fol2 s hs (i + 1) lo hi (by omega) k
  have f3 := fun (k lo hi : Nat) => fol3 s hs (i + 1) lo hi (by omega) k
  have g1 := f1 (k + 6) 128 191
  have g2 := f2 (k + 5) 160 191
  have g3 := f2 (k + 4) 128 159
  have g4 := f2 (k + 3) 128 191
  have g5 := f3 (k + 2) 144 191
  have g6 := f3 (k + 1) 128 191
  have g7 := f3 k 128 143
  simp only [show ((128 : Nat) : Int) = 128 from rfl, show ((191 : Nat) : Int) = 191 from rfl, show ((160 : Nat) : Int) = 160 from rfl, show ((159 : Nat) : Int) = 159 from rfl, show ((144 : Nat) : Int) = 144 from rfl, show ((143 : Nat) : Int) = 143 from rfl] at g1 g2 g3 g4 g5 g6 g7
  unfold wdt uts
  rw [decode_eq]
  have b0 := nb_lt s i
  have b1 := nb_lt s (i + 1)
  have b2 := nb_lt s (i + 2)
  have b3 := nb_lt s (i + 3)
  have i1 := In_cnt s (i + 1)
  have i2 := In_cnt s (i + 2)
  have i3 := In_cnt s (i + 3)
  simp only [trellisref2_Char.f, trellisref2_Char.j0, trellisref2_Char.j1, trellisref2_Char.j2, trellisref2_Char.j3, trellisref2_Char.j4, trellisref2_Char.j5, hw, bt_nb s i hi]
  rw [if_pos (by omega), if_pos (by omega)]
  simp only [g1, g2, g3, g4, g5, g6, g7, Option.bind_some]
  clear f1 f2 f3 g1 g2 g3 g4 g5 g6 g7 hw
  have e1 : In s (i + 1) 160 191 ↔ In s (i + 1) 128 191 ∧ 160 ≤ nb s (i + 1) := by unfold In; omega
  have e2 : In s (i + 1) 128 159 ↔ In s (i + 1) 128 191 ∧ nb s (i + 1) ≤ 159 := by unfold In; omega
  have e3 : In s (i + 1) 144 191 ↔ In s (i + 1) 128 191 ∧ 144 ≤ nb s (i + 1) := by unfold In; omega
  have e4 : In s (i + 1) 128 143 ↔ In s (i + 1) 128 191 ∧ nb s (i + 1) ≤ 143 := by unfold In; omega
  simp only [decide_eq_true_eq, show i + 1 + 1 = i + 2 from rfl, show i + 1 + 2 = i + 3 from rfl, e1, e2, e3, e4]
  have r1 : In s (i + 1) 128 191 → 128 ≤ nb s (i + 1) ∧ nb s (i + 1) ≤ 191 := fun h => ⟨h.2.1, h.2.2⟩
  have r2 : In s (i + 2) 128 191 → 128 ≤ nb s (i + 2) ∧ nb s (i + 2) ≤ 191 := fun h => ⟨h.2.1, h.2.2⟩
  have r3 : In s (i + 3) 128 191 → 128 ≤ nb s (i + 3) ∧ nb s (i + 3) ≤ 191 := fun h => ⟨h.2.1, h.2.2⟩
  have z1 : ∀ j, ¬ In s j 128 191 → cnt s j = false := fun j h => by
    have := In_cnt s j
    cases hc : cnt s j with
    | true => exact absurd (this.2 hc) h
    | false => rfl
  obtain ⟨p, n, hpn⟩ : ∃ p n, dec (nb s i) (nb s (i + 1)) (nb s (i + 2)) (nb s (i + 3)) (cnt s (i + 1)) (cnt s (i + 2)) (cnt s (i + 3)) = (p, n) := ⟨_, _, rfl⟩
  have hd := dec_spec _ _ _ _ _ _ _ b0 (fun h => r1 (i1.2 h)) (fun h => r2 (i2.2 h)) (fun h => r3 (i3.2 h)) p n hpn
  rw [hpn]
  simp only []
  clear e1 e2 e3 e4 hi hs hpn b1 b2 b3 r1 r2 r3
  by_cases c1 : In s (i + 1) 128 191
  · have y1 := i1.1 c1
    by_cases c2 : In s (i + 2) 128 191
    · have y2 := i2.1 c2
      by_cases c3 : In s (i + 3) 128 191
      · have y3 := i3.1 c3
        simp only [c1, c2, c3, y1, y2, y3, true_and, and_true, false_and, and_false, if_true, if_false, Bool.false_eq_true, or_false, false_or, not_false_eq_true, reduceCtorEq] at hd ⊢
        clear c1 c2 c3 y1 y2 y3 i1 i2 i3 z1
        generalize nb s i = x0 at *
        generalize nb s (i + 1) = x1 at *
        clear hw
        have hr : x0 < 194 ∨ (194 ≤ x0 ∧ x0 ≤ 223) ∨ x0 = 224 ∨ (225 ≤ x0 ∧ x0 ≤ 236) ∨ x0 = 237 ∨ (238 ≤ x0 ∧ x0 ≤ 239) ∨ x0 = 240 ∨ (241 ≤ x0 ∧ x0 ≤ 243) ∨ x0 = 244 ∨ 245 ≤ x0 := by omega
        rcases hr with hr | hr | hr | hr | hr | hr | hr | hr | hr | hr <;>
          (first | rw [if_pos (show (x0 : Int) ≥ 194 by omega)] | rw [if_neg (show ¬ (x0 : Int) ≥ 194 by omega)]) <;>
          (try first | rw [if_pos (show (x0 : Int) ≤ 223 by omega)] | rw [if_neg (show ¬ (x0 : Int) ≤ 223 by omega)]) <;>
          (try first | rw [if_pos (show (x0 : Int) = 224 by omega)] | rw [if_neg (show ¬ (x0 : Int) = 224 by omega)]) <;>
          (try first | rw [if_pos (show (x0 : Int) = 237 by omega)] | rw [if_neg (show ¬ (x0 : Int) = 237 by omega)]) <;>
          (try first | rw [if_pos (show (x0 : Int) ≥ 225 by omega)] | rw [if_neg (show ¬ (x0 : Int) ≥ 225 by omega)]) <;>
          (try first | rw [if_pos (show (x0 : Int) ≤ 239 by omega)] | rw [if_neg (show ¬ (x0 : Int) ≤ 239 by omega)]) <;>
          (try first | rw [if_pos (show (x0 : Int) = 240 by omega)] | rw [if_neg (show ¬ (x0 : Int) = 240 by omega)]) <;>
          (try first | rw [if_pos (show (x0 : Int) ≥ 241 by omega)] | rw [if_neg (show ¬ (x0 : Int) ≥ 241 by omega)]) <;>
          (try first | rw [if_pos (show (x0 : Int) ≤ 243 by omega)] | rw [if_neg (show ¬ (x0 : Int) ≤ 243 by omega)]) <;>
          (try first | rw [if_pos (show (x0 : Int) = 244 by omega)] | rw [if_neg (show ¬ (x0 : Int) = 244 by omega)]) <;>
          (repeat' split) <;> (simp only [Option.some.injEq, Prod.mk.injEq, and_true]; omega)
      · have y3 := z1 _ c3
        simp only [c1, c2, c3, y1, y2, y3, true_and, and_true, false_and, and_false, if_true, if_false, Bool.false_eq_true, or_false, false_or, not_false_eq_true, reduceCtorEq] at hd ⊢
        clear c1 c2 c3 y1 y2 y3 i1 i2 i3 z1
        generalize nb s i = x0 at *
        generalize nb s (i + 1) = x1 at *
        clear hw
        have hr : x0 < 194 ∨ (194 ≤ x0 ∧ x0 ≤ 223) ∨ x0 = 224 ∨ (225 ≤ x0 ∧ x0 ≤ 236) ∨ x0 = 237 ∨ (238 ≤ x0 ∧ x0 ≤ 239) ∨ x0 = 240 ∨ (241 ≤ x0 ∧ x0 ≤ 243) ∨ x0 = 244 ∨ 245 ≤ x0 := by omega
        rcases hr with hr | hr | hr | hr | hr | hr | hr | hr | hr | hr <;>
          (first | rw [if_pos (show (x0 : Int) ≥ 194 by omega)] | rw [if_neg (show ¬ (x0 : Int) ≥ 194 by omega)]) <;>
          (try first | rw [if_pos (show (x0 : Int) ≤ 223 by omega)] | rw [if_neg (show ¬ (x0 : Int) ≤ 223 by omega)]) <;>
          (try first | rw [if_pos (show (x0 : Int) = 224 by omega)] | rw [if_neg (show ¬ (x0 : Int) = 224 by omega)]) <;>
          (try first | rw [if_pos (show (x0 : Int) = 237 by omega)] | rw [if_neg (show ¬ (x0 : Int) = 237 by omega)]) <;>
          (try first | rw [if_pos (show (x0 : Int) ≥ 225 by omega)] | rw [if_neg (show ¬ (x0 : Int) ≥ 225 by omega)]) <;>
          (try first | rw [if_pos (show (x0 : Int) ≤ 239 by omega)] | rw [if_neg (show ¬ (x0 : Int) ≤ 239 by omega)]) <;>
          (try first | rw [if_pos (show (x0 : Int) = 240 by omega)] | rw [if_neg (show ¬ (x0 : Int) = 240 by omega)]) <;>
          (try first | rw [if_pos (show (x0 : Int) ≥ 241 by omega)] | rw [if_neg (show ¬ (x0 : Int) ≥ 241 by omega)]) <;>
          (try first | rw [if_pos (show (x0 : Int) ≤ 243 by omega)] | rw [if_neg (show ¬ (x0 : Int) ≤ 243 by omega)]) <;>
          (try first | rw [if_pos (show (x0 : Int) = 244 by omega)] | rw [if_neg (show ¬ (x0 : Int) = 244 by omega)]) <;>
          (repeat' split) <;> (simp only [Option.some.injEq, Prod.mk.injEq, and_true]; omega)
    · have y2 := z1 _ c2
      by_cases c3 : In s (i + 3) 128 191
      · have y3 := i3.1 c3
        simp only [c1, c2, c3, y1, y2, y3, true_and, and_true, false_and, and_false, if_true, if_false, Bool.false_eq_true, or_false, false_or, not_false_eq_true, reduceCtorEq] at hd ⊢
        clear c1 c2 c3 y1 y2 y3 i1 i2 i3 z1
        generalize nb s i = x0 at *
        generalize nb s (i + 1) = x1 at *
        clear hw
        have hr : x0 < 194 ∨ (194 ≤ x0 ∧ x0 ≤ 223) ∨ x0 = 224 ∨ (225 ≤ x0 ∧ x0 ≤ 236) ∨ x0 = 237 ∨ (238 ≤ x0 ∧ x0 ≤ 239) ∨ x0 = 240 ∨ (241 ≤ x0 ∧ x0 ≤ 243) ∨ x0 = 244 ∨ 245 ≤ x0 := by omega
        rcases hr with hr | hr | hr | hr | hr | hr | hr | hr | hr | hr <;>
          (first | rw [if_pos (show (x0 : Int) ≥ 194 by omega)] | rw [if_neg (show ¬ (x0 : Int) ≥ 194 by omega)]) <;>
          (try first | rw [if_pos (show (x0 : Int) ≤ 223 by omega)] | rw [if_neg (show ¬ (x0 : Int) ≤ 223 by omega)]) <;>
          (try first | rw [if_pos (show (x0 : Int) = 224 by omega)] | rw [if_neg (show ¬ (x0 : Int) = 224 by omega)]) <;>
          (try first | rw [if_pos (show (x0 : Int) = 237 by omega)] | rw [if_neg (show ¬ (x0 : Int) = 237 by omega)]) <;>
          (try first | rw [if_pos (show (x0 : Int) ≥ 225 by omega)] | rw [if_neg (show ¬ (x0 : Int) ≥ 225 by omega)]) <;>
          (try first | rw [if_pos (show (x0 : Int) ≤ 239 by omega)] | rw [if_neg (show ¬ (x0 : Int) ≤ 239 by omega)]) <;>
          (try first | rw [if_pos (show (x0 : Int) = 240 by omega)] | rw [if_neg (show ¬ (x0 : Int) = 240 by omega)]) <;>
          (try first | rw [if_pos (show (x0 : Int) ≥ 241 by omega)] | rw [if_neg (show ¬ (x0 : Int) ≥ 241 by omega)]) <;>
          (try first | rw [if_pos (show (x0 : Int) ≤ 243 by omega)] | rw [if_neg (show ¬ (x0 : Int) ≤ 243 by omega)]) <;>
          (try first | rw [if_pos (show (x0 : Int) = 244 by omega)] | rw [if_neg (show ¬ (x0 : Int) = 244 by omega)]) <;>
          (repeat' split) <;> (simp only [Option.some.injEq, Prod.mk.injEq, and_true]; omega)
      · have y3 := z1 _ c3
        simp only [c1, c2, c3, y1, y2, y3, true_and, and_true, false_and, and_false, if_true, if_false, Bool.false_eq_true, or_false, false_or, not_false_eq_true, reduceCtorEq] at hd ⊢
        clear c1 c2 c3 y1 y2 y3 i1 i2 i3 z1
        generalize nb s i = x0 at *
        generalize nb s (i + 1) = x1 at *
        clear hw
        have hr : x0 < 194 ∨ (194 ≤ x0 ∧ x0 ≤ 223) ∨ x0 = 224 ∨ (225 ≤ x0 ∧ x0 ≤ 236) ∨ x0 = 237 ∨ (238 ≤ x0 ∧ x0 ≤ 239) ∨ x0 = 240 ∨ (241 ≤ x0 ∧ x0 ≤ 243) ∨ x0 = 244 ∨ 245 ≤ x0 := by omega
        rcases hr with hr | hr | hr | hr | hr | hr | hr | hr | hr | hr <;>
          (first | rw [if_pos (show (x0 : Int) ≥ 194 by omega)] | rw [if_neg (show ¬ (x0 : Int) ≥ 194 by omega)]) <;>
          (try first | rw [if_pos (show (x0 : Int) ≤ 223 by omega)] | rw [if_neg (show ¬ (x0 : Int) ≤ 223 by omega)]) <;>
          (try first | rw [if_pos (show (x0 : Int) = 224 by omega)] | rw [if_neg (show ¬ (x0 : Int) = 224 by omega)]) <;>
          (try first | rw [if_pos (show (x0 : Int) = 237 by omega)] | rw [if_neg (show ¬ (x0 : Int) = 237 by omega)]) <;>
          (try first | rw [if_pos (show (x0 : Int) ≥ 225 by omega)] | rw [if_neg (show ¬ (x0 : Int) ≥ 225 by omega)]) <;>
          (try first | rw [if_pos (show (x0 : Int) ≤ 239 by omega)] | rw [if_neg (show ¬ (x0 : Int) ≤ 239 by omega)]) <;>
          (try first | rw [if_pos (show (x0 : Int) = 240 by omega)] | rw [if_neg (show ¬ (x0 : Int) = 240 by omega)]) <;>
          (try first | rw [if_pos (show (x0 : Int) ≥ 241 by omega)] | rw [if_neg (show ¬ (x0 : Int) ≥ 241 by omega)]) <;>
          (try first | rw [if_pos (show (x0 : Int) ≤ 243 by omega)] | rw [if_neg (show ¬ (x0 : Int) ≤ 243 by omega)]) <;>
          (try first | rw [if_pos (show (x0 : Int) = 244 by omega)] | rw [if_neg (show ¬ (x0 : Int) = 244 by omega)]) <;>
          (repeat' split) <;> (simp only [Option.some.injEq, Prod.mk.injEq, and_true]; omega)
  · have y1 := z1 _ c1
    by_cases c2 : In s (i + 2) 128 191
    · have y2 := i2.1 c2
      by_cases c3 : In s (i + 3) 128 191
      · have y3 := i3.1 c3
        simp only [c1, c2, c3, y1, y2, y3, true_and, and_true, false_and, and_false, if_true, if_false, Bool.false_eq_true, or_false, false_or, not_false_eq_true, reduceCtorEq] at hd ⊢
        clear c1 c2 c3 y1 y2 y3 i1 i2 i3 z1
        generalize nb s i = x0 at *
        generalize nb s (i + 1) = x1 at *
        clear hw
        have hr : x0 < 194 ∨ (194 ≤ x0 ∧ x0 ≤ 223) ∨ x0 = 224 ∨ (225 ≤ x0 ∧ x0 ≤ 236) ∨ x0 = 237 ∨ (238 ≤ x0 ∧ x0 ≤ 239) ∨ x0 = 240 ∨ (241 ≤ x0 ∧ x0 ≤ 243) ∨ x0 = 244 ∨ 245 ≤ x0 := by omega
        rcases hr with hr | hr | hr | hr | hr | hr | hr | hr | hr | hr <;>
          (first | rw [if_pos (show (x0 : Int) ≥ 194 by omega)] | rw [if_neg (show ¬ (x0 : Int) ≥ 194 by omega)]) <;>
          (try first | rw [if_pos (show (x0 : Int) ≤ 223 by omega)] | rw [if_neg (show ¬ (x0 : Int) ≤ 223 by omega)]) <;>
          (try first | rw [if_pos (show (x0 : Int) = 224 by omega)] | rw [if_neg (show ¬ (x0 : Int) = 224 by omega)]) <;>
          (try first | rw [if_pos (show (x0 : Int) = 237 by omega)] | rw [if_neg (show ¬ (x0 : Int) = 237 by omega)]) <;>
          (try first | rw [if_pos (show (x0 : Int) ≥ 225 by omega)] | rw [if_neg (show ¬ (x0 : Int) ≥ 225 by omega)]) <;>
          (try first | rw [if_pos (show (x0 : Int) ≤ 239 by omega)] | rw [if_neg (show ¬ (x0 : Int) ≤ 239 by omega)]) <;>
          (try first | rw [if_pos (show (x0 : Int) = 240 by omega)] | rw [if_neg (show ¬ (x0 : Int) = 240 by omega)]) <;>
          (try first | rw [if_pos (show (x0 : Int) ≥ 241 by omega)] | rw [if_neg (show ¬ (x0 : Int) ≥ 241 by omega)]) <;>
          (try first | rw [if_pos (show (x0 : Int) ≤ 243 by omega)] | rw [if_neg (show ¬ (x0 : Int) ≤ 243 by omega)]) <;>
          (try first | rw [if_pos (show (x0 : Int) = 244 by omega)] | rw [if_neg (show ¬ (x0 : Int) = 244 by omega)]) <;>
          (repeat' split) <;> (simp only [Option.some.injEq, Prod.mk.injEq, and_true]; omega)
      · have y3 := z1 _ c3
        simp only [c1, c2, c3, y1, y2, y3, true_and, and_true, false_and, and_false, if_true, if_false, Bool.false_eq_true, or_false, false_or, not_false_eq_true, reduceCtorEq] at hd ⊢
        clear c1 c2 c3 y1 y2 y3 i1 i2 i3 z1
        generalize nb s i = x0 at *
        generalize nb s (i + 1) = x1 at *
        clear hw
        have hr : x0 < 194 ∨ (194 ≤ x0 ∧ x0 ≤ 223) ∨ x0 = 224 ∨ (225 ≤ x0 ∧ x0 ≤ 236) ∨ x0 = 237 ∨ (238 ≤ x0 ∧ x0 ≤ 239) ∨ x0 = 240 ∨ (241 ≤ x0 ∧ x0 ≤ 243) ∨ x0 = 244 ∨ 245 ≤ x0 := by omega
        rcases hr with hr | hr | hr | hr | hr | hr | hr | hr | hr | hr <;>
          (first | rw [if_pos (show (x0 : Int) ≥ 194 by omega)] | rw [if_neg (show ¬ (x0 : Int) ≥ 194 by omega)]) <;>
          (try first | rw [if_pos (show (x0 : Int) ≤ 223 by omega)] | rw [if_neg (show ¬ (x0 : Int) ≤ 223 by omega)]) <;>
          (try first | rw [if_pos (show (x0 : Int) = 224 by omega)] | rw [if_neg (show ¬ (x0 : Int) = 224 by omega)]) <;>
          (try first | rw [if_pos (show (x0 : Int) = 237 by omega)] | rw [if_neg (show ¬ (x0 : Int) = 237 by omega)]) <;>
          (try first | rw [if_pos (show (x0 : Int) ≥ 225 by omega)] | rw [if_neg (show ¬ (x0 : Int) ≥ 225 by omega)]) <;>
          (try first | rw [if_pos (show (x0 : Int) ≤ 239 by omega)] | rw [if_neg (show ¬ (x0 : Int) ≤ 239 by omega)]) <;>
          (try first | rw [if_pos (show (x0 : Int) = 240 by omega)] | rw [if_neg (show ¬ (x0 : Int) = 240 by omega)]) <;>
          (try first | rw [if_pos (show (x0 : Int) ≥ 241 by omega)] | rw [if_neg (show ¬ (x0 : Int) ≥ 241 by omega)]) <;>
          (try first | rw [if_pos (show (x0 : Int) ≤ 243 by omega)] | rw [if_neg (show ¬ (x0 : Int) ≤ 243 by omega)]) <;>
          (try first | rw [if_pos (show (x0 : Int) = 244 by omega)] | rw [if_neg (show ¬ (x0 : Int) = 244 by omega)]) <;>
          (repeat' split) <;> (simp only [Option.some.injEq, Prod.mk.injEq, and_true]; omega)
    · have y2 := z1 _ c2
      by_cases c3 : In s (i + 3) 128 191
      · have y3 := i3.1 c3
        simp only [c1, c2, c3, y1, y2, y3, true_and, and_true, false_and, and_false, if_true, if_false, Bool.false_eq_true, or_false, false_or, not_false_eq_true, reduceCtorEq] at hd ⊢
        clear c1 c2 c3 y1 y2 y3 i1 i2 i3 z1
        generalize nb s i = x0 at *
        generalize nb s (i + 1) = x1 at *
        clear hw
        have hr : x0 < 194 ∨ (194 ≤ x0 ∧ x0 ≤ 223) ∨ x0 = 224 ∨ (225 ≤ x0 ∧ x0 ≤ 236) ∨ x0 = 237 ∨ (238 ≤ x0 ∧ x0 ≤ 239) ∨ x0 = 240 ∨ (241 ≤ x0 ∧ x0 ≤ 243) ∨ x0 = 244 ∨ 245 ≤ x0 := by omega
        rcases hr with hr | hr | hr | hr | hr | hr | hr | hr | hr | hr <;>
          (first | rw [if_pos (show (x0 : Int) ≥ 194 by omega)] | rw [if_neg (show ¬ (x0 : Int) ≥ 194 by omega)]) <;>
          (try first | rw [if_pos (show (x0 : Int) ≤ 223 by omega)] | rw [if_neg (show ¬ (x0 : Int) ≤ 223 by omega)]) <;>
          (try first | rw [if_pos (show (x0 : Int) = 224 by omega)] | rw [if_neg (show ¬ (x0 : Int) = 224 by omega)]) <;>
          (try first | rw [if_pos (show (x0 : Int) = 237 by omega)] | rw [if_neg (show ¬ (x0 : Int) = 237 by omega)]) <;>
          (try first | rw [if_pos (show (x0 : Int) ≥ 225 by omega)] | rw [if_neg (show ¬ (x0 : Int) ≥ 225 by omega)]) <;>
          (try first | rw [if_pos (show (x0 : Int) ≤ 239 by omega)] | rw [if_neg (show ¬ (x0 : Int) ≤ 239 by omega)]) <;>
          (try first | rw [if_pos (show (x0 : Int) = 240 by omega)] | rw [if_neg (show ¬ (x0 : Int) = 240 by omega)]) <;>
          (try first | rw [if_pos (show (x0 : Int) ≥ 241 by omega)] | rw [if_neg (show ¬ (x0 : Int) ≥ 241 by omega)]) <;>
          (try first | rw [if_pos (show (x0 : Int) ≤ 243 by omega)] | rw [if_neg (show ¬ (x0 : Int) ≤ 243 by omega)]) <;>
          (try first | rw [if_pos (show (x0 : Int) = 244 by omega)] | rw [if_neg (show ¬ (x0 : Int) = 244 by omega)]) <;>
          (repeat' split) <;> (simp only [Option.some.injEq, Prod.mk.injEq, and_true]; omega)
      · have y3 := z1 _ c3
        simp only [c1, c2, c3, y1, y2, y3, true_and, and_true, false_and, and_false, if_true, if_false, Bool.false_eq_true, or_false, false_or, not_false_eq_true, reduceCtorEq] at hd ⊢
        clear c1 c2 c3 y1 y2 y3 i1 i2 i3 z1
        generalize nb s i = x0 at *
        generalize nb s (i + 1) = x1 at *
        clear hw
        have hr : x0 < 194 ∨ (194 ≤ x0 ∧ x0 ≤ 223) ∨ x0 = 224 ∨ (225 ≤ x0 ∧ x0 ≤ 236) ∨ x0 = 237 ∨ (238 ≤ x0 ∧ x0 ≤ 239) ∨ x0 = 240 ∨ (241 ≤ x0 ∧ x0 ≤ 243) ∨ x0 = 244 ∨ 245 ≤ x0 := by omega
        rcases hr with hr | hr | hr | hr | hr | hr | hr | hr | hr | hr <;>
          (first | rw [if_pos (show (x0 : Int) ≥ 194 by omega)] | rw [if_neg (show ¬ (x0 : Int) ≥ 194 by omega)]) <;>
          (try first | rw [if_pos (show (x0 : Int) ≤ 223 by omega)] | rw [if_neg (show ¬ (x0 : Int) ≤ 223 by omega)]) <;>
          (try first | rw [if_pos (show (x0 : Int) = 224 by omega)] | rw [if_neg (show ¬ (x0 : Int) = 224 by omega)]) <;>
          (try first | rw [if_pos (show (x0 : Int) = 237 by omega)] | rw [if_neg (show ¬ (x0 : Int) = 237 by omega)]) <;>
          (try first | rw [if_pos (show (x0 : Int) ≥ 225 by omega)] | rw [if_neg (show ¬ (x0 : Int) ≥ 225 by omega)]) <;>
          (try first | rw [if_pos (show (x0 : Int) ≤ 239 by omega)] | rw [if_neg (show ¬ (x0 : Int) ≤ 239 by omega)]) <;>
          (try first | rw [if_pos (show (x0 : Int) = 240 by omega)] | rw [if_neg (show ¬ (x0 : Int) = 240 by omega)]) <;>
          (try first | rw [if_pos (show (x0 : Int) ≥ 241 by omega)] | rw [if_neg (show ¬ (x0 : Int) ≥ 241 by omega)]) <;>
          (try first | rw [if_pos (show (x0 : Int) ≤ 243 by omega)] | rw [if_neg (show ¬ (x0 : Int) ≤ 243 by omega)]) <;>
          (try first | rw [if_pos (show (x0 : Int) = 244 by omega)] | rw [if_neg (show ¬ (x0 : Int) = 244 by omega)]) <;>
          (repeat' split) <;> (simp only [Option.some.injEq, Prod.mk.injEq, and_true]; omega)
end Go.Proofs.Ytgefbbdahhoglaa.PT
