/- Sorting in place, in plain Lean: rows as functions of a place: swaps, rotations, the merge by symmetric halves. -/
namespace Go.Proofs.Ytknagjiipelfnaa.SO
set_option linter.unusedVariables false
variable {α : Type}

def swapF (f : Nat → α) (i j : Nat) : Nat → α := fun k => if k = i then f j else if k = j then f i else f k
def swapR (f : Nat → α) (a b n : Nat) : Nat → α := fun k => if a ≤ k ∧ k < a + n then f (k - a + b) else if b ≤ k ∧ k < b + n then f (k - b + a) else f k
def rotF (f : Nat → α) (a m b : Nat) : Nat → α := fun k => if a ≤ k ∧ k < a + (b - m) then f (k + (m - a)) else if a + (b - m) ≤ k ∧ k < b then f (k - (b - m)) else f k

theorem swapR_zero (f : Nat → α) (a b : Nat) : swapR f a b 0 = f := by
  funext k
  unfold swapR
  rw [if_neg (by omega), if_neg (by omega)]
theorem swapR_succ (f : Nat → α) {a b n : Nat} (h : a + n < b) : swapR f a b (n + 1) = swapF (swapR f a b n) (a + n) (b + n) := by
  funext k
  unfold swapF
  by_cases h1 : k = a + n
  · rw [if_pos h1]
    unfold swapR
    rw [if_pos (by omega), if_neg (by omega), if_neg (by omega)]
    congr 1; omega
  · rw [if_neg h1]
    by_cases h2 : k = b + n
    · rw [if_pos h2]
      unfold swapR
      rw [if_neg (by omega), if_pos (by omega), if_neg (by omega), if_neg (by omega)]
      congr 1; omega
    · rw [if_neg h2]
      unfold swapR
      by_cases h3 : a ≤ k ∧ k < a + n
      · rw [if_pos (by omega), if_pos h3]
      · rw [if_neg (by omega), if_neg h3]
        by_cases h4 : b ≤ k ∧ k < b + n
        · rw [if_pos (by omega), if_pos h4]
        · rw [if_neg (by omega), if_neg h4]
theorem rot_gt (f : Nat → α) {m i j : Nat} (hi : j < i) (hm : i ≤ m) : rotF (swapR f (m - i) m j) (m - (i - j)) m (m + j) = rotF f (m - i) m (m + j) := by
  funext k
  unfold rotF swapR
  by_cases h1 : m - i ≤ k ∧ k < m - i + j
  · rw [if_neg (by omega), if_neg (by omega), if_pos (by omega), if_pos (by omega)]
    congr 1; omega
  · by_cases h2 : m - (i - j) ≤ k ∧ k < m - (i - j) + j
    · rw [if_pos (by omega)]
      by_cases h3 : k < m
      · rw [if_neg (by omega), if_pos (by omega), if_neg (by omega), if_pos (by omega)]
        congr 1; omega
      · rw [if_neg (by omega), if_pos (by omega), if_neg (by omega), if_pos (by omega)]
        congr 1; omega
    · by_cases h3 : m - i + j ≤ k ∧ k < m + j
      · rw [if_neg (by omega), if_pos (by omega), if_neg (by omega), if_neg (by omega), if_neg (by omega), if_pos (by omega)]
      · rw [if_neg (by omega), if_neg (by omega), if_neg (by omega), if_neg (by omega), if_neg (by omega), if_neg (by omega)]
theorem rot_lt (f : Nat → α) {m i j : Nat} (hi : i < j) (hm : i ≤ m) : rotF (swapR f (m - i) (m + j - i) i) (m - i) m (m + (j - i)) = rotF f (m - i) m (m + j) := by
  funext k
  unfold rotF swapR
  by_cases h0 : k < m - i ∨ m + j ≤ k
  · rw [if_neg (by omega), if_neg (by omega), if_neg (by omega), if_neg (by omega), if_neg (by omega), if_neg (by omega)]
  · by_cases h1 : k < m - i + (m + (j - i) - m)
    · rw [if_pos (by omega), if_neg (by omega), if_neg (by omega), if_pos (by omega)]
    · by_cases h2 : k < m + (j - i)
      · rw [if_neg (by omega), if_pos (by omega)]
        by_cases h3 : k < m - i + (m + j - m)
        · rw [if_pos (by omega), if_pos (by omega)]
          congr 1; omega
        · rw [if_neg (by omega), if_pos (by omega), if_pos (by omega)]
          exfalso; omega
      · rw [if_neg (by omega), if_neg (by omega), if_neg (by omega), if_pos (by omega), if_neg (by omega), if_pos (by omega)]
        congr 1; omega
theorem rot_eq (f : Nat → α) {m i : Nat} (hm : i ≤ m) : swapR f (m - i) m i = rotF f (m - i) m (m + i) := by
  funext k
  unfold rotF swapR
  by_cases h1 : m - i ≤ k ∧ k < m - i + i
  · rw [if_pos h1, if_pos (by omega)]
    congr 1; omega
  · by_cases h2 : m ≤ k ∧ k < m + i
    · rw [if_neg h1, if_pos h2, if_neg (by omega), if_pos (by omega)]
      congr 1; omega
    · rw [if_neg h1, if_neg h2, if_neg (by omega), if_neg (by omega)]
theorem rot_left (f : Nat → α) (m b : Nat) : rotF f m m b = f := by
  funext k
  unfold rotF
  by_cases h : m ≤ k ∧ k < m + (b - m)
  · rw [if_pos h, Nat.sub_self, Nat.add_zero]
  · rw [if_neg h]
    by_cases h2 : m + (b - m) ≤ k ∧ k < b
    · omega
    · rw [if_neg h2]
theorem rot_right (f : Nat → α) (a m : Nat) : rotF f a m m = f := by
  funext k
  unfold rotF
  rw [if_neg (by omega)]
  by_cases h2 : a + (m - m) ≤ k ∧ k < m
  · rw [if_pos h2, Nat.sub_self, Nat.sub_zero]
  · rw [if_neg h2]
/-- One place of the first row's moves up. -/
theorem rot_up (f : Nat → α) {a k : Nat} (h : a ≤ k) : rotF f a (a + 1) (k + 2) = swapF (rotF f a (a + 1) (k + 1)) k (k + 1) := by
  funext x
  unfold swapF rotF
  by_cases h1 : x = k
  · rw [if_pos h1, if_pos (by omega)]
    by_cases h2 : a + (k + 1 - (a + 1)) ≤ k + 1 ∧ k + 1 < k + 1
    · omega
    · rw [if_neg (by omega), if_neg h2]
      congr 1; omega
  · rw [if_neg h1]
    by_cases h2 : x = k + 1
    · rw [if_pos h2, if_neg (by omega), if_pos (by omega), if_neg (by omega), if_pos (by omega)]
      congr 1; omega
    · rw [if_neg h2]
      by_cases h3 : a ≤ x ∧ x < k
      · rw [if_pos (by omega), if_pos (by omega)]
      · rw [if_neg (by omega), if_neg (by omega), if_neg (by omega), if_neg (by omega)]
/-- The one place of the second row moves down. -/
theorem rot_down (f : Nat → α) {m k : Nat} (h : k + 1 ≤ m) : rotF f k m (m + 1) = swapF (rotF f (k + 1) m (m + 1)) (k + 1) k := by
  funext x
  unfold swapF rotF
  by_cases h1 : x = k + 1
  · rw [if_pos h1, if_neg (by omega), if_pos (by omega), if_neg (by omega), if_neg (by omega)]
    congr 1; omega
  · rw [if_neg h1]
    by_cases h2 : x = k
    · rw [if_pos h2, if_pos (by omega), if_pos (by omega)]
      congr 1; omega
    · rw [if_neg h2]
      by_cases h3 : k + 1 < x ∧ x < m + 1
      · rw [if_neg (by omega), if_pos (by omega), if_neg (by omega), if_pos (by omega)]
      · rw [if_neg (by omega), if_neg (by omega), if_neg (by omega), if_neg (by omega)]

/-! ### the same things within bounds, all else as it was -/
structure Same (a b : Nat) (f g : Nat → α) : Prop where
  out : ∀ k, ¬ (a ≤ k ∧ k < b) → g k = f k
  to : ∀ k, a ≤ k → k < b → ∃ j, a ≤ j ∧ j < b ∧ g k = f j
  fro : ∀ k, a ≤ k → k < b → ∃ j, a ≤ j ∧ j < b ∧ f k = g j
theorem Same.refl (a b : Nat) (f : Nat → α) : Same a b f f := ⟨fun _ _ => rfl, fun k h1 h2 => ⟨k, h1, h2, rfl⟩, fun k h1 h2 => ⟨k, h1, h2, rfl⟩⟩
theorem Same.trans {a b : Nat} {f g h : Nat → α} (h1 : Same a b f g) (h2 : Same a b g h) : Same a b f h :=
  ⟨fun k hk => (h2.out k hk).trans (h1.out k hk),
   fun k ha hb => by
    obtain ⟨j, ja, jb, hj⟩ := h2.to k ha hb
    obtain ⟨i, ia, ib, hi⟩ := h1.to j ja jb
    exact ⟨i, ia, ib, hj.trans hi⟩,
   fun k ha hb => by
    obtain ⟨j, ja, jb, hj⟩ := h1.fro k ha hb
    obtain ⟨i, ia, ib, hi⟩ := h2.fro j ja jb
    exact ⟨i, ia, ib, hj.trans hi⟩⟩
theorem Same.widen {a b a' b' : Nat} {f g : Nat → α} (h : Same a b f g) (ha : a' ≤ a) (hb : b ≤ b') : Same a' b' f g := by
  refine ⟨fun k hk => h.out k (by omega), fun k h1 h2 => ?_, fun k h1 h2 => ?_⟩
  · by_cases hk : a ≤ k ∧ k < b
    · obtain ⟨j, ja, jb, hj⟩ := h.to k hk.1 hk.2
      exact ⟨j, by omega, by omega, hj⟩
    · exact ⟨k, h1, h2, h.out k hk⟩
  · by_cases hk : a ≤ k ∧ k < b
    · obtain ⟨j, ja, jb, hj⟩ := h.fro k hk.1 hk.2
      exact ⟨j, by omega, by omega, hj⟩
    · exact ⟨k, h1, h2, (h.out k hk).symm⟩
theorem rot_same (f : Nat → α) {a m b : Nat} (h1 : a ≤ m) (h2 : m ≤ b) : Same a b f (rotF f a m b) := by
  refine ⟨fun k hk => ?_, fun k ha hb => ?_, fun k ha hb => ?_⟩
  · unfold rotF
    rw [if_neg (by omega), if_neg (by omega)]
  · unfold rotF
    by_cases h : k < a + (b - m)
    · exact ⟨k + (m - a), by omega, by omega, by rw [if_pos ⟨ha, h⟩]⟩
    · exact ⟨k - (b - m), by omega, by omega, by rw [if_neg (by omega), if_pos (by omega)]⟩
  · unfold rotF
    by_cases h : k < m
    · exact ⟨k + (b - m), by omega, by omega, by rw [if_neg (by omega), if_pos (by omega)]; congr 1; omega⟩
    · exact ⟨k - (m - a), by omega, by omega, by rw [if_pos (by omega)]; congr 1; omega⟩

/-! ### in order -/
section
variable (lt : α → α → Bool)
/-- Nothing stands behind what it is less than. -/
def Srt (a b : Nat) (f : Nat → α) : Prop := ∀ i j, a ≤ i → i < j → j < b → lt (f j) (f i) = false
/-- A total order, told by 'less'. -/
structure Ord : Prop where
  asy : ∀ x y, lt x y = true → lt y x = false
  tr : ∀ x y z, lt y x = false → lt z y = false → lt z x = false
end
section
variable {lt : α → α → Bool}
theorem Srt.le (o : Ord lt) {a b : Nat} {f : Nat → α} (h : Srt lt a b f) {i j : Nat} (ha : a ≤ i) (hij : i ≤ j) (hb : j < b) : lt (f j) (f i) = false := by
  by_cases e : i = j
  · subst e
    cases hq : lt (f i) (f i) with
    | false => rfl
    | true => rw [o.asy _ _ hq] at hq; cases hq
  · exact h i j ha (by omega) hb
theorem Srt.sub {a b a' b' : Nat} {f : Nat → α} (h : Srt lt a b f) (ha : a ≤ a') (hb : b' ≤ b) : Srt lt a' b' f := fun i j h1 h2 h3 => h i j (by omega) h2 (by omega)
theorem Srt.of_eq {a b : Nat} {f g : Nat → α} (h : Srt lt a b f) (he : ∀ k, a ≤ k → k < b → g k = f k) : Srt lt a b g := fun i j h1 h2 h3 => by
  rw [he i h1 (by omega), he j (by omega) h3]
  exact h i j h1 h2 h3
theorem Srt.small {a b : Nat} {f : Nat → α} (h : b ≤ a + 1) : Srt lt a b f := fun i j h1 h2 h3 => by omega
/-- Two rows in order, all of the first not behind all of the second. -/
theorem Srt.join {a m b : Nat} {f : Nat → α} (h1 : Srt lt a m f) (h2 : Srt lt m b f) (h : ∀ i j, a ≤ i → i < m → m ≤ j → j < b → lt (f j) (f i) = false) : Srt lt a b f := fun i j hi hij hj => by
  by_cases e1 : j < m
  · exact h1 i j hi hij e1
  · by_cases e2 : m ≤ i
    · exact h2 i j e2 hij hj
    · exact h i j hi (by omega) (by omega) hj
/-- The last is put in where it belongs. -/
theorem Srt.insert (o : Ord lt) {a m i : Nat} {f : Nat → α} (h : Srt lt a m f) (ha : a ≤ i) (hi : i ≤ m) (h1 : i = a ∨ lt (f m) (f (i - 1)) = false) (h2 : i = m ∨ lt (f m) (f i) = true) : Srt lt a (m + 1) (rotF f i m (m + 1)) := by
  have g0 : ∀ k, k < i → rotF f i m (m + 1) k = f k := fun k hk => by unfold rotF; rw [if_neg (by omega), if_neg (by omega)]
  have g1 : rotF f i m (m + 1) i = f m := by unfold rotF; rw [if_pos (by omega)]; congr 1; omega
  have g2 : ∀ k, i < k → k ≤ m → rotF f i m (m + 1) k = f (k - 1) := fun k hk hk2 => by
    unfold rotF
    rw [if_neg (by omega), if_pos (by omega)]
    congr 1; omega
  intro x y hx hxy hy
  by_cases c1 : y < i
  · rw [g0 x (by omega), g0 y c1]
    exact h x y hx hxy (by omega)
  · by_cases c2 : y = i
    · subst c2
      rw [g0 x hxy, g1]
      rcases h1 with h1 | h1
      · omega
      · exact o.tr _ _ _ (h.le o hx (show x ≤ y - 1 by omega) (by omega)) h1
    · rw [g2 y (by omega) (by omega)]
      by_cases c3 : x < i
      · rw [g0 x c3]
        exact h.le o hx (by omega) (by omega)
      · by_cases c4 : x = i
        · subst c4
          rw [g1]
          rcases h2 with h2 | h2
          · omega
          · exact o.tr _ _ _ (o.asy _ _ h2) (h.le o ha (by omega) (by omega))
        · rw [g2 x (by omega) (by omega)]
          exact h (x - 1) (y - 1) (by omega) (by omega) (by omega)
/-- The first is put in where it belongs. -/
theorem Srt.insert_up (o : Ord lt) {a b i : Nat} {f : Nat → α} (h : Srt lt (a + 1) b f) (ha : a + 1 ≤ i) (hi : i ≤ b) (h1 : i = a + 1 ∨ lt (f (i - 1)) (f a) = true) (h2 : i = b ∨ lt (f i) (f a) = false) : Srt lt a b (rotF f a (a + 1) i) := by
  have g0 : ∀ k, a ≤ k → k + 1 < i → rotF f a (a + 1) i k = f (k + 1) := fun k hk hk2 => by unfold rotF; rw [if_pos (by omega)]; congr 1; omega
  have g1 : ∀ k, k + 1 = i → rotF f a (a + 1) i k = f a := fun k hk => by unfold rotF; rw [if_neg (by omega), if_pos (by omega)]; congr 1; omega
  have g2 : ∀ k, i ≤ k → rotF f a (a + 1) i k = f k := fun k hk => by unfold rotF; rw [if_neg (by omega), if_neg (by omega)]
  intro x y hx hxy hy
  by_cases c1 : i ≤ x
  · rw [g2 x c1, g2 y (by omega)]
    exact h x y (by omega) hxy hy
  · by_cases c2 : x + 1 = i
    · rw [g1 x c2, g2 y (by omega)]
      rcases h2 with h2 | h2
      · omega
      · exact o.tr _ _ _ h2 (h.le o (by omega) (by omega) hy)
    · rw [g0 x hx (by omega)]
      by_cases c3 : i ≤ y
      · rw [g2 y c3]
        exact h.le o (by omega) (by omega) hy
      · by_cases c4 : y + 1 = i
        · rw [g1 y c4]
          rcases h1 with h1 | h1
          · omega
          · refine o.tr _ _ _ ?_ (o.asy _ _ h1)
            exact h.le o (by omega) (by omega) (by omega)
        · rw [g0 y (by omega) (by omega)]
          exact h (x + 1) (y + 1) (by omega) (by omega) (by omega)
/-- Where the halves are parted: c goes from lo on to hi. -/
structure Cutp (lt : α → α → Bool) (f : Nat → α) (a m b mid s : Nat) : Prop where
  lo : (if mid < m then mid + m - b else a) ≤ s
  hi : s ≤ (if mid < m then mid else m)
  down : s = (if mid < m then mid + m - b else a) ∨ lt (f (mid + m - 1 - (s - 1))) (f (s - 1)) = false
  up : s = (if mid < m then mid else m) ∨ lt (f (mid + m - 1 - s)) (f s) = true
theorem Cutp.bounds {f : Nat → α} {a m b mid s : Nat} (h : Cutp lt f a m b mid s) (ha : a ≤ m) (hb : m ≤ b) (hm : mid = (a + b) / 2) : a ≤ s ∧ s ≤ m ∧ s ≤ mid ∧ m ≤ mid + m - s ∧ mid ≤ mid + m - s ∧ mid + m - s ≤ b := by
  have h1 := h.lo
  have h2 := h.hi
  by_cases c : mid < m
  · rw [if_pos c] at h1 h2
    omega
  · rw [if_neg c] at h1 h2
    omega
/-- Behind the rotation the first half is nowhere behind the second; each half is two rows in order. -/
theorem Cutp.halves (o : Ord lt) {f : Nat → α} {a m b mid s : Nat} (h : Cutp lt f a m b mid s) (ha : a ≤ m) (hb : m ≤ b) (hm : mid = (a + b) / 2) (s1 : Srt lt a m f) (s2 : Srt lt m b f) :
    Srt lt a s (rotF f s m (mid + m - s)) ∧ Srt lt s mid (rotF f s m (mid + m - s)) ∧ Srt lt mid (mid + m - s) (rotF f s m (mid + m - s)) ∧ Srt lt (mid + m - s) b (rotF f s m (mid + m - s)) ∧
      ∀ i j, a ≤ i → i < mid → mid ≤ j → j < b → lt (rotF f s m (mid + m - s) j) (rotF f s m (mid + m - s) i) = false := by
  obtain ⟨b1, b2, b3, b4, b5, b6⟩ := h.bounds ha hb hm
  obtain ⟨e, he⟩ : ∃ e, mid + m - s = e := ⟨_, rfl⟩
  rw [he] at b4 b5 b6 ⊢
  have g0 : ∀ k, k < s → rotF f s m e k = f k := fun k hk => by unfold rotF; rw [if_neg (by omega), if_neg (by omega)]
  have g1 : ∀ k, s ≤ k → k < mid → rotF f s m e k = f (k + (m - s)) := fun k hk hk2 => by unfold rotF; rw [if_pos (by omega)]
  have g2 : ∀ k, mid ≤ k → k < e → rotF f s m e k = f (k - (mid - s)) := fun k hk hk2 => by
    unfold rotF
    rw [if_neg (by omega), if_pos (by omega)]
    congr 1; omega
  have g3 : ∀ k, e ≤ k → rotF f s m e k = f k := fun k hk => by unfold rotF; rw [if_neg (by omega), if_neg (by omega)]
  have dn : ∀ i j, a ≤ i → i < s → e ≤ j → j < b → lt (f j) (f i) = false := fun i j hi his hj hjb => by
    rcases h.down with hd | hd
    · by_cases c : mid < m
      · rw [if_pos c] at hd
        omega
      · rw [if_neg c] at hd
        omega
    · rw [show mid + m - 1 - (s - 1) = e by omega] at hd
      have := s1.le o hi (show i ≤ s - 1 by omega) (by omega)
      exact o.tr _ _ _ (o.tr _ _ _ this hd) (s2.le o (by omega) hj hjb)
  have upp : ∀ i j, m ≤ i → i < e → s ≤ j → j < m → lt (f j) (f i) = false := fun i j hi hie hj hjm => by
    rcases h.up with hu | hu
    · by_cases c : mid < m
      · rw [if_pos c] at hu
        omega
      · rw [if_neg c] at hu
        omega
    · rw [show mid + m - 1 - s = e - 1 by omega] at hu
      have := s2.le o hi (show i ≤ e - 1 by omega) (by omega)
      exact o.tr _ _ _ (o.tr _ _ _ this (o.asy _ _ hu)) (s1.le o (by omega) hj hjm)
  refine ⟨fun i j hi hij hj => ?_, fun i j hi hij hj => ?_, fun i j hi hij hj => ?_, fun i j hi hij hj => ?_, fun i j hi him hj hjb => ?_⟩
  · rw [g0 i (by omega), g0 j hj]
    exact s1 i j hi hij (by omega)
  · rw [g1 i hi (by omega), g1 j (by omega) hj]
    exact s2 _ _ (by omega) (by omega) (by omega)
  · rw [g2 i hi (by omega), g2 j (by omega) hj]
    exact s1 _ _ (by omega) (by omega) (by omega)
  · rw [g3 i hi, g3 j (by omega)]
    exact s2 i j (by omega) hij hj
  · by_cases c1 : i < s
    · rw [g0 i c1]
      by_cases c2 : j < e
      · rw [g2 j hj c2]
        exact s1.le o hi (by omega) (by omega)
      · rw [g3 j (by omega)]
        exact dn i j hi c1 (by omega) hjb
    · rw [g1 i (by omega) him]
      by_cases c2 : j < e
      · rw [g2 j hj c2]
        exact upp _ _ (by omega) (by omega) (by omega) (by omega)
      · rw [g3 j (by omega)]
        exact s2.le o (by omega) (by omega) hjb
/-- The halves, each put in order by itself. -/
theorem Srt.merged {a mid b : Nat} {g g1 g2 : Nat → α} (h1 : a ≤ mid) (h2 : mid ≤ b) (hl : ∀ i j, a ≤ i → i < mid → mid ≤ j → j < b → lt (g j) (g i) = false) (q1 : Same a mid g g1) (t1 : Srt lt a mid g1) (q2 : Same mid b g1 g2) (t2 : Srt lt mid b g2) : Srt lt a b g2 ∧ Same a b g g2 := by
  refine ⟨Srt.join (Srt.of_eq t1 fun k k1 k2 => q2.out k (by omega)) t2 ?_, (q1.widen (Nat.le_refl _) h2).trans (q2.widen h1 (Nat.le_refl _))⟩
  intro i j hi him hj hjb
  obtain ⟨x, x1, x2, hx⟩ := q1.to i hi him
  obtain ⟨y, y1, y2, hy⟩ := q2.to j hj hjb
  rw [hy, q2.out i (by omega), hx, q1.out y (by omega)]
  exact hl x y x1 x2 y1 y2
end
end Go.Proofs.Ytknagjiipelfnaa.SO
