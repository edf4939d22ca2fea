/- reuse: plain Lean: right, the clamps, what a right row's numbers are. -/
import Derived.Test.YtknagjiipelfnaaMFind
import Derived.Test.YtknagjiipelfnaaQc
import Derived.Test.YtknagjiipelfnaaQd
namespace Go.Proofs.Ytknagjiipelfnaa.RU
open Go.RowKit Go.Proofs.YtknagjiipelfnaaW.PrintWords Go.Proofs.YtknagjiipelfnaaW.PrintLast Go.Proofs.YtknagjiipelfnaaW.PrintMore Go.Proofs.Ytknagjiipelfnaa.PAll
set_option linter.unusedVariables false

theorem right_l0 (n : Int) (hn0 : 0 ≤ n) (hn : n ≤ 1048576) (ls : List S68) (b0 b1 b2 b5 : Int) (ns : List S50) (hl : ls.length ≤ 1048576) : ∀ (d i k : Nat) (all : Int), i + d = ls.length → 2 * d < k → 0 ≤ all → all ≤ n → trellisref17_Right.l0 k n all (i : Int) b0 b1 b2 ls ns b5 = some (rightL n all (ls.drop i)) := by
  intro d
  induction d with
  | zero =>
    intro i k all hi hk h0 h1
    obtain ⟨k, rfl⟩ : ∃ m, k = m + 1 := ⟨k - 1, by omega⟩
    simp only [trellisref17_Right.l0]
    rw [if_neg (by omega), List.drop_eq_nil_of_le (by omega)]
    rfl
  | succ d ih =>
    intro i k all hi hk h0 h1
    obtain ⟨k, rfl⟩ : ∃ m, k = m + 2 := ⟨k - 2, by omega⟩
    have h : i < ls.length := by omega
    simp only [trellisref17_Right.l0, trellisref17_Right.j2]
    rw [if_pos (by omega), if_pos (by omega), rdL ls i h, rightL_drop n all ls i h]
    have h2 := fun a => ih (i + 1) k a (by omega) (by omega)
    rw [show ((i + 1 : Nat) : Int) = (i : Int) + 1 by omega] at h2
    generalize ls[i] = x at h2 ⊢
    unfold lfOk inB
    by_cases a1 : x.f1 < 0
    · rw [if_pos a1, if_pos trivial, decide_eq_false (by omega : ¬ 0 ≤ x.f1)]; rfl
    by_cases a2 : x.f2 < 0
    · rw [if_neg a1, if_pos a2, if_pos trivial, decide_eq_false (by omega : ¬ 0 ≤ x.f2)]; simp
    by_cases a3 : x.f3 < 0
    · rw [if_neg a1, if_neg a2, if_pos a3, if_pos trivial, decide_eq_false (by omega : ¬ 0 ≤ x.f3)]; simp
    by_cases a4 : x.f1 > 1048577
    · rw [if_neg a1, if_neg a2, if_neg a3, if_pos a4, if_pos trivial, decide_eq_false (by omega : ¬ x.f1 ≤ 1048577)]; simp
    by_cases a5 : x.f2 > 1048577
    · rw [if_neg a1, if_neg a2, if_neg a3, if_neg a4, if_pos a5, if_pos trivial, decide_eq_false (by omega : ¬ x.f2 ≤ 1048577)]; simp
    rw [if_neg a1, if_neg a2, if_neg a3, if_neg a4, if_neg a5]
    by_cases a6 : x.f3 > 1048577
    · rw [decide_eq_true (by omega : 1048577 < x.f3), if_pos rfl, decide_eq_false (by omega : ¬ x.f3 ≤ 1048577)]; simp
    rw [decide_eq_false (by omega : ¬ 1048577 < x.f3), if_neg (by decide)]
    have w1 : wrap64 (all + x.f1) = all + x.f1 := w64 (by omega) (by omega)
    have w2 : wrap64 (all + x.f1 + x.f2) = all + (x.f1 + x.f2) := (w64 (by omega) (by omega)).trans (by omega)
    have w3 : wrap64 ((i : Int) + 1) = (i : Int) + 1 := w64 (by omega) (by omega)
    rw [w1, w2, w3, decide_eq_true (by omega : 0 ≤ x.f1), decide_eq_true (by omega : x.f1 ≤ 1048577), decide_eq_true (by omega : 0 ≤ x.f2), decide_eq_true (by omega : x.f2 ≤ 1048577), decide_eq_true (by omega : 0 ≤ x.f3), decide_eq_true (by omega : x.f3 ≤ 1048577)]
    by_cases a7 : all + (x.f1 + x.f2) > n
    · rw [if_pos a7, decide_eq_false (by omega)]; rfl
    · rw [if_neg a7, decide_eq_true (by omega), h2 _ (by omega) (by omega)]; rfl
theorem right_f (n c a wt rt : Int) (ls : List S68) (ns : List S50) (hl : ls.length ≤ 1048576) : trellisref17_Right.f (2 * ls.length + 4) n c a wt ls ns rt = some (rightB n ls) := by
  unfold trellisref17_Right.f rightB
  simp only [trellisref17_Right.j0]
  by_cases a1 : n < 0
  · rw [if_pos a1, if_pos trivial, decide_eq_false (by omega : ¬ 0 ≤ n)]; rfl
  rw [if_neg a1, decide_eq_true (by omega : 0 ≤ n)]
  by_cases a2 : n > 1048576
  · rw [decide_eq_true (by omega : 1048576 < n), if_pos rfl, decide_eq_false (by omega : ¬ n ≤ 1048576)]; rfl
  rw [decide_eq_false (by omega : ¬ 1048576 < n), if_neg (by decide), decide_eq_true (by omega : n ≤ 1048576)]
  have h := right_l0 n (by omega) (by omega) ls c a wt rt ns hl ls.length 0 (2 * ls.length + 3) 0 (by omega) (by omega) (by omega) (by omega)
  rw [List.drop_zero] at h
  exact h
/-- the clamp -/
def clI (k lo hi : Int) : Int := if k < lo then lo else if k > hi then hi else k
theorem clamp_f (k lo hi : Int) : trellisref17_clamp.f k lo hi = some (clI k lo hi) := by
  unfold trellisref17_clamp.f clI
  split
  · rfl
  · split <;> rfl
theorem mn_mx (k n : Int) (h : 0 ≤ n) : mn (mx k 0) n = clI k 0 n := by
  unfold mn mx clI
  repeat' split
  all_goals omega
theorem cl_bounds {k hi : Int} (h : 0 ≤ hi) : 0 ≤ clI k 0 hi ∧ clI k 0 hi ≤ hi := by
  unfold clI
  split
  · omega
  · split <;> omega
def atC (n e : Int) : Int := clI e 0 n
def delC (n e d : Int) : Int := clI d 0 (n - atC n e)
theorem eclamp_f (n e d : Int) (s : ByteArray) (h0 : 0 ≤ n) (h1 : n ≤ 1048576) : edit_Clamp.f n e d s = some (atC n e, delC n e d, s) := by
  have h2 := cl_bounds (k := e) h0
  unfold edit_Clamp.f edit_right.f
  rw [if_pos (by omega), decide_eq_true h1]
  rw [Option.bind_some, if_pos rfl, mn_mx e n h0]
  have w1 : wrap64 (n - clI e 0 n) = n - clI e 0 n := w64 (by omega) (by omega)
  rw [w1, mn_mx d _ (by omega)]
  rfl
theorem lfOk_of {x : S68} (h : lfOk x = true) : (0 ≤ x.f1 ∧ x.f1 ≤ 1048577) ∧ (0 ≤ x.f2 ∧ x.f2 ≤ 1048577) ∧ (0 ≤ x.f3 ∧ x.f3 ≤ 1048577) := by
  unfold lfOk at h
  rw [Bool.and_eq_true, Bool.and_eq_true] at h
  exact ⟨inB_yes h.1, inB_yes h.2.1, inB_yes h.2.2⟩
theorem rightL_facts (n : Int) : ∀ (ls : List S68) (all : Int), 0 ≤ all → all ≤ n → rightL n all ls = true → (∀ x ∈ ls, lfOk x = true) ∧ ∀ k, k ≤ ls.length → 0 ≤ all + begN ls k ∧ all + begN ls k ≤ n := by
  intro ls
  induction ls with
  | nil =>
    intro all h0 h1 _
    refine ⟨by simp, fun k hk => ?_⟩
    obtain rfl : k = 0 := by simpa using hk
    show 0 ≤ all + 0 ∧ all + 0 ≤ n
    omega
  | cons x r ih =>
    intro all h0 h1 h
    rw [rightL, Bool.and_eq_true, Bool.and_eq_true, decide_eq_true_eq] at h
    obtain ⟨h2, h3, h4⟩ := h
    have hx := lfOk_of h2
    obtain ⟨i1, i2⟩ := ih (all + (x.f1 + x.f2)) (by omega) h3 h4
    have shift : ∀ k, begN (x :: r) (k + 1) = x.f1 + x.f2 + begN r k := by
      intro k
      induction k with
      | zero =>
        show 0 + (rd_T68 (x :: r) ((0 : Nat) : Int)).f1 + (rd_T68 (x :: r) ((0 : Nat) : Int)).f2 = x.f1 + x.f2 + 0
        have : rd_T68 (x :: r) ((0 : Nat) : Int) = x := rfl
        rw [this]
        omega
      | succ k ihk =>
        have e1 : begN (x :: r) (k + 1 + 1) = begN (x :: r) (k + 1) + (rd_T68 (x :: r) ((k + 1 : Nat) : Int)).f1 + (rd_T68 (x :: r) ((k + 1 : Nat) : Int)).f2 := rfl
        have e2 : begN r (k + 1) = begN r k + (rd_T68 r (k : Int)).f1 + (rd_T68 r (k : Int)).f2 := rfl
        have e3 : rd_T68 (x :: r) ((k + 1 : Nat) : Int) = rd_T68 r (k : Int) := rfl
        rw [e1, ihk, e3, e2]
        omega
    refine ⟨fun y hy => ?_, fun k hk => ?_⟩
    · rcases List.mem_cons.1 hy with rfl | hy
      · exact h2
      · exact i1 y hy
    · cases k with
      | zero =>
        show 0 ≤ all + 0 ∧ all + 0 ≤ n
        omega
      | succ k =>
        have := i2 k (by simpa using hk)
        rw [shift]
        omega
/-- the model's numbers, of a right row and else -/
def mLs (n : Int) (ls : List S68) : List S68 := if rightB n ls = true then ls else []
def mAt (n : Int) (ls : List S68) (e : Int) : Int := if rightB n ls = true then atC n e else 0
def mDel (n : Int) (ls : List S68) (e d : Int) : Int := if rightB n ls = true then delC n e d else 0
def mIns (n : Int) (ls : List S68) (s : ByteArray) : Int := if rightB n ls = true then (s.size : Int) else 0
theorem right_n {n : Int} {ls : List S68} (h : rightB n ls = true) : (0 ≤ n ∧ n ≤ 1048576) ∧ rightL n 0 ls = true := by
  unfold rightB at h
  rw [Bool.and_eq_true, Bool.and_eq_true, decide_eq_true_eq, decide_eq_true_eq] at h
  exact ⟨⟨h.1, h.2.1⟩, h.2.2⟩
theorem mok (n : Int) (ls : List S68) (e d : Int) (s : ByteArray) (hl : ls.length ≤ 1048576) (hs : s.size ≤ 1048576) : MOk (mLs n ls) (mAt n ls e) (mDel n ls e d) (mIns n ls s) := by
  unfold mLs mAt mDel mIns
  by_cases h : rightB n ls = true
  · rw [if_pos h, if_pos h, if_pos h, if_pos h]
    obtain ⟨⟨h0, h1⟩, h2⟩ := right_n h
    obtain ⟨f1, f2⟩ := rightL_facts n ls 0 (by omega) h0 h2
    have c1 := cl_bounds (k := e) h0
    have c2 := cl_bounds (k := d) (hi := n - atC n e) (by unfold atC; omega)
    refine ⟨fun k hk => ?_, fun k hk => ?_, by unfold atC; omega, by unfold delC; unfold atC at c2 ⊢; omega, by omega, hl⟩
    · rw [rdL ls k hk]
      exact lfOk_of (f1 _ (List.getElem_mem hk))
    · have := f2 k hk
      omega
  · rw [if_neg h, if_neg h, if_neg h, if_neg h]
    refine ⟨fun k hk => by simp at hk, fun k hk => ?_, by omega, by omega, by omega, by simp⟩
    obtain rfl : k = 0 := by simpa using hk
    exact ⟨Int.le_refl _, by decide⟩
end Go.Proofs.Ytknagjiipelfnaa.RU
