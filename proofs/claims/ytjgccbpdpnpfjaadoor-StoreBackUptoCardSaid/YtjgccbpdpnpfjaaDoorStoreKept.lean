/- What can be kept, copied, and is the same: what the printed functions kept, Kept, twin and same answer. -/
import Derived.Test.YtjgccbpdpnpfjaaDoorStorePure
import Derived.Test.YtjgccbpdpnpfjaaDoorPAllx5
import Derived.Test.YtjgccbpdpnpfjaaDoorPAllx3
namespace Go.Proofs.YtjgccbpdpnpfjaaDoor.ST
open Go.RowKit Go.Proofs.YtjgccbpdpnpfjaaDoorW.PrintWords Go.Proofs.YtjgccbpdpnpfjaaDoorW.PrintLast Go.Proofs.YtjgccbpdpnpfjaaDoorW.PrintMore Go.Proofs.YtjgccbpdpnpfjaaDoor.PAll

def lf (x : S39) : Bool := decide (0 ≤ x.f0) && (decide (0 ≤ x.f1) && (decide (0 ≤ x.f2) && decide (0 ≤ x.f3)))
def nd (x : S41) : Bool := decide (0 ≤ x.f3) && (decide (0 ≤ x.f4) && (decide (0 ≤ x.f5) && (decide (-1 ≤ x.f6) && decide (x.f6 < 9223372036854775807))))
def keptB (c a rt : Int) (ls : List S39) (ns : List S41) : Bool := decide (0 ≤ c) && (decide (0 ≤ a) && decide (0 ≤ rt)) && ls.all lf && ns.all nd
theorem rdL (l : List S39) (i : Nat) (h : i < l.length) : rd_T39 l (i : Int) = l[i] := by
  unfold rd_T39
  rw [Int.toNat_natCast, List.getD_eq_getElem?_getD, List.getElem?_eq_getElem h]
  rfl
theorem rdN (l : List S41) (i : Nat) (h : i < l.length) : rd_T41 l (i : Int) = l[i] := by
  unfold rd_T41
  rw [Int.toNat_natCast, List.getD_eq_getElem?_getD, List.getElem?_eq_getElem h]
  rfl
theorem all_drop {α : Type} (p : α → Bool) (l : List α) (i : Nat) (h : i < l.length) : (l.drop i).all p = (p l[i] && (l.drop (i + 1)).all p) := by
  rw [List.drop_eq_getElem_cons h]; rfl
theorem kept_l1 (ns : List S41) (hx : ∀ x ∈ ns, x.f6 ≤ 9223372036854775807) (hl : ns.length ≤ 1073741824) : ∀ (d i k : Nat), i + d = ns.length → d < k → store_kept.l1 k ns (ns.length : Int) (i : Int) = some ((ns.drop i).all nd) := by
  intro d
  induction d with
  | zero =>
    intro i k hi hk
    obtain ⟨k, rfl⟩ : ∃ m, k = m + 1 := ⟨k - 1, by omega⟩
    simp only [store_kept.l1]
    rw [if_neg (by omega), List.drop_eq_nil_of_le (by omega)]
    rfl
  | succ d ih =>
    intro i k hi hk
    obtain ⟨k, rfl⟩ : ∃ m, k = m + 1 := ⟨k - 1, by omega⟩
    have h : i < ns.length := by omega
    simp only [store_kept.l1]
    rw [if_pos (by omega), if_pos (by omega), if_pos (by omega), rdN ns i h, w64 (by omega) (by omega), all_drop nd ns i h]
    have h2 := ih (i + 1) k (by omega) (by omega)
    have h3 := hx _ (List.getElem_mem h)
    rw [show ((i : Int) + 1) = ((i + 1 : Nat) : Int) by omega, h2]
    generalize ns[i] = x at h3 ⊢
    unfold nd
    by_cases a1 : x.f3 < 0
    · rw [if_pos a1, decide_eq_false (by omega : ¬ 0 ≤ x.f3)]; rfl
    rw [if_neg a1, decide_eq_true (by omega : 0 ≤ x.f3)]
    by_cases a2 : x.f4 < 0
    · rw [if_pos a2, decide_eq_false (by omega : ¬ 0 ≤ x.f4)]; rfl
    rw [if_neg a2, decide_eq_true (by omega : 0 ≤ x.f4)]
    by_cases a3 : x.f5 < 0
    · rw [if_pos a3, decide_eq_false (by omega : ¬ 0 ≤ x.f5)]; rfl
    rw [if_neg a3, decide_eq_true (by omega : 0 ≤ x.f5)]
    by_cases a4 : x.f6 < -1
    · rw [if_pos a4, decide_eq_false (by omega : ¬ -1 ≤ x.f6)]; rfl
    rw [if_neg a4, decide_eq_true (by omega : -1 ≤ x.f6)]
    by_cases a5 : x.f6 = 9223372036854775807
    · rw [if_pos a5, decide_eq_false (by omega : ¬ x.f6 < 9223372036854775807)]; rfl
    rw [if_neg a5, decide_eq_true (by omega : x.f6 < 9223372036854775807)]
    rfl
theorem kept_l0 (ls : List S39) (ns : List S41) (hx : ∀ x ∈ ns, x.f6 ≤ 9223372036854775807) (hl : ls.length ≤ 1073741824) (hn : ns.length ≤ 1073741824) (b0 b1 b2 b5 : Int) : ∀ (d i k : Nat), i + d = ls.length → d + ns.length + 1 < k →
    store_kept.l0 k ls (ls.length : Int) (i : Int) b0 b1 b2 ls ns b5 = some ((ls.drop i).all lf && ns.all nd) := by
  intro d
  induction d with
  | zero =>
    intro i k hi hk
    obtain ⟨k, rfl⟩ : ∃ m, k = m + 1 := ⟨k - 1, by omega⟩
    simp only [store_kept.l0]
    have h2 := kept_l1 ns hx hn ns.length 0 k (by omega) (by omega)
    rw [if_neg (by omega), List.drop_eq_nil_of_le (by omega)]
    rw [List.drop_zero] at h2
    exact h2
  | succ d ih =>
    intro i k hi hk
    obtain ⟨k, rfl⟩ : ∃ m, k = m + 1 := ⟨k - 1, by omega⟩
    have h : i < ls.length := by omega
    simp only [store_kept.l0]
    rw [if_pos (by omega), if_pos (by omega), if_pos (by omega), rdL ls i h, w64 (by omega) (by omega), all_drop lf ls i h]
    have h2 := ih (i + 1) k (by omega) (by omega)
    rw [show ((i : Int) + 1) = ((i + 1 : Nat) : Int) by omega, h2]
    generalize ls[i] = x
    unfold lf
    by_cases a1 : x.f0 < 0
    · rw [if_pos a1, decide_eq_false (by omega : ¬ 0 ≤ x.f0)]; rfl
    rw [if_neg a1, decide_eq_true (by omega : 0 ≤ x.f0)]
    by_cases a2 : x.f1 < 0
    · rw [if_pos a2, decide_eq_false (by omega : ¬ 0 ≤ x.f1)]; rfl
    rw [if_neg a2, decide_eq_true (by omega : 0 ≤ x.f1)]
    by_cases a3 : x.f2 < 0
    · rw [if_pos a3, decide_eq_false (by omega : ¬ 0 ≤ x.f2)]; rfl
    rw [if_neg a3, decide_eq_true (by omega : 0 ≤ x.f2)]
    by_cases a4 : x.f3 < 0
    · rw [if_pos a4, decide_eq_false (by omega : ¬ 0 ≤ x.f3)]; rfl
    rw [if_neg a4, decide_eq_true (by omega : 0 ≤ x.f3)]
    rfl
theorem kept_f (c a wt rt : Int) (ls : List S39) (ns : List S41) (hx : ∀ x ∈ ns, x.f6 ≤ 9223372036854775807) (hl : ls.length ≤ 1073741824) (hn : ns.length ≤ 1073741824) :
    store_kept.f (ls.length + ns.length + 3) c a wt ls ns rt = some (keptB c a rt ls ns) := by
  have h2 := kept_l0 ls ns hx hl hn c a wt rt ls.length 0 (ls.length + ns.length + 2) (by omega) (by omega)
  rw [List.drop_zero] at h2
  unfold store_kept.f keptB
  simp only [store_kept.j0]
  by_cases a1 : c < 0
  · rw [if_pos a1, if_pos trivial, decide_eq_false (by omega : ¬ 0 ≤ c)]; rfl
  rw [if_neg a1, decide_eq_true (by omega : 0 ≤ c)]
  by_cases a2 : a < 0
  · rw [if_pos a2, if_pos trivial, decide_eq_false (by omega : ¬ 0 ≤ a)]; rfl
  rw [if_neg a2, decide_eq_true (by omega : 0 ≤ a)]
  by_cases a3 : rt < 0
  · rw [decide_eq_true a3, if_pos rfl, decide_eq_false (by omega : ¬ 0 ≤ rt)]; rfl
  rw [decide_eq_false a3, if_neg (by simp), decide_eq_true (by omega : 0 ≤ rt)]
  simpa using h2

theorem same_l1 (b0 b1 b2 b5 d0 d1 d2 d5 : Int) (ls : List S39) (ns : List S41) (hn : ns.length ≤ 1073741824) : ∀ (d i k : Nat), i + d = ns.length → d < k →
    trellislaw33_same.l1 k (i : Int) b0 b1 b2 ls ns b5 d0 d1 d2 ls ns d5 = some true := by
  intro d
  induction d with
  | zero =>
    intro i k hi hk
    obtain ⟨k, rfl⟩ : ∃ m, k = m + 1 := ⟨k - 1, by omega⟩
    simp only [trellislaw33_same.l1]
    rw [if_neg (by omega)]
  | succ d ih =>
    intro i k hi hk
    obtain ⟨k, rfl⟩ : ∃ m, k = m + 1 := ⟨k - 1, by omega⟩
    have h : i < ns.length := by omega
    simp only [trellislaw33_same.l1]
    have h2 := ih (i + 1) k (by omega) (by omega)
    rw [if_pos (by omega), if_pos (by omega), if_pos (by omega), if_neg (by simp), w64 (by omega) (by omega)]
    exact h2
theorem same_l0 (b0 b1 b2 b5 d0 d1 d2 d5 : Int) (ls : List S39) (ns : List S41) (hl : ls.length ≤ 1073741824) (hn : ns.length ≤ 1073741824) : ∀ (d i k : Nat), i + d = ls.length → d + ns.length + 1 < k →
    trellislaw33_same.l0 k (i : Int) b0 b1 b2 ls ns b5 d0 d1 d2 ls ns d5 = some true := by
  intro d
  induction d with
  | zero =>
    intro i k hi hk
    obtain ⟨k, rfl⟩ : ∃ m, k = m + 1 := ⟨k - 1, by omega⟩
    simp only [trellislaw33_same.l0]
    rw [if_neg (by omega)]
    exact same_l1 b0 b1 b2 b5 d0 d1 d2 d5 ls ns hn ns.length 0 k (by omega) (by omega)
  | succ d ih =>
    intro i k hi hk
    obtain ⟨k, rfl⟩ : ∃ m, k = m + 1 := ⟨k - 1, by omega⟩
    have h : i < ls.length := by omega
    simp only [trellislaw33_same.l0]
    have h2 := ih (i + 1) k (by omega) (by omega)
    rw [if_pos (by omega), if_pos (by omega), if_pos (by omega), if_neg (by simp), w64 (by omega) (by omega)]
    exact h2
theorem same_f (c a wt rt : Int) (ls : List S39) (ns : List S41) (hl : ls.length ≤ 1073741824) (hn : ns.length ≤ 1073741824) :
    trellislaw33_same.f (ls.length + ns.length + 3) c a wt ls ns rt c a wt ls ns rt = some true := by
  unfold trellislaw33_same.f
  simp only [trellislaw33_same.j0]
  rw [if_pos trivial, if_pos trivial, if_pos trivial, if_pos trivial, if_pos trivial, if_neg (by simp)]
  exact same_l0 c a wt rt c a wt rt ls ns hl hn ls.length 0 _ (by omega) (by omega)
end Go.Proofs.YtjgccbpdpnpfjaaDoor.ST
