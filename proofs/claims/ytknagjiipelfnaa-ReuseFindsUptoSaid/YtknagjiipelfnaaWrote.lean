/- reuse: a leaf that is stored into memory of its own, in a region that draws its order. -/
import Derived.Test.YtknagjiipelfnaaApart
import Derived.Test.YtknagjiipelfnaaSched2
namespace Go.Proofs.Ytknagjiipelfnaa.RU
open Go.RowKit Go.WideShapes Go.ChangeShapes Go.Proofs.YtknagjiipelfnaaW.PrintWords Go.Proofs.YtknagjiipelfnaaW.PrintLast Go.Proofs.YtknagjiipelfnaaW.PrintMore Go.Proofs.Ytknagjiipelfnaa.PAll Go.Proofs.Ytknagjiipelfnaa.Sched
set_option linter.unusedVariables false

def set6 (w : World) (g : Nat) (x : S68) : World := (((((w.setCell ⟨g, 0, none⟩ (.int .i64 x.f0)).setCell ⟨g, 1, none⟩ (.int .i64 x.f1)).setCell ⟨g, 2, none⟩ (.int .i64 x.f2)).setCell ⟨g, 3, none⟩ (.int .i64 x.f3)).setCell ⟨g, 4, none⟩ (.int .u64 x.f4)).setCell ⟨g, 5, none⟩ (.string x.f5)
theorem set6_at {w : World} {g : Nat} {y : S68} (h : w.heap[g]? = some (lfC y)) (x : S68) : (set6 w g x).heap[g]? = some (lfC x) :=
  (blk_set ((blk_set ((blk_set ((blk_set ((blk_set ((blk_set h 0 _).trans rfl) 1 _).trans rfl) 2 _).trans rfl) 3 _).trans rfl) 4 _).trans rfl) 5 _).trans rfl
theorem set6_far {w : World} {g k : Nat} (x : S68) (h : k ≠ g) : (set6 w g x).heap[k]? = w.heap[k]? := by
  have e : ∀ (W : World) (j : Nat) (v : Value), (W.setCell ⟨g, j, none⟩ v).heap[k]? = W.heap[k]? := fun W j v => Below.heap_setCell W ⟨g, j, none⟩ v k h
  unfold set6
  rw [e, e, e, e, e, e]
def Mv6 (b : Nat) (x : S68) (w w' : World) : Prop := ∃ g, b ≤ g ∧ w' = set6 w g x
def FW (b : Nat) : Fact := fun v w => ∃ g, v = .pointer (some ⟨g, 0, none⟩) ∧ b ≤ g ∧ ∃ y : S68, w.heap[g]? = some (lfC y)
def GW (b : Nat) (x : S68) : Fact := fun v w => ∃ g, v = .pointer (some ⟨g, 0, none⟩) ∧ b ≤ g ∧ w.heap[g]? = some (lfC x)
theorem FW_kept (b : Nat) (x : S68) : Sched2.KeptM (Mv6 b x) (FW b) := by
  rintro v w w' ⟨g, rfl, hg, y, hy⟩ (hb | ⟨g2, hg2, rfl⟩)
  · exact ⟨g, rfl, hg, y, (hb.block _ (blk_lt hy)).trans hy⟩
  · by_cases e : g = g2
    · subst e
      exact ⟨g, rfl, hg, x, set6_at hy x⟩
    · exact ⟨g, rfl, hg, y, (set6_far x e).trans hy⟩
theorem GW_kept (b : Nat) (x : S68) : Sched2.KeptM (Mv6 b x) (GW b x) := by
  rintro v w w' ⟨g, rfl, hg, hy⟩ (hb | ⟨g2, hg2, rfl⟩)
  · exact ⟨g, rfl, hg, (hb.block _ (blk_lt hy)).trans hy⟩
  · by_cases e : g = g2
    · subst e
      exact ⟨g, rfl, hg, set6_at hy x⟩
    · exact ⟨g, rfl, hg, (set6_far x e).trans hy⟩
theorem FW_made (w : World) (b : Nat) (hb : b ≤ w.heap.size) : FW b (.pointer (some ⟨w.heap.size, 0, none⟩)) (w.alloc (lfC z68)) := ⟨_, rfl, hb, z68, heap_alloc_new w _⟩
theorem lf_cells {w : World} {g : Nat} {y : S68} (h : w.heap[g]? = some (lfC y)) : w.cell? ⟨g, 0, none⟩ = some (.int .i64 y.f0) ∧ w.cell? ⟨g, 1, none⟩ = some (.int .i64 y.f1) ∧ w.cell? ⟨g, 2, none⟩ = some (.int .i64 y.f2) ∧ w.cell? ⟨g, 3, none⟩ = some (.int .i64 y.f3) ∧ w.cell? ⟨g, 4, none⟩ = some (.int .u64 y.f4) ∧ w.cell? ⟨g, 5, none⟩ = some (.string y.f5) :=
  ⟨(blk_cell h 0).trans rfl, (blk_cell h 1).trans rfl, (blk_cell h 2).trans rfl, (blk_cell h 3).trans rfl, (blk_cell h 4).trans rfl, (blk_cell h 5).trans rfl⟩
theorem wrote_step {W w : World} {g : Nat} {y : S68} (x : S68) (hW : Below W.heap.size W w) (hg : W.heap.size ≤ g) (h : w.heap[g]? = some (lfC y)) : Mv6 W.heap.size x w (set6 w g x) ∧ Below W.heap.size W (set6 w g x) ∧ GW W.heap.size x (.pointer (some ⟨g, 0, none⟩)) (set6 w g x) :=
  ⟨⟨g, hg, rfl⟩, below_sets6 hW hg _ _ _ _ _ _, g, rfl, hg, set6_at h x⟩
theorem twin_at {m : Nat} (A0 : Option Addr) (c0 : Nat) (xs : List S68) (w : World) (hm : xs.length = m) (hr0 : Kd.C k68 w A0 xs.length xs) (hc0 : m ≤ c0) (hl : m ≤ 1048576) :
    Calls Try.prog 20 #[.slice A0 m c0] w fun e w' => ∃ (A3 A4 : Option Addr) (c3 c4 : Nat), e = .returned (.agg #[.int .i64 0, .int .i64 0, .int .u64 0, .slice A3 m c3, .slice A4 0 c4, .int .i64 0]) ∧ Kd.R k68 68 w' w.heap.size T (.slice A3 m c3) xs ∧ Kd.C k50 w' A4 0 ([] : List S50) ∧ Below w.heap.size w w' := by
  subst hm
  exact twin_calls A0 c0 xs w hr0 hc0 hl
theorem New_at {m : Nat} (n c a wt rt ea ed : Int) (es : ByteArray) (A3 A4 : Option Addr) (n4 c3 c4 : Nat) (ls : List S68) (w : World) (hm : ls.length = m) (hr3 : Kd.C k68 w A3 ls.length ls) (hc3 : m ≤ c3) (hl : m ≤ 1048576) (hs : es.size ≤ 1048576) :
    Calls Try.prog 17 #[.int .i64 n, .agg #[.int .i64 c, .int .i64 a, .int .u64 wt, .slice A3 m c3, .slice A4 n4 c4, .int .i64 rt], .agg #[.int .i64 ea, .int .i64 ed, .string es]] w fun e w' =>
      ∃ g gm vs, e = .returned (.pointer (some ⟨g, 0, none⟩)) ∧ OldS w' g gm vs (gAt (mLs n ls) (mAt n ls ea) (mDel n ls ea ed) (mIns n ls es) (mLs n ls).length) (standN (mLs n ls) (mAt n ls ea) (mDel n ls ea ed) (mLs n ls).length) ∧ Below w.heap.size w w' ∧ w.heap.size ≤ g := by
  subst hm
  exact New_calls n c a wt rt ea ed es A3 A4 n4 c3 c4 ls w hr3 hc3 hl hs
theorem MNew_at {m : Nat} (n c a wt rt ea ed : Int) (es : ByteArray) (A3 A4 : Option Addr) (c3 c4 : Nat) (ls : List S68) (w : World) (hm : ls.length = m) (hr3 : Kd.C k68 w A3 ls.length ls) (hc3 : m ≤ c3) (hr4 : Kd.C k50 w A4 0 ([] : List S50)) (hl : m ≤ 1048576) (hs : es.size ≤ 1048576) :
    Calls Try.prog 19 #[.int .i64 n, .agg #[.int .i64 c, .int .i64 a, .int .u64 wt, .slice A3 m c3, .slice A4 0 c4, .int .i64 rt], .agg #[.int .i64 ea, .int .i64 ed, .string es]] w fun e w' =>
      ∃ g A cc, e = .returned (.pointer (some ⟨g, 0, none⟩)) ∧ Mdl w' g A cc (mLs n ls) (mAt n ls ea) (mDel n ls ea ed) (mIns n ls es) ∧ Below w.heap.size w w' ∧ w.heap.size ≤ g ∧ (∀ ad, A = some ad → w.heap.size ≤ ad.block) := by
  subst hm
  exact MNew_calls n c a wt rt ea ed es A3 A4 c3 c4 ls [] w hr3 hc3 hr4 (Nat.zero_le _) hl hs
theorem marks_at {m : Nat} (A A4 : Option Addr) (c c4 : Nat) (xs : List S68) (w : World) (hm : xs.length = m) (hC : Kd.C k68 w A (xs.length + 20) (xs ++ mks 20)) (hc : m + 20 ≤ c) (hl : m ≤ 1048576) :
    Calls Try.prog 18 #[.agg #[.int .i64 0, .int .i64 0, .int .u64 0, .slice A m c, .slice A4 0 c4, .int .i64 0], .int .i64 (m : Int)] w fun e w' => e = .returned (.bool true) ∧ Below w.heap.size w w' := by
  subst hm
  exact marks_calls A A4 c c4 xs w hC hc hl
end Go.Proofs.Ytknagjiipelfnaa.RU
