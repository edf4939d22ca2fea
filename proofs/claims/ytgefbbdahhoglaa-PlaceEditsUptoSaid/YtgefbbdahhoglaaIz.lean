/- The walks of Pos, outside and At; and that each printed answer of the document's is met. -/
import Derived.Test.YtgefbbdahhoglaaIy
namespace Go.Proofs.Ytgefbbdahhoglaa.PT
open Go.RowKit Go.Proofs.YtgefbbdahhoglaaW.PrintWords Go.Proofs.YtgefbbdahhoglaaW.PrintLast Go.Proofs.YtgefbbdahhoglaaW.PrintMore Go.Proofs.Ytgefbbdahhoglaa.PAll
attribute [local go_sem] max2_int min2_int max_two min_two
set_option linter.unusedVariables false

set_option maxHeartbeats 1000000 in
theorem Pos_calls (t : ByteArray) (g : Nat) (a : Int) (w : World) (hI : Ix w g t) (hs : t.size ≤ 4294967296) :
    Calls Try.prog 19 #[.pointer (some ⟨g, 0, none⟩), .int .i64 a] w fun e w' => e = .returned (.agg #[.int .i64 (rowN t (clampN t a)), .int .i64 ((clampN t a : Int) - begN t (clampN t a))]) ∧ Below w.heap.size w w' := by
  have HI := Aside0.mk hI
  obtain ⟨m1, hm1⟩ : ∃ m : Int, (if a < 0 then 0 else a) = m := ⟨_, rfl⟩
  have hm2 : (if (t.size : Int) < m1 then (t.size : Int) else m1) = (clampN t a : Int) := by
    rw [← hm1]; unfold clampN; (repeat' split) <;> omega
  have hcl := clampN_le t a
  obtain ⟨c, Hc⟩ : ∃ c, clampN t a = c := ⟨_, rfl⟩
  rw [Hc] at hm2 hcl ⊢
  clear Hc
  obtain ⟨ad, cp, hc0, hc1, hx⟩ := hI.open_
  replace hc0 := far hc0
  have hN := rowN_le t t.size
  have hrm := rowN_mono t hcl
  have hbeg := begN_le t c
  have hx1 := hx (rowN t c : Int) (by omega) (by omega)
  rw [show (rowN t c : Int).toNat = rowN t c from Int.toNat_natCast _, from_at t hcl] at hx1
  have HX := Aside0.mk hx1
  have HC1 := Aside0.mk hc1
  have hlg := blk_lt (show w.heap[g]? = some _ from HI.out.choose_spec.choose_spec.1)
  clear hx hx1 hc1 hI
  go_enter Try.func19, Try.ntmps19
  go_wp2_with fail
  refine (row_calls t g c _ (HI.out.below (below_alloc (Below.refl _ _) _)) hs hcl).mono ?_
  rintro e w1 ⟨rfl, hB⟩
  have hc1 : w1.cell? ⟨g, 1, none⟩ = some (.slice (some ad) (rowN t t.size + 1) cp) := pw_cell_below hB (far HC1.out _)
  have hx1 : w1.cell? (ad.add (rowN t c)) = some (.int .i64 (begN t c)) := pw_cell_below hB (far HX.out _)
  have hg : w1.heap[w.heap.size]? = some (.cells #[.int .i64 0, .int .i64 0] 50 (0, 0)) := (hB.block _ (by simp)).trans (heap_alloc_new w _)
  have q0 := (blk_cell hg 0).trans rfl
  have q1 := (blk_cell hg 1).trans rfl
  have f0 := blk_frozen hg 0
  have f1 := blk_frozen hg 1
  have HB := Aside0.mk hB
  have Hg := Aside0.mk hg
  obtain ⟨r, Hr⟩ : ∃ r, rowN t c = r := ⟨_, rfl⟩
  obtain ⟨b, Hb⟩ : ∃ b, begN t c = b := ⟨_, rfl⟩
  rw [Hr] at hx1 hrm ⊢
  rw [Hb] at hx1 hbeg
  have HR := Aside0.mk Hr
  have HBg := Aside0.mk Hb
  clear hB hg Hr Hb hc0 hm1 hm2
  go_wp2
  refine bodyPost_ret (results_cell_row rfl _ _ w.heap.size 50 #[.int .i64 r, .int .i64 ((c : Int) - b)] (0, 0) _ rfl ((blk_set (blk_set Hg.out 0 _) 1 _).trans rfl) Try.underlying50 rfl (by kernel_rfl)) rfl ⟨by rw [HR.out, HBg.out], ?_⟩
  exact below_set (below_set (below_then (below_alloc (Below.refl _ _) _) (by simp) HB.out) (Nat.le_refl _)) (Nat.le_refl _)

def outA (t : ByteArray) (r : Int) : Int := if r < 0 then 0 else t.size
def outB (t : ByteArray) (r : Int) : Bool := if r < 0 then true else decide ((rowN t t.size : Int) + 1 ≤ r)
theorem outside_calls (t : ByteArray) (g : Nat) (r : Int) (w : World) (hI : Ix w g t) (hs : t.size ≤ 4294967296) :
    Calls Try.prog 36 #[.pointer (some ⟨g, 0, none⟩), .int .i64 r] w fun e w' => e = .returned (.tuple #[.int .i64 (outA t r), .bool (outB t r)]) ∧ Below w.heap.size w w' := by
  obtain ⟨ad, cp, hc0, hc1, hx⟩ := hI.open_
  have hN := rowN_le t t.size
  clear hx hI
  by_cases h0 : r < 0
  · have d0 : decide (r < 0) = true := decide_eq_true h0
    rw [show outA t r = 0 by simp [outA, h0], show outB t r = true by simp [outB, h0]]
    go_enter Try.func36, Try.ntmps36
    go_wp2
    go_ret2
    exact ⟨rfl, Below.refl _ _⟩
  · have d0 : decide (r < 0) = false := decide_eq_false h0
    rw [show outA t r = t.size by simp [outA, h0], show outB t r = decide ((rowN t t.size : Int) + 1 ≤ r) by simp [outB, h0]]
    go_enter Try.func36, Try.ntmps36
    go_wp2
    go_quiet (fail)
    go_wp2
    go_ret2
    exact ⟨rfl, pw_below_drewN (Below.refl _ _) _⟩

set_option maxHeartbeats 1000000 in
theorem At_calls (t : ByteArray) (g : Nat) (r c : Int) (w : World) (hI : Ix w g t) (hs : t.size ≤ 4294967296) :
    Calls Try.prog 21 #[.pointer (some ⟨g, 0, none⟩), .agg #[.int .i64 r, .int .i64 c]] w fun e w' => e = .returned (.int .i64 (atP t r c)) ∧ Below w.heap.size w w' := by
  have hN := rowN_le t t.size
  have hB0 : Below w.heap.size w (w.alloc (.cells #[.int .i64 r, .int .i64 c] 50)) := below_alloc (Below.refl _ _) _
  have hg0 := heap_alloc_new w (.cells #[.int .i64 r, .int .i64 c] 50)
  have HI := Aside0.mk (hI.below hB0)
  clear hI
  generalize hw0 : w.alloc (.cells #[.int .i64 r, .int .i64 c] 50) = w0 at hB0 hg0 HI
  have HW0 := Aside0.mk hw0
  have HB0 := Aside0.mk hB0
  have Hg0 := Aside0.mk hg0
  have HS := Aside0.mk hs
  clear hw0 hB0 hg0
  by_cases ho : outB t r = true
  · have ho' := Aside0.mk ho
    have e1 : atP t r c = outA t r := by
      unfold atP outA; unfold outB at ho
      by_cases h0 : r < 0
      · rw [if_pos h0, if_pos h0]
      · rw [if_neg h0] at ho
        have := of_decide_eq_true ho
        rw [if_neg h0, if_neg h0, if_pos (by omega)]
    rw [e1]
    clear ho e1
    go_enter Try.func21, Try.ntmps21
    go_wp2_with fail
    refine (outside_calls t g r _ (by rw [HW0.out]; exact HI.out) HS.out).mono ?_
    rintro e w1 ⟨rfl, hB⟩
    rw [ho'.out]
    have HB := Aside0.mk hB
    clear hB
    go_wp2
    go_ret
    exact ⟨rfl, below_then (below_alloc (Below.refl _ _) _) (by simp) HB.out⟩
  · have ho' := Aside0.mk (Bool.eq_false_iff.2 ho)
    have h0 : 0 ≤ r := by
      rcases Int.lt_or_le r 0 with h | h
      · exact absurd (by simp [outB, h]) ho
      · exact h
    have h1 : r ≤ rowN t t.size := by
      unfold outB at ho
      rw [if_neg (by omega)] at ho
      have := of_decide_eq_false (Bool.eq_false_iff.2 ho)
      omega
    have hft := from_to t (r := r.toNat) (by omega)
    obtain ⟨m1, hm1⟩ : ∃ m : Int, (if c < 0 then 0 else c) = m := ⟨_, rfl⟩
    have e1 : atP t r c = fromR t r.toNat + (if toR t r.toNat - fromR t r.toNat < m1 then toR t r.toNat - fromR t r.toNat else m1) := by
      rw [← hm1]
      unfold atP
      rw [if_neg (by omega), if_neg (by omega)]
      (repeat' split) <;> omega
    have hm1b : 0 ≤ m1 := by rw [← hm1]; split <;> omega
    have E1 := Aside0.mk e1
    clear e1 ho
    go_enter Try.func21, Try.ntmps21
    go_wp2_with fail
    refine (outside_calls t g r _ (by rw [HW0.out]; exact HI.out) HS.out).mono ?_
    rintro e w1 ⟨rfl, hB⟩
    rw [ho'.out]
    rw [HW0.out] at hB
    have hg1 := (hB.block _ (blk_lt Hg0.out)).trans Hg0.out
    have HB := Aside0.mk (below_then HB0.out HB0.out.size hB)
    have HI1 := Aside0.mk (HI.out.below hB)
    have q0 := (blk_cell hg1 0).trans rfl
    have q1 := (blk_cell hg1 1).trans rfl
    have Hg1 := Aside0.mk hg1
    clear hB hg1
    go_wp2_with fail
    refine (span_calls t g r _ HI1.out HS.out h0 h1).mono ?_
    rintro e w2 ⟨rfl, hB⟩
    have hg2 := (hB.block _ (blk_lt Hg1.out)).trans Hg1.out
    have q2 := far ((blk_cell hg2 0).trans rfl)
    have q3 := far ((blk_cell hg2 1).trans rfl)
    have HB2 := Aside0.mk (below_then HB.out HB.out.size hB)
    obtain ⟨f, Hf⟩ : ∃ f, fromR t r.toNat = f := ⟨_, rfl⟩
    obtain ⟨f2, Hf2⟩ : ∃ f, toR t r.toNat = f := ⟨_, rfl⟩
    rw [Hf, Hf2] at hft ⊢
    obtain ⟨m2, hm2⟩ : ∃ m, (if f2 - f < m1 then f2 - f else m1) = m := ⟨_, rfl⟩
    have HF := Aside0.mk Hf
    have HF2 := Aside0.mk Hf2
    have hm2b : 0 ≤ m2 := by rw [← hm2]; split <;> omega
    have hm2c : m2 ≤ f2 - f := by rw [← hm2]; split <;> omega
    have HM2 := Aside0.mk hm2
    clear hB hg2 q0 q1 Hf Hf2
    go_wp2
    go_ret
    exact ⟨by rw [E1.out, HF.out, HF2.out, HM2.out]; rfl, below_alloc HB2.out _⟩
end Go.Proofs.Ytgefbbdahhoglaa.PT
