/- There and back (2.7): what the law PlaceBack asks, in plain Lean; and the call 'started'. -/
import Derived.Test.YtgefbbdahhoglaaBorders
import Derived.Test.YtgefbbdahhoglaaAtWide
namespace Go.Proofs.Ytgefbbdahhoglaa.PT
open Go.RowKit Go.Proofs.YtgefbbdahhoglaaW.PrintWords Go.Proofs.YtgefbbdahhoglaaW.PrintLast Go.Proofs.YtgefbbdahhoglaaW.PrintMore Go.Proofs.Ytgefbbdahhoglaa.PAll
set_option linter.unusedVariables false

theorem back_facts (t : ByteArray) {a : Nat} (h : a ≤ t.size) :
    atP t (rowN t a) ((a : Int) - begN t a) = a ∧
    ∃ b : Nat, atW t (rowN t a) (widC t a) = b ∧ b ≤ a ∧ a - b ≤ 3 ∧ rowN t b = rowN t a ∧ widC t b = widC t a ∧ (b < a → rowN t (b + 1) = rowN t a ∧ widC t (b + 1) = widC t a) := by
  have hr := rowN_mono t h
  have hbeg := begN_le t a
  obtain ⟨p1, p2⟩ := place_in_row t h
  have hsz := rowS_size t hr
  have hft := from_to t hr
  constructor
  · unfold atP
    rw [if_neg (by omega), if_neg (by omega), Int.toNat_natCast, if_neg (by omega), if_neg (by omega)]
    omega
  · have hC : 0 ≤ (a : Int) - begN t a := by omega
    obtain ⟨b, b1, b2, b3, b4, b5, b6⟩ := wide_there (rowS t (rowN t a)) ((a : Int) - begN t a) hC
    have hw0 := (wideC_bounds (rowS t (rowN t a)) ((a : Int) - begN t a) hC).1
    have e1 : atW t (rowN t a) (widC t a) = ((begN t a + b : Nat) : Int) := by
      unfold atW wideP widC
      rw [if_neg (by omega), if_neg (by omega), Int.toNat_natCast, if_neg (by omega), b1, p1]
      omega
    obtain ⟨c1, c2⟩ := in_row t (r := rowN t a) (j := begN t a + b) hr (by rw [p1]; omega) (by omega)
    refine ⟨begN t a + b, e1, by omega, by omega, c1, ?_, fun hlt => ?_⟩
    · unfold widC
      rw [c1, show (((begN t a + b : Nat) : Int) - begN t (begN t a + b)) = (b : Int) by omega]
      exact b5
    · obtain ⟨d1, d2⟩ := in_row t (r := rowN t a) (j := begN t a + b + 1) hr (by rw [p1]; omega) (by omega)
      refine ⟨d1, ?_⟩
      unfold widC
      rw [d1, show (((begN t a + b + 1 : Nat) : Int) - begN t (begN t a + b + 1)) = (b : Int) + 1 by omega]
      exact b6 (by omega)

theorem clampN_of (t : ByteArray) {a : Nat} (h : a ≤ t.size) : clampN t (a : Int) = a := by
  unfold clampN
  (repeat' split) <;> omega
theorem back_pos (t : ByteArray) {r : Nat} (hr : r ≤ rowN t t.size) {c : Int} (h0 : 0 ≤ c) (h1 : c ≤ toR t r - fromR t r) :
    rowN t (clampN t (atP t r c)) = r ∧ (clampN t (atP t r c) : Int) - begN t (clampN t (atP t r c)) = c := by
  have hft := from_to t hr
  have e : atP t r c = ((fromR t r + c).toNat : Nat) := by
    unfold atP
    rw [if_neg (by omega), if_neg (by omega), Int.toNat_natCast, if_neg (by omega), if_neg (by omega)]
    omega
  rw [e, clampN_of t (by omega)]
  obtain ⟨c1, c2⟩ := in_row t (r := r) (j := (fromR t r + c).toNat) hr (by omega) (by omega)
  exact ⟨c1, by omega⟩
theorem back_units (t : ByteArray) {r : Nat} (hr : r ≤ rowN t t.size) {c : Int} (h0 : 0 ≤ c) :
    rowN t (clampN t (atW t r c)) = r ∧ rowN t (clampN t (toR t r)) = r ∧ widC t (clampN t (atW t r c)) ≤ c ∧
    (widC t (clampN t (atW t r c)) = c ∨ (c - widC t (clampN t (atW t r c)) = 1 ∧ c ≤ widC t (clampN t (toR t r))) ∨ widC t (clampN t (atW t r c)) = widC t (clampN t (toR t r))) ∧
    0 ≤ widC t (clampN t (atW t r c)) := by
  have hft := from_to t hr
  have hsz := rowS_size t hr
  obtain ⟨b, b1, b2, b3, b4⟩ := units_back (rowS t r) c h0
  have e : atW t r c = (((fromR t r).toNat + b : Nat) : Int) := by
    unfold atW wideP
    rw [if_neg (by omega), if_neg (by omega), Int.toNat_natCast, if_neg (by omega), b1]
    omega
  have e2 : toR t r = ((toR t r).toNat : Int) := by omega
  rw [e]
  rw [show clampN t (toR t r) = (toR t r).toNat by rw [e2, clampN_of t (by omega)]; omega]
  rw [clampN_of t (by omega)]
  obtain ⟨c1, c2⟩ := in_row t (r := r) (j := (fromR t r).toNat + b) hr (by omega) (by omega)
  obtain ⟨d1, d2⟩ := in_row t (r := r) (j := (toR t r).toNat) hr (by omega) (by omega)
  have w1 : widC t ((fromR t r).toNat + b) = wideC (rowS t r) b := by
    unfold widC
    rw [c1, show ((((fromR t r).toNat + b : Nat) : Int) - begN t ((fromR t r).toNat + b)) = (b : Int) by omega]
  have w2 : widC t (toR t r).toNat = wideC (rowS t r) (rowS t r).size := by
    unfold widC
    rw [d1, show ((((toR t r).toNat : Nat) : Int) - begN t (toR t r).toNat) = ((rowS t r).size : Int) by omega]
  rw [w1, w2]
  exact ⟨c1, d1, b3, b4, (wideC_bounds (rowS t r) b (by omega)).1⟩

/-! ### started -/
def T0 : ByteArray := ⟨#[97, 10, 240, 159, 152, 128, 98]⟩
theorem T0_rows : rowN T0 T0.size = 1 := by decide +kernel
theorem T0_cl : clampN T0 6 = 6 := by decide +kernel
theorem T0_row : rowN T0 6 = 1 := by decide +kernel
theorem T0_beg : begN T0 6 = 2 := by decide +kernel
theorem T0_wid : widC T0 6 = 2 := by decide +kernel
theorem T0_atW : atW T0 1 3 = 7 := by decide +kernel
theorem T0_atP : atP T0 1 1 = 3 := by decide +kernel

set_option maxHeartbeats 1000000 in
theorem started_calls (w : World) : Calls Try.prog 27 #[] w fun e w' => e = .returned (.bool true) ∧ Below w.heap.size w w' := by
  have s0 : T0.size ≤ 4294967296 := by decide
  go_enter Try.func27, Try.ntmps27
  go_wp2_with fail
  refine (New_calls T0 _ s0).mono ?_
  rintro e w1 ⟨g, rfl, hI, hB⟩
  have HI := Aside0.mk hI
  have HB := Aside0.mk hB
  have S0 := Aside0.mk s0
  clear hI hB s0
  go_wp2_with fail
  refine (Rows_calls T0 g _ HI.out).mono ?_
  rintro e w2 ⟨rfl, hB⟩
  rw [T0_rows]
  have HI2 := Aside0.mk (HI.out.below hB)
  have HB2 := Aside0.mk (below_then HB.out HB.out.size hB)
  clear hB
  go_wp2_with fail
  refine (Pos_calls T0 g 6 _ HI2.out S0.out).mono ?_
  rintro e w3 ⟨rfl, hB⟩
  rw [T0_cl, T0_row, T0_beg]
  have HI3 := Aside0.mk (HI2.out.below hB)
  have HB3 := Aside0.mk (below_then HB2.out HB2.out.size hB)
  clear hB
  go_wp2_with fail
  refine (Wide_calls T0 g 6 _ HI3.out S0.out).mono ?_
  rintro e w4 ⟨rfl, hB⟩
  rw [T0_cl, T0_row, T0_wid]
  have HI4 := Aside0.mk (HI3.out.below hB)
  have HB4 := Aside0.mk (below_then HB3.out HB3.out.size hB)
  clear hB
  go_wp2_with fail
  refine (AtWide_calls T0 g 1 3 _ HI4.out S0.out).mono ?_
  rintro e w5 ⟨rfl, hB⟩
  rw [T0_atW]
  have HI5 := Aside0.mk (HI4.out.below hB)
  have HB5 := Aside0.mk (below_then HB4.out HB4.out.size hB)
  clear hB
  go_wp2_with fail
  refine (At_calls T0 g 1 1 _ HI5.out S0.out).mono ?_
  rintro e w6 ⟨rfl, hB⟩
  rw [T0_atP]
  have HB6 := Aside0.mk (below_then HB5.out HB5.out.size hB)
  clear hB
  go_wp2
  go_ret
  exact ⟨rfl, HB6.out⟩
end Go.Proofs.Ytgefbbdahhoglaa.PT
