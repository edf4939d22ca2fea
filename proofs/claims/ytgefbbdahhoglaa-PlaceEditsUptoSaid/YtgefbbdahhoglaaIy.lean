/- The walks of the index's methods that only read: Rows, span, Row, row, Pos, outside, At. -/
import Derived.Test.YtgefbbdahhoglaaIx
import Derived.BigRegion
namespace Go.Proofs.Ytgefbbdahhoglaa.PT
open Go.RowKit Go.Proofs.YtgefbbdahhoglaaW.PrintWords Go.Proofs.YtgefbbdahhoglaaW.PrintLast Go.Proofs.YtgefbbdahhoglaaW.PrintMore Go.Proofs.Ytgefbbdahhoglaa.PAll
attribute [local go_sem] max2_int min2_int max_two min_two

theorem Ix.open_ {w : World} {g : Nat} {t : ByteArray} (h : Ix w g t) : ∃ ad c, w.cell? ⟨g, 0, none⟩ = some (.string t) ∧ w.cell? ⟨g, 1, none⟩ = some (.slice (some ad) (rowN t t.size + 1) c) ∧
    ∀ i : Int, 0 ≤ i → i ≤ rowN t t.size → w.cell? (ad.add i.toNat) = some (.int .i64 (fromR t i.toNat)) := by
  obtain ⟨A, c, hg, hC⟩ := h
  rw [stl_length] at hg hC
  obtain ⟨ad, rfl, _⟩ := Kd.at_int hC 0 (by omega) (by omega)
  refine ⟨ad, c, (blk_cell hg 0).trans rfl, (blk_cell hg 1).trans rfl, fun i h0 h1 => ?_⟩
  obtain ⟨ad', e, hx⟩ := Kd.at_int hC i h0 (by omega)
  injection e with e
  subst e
  exact hx

theorem Rows_calls (t : ByteArray) (g : Nat) (w : World) (hI : Ix w g t) :
    Calls Try.prog 17 #[.pointer (some ⟨g, 0, none⟩)] w fun e w' => e = .returned (.int .i64 ((rowN t t.size : Int) + 1)) ∧ Below w.heap.size w w' := by
  obtain ⟨ad, c, hc0, hc1, hx⟩ := hI.open_
  clear hx hc0
  go_enter Try.func17, Try.ntmps17
  go_wp2
  go_ret
  exact ⟨rfl, Below.refl _ _⟩

theorem far {w : World} {a : Addr} {v : Value} (h : w.cell? a = some v) : ∀ o, (w.alloc o).cell? a = some v := fun o => pw_cell_below (below_alloc (Below.refl _ _) o) h
theorem far_drew {w : World} {a : Addr} {v : Value} (h : w.cell? a = some v) : ∀ o n, ((w.alloc o).drewN n).cell? a = some v := fun o n => pw_cell_below (pw_below_drewN (below_alloc (Below.refl _ _) o) n) h

set_option maxHeartbeats 1000000 in
theorem span_calls (t : ByteArray) (g : Nat) (i : Int) (w : World) (hI : Ix w g t) (hs : t.size ≤ 4294967296) (h0 : 0 ≤ i) (h1 : i ≤ rowN t t.size) :
    Calls Try.prog 33 #[.pointer (some ⟨g, 0, none⟩), .int .i64 i] w fun e w' => e = .returned (.agg #[.int .i64 (fromR t i.toNat), .int .i64 (toR t i.toNat)]) ∧ Below w.heap.size w w' := by
  obtain ⟨ad, c, hc0, hc1, hx⟩ := hI.open_
  have hN := rowN_le t t.size
  have hft := from_to t (r := i.toNat) (by omega)
  obtain ⟨N, HN⟩ : ∃ N, rowN t t.size = N := ⟨_, rfl⟩
  rw [HN] at hc1 h1 hN
  have hx1 := hx i h0 (by omega)
  obtain ⟨f, Hf⟩ : ∃ f, fromR t i.toNat = f := ⟨_, rfl⟩
  rw [Hf] at hx1
  have hHf := Aside0.mk Hf
  have hHN := Aside0.mk HN
  replace hc0 := far hc0
  replace hc1 := far hc1
  replace hx1 := far hx1
  by_cases hlt : i < N
  · have hx2 := hx (i + 1) (by omega) (by omega)
    obtain ⟨f2, Hf2⟩ : ∃ f2, fromR t (i + 1).toNat = f2 := ⟨_, rfl⟩
    rw [Hf2] at hx2
    have hft2 := from_to t (r := (i + 1).toNat) (by omega)
    have e2 : toR t i.toNat = f2 - 1 := by
      unfold toR; rw [if_pos (by omega), ← Hf2]; unfold fromR; rw [show (i + 1).toNat = i.toNat + 1 by omega]
    have b1 : 0 ≤ f2 := by omega
    have b2 : f2 ≤ 4294967296 := by omega
    have hHe2 := Aside0.mk e2
    replace hx2 := far hx2
    clear hx Hf HN hft e2 hft2 Hf2 hI
    go_enter Try.func33, Try.ntmps33
    go_wp2
    go_region
    go_wp2
    exact bodyPost_ret (results_cell_row rfl _ _ w.heap.size 42 #[.int .i64 f, .int .i64 (f2 - 1)] (0, 0) _ rfl (heap_alloc_new w _) Try.underlying42 rfl (by kernel_rfl)) rfl ⟨by rw [hHf.out, hHe2.out], below_drew (below_alloc (Below.refl _ _) _)⟩
  · have e2 : toR t i.toNat = t.size := by unfold toR; rw [if_neg (by omega)]
    have hHe2 := Aside0.mk e2
    clear hx Hf HN hft e2 hI
    go_enter Try.func33, Try.ntmps33
    go_wp2
    go_region
    go_wp2
    exact bodyPost_ret (results_cell_row rfl _ _ w.heap.size 42 #[.int .i64 f, .int .i64 t.size] (0, 0) _ rfl (heap_alloc_new w _) Try.underlying42 rfl (by kernel_rfl)) rfl ⟨by rw [hHf.out, hHe2.out], below_drew (below_alloc (Below.refl _ _) _)⟩

/-! Row -/
def rowOk (t : ByteArray) (r : Int) : Bool := decide (0 ≤ r ∧ r ≤ rowN t t.size)
def rowA (t : ByteArray) (r : Int) : Int := if rowOk t r = true then fromR t r.toNat else 0
def rowB (t : ByteArray) (r : Int) : Int := if rowOk t r = true then toR t r.toNat else 0
set_option maxHeartbeats 1000000 in
theorem Row_calls (t : ByteArray) (g : Nat) (i : Int) (w : World) (hI : Ix w g t) (hs : t.size ≤ 4294967296) :
    Calls Try.prog 15 #[.pointer (some ⟨g, 0, none⟩), .int .i64 i] w fun e w' => e = .returned (.tuple #[.agg #[.int .i64 (rowA t i), .int .i64 (rowB t i)], .bool (rowOk t i)]) ∧ Below w.heap.size w w' := by
  obtain ⟨ad, c, hc0, hc1, hx⟩ := hI.open_
  replace hc1 := far hc1
  have HI := Aside0.mk hI
  have hN := rowN_le t t.size
  clear hx hc0 hI
  by_cases h0 : i < 0
  · have e1 : rowOk t i = false := by unfold rowOk; simp; omega
    have e2 : rowA t i = 0 := by simp [rowA, e1]
    have e3 : rowB t i = 0 := by simp [rowB, e1]
    rw [e1, e2, e3]
    have d0 : decide (i < 0) = true := by simpa using h0
    clear e1 e2 e3
    go_enter Try.func15, Try.ntmps15
    go_wp2
    exact bodyPost_ret (results_ct rfl _ _ w.heap.size 42 #[.int .i64 0, .int .i64 0] (0, 0) _ rfl (by simpa using heap_alloc_new w _) Try.underlying42 rfl (by kernel_rfl)) rfl ⟨rfl, below_alloc (Below.refl _ _) _⟩
  · have d0 : decide (i < 0) = false := by simpa using h0
    by_cases h1 : i ≤ rowN t t.size
    · have e1 : rowOk t i = true := by unfold rowOk; simp; omega
      have e2 : rowA t i = fromR t i.toNat := by simp [rowA, e1]
      have e3 : rowB t i = toR t i.toNat := by simp [rowB, e1]
      rw [e1, e2, e3]
      have d1 : decide ((rowN t t.size : Int) + 1 ≤ i) = false := by simp; omega
      clear e1 e2 e3
      have hb := blk_lt (show w.heap[g]? = some _ from HI.out.choose_spec.choose_spec.1)
      go_enter Try.func15, Try.ntmps15
      go_wp2_with fail
      refine (span_calls t g i _ (HI.out.below (below_alloc (Below.refl _ _) _)) hs (by omega) h1).mono ?_
      rintro e w1 ⟨rfl, hB⟩
      obtain ⟨f, Hf⟩ : ∃ f, fromR t i.toNat = f := ⟨_, rfl⟩
      obtain ⟨f2, Hf2⟩ : ∃ f, toR t i.toNat = f := ⟨_, rfl⟩
      rw [Hf, Hf2]
      have hg : w1.heap[w.heap.size]? = some (.cells #[.int .i64 0, .int .i64 0] 42 (0, 0)) := (hB.block _ (by simp)).trans (heap_alloc_new w _)
      have q0 := (blk_cell hg 0).trans rfl
      have q1 := (blk_cell hg 1).trans rfl
      have f0 := blk_frozen hg 0
      have f1 := blk_frozen hg 1
      have HB := Aside0.mk hB
      have Hg := Aside0.mk hg
      have HF := Aside0.mk Hf
      have HF2 := Aside0.mk Hf2
      clear hB hg Hf Hf2
      go_wp2
      refine bodyPost_ret (results_ct rfl _ _ w.heap.size 42 #[.int .i64 f, .int .i64 f2] (0, 0) _ rfl ((blk_set (blk_set Hg.out 0 _) 1 _).trans rfl) Try.underlying42 rfl (by kernel_rfl)) rfl ⟨by rw [HF.out, HF2.out]; rfl, ?_⟩
      exact below_set (below_set (below_then (below_alloc (Below.refl _ _) _) (by simp) HB.out) (Nat.le_refl _)) (Nat.le_refl _)
    · have e1 : rowOk t i = false := by unfold rowOk; simp; omega
      have e2 : rowA t i = 0 := by simp [rowA, e1]
      have e3 : rowB t i = 0 := by simp [rowB, e1]
      rw [e1, e2, e3]
      have d1 : decide ((rowN t t.size : Int) + 1 ≤ i) = true := by simp; omega
      clear e1 e2 e3
      go_enter Try.func15, Try.ntmps15
      go_wp2
      exact bodyPost_ret (results_ct rfl _ _ w.heap.size 42 #[.int .i64 0, .int .i64 0] (0, 0) _ rfl (by simpa using heap_alloc_new w _) Try.underlying42 rfl (by kernel_rfl)) rfl ⟨rfl, below_alloc (Below.refl _ _) _⟩

/-! row: the search -/
set_option maxHeartbeats 1000000 in
theorem row_calls (t : ByteArray) (g a : Nat) (w : World) (hI : Ix w g t) (hs : t.size ≤ 4294967296) (ha : a ≤ t.size) :
    Calls Try.prog 34 #[.pointer (some ⟨g, 0, none⟩), .int .i64 (a : Int)] w fun e w' => e = .returned (.int .i64 (rowN t a : Int)) ∧ Below w.heap.size w w' := by
  obtain ⟨ad, c, hc0, hc1, hx⟩ := hI.open_
  have hN := rowN_le t t.size
  obtain ⟨N, HN⟩ : ∃ N, rowN t t.size = N := ⟨_, rfl⟩
  rw [HN] at hc1 hN hx
  have hx0 := Aside0.mk hx
  have HN' := Aside0.mk HN
  clear hx HN hc0 hI
  go_enter Try.func34, Try.ntmps34
  go_wp2
  go_quiet (fail)
  go_wp2
  go_loop [5, 6] (fun v5 v6 => ∃ lo hi : Int, v5 = .int .i64 lo ∧ v6 = .int .i64 hi ∧ 0 ≤ lo ∧ lo < hi ∧ hi ≤ (N : Int) + 1 ∧ Aside0 (lo = 0 ∨ fromR t lo.toNat ≤ a) ∧ Aside0 (hi = (N : Int) + 1 ∨ (a : Int) < fromR t hi.toNat)) (fun v5 v6 => (intOf v6 - intOf v5).toNat)
  case atStart => exact ⟨0, (N : Int) + 1, rfl, rfl, by omega, by omega, by omega, ⟨.inl rfl⟩, ⟨.inl rfl⟩⟩
  case round =>
    obtain ⟨lo, hi, rfl, rfl, l0, l1, l2, HL, HH⟩ := hrel
    by_cases hgt : 1 < hi - lo
    · have hm0 : 0 ≤ (lo + hi) / 2 := by omega
      have hm1 : (lo + hi) / 2 < (N : Int) + 1 := by omega
      have hc := hx0.out ((lo + hi) / 2) hm0 (by omega)
      obtain ⟨f, Hf⟩ : ∃ f, fromR t ((lo + hi) / 2).toNat = f := ⟨_, rfl⟩
      rw [Hf] at hc
      have HF := Aside0.mk Hf
      clear Hf
      by_cases hle : f ≤ (a : Int)
      · go_wp2
        go_round
        case rel => exact ⟨(lo + hi) / 2, hi, rfl, rfl, by omega, by omega, by omega, ⟨.inr (by rw [HF.out]; exact hle)⟩, HH⟩
        case measure => simp [intOf]; omega
      · go_wp2
        go_round
        case rel => exact ⟨lo, (lo + hi) / 2, rfl, rfl, by omega, by omega, by omega, HL, ⟨.inr (by rw [HF.out]; omega)⟩⟩
        case measure => simp [intOf]; omega
    · have hd : decide (1 < hi - lo) = false := decide_eq_false hgt
      go_wp2
      go_ret
      refine ⟨?_, pw_below_drewN (Below.refl _ _) _⟩
      have e1 : hi = lo + 1 := by omega
      have hr := row_unique t (a := a) (r := lo.toNat) ha (by rw [HN'.out]; omega) (HL.out.imp (fun h => by omega) (fun h => h))
        (HH.out.imp (fun h => by rw [HN'.out]; omega) (fun h => by rw [e1, show (lo + 1).toNat = lo.toNat + 1 by omega] at h; exact h))
      rw [← hr, Int.toNat_of_nonneg l0]; rfl
end Go.Proofs.Ytgefbbdahhoglaa.PT
