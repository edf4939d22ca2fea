/- PlaceBack: there and back: the walk. -/
import Derived.Test.YtgefbbdahhoglaaBack
import Derived.Test.YtgefbbdahhoglaaBytesLaw
import Derived.Deep.DeepCutAuto
import Derived.BigQuiet
namespace Go.Proofs.Ytgefbbdahhoglaa.PT
open Go.RowKit Go.WideShapes Go.ChangeShapes Go.Proofs.YtgefbbdahhoglaaW.PrintWords Go.Proofs.YtgefbbdahhoglaaW.PrintLast Go.Proofs.YtgefbbdahhoglaaW.PrintMore Go.Proofs.Ytgefbbdahhoglaa.PAll
set_option linter.unusedVariables false

/-! ### the calls once more, the places being within the text -/
theorem Pos_at (t : ByteArray) (g k : Nat) (w : World) (hI : Ix w g t) (hs : t.size ≤ 4294967296) (hk : k ≤ t.size) :
    Calls Try.prog 19 #[.pointer (some ⟨g, 0, none⟩), .int .i64 (k : Int)] w fun e w' => e = .returned (.agg #[.int .i64 (rowN t k), .int .i64 ((k : Int) - begN t k)]) ∧ Below w.heap.size w w' := by
  have h := Pos_calls t g k w hI hs
  rwa [clampN_of t hk] at h
theorem Wide_at (t : ByteArray) (g k : Nat) (w : World) (hI : Ix w g t) (hs : t.size ≤ 4294967296) (hk : k ≤ t.size) :
    Calls Try.prog 23 #[.pointer (some ⟨g, 0, none⟩), .int .i64 (k : Int)] w fun e w' => e = .returned (.agg #[.int .i64 (rowN t k), .int .i64 (widC t k)]) ∧ Below w.heap.size w w' := by
  have h := Wide_calls t g k w hI hs
  rwa [clampN_of t hk] at h

theorem Wide_is (t : ByteArray) (g k : Nat) (x : Int) (w : World) (hI : Ix w g t) (hs : t.size ≤ 4294967296) (hk : k ≤ t.size) (hx : x = k) {r c : Int} (hr : (rowN t k : Int) = r) (hc : widC t k = c) :
    Calls Try.prog 23 #[.pointer (some ⟨g, 0, none⟩), .int .i64 x] w fun e w' => e = .returned (.agg #[.int .i64 r, .int .i64 c]) ∧ Below w.heap.size w w' := by
  subst hx hr hc
  exact Wide_at t g k w hI hs hk

theorem wi64 {i : Int} (h0 : -9223372036854775808 ≤ i) (h1 : i ≤ 9223372036854775807) : IntKind.i64.wrap i = i := by
  rw [IntKind.wrap_i64]; omega

theorem field_pos (x y : Value) (w : World) : Sem.run Try.prog (Instr.field 50 (.agg #[x, y]) 0) w = .ok x w := by kernel_rfl
attribute [local go_sem] field_pos

theorem back_small (t : ByteArray) {k : Nat} (hk : k ≤ t.size) : 0 ≤ widC t k ∧ widC t k ≤ k ∧ rowN t k ≤ t.size := by
  have h1 := begN_le t k
  have h2 := wideC_bounds (rowS t (rowN t k)) ((k : Int) - begN t k) (by omega)
  have h3 := rowN_le t k
  unfold widC
  omega

set_option maxRecDepth 100000 in
set_option maxHeartbeats 1500000 in
theorem PlaceBack_calls (t : ByteArray) (a r c : Int) (w : World) (hs : t.size ≤ 4294967296) (hc9 : -9223372036854775808 ≤ c ∧ c ≤ 9223372036854775807) :
    Calls Try.prog 7 #[.string t, .int .i64 a, .agg #[.int .i64 r, .int .i64 c]] w fun e w' => e = .returned (.bool true) ∧ Below w.heap.size w w' := by
  have HS := Aside0.mk hs
  have HC := Aside0.mk hc9
  obtain ⟨k, hk⟩ : ∃ k, clampN t a = k := ⟨_, rfl⟩
  have HK := Aside0.mk hk
  have HKS := Aside0.mk (show k ≤ t.size by rw [← hk]; exact clampN_le t a)
  clear hs hc9 hk
  go_enter Try.func7, Try.ntmps7
  go_wp2_with fail
  refine (New_calls t _ HS.out).mono ?_
  rintro e w1 ⟨g, rfl, hI, hB⟩
  have hg := (hB.block _ (by simp)).trans (heap_alloc_new w (.cells #[.int .i64 r, .int .i64 c] 50))
  have HI := Aside0.mk hI
  have HB := Aside0.mk (below_then (below_alloc (Below.refl w.heap.size w) _) (by simp) hB)
  have Hg := Aside0.mk hg
  clear hI hB hg
  go_wp2_with fail
  refine (started_calls _).mono ?_
  rintro e w2 ⟨rfl, hB⟩
  have HI2 := Aside0.mk (HI.out.below hB)
  have HB2 := Aside0.mk (below_then HB.out HB.out.size hB)
  have Hg2 := Aside0.mk ((hB.block _ (blk_lt Hg.out)).trans Hg.out)
  clear hB
  go_upto_if 23 with fail
  go_cut [1] (fun v wx => v = .int .i64 (if a < 0 then 0 else a) ∧ wx = w2)
  case first =>
    by_cases h0 : a < 0
    · have d0 : decide (a < 0) = true := decide_eq_true h0
      go_wp2
      go_meet
      case rel => exact ⟨by rw [if_pos h0], rfl⟩
    · have d0 : decide (a < 0) = false := decide_eq_false h0
      go_wp2
      go_meet
      case rel => exact ⟨by rw [if_neg (by omega)], rfl⟩
  case rest =>
  obtain ⟨rfl, rfl⟩ := hcut
  obtain ⟨m, hm⟩ : ∃ m : Int, (if a < 0 then 0 else a) = m := ⟨_, rfl⟩
  have hmk : (if (t.size : Int) < m then (t.size : Int) else m) = k := by
    rw [← HK.out, ← hm]; unfold clampN; (repeat' split) <;> omega
  rw [hm]
  have HMK := Aside0.mk hmk
  clear hm hmk
  go_upto_if 27 with fail
  go_cut [1] (fun v wx => v = .int .i64 (k : Int) ∧ wx = wc)
  case first =>
    by_cases h0 : (t.size : Int) < m
    · have d0 : decide ((t.size : Int) < m) = true := decide_eq_true h0
      go_wp2
      go_meet
      case rel => exact ⟨by rw [← HMK.out, if_pos h0], rfl⟩
    · have d0 : decide ((t.size : Int) < m) = false := decide_eq_false h0
      go_wp2
      go_meet
      case rel => exact ⟨by rw [← HMK.out, if_neg (by omega)], rfl⟩
  case rest =>
  obtain ⟨rfl, rfl⟩ := hcut
  have HBF := Aside0.mk (back_facts t HKS.out)
  clear HMK
  go_wp2_with fail
  refine (Pos_at t g k _ HI2.out HS.out HKS.out).mono ?_
  rintro e w3 ⟨rfl, hB⟩
  have HI3 := Aside0.mk (HI2.out.below hB)
  have HB3 := Aside0.mk (below_then HB2.out HB2.out.size hB)
  have Hg3 := Aside0.mk ((hB.block _ (blk_lt Hg2.out)).trans Hg2.out)
  clear hB HI2 HB2 Hg2
  go_wp2_with fail
  refine (At_calls t g _ _ _ HI3.out HS.out).mono ?_
  rintro e w4 ⟨rfl, hB⟩
  rw [HBF.out.1]
  have HI4 := Aside0.mk (HI3.out.below hB)
  have HB4 := Aside0.mk (below_then HB3.out HB3.out.size hB)
  have Hg4 := Aside0.mk ((hB.block _ (blk_lt Hg3.out)).trans Hg3.out)
  clear hB HI3 HB3 Hg3
  go_wp2_with fail
  refine (Wide_at t g k _ HI4.out HS.out HKS.out).mono ?_
  rintro e w5 ⟨rfl, hB⟩
  have HI5 := Aside0.mk (HI4.out.below hB)
  have HB5 := Aside0.mk (below_then HB4.out HB4.out.size hB)
  have Hg5 := Aside0.mk ((hB.block _ (blk_lt Hg4.out)).trans Hg4.out)
  clear hB HI4 HB4 Hg4
  have hgq := heap_alloc_new w5 (.cells #[.int .i64 ↑(rowN t k), .int .i64 (widC t k)] 50)
  have Hgq := Aside0.mk hgq
  have hba := below_alloc (Below.refl w5.heap.size w5) (.cells #[.int .i64 ↑(rowN t k), .int .i64 (widC t k)] 50)
  have HBA := Aside0.mk hba
  clear hgq hba
  obtain ⟨b, hb1, hb2, hb3, hb4, hb5, hb6⟩ := HBF.out.2
  go_wp2_with fail
  refine (AtWide_calls t g _ _ _ (HI5.out.below HBA.out) HS.out).mono ?_
  rintro e w6 ⟨rfl, hB⟩
  rw [hb1]
  have HI6 := Aside0.mk ((HI5.out.below HBA.out).below hB)
  have HB6 := Aside0.mk (below_then (below_then HB5.out HB5.out.size HBA.out) (Nat.le_trans HB5.out.size HBA.out.size) hB)
  have Hg6 := Aside0.mk ((hB.block _ (Nat.lt_of_lt_of_le (blk_lt Hg5.out) HBA.out.size)).trans ((HBA.out.block _ (blk_lt Hg5.out)).trans Hg5.out))
  have Hq6 := Aside0.mk ((hB.block _ (blk_lt Hgq.out)).trans Hgq.out)
  clear hB HI5 HB5 Hg5 Hgq HBA
  have H1 := Aside0.mk hb1
  have H4 := Aside0.mk hb4
  have H5 := Aside0.mk hb5
  have H6 := Aside0.mk hb6
  have H2 := Aside0.mk hb2
  have H3 := Aside0.mk hb3
  clear hb1 hb2 hb3 hb4 hb5 hb6
  go_upto_region 12 with fail
  go_cut [80] (fun v wx => v = .bool false ∧ Below w6.heap.size w6 wx)
  case first =>
    have Q : ∀ w', Below w6.heap.size w6 w' → w'.cell? ⟨w5.heap.size, 0, none⟩ = some (.int .i64 (rowN t k)) ∧ w'.cell? ⟨w5.heap.size, 1, none⟩ = some (.int .i64 (widC t k)) := fun w' hb =>
      have h := (hb.block _ (blk_lt Hq6.out)).trans Hq6.out
      ⟨(blk_cell h 0).trans rfl, (blk_cell h 1).trans rfl⟩
    have HQ2 := Aside0.mk Q
    clear Q
    have x1 : decide ((k : Int) < b) = false := decide_eq_false (by have := H2.out; omega)
    have x2 : decide ((3 : Int) < (k : Int) - b) = false := decide_eq_false (by have := H3.out; omega)
    have y1 : decide (k < b) = false := decide_eq_false (by have := H2.out; omega)
    have x4 : (k : Int) ≤ 4294967296 := by have := HS.out; have := HKS.out; omega
    have x5 : (b : Int) ≤ k := by have := H2.out; omega
    have x6 : (0 : Int) ≤ b := by omega
    have x7 : IntKind.i64.wrap ((k : Int) - b) = (k : Int) - b := wi64 (by omega) (by omega)
    have x8 : IntKind.i64.wrap ((b : Int) + 1) = (b : Int) + 1 := wi64 (by omega) (by omega)
    by_cases hlt : b < k
    · have x3 : decide ((b : Int) < k) = true := decide_eq_true (by omega)
      have y3 : decide (b < k) = true := decide_eq_true hlt
      refine wp_region_calm (by kernel_rfl) (by kernel_rfl) ?_
      iterate 38 (first | go_big_quiet_skip | (refine wpQuiet_step (fun K hK => ?_); go_simp; first | (refine hK _ ?_; clear hK K) | (apply Exists.intro; refine ⟨fun w' hw' => ?_, hK _ ?_⟩; (first | (with_reducible exact rfl) | (refine Calls.calm hw' (Pos_at t g k _ (HI6.out.below hw') HS.out HKS.out)) | (refine Calls.calm hw' (Wide_is t g (b + 1) _ _ (HI6.out.below hw') HS.out (Nat.le_trans hlt HKS.out) (by omega) (congrArg Nat.cast (H6.out hlt).1) (H6.out hlt).2)) | (refine Calls.calm hw' (Wide_is t g b b _ (HI6.out.below hw') HS.out (Nat.le_trans H2.out HKS.out) rfl (congrArg Nat.cast H4.out) H5.out)) | (obtain ⟨q0, q1⟩ := HQ2.out w' hw'; go_simp; exact rfl)); clear hK K)))
      refine wpQuiet_nil ?_
      intro wx hbx
      have HBX := Aside0.mk hbx
      clear hbx
      go_wp2
      go_meet
      case rel => exact ⟨rfl, HBX.out⟩
    · have x3 : decide ((b : Int) < k) = false := decide_eq_false (by omega)
      have y3 : decide (b < k) = false := decide_eq_false hlt
      refine wp_region_calm (by kernel_rfl) (by kernel_rfl) ?_
      iterate 38 (first | go_big_quiet_skip | (refine wpQuiet_step (fun K hK => ?_); go_simp; first | (refine hK _ ?_; clear hK K) | (apply Exists.intro; refine ⟨fun w' hw' => ?_, hK _ ?_⟩; (first | (with_reducible exact rfl) | (refine Calls.calm hw' (Pos_at t g k _ (HI6.out.below hw') HS.out HKS.out)) | (refine Calls.calm hw' (Wide_is t g b b _ (HI6.out.below hw') HS.out (Nat.le_trans H2.out HKS.out) rfl (congrArg Nat.cast H4.out) H5.out)) | (obtain ⟨q0, q1⟩ := HQ2.out w' hw'; go_simp; exact rfl)); clear hK K)))
      refine wpQuiet_nil ?_
      intro wx hbx
      have HBX := Aside0.mk hbx
      clear hbx
      go_wp2
      go_meet
      case rel => exact ⟨rfl, HBX.out⟩
  case rest =>
  obtain ⟨rfl, hB⟩ := hcut
  have HI7 := Aside0.mk (HI6.out.below hB)
  have HB7 := Aside0.mk (below_then HB6.out HB6.out.size hB)
  have Hg7 := Aside0.mk ((hB.block _ (blk_lt Hg6.out)).trans Hg6.out)
  clear hB HI6 HB6 Hg6 Hq6 H1 H2 H3 H4 H5 H6 HBF
  have q0 : wc.cell? ⟨w.heap.size, 0, none⟩ = some (.int .i64 r) := (blk_cell Hg7.out 0).trans rfl
  have q1 : wc.cell? ⟨w.heap.size, 1, none⟩ = some (.int .i64 c) := (blk_cell Hg7.out 1).trans rfl
  go_wp2_with fail
  refine (Row_calls t g r _ HI7.out HS.out).mono ?_
  rintro e w8 ⟨rfl, hB⟩
  clear q0 q1
  have HI8 := Aside0.mk (HI7.out.below hB)
  have HB8 := Aside0.mk (below_then HB7.out HB7.out.size hB)
  have Hg8 := Aside0.mk ((hB.block _ (blk_lt Hg7.out)).trans Hg7.out)
  clear hB HI7 HB7 Hg7
  cases hok : rowOk t r with
  | false =>
    go_wp2
    go_ret
    exact ⟨rfl, below_alloc HB8.out _⟩
  | true =>
  have hr : 0 ≤ r ∧ r ≤ rowN t t.size := of_decide_eq_true hok
  rw [show rowA t r = fromR t r.toNat by unfold rowA; rw [if_pos hok], show rowB t r = toR t r.toNat by unfold rowB; rw [if_pos hok]]
  obtain ⟨R, rfl⟩ : ∃ R : Nat, r = R := ⟨r.toNat, by omega⟩
  rw [Int.toNat_natCast]
  have HR := Aside0.mk (show R ≤ rowN t t.size by omega)
  clear hr hok
  by_cases h0 : c < 0
  · have d0 : decide (c < 0) = true := decide_eq_true h0
    have q1 := far (show w8.cell? ⟨w.heap.size, 1, none⟩ = some (.int .i64 c) from (blk_cell Hg8.out 1).trans rfl) (.cells #[.int .i64 (fromR t R), .int .i64 (toR t R)] 42)
    go_wp2
    go_ret
    exact ⟨rfl, below_alloc HB8.out _⟩
  have d0 : decide (c < 0) = false := decide_eq_false h0
  have q1 := far (show w8.cell? ⟨w.heap.size, 1, none⟩ = some (.int .i64 c) from (blk_cell Hg8.out 1).trans rfl) (.cells #[.int .i64 (fromR t R), .int .i64 (toR t R)] 42)
  have hft := from_to t HR.out
  have x1 : 0 ≤ fromR t R := by omega
  have x2 : fromR t R ≤ toR t R := by omega
  have x3 : toR t R ≤ 4294967296 := by have := HS.out; omega
  have HBP := Aside0.mk (fun (h1 : c ≤ toR t R - fromR t R) => back_pos t HR.out (show 0 ≤ c by omega) h1)
  have HBU := Aside0.mk (back_units t HR.out (show 0 ≤ c by omega))
  have hgs := heap_alloc_new w8 (.cells #[.int .i64 (fromR t R), .int .i64 (toR t R)] 42)
  have Hgs := Aside0.mk hgs
  have HBA := Aside0.mk (below_alloc (Below.refl w8.heap.size w8) (.cells #[.int .i64 (fromR t R), .int .i64 (toR t R)] 42))
  have HFT := Aside0.mk hft
  clear hgs hft
  go_upto_region 17 with fail
  go_cut [111] (fun v wx => v = .bool false ∧ Below (w8.alloc (.cells #[.int .i64 (fromR t R), .int .i64 (toR t R)] 42)).heap.size (w8.alloc (.cells #[.int .i64 (fromR t R), .int .i64 (toR t R)] 42)) wx)
  case first =>
    obtain ⟨W, hW⟩ : ∃ W, w8.alloc (.cells #[.int .i64 (fromR t R), .int .i64 (toR t R)] 42) = W := ⟨_, rfl⟩
    have HW := Aside0.mk hW
    rw [hW]
    have HIW : Aside0 (Ix W g t) := Aside0.mk (by rw [← hW]; exact HI8.out.below HBA.out)
    have HGW : Aside0 (W.heap[w.heap.size]? = some (.cells #[.int .i64 R, .int .i64 c] 50)) := Aside0.mk (by rw [← hW]; exact (HBA.out.block _ (blk_lt Hg8.out)).trans Hg8.out)
    have HSW : Aside0 (W.heap[w8.heap.size]? = some (.cells #[.int .i64 (fromR t R), .int .i64 (toR t R)] 42)) := Aside0.mk (by rw [← hW]; exact Hgs.out)
    clear hW q1
    have Q : ∀ w', Below W.heap.size W w' → w'.cell? ⟨w.heap.size, 0, none⟩ = some (.int .i64 R) ∧ w'.cell? ⟨w.heap.size, 1, none⟩ = some (.int .i64 c) ∧ w'.cell? ⟨w8.heap.size, 0, none⟩ = some (.int .i64 (fromR t R)) ∧ w'.cell? ⟨w8.heap.size, 1, none⟩ = some (.int .i64 (toR t R)) := fun w' hb =>
      have h := (hb.block _ (blk_lt HGW.out)).trans HGW.out
      have h' := (hb.block _ (blk_lt HSW.out)).trans HSW.out
      ⟨(blk_cell h 0).trans rfl, (blk_cell h 1).trans rfl, (blk_cell h' 0).trans rfl, (blk_cell h' 1).trans rfl⟩
    have HQ2 := Aside0.mk Q
    clear Q
    have x5 : IntKind.i64.wrap (toR t R - fromR t R) = toR t R - fromR t R := wi64 (by omega) (by omega)
    by_cases h1 : c ≤ toR t R - fromR t R
    · have d1 : decide (c ≤ toR t R - fromR t R) = true := decide_eq_true h1
      have HPA : Aside0 (∀ W', Ix W' g t → Calls Try.prog 19 #[.pointer (some ⟨g, 0, none⟩), .int .i64 (atP t R c)] W' fun e w' => e = .returned (.agg #[.int .i64 R, .int .i64 c]) ∧ Below W'.heap.size W' w') := Aside0.mk (fun W' hI => by
        have h := Pos_calls t g (atP t R c) W' hI HS.out
        rwa [(HBP.out h1).1, (HBP.out h1).2] at h)
      refine wp_region_calm (by kernel_rfl) (by kernel_rfl) ?_
      iterate 17 (first | go_big_quiet_skip | (refine wpQuiet_step (fun K hK => ?_); go_simp; first | (refine hK _ ?_; clear hK K) | (apply Exists.intro; refine ⟨fun w' hw' => ?_, hK _ ?_⟩; (first | (with_reducible exact rfl) | (refine Calls.calm hw' (HPA.out _ (HIW.out.below hw'))) | (refine Calls.calm hw' (At_calls t g R c _ (HIW.out.below hw') HS.out)) | (obtain ⟨q0, q1, q2, q3⟩ := HQ2.out w' hw'; go_simp; exact rfl)); clear hK K)))
      refine wpQuiet_nil ?_
      intro wx hbx
      have HBX := Aside0.mk hbx
      clear hbx
      go_wp2
      go_meet
      case rel => exact ⟨rfl, by rw [HW.out]; exact HBX.out⟩
    · have d1 : decide (c ≤ toR t R - fromR t R) = false := decide_eq_false h1
      refine wp_region_calm (by kernel_rfl) (by kernel_rfl) ?_
      iterate 17 (first | go_big_quiet_skip | (refine wpQuiet_step (fun K hK => ?_); go_simp; first | (refine hK _ ?_; clear hK K) | (apply Exists.intro; refine ⟨fun w' hw' => ?_, hK _ ?_⟩; (first | (with_reducible exact rfl) | (obtain ⟨q0, q1, q2, q3⟩ := HQ2.out w' hw'; go_simp; exact rfl)); clear hK K)))
      refine wpQuiet_nil ?_
      intro wx hbx
      have HBX := Aside0.mk hbx
      clear hbx
      go_wp2
      go_meet
      case rel => exact ⟨rfl, by rw [HW.out]; exact HBX.out⟩
  case rest =>
  obtain ⟨rfl, hB⟩ := hcut
  have HI9 := Aside0.mk ((HI8.out.below HBA.out).below hB)
  have HB9 := Aside0.mk (below_then (below_then HB8.out HB8.out.size HBA.out) (Nat.le_trans HB8.out.size HBA.out.size) hB)
  have Hg9 := Aside0.mk ((hB.block _ (Nat.lt_of_lt_of_le (blk_lt Hg8.out) HBA.out.size)).trans ((HBA.out.block _ (blk_lt Hg8.out)).trans Hg8.out))
  have Hs9 := Aside0.mk ((hB.block _ (blk_lt Hgs.out)).trans Hgs.out)
  clear hB HI8 HB8 Hg8 Hgs HBA q1
  have q0 : wc.cell? ⟨w.heap.size, 0, none⟩ = some (.int .i64 R) := (blk_cell Hg9.out 0).trans rfl
  have q1 : wc.cell? ⟨w.heap.size, 1, none⟩ = some (.int .i64 c) := (blk_cell Hg9.out 1).trans rfl
  go_wp2_with fail
  refine (AtWide_calls t g _ _ _ HI9.out HS.out).mono ?_
  rintro e w10 ⟨rfl, hB⟩
  clear q0 q1
  have HI10 := Aside0.mk (HI9.out.below hB)
  have HB10 := Aside0.mk (below_then HB9.out HB9.out.size hB)
  have Hg10 := Aside0.mk ((hB.block _ (blk_lt Hg9.out)).trans Hg9.out)
  have Hs10 := Aside0.mk ((hB.block _ (blk_lt Hs9.out)).trans Hs9.out)
  clear hB HI9 HB9 Hg9 Hs9
  go_wp2_with fail
  refine (Wide_calls t g _ _ HI10.out HS.out).mono ?_
  rintro e w11 ⟨rfl, hB⟩
  rw [HBU.out.1]
  have HI11 := Aside0.mk (HI10.out.below hB)
  have HB11 := Aside0.mk (below_then HB10.out HB10.out.size hB)
  have Hg11 := Aside0.mk ((hB.block _ (blk_lt Hg10.out)).trans Hg10.out)
  have Hs11 := Aside0.mk ((hB.block _ (blk_lt Hs10.out)).trans Hs10.out)
  clear hB HI10 HB10 Hg10 Hs10
  obtain ⟨u, hu⟩ : ∃ u, widC t (clampN t (atW t R c)) = u := ⟨_, rfl⟩
  obtain ⟨v, hv⟩ : ∃ v, widC t (clampN t (toR t R)) = v := ⟨_, rfl⟩
  have hbu := HBU.out
  rw [hu, hv] at hbu
  obtain ⟨_, z1, z2, z3, z4⟩ := hbu
  have HBZ := Aside0.mk z3
  have HV := Aside0.mk hv
  have HZ1 := Aside0.mk z1
  have HZ2 := Aside0.mk z2
  have HZ4 := Aside0.mk z4
  rw [hu]
  clear hu hv z1 z2 z3 z4
  have hgw := heap_alloc_new w11 (.cells #[.int .i64 R, .int .i64 u] 50)
  have Hgw := Aside0.mk hgw
  have HBA := Aside0.mk (below_alloc (Below.refl w11.heap.size w11) (.cells #[.int .i64 R, .int .i64 u] 50))
  clear hgw
  have s1 := far (show w11.cell? ⟨w8.heap.size, 1, none⟩ = some (.int .i64 (toR t R)) from (blk_cell Hs11.out 1).trans rfl) (.cells #[.int .i64 R, .int .i64 u] 50)
  go_wp2_with fail
  refine (Wide_calls t g _ _ (HI11.out.below HBA.out) HS.out).mono ?_
  rintro e w12 ⟨rfl, hB⟩
  rw [HZ1.out, HV.out]
  clear s1
  have HB12 := Aside0.mk (below_then (below_then HB11.out HB11.out.size HBA.out) (Nat.le_trans HB11.out.size HBA.out.size) hB)
  have Hg12 := Aside0.mk ((hB.block _ (Nat.lt_of_lt_of_le (blk_lt Hg11.out) HBA.out.size)).trans ((HBA.out.block _ (blk_lt Hg11.out)).trans Hg11.out))
  have Hw12 := Aside0.mk ((hB.block _ (blk_lt Hgw.out)).trans Hgw.out)
  clear hB HI11 HB11 Hg11 Hs11 Hgw HBA
  have p0 := far (show w12.cell? ⟨w.heap.size, 0, none⟩ = some (.int .i64 R) from (blk_cell Hg12.out 0).trans rfl) (.cells #[.int .i64 R, .int .i64 v] 50)
  have p1 := far (show w12.cell? ⟨w.heap.size, 1, none⟩ = some (.int .i64 c) from (blk_cell Hg12.out 1).trans rfl) (.cells #[.int .i64 R, .int .i64 v] 50)
  have r0 := far (show w12.cell? ⟨w11.heap.size, 0, none⟩ = some (.int .i64 R) from (blk_cell Hw12.out 0).trans rfl) (.cells #[.int .i64 R, .int .i64 v] 50)
  have r1 := far (show w12.cell? ⟨w11.heap.size, 1, none⟩ = some (.int .i64 u) from (blk_cell Hw12.out 1).trans rfl) (.cells #[.int .i64 R, .int .i64 v] 50)
  have e1 : decide (c < u) = false := decide_eq_false (by have := HZ2.out; omega)
  have e2 := HZ4.out
  have e3 := HZ2.out
  have e4 := HC.out.2
  have e5 : IntKind.i64.wrap (c - u) = c - u := wi64 (by omega) (by omega)
  have e6 : wrap64 (c - u) = c - u := w64 (by omega) (by omega)
  have fin : Below w.heap.size w (w12.alloc (.cells #[.int .i64 R, .int .i64 v] 50)) := below_alloc HB12.out _
  have FIN := Aside0.mk fin
  clear fin
  rcases HBZ.out with h1 | ⟨h1, h2⟩ | h1
  · subst h1
    go_wp2
    go_ret
    exact ⟨rfl, FIN.out⟩
  · have f1 : (u == c) = false := by rw [beq_eq_false_iff_ne]; omega
    have f2 : decide (c - u = 1) = true := decide_eq_true h1
    have f3 : decide (c ≤ v) = true := decide_eq_true h2
    go_wp2
    go_ret
    exact ⟨rfl, FIN.out⟩
  · subst h1
    go_wp2
    all_goals (go_ret; exact ⟨rfl, below_alloc HB12.out _⟩)
end Go.Proofs.Ytgefbbdahhoglaa.PT
