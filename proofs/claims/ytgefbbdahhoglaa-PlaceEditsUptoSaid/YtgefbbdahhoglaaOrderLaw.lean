/- PlaceOrder: the order of places, and that the rows are the text: the walk. -/
import Derived.Test.YtgefbbdahhoglaaBackLaw
namespace Go.Proofs.Ytgefbbdahhoglaa.PT
open Go.RowKit Go.WideShapes Go.ChangeShapes Go.Proofs.YtgefbbdahhoglaaW.PrintWords Go.Proofs.YtgefbbdahhoglaaW.PrintLast Go.Proofs.YtgefbbdahhoglaaW.PrintMore Go.Proofs.Ytgefbbdahhoglaa.PAll
set_option linter.unusedVariables false

theorem field_col (x y : Value) (w : World) : Sem.run Try.prog (Instr.field 50 (.agg #[x, y]) 1) w = .ok y w := by kernel_rfl
attribute [local go_sem] field_pos field_col

theorem bt_nat (t : ByteArray) (k : Nat) : ∀ h : k < t.size, ((t[k]'h).toNat : Int) = bt t (k : Int) := bt_at t (k : Int)

def nxt (t : ByteArray) (i : Nat) : Int := if i ≤ rowN t t.size then fromR t i else t.size + 1
theorem nxt_zero (t : ByteArray) : nxt t 0 = 0 := by
  unfold nxt fromR
  rw [if_pos (Nat.zero_le _)]
  simp [at_, stl]
theorem row_facts (t : ByteArray) {i : Nat} (hi : i ≤ rowN t t.size) : ∃ f e : Nat, fromR t i = f ∧ toR t i = e ∧ f ≤ e ∧ e ≤ t.size ∧ (i < rowN t t.size ↔ e < t.size) ∧
    (∀ k : Nat, f ≤ k → k < e → ¬ bt t (k : Int) = 10) ∧ (e < t.size → bt t (e : Int) = 10) ∧ nxt t i = f ∧ nxt t (i + 1) = (e : Int) + 1 := by
  obtain ⟨p, hp, p1, p2, p3⟩ := row_from t t.size (Nat.le_refl _) i hi
  obtain ⟨e, e1, e2, e3, e4, e5, e6, e7⟩ := line_end t (t.size - p) p (by omega)
  rw [p1] at e3 e4
  have hiff : i < rowN t t.size ↔ e < t.size := by
    constructor
    · intro h
      rcases Nat.lt_or_ge e t.size with h1 | h1
      · exact h1
      · obtain rfl : e = t.size := by omega
        omega
    · intro h
      have h1 := rowN_nl (e7 h)
      have h2 := rowN_mono t (show e + 1 ≤ t.size by omega)
      omega
  refine ⟨p, e, p3, e3, e1, e2, hiff, e6, e7, ?_, ?_⟩
  · unfold nxt; rw [if_pos hi, p3]
  · unfold nxt
    rw [← e3]
    unfold toR fromR
    by_cases h : i < rowN t t.size
    · rw [if_pos (by omega), if_pos h]; omega
    · rw [if_neg (by omega), if_neg h]

theorem order_pos (t : ByteArray) {k m : Nat} (h : k ≤ m) (hm : m ≤ t.size) : (rowN t k : Int) < rowN t m ∨ ((rowN t k : Int) = rowN t m ∧ (k : Int) - begN t k ≤ (m : Int) - begN t m) := by
  have h1 := rowN_mono t h
  by_cases e : rowN t k = rowN t m
  · right
    have a1 := from_at t (show k ≤ t.size by omega)
    have a2 := from_at t hm
    rw [e, a2] at a1
    omega
  · left; omega
theorem order_wide (t : ByteArray) {k m : Nat} (h : k ≤ m) (hm : m ≤ t.size) : (rowN t k : Int) < rowN t m ∨ ((rowN t k : Int) = rowN t m ∧ widC t k ≤ widC t m) := by
  rcases order_pos t h hm with h1 | ⟨h1, h2⟩
  · exact .inl h1
  · right
    refine ⟨h1, ?_⟩
    have e : rowN t k = rowN t m := by omega
    unfold widC
    rw [e]
    have hb := begN_le t k
    exact wideC_mono _ _ _ (by omega) h2
theorem wide_le (t : ByteArray) (k : Nat) : widC t k ≤ (k : Int) - begN t k := by
  have hb := begN_le t k
  exact (wideC_bounds _ _ (by omega)).2

set_option maxHeartbeats 1000000 in
theorem before_calls (r c r' c' : Int) (w : World) (h : r < r' ∨ (r = r' ∧ c ≤ c')) :
    Calls Try.prog 28 #[.agg #[.int .i64 r, .int .i64 c], .agg #[.int .i64 r', .int .i64 c']] w fun e w' => e = .returned (.bool true) ∧ Below w.heap.size w w' := by
  have fin : Below w.heap.size w ((w.alloc (.cells #[.int .i64 r, .int .i64 c] 50)).alloc (.cells #[.int .i64 r', .int .i64 c'] 50)) := below_alloc (below_alloc (Below.refl _ _) _) _
  have FIN := Aside0.mk fin
  clear fin
  rcases h with h | ⟨rfl, h⟩
  · have d1 : decide (r < r') = true := decide_eq_true h
    go_enter Try.func28, Try.ntmps28
    go_wp2
    all_goals (go_ret; exact ⟨rfl, FIN.out⟩)
  · have d2 : decide (c ≤ c') = true := decide_eq_true h
    go_enter Try.func28, Try.ntmps28
    go_wp2
    all_goals (go_ret; exact ⟨rfl, FIN.out⟩)

set_option maxRecDepth 100000 in
set_option maxHeartbeats 1500000 in
theorem PlaceOrder_calls (t : ByteArray) (a b : Int) (w : World) (hs : t.size ≤ 4294967296) :
    Calls Try.prog 8 #[.string t, .int .i64 a, .int .i64 b] w fun e w' => e = .returned (.bool true) ∧ Below w.heap.size w w' := by
  have HS := Aside0.mk hs
  clear hs
  go_enter Try.func8, Try.ntmps8
  go_wp2_with fail
  refine (New_calls t _ HS.out).mono ?_
  rintro e w1 ⟨g, rfl, hI, hB⟩
  have HI := Aside0.mk hI
  have HB := Aside0.mk hB
  clear hI hB
  go_wp2_with fail
  refine (started_calls _).mono ?_
  rintro e w2 ⟨rfl, hB⟩
  have HI2 := Aside0.mk (HI.out.below hB)
  have HB2 := Aside0.mk (below_then HB.out HB.out.size hB)
  clear hB HI HB
  go_upto_if 23 with fail
  go_cut [1, 2] (fun v v' wx => (∃ lo hi : Int, v = .int .i64 lo ∧ v' = .int .i64 hi ∧ lo ≤ hi) ∧ wx = w2)
  case first =>
    by_cases h0 : b < a
    · have d0 : decide (b < a) = true := decide_eq_true h0
      go_wp2
      go_meet
      case rel => exact ⟨⟨b, a, rfl, rfl, by omega⟩, rfl⟩
    · have d0 : decide (b < a) = false := decide_eq_false h0
      go_wp2
      go_meet
      case rel => exact ⟨⟨a, b, rfl, rfl, by omega⟩, rfl⟩
  case rest =>
  obtain ⟨⟨lo, hi, rfl, rfl, hle⟩, rfl⟩ := hcut
  have hcl : clampN t lo ≤ clampN t hi := by unfold clampN; (repeat' split) <;> omega
  have hch := clampN_le t hi
  have HP := Aside0.mk (order_pos t hcl hch)
  have HW := Aside0.mk (order_wide t hcl hch)
  have HL := Aside0.mk (wide_le t (clampN t lo))
  clear hcl hch hle
  go_wp2_with fail
  refine (Pos_calls t g lo _ HI2.out HS.out).mono ?_
  rintro e w3 ⟨rfl, hB⟩
  have HI3 := Aside0.mk (HI2.out.below hB)
  have HB3 := Aside0.mk (below_then HB2.out HB2.out.size hB)
  clear hB HI2 HB2
  go_wp2_with fail
  refine (Pos_calls t g hi _ HI3.out HS.out).mono ?_
  rintro e w4 ⟨rfl, hB⟩
  have HI4 := Aside0.mk (HI3.out.below hB)
  have HB4 := Aside0.mk (below_then HB3.out HB3.out.size hB)
  clear hB HI3 HB3
  go_wp2_with fail
  refine (before_calls _ _ _ _ _ HP.out).mono ?_
  rintro e w5 ⟨rfl, hB⟩
  have HI5 := Aside0.mk (HI4.out.below hB)
  have HB5 := Aside0.mk (below_then HB4.out HB4.out.size hB)
  clear hB HI4 HB4
  go_wp2_with fail
  refine (Wide_calls t g lo _ HI5.out HS.out).mono ?_
  rintro e w6 ⟨rfl, hB⟩
  have HI6 := Aside0.mk (HI5.out.below hB)
  have HB6 := Aside0.mk (below_then HB5.out HB5.out.size hB)
  clear hB HI5 HB5
  go_wp2_with fail
  refine (Wide_calls t g hi _ HI6.out HS.out).mono ?_
  rintro e w7 ⟨rfl, hB⟩
  have HI7 := Aside0.mk (HI6.out.below hB)
  have HB7 := Aside0.mk (below_then HB6.out HB6.out.size hB)
  clear hB HI6 HB6
  go_wp2_with fail
  refine (before_calls _ _ _ _ _ HW.out).mono ?_
  rintro e w8 ⟨rfl, hB⟩
  have HI8 := Aside0.mk (HI7.out.below hB)
  have HB8 := Aside0.mk (below_then HB7.out HB7.out.size hB)
  clear hB HI7 HB7
  go_wp2_with fail
  refine (Wide_calls t g lo _ HI8.out HS.out).mono ?_
  rintro e w9 ⟨rfl, hB⟩
  have HI9 := Aside0.mk (HI8.out.below hB)
  have HB9 := Aside0.mk (below_then HB8.out HB8.out.size hB)
  clear hB HI8 HB8
  go_wp2_with fail
  refine (Pos_calls t g lo _ HI9.out HS.out).mono ?_
  rintro e w10 ⟨rfl, hB⟩
  have HI10 := Aside0.mk (HI9.out.below hB)
  have HB10 := Aside0.mk (below_then HB9.out HB9.out.size hB)
  clear hB HI9 HB9
  have dl : decide ((clampN t lo : Int) - begN t (clampN t lo) < widC t (clampN t lo)) = false := decide_eq_false (by have := HL.out; omega)
  have HN0 := Aside0.mk (nxt_zero t)
  have HN := Aside0.mk (rowN_le t t.size)
  go_wp2_with fail
  go_loopw [8, 9] (fun v8 v9 wr => ∃ i : Nat, v8 = .int .i64 (nxt t i) ∧ v9 = .int .i64 (i : Int) ∧ i ≤ rowN t t.size + 1 ∧ Aside0 (Ix wr g t) ∧ Aside0 (Below w.heap.size w wr)) (fun _ v9 _ => rowN t t.size + 1 - (intOf v9).toNat)
  case atStart => exact ⟨0, by rw [HN0.out], rfl, by omega, HI10, HB10⟩
  case round =>
    obtain ⟨i, rfl, rfl, hiN, HIr, HBr⟩ := hrel
    clear HI10 HB10
    have hsz := HS.out
    have hN := HN.out
    by_cases hlt : i ≤ rowN t t.size
    · have d1 : decide ((i : Int) < (rowN t t.size : Int) + 1) = true := decide_eq_true (by omega)
      have d2 : decide (i < rowN t t.size + 1) = true := decide_eq_true (by omega)
      have d3 : decide ((i : Int) ≤ t.size) = true := decide_eq_true (by omega)
      have d4 : decide (i ≤ t.size) = true := decide_eq_true (by omega)
      obtain ⟨f, e, F1, F2, F3, F4, F5, F6, F7, F8, F9⟩ := row_facts t hlt
      rw [F8]
      have hr : rowOk t i = true := decide_eq_true (by omega)
      have HR := Aside0.mk hr
      have HA := Aside0.mk (show rowA t i = f by unfold rowA; rw [if_pos hr, Int.toNat_natCast, F1])
      have HE := Aside0.mk (show rowB t i = e by unfold rowB; rw [if_pos hr, Int.toNat_natCast, F2])
      have HF5 := Aside0.mk F5
      have HF6 := Aside0.mk F6
      have HF7 := Aside0.mk F7
      have HF9 := Aside0.mk F9
      clear F1 F2 F5 F6 F7 F8 F9 hr
      go_wp2_with fail
      refine (Rows_calls t g _ HIr.out).mono ?_
      rintro e1 wa ⟨rfl, hB⟩
      have HIa := Aside0.mk (HIr.out.below hB)
      have HBa := Aside0.mk (below_then HBr.out HBr.out.size hB)
      clear hB
      go_wp2_with fail
      refine (Row_calls t g i _ HIa.out HS.out).mono ?_
      rintro e1 wb ⟨rfl, hB⟩
      rw [HR.out, HA.out, HE.out]
      have HIb := Aside0.mk (HIa.out.below hB)
      have HBb := Aside0.mk (below_then HBa.out HBa.out.size hB)
      clear hB HIa HBa
      have hgs := heap_alloc_new wb (.cells #[.int .i64 f, .int .i64 e] 42)
      have hba := below_alloc (Below.refl wb.heap.size wb) (.cells #[.int .i64 f, .int .i64 e] 42)
      have HIW := Aside0.mk (HIb.out.below hba)
      have HBW := Aside0.mk (below_then HBb.out HBb.out.size hba)
      have Hgs := Aside0.mk hgs
      clear hba hgs
      generalize hW : wb.alloc (.cells #[.int .i64 f, .int .i64 e] 42) = W at *
      have HWE := Aside0.mk hW
      have x1 : decide ((e : Int) < f) = false := decide_eq_false (by omega)
      have x2 : decide (e < f) = false := decide_eq_false (by omega)
      have x3 : decide ((t.size : Int) < e) = false := decide_eq_false (by omega)
      have x4 : decide (t.size < e) = false := decide_eq_false (by omega)
      have x5 : IntKind.i64.wrap ((i : Int) + 1) = (i : Int) + 1 := wi64 (by omega) (by omega)
      go_upto_region 13 with fail
      clear hW
      go_cut [106] (fun v wx => v = .bool false ∧ Below W.heap.size W wx)
      case first =>
        have Q : ∀ w', Below W.heap.size W w' → w'.cell? ⟨wb.heap.size, 0, none⟩ = some (.int .i64 f) ∧ w'.cell? ⟨wb.heap.size, 1, none⟩ = some (.int .i64 e) := fun w' hb =>
          have h := (hb.block _ (blk_lt Hgs.out)).trans Hgs.out
          ⟨(blk_cell h 0).trans rfl, (blk_cell h 1).trans rfl⟩
        have HQ2 := Aside0.mk Q
        clear Q
        by_cases hl : i < rowN t t.size
        · have y1 : decide ((i : Int) < rowN t t.size) = true := decide_eq_true (by omega)
          have y2 : decide (i < rowN t t.size) = true := decide_eq_true hl
          have y3 : decide ((i : Int) + 1 < (rowN t t.size : Int) + 1) = true := decide_eq_true (by omega)
          have y4 : decide ((e : Int) < t.size) = true := decide_eq_true (by have := HF5.out.1 hl; omega)
          have y5 : decide (e < t.size) = true := decide_eq_true (HF5.out.1 hl)
          refine wp_region_calm (by kernel_rfl) (by kernel_rfl) ?_
          iterate 34 (first | go_big_quiet_skip | (refine wpQuiet_step (fun K hK => ?_); go_simp; first | (refine hK _ ?_; clear hK K) | (apply Exists.intro; refine ⟨fun w' hw' => ?_, hK _ ?_⟩; (first | (with_reducible exact rfl) | (refine Calls.calm hw' (Rows_calls t g _ (HIW.out.below hw'))) | (obtain ⟨q0, q1⟩ := HQ2.out w' hw'; go_simp; exact rfl)); clear hK K)))
          refine wpQuiet_nil ?_
          intro wx hbx
          have HBX := Aside0.mk hbx
          clear hbx
          go_wp2
          go_meet
          case rel => exact ⟨rfl, HBX.out⟩
        · have y1 : decide ((i : Int) < rowN t t.size) = false := decide_eq_false (by omega)
          have y2 : decide (i < rowN t t.size) = false := decide_eq_false hl
          have y3 : decide ((i : Int) + 1 < (rowN t t.size : Int) + 1) = false := decide_eq_false (by omega)
          have y4 : decide ((e : Int) < t.size) = false := decide_eq_false (by have := HF5.out.2; omega)
          have y5 : decide (e < t.size) = false := decide_eq_false (fun h => hl (HF5.out.2 h))
          refine wp_region_calm (by kernel_rfl) (by kernel_rfl) ?_
          iterate 34 (first | go_big_quiet_skip | (refine wpQuiet_step (fun K hK => ?_); go_simp; first | (refine hK _ ?_; clear hK K) | (apply Exists.intro; refine ⟨fun w' hw' => ?_, hK _ ?_⟩; (first | (with_reducible exact rfl) | (refine Calls.calm hw' (Rows_calls t g _ (HIW.out.below hw'))) | (obtain ⟨q0, q1⟩ := HQ2.out w' hw'; go_simp; exact rfl)); clear hK K)))
          refine wpQuiet_nil ?_
          intro wx hbx
          have HBX := Aside0.mk hbx
          clear hbx
          go_wp2
          go_meet
          case rel => exact ⟨rfl, HBX.out⟩
      case rest =>
      obtain ⟨rfl, hB⟩ := hcut
      have HIc := Aside0.mk (HIW.out.below hB)
      have HBc := Aside0.mk (below_then HBW.out HBW.out.size hB)
      have hc := (hB.block _ (blk_lt Hgs.out)).trans Hgs.out
      have q0 : wc.cell? ⟨wb.heap.size, 0, none⟩ = some (.int .i64 f) := (blk_cell hc 0).trans rfl
      have q1 : wc.cell? ⟨wb.heap.size, 1, none⟩ = some (.int .i64 e) := (blk_cell hc 1).trans rfl
      clear hB hc x1 x2 x3 x4
      go_wp2_with fail
      go_loop [12] (fun v => ∃ k : Nat, v = .int .i64 (k : Int) ∧ f ≤ k ∧ k ≤ e) (fun v => e - (intOf v).toNat)
      case atStart => exact ⟨f, rfl, by omega, F3⟩
      case round =>
        obtain ⟨k, rfl, hk1, hk2⟩ := hrel
        by_cases hk : k < e
        · have z1 : decide ((k : Int) < e) = true := decide_eq_true (by omega)
          have z2 : decide (k < e) = true := decide_eq_true hk
          have hn := HF6.out k hk1 hk
          have z3 : ((bt t (k : Int)) == 10) = false := beq_eq_false_iff_ne.mpr hn
          have p4 : (0 ≤ (k : Int)) = True := eq_true (by omega)
          have p5 : ((k : Int) < (t.size : Int)) = True := eq_true (by omega)
          have p6 : (k < t.size) = True := eq_true (by omega)
          have hx4 := bt_nat t k
          clear hn
          go_wp2
          go_round
          case rel => exact ⟨k + 1, by congr 1, by omega, by omega⟩
          case measure => first | omega | (simp [intOf]; omega)
        · obtain rfl : k = e := by omega
          have z1 : decide ((k : Int) < k) = false := decide_eq_false (by omega)
          have x6 : wrap64 ((k : Int) + 1) = (k : Int) + 1 := w64 (by omega) (by omega)
          have x7 : IntKind.i64.wrap ((k : Int) + 1) = (k : Int) + 1 := wi64 (by omega) (by omega)
          have x8 : wrap64 ((i : Int) + 1) = (i : Int) + 1 := w64 (by omega) (by omega)
          by_cases hl : i < rowN t t.size
          · have hsz2 := HF5.out.1 hl
            have hn := HF7.out hsz2
            have y4 : decide ((k : Int) < t.size) = true := decide_eq_true (by omega)
            have y5 : decide (k < t.size) = true := decide_eq_true hsz2
            have z3 : ((bt t (k : Int)) != 10) = false := bne_eq_false_iff_eq.mpr hn
            have p4 : (0 ≤ (k : Int)) = True := eq_true (by omega)
            have p5 : ((k : Int) < (t.size : Int)) = True := eq_true (by omega)
            have p6 : (k < t.size) = True := eq_true (by omega)
            have hx4 := bt_nat t k
            clear hn
            go_wp2
            go_roundw
            case rel => exact ⟨i + 1, by rw [HF9.out], by congr 1, by omega, HIc, HBc⟩
            case measure => first | omega | (simp [intOf]; omega)
          · have y4 : decide ((k : Int) < t.size) = false := decide_eq_false (by have := HF5.out.2; omega)
            have y5 : decide (k < t.size) = false := decide_eq_false (fun h => hl (HF5.out.2 h))
            go_wp2
            go_roundw
            case rel => exact ⟨i + 1, by rw [HF9.out], by congr 1, by omega, HIc, HBc⟩
            case measure => first | omega | (simp [intOf]; omega)
    · obtain rfl : i = rowN t t.size + 1 := by omega
      have hnx : nxt t (rowN t t.size + 1) = (t.size : Int) + 1 := by unfold nxt; rw [if_neg (by omega)]
      rw [hnx]
      have x6 : wrap64 ((t.size : Int) + 1) = (t.size : Int) + 1 := w64 (by omega) (by omega)
      have d1 : decide (((rowN t t.size + 1 : Nat) : Int) < (rowN t t.size : Int) + 1) = false := decide_eq_false (by omega)
      clear hnx
      go_wp2_with fail
      refine (Rows_calls t g _ HIr.out).mono ?_
      rintro e1 wa ⟨rfl, hB⟩
      have HBa := Aside0.mk (below_then HBr.out HBr.out.size hB)
      clear hB
      go_wp2
      go_ret
      exact ⟨rfl, HBa.out⟩
end Go.Proofs.Ytgefbbdahhoglaa.PT
