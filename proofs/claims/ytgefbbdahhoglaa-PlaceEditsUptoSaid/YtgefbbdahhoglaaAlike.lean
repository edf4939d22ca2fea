/- Two indexes of one text answer alike: the walk of 'alike'. -/
import Derived.Test.YtgefbbdahhoglaaOrderLaw
namespace Go.Proofs.Ytgefbbdahhoglaa.PT
open Go.RowKit Go.WideShapes Go.ChangeShapes Go.Proofs.YtgefbbdahhoglaaW.PrintWords Go.Proofs.YtgefbbdahhoglaaW.PrintLast Go.Proofs.YtgefbbdahhoglaaW.PrintMore Go.Proofs.Ytgefbbdahhoglaa.PAll
set_option linter.unusedVariables false

set_option maxRecDepth 100000 in
set_option maxHeartbeats 1500000 in
theorem alike_calls (t : ByteArray) (x y : Nat) (a r c : Int) (w : World) (hx : Ix w x t) (hy : Ix w y t) (hs : t.size ≤ 4294967296) :
    Calls Try.prog 31 #[.pointer (some ⟨x, 0, none⟩), .pointer (some ⟨y, 0, none⟩), .int .i64 a, .agg #[.int .i64 r, .int .i64 c]] w fun e w' => e = .returned (.bool true) ∧ Below w.heap.size w w' := by
  have HS := Aside0.mk hs
  have hg := heap_alloc_new w (.cells #[.int .i64 r, .int .i64 c] 50)
  have hb := below_alloc (Below.refl w.heap.size w) (.cells #[.int .i64 r, .int .i64 c] 50)
  have HX := Aside0.mk (hx.below hb)
  have HY := Aside0.mk (hy.below hb)
  have HB := Aside0.mk hb
  have Hg := Aside0.mk hg
  clear hs hg hb hx hy
  go_enter Try.func31, Try.ntmps31
  go_upto_region 1 with fail
  go_cut [54] (fun v wx => v = .bool false ∧ Below (w.alloc (.cells #[.int .i64 r, .int .i64 c] 50)).heap.size (w.alloc (.cells #[.int .i64 r, .int .i64 c] 50)) wx)
  case first =>
    generalize w.alloc (.cells #[.int .i64 r, .int .i64 c] 50) = W at *
    have Q : ∀ w', Below W.heap.size W w' → w'.cell? ⟨w.heap.size, 0, none⟩ = some (.int .i64 r) ∧ w'.cell? ⟨w.heap.size, 1, none⟩ = some (.int .i64 c) := fun w' hb =>
      have h := (hb.block _ (blk_lt Hg.out)).trans Hg.out
      ⟨(blk_cell h 0).trans rfl, (blk_cell h 1).trans rfl⟩
    have HQ2 := Aside0.mk Q
    clear Q
    refine wp_region_calm (by kernel_rfl) (by kernel_rfl) ?_
    iterate 41 (first | go_big_quiet_skip | (refine wpQuiet_step (fun K hK => ?_); go_simp; first | (refine hK _ ?_; clear hK K) | (apply Exists.intro; refine ⟨fun w' hw' => ?_, hK _ ?_⟩; (first | (with_reducible exact rfl) | (with_reducible refine Calls.calm hw' (Rows_calls t x _ (HX.out.below hw'))) | (with_reducible refine Calls.calm hw' (Rows_calls t y _ (HY.out.below hw'))) | (with_reducible refine Calls.calm hw' (Pos_calls t x a _ (HX.out.below hw') HS.out)) | (with_reducible refine Calls.calm hw' (Pos_calls t y a _ (HY.out.below hw') HS.out)) | (with_reducible refine Calls.calm hw' (Wide_calls t x a _ (HX.out.below hw') HS.out)) | (with_reducible refine Calls.calm hw' (Wide_calls t y a _ (HY.out.below hw') HS.out)) | (with_reducible refine Calls.calm hw' (At_calls t x r c _ (HX.out.below hw') HS.out)) | (with_reducible refine Calls.calm hw' (At_calls t y r c _ (HY.out.below hw') HS.out)) | (with_reducible refine Calls.calm hw' (AtWide_calls t x r c _ (HX.out.below hw') HS.out)) | (with_reducible refine Calls.calm hw' (AtWide_calls t y r c _ (HY.out.below hw') HS.out)) | (obtain ⟨q0, q1⟩ := HQ2.out w' hw'; go_simp; exact rfl)); clear hK K)))
    refine wpQuiet_nil ?_
    intro wx hbx
    have HBX := Aside0.mk hbx
    clear hbx
    go_wp2
    go_meet
    case rel => exact ⟨rfl, HBX.out⟩
  case rest =>
  obtain ⟨rfl, hB⟩ := hcut
  have HX2 := Aside0.mk (HX.out.below hB)
  have HY2 := Aside0.mk (HY.out.below hB)
  have HB2 := Aside0.mk (below_then HB.out HB.out.size hB)
  have HN := Aside0.mk (rowN_le t t.size)
  clear hB HX HY HB Hg
  go_wp2_with fail
  go_loopw [9] (fun v9 wr => ∃ i : Int, v9 = .int .i64 i ∧ -1 ≤ i ∧ i ≤ (rowN t t.size : Int) + 2 ∧ Aside0 (Ix wr x t) ∧ Aside0 (Ix wr y t) ∧ Aside0 (Below w.heap.size w wr)) (fun v9 _ => ((rowN t t.size : Int) + 2 - intOf v9).toNat)
  case atStart => exact ⟨-1, rfl, by omega, by omega, HX2, HY2, HB2⟩
  case round =>
    obtain ⟨i, rfl, hi1, hi2, HXr, HYr, HBr⟩ := hrel
    clear HX2 HY2 HB2
    have hsz := HS.out
    have hN := HN.out
    go_wp2_with fail
    refine (Rows_calls t y _ HYr.out).mono ?_
    rintro e wa ⟨rfl, hB⟩
    have HXa := Aside0.mk (HXr.out.below hB)
    have HYa := Aside0.mk (HYr.out.below hB)
    have HBa := Aside0.mk (below_then HBr.out HBr.out.size hB)
    clear hB HXr HYr HBr
    by_cases hlt : i ≤ (rowN t t.size : Int) + 1
    · have d1 : decide (i ≤ (rowN t t.size : Int) + 1) = true := decide_eq_true hlt
      have x8 : wrap64 (i + 1) = i + 1 := w64 (by omega) (by omega)
      go_wp2_with fail
      refine (Row_calls t x i _ HXa.out HS.out).mono ?_
      rintro e wb ⟨rfl, hB⟩
      obtain ⟨f, hf⟩ : ∃ f, rowA t i = f := ⟨_, rfl⟩
      obtain ⟨l, hl⟩ : ∃ l, rowB t i = l := ⟨_, rfl⟩
      obtain ⟨ok, hok⟩ : ∃ ok, rowOk t i = ok := ⟨_, rfl⟩
      rw [hf, hl, hok]
      have HF := Aside0.mk hf
      have HL := Aside0.mk hl
      have HO := Aside0.mk hok
      have hba := below_alloc (Below.refl wb.heap.size wb) (.cells #[.int .i64 f, .int .i64 l] 42)
      have HXb := Aside0.mk ((HXa.out.below hB).below hba)
      have HYb := Aside0.mk ((HYa.out.below hB).below hba)
      have HBb := Aside0.mk (below_then (below_then HBa.out HBa.out.size hB) (Nat.le_trans HBa.out.size hB.size) hba)
      have Hgb := Aside0.mk (heap_alloc_new wb (.cells #[.int .i64 f, .int .i64 l] 42))
      clear hB hba hf hl hok HXa HYa HBa
      go_wp2_with fail
      refine (Row_calls t y i _ HYb.out HS.out).mono ?_
      rintro e wd ⟨rfl, hB⟩
      rw [HF.out, HL.out, HO.out]
      have HBd := Aside0.mk (below_alloc (below_then HBb.out HBb.out.size hB) (.cells #[.int .i64 f, .int .i64 l] 42))
      have hba := below_alloc (Below.refl wd.heap.size wd) (.cells #[.int .i64 f, .int .i64 l] 42)
      have HXd := Aside0.mk ((HXb.out.below hB).below hba)
      have HYd := Aside0.mk ((HYb.out.below hB).below hba)
      have hgd := (hB.block _ (blk_lt Hgb.out)).trans Hgb.out
      have q0 := far (show wd.cell? ⟨wb.heap.size, 0, none⟩ = some (.int .i64 f) from (blk_cell hgd 0).trans rfl) (.cells #[.int .i64 f, .int .i64 l] 42)
      have q1 := far (show wd.cell? ⟨wb.heap.size, 1, none⟩ = some (.int .i64 l) from (blk_cell hgd 1).trans rfl) (.cells #[.int .i64 f, .int .i64 l] 42)
      clear hB hba hgd HXb HYb HBb Hgb
      go_wp2
      go_roundw
      case rel => exact ⟨i + 1, rfl, by omega, by omega, HXd, HYd, HBd⟩
      case measure => first | omega | (simp [intOf]; omega)
    · have d1 : decide (i ≤ (rowN t t.size : Int) + 1) = false := decide_eq_false hlt
      go_wp2
      go_ret
      exact ⟨rfl, HBa.out⟩
end Go.Proofs.Ytgefbbdahhoglaa.PT
