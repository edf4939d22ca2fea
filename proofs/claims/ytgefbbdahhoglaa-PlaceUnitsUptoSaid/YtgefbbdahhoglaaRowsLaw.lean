/- PlaceRows: of every text and row number (of bulk at most 2^20) the program's rows are the document's. -/
import Derived.Test.YtgefbbdahhoglaaIz
import Derived.Test.YtgefbbdahhoglaaLaw
namespace Go.Proofs.Ytgefbbdahhoglaa.PT
open Go.RowKit Go.WideShapes Go.ChangeShapes Go.Proofs.YtgefbbdahhoglaaW.PrintWords Go.Proofs.YtgefbbdahhoglaaW.PrintLast Go.Proofs.YtgefbbdahhoglaaW.PrintMore Go.Proofs.Ytgefbbdahhoglaa.PAll
open Go.ChangeMaps (open_string shut_string)
set_option linter.unusedVariables false

theorem refRow_calls (t : ByteArray) (row : Int) (w : World) (hs : t.size ≤ 4294967296) :
    Calls Try.prog 16 #[.string t, .int .i64 row] w fun e w' => e = .returned (.tuple #[.agg #[.int .i64 (rowA t row), .int .i64 (rowB t row)], .bool (rowOk t row)]) ∧ Below w.heap.size w w' := by
  refine trellisref2_Row.calls (2 * t.size + 4) t row _ _ _ w ?_
  rw [ref_row t hs row (Nat.le_refl _)]
  unfold rowA rowB rowOk
  by_cases h : 0 ≤ row ∧ row ≤ rowN t t.size
  · simp [h]
  · rw [if_neg h, if_neg (by simpa using h), if_neg (by simpa using h)]
    simp [h]
theorem refRows_calls (t : ByteArray) (w : World) (hs : t.size ≤ 4294967296) :
    Calls Try.prog 18 #[.string t] w fun e w' => e = .returned (.int .i64 ((rowN t t.size : Int) + 1)) ∧ Drawn0 w w' := trellisref2_Rows.calls (t.size + 1) t _ w (ref_rows t hs (Nat.lt_succ_self _))

set_option maxHeartbeats 1000000 in
theorem PlaceRows_calls (t : ByteArray) (row : Int) (w : World) (hs : t.size ≤ 4294967296) :
    Calls Try.prog 4 #[.string t, .int .i64 row] w fun e w' => e = .returned (.bool true) ∧ Below w.heap.size w w' := by
  have HS := Aside0.mk hs
  clear hs
  go_enter Try.func4, Try.ntmps4
  go_wp2_with fail
  refine (New_calls t _ HS.out).mono ?_
  rintro e w1 ⟨g, rfl, hI, hB⟩
  have HI := Aside0.mk hI
  have HB := Aside0.mk hB
  clear hI hB
  go_wp2_with fail
  refine (Row_calls t g row _ HI.out HS.out).mono ?_
  rintro e w2 ⟨rfl, hB⟩
  have HB2 := Aside0.mk hB
  clear hB
  go_wp2_with fail
  refine (refRow_calls t row _ HS.out).mono ?_
  generalize hA : rowA t row = a
  generalize hBq : rowB t row = b
  generalize hO : rowOk t row = o
  rintro e w3 ⟨rfl, hB⟩
  have hg := (hB.block _ (by simp)).trans (heap_alloc_new w2 (.cells #[.int .i64 a, .int .i64 b] 42))
  have HI3 := Aside0.mk (((HI.out.below HB2.out).below (below_alloc (Below.refl _ _) _)).below hB)
  have HB3 := Aside0.mk (below_then (below_alloc (Below.refl w2.heap.size w2) _) (by simp) hB)
  have Hg := Aside0.mk hg
  clear hB hg hA hBq hO
  go_wp2_with fail
  refine (Rows_calls t g _ (HI3.out.below (below_alloc (Below.refl _ _) _))).mono ?_
  rintro e w4 ⟨rfl, hB⟩
  have hg4 := (hB.block _ (by simp)).trans (heap_alloc_new w3 (.cells #[.int .i64 a, .int .i64 b] 42))
  have hg5 := (hB.block _ (by have := blk_lt Hg.out; simp; omega)).trans ((Below.heap_alloc w3 (.cells #[.int .i64 a, .int .i64 b] 42) _ (blk_lt Hg.out)).trans Hg.out)
  have HB4 := Aside0.mk (below_then (below_alloc (Below.refl w3.heap.size w3) _) (by simp) hB)
  have Hg4 := Aside0.mk hg4
  have Hg5 := Aside0.mk hg5
  clear hB hg4 hg5
  go_wp2_with fail
  refine (refRows_calls t _ HS.out).mono ?_
  rintro e w5 ⟨rfl, hD⟩
  have hb5 := hD.below
  have q0 := (blk_cell ((hb5.block _ (blk_lt Hg4.out)).trans Hg4.out) 0).trans rfl
  have q1 := (blk_cell ((hb5.block _ (blk_lt Hg4.out)).trans Hg4.out) 1).trans rfl
  have q2 := (blk_cell ((hb5.block _ (blk_lt Hg5.out)).trans Hg5.out) 0).trans rfl
  have q3 := (blk_cell ((hb5.block _ (blk_lt Hg5.out)).trans Hg5.out) 1).trans rfl
  have HB5 := Aside0.mk hb5
  clear hD hb5
  go_wp2
  go_ret
  refine ⟨rfl, ?_⟩
  have h1 := below_then HB.out HB.out.size HB2.out
  have h2 := below_then h1 h1.size HB3.out
  have h3 := below_then h2 h2.size HB4.out
  exact below_then h3 h3.size HB5.out
end Go.Proofs.Ytgefbbdahhoglaa.PT
