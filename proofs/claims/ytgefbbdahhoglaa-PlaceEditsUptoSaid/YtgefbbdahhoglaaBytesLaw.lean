/- PlaceBytes: Pos of every place and At of every row and column are the document's: the walk. -/
import Derived.Test.YtgefbbdahhoglaaIz
import Derived.Test.YtgefbbdahhoglaaLaw
namespace Go.Proofs.Ytgefbbdahhoglaa.PT
open Go.RowKit Go.WideShapes Go.ChangeShapes Go.Proofs.YtgefbbdahhoglaaW.PrintWords Go.Proofs.YtgefbbdahhoglaaW.PrintLast Go.Proofs.YtgefbbdahhoglaaW.PrintMore Go.Proofs.Ytgefbbdahhoglaa.PAll
set_option linter.unusedVariables false

theorem refPos_calls (t : ByteArray) (a : Int) (w : World) (hs : t.size ≤ 4294967296) :
    Calls Try.prog 20 #[.string t, .int .i64 a] w fun e w' => e = .returned (.agg #[.int .i64 (rowN t (clampN t a)), .int .i64 ((clampN t a : Int) - begN t (clampN t a))]) ∧ Below w.heap.size w w' :=
  trellisref2_Pos.calls (t.size + 1) t a _ _ w (ref_pos t hs a (Nat.lt_succ_self _))
theorem refAt_calls (t : ByteArray) (r c : Int) (w : World) (hs : t.size ≤ 4294967296) :
    Calls Try.prog 22 #[.string t, .agg #[.int .i64 r, .int .i64 c]] w fun e w' => e = .returned (.int .i64 (atP t r c)) ∧ Below w.heap.size w w' :=
  trellisref2_At.calls (2 * t.size + 4) t r c _ w (ref_at t hs r c (Nat.le_refl _))

/-- A region that draws its order, whose operations and calls leave all that was there as it was: one walk, in the text's order. -/
theorem wp_region_calm {P : Program} {id : Nat} {Q : Exit → Act → World → Prop} {a : Act} {w : World} {l : List Oper} (hm : P.follows .mixedOrders = true) (hB : Region.lexB .any l.toArray = true)
    (h : wpQuiet P l.toArray (fun w' => Below w.heap.size w w') (fun a' => ∀ w', Below w.heap.size w w' → Q .normal a' w') l a) : (Code.region id l.toArray true).wp P Q a w :=
  wp_region_quiet (C := fun w' => Below w.heap.size w w') hm hB (below_drew (Below.refl _ _)) (by simpa using h)
theorem Calls.calm {P : Program} {f : FuncId} {args : Array Value} {w0 w : World} {v : Value} (hw : Below w0.heap.size w0 w)
    (h : Calls P f args w fun e w' => e = .returned v ∧ Below w.heap.size w w') : Calls P f args w fun e w'' => e = .returned v ∧ Below w0.heap.size w0 w'' :=
  h.mono fun _ _ ⟨he, hb⟩ => ⟨he, below_then hw hw.size hb⟩

set_option maxHeartbeats 1000000 in
theorem PlaceBytes_calls (t : ByteArray) (a r c : Int) (w : World) (hs : t.size ≤ 4294967296) :
    Calls Try.prog 5 #[.string t, .int .i64 a, .agg #[.int .i64 r, .int .i64 c]] w fun e w' => e = .returned (.bool true) ∧ Below w.heap.size w w' := by
  have HS := Aside0.mk hs
  clear hs
  go_enter Try.func5, Try.ntmps5
  go_wp2_with fail
  refine (New_calls t _ HS.out).mono ?_
  rintro e w1 ⟨g, rfl, hI, hB⟩
  have hg := (hB.block _ (by simp)).trans (heap_alloc_new w (.cells #[.int .i64 r, .int .i64 c] 50))
  have HI := Aside0.mk hI
  have HB := Aside0.mk (below_then (below_alloc (Below.refl w.heap.size w) _) (by simp) hB)
  have Hg := Aside0.mk hg
  clear hI hB hg
  go_wp2_with fail
  refine wp_region_calm (by kernel_rfl) (by kernel_rfl) ?_
  have Q : ∀ w', Below w1.heap.size w1 w' → w'.cell? ⟨w.heap.size, 0, none⟩ = some (.int .i64 r) ∧ w'.cell? ⟨w.heap.size, 1, none⟩ = some (.int .i64 c) := fun w' hb =>
    have h := (hb.block _ (blk_lt Hg.out)).trans Hg.out
    ⟨(blk_cell h 0).trans rfl, (blk_cell h 1).trans rfl⟩
  have HQ := Aside0.mk Q
  clear Q
  repeat (refine wpQuiet_step (fun K hK => ?_); go_simp; first | (refine hK _ ?_; clear hK K) | (apply Exists.intro; refine ⟨fun w' hw' => ?_, hK _ ?_⟩; (first | (with_reducible exact rfl) | (refine Calls.calm hw' (Pos_calls t g a _ (HI.out.below hw') HS.out)) | (refine Calls.calm hw' (refPos_calls t a _ HS.out)) | (refine Calls.calm hw' (At_calls t g r c _ (HI.out.below hw') HS.out)) | (refine Calls.calm hw' (refAt_calls t r c _ HS.out)) | (obtain ⟨q0, q1⟩ := HQ.out w' hw'; go_simp; exact rfl)); clear hK K))
  refine wpQuiet_nil ?_
  intro w2 hb2
  have HB2 := Aside0.mk hb2
  clear hb2
  go_wp2
  go_ret
  exact ⟨rfl, below_then HB.out HB.out.size HB2.out⟩
end Go.Proofs.Ytgefbbdahhoglaa.PT
