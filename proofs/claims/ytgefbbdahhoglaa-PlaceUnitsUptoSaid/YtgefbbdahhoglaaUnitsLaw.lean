/- PlaceUnits: Wide of every place and AtWide of every row and column are the document's: the walk. -/
import Derived.Test.YtgefbbdahhoglaaRefWide
namespace Go.Proofs.Ytgefbbdahhoglaa.PT
open Go.RowKit Go.WideShapes Go.ChangeShapes Go.Proofs.YtgefbbdahhoglaaW.PrintWords Go.Proofs.YtgefbbdahhoglaaW.PrintLast Go.Proofs.YtgefbbdahhoglaaW.PrintMore Go.Proofs.Ytgefbbdahhoglaa.PAll
set_option linter.unusedVariables false
set_option maxHeartbeats 1000000 in
theorem PlaceUnits_calls (t : ByteArray) (a r c : Int) (w : World) (hs : t.size ≤ 4294967296) (hc9 : -9223372036854775808 ≤ c ∧ c ≤ 9223372036854775807) :
    Calls Try.prog 6 #[.string t, .int .i64 a, .agg #[.int .i64 r, .int .i64 c]] w fun e w' => e = .returned (.bool true) ∧ Below w.heap.size w w' := by
  have HS := Aside0.mk hs
  have HC := Aside0.mk hc9
  clear hs hc9
  go_enter Try.func6, Try.ntmps6
  go_wp2_with fail
  refine (New_calls t _ HS.out).mono ?_
  rintro e w1 ⟨g, rfl, hI, hB⟩
  have hg := (hB.block _ (by simp)).trans (heap_alloc_new w (.cells #[.int .i64 r, .int .i64 c] 50))
  have HI := Aside0.mk hI
  have HB := Aside0.mk (below_then (below_alloc (Below.refl w.heap.size w) _) (by simp) hB)
  have Hg := Aside0.mk hg
  clear hI hB hg
  go_wp2_with fail
  refine wp_region_calm (by kernel_rfl) (by kernel_rfl) ?_
  have Q : ∀ w', Below w1.heap.size w1 w' → w'.cell? ⟨w.heap.size, 0, none⟩ = some (.int .i64 r) ∧ w'.cell? ⟨w.heap.size, 1, none⟩ = some (.int .i64 c) := fun w' hb =>
    have h := (hb.block _ (blk_lt Hg.out)).trans Hg.out
    ⟨(blk_cell h 0).trans rfl, (blk_cell h 1).trans rfl⟩
  have HQ := Aside0.mk Q
  clear Q
  repeat (refine wpQuiet_step (fun K hK => ?_); go_simp; first | (refine hK _ ?_; clear hK K) | (apply Exists.intro; refine ⟨fun w' hw' => ?_, hK _ ?_⟩; (first | (with_reducible exact rfl) | (refine Calls.calm hw' (Wide_calls t g a _ (HI.out.below hw') HS.out)) | (refine Calls.calm hw' (refWide_calls t a _ HS.out)) | (refine Calls.calm hw' (AtWide_calls t g r c _ (HI.out.below hw') HS.out)) | (refine Calls.calm hw' (refAtWide_calls t r c _ HS.out HC.out)) | (obtain ⟨q0, q1⟩ := HQ.out w' hw'; go_simp; exact rfl)); clear hK K))
  refine wpQuiet_nil ?_
  intro w2 hb2
  have HB2 := Aside0.mk hb2
  clear hb2
  go_wp2
  go_ret
  exact ⟨rfl, below_then HB.out HB.out.size HB2.out⟩
end Go.Proofs.Ytgefbbdahhoglaa.PT
