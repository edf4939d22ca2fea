/- reuse: the state ahead of a text, as bytes: the document's. -/
import Derived.Test.YtknagjiipelfnaaBegin
import Derived.Test.YtknagjiipelfnaaSched
namespace Go.Proofs.Ytknagjiipelfnaa.RU
open Go.RowKit Go.WideShapes Go.ChangeShapes Go.Proofs.YtknagjiipelfnaaW.PrintWords Go.Proofs.YtknagjiipelfnaaW.PrintLast Go.Proofs.YtknagjiipelfnaaW.PrintMore Go.Proofs.Ytknagjiipelfnaa.PAll Go.Proofs.Ytknagjiipelfnaa.Sched
set_option linter.unusedVariables false
set_option linter.unusedSimpArgs false
attribute [local go_sem] calmAt calmUpon

theorem num0_calls (w : World) : Calls Try.prog 93 #[.int .i64 0] w fun e w' => e = .returned (.string ⟨#[0]⟩) ∧ Below w.heap.size w w' := trellisref6_Number.calls 1 0 ⟨#[0]⟩ w rfl
set_option maxRecDepth 100000 in
set_option maxHeartbeats 4000000 in
theorem RWritten_calls (w : World) : Calls Try.prog 86 #[ST0] w fun e w' => e = .returned (.string startB) ∧ Below w.heap.size w w' := by
  have hba : Below w.heap.size w (w.alloc C106) := below_alloc (Below.refl _ _) _
  have HB := Aside0.mk hba
  have K := Aside0.mk (heap_alloc_new w C106)
  clear hba
  go_enter Try.func86, Try.ntmps86
  go_wp2_with fail
  refine (num0_calls _).mono ?_
  rintro e w1 ⟨rfl, hB⟩
  have HB1 := Aside0.mk (below_then HB.out HB.out.size hB)
  have K1 := Aside0.mk ((hB.block _ (blk_lt K.out)).trans K.out)
  clear hB HB K
  have q0 := blk_cell K1.out 0
  go_wp2_with fail
  refine wp_loop_rounds 1 ?_
  rw [rounds_succ]
  go_wp2_with fail
  clear q0
  have Q : ∀ w', Below w1.heap.size w1 w' → w'.cell? ⟨w.heap.size, 1, none⟩ = some (.int .i64 (-1)) ∧ w'.cell? ⟨w.heap.size, 2, none⟩ = some (.slice none 0 0) := fun w' hb =>
    have h := (hb.block _ (blk_lt K1.out)).trans K1.out
    ⟨(blk_cell h 1).trans rfl, (blk_cell h 2).trans rfl⟩
  have HQ := Aside0.mk Q
  clear Q
  refine wp_region_run (by kernel_rfl) (by kernel_rfl) ?_
  refine Run.step (fun K hK => Good.fix off_nil ?_)
  apply Exists.intro
  refine ⟨fun w' hw' => ?_, ?_⟩
  · go_simp
    exact rfl
  go_simp
  refine hK _ _ ?_
  clear hK K
  refine Run.step (fun K hK => Good.fix off_nil ?_)
  apply Exists.intro
  refine ⟨fun w' hw' => ?_, ?_⟩
  · go_simp
    exact rfl
  go_simp
  refine hK _ _ ?_
  clear hK K
  refine Run.step (fun K hK => Good.fix off_nil ?_)
  apply Exists.intro
  refine ⟨fun w' hw' => ?_, ?_⟩
  · obtain ⟨q1, q2⟩ := HQ.out w' hw'
    go_simp
    exact rfl
  go_simp
  refine hK _ _ ?_
  clear hK K
  refine Run.step (fun K hK => Good.fix off_nil ?_)
  apply Exists.intro
  refine ⟨fun w' hw' => ?_, ?_⟩
  · go_simp
    exact rfl
  go_simp
  refine hK _ _ ?_
  clear hK K
  refine Run.step (fun K hK => Good.fix off_nil ?_)
  apply Exists.intro
  refine ⟨fun w' hw' => ?_, ?_⟩
  · go_simp
    exact num0_calls _
  go_simp
  refine hK _ _ ?_
  clear hK K
  refine Run.step (fun K hK => Good.fix off_nil ⟨.string ⟨#[83, 0, 0]⟩, fun w' hw' => ?_, ?_⟩)
  · go_simp
    exact rfl
  go_simp
  refine hK _ _ ?_
  clear hK K
  refine Run.step (fun K hK => Good.fix off_nil ?_)
  apply Exists.intro
  refine ⟨fun w' hw' => ?_, ?_⟩
  · go_simp
    exact rfl
  go_simp
  refine hK _ _ ?_
  clear hK K
  refine Run.step (fun K hK => Good.fix off_nil ?_)
  apply Exists.intro
  refine ⟨fun w' hw' => ?_, ?_⟩
  · obtain ⟨q1, q2⟩ := HQ.out w' hw'
    go_simp
    exact rfl
  go_simp
  refine hK _ _ ?_
  clear hK K
  refine Run.step (fun K hK => Good.fix off_nil ?_)
  apply Exists.intro
  refine ⟨fun w' hw' => ?_, ?_⟩
  · go_simp
    exact rfl
  go_simp
  refine hK _ _ ?_
  clear hK K
  refine Run.step (fun K hK => Good.fix off_nil ?_)
  apply Exists.intro
  refine ⟨fun w' hw' => ?_, ?_⟩
  · go_simp
    exact num0_calls _
  go_simp
  refine hK _ _ ?_
  clear hK K
  refine Run.step (fun K hK => Good.fix off_nil ⟨.string ⟨#[83, 0, 0, 0]⟩, fun w' hw' => ?_, ?_⟩)
  · go_simp
    exact rfl
  go_simp
  refine hK _ _ ?_
  clear hK K
  refine Run.step (fun K hK => Good.fix off_nil ?_)
  apply Exists.intro
  refine ⟨fun w' hw' => ?_, ?_⟩
  · go_simp
    exact rfl
  go_simp
  refine hK _ _ ?_
  clear hK K
  refine Run.nil ?_
  intro b w2 hb hf
  obtain rfl := hf.nil
  have HB2 := Aside0.mk (below_then HB1.out HB1.out.size hb)
  have K2 := Aside0.mk ((hb.block _ (blk_lt K1.out)).trans K1.out)
  clear hb hf HB1 K1 HQ
  have q2 := blk_cell K2.out 2
  have q3 := blk_cell K2.out 3
  go_wp2_with fail
  refine wp_loop_rounds 1 ?_
  rw [rounds_succ]
  go_wp2_with fail
  refine (num0_calls _).mono ?_
  rintro e w3 ⟨rfl, hB⟩
  have HB3 := Aside0.mk (below_then HB2.out HB2.out.size hB)
  have K3 := Aside0.mk ((hB.block _ (blk_lt K2.out)).trans K2.out)
  clear hB HB2 K2 q2 q3
  have q3 := blk_cell K3.out 3
  have q4 := blk_cell K3.out 4
  go_wp2_with fail
  refine wp_loop_rounds 1 ?_
  rw [rounds_succ]
  go_wp2_with fail
  refine (num0_calls _).mono ?_
  rintro e w4 ⟨rfl, hB⟩
  have HB4 := Aside0.mk (below_then HB3.out HB3.out.size hB)
  clear hB HB3 K3 q3 q4
  go_wp2_with fail
  go_ret
  exact ⟨rfl, HB4.out⟩
set_option maxRecDepth 100000 in
set_option maxHeartbeats 4000000 in
theorem REncode_calls (w : World) : Calls Try.prog 74 #[ST0] w fun e w' => e = .returned (.tuple #[.string startB, .int .i64 0]) ∧ Below w.heap.size w w' := by
  have hba : Below w.heap.size w (w.alloc C106) := below_alloc (Below.refl _ _) _
  have HB := Aside0.mk hba
  have K := Aside0.mk (heap_alloc_new w C106)
  clear hba
  go_enter Try.func74, Try.ntmps74
  go_wp2_with fail
  refine (RShaped_calls _).mono ?_
  rintro e w1 ⟨rfl, hB⟩
  have HB1 := Aside0.mk (below_then HB.out HB.out.size hB)
  have K1 := Aside0.mk ((hB.block _ (blk_lt K.out)).trans K.out)
  clear hB HB K
  have q0 := blk_cell K1.out 0
  have q1 := blk_cell K1.out 1
  have q2 := blk_cell K1.out 2
  have q3 := blk_cell K1.out 3
  have q4 := blk_cell K1.out 4
  go_wp2_with fail
  refine (RWritten_calls _).mono ?_
  rintro e w2 ⟨rfl, hB⟩
  have HB2 := Aside0.mk (below_then HB1.out HB1.out.size hB)
  clear hB HB1 K1 q0 q1 q2 q3 q4
  go_wp2_with fail
  go_ret2
  exact ⟨rfl, HB2.out⟩
end Go.Proofs.Ytknagjiipelfnaa.RU
