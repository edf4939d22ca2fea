/- The walks of the index of a text: what New makes, and what its methods answer, for a text of at most 2^32 bytes. -/
import Derived.Test.YtgefbbdahhoglaaText
namespace Go.Proofs.Ytgefbbdahhoglaa.PT
open Go.RowKit Go.Proofs.YtgefbbdahhoglaaW.PrintWords Go.Proofs.YtgefbbdahhoglaaW.PrintLast Go.Proofs.YtgefbbdahhoglaaW.PrintMore Go.Proofs.Ytgefbbdahhoglaa.PAll
attribute [local go_sem] max2_int min2_int max_two min_two

abbrev starts (t : ByteArray) : List Int := stl t t.size
/-- An index of the text t at block g: the text, and where its rows begin. -/
def Ix (w : World) (g : Nat) (t : ByteArray) : Prop :=
  ∃ A c, w.heap[g]? = some (.cells #[.string t, .slice A (starts t).length c] 70 (0, 0)) ∧ Kd.C (Kd.int .i64) w A (starts t).length (starts t)
theorem Ix.below {w w1 : World} {g : Nat} {t : ByteArray} (h : Ix w g t) (hb : Below w.heap.size w w1) : Ix w1 g t := by
  obtain ⟨A, c, hg, hc⟩ := h
  exact ⟨A, c, (hb.block g (blk_lt hg)).trans hg, Kd.C_below hc hb⟩

theorem R_one (w : World) : Kd.R (Kd.int .i64) 3 (w.alloc (.cells #[.int .i64 0] 3)) w.heap.size (fun k => k = w.heap.size) (.slice (some ⟨w.heap.size, 0, none⟩) 1 1) [0] := by
  refine ⟨fun k hk => by simpa [Value.ownBlock] using hk.symm, [.int .i64 0], ?_, ?_⟩
  · have h2 := World.ownsRow_lit (base := w.heap.size) (e := 3) (size := 1) w #[.int .i64 0] 1 (Nat.le_refl _) (by simp [maxLen]) (by simp)
    exact h2
  · refine ⟨rfl, fun j p hj => ?_⟩
    rcases j with _ | j
    · simp at hj
      subst hj
      exact rfl
    · simp at hj

set_option maxHeartbeats 1000000 in
theorem New_calls (t : ByteArray) (w : World) (hs : t.size ≤ 4294967296) :
    Calls Try.prog 14 #[.string t] w fun e w' => ∃ g, e = .returned (.pointer (some ⟨g, 0, none⟩)) ∧ Ix w' g t ∧ Below w.heap.size w w' := by
  have H := Aside0.mk (lines_f t 0 [0] (by omega) (by omega) hs (by simp))
  go_enter Try.func14, Try.ntmps14
  go_wp2_with fail
  have hR := Kd.R_below (R_one w) (below_alloc (Below.refl (w.alloc (.cells #[.int .i64 0] 3)).heap.size _) (.cells #[.string t, .slice (some ⟨w.heap.size, 0, none⟩) 1 1] 70))
  have hB := below_alloc (below_alloc (Below.refl w.heap.size w) (.cells #[.int .i64 0] 3)) (.cells #[.string t, .slice (some ⟨w.heap.size, 0, none⟩) 1 1] 70)
  refine (place_lines.calls (t.size + 1) (fun k => k = w.heap.size) _ [0] t 0 _ w _ hB hR H.out).mono ?_
  clear hR hB
  rintro e w1 ⟨v, rfl, hR, hB, hK⟩
  obtain ⟨A, c, rfl, hcl, hC⟩ := Kd.R_reads hR
  have hb : w1.heap[w.heap.size + 1]? = some (.cells #[.string t, .slice (some ⟨w.heap.size, 0, none⟩) 1 1] 70 (0, 0)) := by
    refine blk_kept (o := _) ?_ hK (by simp)
    have h3 := heap_alloc_new (w.alloc (.cells #[.int .i64 0] 3)) (.cells #[.string t, .slice (some ⟨w.heap.size, 0, none⟩) 1 1] 70)
    simpa using h3
  have hc1 := blk_cell hb 1
  simp at hc1
  have hf1 := blk_frozen hb 1
  have HR := Aside0.mk hR
  have HB := Aside0.mk hB
  have HK := Aside0.mk hK
  have HC := Aside0.mk hC
  have Hb := Aside0.mk hb
  have Hcl := Aside0.mk hcl
  clear hR hB hK hC hb hcl
  go_wp2
  go_ret
  refine ⟨_, rfl, ?_, below_set HB.out (by simp)⟩
  obtain ⟨A', c', he, _, hC'⟩ := Kd.R_reads (Kd.R_set HR.out Hb.out (by decide) 1 (.slice A ([0] ++ lin t 0 t.size).length c))
  injection he with h1 _ h2
  subst h1; subst h2
  exact ⟨_, _, (blk_set Hb.out 1 _).trans rfl, hC'⟩
end Go.Proofs.Ytgefbbdahhoglaa.PT
