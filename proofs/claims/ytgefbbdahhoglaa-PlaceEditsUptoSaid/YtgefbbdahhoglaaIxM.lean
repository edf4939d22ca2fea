/- An index of a text that the call itself has made: as a kind of value, so that indexes can be gathered in a row; and what New makes is one. -/
import Derived.Test.YtgefbbdahhoglaaIx
namespace Go.Proofs.Ytgefbbdahhoglaa.PT
open Go.RowKit Go.Proofs.YtgefbbdahhoglaaW.PrintWords Go.Proofs.YtgefbbdahhoglaaW.PrintLast Go.Proofs.YtgefbbdahhoglaaW.PrintMore Go.Proofs.Ytgefbbdahhoglaa.PAll

/-- An index of the text t at block g, made from base on, its blocks are ok. -/
def IxM (w : World) (base : Nat) (ok : Nat → Prop) (g : Nat) (t : ByteArray) : Prop :=
  ∃ A c, ok g ∧ base ≤ g ∧ w.heap[g]? = some (.cells #[.string t, .slice A (starts t).length c] 70 (0, 0)) ∧ Kd.R (Kd.int .i64) 3 w base ok (.slice A (starts t).length c) (starts t)
theorem IxM.ix {w : World} {base : Nat} {ok : Nat → Prop} {g : Nat} {t : ByteArray} (h : IxM w base ok g t) : Ix w g t := by
  obtain ⟨A, c, _, _, hg, hr⟩ := h
  obtain ⟨A', c', he, _, hC⟩ := Kd.R_reads hr
  injection he with h1 _ h2
  subst h1; subst h2
  exact ⟨_, _, hg, hC⟩
/-- A pointer to an index of a text. -/
def ptrIx : Kd ByteArray where
  sz := 1
  E := [70, 3]
  K := fun w t cs => ∃ g, cs = [.pointer (some ⟨g, 0, none⟩)] ∧ Ix w g t
  M := fun w base ok t cs => ∃ g, cs = [.pointer (some ⟨g, 0, none⟩)] ∧ IxM w base ok g t
  K_len := by rintro w x cs ⟨g, rfl, _⟩; rfl
  K_one := by
    rintro w x cs ⟨g, rfl, _⟩ u hu
    rw [List.mem_singleton.1 hu]
    rfl
  K_below := by rintro w w1 x cs hb ⟨g, rfl, h⟩; exact ⟨g, rfl, h.below hb⟩
  K_of_M := by rintro w base ok x cs ⟨g, rfl, h⟩; exact ⟨g, rfl, h.ix⟩
  M_mono := by rintro w base ok ok' x cs hok ⟨g, rfl, A, c, h1, h2, h3, h4⟩; exact ⟨g, rfl, A, c, hok _ h1, h2, h3, Kd.R_mono h4 hok⟩
  M_bound := by
    rintro w base ok x cs ⟨g, rfl, A, c, h1, h2, h3, h4⟩
    refine ⟨g, rfl, A, c, ⟨h1, h2, blk_lt h3, 70, by simp, _, h3⟩, h2, h3, Kd.R_mono (Kd.R_bound h4) ?_⟩
    rintro k ⟨k1, k2, k3, q, hq, hc⟩
    refine ⟨k1, k2, k3, 3, by simp, ?_⟩
    have : q = 3 := by simpa [Kd.int, Kd.scalar] using hq
    subst this
    exact hc
  M_move := by rintro w w1 base ok x cs hm ⟨g, rfl, A, c, h1, h2, h3, h4⟩; exact ⟨g, rfl, A, c, h1, h2, (hm g h1).trans h3, Kd.R_move h4 hm⟩
  M_lower := by rintro w base base' ok x cs hb ⟨g, rfl, A, c, h1, h2, h3, h4⟩; exact ⟨g, rfl, A, c, h1, Nat.le_trans hb h2, h3, Kd.R_lower h4 hb⟩

set_option maxHeartbeats 1000000 in
theorem NewM_calls (t : ByteArray) (w : World) (hs : t.size ≤ 4294967296) :
    Calls Try.prog 14 #[.string t] w fun e w' => ∃ g, e = .returned (.pointer (some ⟨g, 0, none⟩)) ∧ IxM w' w.heap.size (fun q => w.heap.size ≤ q) g t ∧ Below w.heap.size w w' := by
  have H := Aside0.mk (lines_f t 0 [0] (by omega) (by omega) hs (by simp))
  go_enter Try.func14, Try.ntmps14
  go_wp2_with fail
  have hR := Kd.R_below (R_one w) (below_alloc (Below.refl (w.alloc (.cells #[.int .i64 0] 3)).heap.size _) (.cells #[.string t, .slice (some ⟨w.heap.size, 0, none⟩) 1 1] 70))
  have hB := below_alloc (below_alloc (Below.refl w.heap.size w) (.cells #[.int .i64 0] 3)) (.cells #[.string t, .slice (some ⟨w.heap.size, 0, none⟩) 1 1] 70)
  refine (place_lines.calls (t.size + 1) (fun k => k = w.heap.size) _ [0] t 0 _ w _ hB hR H.out).mono ?_
  clear hR hB
  rintro e w1 ⟨v, rfl, hR, hB, hK⟩
  obtain ⟨A, c, rfl, hcl, hC⟩ := Kd.R_reads hR
  have hb : w1.heap[w.heap.size + 1]? = some (.cells #[.string t, .slice (some ⟨w.heap.size, 0, none⟩) 1 1] 70 (0, 0)) := by
    refine blk_kept (o := _) ?_ hK (by simp)
    have h3 := heap_alloc_new (w.alloc (.cells #[.int .i64 0] 3)) (.cells #[.string t, .slice (some ⟨w.heap.size, 0, none⟩) 1 1] 70)
    simpa using h3
  have hc1 := blk_cell hb 1
  simp at hc1
  have hf1 := blk_frozen hb 1
  have HR := Aside0.mk hR
  have HB := Aside0.mk hB
  have HK := Aside0.mk hK
  have HC := Aside0.mk hC
  have Hb := Aside0.mk hb
  have Hcl := Aside0.mk hcl
  clear hR hB hK hC hb hcl
  go_wp2
  go_ret
  refine ⟨_, rfl, ?_, below_set HB.out (by simp)⟩
  have hR2 := Kd.R_set HR.out Hb.out (by decide) 1 (.slice A ([0] ++ lin t 0 t.size).length c)
  refine ⟨A, c, by simp, by simp, (blk_set Hb.out 1 _).trans rfl, Kd.R_mono hR2 ?_⟩
  rintro k (hk | hk)
  · exact Nat.le_of_eq hk.symm
  · have : (w.alloc (.cells #[.int .i64 0] 3)).heap.size ≤ k ∨ w.heap.size ≤ k := by
      first | exact .inr hk | (left; simp at hk ⊢; omega)
    rcases this with h | h
    · simp at h; omega
    · exact h
end Go.Proofs.Ytgefbbdahhoglaa.PT
