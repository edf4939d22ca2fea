/- The walk of the index's AtWide. -/
import Derived.Test.YtgefbbdahhoglaaWide
namespace Go.Proofs.Ytgefbbdahhoglaa.PT
open Go.RowKit Go.Proofs.YtgefbbdahhoglaaW.PrintWords Go.Proofs.YtgefbbdahhoglaaW.PrintLast Go.Proofs.YtgefbbdahhoglaaW.PrintMore Go.Proofs.Ytgefbbdahhoglaa.PAll
attribute [local go_sem] max2_int min2_int max_two min_two
set_option linter.unusedVariables false

set_option maxHeartbeats 2000000 in
theorem AtWide_calls (t : ByteArray) (g : Nat) (r c : Int) (w : World) (hI : Ix w g t) (hs : t.size ≤ 4294967296) :
    Calls Try.prog 25 #[.pointer (some ⟨g, 0, none⟩), .agg #[.int .i64 r, .int .i64 c]] w fun e w' => e = .returned (.int .i64 (atW t r c)) ∧ Below w.heap.size w w' := by
  have hN := rowN_le t t.size
  have hB0 : Below w.heap.size w (w.alloc (.cells #[.int .i64 r, .int .i64 c] 50)) := below_alloc (Below.refl _ _) _
  have hg0 := heap_alloc_new w (.cells #[.int .i64 r, .int .i64 c] 50)
  have HI := Aside0.mk (hI.below hB0)
  clear hI
  generalize hw0 : w.alloc (.cells #[.int .i64 r, .int .i64 c] 50) = w0 at hB0 hg0 HI
  have HW0 := Aside0.mk hw0
  have HB0 := Aside0.mk hB0
  have Hg0 := Aside0.mk hg0
  have HS := Aside0.mk hs
  clear hw0 hB0 hg0
  by_cases ho : outB t r = true
  · have ho' := Aside0.mk ho
    have e1 : atW t r c = outA t r := by
      unfold atW outA; unfold outB at ho
      by_cases h0 : r < 0
      · rw [if_pos h0, if_pos h0]
      · rw [if_neg h0] at ho
        have := of_decide_eq_true ho
        rw [if_neg h0, if_neg h0, if_pos (by omega)]
    rw [e1]
    clear ho e1
    go_enter Try.func25, Try.ntmps25
    go_wp2_with fail
    refine (outside_calls t g r _ (by rw [HW0.out]; exact HI.out) HS.out).mono ?_
    rintro e w1 ⟨rfl, hB⟩
    rw [ho'.out]
    have HB := Aside0.mk hB
    clear hB
    go_wp2
    go_ret
    exact ⟨rfl, below_then (below_alloc (Below.refl _ _) _) (by simp) HB.out⟩
  · have ho' := Aside0.mk (Bool.eq_false_iff.2 ho)
    have h0 : 0 ≤ r := by
      rcases Int.lt_or_le r 0 with h | h
      · exact absurd (by simp [outB, h]) ho
      · exact h
    have h1 : r ≤ rowN t t.size := by
      unfold outB at ho
      rw [if_neg (by omega)] at ho
      have := of_decide_eq_false (Bool.eq_false_iff.2 ho)
      omega
    have hft := from_to t (r := r.toNat) (by omega)
    have hsz := rowS_size t (r := r.toNat) (by omega)
    obtain ⟨D, hD⟩ : ∃ m : Int, (if c < 0 then 0 else c) = m := ⟨_, rfl⟩
    have hD0 : 0 ≤ D := by rw [← hD]; split <;> omega
    have E1 : Aside0 (atW t r c = fromR t r.toNat + (posAt (rowS t r.toNat) D ((rowS t r.toNat).size + 1) 0 0 : Nat)) := ⟨by
      unfold atW wideP
      rw [if_neg (by omega), if_neg (by omega), hD]⟩
    clear ho
    go_enter Try.func25, Try.ntmps25
    go_wp2_with fail
    refine (outside_calls t g r _ (by rw [HW0.out]; exact HI.out) HS.out).mono ?_
    rintro e w1 ⟨rfl, hB⟩
    rw [ho'.out]
    rw [HW0.out] at hB
    have hg1 := (hB.block _ (blk_lt Hg0.out)).trans Hg0.out
    have HB := Aside0.mk (below_then HB0.out HB0.out.size hB)
    have HI1 := Aside0.mk (HI.out.below hB)
    have q0 := (blk_cell hg1 0).trans rfl
    have q1 := (blk_cell hg1 1).trans rfl
    have Hg1 := Aside0.mk hg1
    clear hB hg1
    go_wp2_with fail
    refine (span_calls t g r _ HI1.out HS.out h0 h1).mono ?_
    rintro e w2 ⟨rfl, hB⟩
    have hg2 := (hB.block _ (blk_lt Hg1.out)).trans Hg1.out
    have HB2 := Aside0.mk (below_then HB.out HB.out.size hB)
    have HI2 := Aside0.mk (HI1.out.below hB)
    have Hg2 := Aside0.mk hg2
    obtain ⟨ad, cp, hc0, _⟩ := HI2.out.open_
    replace hc0 := far hc0
    obtain ⟨f, Hf⟩ : ∃ f, fromR t r.toNat = f := ⟨_, rfl⟩
    obtain ⟨f2, Hf2⟩ : ∃ f, toR t r.toNat = f := ⟨_, rfl⟩
    have HF := Aside0.mk Hf
    have HF2 := Aside0.mk Hf2
    rw [Hf, Hf2] at hft hsz ⊢
    clear hB hg2 q0 q1 Hf Hf2
    go_wp2_with fail
    go_region
    go_wp2
    have hrs : t.extract f.toNat f2.toNat = rowS t r.toNat := by unfold rowS; rw [HF.out, HF2.out]
    rw [hrs]
    have HE1 : Aside0 (atW t r c = f + (posAt (rowS t r.toNat) D ((rowS t r.toNat).size + 1) 0 0 : Nat)) := ⟨by rw [E1.out, HF.out]⟩
    clear E1
    generalize rowS t r.toNat = rs at *
    have hk0 := World.iter_heap ((w2.alloc (.cells #[.int .i64 f, .int .i64 f2] 42)).drew) rs 0
    rw [show ((w2.alloc (.cells #[.int .i64 f, .int .i64 f2] 42)).drew).heap.size = w2.heap.size + 1 by simp] at hk0
    have hb0 : Below (w2.heap.size + 1) ((w2.alloc (.cells #[.int .i64 f, .int .i64 f2] 42)).drew) (((w2.alloc (.cells #[.int .i64 f, .int .i64 f2] 42)).drew).iter rs 0) := (Below.refl _ _).alloc (by simp) _
    generalize ((w2.alloc (.cells #[.int .i64 f, .int .i64 f2] 42)).drew).iter rs 0 = w6 at *
    have HG : Aside0 (∀ wr : World, Below (w2.heap.size + 1) ((w2.alloc (.cells #[.int .i64 f, .int .i64 f2] 42)).drew) wr → wr.heap[w.heap.size]? = some (.cells #[.int .i64 r, .int .i64 c] 50 (0, 0)) ∧ wr.heap[w2.heap.size]? = some (.cells #[.int .i64 f, .int .i64 f2] 42 (0, 0)) ∧ Below w.heap.size w wr) := ⟨fun wr hb => by
      have l0 := blk_lt Hg2.out
      refine ⟨(hb.block _ (by omega)).trans ((Below.heap_alloc w2 _ _ l0).trans Hg2.out), (hb.block _ (by omega)).trans (heap_alloc_new w2 _), ?_⟩
      have e1 := below_alloc HB2.out (.cells #[.int .i64 f, .int .i64 f2] 42)
      exact (below_drew e1).trans ⟨hb.os, hb.tape, hb.output, hb.size, fun i hi => hb.block i (by have := HB2.out.size; omega)⟩⟩
    have Hk0 := Aside0.mk hk0
    have Hb0 := Aside0.mk hb0
    have hrb : (rs.size : Int) ≤ 4294967296 := by omega
    clear hk0 hb0 hrs hc0
    go_loopw [8, 9] (fun v8 v9 wr => ∃ (pos at_ : Nat) (all : Int), v8 = .int .i64 (f + at_) ∧ v9 = .int .i64 all ∧ Aside0 (PosIs rs D pos at_ all) ∧ Aside0 (wr.heap[w2.heap.size + 1]? = some (.stringIter rs pos)) ∧ Aside0 (Below (w2.heap.size + 1) ((w2.alloc (.cells #[.int .i64 f, .int .i64 f2] 42)).drew) wr)) (fun _ _ wr => rs.size - wr.iterPos (w2.heap.size + 1))
    case atStart => exact ⟨0, 0, 0, by simp, rfl, ⟨PosIs.start rs D hD0⟩, Hk0, Hb0⟩
    case round =>
      obtain ⟨pos, at_, all, rfl, rfl, HA, HK, HBr⟩ := hrel
      clear Hk0 Hb0
      obtain ⟨a1, a2, a3, a4, _⟩ := HA.out
      by_cases hlt : pos < rs.size
      · have hnx := fun ty => Lib.run_next_any_at (P := Try.prog) wr (w2.heap.size + 1) rs pos ty HK.out hlt
        have hk' := Lib.iterAt_heap wr (w2.heap.size + 1) rs pos (pos + (Utf8.decode rs pos).2) HK.out
        have hb' := below_iterAt HBr.out rs (pos + (Utf8.decode rs pos).2)
        have hpos : wr.iterPos (w2.heap.size + 1) = pos := iterPos_of HK.out
        generalize hwi : wr.iterAt (w2.heap.size + 1) rs (pos + (Utf8.decode rs pos).2) = wi at hnx hk' hb'
        obtain ⟨g0, g1, gB⟩ := HG.out wi hb'
        have q0 := (blk_cell g0 0).trans rfl
        have q1 := (blk_cell g0 1).trans rfl
        have q2 := (blk_cell g1 0).trans rfl
        have q3 := (blk_cell g1 1).trans rfl
        have Hk' := Aside0.mk hk'
        have Hb' := Aside0.mk hb'
        have HgB := Aside0.mk gB
        have Hpos := Aside0.mk hpos
        have w1s := wdt_spec rs pos hlt
        have u1 := uts_spec rs pos
        clear g0 g1 gB hk' hb' hwi hpos
        by_cases hC : D < all
        · have d1 : decide (D < all) = true := decide_eq_true hC
          have HE := Aside0.mk (HA.out.over hC)
          clear hC
          go_wp2
          go_ret
          exact ⟨by rw [HE1.out, HE.out]; rfl, HgB.out⟩
        · have d1 : decide (D < all) = false := decide_eq_false hC
          have hst := Aside0.mk (HA.out.step hlt (by omega))
          clear hC
          go_wp2_with fail
          refine (units_calls rs pos _).mono ?_
          rintro e w7 ⟨rfl, hDr⟩
          obtain ⟨m, rfl⟩ := hDr.out
          go_wp2
          go_roundw
          case rel => exact ⟨pos + wdt rs pos, pos, all + uts rs pos, rfl, rfl, hst, Hk', ⟨pw_below_drewN Hb'.out _⟩⟩
          case measure =>
            have h1 : (wi.drewN m).iterPos (w2.heap.size + 1) = pos + wdt rs pos := iterPos_of (w := wi.drewN m) Hk'.out
            have h2 := Hpos.out
            first | (rw [h1, h2]; omega) | (simp only [h1, h2]; omega)
      · have hnx := fun ty => Lib.run_next_end_at (P := Try.prog) wr (w2.heap.size + 1) rs pos ty HK.out hlt
        obtain ⟨g0, g1, gB⟩ := HG.out wr HBr.out
        have q0 := (blk_cell g0 0).trans rfl
        have q1 := (blk_cell g0 1).trans rfl
        have q2 := (blk_cell g1 0).trans rfl
        have q3 := (blk_cell g1 1).trans rfl
        have HgB := Aside0.mk gB
        have HP := Aside0.mk hlt
        have HSZ := Aside0.mk hsz
        clear g0 g1 gB hlt hsz
        by_cases hC : all ≤ D
        · have d1 : decide (all ≤ D) = true := decide_eq_true hC
          have HE := Aside0.mk (HA.out.end_ HP.out hC)
          clear hC
          go_wp2
          go_ret
          exact ⟨by rw [HE1.out, HE.out, HSZ.out]; exact congrArg (fun z => Ending.returned (.int .i64 z)) (by omega), HgB.out⟩
        · have d1 : decide (all ≤ D) = false := decide_eq_false hC
          have HE := Aside0.mk (HA.out.over (by omega))
          clear hC
          go_wp2
          go_ret
          exact ⟨by rw [HE1.out, HE.out]; rfl, HgB.out⟩
end Go.Proofs.Ytgefbbdahhoglaa.PT
