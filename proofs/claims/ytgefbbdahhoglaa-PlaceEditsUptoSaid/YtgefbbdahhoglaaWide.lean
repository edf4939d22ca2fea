/- The walk of the index's Wide. -/
import Derived.Test.YtgefbbdahhoglaaCols
import Derived.Test.YtgefbbdahhoglaaIz
import Derived.Lib.OthersKept
import Derived.WalkSmall
namespace Go.Proofs.Ytgefbbdahhoglaa.PT
open Go.RowKit Go.Proofs.YtgefbbdahhoglaaW.PrintWords Go.Proofs.YtgefbbdahhoglaaW.PrintLast Go.Proofs.YtgefbbdahhoglaaW.PrintMore Go.Proofs.Ytgefbbdahhoglaa.PAll
attribute [local go_sem] max2_int min2_int max_two min_two
set_option linter.unusedVariables false

theorem units_calls (s : ByteArray) (i : Nat) (w : World) : Calls Try.prog 37 #[.int .i32 ((Utf8.decode s i).1 : Int)] w fun e w' => e = .returned (.int .i64 (uts s i)) ∧ Drawn0 w w' := by
  refine place_units.calls _ _ w ?_
  unfold place_units.f uts
  by_cases h : ((Utf8.decode s i).1 : Int) ≥ 65536
  · rw [if_pos h, if_pos (by omega)]
  · rw [if_neg h, if_neg (by omega)]

/-- An iterator's step leaves all below its block alone. -/
theorem below_iterAt {k : Nat} {w w' : World} (h : Below k w w') (s : ByteArray) (p : Nat) : Below k w (w'.iterAt k s p) :=
  ⟨h.os, h.tape, h.output, by simpa [World.iterAt] using h.size, fun i hi => by
    rw [← h.block i hi]
    simp [World.iterAt, Array.getElem?_setIfInBounds]
    omega⟩

set_option maxHeartbeats 2000000 in
theorem Wide_calls (t : ByteArray) (g : Nat) (a : Int) (w : World) (hI : Ix w g t) (hs : t.size ≤ 4294967296) :
    Calls Try.prog 23 #[.pointer (some ⟨g, 0, none⟩), .int .i64 a] w fun e w' => e = .returned (.agg #[.int .i64 (rowN t (clampN t a)), .int .i64 (widC t (clampN t a))]) ∧ Below w.heap.size w w' := by
  have HI := Aside0.mk hI
  have hcl := clampN_le t a
  obtain ⟨c, Hc⟩ : ∃ c, clampN t a = c := ⟨_, rfl⟩
  have HC := Aside0.mk Hc
  rw [Hc] at hcl
  have hrm := rowN_mono t hcl
  have hN := rowN_le t t.size
  have hbeg := begN_le t c
  have hft := from_to t hrm
  have HS := Aside0.mk hs
  have hsz := rowS_size t hrm
  have hbC : 0 ≤ (c : Int) - begN t c := by omega
  clear hI Hc
  go_enter Try.func23, Try.ntmps23
  go_wp2_with fail
  refine (Pos_calls t g a _ (HI.out.below (below_alloc (Below.refl _ _) _)) HS.out).mono ?_
  rintro e w1 ⟨rfl, hB⟩
  rw [HC.out]
  have hg0 := (hB.block _ (by simp)).trans (heap_alloc_new w (.cells #[.int .i64 0, .int .i64 0] 50))
  have HB1 := Aside0.mk (below_then (below_alloc (Below.refl w.heap.size w) _) (by simp) hB)
  have HI1 := Aside0.mk ((HI.out.below (below_alloc (Below.refl _ _) _)).below hB)
  have Hg0 := Aside0.mk hg0
  obtain ⟨r, Hr⟩ : ∃ r, rowN t c = r := ⟨_, rfl⟩
  obtain ⟨C, HCc⟩ : ∃ C, (c : Int) - begN t c = C := ⟨_, rfl⟩
  have HR := Aside0.mk Hr
  have HCC := Aside0.mk HCc
  rw [Hr, HCc]
  rw [HCc] at hbC
  rw [Hr] at hft hsz hrm
  have hCb : C ≤ 4294967296 := by omega
  clear hB hg0 Hr HCc
  go_wp2_with fail
  refine (span_calls t g r _ (HI1.out.below (below_alloc (Below.refl _ _) _)) HS.out (by omega) (by omega)).mono ?_
  rintro e w2 ⟨rfl, hB⟩
  rw [Int.toNat_natCast]
  have hg1 := (hB.block _ (by simp)).trans (heap_alloc_new w1 (.cells #[.int .i64 r, .int .i64 C] 50))
  have hg0 := (hB.block _ (by have := blk_lt Hg0.out; simp; omega)).trans ((Below.heap_alloc w1 (.cells #[.int .i64 r, .int .i64 C] 50) _ (blk_lt Hg0.out)).trans Hg0.out)
  have HB2 := Aside0.mk (below_then HB1.out HB1.out.size (below_then (below_alloc (Below.refl w1.heap.size w1) _) (by simp) hB))
  have HI2 := Aside0.mk ((HI1.out.below (below_alloc (Below.refl _ _) _)).below hB)
  have hne : w.heap.size < w1.heap.size := blk_lt Hg0.out
  have Hg0' := Aside0.mk hg0
  have Hg1 := Aside0.mk hg1
  obtain ⟨f, Hf⟩ : ∃ f, fromR t r = f := ⟨_, rfl⟩
  obtain ⟨f2, Hf2⟩ : ∃ f, toR t r = f := ⟨_, rfl⟩
  have HF := Aside0.mk Hf
  have HF2 := Aside0.mk Hf2
  rw [Hf, Hf2]
  rw [Hf, Hf2] at hft hsz
  obtain ⟨ad, cp, hc0, _⟩ := HI2.out.open_
  replace hc0 := far hc0
  clear hB hg0 hg1 Hf Hf2
  go_wp2_with fail
  go_quiet (fail)
  go_wp2
  have hrs : t.extract f.toNat f2.toNat = rowS t r := by unfold rowS; rw [HF.out, HF2.out]
  rw [hrs]
  have HWC : Aside0 (widC t c = wideC (rowS t r) C) := ⟨by unfold widC; rw [HR.out, HCC.out]⟩
  generalize rowS t r = rs at *
  have hk0 := World.iter_heap ((w2.alloc (.cells #[.int .i64 f, .int .i64 f2] 42)).drewN nq) rs 0
  rw [show ((w2.alloc (.cells #[.int .i64 f, .int .i64 f2] 42)).drewN nq).heap.size = w2.heap.size + 1 by simp] at hk0
  have hb0 : Below (w2.heap.size + 1) ((w2.alloc (.cells #[.int .i64 f, .int .i64 f2] 42)).drewN nq) (((w2.alloc (.cells #[.int .i64 f, .int .i64 f2] 42)).drewN nq).iter rs 0) := (Below.refl _ _).alloc (by simp) _
  generalize ((w2.alloc (.cells #[.int .i64 f, .int .i64 f2] 42)).drewN nq).iter rs 0 = w6 at *
  have HG : Aside0 (∀ wr : World, Below (w2.heap.size + 1) ((w2.alloc (.cells #[.int .i64 f, .int .i64 f2] 42)).drewN nq) wr → wr.heap[w.heap.size]? = some (.cells #[.int .i64 0, .int .i64 0] 50 (0, 0)) ∧ wr.heap[w1.heap.size]? = some (.cells #[.int .i64 r, .int .i64 C] 50 (0, 0)) ∧ Below w.heap.size w wr) := ⟨fun wr hb => by
    have l0 := blk_lt Hg0'.out
    have l1 := blk_lt Hg1.out
    refine ⟨(hb.block _ (by omega)).trans ((Below.heap_alloc w2 _ _ l0).trans Hg0'.out), (hb.block _ (by omega)).trans ((Below.heap_alloc w2 _ _ l1).trans Hg1.out), ?_⟩
    have e1 := below_alloc HB2.out (.cells #[.int .i64 f, .int .i64 f2] 42)
    exact (pw_below_drewN e1 nq).trans ⟨hb.os, hb.tape, hb.output, hb.size, fun i hi => hb.block i (by have := HB2.out.size; omega)⟩⟩
  have Hk0 := Aside0.mk hk0
  have Hb0 := Aside0.mk hb0
  have hrb : (rs.size : Int) ≤ 4294967296 := by omega
  clear hk0 hb0 hrs hc0 hft hsz
  go_loopw [8, 9] (fun v8 v9 wr => ∃ (pos : Nat) (col all : Int), v8 = .int .i64 col ∧ v9 = .int .i64 all ∧ Aside0 (WideAt rs C pos col all) ∧ Aside0 (wr.heap[w2.heap.size + 1]? = some (.stringIter rs pos)) ∧ Aside0 (Below (w2.heap.size + 1) ((w2.alloc (.cells #[.int .i64 f, .int .i64 f2] 42)).drewN nq) wr)) (fun _ _ wr => rs.size - wr.iterPos (w2.heap.size + 1))
  case atStart => exact ⟨0, 0, 0, rfl, rfl, ⟨WideAt.start rs C hbC⟩, Hk0, Hb0⟩
  case round =>
    obtain ⟨pos, col, all, rfl, rfl, HA, HK, HBr⟩ := hrel
    clear Hk0 Hb0
    obtain ⟨a1, a2, a3, a4, a5, _⟩ := HA.out
    by_cases hlt : pos < rs.size
    · have hnx := fun ty => Lib.run_next_any_at (P := Try.prog) wr (w2.heap.size + 1) rs pos ty HK.out hlt
      have hk' := Lib.iterAt_heap wr (w2.heap.size + 1) rs pos (pos + (Utf8.decode rs pos).2) HK.out
      have hb' := below_iterAt HBr.out rs (pos + (Utf8.decode rs pos).2)
      have hpos : wr.iterPos (w2.heap.size + 1) = pos := iterPos_of HK.out
      generalize hwi : wr.iterAt (w2.heap.size + 1) rs (pos + (Utf8.decode rs pos).2) = wi at hnx hk' hb'
      obtain ⟨g0, g1, gB⟩ := HG.out wi hb'
      have q0 := (blk_cell g0 0).trans rfl
      have q1 := (blk_cell g0 1).trans rfl
      have f0 := blk_frozen g0 0
      have f1 := blk_frozen g0 1
      have q2 := (blk_cell g1 0).trans rfl
      have q3 := (blk_cell g1 1).trans rfl
      have Hk' := Aside0.mk hk'
      have Hb' := Aside0.mk hb'
      have Hg0q := Aside0.mk g0
      have HgB := Aside0.mk gB
      have Hpos := Aside0.mk hpos
      have w1s := wdt_spec rs pos hlt
      have u1 := uts_spec rs pos
      clear g0 g1 gB hk' hb' hwi hpos
      by_cases hC : C < (pos : Int)
      · have d1 : decide (C < (pos : Int)) = true := decide_eq_true hC
        have e1 := HA.out.over hC
        have HE := Aside0.mk e1
        clear e1 hC
        go_wp2
        refine bodyPost_ret (results_cell_row rfl _ _ w.heap.size 50 #[.int .i64 r, .int .i64 col] (0, 0) _ rfl ((blk_set (blk_set Hg0q.out 0 _) 1 _).trans rfl) Try.underlying50 rfl (by kernel_rfl)) rfl ⟨by rw [HC.out, HR.out, HWC.out, HE.out], ?_⟩
        exact below_set (below_set HgB.out (Nat.le_refl _)) (Nat.le_refl _)
      · have d1 : decide (C < (pos : Int)) = false := decide_eq_false hC
        have hst := Aside0.mk (HA.out.step hlt (by omega))
        clear hC
        go_wp2_with fail
        refine (units_calls rs pos _).mono ?_
        rintro e w7 ⟨rfl, hD⟩
        obtain ⟨m, rfl⟩ := hD.out
        go_wp2
        go_roundw
        case rel => exact ⟨pos + wdt rs pos, all, all + uts rs pos, rfl, rfl, hst, Hk', ⟨pw_below_drewN Hb'.out _⟩⟩
        case measure =>
          have h1 : (wi.drewN m).iterPos (w2.heap.size + 1) = pos + wdt rs pos := iterPos_of (w := wi.drewN m) Hk'.out
          have h2 := Hpos.out
          first | (rw [h1, h2]; omega) | (simp only [h1, h2]; omega) | trace_state
    · have hnx := fun ty => Lib.run_next_end_at (P := Try.prog) wr (w2.heap.size + 1) rs pos ty HK.out hlt
      obtain ⟨g0, g1, gB⟩ := HG.out wr HBr.out
      have q0 := (blk_cell g0 0).trans rfl
      have q1 := (blk_cell g0 1).trans rfl
      have f0 := blk_frozen g0 0
      have f1 := blk_frozen g0 1
      have q2 := (blk_cell g1 0).trans rfl
      have q3 := (blk_cell g1 1).trans rfl
      have Hg0q := Aside0.mk g0
      have HgB := Aside0.mk gB
      have HP := Aside0.mk hlt
      clear g0 g1 gB hlt
      by_cases hC : (rs.size : Int) ≤ C
      · have d1 : decide ((rs.size : Int) ≤ C) = true := decide_eq_true hC
        have HE := Aside0.mk (HA.out.end_ HP.out hC)
        clear hC
        go_wp2
        refine bodyPost_ret (results_cell_row rfl _ _ w.heap.size 50 #[.int .i64 r, .int .i64 all] (0, 0) _ rfl ((blk_set (blk_set Hg0q.out 0 _) 1 _).trans rfl) Try.underlying50 rfl (by kernel_rfl)) rfl ⟨by rw [HC.out, HR.out, HWC.out, HE.out], ?_⟩
        exact below_set (below_set HgB.out (Nat.le_refl _)) (Nat.le_refl _)
      · have d1 : decide ((rs.size : Int) ≤ C) = false := decide_eq_false hC
        have HE := Aside0.mk (HA.out.over (by have := HP.out; omega))
        clear hC
        go_wp2
        refine bodyPost_ret (results_cell_row rfl _ _ w.heap.size 50 #[.int .i64 r, .int .i64 col] (0, 0) _ rfl ((blk_set (blk_set Hg0q.out 0 _) 1 _).trans rfl) Try.underlying50 rfl (by kernel_rfl)) rfl ⟨by rw [HC.out, HR.out, HWC.out, HE.out], ?_⟩
        exact below_set (below_set HgB.out (Nat.le_refl _)) (Nat.le_refl _)
end Go.Proofs.Ytgefbbdahhoglaa.PT
