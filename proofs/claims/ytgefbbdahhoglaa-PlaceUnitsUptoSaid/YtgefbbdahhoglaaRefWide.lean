/- The walks of the document's own Wide and AtWide. -/
import Derived.Test.YtgefbbdahhoglaaAtWide
import Derived.Test.YtgefbbdahhoglaaRowsLaw
import Derived.Test.YtgefbbdahhoglaaBytesLaw
namespace Go.Proofs.Ytgefbbdahhoglaa.PT
open Go.RowKit Go.Proofs.YtgefbbdahhoglaaW.PrintWords Go.Proofs.YtgefbbdahhoglaaW.PrintLast Go.Proofs.YtgefbbdahhoglaaW.PrintMore Go.Proofs.Ytgefbbdahhoglaa.PAll
attribute [local go_sem] max2_int min2_int max_two min_two
set_option linter.unusedVariables false

theorem Char_calls (s : ByteArray) (i : Nat) (hs : s.size ≤ 4294967296) (hi : i < s.size) (w : World) :
    Calls Try.prog 38 #[.string s, .int .i64 (i : Int)] w fun e w' => e = .returned (.tuple #[.int .i64 (wdt s i : Int), .int .i64 (uts s i)]) ∧ Drawn0 w w' :=
  trellisref2_Char.calls 10 s i _ _ w (char_f s hs i hi 0)

set_option maxHeartbeats 2000000 in
theorem refWide_calls (t : ByteArray) (a : Int) (w : World) (hs : t.size ≤ 4294967296) :
    Calls Try.prog 24 #[.string t, .int .i64 a] w fun e w' => e = .returned (.agg #[.int .i64 (rowN t (clampN t a)), .int .i64 (widC t (clampN t a))]) ∧ Below w.heap.size w w' := by
  have hcl := clampN_le t a
  obtain ⟨c, Hc⟩ : ∃ c, clampN t a = c := ⟨_, rfl⟩
  have HC := Aside0.mk Hc
  rw [Hc] at hcl
  have hrm := rowN_mono t hcl
  have hN := rowN_le t t.size
  have hbeg := begN_le t c
  have hft := from_to t hrm
  have HS := Aside0.mk hs
  have hsz := rowS_size t hrm
  have hbC : 0 ≤ (c : Int) - begN t c := by omega
  clear Hc
  go_enter Try.func24, Try.ntmps24
  go_wp2_with fail
  refine (refPos_calls t a _ HS.out).mono ?_
  rintro e w1 ⟨rfl, hB⟩
  rw [HC.out]
  have hg0 := (hB.block _ (by simp)).trans (heap_alloc_new w (.cells #[.int .i64 0, .int .i64 0] 50))
  have HB1 := Aside0.mk (below_then (below_alloc (Below.refl w.heap.size w) _) (by simp) hB)
  have Hg0 := Aside0.mk hg0
  obtain ⟨r, Hr⟩ : ∃ r, rowN t c = r := ⟨_, rfl⟩
  obtain ⟨C, HCc⟩ : ∃ C, (c : Int) - begN t c = C := ⟨_, rfl⟩
  have HR := Aside0.mk Hr
  have HCC := Aside0.mk HCc
  rw [Hr, HCc]
  rw [HCc] at hbC
  rw [Hr] at hft hsz hrm
  have hCb : C ≤ 4294967296 := by omega
  clear hB hg0 Hr HCc
  go_wp2_with fail
  refine (refRow_calls t r _ HS.out).mono ?_
  rintro e w2 ⟨rfl, hB⟩
  have ok : rowOk t (r : Int) = true := by unfold rowOk; simp; omega
  rw [show rowA t (r : Int) = fromR t r by unfold rowA; rw [if_pos ok, Int.toNat_natCast], show rowB t (r : Int) = toR t r by unfold rowB; rw [if_pos ok, Int.toNat_natCast], ok]
  have hg1 := (hB.block _ (by simp)).trans (heap_alloc_new w1 (.cells #[.int .i64 r, .int .i64 C] 50))
  have hg0 := (hB.block _ (by have := blk_lt Hg0.out; simp; omega)).trans ((Below.heap_alloc w1 (.cells #[.int .i64 r, .int .i64 C] 50) _ (blk_lt Hg0.out)).trans Hg0.out)
  have HB2 := Aside0.mk (below_then HB1.out HB1.out.size (below_then (below_alloc (Below.refl w1.heap.size w1) _) (by simp) hB))
  have Hg0' := Aside0.mk hg0
  have Hg1 := Aside0.mk hg1
  obtain ⟨f, Hf⟩ : ∃ f, fromR t r = f := ⟨_, rfl⟩
  obtain ⟨f2, Hf2⟩ : ∃ f, toR t r = f := ⟨_, rfl⟩
  have HF := Aside0.mk Hf
  have HF2 := Aside0.mk Hf2
  rw [Hf, Hf2]
  rw [Hf, Hf2] at hft hsz
  clear hB hg0 hg1 Hf Hf2 ok
  go_wp2
  have hrs : t.extract f.toNat f2.toNat = rowS t r := by unfold rowS; rw [HF.out, HF2.out]
  rw [hrs]
  have HWC : Aside0 (widC t c = wideC (rowS t r) C) := ⟨by unfold widC; rw [HR.out, HCC.out]⟩
  generalize rowS t r = rs at *
  have hrb : (rs.size : Int) ≤ 4294967296 := by omega
  have l0 := blk_lt Hg0'.out
  have l1 := blk_lt Hg1.out
  have hq0 := (Below.heap_alloc w2 (.cells #[.int .i64 f, .int .i64 f2] 42) _ l0).trans Hg0'.out
  have hq1 := (Below.heap_alloc w2 (.cells #[.int .i64 f, .int .i64 f2] 42) _ l1).trans Hg1.out
  have HB3 := Aside0.mk (below_alloc HB2.out (.cells #[.int .i64 f, .int .i64 f2] 42))
  generalize w2.alloc (.cells #[.int .i64 f, .int .i64 f2] 42) = w3 at *
  have HQ0 := Aside0.mk hq0
  have q0 := (blk_cell hq0 0).trans rfl
  have q1 := (blk_cell hq0 1).trans rfl
  have f0 := blk_frozen hq0 0
  have f1 := blk_frozen hq0 1
  have q2 := (blk_cell hq1 0).trans rfl
  have q3 := (blk_cell hq1 1).trans rfl
  clear hq0 hq1 hrs l0 l1 hft hsz
  go_loopw [9, 10] (fun v9 v10 wr => ∃ (pos n F : Nat) (col : Int), wr = w3.drewN n ∧ v9 = .int .i64 col ∧ v10 = .int .i64 pos ∧ 0 ≤ col ∧ col ≤ pos ∧ pos ≤ rs.size ∧ Aside0 (rs.size < F + pos ∧ wideC rs C = colAt rs C F pos col)) (fun _ v10 _ => rs.size - (intOf v10).toNat)
  case atStart => exact ⟨0, 0, rs.size + 1, 0, rfl, rfl, rfl, by omega, by omega, by omega, ⟨by omega, rfl⟩⟩
  case round =>
    obtain ⟨pos, n, F, col, rfl, rfl, rfl, a1, a2, a3, HA⟩ := hrel
    by_cases hlt : pos < rs.size
    · have w1s := wdt_spec rs pos hlt
      have u1 := uts_spec rs pos
      have u2 := uts_le_wdt rs pos hlt
      have Hlt := Aside0.mk hlt
      have hst : Aside0 (∃ F', F = F' + 1) := ⟨⟨F - 1, by have := HA.out.1; omega⟩⟩
      obtain ⟨F', hF'⟩ := hst.out
      have Hrb := Aside0.mk hrb
      have hcs := Aside0.mk (show wideC rs C = _ from by rw [HA.out.2, hF', colAt_step rs C F' pos col hlt])
      have hfu := Aside0.mk (show rs.size < F' + 1 + pos from by have := HA.out.1; omega)
      clear hF' hst HA
      go_wp2_with fail
      refine (Char_calls rs pos (by have := Hrb.out; omega) Hlt.out _).mono ?_
      rintro e w7 ⟨rfl, hDr⟩
      obtain ⟨m, rfl⟩ := hDr.out
      generalize hwd : wdt rs pos = n1 at w1s u2 hcs ⊢
      generalize huq : uts rs pos = u at u1 u2 hcs ⊢
      clear hwd huq hDr
      by_cases hC : C < (pos : Int) + n1
      · have d1 : decide (C < (pos : Int) + n1) = true := decide_eq_true hC
        have HE : Aside0 (wideC rs C = col) := ⟨by rw [hcs.out, if_pos (by omega)]⟩
        clear hC hcs
        go_wp2
        refine bodyPost_ret (results_cell_row rfl _ _ w.heap.size 50 #[.int .i64 r, .int .i64 col] (0, 0) _ rfl ((blk_set (blk_set (w := _) (show _ = _ from HQ0.out) 0 _) 1 _).trans rfl) Try.underlying50 rfl (by kernel_rfl)) rfl ⟨by rw [HC.out, HR.out, HWC.out, HE.out], ?_⟩
        exact below_set (below_set (pw_below_drewN HB3.out _) (Nat.le_refl _)) (Nat.le_refl _)
      · have d1 : decide (C < (pos : Int) + n1) = false := decide_eq_false hC
        have HE : Aside0 (rs.size < F' + (pos + n1) ∧ wideC rs C = colAt rs C F' (pos + n1) (col + u)) := ⟨by have := hfu.out; omega, by rw [hcs.out, if_neg (by omega)]⟩
        clear hC hcs
        go_wp2
        go_roundw
        case rel => exact ⟨pos + n1, _, F', col + u, rfl, rfl, by simp, by omega, by omega, by omega, HE⟩
        case measure => simp [intOf]; omega
    · have HE : Aside0 (wideC rs C = col) := ⟨by rw [HA.out.2, colAt_end rs C F pos col hlt]⟩
      clear HA
      go_wp2
      refine bodyPost_ret (results_cell_row rfl _ _ w.heap.size 50 #[.int .i64 r, .int .i64 col] (0, 0) _ rfl ((blk_set (blk_set (w := _) (show _ = _ from HQ0.out) 0 _) 1 _).trans rfl) Try.underlying50 rfl (by kernel_rfl)) rfl ⟨by rw [HC.out, HR.out, HWC.out, HE.out], ?_⟩
      exact below_set (below_set (pw_below_drewN HB3.out _) (Nat.le_refl _)) (Nat.le_refl _)

set_option maxHeartbeats 2000000 in
theorem refAtWide_calls (t : ByteArray) (r c : Int) (w : World) (hs : t.size ≤ 4294967296) (hc9 : -9223372036854775808 ≤ c ∧ c ≤ 9223372036854775807) :
    Calls Try.prog 26 #[.string t, .agg #[.int .i64 r, .int .i64 c]] w fun e w' => e = .returned (.int .i64 (atW t r c)) ∧ Below w.heap.size w w' := by
  have hN := rowN_le t t.size
  have HS := Aside0.mk hs
  by_cases h0 : r < 0
  · have d0 : decide (r < 0) = true := decide_eq_true h0
    rw [show atW t r c = 0 by unfold atW; rw [if_pos h0]]
    clear h0
    go_enter Try.func26, Try.ntmps26
    go_wp2
    go_ret
    exact ⟨rfl, below_alloc (Below.refl _ _) _⟩
  · have d0 : decide (r < 0) = false := decide_eq_false h0
    by_cases h1 : r ≤ rowN t t.size
    · have ok : rowOk t r = true := by unfold rowOk; simp; omega
      have hft := from_to t (r := r.toNat) (by omega)
      have hsz := rowS_size t (r := r.toNat) (by omega)
      have E1 : Aside0 (atW t r c = fromR t r.toNat + (posAt (rowS t r.toNat) c ((rowS t r.toNat).size + 1) 0 0 : Nat)) := ⟨by
        unfold atW
        rw [if_neg (by omega), if_neg (by omega), wideP_eq]⟩
      clear h0
      go_enter Try.func26, Try.ntmps26
      go_wp2_with fail
      refine (refRow_calls t r _ HS.out).mono ?_
      rintro e w1 ⟨rfl, hB⟩
      rw [show rowA t r = fromR t r.toNat by unfold rowA; rw [if_pos ok], show rowB t r = toR t r.toNat by unfold rowB; rw [if_pos ok], ok]
      have hg0 := (hB.block _ (by simp)).trans (heap_alloc_new w (.cells #[.int .i64 r, .int .i64 c] 50))
      have HB1 := Aside0.mk (below_then (below_alloc (Below.refl w.heap.size w) _) (by simp) hB)
      obtain ⟨f, Hf⟩ : ∃ f, fromR t r.toNat = f := ⟨_, rfl⟩
      obtain ⟨f2, Hf2⟩ : ∃ f, toR t r.toNat = f := ⟨_, rfl⟩
      have HF := Aside0.mk Hf
      have HF2 := Aside0.mk Hf2
      have HE1 : Aside0 (atW t r c = f + (posAt (rowS t r.toNat) c ((rowS t r.toNat).size + 1) 0 0 : Nat)) := ⟨by rw [E1.out, HF.out]⟩
      rw [Hf, Hf2]
      rw [Hf, Hf2] at hft hsz
      have Hg0 := Aside0.mk hg0
      clear hB hg0 Hf Hf2 ok E1
      go_wp2
      have hrs : t.extract f.toNat f2.toNat = rowS t r.toNat := by unfold rowS; rw [HF.out, HF2.out]
      rw [hrs]
      generalize rowS t r.toNat = rs at *
      have hrb : (rs.size : Int) ≤ 4294967296 := by omega
      have l0 := blk_lt Hg0.out
      have hq0 := (Below.heap_alloc w1 (.cells #[.int .i64 f, .int .i64 f2] 42) _ l0).trans Hg0.out
      have hq1 := heap_alloc_new w1 (.cells #[.int .i64 f, .int .i64 f2] 42)
      have HB3 := Aside0.mk (below_alloc HB1.out (.cells #[.int .i64 f, .int .i64 f2] 42))
      generalize w1.alloc (.cells #[.int .i64 f, .int .i64 f2] 42) = w3 at *
      have q0 := (blk_cell hq0 0).trans rfl
      have q1 := (blk_cell hq0 1).trans rfl
      have q2 := (blk_cell hq1 0).trans rfl
      have q3 := (blk_cell hq1 1).trans rfl
      have c1 := hc9.1
      have c2 := hc9.2
      clear hq0 hq1 hrs l0 hc9
      go_loopw [8, 9] (fun v8 v9 wr => ∃ (pos n F : Nat) (col : Int), wr = w3.drewN n ∧ v8 = .int .i64 col ∧ v9 = .int .i64 pos ∧ 0 ≤ col ∧ col ≤ pos ∧ pos ≤ rs.size ∧ Aside0 (rs.size < F + pos ∧ posAt rs c (rs.size + 1) 0 0 = posAt rs c F pos col)) (fun _ v9 _ => rs.size - (intOf v9).toNat)
      case atStart => exact ⟨0, 0, rs.size + 1, 0, rfl, rfl, rfl, by omega, by omega, by omega, ⟨by omega, rfl⟩⟩
      case round =>
        obtain ⟨pos, n, F, col, rfl, rfl, rfl, a1, a2, a3, HA⟩ := hrel
        by_cases hlt : pos < rs.size
        · have w1s := wdt_spec rs pos hlt
          have u1 := uts_spec rs pos
          have u2 := uts_le_wdt rs pos hlt
          have Hlt := Aside0.mk hlt
          have hst : Aside0 (∃ F', F = F' + 1) := ⟨⟨F - 1, by have := HA.out.1; omega⟩⟩
          obtain ⟨F', hF'⟩ := hst.out
          have Hrb := Aside0.mk hrb
          have hcs := Aside0.mk (show posAt rs c (rs.size + 1) 0 0 = _ from by rw [HA.out.2, hF', posAt_step rs c F' pos col hlt])
          have hfu := Aside0.mk (show rs.size < F' + 1 + pos from by have := HA.out.1; omega)
          clear hF' hst HA
          go_wp2_with fail
          refine (Char_calls rs pos (by have := Hrb.out; omega) Hlt.out _).mono ?_
          rintro e w7 ⟨rfl, hDr⟩
          obtain ⟨m, rfl⟩ := hDr.out
          generalize hwd : wdt rs pos = n1 at w1s u2 hcs ⊢
          generalize huq : uts rs pos = u at u1 u2 hcs ⊢
          clear hwd huq hDr
          by_cases hC : c < col + u
          · have d1 : decide (c < col + u) = true := decide_eq_true hC
            have HE : Aside0 (posAt rs c (rs.size + 1) 0 0 = pos) := ⟨by rw [hcs.out, if_pos (by omega)]⟩
            clear hC hcs
            go_wp2
            go_ret
            exact ⟨by rw [HE1.out, HE.out]; rfl, pw_below_drewN HB3.out _⟩
          · have d1 : decide (c < col + u) = false := decide_eq_false hC
            have HE : Aside0 (rs.size < F' + (pos + n1) ∧ posAt rs c (rs.size + 1) 0 0 = posAt rs c F' (pos + n1) (col + u)) := ⟨by have := hfu.out; omega, by rw [hcs.out, if_neg (by omega)]⟩
            clear hC hcs
            go_wp2
            go_roundw
            case rel => exact ⟨pos + n1, _, F', col + u, rfl, rfl, by simp, by omega, by omega, by omega, HE⟩
            case measure => simp [intOf]; omega
        · have HE : Aside0 (posAt rs c (rs.size + 1) 0 0 = pos) := ⟨by rw [HA.out.2, posAt_end rs c F pos col hlt]⟩
          clear HA
          go_wp2
          go_ret
          exact ⟨by rw [HE1.out, HE.out]; rfl, pw_below_drewN HB3.out _⟩
    · have ok : rowOk t r = false := by unfold rowOk; simp; omega
      rw [show atW t r c = t.size by unfold atW; rw [if_neg h0, if_pos (by omega)]]
      clear h0
      go_enter Try.func26, Try.ntmps26
      go_wp2_with fail
      refine (refRow_calls t r _ HS.out).mono ?_
      rintro e w1 ⟨rfl, hB⟩
      rw [ok]
      have HB1 := Aside0.mk (below_then (below_alloc (Below.refl w.heap.size w) _) (by simp) hB)
      clear hB ok
      go_wp2
      go_ret
      exact ⟨rfl, below_alloc HB1.out _⟩
end Go.Proofs.Ytgefbbdahhoglaa.PT
