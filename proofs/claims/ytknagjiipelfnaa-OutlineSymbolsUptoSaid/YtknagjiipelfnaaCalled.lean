/- trellisref22.called: the place of the child that says what a node is called; -1: none. -/
import Derived.Test.YtknagjiipelfnaaRKids
namespace Go.Proofs.Ytknagjiipelfnaa.OL
open Go.RowKit Go.WideShapes Go.ChangeShapes Go.Proofs.YtknagjiipelfnaaW.PrintWords Go.Proofs.YtknagjiipelfnaaW.PrintLast Go.Proofs.YtknagjiipelfnaaW.PrintMore Go.Proofs.Ytknagjiipelfnaa.PAll
set_option linter.unusedVariables false

set_option maxRecDepth 100000 in
set_option maxHeartbeats 8000000 in
theorem called_calls (vF : Value) (A M : Option Addr) (c cm i : Nat) (t : List S50) (F : List S143) (ms : List Mk) (w : World) (hF : Fo t 0 F) (hi : i < t.length) (hr : Kd.C k50 w A t.length t) (hc : t.length ≤ c) (hl : t.length ≤ 1048576)
    (hm : Kd.C k129 w M ms.length ms) (hmc : ms.length ≤ cm) (hml : ms.length ≤ 1048576) :
    Calls Try.prog 37 #[.agg (langC vF (.slice M ms.length cm)), .slice A t.length c, .int .i64 (i : Int)] w fun e w' => e = .returned (.int .i64 ((symK ms t F i).getD (-1))) ∧ Below w.heap.size w w' := by
  have HF := Aside0.mk hF
  have HRw := Aside0.mk hr
  have HMw := Aside0.mk hm
  have HP := Aside0.mk (And.intro hc (And.intro hl (And.intro hi (And.intro hmc hml))))
  obtain ⟨oL, hoL⟩ : ∃ o : Obj, o = .cells (langC vF (.slice M ms.length cm)) 45 (0, 0) := ⟨_, rfl⟩
  have hba : Below w.heap.size w (w.alloc oL) := below_alloc (Below.refl _ _) _
  have HB := Aside0.mk hba
  have KL := Aside0.mk ((heap_alloc_new w oL).trans (congrArg some hoL))
  clear hF hr hm hc hl hmc hml hba
  go_enter Try.func37, Try.ntmps37
  go_upto_region 1 with fail
  rw [← hoL]
  clear hoL
  obtain ⟨gL, hgL⟩ : ∃ g, w.heap.size = g := ⟨_, rfl⟩
  generalize w.alloc oL = w0 at KL HB ⊢
  rw [hgL] at KL ⊢
  clear hgL
  obtain ⟨ad, hA, y0, y1, y2, y3, y4, y5, y6⟩ := at_T50 (Kd.C_below HRw.out HB.out) (i : Int) (by omega) (by omega)
  rw [Int.toNat_natCast] at y1
  have e0 : (i : Int) < (t.length : Int) := by omega
  obtain ⟨b, hb⟩ : ∃ b, (rd_T50 t (i : Int)).f1 = b := ⟨_, rfl⟩
  rw [hb] at y1
  have HBN := Aside0.mk hb
  subst hA
  clear y0 y2 y3 y4 y5 y6 hb hi
  cases b with
  | false =>
    go_wp2_with fail
    go_ret
    exact ⟨by unfold symK; rw [HBN.out]; rfl, HB.out⟩
  | true =>
    go_wp2_with fail
    obtain ⟨nm, hnm⟩ : ∃ n, (rd_T50 t (i : Int)).f0 = n := ⟨_, rfl⟩
    have HNM := Aside0.mk hnm
    clear hnm y1
    go_loopw [7, 8, 9] (fun v7 v8 v9 wr => ∃ j : Nat, v7 = .int .i64 (j : Int) ∧ j ≤ ms.length ∧ Aside0 (idxM nm ms 0 = idxM nm (ms.drop j) j) ∧ Aside0 (Below w0.heap.size w0 wr)) (fun v7 _ _ _ => ms.length - (intOf v7).toNat)
    case atStart => exact ⟨0, rfl, by omega, ⟨rfl⟩, ⟨Below.refl _ _⟩⟩
    case round =>
      obtain ⟨j, rfl, hj, HV, HBr⟩ := hrel
      have HB2 := Aside0.mk (below_then HB.out HB.out.size HBr.out)
      have KLr := Aside0.mk ((HBr.out.block _ (blk_lt KL.out)).trans KL.out)
      have l10 : wr.cell? ⟨gL, 10, none⟩ = some (.slice M ms.length cm) := (blk_cell KLr.out 10).trans rfl
      by_cases hlt : j < ms.length
      · have e1 : decide ((j : Int) < (ms.length : Int)) = true := decide_eq_true (by omega)
        have e2 : decide (j < ms.length) = true := decide_eq_true hlt
        have e3 : (j : Int) < (ms.length : Int) := by omega
        have hl := HP.out.2.2.2.2
        have e4 : IntKind.i64.wrap ((j : Int) + 1) = (j : Int) + 1 := (i64_w _).trans (w64 (by omega) (by omega))
        obtain ⟨adm, hAm, x0, x1⟩ := at_Mk (Kd.C_below HMw.out HB2.out) (j : Int) (by omega) (by omega)
        rw [Int.toNat_natCast] at x0 x1
        have hdr : ms.drop j = rdM ms j :: ms.drop (j + 1) := by
          rw [List.drop_eq_getElem_cons hlt]
          congr 1
          unfold rdM
          rw [List.getD_eq_getElem?_getD, List.getElem?_eq_getElem hlt]
          rfl
        obtain ⟨m, hm⟩ : ∃ m, rdM ms j = m := ⟨_, rfl⟩
        rw [hm] at x0 x1 hdr
        rw [hdr] at HV
        have HM := Aside0.mk hm
        obtain ⟨ad2, hA2, y0, y1, y2, y3, y4, y5, y6⟩ := at_T50 (Kd.C_below HRw.out HB2.out) (i : Int) (by omega) (by omega)
        injection hA2 with hA2
        subst hA2
        rw [Int.toNat_natCast, HNM.out] at y0
        have HLT := Aside0.mk hlt
        subst hAm
        clear hj hlt hdr hm y1 y2 y3 y4 y5 y6
        obtain ⟨b, hb⟩ : ∃ b, (m.1.toList == nm.toList) = b := ⟨_, rfl⟩
        have HV2 : Aside0 (idxM nm ms 0 = if b then (j : Int) else idxM nm (ms.drop (j + 1)) (j + 1)) := ⟨by rw [HV.out, idxM]; unfold eqT; rw [hb]⟩
        cases b with
        | false =>
          go_upto_region 6 with fail
          go_quiet (fail)
          have HB3 := Aside0.mk (pw_below_drewN HBr.out nq)
          go_wp2_with fail
          go_roundw
          case measure => first | omega | (simp [intOf]; have := HLT.out; omega)
          case rel => exact ⟨j + 1, by congr 1, by have := HLT.out; omega, ⟨HV2.out⟩, HB3⟩
        | true =>
          go_upto_region 6 with fail
          go_quiet (fail)
          have HB3 := Aside0.mk (pw_below_drewN HB2.out nq)
          have KL3 := Aside0.mk (show (wr.drewN nq).heap[gL]? = _ from KLr.out)
          generalize wr.drewN nq = w3 at HB3 KL3 ⊢
          clear HB2 KLr l10 x0 x1 y0 hb
          go_wp2_with fail
          refine (RKids_calls (some ad) c t F i w3 HF.out HP.out.2.2.1 (Kd.C_below HRw.out HB3.out) HP.out.1 HP.out.2.1).mono ?_
          rintro e w4 ⟨v, rfl, hv, hB⟩
          obtain ⟨Ak, ck, rfl, -, rk⟩ := hv.opens
          have HB4 := Aside0.mk (below_then HB3.out HB3.out.size hB)
          have KL4 := Aside0.mk ((hB.block _ (blk_lt KL3.out)).trans KL3.out)
          have RK := Aside0.mk rk
          have HKI := Aside0.mk (kids_in HF.out HP.out.2.2.1)
          have HKL := Aside0.mk (kids_len HF.out HP.out.2.2.1)
          have HSY : Aside0 (symK ms t F i = kidK t m.2 (kidsF F i)) := ⟨by
            unfold symK
            rw [HBN.out, HNM.out, if_pos rfl, show idxM nm ms 0 = (j : Int) from HV2.out, if_neg (by omega), Int.toNat_natCast, HM.out]⟩
          obtain ⟨ks, hks⟩ : ∃ ks, kidsF F i = ks := ⟨_, rfl⟩
          rw [hks] at RK HKI HKL HSY ⊢
          clear hks hv hB rk HB3 KL3
          go_wp2_with fail
          go_loopw [9] (fun v9 wr => ∃ n : Nat, v9 = .int .i64 (n : Int) ∧ n ≤ ks.length ∧ Aside0 (kidK t m.2 ks = kidK t m.2 (ks.drop n)) ∧ Aside0 (Below w4.heap.size w4 wr)) (fun v9 _ => ks.length - (intOf v9).toNat)
          case atStart => exact ⟨0, rfl, by omega, ⟨rfl⟩, ⟨Below.refl _ _⟩⟩
          case round =>
            obtain ⟨n, rfl, hn, HVn, HBq⟩ := hrel
            have HB5 := Aside0.mk (below_then HB4.out HB4.out.size HBq.out)
            by_cases hlt : n < ks.length
            · have d1 : decide ((n : Int) < (ks.length : Int)) = true := decide_eq_true (by omega)
              have d2 : decide (n < ks.length) = true := decide_eq_true hlt
              have d3 : (n : Int) < (ks.length : Int) := by omega
              have hkl := HKL.out
              have hl2 := HP.out.2.1
              have d4 : IntKind.i64.wrap ((n : Int) + 1) = (n : Int) + 1 := (i64_w _).trans (w64 (by omega) (by omega))
              obtain ⟨adk, hAk, yk⟩ := Kd.at_int (Kd.C_below RK.out HBq.out) (n : Int) (by omega) (by omega)
              rw [Int.toNat_natCast] at yk
              have hget : rd ks (n : Int) = ks[n] := by
                unfold rd
                rw [Int.toNat_natCast, List.getD_eq_getElem?_getD, List.getElem?_eq_getElem hlt]
                rfl
              have hin := HKI.out ks[n] (List.getElem_mem hlt)
              have hdr : ks.drop n = ks[n] :: ks.drop (n + 1) := List.drop_eq_getElem_cons hlt
              rw [hget] at yk
              obtain ⟨k, hkk⟩ : ∃ k : Nat, ks[n] = (k : Int) := ⟨ks[n].toNat, by omega⟩
              rw [hkk] at yk hin hdr
              rw [hdr] at HVn
              have d5 : (k : Int) < (t.length : Int) := hin.2
              obtain ⟨ad3, hA3, y0, y1, y2, y3, y4, y5, y6⟩ := at_T50 (Kd.C_below HRw.out HB5.out) (k : Int) (by omega) (by omega)
              injection hA3 with hA3
              subst hA3
              rw [Int.toNat_natCast] at y2
              obtain ⟨adm2, hAm2, x0, x1⟩ := at_Mk (Kd.C_below HMw.out HB5.out) (j : Int) (by omega) (by omega)
              injection hAm2 with hAm2
              subst hAm2
              rw [Int.toNat_natCast, HM.out] at x1
              have l10 : wr.cell? ⟨gL, 10, none⟩ = some (.slice (some adm) ms.length cm) := (blk_cell ((HBq.out.block _ (blk_lt KL4.out)).trans KL4.out) 10).trans rfl
              obtain ⟨f, hf⟩ : ∃ f, (rd_T50 t (k : Int)).f2 = f := ⟨_, rfl⟩
              rw [hf] at y2
              obtain ⟨b, hb⟩ : ∃ b, (f.toList == m.2.toList) = b := ⟨_, rfl⟩
              have HVk : Aside0 (kidK t m.2 ks = if b then some (k : Int) else kidK t m.2 (ks.drop (n + 1))) := ⟨by
                rw [HVn.out]
                unfold kidK eqT
                rw [List.find?_cons, hf, hb]
                cases b <;> rfl⟩
              have HLN := Aside0.mk hlt
              subst hAk
              clear hn hlt hdr hget hin hkk hf y0 y1 y3 y4 y5 y6 x0
              cases b with
              | true =>
                go_upto_region 11 with fail
                go_quiet (fail)
                have HB6 := Aside0.mk (pw_below_drewN HB5.out nq)
                have yk2 : (wr.drewN nq).cell? (adk.add n) = some (.int .i64 (k : Int)) := yk
                generalize wr.drewN nq = w6 at HB6 yk2 ⊢
                go_wp2_with fail
                go_ret
                exact ⟨by rw [HSY.out, HVk.out]; rfl, HB6.out⟩
              | false =>
                go_upto_region 11 with fail
                go_quiet (fail)
                have HB6 := Aside0.mk (pw_below_drewN HBq.out nq)
                go_wp2_with fail
                go_roundw
                case measure => first | omega | (simp [intOf]; have := HLN.out; omega)
                case rel => exact ⟨n + 1, by congr 1, by have := HLN.out; omega, ⟨HVk.out⟩, HB6⟩
            · have d1 : decide ((n : Int) < (ks.length : Int)) = false := decide_eq_false (by omega)
              have d2 : decide (n < ks.length) = false := decide_eq_false hlt
              obtain rfl : n = ks.length := by omega
              rw [List.drop_length] at HVn
              clear hn hlt
              go_wp2_with fail
              go_ret
              exact ⟨by rw [HSY.out, HVn.out]; rfl, HB5.out⟩
      · have e1 : decide ((j : Int) < (ms.length : Int)) = false := decide_eq_false (by omega)
        have e2 : decide (j < ms.length) = false := decide_eq_false hlt
        obtain rfl : j = ms.length := by omega
        rw [List.drop_length] at HV
        clear hj hlt
        go_wp2_with fail
        go_ret
        exact ⟨by unfold symK; rw [HBN.out, HNM.out, HV.out]; rfl, HB2.out⟩
end Go.Proofs.Ytknagjiipelfnaa.OL
