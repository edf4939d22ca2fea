/- trellisref22.Folds: the document's folds: of each row the furthest. -/
import Derived.Test.YtknagjiipelfnaaOFolds
namespace Go.Proofs.Ytknagjiipelfnaa.SO
open Go.RowKit Go.WideShapes Go.ChangeShapes Go.Proofs.YtknagjiipelfnaaW.PrintWords Go.Proofs.YtknagjiipelfnaaW.PrintLast Go.Proofs.YtknagjiipelfnaaW.PrintMore Go.Proofs.Ytknagjiipelfnaa.PAll
set_option linter.unusedVariables false
open Go.Proofs.Ytknagjiipelfnaa.OL (rightF okN langC RRight_calls RI RI_made mk_run mk0)
attribute [local go_sem] field_pos build82
theorem pos_calls (text : ByteArray) (a : Int) (w : World) (hs : text.size ≤ 1048576) :
    Calls Try.prog 79 #[.string text, .int .i64 a] w fun e w' => e = .returned (.agg #[.int .i64 (PT.rowN text (PT.clampN text a)), .int .i64 ((PT.clampN text a : Int) - PT.begN text (PT.clampN text a))]) ∧ Below w.heap.size w w' :=
  trellisref2_Pos.calls (text.size + 1) text a _ _ w (PT.ref_pos text (by omega) a (Nat.lt_succ_self _))
theorem nrows_calls (text : ByteArray) (w : World) (hs : text.size ≤ 1048576) :
    Calls Try.prog 56 #[.string text] w fun e w' => e = .returned (.int .i64 ((PT.rowN text text.size + 1 : Nat) : Int)) ∧ Below w.heap.size w w' :=
  (trellisref2_Rows.calls (text.size + 1) text _ w (PT.ref_rows text (by omega) (Nat.lt_succ_self _))).mono fun e w' ⟨h1, h2⟩ => ⟨h1, h2.below⟩
set_option maxRecDepth 100000 in
set_option maxHeartbeats 4000000 in
theorem rows_calls (text : ByteArray) (x : S50) (w : World) (hs : text.size ≤ 1048576) (hx : 0 ≤ x.f3 ∧ x.f3 ≤ x.f4 ∧ x.f4 ≤ (text.size : Int)) :
    Calls Try.prog 58 #[.agg #[.string x.f0, .bool x.f1, .string x.f2, .int .i64 x.f3, .int .i64 x.f4, .int .i64 x.f5, .int .i64 x.f6], .string text] w fun e w' => e = .returned (.tuple #[.int .i64 (rowsF text x).f0, .int .i64 (rowsF text x).f1]) ∧ Below w.heap.size w w' := by
  obtain ⟨oN, hoN⟩ : ∃ o : Obj, o = .cells #[.string x.f0, .bool x.f1, .string x.f2, .int .i64 x.f3, .int .i64 x.f4, .int .i64 x.f5, .int .i64 x.f6] 50 (0, 0) := ⟨_, rfl⟩
  have hba : Below w.heap.size w (w.alloc oN) := below_alloc (Below.refl _ _) _
  have KN := Aside0.mk ((heap_alloc_new w oN).trans (congrArg some hoN))
  have HB := Aside0.mk hba
  have HS := Aside0.mk hs
  have HX := Aside0.mk hx
  have e5 : IntKind.i64.wrap (x.f4 - 1) = x.f4 - 1 := (i64_w _).trans (w64 (by omega) (by omega))
  clear hba hs hx
  go_enter Try.func58, Try.ntmps58
  go_upto_region 1 with fail
  rw [← hoN]
  clear hoN
  obtain ⟨gN, hgN⟩ : ∃ g, w.heap.size = g := ⟨_, rfl⟩
  generalize w.alloc oN = w1 at KN HB ⊢
  rw [hgN] at KN ⊢
  clear hgN
  have n3 : w1.cell? ⟨gN, 3, none⟩ = some (.int .i64 x.f3) := (blk_cell KN.out 3).trans rfl
  have n4 : w1.cell? ⟨gN, 4, none⟩ = some (.int .i64 x.f4) := (blk_cell KN.out 4).trans rfl
  go_wp2_with fail
  refine (pos_calls text x.f3 w1 HS.out).mono ?_
  rintro e w2 ⟨rfl, hB⟩
  have HB2 := Aside0.mk (below_then HB.out HB.out.size hB)
  have KN2 := Aside0.mk ((hB.block _ (blk_lt KN.out)).trans KN.out)
  clear hB HB KN n3 n4
  have n3 : w2.cell? ⟨gN, 3, none⟩ = some (.int .i64 x.f3) := (blk_cell KN2.out 3).trans rfl
  have n4 : w2.cell? ⟨gN, 4, none⟩ = some (.int .i64 x.f4) := (blk_cell KN2.out 4).trans rfl
  obtain ⟨r0, hr0⟩ : ∃ r : Int, (PT.rowN text (PT.clampN text x.f3) : Int) = r := ⟨_, rfl⟩
  rw [hr0]
  have HR0 := Aside0.mk hr0
  clear hr0
  by_cases he : x.f4 = x.f3
  · have d1 : decide (x.f4 = x.f3) = true := decide_eq_true he
    have d2 : (x.f4 == x.f3) = true := beq_iff_eq.2 he
    have HE : Aside0 (rowsF text x = ⟨r0, r0⟩) := ⟨by unfold rowsF; rw [if_pos he, HR0.out]⟩
    have HE2 := Aside0.mk he
    clear he
    go_wp2_with fail
    go_ret2
    exact ⟨by rw [HE.out]; rfl, HB2.out⟩
  · have d1 : decide (x.f4 = x.f3) = false := decide_eq_false he
    have d2 : (x.f4 == x.f3) = false := beq_eq_false_iff_ne.2 he
    obtain ⟨r1, hr1⟩ : ∃ r : Int, (PT.rowN text (PT.clampN text (x.f4 - 1)) : Int) = r := ⟨_, rfl⟩
    have HE : Aside0 (rowsF text x = ⟨r0, r1⟩) := ⟨by unfold rowsF; rw [if_neg he, HR0.out, hr1]⟩
    have HR1 := Aside0.mk hr1
    clear he hr1
    go_wp2_with fail
    refine (pos_calls text (x.f4 - 1) w2 HS.out).mono ?_
    rintro e w3 ⟨rfl, hB⟩
    have HB3 := Aside0.mk (below_then HB2.out HB2.out.size hB)
    rw [HR1.out]
    clear hB HB2 KN2 n3 n4
    go_wp2_with fail
    go_ret2
    exact ⟨by rw [HE.out]; rfl, HB3.out⟩
/-- What lies about in the first loop. -/
structure FaS (w wr : World) (gL gM R : Nat) (vF vM : Value) (far : List Int) : Prop where
  kl : wr.heap[gL]? = some (.cells (langC vF vM) 45 (0, 0))
  r : RI wr w.heap.size (.slice (some ⟨gM, 0, none⟩) R R) far
  ne : gL ≠ gM
  lo : w.heap.size ≤ gM
  b : Below w.heap.size w wr
theorem FaS.moved {w wr w2 : World} {gL gM R : Nat} {vF vM : Value} {far : List Int} (h : FaS w wr gL gM R vF vM far) (hb : Below wr.heap.size wr w2) : FaS w w2 gL gM R vF vM far :=
  ⟨(hb.block _ (blk_lt h.kl)).trans h.kl, h.r.below hb, h.ne, h.lo, below_then h.b h.b.size hb⟩
theorem FaS.put {w wr : World} {gL gM R : Nat} {vF vM : Value} {far : List Int} (h : FaS w wr gL gM R vF vM far) (a : Nat) (x : Int) : FaS w (wr.setCell ⟨gM, a, none⟩ (.int .i64 x)) gL gM R vF vM (far.set a x) :=
  ⟨blk_far h.kl (p := ⟨gM, a, none⟩) h.ne _, (h.r.put a x).1, h.ne, h.lo, h.b.setCell h.lo _⟩
theorem FaS.cell {w wr : World} {gL gM R : Nat} {vF vM : Value} {far : List Int} (h : FaS w wr gL gM R vF vM far) (a : Nat) (ha : a < far.length) : wr.cell? ⟨gM, a, none⟩ = some (.int .i64 (rd far (a : Int))) ∧ wr.frozen? ⟨gM, a, none⟩ = false := by
  refine h.r.at_ a ha _ ?_
  unfold rd
  rw [Int.toNat_natCast, List.getD_eq_getElem?_getD, List.getElem?_eq_getElem ha]
  rfl
set_option maxRecDepth 100000 in
set_option maxHeartbeats 16000000 in
theorem RFolds_calls (FA A : Option Addr) (cf c : Nat) (vM : Value) (fs : List ByteArray) (t : List S50) (text : ByteArray) (w : World) (hr : Kd.C k50 w A t.length t) (hc : t.length ≤ c) (hl : t.length ≤ 1048576)
    (hf : Kd.C Kd.string w FA fs.length fs) (hfc : fs.length ≤ cf) (hfl : fs.length ≤ 1048576) (hts : text.size ≤ 1048576) :
    Calls Try.prog 28 #[.agg (langC (.slice FA fs.length cf) vM), .slice A t.length c, .string text] w fun e w' => ∃ v, e = .returned v ∧ RF w' w.heap.size v (foldsA fs t text) ∧ Below w.heap.size w w' := by
  obtain ⟨oL, hoL⟩ : ∃ o : Obj, o = .cells (langC (.slice FA fs.length cf) vM) 45 (0, 0) := ⟨_, rfl⟩
  have hba : Below w.heap.size w (w.alloc oL) := below_alloc (Below.refl _ _) _
  have KL := Aside0.mk ((heap_alloc_new w oL).trans (congrArg some hoL))
  have HB := Aside0.mk hba
  have HRw := Aside0.mk hr
  have HFw := Aside0.mk hf
  have HP := Aside0.mk (And.intro hc hl)
  have HPF := Aside0.mk (And.intro hfc hfl)
  have HTX := Aside0.mk hts
  clear hba hr hc hl hf hfc hfl hts
  go_enter Try.func28, Try.ntmps28
  go_upto_region 1 with fail
  rw [← hoL]
  clear hoL
  obtain ⟨gL, hgL⟩ : ∃ g, w.heap.size = g := ⟨_, rfl⟩
  generalize w.alloc oL = w0 at KL HB ⊢
  rw [hgL] at KL ⊢
  have GL := Aside0.mk hgL
  clear hgL
  go_wp2_with fail
  refine (RRight_calls A c t text w0 (Kd.C_below HRw.out HB.out) HP.out.1 HP.out.2).mono ?_
  rintro e w1 ⟨rfl, hB⟩
  have HB1 := Aside0.mk (below_then HB.out HB.out.size hB)
  have KL1 := Aside0.mk ((hB.block _ (blk_lt KL.out)).trans KL.out)
  clear hB HB KL
  cases hR : rightF t text with
  | false =>
    have HRT := Aside0.mk hR
    clear hR
    go_wp2_with fail
    go_ret
    exact ⟨_, rfl, by unfold foldsA; rw [HRT.out]; exact Kd.R_nil _ _ _ _ _, HB1.out⟩
  | true =>
    have HRT := Aside0.mk hR
    clear hR
    go_wp2_with fail
    refine (nrows_calls text w1 HTX.out).mono ?_
    obtain ⟨R, hR⟩ : ∃ R, PT.rowN text text.size + 1 = R := ⟨_, rfl⟩
    rw [hR]
    rintro e w2 ⟨rfl, hB⟩
    have HR := Aside0.mk hR
    have hrl : R ≤ 1048577 := by have := PT.rowN_le text text.size; have := HTX.out; omega
    have hmk := mk_run R (by omega)
    have KL2 := (hB.block _ (blk_lt KL1.out)).trans KL1.out
    have hb2 := below_then HB1.out HB1.out.size hB
    obtain ⟨oM, hoM⟩ : ∃ o : Obj, o = .cells (mk0 R) 3 (0, 0) := ⟨_, rfl⟩
    have HFA : Aside0 (FaS w (w2.alloc oM) gL w2.heap.size R (.slice FA fs.length cf) vM (farL fs text R (t.take 0))) := ⟨by
      have hb3 : Below w2.heap.size w2 (w2.alloc oM) := below_alloc (Below.refl _ _) _
      refine ⟨(hb3.block _ (blk_lt KL2)).trans KL2, ?_, by have := blk_lt KL2; omega, hb2.size, below_then hb2 hb2.size hb3⟩
      rw [List.take_zero]
      exact RI_made hb2.size (by omega) ((heap_alloc_new w2 oM).trans (congrArg some hoM))⟩
    have HRL := Aside0.mk hrl
    clear hB hR hrl KL2 hb2 HB1 KL1
    go_upto_region 5 with fail
    rw [← hoM]
    clear hoM hmk
    obtain ⟨gM, hgM⟩ : ∃ g, w2.heap.size = g := ⟨_, rfl⟩
    generalize w2.alloc oM = w3 at HFA ⊢
    rw [hgM] at HFA ⊢
    clear hgM
    go_upto_block 0 with fail
    go_cut [9, 10, 11, 12] (fun v9 v10 v11 v12 wx => ∃ (u1 u2 u3 u4 : Value), v9 = u1 ∧ v10 = u2 ∧ v11 = u3 ∧ v12 = u4 ∧ Aside0 (FaS w wx gL gM R (.slice FA fs.length cf) vM (farL fs text R t)))
    case first =>
      -- <A1
      go_wp2_with fail
      go_loopw [9, 10, 11, 12] (fun v9 v10 v11 v12 wr => ∃ (i : Nat) (u1 u2 u3 : Value), v10 = u1 ∧ v11 = u2 ∧ v12 = u3 ∧ v9 = .int .i64 (i : Int) ∧ i ≤ t.length ∧ Aside0 (FaS w wr gL gM R (.slice FA fs.length cf) vM (farL fs text R (t.take i)))) (fun v9 _ _ _ _ => t.length - (intOf v9).toNat)
      case atStart => exact ⟨0, _, _, _, rfl, rfl, rfl, rfl, Nat.zero_le _, HFA⟩
      case round =>
        obtain ⟨i, u1, u2, u3, rfl, rfl, rfl, rfl, hi, HFr⟩ := hrel
        clear HFA
        by_cases hlt : i < t.length
        · have e1 : decide ((i : Int) < (t.length : Int)) = true := decide_eq_true (by omega)
          have e2 : decide (i < t.length) = true := decide_eq_true hlt
          have e3 : (i : Int) < (t.length : Int) := by omega
          have hl := HP.out.2
          have hc := HP.out.1
          have e4 : IntKind.i64.wrap ((i : Int) + 1) = (i : Int) + 1 := (i64_w _).trans (w64 (by omega) (by omega))
          obtain ⟨ad, hA, y0, -⟩ := at_T50 (Kd.C_below HRw.out HFr.out.b) (i : Int) (by omega) (by omega)
          have HAT : Aside0 (∀ w', Below w.heap.size w w' → k50.C w' (some ad) t.length t) := ⟨fun w' hw' => by have h := Kd.C_below HRw.out hw'; rwa [hA] at h⟩
          rw [Int.toNat_natCast] at y0
          have hin := right_in HRT.out _ (mem_rd hlt)
          have hsu := farL_succ (fs := fs) (text := text) (R := R) hlt
          obtain ⟨x, hx⟩ : ∃ x, rd_T50 t (i : Int) = x := ⟨_, rfl⟩
          rw [hx] at y0 hin hsu
          obtain ⟨far, hfar⟩ : ∃ far, farL fs text R (t.take i) = far := ⟨_, rfl⟩
          have hfl : far.length = R := by rw [← hfar]; exact farL_len
          rw [hfar] at hsu HFr
          have HLT := Aside0.mk hlt
          have HIN := Aside0.mk hin
          have HSU := Aside0.mk hsu
          have HX := Aside0.mk hx
          have HFL := Aside0.mk hfl
          have hc0 := HP.out
          subst hA
          clear hx hi hlt hc hl hin hsu hfar hfl hc0
          have l6 : wr.cell? ⟨gL, 9, none⟩ = some (.slice FA fs.length cf) := (blk_cell HFr.out.kl 9).trans rfl
          go_upto_region 8 with fail
          go_cut [10] (fun v10 wx => v10 = .bool (inF fs x.f0) ∧ Aside0 (Below wr.heap.size wr wx))
          case first =>
            -- <A2
            go_region_held3 (fun w' => w'.cell? ⟨gL, 9, none⟩ = some (.slice FA fs.length cf) ∧ w'.cell? (ad.add (i * 7)) = some (.string x.f0))
              (first
                | exact ⟨by assumption, by assumption⟩
                | go_keep)
              (first
                | (go_at_call 57
                   refine (in_calls FA cf fs x.f0 _ (Kd.C_below HFw.out (below_then HFr.out.b HFr.out.b.size (below_drew (Below.refl _ _)))) HPF.out.1 HPF.out.2).mono ?_
                   rintro e w4 ⟨rfl, hB0⟩
                   have hB : Below wr.heap.size wr w4 := Below.trans (below_drew (Below.refl _ _)) hB0
                   have HF4 := Aside0.mk (HFr.out.moved hB)
                   have HB4 := Aside0.mk hB
                   have m6 : w4.cell? ⟨gL, 9, none⟩ = some (.slice FA fs.length cf) := (blk_cell HF4.out.kl 9).trans rfl
                   have m0 : w4.cell? (ad.add (i * 7)) = some (.string x.f0) := pw_cell_below hB y0
                   clear hB hB0))
            all_goals
             (go_wp2_with fail
              go_meet
              case rel => exact ⟨rfl, HB4⟩)
            -- A2>
          case rest =>
          obtain ⟨rfl, HBc⟩ := hcut
          obtain ⟨w4, hw4⟩ : ∃ u, wc = u := ⟨_, rfl⟩
          rw [hw4] at HBc ⊢
          have HF4 := Aside0.mk (HFr.out.moved HBc.out)
          clear hw4 wc HFr HBc y0 l6
          obtain ⟨ad2, hA2, y0, y1, y2, y3, y4, y5, y6⟩ := at_T50 (HAT.out w4 HF4.out.b) (i : Int) (by omega) (by omega)
          injection hA2 with hA2
          subst hA2
          rw [Int.toNat_natCast, HX.out] at y0 y1 y2 y3 y4 y5 y6
          cases hN : x.f1 with
          | false =>
            have HSK : Aside0 (farL fs text R (t.take (i + 1)) = far) := ⟨by
              rw [HSU.out]
              unfold farStep keepF
              rw [hN]
              rfl⟩
            rw [hN] at y1
            clear hN
            -- <A3
            go_wp2_with fail
            go_roundw
            case measure => first | omega | (simp [intOf]; have := HLT.out; omega)
            case rel => exact ⟨i + 1, _, _, _, rfl, rfl, rfl, by congr 1, by have := HLT.out; omega, ⟨by rw [HSK.out]; exact HF4.out⟩⟩
            -- A3>
          | true =>
            have HNM := Aside0.mk hN
            have y1b := y1
            rw [hN] at y1
            cases hC : inF fs x.f0 with
            | false =>
              have HSK : Aside0 (farL fs text R (t.take (i + 1)) = far) := ⟨by
                rw [HSU.out]
                unfold farStep keepF
                rw [hC, Bool.and_false]
                rfl⟩
              clear hC hN y1b
              -- <A4
              go_wp2_with fail
              go_roundw
              case measure => first | omega | (simp [intOf]; have := HLT.out; omega)
              case rel => exact ⟨i + 1, _, _, _, rfl, rfl, rfl, by congr 1, by have := HLT.out; omega, ⟨by rw [HSK.out]; exact HF4.out⟩⟩
              -- A4>
            | true =>
              have HCC := Aside0.mk hC
              obtain ⟨a, b, hab, ha, hb⟩ := rowsF_nat text x
              have HAB := Aside0.mk hab
              have HA : Aside0 (a < R) := ⟨by have := HR.out; omega⟩
              clear hC hN y1b ha hb
              -- <A5
              as_aux_lemma =>
                go_wp2_with fail
                have hrc := rows_calls text x w4 HTX.out HIN.out
                rw [HNM.out, HAB.out] at hrc
                refine hrc.mono ?_
                clear hrc
                rintro e w5 ⟨rfl, hB⟩
                have HF5 := Aside0.mk (HF4.out.moved hB)
                clear hB hab y0 y1 y2 y3 y4 y5 y6 HF4
                have e5 : (a : Int) < (R : Int) := by have := HA.out; omega
                obtain ⟨z0, z1⟩ := HF5.out.cell a (by rw [HFL.out]; exact HA.out)
                obtain ⟨v, hv⟩ : ∃ v, rd far (a : Int) = v := ⟨_, rfl⟩
                rw [hv] at z0
                by_cases hg : v < (b : Int)
                · have d1 : decide (v < (b : Int)) = true := decide_eq_true hg
                  have HSK : Aside0 (farL fs text R (t.take (i + 1)) = far.set a (b : Int)) := ⟨by
                    rw [HSU.out]
                    unfold farStep keepF
                    rw [HNM.out, HCC.out, HAB.out]
                    simp only [Int.toNat_natCast]
                    rw [hv, d1]
                    rfl⟩
                  have HF6 := Aside0.mk (HF5.out.put a (b : Int))
                  clear hv hg
                  go_wp2_with fail
                  go_roundw
                  case measure => first | omega | (simp [intOf]; have := HLT.out; omega)
                  case rel => exact ⟨i + 1, _, _, _, rfl, rfl, rfl, by congr 1, by have := HLT.out; omega, ⟨by rw [HSK.out]; exact HF6.out⟩⟩
                · have d1 : decide (v < (b : Int)) = false := decide_eq_false hg
                  have HSK : Aside0 (farL fs text R (t.take (i + 1)) = far) := ⟨by
                    rw [HSU.out]
                    unfold farStep keepF
                    rw [HNM.out, HCC.out, HAB.out]
                    simp only [Int.toNat_natCast]
                    rw [hv, d1]
                    rfl⟩
                  clear hv hg
                  go_wp2_with fail
                  go_roundw
                  case measure => first | omega | (simp [intOf]; have := HLT.out; omega)
                  case rel => exact ⟨i + 1, _, _, _, rfl, rfl, rfl, by congr 1, by have := HLT.out; omega, ⟨by rw [HSK.out]; exact HF5.out⟩⟩
              -- A5>
        · have e1 : decide ((i : Int) < (t.length : Int)) = false := decide_eq_false (by omega)
          have e2 : decide (i < t.length) = false := decide_eq_false hlt
          obtain rfl : i = t.length := by omega
          have HF9 : Aside0 (FaS w wr gL gM R (.slice FA fs.length cf) vM (farL fs text R t)) := ⟨by have h := HFr.out; rwa [List.take_of_length_le (Nat.le_refl _)] at h⟩
          clear hi hlt
          -- <A9
          go_wp2_with fail
          go_meet
          case rel => exact ⟨_, _, _, _, rfl, rfl, rfl, rfl, HF9⟩
          -- A9>
      -- A1>
    case rest =>
    -- <B1
    as_aux_lemma =>
      obtain ⟨u1, u2, u3, u4, rfl, rfl, rfl, rfl, HFc⟩ := hcut
      obtain ⟨w4, hw4⟩ : ∃ u, wc = u := ⟨_, rfl⟩
      rw [hw4] at HFc ⊢
      obtain ⟨far, hfar⟩ : ∃ far, farL fs text R t = far := ⟨_, rfl⟩
      have hfl : far.length = R := by rw [← hfar]; exact farL_len
      rw [hfar] at HFc
      have HFL := Aside0.mk hfl
      have HFE : Aside0 (foldsA fs t text = outR far R) := ⟨by
        unfold foldsA foldsF
        rw [if_pos HRT.out, HR.out, hfar]⟩
      clear hw4 wc HFA hfar hfl
      go_wp2_with fail
      go_loopw [13, 14] (fun v13 v14 wr => ∃ (i : Nat), v14 = .int .i64 (i : Int) ∧ i ≤ R ∧ Aside0 (FoS w4 wr v13 (outR far i))) (fun _ v14 _ => R - (intOf v14).toNat)
      case atStart => exact ⟨0, rfl, Nat.zero_le _, ⟨FoS.nil _⟩⟩
      case round =>
        obtain ⟨i, rfl, hi, HFr⟩ := hrel
        by_cases hlt : i < R
        · have e1 : decide ((i : Int) < (R : Int)) = true := decide_eq_true (by omega)
          have e2 : decide (i < R) = true := decide_eq_true hlt
          have e3 : (i : Int) < (R : Int) := by omega
          have hrl := HRL.out
          have e4 : IntKind.i64.wrap ((i : Int) + 1) = (i : Int) + 1 := (i64_w _).trans (w64 (by omega) (by omega))
          have z0 : wr.cell? ⟨gM, i, none⟩ = some (.int .i64 (rd far (i : Int))) := pw_cell_below HFr.out.b (HFc.out.cell i (by rw [HFL.out]; exact hlt)).1
          have hsu := outR_succ far i
          have hol := outR_len far i
          obtain ⟨v, hv⟩ : ∃ v, rd far (i : Int) = v := ⟨_, rfl⟩
          rw [hv] at z0 hsu
          have HLT := Aside0.mk hlt
          have HOL := Aside0.mk hol
          clear hi hlt hrl hol hv
          by_cases hg : (i : Int) < v
          · have d1 : decide ((i : Int) < v) = true := decide_eq_true hg
            rw [if_pos hg] at hsu
            have HSU := Aside0.mk hsu
            clear hg hsu
            -- <B2
            go_wp2_with (first | ((with_reducible refine gate_builtin (b := .append) (xs := #[.tmp 78, .tmp 85]) rfl ?_); at_builtin; refine RF_appL (w0 := w4) w4.heap.size rfl (.tmp 78) (.tmp 85) rfl Try.underlying77 info82z _ (outR far i) ⟨(i : Int), v⟩ _ 1 rfl rfl ?aO (lit82 (heap_alloc_new _ _)) ?aB ?aS ?aL ?_; (case aO => exact (HFr.out.moved (below_alloc (Below.refl _ _) _)).o); (case aB => exact (HFr.out.moved (below_alloc (Below.refl _ _) _)).b); (case aS => exact (HFr.out.moved (below_alloc (Below.refl _ _) _)).b.size); (case aL => have := HOL.out; have := HLT.out; have := HRL.out; omega); intro v1 w9 ho hb hg; have HF9 : Aside0 (FoS w4 w9 v1 (outR far (i + 1))) := ⟨⟨by rw [HSU.out]; exact ho, hb⟩⟩; clear ho hb hg))
            go_roundw
            case measure => first | omega | (simp [intOf]; have := HLT.out; omega)
            case rel => exact ⟨i + 1, by congr 1, by have := HLT.out; omega, HF9⟩
            -- B2>
          · have d1 : decide ((i : Int) < v) = false := decide_eq_false hg
            rw [if_neg hg, List.append_nil] at hsu
            have HSU := Aside0.mk hsu
            clear hg hsu
            -- <B4
            go_wp2_with fail
            go_roundw
            case measure => first | omega | (simp [intOf]; have := HLT.out; omega)
            case rel => exact ⟨i + 1, by congr 1, by have := HLT.out; omega, ⟨by rw [HSU.out]; exact HFr.out⟩⟩
            -- B4>
        · have e1 : decide ((i : Int) < (R : Int)) = false := decide_eq_false (by omega)
          have e2 : decide (i < R) = false := decide_eq_false hlt
          obtain rfl : i = R := by omega
          have HF9 : Aside0 (FoS w4 wr u13 (foldsA fs t text)) := ⟨by rw [HFE.out]; exact HFr.out⟩
          clear hi hlt
          -- <B3
          go_wp2_with fail
          go_ret
          exact ⟨_, rfl, Kd.R_lower HF9.out.o HFc.out.b.size, below_then HFc.out.b HFc.out.b.size HF9.out.b⟩
          -- B3>
    -- B1>
end Go.Proofs.Ytknagjiipelfnaa.SO
