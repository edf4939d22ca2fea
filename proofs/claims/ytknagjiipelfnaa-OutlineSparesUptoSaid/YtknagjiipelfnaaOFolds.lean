/- outline.Folds: the folds of a list of nodes. -/
import Derived.Test.YtknagjiipelfnaaFoldW
import Derived.Test.YtknagjiipelfnaaStable
import Derived.Test.YtknagjiipelfnaaORight
import Derived.Test.YtknagjiipelfnaaSym
namespace Go.Proofs.Ytknagjiipelfnaa.SO
open Go.RowKit Go.WideShapes Go.ChangeShapes Go.Proofs.YtknagjiipelfnaaW.PrintWords Go.Proofs.YtknagjiipelfnaaW.PrintLast Go.Proofs.YtknagjiipelfnaaW.PrintMore Go.Proofs.Ytknagjiipelfnaa.PAll Go.Proofs.Ytknagjiipelfnaa.Sched
set_option linter.unusedVariables false
open Go.Proofs.Ytknagjiipelfnaa.OL (rightF okN langC ORight_calls)
attribute [local go_sem] max2_int min2_int max_two min_two calmAt calmUpon
theorem field_pos (a b : Int) (w : World) : Sem.run Try.prog (Instr.field 120 (.agg #[.int .i64 a, .int .i64 b]) 0) w = .ok (.int .i64 a) w := by kernel_rfl
theorem build82 (a b : Int) (w : World) : Sem.run Try.prog (Instr.build 82 #[(0, .int .i64 a), (1, .int .i64 b)]) w = .ok (.agg #[.int .i64 a, .int .i64 b]) w := by kernel_rfl
attribute [local go_sem] field_pos build82
def foldsA (fs : List ByteArray) (t : List S50) (text : ByteArray) : List S82 := if rightF t text = true then foldsF fs text t else []
theorem right_in {t : List S50} {text : ByteArray} (h : rightF t text = true) : ∀ x ∈ t, 0 ≤ x.f3 ∧ x.f3 ≤ x.f4 ∧ x.f4 ≤ (text.size : Int) := fun x hx => by
  unfold rightF at h
  rw [Bool.and_eq_true] at h
  have h2 := List.all_eq_true.1 h.1 x hx
  unfold okN at h2
  simp at h2
  omega
theorem mem_rd {t : List S50} {i : Nat} (h : i < t.length) : rd_T50 t (i : Int) ∈ t := by
  unfold rd_T50
  rw [Int.toNat_natCast, List.getD_eq_getElem?_getD, List.getElem?_eq_getElem h]
  exact List.getElem_mem h
set_option maxRecDepth 100000 in
set_option maxHeartbeats 16000000 in
theorem OFolds_calls (FA A : Option Addr) (cf c : Nat) (vM : Value) (fs : List ByteArray) (t : List S50) (text : ByteArray) (w : World) (hr : Kd.C k50 w A t.length t) (hc : t.length ≤ c) (hl : t.length ≤ 1048576) (hk : ∀ x ∈ t, x.f5 ≤ 9223372036854775807)
    (hf : Kd.C Kd.string w FA fs.length fs) (hfc : fs.length ≤ cf) (hfl : fs.length ≤ 1048576) (hts : text.size ≤ 1100000) :
    Calls Try.prog 26 #[.agg (langC (.slice FA fs.length cf) vM), .slice A t.length c, .string text] w fun e w' => ∃ v, e = .returned v ∧ RF w' w.heap.size v (foldsA fs t text) ∧ Below w.heap.size w w' := by
  obtain ⟨oL, hoL⟩ : ∃ o : Obj, o = .cells (langC (.slice FA fs.length cf) vM) 45 (0, 0) := ⟨_, rfl⟩
  have hba : Below w.heap.size w (w.alloc oL) := below_alloc (Below.refl _ _) _
  have KL := Aside0.mk ((heap_alloc_new w oL).trans (congrArg some hoL))
  have HB := Aside0.mk hba
  have HRw := Aside0.mk hr
  have HFw := Aside0.mk hf
  have HP := Aside0.mk (And.intro hc hl)
  have HPF := Aside0.mk (And.intro hfc hfl)
  have HK := Aside0.mk hk
  have HTX := Aside0.mk hts
  clear hba hr hc hl hk hf hfc hfl hts
  go_enter Try.func26, Try.ntmps26
  go_upto_region 1 with fail
  rw [← hoL]
  clear hoL
  obtain ⟨gL, hgL⟩ : ∃ g, w.heap.size = g := ⟨_, rfl⟩
  generalize w.alloc oL = w0 at KL HB ⊢
  rw [hgL] at KL ⊢
  have GL := Aside0.mk hgL
  clear hgL
  go_wp2_with fail
  refine (ORight_calls A c t text w0 (Kd.C_below HRw.out HB.out) HP.out.1 HP.out.2 HK.out).mono ?_
  rintro e w1 ⟨rfl, hB⟩
  have HB1 := Aside0.mk (below_then HB.out HB.out.size hB)
  have KL1 := Aside0.mk ((hB.block _ (blk_lt KL.out)).trans KL.out)
  clear hB HB KL
  cases hR : rightF t text with
  | false =>
    have HRT := Aside0.mk hR
    clear hR
    go_wp2_with fail
    go_ret
    exact ⟨_, rfl, by unfold foldsA; rw [HRT.out]; exact Kd.R_nil _ _ _ _ _, HB1.out⟩
  | true =>
    have HRT := Aside0.mk hR
    clear hR
    go_wp2_with fail
    refine (PT.New_calls text w1 (by have := HTX.out; omega)).mono ?_
    rintro e w3 ⟨gI, rfl, hI, hB⟩
    have HI := Aside0.mk hI
    have HB3 := Aside0.mk (below_then HB1.out HB1.out.size hB)
    have KL3 := Aside0.mk ((hB.block _ (blk_lt KL1.out)).trans KL1.out)
    have HTS : Aside0 (text.size ≤ 4294967296) := ⟨by have := HTX.out; omega⟩
    clear hI hB HB1 KL1
    go_upto_block 0 with fail
    go_cut [8, 10, 11, 24] (fun v8 v10 v11 v24 wx => ∃ (u1 u2 u3 : Value), v10 = u1 ∧ v11 = u2 ∧ v24 = u3 ∧ Aside0 (FoS w3 wx v8 (allF fs text t)))
    case first =>
      -- <A1
      go_wp2_with fail
      go_loopw [8, 10, 11, 24] (fun v8 v10 v11 v24 wr => ∃ (i : Nat) (u1 u2 : Value), v10 = u1 ∧ v11 = u2 ∧ v24 = .int .i64 (i : Int) ∧ i ≤ t.length ∧ Aside0 (FoS w3 wr v8 (allF fs text (t.take i)))) (fun _ _ _ v24 _ => t.length - (intOf v24).toNat)
      case atStart => exact ⟨0, _, _, rfl, rfl, rfl, Nat.zero_le _, ⟨FoS.nil _⟩⟩
      case round =>
        obtain ⟨i, u1, u2, rfl, rfl, rfl, hi, HFr⟩ := hrel
        by_cases hlt : i < t.length
        · have e1 : decide ((i : Int) < (t.length : Int)) = true := decide_eq_true (by omega)
          have e2 : decide (i < t.length) = true := decide_eq_true hlt
          have e3 : (i : Int) < (t.length : Int) := by omega
          have hl := HP.out.2
          have hc := HP.out.1
          have e4 : IntKind.i64.wrap ((i : Int) + 1) = (i : Int) + 1 := (i64_w _).trans (w64 (by omega) (by omega))
          obtain ⟨ad, hA, y0, y1, y2, y3, y4, y5, y6⟩ := at_T50 (Kd.C_below HRw.out (below_then HB3.out HB3.out.size HFr.out.b)) (i : Int) (by omega) (by omega)
          rw [Int.toNat_natCast] at y0 y1 y2 y3 y4 y5 y6
          have hin := right_in HRT.out _ (mem_rd hlt)
          have hsu := allF_succ (fs := fs) (text := text) hlt
          obtain ⟨x, hx⟩ : ∃ x, rd_T50 t (i : Int) = x := ⟨_, rfl⟩
          rw [hx] at y0 y1 y2 y3 y4 y5 y6 hin hsu
          have HLT := Aside0.mk hlt
          have HIN := Aside0.mk hin
          have HSU := Aside0.mk hsu
          have HAL : Aside0 ((allF fs text (t.take i)).length ≤ i) := ⟨by
            unfold allF
            exact Nat.le_trans (List.length_filterMap_le _ _) (by rw [List.length_take]; omega)⟩
          subst hA
          clear hx hi hlt hc hl hin hsu
          obtain ⟨oN, hoN⟩ : ∃ o : Obj, o = .cells #[.string x.f0, .bool x.f1, .string x.f2, .int .i64 x.f3, .int .i64 x.f4, .int .i64 x.f5, .int .i64 x.f6] 50 (0, 0) := ⟨_, rfl⟩
          go_upto_region 8 with fail
          rw [← hoN]
          have KN := Aside0.mk ((heap_alloc_new wr oN).trans (congrArg some hoN))
          have HF2 := Aside0.mk (HFr.out.moved (below_alloc (Below.refl _ _) oN))
          clear hoN HFr y0 y1 y2 y3 y4 y5 y6
          obtain ⟨gN, hgN⟩ : ∃ g, wr.heap.size = g := ⟨_, rfl⟩
          generalize wr.alloc oN = w2 at KN HF2 ⊢
          rw [hgN] at KN ⊢
          clear hgN
          have n0 : w2.cell? ⟨gN, 0, none⟩ = some (.string x.f0) := (blk_cell KN.out 0).trans rfl
          have n1 : w2.cell? ⟨gN, 1, none⟩ = some (.bool x.f1) := (blk_cell KN.out 1).trans rfl
          have KL4 := Aside0.mk ((HF2.out.b.block _ (blk_lt KL3.out)).trans KL3.out)
          have l6 : w2.cell? ⟨gL, 9, none⟩ = some (.slice FA fs.length cf) := (blk_cell KL4.out 9).trans rfl
          have HB2 : Aside0 (Below w3.heap.size w3 w2) := ⟨HF2.out.b⟩
          have HBW : Aside0 (Below w.heap.size w w2) := ⟨below_then HB3.out HB3.out.size HF2.out.b⟩
          cases hN : x.f1 with
          | false =>
            rw [hN] at n1
            have HSK : Aside0 (allF fs text (t.take (i + 1)) = allF fs text (t.take i)) := ⟨by
              rw [HSU.out]
              unfold oneF keepF
              rw [hN]
              simp⟩
            clear hN
            -- <A2
            go_wp2_with fail
            go_roundw
            case measure => first | omega | (simp [intOf]; have := HLT.out; omega)
            case rel => exact ⟨i + 1, _, _, rfl, rfl, by congr 1, by have := HLT.out; omega, ⟨by rw [HSK.out]; exact HF2.out⟩⟩
            -- A2>
          | true =>
            rw [hN] at n1
            have HNM := Aside0.mk hN
            clear hN
            -- <A3
            go_wp2_with fail
            refine (contains_calls FA cf fs x.f0 w2 (Kd.C_below HFw.out HBW.out) HPF.out.1 HPF.out.2).mono ?_
            rintro e w4 ⟨rfl, hB⟩
            have HF4 := Aside0.mk (HF2.out.moved hB)
            have KN4 := Aside0.mk ((hB.block _ (blk_lt KN.out)).trans KN.out)
            have HB4 : Aside0 (Below w3.heap.size w3 w4) := ⟨HF4.out.b⟩
            clear hB n0 n1 l6 KN HF2 HB2 HBW KL4
            cases hC : inF fs x.f0 with
            | false =>
              have HSK : Aside0 (allF fs text (t.take (i + 1)) = allF fs text (t.take i)) := ⟨by
                rw [HSU.out]
                unfold oneF keepF
                rw [hC]
                simp⟩
              clear hC
              -- <A4
              go_wp2_with fail
              go_roundw
              case measure => first | omega | (simp [intOf]; have := HLT.out; omega)
              case rel => exact ⟨i + 1, _, _, rfl, rfl, by congr 1, by have := HLT.out; omega, ⟨by rw [HSK.out]; exact HF4.out⟩⟩
              -- A4>
            | true =>
              have HCC := Aside0.mk hC
              clear hC
              obtain ⟨w2, hw2⟩ : ∃ u, w4 = u := ⟨_, rfl⟩
              rw [hw2] at HF4 KN4 HB4 ⊢
              have HB2 := HB4
              clear hw2 w4 HB4
              have HS3 : Aside0 (∀ w', Below w2.heap.size w2 w' → w'.cell? ⟨gN, 3, none⟩ = some (.int .i64 x.f3) ∧ w'.cell? ⟨gN, 4, none⟩ = some (.int .i64 x.f4)) := ⟨fun w' hw' => by
                have h := (hw'.block _ (blk_lt KN4.out)).trans KN4.out
                exact ⟨(blk_cell h 3).trans rfl, (blk_cell h 4).trans rfl⟩⟩
              have hin := HIN.out
              have htx := HTX.out
              have e5 : IntKind.i64.wrap (x.f4 - 1) = x.f4 - 1 := (i64_w _).trans (w64 (by omega) (by omega))
              obtain ⟨m, hm⟩ : ∃ m : Int, (if x.f4 = x.f3 then x.f3 else x.f4 - 1) = m := ⟨_, rfl⟩
              have e6 : (if x.f3 < x.f4 - 1 then x.f4 - 1 else x.f3) = m := by
                rw [← hm]
                (repeat' split) <;> omega
              have e7 : max x.f3 (x.f4 - 1) = m := by
                rw [← hm]
                split <;> omega
              obtain ⟨f, hf⟩ : ∃ f, rowsF text x = f := ⟨_, rfl⟩
              have hf0 : (PT.rowN text (PT.clampN text x.f3) : Int) = f.f0 := by rw [← hf]; rfl
              have hf1 : (PT.rowN text (PT.clampN text m) : Int) = f.f1 := by rw [← hf, ← hm]; rfl
              have HP1 := Aside0.mk hf0
              have HP2 := Aside0.mk hf1
              have HFF := Aside0.mk hf
              clear hin htx hm hf hf0 hf1
              -- <A5
              as_aux_lemma =>
                go_upto_region 9 with fail
                go_cut [11] (fun v11 wx => ∃ gF, v11 = .pointer (some ⟨gF, 0, none⟩) ∧ Aside0 (wx.heap[gF]? = some (fC f)) ∧ Aside0 (Below w2.heap.size w2 wx))
                case first =>
                  -- <A6
                  as_aux_lemma =>
                    refine Sched2.wp_region_run (MvF w2.heap.size f) (by kernel_rfl) (by kernel_rfl) ?_
                    refine Sched2.Run.step (fun K hK => Sched2.Good.fix off_nil ?_)
                    apply Exists.intro
                    refine ⟨fun w' hw' => ?_, ?_⟩
                    · skip
                      go_simp
                      exact rfl
                    go_simp
                    refine hK _ _ _ ?_
                    clear hK K
                    refine Sched2.Run.step (fun K hK => Sched2.Good.fix off_nil ?_)
                    apply Exists.intro
                    refine ⟨fun w' hw' => ?_, ?_⟩
                    · skip
                      go_simp
                      exact rfl
                    go_simp
                    refine hK _ _ _ ?_
                    clear hK K
                    refine Sched2.Run.step (fun K hK => Sched2.Good.fix off_nil ?_)
                    apply Exists.intro
                    refine ⟨fun w' hw' => ?_, ?_⟩
                    · obtain ⟨y3, y4⟩ := HS3.out w' hw'
                      go_simp
                      exact rfl
                    go_simp
                    refine hK _ _ _ ?_
                    clear hK K
                    refine Sched2.Run.step (fun K hK => Sched2.Good.fix off_nil ?_)
                    apply Exists.intro
                    refine ⟨fun w' hw' => ?_, ?_⟩
                    · skip
                      go_simp
                      have h := PT.Pos_calls text gI x.f3 w' (HI.out.below (below_then HB2.out HB2.out.size hw')) HTS.out; rw [HP1.out] at h; exact h
                    go_simp
                    refine hK _ _ _ ?_
                    clear hK K
                    refine Sched2.Run.step (fun K hK => Sched2.Good.fix off_nil ?_)
                    apply Exists.intro
                    refine ⟨fun w' hw' => ?_, ?_⟩
                    · skip
                      go_simp
                      exact rfl
                    go_simp
                    refine hK _ _ _ ?_
                    clear hK K
                    refine Sched2.Run.step (fun K hK => Sched2.Good.fix off_nil ?_)
                    apply Exists.intro
                    refine ⟨fun w' hw' => ?_, ?_⟩
                    · skip
                      go_simp
                      exact rfl
                    go_simp
                    refine hK _ _ _ ?_
                    clear hK K
                    refine Sched2.Run.step (fun K hK => Sched2.Good.fix off_nil ?_)
                    apply Exists.intro
                    refine ⟨fun w' hw' => ?_, ?_⟩
                    · skip
                      go_simp
                      exact rfl
                    go_simp
                    refine hK _ _ _ ?_
                    clear hK K
                    refine Sched2.Run.step (fun K hK => Sched2.Good.fix off_nil ?_)
                    apply Exists.intro
                    refine ⟨fun w' hw' => ?_, ?_⟩
                    · obtain ⟨y3, y4⟩ := HS3.out w' hw'
                      go_simp
                      exact rfl
                    go_simp
                    refine hK _ _ _ ?_
                    clear hK K
                    refine Sched2.Run.step (fun K hK => Sched2.Good.fix off_nil ?_)
                    apply Exists.intro
                    refine ⟨fun w' hw' => ?_, ?_⟩
                    · skip
                      go_simp
                      exact rfl
                    go_simp
                    refine hK _ _ _ ?_
                    clear hK K
                    refine Sched2.Run.step (fun K hK => Sched2.Good.fix off_nil ?_)
                    apply Exists.intro
                    refine ⟨fun w' hw' => ?_, ?_⟩
                    · obtain ⟨y3, y4⟩ := HS3.out w' hw'
                      go_simp
                      exact rfl
                    go_simp
                    refine hK _ _ _ ?_
                    clear hK K
                    refine Sched2.Run.step (fun K hK => Sched2.Good.fix off_nil ?_)
                    apply Exists.intro
                    refine ⟨fun w' hw' => ?_, ?_⟩
                    · skip
                      go_simp
                      exact rfl
                    go_simp
                    refine hK _ _ _ ?_
                    clear hK K
                    refine Sched2.Run.step (fun K hK => Sched2.Good.fix off_nil ?_)
                    apply Exists.intro
                    refine ⟨fun w' hw' => ?_, ?_⟩
                    · skip
                      go_simp
                      exact rfl
                    go_simp
                    refine hK _ _ _ ?_
                    clear hK K
                    refine Sched2.Run.step (fun K hK => Sched2.Good.fix off_nil ?_)
                    apply Exists.intro
                    refine ⟨fun w' hw' => ?_, ?_⟩
                    · skip
                      go_simp
                      have h := PT.Pos_calls text gI m w' (HI.out.below (below_then HB2.out HB2.out.size hw')) HTS.out; rw [HP2.out] at h; exact h
                    go_simp
                    refine hK _ _ _ ?_
                    clear hK K
                    refine Sched2.Run.step (fun K hK => Sched2.Good.fix off_nil ?_)
                    apply Exists.intro
                    refine ⟨fun w' hw' => ?_, ?_⟩
                    · skip
                      go_simp
                      exact rfl
                    go_simp
                    refine hK _ _ _ ?_
                    clear hK K
                    refine Sched2.Run.step (fun K hK => Sched2.Good.fix off_nil ?_)
                    apply Exists.intro
                    refine ⟨fun w' hw' => ?_, ?_⟩
                    · skip
                      go_simp
                      exact rfl
                    go_simp
                    refine hK _ _ _ ?_
                    clear hK K
                    refine Sched2.Run.step (fun K hK => Sched2.Good.fresh 11 (FF w2.heap.size) rfl rfl (by simp) (FF_kept _ _) ?_ ?_)
                    · intro w' hw'
                      go_simp
                      exact ⟨_, _, ⟨rfl, rfl⟩, below_alloc (Below.refl _ _) _, FF_made w' _ hw'.size⟩
                    go_simp
                    refine hK _ _ _ ?_
                    clear hK K
                    refine Sched2.Run.step (fun K hK => Sched2.Good.write 11 _ (GF w2.heap.size f) (List.mem_singleton.2 rfl) rfl rfl (on_one (by kernel_rfl)) but_one (GF_kept _ _) ?_ ?_)
                    · rintro x0 w' hw' ⟨g0, rfl, hg0, y9, hy9⟩
                      obtain ⟨s0, s1⟩ := f_cells hy9
                      have t0 := blk_frozen hy9 0
                      have t1 := blk_frozen hy9 1
                      have hst := wroteF f hw' hg0 hy9
                      clear hy9
                      go_simp
                      exact hst
                    refine hK _ _ _ ?_
                    clear hK K
                    refine Sched2.Run.nil ?_
                    intro b9 w' hb hf
                    obtain ⟨v9, _, ⟨gF, rfl, _, hgF⟩, rfl⟩ := hf.one (by simp)
                    have HBX := Aside0.mk hb
                    have HGX := Aside0.mk hgF
                    clear hb hf hgF
                    go_wp2_with fail
                    go_meet
                    case rel => exact ⟨gF, rfl, HGX, HBX⟩
                  -- A6>
                case rest =>
                obtain ⟨gF, rfl, KF, HBc⟩ := hcut
                obtain ⟨w5, hw5⟩ : ∃ u, wc = u := ⟨_, rfl⟩
                rw [hw5] at KF HBc ⊢
                have HF5 := Aside0.mk (HF4.out.moved HBc.out)
                clear hw5 wc HF4 HBc KN4 HS3 HB2 e5 e6 e7
                have f0 : w5.cell? ⟨gF, 0, none⟩ = some (.int .i64 f.f0) := (blk_cell KF.out 0).trans rfl
                have f1 : w5.cell? ⟨gF, 1, none⟩ = some (.int .i64 f.f1) := (blk_cell KF.out 1).trans rfl
                by_cases hff : f.f0 < f.f1
                · have d1 : decide (f.f0 < f.f1) = true := decide_eq_true hff
                  have HAD : Aside0 (allF fs text (t.take (i + 1)) = allF fs text (t.take i) ++ [f]) := ⟨by
                    rw [HSU.out]
                    unfold oneF keepF
                    rw [HNM.out, HCC.out, HFF.out, d1]
                    rfl⟩
                  clear hff
                  -- <A7
                  go_wp2_with (first | ((with_reducible refine gate_builtin (b := .append) (xs := #[.tmp 59, .tmp 61]) rfl ?_); at_builtin; refine RF_appL (w0 := w3) w3.heap.size rfl (.tmp 59) (.tmp 61) rfl Try.underlying77 info82z _ (allF fs text (t.take i)) f _ 1 rfl rfl ?aO (lit82 (heap_alloc_new _ _)) ?aB ?aS ?aL ?_; (case aO => exact (HF5.out.moved (below_alloc (Below.refl _ _) _)).o); (case aB => exact (HF5.out.moved (below_alloc (Below.refl _ _) _)).b); (case aS => exact (HF5.out.moved (below_alloc (Below.refl _ _) _)).b.size); (case aL => have := HAL.out; have := HLT.out; have := HP.out.2; omega); intro v1 w9 ho hb hg; have HF9 : Aside0 (FoS w3 w9 v1 (allF fs text (t.take (i + 1)))) := ⟨⟨by rw [HAD.out]; exact ho, hb⟩⟩; clear ho hb hg))
                  go_roundw
                  case measure => first | omega | (simp [intOf]; have := HLT.out; omega)
                  case rel => exact ⟨i + 1, _, _, rfl, rfl, by congr 1, by have := HLT.out; omega, HF9⟩
                  -- A7>
                · have d1 : decide (f.f0 < f.f1) = false := decide_eq_false hff
                  have HSK : Aside0 (allF fs text (t.take (i + 1)) = allF fs text (t.take i)) := ⟨by
                    rw [HSU.out]
                    unfold oneF keepF
                    rw [HNM.out, HCC.out, HFF.out, d1]
                    simp⟩
                  clear hff
                  -- <A8
                  go_wp2_with fail
                  go_roundw
                  case measure => first | omega | (simp [intOf]; have := HLT.out; omega)
                  case rel => exact ⟨i + 1, _, _, rfl, rfl, by congr 1, by have := HLT.out; omega, ⟨by rw [HSK.out]; exact HF5.out⟩⟩
                  -- A8>
              -- A5>
            -- A3>
        · have e1 : decide ((i : Int) < (t.length : Int)) = false := decide_eq_false (by omega)
          have e2 : decide (i < t.length) = false := decide_eq_false hlt
          obtain rfl : i = t.length := by omega
          have HF9 : Aside0 (FoS w3 wr u8 (allF fs text t)) := ⟨by have h := HFr.out; rwa [List.take_of_length_le (Nat.le_refl _)] at h⟩
          clear hi hlt
          -- <A9
          go_wp2_with fail
          go_meet
          case rel => exact ⟨_, _, _, rfl, rfl, rfl, HF9⟩
          -- A9>
      -- A1>
    case rest =>
    -- <B1
    as_aux_lemma =>
      obtain ⟨u1, u2, u3, rfl, rfl, rfl, HFc⟩ := hcut
      obtain ⟨w4, hw4⟩ : ∃ u, wc = u := ⟨_, rfl⟩
      rw [hw4] at HFc ⊢
      clear hw4 wc
      obtain ⟨Ao, co, rfl⟩ := Kd.R_slice HFc.out.o
      obtain ⟨n, hn⟩ : ∃ n, (allF fs text t).length = n := ⟨_, rfl⟩
      rw [hn] at HFc ⊢
      have hnl : n ≤ t.length := by
        rw [← hn]
        unfold allF
        exact List.length_filterMap_le _ _
      have HNL := Aside0.mk hnl
      have HN := Aside0.mk hn
      clear hn hnl
      go_wp2_with fail
      refine (sort_calls Ao n co (allF fs text t) w4 w3.heap.size HFc.out.o (by have := HNL.out; have := HP.out.2; omega) (allF_bd fs text t HTX.out)).mono ?_
      rintro e w5 ⟨rfl, ys, hW, hS, hO⟩
      have HYL : Aside0 (ys.length = n) := ⟨hW.len.trans HN.out⟩
      have HDE : Aside0 (dedF ys = foldsF fs text t) := ⟨folds_eq hW.len (by rw [hW.len, HN.out]; exact hS) (by rw [hW.len, HN.out]; exact hO)⟩
      have hb5 : Below w3.heap.size w3 w5 := HFc.out.b.grown hW.g HFc.out.b.size (fun k hk => ((Kd.R_bound HFc.out.o).1 k hk).2.1)
      have HB5 := Aside0.mk (below_then HB3.out HB3.out.size hb5)
      have HY := Aside0.mk (Kd.R_reads' hW.r)
      clear hW hS hO hb5 HFc
      go_wp2_with fail
      go_loopw [12, 14, 15, 68] (fun v12 v14 v15 v68 wr => ∃ (i : Nat) (u1 u2 : Value), v14 = u1 ∧ v15 = u2 ∧ v68 = .int .i64 (i : Int) ∧ i ≤ n ∧ Aside0 (FoS w5 wr v12 (dedF (ys.take i)))) (fun _ _ _ v68 _ => n - (intOf v68).toNat)
      case atStart => exact ⟨0, _, _, rfl, rfl, rfl, Nat.zero_le _, ⟨FoS.nil _⟩⟩
      case round =>
        obtain ⟨i, u1, u2, rfl, rfl, rfl, hi, HFr⟩ := hrel
        by_cases hlt : i < n
        · have e1 : decide ((i : Int) < (n : Int)) = true := decide_eq_true (by omega)
          have e2 : decide (i < n) = true := decide_eq_true hlt
          have e3 : (i : Int) < (n : Int) := by omega
          have hnl := HNL.out
          have hl := HP.out.2
          have e4 : IntKind.i64.wrap ((i : Int) + 1) = (i : Int) + 1 := (i64_w _).trans (w64 (by omega) (by omega))
          have hyl := HYL.out
          have hyc := HY.out.2.2
          obtain ⟨ad, hA, y0, y1⟩ := at_T82 (Kd.C_below hyc HFr.out.b) (i : Int) (by omega) (by omega)
          rw [Int.toNat_natCast] at y0 y1
          have hg82 : rd_T82 ys (i : Int) = get ys i := by unfold rd_T82 get; rw [Int.toNat_natCast]
          rw [hg82] at y0 y1
          have hsu := dedF_succ (ys := ys) (i := i) (by rw [HYL.out]; exact hlt)
          have hol := dedF_len ys i (by rw [HYL.out]; omega)
          obtain ⟨f, hf⟩ : ∃ f, get ys i = f := ⟨_, rfl⟩
          rw [hf] at y0 y1 hsu
          obtain ⟨outs, houts⟩ : ∃ o, dedF (ys.take i) = o := ⟨_, rfl⟩
          rw [houts] at HFr hsu hol
          have HSU := Aside0.mk hsu
          have HLT := Aside0.mk hlt
          have HOL := Aside0.mk hol
          obtain ⟨Ab, cb, rfl⟩ := Kd.R_slice HFr.out.o
          have hcb := (Kd.R_reads' HFr.out.o).2.1
          obtain ⟨k, hkk⟩ : ∃ k, outs.length = k := ⟨_, rfl⟩
          have HKK := Aside0.mk hkk
          have hfr := HFr.out.o
          rw [hkk] at hfr hcb ⊢
          have HRO := Aside0.mk hfr
          subst hA
          clear hi hlt hnl hl hyl hyc hg82 hsu hol hf houts hkk hfr hcb
          obtain ⟨oF, hoF⟩ : ∃ o : Obj, o = .cells #[.int .i64 f.f0, .int .i64 f.f1] 82 (0, 0) := ⟨_, rfl⟩
          -- <B2
          go_upto_region 19 with fail
          rw [← hoF]
          have KF := Aside0.mk ((heap_alloc_new wr oF).trans (congrArg some hoF))
          have HF2 := Aside0.mk (HFr.out.moved (below_alloc (Below.refl _ _) oF))
          have HRO2 := Aside0.mk (Kd.R_below HRO.out (below_alloc (Below.refl wr.heap.size wr) oF))
          clear hoF HFr y0 y1 HRO
          obtain ⟨gF, hgF⟩ : ∃ g, wr.heap.size = g := ⟨_, rfl⟩
          generalize wr.alloc oF = w2 at KF HF2 HRO2 ⊢
          rw [hgF] at KF ⊢
          clear hgF
          have f0 : w2.cell? ⟨gF, 0, none⟩ = some (.int .i64 f.f0) := (blk_cell KF.out 0).trans rfl
          have f1 : w2.cell? ⟨gF, 1, none⟩ = some (.int .i64 f.f1) := (blk_cell KF.out 1).trans rfl
          by_cases hk0 : k = 0
          · have d1 : decide ((k : Int) = 0) = true := decide_eq_true (by omega)
            have d2 : decide (k = 0) = true := decide_eq_true hk0
            have HST : Aside0 (dedF (ys.take (i + 1)) = outs ++ [f]) := ⟨by rw [HSU.out]; unfold stepD; rw [if_pos (.inl (by rw [HKK.out]; exact hk0))]⟩
            subst hk0
            -- <B4
            go_quiet (fail)
            have KF6 := Aside0.mk (show (w2.drewN nq).heap[gF]? = some (.cells #[.int .i64 f.f0, .int .i64 f.f1] 82 (0, 0)) from KF.out)
            have HF6 := Aside0.mk (HF2.out.moved (pw_below_drewN (Below.refl w2.heap.size w2) nq))
            have HRO6 := Aside0.mk (Kd.R_below HRO2.out (pw_below_drewN (Below.refl w2.heap.size w2) nq))
            generalize w2.drewN nq = w6 at KF6 HF6 HRO6 ⊢
            clear f0 f1 KF HF2 HRO2
            have f0 : w6.cell? ⟨gF, 0, none⟩ = some (.int .i64 f.f0) := (blk_cell KF6.out 0).trans rfl
            have f1 : w6.cell? ⟨gF, 1, none⟩ = some (.int .i64 f.f1) := (blk_cell KF6.out 1).trans rfl
            go_wp2_with (first | ((with_reducible refine gate_builtin (b := .append) (xs := #[.tmp 87, .tmp 89]) rfl ?_); at_builtin; refine RF_appL (w0 := w5) w5.heap.size rfl (.tmp 87) (.tmp 89) rfl Try.underlying77 info82z _ outs f _ 1 rfl rfl ?aO (lit82 (heap_alloc_new _ _)) ?aB ?aS ?aL ?_; (case aO => exact Kd.R_below HRO6.out (below_alloc (Below.refl _ _) _)); (case aB => exact (HF6.out.moved (below_alloc (Below.refl _ _) _)).b); (case aS => exact (HF6.out.moved (below_alloc (Below.refl _ _) _)).b.size); (case aL => have := HOL.out; have := HLT.out; have := HNL.out; have := HP.out.2; omega); intro v1 w9 ho hb hg; have HF9 : Aside0 (FoS w5 w9 v1 (dedF (ys.take (i + 1)))) := ⟨⟨by rw [HST.out]; exact ho, hb⟩⟩; clear ho hb hg))
            go_roundw
            case measure => first | omega | (simp [intOf]; have := HLT.out; omega)
            case rel => exact ⟨i + 1, _, _, rfl, rfl, by congr 1, by have := HLT.out; omega, HF9⟩
            -- B4>
          · have d1 : decide ((k : Int) = 0) = false := decide_eq_false (by omega)
            have d2 : decide (k = 0) = false := decide_eq_false hk0
            have d3 : ((k : Int) == 0) = false := beq_eq_false_iff_ne.2 (by omega)
            have d4 : (k == 0) = false := beq_eq_false_iff_ne.2 hk0
            obtain ⟨gO, rfl, -⟩ := RF.at_ HRO2.out (by omega)
            have hol := HOL.out
            have hll := HLT.out
            have hnl := HNL.out
            have hpl := HP.out.2
            have hkk := HKK.out
            obtain ⟨k1, hk1⟩ : ∃ x, k - 1 = x := ⟨_, rfl⟩
            have e5 : IntKind.i64.wrap ((k : Int) - 1) = (k1 : Int) := (i64_w _).trans ((w64 (by omega) (by omega)).trans (by omega))
            have e6 : (k1 : Int) < (k : Int) := by omega
            obtain ⟨z0, z1⟩ := RF.cells HRO2.out k1 (by omega)
            obtain ⟨X, hX⟩ : ∃ X, get outs k1 = X := ⟨_, rfl⟩
            rw [hX] at z0
            by_cases hne : X.f0 = f.f0
            · have d5 : (X.f0 != f.f0) = false := by rw [hne]; exact bne_self_eq_false _
              have d6 : decide (X.f0 = f.f0) = true := decide_eq_true hne
              have HST : Aside0 (dedF (ys.take (i + 1)) = outs) := ⟨by
                rw [HSU.out]
                unfold stepD
                rw [if_neg]
                rintro (h | h)
                · omega
                · rw [hkk, hk1, hX] at h
                  exact h hne⟩
              clear hol hll hnl hpl hkk hk1 hk0 z1 hX
              -- <B5
              go_quiet (fail)
              have KF6 := Aside0.mk (show (w2.drewN nq).heap[gF]? = some (.cells #[.int .i64 f.f0, .int .i64 f.f1] 82 (0, 0)) from KF.out)
              have HF6 := Aside0.mk (HF2.out.moved (pw_below_drewN (Below.refl w2.heap.size w2) nq))
              have HRO6 := Aside0.mk (Kd.R_below HRO2.out (pw_below_drewN (Below.refl w2.heap.size w2) nq))
              generalize w2.drewN nq = w6 at KF6 HF6 HRO6 ⊢
              clear f0 f1 KF HF2 HRO2 z0
              have f0 : w6.cell? ⟨gF, 0, none⟩ = some (.int .i64 f.f0) := (blk_cell KF6.out 0).trans rfl
              have f1 : w6.cell? ⟨gF, 1, none⟩ = some (.int .i64 f.f1) := (blk_cell KF6.out 1).trans rfl
              have HF9 : Aside0 (FoS w5 w6 (.slice (some ⟨gO, 0, none⟩) k cb) (dedF (ys.take (i + 1)))) := ⟨⟨by rw [HST.out]; exact HRO6.out, HF6.out.b⟩⟩
              go_wp2_with fail
              go_roundw
              case measure => first | omega | (simp [intOf]; have := HLT.out; omega)
              case rel => exact ⟨i + 1, _, _, rfl, rfl, by congr 1, by have := HLT.out; omega, HF9⟩
              -- B5>
            · have d5 : (X.f0 != f.f0) = true := bne_iff_ne.2 hne
              have d6 : decide (X.f0 = f.f0) = false := decide_eq_false hne
              have HST : Aside0 (dedF (ys.take (i + 1)) = outs ++ [f]) := ⟨by
                rw [HSU.out]
                unfold stepD
                rw [if_pos]
                right
                rw [hkk, hk1, hX]
                exact hne⟩
              clear hol hll hnl hpl hkk hk1 hk0 z1 hX
              -- <B6
              go_quiet (fail)
              have KF6 := Aside0.mk (show (w2.drewN nq).heap[gF]? = some (.cells #[.int .i64 f.f0, .int .i64 f.f1] 82 (0, 0)) from KF.out)
              have HF6 := Aside0.mk (HF2.out.moved (pw_below_drewN (Below.refl w2.heap.size w2) nq))
              have HRO6 := Aside0.mk (Kd.R_below HRO2.out (pw_below_drewN (Below.refl w2.heap.size w2) nq))
              generalize w2.drewN nq = w6 at KF6 HF6 HRO6 ⊢
              clear f0 f1 KF HF2 HRO2 z0
              have f0 : w6.cell? ⟨gF, 0, none⟩ = some (.int .i64 f.f0) := (blk_cell KF6.out 0).trans rfl
              have f1 : w6.cell? ⟨gF, 1, none⟩ = some (.int .i64 f.f1) := (blk_cell KF6.out 1).trans rfl
              go_wp2_with (first | ((with_reducible refine gate_builtin (b := .append) (xs := #[.tmp 87, .tmp 89]) rfl ?_); at_builtin; refine RF_appL (w0 := w5) w5.heap.size rfl (.tmp 87) (.tmp 89) rfl Try.underlying77 info82z _ outs f _ 1 rfl rfl ?aO (lit82 (heap_alloc_new _ _)) ?aB ?aS ?aL ?_; (case aO => exact Kd.R_below HRO6.out (below_alloc (Below.refl _ _) _)); (case aB => exact (HF6.out.moved (below_alloc (Below.refl _ _) _)).b); (case aS => exact (HF6.out.moved (below_alloc (Below.refl _ _) _)).b.size); (case aL => have := HOL.out; have := HLT.out; have := HNL.out; have := HP.out.2; omega); intro v1 w9 ho hb hg; have HF9 : Aside0 (FoS w5 w9 v1 (dedF (ys.take (i + 1)))) := ⟨⟨by rw [HST.out]; exact ho, hb⟩⟩; clear ho hb hg))
              go_roundw
              case measure => first | omega | (simp [intOf]; have := HLT.out; omega)
              case rel => exact ⟨i + 1, _, _, rfl, rfl, by congr 1, by have := HLT.out; omega, HF9⟩
              -- B6>
          -- B2>
        · have e1 : decide ((i : Int) < (n : Int)) = false := decide_eq_false (by omega)
          have e2 : decide (i < n) = false := decide_eq_false hlt
          obtain rfl : i = n := by omega
          have HF9 : Aside0 (FoS w5 wr u12 (foldsA fs t text)) := ⟨by
            have h := HFr.out
            rw [← HYL.out, List.take_of_length_le (Nat.le_refl _), HDE.out] at h
            unfold foldsA
            rw [if_pos HRT.out]
            exact h⟩
          clear hi hlt
          -- <B3
          go_wp2_with fail
          go_ret
          exact ⟨_, rfl, Kd.R_lower HF9.out.o HB5.out.size, below_then HB5.out HB5.out.size HF9.out.b⟩
          -- B3>
    -- B1>
end Go.Proofs.Ytknagjiipelfnaa.SO
