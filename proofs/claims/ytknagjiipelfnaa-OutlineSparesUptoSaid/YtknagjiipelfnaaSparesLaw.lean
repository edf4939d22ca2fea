/- trellislaw22.OutlineSpares: the law's own walk. -/
import Derived.Test.YtknagjiipelfnaaSpP
import Derived.Test.YtknagjiipelfnaaAps
import Derived.Test.YtknagjiipelfnaaAwB
import Derived.Deep.RegionHeld3
namespace Go.Proofs.Ytknagjiipelfnaa.AR
open Go.RowKit Go.WideShapes Go.ChangeShapes Go.Proofs.YtknagjiipelfnaaW.PrintWords Go.Proofs.YtknagjiipelfnaaW.PrintLast Go.Proofs.YtknagjiipelfnaaW.PrintMore Go.Proofs.Ytknagjiipelfnaa.PAll
open Go.Proofs.Ytknagjiipelfnaa.OL Go.Proofs.Ytknagjiipelfnaa.SO
set_option linter.unusedVariables false
theorem rn_form {w : World} {b n c : Nat} {A : Option Addr} {xs : List S50} (h : RN w b (.slice A n c) xs) (h0 : 0 < n) : ∃ g, A = some ⟨g, 0, none⟩ ∧ b ≤ g ∧ ∃ cells, w.heap[g]? = some (.cells cells 50 (0, 0)) := by
  have hl := (Kd.R_reads' h).1
  obtain ⟨g, cap, he, h1, h2, h3⟩ := Kd.R_form h (by omega)
  injection he with he
  exact ⟨g, he, h1, h3⟩
set_option maxRecDepth 100000 in
set_option maxHeartbeats 16000000 in
theorem OutlineSpares_calls (FA MA A : Option Addr) (cf cm c : Nat) (fs : List ByteArray) (ms : List Mk) (t : List S50) (text : ByteArray) (w : World)
    (hf : Kd.string.C w FA fs.length fs) (hfc : fs.length ≤ cf) (hfl : fs.length ≤ 1048576) (hm : Kd.C k129 w MA ms.length ms) (hmc : ms.length ≤ cm) (hml : ms.length ≤ 1048576)
    (hr : Kd.C k50 w A t.length t) (hc : t.length ≤ c) (hl : t.length ≤ 1048576) (hk : ∀ x ∈ t, x.f5 ≤ 9223372036854775807) (hts : text.size ≤ 1048576) :
    Calls Try.prog 8 #[.agg #[.slice FA fs.length cf, .slice MA ms.length cm], .slice A t.length c, .string text] w fun e w' => e = .returned (.bool true) ∧ Below w.heap.size w w' := by
  obtain ⟨oX, hoX⟩ : ∃ o : Obj, o = .cells #[.slice FA fs.length cf, .slice MA ms.length cm] 25 (0, 0) := ⟨_, rfl⟩
  have hba : Below w.heap.size w (w.alloc oX) := below_alloc (Below.refl _ _) _
  have HC0 := Aside0.mk (Cx.mk (w := w) (gX := w.heap.size) ((heap_alloc_new w oX).trans (congrArg some hoX)) (Kd.C_below hf hba) (Kd.C_below hm hba) (Kd.C_below hr hba) hba)
  have HPF := Aside0.mk (And.intro hfc hfl)
  have HPM := Aside0.mk (And.intro hmc hml)
  have HPT := Aside0.mk (And.intro hc hl)
  have HK := Aside0.mk hk
  have HTX := Aside0.mk (show text.size ≤ 1100000 by omega)
  have HTN := Aside0.mk (show (text ++ (⟨#[10]⟩ : ByteArray)).size ≤ 1100000 by rw [ByteArray.size_append]; show text.size + 1 ≤ 1100000; omega)
  have hcat : text.size + (⟨#[10]⟩ : ByteArray).size ≤ 9223372036854775807 := by show text.size + 1 ≤ _; omega
  clear hba hf hfc hfl hm hmc hml hr hc hl hk hts
  obtain ⟨la, hla⟩ : ∃ l, foldsA fs t text = l := ⟨_, rfl⟩
  obtain ⟨lo, hlo⟩ : ∃ l, foldsA fs t (text ++ ⟨#[10]⟩) = l := ⟨_, rfl⟩
  obtain ⟨ls, hls⟩ : ∃ l, symsA ms t text = l := ⟨_, rfl⟩
  obtain ⟨lq, hlq⟩ : ∃ l, symsA ms t (text ++ ⟨#[10]⟩) = l := ⟨_, rfl⟩
  have HLA := Aside0.mk hla
  have HLO := Aside0.mk hlo
  have HLS := Aside0.mk hls
  have HLQ := Aside0.mk hlq
  have HNA : Aside0 (la.length ≤ 2097152) := ⟨by rw [← hla]; exact foldsA_le HTX.out⟩
  have HNO : Aside0 (lo.length ≤ 2097152) := ⟨by rw [← hlo]; exact foldsA_le HTN.out⟩
  have HNS : Aside0 (ls.length ≤ 1048576) := ⟨by rw [← hls]; exact Nat.le_trans symsA_le HPT.out.2⟩
  have HNQ : Aside0 (lq.length ≤ 1048576) := ⟨by rw [← hlq]; exact Nat.le_trans symsA_le HPT.out.2⟩
  clear hla hlo hls hlq
  go_enter Try.func8, Try.ntmps8
  go_wp2_with fail
  rw [← hoX]
  clear hoX
  obtain ⟨gX, hgX⟩ : ∃ g, w.heap.size = g := ⟨_, rfl⟩
  generalize w.alloc oX = w0 at HC0 ⊢
  have GX : Aside0 (w.heap.size = gX) := ⟨hgX⟩
  rw [show Cx w w0 w.heap.size FA MA A cf cm fs ms t = Cx w w0 gX FA MA A cf cm fs ms t by rw [hgX]] at HC0
  rw [hgX]
  clear hgX
  obtain ⟨r, hcall⟩ := Beyond_calls A c t w0 HC0.out.r HPT.out.1 HPT.out.2
  refine hcall.mono ?_
  clear hcall
  rintro e w1 ⟨rfl, hB⟩
  have HC1 := Aside0.mk (HC0.out.moved hB)
  clear hB HC0
  cases r with
  | true =>
    go_wp2_with fail
    go_ret
    exact ⟨rfl, HC1.out.b⟩
  | false =>
    go_wp2_with fail
    refine (AW.awake_calls w1).mono ?_
    rintro e w2 ⟨rfl, hB⟩
    have HC2 := Aside0.mk (HC1.out.moved hB)
    have HD0 : Aside0 (Below w2.heap.size w2 w2) := ⟨Below.refl _ _⟩
    have HF0 : Aside0 (Rs k82 82 w2 w2.heap.size []) := ⟨trivial⟩
    have HS0 : Aside0 (Rs k84 84 w2 w2.heap.size []) := ⟨trivial⟩
    clear hB HC1
    -- <A
    have p0 := (HC2.out.moved HD0.out).p0
    have p1 := (HC2.out.moved HD0.out).p1
    go_wp2_with fail
    refine ((HC2.out.moved HD0.out).lang HPF.out HPM.out (W := w2)).mono ?_
    rintro e v1 ⟨F1, M1, cf1, cm1, rfl, hf, hm, hB⟩
    clear p0 p1
    have HF1 := Aside0.mk (HF0.out.moved hB)
    have HS1 := Aside0.mk (HS0.out.moved hB)
    have HD1 := Aside0.mk (below_then HD0.out HD0.out.size hB)
    have HLF := Aside0.mk hf
    have HLM := Aside0.mk hm
    clear hf hm
    clear hB HD0 HF0 HS0
    go_wp2_with fail
    refine (folds_to (m := t.length) (w := v1) HLA.out rfl (HC2.out.moved HD1.out).r HPT.out HK.out HLF.out HPF.out.2 HTX.out).mono ?_
    rintro e v2 ⟨A2, c2, rfl, hR, hB⟩
    have HF2 := Aside0.mk (HF1.out.add hB HD1.out.size hR)
    have HS2 := Aside0.mk (HS1.out.moved hB)
    have HD2 := Aside0.mk (below_then HD1.out HD1.out.size hB)
    clear HLF HLM hR
    clear hB HD1 HF1 HS1
    have p0 := (HC2.out.moved HD2.out).p0
    have p1 := (HC2.out.moved HD2.out).p1
    go_wp2_with fail
    refine ((HC2.out.moved HD2.out).lang HPF.out HPM.out (W := v2)).mono ?_
    rintro e v3 ⟨F3, M3, cf3, cm3, rfl, hf, hm, hB⟩
    clear p0 p1
    have HF3 := Aside0.mk (HF2.out.moved hB)
    have HS3 := Aside0.mk (HS2.out.moved hB)
    have HD3 := Aside0.mk (below_then HD2.out HD2.out.size hB)
    have HLF := Aside0.mk hf
    have HLM := Aside0.mk hm
    clear hf hm
    clear hB HD2 HF2 HS2
    go_wp2_with fail
    refine (folds_to (m := t.length) (w := v3) HLA.out rfl (HC2.out.moved HD3.out).r HPT.out HK.out HLF.out HPF.out.2 HTX.out).mono ?_
    rintro e v4 ⟨A4, c4, rfl, hR, hB⟩
    have HF4 := Aside0.mk (HF3.out.add hB HD3.out.size hR)
    have HS4 := Aside0.mk (HS3.out.moved hB)
    have HD4 := Aside0.mk (below_then HD3.out HD3.out.size hB)
    clear HLF HLM hR
    clear hB HD3 HF3 HS3
    have p0 := (HC2.out.moved HD4.out).p0
    have p1 := (HC2.out.moved HD4.out).p1
    go_wp2_with fail
    refine ((HC2.out.moved HD4.out).lang HPF.out HPM.out (W := v4)).mono ?_
    rintro e v5 ⟨F5, M5, cf5, cm5, rfl, hf, hm, hB⟩
    clear p0 p1
    have HF5 := Aside0.mk (HF4.out.moved hB)
    have HS5 := Aside0.mk (HS4.out.moved hB)
    have HD5 := Aside0.mk (below_then HD4.out HD4.out.size hB)
    have HLF := Aside0.mk hf
    have HLM := Aside0.mk hm
    clear hf hm
    clear hB HD4 HF4 HS4
    go_wp2_with fail
    refine (folds_to (m := t.length) (w := v5) HLO.out rfl (HC2.out.moved HD5.out).r HPT.out HK.out HLF.out HPF.out.2 HTN.out).mono ?_
    rintro e v6 ⟨A6, c6, rfl, hR, hB⟩
    have HF6 := Aside0.mk (HF5.out.add hB HD5.out.size hR)
    have HS6 := Aside0.mk (HS5.out.moved hB)
    have HD6 := Aside0.mk (below_then HD5.out HD5.out.size hB)
    clear HLF HLM hR
    clear hB HD5 HF5 HS5
    have p0 := (HC2.out.moved HD6.out).p0
    have p1 := (HC2.out.moved HD6.out).p1
    go_wp2_with fail
    refine ((HC2.out.moved HD6.out).lang HPF.out HPM.out (W := v6)).mono ?_
    rintro e v7 ⟨F7, M7, cf7, cm7, rfl, hf, hm, hB⟩
    clear p0 p1
    have HF7 := Aside0.mk (HF6.out.moved hB)
    have HS7 := Aside0.mk (HS6.out.moved hB)
    have HD7 := Aside0.mk (below_then HD6.out HD6.out.size hB)
    have HLF := Aside0.mk hf
    have HLM := Aside0.mk hm
    clear hf hm
    clear hB HD6 HF6 HS6
    go_wp2_with fail
    refine (folds_to (m := t.length) (w := v7) HLA.out rfl (HC2.out.moved HD7.out).r HPT.out HK.out HLF.out HPF.out.2 HTX.out).mono ?_
    rintro e v8 ⟨A8, c8, rfl, hR, hB⟩
    have HF8 := Aside0.mk (HF7.out.add hB HD7.out.size hR)
    have HS8 := Aside0.mk (HS7.out.moved hB)
    have HD8 := Aside0.mk (below_then HD7.out HD7.out.size hB)
    clear HLF HLM hR
    clear hB HD7 HF7 HS7
    -- <B
    have p0 := (HC2.out.moved HD8.out).p0
    have p1 := (HC2.out.moved HD8.out).p1
    go_wp2_with fail
    refine ((HC2.out.moved HD8.out).lang HPF.out HPM.out (W := v8)).mono ?_
    rintro e v9 ⟨F9, M9, cf9, cm9, rfl, hf, hm, hB⟩
    clear p0 p1
    have HF9 := Aside0.mk (HF8.out.moved hB)
    have HS9 := Aside0.mk (HS8.out.moved hB)
    have HD9 := Aside0.mk (below_then HD8.out HD8.out.size hB)
    have HLF := Aside0.mk hf
    have HLM := Aside0.mk hm
    clear hf hm
    clear hB HD8 HF8 HS8
    go_wp2_with fail
    refine (syms_to (m := t.length) (w := v9) HLS.out rfl (HC2.out.moved HD9.out).r HPT.out HK.out HLM.out HPM.out.2).mono ?_
    rintro e v10 ⟨A10, c10, rfl, hR, hB⟩
    have HF10 := Aside0.mk (HF9.out.moved hB)
    have HS10 := Aside0.mk (HS9.out.add hB HD9.out.size hR)
    have HD10 := Aside0.mk (below_then HD9.out HD9.out.size hB)
    clear HLF HLM hR
    clear hB HD9 HF9 HS9
    have p0 := (HC2.out.moved HD10.out).p0
    have p1 := (HC2.out.moved HD10.out).p1
    go_wp2_with fail
    refine ((HC2.out.moved HD10.out).lang HPF.out HPM.out (W := v10)).mono ?_
    rintro e v11 ⟨F11, M11, cf11, cm11, rfl, hf, hm, hB⟩
    clear p0 p1
    have HF11 := Aside0.mk (HF10.out.moved hB)
    have HS11 := Aside0.mk (HS10.out.moved hB)
    have HD11 := Aside0.mk (below_then HD10.out HD10.out.size hB)
    have HLF := Aside0.mk hf
    have HLM := Aside0.mk hm
    clear hf hm
    clear hB HD10 HF10 HS10
    go_wp2_with fail
    refine (syms_to (m := t.length) (w := v11) HLS.out rfl (HC2.out.moved HD11.out).r HPT.out HK.out HLM.out HPM.out.2).mono ?_
    rintro e v12 ⟨A12, c12, rfl, hR, hB⟩
    have HF12 := Aside0.mk (HF11.out.moved hB)
    have HS12 := Aside0.mk (HS11.out.add hB HD11.out.size hR)
    have HD12 := Aside0.mk (below_then HD11.out HD11.out.size hB)
    clear HLF HLM hR
    clear hB HD11 HF11 HS11
    have p0 := (HC2.out.moved HD12.out).p0
    have p1 := (HC2.out.moved HD12.out).p1
    go_wp2_with fail
    refine ((HC2.out.moved HD12.out).lang HPF.out HPM.out (W := v12)).mono ?_
    rintro e v13 ⟨F13, M13, cf13, cm13, rfl, hf, hm, hB⟩
    clear p0 p1
    have HF13 := Aside0.mk (HF12.out.moved hB)
    have HS13 := Aside0.mk (HS12.out.moved hB)
    have HD13 := Aside0.mk (below_then HD12.out HD12.out.size hB)
    have HLF := Aside0.mk hf
    have HLM := Aside0.mk hm
    clear hf hm
    clear hB HD12 HF12 HS12
    go_wp2_with fail
    refine (syms_to (m := t.length) (w := v13) HLQ.out rfl (HC2.out.moved HD13.out).r HPT.out HK.out HLM.out HPM.out.2).mono ?_
    rintro e v14 ⟨A14, c14, rfl, hR, hB⟩
    have HF14 := Aside0.mk (HF13.out.moved hB)
    have HS14 := Aside0.mk (HS13.out.add hB HD13.out.size hR)
    have HD14 := Aside0.mk (below_then HD13.out HD13.out.size hB)
    clear HLF HLM hR
    clear hB HD13 HF13 HS13
    have p0 := (HC2.out.moved HD14.out).p0
    have p1 := (HC2.out.moved HD14.out).p1
    go_wp2_with fail
    refine ((HC2.out.moved HD14.out).lang HPF.out HPM.out (W := v14)).mono ?_
    rintro e v15 ⟨F15, M15, cf15, cm15, rfl, hf, hm, hB⟩
    clear p0 p1
    have HF15 := Aside0.mk (HF14.out.moved hB)
    have HS15 := Aside0.mk (HS14.out.moved hB)
    have HD15 := Aside0.mk (below_then HD14.out HD14.out.size hB)
    have HLF := Aside0.mk hf
    have HLM := Aside0.mk hm
    clear hf hm
    clear hB HD14 HF14 HS14
    go_wp2_with fail
    refine (syms_to (m := t.length) (w := v15) HLS.out rfl (HC2.out.moved HD15.out).r HPT.out HK.out HLM.out HPM.out.2).mono ?_
    rintro e v16 ⟨A16, c16, rfl, hR, hB⟩
    have HF16 := Aside0.mk (HF15.out.moved hB)
    have HS16 := Aside0.mk (HS15.out.add hB HD15.out.size hR)
    have HD16 := Aside0.mk (below_then HD15.out HD15.out.size hB)
    clear HLF HLM hR
    clear hB HD15 HF15 HS15
    -- <C
    go_wp2_with fail
    refine (sameF_calls HF16.out.2.2.2.2.2.2.1 HF16.out.2.2.2.2.1 HNA.out).mono ?_
    rintro e v17 ⟨rfl, hB⟩
    have HF17 := Aside0.mk (HF16.out.moved hB)
    have HS17 := Aside0.mk (HS16.out.moved hB)
    have HD17 := Aside0.mk (below_then HD16.out HD16.out.size hB)
    clear hB HD16 HF16 HS16
    go_wp2_with fail
    refine (sameF_calls HF17.out.2.2.2.2.2.2.1 HF17.out.1 HNA.out).mono ?_
    rintro e v18 ⟨rfl, hB⟩
    have HF18 := Aside0.mk (HF17.out.moved hB)
    have HS18 := Aside0.mk (HS17.out.moved hB)
    have HD18 := Aside0.mk (below_then HD17.out HD17.out.size hB)
    clear hB HD17 HF17 HS17
    go_wp2_with fail
    refine (sameS_calls HS18.out.2.2.2.2.2.2.1 HS18.out.2.2.2.2.1 HNS.out).mono ?_
    rintro e v19 ⟨rfl, hB⟩
    have HF19 := Aside0.mk (HF18.out.moved hB)
    have HS19 := Aside0.mk (HS18.out.moved hB)
    have HD19 := Aside0.mk (below_then HD18.out HD18.out.size hB)
    clear hB HD18 HF18 HS18
    go_wp2_with fail
    refine (sameS_calls HS19.out.2.2.2.2.2.2.1 HS19.out.1 HNS.out).mono ?_
    rintro e v20 ⟨rfl, hB⟩
    have HF20 := Aside0.mk (HF19.out.moved hB)
    have HS20 := Aside0.mk (HS19.out.moved hB)
    have HD20 := Aside0.mk (below_then HD19.out HD19.out.size hB)
    clear hB HD19 HF19 HS19
    -- <D
    go_upto_region 16 with (first | ((with_reducible refine gate_builtin (b := .append) (xs := #[.tmp 88, .tmp 89]) rfl ?_); at_builtin; refine R_cp k82 (fun _ _ _ _ _ hk => by rw [k82_open hk]; exact k82_mkM _ _ _ _) rfl (.tmp 88) (.tmp 89) 77 82 (.agg #[.int .i64 0, .int .i64 0]) 16 rfl Try.underlying77 (by kernel_rfl) rfl (by decide) (by decide) _ _ _ _ rfl rfl (Kd.R_reads' HF20.out.2.2.2.2.1).2.2 (by have := HNA.out; omega) ?_; intro A21 c21 v21 hR hB; have HG : Aside0 (k82.R 82 v21 v20.heap.size T (.slice A21 la.length c21) la ∧ Below v20.heap.size v20 v21) := ⟨⟨hR, hB⟩⟩; clear hR hB))
    have hR := HG.out.1
    have hB := HG.out.2
    clear HG
    have HF21 := Aside0.mk (HF20.out.add hB HD20.out.size hR)
    have HS21 := Aside0.mk (HS20.out.moved hB)
    have HD21 := Aside0.mk (below_then HD20.out HD20.out.size hB)
    clear hR
    clear hB HD20 HF20 HS20
    go_upto_region 17 with (first | ((with_reducible refine gate_builtin (b := .append) (xs := #[.tmp 91, .tmp 92]) rfl ?_); at_builtin; refine R_cp k84 (fun _ _ _ _ _ hk => by rw [k84_open hk]; exact k84_mkM _ _ _ _) rfl (.tmp 91) (.tmp 92) 29 84 (.agg #[.string ⟨#[]⟩, .string ⟨#[]⟩, .int .i64 0, .int .i64 0, .int .i64 0]) 56 rfl Try.underlying29 (by kernel_rfl) rfl (by decide) (by decide) _ _ _ _ rfl rfl (Kd.R_reads' HS21.out.2.2.2.2.1).2.2 (by have := HNS.out; omega) ?_; intro A22 c22 v22 hR hB; have HG : Aside0 (k84.R 84 v22 v21.heap.size T (.slice A22 ls.length c22) ls ∧ Below v21.heap.size v21 v22) := ⟨⟨hR, hB⟩⟩; clear hR hB))
    have hR := HG.out.1
    have hB := HG.out.2
    clear HG
    have HF22 := Aside0.mk (HF21.out.moved hB)
    have HS22 := Aside0.mk (HS21.out.add hB HD21.out.size hR)
    have HD22 := Aside0.mk (below_then HD21.out HD21.out.size hB)
    clear hR
    clear hB HD21 HF21 HS21
    -- <E
    obtain ⟨oL, hoL⟩ : ∃ o : Obj, o = .cells #[.slice A2 la.length c2, .slice A4 la.length c4, .slice A6 lo.length c6, .slice A8 la.length c8] 77 (0, 0) := ⟨_, rfl⟩
    go_wp2_with fail
    rw [← hoL]
    obtain ⟨gL, hgL⟩ : ∃ g, v22.heap.size = g := ⟨_, rfl⟩
    have hB : Below v22.heap.size v22 (v22.alloc oL) := below_alloc (Below.refl _ _) _
    have KL := Aside0.mk ((heap_alloc_new v22 oL).trans (congrArg some hoL))
    generalize v22.alloc oL = v23 at KL hB ⊢
    rw [hgL] at KL ⊢
    clear hoL hgL
    have HF23 := Aside0.mk (HF22.out.moved hB)
    have HS23 := Aside0.mk (HS22.out.moved hB)
    have HD23 := Aside0.mk (below_then HD22.out HD22.out.size hB)
    clear hB HD22 HF22 HS22
    have hv : Lng k82 82 v23 w2.heap.size (fun i => .slice (f4 A2 A4 A6 A8 i) (f4 la.length la.length lo.length la.length i) (f4 c2 c4 c6 c8 i)) (fun i => .slice (f4 A2 A4 A6 A8 i) (f4 la.length la.length lo.length la.length i) (f4 c2 c4 c6 c8 i)) (f4 la la lo la) (f4 la la lo la) 4 0 := Rs.four HF23.out.2.2
    refine (foldsApart_calls (f4 A2 A4 A6 A8) (f4 la.length la.length lo.length la.length) (f4 c2 c4 c6 c8) (f4 la la lo la) gL w2.heap.size v23 hv KL.out HD23.out.size (fun i hi => by match i, hi with | 0, _ => exact HNA.out | 1, _ => exact HNA.out | 2, _ => exact HNO.out | 3, _ => exact HNA.out | n + 4, hi => omega)).mono ?_
    rintro e v24 ⟨rfl, hCh⟩
    have HD24 := Aside0.mk (hCh.base HD23.out (of_base hv) (Nat.le_refl _))
    have HCF24 := Aside0.mk (Rs.copy (vs := (fun i => .slice (f4 A2 A4 A6 A8 i) (f4 la.length la.length lo.length la.length i) (f4 c2 c4 c6 c8 i))) (xs := (f4 la la lo la)) rfl HF23.out hCh)
    have HS24 := Aside0.mk (Rs.over rfl (by decide) hv hCh HS23.out)
    clear hCh hv KL HD23 HF23 HS23
    -- <F
    obtain ⟨oL, hoL⟩ : ∃ o : Obj, o = .cells #[.slice A10 ls.length c10, .slice A12 ls.length c12, .slice A14 lq.length c14, .slice A16 ls.length c16] 29 (0, 0) := ⟨_, rfl⟩
    go_wp2_with fail
    rw [← hoL]
    obtain ⟨gL, hgL⟩ : ∃ g, v24.heap.size = g := ⟨_, rfl⟩
    have hB : Below v24.heap.size v24 (v24.alloc oL) := below_alloc (Below.refl _ _) _
    have KL := Aside0.mk ((heap_alloc_new v24 oL).trans (congrArg some hoL))
    generalize v24.alloc oL = v25 at KL hB ⊢
    rw [hgL] at KL ⊢
    clear hoL hgL
    have HS25 := Aside0.mk (HS24.out.moved hB)
    have HCF25 := Aside0.mk (Kd.R_below HCF24.out hB)
    have HD25 := Aside0.mk (below_then HD24.out HD24.out.size hB)
    clear hB HD24 HS24 HCF24
    have hv : Lng k84 84 v25 w2.heap.size (fun i => .slice (f4 A10 A12 A14 A16 i) (f4 ls.length ls.length lq.length ls.length i) (f4 c10 c12 c14 c16 i)) (fun i => .slice (f4 A10 A12 A14 A16 i) (f4 ls.length ls.length lq.length ls.length i) (f4 c10 c12 c14 c16 i)) (f4 ls ls lq ls) (f4 ls ls lq ls) 4 0 := Rs.four HS25.out.2.2
    refine (symbolsApart_calls (f4 A10 A12 A14 A16) (f4 ls.length ls.length lq.length ls.length) (f4 c10 c12 c14 c16) (f4 ls ls lq ls) gL w2.heap.size v25 hv KL.out HD25.out.size (fun i hi => by match i, hi with | 0, _ => exact (Nat.le_trans HNS.out (by decide)) | 1, _ => exact (Nat.le_trans HNS.out (by decide)) | 2, _ => exact (Nat.le_trans HNQ.out (by decide)) | 3, _ => exact (Nat.le_trans HNS.out (by decide)) | n + 4, hi => omega)).mono ?_
    rintro e v26 ⟨rfl, hCh⟩
    have HD26 := Aside0.mk (hCh.base HD25.out (of_base hv) (Nat.le_refl _))
    have HCS26 := Aside0.mk (Rs.copy (vs := (fun i => .slice (f4 A10 A12 A14 A16 i) (f4 ls.length ls.length lq.length ls.length i) (f4 c10 c12 c14 c16 i))) (xs := (f4 ls ls lq ls)) rfl HS25.out hCh)
    have hov : Rs k82 82 v26 w2.heap.size [(.slice A21 la.length c21, la)] := Rs.over rfl (by decide) hv hCh ⟨HCF25.out, (fun _ h => by cases h), trivial⟩
    have HCF26 := Aside0.mk hov.1
    clear hov
    clear hCh hv KL HD25 HS25 HCF25
    -- <G
    have p0 := (HC2.out.moved HD26.out).p0
    have p1 := (HC2.out.moved HD26.out).p1
    go_wp2_with fail
    refine ((HC2.out.moved HD26.out).lang HPF.out HPM.out (W := v26)).mono ?_
    rintro e v27 ⟨F27, M27, cf27, cm27, rfl, hf, hm, hB⟩
    clear p0 p1
    have HCF27 := Aside0.mk (Kd.R_below HCF26.out hB)
    have HCS27 := Aside0.mk (Kd.R_below HCS26.out hB)
    have HD27 := Aside0.mk (below_then HD26.out HD26.out.size hB)
    have HLF := Aside0.mk hf
    have HLM := Aside0.mk hm
    clear hf hm
    clear hB HD26 HCF26 HCS26
    go_wp2_with fail
    refine (folds_to (m := t.length) (w := v27) HLA.out rfl (HC2.out.moved HD27.out).r HPT.out HK.out HLF.out HPF.out.2 HTX.out).mono ?_
    rintro e v28 ⟨A28, c28, rfl, hR, hB⟩
    have HCF28 := Aside0.mk (Kd.R_below HCF27.out hB)
    have HCS28 := Aside0.mk (Kd.R_below HCS27.out hB)
    have HD28 := Aside0.mk (below_then HD27.out HD27.out.size hB)
    have HR28 := Aside0.mk hR
    clear HLF HLM hR
    clear hB HD27 HCF27 HCS27
    go_wp2_with fail
    refine (sameF_calls HR28.out HCF28.out HNA.out).mono ?_
    rintro e v29 ⟨rfl, hB⟩
    have HCF29 := Aside0.mk (Kd.R_below HCF28.out hB)
    have HCS29 := Aside0.mk (Kd.R_below HCS28.out hB)
    have HD29 := Aside0.mk (below_then HD28.out HD28.out.size hB)
    clear HR28
    clear hB HD28 HCF28 HCS28
    clear HCF29
    have p0 := (HC2.out.moved HD29.out).p0
    have p1 := (HC2.out.moved HD29.out).p1
    go_wp2_with fail
    refine ((HC2.out.moved HD29.out).lang HPF.out HPM.out (W := v29)).mono ?_
    rintro e v30 ⟨F30, M30, cf30, cm30, rfl, hf, hm, hB⟩
    clear p0 p1
    have HCS30 := Aside0.mk (Kd.R_below HCS29.out hB)
    have HD30 := Aside0.mk (below_then HD29.out HD29.out.size hB)
    have HLF := Aside0.mk hf
    have HLM := Aside0.mk hm
    clear hf hm
    clear hB HD29 HCS29
    go_wp2_with fail
    refine (syms_to (m := t.length) (w := v30) HLS.out rfl (HC2.out.moved HD30.out).r HPT.out HK.out HLM.out HPM.out.2).mono ?_
    rintro e v31 ⟨A31, c31, rfl, hR, hB⟩
    have HCS31 := Aside0.mk (Kd.R_below HCS30.out hB)
    have HD31 := Aside0.mk (below_then HD30.out HD30.out.size hB)
    have HR31 := Aside0.mk hR
    clear HLF HLM hR
    clear hB HD30 HCS30
    go_wp2_with fail
    refine (sameS_calls HR31.out HCS31.out HNS.out).mono ?_
    rintro e v32 ⟨rfl, hB⟩
    have HCS32 := Aside0.mk (Kd.R_below HCS31.out hB)
    have HD32 := Aside0.mk (below_then HD31.out HD31.out.size hB)
    clear HR31
    clear hB HD31 HCS31
    clear HCS32
    -- <H
    go_upto_region 22 with (first | ((with_reducible refine gate_builtin (b := .append) (xs := #[.tmp 128, .tmp 129]) rfl ?_); at_builtin; refine R_cp k50 (fun _ _ _ _ _ hk => by rw [k50_open hk]; exact k50_mkM _ _ _ _) rfl (.tmp 128) (.tmp 129) 26 50 (.agg #[.string ⟨#[]⟩, .bool false, .string ⟨#[]⟩, .int .i64 0, .int .i64 0, .int .i64 0, .int .i64 0]) 72 rfl Try.underlying26 (by kernel_rfl) rfl (by decide) (by decide) _ _ _ _ rfl rfl (HC2.out.moved HD32.out).r (by have := HPT.out.2; omega) ?_; intro A33 c33 v33 hR hB; have HG : Aside0 (k50.R 50 v33 v32.heap.size T (.slice A33 t.length c33) t ∧ Below v32.heap.size v32 v33) := ⟨⟨hR, hB⟩⟩; clear hR hB))
    have hR := HG.out.1
    have hB := HG.out.2
    clear HG
    have HDP := Aside0.mk HD32.out.size
    have HD33 := Aside0.mk (below_then HD32.out HD32.out.size hB)
    have HDM : Aside0 (w2.heap.size ≤ v32.heap.size) := ⟨HDP.out⟩
    have HM33 := Aside0.mk hR
    clear hR
    clear hB HD32
    have p0 := (HC2.out.moved HD33.out).p0
    have p1 := (HC2.out.moved HD33.out).p1
    go_wp2_with fail
    refine ((HC2.out.moved HD33.out).lang HPF.out HPM.out (W := v33)).mono ?_
    rintro e v34 ⟨F34, M34, cf34, cm34, rfl, hf, hm, hB⟩
    clear p0 p1
    have HM34 := Aside0.mk (Kd.R_below HM33.out hB)
    have HD34 := Aside0.mk (below_then HD33.out HD33.out.size hB)
    have HLF := Aside0.mk hf
    have HLM := Aside0.mk hm
    clear hf hm
    clear hB HD33 HM33
    go_wp2_with fail
    refine (folds_to (m := t.length) (w := v34) (l := foldsA fs t text) rfl rfl (Kd.R_reads' HM34.out).2.2 ⟨(Kd.R_reads' HM34.out).2.1, HPT.out.2⟩ HK.out HLF.out HPF.out.2 HTX.out).mono ?_
    rintro e v35 ⟨A35, c35, rfl, hR, hB⟩
    have HM35 := Aside0.mk (Kd.R_below HM34.out hB)
    have HD35 := Aside0.mk (below_then HD34.out HD34.out.size hB)
    clear HLF HLM hR
    clear hB HD34 HM34
    have p0 := (HC2.out.moved HD35.out).p0
    have p1 := (HC2.out.moved HD35.out).p1
    go_wp2_with fail
    refine ((HC2.out.moved HD35.out).lang HPF.out HPM.out (W := v35)).mono ?_
    rintro e v36 ⟨F36, M36, cf36, cm36, rfl, hf, hm, hB⟩
    clear p0 p1
    have HM36 := Aside0.mk (Kd.R_below HM35.out hB)
    have HD36 := Aside0.mk (below_then HD35.out HD35.out.size hB)
    have HLF := Aside0.mk hf
    have HLM := Aside0.mk hm
    clear hf hm
    clear hB HD35 HM35
    go_wp2_with fail
    refine (syms_to (m := t.length) (w := v36) (l := symsA ms t text) rfl rfl (Kd.R_reads' HM36.out).2.2 ⟨(Kd.R_reads' HM36.out).2.1, HPT.out.2⟩ HK.out HLM.out HPM.out.2).mono ?_
    rintro e v37 ⟨A37, c37, rfl, hR, hB⟩
    have HM37 := Aside0.mk (Kd.R_below HM36.out hB)
    have HD37 := Aside0.mk (below_then HD36.out HD36.out.size hB)
    clear HLF HLM hR
    clear hB HD36 HM36
    -- <I
    have HMB := Aside0.mk (Kd.R_lower HM37.out (show w2.heap.size ≤ _ by have := HDM.out; omega))
    have HCM : Aside0 (t.length ≤ c33) := ⟨(Kd.R_reads' HM37.out).2.1⟩
    clear HM37
    obtain ⟨Am, hAm⟩ : ∃ A, A33 = A := ⟨_, rfl⟩
    rw [hAm] at HMB ⊢
    clear hAm
    go_wp2_with fail
    go_loopw [18] (fun v18 wr => ∃ (i : Nat) (ys : List S50), v18 = .int .i64 (i : Int) ∧ i ≤ t.length ∧ ys.length = t.length ∧ Aside0 (∀ x ∈ ys, x.f5 ≤ 9223372036854775807) ∧ Aside0 (RN wr w2.heap.size (.slice Am t.length c33) ys) ∧ Aside0 (Below w2.heap.size w2 wr)) (fun v18 _ => t.length - (intOf v18).toNat)
    case atStart => exact ⟨0, t, rfl, Nat.zero_le _, rfl, HK, HMB, HD37⟩
    case round =>
      obtain ⟨i, ys, rfl, hi, hyl, HKy, HRN, HBr⟩ := hrel
      clear HMB HD37 HDM
      by_cases hlt : i < t.length
      · have e1 : decide ((i : Int) < (t.length : Int)) = true := decide_eq_true (by omega)
        have e2 : decide (i < t.length) = true := decide_eq_true hlt
        have e3 : (i : Int) < (t.length : Int) := by omega
        have hl := HPT.out.2
        have hc := HPT.out.1
        obtain ⟨q, hq⟩ : ∃ q, t.length - 1 = q := ⟨_, rfl⟩
        obtain ⟨k, hk⟩ : ∃ k, q - i = k := ⟨_, rfl⟩
        have e4 : IntKind.i64.wrap ((t.length : Int) - 1) = (q : Int) := (i64_w _).trans ((OL.w64 (by omega) (by omega)).trans (by omega))
        have e5 : IntKind.i64.wrap ((q : Int) - (i : Int)) = (k : Int) := (i64_w _).trans ((OL.w64 (by omega) (by omega)).trans (by omega))
        have e6 : IntKind.i64.wrap ((i : Int) + 1) = (i : Int) + 1 := (i64_w _).trans (OL.w64 (by omega) (by omega))
        have e7 : (k : Int) < (t.length : Int) := by omega
        have e8 : k < t.length := by omega
        have hcx := HC2.out.moved HBr.out
        obtain ⟨ad, hA, y0, y1, y2, y3, y4, y5, y6⟩ := at_T50 hcx.r (k : Int) (by omega) (by omega)
        rw [Int.toNat_natCast] at y0
        obtain ⟨gM, hgM, hglo, cells, hcells⟩ := rn_form HRN.out (by omega)
        subst hgM
        obtain ⟨z0, -⟩ := RN.cells HRN.out i hlt
        have z0f := blk_frozen hcells (i * 7)
        obtain ⟨nmk, hnmk⟩ : ∃ b, (rd_T50 t (k : Int)).f0 = b := ⟨_, rfl⟩
        rw [hnmk] at y0
        obtain ⟨hn1, -⟩ := RN.putName HRN.out i hlt nmk
        have HRN2 := Aside0.mk hn1
        have HKz := Aside0.mk (kids_same (nm := nmk) HKy.out (show i < ys.length by omega))
        have HLz : Aside0 ((ys.set i { rd_T50 ys (i : Int) with f0 := nmk }).length = t.length) := ⟨by rw [List.length_set]; exact hyl⟩
        have HB2 := Aside0.mk (HBr.out.setCell (p := ⟨gM, i * 7, none⟩) hglo (.string nmk))
        have HLT := Aside0.mk hlt
        subst hA
        clear hi hlt hl hc hq hk y1 y2 y3 y4 y5 y6 hnmk hn1 hglo hcells hcx HRN HKy HBr hyl
        -- <I1
        go_wp2_with fail
        go_roundw
        case measure => first | omega | (simp [intOf]; have := HLT.out; omega)
        case rel => exact ⟨i + 1, _, by congr 1, by have := HLT.out; omega, HLz.out, HKz, HRN2, HB2⟩
        -- I1>
      · obtain rfl : i = t.length := by omega
        have e1 : decide ((t.length : Int) < (t.length : Int)) = false := decide_eq_false (by omega)
        have e2 : decide (t.length < t.length) = false := decide_eq_false (by omega)
        have HYL := Aside0.mk hyl
        clear hi hlt hyl
        -- <J
        go_upto_region 29 with (first | ((with_reducible refine gate_builtin (b := .append) (xs := #[.tmp 160, .tmp 161]) rfl ?_); at_builtin; refine R_cp k50 (fun _ _ _ _ _ hk => by rw [k50_open hk]; exact k50_mkM _ _ _ _) rfl (.tmp 160) (.tmp 161) 26 50 (.agg #[.string ⟨#[]⟩, .bool false, .string ⟨#[]⟩, .int .i64 0, .int .i64 0, .int .i64 0, .int .i64 0]) 72 rfl Try.underlying26 (by kernel_rfl) rfl (by decide) (by decide) _ _ _ _ rfl rfl (R_at HRN.out).1 (by have := HPT.out.2; omega) ?_; intro A38 c38 v38 hR hB; have HG : Aside0 (k50.R 50 v38 wr.heap.size T (.slice A38 ys.length c38) ys ∧ Below wr.heap.size wr v38) := ⟨⟨hR, hB⟩⟩; clear hR hB))
        have hR := HG.out.1
        have hB := HG.out.2
        clear HG
        have HRN38 := Aside0.mk (Kd.R_below HRN.out hB)
        have HD38 := Aside0.mk (below_then HBr.out HBr.out.size hB)
        have HO := Aside0.mk hR
        clear hR
        clear hB HBr HRN
        -- <K
        obtain ⟨lx, hlx⟩ : ∃ l, foldsA fs ys text = l := ⟨_, rfl⟩
        obtain ⟨ly, hly⟩ : ∃ l, symsA ms ys text = l := ⟨_, rfl⟩
        have HLX := Aside0.mk hlx
        have HLY := Aside0.mk hly
        have HNX : Aside0 (lx.length ≤ 2097152) := ⟨by rw [← hlx]; exact foldsA_le HTX.out⟩
        have HNY : Aside0 (ly.length ≤ 1048576) := ⟨by rw [← hly]; exact Nat.le_trans symsA_le (by rw [HYL.out]; exact HPT.out.2)⟩
        clear hlx hly
        obtain ⟨mo, hmo⟩ : ∃ m, ys.length = m := ⟨_, rfl⟩
        have HMO : Aside0 (ys.length = mo) := ⟨hmo⟩
        have HOB : Aside0 (k50.C v38 A38 mo ys ∧ mo ≤ c38 ∧ mo ≤ 1048576) := ⟨by rw [← hmo]; exact ⟨(Kd.R_reads' HO.out).2.2, (Kd.R_reads' HO.out).2.1, by rw [HYL.out]; exact HPT.out.2⟩⟩
        rw [hmo]
        clear hmo HO
        have HMN : Aside0 (k50.C v38 Am t.length ys ∧ t.length ≤ c33 ∧ t.length ≤ 1048576) := ⟨(R_at HRN38.out).1, (R_at HRN38.out).2, HPT.out.2⟩
        clear HRN38
        have p0 := (HC2.out.moved HD38.out).p0
        have p1 := (HC2.out.moved HD38.out).p1
        have HWB := Aside0.mk ((HC2.out.moved HD38.out))
        clear HC2 HD38
        go_region_held3 (fun w' => w'.cell? ⟨gX, 0, none⟩ = some (.slice FA fs.length cf) ∧ w'.cell? ⟨gX, 1, none⟩ = some (.slice MA ms.length cm))
          (first | exact ⟨p0, p1⟩ | exact ⟨q10, q11⟩ | exact ⟨q20, q21⟩ | exact ⟨q30, q31⟩ | exact ⟨q40, q41⟩ | exact ⟨q50, q51⟩ | exact ⟨q60, q61⟩ | exact ⟨q70, q71⟩ | exact ⟨q80, q81⟩ | exact ⟨q90, q91⟩ | exact ⟨qa0, qa1⟩)
          (first | (go_at_call 13; refine (sameS_calls HR9.out HS9.out HNY.out).mono ?_; rintro e xa ⟨rfl, hB⟩; have qa0 := (HX9.out.moved hB).p0; have qa1 := (HX9.out.moved hB).p1; have HXa := Aside0.mk (HX9.out.moved hB); clear hB) | (go_at_call 11; refine (syms_to (w := x8) HLY.out HMO.out HOB8.out.1 HOB8.out.2 HKy.out HL8.out HPM.out.2).mono ?_; rintro e x9 ⟨B9, d9, rfl, hR, hB⟩; have q90 := (HX8.out.moved hB).p0; have q91 := (HX8.out.moved hB).p1; have HX9 := Aside0.mk (HX8.out.moved hB); have HS9 := Aside0.mk hR; have HR9 := Aside0.mk (Kd.R_below HR8.out hB); clear hR hB) | (go_at_call 12; refine (HX7.out.lang HPF.out HPM.out (W := x7)).mono ?_; rintro e x8 ⟨G8, N8, dg8, dn8, rfl, hf, hm, hB⟩; have q80 := (HX7.out.moved hB).p0; have q81 := (HX7.out.moved hB).p1; have HX8 := Aside0.mk (HX7.out.moved hB); have HL8 := Aside0.mk hm; have HR8 := Aside0.mk (Kd.R_below HR7.out hB); have HOB8 := Aside0.mk (And.intro (Kd.C_below HOB7.out.1 hB) HOB7.out.2); clear hf hm hB) | (go_at_call 11; refine (syms_to (w := x6) HLY.out HYL.out HMN6.out.1 HMN6.out.2 HKy.out HL6.out HPM.out.2).mono ?_; rintro e x7 ⟨B7, d7, rfl, hR, hB⟩; have q70 := (HX6.out.moved hB).p0; have q71 := (HX6.out.moved hB).p1; have HX7 := Aside0.mk (HX6.out.moved hB); have HR7 := Aside0.mk hR; have HOB7 := Aside0.mk (And.intro (Kd.C_below HOB6.out.1 hB) HOB6.out.2); clear hR hB) | (go_at_call 12; refine (HX5.out.lang HPF.out HPM.out (W := x5)).mono ?_; rintro e x6 ⟨G6, N6, dg6, dn6, rfl, hf, hm, hB⟩; have q60 := (HX5.out.moved hB).p0; have q61 := (HX5.out.moved hB).p1; have HX6 := Aside0.mk (HX5.out.moved hB); have HL6 := Aside0.mk hm; have HMN6 := Aside0.mk (And.intro (Kd.C_below HMN5.out.1 hB) HMN5.out.2); have HOB6 := Aside0.mk (And.intro (Kd.C_below HOB5.out.1 hB) HOB5.out.2); clear hf hm hB) | (go_at_call 27; refine (sameF_calls HR4.out HS4.out HNX.out).mono ?_; rintro e x5 ⟨rfl, hB⟩; have q50 := (HX4.out.moved hB).p0; have q51 := (HX4.out.moved hB).p1; have HX5 := Aside0.mk (HX4.out.moved hB); have HMN5 := Aside0.mk (And.intro (Kd.C_below HMN4.out.1 hB) HMN4.out.2); have HOB5 := Aside0.mk (And.intro (Kd.C_below HOB4.out.1 hB) HOB4.out.2); clear hB) | (go_at_call 26; refine (folds_to (w := x3) HLX.out HMO.out HOB3.out.1 HOB3.out.2 HKy.out HL3.out HPF.out.2 HTX.out).mono ?_; rintro e x4 ⟨B4, d4, rfl, hR, hB⟩; have q40 := (HX3.out.moved hB).p0; have q41 := (HX3.out.moved hB).p1; have HX4 := Aside0.mk (HX3.out.moved hB); have HS4 := Aside0.mk hR; have HR4 := Aside0.mk (Kd.R_below HR3.out hB); have HMN4 := Aside0.mk (And.intro (Kd.C_below HMN3.out.1 hB) HMN3.out.2); have HOB4 := Aside0.mk (And.intro (Kd.C_below HOB3.out.1 hB) HOB3.out.2); clear hR hB) | (go_at_call 12; refine (HX2.out.lang HPF.out HPM.out (W := x2)).mono ?_; rintro e x3 ⟨G3, N3, dg3, dn3, rfl, hf, hm, hB⟩; have q30 := (HX2.out.moved hB).p0; have q31 := (HX2.out.moved hB).p1; have HX3 := Aside0.mk (HX2.out.moved hB); have HL3 := Aside0.mk hf; have HR3 := Aside0.mk (Kd.R_below HR2.out hB); have HMN3 := Aside0.mk (And.intro (Kd.C_below HMN2.out.1 hB) HMN2.out.2); have HOB3 := Aside0.mk (And.intro (Kd.C_below HOB2.out.1 hB) HOB2.out.2); clear hf hm hB) | (go_at_call 26; refine (folds_to (w := x1) HLX.out HYL.out HMN1.out.1 HMN1.out.2 HKy.out HL1.out HPF.out.2 HTX.out).mono ?_; rintro e x2 ⟨B2, d2, rfl, hR, hB⟩; have q20 := (HX1.out.moved hB).p0; have q21 := (HX1.out.moved hB).p1; have HX2 := Aside0.mk (HX1.out.moved hB); have HR2 := Aside0.mk hR; have HMN2 := Aside0.mk (And.intro (Kd.C_below HMN1.out.1 hB) HMN1.out.2); have HOB2 := Aside0.mk (And.intro (Kd.C_below HOB1.out.1 hB) HOB1.out.2); clear hR hB) | (go_at_call 12; refine ((HWB.out.moved (below_drew (Below.refl _ _))).lang HPF.out HPM.out (W := v38.drew)).mono ?_; rintro e x1 ⟨G1, N1, dg1, dn1, rfl, hf, hm, hB⟩; have q10 := ((HWB.out.moved (below_drew (Below.refl _ _))).moved hB).p0; have q11 := ((HWB.out.moved (below_drew (Below.refl _ _))).moved hB).p1; have HX1 := Aside0.mk ((HWB.out.moved (below_drew (Below.refl _ _))).moved hB); have HL1 := Aside0.mk hf; have HMN1 := Aside0.mk (And.intro (Kd.C_below (Kd.C_below HMN.out.1 (below_drew (Below.refl _ _))) hB) HMN.out.2); have HOB1 := Aside0.mk (And.intro (Kd.C_below (Kd.C_below HOB.out.1 (below_drew (Below.refl _ _))) hB) HOB.out.2); clear hf hm hB))
        go_wp2_with fail
        go_ret
        exact ⟨rfl, HXa.out.b⟩
end Go.Proofs.Ytknagjiipelfnaa.AR
