/- trellislaw22.OutlineFolds: the law's own walk. -/
import Derived.Test.YtknagjiipelfnaaOwn
import Derived.Test.YtknagjiipelfnaaLang
import Derived.Test.YtknagjiipelfnaaRFolds
namespace Go.Proofs.Ytknagjiipelfnaa.OL
open Go.RowKit Go.WideShapes Go.ChangeShapes Go.Proofs.YtknagjiipelfnaaW.PrintWords Go.Proofs.YtknagjiipelfnaaW.PrintLast Go.Proofs.YtknagjiipelfnaaW.PrintMore Go.Proofs.Ytknagjiipelfnaa.PAll
open Go.Proofs.Ytknagjiipelfnaa.SO (foldsA foldsF outR_len OFolds_calls RFolds_calls RF)
set_option linter.unusedVariables false

theorem foldsA_len {fs : List ByteArray} {t : List S50} {text : ByteArray} (hs : text.size ≤ 1048576) : (foldsA fs t text).length ≤ 2097152 := by
  unfold foldsA
  split
  · unfold foldsF
    exact Nat.le_trans (outR_len _ _) (by have := PT.rowN_le text text.size; omega)
  · exact Nat.zero_le _
theorem sameF_go {xs : List S82} (hl : xs.length ≤ 2097152) : ∀ d i, xs.length - i = d → i ≤ xs.length → ∃ k, trellislaw22_sameFolds.l0 k xs xs (i : Int) = some true := by
  intro d
  induction d with
  | zero =>
    intro i hd hi
    exact ⟨1, by rw [trellislaw22_sameFolds.l0, if_neg (by omega)]⟩
  | succ d ih =>
    intro i hd hi
    obtain ⟨k, hk⟩ := ih (i + 1) (by omega) (by omega)
    have e : wrap64 ((i : Int) + 1) = ((i + 1 : Nat) : Int) := (w64 (by omega) (by omega)).trans (by omega)
    refine ⟨k + 1, ?_⟩
    rw [trellislaw22_sameFolds.l0, if_pos (by omega), if_pos (by omega), if_pos (by omega), if_neg (by simp), e]
    exact hk
theorem sameF_calls (A B : Option Addr) (c d : Nat) (xs : List S82) (w : World) (ha : Kd.C k82 w A xs.length xs) (hc : xs.length ≤ c) (hb : Kd.C k82 w B xs.length xs) (hd : xs.length ≤ d) (hl : xs.length ≤ 2097152) :
    Calls Try.prog 27 #[.slice A xs.length c, .slice B xs.length d] w fun e w' => e = .returned (.bool true) ∧ Below w.heap.size w w' := by
  obtain ⟨k, hk⟩ := sameF_go hl xs.length 0 rfl (Nat.zero_le _)
  exact (trellislaw22_sameFolds.calls k A c xs B d xs true w ha hc hb hd (by rw [trellislaw22_sameFolds.f, if_pos rfl]; exact hk)).mono fun e w' ⟨h1, h2⟩ => ⟨h1, h2.below⟩
theorem OFolds_at {m : Nat} (FA A : Option Addr) (cf c : Nat) (vM : Value) (fs : List ByteArray) (t : List S50) (text : ByteArray) (w : World) (hm0 : t.length = m) (hr : Kd.C k50 w A t.length t) (hc : m ≤ c) (hl : m ≤ 1048576) (hk : ∀ x ∈ t, x.f5 ≤ 9223372036854775807)
    (hf : Kd.C Kd.string w FA fs.length fs) (hfc : fs.length ≤ cf) (hfl : fs.length ≤ 1048576) (hts : text.size ≤ 1048576) :
    Calls Try.prog 26 #[.agg (langC (.slice FA fs.length cf) vM), .slice A m c, .string text] w fun e w' => ∃ v, e = .returned v ∧ RF w' w.heap.size v (foldsA fs t text) ∧ Below w.heap.size w w' := by
  subst hm0
  exact OFolds_calls FA A cf c vM fs t text w hr hc hl hk hf hfc hfl hts
theorem RFolds_at {m : Nat} (FA A : Option Addr) (cf c : Nat) (vM : Value) (fs : List ByteArray) (t : List S50) (text : ByteArray) (w : World) (hm0 : t.length = m) (hr : Kd.C k50 w A t.length t) (hc : m ≤ c) (hl : m ≤ 1048576)
    (hf : Kd.C Kd.string w FA fs.length fs) (hfc : fs.length ≤ cf) (hfl : fs.length ≤ 1048576) (hts : text.size ≤ 1048576) :
    Calls Try.prog 28 #[.agg (langC (.slice FA fs.length cf) vM), .slice A m c, .string text] w fun e w' => ∃ v, e = .returned v ∧ RF w' w.heap.size v (foldsA fs t text) ∧ Below w.heap.size w w' := by
  subst hm0
  exact RFolds_calls FA A cf c vM fs t text w hr hc hl hf hfc hfl hts
set_option maxRecDepth 100000 in
set_option maxHeartbeats 16000000 in
theorem OutlineFolds_calls (FA MA A : Option Addr) (cf cm c : Nat) (fs : List ByteArray) (ms : List Mk) (t : List S50) (text : ByteArray) (w : World)
    (hf : Kd.string.C w FA fs.length fs) (hfc : fs.length ≤ cf) (hfl : fs.length ≤ 1048576) (hm : Kd.C k129 w MA ms.length ms) (hmc : ms.length ≤ cm) (hml : ms.length ≤ 1048576)
    (hr : Kd.C k50 w A t.length t) (hc : t.length ≤ c) (hl : t.length ≤ 1048576) (hk : ∀ x ∈ t, x.f5 ≤ 9223372036854775807) (hts : text.size ≤ 1048576) :
    Calls Try.prog 6 #[.agg #[.slice FA fs.length cf, .slice MA ms.length cm], .slice A t.length c, .string text] w fun e w' => e = .returned (.bool true) ∧ Below w.heap.size w w' := by
  obtain ⟨oX, hoX⟩ : ∃ o : Obj, o = .cells #[.slice FA fs.length cf, .slice MA ms.length cm] 25 (0, 0) := ⟨_, rfl⟩
  have hba : Below w.heap.size w (w.alloc oX) := below_alloc (Below.refl _ _) _
  have KX := Aside0.mk ((heap_alloc_new w oX).trans (congrArg some hoX))
  have HB := Aside0.mk hba
  have HFw := Aside0.mk hf
  have HMw := Aside0.mk hm
  have HRw := Aside0.mk hr
  have HPF := Aside0.mk (And.intro hfc hfl)
  have HPM := Aside0.mk (And.intro hmc hml)
  have HPT := Aside0.mk (And.intro hc hl)
  have HK := Aside0.mk hk
  have HTX := Aside0.mk hts
  clear hba hf hfc hfl hm hmc hml hr hc hl hk hts
  go_enter Try.func6, Try.ntmps6
  go_wp2_with fail
  rw [← hoX]
  clear hoX
  obtain ⟨gX, hgX⟩ : ∃ g, w.heap.size = g := ⟨_, rfl⟩
  have GX : Aside0 (w.heap.size = gX) := ⟨hgX⟩
  generalize w.alloc oX = w0 at KX HB ⊢
  rw [hgX] at KX ⊢
  clear hgX
  obtain ⟨r, hcall⟩ := Beyond_calls A c t w0 (Kd.C_below HRw.out HB.out) HPT.out.1 HPT.out.2
  refine hcall.mono ?_
  clear hcall
  rintro e w1 ⟨rfl, hB⟩
  have KX1 := Aside0.mk ((hB.block _ (blk_lt KX.out)).trans KX.out)
  have HB1 := Aside0.mk (below_then HB.out HB.out.size hB)
  clear hB KX HB
  cases r with
  | true =>
    go_wp2_with fail
    go_ret
    exact ⟨rfl, HB1.out⟩
  | false =>
    go_wp2_with fail
    refine (trellislaw22_roomy.calls A c t _ w1 (Kd.C_below HRw.out HB1.out) HPT.out.1 (roomy_f HPT.out.2)).mono ?_
    rintro e w2 ⟨v, rfl, hR, hB⟩
    obtain ⟨A2, ca, rfl⟩ := Kd.R_slice hR
    obtain ⟨gA, rfl, hga, -⟩ := RN.at_ (show RN w2 w1.heap.size _ _ from hR) (by simp)
    have hlo := HB1.out.size
    have hgx1 := blk_lt KX1.out
    have OW2 : Aside0 (OwS w w2 gX gA (t ++ [mark77, mark77]).length ca FA MA fs.length ms.length cf cm t) := ⟨⟨(hB.block _ (blk_lt KX1.out)).trans KX1.out, Kd.R_lower hR hlo, by omega, by omega, below_then HB1.out HB1.out.size hB⟩⟩
    clear hB hR KX1 HB1 hga hgx1 hlo
    obtain ⟨n2, hn2⟩ : ∃ n, (t ++ [mark77, mark77]).length = n := ⟨_, rfl⟩
    rw [hn2] at OW2 ⊢
    clear hn2
    have hcap := OW2.out.cap
    obtain ⟨i0, hi0, -, hsz, -⟩ := info_parts info50
    have hcut := cut_to (P := Try.prog) 26 50 .i64 Try.underlying26 hi0 (some ⟨gA, 0, none⟩) n2 ca (t.length : Int) (by omega) (by omega) (by omega)
    rw [Int.toNat_natCast] at hcut
    have p0 : w2.cell? ⟨gX, 0, none⟩ = some (.slice FA fs.length cf) := (blk_cell OW2.out.kx 0).trans rfl
    have p1 : w2.cell? ⟨gX, 1, none⟩ = some (.slice MA ms.length cm) := (blk_cell OW2.out.kx 1).trans rfl
    have HCAP := Aside0.mk hcap
    clear hi0 hsz hcap
    go_wp2_with fail
    refine (lang_calls FA MA cf cm fs ms w2 (Kd.C_below HFw.out OW2.out.b) HPF.out.1 HPF.out.2 (Kd.C_below HMw.out OW2.out.b) HPM.out.1 HPM.out.2).mono ?_
    rintro e w3 ⟨F3, M3, cf3, cm3, rfl, hm, hmc, hf, hfc, hB⟩
    have OW3 := Aside0.mk (OW2.out.moved hB)
    have HM3 := Aside0.mk (And.intro hf hfc)
    clear hcut hB hm hmc hf hfc OW2 p0 p1
    go_wp2_with fail
    refine (OFolds_calls F3 (some ⟨gA, 0, none⟩) cf3 ca (.slice M3 ms.length cm3) fs t text w3 OW3.out.row (by have := HCAP.out; omega) HPT.out.2 HK.out HM3.out.1 HM3.out.2 HPF.out.2 HTX.out).mono ?_
    rintro e w4 ⟨v, rfl, hR, hB⟩
    obtain ⟨S4, cs4, rfl⟩ := Kd.R_slice hR
    have OW4 := Aside0.mk (OW3.out.moved hB)
    have HS4 := Aside0.mk (And.intro (Kd.R_reads' hR).2.2 (Kd.R_reads' hR).2.1)
    clear hB hR OW3 HM3
    have p0 : w4.cell? ⟨gX, 0, none⟩ = some (.slice FA fs.length cf) := (blk_cell OW4.out.kx 0).trans rfl
    have p1 : w4.cell? ⟨gX, 1, none⟩ = some (.slice MA ms.length cm) := (blk_cell OW4.out.kx 1).trans rfl
    go_wp2_with fail
    refine (lang_calls FA MA cf cm fs ms w4 (Kd.C_below HFw.out OW4.out.b) HPF.out.1 HPF.out.2 (Kd.C_below HMw.out OW4.out.b) HPM.out.1 HPM.out.2).mono ?_
    rintro e w5 ⟨F5, M5, cf5, cm5, rfl, hm, hmc, hf, hfc, hB⟩
    have OW5 := Aside0.mk (OW4.out.moved hB)
    have HM5 := Aside0.mk (And.intro hf hfc)
    have HS5 := Aside0.mk (And.intro (Kd.C_below HS4.out.1 hB) HS4.out.2)
    clear hB hm hmc hf hfc OW4 HS4 p0 p1
    go_wp2_with fail
    refine (RFolds_calls F5 A cf5 c (.slice M5 ms.length cm5) fs t text w5 (Kd.C_below HRw.out OW5.out.b) HPT.out.1 HPT.out.2 HM5.out.1 HM5.out.2 HPF.out.2 HTX.out).mono ?_
    rintro e w6 ⟨v, rfl, hR, hB⟩
    obtain ⟨S6, cs6, rfl⟩ := Kd.R_slice hR
    have OW6 := Aside0.mk (OW5.out.moved hB)
    have HS6 := Aside0.mk (And.intro (Kd.R_reads' hR).2.2 (Kd.R_reads' hR).2.1)
    have HS56 := Aside0.mk (And.intro (Kd.C_below HS5.out.1 hB) HS5.out.2)
    clear hB hR OW5 HM5 HS5
    go_wp2_with fail
    refine (sameF_calls S4 S6 cs4 cs6 (foldsA fs t text) w6 HS56.out.1 HS56.out.2 HS6.out.1 HS6.out.2 (foldsA_len HTX.out)).mono ?_
    rintro e w7 ⟨rfl, hB⟩
    have OW7 := Aside0.mk (OW6.out.moved hB)
    clear hB OW6 HS6 HS56
    go_wp2_with fail
    refine (spared_calls (some ⟨gA, 0, none⟩) A ca c n2 t w7 (by have := HCAP.out; omega) (by have h := (Kd.R_reads' OW7.out.r).2.2; exact h) HCAP.out.2 (Kd.C_below HRw.out OW7.out.b) HPT.out.1 HPT.out.2).mono ?_
    rintro e w8 ⟨rfl, hB⟩
    have OW8 := Aside0.mk (OW7.out.moved hB)
    clear hB OW7
    go_wp2_with fail
    go_loopw [10] (fun v10 wr => ∃ (i : Nat) (xs : List S50), v10 = .int .i64 (i : Int) ∧ i ≤ t.length ∧ xs.length = t.length ∧ Aside0 (∀ x ∈ xs, x.f5 ≤ 9223372036854775807) ∧ Aside0 (OwS w wr gX gA n2 ca FA MA fs.length ms.length cf cm xs)) (fun v10 _ => t.length - (intOf v10).toNat)
    case atStart => exact ⟨0, t, rfl, Nat.zero_le _, rfl, HK, OW8⟩
    case round =>
      obtain ⟨i, xs, rfl, hi, hxl, HKx, OWr⟩ := hrel
      clear OW8
      by_cases hlt : i < t.length
      · have e1 : decide ((i : Int) < (t.length : Int)) = true := decide_eq_true (by omega)
        have e2 : decide (i < t.length) = true := decide_eq_true hlt
        have e3 : (i : Int) < (t.length : Int) := by omega
        have hl := HPT.out.2
        have hc := HPT.out.1
        have hcp := HCAP.out
        obtain ⟨q, hq⟩ : ∃ q, t.length - 1 = q := ⟨_, rfl⟩
        obtain ⟨k, hk⟩ : ∃ k, q - i = k := ⟨_, rfl⟩
        have e4 : IntKind.i64.wrap ((t.length : Int) - 1) = (q : Int) := (i64_w _).trans ((w64 (by omega) (by omega)).trans (by omega))
        have e5 : IntKind.i64.wrap ((q : Int) - (i : Int)) = (k : Int) := (i64_w _).trans ((w64 (by omega) (by omega)).trans (by omega))
        have e6 : IntKind.i64.wrap ((i : Int) + 1) = (i : Int) + 1 := (i64_w _).trans (w64 (by omega) (by omega))
        have e7 : (k : Int) < (t.length : Int) := by omega
        have e8 : k < t.length := by omega
        have e9 : (i : Int) < (n2 : Int) := by omega
        obtain ⟨ad, hA, y0, y1, y2, y3, y4, y5, y6⟩ := at_T50 (Kd.C_below HRw.out OWr.out.b) (k : Int) (by omega) (by omega)
        rw [Int.toNat_natCast] at y0
        obtain ⟨z0, -⟩ := RN.cells OWr.out.r i (by omega)
        obtain ⟨x1, hx1, OWs⟩ := OWr.out.put i (by omega) (rd_T50 t (k : Int)).f0
        have hkx := kids_set HKx.out (by omega) hx1
        have hl1 : (xs.set i x1).length = t.length := by rw [List.length_set]; exact hxl
        obtain ⟨-, z1, -⟩ := RN.cells OWs.r i (by omega)
        obtain ⟨x2, hx2, OWt0⟩ := OWs.put1 i (by omega) true
        have HKt := Aside0.mk (kids_set hkx (by omega) hx2)
        have HLt : Aside0 (((xs.set i x1).set i x2).length = t.length) := ⟨by rw [List.length_set]; exact hl1⟩
        have z0f := RN.frozen OWr.out.r (i * 7)
        have z1f := RN.frozen OWs.r (i * 7 + 1)
        obtain ⟨nmk, hnmk⟩ : ∃ b, (rd_T50 t (k : Int)).f0 = b := ⟨_, rfl⟩
        rw [hnmk] at y0 OWt0 z1 z1f
        have OWt := Aside0.mk OWt0
        have HLT := Aside0.mk hlt
        subst hA
        clear hi hlt hl hc hcp hq hk y1 y2 y3 y4 y5 y6 hx1 hx2 hkx hl1 hnmk OWr OWs HKx OWt0
        go_wp2_with fail
        go_roundw
        case measure => first | omega | (simp [intOf]; have := HLT.out; omega)
        case rel => exact ⟨i + 1, (xs.set i x1).set i x2, by congr 1, by have := HLT.out; omega, HLt.out, HKt, OWt⟩
      · obtain rfl : i = t.length := by omega
        have OW9 := Aside0.mk OWr.out
        have HX := Aside0.mk hxl
        have p0 : wr.cell? ⟨gX, 0, none⟩ = some (.slice FA fs.length cf) := (blk_cell OWr.out.kx 0).trans rfl
        have p1 : wr.cell? ⟨gX, 1, none⟩ = some (.slice MA ms.length cm) := (blk_cell OWr.out.kx 1).trans rfl
        clear hi hlt OWr
        go_wp2_with fail
        refine (lang_calls FA MA cf cm fs ms wr (Kd.C_below HFw.out OW9.out.b) HPF.out.1 HPF.out.2 (Kd.C_below HMw.out OW9.out.b) HPM.out.1 HPM.out.2).mono ?_
        rintro e wa ⟨F5, M5, cf5, cm5, rfl, hm, hmc, hf, hfc, hB⟩
        have OWa := Aside0.mk (OW9.out.moved hB)
        have HM5 := Aside0.mk (And.intro hf hfc)
        clear hB hm hmc hf hfc OW9 p0 p1
        go_wp2_with fail
        have hXl : xs.length ≤ 1048576 := by rw [HX.out]; exact HPT.out.2
        have HXl := Aside0.mk hXl
        clear hXl
        refine (RFolds_at F5 (some ⟨gA, 0, none⟩) cf5 ca (.slice M5 ms.length cm5) fs xs text wa HX.out OWa.out.row (by have := OWa.out.cap; have := HX.out; omega) HPT.out.2 HM5.out.1 HM5.out.2 HPF.out.2 HTX.out).mono ?_
        rintro e wb ⟨v, rfl, hR, hB⟩
        obtain ⟨S6, cs6, rfl⟩ := Kd.R_slice hR
        have OWb := Aside0.mk (OWa.out.moved hB)
        have HS6 := Aside0.mk (And.intro (Kd.R_reads' hR).2.2 (Kd.R_reads' hR).2.1)
        clear hB hR OWa HM5
        have p0 : wb.cell? ⟨gX, 0, none⟩ = some (.slice FA fs.length cf) := (blk_cell OWb.out.kx 0).trans rfl
        have p1 : wb.cell? ⟨gX, 1, none⟩ = some (.slice MA ms.length cm) := (blk_cell OWb.out.kx 1).trans rfl
        go_wp2_with fail
        refine (lang_calls FA MA cf cm fs ms wb (Kd.C_below HFw.out OWb.out.b) HPF.out.1 HPF.out.2 (Kd.C_below HMw.out OWb.out.b) HPM.out.1 HPM.out.2).mono ?_
        rintro e wd ⟨F7, M7, cf7, cm7, rfl, hm, hmc, hf, hfc, hB⟩
        have OWd := Aside0.mk (OWb.out.moved hB)
        have HM7 := Aside0.mk (And.intro hf hfc)
        have HS7 := Aside0.mk (And.intro (Kd.C_below HS6.out.1 hB) HS6.out.2)
        clear hB hm hmc hf hfc OWb HS6 p0 p1
        go_wp2_with fail
        refine (OFolds_at F7 (some ⟨gA, 0, none⟩) cf7 ca (.slice M7 ms.length cm7) fs xs text wd HX.out OWd.out.row (by have := OWd.out.cap; have := HX.out; omega) HPT.out.2 HKx.out HM7.out.1 HM7.out.2 HPF.out.2 HTX.out).mono ?_
        rintro e we ⟨v, rfl, hR, hB⟩
        obtain ⟨S8, cs8, rfl⟩ := Kd.R_slice hR
        have OWe := Aside0.mk (OWd.out.moved hB)
        have HS8 := Aside0.mk (And.intro (Kd.R_reads' hR).2.2 (Kd.R_reads' hR).2.1)
        have HS9 := Aside0.mk (And.intro (Kd.C_below HS7.out.1 hB) HS7.out.2)
        clear hB hR OWd HM7 HS7
        go_wp2_with fail
        refine (sameF_calls S8 S6 cs8 cs6 (foldsA fs xs text) we HS8.out.1 HS8.out.2 HS9.out.1 HS9.out.2 (foldsA_len HTX.out)).mono ?_
        rintro e wf ⟨rfl, hB⟩
        have OWf := Aside0.mk (OWe.out.moved hB)
        clear hB OWe HS8 HS9
        go_wp2_with fail
        go_ret
        exact ⟨rfl, OWf.out.b⟩
end Go.Proofs.Ytknagjiipelfnaa.OL
