/- trellisref15: Kids, Parent of a forest's node. -/
import Derived.Test.YtknagjiipelfnaaFind
namespace Go.Proofs.Ytknagjiipelfnaa.OL
open Go.RowKit Go.WideShapes Go.ChangeShapes Go.Proofs.YtknagjiipelfnaaW.PrintWords Go.Proofs.YtknagjiipelfnaaW.PrintLast Go.Proofs.YtknagjiipelfnaaW.PrintMore Go.Proofs.Ytknagjiipelfnaa.PAll
set_option linter.unusedVariables false

def poF (F : List S143) (i : Nat) : Int := (poL (-1) F).getD i (-1)
set_option maxRecDepth 100000 in
set_option maxHeartbeats 8000000 in
theorem RParent_calls (A : Option Addr) (c : Nat) (t : List S50) (F : List S143) (i : Nat) (w : World) (hF : Fo t 0 F) (hi : i < t.length) (hr : Kd.C k50 w A t.length t) (hc : t.length ≤ c) (hl : t.length ≤ 1048576) :
    Calls Try.prog 38 #[.slice A t.length c, .int .i64 (i : Int)] w fun e w' => e = .returned (.int .i64 (poF F i)) ∧ Below w.heap.size w w' := by
  obtain ⟨kf, hkf⟩ := forest_ok hl hF
  have hfc := trellisref15_Forest.calls kf A c t F true w hr hc hkf
  obtain ⟨y, q, h1, h2, h3⟩ := hF.find (-1) i hi
  rw [Nat.zero_add] at h3
  have hpo : poF F i = q := by unfold poF; rw [List.getD_eq_getElem?_getD, h2]; rfl
  have HX := Aside0.mk (And.intro h3 hpo)
  have HN := Aside0.mk (And.intro hF.ndlen hl)
  clear hkf h1 h2 h3 hpo hF hr hc hl hi
  go_enter Try.func38, Try.ntmps38
  go_wp2_with fail
  refine hfc.mono ?_
  rintro e w1 ⟨v, rfl, hv, hB⟩
  obtain ⟨Av, cv, rfl, lv, rv⟩ := Kd.R_reads hv
  have HB1 := Aside0.mk hB
  have HC1 := Aside0.mk (And.intro rv lv)
  clear hfc hv hB lv rv
  go_wp2_with fail
  refine (find_calls _ F Av cv (i : Int) (-1) w1 w1 (Below.refl _ _) rfl (by rw [HN.out.1]; exact HN.out.2) HC1.out.1 HC1.out.2).mono ?_
  rintro e w2 ⟨A', c', rfl, -, -, hB⟩
  rw [HX.out.1]
  have HB2 := Aside0.mk (below_then HB1.out HB1.out.size hB)
  rw [show fdV (some (y, q)) A' c' = .tuple #[.agg #[.string y.f0.f0, .bool y.f0.f1, .string y.f0.f2, .int .i64 y.f0.f3, .int .i64 y.f0.f4, .int .i64 y.f0.f5, .int .i64 y.f0.f6, .slice A' y.f1.length c', .int .i64 y.f2], .int .i64 q, .bool true] from rfl]
  clear hB
  go_wp2_with fail
  go_ret
  exact ⟨by rw [HX.out.2]; rfl, HB2.out.alloc HB2.out.size _⟩
set_option maxRecDepth 100000 in
set_option maxHeartbeats 8000000 in
theorem RKids_calls (A : Option Addr) (c : Nat) (t : List S50) (F : List S143) (i : Nat) (w : World) (hF : Fo t 0 F) (hi : i < t.length) (hr : Kd.C k50 w A t.length t) (hc : t.length ≤ c) (hl : t.length ≤ 1048576) :
    Calls Try.prog 67 #[.slice A t.length c, .int .i64 (i : Int)] w fun e w' => ∃ v, e = .returned v ∧ RI w' w.heap.size v (kidsF F i) ∧ Below w.heap.size w w' := by
  obtain ⟨kf, hkf⟩ := forest_ok hl hF
  have hfc := trellisref15_Forest.calls kf A c t F true w hr hc hkf
  obtain ⟨y, q, h1, h2, h3⟩ := hF.find (-1) i hi
  rw [Nat.zero_add] at h3
  have hki : kidsF F i = y.f1.map (·.f2) := by unfold kidsF; rw [h1]
  have hkl := kids_len hF hi
  rw [hki, List.length_map] at hkl
  have HX := Aside0.mk (And.intro h3 hki)
  have HN := Aside0.mk (And.intro hF.ndlen (And.intro hl hkl))
  clear hkf h1 h2 h3 hki hF hr hc hl hi hkl
  go_enter Try.func67, Try.ntmps67
  go_wp2_with fail
  refine hfc.mono ?_
  rintro e w1 ⟨v, rfl, hv, hB⟩
  obtain ⟨Av, cv, rfl, lv, rv⟩ := Kd.R_reads hv
  have HB1 := Aside0.mk hB
  have HC1 := Aside0.mk (And.intro rv lv)
  clear hfc hv hB lv rv
  go_wp2_with fail
  refine (find_calls _ F Av cv (i : Int) (-1) w1 w1 (Below.refl _ _) rfl (by rw [HN.out.1]; exact HN.out.2.1) HC1.out.1 HC1.out.2).mono ?_
  rintro e w2 ⟨A', c', rfl, hc2, hl2, hB⟩
  rw [HX.out.1] at hc2 hl2 ⊢
  have hc3 : k143.C w1 A' y.f1.length y.f1 := hc2
  have hl3 : y.f1.length ≤ c' := hl2
  obtain ⟨oT, hoT⟩ : ∃ o : Obj, o = .cells #[.string y.f0.f0, .bool y.f0.f1, .string y.f0.f2, .int .i64 y.f0.f3, .int .i64 y.f0.f4, .int .i64 y.f0.f5, .int .i64 y.f0.f6, .slice A' y.f1.length c', .int .i64 y.f2] 143 (0, 0) := ⟨_, rfl⟩
  have hba : Below w2.heap.size w2 (w2.alloc oT) := below_alloc (Below.refl _ _) _
  have hb12 := below_then hB hB.size hba
  have HB3 := Aside0.mk (below_then HB1.out HB1.out.size hb12)
  have HCT := Aside0.mk (Kd.C_below hc3 hb12)
  have KT := Aside0.mk ((heap_alloc_new w2 oT).trans (congrArg some hoT))
  have HL3 := Aside0.mk hl3
  rw [show fdV (some (y, q)) A' c' = .tuple #[.agg #[.string y.f0.f0, .bool y.f0.f1, .string y.f0.f2, .int .i64 y.f0.f3, .int .i64 y.f0.f4, .int .i64 y.f0.f5, .int .i64 y.f0.f6, .slice A' y.f1.length c', .int .i64 y.f2], .int .i64 q, .bool true] from rfl]
  clear hc2 hl2 hc3 hl3 hba hb12 hB HB1 HC1
  go_upto_region 3 with fail
  rw [← hoT]
  clear hoT
  obtain ⟨gT, hgT⟩ : ∃ g, w2.heap.size = g := ⟨_, rfl⟩
  generalize w2.alloc oT = w3 at HB3 HCT KT ⊢
  rw [hgT] at KT ⊢
  clear hgT
  go_wp2_with fail
  go_loopw [10, 11] (fun v10 v11 wr => ∃ j : Nat, v11 = .int .i64 (j : Int) ∧ j ≤ y.f1.length ∧ Aside0 (RI wr w3.heap.size v10 ((y.f1.map (·.f2)).take j)) ∧ Aside0 (Below w3.heap.size w3 wr)) (fun _ v11 _ => y.f1.length - (intOf v11).toNat)
  case atStart => exact ⟨0, rfl, by omega, ⟨RI.nil _ _⟩, ⟨Below.refl _ _⟩⟩
  case round =>
    obtain ⟨j, rfl, hj, HRo, HBr⟩ := hrel
    have HCr := Aside0.mk (Kd.C_below HCT.out HBr.out)
    have KTr := Aside0.mk ((HBr.out.block _ (blk_lt KT.out)).trans KT.out)
    have t7 : wr.cell? ⟨gT, 7, none⟩ = some (.slice A' y.f1.length c') := (blk_cell KTr.out 7).trans rfl
    by_cases hlt : j < y.f1.length
    · have e1 : decide ((j : Int) < (y.f1.length : Int)) = true := decide_eq_true (by omega)
      have e2 : decide (j < y.f1.length) = true := decide_eq_true hlt
      have e3 : (j : Int) < (y.f1.length : Int) := by omega
      have hl := HN.out.2
      have e4 : IntKind.i64.wrap ((j : Int) + 1) = (j : Int) + 1 := (i64_w _).trans (w64 (by omega) (by omega))
      obtain ⟨ad, A7, c7, hA, y0, y1, y2, y3, y4, y5, y6, y7, y8, l7, g7⟩ := at_T143 HCr.out (j : Int) (by omega) (by omega)
      rw [Int.toNat_natCast] at y8
      have htk : (y.f1.map (·.f2)).take (j + 1) = (y.f1.map (·.f2)).take j ++ [(rd_T143 y.f1 (j : Int)).f2] := by
        rw [List.take_add_one]
        congr 1
        unfold rd_T143
        rw [Int.toNat_natCast, List.getD_eq_getElem?_getD, List.getElem?_map, List.getElem?_eq_getElem hlt]
        rfl
      obtain ⟨p, hp⟩ : ∃ p, (rd_T143 y.f1 (j : Int)).f2 = p := ⟨_, rfl⟩
      rw [hp] at y8 htk
      have HTK := Aside0.mk htk
      have HLT := Aside0.mk hlt
      have hlen : ((y.f1.map (·.f2)).take j).length = j := by rw [List.length_take, List.length_map]; omega
      obtain ⟨Ao, co, rfl, -, -⟩ := HRo.out.opens
      rw [hlen] at HRo ⊢
      have HJL := Aside0.mk hlen
      obtain ⟨xs, hxs⟩ : ∃ xs, (y.f1.map (·.f2)).take j = xs := ⟨_, rfl⟩
      rw [hxs] at HRo HTK HJL
      subst hA
      clear hj hlt htk hp y0 y1 y2 y3 y4 y5 y6 y7 l7 g7 hlen hxs hl
      go_wp2_with (first | ((with_reducible refine gate_builtin (b := .append) (xs := #[.tmp 31, .tmp 38]) rfl ?_); at_builtin; refine RI_appL (w0 := w3) w3.heap.size rfl (.tmp 31) (.tmp 38) rfl Try.underlying90 info3 (.slice Ao j co) xs p _ 1 rfl rfl ?aO (lit1_C (heap_alloc_new _ _)) ?aB ?aS ?aL ?_; (case aO => exact HRo.out.below (below_alloc (Below.refl _ _) _)); (case aB => exact below_then HBr.out HBr.out.size (below_alloc (Below.refl _ _) _)); (case aS => exact Nat.le_trans HBr.out.size (Below.size (below_alloc (Below.refl _ _) _))); (case aL => rw [HJL.out]; have := HLT.out; have := HN.out.2; omega); intro v1 w9 ho hb hg; have HR9 := Aside0.mk ho; have HB9 := Aside0.mk hb; clear ho hb hg))
      go_roundw
      case measure => first | omega | (simp [intOf]; have := HLT.out; omega)
      case rel => exact ⟨j + 1, by congr 1, by have := HLT.out; omega, ⟨by rw [HTK.out]; exact HR9.out⟩, HB9⟩
    · have e1 : decide ((j : Int) < (y.f1.length : Int)) = false := decide_eq_false (by omega)
      have e2 : decide (j < y.f1.length) = false := decide_eq_false hlt
      obtain rfl : j = y.f1.length := by omega
      rw [List.take_of_length_le (by rw [List.length_map]; exact Nat.le_refl _)] at HRo
      clear hj hlt
      go_wp2_with fail
      go_ret
      exact ⟨_, rfl, by rw [HX.out.2]; exact HRo.out.lower HB3.out.size, below_then HB3.out HB3.out.size HBr.out⟩
end Go.Proofs.Ytknagjiipelfnaa.OL
