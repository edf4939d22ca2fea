/- trellislaw22.OutlineMoves: the law's own walk. -/
import Derived.Test.YtknagjiipelfnaaMovesPure
import Derived.Test.YtknagjiipelfnaaBeyo
namespace Go.Proofs.Ytknagjiipelfnaa.MV
open Go.RowKit Go.WideShapes Go.ChangeShapes Go.Proofs.YtknagjiipelfnaaW.PrintWords Go.Proofs.YtknagjiipelfnaaW.PrintLast Go.Proofs.YtknagjiipelfnaaW.PrintMore Go.Proofs.Ytknagjiipelfnaa.PAll
open Go.Proofs.Ytknagjiipelfnaa.OL Go.Proofs.Ytknagjiipelfnaa.SO
set_option linter.unusedVariables false

/-- The lines' box, what stood. -/
structure BoX (w w1 : World) (gX : Nat) (FA MA : Option Addr) (nf nm cf cm : Nat) : Prop where
  kx : w1.heap[gX]? = some (.cells #[.slice FA nf cf, .slice MA nm cm] 25 (0, 0))
  b : Below w.heap.size w w1
theorem BoX.moved {w w1 w2 : World} {gX : Nat} {FA MA : Option Addr} {nf nm cf cm : Nat} (h : BoX w w1 gX FA MA nf nm cf cm) (hb : Below w1.heap.size w1 w2) : BoX w w2 gX FA MA nf nm cf cm :=
  ⟨(hb.block _ (blk_lt h.kx)).trans h.kx, below_then h.b h.b.size hb⟩
/-- A row of nodes of one's own above what stood. -/
structure FoN (w1 wr : World) (v : Value) (xs : List S50) : Prop where
  o : k50.R 50 wr w1.heap.size (fun _ => True) v xs
  b : Below w1.heap.size w1 wr
theorem FoN.moved {w1 wr w2 : World} {v : Value} {xs : List S50} (h : FoN w1 wr v xs) (hb : Below wr.heap.size wr w2) : FoN w1 w2 v xs := ⟨Kd.R_below h.o hb, below_then h.b h.b.size hb⟩
theorem FoN.nil (w : World) : FoN w w (.slice none 0 0) [] := ⟨Kd.R_nil _ _ _ _ _, Below.refl _ _⟩
theorem lit50 {w : World} {g : Nat} {x : S50} (h : w.heap[g]? = some (nC x)) : k50.C w (some ⟨g, 0, none⟩) 1 [x] := by
  refine ⟨rfl, by decide, fun _ => ⟨⟨g, 0, none⟩, rfl, fun j y hj => ?_⟩⟩
  cases j with
  | succ j => simp at hj
  | zero =>
    simp only [List.getElem?_cons_zero] at hj
    injection hj with hj
    subst hj
    refine ⟨[.string x.f0, .bool x.f1, .string x.f2, .int .i64 x.f3, .int .i64 x.f4, .int .i64 x.f5, .int .i64 x.f6], rfl, k50_mk _ _, fun i u hi => ?_⟩
    match i, hi with
    | 0, hi => rw [← hi]; exact (blk_cell h 0).trans rfl
    | 1, hi => rw [← hi]; exact (blk_cell h 1).trans rfl
    | 2, hi => rw [← hi]; exact (blk_cell h 2).trans rfl
    | 3, hi => rw [← hi]; exact (blk_cell h 3).trans rfl
    | 4, hi => rw [← hi]; exact (blk_cell h 4).trans rfl
    | 5, hi => rw [← hi]; exact (blk_cell h 5).trans rfl
    | 6, hi => rw [← hi]; exact (blk_cell h 6).trans rfl
    | n + 7, hi => simp at hi
theorem R50_appL {P : Program} {ops : Array Oper} {rest : List Oper} {o : Oper} {a : Act} {Q : Exit → Act → World → Prop} {w0 W : World} (base : Nat) (hgd : o.guard = none) (s x : Operand)
    (ho : o.op = .call { callee := .builtin .append, args := #[s, x], argTypes := #[26, 26] })
    (ht : P.underlying 26 = some (.slice 50)) (hinfo : (P.info? 50).map (fun i => (i.zero, i.size, i.bytes)) = some (some (.agg #[.string ⟨#[]⟩, .bool false, .string ⟨#[]⟩, .int .i64 0, .int .i64 0, .int .i64 0, .int .i64 0]), 7, 72))
    (v : Value) (xs : List S50) (p : S50) (A : Option Addr) (c : Nat) (hs : a.eval s = v) (hx : a.eval x = .slice A 1 c)
    (HO : k50.R 50 W base (fun _ => True) v xs) (HR : k50.C W A 1 [p]) (HB : Below base w0 W) (hbase : base ≤ W.heap.size) (hl : xs.length ≤ 2097152)
    (h : ∀ v1 w1, k50.R 50 w1 base (fun _ => True) v1 (xs ++ [p]) → Below base w0 w1 → W.grownBy w1 v.ownBlock → wpList P ops Q rest (a.put o.dst v1) w1) :
    wpList P ops Q (o :: rest) a W :=
  Kd.R_append_rows (P := P) (ops := ops) (rest := rest) (o := o) (a := a) (Q := Q) k50 (Rr := k50.K W) (w0 := w0) base hgd s x 26 50 (.agg #[.string ⟨#[]⟩, .bool false, .string ⟨#[]⟩, .int .i64 0, .int .i64 0, .int .i64 0, .int .i64 0]) 72 ho ht hinfo rfl (by decide) (by omega) v xs [p] A 1 c (fun _ => True) (fun _ => False) hs hx HO HR (fun y cs hk => by rw [k50_open hk]; exact k50_mkM _ _ _ _) (fun _ hk => hk.elim) (fun _ _ => trivial) HB hbase (by omega) (fun v1 w1 h1 h2 h3 _ => h v1 w1 h1 h2 h3)
theorem foldsA_bd {fs : List ByteArray} {t : List S50} {text : ByteArray} (hs : text.size ≤ 1100000) : ∀ y ∈ foldsA fs t text, (0 ≤ y.f0 ∧ y.f0 ≤ 2097152) ∧ (0 ≤ y.f1 ∧ y.f1 ≤ 2097152) := fun y hy => by
  unfold foldsA at hy
  split at hy
  · obtain ⟨i, hi, he⟩ := mem_get (mem_foldsF.1 hy).1
    have := allF_bd fs text t hs i
    rw [he] at this
    exact this
  · cases hy
theorem symsA_bd {ms : List Mk} {t : List S50} {text : ByteArray} (hin : ∀ x ∈ t, 0 ≤ x.f3 ∧ x.f3 ≤ x.f4 ∧ x.f4 ≤ (text.size : Int)) : ∀ y ∈ symsA ms t text, (0 ≤ y.f2 ∧ y.f2 ≤ text.size) ∧ (0 ≤ y.f3 ∧ y.f3 ≤ text.size) := fun y hy => by
  unfold symsA at hy
  split at hy
  · split at hy
    · unfold symsF at hy
      obtain ⟨o, ho, rfl⟩ := List.mem_map.1 hy
      have h1 := (runS_mem _ _ _ _ ho).1
      have := hin (rd_T50 t (o.1 : Int)) (mem_rd (by omega))
      unfold mkSym
      exact ⟨⟨by show 0 ≤ (rd_T50 t (o.1 : Int)).f3; omega, by show (rd_T50 t (o.1 : Int)).f3 ≤ _; omega⟩, by show 0 ≤ (rd_T50 t (o.1 : Int)).f4; omega, by show (rd_T50 t (o.1 : Int)).f4 ≤ _; omega⟩
    · cases hy
  · cases hy
theorem foldsA_len2 {fs : List ByteArray} {t : List S50} {text : ByteArray} (hs : text.size ≤ 1100000) : (foldsA fs t text).length ≤ 2097152 := by
  unfold foldsA
  split
  · unfold foldsF
    exact Nat.le_trans (outR_len _ _) (by have := PT.rowN_le text text.size; omega)
  · exact Nat.zero_le _
theorem runS_len2 {sy : Nat → Option Int} {en : Nat → Int} : ∀ (m i : Nat) (S : List Int), (runS sy en m i S).1.length ≤ m := by
  intro m
  induction m with
  | zero => intro i S; exact Nat.le_refl _
  | succ m ih =>
    intro i S
    rw [runS]
    split
    · exact Nat.le_succ_of_le (ih _ _)
    · exact Nat.succ_le_succ (ih _ _)
theorem symsA_len2 {ms : List Mk} {t : List S50} {text : ByteArray} : (symsA ms t text).length ≤ t.length := by
  unfold symsA
  split
  · split
    · unfold symsF
      rw [List.length_map]
      exact runS_len2 _ _ _
    · exact Nat.zero_le _
  · exact Nat.zero_le _
theorem rd82_map {k : Nat} {l : List S82} {i : Nat} (h : i < l.length) : rd_T82 (l.map (shF k)) (i : Int) = shF k (rd_T82 l (i : Int)) ∧ rd_T82 l (i : Int) ∈ l := by
  unfold rd_T82
  rw [Int.toNat_natCast, List.getD_eq_getElem?_getD, List.getD_eq_getElem?_getD, List.getElem?_map, List.getElem?_eq_getElem h]
  exact ⟨rfl, List.getElem_mem h⟩
theorem rd84_map {k : Nat} {l : List S84} {i : Nat} (h : i < l.length) : rd_T84 (l.map (shS k)) (i : Int) = shS k (rd_T84 l (i : Int)) ∧ rd_T84 l (i : Int) ∈ l := by
  unfold rd_T84
  rw [Int.toNat_natCast, List.getD_eq_getElem?_getD, List.getD_eq_getElem?_getD, List.getElem?_map, List.getElem?_eq_getElem h]
  exact ⟨rfl, List.getElem_mem h⟩
theorem not_right {t : List S50} {text : ByteArray} {i : Nat} (hi : i < t.length) (h : okN text (rd_T50 t (i : Int)) = false) : rightF t text = false := by
  cases hr : rightF t text with
  | false => rfl
  | true =>
    unfold rightF at hr
    rw [Bool.and_eq_true] at hr
    have := List.all_eq_true.1 hr.1 _ (mem_rd hi)
    rw [h] at this
    cases this
theorem OFolds_m {m : Nat} (FA A : Option Addr) (cf c : Nat) (vM : Value) (fs : List ByteArray) (t : List S50) (text : ByteArray) (w : World) (hm0 : t.length = m) (hr : Kd.C k50 w A t.length t) (hc : m ≤ c) (hl : m ≤ 1048576) (hk : ∀ x ∈ t, x.f5 ≤ 9223372036854775807)
    (hf : Kd.C Kd.string w FA fs.length fs) (hfc : fs.length ≤ cf) (hfl : fs.length ≤ 1048576) (hts : text.size ≤ 1100000) :
    Calls Try.prog 26 #[.agg (langC (.slice FA fs.length cf) vM), .slice A m c, .string text] w fun e w' => ∃ v, e = .returned v ∧ RF w' w.heap.size v (foldsA fs t text) ∧ Below w.heap.size w w' := by
  subst hm0
  exact OFolds_calls FA A cf c vM fs t text w hr hc hl hk hf hfc hfl hts
theorem OSyms_m {m : Nat} (vF : Value) (A M : Option Addr) (c cm : Nat) (t : List S50) (ms : List Mk) (text : ByteArray) (w : World) (hm0 : t.length = m) (hr : Kd.C k50 w A t.length t) (hc : m ≤ c) (hl : m ≤ 1048576) (hk : ∀ x ∈ t, x.f5 ≤ 9223372036854775807)
    (hm : Kd.C k129 w M ms.length ms) (hmc : ms.length ≤ cm) (hml : ms.length ≤ 1048576) :
    Calls Try.prog 11 #[.agg (langC vF (.slice M ms.length cm)), .slice A m c, .string text] w fun e w' => ∃ v, e = .returned v ∧ k84.R 84 w' w.heap.size (fun _ => True) v (symsA ms t text) ∧ Below w.heap.size w w' := by
  subst hm0
  exact OSymbolsA_calls vF A M c cm t ms text w hr hc hl hk hm hmc hml
attribute [local go_sem high] eqA82 eqA84
set_option maxRecDepth 100000 in
set_option maxHeartbeats 16000000 in
theorem OutlineMoves_calls (FA MA A : Option Addr) (cf cm c : Nat) (fs : List ByteArray) (ms : List Mk) (t : List S50) (text : ByteArray) (kk : Int) (w : World)
    (hf : Kd.string.C w FA fs.length fs) (hfc : fs.length ≤ cf) (hfl : fs.length ≤ 1048576) (hm : Kd.C k129 w MA ms.length ms) (hmc : ms.length ≤ cm) (hml : ms.length ≤ 1048576)
    (hr : Kd.C k50 w A t.length t) (hc : t.length ≤ c) (hl : t.length ≤ 1048576) (hk : ∀ x ∈ t, x.f5 ≤ 9223372036854775807) (hts : text.size ≤ 1048576) (hkk : kk ≤ 9223372036854775807) :
    Calls Try.prog 7 #[.agg #[.slice FA fs.length cf, .slice MA ms.length cm], .slice A t.length c, .string text, .int .i64 kk] w fun e w' => e = .returned (.bool true) ∧ Below w.heap.size w w' := by
  obtain ⟨oX, hoX⟩ : ∃ o : Obj, o = .cells #[.slice FA fs.length cf, .slice MA ms.length cm] 25 (0, 0) := ⟨_, rfl⟩
  have hba : Below w.heap.size w (w.alloc oX) := below_alloc (Below.refl _ _) _
  have KX := Aside0.mk ((heap_alloc_new w oX).trans (congrArg some hoX))
  have HB := Aside0.mk hba
  have HFw := Aside0.mk hf
  have HMw := Aside0.mk hm
  have HRw := Aside0.mk hr
  have HPF := Aside0.mk (And.intro hfc hfl)
  have HPM := Aside0.mk (And.intro hmc hml)
  have HPT := Aside0.mk (And.intro hc hl)
  have HK := Aside0.mk hk
  have HTX := Aside0.mk hts
  have HKK := Aside0.mk hkk
  clear hba hf hfc hfl hm hmc hml hr hc hl hk hts hkk
  go_enter Try.func7, Try.ntmps7
  go_wp2_with fail
  rw [← hoX]
  clear hoX
  obtain ⟨gX, hgX⟩ : ∃ g, w.heap.size = g := ⟨_, rfl⟩
  have GX : Aside0 (w.heap.size = gX) := ⟨hgX⟩
  generalize w.alloc oX = w0 at KX HB ⊢
  rw [hgX] at KX ⊢
  clear hgX
  obtain ⟨r, hcall⟩ := Beyond_calls A c t w0 (Kd.C_below HRw.out HB.out) HPT.out.1 HPT.out.2
  refine hcall.mono ?_
  clear hcall
  rintro e w1 ⟨rfl, hB⟩
  have BX1 : Aside0 (BoX w w1 gX FA MA fs.length ms.length cf cm) := ⟨⟨(hB.block _ (blk_lt KX.out)).trans KX.out, below_then HB.out HB.out.size hB⟩⟩
  clear hB KX HB
  cases r with
  | true =>
    go_wp2_with fail
    go_ret
    exact ⟨rfl, BX1.out.b⟩
  | false =>
    go_wp2_with fail
    refine (AW.awake_calls w1).mono ?_
    rintro e w2 ⟨rfl, hB⟩
    have BX2 := Aside0.mk (BX1.out.moved hB)
    clear hB BX1
    go_upto_if 24 with fail
    go_cut [3] (fun v3 wx => ∃ n : Nat, v3 = .int .i64 (n : Int) ∧ (n : Int) ≤ 9223372036854775807 ∧ wx = w2)
    case first =>
      by_cases hk0 : kk < 0
      · have d1 : decide (kk < 0) = true := decide_eq_true hk0
        go_wp2_with fail
        go_meet
        case rel => exact ⟨0, rfl, by omega, rfl⟩
      · have d1 : decide (kk < 0) = false := decide_eq_false hk0
        have HN : Aside0 (kk = (kk.toNat : Int)) := ⟨by omega⟩
        go_wp2_with fail
        go_meet
        case rel => exact ⟨kk.toNat, by rw [← HN.out], by rw [← HN.out]; exact HKK.out, rfl⟩
    case rest =>
    obtain ⟨n, rfl, hn, hwc⟩ := hcut
    rw [hwc]
    clear hwc wc
    obtain ⟨K, hK⟩ : ∃ K, n % 50 = K := ⟨_, rfl⟩
    have em : (n : Int) % 50 = (K : Int) := by omega
    have em2 : Int.tmod (n : Int) 50 = (K : Int) := by rw [Int.tmod_eq_emod_of_nonneg (by omega)]; exact em
    have HKL : Aside0 (K ≤ 49) := ⟨by omega⟩
    clear hK
    go_upto_region 9 with fail
    clear em em2 hn
    -- <A
    go_wp2_with fail
    go_loopw [9, 10, 11] (fun v9 v10 v11 wr => ∃ (i : Nat) (u : Value), v11 = u ∧ v10 = .int .i64 (i : Int) ∧ i ≤ t.length ∧ Aside0 (∀ j, j < i → okN text (rd_T50 t (j : Int)) = true) ∧ Aside0 (FoN w2 wr v9 ((t.take i).map (sh K)))) (fun _ v10 _ _ => t.length - (intOf v10).toNat)
    case atStart => exact ⟨0, _, rfl, rfl, Nat.zero_le _, ⟨fun j hj => by omega⟩, ⟨FoN.nil _⟩⟩
    case round =>
      obtain ⟨i, u, rfl, rfl, hi, HOK, HFr⟩ := hrel
      by_cases hlt : i < t.length
      · have e1 : decide ((i : Int) < (t.length : Int)) = true := decide_eq_true (by omega)
        have e2 : decide (i < t.length) = true := decide_eq_true hlt
        have e3 : (i : Int) < (t.length : Int) := by omega
        have hl := HPT.out.2
        have hc := HPT.out.1
        have e4 : IntKind.i64.wrap ((i : Int) + 1) = (i : Int) + 1 := (i64_w _).trans (OL.w64 (by omega) (by omega))
        obtain ⟨ad, hA, y0, y1, y2, y3, y4, y5, y6⟩ := at_T50 (Kd.C_below HRw.out (below_then BX2.out.b BX2.out.b.size HFr.out.b)) (i : Int) (by omega) (by omega)
        rw [Int.toNat_natCast] at y0 y1 y2 y3 y4 y5 y6
        have hnr := not_right (text := text) hlt
        have htk := take_succ t z50 hlt
        rw [show t.getD i z50 = rd_T50 t (i : Int) by unfold rd_T50; rw [Int.toNat_natCast]] at htk
        obtain ⟨x, hx⟩ : ∃ x, rd_T50 t (i : Int) = x := ⟨_, rfl⟩
        rw [hx] at y0 y1 y2 y3 y4 y5 y6 hnr htk
        have HNR := Aside0.mk hnr
        have HTK : Aside0 ((t.take (i + 1)).map (sh K) = (t.take i).map (sh K) ++ [sh K x]) := ⟨by rw [htk, List.map_append]; rfl⟩
        have HLT := Aside0.mk hlt
        have HX := Aside0.mk hx
        have HAA : Aside0 (A = some ad) := ⟨hA⟩
        clear hx hi hlt hc hl hnr htk
        subst hA
        obtain ⟨oN, hoN⟩ : ∃ o : Obj, o = .cells #[.string x.f0, .bool x.f1, .string x.f2, .int .i64 x.f3, .int .i64 x.f4, .int .i64 x.f5, .int .i64 x.f6] 50 (0, 0) := ⟨_, rfl⟩
        go_upto_region 13 with fail
        rw [← hoN]
        have KN : Aside0 ((wr.alloc oN).heap[wr.heap.size]? = some (nC x)) := ⟨(heap_alloc_new wr oN).trans (congrArg some hoN)⟩
        have HA5 : Aside0 (Below wr.heap.size wr (wr.alloc oN)) := ⟨below_alloc (Below.refl _ _) oN⟩
        clear hoN y0 y1 y2 y3 y4 y5 y6
        obtain ⟨gN, hgN⟩ : ∃ g, wr.heap.size = g := ⟨_, rfl⟩
        have GN := Aside0.mk hgN
        generalize wr.alloc oN = w5 at KN HA5 ⊢
        rw [hgN] at KN ⊢
        clear hgN
        have n3 : w5.cell? ⟨gN, 3, none⟩ = some (.int .i64 x.f3) := (blk_cell KN.out 3).trans rfl
        have n4 : w5.cell? ⟨gN, 4, none⟩ = some (.int .i64 x.f4) := (blk_cell KN.out 4).trans rfl
        go_cut [53] (fun v wx => v = .bool (!(okN text x)) ∧ wx = w5)
        case first =>
          have HOD : Aside0 (okN text x = !(decide (x.f3 < 0) || decide (x.f4 < x.f3) || decide ((text.size : Int) < x.f4))) := ⟨rfl⟩
          cases b1 : decide (x.f3 < 0) with
          | true =>
            have H1 := Aside0.mk b1
            go_wp2_with fail
            go_meet
            case rel => exact ⟨by rw [HOD.out, H1.out]; rfl, rfl⟩
          | false =>
            have H1 := Aside0.mk b1
            cases b2 : decide (x.f4 < x.f3) with
            | true =>
              have H2 := Aside0.mk b2
              go_wp2_with fail
              go_meet
              case rel => exact ⟨by rw [HOD.out, H1.out, H2.out]; rfl, rfl⟩
            | false =>
              have H2 := Aside0.mk b2
              cases b3 : decide ((text.size : Int) < x.f4) with
              | true =>
                have H3 := Aside0.mk b3
                go_wp2_with fail
                go_meet
                case rel => exact ⟨by rw [HOD.out, H1.out, H2.out, H3.out]; rfl, rfl⟩
              | false =>
                have H3 := Aside0.mk b3
                go_wp2_with fail
                go_meet
                case rel => exact ⟨by rw [HOD.out, H1.out, H2.out, H3.out]; rfl, rfl⟩
        case rest =>
        obtain ⟨rfl, hwc⟩ := hcut
        rw [hwc]
        clear hwc wc
        cases hok : okN text x with
        | false =>
          have HRF : Aside0 (rightF t text = false) := ⟨HNR.out hok⟩
          have HF0 : Aside0 (foldsA fs t text = []) := ⟨by unfold foldsA; rw [HRF.out]; rfl⟩
          have HS0 : Aside0 (symsA ms t text = []) := ⟨symsA_no HRF.out⟩
          have BX5 := Aside0.mk ((BX2.out.moved HFr.out.b).moved HA5.out)
          clear hok n3 n4
          -- <A1
          as_aux_lemma =>
            have p0 : w5.cell? ⟨gX, 0, none⟩ = some (.slice FA fs.length cf) := (blk_cell BX5.out.kx 0).trans rfl
            have p1 : w5.cell? ⟨gX, 1, none⟩ = some (.slice MA ms.length cm) := (blk_cell BX5.out.kx 1).trans rfl
            go_wp2_with fail
            refine (lang_calls FA MA cf cm fs ms w5 (Kd.C_below HFw.out BX5.out.b) HPF.out.1 HPF.out.2 (Kd.C_below HMw.out BX5.out.b) HPM.out.1 HPM.out.2).mono ?_
            rintro e w6 ⟨F6, M6, cf6, cm6, rfl, hm, hmc, hf, hfc, hB⟩
            have BX6 := Aside0.mk (BX5.out.moved hB)
            have HM6 := Aside0.mk (And.intro hm hmc)
            have HF6 := Aside0.mk (And.intro hf hfc)
            clear hB hm hmc hf hfc p0 p1
            go_wp2_with fail
            refine (OFolds_calls F6 (some ad) cf6 c (.slice M6 ms.length cm6) fs t text w6 (Kd.C_below HRw.out BX6.out.b) HPT.out.1 HPT.out.2 HK.out HF6.out.1 HF6.out.2 HPF.out.2 (by have := HTX.out; omega)).mono ?_
            rintro e w7 ⟨v, rfl, hR, hB⟩
            have BX7 := Aside0.mk (BX6.out.moved hB)
            rw [HF0.out] at hR
            obtain ⟨A7, c7, rfl⟩ := Kd.R_slice hR
            simp only [List.length_nil]
            clear hR hB
            have p0 : w7.cell? ⟨gX, 0, none⟩ = some (.slice FA fs.length cf) := (blk_cell BX7.out.kx 0).trans rfl
            have p1 : w7.cell? ⟨gX, 1, none⟩ = some (.slice MA ms.length cm) := (blk_cell BX7.out.kx 1).trans rfl
            go_wp2_with fail
            refine (lang_calls FA MA cf cm fs ms w7 (Kd.C_below HFw.out BX7.out.b) HPF.out.1 HPF.out.2 (Kd.C_below HMw.out BX7.out.b) HPM.out.1 HPM.out.2).mono ?_
            rintro e w8 ⟨F8, M8, cf8, cm8, rfl, hm, hmc, hf, hfc, hB⟩
            have BX8 := Aside0.mk (BX7.out.moved hB)
            have HM8 := Aside0.mk (And.intro hm hmc)
            have HF8 := Aside0.mk (And.intro hf hfc)
            clear hB hm hmc hf hfc p0 p1
            go_wp2_with fail
            refine (OSymbolsA_calls (.slice F8 fs.length cf8) (some ad) M8 c cm8 t ms text w8 (Kd.C_below HRw.out BX8.out.b) HPT.out.1 HPT.out.2 HK.out HM8.out.1 HM8.out.2 HPM.out.2).mono ?_
            rintro e w9 ⟨v, rfl, hR, hB⟩
            have BX9 := Aside0.mk (BX8.out.moved hB)
            rw [HS0.out] at hR
            obtain ⟨A9, c9, rfl⟩ := Kd.R_slice hR
            simp only [List.length_nil]
            clear hR hB
            go_wp2_with fail
            go_ret
            exact ⟨rfl, BX9.out.b⟩
          -- A1>
        | true =>
          have hin : 0 ≤ x.f3 ∧ x.f3 ≤ x.f4 ∧ x.f4 ≤ (text.size : Int) := by
            unfold okN at hok
            simp at hok
            omega
          have htx := HTX.out
          have hkl := HKL.out
          have e5 : IntKind.i64.wrap (x.f3 + (K : Int)) = x.f3 + (K : Int) := (i64_w _).trans (OL.w64 (by omega) (by omega))
          have e6 : IntKind.i64.wrap (x.f4 + (K : Int)) = x.f4 + (K : Int) := (i64_w _).trans (OL.w64 (by omega) (by omega))
          have z3 := blk_frozen KN.out 3
          have z4 := blk_frozen KN.out 4
          have HOK2 : Aside0 (∀ j, j < i + 1 → okN text (rd_T50 t (j : Int)) = true) := ⟨fun j hj => by
            by_cases e : j = i
            · subst e; rw [HX.out]; exact hok
            · exact HOK.out j (by omega)⟩
          have kN6 : ((w5.setCell ⟨gN, 3, none⟩ (.int .i64 (x.f3 + (K : Int)))).setCell ⟨gN, 4, none⟩ (.int .i64 (x.f4 + (K : Int)))).heap[gN]? = some (nC (sh K x)) := (blk_set ((blk_set KN.out 3 _).trans rfl) 4 _).trans rfl
          have hb6 : Below wr.heap.size wr ((w5.setCell ⟨gN, 3, none⟩ (.int .i64 (x.f3 + (K : Int)))).setCell ⟨gN, 4, none⟩ (.int .i64 (x.f4 + (K : Int)))) := (HA5.out.setCell (show wr.heap.size ≤ gN by have := GN.out; omega) _).setCell (show wr.heap.size ≤ gN by have := GN.out; omega) _
          have KN6 := Aside0.mk kN6
          have HB6 := Aside0.mk hb6
          clear hin htx hkl kN6 hb6 hok
          -- <A2
          go_upto_region 17 with fail
          generalize (w5.setCell ⟨gN, 3, none⟩ (.int .i64 (x.f3 + (K : Int)))).setCell ⟨gN, 4, none⟩ (.int .i64 (x.f4 + (K : Int))) = w6 at KN6 HB6 ⊢
          have HF6 := Aside0.mk (HFr.out.moved HB6.out)
          clear n3 n4 z3 z4 KN HA5 e5 e6
          have m0 : w6.cell? ⟨gN, 0, none⟩ = some (.string x.f0) := (blk_cell KN6.out 0).trans rfl
          have m1 : w6.cell? ⟨gN, 1, none⟩ = some (.bool x.f1) := (blk_cell KN6.out 1).trans rfl
          have m2 : w6.cell? ⟨gN, 2, none⟩ = some (.string x.f2) := (blk_cell KN6.out 2).trans rfl
          have m3 : w6.cell? ⟨gN, 3, none⟩ = some (.int .i64 (x.f3 + (K : Int))) := (blk_cell KN6.out 3).trans rfl
          have m4 : w6.cell? ⟨gN, 4, none⟩ = some (.int .i64 (x.f4 + (K : Int))) := (blk_cell KN6.out 4).trans rfl
          have m5 : w6.cell? ⟨gN, 5, none⟩ = some (.int .i64 x.f5) := (blk_cell KN6.out 5).trans rfl
          have m6 : w6.cell? ⟨gN, 6, none⟩ = some (.int .i64 x.f6) := (blk_cell KN6.out 6).trans rfl
          go_wp2_with (first | ((with_reducible refine gate_builtin (b := .append) (xs := #[.tmp 80, .tmp 82]) rfl ?_); at_builtin; refine R50_appL (w0 := w2) w2.heap.size rfl (.tmp 80) (.tmp 82) rfl Try.underlying26 info50 _ ((t.take i).map (sh K)) (sh K x) _ 1 rfl rfl ?aO (lit50 (heap_alloc_new _ _)) ?aB ?aS ?aL ?_; (case aO => exact (HF6.out.moved (below_alloc (Below.refl _ _) _)).o); (case aB => exact (HF6.out.moved (below_alloc (Below.refl _ _) _)).b); (case aS => exact (HF6.out.moved (below_alloc (Below.refl _ _) _)).b.size); (case aL => rw [List.length_map, List.length_take]; have := HLT.out; have := HPT.out.2; omega); intro v1 w9 ho hb hg; have HF9 : Aside0 (FoN w2 w9 v1 ((t.take (i + 1)).map (sh K))) := ⟨⟨by rw [HTK.out]; exact ho, hb⟩⟩; clear ho hb hg))
          go_roundw
          case measure => first | omega | (simp [intOf]; have := HLT.out; omega)
          case rel => exact ⟨i + 1, _, rfl, by congr 1, by have := HLT.out; omega, HOK2, HF9⟩
          -- A2>
      · have e1 : decide ((i : Int) < (t.length : Int)) = false := decide_eq_false (by omega)
        have e2 : decide (i < t.length) = false := decide_eq_false hlt
        obtain rfl : i = t.length := by omega
        have HIN : Aside0 (∀ x ∈ t, 0 ≤ x.f3 ∧ x.f3 ≤ x.f4 ∧ x.f4 ≤ (text.size : Int)) := ⟨fun x hx => by
          obtain ⟨j, hj, he⟩ := List.mem_iff_getElem.1 hx
          have h := HOK.out j hj
          have e : rd_T50 t (j : Int) = x := by
            unfold rd_T50
            rw [Int.toNat_natCast, List.getD_eq_getElem?_getD, List.getElem?_eq_getElem hj]
            exact he
          rw [e] at h
          unfold okN at h
          simp at h
          omega⟩
        have HF9 : Aside0 (FoN w2 wr u9 (t.map (sh K))) := ⟨by have h := HFr.out; rwa [List.take_of_length_le (Nat.le_refl _)] at h⟩
        have BX3 := Aside0.mk (BX2.out.moved HFr.out.b)
        clear hi hlt HFr HOK
        -- <B
        as_aux_lemma =>
          obtain ⟨A9, c9, rfl⟩ := Kd.R_slice HF9.out.o
          have hmv := Kd.R_reads' HF9.out.o
          have HMV0 := Aside0.mk (And.intro hmv.2.2 hmv.2.1)
          clear hmv
          obtain ⟨m9, hm9⟩ : ∃ m, (t.map (sh K)).length = m := ⟨_, rfl⟩
          have HML : Aside0 (m9 = t.length) := ⟨by rw [← hm9, List.length_map]⟩
          have HM9 := Aside0.mk hm9
          rw [hm9] at HMV0 HF9 ⊢
          clear hm9
          have HKM : Aside0 (∀ x ∈ t.map (sh K), x.f5 ≤ 9223372036854775807) := ⟨fun x hx => by
            obtain ⟨y, hy, rfl⟩ := List.mem_map.1 hx
            exact HK.out y hy⟩
          have HSZ : Aside0 ((nlB K ++ text).size ≤ 1100000) := ⟨by rw [move_size]; have := HKL.out; have := HTX.out; omega⟩
          have hsz2 : (nlB K).size + text.size ≤ 9223372036854775807 := by rw [nlB_size]; have := HKL.out; have := HTX.out; omega
          have HMVL : Aside0 (∀ w', k50.C w' A9 m9 (t.map (sh K)) → k50.C w' A9 (t.map (sh K)).length (t.map (sh K))) := ⟨fun w' h => by rw [HM9.out]; exact h⟩
          clear HF9
          have p0 : wr.cell? ⟨gX, 0, none⟩ = some (.slice FA fs.length cf) := (blk_cell BX3.out.kx 0).trans rfl
          have p1 : wr.cell? ⟨gX, 1, none⟩ = some (.slice MA ms.length cm) := (blk_cell BX3.out.kx 1).trans rfl
          go_wp2_with fail
          refine (lang_calls FA MA cf cm fs ms wr (Kd.C_below HFw.out BX3.out.b) HPF.out.1 HPF.out.2 (Kd.C_below HMw.out BX3.out.b) HPM.out.1 HPM.out.2).mono ?_
          rintro e v1 ⟨F1, M1, cf1, cm1, rfl, hm, hmc, hf, hfc, hB⟩
          clear p0 p1
          have BY1 := Aside0.mk (BX3.out.moved hB)
          have HMV1 := Aside0.mk (And.intro (Kd.C_below HMV0.out.1 hB) HMV0.out.2)
          have HLM1 := Aside0.mk (And.intro hm hmc)
          have HLF1 := Aside0.mk (And.intro hf hfc)
          clear hm hmc hf hfc
          clear hB BX3 HMV0
          go_wp2_with fail
          refine (OFolds_calls F1 A cf1 c (.slice M1 ms.length cm1) fs t text v1 (Kd.C_below HRw.out BY1.out.b) HPT.out.1 HPT.out.2 HK.out HLF1.out.1 HLF1.out.2 HPF.out.2 (by have := HTX.out; omega)).mono ?_
          rintro e v2 ⟨v, rfl, hR, hB⟩
          obtain ⟨Aa, ca, rfl⟩ := Kd.R_slice hR
          have ha := And.intro (Kd.R_reads' hR).2.2 (Kd.R_reads' hR).2.1
          clear hR
          have BY2 := Aside0.mk (BY1.out.moved hB)
          have HMV2 := Aside0.mk (And.intro (Kd.C_below HMV1.out.1 hB) HMV1.out.2)
          have HLM2 := Aside0.mk (And.intro (Kd.C_below HLM1.out.1 hB) HLM1.out.2)
          have HLF2 := Aside0.mk (And.intro (Kd.C_below HLF1.out.1 hB) HLF1.out.2)
          have Ha2 := Aside0.mk ha
          clear ha
          clear hB BY1 HMV1 HLM1 HLF1
          have p0 : v2.cell? ⟨gX, 0, none⟩ = some (.slice FA fs.length cf) := (blk_cell BY2.out.kx 0).trans rfl
          have p1 : v2.cell? ⟨gX, 1, none⟩ = some (.slice MA ms.length cm) := (blk_cell BY2.out.kx 1).trans rfl
          go_wp2_with fail
          refine (lang_calls FA MA cf cm fs ms v2 (Kd.C_below HFw.out BY2.out.b) HPF.out.1 HPF.out.2 (Kd.C_below HMw.out BY2.out.b) HPM.out.1 HPM.out.2).mono ?_
          rintro e v3 ⟨F3, M3, cf3, cm3, rfl, hm, hmc, hf, hfc, hB⟩
          clear p0 p1
          have BY3 := Aside0.mk (BY2.out.moved hB)
          have HMV3 := Aside0.mk (And.intro (Kd.C_below HMV2.out.1 hB) HMV2.out.2)
          have Ha3 := Aside0.mk (And.intro (Kd.C_below Ha2.out.1 hB) Ha2.out.2)
          have HLM3 := Aside0.mk (And.intro hm hmc)
          have HLF3 := Aside0.mk (And.intro hf hfc)
          clear hm hmc hf hfc
          clear hB BY2 HMV2 Ha2
          go_wp2_with fail
          refine (ends_calls K (by have := HKL.out; omega) v3).mono ?_
          rintro e v4 ⟨rfl, hB⟩
          have BY4 := Aside0.mk (BY3.out.moved hB)
          have HMV4 := Aside0.mk (And.intro (Kd.C_below HMV3.out.1 hB) HMV3.out.2)
          have Ha4 := Aside0.mk (And.intro (Kd.C_below Ha3.out.1 hB) Ha3.out.2)
          have HLM4 := Aside0.mk (And.intro (Kd.C_below HLM3.out.1 hB) HLM3.out.2)
          have HLF4 := Aside0.mk (And.intro (Kd.C_below HLF3.out.1 hB) HLF3.out.2)
          clear hB BY3 HMV3 Ha3 HLM3 HLF3
          go_wp2_with fail
          refine (OFolds_m F3 A9 cf3 c9 (.slice M3 ms.length cm3) fs (t.map (sh K)) (nlB K ++ text) v4 HM9.out (HMVL.out _ HMV4.out.1) (by have := HMV4.out.2; omega) (by have := HML.out; have := HPT.out.2; omega) HKM.out HLF4.out.1 HLF4.out.2 HPF.out.2 HSZ.out).mono ?_
          rintro e v5 ⟨v, rfl, hR, hB⟩
          obtain ⟨Ab, cb, rfl⟩ := Kd.R_slice hR
          rw [foldsA_move K HIN.out] at hR
          rw [show (foldsA fs (t.map (sh K)) (nlB K ++ text)).length = (foldsA fs t text).length by rw [foldsA_move K HIN.out, List.length_map]]
          have hb := And.intro (Kd.R_reads' hR).2.2 (Kd.R_reads' hR).2.1
          clear hR
          have BY5 := Aside0.mk (BY4.out.moved hB)
          have HMV5 := Aside0.mk (And.intro (Kd.C_below HMV4.out.1 hB) HMV4.out.2)
          have Ha5 := Aside0.mk (And.intro (Kd.C_below Ha4.out.1 hB) Ha4.out.2)
          have HLM5 := Aside0.mk (And.intro (Kd.C_below HLM4.out.1 hB) HLM4.out.2)
          have HLF5 := Aside0.mk (And.intro (Kd.C_below HLF4.out.1 hB) HLF4.out.2)
          have Hb5 := Aside0.mk hb
          clear hb
          clear hB BY4 HMV4 Ha4 HLM4 HLF4
          have p0 : v5.cell? ⟨gX, 0, none⟩ = some (.slice FA fs.length cf) := (blk_cell BY5.out.kx 0).trans rfl
          have p1 : v5.cell? ⟨gX, 1, none⟩ = some (.slice MA ms.length cm) := (blk_cell BY5.out.kx 1).trans rfl
          go_wp2_with fail
          refine (lang_calls FA MA cf cm fs ms v5 (Kd.C_below HFw.out BY5.out.b) HPF.out.1 HPF.out.2 (Kd.C_below HMw.out BY5.out.b) HPM.out.1 HPM.out.2).mono ?_
          rintro e v6 ⟨F6, M6, cf6, cm6, rfl, hm, hmc, hf, hfc, hB⟩
          clear p0 p1
          have BY6 := Aside0.mk (BY5.out.moved hB)
          have HMV6 := Aside0.mk (And.intro (Kd.C_below HMV5.out.1 hB) HMV5.out.2)
          have Ha6 := Aside0.mk (And.intro (Kd.C_below Ha5.out.1 hB) Ha5.out.2)
          have Hb6 := Aside0.mk (And.intro (Kd.C_below Hb5.out.1 hB) Hb5.out.2)
          have HLM6 := Aside0.mk (And.intro hm hmc)
          have HLF6 := Aside0.mk (And.intro hf hfc)
          clear hm hmc hf hfc
          clear hB BY5 HMV5 Ha5 Hb5
          go_wp2_with fail
          refine (OSymbolsA_calls (.slice F6 fs.length cf6) A M6 c cm6 t ms text v6 (Kd.C_below HRw.out BY6.out.b) HPT.out.1 HPT.out.2 HK.out HLM6.out.1 HLM6.out.2 HPM.out.2).mono ?_
          rintro e v7 ⟨v, rfl, hR, hB⟩
          obtain ⟨As, cs, rfl⟩ := Kd.R_slice hR
          have hs := And.intro (Kd.R_reads' hR).2.2 (Kd.R_reads' hR).2.1
          clear hR
          have BY7 := Aside0.mk (BY6.out.moved hB)
          have HMV7 := Aside0.mk (And.intro (Kd.C_below HMV6.out.1 hB) HMV6.out.2)
          have Ha7 := Aside0.mk (And.intro (Kd.C_below Ha6.out.1 hB) Ha6.out.2)
          have Hb7 := Aside0.mk (And.intro (Kd.C_below Hb6.out.1 hB) Hb6.out.2)
          have HLM7 := Aside0.mk (And.intro (Kd.C_below HLM6.out.1 hB) HLM6.out.2)
          have HLF7 := Aside0.mk (And.intro (Kd.C_below HLF6.out.1 hB) HLF6.out.2)
          have Hs7 := Aside0.mk hs
          clear hs
          clear hB BY6 HMV6 Ha6 Hb6 HLM6 HLF6
          have p0 : v7.cell? ⟨gX, 0, none⟩ = some (.slice FA fs.length cf) := (blk_cell BY7.out.kx 0).trans rfl
          have p1 : v7.cell? ⟨gX, 1, none⟩ = some (.slice MA ms.length cm) := (blk_cell BY7.out.kx 1).trans rfl
          go_wp2_with fail
          refine (lang_calls FA MA cf cm fs ms v7 (Kd.C_below HFw.out BY7.out.b) HPF.out.1 HPF.out.2 (Kd.C_below HMw.out BY7.out.b) HPM.out.1 HPM.out.2).mono ?_
          rintro e v8 ⟨F8, M8, cf8, cm8, rfl, hm, hmc, hf, hfc, hB⟩
          clear p0 p1
          have BY8 := Aside0.mk (BY7.out.moved hB)
          have HMV8 := Aside0.mk (And.intro (Kd.C_below HMV7.out.1 hB) HMV7.out.2)
          have Ha8 := Aside0.mk (And.intro (Kd.C_below Ha7.out.1 hB) Ha7.out.2)
          have Hb8 := Aside0.mk (And.intro (Kd.C_below Hb7.out.1 hB) Hb7.out.2)
          have Hs8 := Aside0.mk (And.intro (Kd.C_below Hs7.out.1 hB) Hs7.out.2)
          have HLM8 := Aside0.mk (And.intro hm hmc)
          have HLF8 := Aside0.mk (And.intro hf hfc)
          clear hm hmc hf hfc
          clear hB BY7 HMV7 Ha7 Hb7 Hs7
          go_wp2_with fail
          refine (ends_calls K (by have := HKL.out; omega) v8).mono ?_
          rintro e v9 ⟨rfl, hB⟩
          have BY9 := Aside0.mk (BY8.out.moved hB)
          have HMV9 := Aside0.mk (And.intro (Kd.C_below HMV8.out.1 hB) HMV8.out.2)
          have Ha9 := Aside0.mk (And.intro (Kd.C_below Ha8.out.1 hB) Ha8.out.2)
          have Hb9 := Aside0.mk (And.intro (Kd.C_below Hb8.out.1 hB) Hb8.out.2)
          have Hs9 := Aside0.mk (And.intro (Kd.C_below Hs8.out.1 hB) Hs8.out.2)
          have HLM9 := Aside0.mk (And.intro (Kd.C_below HLM8.out.1 hB) HLM8.out.2)
          have HLF9 := Aside0.mk (And.intro (Kd.C_below HLF8.out.1 hB) HLF8.out.2)
          clear hB BY8 HMV8 Ha8 Hb8 Hs8 HLM8 HLF8
          go_wp2_with fail
          refine (OSyms_m (.slice F8 fs.length cf8) A9 M8 c9 cm8 (t.map (sh K)) ms (nlB K ++ text) v9 HM9.out (HMVL.out _ HMV9.out.1) (by have := HMV9.out.2; omega) (by have := HML.out; have := HPT.out.2; omega) HKM.out HLM9.out.1 HLM9.out.2 HPM.out.2).mono ?_
          rintro e v10 ⟨v, rfl, hR, hB⟩
          obtain ⟨Ad, cd, rfl⟩ := Kd.R_slice hR
          rw [symsA_move K HIN.out] at hR
          rw [show (symsA ms (t.map (sh K)) (nlB K ++ text)).length = (symsA ms t text).length by rw [symsA_move K HIN.out, List.length_map]]
          have hd := And.intro (Kd.R_reads' hR).2.2 (Kd.R_reads' hR).2.1
          clear hR
          have BY10 := Aside0.mk (BY9.out.moved hB)
          have HMV10 := Aside0.mk (And.intro (Kd.C_below HMV9.out.1 hB) HMV9.out.2)
          have Ha10 := Aside0.mk (And.intro (Kd.C_below Ha9.out.1 hB) Ha9.out.2)
          have Hb10 := Aside0.mk (And.intro (Kd.C_below Hb9.out.1 hB) Hb9.out.2)
          have Hs10 := Aside0.mk (And.intro (Kd.C_below Hs9.out.1 hB) Hs9.out.2)
          have HLM10 := Aside0.mk (And.intro (Kd.C_below HLM9.out.1 hB) HLM9.out.2)
          have HLF10 := Aside0.mk (And.intro (Kd.C_below HLF9.out.1 hB) HLF9.out.2)
          have Hd10 := Aside0.mk hd
          clear hd
          clear hB BY9 HMV9 Ha9 Hb9 Hs9 HLM9 HLF9
          have hll := foldsA_len2 (fs := fs) (t := t) (text := text) (by have := HTX.out; omega)
          have hls2 := Nat.le_trans (symsA_len2 (ms := ms) (t := t) (text := text)) HPT.out.2
          obtain ⟨la, hla⟩ : ∃ l, foldsA fs t text = l := ⟨_, rfl⟩
          obtain ⟨ls, hls⟩ : ∃ l, symsA ms t text = l := ⟨_, rfl⟩
          have hba := foldsA_bd (fs := fs) (t := t) (text := text) (by have := HTX.out; omega)
          have hbs := symsA_bd (ms := ms) HIN.out
          rw [hla] at Ha10 Hb10 hba hll ⊢
          rw [hls] at Hs10 Hd10 hbs hls2 ⊢
          have HLL := Aside0.mk hll
          have HLS := Aside0.mk hls2
          have HBA := Aside0.mk hba
          have HBS := Aside0.mk hbs
          clear hla hls hba hbs hsz2 hll hls2
          -- <C
          go_wp2_with fail
          go_loopw [16] (fun v16 wr => ∃ i : Nat, v16 = .int .i64 (i : Int) ∧ i ≤ la.length ∧ Aside0 (Below v10.heap.size v10 wr)) (fun v16 _ => la.length - (intOf v16).toNat)
          case atStart => exact ⟨0, rfl, Nat.zero_le _, ⟨Below.refl _ _⟩⟩
          case round =>
            obtain ⟨i, rfl, hi, HBr⟩ := hrel
            by_cases hlt : i < la.length
            · have e1 : decide ((i : Int) < (la.length : Int)) = true := decide_eq_true (by omega)
              have e2 : decide (i < la.length) = true := decide_eq_true hlt
              have e3 : (i : Int) < (la.length : Int) := by omega
              have hsm : la.length ≤ 1099999999 := Nat.le_of_lt_succ (by have := HLL.out; omega)
              have e4 : IntKind.i64.wrap ((i : Int) + 1) = (i : Int) + 1 := (i64_w _).trans (OL.w64 (by omega) (by omega))
              obtain ⟨hrd, hmem⟩ := rd82_map (k := K) hlt
              have hbd := HBA.out _ hmem
              obtain ⟨ad, hAa, y0, y1⟩ := at_T82 (Kd.C_below Ha10.out.1 HBr.out) (i : Int) (by omega) (by omega)
              obtain ⟨ad2, hAb, z0, z1⟩ := at_T82 (Kd.C_below Hb10.out.1 HBr.out) (i : Int) (by omega) (by rw [List.length_map]; omega)
              rw [hrd] at z0 z1
              obtain ⟨f, hf⟩ : ∃ f, rd_T82 la (i : Int) = f := ⟨_, rfl⟩
              rw [hf] at y0 y1 z0 z1 hbd
              rw [Int.toNat_natCast] at y0 y1 z0 z1
              change _ = some (Value.int .i64 (f.f0 + (K : Int))) at z0
              change _ = some (Value.int .i64 (f.f1 + (K : Int))) at z1
              have hkl := HKL.out
              have e5 : IntKind.i64.wrap (f.f0 + (K : Int)) = f.f0 + (K : Int) := (i64_w _).trans (OL.w64 (by omega) (by omega))
              have e6 : IntKind.i64.wrap (f.f1 + (K : Int)) = f.f1 + (K : Int) := (i64_w _).trans (OL.w64 (by omega) (by omega))
              have HLT := Aside0.mk hlt
              clear hi hlt hsm hrd hmem hbd hf hkl
              subst hAa hAb
              -- <C1
              go_upto_region 27 with fail
              go_quiet (fail)
              have HB2 := Aside0.mk (pw_below_drewN HBr.out nq)
              go_wp2_with fail
              go_roundw
              case measure => first | omega | (simp [intOf]; have := HLT.out; omega)
              case rel => exact ⟨i + 1, by congr 1, by have := HLT.out; omega, HB2⟩
              -- C1>
            · have e1 : decide ((i : Int) < (la.length : Int)) = false := decide_eq_false (by omega)
              have e2 : decide (i < la.length) = false := decide_eq_false hlt
              clear hi hlt
              obtain ⟨w8, hw8⟩ : ∃ u, wr = u := ⟨_, rfl⟩
              rw [hw8] at HBr ⊢
              have HSS := Aside0.mk (Kd.C_below Hs10.out.1 HBr.out)
              have HDD := Aside0.mk (Kd.C_below Hd10.out.1 HBr.out)
              have BX8 := Aside0.mk (BY10.out.moved HBr.out)
              clear hw8 HBr
              -- <D
              as_aux_lemma =>
                go_wp2_with fail
                go_loopw [17, 18] (fun v17 v18 wr => ∃ (i : Nat) (u : Value), v18 = u ∧ v17 = .int .i64 (i : Int) ∧ i ≤ ls.length ∧ Aside0 (Below w8.heap.size w8 wr)) (fun v17 _ _ => ls.length - (intOf v17).toNat)
                case atStart => exact ⟨0, _, rfl, rfl, Nat.zero_le _, ⟨Below.refl _ _⟩⟩
                case round =>
                  obtain ⟨i, u, rfl, rfl, hi, HBr⟩ := hrel
                  by_cases hlt : i < ls.length
                  · have e1 : decide ((i : Int) < (ls.length : Int)) = true := decide_eq_true (by omega)
                    have e2 : decide (i < ls.length) = true := decide_eq_true hlt
                    have e3 : (i : Int) < (ls.length : Int) := by omega
                    have hsm : ls.length ≤ 1099999999 := Nat.le_of_lt_succ (by have := HLS.out; omega)
                    have e4 : IntKind.i64.wrap ((i : Int) + 1) = (i : Int) + 1 := (i64_w _).trans (OL.w64 (by omega) (by omega))
                    obtain ⟨hrd, hmem⟩ := rd84_map (k := K) hlt
                    have hbd := HBS.out _ hmem
                    obtain ⟨ad, hAa, y0, y1, y2, y3, y4⟩ := at_T84 (Kd.C_below HSS.out HBr.out) (i : Int) (by omega) (by omega)
                    have HD4 : Aside0 (∀ w', Below w8.heap.size w8 w' → ∃ ad2, Ad = some ad2 ∧ w'.cell? (ad2.add (i * 5)) = some (.string (rd_T84 ls (i : Int)).f0) ∧ w'.cell? ⟨(ad2.add (i * 5)).block, (ad2.add (i * 5)).off + 1, none⟩ = some (.string (rd_T84 ls (i : Int)).f1) ∧ w'.cell? ⟨(ad2.add (i * 5)).block, (ad2.add (i * 5)).off + 2, none⟩ = some (.int .i64 ((rd_T84 ls (i : Int)).f2 + K)) ∧ w'.cell? ⟨(ad2.add (i * 5)).block, (ad2.add (i * 5)).off + 3, none⟩ = some (.int .i64 ((rd_T84 ls (i : Int)).f3 + K)) ∧ w'.cell? ⟨(ad2.add (i * 5)).block, (ad2.add (i * 5)).off + 4, none⟩ = some (.int .i64 (rd_T84 ls (i : Int)).f4)) := ⟨fun w' hw' => by
                      obtain ⟨ad2, hAb, z0, z1, z2, z3, z4⟩ := at_T84 (Kd.C_below HDD.out hw') (i : Int) (by omega) (by rw [List.length_map]; omega)
                      rw [hrd] at z0 z1 z2 z3 z4
                      rw [Int.toNat_natCast] at z0 z1 z2 z3 z4
                      exact ⟨ad2, hAb, z0, z1, z2, z3, z4⟩⟩
                    obtain ⟨f, hf⟩ : ∃ f, rd_T84 ls (i : Int) = f := ⟨_, rfl⟩
                    rw [hf] at y0 y1 y2 y3 y4 hbd HD4
                    rw [Int.toNat_natCast] at y0 y1 y2 y3 y4
                    have hkl := HKL.out
                    have htx := HTX.out
                    have e5 : IntKind.i64.wrap (f.f2 + (K : Int)) = f.f2 + (K : Int) := (i64_w _).trans (OL.w64 (by omega) (by omega))
                    have e6 : IntKind.i64.wrap (f.f3 + (K : Int)) = f.f3 + (K : Int) := (i64_w _).trans (OL.w64 (by omega) (by omega))
                    have HLT := Aside0.mk hlt
                    clear hi hlt hsm hrd hmem hbd hf hkl htx
                    subst hAa
                    obtain ⟨oS, hoS⟩ : ∃ o : Obj, o = .cells #[.string f.f0, .string f.f1, .int .i64 f.f2, .int .i64 f.f3, .int .i64 f.f4] 84 (0, 0) := ⟨_, rfl⟩
                    -- <D1
                    go_upto_region 33 with fail
                    rw [← hoS]
                    have KS := Aside0.mk ((heap_alloc_new wr oS).trans (congrArg some hoS))
                    have HB5 : Aside0 (Below wr.heap.size wr (wr.alloc oS)) := ⟨below_alloc (Below.refl _ _) oS⟩
                    clear hoS y0 y1 y2 y3 y4
                    obtain ⟨gS, hgS⟩ : ∃ g, wr.heap.size = g := ⟨_, rfl⟩
                    have GS := Aside0.mk hgS
                    generalize wr.alloc oS = w5 at KS HB5 ⊢
                    rw [hgS] at KS ⊢
                    clear hgS
                    have s2 : w5.cell? ⟨gS, 2, none⟩ = some (.int .i64 f.f2) := (blk_cell KS.out 2).trans rfl
                    have s3 : w5.cell? ⟨gS, 3, none⟩ = some (.int .i64 f.f3) := (blk_cell KS.out 3).trans rfl
                    have z2 := blk_frozen KS.out 2
                    have z3 := blk_frozen KS.out 3
                    have kS6 : ((w5.setCell ⟨gS, 2, none⟩ (.int .i64 (f.f2 + (K : Int)))).setCell ⟨gS, 3, none⟩ (.int .i64 (f.f3 + (K : Int)))).heap[gS]? = some (.cells #[.string f.f0, .string f.f1, .int .i64 (f.f2 + (K : Int)), .int .i64 (f.f3 + (K : Int)), .int .i64 f.f4] 84 (0, 0)) := (blk_set ((blk_set KS.out 2 _).trans rfl) 3 _).trans rfl
                    have hb6 : Below wr.heap.size wr ((w5.setCell ⟨gS, 2, none⟩ (.int .i64 (f.f2 + (K : Int)))).setCell ⟨gS, 3, none⟩ (.int .i64 (f.f3 + (K : Int)))) := (HB5.out.setCell (show wr.heap.size ≤ gS by have := GS.out; omega) _).setCell (show wr.heap.size ≤ gS by have := GS.out; omega) _
                    have KS6 := Aside0.mk kS6
                    have HB6 := Aside0.mk (below_then HBr.out HBr.out.size hb6)
                    clear kS6 hb6
                    go_upto_region 35 with fail
                    generalize (w5.setCell ⟨gS, 2, none⟩ (.int .i64 (f.f2 + (K : Int)))).setCell ⟨gS, 3, none⟩ (.int .i64 (f.f3 + (K : Int))) = w6 at KS6 HB6 ⊢
                    clear s2 s3 z2 z3 KS HB5 e5 e6
                    obtain ⟨ad2, hAd, x0, x1, x2, x3, x4⟩ := HD4.out w6 HB6.out
                    subst hAd
                    have q0 : w6.cell? ⟨gS, 0, none⟩ = some (.string f.f0) := (blk_cell KS6.out 0).trans rfl
                    have q1 : w6.cell? ⟨gS, 1, none⟩ = some (.string f.f1) := (blk_cell KS6.out 1).trans rfl
                    have q2 : w6.cell? ⟨gS, 2, none⟩ = some (.int .i64 (f.f2 + (K : Int))) := (blk_cell KS6.out 2).trans rfl
                    have q3 : w6.cell? ⟨gS, 3, none⟩ = some (.int .i64 (f.f3 + (K : Int))) := (blk_cell KS6.out 3).trans rfl
                    have q4 : w6.cell? ⟨gS, 4, none⟩ = some (.int .i64 f.f4) := (blk_cell KS6.out 4).trans rfl
                    go_quiet (fail)
                    have HB7 := Aside0.mk (pw_below_drewN HB6.out nq)
                    go_wp2_with fail
                    go_roundw
                    case measure => first | omega | (simp [intOf]; have := HLT.out; omega)
                    case rel => exact ⟨i + 1, _, rfl, by congr 1, by have := HLT.out; omega, HB7⟩
                    -- D1>
                  · have e1 : decide ((i : Int) < (ls.length : Int)) = false := decide_eq_false (by omega)
                    have e2 : decide (i < ls.length) = false := decide_eq_false hlt
                    have BX9 := Aside0.mk (BX8.out.moved HBr.out)
                    clear hi hlt
                    go_wp2_with fail
                    go_ret
                    exact ⟨rfl, BX9.out.b⟩
              -- D>
          -- C>
        -- B>
    -- A>
end Go.Proofs.Ytknagjiipelfnaa.MV
