/- trellisref22.Symbols: the symbols of a list of nodes, by the parents: the same. -/
import Derived.Test.YtknagjiipelfnaaCalled
namespace Go.Proofs.Ytknagjiipelfnaa.OL
open Go.RowKit Go.WideShapes Go.ChangeShapes Go.Proofs.YtknagjiipelfnaaW.PrintWords Go.Proofs.YtknagjiipelfnaaW.PrintLast Go.Proofs.YtknagjiipelfnaaW.PrintMore Go.Proofs.Ytknagjiipelfnaa.PAll
set_option linter.unusedVariables false

abbrev sbF (ms : List Mk) (t : List S50) (F : List S143) : Nat → Bool := fun q => (symK ms t F q).isSome
def depF (ms : List Mk) (t : List S50) (F : List S143) (p : Int) : Nat := dpI (poF F) (sbF ms t F) p
def rtail (ms : List Mk) (t : List S50) (F : List S143) (text : ByteArray) (i : Nat) : List S84 := ((List.range' i (t.length - i)).filterMap (fun i => (symK ms t F i).map (fun k => (i, k, depF ms t F (poF F i))))).map (mkSym t text)
theorem po_in {t : List S50} {F : List S143} (h : Fo t 0 F) {i : Nat} (hi : i < t.length) : -1 ≤ poF F i ∧ poF F i < (i : Int) ∧ some (poF F i) = (poL (-1) F)[i]? := by
  obtain ⟨q, h1, h2, h3⟩ := h.par_lt (-1) (by omega) i hi
  have : poF F i = q := by unfold poF; rw [List.getD_eq_getElem?_getD, h1]; rfl
  rw [this, h1]
  exact ⟨h3, by omega, rfl⟩
theorem rtail_zero {ms : List Mk} {t : List S50} {F : List S143} (text : ByteArray) (h : Fo t 0 F) : symsF ms t F text = rtail ms t F text 0 := by
  unfold symsF rtail
  rw [syms_same h (symK ms t F) (enF F) (poF F) (fun j hj => by
    obtain ⟨x, ks, K, hx, hnd, hfk, hen, hle, hin⟩ := h.node j hj
    unfold enF
    rw [List.getD_eq_getElem?_getD, hen]
    rfl) (fun j hj => (po_in h hj).2.2), List.range_eq_range']
  rfl
theorem rtail_step {ms : List Mk} {t : List S50} {F : List S143} {text : ByteArray} {i : Nat} (hi : i < t.length) : rtail ms t F text i = (match symK ms t F i with | none => rtail ms t F text (i + 1) | some k => mkSym t text (i, k, depF ms t F (poF F i)) :: rtail ms t F text (i + 1)) := by
  unfold rtail
  have e : t.length - i = (t.length - (i + 1)) + 1 := by omega
  rw [e, List.range'_succ, List.filterMap_cons]
  cases symK ms t F i <;> rfl
theorem rtail_end {ms : List Mk} {t : List S50} {F : List S143} {text : ByteArray} : rtail ms t F text t.length = [] := by
  unfold rtail
  rw [Nat.sub_self]
  rfl
theorem dp_le (po : Nat → Int) (sb : Nat → Bool) : ∀ q, dp po sb q ≤ q + 1 := by
  intro q
  induction q using Nat.strongRecOn with
  | ind q ih =>
    rw [dp]
    have h1 : (if sb q = true then 1 else 0) ≤ 1 := by split <;> omega
    by_cases h : 0 ≤ po q ∧ (po q).toNat < q
    · rw [dif_pos h]
      have := ih _ h.2
      omega
    · rw [dif_neg h]
      omega
theorem depF_le {ms : List Mk} {t : List S50} {F : List S143} {p : Int} : (depF ms t F p : Int) ≤ max 0 (p + 1) := by
  unfold depF dpI
  split
  · omega
  · have := dp_le (poF F) (sbF ms t F) p.toNat
    omega
set_option maxRecDepth 100000 in
set_option maxHeartbeats 8000000 in
theorem RSymbols_calls (vF : Value) (A M : Option Addr) (c cm : Nat) (t : List S50) (F : List S143) (ms : List Mk) (text : ByteArray) (w : World) (hF : Fo t 0 F) (hR : rightF t text = true) (hr : Kd.C k50 w A t.length t) (hc : t.length ≤ c) (hl : t.length ≤ 1048576)
    (hm : Kd.C k129 w M ms.length ms) (hmc : ms.length ≤ cm) (hml : ms.length ≤ 1048576) :
    Calls Try.prog 14 #[.agg (langC vF (.slice M ms.length cm)), .slice A t.length c, .string text] w fun e w' => ∃ v, e = .returned v ∧ k84.R 84 w' w.heap.size (fun _ => True) v (symsF ms t F text) ∧ Below w.heap.size w w' := by
  have HF := Aside0.mk hF
  have HRt := Aside0.mk hR
  have HRw := Aside0.mk hr
  have HMw := Aside0.mk hm
  have HP := Aside0.mk (And.intro hc (And.intro hl (And.intro hmc hml)))
  have HZ := Aside0.mk (rtail_zero (ms := ms) text hF)
  obtain ⟨oL, hoL⟩ : ∃ o : Obj, o = .cells (langC vF (.slice M ms.length cm)) 45 (0, 0) := ⟨_, rfl⟩
  have hba : Below w.heap.size w (w.alloc oL) := below_alloc (Below.refl _ _) _
  have HB := Aside0.mk hba
  have KL := Aside0.mk ((heap_alloc_new w oL).trans (congrArg some hoL))
  clear hF hR hr hm hc hl hmc hml hba
  go_enter Try.func14, Try.ntmps14
  go_upto_region 1 with fail
  rw [← hoL]
  clear hoL
  obtain ⟨gL, hgL⟩ : ∃ g, w.heap.size = g := ⟨_, rfl⟩
  generalize w.alloc oL = w0 at KL HB ⊢
  rw [hgL] at KL ⊢
  clear hgL
  go_wp2_with fail
  refine (RRight_calls A c t text w0 (Kd.C_below HRw.out HB.out) HP.out.1 HP.out.2.1).mono ?_
  rintro e w1 ⟨rfl, hB⟩
  rw [HRt.out]
  have HB1 := Aside0.mk (below_then HB.out HB.out.size hB)
  have KL1 := Aside0.mk ((hB.block _ (blk_lt KL.out)).trans KL.out)
  clear hB HB KL
  go_wp2_with fail
  go_loopw [8, 9, 10, 11, 12] (fun v8 v9 v10 v11 v12 wr => ∃ (i : Nat) (outs : List S84), v9 = .int .i64 (i : Int) ∧ i ≤ t.length ∧ Aside0 (symsF ms t F text = outs ++ rtail ms t F text i) ∧ Aside0 (outs.length ≤ i) ∧ Aside0 (SyS w wr gL vF (.slice M ms.length cm) v8 (.slice none 0 0) outs [])) (fun _ v9 _ _ _ _ => t.length - (intOf v9).toNat)
  case atStart => exact ⟨0, [], rfl, by omega, HZ, ⟨Nat.le_refl _⟩, ⟨⟨KL1.out, Kd.R_nil _ _ _ _ _, RI.nil _ _, HB1.out⟩⟩⟩
  case round =>
    obtain ⟨i, outs, rfl, hi, HV, HS, SYr⟩ := hrel
    clear KL1 HB1
    by_cases hlt : i < t.length
    · have e1 : decide ((i : Int) < (t.length : Int)) = true := decide_eq_true (by omega)
      have e2 : decide (i < t.length) = true := decide_eq_true hlt
      have e3 : (i : Int) < (t.length : Int) := by omega
      have hl := HP.out.2.1
      have hc := HP.out.1
      have e4 : IntKind.i64.wrap ((i : Int) + 1) = (i : Int) + 1 := (i64_w _).trans (w64 (by omega) (by omega))
      rw [rtail_step hlt] at HV
      have HLT := Aside0.mk hlt
      obtain ⟨l0, l1, l2, l3, l4, l5, l6, l7, l8, l9, l10, l11⟩ := lang_cells SYr.out.kl
      clear hi hlt
      go_wp2_with fail
      refine (called_calls vF A M c cm i t F ms wr HF.out HLT.out (Kd.C_below HRw.out SYr.out.b) HP.out.1 HP.out.2.1 (Kd.C_below HMw.out SYr.out.b) HP.out.2.2.1 HP.out.2.2.2).mono ?_
      rintro e w4 ⟨rfl, hB⟩
      have SY4 := Aside0.mk (SYr.out.moved hB)
      obtain ⟨r, hr⟩ : ∃ r, symK ms t F i = r := ⟨_, rfl⟩
      rw [hr] at HV ⊢
      have HRS := Aside0.mk hr
      clear hr hB SYr l0 l1 l2 l3 l4 l5 l6 l7 l8 l9 l10 l11
      cases r with
      | none =>
        have d1 : decide ((-1 : Int) < 0) = true := rfl
        rw [show (none : Option Int).getD (-1) = -1 from rfl]
        go_wp2_with fail
        go_roundw
        case measure => first | omega | (simp [intOf]; have := HLT.out; omega)
        case rel => exact ⟨i + 1, outs, by congr 1, by have := HLT.out; omega, ⟨HV.out⟩, ⟨by have := HS.out; omega⟩, SY4⟩
      | some k =>
        have hkin := symK_in HF.out HLT.out HRS.out
        rw [show (some k : Option Int).getD (-1) = k from rfl]
        obtain ⟨k, rfl⟩ : ∃ n : Nat, k = (n : Int) := ⟨k.toNat, by omega⟩
        have d1 : decide ((k : Int) < 0) = false := decide_eq_false (by omega)
        have HKI := Aside0.mk hkin
        clear hkin
        go_wp2_with fail
        refine (RParent_calls A c t F i w4 HF.out HLT.out (Kd.C_below HRw.out SY4.out.b) HP.out.1 HP.out.2.1).mono ?_
        rintro e w5 ⟨rfl, hB⟩
        have SY5 := Aside0.mk (SY4.out.moved hB)
        obtain ⟨q, hq⟩ : ∃ q, poF F i = q := ⟨_, rfl⟩
        have hpi := po_in HF.out HLT.out
        rw [hq] at hpi HV ⊢
        have HQ := Aside0.mk (And.intro hpi.1 hpi.2.1)
        clear hq hB SY4 hpi
        go_upto_block 2 with fail
        go_cut [11, 12] (fun v11 v12 wx => v11 = .int .i64 (depF ms t F q : Int) ∧ Aside0 (SyS w wx gL vF (.slice M ms.length cm) u8 (.slice none 0 0) outs []))
        case first =>
          go_wp2_with fail
          go_loopw [11, 12] (fun v11 v12 wr => ∃ (d : Nat) (p : Int), v11 = .int .i64 (d : Int) ∧ v12 = .int .i64 p ∧ -1 ≤ p ∧ p < (i : Int) ∧ Aside0 (d + depF ms t F p = depF ms t F q) ∧ Aside0 (SyS w wr gL vF (.slice M ms.length cm) u8 (.slice none 0 0) outs [])) (fun _ v12 _ => (intOf v12 + 1).toNat)
          case atStart => exact ⟨0, q, rfl, rfl, HQ.out.1, HQ.out.2, ⟨by omega⟩, SY5⟩
          case round =>
            obtain ⟨d, p, rfl, rfl, hp1, hp2, HD, SYd⟩ := hrel
            clear SY5
            by_cases hp : p < 0
            · obtain rfl : p = -1 := by omega
              have b1 : decide ((0 : Int) ≤ -1) = false := rfl
              have hd : d = depF ms t F q := by
                rw [← HD.out]
                have : depF ms t F (-1) = 0 := by unfold depF dpI; rw [if_pos (by omega)]
                omega
              have HDD := Aside0.mk hd
              clear hp hd
              go_wp2_with fail
              go_meet
              case rel => exact ⟨by rw [HDD.out], SYd⟩
            · obtain ⟨n, rfl⟩ : ∃ n : Nat, p = (n : Int) := ⟨p.toNat, by omega⟩
              have b1 : decide ((0 : Int) ≤ (n : Int)) = true := decide_eq_true (by omega)
              have hnt : n < t.length := by have := HLT.out; omega
              have hpn := po_in HF.out hnt
              have hst := dpI_step (poF F) (sbF ms t F) n hpn.2.1
              have hdl : (depF ms t F q : Int) ≤ max 0 (q + 1) := depF_le
              have hll := HP.out.2.1
              have hqi := HQ.out.2
              have hil := HLT.out
              have hdd := HD.out
              have e5 : IntKind.i64.wrap ((d : Int) + 1) = (d : Int) + 1 := (i64_w _).trans (w64 (by omega) (by omega))
              have HNT := Aside0.mk hnt
              have HPN := Aside0.mk (And.intro hpn.1 hpn.2.1)
              obtain ⟨l0, l1, l2, l3, l4, l5, l6, l7, l8, l9, l10, l11⟩ := lang_cells SYd.out.kl
              have HD2 : Aside0 (d + ((if sbF ms t F n = true then 1 else 0) + depF ms t F (poF F n)) = depF ms t F q) := ⟨by
                rw [← HD.out]
                unfold depF
                rw [hst]⟩
              have HP12 := Aside0.mk hp2
              clear hp hpn hst hdl hll hqi hil hdd hnt HD hp1 hp2
              go_wp2_with fail
              refine (called_calls vF A M c cm n t F ms wr HF.out HNT.out (Kd.C_below HRw.out SYd.out.b) HP.out.1 HP.out.2.1 (Kd.C_below HMw.out SYd.out.b) HP.out.2.2.1 HP.out.2.2.2).mono ?_
              rintro e w6 ⟨rfl, hB⟩
              have SY6 := Aside0.mk (SYd.out.moved hB)
              obtain ⟨r, hr⟩ : ∃ r, symK ms t F n = r := ⟨_, rfl⟩
              have hsb : sbF ms t F n = r.isSome := by show (symK ms t F n).isSome = _; rw [hr]
              rw [hsb] at HD2
              have HRN : ∀ z, r = some z → 0 ≤ z := fun z hz => (symK_in HF.out HNT.out (hr.trans hz)).1
              rw [hr]
              clear hr hsb hB SYd l0 l1 l2 l3 l4 l5 l6 l7 l8 l9 l10 l11
              cases r with
              | none =>
                rw [show (none : Option Int).getD (-1) = -1 from rfl]
                go_wp2_with fail
                refine (RParent_calls A c t F n w6 HF.out HNT.out (Kd.C_below HRw.out SY6.out.b) HP.out.1 HP.out.2.1).mono ?_
                rintro e w7 ⟨rfl, hB⟩
                have SY7 := Aside0.mk (SY6.out.moved hB)
                obtain ⟨p2, hp2⟩ : ∃ p2, poF F n = p2 := ⟨_, rfl⟩
                rw [hp2] at HD2 HPN ⊢
                clear hp2 hB SY6
                go_wp2_with fail
                go_roundw
                case measure => (simp [intOf]; have := HPN.out; omega)
                case rel => exact ⟨d, p2, rfl, rfl, HPN.out.1, by have := HPN.out.2; have := HP12.out; omega, ⟨by have := HD2.out; simpa using this⟩, SY7⟩
              | some z =>
                have hz := HRN z rfl
                have b2 : decide (0 ≤ z) = true := decide_eq_true hz
                rw [show (some z : Option Int).getD (-1) = z from rfl]
                clear hz HRN
                go_wp2_with fail
                refine (RParent_calls A c t F n w6 HF.out HNT.out (Kd.C_below HRw.out SY6.out.b) HP.out.1 HP.out.2.1).mono ?_
                rintro e w7 ⟨rfl, hB⟩
                have SY7 := Aside0.mk (SY6.out.moved hB)
                obtain ⟨p2, hp2⟩ : ∃ p2, poF F n = p2 := ⟨_, rfl⟩
                rw [hp2] at HD2 HPN ⊢
                clear hp2 hB SY6
                go_wp2_with fail
                go_roundw
                case measure => (simp [intOf]; have := HPN.out; omega)
                case rel => exact ⟨d + 1, p2, by congr 1, rfl, HPN.out.1, by have := HPN.out.2; have := HP12.out; omega, ⟨by have := HD2.out; simp at this; omega⟩, SY7⟩
        case rest =>
        obtain ⟨rfl, SY8⟩ := hcut
        clear SY5
        obtain ⟨D, hD⟩ : ∃ D, depF ms t F q = D := ⟨_, rfl⟩
        rw [hD] at HV ⊢
        have hCt : ∀ W : World, Below w.heap.size w W → ∃ ad, A = some ad ∧ W.cell? (ad.add (i * 7)) = some (.string (rd_T50 t (i : Int)).f0) ∧ W.cell? ⟨(ad.add (i * 7)).block, (ad.add (i * 7)).off + 3, none⟩ = some (.int .i64 (rd_T50 t (i : Int)).f3) ∧ W.cell? ⟨(ad.add (i * 7)).block, (ad.add (i * 7)).off + 4, none⟩ = some (.int .i64 (rd_T50 t (i : Int)).f4) ∧ W.cell? ⟨(ad.add (k * 7)).block, (ad.add (k * 7)).off + 3, none⟩ = some (.int .i64 (rd_T50 t (k : Int)).f3) ∧ W.cell? ⟨(ad.add (k * 7)).block, (ad.add (k * 7)).off + 4, none⟩ = some (.int .i64 (rd_T50 t (k : Int)).f4) := fun W hW => by
          obtain ⟨ad, hA, y0, y1, y2, y3, y4, y5, y6⟩ := at_T50 (Kd.C_below HRw.out hW) (i : Int) (by omega) e3
          obtain ⟨ad2, hA2, x0, x1, x2, x3, x4, x5, x6⟩ := at_T50 (Kd.C_below HRw.out hW) (k : Int) (by omega) HKI.out.2
          rw [hA] at hA2
          injection hA2 with hA2
          subst hA2
          rw [Int.toNat_natCast] at y0 y3 y4 x3 x4
          exact ⟨ad, hA, y0, y3, y4, x3, x4⟩
        have HCT := Aside0.mk hCt
        obtain ⟨ad, hA, n0, n3, n4, s3, s4⟩ := hCt wc SY8.out.b
        obtain ⟨b1, b2, b3⟩ := right_at HRt.out HKI.out.1 HKI.out.2
        have e5 : (k : Int) < (t.length : Int) := HKI.out.2
        obtain ⟨x, hx⟩ : ∃ x, rd_T50 t (i : Int) = x := ⟨_, rfl⟩
        obtain ⟨y, hy⟩ : ∃ y, rd_T50 t (k : Int) = y := ⟨_, rfl⟩
        rw [hx] at n0 n3 n4 HCT
        rw [hy] at s3 s4 b1 b2 b3 HCT
        obtain ⟨sy, hsy⟩ : ∃ z : S84, z = ⟨x.f0, cutB text y.f3 y.f4, x.f3, x.f4, (D : Int)⟩ := ⟨_, rfl⟩
        have HSY : Aside0 (mkSym t text (i, (k : Int), D) = sy) := ⟨by rw [hsy]; unfold mkSym; simp only; rw [hx, hy]⟩
        rw [HSY.out] at HV
        subst hA
        clear hCt hx hy hD d1
        obtain ⟨Ao, co, rfl, -, -⟩ := Kd.R_reads SY8.out.o
        go_upto_region 16 with fail
        go_region_held3 (fun w' => w'.cell? (ad.add (i * 7)) = some (.string x.f0) ∧ w'.cell? ⟨(ad.add (i * 7)).block, (ad.add (i * 7)).off + 3, none⟩ = some (.int .i64 x.f3) ∧ w'.cell? ⟨(ad.add (i * 7)).block, (ad.add (i * 7)).off + 4, none⟩ = some (.int .i64 x.f4) ∧ w'.cell? ⟨(ad.add (k * 7)).block, (ad.add (k * 7)).off + 3, none⟩ = some (.int .i64 y.f3) ∧ w'.cell? ⟨(ad.add (k * 7)).block, (ad.add (k * 7)).off + 4, none⟩ = some (.int .i64 y.f4))
          (first
            | exact ⟨by assumption, by assumption, by assumption, by assumption, by assumption⟩
            | go_keep)
          (first
            | (refine R84_app (w0 := w) w.heap.size (by rfl) (.tmp 45) (.tmp 75) (by rfl) Try.underlying29 info84 (.slice Ao outs.length co) outs _ _ 1 (by rfl) (by rfl) ?aO (lit84 (one0 _ _)) ?aB ?aS ?aL ?_
               (case aO => exact Kd.R_below SY8.out.o (show Below wc.heap.size wc _ by repeat (first | with_reducible exact Below.refl _ _ | with_reducible apply below_drew | with_reducible apply below_alloc)))
               (case aB => exact below_then SY8.out.b SY8.out.b.size (show Below wc.heap.size wc _ by repeat (first | with_reducible exact Below.refl _ _ | with_reducible apply below_drew | with_reducible apply below_alloc)))
               (case aS => exact Nat.le_trans SY8.out.b.size (Below.size (show Below wc.heap.size wc _ by repeat (first | with_reducible exact Below.refl _ _ | with_reducible apply below_drew | with_reducible apply below_alloc))))
               (case aL => have := HS.out; have := HLT.out; have := HP.out.2.1; omega)
               intro v1 w6 ho hb hg
               have SY9 := Aside0.mk ((SY8.out.moved (show Below wc.heap.size wc _ by repeat (first | with_reducible exact Below.refl _ _ | with_reducible apply below_drew | with_reducible apply below_alloc))).appO ho hb hg)
               obtain ⟨ad9, hA9, m0, m3, m4, m5, m6⟩ := HCT.out w6 hb
               injection hA9 with hA9
               subst hA9
               clear ho hb hg))
        have SY10 : Aside0 (SyS w w6 gL vF (.slice M ms.length cm) v1 (.slice none 0 0) (outs ++ [sy]) []) := ⟨by rw [hsy]; exact SY9.out⟩
        clear SY9 SY8 hsy m0 m3 m4 m5 m6
        go_wp2_with fail
        go_roundw
        case measure => first | omega | (simp [intOf]; have := HLT.out; omega)
        case rel => exact ⟨i + 1, outs ++ [sy], by congr 1, by have := HLT.out; omega, ⟨by rw [HV.out, List.append_assoc]; rfl⟩, ⟨by have := HS.out; simp only [List.length_append, List.length_cons, List.length_nil]; omega⟩, SY10⟩
    · have e1 : decide ((i : Int) < (t.length : Int)) = false := decide_eq_false (by omega)
      have e2 : decide (i < t.length) = false := decide_eq_false hlt
      obtain rfl : i = t.length := by omega
      have HV2 : Aside0 (symsF ms t F text = outs) := ⟨by rw [HV.out, rtail_end, List.append_nil]⟩
      clear hi hlt HV
      go_wp2_with fail
      go_ret
      exact ⟨_, rfl, by rw [HV2.out]; exact SYr.out.o, SYr.out.b⟩
end Go.Proofs.Ytknagjiipelfnaa.OL
