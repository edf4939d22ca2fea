/- ReuseFinds: of every row of leaves, behind every edit: what stands and every Find are the document's; the leaves lie apart. -/
import Derived.Test.YtknagjiipelfnaaWrote
import Derived.Deep.RegionLaw
import Derived.StillTailTactics
namespace Go.Proofs.Ytknagjiipelfnaa.RU
open Go.RowKit Go.WideShapes Go.ChangeShapes Go.Proofs.YtknagjiipelfnaaW.PrintWords Go.Proofs.YtknagjiipelfnaaW.PrintLast Go.Proofs.YtknagjiipelfnaaW.PrintMore Go.Proofs.Ytknagjiipelfnaa.PAll Go.Proofs.Ytknagjiipelfnaa.Sched
set_option linter.unusedVariables false
attribute [local go_sem] calmAt calmUpon

theorem hR_lt {w : World} {b g n c : Nat} {xs : List S68} (h : Row w b (.slice (some ⟨g, 0, none⟩) n c) xs) : g < w.heap.size := (h.lt rfl).2
theorem zero_cells2 {w : World} {g : Nat} (h : w.heap[g]? = some (lfC z68)) : w.cell? ⟨g, 0, none⟩ = some (.int .i64 0) ∧ w.cell? ⟨g, 1, none⟩ = some (.int .i64 0) ∧ w.cell? ⟨g, 2, none⟩ = some (.int .i64 0) ∧ w.cell? ⟨g, 3, none⟩ = some (.int .i64 0) ∧ w.cell? ⟨g, 4, none⟩ = some (.int .u64 0) ∧ w.cell? ⟨g, 5, none⟩ = some (.string ⟨#[]⟩) :=
  ⟨(blk_cell h 0).trans rfl, (blk_cell h 1).trans rfl, (blk_cell h 2).trans rfl, (blk_cell h 3).trans rfl, (blk_cell h 4).trans rfl, (blk_cell h 5).trans rfl⟩
theorem mLs_len2 {n : Int} {ls : List S68} (hl : ls.length ≤ 1048576) : (mLs n ls).length ≤ 1048576 := by
  unfold mLs
  split
  · exact hl
  · decide
def s77 : S68 := ⟨77, 0, 0, 0, 0, ⟨#[]⟩⟩
set_option maxRecDepth 100000 in
set_option maxHeartbeats 16000000 in
theorem ReuseFinds_calls (n ea ed : Int) (es : ByteArray) (A1 A3 : Option Addr) (c1 c3 : Nat) (ls : List S68) (qs : List Ask) (w : World) (hr : Kd.C k68 w A1 ls.length ls) (hc : ls.length ≤ c1) (hq : Kd.C k73 w A3 qs.length qs) (hqc : qs.length ≤ c3) (hl : ls.length ≤ 1048576) (hql : qs.length ≤ 1048576) (hs : es.size ≤ 1048576) (hwf : ∀ k, k < qs.length → (Lit.int .i64 (rdA qs k).1).wf = true) :
    Calls Try.prog 4 #[.int .i64 n, .slice A1 ls.length c1, .agg #[.int .i64 ea, .int .i64 ed, .string es], .slice A3 qs.length c3] w fun e w' => e = .returned (.bool true) ∧ Below w.heap.size w w' := by
  obtain ⟨oE, hoE⟩ : ∃ o : Obj, o = .cells #[.int .i64 ea, .int .i64 ed, .string es] 54 (0, 0) := ⟨_, rfl⟩
  have hba : Below w.heap.size w (w.alloc oE) := below_alloc (Below.refl _ _) _
  have KE := Aside0.mk ((heap_alloc_new w oE).trans (congrArg some hoE))
  have HB := Aside0.mk hba
  have H1w := Aside0.mk hr
  have HQw := Aside0.mk hq
  have HP := Aside0.mk (And.intro hc (And.intro hl hs))
  have HPQ := Aside0.mk (And.intro hqc (And.intro hql hwf))
  clear hba hr hc hl hs hq hqc hql hwf
  go_enter Try.func4, Try.ntmps4
  go_wp2_with fail
  rw [← hoE]
  clear hoE
  obtain ⟨g6, hg6⟩ : ∃ g, w.heap.size = g := ⟨_, rfl⟩
  have G6 : Aside0 (w.heap.size ≤ g6) := ⟨by omega⟩
  generalize w.alloc oE = w0 at KE HB ⊢
  rw [hg6] at KE ⊢
  clear hg6
  refine (lent_calls A1 c1 ls w0 (Kd.C_below H1w.out HB.out) HP.out.1 HP.out.2.1).mono ?_
  rintro e w1 ⟨A, A4, c, c4, rfl, hR, hB⟩
  obtain ⟨ga, rfl, hga, hga2⟩ := hR.at_ (by omega)
  have GA := Aside0.mk (Nat.le_trans HB.out.size hga)
  have NC := Aside0.mk (Kd.R_reads' hR).2.1
  have KE1 := Aside0.mk ((hB.block _ (blk_lt KE.out)).trans KE.out)
  have HB1 := Aside0.mk (below_then HB.out HB.out.size hB)
  have HR1 := Aside0.mk (Kd.R_lower hR HB.out.size)
  clear hR hB KE HB hga hga2
  obtain ⟨oG, hoG⟩ : ∃ o : Obj, o = .cells #[.int .i64 0, .int .i64 0, .int .u64 0, .slice (some ⟨ga, 0, none⟩) ls.length c, .slice A4 0 c4, .int .i64 0] 60 (0, 0) := ⟨_, rfl⟩
  have hba : Below w1.heap.size w1 (w1.alloc oG) := below_alloc (Below.refl _ _) _
  have KG2 := Aside0.mk ((heap_alloc_new w1 oG).trans (congrArg some hoG))
  have KE2 := Aside0.mk ((hba.block _ (blk_lt KE1.out)).trans KE1.out)
  have HB2 := Aside0.mk (below_then HB1.out HB1.out.size hba)
  have HR2 := Aside0.mk (Kd.R_below HR1.out hba)
  have L9 := Aside0.mk HB1.out.size
  clear hba KE1 HB1 HR1
  go_upto_region 2 with fail
  rw [← hoG]
  clear hoG
  obtain ⟨g9, hg9⟩ : ∃ g, w1.heap.size = g := ⟨_, rfl⟩
  generalize w1.alloc oG = w2 at KG2 KE2 HB2 HR2 ⊢
  rw [hg9] at KG2 L9 ⊢
  clear hg9
  have p0 : w2.cell? ⟨g6, 0, none⟩ = some (.int .i64 ea) := (blk_cell KE2.out 0).trans rfl
  have p1 : w2.cell? ⟨g6, 1, none⟩ = some (.int .i64 ed) := (blk_cell KE2.out 1).trans rfl
  have p2 : w2.cell? ⟨g6, 2, none⟩ = some (.string es) := (blk_cell KE2.out 2).trans rfl
  have r0 : w2.cell? ⟨g9, 0, none⟩ = some (.int .i64 0) := (blk_cell KG2.out 0).trans rfl
  have r1 : w2.cell? ⟨g9, 1, none⟩ = some (.int .i64 0) := (blk_cell KG2.out 1).trans rfl
  have r2 : w2.cell? ⟨g9, 2, none⟩ = some (.int .u64 0) := (blk_cell KG2.out 2).trans rfl
  have r3 : w2.cell? ⟨g9, 3, none⟩ = some (.slice (some ⟨ga, 0, none⟩) ls.length c) := (blk_cell KG2.out 3).trans rfl
  have r4 : w2.cell? ⟨g9, 4, none⟩ = some (.slice A4 0 c4) := (blk_cell KG2.out 4).trans rfl
  have r5 : w2.cell? ⟨g9, 5, none⟩ = some (.int .i64 0) := (blk_cell KG2.out 5).trans rfl
  go_wp2_with fail
  refine (New_calls n 0 0 0 0 ea ed es (some ⟨ga, 0, none⟩) A4 0 c c4 ls w2 (C_prefix (Kd.R_reads' HR2.out).2.2) (by have := NC.out; omega) HP.out.2.1 HP.out.2.2).mono ?_
  rintro e w3 ⟨g, gm, vs, rfl, hO, hB, _⟩
  have HO3 := Aside0.mk hO
  have KE3 := Aside0.mk ((hB.block _ (blk_lt KE2.out)).trans KE2.out)
  have KG3 := Aside0.mk ((hB.block _ (blk_lt KG2.out)).trans KG2.out)
  have HB3 := Aside0.mk (below_then HB2.out HB2.out.size hB)
  have HR3 := Aside0.mk (Kd.R_below HR2.out hB)
  clear hO hB KE2 KG2 HB2 HR2 p0 p1 p2 r0 r1 r2 r3 r4 r5
  have r0 : w3.cell? ⟨g9, 0, none⟩ = some (.int .i64 0) := (blk_cell KG3.out 0).trans rfl
  have r1 : w3.cell? ⟨g9, 1, none⟩ = some (.int .i64 0) := (blk_cell KG3.out 1).trans rfl
  have r2 : w3.cell? ⟨g9, 2, none⟩ = some (.int .u64 0) := (blk_cell KG3.out 2).trans rfl
  have r3 : w3.cell? ⟨g9, 3, none⟩ = some (.slice (some ⟨ga, 0, none⟩) ls.length c) := (blk_cell KG3.out 3).trans rfl
  have r4 : w3.cell? ⟨g9, 4, none⟩ = some (.slice A4 0 c4) := (blk_cell KG3.out 4).trans rfl
  have r5 : w3.cell? ⟨g9, 5, none⟩ = some (.int .i64 0) := (blk_cell KG3.out 5).trans rfl
  go_wp2_with fail
  refine (marks_calls (some ⟨ga, 0, none⟩) A4 c c4 ls w3 (by have h := (Kd.R_reads' HR3.out).2.2; rwa [List.length_append, mks_len] at h) NC.out HP.out.2.1).mono ?_
  rintro e w4 ⟨rfl, hB⟩
  have HO4 := Aside0.mk (HO3.out.moved hB)
  have KE4 := Aside0.mk ((hB.block _ (blk_lt KE3.out)).trans KE3.out)
  have KG4 := Aside0.mk ((hB.block _ (blk_lt KG3.out)).trans KG3.out)
  have HB4 := Aside0.mk (below_then HB3.out HB3.out.size hB)
  have HR4 := Aside0.mk (Kd.R_below HR3.out hB)
  have LA4 := Aside0.mk (hR_lt HR4.out)
  clear hB KE3 KG3 HB3 HR3 HO3 r0 r1 r2 r3 r4 r5
  have p0 : w4.cell? ⟨g6, 0, none⟩ = some (.int .i64 ea) := (blk_cell KE4.out 0).trans rfl
  have p1 : w4.cell? ⟨g6, 1, none⟩ = some (.int .i64 ed) := (blk_cell KE4.out 1).trans rfl
  have p2 : w4.cell? ⟨g6, 2, none⟩ = some (.string es) := (blk_cell KE4.out 2).trans rfl
  have H4 := Aside0.mk (Kd.C_below H1w.out HB4.out)
  go_upto_region 5 with fail
  go_cut [11] (fun v11 wx => ∃ (gM : Nat) (AM : Option Addr) (cM : Nat), v11 = .pointer (some ⟨gM, 0, none⟩) ∧ Aside0 (Mdl wx gM AM cM (mLs n ls) (mAt n ls ea) (mDel n ls ea ed) (mIns n ls es)) ∧ Aside0 (∀ ad, AM = some ad → ad.block ≠ ga) ∧ Aside0 (Below w4.heap.size w4 wx))
  case first =>
    as_aux_lemma =>
    go_region_law
      (first
        | (go_simp
           go_at_call 20
           refine (twin_calls A1 c1 ls _ (Kd.C_below H4.out (below_drew (Below.refl _ _))) HP.out.1 HP.out.2.1).mono ?_
           rintro e wt ⟨A7, A8, c7, c8, rfl, h3, h4, hB0⟩
           have hB : Below w4.heap.size w4 wt := Below.trans (below_drew (Below.refl _ _)) hB0
           have HBt := Aside0.mk hB
           have KEt := Aside0.mk ((hB.block _ (blk_lt KE4.out)).trans KE4.out)
           have q0 : wt.cell? ⟨g6, 0, none⟩ = some (.int .i64 ea) := (blk_cell KEt.out 0).trans rfl
           have q1 : wt.cell? ⟨g6, 1, none⟩ = some (.int .i64 ed) := (blk_cell KEt.out 1).trans rfl
           have q2 : wt.cell? ⟨g6, 2, none⟩ = some (.string es) := (blk_cell KEt.out 2).trans rfl
           have H7 := Aside0.mk (Kd.R_reads' h3).2.2
           have H8 := Aside0.mk h4
           have H9 := Aside0.mk (Kd.R_reads' h3).2.1
           clear hB hB0 h3 h4)
        | (go_simp
           go_at_call 19
           refine (MNew_calls n 0 0 0 0 ea ed es A7 A8 c7 c8 ls ([] : List S50) _ H7.out H9.out H8.out (Nat.zero_le _) HP.out.2.1 HP.out.2.2).mono ?_
           rintro e wu ⟨gM, AM, cM, rfl, hM, hB0, hgM, hAM⟩
           have hB : Below wt.heap.size wt wu := hB0
           have HBu := Aside0.mk (below_then HBt.out HBt.out.size hB)
           have HMu := Aside0.mk hM
           have HAu := Aside0.mk (fun ad he => Nat.le_trans HBt.out.size (hAM ad he))
           clear hB hB0 hM hgM hAM))
    all_goals
      (go_wp2_with fail
       go_meet
       case rel => exact ⟨gM, AM, cM, rfl, HMu, ⟨fun ad he => by have := HAu.out ad he; have := LA4.out; omega⟩, HBu⟩)
  case rest =>
  obtain ⟨gM, AM, cM, rfl, HM4, HA, hB4⟩ := hcut
  have HO5 := Aside0.mk (HO4.out.moved hB4.out)
  have FS5 : Aside0 (FS w wc g6 g9 ga ls.length c A4 c4 ea ed es ls) := ⟨FS.moved ⟨KE4.out, KG4.out, HR4.out, HB4.out, rfl⟩ hB4.out⟩
  clear hB4 HO4 KE4 KG4 HR4 HB4 LA4 H4 p0 p1 p2
  obtain ⟨w5, hw5⟩ : ∃ w5, wc = w5 := ⟨_, rfl⟩
  rw [hw5] at HM4 HO5 FS5 ⊢
  clear hw5 wc
  obtain ⟨GG, hGG⟩ : ∃ G, (gAt (mLs n ls) (mAt n ls ea) (mDel n ls ea ed) (mIns n ls es) (mLs n ls).length) = G := ⟨_, rfl⟩
  obtain ⟨st, hst⟩ : ∃ s, (standN (mLs n ls) (mAt n ls ea) (mDel n ls ea ed) (mLs n ls).length) = s := ⟨_, rfl⟩
  rw [hGG, hst] at HO5
  have HGG := Aside0.mk hGG
  have HST := Aside0.mk hst
  have HMO := Aside0.mk (mok n ls ea ed es HP.out.2.1 HP.out.2.2)
  clear hGG hst
  go_wp2_with fail
  go_loopw [12] (fun v12 wr => ∃ (i : Nat) (xs : List S68), v12 = .int .i64 (i : Int) ∧ i ≤ ls.length ∧ Aside0 (∀ k : Nat, i ≤ k → k < ls.length → rd_T68 xs (k : Int) = rd_T68 ls (k : Int)) ∧ Aside0 (FS w wr g6 g9 ga ls.length c A4 c4 ea ed es xs) ∧ Aside0 (OldS wr g gm vs GG st) ∧ Aside0 (Mdl wr gM AM cM (mLs n ls) (mAt n ls ea) (mDel n ls ea ed) (mIns n ls es))) (fun v12 _ => ls.length - (intOf v12).toNat)
  case atStart => exact ⟨0, ls, rfl, by omega, ⟨fun _ _ _ => rfl⟩, FS5, HO5, HM4⟩
  case round =>
    obtain ⟨i, xs, rfl, hi, HX, FSr, HOr, HMr⟩ := hrel
    clear FS5 HO5 HM4
    by_cases hlt : i < ls.length
    · have e1 : decide ((i : Int) < (ls.length : Int)) = true := decide_eq_true (by omega)
      have e2 : decide (i < ls.length) = true := decide_eq_true hlt
      have e3 : (i : Int) < (ls.length : Int) := by omega
      have hl := HP.out.2.1
      have hc := HP.out.1
      have hcc := FSr.out.lens.1
      have e4 : IntKind.i64.wrap ((i : Int) + 1) = (i : Int) + 1 := (i64_w _).trans (w64 (by omega) (by omega))
      obtain ⟨ad, hA, y0, y1, y2, y3, y4, y5⟩ := at_T68 (Kd.C_below H1w.out FSr.out.b) (i : Int) (by omega) (by omega)
      rw [Int.toNat_natCast] at y0 y1 y2 y3 y4 y5
      obtain ⟨⟨z0, z1, z2, z3, z4, z5⟩, _⟩ := FSr.out.at_ i hlt
      rw [HX.out i (Nat.le_refl _) hlt] at z0 z1 z2 z3 z4 z5
      obtain ⟨x, hx⟩ : ∃ x, rd_T68 ls (i : Int) = x := ⟨_, rfl⟩
      rw [hx] at y0 y1 y2 y3 y4 y5 z0 z1 z2 z3 z4 z5
      have q3 : wr.cell? ⟨g9, 3, none⟩ = some (.slice (some ⟨ga, 0, none⟩) ls.length c) := (blk_cell FSr.out.kg 3).trans rfl
      have HLT := Aside0.mk hlt
      subst hA
      clear hx hi hlt
      go_upto_region 9 with fail
      go_quiet (fail)
      have FSd := Aside0.mk (FSr.out.moved (below_drews nq))
      have HOd := Aside0.mk (HOr.out.moved (below_drews nq))
      have HMd := Aside0.mk (HMr.out.moved (below_drews nq))
      generalize wr.drewN nq = wd at FSd HOd HMd ⊢
      clear FSr HOr HMr y0 y1 y2 y3 y4 y5 z0 z1 z2 z3 z4 z5 q3
      obtain ⟨⟨z0, z1, z2, z3, z4, z5⟩, zf⟩ := FSd.out.at_ i HLT.out
      have f0 := zf (i * 6)
      have f1 := zf (i * 6 + 1)
      have f2 := zf (i * 6 + 2)
      have f3 := zf (i * 6 + 3)
      have f4 := zf (i * 6 + 4)
      have f5 := zf (i * 6 + 5)
      have q3 : wd.cell? ⟨g9, 3, none⟩ = some (.slice (some ⟨ga, 0, none⟩) ls.length c) := (blk_cell FSd.out.kg 3).trans rfl
      clear zf
      go_wp2_with fail
      go_roundw
      case measure => first | omega | (simp [intOf]; have := HLT.out; omega)
      case rel => exact ⟨i + 1, xs.set i s77, by congr 1, by have := HLT.out; omega, ⟨fun k h1 h2 => by rw [rd_set (by omega)]; exact HX.out k (by omega) h2⟩, ⟨FSd.out.put i s77 HLT.out⟩, ⟨FSd.out.olds HOd.out i s77 HLT.out⟩, ⟨FSd.out.mdl HMd.out HA.out i s77 HLT.out⟩⟩
    · have e1 : decide ((i : Int) < (ls.length : Int)) = false := decide_eq_false (by omega)
      have e2 : decide (i < ls.length) = false := decide_eq_false hlt
      clear hi hlt HX
      go_wp2_with fail
      refine (OStanding_calls g gm vs GG st _ HOr.out).mono ?_
      rintro e w6 ⟨rfl, hB⟩
      have HO6 := Aside0.mk (HOr.out.moved hB)
      have HM6 := Aside0.mk (HMr.out.moved hB)
      have FS6 := Aside0.mk (FSr.out.moved hB)
      clear hB HOr HMr FSr
      go_wp2_with fail
      refine (MStanding_calls gM AM cM (mLs n ls) _ _ _ w6 HM6.out HMO.out).mono ?_
      rintro e w7 ⟨rfl, hB⟩
      rw [HST.out]
      have HO7 := Aside0.mk (HO6.out.moved hB)
      have HM7 := Aside0.mk (HM6.out.moved hB)
      have FS7 := Aside0.mk (FS6.out.moved hB)
      clear hB HO6 HM6 FS6
      go_wp2_with fail
      go_loopw [13, 14, 15, 16, 17] (fun v13 v14 v15 v16 v17 wr => ∃ k : Nat, v13 = .int .i64 (k : Int) ∧ k ≤ qs.length ∧ Aside0 (FS w wr g6 g9 ga ls.length c A4 c4 ea ed es xs) ∧ Aside0 (OldS wr g gm vs GG st) ∧ Aside0 (Mdl wr gM AM cM (mLs n ls) (mAt n ls ea) (mDel n ls ea ed) (mIns n ls es))) (fun v13 _ _ _ _ _ => qs.length - (intOf v13).toNat)
      case atStart => exact ⟨0, rfl, by omega, FS7, HO7, HM7⟩
      case round =>
        obtain ⟨k, rfl, hk, FSr, HOr, HMr⟩ := hrel
        clear FS7 HO7 HM7
        by_cases hlt : k < qs.length
        · have e1 : decide ((k : Int) < (qs.length : Int)) = true := decide_eq_true (by omega)
          have e2 : decide (k < qs.length) = true := decide_eq_true hlt
          have e3 : (k : Int) < (qs.length : Int) := by omega
          have hql := HPQ.out.2.1
          have hqc := HPQ.out.1
          have e4 : IntKind.i64.wrap ((k : Int) + 1) = (k : Int) + 1 := (i64_w _).trans (w64 (by omega) (by omega))
          obtain ⟨ad, hA, y0, y1, y2⟩ := at_Ask (Kd.C_below HQw.out FSr.out.b) (k : Int) (by omega) (by omega)
          rw [Int.toNat_natCast] at y0 y1 y2
          have hwf := HPQ.out.2.2 k hlt
          obtain ⟨⟨p, bef, val⟩, hx⟩ : ∃ x, rdA qs k = x := ⟨_, rfl⟩
          rw [hx] at y0 y1 y2 hwf
          have HLT := Aside0.mk hlt
          have HWF := Aside0.mk hwf
          subst hA
          have HS3 : Aside0 (∀ W : World, Below wr.heap.size wr W → W.cell? (ad.add (k * 3)) = some (.int .i64 p) ∧ W.cell? ⟨(ad.add (k * 3)).block, (ad.add (k * 3)).off + 1, none⟩ = some (.string bef) ∧ W.cell? ⟨(ad.add (k * 3)).block, (ad.add (k * 3)).off + 2, none⟩ = some (.int .u64 val)) := ⟨fun W hb => by
            obtain ⟨ad2, hA2, b0, b1, b2⟩ := at_Ask (Kd.C_below HQw.out (below_then FSr.out.b FSr.out.b.size hb)) (k : Int) (by omega) (by omega)
            rw [Int.toNat_natCast, hx] at b0 b1 b2
            injection hA2 with hA2
            subst hA2
            exact ⟨b0, b1, b2⟩⟩
          clear hx hk hlt hwf
          obtain ⟨r, hr⟩ : ∃ r, findM (hitB (mLs n ls) (mAt n ls ea) (mDel n ls ea ed) (mIns n ls es) p bef val) (mLs n ls) (mLs n ls).length 0 = r := ⟨_, rfl⟩
          obtain ⟨x, hx⟩ : ∃ x, r.getD z68 = x := ⟨_, rfl⟩
          obtain ⟨ok, hok⟩ : ∃ x, r.isSome = x := ⟨_, rfl⟩
          have HM0 : Aside0 (fnd (findM (hitB (mLs n ls) (mAt n ls ea) (mDel n ls ea ed) (mIns n ls es) p bef val) (mLs n ls) (mLs n ls).length 0) = .tuple #[.agg #[.int .i64 x.f0, .int .i64 x.f1, .int .i64 x.f2, .int .i64 x.f3, .int .u64 x.f4, .string x.f5], .bool ok]) := ⟨by rw [hr]; unfold fnd; rw [hx, hok]⟩
          have HO0 : Aside0 (fnd (findO bef val (GG p) (GG p).length 0) = .tuple #[.agg #[.int .i64 x.f0, .int .i64 x.f1, .int .i64 x.f2, .int .i64 x.f3, .int .u64 x.f4, .string x.f5], .bool ok]) := ⟨by rw [← HGG.out, find_eq]; exact HM0.out⟩
          have HGL : Aside0 ((GG p).length ≤ 1048576) := ⟨by rw [← HGG.out]; exact Nat.le_trans (gAt_len _ _ _ _ _ _) (mLs_len2 HP.out.2.1)⟩
          clear hr hx hok
          go_upto_region 17 with fail
          go_cut [14, 15] (fun va vk wx => ∃ gA : Nat, va = .pointer (some ⟨gA, 0, none⟩) ∧ vk = .bool ok ∧ Aside0 (wx.heap[gA]? = some (lfC x)) ∧ Aside0 (Below wr.heap.size wr wx))
          case first =>
            as_aux_lemma =>
              refine Sched2.wp_region_run (Mv6 wr.heap.size x) (by kernel_rfl) (by kernel_rfl) ?_
              refine Sched2.Run.step (fun K hK => Sched2.Good.fix off_nil ?_)
              apply Exists.intro
              refine ⟨fun w' hw' => ?_, ?_⟩
              · skip
                go_simp
                exact rfl
              go_simp
              refine hK _ _ _ ?_
              clear hK K
              refine Sched2.Run.step (fun K hK => Sched2.Good.fix off_nil ?_)
              apply Exists.intro
              refine ⟨fun w' hw' => ?_, ?_⟩
              · skip
                go_simp
                exact rfl
              go_simp
              refine hK _ _ _ ?_
              clear hK K
              refine Sched2.Run.step (fun K hK => Sched2.Good.fix off_nil ?_)
              apply Exists.intro
              refine ⟨fun w' hw' => ?_, ?_⟩
              · skip
                go_simp
                exact rfl
              go_simp
              refine hK _ _ _ ?_
              clear hK K
              refine Sched2.Run.step (fun K hK => Sched2.Good.fix off_nil ?_)
              apply Exists.intro
              refine ⟨fun w' hw' => ?_, ?_⟩
              · skip
                go_simp
                exact rfl
              go_simp
              refine hK _ _ _ ?_
              clear hK K
              refine Sched2.Run.step (fun K hK => Sched2.Good.fix off_nil ?_)
              apply Exists.intro
              refine ⟨fun w' hw' => ?_, ?_⟩
              · skip
                go_simp
                exact rfl
              go_simp
              refine hK _ _ _ ?_
              clear hK K
              refine Sched2.Run.step (fun K hK => Sched2.Good.fix off_nil ?_)
              apply Exists.intro
              refine ⟨fun w' hw' => ?_, ?_⟩
              · obtain ⟨y0, y1, y2⟩ := HS3.out w' hw'
                go_simp
                exact rfl
              go_simp
              refine hK _ _ _ ?_
              clear hK K
              refine Sched2.Run.step (fun K hK => Sched2.Good.fix off_nil ?_)
              apply Exists.intro
              refine ⟨fun w' hw' => ?_, ?_⟩
              · skip
                go_simp
                exact rfl
              go_simp
              refine hK _ _ _ ?_
              clear hK K
              refine Sched2.Run.step (fun K hK => Sched2.Good.fix off_nil ?_)
              apply Exists.intro
              refine ⟨fun w' hw' => ?_, ?_⟩
              · skip
                go_simp
                exact rfl
              go_simp
              refine hK _ _ _ ?_
              clear hK K
              refine Sched2.Run.step (fun K hK => Sched2.Good.fix off_nil ?_)
              apply Exists.intro
              refine ⟨fun w' hw' => ?_, ?_⟩
              · skip
                go_simp
                exact rfl
              go_simp
              refine hK _ _ _ ?_
              clear hK K
              refine Sched2.Run.step (fun K hK => Sched2.Good.fix off_nil ?_)
              apply Exists.intro
              refine ⟨fun w' hw' => ?_, ?_⟩
              · skip
                go_simp
                exact rfl
              go_simp
              refine hK _ _ _ ?_
              clear hK K
              refine Sched2.Run.step (fun K hK => Sched2.Good.fix off_nil ?_)
              apply Exists.intro
              refine ⟨fun w' hw' => ?_, ?_⟩
              · obtain ⟨y0, y1, y2⟩ := HS3.out w' hw'
                go_simp
                exact rfl
              go_simp
              refine hK _ _ _ ?_
              clear hK K
              refine Sched2.Run.step (fun K hK => Sched2.Good.fix off_nil ?_)
              apply Exists.intro
              refine ⟨fun w' hw' => ?_, ?_⟩
              · skip
                go_simp
                exact rfl
              go_simp
              refine hK _ _ _ ?_
              clear hK K
              refine Sched2.Run.step (fun K hK => Sched2.Good.fix off_nil ?_)
              apply Exists.intro
              refine ⟨fun w' hw' => ?_, ?_⟩
              · skip
                go_simp
                exact rfl
              go_simp
              refine hK _ _ _ ?_
              clear hK K
              refine Sched2.Run.step (fun K hK => Sched2.Good.fix off_nil ?_)
              apply Exists.intro
              refine ⟨fun w' hw' => ?_, ?_⟩
              · skip
                go_simp
                exact rfl
              go_simp
              refine hK _ _ _ ?_
              clear hK K
              refine Sched2.Run.step (fun K hK => Sched2.Good.fix off_nil ?_)
              apply Exists.intro
              refine ⟨fun w' hw' => ?_, ?_⟩
              · skip
                go_simp
                exact rfl
              go_simp
              refine hK _ _ _ ?_
              clear hK K
              refine Sched2.Run.step (fun K hK => Sched2.Good.fix off_nil ?_)
              apply Exists.intro
              refine ⟨fun w' hw' => ?_, ?_⟩
              · obtain ⟨y0, y1, y2⟩ := HS3.out w' hw'
                go_simp
                exact rfl
              go_simp
              refine hK _ _ _ ?_
              clear hK K
              refine Sched2.Run.step (fun K hK => Sched2.Good.fix off_nil ?_)
              apply Exists.intro
              refine ⟨fun w' hw' => ?_, ?_⟩
              · skip
                go_simp
                have h := OFind_calls g gm vs GG st p val bef w' (HOr.out.moved hw') HWF.out HGL.out; rw [HO0.out] at h; exact h
              go_simp
              refine hK _ _ _ ?_
              clear hK K
              refine Sched2.Run.step (fun K hK => Sched2.Good.fix off_nil ?_)
              apply Exists.intro
              refine ⟨fun w' hw' => ?_, ?_⟩
              · skip
                go_simp
                exact rfl
              go_simp
              refine hK _ _ _ ?_
              clear hK K
              refine Sched2.Run.step (fun K hK => Sched2.Good.fix off_nil ?_)
              apply Exists.intro
              refine ⟨fun w' hw' => ?_, ?_⟩
              · skip
                go_simp
                exact rfl
              go_simp
              refine hK _ _ _ ?_
              clear hK K
              refine Sched2.Run.step (fun K hK => Sched2.Good.fix off_nil ?_)
              apply Exists.intro
              refine ⟨fun w' hw' => ?_, ?_⟩
              · skip
                go_simp
                exact rfl
              go_simp
              refine hK _ _ _ ?_
              clear hK K
              refine Sched2.Run.step (fun K hK => Sched2.Good.fresh 14 (FW wr.heap.size) rfl rfl (by simp) (FW_kept _ _) ?_ ?_)
              · intro w' hw'
                go_simp
                exact ⟨_, _, ⟨rfl, rfl⟩, below_alloc (Below.refl _ _) _, FW_made w' _ hw'.size⟩
              go_simp
              refine hK _ _ _ ?_
              clear hK K
              refine Sched2.Run.step (fun K hK => Sched2.Good.write 14 _ (GW wr.heap.size x) (List.mem_singleton.2 rfl) rfl rfl (on_one (by kernel_rfl)) but_one (GW_kept _ _) ?_ ?_)
              · rintro x0 w' hw' ⟨g0, rfl, hg0, y9, hy9⟩
                obtain ⟨s0, s1, s2, s3, s4, s5⟩ := lf_cells hy9
                have t0 := blk_frozen hy9 0
                have t1 := blk_frozen hy9 1
                have t2 := blk_frozen hy9 2
                have t3 := blk_frozen hy9 3
                have t4 := blk_frozen hy9 4
                have t5 := blk_frozen hy9 5
                have hst := wrote_step x hw' hg0 hy9
                clear hy9
                go_simp
                exact hst
              refine hK _ _ _ ?_
              clear hK K
              refine Sched2.Run.step (fun K hK => Sched2.Good.fix (off_one (by kernel_rfl)) ?_)
              apply Exists.intro
              refine ⟨fun w' hw' => ?_, ?_⟩
              · skip
                go_simp
                exact rfl
              go_simp
              refine hK _ _ _ ?_
              clear hK K
              refine Sched2.Run.nil ?_
              intro b9 w' hb hf
              obtain ⟨v9, _, ⟨gA, rfl, _, hgA⟩, rfl⟩ := hf.one (by simp)
              have HBX := Aside0.mk hb
              have HGX := Aside0.mk hgA
              clear hb hf hgA
              go_wp2_with fail
              go_meet
              case rel => exact ⟨gA, rfl, rfl, HGX, HBX⟩
          case rest =>
          obtain ⟨gA, rfl, rfl, HKA, HBA⟩ := hcut
          have HO1 := Aside0.mk (HOr.out.moved HBA.out)
          have HM1 := Aside0.mk (HMr.out.moved HBA.out)
          have FS1 := Aside0.mk (FSr.out.moved HBA.out)
          have HS1 : Aside0 (∀ W : World, Below wc.heap.size wc W → W.cell? (ad.add (k * 3)) = some (.int .i64 p) ∧ W.cell? ⟨(ad.add (k * 3)).block, (ad.add (k * 3)).off + 1, none⟩ = some (.string bef) ∧ W.cell? ⟨(ad.add (k * 3)).block, (ad.add (k * 3)).off + 2, none⟩ = some (.int .u64 val)) := ⟨fun W hb => HS3.out W (below_then HBA.out HBA.out.size hb)⟩
          clear HOr HMr FSr HS3 HBA y0 y1 y2 HO0
          obtain ⟨w1, hw1⟩ : ∃ w1, wc = w1 := ⟨_, rfl⟩
          rw [hw1] at HKA HO1 HM1 FS1 HS1 ⊢
          clear hw1 wc
          go_upto_region 18 with fail
          go_cut [16, 17] (fun vb vy wx => ∃ gB : Nat, vb = .pointer (some ⟨gB, 0, none⟩) ∧ vy = .bool ok ∧ Aside0 (wx.heap[gB]? = some (lfC x)) ∧ Aside0 (Below w1.heap.size w1 wx))
          case first =>
            as_aux_lemma =>
              refine Sched2.wp_region_run (Mv6 w1.heap.size x) (by kernel_rfl) (by kernel_rfl) ?_
              refine Sched2.Run.step (fun K hK => Sched2.Good.fix off_nil ?_)
              apply Exists.intro
              refine ⟨fun w' hw' => ?_, ?_⟩
              · skip
                go_simp
                exact rfl
              go_simp
              refine hK _ _ _ ?_
              clear hK K
              refine Sched2.Run.step (fun K hK => Sched2.Good.fix off_nil ?_)
              apply Exists.intro
              refine ⟨fun w' hw' => ?_, ?_⟩
              · skip
                go_simp
                exact rfl
              go_simp
              refine hK _ _ _ ?_
              clear hK K
              refine Sched2.Run.step (fun K hK => Sched2.Good.fix off_nil ?_)
              apply Exists.intro
              refine ⟨fun w' hw' => ?_, ?_⟩
              · skip
                go_simp
                exact rfl
              go_simp
              refine hK _ _ _ ?_
              clear hK K
              refine Sched2.Run.step (fun K hK => Sched2.Good.fix off_nil ?_)
              apply Exists.intro
              refine ⟨fun w' hw' => ?_, ?_⟩
              · skip
                go_simp
                exact rfl
              go_simp
              refine hK _ _ _ ?_
              clear hK K
              refine Sched2.Run.step (fun K hK => Sched2.Good.fix off_nil ?_)
              apply Exists.intro
              refine ⟨fun w' hw' => ?_, ?_⟩
              · skip
                go_simp
                exact rfl
              go_simp
              refine hK _ _ _ ?_
              clear hK K
              refine Sched2.Run.step (fun K hK => Sched2.Good.fix off_nil ?_)
              apply Exists.intro
              refine ⟨fun w' hw' => ?_, ?_⟩
              · obtain ⟨y0, y1, y2⟩ := HS1.out w' hw'
                go_simp
                exact rfl
              go_simp
              refine hK _ _ _ ?_
              clear hK K
              refine Sched2.Run.step (fun K hK => Sched2.Good.fix off_nil ?_)
              apply Exists.intro
              refine ⟨fun w' hw' => ?_, ?_⟩
              · skip
                go_simp
                exact rfl
              go_simp
              refine hK _ _ _ ?_
              clear hK K
              refine Sched2.Run.step (fun K hK => Sched2.Good.fix off_nil ?_)
              apply Exists.intro
              refine ⟨fun w' hw' => ?_, ?_⟩
              · skip
                go_simp
                exact rfl
              go_simp
              refine hK _ _ _ ?_
              clear hK K
              refine Sched2.Run.step (fun K hK => Sched2.Good.fix off_nil ?_)
              apply Exists.intro
              refine ⟨fun w' hw' => ?_, ?_⟩
              · skip
                go_simp
                exact rfl
              go_simp
              refine hK _ _ _ ?_
              clear hK K
              refine Sched2.Run.step (fun K hK => Sched2.Good.fix off_nil ?_)
              apply Exists.intro
              refine ⟨fun w' hw' => ?_, ?_⟩
              · skip
                go_simp
                exact rfl
              go_simp
              refine hK _ _ _ ?_
              clear hK K
              refine Sched2.Run.step (fun K hK => Sched2.Good.fix off_nil ?_)
              apply Exists.intro
              refine ⟨fun w' hw' => ?_, ?_⟩
              · obtain ⟨y0, y1, y2⟩ := HS1.out w' hw'
                go_simp
                exact rfl
              go_simp
              refine hK _ _ _ ?_
              clear hK K
              refine Sched2.Run.step (fun K hK => Sched2.Good.fix off_nil ?_)
              apply Exists.intro
              refine ⟨fun w' hw' => ?_, ?_⟩
              · skip
                go_simp
                exact rfl
              go_simp
              refine hK _ _ _ ?_
              clear hK K
              refine Sched2.Run.step (fun K hK => Sched2.Good.fix off_nil ?_)
              apply Exists.intro
              refine ⟨fun w' hw' => ?_, ?_⟩
              · skip
                go_simp
                exact rfl
              go_simp
              refine hK _ _ _ ?_
              clear hK K
              refine Sched2.Run.step (fun K hK => Sched2.Good.fix off_nil ?_)
              apply Exists.intro
              refine ⟨fun w' hw' => ?_, ?_⟩
              · skip
                go_simp
                exact rfl
              go_simp
              refine hK _ _ _ ?_
              clear hK K
              refine Sched2.Run.step (fun K hK => Sched2.Good.fix off_nil ?_)
              apply Exists.intro
              refine ⟨fun w' hw' => ?_, ?_⟩
              · skip
                go_simp
                exact rfl
              go_simp
              refine hK _ _ _ ?_
              clear hK K
              refine Sched2.Run.step (fun K hK => Sched2.Good.fix off_nil ?_)
              apply Exists.intro
              refine ⟨fun w' hw' => ?_, ?_⟩
              · obtain ⟨y0, y1, y2⟩ := HS1.out w' hw'
                go_simp
                exact rfl
              go_simp
              refine hK _ _ _ ?_
              clear hK K
              refine Sched2.Run.step (fun K hK => Sched2.Good.fix off_nil ?_)
              apply Exists.intro
              refine ⟨fun w' hw' => ?_, ?_⟩
              · skip
                go_simp
                have h := MFind_calls gM AM cM (mLs n ls) _ _ _ p val bef w' (HM1.out.moved hw') HMO.out; rw [HM0.out] at h; exact h
              go_simp
              refine hK _ _ _ ?_
              clear hK K
              refine Sched2.Run.step (fun K hK => Sched2.Good.fix off_nil ?_)
              apply Exists.intro
              refine ⟨fun w' hw' => ?_, ?_⟩
              · skip
                go_simp
                exact rfl
              go_simp
              refine hK _ _ _ ?_
              clear hK K
              refine Sched2.Run.step (fun K hK => Sched2.Good.fix off_nil ?_)
              apply Exists.intro
              refine ⟨fun w' hw' => ?_, ?_⟩
              · skip
                go_simp
                exact rfl
              go_simp
              refine hK _ _ _ ?_
              clear hK K
              refine Sched2.Run.step (fun K hK => Sched2.Good.fix off_nil ?_)
              apply Exists.intro
              refine ⟨fun w' hw' => ?_, ?_⟩
              · skip
                go_simp
                exact rfl
              go_simp
              refine hK _ _ _ ?_
              clear hK K
              refine Sched2.Run.step (fun K hK => Sched2.Good.fresh 16 (FW w1.heap.size) rfl rfl (by simp) (FW_kept _ _) ?_ ?_)
              · intro w' hw'
                go_simp
                exact ⟨_, _, ⟨rfl, rfl⟩, below_alloc (Below.refl _ _) _, FW_made w' _ hw'.size⟩
              go_simp
              refine hK _ _ _ ?_
              clear hK K
              refine Sched2.Run.step (fun K hK => Sched2.Good.write 16 _ (GW w1.heap.size x) (List.mem_singleton.2 rfl) rfl rfl (on_one (by kernel_rfl)) but_one (GW_kept _ _) ?_ ?_)
              · rintro x0 w' hw' ⟨g0, rfl, hg0, y9, hy9⟩
                obtain ⟨s0, s1, s2, s3, s4, s5⟩ := lf_cells hy9
                have t0 := blk_frozen hy9 0
                have t1 := blk_frozen hy9 1
                have t2 := blk_frozen hy9 2
                have t3 := blk_frozen hy9 3
                have t4 := blk_frozen hy9 4
                have t5 := blk_frozen hy9 5
                have hst := wrote_step x hw' hg0 hy9
                clear hy9
                go_simp
                exact hst
              refine hK _ _ _ ?_
              clear hK K
              refine Sched2.Run.step (fun K hK => Sched2.Good.fix (off_one (by kernel_rfl)) ?_)
              apply Exists.intro
              refine ⟨fun w' hw' => ?_, ?_⟩
              · skip
                go_simp
                exact rfl
              go_simp
              refine hK _ _ _ ?_
              clear hK K
              refine Sched2.Run.nil ?_
              intro b9 w' hb hf
              obtain ⟨v9, _, ⟨gA, rfl, _, hgA⟩, rfl⟩ := hf.one (by simp)
              have HBX := Aside0.mk hb
              have HGX := Aside0.mk hgA
              clear hb hf hgA
              go_wp2_with fail
              go_meet
              case rel => exact ⟨gA, rfl, rfl, HGX, HBX⟩
          case rest =>
          obtain ⟨gB, rfl, rfl, HKB, HBB⟩ := hcut
          have HO2 := Aside0.mk (HO1.out.moved HBB.out)
          have HM2 := Aside0.mk (HM1.out.moved HBB.out)
          have FS2 := Aside0.mk (FS1.out.moved HBB.out)
          have HKA2 := Aside0.mk ((HBB.out.block _ (blk_lt HKA.out)).trans HKA.out)
          obtain ⟨w2, hw2⟩ : ∃ w2, wc = w2 := ⟨_, rfl⟩
          rw [hw2] at HKA2 HKB HO2 HM2 FS2 ⊢
          clear hw2 wc HO1 HM1 FS1 HS1 HKA HBB HM0 HGL HWF
          obtain ⟨a0, a1, a2, a3, a4, a5⟩ := lf_cells HKA2.out
          obtain ⟨b0, b1, b2, b3, b4, b5⟩ := lf_cells HKB.out
          clear HKA2 HKB
          go_wp2_with fail
          go_roundw
          case measure => first | omega | (simp [intOf]; have := HLT.out; omega)
          case rel => exact ⟨k + 1, by congr 1, by have := HLT.out; omega, FS2, HO2, HM2⟩
        · have e1 : decide ((k : Int) < (qs.length : Int)) = false := decide_eq_false (by omega)
          have e2 : decide (k < qs.length) = false := decide_eq_false hlt
          clear hk hlt
          go_wp2_with fail
          refine (OStanding_calls g gm vs GG st _ HOr.out).mono ?_
          rintro e w7 ⟨rfl, hB⟩
          have HO7 := Aside0.mk (HOr.out.moved hB)
          have HM7 := Aside0.mk (HMr.out.moved hB)
          have FS7 := Aside0.mk (FSr.out.moved hB)
          clear hB HOr HMr FSr
          go_wp2_with fail
          refine (MStanding_calls gM AM cM (mLs n ls) _ _ _ w7 HM7.out HMO.out).mono ?_
          rintro e w8 ⟨rfl, hB⟩
          rw [HST.out]
          have HO8 := Aside0.mk (HO7.out.moved hB)
          have HM8 := Aside0.mk (HM7.out.moved hB)
          have FS8 := Aside0.mk (FS7.out.moved hB)
          clear hB HO7 HM7 FS7
          have r0 : w8.cell? ⟨g9, 0, none⟩ = some (.int .i64 0) := (blk_cell FS8.out.kg 0).trans rfl
          have r1 : w8.cell? ⟨g9, 1, none⟩ = some (.int .i64 0) := (blk_cell FS8.out.kg 1).trans rfl
          have r2 : w8.cell? ⟨g9, 2, none⟩ = some (.int .u64 0) := (blk_cell FS8.out.kg 2).trans rfl
          have r3 : w8.cell? ⟨g9, 3, none⟩ = some (.slice (some ⟨ga, 0, none⟩) ls.length c) := (blk_cell FS8.out.kg 3).trans rfl
          have r4 : w8.cell? ⟨g9, 4, none⟩ = some (.slice A4 0 c4) := (blk_cell FS8.out.kg 4).trans rfl
          have r5 : w8.cell? ⟨g9, 5, none⟩ = some (.int .i64 0) := (blk_cell FS8.out.kg 5).trans rfl
          go_wp2_with fail
          refine (marks_at (some ⟨ga, 0, none⟩) A4 c c4 xs w8 FS8.out.len FS8.out.all FS8.out.lens.1 HP.out.2.1).mono ?_
          rintro e w9 ⟨rfl, hB⟩
          have KE9 := Aside0.mk ((hB.block _ (blk_lt FS8.out.ke)).trans FS8.out.ke)
          have HB9 := Aside0.mk (below_then FS8.out.b FS8.out.b.size hB)
          clear hB FS8 HO8 HM8 HGG HST HMO HA r0 r1 r2 r3 r4 r5 e1 e2
          go_upto_region 23 with fail
          as_aux_lemma =>
            go_wp2_with fail
            refine (lent_calls A1 c1 ls w9 (Kd.C_below H1w.out HB9.out) HP.out.1 HP.out.2.1).mono ?_
            rintro e w10 ⟨Ab, A5, c2, c5, rfl, hR, hB⟩
            obtain ⟨gb, rfl, hgb, hgb2⟩ := hR.at_ (by omega)
            have NC2 := Aside0.mk (Kd.R_reads' hR).2.1
            have KE10 := Aside0.mk ((hB.block _ (blk_lt KE9.out)).trans KE9.out)
            have HB10 := Aside0.mk (below_then HB9.out HB9.out.size hB)
            have HR10 := Aside0.mk (Kd.R_lower hR HB9.out.size)
            clear hR hB KE9 HB9 hgb hgb2
            obtain ⟨oG, hoG⟩ : ∃ o : Obj, o = .cells #[.int .i64 0, .int .i64 0, .int .u64 0, .slice (some ⟨gb, 0, none⟩) ls.length c2, .slice A5 0 c5, .int .i64 0] 60 (0, 0) := ⟨_, rfl⟩
            have hba : Below w10.heap.size w10 (w10.alloc oG) := below_alloc (Below.refl _ _) _
            have KG11 := Aside0.mk ((heap_alloc_new w10 oG).trans (congrArg some hoG))
            have KE11 := Aside0.mk ((hba.block _ (blk_lt KE10.out)).trans KE10.out)
            have HB11 := Aside0.mk (below_then HB10.out HB10.out.size hba)
            have HR11 := Aside0.mk (Kd.R_below HR10.out hba)
            clear hba KE10 HB10 HR10
            go_upto_region 24 with fail
            rw [← hoG]
            clear hoG
            obtain ⟨g8, hg8⟩ : ∃ g, w10.heap.size = g := ⟨_, rfl⟩
            generalize w10.alloc oG = w11 at KG11 KE11 HB11 HR11 ⊢
            rw [hg8] at KG11 ⊢
            clear hg8
            have FS11 : Aside0 (FS w w11 g6 g8 gb ls.length c2 A5 c5 ea ed es ls) := ⟨⟨KE11.out, KG11.out, HR11.out, HB11.out, rfl⟩⟩
            clear KE11 KG11 HB11 HR11
            have p0 : w11.cell? ⟨g6, 0, none⟩ = some (.int .i64 ea) := (blk_cell FS11.out.ke 0).trans rfl
            have p1 : w11.cell? ⟨g6, 1, none⟩ = some (.int .i64 ed) := (blk_cell FS11.out.ke 1).trans rfl
            have p2 : w11.cell? ⟨g6, 2, none⟩ = some (.string es) := (blk_cell FS11.out.ke 2).trans rfl
            have r0 : w11.cell? ⟨g8, 0, none⟩ = some (.int .i64 0) := (blk_cell FS11.out.kg 0).trans rfl
            have r1 : w11.cell? ⟨g8, 1, none⟩ = some (.int .i64 0) := (blk_cell FS11.out.kg 1).trans rfl
            have r2 : w11.cell? ⟨g8, 2, none⟩ = some (.int .u64 0) := (blk_cell FS11.out.kg 2).trans rfl
            have r3 : w11.cell? ⟨g8, 3, none⟩ = some (.slice (some ⟨gb, 0, none⟩) ls.length c2) := (blk_cell FS11.out.kg 3).trans rfl
            have r4 : w11.cell? ⟨g8, 4, none⟩ = some (.slice A5 0 c5) := (blk_cell FS11.out.kg 4).trans rfl
            have r5 : w11.cell? ⟨g8, 5, none⟩ = some (.int .i64 0) := (blk_cell FS11.out.kg 5).trans rfl
            go_wp2_with fail
            refine (New_at n 0 0 0 0 ea ed es (some ⟨gb, 0, none⟩) A5 0 c2 c5 ls w11 rfl FS11.out.reads (by have := NC2.out; omega) HP.out.2.1 HP.out.2.2).mono ?_
            rintro e w12 ⟨gx, gmx, vsx, rfl, _, hB, _⟩
            have FS12 := Aside0.mk (FS11.out.moved hB)
            clear hB FS11 p0 p1 p2 r0 r1 r2 r3 r4 r5
            go_wp2_with fail
            go_loopw [19] (fun v19 wr => ∃ (i : Nat) (ys : List S68), v19 = .int .i64 (i : Int) ∧ i ≤ ls.length ∧ Aside0 (FS w wr g6 g8 gb ls.length c2 A5 c5 ea ed es ys)) (fun v19 _ => ls.length - (intOf v19).toNat)
            case atStart => exact ⟨0, ls, rfl, by omega, FS12⟩
            case round =>
              obtain ⟨i, ys, rfl, hi, FSr⟩ := hrel
              clear FS12
              by_cases hlt : i < ls.length
              · have e1 : decide ((i : Int) < (ls.length : Int)) = true := decide_eq_true (by omega)
                have e2 : decide (i < ls.length) = true := decide_eq_true hlt
                have e3 : (i : Int) < (ls.length : Int) := by omega
                have hl := HP.out.2.1
                have hcc := FSr.out.lens.1
                have e4 : IntKind.i64.wrap ((i : Int) + 1) = (i : Int) + 1 := (i64_w _).trans (w64 (by omega) (by omega))
                obtain ⟨j, hj⟩ : ∃ j : Nat, j + i + 1 = ls.length := ⟨ls.length - 1 - i, by omega⟩
                have e5 : IntKind.i64.wrap ((ls.length : Int) - 1) = (ls.length : Int) - 1 := (i64_w _).trans (w64 (by omega) (by omega))
                have e6 : IntKind.i64.wrap ((ls.length : Int) - 1 - (i : Int)) = (j : Int) := (i64_w _).trans ((w64 (by omega) (by omega)).trans (by omega))
                have e7 : (j : Int) < (ls.length : Int) := by omega
                have e8 : j < ls.length := by omega
                have q3 : wr.cell? ⟨g8, 3, none⟩ = some (.slice (some ⟨gb, 0, none⟩) ls.length c2) := (blk_cell FSr.out.kg 3).trans rfl
                obtain ⟨⟨z0, z1, z2, z3, z4, z5⟩, _⟩ := FSr.out.at_ j e8
                obtain ⟨_, zf⟩ := FSr.out.at_ i hlt
                have f0 := zf (i * 6)
                have f1 := zf (i * 6 + 1)
                have f2 := zf (i * 6 + 2)
                have f3 := zf (i * 6 + 3)
                have f4 := zf (i * 6 + 4)
                have f5 := zf (i * 6 + 5)
                obtain ⟨⟨s0, s1, s2, s3, s4, s5⟩, _⟩ := FSr.out.at_ i hlt
                obtain ⟨x, hx⟩ : ∃ x, rd_T68 ys (j : Int) = x := ⟨_, rfl⟩
                rw [hx] at z0 z1 z2 z3 z4 z5
                have HLT := Aside0.mk hlt
                clear hx hi hlt zf hj
                go_upto_region 28 with fail
                go_still_tail 13, (by kernel_rfl)
                have FSd := Aside0.mk (FSr.out.moved (below_drew (Below.refl _ _)))
                clear FSr q3 z0 z1 z2 z3 z4 z5 f0 f1 f2 f3 f4 f5 s0 s1 s2 s3 s4 s5
                change wpList _ _ _ _ _ wr.drew
                generalize wr.drew = wd at FSd ⊢
                obtain ⟨⟨s0, s1, s2, s3, s4, s5⟩, zf⟩ := FSd.out.at_ i HLT.out
                have f0 := zf (i * 6)
                have f1 := zf (i * 6 + 1)
                have f2 := zf (i * 6 + 2)
                have f3 := zf (i * 6 + 3)
                have f4 := zf (i * 6 + 4)
                have f5 := zf (i * 6 + 5)
                clear zf
                go_wp2_with fail
                go_roundw
                case measure => first | omega | (simp [intOf]; have := HLT.out; omega)
                case rel => exact ⟨i + 1, ys.set i x, by congr 1, by have := HLT.out; omega, ⟨FSd.out.put i x HLT.out⟩⟩
              · have e1 : decide ((i : Int) < (ls.length : Int)) = false := decide_eq_false (by omega)
                have e2 : decide (i < ls.length) = false := decide_eq_false hlt
                clear hi hlt
                have p0 : wr.cell? ⟨g6, 0, none⟩ = some (.int .i64 ea) := (blk_cell FSr.out.ke 0).trans rfl
                have p1 : wr.cell? ⟨g6, 1, none⟩ = some (.int .i64 ed) := (blk_cell FSr.out.ke 1).trans rfl
                have p2 : wr.cell? ⟨g6, 2, none⟩ = some (.string es) := (blk_cell FSr.out.ke 2).trans rfl
                have r0 : wr.cell? ⟨g8, 0, none⟩ = some (.int .i64 0) := (blk_cell FSr.out.kg 0).trans rfl
                have r1 : wr.cell? ⟨g8, 1, none⟩ = some (.int .i64 0) := (blk_cell FSr.out.kg 1).trans rfl
                have r2 : wr.cell? ⟨g8, 2, none⟩ = some (.int .u64 0) := (blk_cell FSr.out.kg 2).trans rfl
                have r3 : wr.cell? ⟨g8, 3, none⟩ = some (.slice (some ⟨gb, 0, none⟩) ls.length c2) := (blk_cell FSr.out.kg 3).trans rfl
                have r4 : wr.cell? ⟨g8, 4, none⟩ = some (.slice A5 0 c5) := (blk_cell FSr.out.kg 4).trans rfl
                have r5 : wr.cell? ⟨g8, 5, none⟩ = some (.int .i64 0) := (blk_cell FSr.out.kg 5).trans rfl
                have HCy := Aside0.mk FSr.out.reads
                have HYL := Aside0.mk FSr.out.len
                have NY := Aside0.mk (show ys.length ≤ 1048576 by have := HP.out.2.1; have := FSr.out.len; omega)
                go_upto_region 29 with fail
                go_cut [20] (fun v20 wx => ∃ (gM : Nat) (AM : Option Addr) (cM : Nat), v20 = .pointer (some ⟨gM, 0, none⟩) ∧ Aside0 (Mdl wx gM AM cM (mLs n ys) (mAt n ys ea) (mDel n ys ea ed) (mIns n ys es)) ∧ Aside0 (Below wr.heap.size wr wx))
                case first =>
                  as_aux_lemma =>
                  go_region_law
                    (first
                      | (go_simp
                         go_at_call 20
                         refine (twin_at (some ⟨gb, 0, none⟩) c2 ys _ HYL.out (Kd.C_below HCy.out (below_drew (Below.refl _ _))) (by have := NC2.out; omega) HP.out.2.1).mono ?_
                         rintro e wt ⟨A7, A8, c7, c8, rfl, h3, h4, hB0⟩
                         have hB : Below wr.heap.size wr wt := Below.trans (below_drew (Below.refl _ _)) hB0
                         have HBt := Aside0.mk hB
                         have KEt := Aside0.mk ((hB.block _ (blk_lt FSr.out.ke)).trans FSr.out.ke)
                         have q0 : wt.cell? ⟨g6, 0, none⟩ = some (.int .i64 ea) := (blk_cell KEt.out 0).trans rfl
                         have q1 : wt.cell? ⟨g6, 1, none⟩ = some (.int .i64 ed) := (blk_cell KEt.out 1).trans rfl
                         have q2 : wt.cell? ⟨g6, 2, none⟩ = some (.string es) := (blk_cell KEt.out 2).trans rfl
                         have H7 := Aside0.mk (Kd.R_reads' h3).2.2
                         have H8 := Aside0.mk h4
                         have H9 := Aside0.mk (Kd.R_reads' h3).2.1
                         clear hB hB0 h3 h4)
                      | (go_simp
                         go_at_call 19
                         refine (MNew_at n 0 0 0 0 ea ed es A7 A8 c7 c8 ys _ HYL.out H7.out H9.out H8.out HP.out.2.1 HP.out.2.2).mono ?_
                         rintro e wu ⟨gM, AM, cM, rfl, hM, hB0, hgM, hAM⟩
                         have hB : Below wt.heap.size wt wu := hB0
                         have HBu := Aside0.mk (below_then HBt.out HBt.out.size hB)
                         have HMu := Aside0.mk hM
                         clear hB hB0 hM hgM hAM))
                  all_goals
                    (go_wp2_with fail
                     go_meet
                     case rel => exact ⟨gM, AM, cM, rfl, HMu, HBu⟩)
                case rest =>
                obtain ⟨gM, AM, cM, rfl, HMc, hBc⟩ := hcut
                have FSc := Aside0.mk (FSr.out.moved hBc.out)
                clear hBc HCy FSr p0 p1 p2 r0 r1 r2 r3 r4 r5
                obtain ⟨w13, hw13⟩ : ∃ w13, wc = w13 := ⟨_, rfl⟩
                rw [hw13] at HMc FSc ⊢
                clear hw13 wc
                have p0 : w13.cell? ⟨g6, 0, none⟩ = some (.int .i64 ea) := (blk_cell FSc.out.ke 0).trans rfl
                have p1 : w13.cell? ⟨g6, 1, none⟩ = some (.int .i64 ed) := (blk_cell FSc.out.ke 1).trans rfl
                have p2 : w13.cell? ⟨g6, 2, none⟩ = some (.string es) := (blk_cell FSc.out.ke 2).trans rfl
                have r0 : w13.cell? ⟨g8, 0, none⟩ = some (.int .i64 0) := (blk_cell FSc.out.kg 0).trans rfl
                have r1 : w13.cell? ⟨g8, 1, none⟩ = some (.int .i64 0) := (blk_cell FSc.out.kg 1).trans rfl
                have r2 : w13.cell? ⟨g8, 2, none⟩ = some (.int .u64 0) := (blk_cell FSc.out.kg 2).trans rfl
                have r3 : w13.cell? ⟨g8, 3, none⟩ = some (.slice (some ⟨gb, 0, none⟩) ls.length c2) := (blk_cell FSc.out.kg 3).trans rfl
                have r4 : w13.cell? ⟨g8, 4, none⟩ = some (.slice A5 0 c5) := (blk_cell FSc.out.kg 4).trans rfl
                have r5 : w13.cell? ⟨g8, 5, none⟩ = some (.int .i64 0) := (blk_cell FSc.out.kg 5).trans rfl
                go_wp2_with fail
                refine (New_at n 0 0 0 0 ea ed es (some ⟨gb, 0, none⟩) A5 0 c2 c5 ys w13 HYL.out FSc.out.reads (by have := NC2.out; omega) HP.out.2.1 HP.out.2.2).mono ?_
                rintro e w14 ⟨gp, gmp, vsp, rfl, hO, hB, _⟩
                have FS14 := Aside0.mk (FSc.out.moved hB)
                have HM14 := Aside0.mk (HMc.out.moved hB)
                clear hB FSc HMc p0 p1 p2 r0 r1 r2 r3 r4 r5
                obtain ⟨GP, hGG⟩ : ∃ G, (gAt (mLs n ys) (mAt n ys ea) (mDel n ys ea ed) (mIns n ys es) (mLs n ys).length) = G := ⟨_, rfl⟩
                obtain ⟨sp, hst⟩ : ∃ s, (standN (mLs n ys) (mAt n ys ea) (mDel n ys ea ed) (mLs n ys).length) = s := ⟨_, rfl⟩
                rw [hGG, hst] at hO
                have HO14 := Aside0.mk hO
                have HGG := Aside0.mk hGG
                have HST := Aside0.mk hst
                have HMO := Aside0.mk (mok n ys ea ed es NY.out HP.out.2.2)
                clear hGG hst hO
                go_wp2_with fail
                refine (OStanding_calls gp gmp vsp GP sp _ HO14.out).mono ?_
                rintro e w15 ⟨rfl, hB⟩
                have HO15 := Aside0.mk (HO14.out.moved hB)
                have HM15 := Aside0.mk (HM14.out.moved hB)
                have FS15 := Aside0.mk (FS14.out.moved hB)
                clear hB HO14 HM14 FS14
                go_wp2_with fail
                refine (MStanding_calls gM AM cM (mLs n ys) _ _ _ w15 HM15.out HMO.out).mono ?_
                rintro e w16 ⟨rfl, hB⟩
                rw [HST.out]
                have HO16 := Aside0.mk (HO15.out.moved hB)
                have HM16 := Aside0.mk (HM15.out.moved hB)
                have FS16 := Aside0.mk (FS15.out.moved hB)
                clear hB HO15 HM15 FS15
                go_wp2_with fail
                go_loopw [22, 23, 24, 25, 26] (fun v22 v23 v24 v25 v26 wr => ∃ k : Nat, v22 = .int .i64 (k : Int) ∧ k ≤ qs.length ∧ Aside0 (FS w wr g6 g8 gb ls.length c2 A5 c5 ea ed es ys) ∧ Aside0 (OldS wr gp gmp vsp GP sp) ∧ Aside0 (Mdl wr gM AM cM (mLs n ys) (mAt n ys ea) (mDel n ys ea ed) (mIns n ys es))) (fun v22 _ _ _ _ _ => qs.length - (intOf v22).toNat)
                case atStart => exact ⟨0, rfl, by omega, FS16, HO16, HM16⟩
                case round =>
                  obtain ⟨k, rfl, hk, FSr, HOr, HMr⟩ := hrel
                  clear FS16 HO16 HM16
                  by_cases hlt : k < qs.length
                  · have e1 : decide ((k : Int) < (qs.length : Int)) = true := decide_eq_true (by omega)
                    have e2 : decide (k < qs.length) = true := decide_eq_true hlt
                    have e3 : (k : Int) < (qs.length : Int) := by omega
                    have hql := HPQ.out.2.1
                    have hqc := HPQ.out.1
                    have e4 : IntKind.i64.wrap ((k : Int) + 1) = (k : Int) + 1 := (i64_w _).trans (w64 (by omega) (by omega))
                    obtain ⟨ad, hA, y0, y1, y2⟩ := at_Ask (Kd.C_below HQw.out FSr.out.b) (k : Int) (by omega) (by omega)
                    rw [Int.toNat_natCast] at y0 y1 y2
                    have hwf := HPQ.out.2.2 k hlt
                    obtain ⟨⟨p, bef, val⟩, hx⟩ : ∃ x, rdA qs k = x := ⟨_, rfl⟩
                    rw [hx] at y0 y1 y2 hwf
                    have HLT := Aside0.mk hlt
                    have HWF := Aside0.mk hwf
                    subst hA
                    have HS3 : Aside0 (∀ W : World, Below wr.heap.size wr W → W.cell? (ad.add (k * 3)) = some (.int .i64 p) ∧ W.cell? ⟨(ad.add (k * 3)).block, (ad.add (k * 3)).off + 1, none⟩ = some (.string bef) ∧ W.cell? ⟨(ad.add (k * 3)).block, (ad.add (k * 3)).off + 2, none⟩ = some (.int .u64 val)) := ⟨fun W hb => by
                      obtain ⟨ad2, hA2, b0, b1, b2⟩ := at_Ask (Kd.C_below HQw.out (below_then FSr.out.b FSr.out.b.size hb)) (k : Int) (by omega) (by omega)
                      rw [Int.toNat_natCast, hx] at b0 b1 b2
                      injection hA2 with hA2
                      subst hA2
                      exact ⟨b0, b1, b2⟩⟩
                    clear hx hk hlt hwf
                    obtain ⟨r, hr⟩ : ∃ r, findM (hitB (mLs n ys) (mAt n ys ea) (mDel n ys ea ed) (mIns n ys es) p bef val) (mLs n ys) (mLs n ys).length 0 = r := ⟨_, rfl⟩
                    obtain ⟨x, hx⟩ : ∃ x, r.getD z68 = x := ⟨_, rfl⟩
                    obtain ⟨ok, hok⟩ : ∃ x, r.isSome = x := ⟨_, rfl⟩
                    have HM0 : Aside0 (fnd (findM (hitB (mLs n ys) (mAt n ys ea) (mDel n ys ea ed) (mIns n ys es) p bef val) (mLs n ys) (mLs n ys).length 0) = .tuple #[.agg #[.int .i64 x.f0, .int .i64 x.f1, .int .i64 x.f2, .int .i64 x.f3, .int .u64 x.f4, .string x.f5], .bool ok]) := ⟨by rw [hr]; unfold fnd; rw [hx, hok]⟩
                    have HO0 : Aside0 (fnd (findO bef val (GP p) (GP p).length 0) = .tuple #[.agg #[.int .i64 x.f0, .int .i64 x.f1, .int .i64 x.f2, .int .i64 x.f3, .int .u64 x.f4, .string x.f5], .bool ok]) := ⟨by rw [← HGG.out, find_eq]; exact HM0.out⟩
                    have HGL : Aside0 ((GP p).length ≤ 1048576) := ⟨by rw [← HGG.out]; exact Nat.le_trans (gAt_len _ _ _ _ _ _) (mLs_len2 NY.out)⟩
                    clear hr hx hok
                    go_upto_region 36 with fail
                    go_cut [23, 24] (fun va vk wx => ∃ gA : Nat, va = .pointer (some ⟨gA, 0, none⟩) ∧ vk = .bool ok ∧ Aside0 (wx.heap[gA]? = some (lfC x)) ∧ Aside0 (Below wr.heap.size wr wx))
                    case first =>
                      as_aux_lemma =>
                        refine Sched2.wp_region_run (Mv6 wr.heap.size x) (by kernel_rfl) (by kernel_rfl) ?_
                        refine Sched2.Run.step (fun K hK => Sched2.Good.fix off_nil ?_)
                        apply Exists.intro
                        refine ⟨fun w' hw' => ?_, ?_⟩
                        · skip
                          go_simp
                          exact rfl
                        go_simp
                        refine hK _ _ _ ?_
                        clear hK K
                        refine Sched2.Run.step (fun K hK => Sched2.Good.fix off_nil ?_)
                        apply Exists.intro
                        refine ⟨fun w' hw' => ?_, ?_⟩
                        · skip
                          go_simp
                          exact rfl
                        go_simp
                        refine hK _ _ _ ?_
                        clear hK K
                        refine Sched2.Run.step (fun K hK => Sched2.Good.fix off_nil ?_)
                        apply Exists.intro
                        refine ⟨fun w' hw' => ?_, ?_⟩
                        · skip
                          go_simp
                          exact rfl
                        go_simp
                        refine hK _ _ _ ?_
                        clear hK K
                        refine Sched2.Run.step (fun K hK => Sched2.Good.fix off_nil ?_)
                        apply Exists.intro
                        refine ⟨fun w' hw' => ?_, ?_⟩
                        · skip
                          go_simp
                          exact rfl
                        go_simp
                        refine hK _ _ _ ?_
                        clear hK K
                        refine Sched2.Run.step (fun K hK => Sched2.Good.fix off_nil ?_)
                        apply Exists.intro
                        refine ⟨fun w' hw' => ?_, ?_⟩
                        · skip
                          go_simp
                          exact rfl
                        go_simp
                        refine hK _ _ _ ?_
                        clear hK K
                        refine Sched2.Run.step (fun K hK => Sched2.Good.fix off_nil ?_)
                        apply Exists.intro
                        refine ⟨fun w' hw' => ?_, ?_⟩
                        · obtain ⟨y0, y1, y2⟩ := HS3.out w' hw'
                          go_simp
                          exact rfl
                        go_simp
                        refine hK _ _ _ ?_
                        clear hK K
                        refine Sched2.Run.step (fun K hK => Sched2.Good.fix off_nil ?_)
                        apply Exists.intro
                        refine ⟨fun w' hw' => ?_, ?_⟩
                        · skip
                          go_simp
                          exact rfl
                        go_simp
                        refine hK _ _ _ ?_
                        clear hK K
                        refine Sched2.Run.step (fun K hK => Sched2.Good.fix off_nil ?_)
                        apply Exists.intro
                        refine ⟨fun w' hw' => ?_, ?_⟩
                        · skip
                          go_simp
                          exact rfl
                        go_simp
                        refine hK _ _ _ ?_
                        clear hK K
                        refine Sched2.Run.step (fun K hK => Sched2.Good.fix off_nil ?_)
                        apply Exists.intro
                        refine ⟨fun w' hw' => ?_, ?_⟩
                        · skip
                          go_simp
                          exact rfl
                        go_simp
                        refine hK _ _ _ ?_
                        clear hK K
                        refine Sched2.Run.step (fun K hK => Sched2.Good.fix off_nil ?_)
                        apply Exists.intro
                        refine ⟨fun w' hw' => ?_, ?_⟩
                        · skip
                          go_simp
                          exact rfl
                        go_simp
                        refine hK _ _ _ ?_
                        clear hK K
                        refine Sched2.Run.step (fun K hK => Sched2.Good.fix off_nil ?_)
                        apply Exists.intro
                        refine ⟨fun w' hw' => ?_, ?_⟩
                        · obtain ⟨y0, y1, y2⟩ := HS3.out w' hw'
                          go_simp
                          exact rfl
                        go_simp
                        refine hK _ _ _ ?_
                        clear hK K
                        refine Sched2.Run.step (fun K hK => Sched2.Good.fix off_nil ?_)
                        apply Exists.intro
                        refine ⟨fun w' hw' => ?_, ?_⟩
                        · skip
                          go_simp
                          exact rfl
                        go_simp
                        refine hK _ _ _ ?_
                        clear hK K
                        refine Sched2.Run.step (fun K hK => Sched2.Good.fix off_nil ?_)
                        apply Exists.intro
                        refine ⟨fun w' hw' => ?_, ?_⟩
                        · skip
                          go_simp
                          exact rfl
                        go_simp
                        refine hK _ _ _ ?_
                        clear hK K
                        refine Sched2.Run.step (fun K hK => Sched2.Good.fix off_nil ?_)
                        apply Exists.intro
                        refine ⟨fun w' hw' => ?_, ?_⟩
                        · skip
                          go_simp
                          exact rfl
                        go_simp
                        refine hK _ _ _ ?_
                        clear hK K
                        refine Sched2.Run.step (fun K hK => Sched2.Good.fix off_nil ?_)
                        apply Exists.intro
                        refine ⟨fun w' hw' => ?_, ?_⟩
                        · skip
                          go_simp
                          exact rfl
                        go_simp
                        refine hK _ _ _ ?_
                        clear hK K
                        refine Sched2.Run.step (fun K hK => Sched2.Good.fix off_nil ?_)
                        apply Exists.intro
                        refine ⟨fun w' hw' => ?_, ?_⟩
                        · obtain ⟨y0, y1, y2⟩ := HS3.out w' hw'
                          go_simp
                          exact rfl
                        go_simp
                        refine hK _ _ _ ?_
                        clear hK K
                        refine Sched2.Run.step (fun K hK => Sched2.Good.fix off_nil ?_)
                        apply Exists.intro
                        refine ⟨fun w' hw' => ?_, ?_⟩
                        · skip
                          go_simp
                          have h := OFind_calls gp gmp vsp GP sp p val bef w' (HOr.out.moved hw') HWF.out HGL.out; rw [HO0.out] at h; exact h
                        go_simp
                        refine hK _ _ _ ?_
                        clear hK K
                        refine Sched2.Run.step (fun K hK => Sched2.Good.fix off_nil ?_)
                        apply Exists.intro
                        refine ⟨fun w' hw' => ?_, ?_⟩
                        · skip
                          go_simp
                          exact rfl
                        go_simp
                        refine hK _ _ _ ?_
                        clear hK K
                        refine Sched2.Run.step (fun K hK => Sched2.Good.fix off_nil ?_)
                        apply Exists.intro
                        refine ⟨fun w' hw' => ?_, ?_⟩
                        · skip
                          go_simp
                          exact rfl
                        go_simp
                        refine hK _ _ _ ?_
                        clear hK K
                        refine Sched2.Run.step (fun K hK => Sched2.Good.fix off_nil ?_)
                        apply Exists.intro
                        refine ⟨fun w' hw' => ?_, ?_⟩
                        · skip
                          go_simp
                          exact rfl
                        go_simp
                        refine hK _ _ _ ?_
                        clear hK K
                        refine Sched2.Run.step (fun K hK => Sched2.Good.fresh 23 (FW wr.heap.size) rfl rfl (by simp) (FW_kept _ _) ?_ ?_)
                        · intro w' hw'
                          go_simp
                          exact ⟨_, _, ⟨rfl, rfl⟩, below_alloc (Below.refl _ _) _, FW_made w' _ hw'.size⟩
                        go_simp
                        refine hK _ _ _ ?_
                        clear hK K
                        refine Sched2.Run.step (fun K hK => Sched2.Good.write 23 _ (GW wr.heap.size x) (List.mem_singleton.2 rfl) rfl rfl (on_one (by kernel_rfl)) but_one (GW_kept _ _) ?_ ?_)
                        · rintro x0 w' hw' ⟨g0, rfl, hg0, y9, hy9⟩
                          obtain ⟨s0, s1, s2, s3, s4, s5⟩ := lf_cells hy9
                          have t0 := blk_frozen hy9 0
                          have t1 := blk_frozen hy9 1
                          have t2 := blk_frozen hy9 2
                          have t3 := blk_frozen hy9 3
                          have t4 := blk_frozen hy9 4
                          have t5 := blk_frozen hy9 5
                          have hst := wrote_step x hw' hg0 hy9
                          clear hy9
                          go_simp
                          exact hst
                        refine hK _ _ _ ?_
                        clear hK K
                        refine Sched2.Run.step (fun K hK => Sched2.Good.fix (off_one (by kernel_rfl)) ?_)
                        apply Exists.intro
                        refine ⟨fun w' hw' => ?_, ?_⟩
                        · skip
                          go_simp
                          exact rfl
                        go_simp
                        refine hK _ _ _ ?_
                        clear hK K
                        refine Sched2.Run.nil ?_
                        intro b9 w' hb hf
                        obtain ⟨v9, _, ⟨gA, rfl, _, hgA⟩, rfl⟩ := hf.one (by simp)
                        have HBX := Aside0.mk hb
                        have HGX := Aside0.mk hgA
                        clear hb hf hgA
                        go_wp2_with fail
                        go_meet
                        case rel => exact ⟨gA, rfl, rfl, HGX, HBX⟩
                    case rest =>
                    obtain ⟨gA, rfl, rfl, HKA, HBA⟩ := hcut
                    have HO1 := Aside0.mk (HOr.out.moved HBA.out)
                    have HM1 := Aside0.mk (HMr.out.moved HBA.out)
                    have FS1 := Aside0.mk (FSr.out.moved HBA.out)
                    have HS1 : Aside0 (∀ W : World, Below wc.heap.size wc W → W.cell? (ad.add (k * 3)) = some (.int .i64 p) ∧ W.cell? ⟨(ad.add (k * 3)).block, (ad.add (k * 3)).off + 1, none⟩ = some (.string bef) ∧ W.cell? ⟨(ad.add (k * 3)).block, (ad.add (k * 3)).off + 2, none⟩ = some (.int .u64 val)) := ⟨fun W hb => HS3.out W (below_then HBA.out HBA.out.size hb)⟩
                    clear HOr HMr FSr HS3 HBA y0 y1 y2 HO0
                    obtain ⟨w1, hw1⟩ : ∃ w1, wc = w1 := ⟨_, rfl⟩
                    rw [hw1] at HKA HO1 HM1 FS1 HS1 ⊢
                    clear hw1 wc
                    go_upto_region 37 with fail
                    go_cut [25, 26] (fun vb vy wx => ∃ gB : Nat, vb = .pointer (some ⟨gB, 0, none⟩) ∧ vy = .bool ok ∧ Aside0 (wx.heap[gB]? = some (lfC x)) ∧ Aside0 (Below w1.heap.size w1 wx))
                    case first =>
                      as_aux_lemma =>
                        refine Sched2.wp_region_run (Mv6 w1.heap.size x) (by kernel_rfl) (by kernel_rfl) ?_
                        refine Sched2.Run.step (fun K hK => Sched2.Good.fix off_nil ?_)
                        apply Exists.intro
                        refine ⟨fun w' hw' => ?_, ?_⟩
                        · skip
                          go_simp
                          exact rfl
                        go_simp
                        refine hK _ _ _ ?_
                        clear hK K
                        refine Sched2.Run.step (fun K hK => Sched2.Good.fix off_nil ?_)
                        apply Exists.intro
                        refine ⟨fun w' hw' => ?_, ?_⟩
                        · skip
                          go_simp
                          exact rfl
                        go_simp
                        refine hK _ _ _ ?_
                        clear hK K
                        refine Sched2.Run.step (fun K hK => Sched2.Good.fix off_nil ?_)
                        apply Exists.intro
                        refine ⟨fun w' hw' => ?_, ?_⟩
                        · skip
                          go_simp
                          exact rfl
                        go_simp
                        refine hK _ _ _ ?_
                        clear hK K
                        refine Sched2.Run.step (fun K hK => Sched2.Good.fix off_nil ?_)
                        apply Exists.intro
                        refine ⟨fun w' hw' => ?_, ?_⟩
                        · skip
                          go_simp
                          exact rfl
                        go_simp
                        refine hK _ _ _ ?_
                        clear hK K
                        refine Sched2.Run.step (fun K hK => Sched2.Good.fix off_nil ?_)
                        apply Exists.intro
                        refine ⟨fun w' hw' => ?_, ?_⟩
                        · skip
                          go_simp
                          exact rfl
                        go_simp
                        refine hK _ _ _ ?_
                        clear hK K
                        refine Sched2.Run.step (fun K hK => Sched2.Good.fix off_nil ?_)
                        apply Exists.intro
                        refine ⟨fun w' hw' => ?_, ?_⟩
                        · obtain ⟨y0, y1, y2⟩ := HS1.out w' hw'
                          go_simp
                          exact rfl
                        go_simp
                        refine hK _ _ _ ?_
                        clear hK K
                        refine Sched2.Run.step (fun K hK => Sched2.Good.fix off_nil ?_)
                        apply Exists.intro
                        refine ⟨fun w' hw' => ?_, ?_⟩
                        · skip
                          go_simp
                          exact rfl
                        go_simp
                        refine hK _ _ _ ?_
                        clear hK K
                        refine Sched2.Run.step (fun K hK => Sched2.Good.fix off_nil ?_)
                        apply Exists.intro
                        refine ⟨fun w' hw' => ?_, ?_⟩
                        · skip
                          go_simp
                          exact rfl
                        go_simp
                        refine hK _ _ _ ?_
                        clear hK K
                        refine Sched2.Run.step (fun K hK => Sched2.Good.fix off_nil ?_)
                        apply Exists.intro
                        refine ⟨fun w' hw' => ?_, ?_⟩
                        · skip
                          go_simp
                          exact rfl
                        go_simp
                        refine hK _ _ _ ?_
                        clear hK K
                        refine Sched2.Run.step (fun K hK => Sched2.Good.fix off_nil ?_)
                        apply Exists.intro
                        refine ⟨fun w' hw' => ?_, ?_⟩
                        · skip
                          go_simp
                          exact rfl
                        go_simp
                        refine hK _ _ _ ?_
                        clear hK K
                        refine Sched2.Run.step (fun K hK => Sched2.Good.fix off_nil ?_)
                        apply Exists.intro
                        refine ⟨fun w' hw' => ?_, ?_⟩
                        · obtain ⟨y0, y1, y2⟩ := HS1.out w' hw'
                          go_simp
                          exact rfl
                        go_simp
                        refine hK _ _ _ ?_
                        clear hK K
                        refine Sched2.Run.step (fun K hK => Sched2.Good.fix off_nil ?_)
                        apply Exists.intro
                        refine ⟨fun w' hw' => ?_, ?_⟩
                        · skip
                          go_simp
                          exact rfl
                        go_simp
                        refine hK _ _ _ ?_
                        clear hK K
                        refine Sched2.Run.step (fun K hK => Sched2.Good.fix off_nil ?_)
                        apply Exists.intro
                        refine ⟨fun w' hw' => ?_, ?_⟩
                        · skip
                          go_simp
                          exact rfl
                        go_simp
                        refine hK _ _ _ ?_
                        clear hK K
                        refine Sched2.Run.step (fun K hK => Sched2.Good.fix off_nil ?_)
                        apply Exists.intro
                        refine ⟨fun w' hw' => ?_, ?_⟩
                        · skip
                          go_simp
                          exact rfl
                        go_simp
                        refine hK _ _ _ ?_
                        clear hK K
                        refine Sched2.Run.step (fun K hK => Sched2.Good.fix off_nil ?_)
                        apply Exists.intro
                        refine ⟨fun w' hw' => ?_, ?_⟩
                        · skip
                          go_simp
                          exact rfl
                        go_simp
                        refine hK _ _ _ ?_
                        clear hK K
                        refine Sched2.Run.step (fun K hK => Sched2.Good.fix off_nil ?_)
                        apply Exists.intro
                        refine ⟨fun w' hw' => ?_, ?_⟩
                        · obtain ⟨y0, y1, y2⟩ := HS1.out w' hw'
                          go_simp
                          exact rfl
                        go_simp
                        refine hK _ _ _ ?_
                        clear hK K
                        refine Sched2.Run.step (fun K hK => Sched2.Good.fix off_nil ?_)
                        apply Exists.intro
                        refine ⟨fun w' hw' => ?_, ?_⟩
                        · skip
                          go_simp
                          have h := MFind_calls gM AM cM (mLs n ys) _ _ _ p val bef w' (HM1.out.moved hw') HMO.out; rw [HM0.out] at h; exact h
                        go_simp
                        refine hK _ _ _ ?_
                        clear hK K
                        refine Sched2.Run.step (fun K hK => Sched2.Good.fix off_nil ?_)
                        apply Exists.intro
                        refine ⟨fun w' hw' => ?_, ?_⟩
                        · skip
                          go_simp
                          exact rfl
                        go_simp
                        refine hK _ _ _ ?_
                        clear hK K
                        refine Sched2.Run.step (fun K hK => Sched2.Good.fix off_nil ?_)
                        apply Exists.intro
                        refine ⟨fun w' hw' => ?_, ?_⟩
                        · skip
                          go_simp
                          exact rfl
                        go_simp
                        refine hK _ _ _ ?_
                        clear hK K
                        refine Sched2.Run.step (fun K hK => Sched2.Good.fix off_nil ?_)
                        apply Exists.intro
                        refine ⟨fun w' hw' => ?_, ?_⟩
                        · skip
                          go_simp
                          exact rfl
                        go_simp
                        refine hK _ _ _ ?_
                        clear hK K
                        refine Sched2.Run.step (fun K hK => Sched2.Good.fresh 25 (FW w1.heap.size) rfl rfl (by simp) (FW_kept _ _) ?_ ?_)
                        · intro w' hw'
                          go_simp
                          exact ⟨_, _, ⟨rfl, rfl⟩, below_alloc (Below.refl _ _) _, FW_made w' _ hw'.size⟩
                        go_simp
                        refine hK _ _ _ ?_
                        clear hK K
                        refine Sched2.Run.step (fun K hK => Sched2.Good.write 25 _ (GW w1.heap.size x) (List.mem_singleton.2 rfl) rfl rfl (on_one (by kernel_rfl)) but_one (GW_kept _ _) ?_ ?_)
                        · rintro x0 w' hw' ⟨g0, rfl, hg0, y9, hy9⟩
                          obtain ⟨s0, s1, s2, s3, s4, s5⟩ := lf_cells hy9
                          have t0 := blk_frozen hy9 0
                          have t1 := blk_frozen hy9 1
                          have t2 := blk_frozen hy9 2
                          have t3 := blk_frozen hy9 3
                          have t4 := blk_frozen hy9 4
                          have t5 := blk_frozen hy9 5
                          have hst := wrote_step x hw' hg0 hy9
                          clear hy9
                          go_simp
                          exact hst
                        refine hK _ _ _ ?_
                        clear hK K
                        refine Sched2.Run.step (fun K hK => Sched2.Good.fix (off_one (by kernel_rfl)) ?_)
                        apply Exists.intro
                        refine ⟨fun w' hw' => ?_, ?_⟩
                        · skip
                          go_simp
                          exact rfl
                        go_simp
                        refine hK _ _ _ ?_
                        clear hK K
                        refine Sched2.Run.nil ?_
                        intro b9 w' hb hf
                        obtain ⟨v9, _, ⟨gA, rfl, _, hgA⟩, rfl⟩ := hf.one (by simp)
                        have HBX := Aside0.mk hb
                        have HGX := Aside0.mk hgA
                        clear hb hf hgA
                        go_wp2_with fail
                        go_meet
                        case rel => exact ⟨gA, rfl, rfl, HGX, HBX⟩
                    case rest =>
                    obtain ⟨gB, rfl, rfl, HKB, HBB⟩ := hcut
                    have HO2 := Aside0.mk (HO1.out.moved HBB.out)
                    have HM2 := Aside0.mk (HM1.out.moved HBB.out)
                    have FS2 := Aside0.mk (FS1.out.moved HBB.out)
                    have HKA2 := Aside0.mk ((HBB.out.block _ (blk_lt HKA.out)).trans HKA.out)
                    obtain ⟨w2, hw2⟩ : ∃ w2, wc = w2 := ⟨_, rfl⟩
                    rw [hw2] at HKA2 HKB HO2 HM2 FS2 ⊢
                    clear hw2 wc HO1 HM1 FS1 HS1 HKA HBB HM0 HGL HWF
                    obtain ⟨a0, a1, a2, a3, a4, a5⟩ := lf_cells HKA2.out
                    obtain ⟨b0, b1, b2, b3, b4, b5⟩ := lf_cells HKB.out
                    clear HKA2 HKB
                    go_wp2_with fail
                    go_roundw
                    case measure => first | omega | (simp [intOf]; have := HLT.out; omega)
                    case rel => exact ⟨k + 1, by congr 1, by have := HLT.out; omega, FS2, HO2, HM2⟩
                  · have e1 : decide ((k : Int) < (qs.length : Int)) = false := decide_eq_false (by omega)
                    have e2 : decide (k < qs.length) = false := decide_eq_false hlt
                    clear hk hlt
                    go_wp2_with fail
                    go_ret
                    exact ⟨rfl, FSr.out.b⟩
end Go.Proofs.Ytknagjiipelfnaa.RU
