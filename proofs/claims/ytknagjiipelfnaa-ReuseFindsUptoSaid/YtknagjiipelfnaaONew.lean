/- reuse.New: at each place the leaves that stand there, and how many stand. -/
import Derived.Test.YtknagjiipelfnaaPass
import Derived.Deep.RegionHeld3
namespace Go.Proofs.Ytknagjiipelfnaa.RU
open Go.RowKit Go.WideShapes Go.ChangeShapes Go.Proofs.YtknagjiipelfnaaW.PrintWords Go.Proofs.YtknagjiipelfnaaW.PrintLast Go.Proofs.YtknagjiipelfnaaW.PrintMore Go.Proofs.Ytknagjiipelfnaa.PAll
set_option linter.unusedVariables false

set_option maxRecDepth 100000 in
set_option maxHeartbeats 16000000 in
theorem New_calls (n c a wt rt ea ed : Int) (es : ByteArray) (A3 A4 : Option Addr) (n4 c3 c4 : Nat) (ls : List S68) (w : World) (hr3 : Kd.C k68 w A3 ls.length ls) (hc3 : ls.length ≤ c3) (hl : ls.length ≤ 1048576) (hs : es.size ≤ 1048576) :
    Calls Try.prog 17 #[.int .i64 n, .agg #[.int .i64 c, .int .i64 a, .int .u64 wt, .slice A3 ls.length c3, .slice A4 n4 c4, .int .i64 rt], .agg #[.int .i64 ea, .int .i64 ed, .string es]] w fun e w' =>
      ∃ g gm vs, e = .returned (.pointer (some ⟨g, 0, none⟩)) ∧ OldS w' g gm vs (gAt (mLs n ls) (mAt n ls ea) (mDel n ls ea ed) (mIns n ls es) (mLs n ls).length) (standN (mLs n ls) (mAt n ls ea) (mDel n ls ea ed) (mLs n ls).length) ∧ Below w.heap.size w w' ∧ w.heap.size ≤ g := by
  obtain ⟨o1, ho1⟩ : ∃ o : Obj, o = .cells #[.int .i64 c, .int .i64 a, .int .u64 wt, .slice A3 ls.length c3, .slice A4 n4 c4, .int .i64 rt] 60 (0, 0) := ⟨_, rfl⟩
  obtain ⟨o2, ho2⟩ : ∃ o : Obj, o = .cells #[.int .i64 ea, .int .i64 ed, .string es] 54 (0, 0) := ⟨_, rfl⟩
  obtain ⟨o3, ho3⟩ : ∃ o : Obj, o = .map #[] 0 := ⟨_, rfl⟩
  obtain ⟨o4, ho4⟩ : ∃ o : Obj, o = .cells #[.map (some (w.heap.size + 1 + 1)), .int .i64 0] 98 (0, 0) := ⟨_, rfl⟩
  obtain ⟨w1, hw1⟩ : ∃ w1, w1 = w.alloc o1 := ⟨_, rfl⟩
  obtain ⟨w2, hw2⟩ : ∃ w2, w2 = w1.alloc o2 := ⟨_, rfl⟩
  obtain ⟨w3, hw3⟩ : ∃ w3, w3 = w2.alloc o3 := ⟨_, rfl⟩
  obtain ⟨w4, hw4⟩ : ∃ w4, w4 = w3.alloc o4 := ⟨_, rfl⟩
  have b1 : Below w.heap.size w w1 := by rw [hw1]; exact below_alloc (Below.refl _ _) _
  have b2 : Below w1.heap.size w1 w2 := by rw [hw2]; exact below_alloc (Below.refl _ _) _
  have b3 : Below w2.heap.size w2 w3 := by rw [hw3]; exact below_alloc (Below.refl _ _) _
  have b4 : Below w3.heap.size w3 w4 := by rw [hw4]; exact below_alloc (Below.refl _ _) _
  have z1 : w1.heap.size = w.heap.size + 1 := by rw [hw1]; simp
  have z2 : w2.heap.size = w.heap.size + 1 + 1 := by rw [hw2, ← z1]; simp
  have z3 : w3.heap.size = w.heap.size + 1 + 1 + 1 := by rw [hw3, ← z2]; simp
  have k1 : w1.heap[w.heap.size]? = some o1 := by rw [hw1]; exact heap_alloc_new w _
  have k2 : w2.heap[w.heap.size + 1]? = some o2 := by rw [hw2, ← z1]; exact heap_alloc_new w1 _
  have hG3 : Grp w3 (w.heap.size + 1 + 1) 0 (w.heap.size + 1 + 1 + 1) (fun _ => .slice none 0 0) (fun _ => []) := by
    rw [hw3, ho3, ← z2]
    exact Grp.made w2
  have k4 : w4.heap[w.heap.size + 1 + 1 + 1]? = some o4 := by rw [hw4, ← z3]; exact heap_alloc_new w3 _
  have HG := Aside0.mk (hG3.below b4)
  have KR := Aside0.mk ((b4.block _ (by omega)).trans ((b3.block _ (by omega)).trans ((b2.block _ (by omega)).trans k1)))
  have KE := Aside0.mk ((b4.block _ (by omega)).trans ((b3.block _ (by omega)).trans k2))
  have KO := Aside0.mk k4
  have HB := Aside0.mk (below_then (below_then (below_then b1 b1.size b2) (Nat.le_trans b1.size b2.size) b3) (Nat.le_trans (Nat.le_trans b1.size b2.size) b3.size) b4)
  have H3 := Aside0.mk (Kd.C_below hr3 HB.out)
  have H3w := Aside0.mk hr3
  have HP := Aside0.mk (And.intro hc3 (And.intro hl hs))
  rw [ho1] at KR
  rw [ho2] at KE
  rw [ho4] at KO
  clear b1 b2 b3 b4 z1 z2 z3 k1 k2 k4 hG3 hr3 hc3 hl hs
  have hmm := @run_makeMap Try.prog
  go_enter Try.func17, Try.ntmps17
  go_wp2_with fail
  clear hmm
  rw [← ho1, ← ho2, ← ho3, ← ho4, ← hw1, ← hw2, ← hw3, ← hw4]
  clear ho1 ho2 ho3 ho4 hw1 hw2 hw3 hw4
  obtain ⟨gr, hgr⟩ : ∃ g, w.heap.size = g := ⟨_, rfl⟩
  have GR : Aside0 (w.heap.size ≤ gr) := ⟨by omega⟩
  rw [hgr] at KR KE KO HG ⊢
  clear hgr
  refine (right_calls n c a wt rt A3 c3 (.slice A4 n4 c4) ls w4 H3.out HP.out.1 HP.out.2.1).mono ?_
  rintro e w5 ⟨rfl, hB⟩
  have HB5 := Aside0.mk (below_then HB.out HB.out.size hB)
  have KR5 := Aside0.mk ((hB.block _ (blk_lt KR.out)).trans KR.out)
  have KE5 := Aside0.mk ((hB.block _ (blk_lt KE.out)).trans KE.out)
  have KO5 := Aside0.mk ((hB.block _ (blk_lt KO.out)).trans KO.out)
  have HG5 := Aside0.mk (HG.out.below hB)
  clear hB HB KR KE KO HG H3
  cases hR : rightB n ls with
  | false =>
    have HE : Aside0 (rightB n ls = false) := ⟨hR⟩
    clear hR
    go_wp2_with fail
    go_ret
    refine ⟨_, gr + 1 + 1, (fun _ => .slice none 0 0), rfl, ⟨?_, ⟨0, gr + 1 + 1 + 1, ?_⟩⟩, HB5.out, by have := GR.out; omega⟩
    · unfold mLs
      rw [HE.out]
      exact KO5.out
    · unfold mLs
      rw [HE.out]
      exact HG5.out
  | true =>
    have HE : Aside0 (rightB n ls = true) := ⟨hR⟩
    have HN := Aside0.mk (right_n hR).1
    have hok := mok n ls ea ed es HP.out.2.1 HP.out.2.2
    have m1 : mLs n ls = ls := if_pos hR
    have m2 : mAt n ls ea = atC n ea := if_pos hR
    have m3 : mDel n ls ea ed = delC n ea ed := if_pos hR
    have m4 : mIns n ls es = (es.size : Int) := if_pos hR
    rw [m1, m2, m3, m4] at hok
    have M1 := Aside0.mk m1
    have M2 := Aside0.mk m2
    have M3 := Aside0.mk m3
    have M4 := Aside0.mk m4
    have HO := Aside0.mk hok
    clear m1 m2 m3 m4 hok hR
    have p0 := blk_cell KE5.out 0
    have p1 := blk_cell KE5.out 1
    have p2 := blk_cell KE5.out 2
    go_wp2_with fail
    refine (eClamp_calls n ea ed es w5 HN.out.1 HN.out.2).mono ?_
    rintro e w6 ⟨rfl, hB⟩
    have HB6 := Aside0.mk (below_then HB5.out HB5.out.size hB)
    have KR6 := Aside0.mk ((hB.block _ (blk_lt KR5.out)).trans KR5.out)
    have KE6 := Aside0.mk ((hB.block _ (blk_lt KE5.out)).trans KE5.out)
    have KO6 := Aside0.mk ((hB.block _ (blk_lt KO5.out)).trans KO5.out)
    have HG6 := Aside0.mk (HG5.out.below hB)
    clear hB HB5 KR5 KE5 KO5 HG5 p0 p1 p2
    obtain ⟨at_, hat_⟩ : ∃ x, atC n ea = x := ⟨_, rfl⟩
    obtain ⟨dl, hdl⟩ : ∃ x, delC n ea ed = x := ⟨_, rfl⟩
    rw [hat_, hdl] at HO ⊢
    rw [hat_] at M2
    rw [hdl] at M3
    clear hat_ hdl
    have p0 := blk_cell KE6.out 0
    have p1 := blk_cell KE6.out 1
    have p2 := blk_cell KE6.out 2
    have f0 := blk_frozen KE6.out 0
    have f1 := blk_frozen KE6.out 1
    have f2 := blk_frozen KE6.out 2
    go_wp2_with fail
    have KE7 : Aside0 ((((w6.setCell ⟨gr + 1, 0, none⟩ (.int .i64 at_)).setCell ⟨gr + 1, 1, none⟩ (.int .i64 dl)).setCell ⟨gr + 1, 2, none⟩ (.string es)).heap[gr + 1]? = some (eC at_ dl es)) := ⟨(blk_set ((blk_set ((blk_set KE6.out 0 _).trans rfl) 1 _).trans rfl) 2 _).trans rfl⟩
    have hg7 : w6.grownBy (((w6.setCell ⟨gr + 1, 0, none⟩ (.int .i64 at_)).setCell ⟨gr + 1, 1, none⟩ (.int .i64 dl)).setCell ⟨gr + 1, 2, none⟩ (.string es)) (some (gr + 1)) := World.grownBy.trans (World.grownBy.trans (grown_set w6 (gr + 1) 0 _) (grown_set _ (gr + 1) 1 _)) (grown_set _ (gr + 1) 2 _)
    have KR7 := Aside0.mk (blk_map KR6.out hg7 (by omega))
    have KO7 := Aside0.mk (blk_map KO6.out hg7 (by omega))
    have HG7 := Aside0.mk (HG6.out.grown hg7 (by intro h; injection h with h; omega) (fun q => by
      cases hq : (Value.slice none 0 0).ownBlock with
      | none => exact .inl rfl
      | some k => cases hq))
    have HB7 := Aside0.mk (HB6.out.grown hg7 HB6.out.size (fun k hk => by injection hk with hk; have := GR.out; omega))
    generalize ((w6.setCell ⟨gr + 1, 0, none⟩ (.int .i64 at_)).setCell ⟨gr + 1, 1, none⟩ (.int .i64 dl)).setCell ⟨gr + 1, 2, none⟩ (.string es) = w7 at KE7 KR7 KO7 HG7 HB7 ⊢
    clear hg7 HB6 KR6 KE6 KO6 HG6 p0 p1 p2 f0 f1 f2
    refine (Start_calls w7).mono ?_
    rintro e w8 ⟨rfl, hB⟩
    have HB8 := Aside0.mk (below_then HB7.out HB7.out.size hB)
    have KR8 := Aside0.mk ((hB.block _ (blk_lt KR7.out)).trans KR7.out)
    have KE8 := Aside0.mk ((hB.block _ (blk_lt KE7.out)).trans KE7.out)
    have KO8 := Aside0.mk ((hB.block _ (blk_lt KO7.out)).trans KO7.out)
    have HG8 := Aside0.mk (HG7.out.below hB)
    clear hB HB7 KR7 KE7 KO7 HG7
    go_wp2_with fail
    refine (Encode_calls w8).mono ?_
    rintro e w9 ⟨rfl, hB⟩
    have HB9 := Aside0.mk (below_then HB8.out HB8.out.size hB)
    have KR9 := Aside0.mk ((hB.block _ (blk_lt KR8.out)).trans KR8.out)
    have KE9 := Aside0.mk ((hB.block _ (blk_lt KE8.out)).trans KE8.out)
    have KO9 := Aside0.mk ((hB.block _ (blk_lt KO8.out)).trans KO8.out)
    have HG9 := Aside0.mk (HG8.out.below hB)
    clear hB HB8 KR8 KE8 KO8 HG8
    have q3 : w9.cell? ⟨gr, 3, none⟩ = some (.slice A3 ls.length c3) := (blk_cell KR9.out 3).trans rfl
    go_wp2_with fail
    clear q3
    go_loopw [8, 10, 12, 13, 14, 15, 16, 36] (fun v8 v10 v12 v13 v14 v15 v16 v36 wr => ∃ (i m : Nat) (vs : Int → Value), v8 = .string (aheadS ls i) ∧ v10 = .int .i64 (begN ls i) ∧ v36 = .int .i64 (i : Int) ∧ i ≤ ls.length ∧ Aside0 (m ≤ 2 * i) ∧ Aside0 (wr.heap[gr]? = some (.cells #[.int .i64 c, .int .i64 a, .int .u64 wt, .slice A3 ls.length c3, .slice A4 n4 c4, .int .i64 rt] 60 (0, 0))) ∧ Aside0 (wr.heap[gr + 1]? = some (eC at_ dl es)) ∧ Aside0 (wr.heap[gr + 1 + 1 + 1]? = some (oC (gr + 1 + 1) (standN ls at_ dl i))) ∧ Aside0 (Grp wr (gr + 1 + 1) m (gr + 1 + 1 + 1) vs (gAt ls at_ dl (es.size : Int) i)) ∧ Aside0 (Below w.heap.size w wr)) (fun _ _ _ _ _ _ _ v36 _ => ls.length - (intOf v36).toNat)
    case atStart => exact ⟨0, 0, _, rfl, rfl, rfl, by omega, ⟨by omega⟩, KR9, KE9, KO9, HG9, HB9⟩
    case round =>
      obtain ⟨i, m, vs, rfl, rfl, rfl, hi, HM, KRr, KEr, KOr, HGr, HBr⟩ := hrel
      clear KR9 KE9 KO9 HG9 HB9
      by_cases hlt : i < ls.length
      · have e1 : decide ((i : Int) < (ls.length : Int)) = true := decide_eq_true (by omega)
        have e2 : decide (i < ls.length) = true := decide_eq_true hlt
        have e3 : (i : Int) < (ls.length : Int) := by omega
        have hl := HP.out.2.1
        have hc := HP.out.1
        have e4 : IntKind.i64.wrap ((i : Int) + 1) = (i : Int) + 1 := (i64_w _).trans (w64 (by omega) (by omega))
        obtain ⟨ad, hA, y0, y1, y2, y3, y4, y5⟩ := at_T68 (Kd.C_below H3w.out HBr.out) (i : Int) (by omega) (by omega)
        rw [Int.toNat_natCast] at y0 y1 y2 y3 y4 y5
        have hf := HO.out.f i hlt
        have hb := HO.out.b i (by omega)
        have hb1 := HO.out.b (i + 1) (by omega)
        have hsu := begN_succ ls i
        have hah : aheadS ls (i + 1) = (rd_T68 ls (i : Int)).f5 := rfl
        have hst : standN ls at_ dl (i + 1) = standN ls at_ dl i + (if (stayB ls at_ i || moveB ls at_ dl i) = true then 1 else 0) := rfl
        have hsb := standN_le ls at_ dl i
        have hstay : stayB ls at_ i = decide (begN ls i + (rd_T68 ls (i : Int)).f3 ≤ at_) := rfl
        have hmove : moveB ls at_ dl i = decide (at_ + dl ≤ begN ls i) := rfl
        have ha := HO.out.a
        have hd := HO.out.d
        have hss := HO.out.s
        obtain ⟨x, hx⟩ : ∃ x, rd_T68 ls (i : Int) = x := ⟨_, rfl⟩
        obtain ⟨y, hy⟩ : ∃ y, begN ls i = y := ⟨_, rfl⟩
        obtain ⟨cn, hcn⟩ : ∃ y, standN ls at_ dl i = y := ⟨_, rfl⟩
        obtain ⟨bf, hbf⟩ : ∃ y, aheadS ls i = y := ⟨_, rfl⟩
        obtain ⟨ln, hln⟩ : ∃ y : Int, (es.size : Int) = y := ⟨_, rfl⟩
        obtain ⟨st, hst2⟩ : ∃ b, stayB ls at_ i = b := ⟨_, rfl⟩
        obtain ⟨mv, hmv2⟩ : ∃ b, moveB ls at_ dl i = b := ⟨_, rfl⟩
        rw [hx] at y0 y1 y2 y3 y4 y5 hf hsu hah hstay
        rw [hy] at hb hsu hstay hmove ⊢
        rw [hcn] at hst hsb KOr
        rw [hst2, hmv2] at hst
        rw [hst2] at hstay
        rw [hmv2] at hmove
        rw [hbf]
        rw [hln] at HGr hss
        have g1 : IntKind.i64.wrap (y + x.f3) = y + x.f3 := (i64_w _).trans (w64 (by omega) (by omega))
        have g2 : IntKind.i64.wrap (at_ + dl) = at_ + dl := (i64_w _).trans (w64 (by omega) (by omega))
        have g3 : IntKind.i64.wrap (y - dl) = y - dl := (i64_w _).trans (w64 (by omega) (by omega))
        have g4 : IntKind.i64.wrap (y - dl + ln) = y - dl + ln := (i64_w _).trans (w64 (by omega) (by omega))
        have g5 : IntKind.i64.wrap (x.f1 + x.f2) = x.f1 + x.f2 := (i64_w _).trans (w64 (by omega) (by omega))
        have g6 : IntKind.i64.wrap (y + (x.f1 + x.f2)) = y + (x.f1 + x.f2) := (i64_w _).trans (w64 (by omega) (by omega))
        have g7 : IntKind.i64.wrap (cn + 1) = cn + 1 := (i64_w _).trans (w64 (by omega) (by omega))
        have WF1 : Aside0 ((Lit.int .i64 y).wf = true) := ⟨i64_wf (by omega) (by omega)⟩
        have WF2 : Aside0 ((Lit.int .i64 (y - dl + ln)).wf = true) := ⟨i64_wf (by omega) (by omega)⟩
        have HLT := Aside0.mk hlt
        have HX := Aside0.mk hx
        have HY := Aside0.mk hy
        have HBF := Aside0.mk hbf
        have HLN := Aside0.mk hln
        have HST := Aside0.mk hst2
        have HMV := Aside0.mk hmv2
        have HSU := Aside0.mk hsu
        have HAH := Aside0.mk hah
        have HCN := Aside0.mk hst
        have HSTY := Aside0.mk hstay
        have HMVE := Aside0.mk hmove
        have ROW : Aside0 (∀ q k, (vs q).ownBlock = some k → gr + 1 + 1 + 1 ≤ k ∧ k < wr.heap.size) := ⟨fun q k hk => HGr.out.rowLt q k hk⟩
        subst hA
        clear hf hb hb1 hsu hah hst hsb hstay hmove ha hd hss hx hy hcn hbf hst2 hmv2 hlt hi
        have lr := blk_lt KOr.out
        obtain ⟨oL, hoL⟩ : ∃ o : Obj, o = .cells #[.int .i64 x.f0, .int .i64 x.f1, .int .i64 x.f2, .int .i64 x.f3, .int .u64 x.f4, .string x.f5] 68 (0, 0) := ⟨_, rfl⟩
        obtain ⟨oS, hoS⟩ : ∃ o : Obj, o = .cells #[.string bf, .int .i64 x.f0, .int .i64 x.f1, .int .i64 x.f2, .int .i64 x.f3, .int .u64 x.f4, .string x.f5] 109 (0, 0) := ⟨_, rfl⟩
        have hBa : Below wr.heap.size wr (wr.alloc oL) := below_alloc (Below.refl _ _) _
        have hBb : Below (wr.alloc oL).heap.size (wr.alloc oL) ((wr.alloc oL).alloc oS) := below_alloc (Below.refl _ _) _
        have zA : (wr.alloc oL).heap.size = wr.heap.size + 1 := by simp
        have kL : (wr.alloc oL).heap[wr.heap.size]? = some oL := heap_alloc_new wr oL
        have kS : ((wr.alloc oL).alloc oS).heap[wr.heap.size + 1]? = some oS := by rw [← zA]; exact heap_alloc_new (wr.alloc oL) oS
        have HBB := Aside0.mk (below_then hBa hBa.size hBb)
        have KL1 := Aside0.mk (((hBb.block _ (blk_lt kL)).trans kL).trans (congrArg some hoL))
        have KS1 := Aside0.mk (kS.trans (congrArg some hoS))
        have KR1 := Aside0.mk ((HBB.out.block _ (blk_lt KRr.out)).trans KRr.out)
        have KE1 := Aside0.mk ((HBB.out.block _ (blk_lt KEr.out)).trans KEr.out)
        have KO1 := Aside0.mk ((HBB.out.block _ (blk_lt KOr.out)).trans KOr.out)
        have HG1 := Aside0.mk (HGr.out.below HBB.out)
        have HB1 := Aside0.mk (below_then HBr.out HBr.out.size HBB.out)
        have ZB := Aside0.mk (blk_lt kS)
        clear hBa hBb zA kL kS HBB
        go_upto_region 11 with fail
        rw [← hoL, ← hoS]
        clear hoL hoS y0 y1 y2 y3 y4 y5
        obtain ⟨b1, hb1⟩ : ∃ b1, wr.heap.size = b1 := ⟨_, rfl⟩
        generalize (wr.alloc oL).alloc oS = W1 at KL1 KS1 KR1 KE1 KO1 HG1 HB1 ZB ⊢
        rw [hb1] at KL1 KS1 ROW lr ZB ⊢
        have LR := Aside0.mk lr
        clear hb1 HBr KRr KEr KOr HGr lr
        have l3 : W1.cell? ⟨b1, 3, none⟩ = some (.int .i64 x.f3) := (blk_cell KL1.out 3).trans rfl
        have a0 : W1.cell? ⟨gr + 1, 0, none⟩ = some (.int .i64 at_) := (blk_cell KE1.out 0).trans rfl
        have a1 : W1.cell? ⟨gr + 1, 1, none⟩ = some (.int .i64 dl) := (blk_cell KE1.out 1).trans rfl
        have t1 : decide (y + x.f3 ≤ at_) = st := HSTY.out.symm
        have t2 : decide (at_ + dl ≤ y) = mv := HMVE.out.symm
        go_quiet (fail)
        clear l3 a0 a1 t1 t2 g1 g2
        have hdr : Below W1.heap.size W1 (W1.drewN nq) := below_drews nq
        have KR2 := Aside0.mk ((hdr.block _ (blk_lt KR1.out)).trans KR1.out)
        have KE2 := Aside0.mk ((hdr.block _ (blk_lt KE1.out)).trans KE1.out)
        have KO2 := Aside0.mk ((hdr.block _ (blk_lt KO1.out)).trans KO1.out)
        have KL2 := Aside0.mk ((hdr.block _ (blk_lt KL1.out)).trans KL1.out)
        have KS2 := Aside0.mk ((hdr.block _ (blk_lt KS1.out)).trans KS1.out)
        have HG2 := Aside0.mk (HG1.out.below hdr)
        have HB2 := Aside0.mk (below_then HB1.out HB1.out.size hdr)
        have lr2 := LR.out
        have PS2 : Aside0 (PassS w (W1.drewN nq) gr b1 m (.cells #[.int .i64 c, .int .i64 a, .int .u64 wt, .slice (some ad) ls.length c3, .slice A4 n4 c4, .int .i64 rt] 60 (0, 0)) (eC at_ dl es) cn bf x vs (gAt ls at_ dl ln i) i) := ⟨⟨KR2.out, KE2.out, KO2.out, KL2.out, KS2.out, HG2.out, HB2.out, gAt_len ls at_ dl ln i, fun q k hk => by
          have := ROW.out q k hk
          omega, GR.out, by omega⟩⟩
        have HM2 : Aside0 (m + 4 < maxLen) := ⟨by unfold maxLen; have := HM.out; have := HLT.out; have := HP.out.2.1; omega⟩
        have HM5 : Aside0 (m < maxLen) := ⟨by have := HM2.out; omega⟩
        have HLL : Aside0 (i + 4 ≤ 1048580) := ⟨by have := HLT.out; have := HP.out.2.1; omega⟩
        have HGS := Aside0.mk (gAt_step ls at_ dl ln i HY.out rfl HST.out HMV.out HBF.out HX.out)
        generalize W1.drewN nq = W2 at PS2 ⊢
        clear hdr KR1 KE1 KO1 KL1 KS1 HG1 HB1 ZB KR2 KE2 KO2 KL2 KS2 HG2 HB2 lr2 ROW
        generalize gAt ls at_ dl ln i = G0 at PS2 HGS ⊢
        have hln2 := HLN.out
        subst hln2
        clear HLN
        generalize hOR : (Obj.cells #[.int .i64 c, .int .i64 a, .int .u64 wt, .slice (some ad) ls.length c3, .slice A4 n4 c4, .int .i64 rt] 60 (0, 0)) = oR at PS2 ⊢
        have HOR := Aside0.mk hOR
        clear hOR
        go_upto_if 57 with fail
        go_cut [] (fun wx => ∃ (m1 : Nat) (vs1 : Int → Value), Aside0 (PassS w wx gr b1 m1 oR (eC at_ dl es) cn bf x vs1 (g1At st G0 y (bf, x)) (i + 1)) ∧ Aside0 (m1 ≤ m + 1))
        case first =>
          cases st with
          | false =>
            go_wp2_with fail
            go_meet
            case rel => exact ⟨m, vs, ⟨PS2.out.up (Nat.le_succ _)⟩, ⟨Nat.le_succ _⟩⟩
          | true =>
            obtain ⟨mc, c0, c1, c2, c3, c4, c5, c6⟩ := PS2.out.sc
            have hdr : Below W2.heap.size W2 W2.drew := below_drew (Below.refl _ _)
            have hal : Below W2.heap.size W2 (W2.alloc (.cells #[.string bf, .int .i64 x.f0, .int .i64 x.f1, .int .i64 x.f2, .int .i64 x.f3, .int .u64 x.f4, .string x.f5] 109)).drew := below_drew (below_alloc (Below.refl _ _) _)
            have hL0 := (PS2.out.g.below hdr).look WF1.out
            have hL1 := (PS2.out.g.below hal).look WF1.out
            have PSd := Aside0.mk (PS2.out.below hdr)
            have HRd := Aside0.mk (PSd.out.g.r y)
            have HLd := Aside0.mk (PSd.out.len y)
            clear hdr hal PS2
            obtain ⟨vk, hvk⟩ : ∃ v, vs y = v := ⟨_, rfl⟩
            rw [hvk] at hL0 hL1 HRd
            have HVK := Aside0.mk hvk
            clear hvk
            obtain ⟨Av, nv, cv, rfl⟩ : ∃ Av nv cv, vk = .slice Av nv cv := by
              obtain ⟨A, c, h1, _⟩ := Kd.R_reads HRd.out
              exact ⟨_, _, _, h1⟩
            go_upto_region 13 with fail
            go_region_held3 (fun w' => w'.cell? ⟨gr + 1 + 1 + 1, 0, none⟩ = some (.map (some (gr + 1 + 1))) ∧ w'.cell? ⟨b1 + 1, 0, none⟩ = some (.string bf) ∧ w'.cell? ⟨b1 + 1, 1, none⟩ = some (.int .i64 x.f0) ∧ w'.cell? ⟨b1 + 1, 2, none⟩ = some (.int .i64 x.f1) ∧ w'.cell? ⟨b1 + 1, 3, none⟩ = some (.int .i64 x.f2) ∧ w'.cell? ⟨b1 + 1, 4, none⟩ = some (.int .i64 x.f3) ∧ w'.cell? ⟨b1 + 1, 5, none⟩ = some (.int .u64 x.f4) ∧ w'.cell? ⟨b1 + 1, 6, none⟩ = some (.string x.f5))
              (first
                | exact ⟨by assumption, by assumption, by assumption, by assumption, by assumption, by assumption, by assumption, by assumption⟩
                | go_keep)
              (first
                | (rw [show (W2.alloc (.cells #[.string bf, .int .i64 x.f0, .int .i64 x.f1, .int .i64 x.f2, .int .i64 x.f3, .int .u64 x.f4, .string x.f5] 109)).drew = W2.drew.alloc (.cells #[.string bf, .int .i64 x.f0, .int .i64 x.f1, .int .i64 x.f2, .int .i64 x.f3, .int .u64 x.f4, .string x.f5] 109) from rfl]
                   refine R_append_any k109 (w0 := W2.drew) (gr + 1 + 1 + 1) (by rfl) (.tmp 68) (.tmp 70) 110 109 (.agg #[.string ⟨#[]⟩, .int .i64 0, .int .i64 0, .int .i64 0, .int .i64 0, .int .u64 0, .string ⟨#[]⟩]) 72 (by rfl) Try.underlying110 info109 rfl (by decide) (by omega) (.slice Av nv cv) (G0 y) (bf, x) [.string bf, .int .i64 x.f0, .int .i64 x.f1, .int .i64 x.f2, .int .i64 x.f3, .int .u64 x.f4, .string x.f5] T (fun _ => False) ?aE ?aE2 ?aP (fun _ hk => hk.elim) ?aF ?aO ?aB ?aS ?aL ?_
                   (case aE => exact rfl)
                   (case aE2 => exact rfl)
                   (case aP => exact k109_mkM _ _ _ (bf, x))
                   (case aB => exact Below.refl _ _)
                   (case aF => exact fun _ _ => trivial)
                   (case aO => exact HRd.out)
                   (case aS => have := blk_lt PSd.out.ko; omega)
                   (case aL => have := HLd.out; have := HLL.out; omega)
                   intro v2 W9 ho hb hg hat
                   rw [← HVK.out] at hg hat
                   obtain ⟨⟨mc9, c90, c91, c92, c93, c94, c95, c96⟩, W3, hrun, ⟨mcx, cx0, cx1, cx2, cx3, cx4, cx5, cx6⟩, hPS⟩ := PSd.out.put WF1.out HM5.out hg ho hat
                   have PS3 := Aside0.mk hPS
                   clear hb hg hat ho hPS))
            all_goals
              (go_wp2_with fail
               go_meet
               case rel => exact ⟨m + 1, _, PS3, ⟨Nat.le_refl _⟩⟩)
        obtain ⟨m1, vs1, PS3, HM3⟩ := hcut
        clear PS2
        have HM4 : Aside0 (m1 < maxLen) := ⟨by have := HM2.out; have := HM3.out; omega⟩
        obtain ⟨G1, hG1⟩ : ∃ G, g1At st G0 y (bf, x) = G := ⟨_, rfl⟩
        rw [hG1] at PS3
        have HG1 := Aside0.mk hG1
        clear hG1
        have a1 : wc.cell? ⟨gr + 1, 1, none⟩ = some (.int .i64 dl) := (blk_cell PS3.out.ke 1).trans rfl
        have a2 : wc.cell? ⟨gr + 1, 2, none⟩ = some (.string es) := (blk_cell PS3.out.ke 2).trans rfl
        obtain ⟨bm, hbm⟩ : ∃ b, decide (y - dl + (es.size : Int) = y) = b := ⟨_, rfl⟩
        have v2 : (y - dl + (es.size : Int) == y) = bm := by
          cases bm with
          | false => exact beq_eq_false_iff_ne.2 (of_decide_eq_false hbm)
          | true => exact beq_iff_eq.2 (of_decide_eq_true hbm)
        obtain ⟨w5, hw5⟩ : ∃ w5, wc = w5 := ⟨_, rfl⟩
        rw [hw5] at PS3 a1 a2 ⊢
        clear hw5 wc
        go_upto_region 15 with fail
        go_cut [89] (fun v89 wx => v89 = .bool (mv && !(st && bm)) ∧ wx = w5)
        case first =>
          cases st with
          | false =>
            cases mv with
            | false =>
              go_wp2_with fail
              go_meet
              case rel => exact ⟨rfl, rfl⟩
            | true =>
              go_wp2_with fail
              go_meet
              case rel => exact ⟨rfl, rfl⟩
          | true =>
            cases mv with
            | false =>
              go_wp2_with fail
              go_meet
              case rel => exact ⟨rfl, rfl⟩
            | true =>
              cases bm with
              | false =>
                go_wp2_with fail
                go_meet
                case rel => exact ⟨rfl, rfl⟩
              | true =>
                go_wp2_with fail
                go_meet
                case rel => exact ⟨rfl, rfl⟩
        obtain ⟨rfl, rfl⟩ := hcut
        obtain ⟨cd, hcd⟩ : ∃ b, (mv && !(st && bm)) = b := ⟨_, rfl⟩
        rw [hcd]
        have HBM := Aside0.mk hbm
        have HCD := Aside0.mk hcd
        clear hbm hcd v2 a1 a2
        go_upto_if 89 with fail
        go_cut [] (fun wx => ∃ (m2 : Nat) (vs2 : Int → Value), Aside0 (PassS w wx gr b1 m2 oR (eC at_ dl es) cn bf x vs2 (if cd = true then put1 G1 (y - dl + (es.size : Int)) (bf, x) else G1) (i + 2)) ∧ Aside0 (m2 ≤ m1 + 1))
        case first =>
          cases cd with
          | false =>
            go_wp2_with fail
            go_meet
            case rel => exact ⟨m1, vs1, ⟨PS3.out.up (Nat.le_succ _)⟩, ⟨Nat.le_succ _⟩⟩
          | true =>
            obtain ⟨W3, hW3⟩ : ∃ w, wc = w := ⟨_, rfl⟩
            rw [hW3] at PS3 ⊢
            clear hW3
            obtain ⟨mc, c0, c1, c2, c3, c4, c5, c6⟩ := PS3.out.sc
            have hdr : Below W3.heap.size W3 W3.drew := below_drew (Below.refl _ _)
            have hal : Below W3.heap.size W3 (W3.alloc (.cells #[.string bf, .int .i64 x.f0, .int .i64 x.f1, .int .i64 x.f2, .int .i64 x.f3, .int .u64 x.f4, .string x.f5] 109)).drew := below_drew (below_alloc (Below.refl _ _) _)
            have hL0 := (PS3.out.g.below hdr).look WF2.out
            have hL1 := (PS3.out.g.below hal).look WF2.out
            have PSd := Aside0.mk (PS3.out.below hdr)
            have HRd := Aside0.mk (PSd.out.g.r (y - dl + (es.size : Int)))
            have HLd := Aside0.mk (PSd.out.len (y - dl + (es.size : Int)))
            clear hdr hal PS3
            obtain ⟨vk, hvk⟩ : ∃ v, vs1 (y - dl + (es.size : Int)) = v := ⟨_, rfl⟩
            rw [hvk] at hL0 hL1 HRd
            have HVK := Aside0.mk hvk
            clear hvk
            obtain ⟨Av, nv, cv, rfl⟩ : ∃ Av nv cv, vk = .slice Av nv cv := by
              obtain ⟨A, c, h1, _⟩ := Kd.R_reads HRd.out
              exact ⟨_, _, _, h1⟩
            go_upto_region 16 with fail
            go_region_held3 (fun w' => w'.cell? ⟨gr + 1 + 1 + 1, 0, none⟩ = some (.map (some (gr + 1 + 1))) ∧ w'.cell? ⟨b1 + 1, 0, none⟩ = some (.string bf) ∧ w'.cell? ⟨b1 + 1, 1, none⟩ = some (.int .i64 x.f0) ∧ w'.cell? ⟨b1 + 1, 2, none⟩ = some (.int .i64 x.f1) ∧ w'.cell? ⟨b1 + 1, 3, none⟩ = some (.int .i64 x.f2) ∧ w'.cell? ⟨b1 + 1, 4, none⟩ = some (.int .i64 x.f3) ∧ w'.cell? ⟨b1 + 1, 5, none⟩ = some (.int .u64 x.f4) ∧ w'.cell? ⟨b1 + 1, 6, none⟩ = some (.string x.f5))
              (first
                | exact ⟨by assumption, by assumption, by assumption, by assumption, by assumption, by assumption, by assumption, by assumption⟩
                | go_keep)
              (first
                | (rw [show (W3.alloc (.cells #[.string bf, .int .i64 x.f0, .int .i64 x.f1, .int .i64 x.f2, .int .i64 x.f3, .int .u64 x.f4, .string x.f5] 109)).drew = W3.drew.alloc (.cells #[.string bf, .int .i64 x.f0, .int .i64 x.f1, .int .i64 x.f2, .int .i64 x.f3, .int .u64 x.f4, .string x.f5] 109) from rfl]
                   refine R_append_any k109 (w0 := W3.drew) (gr + 1 + 1 + 1) (by rfl) (.tmp 100) (.tmp 102) 110 109 (.agg #[.string ⟨#[]⟩, .int .i64 0, .int .i64 0, .int .i64 0, .int .i64 0, .int .u64 0, .string ⟨#[]⟩]) 72 (by rfl) Try.underlying110 info109 rfl (by decide) (by omega) (.slice Av nv cv) (G1 (y - dl + (es.size : Int))) (bf, x) [.string bf, .int .i64 x.f0, .int .i64 x.f1, .int .i64 x.f2, .int .i64 x.f3, .int .u64 x.f4, .string x.f5] T (fun _ => False) ?aE ?aE2 ?aP (fun _ hk => hk.elim) ?aF ?aO ?aB ?aS ?aL ?_
                   (case aE => exact rfl)
                   (case aE2 => exact rfl)
                   (case aP => exact k109_mkM _ _ _ (bf, x))
                   (case aB => exact Below.refl _ _)
                   (case aF => exact fun _ _ => trivial)
                   (case aO => exact HRd.out)
                   (case aS => have := blk_lt PSd.out.ko; omega)
                   (case aL => have := HLd.out; have := HLL.out; omega)
                   intro v3 W9 ho hb hg hat
                   rw [← HVK.out] at hg hat
                   obtain ⟨⟨mc9, c90, c91, c92, c93, c94, c95, c96⟩, W4, hrun, ⟨mcx, cx0, cx1, cx2, cx3, cx4, cx5, cx6⟩, hPS⟩ := PSd.out.put WF2.out HM4.out hg ho hat
                   have PS4 := Aside0.mk hPS
                   clear hb hg hat ho hPS))
            all_goals
              (go_wp2_with fail
               go_meet
               case rel => exact ⟨m1 + 1, _, PS4, ⟨Nat.le_refl _⟩⟩)
        obtain ⟨m2, vs2, PS4, HM6⟩ := hcut
        clear PS3
        obtain ⟨w6, hw6⟩ : ∃ w6, wc = w6 := ⟨_, rfl⟩
        rw [hw6] at PS4 ⊢
        clear hw6 wc
        have hge : gAt ls at_ dl (es.size : Int) (i + 1) = (if cd = true then put1 G1 (y - dl + (es.size : Int)) (bf, x) else G1) := by
          rw [HGS.out, ← HCD.out, ← HBM.out, ← HG1.out]
          rfl
        rw [← hge] at PS4
        have HGE := Aside0.mk hge
        clear hge
        go_upto_region 17 with fail
        go_cut [107] (fun v107 wx => v107 = .bool (st || mv) ∧ wx = w6)
        case first =>
          cases st with
          | false =>
            go_wp2_with fail
            go_meet
            case rel => exact ⟨rfl, rfl⟩
          | true =>
            go_wp2_with fail
            go_meet
            case rel => exact ⟨rfl, rfl⟩
        obtain ⟨rfl, rfl⟩ := hcut
        obtain ⟨ce, hce⟩ : ∃ b, (st || mv) = b := ⟨_, rfl⟩
        rw [hce]
        have hst3 := HCN.out
        rw [hce] at hst3
        have HCN2 := Aside0.mk hst3
        clear hce hst3
        go_upto_if 107 with fail
        go_cut [] (fun wx => Aside0 (PassS w wx gr b1 m2 oR (eC at_ dl es) (cn + if ce = true then 1 else 0) bf x vs2 (gAt ls at_ dl (es.size : Int) (i + 1)) (i + 2)))
        case first =>
          cases ce with
          | false =>
            go_wp2_with fail
            go_meet
            case rel => exact ⟨by simpa using PS4.out⟩
          | true =>
            have s1 : wc.cell? ⟨gr + 1 + 1 + 1, 1, none⟩ = some (.int .i64 cn) := (blk_cell PS4.out.ko 1).trans rfl
            have u1 := blk_frozen PS4.out.ko 1
            go_wp2_with fail
            go_meet
            case rel => exact ⟨PS4.out.count _⟩
        have PS5 := hcut
        clear PS4 hcut
        obtain ⟨w7, hw7⟩ : ∃ w7, wc = w7 := ⟨_, rfl⟩
        rw [hw7] at PS5 ⊢
        clear hw7 wc
        have n1 : w7.cell? ⟨b1, 1, none⟩ = some (.int .i64 x.f1) := (blk_cell PS5.out.kl 1).trans rfl
        have n2 : w7.cell? ⟨b1, 2, none⟩ = some (.int .i64 x.f2) := (blk_cell PS5.out.kl 2).trans rfl
        have n5 : w7.cell? ⟨b1, 5, none⟩ = some (.string x.f5) := (blk_cell PS5.out.kl 5).trans rfl
        go_wp2_with fail
        go_roundw
        case measure => first | omega | (simp [intOf]; have := HLT.out; omega)
        case rel => exact ⟨i + 1, m2, vs2, by rw [HAH.out], by rw [HSU.out], by congr 1, by have := HLT.out; omega, ⟨by have := HM.out; have := HM3.out; have := HM6.out; omega⟩, ⟨by rw [HOR.out]; exact PS5.out.kr⟩, ⟨PS5.out.ke⟩, ⟨by rw [HCN2.out]; exact PS5.out.ko⟩, ⟨PS5.out.g⟩, ⟨PS5.out.b⟩⟩
      · have e1 : decide ((i : Int) < (ls.length : Int)) = false := decide_eq_false (by omega)
        have e2 : decide (i < ls.length) = false := decide_eq_false hlt
        obtain rfl : i = ls.length := by omega
        clear hlt hi
        go_wp2_with fail
        go_ret
        refine ⟨_, gr + 1 + 1, vs, rfl, ⟨?_, m, gr + 1 + 1 + 1, ?_⟩, HBr.out, by have := GR.out; omega⟩
        · rw [M1.out, M2.out, M3.out]
          exact KOr.out
        · rw [M1.out, M2.out, M3.out, M4.out]
          exact HGr.out

end Go.Proofs.Ytknagjiipelfnaa.RU
