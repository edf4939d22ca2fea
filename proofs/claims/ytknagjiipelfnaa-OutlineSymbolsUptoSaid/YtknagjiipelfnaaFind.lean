/- trellisref15.find: the subtree at a place, and its parent's place. -/
import Derived.Test.YtknagjiipelfnaaFindS
import Derived.Deep.RegionLaw
namespace Go.Proofs.Ytknagjiipelfnaa.OL
open Go.RowKit Go.WideShapes Go.ChangeShapes Go.Proofs.YtknagjiipelfnaaW.PrintWords Go.Proofs.YtknagjiipelfnaaW.PrintLast Go.Proofs.YtknagjiipelfnaaW.PrintMore Go.Proofs.Ytknagjiipelfnaa.PAll
set_option linter.unusedVariables false

def orF {α : Type} (a b : Option α) : Option α := match a with | some y => some y | none => b
theorem fd_step2 (at_ par : Int) (x : S143) (r : List S143) : fdL at_ par (x :: r) = if x.f2 = at_ then some (x, par) else orF (fdL at_ x.f2 x.f1) (fdL at_ par r) := by
  rw [fd_step]
  by_cases h : x.f2 = at_
  · rw [if_pos h, if_pos h]
  · rw [if_neg h, if_neg h]
    cases fdL at_ x.f2 x.f1 <;> rfl
set_option maxRecDepth 100000 in
set_option maxHeartbeats 8000000 in
theorem find_calls : ∀ (m : Nat) (l : List S143) (A : Option Addr) (c : Nat) (at_ par : Int) (wb w : World), Below wb.heap.size wb w → (ndL l).length = m → m ≤ 1048576 → k143.C wb A l.length l → l.length ≤ c →
    Calls Try.prog 69 #[.slice A l.length c, .int .i64 at_, .int .i64 par] w fun e w' => ∃ A' c', e = .returned (fdV (fdL at_ par l) A' c') ∧ k143.C wb A' (fdY (fdL at_ par l)).f1.length (fdY (fdL at_ par l)).f1 ∧ (fdY (fdL at_ par l)).f1.length ≤ c' ∧ Below w.heap.size w w' := by
  intro m
  induction m using Nat.strongRecOn with
  | ind m IH =>
    intro l A c at_ par wb w hbb hm hm2 hC hc
    have HCw := Aside0.mk hC
    have HBB := Aside0.mk hbb
    have HP := Aside0.mk (And.intro hm (And.intro hm2 hc))
    have hlen := nd_len l
    obtain ⟨oZ, hoZ⟩ : ∃ o : Obj, o = .cells #[.string ⟨#[]⟩, .bool false, .string ⟨#[]⟩, .int .i64 0, .int .i64 0, .int .i64 0, .int .i64 0, .slice none 0 0, .int .i64 0] 143 (0, 0) := ⟨_, rfl⟩
    have hba : Below w.heap.size w (w.alloc oZ) := below_alloc (Below.refl _ _) _
    have HB := Aside0.mk hba
    have KZ := Aside0.mk ((heap_alloc_new w oZ).trans (congrArg some hoZ))
    have HLEN := Aside0.mk (show l.length ≤ 1048576 by omega)
    clear hC hm hm2 hc hba hlen hbb
    go_enter Try.func69, Try.ntmps69
    go_upto_block 0 with fail
    rw [← hoZ]
    clear hoZ
    obtain ⟨gZ, hgZ⟩ : ∃ g, w.heap.size = g := ⟨_, rfl⟩
    have GZ : Aside0 (w.heap.size ≤ gZ) := ⟨by omega⟩
    generalize w.alloc oZ = w0 at KZ HB ⊢
    rw [hgZ] at KZ ⊢
    clear hgZ
    go_wp2_with fail
    go_loopw [9, 10, 11, 12] (fun v9 v10 v11 v12 wr => ∃ i : Nat, v9 = .int .i64 (i : Int) ∧ i ≤ l.length ∧ Aside0 (fdL at_ par l = fdL at_ par (l.drop i)) ∧ Aside0 (Below w0.heap.size w0 wr)) (fun v9 _ _ _ _ => l.length - (intOf v9).toNat)
    case atStart => exact ⟨0, rfl, by omega, ⟨rfl⟩, ⟨Below.refl _ _⟩⟩
    case round =>
      obtain ⟨i, rfl, hi, HV, HBr⟩ := hrel
      by_cases hlt : i < l.length
      · have e1 : decide ((i : Int) < (l.length : Int)) = true := decide_eq_true (by omega)
        have e2 : decide (i < l.length) = true := decide_eq_true hlt
        have e3 : (i : Int) < (l.length : Int) := by omega
        have hl := HLEN.out
        have e4 : IntKind.i64.wrap ((i : Int) + 1) = (i : Int) + 1 := (i64_w _).trans (w64 (by omega) (by omega))
        have HB2 := Aside0.mk (below_then HB.out HB.out.size HBr.out)
        obtain ⟨ad, A7, c7, hA, y0, y1, y2, y3, y4, y5, y6, y7, y8, l7, g7⟩ := at_T143 HCw.out (i : Int) (by omega) (by omega)
        have HB3 := Aside0.mk (below_then HBB.out HBB.out.size HB2.out)
        replace y0 := (HB3.out.cell (World.block_lt_of_cell? wb _ y0)).trans y0
        replace y1 := (HB3.out.cell (World.block_lt_of_cell? wb _ y1)).trans y1
        replace y2 := (HB3.out.cell (World.block_lt_of_cell? wb _ y2)).trans y2
        replace y3 := (HB3.out.cell (World.block_lt_of_cell? wb _ y3)).trans y3
        replace y4 := (HB3.out.cell (World.block_lt_of_cell? wb _ y4)).trans y4
        replace y5 := (HB3.out.cell (World.block_lt_of_cell? wb _ y5)).trans y5
        replace y6 := (HB3.out.cell (World.block_lt_of_cell? wb _ y6)).trans y6
        replace y7 := (HB3.out.cell (World.block_lt_of_cell? wb _ y7)).trans y7
        replace y8 := (HB3.out.cell (World.block_lt_of_cell? wb _ y8)).trans y8
        rw [Int.toNat_natCast] at y0 y1 y2 y3 y4 y5 y6 y7 y8
        have hget : l[i]? = some (rd_T143 l (i : Int)) := by
          unfold rd_T143
          rw [Int.toNat_natCast, List.getD_eq_getElem?_getD, List.getElem?_eq_getElem hlt]
          rfl
        have hdr : l.drop i = rd_T143 l (i : Int) :: l.drop (i + 1) := by
          rw [List.drop_eq_getElem_cons hlt]
          congr 1
          rw [List.getElem?_eq_getElem hlt] at hget
          injection hget
        have hnd := nd_elem l i _ hget
        obtain ⟨x, hx⟩ : ∃ x, rd_T143 l (i : Int) = x := ⟨_, rfl⟩
        rw [hx] at y0 y1 y2 y3 y4 y5 y6 y7 y8 l7 g7 hdr hnd
        rw [hdr, fd_step2] at HV
        have KZr := (HBr.out.block _ (blk_lt KZ.out)).trans KZ.out
        have HLT := Aside0.mk hlt
        have HND := Aside0.mk hnd
        have H7 := Aside0.mk (And.intro l7 g7)
        subst hA
        clear hx hi hlt hdr hget hnd l7 g7
        by_cases hat : x.f2 = at_
        · have d1 : (x.f2 == at_) = true := beq_iff_eq.2 hat
          have d2 : decide (x.f2 = at_) = true := decide_eq_true hat
          have HA : Aside0 (fdL at_ par l = some (x, par)) := ⟨by rw [HV.out, if_pos hat]⟩
          obtain ⟨z0, z1, z2, z3, z4, z5, z6, z7, z8⟩ := nineZ KZr
          have f0 := blk_frozen KZr 0
          have f1 := blk_frozen KZr 1
          have f2 := blk_frozen KZr 2
          have f3 := blk_frozen KZr 3
          have f4 := blk_frozen KZr 4
          have f5 := blk_frozen KZr 5
          have f6 := blk_frozen KZr 6
          have f7 := blk_frozen KZr 7
          have f8 := blk_frozen KZr 8
          clear hat KZr
          go_wp2_with fail
          (try simp only [Exit.inBlock, Exit.then])
          refine bodyPost_ret (v := .tuple #[tV x A7 c7, .int .i64 par, .bool true]) (by rw [results_cell_tmp2 (p := 6) (u := 7) (q := 8) (ty := 143) rfl]; first | (go_simp; done) | (go_simp; rfl)) rfl ?_
          rw [HA.out]
          exact ⟨A7, c7, rfl, H7.out.2, H7.out.1, below_sets9 HB2.out GZ.out _ _ _ _ _ _ _ _ _⟩
        · have d1 : (x.f2 == at_) = false := beq_eq_false_iff_ne.2 hat
          have d2 : decide (x.f2 = at_) = false := decide_eq_false hat
          obtain ⟨an, han⟩ : ∃ an, fdL at_ x.f2 x.f1 = an := ⟨_, rfl⟩
          have HV2 : Aside0 (fdL at_ par l = orF an (fdL at_ par (l.drop (i + 1)))) := ⟨by rw [HV.out, if_neg hat, han]⟩
          have HAN := Aside0.mk han
          obtain ⟨y, hy⟩ : ∃ y, fdY an = y := ⟨_, rfl⟩
          obtain ⟨q, hq⟩ : ∃ q, fdP an = q := ⟨_, rfl⟩
          obtain ⟨b, hb⟩ : ∃ b, an.isSome = b := ⟨_, rfl⟩
          have HY := Aside0.mk (And.intro hy (And.intro hq hb))
          have hcall : ∀ W : World, Below wr.heap.size wr W → Calls Try.prog 69 #[.slice A7 x.f1.length c7, .int .i64 at_, .int .i64 x.f2] W fun e w' => ∃ A' c', e = .returned (.tuple #[.agg #[.string y.f0.f0, .bool y.f0.f1, .string y.f0.f2, .int .i64 y.f0.f3, .int .i64 y.f0.f4, .int .i64 y.f0.f5, .int .i64 y.f0.f6, .slice A' y.f1.length c', .int .i64 y.f2], .int .i64 q, .bool b]) ∧ k143.C wb A' y.f1.length y.f1 ∧ y.f1.length ≤ c' ∧ Below W.heap.size W w' := fun W hW => by
            have h := IH _ (by have := HND.out; have := HP.out.1; omega) x.f1 A7 c7 at_ x.f2 wb W (below_then HB3.out HB3.out.size hW) rfl (by have := HND.out; have := HP.out; omega) H7.out.2 H7.out.1
            rw [han] at h
            unfold fdV at h
            rw [hy, hq, hb] at h
            exact h
          have HCL := Aside0.mk hcall
          clear hat han hy hq hb hcall HV KZr
          have y7a : (wr.alloc (.cells #[.string ⟨#[]⟩, .bool false, .string ⟨#[]⟩, .int .i64 0, .int .i64 0, .int .i64 0, .int .i64 0, .slice none 0 0, .int .i64 0] 143)).cell? ⟨(ad.add (i * 9)).block, (ad.add (i * 9)).off + 7, none⟩ = some (.slice A7 x.f1.length c7) := by rw [World.cell?_alloc_lt _ _ _ (World.block_lt_of_cell? wr _ y7)]; exact y7
          have y8a : (wr.alloc (.cells #[.string ⟨#[]⟩, .bool false, .string ⟨#[]⟩, .int .i64 0, .int .i64 0, .int .i64 0, .int .i64 0, .slice none 0 0, .int .i64 0] 143)).cell? ⟨(ad.add (i * 9)).block, (ad.add (i * 9)).off + 8, none⟩ = some (.int .i64 x.f2) := by rw [World.cell?_alloc_lt _ _ _ (World.block_lt_of_cell? wr _ y8)]; exact y8
          go_upto_region 6 with fail
          go_cut [10, 11, 12] (fun v10 v11 v12 wx => ∃ (gO : Nat) (A' : Option Addr) (c' : Nat), v10 = .pointer (some ⟨gO, 0, none⟩) ∧ v11 = .int .i64 q ∧ v12 = .bool b ∧ Aside0 (wx.heap[gO]? = some (tC y A' c')) ∧ Aside0 (k143.C wb A' y.f1.length y.f1 ∧ y.f1.length ≤ c') ∧ Aside0 (Below wr.heap.size wr wx))
          case first =>
            go_region_law
              (go_simp
               go_at_call 69
               refine (HCL.out _ (show Below wr.heap.size wr _ by repeat (first | with_reducible exact Below.refl _ _ | with_reducible apply below_drew | with_reducible apply below_alloc))).mono ?_
               rintro e w5 ⟨A', c', rfl, hc5, hl5, hb5⟩
               have HB5 := Aside0.mk (below_then (show Below wr.heap.size wr _ by repeat (first | with_reducible exact Below.refl _ _ | with_reducible apply below_drew | with_reducible apply below_alloc)) (Below.size (show Below wr.heap.size wr _ by repeat (first | with_reducible exact Below.refl _ _ | with_reducible apply below_drew | with_reducible apply below_alloc))) hb5)
               have HC5 := Aside0.mk (And.intro hc5 hl5)
               try (have k5 : w5.heap[wr.heap.size]? = some tZ := (hb5.block _ (blk_lt (one0 _ _))).trans (one0 _ _)
                    have K5 := Aside0.mk k5
                    obtain ⟨z0, z1, z2, z3, z4, z5, z6, z7, z8⟩ := nineZ k5
                    have f0 := blk_frozen k5 0
                    have f1 := blk_frozen k5 1
                    have f2 := blk_frozen k5 2
                    have f3 := blk_frozen k5 3
                    have f4 := blk_frozen k5 4
                    have f5 := blk_frozen k5 5
                    have f6 := blk_frozen k5 6
                    have f7 := blk_frozen k5 7
                    have f8 := blk_frozen k5 8
                    clear k5)
               clear hc5 hl5 hb5)
            all_goals
              (go_wp2_with fail
               go_meet
               case rel =>
                 first
                   | exact ⟨wr.heap.size, A', c', rfl, rfl, rfl, ⟨set9 K5.out y A' c'⟩, HC5, ⟨below_sets9 HB5.out (Nat.le_refl _) _ _ _ _ _ _ _ _ _⟩⟩
                   | exact ⟨w5.heap.size, A', c', rfl, rfl, rfl, ⟨heap_alloc_new w5 _⟩, HC5, ⟨HB5.out.alloc HB5.out.size _⟩⟩)
          case rest =>
          obtain ⟨gO, A', c', rfl, rfl, rfl, KO, HC6, HB6⟩ := hcut
          clear y0 y1 y2 y3 y4 y5 y6 y7 y8 y7a y8a HCL
          obtain ⟨w6, hw6⟩ : ∃ w6, wc = w6 := ⟨_, rfl⟩
          rw [hw6] at KO HB6 ⊢
          clear hw6 wc
          have HBr6 := Aside0.mk (below_then HBr.out HBr.out.size HB6.out)
          have HB26 := Aside0.mk (below_then HB2.out HB2.out.size HB6.out)
          cases b with
          | true =>
            have HA : Aside0 (fdL at_ par l = an) := ⟨by
              rw [HV2.out]
              have h := HY.out.2.2
              cases an with
              | none => cases h
              | some z => rfl⟩
            have KZ6 := (HBr6.out.block _ (blk_lt KZ.out)).trans KZ.out
            obtain ⟨z0, z1, z2, z3, z4, z5, z6, z7, z8⟩ := nineZ KZ6
            obtain ⟨o0, o1, o2, o3, o4, o5, o6, o7, o8⟩ := nine KO.out
            have f0 := blk_frozen KZ6 0
            have f1 := blk_frozen KZ6 1
            have f2 := blk_frozen KZ6 2
            have f3 := blk_frozen KZ6 3
            have f4 := blk_frozen KZ6 4
            have f5 := blk_frozen KZ6 5
            have f6 := blk_frozen KZ6 6
            have f7 := blk_frozen KZ6 7
            have f8 := blk_frozen KZ6 8
            clear KZ6 KO
            go_wp2_with fail
            (try simp only [Exit.inBlock, Exit.then])
            refine bodyPost_ret (v := .tuple #[tV y A' c', .int .i64 q, .bool true]) (by rw [results_cell_tmp2 (p := 6) (u := 7) (q := 8) (ty := 143) rfl]; first | (go_simp; done) | (go_simp; rfl)) rfl ?_
            rw [HA.out]
            exact ⟨A', c', by unfold fdV; rw [HY.out.1, HY.out.2.1, HY.out.2.2], by rw [HY.out.1]; exact HC6.out.1, by rw [HY.out.1]; exact HC6.out.2, below_sets9 HB26.out GZ.out _ _ _ _ _ _ _ _ _⟩
          | false =>
            have HV3 : Aside0 (fdL at_ par l = fdL at_ par (l.drop (i + 1))) := ⟨by
              rw [HV2.out]
              have h := HY.out.2.2
              cases an with
              | none => rfl
              | some z => cases h⟩
            go_wp2_with fail
            go_roundw
            case measure => first | omega | (simp [intOf]; have := HLT.out; omega)
            case rel => exact ⟨i + 1, by congr 1, by have := HLT.out; omega, HV3, HBr6⟩
      · have e1 : decide ((i : Int) < (l.length : Int)) = false := decide_eq_false (by omega)
        have e2 : decide (i < l.length) = false := decide_eq_false hlt
        obtain rfl : i = l.length := by omega
        rw [List.drop_length, fdL_nil] at HV
        have HB2 := Aside0.mk (below_then HB.out HB.out.size HBr.out)
        have KZ6 := (HBr.out.block _ (blk_lt KZ.out)).trans KZ.out
        obtain ⟨z0, z1, z2, z3, z4, z5, z6, z7, z8⟩ := nineZ KZ6
        have f0 := blk_frozen KZ6 0
        have f1 := blk_frozen KZ6 1
        have f2 := blk_frozen KZ6 2
        have f3 := blk_frozen KZ6 3
        have f4 := blk_frozen KZ6 4
        have f5 := blk_frozen KZ6 5
        have f6 := blk_frozen KZ6 6
        have f7 := blk_frozen KZ6 7
        have f8 := blk_frozen KZ6 8
        clear hi hlt KZ6
        go_wp2_with fail
        (try simp only [Exit.inBlock, Exit.then])
        refine bodyPost_ret (v := .tuple #[.agg #[.string ⟨#[]⟩, .bool false, .string ⟨#[]⟩, .int .i64 0, .int .i64 0, .int .i64 0, .int .i64 0, .slice none 0 0, .int .i64 0], .int .i64 (-1), .bool false]) (by rw [results_cell_tmp2 (p := 6) (u := 7) (q := 8) (ty := 143) rfl]; first | (go_simp; done) | (go_simp; rfl)) rfl ?_
        rw [HV.out]
        exact ⟨none, 0, rfl, Kd.C_nil _ _, Nat.le_refl _, below_sets9 HB2.out GZ.out _ _ _ _ _ _ _ _ _⟩
end Go.Proofs.Ytknagjiipelfnaa.OL
