/- tree.plant: of a list of nodes: the parents and the ends, and whether it is a forest: plantF. -/
import Derived.Test.YtknagjiipelfnaaPlantS
import Derived.Deep.RegionLaw
import Derived.StillTailTactics
namespace Go.Proofs.Ytknagjiipelfnaa.OL
open Go.RowKit Go.WideShapes Go.ChangeShapes Go.Proofs.YtknagjiipelfnaaW.PrintWords Go.Proofs.YtknagjiipelfnaaW.PrintLast Go.Proofs.YtknagjiipelfnaaW.PrintMore Go.Proofs.Ytknagjiipelfnaa.PAll
set_option linter.unusedVariables false

abbrev mk0 (n : Nat) : Array Value := madeCells #[.int .i64 0] n
theorem mk0_list (n : Nat) : (mk0 n).toList = encs (Value.int .i64) (List.replicate n 0) := by
  apply List.ext_getElem
  · simp [size_madeCells, encs]
  · intro i h1 h2
    simp [mk0, madeCells, encs, Nat.mod_one]
theorem RI_made {w : World} {b g n : Nat} (hb : b ≤ g) (hn : n ≤ 2097152) (h : w.heap[g]? = some (.cells (mk0 n) 3 (0, 0))) : RI w b (.slice (some ⟨g, 0, none⟩) n n) (List.replicate n 0) := by
  refine Kd.R_of_own (enc := Value.int .i64) (h1 := fun _ => rfl) ?_ (fun _ _ => trivial)
  rw [List.length_replicate, ← mk0_list]
  refine ⟨by simp [size_madeCells], .inr ⟨g, n, mk0 n, rfl, hb, h, Nat.le_refl _, by unfold maxLen; omega, by simp [size_madeCells], ?_⟩⟩
  rw [List.take_of_length_le (by simp [size_madeCells])]
theorem RI.lower {w : World} {b b2 : Nat} {v : Value} {xs : List Int} (h : RI w b v xs) (hb : b2 ≤ b) : RI w b2 v xs := Kd.R_lower h hb
theorem mk_run (n : Nat) (hn : n ≤ 2097152) (W : World) : (Instr.makeSlice 90 (.int .i64 (n : Int)) (.int .i64 (n : Int))).run Try.prog W = .ok (.slice (some ⟨W.heap.size, 0, none⟩) n n) (W.alloc (.cells (mk0 n) 3)) := by
  obtain ⟨i0, hi, hz, hs, hb⟩ : ∃ i0 : TypeInfo, Try.prog.info? 3 = some i0 ∧ i0.zero = some (.int .i64 0) ∧ i0.size = 1 ∧ i0.bytes = 8 := by
    obtain ⟨i0, h1, h2⟩ := Option.map_eq_some_iff.1 info3
    simp only [Prod.mk.injEq] at h2
    exact ⟨i0, h1, h2.1, h2.2.1, h2.2.2⟩
  have h := run_make (P := Try.prog) W 90 3 i0 _ Try.underlying90 hi hz .i64 .i64 (n : Int) (n : Int) (by omega) (by omega) (by rw [hb]; omega) (by omega)
  rw [hs, Int.toNat_natCast, Nat.mul_one] at h
  exact h
section
variable (w0 : World) (o1 o2 o3 : Obj)
theorem three0 : (((w0.alloc o1).alloc o2).alloc o3).drew.heap[w0.heap.size]? = some o1 := by
  have h1 : Below (w0.alloc o1).heap.size (w0.alloc o1) ((w0.alloc o1).alloc o2) := below_alloc (Below.refl _ _) _
  have h2 : Below ((w0.alloc o1).alloc o2).heap.size ((w0.alloc o1).alloc o2) (((w0.alloc o1).alloc o2).alloc o3) := below_alloc (Below.refl _ _) _
  have k1 := heap_alloc_new w0 o1
  have k2 := (h1.block _ (blk_lt k1)).trans k1
  exact (h2.block _ (blk_lt k2)).trans k2
theorem three1 : (((w0.alloc o1).alloc o2).alloc o3).drew.heap[w0.heap.size + 1]? = some o2 := by
  have h2 : Below ((w0.alloc o1).alloc o2).heap.size ((w0.alloc o1).alloc o2) (((w0.alloc o1).alloc o2).alloc o3) := below_alloc (Below.refl _ _) _
  have k2 : ((w0.alloc o1).alloc o2).heap[w0.heap.size + 1]? = some o2 := by
    have := heap_alloc_new (w0.alloc o1) o2
    simpa using this
  exact (h2.block _ (blk_lt k2)).trans k2
theorem three2 : (((w0.alloc o1).alloc o2).alloc o3).drew.heap[w0.heap.size + 1 + 1]? = some o3 := by
  have h : (((w0.alloc o1).alloc o2).alloc o3).heap[w0.heap.size + 1 + 1]? = some o3 := by
    have := heap_alloc_new ((w0.alloc o1).alloc o2) o3
    simpa using this
  exact h
theorem threeB : Below w0.heap.size w0 (((w0.alloc o1).alloc o2).alloc o3).drew := below_drew (below_alloc (below_alloc (below_alloc (Below.refl _ _) _) _) _)
end
theorem PlS_start {w w0 X : World} {gR gF gP gE m c : Nat} {A : Option Addr} (hm : m ≤ 2097152) (kr : w0.heap[gR]? = some foZ) (b0 : Below w.heap.size w w0) (b : Below w0.heap.size w0 X) (kF : X.heap[gF]? = some (foC A m c (.slice (some ⟨gP, 0, none⟩) m m) (.slice (some ⟨gE, 0, none⟩) m m) false)) (hP : X.heap[gP]? = some (.cells (mk0 m) 3 (0, 0))) (hE : X.heap[gE]? = some (.cells (mk0 m) 3 (0, 0))) (hne : gP ≠ gE) (l1 : w0.heap.size ≤ gP) (l2 : w0.heap.size ≤ gE) :
    PlS w X gR gF gP gE A m c m m (.slice none 0 0) (.slice none 0 0) (List.replicate m 0) (List.replicate m 0) [] [] :=
  ⟨(b.block _ (blk_lt kr)).trans kr, kF, RI_made (Nat.le_trans b0.size l1) hm hP, RI_made (Nat.le_trans b0.size l2) hm hE, RI.nil _ _, RI.nil _ _, hne, by intro k hk; simp [Value.ownBlock] at hk, by intro k hk; simp [Value.ownBlock] at hk, below_then b0 b0.size b⟩
theorem RI.set {w : World} {b g t : Nat} {v : Value} {xs : List Int} {cells : Array Value} (h : RI w b v xs) (hb : w.heap[g]? = some (.cells cells t (0, 0))) (ht : t ≠ 3) (j : Nat) (u : Value) : RI (w.setCell ⟨g, j, none⟩ u) b v xs :=
  Kd.R_set h hb (fun q hq => by
    have : q = 3 := by
      rcases List.mem_cons.1 hq with hq | hq
      · exact hq
      · cases hq
    rw [this]
    exact Ne.symm ht) j u
def slLen : Value → Nat
  | .slice _ n _ => n
  | _ => 0
/-- What is handed back. -/
theorem PlS.fin {w X : World} {gR gF gP gE m c cP cE : Nat} {A : Option Addr} {vo vl : Value} {po en op lf : List Int} (h : PlS w X gR gF gP gE A m c cP cE vo vl po en op lf) (hlo : w.heap.size ≤ gR) (v0 v1 v2 v3 : Value) :
    RI ((((X.setCell ⟨gR, 0, none⟩ v0).setCell ⟨gR, 1, none⟩ v1).setCell ⟨gR, 2, none⟩ v2).setCell ⟨gR, 3, none⟩ v3) w.heap.size (.slice (some ⟨gP, 0, none⟩) m cP) po ∧ RI ((((X.setCell ⟨gR, 0, none⟩ v0).setCell ⟨gR, 1, none⟩ v1).setCell ⟨gR, 2, none⟩ v2).setCell ⟨gR, 3, none⟩ v3) w.heap.size (.slice (some ⟨gE, 0, none⟩) m cE) en ∧ Below w.heap.size w ((((X.setCell ⟨gR, 0, none⟩ v0).setCell ⟨gR, 1, none⟩ v1).setCell ⟨gR, 2, none⟩ v2).setCell ⟨gR, 3, none⟩ v3) := by
  have k0 := h.kr
  have k1 := (blk_set k0 0 v0).trans rfl
  have k2 := (blk_set k1 1 v1).trans rfl
  have k3 := (blk_set k2 2 v2).trans rfl
  exact ⟨(((h.p.set k0 (by decide) _ _).set k1 (by decide) _ _).set k2 (by decide) _ _).set k3 (by decide) _ _, (((h.e.set k0 (by decide) _ _).set k1 (by decide) _ _).set k2 (by decide) _ _).set k3 (by decide) _ _, (((h.b.setCell hlo _).setCell hlo _).setCell hlo _).setCell hlo _⟩
theorem room_of {n : Nat} {i : Int} {S : Stk} {en : List Int} (h : SOk n S) : room 1 (pops i S en).1 := by
  intro p l S' e
  have h1 := pops_head i S en (fun q hq => (h q hq).2.2.1)
  rw [e] at h1
  rcases h1 with h1 | h1
  · cases h1
  · simp only [List.head?_cons, Option.map_some, Option.getD_some] at h1
    omega
theorem SOk.dec {n : Nat} {S : Stk} (h : SOk n S) (hr : room 1 S) : SOk n (decS S) := by
  cases S with
  | nil => exact h
  | cons q S =>
    obtain ⟨p, l⟩ := q
    intro z hz
    simp only [decS] at hz
    rcases List.mem_cons.1 hz with rfl | hz
    · have h1 := h (p, l) List.mem_cons_self
      have h2 := hr p l S rfl
      simp only at h1 ⊢
      omega
    · exact h z (List.mem_cons_of_mem _ hz)
theorem one0 (w0 : World) (o1 : Obj) : (w0.alloc o1).drew.heap[w0.heap.size]? = some o1 := heap_alloc_new w0 o1
theorem two0 (w0 : World) (o1 o2 : Obj) : ((w0.alloc o1).alloc o2).drew.heap[w0.heap.size]? = some o1 := by
  have h1 : Below (w0.alloc o1).heap.size (w0.alloc o1) ((w0.alloc o1).alloc o2) := below_alloc (Below.refl _ _) _
  have k1 := heap_alloc_new w0 o1
  exact (h1.block _ (blk_lt k1)).trans k1
theorem two1 (w0 : World) (o1 o2 : Obj) : ((w0.alloc o1).alloc o2).drew.heap[w0.heap.size + 1]? = some o2 := by
  have h : ((w0.alloc o1).alloc o2).heap[w0.heap.size + 1]? = some o2 := by
    have := heap_alloc_new (w0.alloc o1) o2
    simpa using this
  exact h
theorem grown_node {w4 W w5 : World} {b gN : Nat} {v : Value} {xs : List Int} {cs : Array Value} (h : w4.heap[gN]? = some (.cells cs 50 (0, 0))) (hb : Below w4.heap.size w4 W) (ho : RI w4 b v xs) (hg : W.grownBy w5 v.ownBlock) : w5.heap[gN]? = some (.cells cs 50 (0, 0)) := by
  have h1 := (hb.block _ (blk_lt h)).trans h
  refine (hg.block _ (blk_lt h1) (fun e => ?_)).trans h1
  obtain ⟨cur, hc⟩ := ho.typed e.symm
  exact ty_ne h hc (by decide) rfl
theorem dec_len (S : Stk) : (decS S).length = S.length := by cases S with
  | nil => rfl
  | cons q S => rfl
set_option maxRecDepth 100000 in
set_option maxHeartbeats 16000000 in
theorem plant_calls (A : Option Addr) (c : Nat) (t : List S50) (w : World) (hr : Kd.C k50 w A t.length t) (hc : t.length ≤ c) (hl : t.length ≤ 1048578) (hk : ∀ x ∈ t, x.f5 ≤ 9223372036854775807) :
    Calls Try.prog 64 #[.slice A t.length c] w fun e w' => ∃ P E po en, e = .returned (.agg #[.slice A t.length c, P, E, .bool (plantF t).2.2.2]) ∧ ((plantF t).2.2.2 = true → po = (plantF t).2.1 ∧ en = (plantF t).2.2.1) ∧ RI w' w.heap.size P po ∧ RI w' w.heap.size E en ∧ Below w.heap.size w w' := by
  have HRw := Aside0.mk hr
  have HP := Aside0.mk (And.intro hc (And.intro hl hk))
  have hba : Below w.heap.size w (w.alloc foZ) := below_alloc (Below.refl _ _) _
  have HB := Aside0.mk hba
  have KR := Aside0.mk (heap_alloc_new w foZ)
  clear hr hc hl hk hba
  go_enter Try.func64, Try.ntmps64
  go_upto_region 1 with fail
  obtain ⟨gR, hgR⟩ : ∃ g, w.heap.size = g := ⟨_, rfl⟩
  have GR := Aside0.mk hgR
  generalize w.alloc foZ = w0 at KR HB ⊢
  rw [hgR] at KR ⊢
  clear hgR
  go_cut [3] (fun v3 wx => ∃ gF gP gE cP cE : Nat, v3 = .pointer (some ⟨gF, 0, none⟩) ∧ Aside0 (PlS w wx gR gF gP gE A t.length c cP cE (.slice none 0 0) (.slice none 0 0) (List.replicate t.length 0) (List.replicate t.length 0) [] []) ∧ Aside0 (w.heap.size ≤ gF))
  case first =>
    have hl := HP.out.2.1
    have hmk := mk_run t.length (by omega)
    go_region_law (fail)
    all_goals
      (go_wp2_with fail
       go_meet
       case rel =>
         have hl2 : t.length ≤ 2097152 := by omega
         have hlo := HB.out.size
         first
           | exact ⟨_, _, _, _, _, rfl, ⟨PlS_start hl2 KR.out HB.out (threeB _ _ _ _) (three0 _ _ _ _) (three1 _ _ _ _) (three2 _ _ _ _) (by omega) (by omega) (by omega)⟩, ⟨by omega⟩⟩
           | exact ⟨_, _, _, _, _, rfl, ⟨PlS_start hl2 KR.out HB.out (threeB _ _ _ _) (three0 _ _ _ _) (three2 _ _ _ _) (three1 _ _ _ _) (by omega) (by omega) (by omega)⟩, ⟨by omega⟩⟩
           | exact ⟨_, _, _, _, _, rfl, ⟨PlS_start hl2 KR.out HB.out (threeB _ _ _ _) (three1 _ _ _ _) (three0 _ _ _ _) (three2 _ _ _ _) (by omega) (by omega) (by omega)⟩, ⟨by omega⟩⟩
           | exact ⟨_, _, _, _, _, rfl, ⟨PlS_start hl2 KR.out HB.out (threeB _ _ _ _) (three1 _ _ _ _) (three2 _ _ _ _) (three0 _ _ _ _) (by omega) (by omega) (by omega)⟩, ⟨by omega⟩⟩
           | exact ⟨_, _, _, _, _, rfl, ⟨PlS_start hl2 KR.out HB.out (threeB _ _ _ _) (three2 _ _ _ _) (three0 _ _ _ _) (three1 _ _ _ _) (by omega) (by omega) (by omega)⟩, ⟨by omega⟩⟩
           | exact ⟨_, _, _, _, _, rfl, ⟨PlS_start hl2 KR.out HB.out (threeB _ _ _ _) (three2 _ _ _ _) (three1 _ _ _ _) (three0 _ _ _ _) (by omega) (by omega) (by omega)⟩, ⟨by omega⟩⟩)
  case rest =>
  obtain ⟨gF, gP, gE, cP, cE, rfl, PS, GF⟩ := hcut
  have GL : Aside0 (w.heap.size ≤ gR) := ⟨by have := GR.out; omega⟩
  clear KR HB
  obtain ⟨w1, hw1⟩ : ∃ w1, wc = w1 := ⟨_, rfl⟩
  rw [hw1] at PS ⊢
  clear hw1 wc
  go_wp2_with fail
  go_loopw [4, 5, 6, 7, 18] (fun v4 v5 v6 v7 v18 wr => ∃ (i : Nat) (S : Stk) (po en : List Int), v18 = .int .i64 (i : Int) ∧ i ≤ t.length ∧ Aside0 (runP (t.drop i) i S po en = plantF t) ∧ Aside0 (SOk t.length S ∧ room 1 S ∧ S.length ≤ i) ∧ Aside0 (po.length = t.length ∧ en.length = t.length) ∧ Aside0 (PlS w wr gR gF gP gE A t.length c cP cE v4 v5 po en (opsS S) (lfsS S))) (fun _ _ _ _ v18 _ => t.length - (intOf v18).toNat)
  case atStart => exact ⟨0, [], _, _, rfl, by omega, ⟨rfl⟩, ⟨⟨fun q hq => (List.not_mem_nil hq).elim, fun p l S' e => (List.cons_ne_nil _ _ e.symm).elim, Nat.le_refl _⟩⟩, ⟨by simp, by simp⟩, PS⟩
  case round =>
    obtain ⟨i, S, po, en, rfl, hi, HR, HS, HN, PSr⟩ := hrel
    clear PS
    by_cases hlt : i < t.length
    · have e1 : decide ((i : Int) < (t.length : Int)) = true := decide_eq_true (by omega)
      have e2 : decide (i < t.length) = true := decide_eq_true hlt
      have e3 : (i : Int) < (t.length : Int) := by omega
      have hl := HP.out.2.1
      have hc := HP.out.1
      have e4 : IntKind.i64.wrap ((i : Int) + 1) = (i : Int) + 1 := (i64_w _).trans (w64 (by omega) (by omega))
      obtain ⟨ad, hA, y0, y1, y2, y3, y4, y5, y6⟩ := at_T50 (Kd.C_below HRw.out PSr.out.b) (i : Int) (by omega) (by omega)
      rw [Int.toNat_natCast] at y0 y1 y2 y3 y4 y5 y6
      have hdr := drop_cons hlt
      have hmem : rd_T50 t (i : Int) ∈ t := by
        unfold rd_T50
        rw [Int.toNat_natCast, List.getD_eq_getElem?_getD, List.getElem?_eq_getElem hlt]
        exact List.getElem_mem hlt
      have hkx := HP.out.2.2 _ hmem
      obtain ⟨x, hx⟩ : ∃ x, rd_T50 t (i : Int) = x := ⟨_, rfl⟩
      rw [hx] at y0 y1 y2 y3 y4 y5 y6 hdr hkx
      rw [hdr] at HR
      have HKX := Aside0.mk hkx
      have HLT := Aside0.mk hlt
      subst hA
      clear hx hi hlt hdr hmem hkx
      obtain ⟨oN, hoN⟩ : ∃ o : Obj, o = .cells #[.string x.f0, .bool x.f1, .string x.f2, .int .i64 x.f3, .int .i64 x.f4, .int .i64 x.f5, .int .i64 x.f6] 50 (0, 0) := ⟨_, rfl⟩
      go_upto_region 6 with fail
      rw [← hoN]
      have KN := Aside0.mk ((heap_alloc_new wr oN).trans (congrArg some hoN))
      have PS1 := Aside0.mk (PSr.out.moved (below_alloc (Below.refl _ _) oN))
      clear hoN PSr y0 y1 y2 y3 y4 y5 y6
      obtain ⟨gN, hgN⟩ : ∃ g, wr.heap.size = g := ⟨_, rfl⟩
      generalize wr.alloc oN = w2 at KN PS1 ⊢
      rw [hgN] at KN ⊢
      clear hgN
      have q1 : w2.cell? ⟨gF, 1, none⟩ = some (.slice (some ⟨gP, 0, none⟩) t.length cP) := (blk_cell PS1.out.kf 1).trans rfl
      obtain ⟨pi, hpi⟩ : ∃ z, po[i]? = some z := ⟨_, List.getElem?_eq_getElem (show i < po.length by have := HN.out.1; have := HLT.out; omega)⟩
      obtain ⟨q2, q3⟩ := PS1.out.p.at_ i (show i < po.length by have := HN.out.1; have := HLT.out; omega) pi hpi
      clear hpi
      obtain ⟨Ao, co, rfl, hco, -⟩ := PS1.out.o.opens
      obtain ⟨Al, cl, rfl, hcl, -⟩ := PS1.out.l.opens
      rw [opsS_len] at PS1 hco ⊢
      rw [lfsS_len] at PS1 hcl ⊢
      have HCO := Aside0.mk (And.intro hco hcl)
      clear hco hcl
      go_upto_region 7 with fail
      have PS2 := Aside0.mk (PS1.out.putP i (-1))
      have KN2 : Aside0 ((w2.setCell ⟨gP, i, none⟩ (.int .i64 (-1))).heap[gN]? = _) := ⟨blk_far KN.out (ty_ne KN.out (PS1.out.p.typed (g := gP) rfl).choose_spec (by decide)) _⟩
      clear PS1 KN q1 q2 q3
      generalize w2.setCell ⟨gP, i, none⟩ (.int .i64 (-1)) = w3 at PS2 KN2 ⊢
      go_upto_if 29 with fail
      go_cut [] (fun wx => Aside0 (PlS w wx gR gF gP gE (some ad) t.length c cP cE (.slice Ao S.length co) (.slice Al S.length cl) (po.set i (topS S)) en (opsS S) (lfsS (decS S))) ∧ Aside0 (wx.heap[gN]? = some (.cells #[.string x.f0, .bool x.f1, .string x.f2, .int .i64 x.f3, .int .i64 x.f4, .int .i64 x.f5, .int .i64 x.f6] 50 (0, 0))))
      case first =>
        cases S with
        | nil =>
          go_wp2_with fail
          go_meet
          case rel => exact ⟨PS2, KN2⟩
        | cons q S =>
          obtain ⟨p, l⟩ := q
          have hq := HS.out.1 (p, l) List.mem_cons_self
          have hl1 := HS.out.2.1 p l S rfl
          have hsl := HS.out.2.2
          have hil := HLT.out
          have hll := HP.out.2.1
          simp only [List.length_cons] at hq hl1 hsl PS2 ⊢
          obtain ⟨go, co2, e5, -, -, -, -⟩ := PS2.out.o.pos (by rw [opsS_len]; simp)
          obtain ⟨gl, cl2, e6, -, -, -, -⟩ := PS2.out.l.pos (by rw [lfsS_len]; simp)
          injection e5 with e5 h1 h2
          injection e6 with e6 h3 h4
          clear h1 h2 h3 h4
          subst e5 e6
          have e7 : IntKind.i64.wrap (((S.length + 1 : Nat) : Int) - 1) = (S.length : Int) := (i64_w _).trans ((w64 (by omega) (by omega)).trans (by omega))
          have e7b : IntKind.i64.wrap ((S.length : Int) + 1 - 1) = (S.length : Int) := (i64_w _).trans ((w64 (by omega) (by omega)).trans (by omega))
          have e7c : IntKind.i64.wrap (S.length : Int) = (S.length : Int) := (i64_w _).trans (w64 (by omega) (by omega))
          have e8 : IntKind.i64.wrap (l - 1) = l - 1 := (i64_w _).trans (w64 (by omega) (by omega))
          have e9 : (S.length : Int) < ((S.length + 1 : Nat) : Int) := by omega
          have e9b : (S.length : Int) < (S.length : Int) + 1 := by omega
          have q1 : w3.cell? ⟨gF, 1, none⟩ = some (.slice (some ⟨gP, 0, none⟩) t.length cP) := (blk_cell PS2.out.kf 1).trans rfl
          obtain ⟨c1, -⟩ := PS2.out.o.at_ S.length (by rw [opsS_len]; simp) p (opsS_top p l S)
          obtain ⟨c2, c3⟩ := PS2.out.p.at_ i (show i < (po.set i (-1)).length by rw [List.length_set]; have := HN.out.1; omega) (-1) (by rw [List.getElem?_set_self (by have := HN.out.1; omega)])
          have LQ := Aside0.mk hq
          clear hq hl1 hsl hil hll
          go_upto_region 8 with fail
          go_still_tail 10, (by kernel_rfl)
          have PS3 := Aside0.mk (PS2.out.moved (below_drew (Below.refl _ _)))
          have KN3 : Aside0 (w3.drew.heap[gN]? = _) := ⟨KN2.out⟩
          clear PS2 KN2 q1 c1 c2 c3
          change wpList _ _ _ _ _ w3.drew
          generalize w3.drew = wd at PS3 KN3 ⊢
          obtain ⟨c2, c3⟩ := PS3.out.p.at_ i (show i < (po.set i (-1)).length by rw [List.length_set]; have := HN.out.1; have := HLT.out; omega) (-1) (by rw [List.getElem?_set_self (by have := HN.out.1; have := HLT.out; omega)])
          go_upto_region 9 with fail
          have PS5 := Aside0.mk (PS3.out.putP i p)
          have KN5 : Aside0 ((wd.setCell ⟨gP, i, none⟩ (.int .i64 p)).heap[gN]? = _) := ⟨blk_far KN3.out (ty_ne KN3.out (PS3.out.p.typed (g := gP) rfl).choose_spec (by decide)) _⟩
          clear PS3 KN3 c2 c3
          generalize wd.setCell ⟨gP, i, none⟩ (.int .i64 p) = w5 at PS5 KN5 ⊢
          rw [List.set_set] at PS5
          obtain ⟨c1, c2⟩ := PS5.out.l.at_ S.length (by rw [lfsS_len]; simp) l (lfsS_top p l S)
          go_wp2_with fail
          go_meet
          case rel =>
            have PS6 := PS5.out.putL S.length (l - 1)
            rw [lfsS_set] at PS6
            exact ⟨⟨PS6⟩, ⟨blk_far KN5.out (ty_ne KN5.out (PS5.out.l.typed (g := gl) rfl).choose_spec (by decide)) _⟩⟩
      case rest =>
      obtain ⟨PS4, KN4⟩ := hcut
      clear PS2 KN2
      obtain ⟨w4, hw4⟩ : ∃ w4, wc = w4 := ⟨_, rfl⟩
      rw [hw4] at PS4 KN4 ⊢
      clear hw4 wc
      have n5 : w4.cell? ⟨gN, 5, none⟩ = some (.int .i64 x.f5) := (blk_cell KN4.out 5).trans rfl
      by_cases hneg : x.f5 < 0
      · have n6 : decide (x.f5 < 0) = true := decide_eq_true hneg
        have hv : (plantF t).2.2.2 = false := by
          rw [← HR.out]
          simp only [runP]
          rw [if_pos hneg]
        have f0 : w4.cell? ⟨gF, 0, none⟩ = some (.slice (some ad) t.length c) := (blk_cell PS4.out.kf 0).trans rfl
        have f1 : w4.cell? ⟨gF, 1, none⟩ = some (.slice (some ⟨gP, 0, none⟩) t.length cP) := (blk_cell PS4.out.kf 1).trans rfl
        have f2 : w4.cell? ⟨gF, 2, none⟩ = some (.slice (some ⟨gE, 0, none⟩) t.length cE) := (blk_cell PS4.out.kf 2).trans rfl
        have f3 : w4.cell? ⟨gF, 3, none⟩ = some (.bool false) := (blk_cell PS4.out.kf 3).trans rfl
        have r0 : w4.cell? ⟨gR, 0, none⟩ = some (.slice none 0 0) := (blk_cell PS4.out.kr 0).trans rfl
        have r1 : w4.cell? ⟨gR, 1, none⟩ = some (.slice none 0 0) := (blk_cell PS4.out.kr 1).trans rfl
        have r2 : w4.cell? ⟨gR, 2, none⟩ = some (.slice none 0 0) := (blk_cell PS4.out.kr 2).trans rfl
        have r3 : w4.cell? ⟨gR, 3, none⟩ = some (.bool false) := (blk_cell PS4.out.kr 3).trans rfl
        have s0 := blk_frozen PS4.out.kr 0
        have s1 := blk_frozen PS4.out.kr 1
        have s2 := blk_frozen PS4.out.kr 2
        have s3 := blk_frozen PS4.out.kr 3
        have HV := Aside0.mk hv
        clear hneg hv
        go_wp2_with fail
        refine bodyPost_ret (results_cell_row rfl _ _ gR 136 #[.slice (some ad) t.length c, .slice (some ⟨gP, 0, none⟩) t.length cP, .slice (some ⟨gE, 0, none⟩) t.length cE, .bool false] (0, 0) _ rfl ((blk_set ((blk_set ((blk_set ((blk_set PS4.out.kr 0 _).trans rfl) 1 _).trans rfl) 2 _).trans rfl) 3 _).trans rfl) Try.underlying136 rfl (by kernel_rfl)) rfl ?_
        have hf := PS4.out.fin GL.out (.slice (some ad) t.length c) (.slice (some ⟨gP, 0, none⟩) t.length cP) (.slice (some ⟨gE, 0, none⟩) t.length cE) (.bool false)
        rw [HV.out]
        exact ⟨_, _, _, _, rfl, (fun h => by cases h), hf.1, hf.2.1, hf.2.2⟩
      · have n6 : decide (x.f5 < 0) = false := decide_eq_false hneg
        have hsl := HS.out.2.2
        have hil := HLT.out
        have hll := HP.out.2.1
        have HX0 : Aside0 (0 ≤ x.f5) := ⟨by omega⟩
        clear hneg
        go_upto_region 12 with fail
        have hbase := PS4.out.b.size
        have n5a : (w4.alloc (.cells #[.int .i64 (i : Int)] 3)).cell? ⟨gN, 5, none⟩ = some (.int .i64 x.f5) := by rw [World.cell?_alloc_lt _ _ ⟨gN, 5, none⟩ (blk_lt KN4.out)]; exact n5
        go_cut [4, 5] (fun v4 v5 wx => Aside0 (PlS w wx gR gF gP gE (some ad) t.length c cP cE v4 v5 (po.set i (topS S)) en (opsS (((i : Int), x.f5) :: decS S)) (lfsS (((i : Int), x.f5) :: decS S))))
        case first =>
          go_region_law
            (first
              | (refine RI_app (w0 := w) w.heap.size (by rfl) (.tmp 52) (.tmp 54) (by rfl) Try.underlying90 info3 (.slice Ao S.length co) (opsS S) (i : Int) _ 1 (by rfl) (by rfl) ?aO (lit1_C ?aR) ?aB ?aS ?aL ?_
                 (case aO => exact PS4.out.o.below (show Below w4.heap.size w4 _ by repeat (first | with_reducible exact Below.refl _ _ | with_reducible apply below_drew | with_reducible apply below_alloc)))
                 (case aR => first | exact one0 _ _ | exact two0 _ _ _ | exact two1 _ _ _)
                 (case aB => exact below_then PS4.out.b PS4.out.b.size (show Below w4.heap.size w4 _ by repeat (first | with_reducible exact Below.refl _ _ | with_reducible apply below_drew | with_reducible apply below_alloc)))
                 (case aS => exact Nat.le_trans hbase (Below.size (show Below w4.heap.size w4 _ by repeat (first | with_reducible exact Below.refl _ _ | with_reducible apply below_drew | with_reducible apply below_alloc))))
                 (case aL => rw [opsS_len]; omega)
                 intro v1 w5 ho hb hg hat
                 have PS5 := Aside0.mk ((PS4.out.moved (show Below w4.heap.size w4 _ by repeat (first | with_reducible exact Below.refl _ _ | with_reducible apply below_drew | with_reducible apply below_alloc))).appO ho hb hg hat)
                 have KN5 := grown_node KN4.out (show Below w4.heap.size w4 _ by repeat (first | with_reducible exact Below.refl _ _ | with_reducible apply below_drew | with_reducible apply below_alloc)) PS4.out.o hg
                 have n5b : w5.cell? ⟨gN, 5, none⟩ = some (.int .i64 x.f5) := (blk_cell KN5 5).trans rfl
                 try (have k59 : w5.heap[w4.heap.size]? = some (.cells #[.int .i64 x.f5] 3) := (hg.block _ (blk_lt (two0 _ _ _)) (fun e => by have := (PS4.out.o.lt e.symm).2; omega)).trans (two0 _ _ _)
                      have K59 := Aside0.mk k59
                      clear k59)
                 try (have k59 : w5.heap[w4.heap.size + 1]? = some (.cells #[.int .i64 x.f5] 3) := (hg.block _ (blk_lt (two1 _ _ _)) (fun e => by have := (PS4.out.o.lt e.symm).2; omega)).trans (two1 _ _ _)
                      have K59 := Aside0.mk k59
                      clear k59)
                 clear ho hb hg hat KN5)
              | (refine RI_app (w0 := w) w.heap.size (by rfl) (.tmp 56) (.tmp 59) (by rfl) Try.underlying90 info3 (.slice Al S.length cl) (lfsS (decS S)) x.f5 _ 1 (by rfl) (by rfl) ?aO (lit1_C ?aR) ?aB ?aS ?aL ?_
                 (case aO => exact PS5.out.l.below (show Below w5.heap.size w5 _ by repeat (first | with_reducible exact Below.refl _ _ | with_reducible apply below_drew | with_reducible apply below_alloc)))
                 (case aR => first | exact K59.out | exact heap_alloc_new _ _)
                 (case aB => exact below_then PS5.out.b PS5.out.b.size (show Below w5.heap.size w5 _ by repeat (first | with_reducible exact Below.refl _ _ | with_reducible apply below_drew | with_reducible apply below_alloc)))
                 (case aS => exact Nat.le_trans PS5.out.b.size (Below.size (show Below w5.heap.size w5 _ by repeat (first | with_reducible exact Below.refl _ _ | with_reducible apply below_drew | with_reducible apply below_alloc))))
                 (case aL => rw [lfsS_len, dec_len]; omega)
                 intro v2 w6 ho hb hg hat
                 have PS6 := Aside0.mk ((PS5.out.moved (show Below w5.heap.size w5 _ by repeat (first | with_reducible exact Below.refl _ _ | with_reducible apply below_drew | with_reducible apply below_alloc))).appL ho hb hg hat)
                 clear ho hb hg hat))
          all_goals
            (go_wp2_with fail
             go_meet
             case rel => exact ⟨by rw [opsS_cons, lfsS_cons, opsS_dec]; exact PS6.out⟩)
        case rest =>
        have PS7 := hcut
        clear hcut PS4 KN4 n5 n5a n6
        obtain ⟨w7, hw7⟩ : ∃ w7, wc = w7 := ⟨_, rfl⟩
        rw [hw7] at PS7 ⊢
        clear hw7 wc
        have hS0 : SOk t.length (((i : Int), x.f5) :: decS S) := by
          intro z hz
          rcases List.mem_cons.1 hz with rfl | hz
          · have := HKX.out; have := HX0.out; simp only; omega
          · exact (HS.out.1.dec HS.out.2.1) z hz
        obtain ⟨S0, hS1⟩ : ∃ S0 : Stk, (((i : Int), x.f5) :: decS S) = S0 := ⟨_, rfl⟩
        rw [hS1] at hS0
        have hS2 : S0.length ≤ i + 1 := by rw [← hS1, List.length_cons, dec_len]; omega
        have HR2 : Aside0 (runP (t.drop (i + 1)) (i + 1) (pops (i : Int) S0 en).1 (po.set i (topS S)) (pops (i : Int) S0 en).2 = plantF t) := ⟨by
          rw [← HR.out, ← hS1]
          simp only [runP]
          rw [if_neg (by have := HX0.out; omega)]⟩
        have HN2 : Aside0 ((po.set i (topS S)).length = t.length) := ⟨by rw [List.length_set]; exact HN.out.1⟩
        have HNE := Aside0.mk HN.out.2
        have HS0 := Aside0.mk (And.intro hS0 hS2)
        obtain ⟨po2, hpo2⟩ : ∃ p2, po.set i (topS S) = p2 := ⟨_, rfl⟩
        rw [hpo2] at PS7 HR2 HN2
        rw [hS1] at PS7
        clear hpo2 hS0 hS1 hS2 hsl hil hll hbase HR HS HN HKX HCO
        go_wp2_with fail
        go_loopw [4, 5] (fun v4 v5 wr => ∃ (S1 : Stk) (en1 : List Int), Aside0 (PlS w wr gR gF gP gE (some ad) t.length c cP cE v4 v5 po2 en1 (opsS S1) (lfsS S1)) ∧ Aside0 (pops (i : Int) S1 en1 = pops (i : Int) S0 en) ∧ Aside0 (SOk t.length S1 ∧ S1.length ≤ i + 1 ∧ en1.length = t.length) ∧ slLen v4 = S1.length) (fun v4 _ _ => slLen v4)
        case atStart => exact ⟨S0, en, PS7, ⟨rfl⟩, ⟨⟨HS0.out.1, HS0.out.2, HNE.out⟩⟩, by obtain ⟨A', c', e, _⟩ := PS7.out.o.opens; rw [e]; show (opsS S0).length = _; rw [opsS_len]⟩
        case round =>
          obtain ⟨S1, en1, PSi, HPO, HSi, HM⟩ := hrel
          clear PS7
          cases S1 with
          | nil =>
            obtain ⟨Ao, co, rfl, -, -⟩ := PSi.out.o.opens
            obtain ⟨Al, cl, rfl, -, -⟩ := PSi.out.l.opens
            simp only [opsS_len, lfsS_len, List.length_nil] at PSi ⊢
            have HR3 : Aside0 (runP (t.drop (i + 1)) (i + 1) [] po2 en1 = plantF t) := ⟨by have h := HR2.out; rw [← HPO.out] at h; exact h⟩
            go_wp2_with fail
            go_roundw
            case measure => first | omega | (simp [intOf]; have := HLT.out; omega)
            case rel => exact ⟨i + 1, [], po2, en1, by congr 1, by have := HLT.out; omega, HR3, ⟨⟨fun q hq => (List.not_mem_nil hq).elim, fun p l S' e => (List.cons_ne_nil _ _ e.symm).elim, Nat.zero_le _⟩⟩, ⟨⟨HN2.out, HSi.out.2.2⟩⟩, PSi⟩
          | cons q S1 =>
            obtain ⟨p, l⟩ := q
            have hq := HSi.out.1 (p, l) List.mem_cons_self
            have hsl := HSi.out.2.1
            have hil := HLT.out
            have hll := HP.out.2.1
            obtain ⟨go, co, e5, -, -, -, -⟩ := PSi.out.o.pos (by rw [opsS_len]; simp)
            obtain ⟨gl, cl, e6, -, -, -, -⟩ := PSi.out.l.pos (by rw [lfsS_len]; simp)
            rw [opsS_len] at e5
            rw [lfsS_len] at e6
            subst e5 e6
            simp only [List.length_cons] at hq hsl PSi HM ⊢
            have e7 : IntKind.i64.wrap (((S1.length + 1 : Nat) : Int) - 1) = (S1.length : Int) := (i64_w _).trans ((w64 (by omega) (by omega)).trans (by omega))
            have e7b : IntKind.i64.wrap ((S1.length : Int) + 1 - 1) = (S1.length : Int) := (i64_w _).trans ((w64 (by omega) (by omega)).trans (by omega))
            have e7c : IntKind.i64.wrap (S1.length : Int) = (S1.length : Int) := (i64_w _).trans (w64 (by omega) (by omega))
            have e9 : (S1.length : Int) < ((S1.length + 1 : Nat) : Int) := by omega
            have e9b : (S1.length : Int) < (S1.length : Int) + 1 := by omega
            obtain ⟨c1, -⟩ := PSi.out.l.at_ S1.length (by rw [lfsS_len]; simp) l (lfsS_top p l S1)
            by_cases hl0 : l = 0
            · subst hl0
              obtain ⟨k, rfl⟩ : ∃ k : Nat, p = (k : Int) := ⟨p.toNat, by omega⟩
              have e10 : (k : Int) < (t.length : Int) := by omega
              have q2 : wr.cell? ⟨gF, 2, none⟩ = some (.slice (some ⟨gE, 0, none⟩) t.length cE) := (blk_cell PSi.out.kf 2).trans rfl
              obtain ⟨c2, -⟩ := PSi.out.o.at_ S1.length (by rw [opsS_len]; simp) (k : Int) (opsS_top (k : Int) 0 S1)
              obtain ⟨i0, hi0, -, hsz, -⟩ := info_parts info3
              have hcO := cut_to (P := Try.prog) 90 3 .i64 Try.underlying90 hi0 (some ⟨go, 0, none⟩) (S1.length + 1) co (S1.length : Int) (by omega) (by omega) (Kd.R_reads' PSi.out.o).2.1
              have hcL := cut_to (P := Try.prog) 90 3 .i64 Try.underlying90 hi0 (some ⟨gl, 0, none⟩) (S1.length + 1) cl (S1.length : Int) (by omega) (by omega) (Kd.R_reads' PSi.out.l).2.1
              rw [Int.toNat_natCast] at hcO hcL
              have HK := Aside0.mk e10
              clear hq hi0 hsz
              go_upto_region 14 with fail
              go_still_tail 11, (by kernel_rfl)
              have PS3 := Aside0.mk (PSi.out.moved (below_drew (Below.refl _ _)))
              clear PSi q2 c1 c2
              change wpList _ _ _ _ _ wr.drew
              generalize wr.drew = wd at PS3 ⊢
              obtain ⟨ek, hek⟩ : ∃ z, en1[k]? = some z := ⟨_, List.getElem?_eq_getElem (show k < en1.length by have := HSi.out.2.2; omega)⟩
              obtain ⟨c2, c3⟩ := PS3.out.e.at_ k (show k < en1.length by have := HSi.out.2.2; omega) ek hek
              clear hek
              go_upto_region 15 with fail
              have PS5 := Aside0.mk (PS3.out.putE k ((i : Int) + 1))
              clear PS3 c2 c3
              generalize wd.setCell ⟨gE, k, none⟩ (.int .i64 ((i : Int) + 1)) = w5 at PS5 ⊢
              go_quiet (fail)
              have PS6 := Aside0.mk (PS5.out.moved (pw_below_drewN (Below.refl _ _) nq))
              clear PS5
              generalize w5.drewN nq = w6 at PS6 ⊢
              go_wp2_with fail
              go_roundw
              case measure => first | omega | (simp [slLen])
              case rel =>
                refine ⟨S1, en1.set k ((i : Int) + 1), ⟨?_⟩, ⟨?_⟩, ⟨⟨HSi.out.1.tail, by have := HSi.out.2.1; first | omega | (simp only [List.length_cons] at this; omega), by rw [List.length_set]; exact HSi.out.2.2⟩⟩, rfl⟩
                · have h := PS6.out.cut S1.length (by rw [opsS_len]; simp) (by rw [lfsS_len]; simp)
                  rw [opsS_take, lfsS_take] at h
                  exact h
                · have h := HPO.out
                  simp only [pops] at h
                  rw [if_pos trivial, Int.toNat_natCast] at h
                  exact h
            · have hl1 : (l == 0) = false := beq_eq_false_iff_ne.2 hl0
              have hl2 : decide (l = 0) = false := decide_eq_false hl0
              have HR3 : Aside0 (runP (t.drop (i + 1)) (i + 1) ((p, l) :: S1) po2 en1 = plantF t) := ⟨by
                have h := HR2.out
                rw [← HPO.out] at h
                simp only [pops] at h
                rw [if_neg hl0] at h
                exact h⟩
              have HQ := Aside0.mk hq
              have HL0 := Aside0.mk hl0
              clear hq hl0
              go_wp2_with fail
              go_roundw
              case measure => first | omega | (simp [intOf]; have := HLT.out; omega)
              case rel => exact ⟨i + 1, (p, l) :: S1, po2, en1, by congr 1, by have := HLT.out; omega, HR3, ⟨⟨HSi.out.1, (fun p2 l2 S2 e => by injection e with e1 e2; injection e1 with _ e1; have := HQ.out; have := HL0.out; (try simp only at *); omega), HSi.out.2.1⟩⟩, ⟨⟨HN2.out, HSi.out.2.2⟩⟩, ⟨PSi.out⟩⟩
    · have e1 : decide ((i : Int) < (t.length : Int)) = false := decide_eq_false (by omega)
      have e2 : decide (i < t.length) = false := decide_eq_false hlt
      obtain rfl : i = t.length := by omega
      rw [List.drop_length] at HR
      have hv : (plantF t).2.2.2 = S.isEmpty ∧ (plantF t).2.1 = po ∧ (plantF t).2.2.1 = en := by
        rw [← HR.out]
        exact ⟨rfl, rfl, rfl⟩
      have HV := Aside0.mk hv
      clear hi hlt hv HR
      obtain ⟨Ao, co, rfl, -, -⟩ := PSr.out.o.opens
      rw [opsS_len] at PSr ⊢
      have e5 : decide ((S.length : Int) = 0) = S.isEmpty := by cases S with
        | nil => rfl
        | cons q S => exact decide_eq_false (by simp; omega)
      have e6 : ((S.length : Int) == 0) = S.isEmpty := by cases S with
        | nil => rfl
        | cons q S => exact beq_eq_false_iff_ne.2 (by simp; omega)
      obtain ⟨bo, hbo⟩ : ∃ b, S.isEmpty = b := ⟨_, rfl⟩
      rw [hbo] at e5 e6 HV
      have f3 : wr.cell? ⟨gF, 3, none⟩ = some (.bool false) := (blk_cell PSr.out.kf 3).trans rfl
      have t3 := blk_frozen PSr.out.kf 3
      clear hbo
      go_upto_region 18 with fail
      have hne : gR ≠ gF := by
        intro e
        have h := PSr.out.kr
        rw [e, PSr.out.kf] at h
        simp at h
      have kf : (wr.setCell ⟨gF, 3, none⟩ (.bool bo)).heap[gF]? = some (foC A t.length c (.slice (some ⟨gP, 0, none⟩) t.length cP) (.slice (some ⟨gE, 0, none⟩) t.length cE) bo) := (blk_set PSr.out.kf 3 _).trans rfl
      have kr : (wr.setCell ⟨gF, 3, none⟩ (.bool bo)).heap[gR]? = some foZ := blk_far PSr.out.kr hne _
      have hp := PSr.out.p.set PSr.out.kf (by decide) 3 (.bool bo)
      have he := PSr.out.e.set PSr.out.kf (by decide) 3 (.bool bo)
      have hb : Below w.heap.size w (wr.setCell ⟨gF, 3, none⟩ (.bool bo)) := PSr.out.b.setCell GF.out (.bool bo)
      clear PSr f3 t3 hne
      generalize wr.setCell ⟨gF, 3, none⟩ (.bool bo) = wf at kf kr hp he hb ⊢
      have f0 : wf.cell? ⟨gF, 0, none⟩ = some (.slice A t.length c) := (blk_cell kf 0).trans rfl
      have f1 : wf.cell? ⟨gF, 1, none⟩ = some (.slice (some ⟨gP, 0, none⟩) t.length cP) := (blk_cell kf 1).trans rfl
      have f2 : wf.cell? ⟨gF, 2, none⟩ = some (.slice (some ⟨gE, 0, none⟩) t.length cE) := (blk_cell kf 2).trans rfl
      have f3 : wf.cell? ⟨gF, 3, none⟩ = some (.bool bo) := (blk_cell kf 3).trans rfl
      have r0 : wf.cell? ⟨gR, 0, none⟩ = some (.slice none 0 0) := (blk_cell kr 0).trans rfl
      have r1 : wf.cell? ⟨gR, 1, none⟩ = some (.slice none 0 0) := (blk_cell kr 1).trans rfl
      have r2 : wf.cell? ⟨gR, 2, none⟩ = some (.slice none 0 0) := (blk_cell kr 2).trans rfl
      have r3 : wf.cell? ⟨gR, 3, none⟩ = some (.bool false) := (blk_cell kr 3).trans rfl
      have s0 := blk_frozen kr 0
      have s1 := blk_frozen kr 1
      have s2 := blk_frozen kr 2
      have s3 := blk_frozen kr 3
      have HPp := Aside0.mk hp
      have HEe := Aside0.mk he
      have HBb := Aside0.mk hb
      have KR := Aside0.mk kr
      clear hp he hb kf kr
      go_wp2_with fail
      have k1 := (blk_set KR.out 0 (.slice A t.length c)).trans rfl
      have k2 := (blk_set k1 1 (.slice (some ⟨gP, 0, none⟩) t.length cP)).trans rfl
      have k3 := (blk_set k2 2 (.slice (some ⟨gE, 0, none⟩) t.length cE)).trans rfl
      refine bodyPost_ret (results_cell_row rfl _ _ gR 136 #[.slice A t.length c, .slice (some ⟨gP, 0, none⟩) t.length cP, .slice (some ⟨gE, 0, none⟩) t.length cE, .bool bo] (0, 0) _ rfl ((blk_set k3 3 _).trans rfl) Try.underlying136 rfl (by kernel_rfl)) rfl ?_
      rw [HV.out.1, HV.out.2.1, HV.out.2.2]
      exact ⟨_, _, _, _, rfl, (fun _ => ⟨rfl, rfl⟩), (((HPp.out.set KR.out (by decide) _ _).set k1 (by decide) _ _).set k2 (by decide) _ _).set k3 (by decide) _ _, (((HEe.out.set KR.out (by decide) _ _).set k1 (by decide) _ _).set k2 (by decide) _ _).set k3 (by decide) _ _, (((HBb.out.setCell GL.out _).setCell GL.out _).setCell GL.out _).setCell GL.out _⟩
end Go.Proofs.Ytknagjiipelfnaa.OL
