/- the reference's Decode: the walk. -/
import Derived.Test.YtjgccbpdpnpfjaaDoorStoreVerd
import Derived.Test.YtjgccbpdpnpfjaaDoorStoreDec
namespace Go.Proofs.YtjgccbpdpnpfjaaDoor.ST
open Go.RowKit Go.WideShapes Go.ChangeShapes Go.Proofs.YtjgccbpdpnpfjaaDoorW.PrintWords Go.Proofs.YtjgccbpdpnpfjaaDoorW.PrintLast Go.Proofs.YtjgccbpdpnpfjaaDoorW.PrintMore Go.Proofs.YtjgccbpdpnpfjaaDoor.PAll
set_option linter.unusedVariables false

def RDecPost (b d t : ByteArray) (w : World) (e : Ending) (w' : World) : Prop := ∃ v3 v4, e = .returned (.tuple #[.agg #[.int .i64 ((outOf b d t).c : Int), .int .i64 ((outOf b d t).at_ : Int), .int .u64 ((outOf b d t).wt : Int), v3, v4, .int .i64 ((outOf b d t).rt : Int)], .int .i64 ((verdict b d t).1 : Int), .int .i64 ((verdict b d t).2 : Int)]) ∧
  Below w.heap.size w w' ∧ Kd.R k39 39 w' w.heap.size T v3 (outOf b d t).ls ∧ Kd.R k41 41 w' w.heap.size T v4 (outOf b d t).ns
theorem rfin_err {b d t : ByteArray} {w W : World} {c p : Nat} {C P : Int} (hC : C = (c : Int)) (hP : P = (p : Int)) (hv : verdict b d t = (c, p)) (hc : c ≠ 0) (hB : Below w.heap.size w W) :
    RDecPost b d t w (.returned (.tuple #[.agg #[.int .i64 0, .int .i64 0, .int .u64 0, .slice none 0 0, .slice none 0 0, .int .i64 0], .int .i64 C, .int .i64 P])) W := by
  have ho : outOf b d t = rs0 := by unfold outOf; rw [hv, if_neg hc]
  subst hC hP
  unfold RDecPost
  rw [ho, hv]
  exact ⟨.slice none 0 0, .slice none 0 0, rfl, hB, Kd.R_nil _ _ _ _ _, Kd.R_nil _ _ _ _ _⟩

theorem results_cell_tmp2 {fn : Func} {p u v : Tmp} {ty : TypeId} (h : fn.results = #[.cell p ty, .tmp u, .tmp v]) (tmps : Array Value) (P : Program) (w : World) :
    (results fn tmps).run P w = ((asAddr (tmps.getD p undef)).run P w).andThen fun a w₁ => ((loadVar ty a).run P w₁).andThen fun x w₂ => .ok (.tuple #[x, tmps.getD u undef, tmps.getD v undef]) w₂ := by
  simp only [results, h]
  simp [Sem.run_bind, Result.andThen]
theorem nb_get {b : ByteArray} {i : Nat} (h : i < b.size) : nb b i = (b[i]'h).toNat := by
  unfold nb bt
  simp only [Int.toNat_natCast]
  rw [dif_pos h]
  simp
set_option maxRecDepth 100000 in
set_option maxHeartbeats 4000000 in
theorem RDecode_bad (b d t : ByteArray) (w : World) (hb : b.size ≤ 1048576) (h0 : ¬(1 ≤ b.size ∧ nb b 0 = 83)) : Calls Tryd.prog 10 #[.string b, .string d, .string t] w (RDecPost b d t w) := by
  by_cases h1 : b.size = 0
  · have d1 : decide ((b.size : Int) = 0) = true := decide_eq_true (by omega)
    have d2 : decide (b.size = 0) = true := decide_eq_true h1
    have d3 : ((b.size : Int) == 0) = true := beq_iff_eq.2 (by omega)
    have H1 := Aside0.mk h1
    clear h1
    go_enter Tryd.func10, Tryd.ntmps10
    go_wp2
    refine bodyPost_ret (v := .tuple #[.agg #[.int .i64 0, .int .i64 0, .int .u64 0, .slice none 0 0, .slice none 0 0, .int .i64 0], .int .i64 330, .int .i64 0]) (by rw [results_cell_tmp2 (p := 6) (u := 7) (v := 8) (ty := 28) rfl]; first | (go_simp; done) | (go_simp; rfl)) rfl ?_
    exact rfin_err (c := 330) (p := 0) rfl rfl (bad0 d t (fun h => by have := H1.out; omega)) (by decide) (below_alloc (Below.refl _ _) _)
  · have h2 : nb b 0 ≠ 83 := fun h => h0 ⟨by omega, h⟩
    have d1 : decide ((b.size : Int) = 0) = false := decide_eq_false (by omega)
    have d2 : decide (b.size = 0) = false := decide_eq_false h1
    have d3 : ((b.size : Int) == 0) = false := beq_eq_false_iff_ne.2 (by omega)
    have hpos : 0 < b.size := by omega
    have hg := nb_get hpos
    have d4 : (((b[0]'hpos).toNat : Int) != 83) = true := bne_iff_ne.2 (by omega)
    have d5 : (((b[0]'hpos).toNat : Int) == 83) = false := beq_eq_false_iff_ne.2 (by omega)
    have H0 := Aside0.mk h0
    clear h1 h0 h2 hg
    go_enter Tryd.func10, Tryd.ntmps10
    go_wp2
    refine bodyPost_ret (v := .tuple #[.agg #[.int .i64 0, .int .i64 0, .int .u64 0, .slice none 0 0, .slice none 0 0, .int .i64 0], .int .i64 330, .int .i64 0]) (by rw [results_cell_tmp2 (p := 6) (u := 7) (v := 8) (ty := 28) rfl]; first | (go_simp; done) | (go_simp; rfl)) rfl ?_
    exact rfin_err (c := 330) (p := 0) rfl rfl (bad0 d t H0.out) (by decide) (below_alloc (Below.refl _ _) _)
set_option maxRecDepth 100000 in
set_option maxHeartbeats 4000000 in
theorem RDecode_bad1 (b d t : ByteArray) (w : World) (hb : b.size ≤ 1048576) (h0 : 1 ≤ b.size ∧ nb b 0 = 83) (h1 : ¬(2 ≤ b.size ∧ nb b 1 = 1)) : Calls Tryd.prog 10 #[.string b, .string d, .string t] w (RDecPost b d t w) := by
  have H0 := Aside0.mk h0
  have H1 := Aside0.mk h1
  have d1 : decide ((b.size : Int) = 0) = false := decide_eq_false (by omega)
  have d2 : decide (b.size = 0) = false := decide_eq_false (by omega)
  have d3 : ((b.size : Int) == 0) = false := beq_eq_false_iff_ne.2 (by omega)
  have hpos : 0 < b.size := by omega
  have hg := nb_get hpos
  have d4 : (((b[0]'hpos).toNat : Int) != 83) = false := by rw [bne_eq_false_iff_eq]; omega
  have d5 : (((b[0]'hpos).toNat : Int) == 83) = true := beq_iff_eq.2 (by omega)
  by_cases hs : b.size = 1
  · have e1 : ((b.size : Int) = 1) := by omega
    have e2 : ((b.size : Int) == 1) = true := beq_iff_eq.2 e1
    clear h0 h1 hg
    go_enter Tryd.func10, Tryd.ntmps10
    go_wp2
    refine bodyPost_ret (v := .tuple #[.agg #[.int .i64 0, .int .i64 0, .int .u64 0, .slice none 0 0, .slice none 0 0, .int .i64 0], .int .i64 330, .int .i64 1]) (by rw [results_cell_tmp2 (p := 6) (u := 7) (v := 8) (ty := 28) rfl]; first | (go_simp; done) | (go_simp; rfl)) rfl ?_
    exact rfin_err (c := 330) (p := 1) rfl rfl (bad1 d t H0.out H1.out) (by decide) (below_alloc (Below.refl _ _) _)
  · have e1 : ¬((b.size : Int) = 1) := by omega
    have e2 : ((b.size : Int) == 1) = false := beq_eq_false_iff_ne.2 e1
    have hp1 : 1 < b.size := by omega
    have hp2 : (1 : Int) < (b.size : Int) := by omega
    have hg1 := nb_get hp1
    have e3 : (((b[1]'hp1).toNat : Int) != 1) = true := bne_iff_ne.2 (fun h => h1 ⟨by omega, by omega⟩)
    have e4 : (((b[1]'hp1).toNat : Int) == 1) = false := beq_eq_false_iff_ne.2 (fun h => h1 ⟨by omega, by omega⟩)
    clear h0 h1 hg hg1
    go_enter Tryd.func10, Tryd.ntmps10
    go_wp2
    refine bodyPost_ret (v := .tuple #[.agg #[.int .i64 0, .int .i64 0, .int .u64 0, .slice none 0 0, .slice none 0 0, .int .i64 0], .int .i64 330, .int .i64 1]) (by rw [results_cell_tmp2 (p := 6) (u := 7) (v := 8) (ty := 28) rfl]; first | (go_simp; done) | (go_simp; rfl)) rfl ?_
    exact rfin_err (c := 330) (p := 1) rfl rfl (bad1 d t H0.out H1.out) (by decide) (below_alloc (Below.refl _ _) _)
structure EW (w wr : World) (g g6 : Nat) (b : ByteArray) (a : Nat) (o : Bool) : Prop where
  i : IsS71 w wr g b (a : Int) o
  below : Below w.heap.size w wr
  k6 : wr.heap[g6]? = some Z28
  ne : g6 ≠ g
  lo6 : w.heap.size ≤ g6
theorem EW.next {w wr w1 : World} {g g6 : Nat} {b : ByteArray} {a a1 : Nat} {o o1 : Bool} (h : EW w wr g g6 b a o) (hi : IsS71 w w1 g b (a1 : Int) o1) (hb : Below w.heap.size w w1) (hk : KeepBut wr w1 g none) : EW w w1 g g6 b a1 o1 :=
  ⟨hi, hb, hk.blk h.k6 h.ne (by simp), h.ne, h.lo6⟩
theorem EW.moved {w wr w1 : World} {g g6 : Nat} {b : ByteArray} {a : Nat} {o : Bool} (h : EW w wr g g6 b a o) (hb : Below wr.heap.size wr w1) : EW w w1 g g6 b a o :=
  h.next ⟨(hb.block _ (blk_lt h.i.1)).trans h.i.1, h.i.2⟩ (h.below.trans (hb.mono h.below.size)) (KeepBut.of_below hb _ _)
set_option maxRecDepth 100000 in
set_option maxHeartbeats 30000000 in
theorem RDecode_good (b d t : ByteArray) (w : World) (hb : b.size ≤ 1048576) (hd1 : d.size ≤ 1048576) (ht1 : t.size ≤ 1048576) (h0 : 1 ≤ b.size ∧ nb b 0 = 83) (h1 : 2 ≤ b.size ∧ nb b 1 = 1) : Calls Tryd.prog 10 #[.string b, .string d, .string t] w (RDecPost b d t w) := by
  have H0 := Aside0.mk h0
  have H1 := Aside0.mk h1
  have HBS := Aside0.mk hb
  have HDS := Aside0.mk hd1
  have HTS := Aside0.mk ht1
  have d1 : decide ((b.size : Int) = 0) = false := decide_eq_false (by omega)
  have d2 : decide (b.size = 0) = false := decide_eq_false (by omega)
  have d3 : ((b.size : Int) == 0) = false := beq_eq_false_iff_ne.2 (by omega)
  have hpos : 0 < b.size := by omega
  have hg := nb_get hpos
  have d4 : (((b[0]'hpos).toNat : Int) != 83) = false := by rw [bne_eq_false_iff_eq]; omega
  have d5 : (((b[0]'hpos).toNat : Int) == 83) = true := beq_iff_eq.2 (by omega)
  have e1 : ¬((b.size : Int) = 1) := by omega
  have e2 : ((b.size : Int) == 1) = false := beq_eq_false_iff_ne.2 e1
  have hp1 : 1 < b.size := by omega
  have hp2 : (1 : Int) < (b.size : Int) := by omega
  have hg1 := nb_get hp1
  have e3 : (((b[1]'hp1).toNat : Int) != 1) = false := by rw [bne_eq_false_iff_eq]; omega
  have e4 : (((b[1]'hp1).toNat : Int) == 1) = true := beq_iff_eq.2 (by omega)
  clear h0 h1 hg hg1 hb hd1 ht1
  go_enter Tryd.func10, Tryd.ntmps10
  go_wp2_with (first | ((with_reducible refine gate_dst (N := 6) rfl ?_); refine box_event ?hg (N := 6) ?hd (cs := #[.int .i64 0, .int .i64 0, .int .u64 0, .slice none 0 0, .slice none 0 0, .int .i64 0]) (t := 28) ?hr ?_; (case hd => rfl); (case hg => rfl); (case hr => first | (go_simp; done) | (go_simp; rfl)); intro g6 hg w6 hbox hb; have K6 := Aside0.mk hbox; have G6 := Aside0.mk hg; have B6 := Aside0.mk hb; clear hbox hg hb) | ((with_reducible refine gate_dst (N := 35) rfl ?_); refine box_event ?hg (N := 35) ?hd (cs := #[.string b, .int .i64 2, .bool true]) (t := 71) ?hr ?_; (case hd => rfl); (case hg => rfl); (case hr => first | (go_simp; done) | (go_simp; rfl)); intro g hg w1 hbox hb; have K35 := Aside0.mk hbox; have G35 := Aside0.mk hg; have B35 := Aside0.mk hb; clear hbox hg hb))
  clear d1 d2 d3 d4 d5 e1 e2 e3 e4
  have HE0 : Aside0 (EW w w1 g g6 b 2 true) := ⟨⟨⟨K35.out, by have := B6.out.size; have := G35.out; omega⟩, B6.out.trans (B35.out.mono B6.out.size), (B35.out.block _ (blk_lt K6.out)).trans K6.out, by have := blk_lt K6.out; have := G35.out; omega, by have := G6.out; omega⟩⟩
  have HA0 : Aside0 (2 ≤ b.size) := ⟨H1.out.1⟩
  clear K35 G35 B35 K6 G6 B6
  have hf : trellisref33_Reader_word.f 40 b ((2 : Nat) : Int) true = _ := ref_word b 2 true 40 HBS.out HA0.out (by omega)
  obtain ⟨⟨x1, a1, o1⟩, hs⟩ : ∃ s, s = rdW b 2 true := ⟨_, rfl⟩
  have hg := (good_W b 2 true HA0.out).2.1
  rw [← hs] at hf hg
  dsimp only at hf hg
  have HS1 := Aside0.mk hs
  have HA1 := Aside0.mk hg
  clear hs hg
  refine (trellisref33_Reader_word.calls 40 g b 2 true _ _ _ _ w _ HE0.out.i HE0.out.below hf).mono ?_
  clear hf
  rintro e w2 ⟨rfl, hi, hbl, hk⟩
  have HE1 := Aside0.mk (HE0.out.next hi hbl hk)
  clear hi hbl hk HE0
  go_wp2_with fail
  have hf : trellisref33_Reader_word.f 40 b ((a1 : Nat) : Int) o1 = _ := ref_word b a1 o1 40 HBS.out HA1.out (by omega)
  obtain ⟨⟨x2, a2, o2⟩, hs⟩ : ∃ s, s = rdW b a1 o1 := ⟨_, rfl⟩
  have hg := (good_W b a1 o1 HA1.out).2.1
  rw [← hs] at hf hg
  dsimp only at hf hg
  have HS2 := Aside0.mk hs
  have HA2 := Aside0.mk hg
  clear hs hg
  refine (trellisref33_Reader_word.calls 40 g b a1 o1 _ _ _ _ w _ HE1.out.i HE1.out.below hf).mono ?_
  clear hf
  rintro e w3 ⟨rfl, hi, hbl, hk⟩
  have HE2 := Aside0.mk (HE1.out.next hi hbl hk)
  clear hi hbl hk HE1
  go_wp2_with fail
  have hf : trellisref33_Reader_result.f (4 * b.size + 300) b ((a2 : Nat) : Int) o2 = _ := ref_result b a2 o2 (4 * b.size + 300) HBS.out HA2.out (Nat.le_refl _)
  obtain ⟨⟨x3, a3, o3⟩, hs⟩ : ∃ s, s = rdRes b a2 o2 := ⟨_, rfl⟩
  have hg := (good_res b a2 o2 HA2.out).2.1
  rw [← hs] at hf hg
  dsimp only at hf hg
  have HS3 := Aside0.mk hs
  have HA3 := Aside0.mk hg
  clear hs hg
  refine (trellisref33_Reader_result.calls (4 * b.size + 300) g b a2 o2 _ _ _ _ _ _ _ _ _ w _ HE2.out.i HE2.out.below hf).mono ?_
  clear hf
  rintro e w4 ⟨vl, vn, rfl, hRL, hRN, hi, hbl, hk⟩
  obtain ⟨AL, cL, rfl⟩ := Kd.R_slice hRL
  obtain ⟨AN, cN, rfl⟩ := Kd.R_slice hRN
  have HE3 := Aside0.mk (HE2.out.next hi hbl hk)
  have HL := Aside0.mk hRL
  have HN := Aside0.mk hRN
  have HG : Aside0 (g < w3.heap.size ∧ g6 < w3.heap.size ∧ w.heap.size ≤ w3.heap.size) := ⟨⟨blk_lt HE2.out.i.1, blk_lt HE2.out.k6, HE2.out.below.size⟩⟩
  clear hi hbl hk hRL hRN HE2
  have z1 : w4.cell? ⟨g, 1, none⟩ = some (.int .i64 (a3 : Int)) := (blk_cell HE3.out.i.1 1).trans rfl
  have lg := blk_lt HE3.out.i.1
  have z1' : (w4.alloc (.cells #[.int .i64 (x3.c : Int), .int .i64 (x3.at_ : Int), .int .u64 (x3.wt : Int), .slice AL x3.ls.length cL, .slice AN x3.ns.length cN, .int .i64 (x3.rt : Int)] 28 (0, 0))).cell? ⟨g, 1, none⟩ = some (.int .i64 (a3 : Int)) := by
    rw [World.cell?_alloc_lt _ _ ⟨g, 1, none⟩ lg]
    exact z1
  go_wp2_with fail
  clear z1 lg z1'
  have HE4 := Aside0.mk (HE3.out.moved (below_alloc (Below.refl w4.heap.size w4) (.cells #[.int .i64 (x3.c : Int), .int .i64 (x3.at_ : Int), .int .u64 (x3.wt : Int), .slice AL x3.ls.length cL, .slice AN x3.ns.length cN, .int .i64 (x3.rt : Int)] 28 (0, 0))))
  have HLa := Aside0.mk (Kd.R_alloc HL.out (.cells #[.int .i64 (x3.c : Int), .int .i64 (x3.at_ : Int), .int .u64 (x3.wt : Int), .slice AL x3.ls.length cL, .slice AN x3.ns.length cN, .int .i64 (x3.rt : Int)] 28 (0, 0)))
  have HNa := Aside0.mk (Kd.R_alloc HN.out (.cells #[.int .i64 (x3.c : Int), .int .i64 (x3.at_ : Int), .int .u64 (x3.wt : Int), .slice AL x3.ls.length cL, .slice AN x3.ns.length cN, .int .i64 (x3.rt : Int)] 28 (0, 0)))
  have HK := Aside0.mk (heap_alloc_new w4 (.cells #[.int .i64 (x3.c : Int), .int .i64 (x3.at_ : Int), .int .u64 (x3.wt : Int), .slice AL x3.ls.length cL, .slice AN x3.ns.length cN, .int .i64 (x3.rt : Int)] 28 (0, 0)))
  have HKN : Aside0 (w4.heap.size ≠ g ∧ w4.heap.size ≠ g6) := ⟨⟨by have := blk_lt HE3.out.i.1; omega, by have := blk_lt HE3.out.k6; omega⟩⟩
  generalize w4.alloc (.cells #[.int .i64 (x3.c : Int), .int .i64 (x3.at_ : Int), .int .u64 (x3.wt : Int), .slice AL x3.ls.length cL, .slice AN x3.ns.length cN, .int .i64 (x3.rt : Int)] 28 (0, 0)) = w5 at HE4 HLa HNa HK ⊢
  generalize w4.heap.size = g12 at HK HKN ⊢
  clear HL HN HE3
  have hf : trellisref33_Reader_word.f 40 b ((a3 : Nat) : Int) o3 = _ := ref_word b a3 o3 40 HBS.out HA3.out (by omega)
  obtain ⟨⟨sv, a4, o4⟩, hs⟩ : ∃ s, s = rdW b a3 o3 := ⟨_, rfl⟩
  have hg := (good_W b a3 o3 HA3.out).2.1
  rw [← hs] at hf hg
  dsimp only at hf hg
  have HHD : Aside0 (hd b = ⟨x1, x2, x3, a3, sv, a4, o4⟩) := ⟨by
    have hh : rdHd b 0 true = ((x1, x2, x3), a3, o3) := by
      rw [well1 H0.out H1.out]
      unfold bindS
      rw [← HS1.out]; dsimp only; rw [← HS2.out]; dsimp only; rw [← HS3.out]
    unfold hd
    rw [hh]
    dsimp only
    rw [← hs]⟩
  have HA4 := Aside0.mk hg
  clear hs hg HS1 HS2 HS3
  refine (trellisref33_Reader_word.calls 40 g b a3 o3 _ _ _ _ w _ HE4.out.i HE4.out.below hf).mono ?_
  clear hf
  rintro e w6 ⟨rfl, hi, hbl, hk⟩
  have HE5 := Aside0.mk (HE4.out.next hi hbl hk)
  have HL_w6 := Aside0.mk (R_keepN HLa.out hk HG.out.1)
  have HN_w6 := Aside0.mk (R_keepN HNa.out hk HG.out.1)
  have K_w6 := Aside0.mk (hk.blk HK.out HKN.out.1 (by simp))
  clear hi hbl hk HE4 HLa HNa HK
  have z2 : w6.cell? ⟨g, 2, none⟩ = some (.bool o4) := (blk_cell HE5.out.i.1 2).trans rfl
  cases o4 with
  | true =>
    have hA3 := HA3.out
    have d1 : decide ((a3 : Int) ≤ (b.size : Int)) = true := decide_eq_true (by omega)
    have d2 : decide (a3 ≤ b.size) = true := decide_eq_true (by omega)
    go_wp2_with fail
    clear z2 d1 d2
    refine (trellisref33_Sum.calls ((b.extract 0 a3).size + 1) (b.extract 0 a3) _ w6 (rSum_f _ (by rw [ByteArray.size_extract]; have := HBS.out; omega))).mono ?_
    rintro e w7 ⟨rfl, hD⟩
    have HE6 := Aside0.mk (HE5.out.moved hD.below)
    have HL_w7 := Aside0.mk (Kd.R_below HL_w6.out hD.below)
    have HN_w7 := Aside0.mk (Kd.R_below HN_w6.out hD.below)
    have K_w7 := Aside0.mk ((hD.below.block _ (blk_lt K_w6.out)).trans K_w6.out)
    clear hD HL_w6 HN_w6 K_w6 HE5
    by_cases hsum : sv = sumS (b.extract 0 a3)
    · have HSUM := Aside0.mk hsum
      have c1 : decide ((sv : Int) = ((sumS (b.extract 0 a3) : Nat) : Int)) = true := decide_eq_true (by rw [hsum])
      have c2 : (((sv : Nat) : Int) == ((sumS (b.extract 0 a3) : Nat) : Int)) = true := beq_iff_eq.2 (by rw [hsum])
      have c3 : decide (sv = sumS (b.extract 0 a3)) = true := decide_eq_true hsum
      clear hsum
      have z1 : w7.cell? ⟨g, 1, none⟩ = some (.int .i64 (a4 : Int)) := (blk_cell HE6.out.i.1 1).trans rfl
      by_cases hlt : a4 < b.size
      · have d3 : decide ((a4 : Int) < (b.size : Int)) = true := decide_eq_true (by omega)
        have d4 : decide (a4 < b.size) = true := decide_eq_true hlt
        have n1 := HE6.out.ne
        have n2 : g ≠ g6 := Ne.symm HE6.out.ne
        have k6 := HE6.out.k6
        have y0 : w7.cell? ⟨g6, 0, none⟩ = some (.int .i64 0) := (blk_cell k6 0).trans rfl
        have f0 := blk_frozen k6 0
        have y1 : w7.cell? ⟨g6, 1, none⟩ = some (.int .i64 0) := (blk_cell k6 1).trans rfl
        have f1 := blk_frozen k6 1
        have y2 : w7.cell? ⟨g6, 2, none⟩ = some (.int .u64 0) := (blk_cell k6 2).trans rfl
        have f2 := blk_frozen k6 2
        have y3 : w7.cell? ⟨g6, 3, none⟩ = some (.slice none 0 0) := (blk_cell k6 3).trans rfl
        have f3 := blk_frozen k6 3
        have y4 : w7.cell? ⟨g6, 4, none⟩ = some (.slice none 0 0) := (blk_cell k6 4).trans rfl
        have f4 := blk_frozen k6 4
        have y5 : w7.cell? ⟨g6, 5, none⟩ = some (.int .i64 0) := (blk_cell k6 5).trans rfl
        have f5 := blk_frozen k6 5
        have lg := blk_lt HE6.out.i.1
        have lg6 := blk_lt k6
        clear k6
        have z9 : w7.cell? ⟨g, 1, none⟩ = some (.int .i64 (a4 : Int)) := (blk_cell HE6.out.i.1 1).trans rfl
        go_wp2_with fail
        go_region
        go_wp2_with fail
        refine bodyPost_ret (v := .tuple #[.agg #[.int .i64 0, .int .i64 0, .int .u64 0, .slice none 0 0, .slice none 0 0, .int .i64 0], .int .i64 330, .int .i64 (a4 : Int)]) (by rw [results_cell_tmp2 (p := 6) (u := 7) (v := 8) (ty := 28) rfl]; first | (go_simp; done) | (go_simp; rfl)) rfl ?_
        refine rfin_err (c := 330) (p := a4) rfl rfl ?_ (by decide) (by repeat (first | (with_reducible exact HE6.out.below) | (with_reducible apply below_drew1) | (with_reducible refine below_set ?_ HE6.out.lo6)))
        unfold verdict
        rw [HHD.out]
        dsimp only
        rw [if_neg (fun h => h.2 HSUM.out), if_pos (.inr hlt)]
      · have d3 : decide ((a4 : Int) < (b.size : Int)) = false := decide_eq_false (by omega)
        have d4 : decide (a4 < b.size) = false := decide_eq_false hlt
        have HLT := Aside0.mk hlt
        go_wp2_with fail
        clear d3 d4 c1 c2 c3 z1 hlt
        refine (trellisref33_Sum.calls ((d).size + 1) (d) _ w7 (rSum_f _ (by have := HDS.out; omega))).mono ?_
        rintro e w8 ⟨rfl, hD⟩
        have HE7 := Aside0.mk (HE6.out.moved hD.below)
        have HL_w8 := Aside0.mk (Kd.R_below HL_w7.out hD.below)
        have HN_w8 := Aside0.mk (Kd.R_below HN_w7.out hD.below)
        have K_w8 := Aside0.mk ((hD.below.block _ (blk_lt K_w7.out)).trans K_w7.out)
        clear hD HL_w7 HN_w7 K_w7 HE6
        by_cases hsd : x1 = sumS d
        · have HSD := Aside0.mk hsd
          have c1 : decide ((x1 : Int) = ((sumS d : Nat) : Int)) = true := decide_eq_true (by rw [hsd])
          have c2 : (((x1 : Nat) : Int) == ((sumS d : Nat) : Int)) = true := beq_iff_eq.2 (by rw [hsd])
          have c3 : decide (x1 = sumS d) = true := decide_eq_true hsd
          clear hsd
          go_wp2_with fail
          clear c1 c2 c3
          refine (trellisref33_Sum.calls ((t).size + 1) (t) _ w8 (rSum_f _ (by have := HTS.out; omega))).mono ?_
          rintro e w9 ⟨rfl, hD⟩
          have HE8 := Aside0.mk (HE7.out.moved hD.below)
          have HL_w9 := Aside0.mk (Kd.R_below HL_w8.out hD.below)
          have HN_w9 := Aside0.mk (Kd.R_below HN_w8.out hD.below)
          have K_w9 := Aside0.mk ((hD.below.block _ (blk_lt K_w8.out)).trans K_w8.out)
          clear hD HL_w8 HN_w8 K_w8 HE7
          by_cases hst : x2 = sumS t
          · have HST := Aside0.mk hst
            have c1 : decide ((x2 : Int) = ((sumS t : Nat) : Int)) = true := decide_eq_true (by rw [hst])
            have c2 : (((x2 : Nat) : Int) == ((sumS t : Nat) : Int)) = true := beq_iff_eq.2 (by rw [hst])
            have c3 : decide (x2 = sumS t) = true := decide_eq_true hst
            clear hst
            have k12 := K_w9.out
            have u0 : w9.cell? ⟨g12, 0, none⟩ = some (.int .i64 (x3.c : Int)) := (blk_cell k12 0).trans rfl
            have u1 : w9.cell? ⟨g12, 1, none⟩ = some (.int .i64 (x3.at_ : Int)) := (blk_cell k12 1).trans rfl
            have u2 : w9.cell? ⟨g12, 2, none⟩ = some (.int .u64 (x3.wt : Int)) := (blk_cell k12 2).trans rfl
            have u3 : w9.cell? ⟨g12, 3, none⟩ = some (.slice AL x3.ls.length cL) := (blk_cell k12 3).trans rfl
            have u4 : w9.cell? ⟨g12, 4, none⟩ = some (.slice AN x3.ns.length cN) := (blk_cell k12 4).trans rfl
            have u5 : w9.cell? ⟨g12, 5, none⟩ = some (.int .i64 (x3.rt : Int)) := (blk_cell k12 5).trans rfl
            clear k12
            have n1 := HE8.out.ne
            have n2 : g ≠ g6 := Ne.symm HE8.out.ne
            have k6 := HE8.out.k6
            have y0 : w9.cell? ⟨g6, 0, none⟩ = some (.int .i64 0) := (blk_cell k6 0).trans rfl
            have f0 := blk_frozen k6 0
            have y1 : w9.cell? ⟨g6, 1, none⟩ = some (.int .i64 0) := (blk_cell k6 1).trans rfl
            have f1 := blk_frozen k6 1
            have y2 : w9.cell? ⟨g6, 2, none⟩ = some (.int .u64 0) := (blk_cell k6 2).trans rfl
            have f2 := blk_frozen k6 2
            have y3 : w9.cell? ⟨g6, 3, none⟩ = some (.slice none 0 0) := (blk_cell k6 3).trans rfl
            have f3 := blk_frozen k6 3
            have y4 : w9.cell? ⟨g6, 4, none⟩ = some (.slice none 0 0) := (blk_cell k6 4).trans rfl
            have f4 := blk_frozen k6 4
            have y5 : w9.cell? ⟨g6, 5, none⟩ = some (.int .i64 0) := (blk_cell k6 5).trans rfl
            have f5 := blk_frozen k6 5
            have lg := blk_lt HE8.out.i.1
            have lg6 := blk_lt k6
            clear k6
            go_wp2_with fail
            refine bodyPost_ret (v := .tuple #[.agg #[.int .i64 (x3.c : Int), .int .i64 (x3.at_ : Int), .int .u64 (x3.wt : Int), .slice AL x3.ls.length cL, .slice AN x3.ns.length cN, .int .i64 (x3.rt : Int)], .int .i64 0, .int .i64 0]) (by rw [results_cell_tmp2 (p := 6) (u := 7) (v := 8) (ty := 28) rfl]; first | (go_simp; done) | (go_simp; rfl)) rfl ?_
            have hv : verdict b d t = (0, 0) := by
              unfold verdict
              rw [HHD.out]
              dsimp only
              rw [if_neg (fun h => h.2 HSUM.out), if_neg (fun h => h.elim (fun h => by cases h) (fun h => HLT.out h)), if_neg (fun h => h HSD.out), if_neg (fun h => h HST.out)]
            have ho : outOf b d t = x3 := by
              unfold outOf
              rw [hv, if_pos rfl, HHD.out]
            unfold RDecPost
            rw [hv, ho]
            exact ⟨.slice AL x3.ls.length cL, .slice AN x3.ns.length cN, rfl, by repeat (first | (with_reducible exact HE8.out.below) | (with_reducible refine below_set ?_ HE8.out.lo6)),
              Kd.R_lower (R_farN (R_farN (R_farN (R_farN (R_farN (R_farN HL_w9.out (q := ⟨g6, 0, none⟩) HG.out.2.1 _) (q := ⟨g6, 1, none⟩) HG.out.2.1 _) (q := ⟨g6, 2, none⟩) HG.out.2.1 _) (q := ⟨g6, 3, none⟩) HG.out.2.1 _) (q := ⟨g6, 4, none⟩) HG.out.2.1 _) (q := ⟨g6, 5, none⟩) HG.out.2.1 _) HG.out.2.2, Kd.R_lower (R_farN (R_farN (R_farN (R_farN (R_farN (R_farN HN_w9.out (q := ⟨g6, 0, none⟩) HG.out.2.1 _) (q := ⟨g6, 1, none⟩) HG.out.2.1 _) (q := ⟨g6, 2, none⟩) HG.out.2.1 _) (q := ⟨g6, 3, none⟩) HG.out.2.1 _) (q := ⟨g6, 4, none⟩) HG.out.2.1 _) (q := ⟨g6, 5, none⟩) HG.out.2.1 _) HG.out.2.2⟩
          · have HST := Aside0.mk hst
            have c1 : decide ((x2 : Int) = ((sumS t : Nat) : Int)) = false := decide_eq_false (by omega)
            have c2 : (((x2 : Nat) : Int) == ((sumS t : Nat) : Int)) = false := beq_eq_false_iff_ne.2 (by omega)
            have c3 : decide (x2 = sumS t) = false := decide_eq_false hst
            clear hst
            have n1 := HE8.out.ne
            have n2 : g ≠ g6 := Ne.symm HE8.out.ne
            have k6 := HE8.out.k6
            have y0 : w9.cell? ⟨g6, 0, none⟩ = some (.int .i64 0) := (blk_cell k6 0).trans rfl
            have f0 := blk_frozen k6 0
            have y1 : w9.cell? ⟨g6, 1, none⟩ = some (.int .i64 0) := (blk_cell k6 1).trans rfl
            have f1 := blk_frozen k6 1
            have y2 : w9.cell? ⟨g6, 2, none⟩ = some (.int .u64 0) := (blk_cell k6 2).trans rfl
            have f2 := blk_frozen k6 2
            have y3 : w9.cell? ⟨g6, 3, none⟩ = some (.slice none 0 0) := (blk_cell k6 3).trans rfl
            have f3 := blk_frozen k6 3
            have y4 : w9.cell? ⟨g6, 4, none⟩ = some (.slice none 0 0) := (blk_cell k6 4).trans rfl
            have f4 := blk_frozen k6 4
            have y5 : w9.cell? ⟨g6, 5, none⟩ = some (.int .i64 0) := (blk_cell k6 5).trans rfl
            have f5 := blk_frozen k6 5
            have lg := blk_lt HE8.out.i.1
            have lg6 := blk_lt k6
            clear k6
            go_wp2_with fail
            refine bodyPost_ret (v := .tuple #[.agg #[.int .i64 0, .int .i64 0, .int .u64 0, .slice none 0 0, .slice none 0 0, .int .i64 0], .int .i64 331, .int .i64 1]) (by rw [results_cell_tmp2 (p := 6) (u := 7) (v := 8) (ty := 28) rfl]; first | (go_simp; done) | (go_simp; rfl)) rfl ?_
            refine rfin_err (c := 331) (p := 1) rfl rfl ?_ (by decide) (by repeat (first | (with_reducible exact HE8.out.below) | (with_reducible apply below_drew1) | (with_reducible refine below_set ?_ HE8.out.lo6)))
            unfold verdict
            rw [HHD.out]
            dsimp only
            rw [if_neg (fun h => h.2 HSUM.out), if_neg (fun h => h.elim (fun h => by cases h) (fun h => HLT.out h)), if_neg (fun h => h HSD.out), if_pos HST.out]
        · have HSD := Aside0.mk hsd
          have c1 : decide ((x1 : Int) = ((sumS d : Nat) : Int)) = false := decide_eq_false (by omega)
          have c2 : (((x1 : Nat) : Int) == ((sumS d : Nat) : Int)) = false := beq_eq_false_iff_ne.2 (by omega)
          have c3 : decide (x1 = sumS d) = false := decide_eq_false hsd
          clear hsd
          have n1 := HE7.out.ne
          have n2 : g ≠ g6 := Ne.symm HE7.out.ne
          have k6 := HE7.out.k6
          have y0 : w8.cell? ⟨g6, 0, none⟩ = some (.int .i64 0) := (blk_cell k6 0).trans rfl
          have f0 := blk_frozen k6 0
          have y1 : w8.cell? ⟨g6, 1, none⟩ = some (.int .i64 0) := (blk_cell k6 1).trans rfl
          have f1 := blk_frozen k6 1
          have y2 : w8.cell? ⟨g6, 2, none⟩ = some (.int .u64 0) := (blk_cell k6 2).trans rfl
          have f2 := blk_frozen k6 2
          have y3 : w8.cell? ⟨g6, 3, none⟩ = some (.slice none 0 0) := (blk_cell k6 3).trans rfl
          have f3 := blk_frozen k6 3
          have y4 : w8.cell? ⟨g6, 4, none⟩ = some (.slice none 0 0) := (blk_cell k6 4).trans rfl
          have f4 := blk_frozen k6 4
          have y5 : w8.cell? ⟨g6, 5, none⟩ = some (.int .i64 0) := (blk_cell k6 5).trans rfl
          have f5 := blk_frozen k6 5
          have lg := blk_lt HE7.out.i.1
          have lg6 := blk_lt k6
          clear k6
          go_wp2_with fail
          refine bodyPost_ret (v := .tuple #[.agg #[.int .i64 0, .int .i64 0, .int .u64 0, .slice none 0 0, .slice none 0 0, .int .i64 0], .int .i64 331, .int .i64 0]) (by rw [results_cell_tmp2 (p := 6) (u := 7) (v := 8) (ty := 28) rfl]; first | (go_simp; done) | (go_simp; rfl)) rfl ?_
          refine rfin_err (c := 331) (p := 0) rfl rfl ?_ (by decide) (by repeat (first | (with_reducible exact HE7.out.below) | (with_reducible apply below_drew1) | (with_reducible refine below_set ?_ HE7.out.lo6)))
          unfold verdict
          rw [HHD.out]
          dsimp only
          rw [if_neg (fun h => h.2 HSUM.out), if_neg (fun h => h.elim (fun h => by cases h) (fun h => HLT.out h)), if_pos HSD.out]
    · have HSUM := Aside0.mk hsum
      have c1 : decide ((sv : Int) = ((sumS (b.extract 0 a3) : Nat) : Int)) = false := decide_eq_false (by omega)
      have c2 : (((sv : Nat) : Int) == ((sumS (b.extract 0 a3) : Nat) : Int)) = false := beq_eq_false_iff_ne.2 (by omega)
      have c3 : decide (sv = sumS (b.extract 0 a3)) = false := decide_eq_false hsum
      clear hsum
      have n1 := HE6.out.ne
      have n2 : g ≠ g6 := Ne.symm HE6.out.ne
      have k6 := HE6.out.k6
      have y0 : w7.cell? ⟨g6, 0, none⟩ = some (.int .i64 0) := (blk_cell k6 0).trans rfl
      have f0 := blk_frozen k6 0
      have y1 : w7.cell? ⟨g6, 1, none⟩ = some (.int .i64 0) := (blk_cell k6 1).trans rfl
      have f1 := blk_frozen k6 1
      have y2 : w7.cell? ⟨g6, 2, none⟩ = some (.int .u64 0) := (blk_cell k6 2).trans rfl
      have f2 := blk_frozen k6 2
      have y3 : w7.cell? ⟨g6, 3, none⟩ = some (.slice none 0 0) := (blk_cell k6 3).trans rfl
      have f3 := blk_frozen k6 3
      have y4 : w7.cell? ⟨g6, 4, none⟩ = some (.slice none 0 0) := (blk_cell k6 4).trans rfl
      have f4 := blk_frozen k6 4
      have y5 : w7.cell? ⟨g6, 5, none⟩ = some (.int .i64 0) := (blk_cell k6 5).trans rfl
      have f5 := blk_frozen k6 5
      have lg := blk_lt HE6.out.i.1
      have lg6 := blk_lt k6
      clear k6
      have z9 : w7.cell? ⟨g, 1, none⟩ = some (.int .i64 (a4 : Int)) := (blk_cell HE6.out.i.1 1).trans rfl
      go_wp2_with fail
      refine bodyPost_ret (v := .tuple #[.agg #[.int .i64 0, .int .i64 0, .int .u64 0, .slice none 0 0, .slice none 0 0, .int .i64 0], .int .i64 330, .int .i64 (a3 : Int)]) (by rw [results_cell_tmp2 (p := 6) (u := 7) (v := 8) (ty := 28) rfl]; first | (go_simp; done) | (go_simp; rfl)) rfl ?_
      refine rfin_err (c := 330) (p := a3) rfl rfl ?_ (by decide) (by repeat (first | (with_reducible exact HE6.out.below) | (with_reducible apply below_drew1) | (with_reducible refine below_set ?_ HE6.out.lo6)))
      unfold verdict
      rw [HHD.out]
      dsimp only
      rw [if_pos ⟨rfl, HSUM.out⟩]
  | false =>
    have n1 := HE5.out.ne
    have n2 : g ≠ g6 := Ne.symm HE5.out.ne
    have k6 := HE5.out.k6
    have y0 : w6.cell? ⟨g6, 0, none⟩ = some (.int .i64 0) := (blk_cell k6 0).trans rfl
    have f0 := blk_frozen k6 0
    have y1 : w6.cell? ⟨g6, 1, none⟩ = some (.int .i64 0) := (blk_cell k6 1).trans rfl
    have f1 := blk_frozen k6 1
    have y2 : w6.cell? ⟨g6, 2, none⟩ = some (.int .u64 0) := (blk_cell k6 2).trans rfl
    have f2 := blk_frozen k6 2
    have y3 : w6.cell? ⟨g6, 3, none⟩ = some (.slice none 0 0) := (blk_cell k6 3).trans rfl
    have f3 := blk_frozen k6 3
    have y4 : w6.cell? ⟨g6, 4, none⟩ = some (.slice none 0 0) := (blk_cell k6 4).trans rfl
    have f4 := blk_frozen k6 4
    have y5 : w6.cell? ⟨g6, 5, none⟩ = some (.int .i64 0) := (blk_cell k6 5).trans rfl
    have f5 := blk_frozen k6 5
    have lg := blk_lt HE5.out.i.1
    have lg6 := blk_lt k6
    clear k6
    have z9 : w6.cell? ⟨g, 1, none⟩ = some (.int .i64 (a4 : Int)) := (blk_cell HE5.out.i.1 1).trans rfl
    go_wp2_with fail
    go_region
    go_wp2_with fail
    refine bodyPost_ret (v := .tuple #[.agg #[.int .i64 0, .int .i64 0, .int .u64 0, .slice none 0 0, .slice none 0 0, .int .i64 0], .int .i64 330, .int .i64 (a4 : Int)]) (by rw [results_cell_tmp2 (p := 6) (u := 7) (v := 8) (ty := 28) rfl]; first | (go_simp; done) | (go_simp; rfl)) rfl ?_
    refine rfin_err (c := 330) (p := a4) rfl rfl ?_ (by decide) (by repeat (first | (with_reducible exact HE5.out.below) | (with_reducible apply below_drew1) | (with_reducible refine below_set ?_ HE5.out.lo6)))
    unfold verdict
    rw [HHD.out]
    dsimp only
    rw [if_neg (fun h => by cases h.1), if_pos (.inl rfl)]
theorem RDecode_calls (b d t : ByteArray) (w : World) (hb : b.size ≤ 1048576) (hd1 : d.size ≤ 1048576) (ht1 : t.size ≤ 1048576) : Calls Tryd.prog 10 #[.string b, .string d, .string t] w (RDecPost b d t w) := by
  by_cases h0 : 1 ≤ b.size ∧ nb b 0 = 83
  · by_cases h1 : 2 ≤ b.size ∧ nb b 1 = 1
    · exact RDecode_good b d t w hb hd1 ht1 h0 h1
    · exact RDecode_bad1 b d t w hb h0 h1
  · exact RDecode_bad b d t w hb h0
end Go.Proofs.YtjgccbpdpnpfjaaDoor.ST
