/- tree: Roots, Kids, Size of a list of nodes. -/
import Derived.Test.YtknagjiipelfnaaPlant
import Derived.Test.YtknagjiipelfnaaPAllx5
namespace Go.Proofs.Ytknagjiipelfnaa.OL
open Go.RowKit Go.WideShapes Go.ChangeShapes Go.Proofs.YtknagjiipelfnaaW.PrintWords Go.Proofs.YtknagjiipelfnaaW.PrintLast Go.Proofs.YtknagjiipelfnaaW.PrintMore Go.Proofs.Ytknagjiipelfnaa.PAll
set_option linter.unusedVariables false

def kidsF (F : List S143) (i : Nat) : List Int := match (ndL F)[i]? with | some y => y.f1.map (·.f2) | none => []
def rootsF (t : List S50) : Int := match gr t 0 with | none => -1 | some F => (F.length : Int)
theorem beside_fo {ts : List S50} {a : Nat} {K : List S143} (h : Fo ts a K) : ∀ (acc : List Int) (nodes : List S50) (po en : List Int) (ok : Bool) (b : Nat), b = a + ts.length → b ≤ en.length → (∀ m, m < ts.length → en[a + m]? = (enL K)[m]?) → acc.length + ts.length ≤ 17592186044416 →
    ∃ k, tree_forest_beside.l0 k (a : Int) (b : Int) acc nodes po en ok = some (acc ++ K.map (·.f2)) := by
  induction h with
  | nil a =>
    intro acc nodes po en ok b hb hbe hen hacc
    refine ⟨1, ?_⟩
    rw [tree_forest_beside.l0, if_neg (by simp at hb; omega)]
    simp
  | cons x ks rest a K R h1 hk h2 ih1 ih2 =>
    intro acc nodes po en ok b hb hbe hen hacc
    simp only [List.length_cons, List.length_append] at hb hacc hen
    rw [enL_cons] at hen
    have hen2 : ∀ m, m < rest.length → en[a + 1 + ks.length + m]? = (enL R)[m]? := fun m hm => by
      have := hen (ks.length + 1 + m) (by omega)
      rw [snd_at _ _ _ h1.enlen] at this
      rw [← this]
      congr 1
      omega
    obtain ⟨k, hk2⟩ := ih2 (acc ++ [(a : Int)]) nodes po en ok b (by omega) hbe hen2 (by simp; omega)
    have hrd : rd en (a : Int) = ((a + 1 + ks.length : Nat) : Int) := by
      have := hen 0 (by omega)
      simp only [Nat.add_zero, List.getElem?_cons_zero, h1.enlen] at this
      unfold rd
      rw [Int.toNat_natCast, List.getD_eq_getElem?_getD, this]
      simp
    refine ⟨k + 1, ?_⟩
    rw [tree_forest_beside.l0, if_pos (by omega), if_pos (by omega), if_pos (by omega), if_pos (by omega), hrd, hk2]
    simp
theorem gr_len {t : List S50} {F : List S143} (h : Fo t 0 F) : (plantF t).2.1 = poL (-1) F ∧ (plantF t).2.2.1 = enL F ∧ (plantF t).2.2.2 = true := by
  rw [plant_fo h]
  exact ⟨rfl, rfl, rfl⟩
set_option maxRecDepth 100000 in
set_option maxHeartbeats 4000000 in
theorem roots_calls (A : Option Addr) (c : Nat) (t : List S50) (F : List S143) (w : World) (hF : Fo t 0 F) (hr : Kd.C k50 w A t.length t) (hc : t.length ≤ c) (hl : t.length ≤ 1048578) (hk : ∀ x ∈ t, x.f5 ≤ 9223372036854775807) :
    Calls Try.prog 80 #[.slice A t.length c] w fun e w' => ∃ v, e = .returned v ∧ RI w' w.heap.size v (F.map (·.f2)) ∧ Below w.heap.size w w' := by
  have HF := Aside0.mk hF
  have HRw := Aside0.mk hr
  have HP := Aside0.mk (And.intro hc hl)
  have hp := plant_calls A c t w hr hc hl hk
  clear hF hr hk
  go_enter Try.func80, Try.ntmps80
  go_wp2_with fail
  refine hp.mono ?_
  rintro e w1 ⟨P, E, po, en, rfl, hpe, hP, hE, hB⟩
  obtain ⟨g1, g2, g3⟩ := gr_len HF.out
  obtain ⟨rfl, rfl⟩ := hpe g3
  rw [g1] at hP
  rw [g2] at hE
  rw [g3]
  obtain ⟨AP, cP, rfl, lP, rP⟩ := hP.opens
  obtain ⟨AE, cE, rfl, lE, rE⟩ := hE.opens
  clear hp hpe g1 g2 g3 hP hE
  obtain ⟨oG, hoG⟩ : ∃ o : Obj, o = .cells #[.slice A t.length c, .slice AP (poL (-1) F).length cP, .slice AE (enL F).length cE, .bool true] 136 (0, 0) := ⟨_, rfl⟩
  have hba : Below w1.heap.size w1 (w1.alloc oG) := below_alloc (Below.refl _ _) _
  have KG := Aside0.mk ((heap_alloc_new w1 oG).trans (congrArg some hoG))
  have HB2 := Aside0.mk (below_then hB hB.size hba)
  have RP := Aside0.mk (Kd.C_below rP hba)
  have RE := Aside0.mk (Kd.C_below rE hba)
  have LPE := Aside0.mk (And.intro lP lE)
  clear hba hB rP rE lP lE hc hl
  go_upto_region 2 with fail
  rw [← hoG]
  clear hoG
  obtain ⟨g, hg⟩ : ∃ g, w1.heap.size = g := ⟨_, rfl⟩
  generalize w1.alloc oG = w2 at KG HB2 RP RE ⊢
  rw [hg] at KG ⊢
  clear hg
  have r0 : w2.cell? ⟨g, 0, none⟩ = some (.slice A t.length c) := (blk_cell KG.out 0).trans rfl
  have r1 : w2.cell? ⟨g, 1, none⟩ = some (.slice AP (poL (-1) F).length cP) := (blk_cell KG.out 1).trans rfl
  have r2 : w2.cell? ⟨g, 2, none⟩ = some (.slice AE (enL F).length cE) := (blk_cell KG.out 2).trans rfl
  have r3 : w2.cell? ⟨g, 3, none⟩ = some (.bool true) := (blk_cell KG.out 3).trans rfl
  go_wp2_with fail
  obtain ⟨k, hkk⟩ := beside_fo HF.out [] t (poL (-1) F) (enL F) true t.length (by simp) (by rw [HF.out.enlen]; omega) (fun m hm => by rw [Nat.zero_add]) (by simp; have := HP.out.2; omega)
  refine (tree_forest_beside.calls k A c t AP cP (poL (-1) F) AE cE (enL F) true 0 (t.length : Int) _ w2 (Kd.C_below HRw.out HB2.out) HP.out.1 RP.out LPE.out.1 RE.out LPE.out.2 hkk).mono ?_
  rintro e w3 ⟨v, rfl, hv, hB3⟩
  have HV := Aside0.mk (Kd.R_lower hv HB2.out.size)
  have HB3 := Aside0.mk (below_then HB2.out HB2.out.size hB3)
  clear hv hB3 hkk
  go_wp2_with fail
  go_ret
  exact ⟨_, rfl, HV.out, HB3.out⟩
theorem field_fo (v0 v1 v2 v3 : Value) (w : World) : Sem.run Try.prog (Instr.field 136 (.agg #[v0, v1, v2, v3]) 3) w = .ok v3 w := by kernel_rfl
attribute [local go_sem] field_fo
set_option maxRecDepth 100000 in
set_option maxHeartbeats 4000000 in
theorem Roots_calls (A : Option Addr) (c : Nat) (t : List S50) (w : World) (hr : Kd.C k50 w A t.length t) (hc : t.length ≤ c) (hl : t.length ≤ 1048578) (hk : ∀ x ∈ t, x.f5 ≤ 9223372036854775807) :
    Calls Try.prog 59 #[.slice A t.length c] w fun e w' => e = .returned (.int .i64 (rootsF t)) ∧ Below w.heap.size w w' := by
  have HRw := Aside0.mk hr
  have HP := Aside0.mk (And.intro hc (And.intro hl hk))
  have hp := plant_calls A c t w hr hc hl hk
  clear hr hk
  go_enter Try.func59, Try.ntmps59
  go_wp2_with fail
  refine hp.mono ?_
  rintro e w1 ⟨P, E, po, en, rfl, -, -, -, hB⟩
  have HB1 := Aside0.mk hB
  clear hp hB
  have ho := plant_ok t
  cases hg : gr t 0 with
  | none =>
    rw [hg] at ho
    have HV : Aside0 (rootsF t = -1) := ⟨by unfold rootsF; rw [hg]⟩
    rw [show (plantF t).2.2.2 = false from ho]
    clear ho hg
    go_wp2_with fail
    go_ret
    exact ⟨by rw [HV.out]; rfl, HB1.out⟩
  | some F =>
    rw [hg] at ho
    have HV : Aside0 (rootsF t = (F.length : Int)) := ⟨by unfold rootsF; rw [hg]⟩
    rw [show (plantF t).2.2.2 = true from ho]
    have HF := Aside0.mk (gr_fo hg)
    clear ho hg
    go_wp2_with fail
    refine (roots_calls A c t F w1 HF.out (Kd.C_below HRw.out HB1.out) HP.out.1 HP.out.2.1 HP.out.2.2).mono ?_
    rintro e w2 ⟨v, rfl, hv, hB⟩
    obtain ⟨Av, cv, rfl, -, -⟩ := hv.opens
    rw [List.length_map]
    have HB2 := Aside0.mk (below_then HB1.out HB1.out.size hB)
    clear hv hB
    go_wp2_with fail
    go_ret
    exact ⟨by rw [HV.out]; rfl, HB2.out⟩
/-- plant's answer as a box: what Kids and Size read of it. -/
structure Box (w2 : World) (g : Nat) (A : Option Addr) (c : Nat) (t : List S50) (F : List S143) (AP AE : Option Addr) (cP cE : Nat) : Prop where
  k : w2.heap[g]? = some (.cells #[.slice A t.length c, .slice AP (poL (-1) F).length cP, .slice AE (enL F).length cE, .bool true] 136 (0, 0))
  p : kI.C w2 AP (poL (-1) F).length (poL (-1) F)
  e : kI.C w2 AE (enL F).length (enL F)
  lp : (poL (-1) F).length ≤ cP
  le : (enL F).length ≤ cE
theorem Box.moved {w2 w3 : World} {g : Nat} {A : Option Addr} {c : Nat} {t : List S50} {F : List S143} {AP AE : Option Addr} {cP cE : Nat} (h : Box w2 g A c t F AP AE cP cE) (hb : Below w2.heap.size w2 w3) : Box w3 g A c t F AP AE cP cE :=
  ⟨(hb.block _ (blk_lt h.k)).trans h.k, Kd.C_below h.p hb, Kd.C_below h.e hb, h.lp, h.le⟩
set_option maxRecDepth 100000 in
set_option maxHeartbeats 4000000 in
theorem Size_calls (A : Option Addr) (c : Nat) (t : List S50) (F : List S143) (i : Nat) (w : World) (hF : Fo t 0 F) (hi : i < t.length) (hr : Kd.C k50 w A t.length t) (hc : t.length ≤ c) (hl : t.length ≤ 1048578) (hk : ∀ x ∈ t, x.f5 ≤ 9223372036854775807) :
    Calls Try.prog 35 #[.slice A t.length c, .int .i64 (i : Int)] w fun e w' => e = .returned (.int .i64 ((enL F).getD i 0 - (i : Int))) ∧ Below w.heap.size w w' := by
  have HF := Aside0.mk hF
  have HRw := Aside0.mk hr
  have HP := Aside0.mk (And.intro hc (And.intro hl hi))
  have hp := plant_calls A c t w hr hc hl hk
  obtain ⟨x, ks, K, hx, hnd, hfk, hen, hle, hin⟩ := hF.node i hi
  rw [Nat.zero_add] at hnd hfk hen
  have HN := Aside0.mk (And.intro hx (And.intro hnd (And.intro hfk (And.intro hen (And.intro hle hin)))))
  clear hF hr hk hx hnd hfk hen hle hin
  go_enter Try.func35, Try.ntmps35
  go_wp2_with fail
  refine hp.mono ?_
  rintro e w1 ⟨P, E, po, en, rfl, hpe, hP, hE, hB⟩
  obtain ⟨g1, g2, g3⟩ := gr_len HF.out
  obtain ⟨rfl, rfl⟩ := hpe g3
  rw [g1] at hP
  rw [g2] at hE
  rw [g3]
  obtain ⟨AP, cP, rfl, lP, rP⟩ := hP.opens
  obtain ⟨AE, cE, rfl, lE, rE⟩ := hE.opens
  clear hp hpe g1 g2 g3 hP hE
  obtain ⟨oG, hoG⟩ : ∃ o : Obj, o = .cells #[.slice A t.length c, .slice AP (poL (-1) F).length cP, .slice AE (enL F).length cE, .bool true] 136 (0, 0) := ⟨_, rfl⟩
  have hba : Below w1.heap.size w1 (w1.alloc oG) := below_alloc (Below.refl _ _) _
  have HB2 := Aside0.mk (below_then hB hB.size hba)
  have BX := Aside0.mk (Box.mk ((heap_alloc_new w1 oG).trans (congrArg some hoG)) (Kd.C_below rP hba) (Kd.C_below rE hba) lP lE)
  clear hba hB rP rE lP lE
  go_upto_region 2 with fail
  rw [← hoG]
  clear hoG
  obtain ⟨g, hg⟩ : ∃ g, w1.heap.size = g := ⟨_, rfl⟩
  generalize w1.alloc oG = w2 at BX HB2 ⊢
  rw [hg] at BX ⊢
  clear hg
  have r0 : w2.cell? ⟨g, 0, none⟩ = some (.slice A t.length c) := (blk_cell BX.out.k 0).trans rfl
  have r1 : w2.cell? ⟨g, 1, none⟩ = some (.slice AP (poL (-1) F).length cP) := (blk_cell BX.out.k 1).trans rfl
  have r2 : w2.cell? ⟨g, 2, none⟩ = some (.slice AE (enL F).length cE) := (blk_cell BX.out.k 2).trans rfl
  have r3 : w2.cell? ⟨g, 3, none⟩ = some (.bool true) := (blk_cell BX.out.k 3).trans rfl
  go_wp2_with fail
  refine (tree_forest_has.calls A c t AP cP (poL (-1) F) AE cE (enL F) true (i : Int) true w2 (Kd.C_below HRw.out HB2.out) HP.out.1 BX.out.p BX.out.lp BX.out.e BX.out.le (by rw [tree_forest_has.f, if_pos rfl, if_pos (by omega), decide_eq_true (by have := HP.out.2.2; omega)])).mono ?_
  rintro e w3 ⟨rfl, hB⟩
  have BX3 := Aside0.mk (BX.out.moved hB)
  have HB3 := Aside0.mk (below_then HB2.out HB2.out.size hB)
  clear hB BX HB2 r0 r1 r2 r3 hc hl hi
  have r0 : w3.cell? ⟨g, 0, none⟩ = some (.slice A t.length c) := (blk_cell BX3.out.k 0).trans rfl
  have r1 : w3.cell? ⟨g, 1, none⟩ = some (.slice AP (poL (-1) F).length cP) := (blk_cell BX3.out.k 1).trans rfl
  have r2 : w3.cell? ⟨g, 2, none⟩ = some (.slice AE (enL F).length cE) := (blk_cell BX3.out.k 2).trans rfl
  have r3 : w3.cell? ⟨g, 3, none⟩ = some (.bool true) := (blk_cell BX3.out.k 3).trans rfl
  have hel := HF.out.enlen
  obtain ⟨ade, hade, ce⟩ := Kd.at_int BX3.out.e (i : Int) (by omega) (by have := HP.out.2.2; omega)
  have hre : rd (enL F) (i : Int) = ((i + 1 + ks.length : Nat) : Int) := by
    unfold rd
    rw [Int.toNat_natCast, List.getD_eq_getElem?_getD, HN.out.2.2.2.1]
    rfl
  rw [hre, Int.toNat_natCast] at ce
  subst hade
  have e3 : (i : Int) < ((enL F).length : Int) := by rw [hel]; have := HP.out.2.2; omega
  have e5 : IntKind.i64.wrap ((i : Int) + 1) = (i : Int) + 1 := (i64_w _).trans (w64 (by omega) (by have := HP.out.2; omega))
  have e6 : IntKind.i64.wrap (((i + 1 + ks.length : Nat) : Int) - (i : Int)) = ((i + 1 + ks.length : Nat) : Int) - (i : Int) := (i64_w _).trans (w64 (by omega) (by have := HP.out.2; have := HN.out.2.2.2.2.1; omega))
  have hgd : (enL F).getD i 0 = ((i + 1 + ks.length : Nat) : Int) := by rw [List.getD_eq_getElem?_getD, HN.out.2.2.2.1]; rfl
  obtain ⟨ei, hei⟩ : ∃ z : Int, ((i + 1 + ks.length : Nat) : Int) = z := ⟨_, rfl⟩
  rw [hei] at ce e6 hgd
  have HGD := Aside0.mk hgd
  clear hel hgd hre hei
  go_wp2_with fail
  go_ret
  exact ⟨by rw [HGD.out]; rfl, HB3.out⟩
set_option maxRecDepth 100000 in
set_option maxHeartbeats 4000000 in
theorem Kids_calls (A : Option Addr) (c : Nat) (t : List S50) (F : List S143) (i : Nat) (w : World) (hF : Fo t 0 F) (hi : i < t.length) (hr : Kd.C k50 w A t.length t) (hc : t.length ≤ c) (hl : t.length ≤ 1048578) (hk : ∀ x ∈ t, x.f5 ≤ 9223372036854775807) :
    Calls Try.prog 81 #[.slice A t.length c, .int .i64 (i : Int)] w fun e w' => ∃ v, e = .returned v ∧ RI w' w.heap.size v (kidsF F i) ∧ Below w.heap.size w w' := by
  have HF := Aside0.mk hF
  have HRw := Aside0.mk hr
  have HP := Aside0.mk (And.intro hc (And.intro hl hi))
  have hp := plant_calls A c t w hr hc hl hk
  obtain ⟨x, ks, K, hx, hnd, hfk, hen, hle, hin⟩ := hF.node i hi
  rw [Nat.zero_add] at hnd hfk hen
  have HN := Aside0.mk (And.intro hx (And.intro hnd (And.intro hfk (And.intro hen (And.intro hle hin)))))
  clear hF hr hk hx hnd hfk hen hle hin
  go_enter Try.func81, Try.ntmps81
  go_wp2_with fail
  refine hp.mono ?_
  rintro e w1 ⟨P, E, po, en, rfl, hpe, hP, hE, hB⟩
  obtain ⟨g1, g2, g3⟩ := gr_len HF.out
  obtain ⟨rfl, rfl⟩ := hpe g3
  rw [g1] at hP
  rw [g2] at hE
  rw [g3]
  obtain ⟨AP, cP, rfl, lP, rP⟩ := hP.opens
  obtain ⟨AE, cE, rfl, lE, rE⟩ := hE.opens
  clear hp hpe g1 g2 g3 hP hE
  obtain ⟨oG, hoG⟩ : ∃ o : Obj, o = .cells #[.slice A t.length c, .slice AP (poL (-1) F).length cP, .slice AE (enL F).length cE, .bool true] 136 (0, 0) := ⟨_, rfl⟩
  have hba : Below w1.heap.size w1 (w1.alloc oG) := below_alloc (Below.refl _ _) _
  have HB2 := Aside0.mk (below_then hB hB.size hba)
  have BX := Aside0.mk (Box.mk ((heap_alloc_new w1 oG).trans (congrArg some hoG)) (Kd.C_below rP hba) (Kd.C_below rE hba) lP lE)
  clear hba hB rP rE lP lE
  go_upto_region 2 with fail
  rw [← hoG]
  clear hoG
  obtain ⟨g, hg⟩ : ∃ g, w1.heap.size = g := ⟨_, rfl⟩
  generalize w1.alloc oG = w2 at BX HB2 ⊢
  rw [hg] at BX ⊢
  clear hg
  have r0 : w2.cell? ⟨g, 0, none⟩ = some (.slice A t.length c) := (blk_cell BX.out.k 0).trans rfl
  have r1 : w2.cell? ⟨g, 1, none⟩ = some (.slice AP (poL (-1) F).length cP) := (blk_cell BX.out.k 1).trans rfl
  have r2 : w2.cell? ⟨g, 2, none⟩ = some (.slice AE (enL F).length cE) := (blk_cell BX.out.k 2).trans rfl
  have r3 : w2.cell? ⟨g, 3, none⟩ = some (.bool true) := (blk_cell BX.out.k 3).trans rfl
  go_wp2_with fail
  refine (tree_forest_has.calls A c t AP cP (poL (-1) F) AE cE (enL F) true (i : Int) true w2 (Kd.C_below HRw.out HB2.out) HP.out.1 BX.out.p BX.out.lp BX.out.e BX.out.le (by rw [tree_forest_has.f, if_pos rfl, if_pos (by omega), decide_eq_true (by have := HP.out.2.2; omega)])).mono ?_
  rintro e w3 ⟨rfl, hB⟩
  have BX3 := Aside0.mk (BX.out.moved hB)
  have HB3 := Aside0.mk (below_then HB2.out HB2.out.size hB)
  clear hB BX HB2 r0 r1 r2 r3 hc hl hi
  have r0 : w3.cell? ⟨g, 0, none⟩ = some (.slice A t.length c) := (blk_cell BX3.out.k 0).trans rfl
  have r1 : w3.cell? ⟨g, 1, none⟩ = some (.slice AP (poL (-1) F).length cP) := (blk_cell BX3.out.k 1).trans rfl
  have r2 : w3.cell? ⟨g, 2, none⟩ = some (.slice AE (enL F).length cE) := (blk_cell BX3.out.k 2).trans rfl
  have r3 : w3.cell? ⟨g, 3, none⟩ = some (.bool true) := (blk_cell BX3.out.k 3).trans rfl
  have hel := HF.out.enlen
  obtain ⟨ade, hade, ce⟩ := Kd.at_int BX3.out.e (i : Int) (by omega) (by have := HP.out.2.2; omega)
  have hre : rd (enL F) (i : Int) = ((i + 1 + ks.length : Nat) : Int) := by
    unfold rd
    rw [Int.toNat_natCast, List.getD_eq_getElem?_getD, HN.out.2.2.2.1]
    rfl
  rw [hre, Int.toNat_natCast] at ce
  subst hade
  have e3 : (i : Int) < ((enL F).length : Int) := by rw [hel]; have := HP.out.2.2; omega
  have e5 : IntKind.i64.wrap ((i : Int) + 1) = (i : Int) + 1 := (i64_w _).trans (w64 (by omega) (by have := HP.out.2; omega))
  have e6 : IntKind.i64.wrap (((i + 1 + ks.length : Nat) : Int) - (i : Int)) = ((i + 1 + ks.length : Nat) : Int) - (i : Int) := (i64_w _).trans (w64 (by omega) (by have := HP.out.2; have := HN.out.2.2.2.2.1; omega))
  have HKF : Aside0 (kidsF F i = K.map (·.f2)) := ⟨by unfold kidsF; rw [HN.out.2.1]⟩
  have hBe := beside_fo HN.out.2.2.1 [] t (poL (-1) F) (enL F) true (i + 1 + ks.length) rfl (by rw [hel]; have := HN.out.2.2.2.2.1; omega) HN.out.2.2.2.2.2 (by simp; have := HN.out.2.2.2.2.1; have := HP.out.2; omega)
  have HBE := Aside0.mk hBe
  obtain ⟨ei, hei⟩ : ∃ z : Nat, i + 1 + ks.length = z := ⟨_, rfl⟩
  rw [hei] at ce HBE
  clear hel hre hBe hei e6
  have KX := Aside0.mk (And.intro HN.out.2.2.1 HP.out)
  clear HN
  go_upto_region 4 with fail
  obtain ⟨kf, hkf⟩ := HBE.out
  go_region_law
    (go_simp
     go_at_call 90
     refine (tree_forest_beside.calls kf A c t AP cP (poL (-1) F) (some ade) cE (enL F) true ((i : Int) + 1) (ei : Int) _ _ (Kd.C_below HRw.out (below_drew HB3.out)) HP.out.1 (Kd.C_below BX3.out.p (below_drew (Below.refl _ _))) BX3.out.lp (Kd.C_below BX3.out.e (below_drew (Below.refl _ _))) BX3.out.le (by rw [← Int.natCast_succ]; exact hkf)).mono ?_
     rintro e w4 ⟨v, rfl, hv, hB4⟩
     have HB4 := Aside0.mk (below_then (below_drew HB3.out) (below_drew HB3.out).size hB4)
     have HV := Aside0.mk (Kd.R_lower hv (below_drew HB3.out).size)
     clear hv hB4)
  all_goals
    (go_wp2_with fail
     go_ret
     exact ⟨_, rfl, by rw [HKF.out]; exact HV.out, HB4.out⟩)
end Go.Proofs.Ytknagjiipelfnaa.OL
