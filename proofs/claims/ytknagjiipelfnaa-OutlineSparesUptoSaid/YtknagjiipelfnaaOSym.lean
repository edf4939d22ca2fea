/- outline.child, outline.symbol: the child that says what a node is called. outline.symbol: the child that says what a node is called. -/
import Derived.Test.YtknagjiipelfnaaSym
namespace Go.Proofs.Ytknagjiipelfnaa.OL
open Go.RowKit Go.WideShapes Go.ChangeShapes Go.Proofs.YtknagjiipelfnaaW.PrintWords Go.Proofs.YtknagjiipelfnaaW.PrintLast Go.Proofs.YtknagjiipelfnaaW.PrintMore Go.Proofs.Ytknagjiipelfnaa.PAll
set_option linter.unusedVariables false

theorem Fo.places {ts : List S50} {a : Nat} {K : List S143} (h : Fo ts a K) : ∀ k ∈ K.map (·.f2), (a : Int) ≤ k ∧ k < ((a + ts.length : Nat) : Int) := by
  induction h with
  | nil a => intro k hk; simp at hk
  | cons x ks rest a K R h1 hk h2 ih1 ih2 =>
    intro k hk
    simp only [List.map_cons, List.mem_cons] at hk
    simp only [List.length_cons, List.length_append]
    rcases hk with rfl | hk
    · constructor <;> simp <;> omega
    · have := ih2 k hk
      omega
theorem kids_in {t : List S50} {F : List S143} (h : Fo t 0 F) {i : Nat} (hi : i < t.length) : ∀ k ∈ kidsF F i, 0 ≤ k ∧ k < (t.length : Int) := by
  obtain ⟨x, ks, K, hx, hnd, hfk, hen, hle, hin⟩ := h.node i hi
  intro k hk
  unfold kidsF at hk
  rw [hnd] at hk
  have := hfk.places k hk
  omega
theorem kids_len {t : List S50} {F : List S143} (h : Fo t 0 F) {i : Nat} (hi : i < t.length) : (kidsF F i).length ≤ t.length := by
  obtain ⟨x, ks, K, hx, hnd, hfk, hen, hle, hin⟩ := h.node i hi
  unfold kidsF
  rw [hnd]
  have := hfk.len
  simp only [List.length_map]
  omega
theorem zero7 {w : World} {g : Nat} (h : w.heap[g]? = some (nC z50)) : w.cell? ⟨g, 0, none⟩ = some (.string ⟨#[]⟩) ∧ w.cell? ⟨g, 1, none⟩ = some (.bool false) ∧ w.cell? ⟨g, 2, none⟩ = some (.string ⟨#[]⟩) ∧ w.cell? ⟨g, 3, none⟩ = some (.int .i64 0) ∧ w.cell? ⟨g, 4, none⟩ = some (.int .i64 0) ∧ w.cell? ⟨g, 5, none⟩ = some (.int .i64 0) ∧ w.cell? ⟨g, 6, none⟩ = some (.int .i64 0) :=
  ⟨(blk_cell h 0).trans rfl, (blk_cell h 1).trans rfl, (blk_cell h 2).trans rfl, (blk_cell h 3).trans rfl, (blk_cell h 4).trans rfl, (blk_cell h 5).trans rfl, (blk_cell h 6).trans rfl⟩
set_option maxHeartbeats 4000000 in
theorem set7 {w : World} {g : Nat} {y : S50} (h : w.heap[g]? = some (nC y)) (x : S50) : (((((((w.setCell ⟨g, 0, none⟩ (.string x.f0)).setCell ⟨g, 1, none⟩ (.bool x.f1)).setCell ⟨g, 2, none⟩ (.string x.f2)).setCell ⟨g, 3, none⟩ (.int .i64 x.f3)).setCell ⟨g, 4, none⟩ (.int .i64 x.f4)).setCell ⟨g, 5, none⟩ (.int .i64 x.f5)).setCell ⟨g, 6, none⟩ (.int .i64 x.f6)).heap[g]? = some (nC x) :=
  (blk_set ((blk_set ((blk_set ((blk_set ((blk_set ((blk_set ((blk_set h 0 _).trans rfl) 1 _).trans rfl) 2 _).trans rfl) 3 _).trans rfl) 4 _).trans rfl) 5 _).trans rfl) 6 _).trans rfl
theorem below_sets7 {B : Nat} {w w1 : World} {g : Nat} (h : Below B w w1) (hg : B ≤ g) (v0 v1 v2 v3 v4 v5 v6 : Value) : Below B w (((((((w1.setCell ⟨g, 0, none⟩ v0).setCell ⟨g, 1, none⟩ v1).setCell ⟨g, 2, none⟩ v2).setCell ⟨g, 3, none⟩ v3).setCell ⟨g, 4, none⟩ v4).setCell ⟨g, 5, none⟩ v5).setCell ⟨g, 6, none⟩ v6) :=
  ((((((h.setCell hg v0).setCell hg v1).setCell hg v2).setCell hg v3).setCell hg v4).setCell hg v5).setCell hg v6
def ansV (t : List S50) (r : Option Int) : Value := .tuple #[nV ((r.map (rd_T50 t)).getD z50), .bool r.isSome]
set_option maxRecDepth 100000 in
set_option maxHeartbeats 8000000 in
theorem child_calls (gL gI : Nat) (vF : Value) (A M : Option Addr) (c cm i j : Nat) (t : List S50) (F : List S143) (ms : List Mk) (w : World) (hF : Fo t 0 F) (hi : i < t.length) (hr : Kd.C k50 w A t.length t) (hc : t.length ≤ c) (hl : t.length ≤ 1048576) (hk : ∀ x ∈ t, x.f5 ≤ 9223372036854775807)
    (hj : j < ms.length) (hm : Kd.C k129 w M ms.length ms) (kl : w.heap[gL]? = some (.cells (langC vF (.slice M ms.length cm)) 45 (0, 0))) (ki : w.heap[gI]? = some (.cells #[.int .i64 (j : Int)] 3 (0, 0))) :
    Calls Try.prog 62 #[.slice A t.length c, .int .i64 (i : Int), .func (.func 63) #[] #[.pointer (some ⟨gL, 0, none⟩), .pointer (some ⟨gI, 0, none⟩)]] w fun e w' => e = .returned (ansV t (kidK t (rdM ms j).2 (kidsF F i))) ∧ Below w.heap.size w w' := by
  have HF := Aside0.mk hF
  have HRw := Aside0.mk hr
  have HMw := Aside0.mk hm
  have KL := Aside0.mk kl
  have KI := Aside0.mk ki
  have HP := Aside0.mk (And.intro hc (And.intro hl (And.intro hi (And.intro hk hj))))
  have HKI := Aside0.mk (kids_in hF hi)
  have HKL := Aside0.mk (kids_len hF hi)
  obtain ⟨oZ, hoZ⟩ : ∃ o : Obj, o = .cells #[.string ⟨#[]⟩, .bool false, .string ⟨#[]⟩, .int .i64 0, .int .i64 0, .int .i64 0, .int .i64 0] 50 (0, 0) := ⟨_, rfl⟩
  have hba : Below w.heap.size w (w.alloc oZ) := below_alloc (Below.refl _ _) _
  have HB0 := Aside0.mk hba
  have KZ0 : Aside0 ((w.alloc oZ).heap[w.heap.size]? = some (nC z50)) := ⟨(heap_alloc_new w oZ).trans (congrArg some hoZ)⟩
  clear hF hr hm kl ki hc hl hi hk hj hba
  go_enter Try.func62, Try.ntmps62
  go_upto_region 1 with fail
  rw [← hoZ]
  clear hoZ
  obtain ⟨gZ, hgZ⟩ : ∃ g, w.heap.size = g := ⟨_, rfl⟩
  have GZ : Aside0 (w.heap.size ≤ gZ) := ⟨by omega⟩
  generalize w.alloc oZ = w0 at KZ0 HB0 ⊢
  rw [hgZ] at KZ0 ⊢
  clear hgZ
  go_wp2_with fail
  refine (Kids_calls A c t F i w0 HF.out HP.out.2.2.1 (Kd.C_below HRw.out HB0.out) HP.out.1 (by have := HP.out.2.1; omega) HP.out.2.2.2.1).mono ?_
  rintro e w1 ⟨v, rfl, hv, hB⟩
  obtain ⟨Ak, ck, rfl, -, rk⟩ := hv.opens
  have HB1 := Aside0.mk (below_then HB0.out HB0.out.size hB)
  have KZ1 := Aside0.mk ((hB.block _ (blk_lt KZ0.out)).trans KZ0.out)
  have RK := Aside0.mk rk
  obtain ⟨ks, hks⟩ : ∃ ks, kidsF F i = ks := ⟨_, rfl⟩
  rw [hks] at RK HKI HKL ⊢
  obtain ⟨fld, hfld⟩ : ∃ f, (rdM ms j).2 = f := ⟨_, rfl⟩
  have HFLD := Aside0.mk hfld
  have HKS := Aside0.mk hks
  clear hks hfld hv hB KZ0 HB0 rk
  go_wp2_with fail
  go_loopw [9, 14] (fun v9 v14 wr => ∃ n : Nat, v14 = .int .i64 (n : Int) ∧ n ≤ ks.length ∧ Aside0 (kidK t fld ks = kidK t fld (ks.drop n)) ∧ Aside0 (Below w1.heap.size w1 wr)) (fun _ v14 _ => ks.length - (intOf v14).toNat)
  case atStart => exact ⟨0, rfl, by omega, ⟨rfl⟩, ⟨Below.refl _ _⟩⟩
  case round =>
    obtain ⟨n, rfl, hn, HV, HBr⟩ := hrel
    by_cases hlt : n < ks.length
    · have e1 : decide ((n : Int) < (ks.length : Int)) = true := decide_eq_true (by omega)
      have e2 : decide (n < ks.length) = true := decide_eq_true hlt
      have e3 : (n : Int) < (ks.length : Int) := by omega
      have hkl := HKL.out
      have hl := HP.out.2.1
      have e4 : IntKind.i64.wrap ((n : Int) + 1) = (n : Int) + 1 := (i64_w _).trans (w64 (by omega) (by omega))
      obtain ⟨adk, hAk, yk⟩ := Kd.at_int (Kd.C_below RK.out HBr.out) (n : Int) (by omega) (by omega)
      rw [Int.toNat_natCast] at yk
      have hget : rd ks (n : Int) = ks[n] := by
        unfold rd
        rw [Int.toNat_natCast, List.getD_eq_getElem?_getD, List.getElem?_eq_getElem hlt]
        rfl
      have hin := HKI.out ks[n] (List.getElem_mem hlt)
      have hdr : ks.drop n = ks[n] :: ks.drop (n + 1) := List.drop_eq_getElem_cons hlt
      rw [hget] at yk
      obtain ⟨k, hkk⟩ : ∃ k : Nat, ks[n] = (k : Int) := ⟨ks[n].toNat, by omega⟩
      rw [hkk] at yk hin hdr
      rw [hdr] at HV
      have e5 : (k : Int) < (t.length : Int) := hin.2
      have hcc := HP.out.1
      have HB2 := Aside0.mk (below_then HB1.out HB1.out.size HBr.out)
      obtain ⟨ad, hA, y0, y1, y2, y3, y4, y5, y6⟩ := at_T50 (Kd.C_below HRw.out HB2.out) (k : Int) (by omega) (by omega)
      rw [Int.toNat_natCast] at y0 y1 y2 y3 y4 y5 y6
      obtain ⟨x, hx⟩ : ∃ x, rd_T50 t (k : Int) = x := ⟨_, rfl⟩
      rw [hx] at y0 y1 y2 y3 y4 y5 y6
      have HX := Aside0.mk hx
      have HLT := Aside0.mk hlt
      subst hA hAk
      clear hx hn hlt hdr hget hin hkk
      go_wp2_with fail
      refine (clo63 gL gI vF M cm j ms x wr HP.out.2.2.2.2 (Kd.C_below HMw.out HB2.out) ((HB2.out.block _ (blk_lt KL.out)).trans KL.out) ((HB2.out.block _ (blk_lt KI.out)).trans KI.out)).mono ?_
      rintro e w2 ⟨rfl, hB⟩
      rw [HFLD.out]
      have HB3 := Aside0.mk (below_then HBr.out HBr.out.size hB)
      have HB4 := Aside0.mk (below_then HB2.out HB2.out.size hB)
      have KZ := (HB3.out.block _ (blk_lt KZ1.out)).trans KZ1.out
      obtain ⟨b, hb⟩ : ∃ b, eqT x.f2 fld = b := ⟨_, rfl⟩
      rw [hb]
      have HV2 : Aside0 (kidK t fld ks = if b then some (k : Int) else kidK t fld (ks.drop (n + 1))) := ⟨by
        rw [HV.out]
        unfold kidK
        rw [List.find?_cons, HX.out, hb]
        cases b <;> rfl⟩
      clear hb hB HB2 HBr y0 y1 y2 y3 y4 y5 y6 yk
      cases b with
      | true =>
        obtain ⟨z0, z1, z2, z3, z4, z5, z6⟩ := zero7 KZ
        have f0 := blk_frozen KZ 0
        have f1 := blk_frozen KZ 1
        have f2 := blk_frozen KZ 2
        have f3 := blk_frozen KZ 3
        have f4 := blk_frozen KZ 4
        have f5 := blk_frozen KZ 5
        have f6 := blk_frozen KZ 6
        obtain ⟨ad2, hA2, y0, y1, y2, y3, y4, y5, y6⟩ := at_T50 (Kd.C_below HRw.out HB4.out) (k : Int) (by omega) (by omega)
        injection hA2 with hA2
        subst hA2
        rw [Int.toNat_natCast, HX.out] at y0 y1 y2 y3 y4 y5 y6
        have HKZ := Aside0.mk KZ
        clear KZ
        go_wp2_with fail
        (try simp only [Exit.inBlock, Exit.then])
        refine bodyPost_ret (v := .tuple #[nV x, .bool true]) (by rw [results_cell_tmp (p := 6) (u := 7) (ty := 50) rfl]; first | (go_simp; done) | (go_simp; rfl)) rfl ?_
        exact ⟨by rw [HKS.out, HFLD.out, HV2.out, ← HX.out]; rfl, below_sets7 HB4.out GZ.out _ _ _ _ _ _ _⟩
      | false =>
        clear KZ
        go_wp2_with fail
        go_roundw
        case measure => first | omega | (simp [intOf]; have := HLT.out; omega)
        case rel => exact ⟨n + 1, by congr 1, by have := HLT.out; omega, ⟨HV2.out⟩, HB3⟩
    · have e1 : decide ((n : Int) < (ks.length : Int)) = false := decide_eq_false (by omega)
      have e2 : decide (n < ks.length) = false := decide_eq_false hlt
      obtain rfl : n = ks.length := by omega
      rw [List.drop_length] at HV
      have KZ := (HBr.out.block _ (blk_lt KZ1.out)).trans KZ1.out
      obtain ⟨z0, z1, z2, z3, z4, z5, z6⟩ := zero7 KZ
      have f0 := blk_frozen KZ 0
      have f1 := blk_frozen KZ 1
      have f2 := blk_frozen KZ 2
      have f3 := blk_frozen KZ 3
      have f4 := blk_frozen KZ 4
      have f5 := blk_frozen KZ 5
      have f6 := blk_frozen KZ 6
      have HKZ := Aside0.mk KZ
      have HB4 := Aside0.mk (below_then HB1.out HB1.out.size HBr.out)
      clear hn hlt KZ
      go_wp2_with fail
      (try simp only [Exit.inBlock, Exit.then])
      refine bodyPost_ret (v := .tuple #[.agg #[.string ⟨#[]⟩, .bool false, .string ⟨#[]⟩, .int .i64 0, .int .i64 0, .int .i64 0, .int .i64 0], .bool false]) (by rw [results_cell_tmp (p := 6) (u := 7) (ty := 50) rfl]; first | (go_simp; done) | (go_simp; rfl)) rfl ?_
      exact ⟨by rw [HKS.out, HFLD.out, HV.out]; rfl, below_sets7 HB4.out GZ.out _ _ _ _ _ _ _⟩
end Go.Proofs.Ytknagjiipelfnaa.OL
namespace Go.Proofs.Ytknagjiipelfnaa.OL
open Go.RowKit Go.WideShapes Go.ChangeShapes Go.Proofs.YtknagjiipelfnaaW.PrintWords Go.Proofs.YtknagjiipelfnaaW.PrintLast Go.Proofs.YtknagjiipelfnaaW.PrintMore Go.Proofs.Ytknagjiipelfnaa.PAll
set_option linter.unusedVariables false

section
variable (w0 : World) (o1 o2 o3 o4 : Obj)
theorem four0 : ((((w0.alloc o1).alloc o2).alloc o3).alloc o4).heap[w0.heap.size]? = some o1 := by
  have h := three0 w0 o1 o2 o3
  exact ((below_alloc (Below.refl _ _) o4 : Below _ (((w0.alloc o1).alloc o2).alloc o3) _).block _ (blk_lt (w := ((w0.alloc o1).alloc o2).alloc o3) h)).trans h
theorem four1 : ((((w0.alloc o1).alloc o2).alloc o3).alloc o4).heap[w0.heap.size + 1]? = some o2 := by
  have h := three1 w0 o1 o2 o3
  exact ((below_alloc (Below.refl _ _) o4 : Below _ (((w0.alloc o1).alloc o2).alloc o3) _).block _ (blk_lt (w := ((w0.alloc o1).alloc o2).alloc o3) h)).trans h
theorem four2 : ((((w0.alloc o1).alloc o2).alloc o3).alloc o4).heap[w0.heap.size + 1 + 1]? = some o3 := by
  have h := three2 w0 o1 o2 o3
  exact ((below_alloc (Below.refl _ _) o4 : Below _ (((w0.alloc o1).alloc o2).alloc o3) _).block _ (blk_lt (w := ((w0.alloc o1).alloc o2).alloc o3) h)).trans h
theorem four3 : ((((w0.alloc o1).alloc o2).alloc o3).alloc o4).heap[w0.heap.size + 1 + 1 + 1]? = some o4 := by
  have h := heap_alloc_new (((w0.alloc o1).alloc o2).alloc o3) o4
  simpa using h
theorem fourB : Below w0.heap.size w0 ((((w0.alloc o1).alloc o2).alloc o3).alloc o4) := below_alloc (below_alloc (below_alloc (below_alloc (Below.refl _ _) _) _) _) _
end
/-- The child that says what the node at a place is called. -/
def symK (ms : List Mk) (t : List S50) (F : List S143) (i : Nat) : Option Int :=
  if (rd_T50 t (i : Int)).f1 = true then
    (if idxM (rd_T50 t (i : Int)).f0 ms 0 < 0 then none else kidK t (rdM ms (idxM (rd_T50 t (i : Int)).f0 ms 0).toNat).2 (kidsF F i)) else none
set_option maxRecDepth 100000 in
set_option maxHeartbeats 8000000 in
theorem symbol_calls (vF : Value) (A M : Option Addr) (c cm i : Nat) (t : List S50) (F : List S143) (ms : List Mk) (w : World) (hF : Fo t 0 F) (hi : i < t.length) (hr : Kd.C k50 w A t.length t) (hc : t.length ≤ c) (hl : t.length ≤ 1048576) (hk : ∀ x ∈ t, x.f5 ≤ 9223372036854775807)
    (hm : Kd.C k129 w M ms.length ms) (hmc : ms.length ≤ cm) (hml : ms.length ≤ 1048576) :
    Calls Try.prog 34 #[.agg (langC vF (.slice M ms.length cm)), .slice A t.length c, .int .i64 (i : Int)] w fun e w' => e = .returned (ansV t (symK ms t F i)) ∧ Below w.heap.size w w' := by
  have HF := Aside0.mk hF
  have HRw := Aside0.mk hr
  have HMw := Aside0.mk hm
  have HP := Aside0.mk (And.intro hc (And.intro hl (And.intro hi (And.intro hk (And.intro hmc hml)))))
  clear hF hr hm hc hl hi hk hmc hml
  go_enter Try.func34, Try.ntmps34
  go_upto_region 1 with fail
  have HB := Aside0.mk (fourB w (.cells (langC vF (.slice M ms.length cm)) 45) (.cells #[.slice A t.length c] 26) (.cells #[.int .i64 (i : Int)] 3) (.cells #[.string ⟨#[]⟩, .bool false, .string ⟨#[]⟩, .int .i64 0, .int .i64 0, .int .i64 0, .int .i64 0] 50))
  have KL := Aside0.mk (four0 w (.cells (langC vF (.slice M ms.length cm)) 45) (.cells #[.slice A t.length c] 26) (.cells #[.int .i64 (i : Int)] 3) (.cells #[.string ⟨#[]⟩, .bool false, .string ⟨#[]⟩, .int .i64 0, .int .i64 0, .int .i64 0, .int .i64 0] 50))
  have KT := Aside0.mk (four1 w (.cells (langC vF (.slice M ms.length cm)) 45) (.cells #[.slice A t.length c] 26) (.cells #[.int .i64 (i : Int)] 3) (.cells #[.string ⟨#[]⟩, .bool false, .string ⟨#[]⟩, .int .i64 0, .int .i64 0, .int .i64 0, .int .i64 0] 50))
  have KA := Aside0.mk (four2 w (.cells (langC vF (.slice M ms.length cm)) 45) (.cells #[.slice A t.length c] 26) (.cells #[.int .i64 (i : Int)] 3) (.cells #[.string ⟨#[]⟩, .bool false, .string ⟨#[]⟩, .int .i64 0, .int .i64 0, .int .i64 0, .int .i64 0] 50))
  have KZ := Aside0.mk (four3 w (.cells (langC vF (.slice M ms.length cm)) 45) (.cells #[.slice A t.length c] 26) (.cells #[.int .i64 (i : Int)] 3) (.cells #[.string ⟨#[]⟩, .bool false, .string ⟨#[]⟩, .int .i64 0, .int .i64 0, .int .i64 0, .int .i64 0] 50))
  obtain ⟨gL, hgL⟩ : ∃ g, w.heap.size = g := ⟨_, rfl⟩
  have GL : Aside0 (w.heap.size ≤ gL) := ⟨by omega⟩
  generalize ((((w.alloc (.cells (langC vF (.slice M ms.length cm)) 45)).alloc (.cells #[.slice A t.length c] 26)).alloc (.cells #[.int .i64 (i : Int)] 3)).alloc (.cells #[.string ⟨#[]⟩, .bool false, .string ⟨#[]⟩, .int .i64 0, .int .i64 0, .int .i64 0, .int .i64 0] 50)) = w1 at HB KL KT KA KZ ⊢
  rw [hgL] at KL KT KA KZ ⊢
  clear hgL
  have l10 : w1.cell? ⟨gL, 10, none⟩ = some (.slice M ms.length cm) := (blk_cell KL.out 10).trans rfl
  go_wp2_with fail
  refine (index_calls (gL + 1) (gL + 1 + 1) A M c cm i t ms w1 HP.out.2.2.1 (Kd.C_below HRw.out HB.out) (Kd.C_below HMw.out HB.out) HP.out.2.2.2.2.1 HP.out.2.2.2.2.2 KT.out KA.out).mono ?_
  rintro e w2 ⟨rfl, hB⟩
  obtain ⟨ix, hix⟩ : ∃ ix, idxM (rd_T50 t (i : Int)).f0 ms 0 = ix := ⟨_, rfl⟩
  rw [hix]
  have hcase := idxM_lt (rd_T50 t (i : Int)).f0 ms 0
  rw [hix] at hcase
  have HIX := Aside0.mk hix
  obtain ⟨oI, hoI⟩ : ∃ o : Obj, o = .cells #[.int .i64 ix] 3 (0, 0) := ⟨_, rfl⟩
  have hb3 : Below w2.heap.size w2 (w2.alloc oI) := below_alloc (Below.refl _ _) _
  have hb13 := below_then hB hB.size hb3
  have HB3 := Aside0.mk (below_then HB.out HB.out.size hb13)
  have KL3 := Aside0.mk ((hb13.block _ (blk_lt KL.out)).trans KL.out)
  have KT3 := Aside0.mk ((hb13.block _ (blk_lt KT.out)).trans KT.out)
  have KA3 := Aside0.mk ((hb13.block _ (blk_lt KA.out)).trans KA.out)
  have KZ3 := Aside0.mk ((hb13.block _ (blk_lt KZ.out)).trans KZ.out)
  have KI3 := Aside0.mk ((heap_alloc_new w2 oI).trans (congrArg some hoI))
  clear hix hb3 hb13 hB HB KL KT KA KZ l10
  go_upto_region 2 with fail
  rw [← hoI]
  clear hoI
  obtain ⟨gI, hgI⟩ : ∃ g, w2.heap.size = g := ⟨_, rfl⟩
  generalize w2.alloc oI = w3 at HB3 KL3 KT3 KA3 KZ3 KI3 ⊢
  rw [hgI] at KI3 ⊢
  clear hgI
  have i0 : w3.cell? ⟨gI, 0, none⟩ = some (.int .i64 ix) := (blk_cell KI3.out 0).trans rfl
  have t0 : w3.cell? ⟨gL + 1, 0, none⟩ = some (.slice A t.length c) := (blk_cell KT3.out 0).trans rfl
  have a0 : w3.cell? ⟨gL + 1 + 1, 0, none⟩ = some (.int .i64 (i : Int)) := (blk_cell KA3.out 0).trans rfl
  obtain ⟨z0, z1, z2, z3, z4, z5, z6⟩ := zero7 KZ3.out
  have f0 := blk_frozen KZ3.out 0
  have f1 := blk_frozen KZ3.out 1
  have f2 := blk_frozen KZ3.out 2
  have f3 := blk_frozen KZ3.out 3
  have f4 := blk_frozen KZ3.out 4
  have f5 := blk_frozen KZ3.out 5
  have f6 := blk_frozen KZ3.out 6
  have hi := HP.out.2.2.1
  have hc := HP.out.1
  obtain ⟨ad, hA, y0, y1, y2, y3, y4, y5, y6⟩ := at_T50 (Kd.C_below HRw.out HB3.out) (i : Int) (by omega) (by omega)
  rw [Int.toNat_natCast] at y1
  have e3 : (i : Int) < (t.length : Int) := by omega
  obtain ⟨b, hb⟩ : ∃ b, (rd_T50 t (i : Int)).f1 = b := ⟨_, rfl⟩
  rw [hb] at y1
  have HBn := Aside0.mk hb
  subst hA
  clear y0 y2 y3 y4 y5 y6 hb hi hc
  rcases hcase with rfl | ⟨j, rfl, -, hjl⟩
  · have HV : Aside0 (symK ms t F i = none) := ⟨by unfold symK; rw [HIX.out, HBn.out]; cases b <;> rfl⟩
    go_wp2_with fail
    (try simp only [Exit.inBlock, Exit.then])
    refine bodyPost_ret (v := .tuple #[.agg #[.string ⟨#[]⟩, .bool false, .string ⟨#[]⟩, .int .i64 0, .int .i64 0, .int .i64 0, .int .i64 0], .bool false]) (by rw [results_cell_tmp (p := 6) (u := 7) (ty := 50) rfl]; first | (go_simp; done) | (go_simp; rfl)) rfl ?_
    exact ⟨by rw [HV.out]; rfl, below_sets7 HB3.out (by have := GL.out; omega) _ _ _ _ _ _ _⟩
  · have d1 : decide ((j : Int) < 0) = false := decide_eq_false (by omega)
    cases b with
    | false =>
      have HV : Aside0 (symK ms t F i = none) := ⟨by unfold symK; rw [HBn.out]; rfl⟩
      go_wp2_with fail
      (try simp only [Exit.inBlock, Exit.then])
      refine bodyPost_ret (v := .tuple #[.agg #[.string ⟨#[]⟩, .bool false, .string ⟨#[]⟩, .int .i64 0, .int .i64 0, .int .i64 0, .int .i64 0], .bool false]) (by rw [results_cell_tmp (p := 6) (u := 7) (ty := 50) rfl]; first | (go_simp; done) | (go_simp; rfl)) rfl ?_
      exact ⟨by rw [HV.out]; rfl, below_sets7 HB3.out (by have := GL.out; omega) _ _ _ _ _ _ _⟩
    | true =>
      have HV : Aside0 (symK ms t F i = kidK t (rdM ms j).2 (kidsF F i)) := ⟨by
        unfold symK
        rw [HBn.out, HIX.out, if_pos rfl, if_neg (by omega), Int.toNat_natCast]⟩
      go_wp2_with fail
      refine (child_calls gL gI vF (some ad) M c cm i j t F ms w3 HF.out HP.out.2.2.1 (Kd.C_below HRw.out HB3.out) HP.out.1 HP.out.2.1 HP.out.2.2.2.1 (by omega) (Kd.C_below HMw.out HB3.out) KL3.out KI3.out).mono ?_
      rintro e w4 ⟨rfl, hB⟩
      have HB4 := Aside0.mk (below_then HB3.out HB3.out.size hB)
      have KZ4 := (hB.block _ (blk_lt KZ3.out)).trans KZ3.out
      clear hB i0 t0 a0 z0 z1 z2 z3 z4 z5 z6 f0 f1 f2 f3 f4 f5 f6 y1
      obtain ⟨z0, z1, z2, z3, z4, z5, z6⟩ := zero7 KZ4
      have f0 := blk_frozen KZ4 0
      have f1 := blk_frozen KZ4 1
      have f2 := blk_frozen KZ4 2
      have f3 := blk_frozen KZ4 3
      have f4 := blk_frozen KZ4 4
      have f5 := blk_frozen KZ4 5
      have f6 := blk_frozen KZ4 6
      clear KZ4
      obtain ⟨r, hr⟩ : ∃ r, kidK t (rdM ms j).2 (kidsF F i) = r := ⟨_, rfl⟩
      rw [hr] at HV ⊢
      clear hr
      unfold ansV
      obtain ⟨y, hy⟩ : ∃ y, (r.map (rd_T50 t)).getD z50 = y := ⟨_, rfl⟩
      obtain ⟨q, hq⟩ : ∃ q, r.isSome = q := ⟨_, rfl⟩
      rw [hy, hq]
      have HY := Aside0.mk hy
      have HQ := Aside0.mk hq
      clear hy hq
      go_wp2_with fail
      (try simp only [Exit.inBlock, Exit.then])
      refine bodyPost_ret (v := .tuple #[nV y, .bool q]) (by rw [results_cell_tmp (p := 6) (u := 7) (ty := 50) rfl]; first | (go_simp; done) | (go_simp; rfl)) rfl ?_
      exact ⟨by rw [HV.out, ← HY.out, ← HQ.out]; rfl, below_sets7 HB4.out (by have := GL.out; omega) _ _ _ _ _ _ _⟩
end Go.Proofs.Ytknagjiipelfnaa.OL
