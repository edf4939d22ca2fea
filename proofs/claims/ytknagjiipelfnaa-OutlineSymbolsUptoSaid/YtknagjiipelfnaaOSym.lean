/- outline.symbol: the child that says what a node is called. -/
import Derived.Test.YtknagjiipelfnaaChild
namespace Go.Proofs.Ytknagjiipelfnaa.OL
open Go.RowKit Go.WideShapes Go.ChangeShapes Go.Proofs.YtknagjiipelfnaaW.PrintWords Go.Proofs.YtknagjiipelfnaaW.PrintLast Go.Proofs.YtknagjiipelfnaaW.PrintMore Go.Proofs.Ytknagjiipelfnaa.PAll
set_option linter.unusedVariables false

section
variable (w0 : World) (o1 o2 o3 o4 : Obj)
theorem four0 : ((((w0.alloc o1).alloc o2).alloc o3).alloc o4).heap[w0.heap.size]? = some o1 := by
  have h := three0 w0 o1 o2 o3
  exact ((below_alloc (Below.refl _ _) o4 : Below _ (((w0.alloc o1).alloc o2).alloc o3) _).block _ (blk_lt (w := ((w0.alloc o1).alloc o2).alloc o3) h)).trans h
theorem four1 : ((((w0.alloc o1).alloc o2).alloc o3).alloc o4).heap[w0.heap.size + 1]? = some o2 := by
  have h := three1 w0 o1 o2 o3
  exact ((below_alloc (Below.refl _ _) o4 : Below _ (((w0.alloc o1).alloc o2).alloc o3) _).block _ (blk_lt (w := ((w0.alloc o1).alloc o2).alloc o3) h)).trans h
theorem four2 : ((((w0.alloc o1).alloc o2).alloc o3).alloc o4).heap[w0.heap.size + 1 + 1]? = some o3 := by
  have h := three2 w0 o1 o2 o3
  exact ((below_alloc (Below.refl _ _) o4 : Below _ (((w0.alloc o1).alloc o2).alloc o3) _).block _ (blk_lt (w := ((w0.alloc o1).alloc o2).alloc o3) h)).trans h
theorem four3 : ((((w0.alloc o1).alloc o2).alloc o3).alloc o4).heap[w0.heap.size + 1 + 1 + 1]? = some o4 := by
  have h := heap_alloc_new (((w0.alloc o1).alloc o2).alloc o3) o4
  simpa using h
theorem fourB : Below w0.heap.size w0 ((((w0.alloc o1).alloc o2).alloc o3).alloc o4) := below_alloc (below_alloc (below_alloc (below_alloc (Below.refl _ _) _) _) _) _
end
/-- The child that says what the node at a place is called. -/
def symK (ms : List Mk) (t : List S50) (F : List S143) (i : Nat) : Option Int :=
  if (rd_T50 t (i : Int)).f1 = true then
    (if idxM (rd_T50 t (i : Int)).f0 ms 0 < 0 then none else kidK t (rdM ms (idxM (rd_T50 t (i : Int)).f0 ms 0).toNat).2 (kidsF F i)) else none
set_option maxRecDepth 100000 in
set_option maxHeartbeats 8000000 in
theorem symbol_calls (vF : Value) (A M : Option Addr) (c cm i : Nat) (t : List S50) (F : List S143) (ms : List Mk) (w : World) (hF : Fo t 0 F) (hi : i < t.length) (hr : Kd.C k50 w A t.length t) (hc : t.length ≤ c) (hl : t.length ≤ 1048576) (hk : ∀ x ∈ t, x.f5 ≤ 9223372036854775807)
    (hm : Kd.C k129 w M ms.length ms) (hmc : ms.length ≤ cm) (hml : ms.length ≤ 1048576) :
    Calls Try.prog 34 #[.agg (langC vF (.slice M ms.length cm)), .slice A t.length c, .int .i64 (i : Int)] w fun e w' => e = .returned (ansV t (symK ms t F i)) ∧ Below w.heap.size w w' := by
  have HF := Aside0.mk hF
  have HRw := Aside0.mk hr
  have HMw := Aside0.mk hm
  have HP := Aside0.mk (And.intro hc (And.intro hl (And.intro hi (And.intro hk (And.intro hmc hml)))))
  clear hF hr hm hc hl hi hk hmc hml
  go_enter Try.func34, Try.ntmps34
  go_upto_region 1 with fail
  have HB := Aside0.mk (fourB w (.cells (langC vF (.slice M ms.length cm)) 45) (.cells #[.slice A t.length c] 26) (.cells #[.int .i64 (i : Int)] 3) (.cells #[.string ⟨#[]⟩, .bool false, .string ⟨#[]⟩, .int .i64 0, .int .i64 0, .int .i64 0, .int .i64 0] 50))
  have KL := Aside0.mk (four0 w (.cells (langC vF (.slice M ms.length cm)) 45) (.cells #[.slice A t.length c] 26) (.cells #[.int .i64 (i : Int)] 3) (.cells #[.string ⟨#[]⟩, .bool false, .string ⟨#[]⟩, .int .i64 0, .int .i64 0, .int .i64 0, .int .i64 0] 50))
  have KT := Aside0.mk (four1 w (.cells (langC vF (.slice M ms.length cm)) 45) (.cells #[.slice A t.length c] 26) (.cells #[.int .i64 (i : Int)] 3) (.cells #[.string ⟨#[]⟩, .bool false, .string ⟨#[]⟩, .int .i64 0, .int .i64 0, .int .i64 0, .int .i64 0] 50))
  have KA := Aside0.mk (four2 w (.cells (langC vF (.slice M ms.length cm)) 45) (.cells #[.slice A t.length c] 26) (.cells #[.int .i64 (i : Int)] 3) (.cells #[.string ⟨#[]⟩, .bool false, .string ⟨#[]⟩, .int .i64 0, .int .i64 0, .int .i64 0, .int .i64 0] 50))
  have KZ := Aside0.mk (four3 w (.cells (langC vF (.slice M ms.length cm)) 45) (.cells #[.slice A t.length c] 26) (.cells #[.int .i64 (i : Int)] 3) (.cells #[.string ⟨#[]⟩, .bool false, .string ⟨#[]⟩, .int .i64 0, .int .i64 0, .int .i64 0, .int .i64 0] 50))
  obtain ⟨gL, hgL⟩ : ∃ g, w.heap.size = g := ⟨_, rfl⟩
  have GL : Aside0 (w.heap.size ≤ gL) := ⟨by omega⟩
  generalize ((((w.alloc (.cells (langC vF (.slice M ms.length cm)) 45)).alloc (.cells #[.slice A t.length c] 26)).alloc (.cells #[.int .i64 (i : Int)] 3)).alloc (.cells #[.string ⟨#[]⟩, .bool false, .string ⟨#[]⟩, .int .i64 0, .int .i64 0, .int .i64 0, .int .i64 0] 50)) = w1 at HB KL KT KA KZ ⊢
  rw [hgL] at KL KT KA KZ ⊢
  clear hgL
  have l10 : w1.cell? ⟨gL, 10, none⟩ = some (.slice M ms.length cm) := (blk_cell KL.out 10).trans rfl
  go_wp2_with fail
  refine (index_calls (gL + 1) (gL + 1 + 1) A M c cm i t ms w1 HP.out.2.2.1 (Kd.C_below HRw.out HB.out) (Kd.C_below HMw.out HB.out) HP.out.2.2.2.2.1 HP.out.2.2.2.2.2 KT.out KA.out).mono ?_
  rintro e w2 ⟨rfl, hB⟩
  obtain ⟨ix, hix⟩ : ∃ ix, idxM (rd_T50 t (i : Int)).f0 ms 0 = ix := ⟨_, rfl⟩
  rw [hix]
  have hcase := idxM_lt (rd_T50 t (i : Int)).f0 ms 0
  rw [hix] at hcase
  have HIX := Aside0.mk hix
  obtain ⟨oI, hoI⟩ : ∃ o : Obj, o = .cells #[.int .i64 ix] 3 (0, 0) := ⟨_, rfl⟩
  have hb3 : Below w2.heap.size w2 (w2.alloc oI) := below_alloc (Below.refl _ _) _
  have hb13 := below_then hB hB.size hb3
  have HB3 := Aside0.mk (below_then HB.out HB.out.size hb13)
  have KL3 := Aside0.mk ((hb13.block _ (blk_lt KL.out)).trans KL.out)
  have KT3 := Aside0.mk ((hb13.block _ (blk_lt KT.out)).trans KT.out)
  have KA3 := Aside0.mk ((hb13.block _ (blk_lt KA.out)).trans KA.out)
  have KZ3 := Aside0.mk ((hb13.block _ (blk_lt KZ.out)).trans KZ.out)
  have KI3 := Aside0.mk ((heap_alloc_new w2 oI).trans (congrArg some hoI))
  clear hix hb3 hb13 hB HB KL KT KA KZ l10
  go_upto_region 2 with fail
  rw [← hoI]
  clear hoI
  obtain ⟨gI, hgI⟩ : ∃ g, w2.heap.size = g := ⟨_, rfl⟩
  generalize w2.alloc oI = w3 at HB3 KL3 KT3 KA3 KZ3 KI3 ⊢
  rw [hgI] at KI3 ⊢
  clear hgI
  have i0 : w3.cell? ⟨gI, 0, none⟩ = some (.int .i64 ix) := (blk_cell KI3.out 0).trans rfl
  have t0 : w3.cell? ⟨gL + 1, 0, none⟩ = some (.slice A t.length c) := (blk_cell KT3.out 0).trans rfl
  have a0 : w3.cell? ⟨gL + 1 + 1, 0, none⟩ = some (.int .i64 (i : Int)) := (blk_cell KA3.out 0).trans rfl
  obtain ⟨z0, z1, z2, z3, z4, z5, z6⟩ := zero7 KZ3.out
  have f0 := blk_frozen KZ3.out 0
  have f1 := blk_frozen KZ3.out 1
  have f2 := blk_frozen KZ3.out 2
  have f3 := blk_frozen KZ3.out 3
  have f4 := blk_frozen KZ3.out 4
  have f5 := blk_frozen KZ3.out 5
  have f6 := blk_frozen KZ3.out 6
  have hi := HP.out.2.2.1
  have hc := HP.out.1
  obtain ⟨ad, hA, y0, y1, y2, y3, y4, y5, y6⟩ := at_T50 (Kd.C_below HRw.out HB3.out) (i : Int) (by omega) (by omega)
  rw [Int.toNat_natCast] at y1
  have e3 : (i : Int) < (t.length : Int) := by omega
  obtain ⟨b, hb⟩ : ∃ b, (rd_T50 t (i : Int)).f1 = b := ⟨_, rfl⟩
  rw [hb] at y1
  have HBn := Aside0.mk hb
  subst hA
  clear y0 y2 y3 y4 y5 y6 hb hi hc
  rcases hcase with rfl | ⟨j, rfl, -, hjl⟩
  · have HV : Aside0 (symK ms t F i = none) := ⟨by unfold symK; rw [HIX.out, HBn.out]; cases b <;> rfl⟩
    go_wp2_with fail
    (try simp only [Exit.inBlock, Exit.then])
    refine bodyPost_ret (v := .tuple #[.agg #[.string ⟨#[]⟩, .bool false, .string ⟨#[]⟩, .int .i64 0, .int .i64 0, .int .i64 0, .int .i64 0], .bool false]) (by rw [results_cell_tmp (p := 6) (u := 7) (ty := 50) rfl]; first | (go_simp; done) | (go_simp; rfl)) rfl ?_
    exact ⟨by rw [HV.out]; rfl, below_sets7 HB3.out (by have := GL.out; omega) _ _ _ _ _ _ _⟩
  · have d1 : decide ((j : Int) < 0) = false := decide_eq_false (by omega)
    cases b with
    | false =>
      have HV : Aside0 (symK ms t F i = none) := ⟨by unfold symK; rw [HBn.out]; rfl⟩
      go_wp2_with fail
      (try simp only [Exit.inBlock, Exit.then])
      refine bodyPost_ret (v := .tuple #[.agg #[.string ⟨#[]⟩, .bool false, .string ⟨#[]⟩, .int .i64 0, .int .i64 0, .int .i64 0, .int .i64 0], .bool false]) (by rw [results_cell_tmp (p := 6) (u := 7) (ty := 50) rfl]; first | (go_simp; done) | (go_simp; rfl)) rfl ?_
      exact ⟨by rw [HV.out]; rfl, below_sets7 HB3.out (by have := GL.out; omega) _ _ _ _ _ _ _⟩
    | true =>
      have HV : Aside0 (symK ms t F i = kidK t (rdM ms j).2 (kidsF F i)) := ⟨by
        unfold symK
        rw [HBn.out, HIX.out, if_pos rfl, if_neg (by omega), Int.toNat_natCast]⟩
      go_wp2_with fail
      refine (child_calls gL gI vF (some ad) M c cm i j t F ms w3 HF.out HP.out.2.2.1 (Kd.C_below HRw.out HB3.out) HP.out.1 HP.out.2.1 HP.out.2.2.2.1 (by omega) (Kd.C_below HMw.out HB3.out) KL3.out KI3.out).mono ?_
      rintro e w4 ⟨rfl, hB⟩
      have HB4 := Aside0.mk (below_then HB3.out HB3.out.size hB)
      have KZ4 := (hB.block _ (blk_lt KZ3.out)).trans KZ3.out
      clear hB i0 t0 a0 z0 z1 z2 z3 z4 z5 z6 f0 f1 f2 f3 f4 f5 f6 y1
      obtain ⟨z0, z1, z2, z3, z4, z5, z6⟩ := zero7 KZ4
      have f0 := blk_frozen KZ4 0
      have f1 := blk_frozen KZ4 1
      have f2 := blk_frozen KZ4 2
      have f3 := blk_frozen KZ4 3
      have f4 := blk_frozen KZ4 4
      have f5 := blk_frozen KZ4 5
      have f6 := blk_frozen KZ4 6
      clear KZ4
      obtain ⟨r, hr⟩ : ∃ r, kidK t (rdM ms j).2 (kidsF F i) = r := ⟨_, rfl⟩
      rw [hr] at HV ⊢
      clear hr
      unfold ansV
      obtain ⟨y, hy⟩ : ∃ y, (r.map (rd_T50 t)).getD z50 = y := ⟨_, rfl⟩
      obtain ⟨q, hq⟩ : ∃ q, r.isSome = q := ⟨_, rfl⟩
      rw [hy, hq]
      have HY := Aside0.mk hy
      have HQ := Aside0.mk hq
      clear hy hq
      go_wp2_with fail
      (try simp only [Exit.inBlock, Exit.then])
      refine bodyPost_ret (v := .tuple #[nV y, .bool q]) (by rw [results_cell_tmp (p := 6) (u := 7) (ty := 50) rfl]; first | (go_simp; done) | (go_simp; rfl)) rfl ?_
      exact ⟨by rw [HV.out, ← HY.out, ← HQ.out]; rfl, below_sets7 HB4.out (by have := GL.out; omega) _ _ _ _ _ _ _⟩
end Go.Proofs.Ytknagjiipelfnaa.OL
