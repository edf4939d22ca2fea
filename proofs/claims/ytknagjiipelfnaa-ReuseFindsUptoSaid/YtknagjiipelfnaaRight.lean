/- reuse.right: is the result one of a text of so many bytes: what it answers. -/
import Derived.Test.YtknagjiipelfnaaBegin
namespace Go.Proofs.Ytknagjiipelfnaa.RU
open Go.RowKit Go.WideShapes Go.ChangeShapes Go.Proofs.YtknagjiipelfnaaW.PrintWords Go.Proofs.YtknagjiipelfnaaW.PrintLast Go.Proofs.YtknagjiipelfnaaW.PrintMore Go.Proofs.Ytknagjiipelfnaa.PAll
set_option linter.unusedVariables false

theorem w64 {a : Int} (h0 : -9223372036854775808 ≤ a) (h1 : a ≤ 9223372036854775807) : wrap64 a = a := by unfold wrap64; omega
def inB (z : Int) : Bool := decide (0 ≤ z) && decide (z ≤ 1048577)
def lfOk (x : S68) : Bool := inB x.f1 && (inB x.f2 && inB x.f3)
def rightL (n : Int) : Int → List S68 → Bool
  | _, [] => true
  | all, x :: r => lfOk x && (decide (all + (x.f1 + x.f2) ≤ n) && rightL n (all + (x.f1 + x.f2)) r)
def rightB (n : Int) (ls : List S68) : Bool := decide (0 ≤ n) && (decide (n ≤ 1048576) && rightL n 0 ls)
theorem rdL (l : List S68) (i : Nat) (h : i < l.length) : rd_T68 l (i : Int) = l[i] := by
  unfold rd_T68
  rw [Int.toNat_natCast, List.getD_eq_getElem?_getD, List.getElem?_eq_getElem h]
  rfl
theorem rightL_drop (n all : Int) (l : List S68) (i : Nat) (h : i < l.length) : rightL n all (l.drop i) = (lfOk l[i] && (decide (all + (l[i].f1 + l[i].f2) ≤ n) && rightL n (all + (l[i].f1 + l[i].f2)) (l.drop (i + 1)))) := by
  rw [List.drop_eq_getElem_cons h]
  rfl
theorem index3_0 (x y z : Value) (w : World) : Sem.run Try.prog (Instr.index 146 (.agg #[x, y, z]) (.int .i64 0)) w = .ok x w := by kernel_rfl
theorem index3_1 (x y z : Value) (w : World) : Sem.run Try.prog (Instr.index 146 (.agg #[x, y, z]) (.int .i64 1)) w = .ok y w := by kernel_rfl
theorem index3_2 (x y z : Value) (w : World) : Sem.run Try.prog (Instr.index 146 (.agg #[x, y, z]) (.int .i64 2)) w = .ok z w := by kernel_rfl
attribute [local go_sem] index3_0 index3_1 index3_2
theorem inB_no {z : Int} (h : inB z = false) : z < 0 ∨ 0 ≤ z ∧ 1048577 < z := by
  unfold inB at h
  by_cases h0 : 0 ≤ z
  · rw [decide_eq_true h0, Bool.true_and, decide_eq_false_iff_not] at h
    exact .inr ⟨h0, by omega⟩
  · exact .inl (by omega)
theorem inB_yes {z : Int} (h : inB z = true) : 0 ≤ z ∧ z ≤ 1048577 := by
  unfold inB at h
  rw [Bool.and_eq_true, decide_eq_true_eq, decide_eq_true_eq] at h
  exact h
set_option maxRecDepth 100000 in
set_option maxHeartbeats 8000000 in
theorem right_calls (n c a wt rt : Int) (A3 : Option Addr) (c3 : Nat) (V4 : Value) (ls : List S68) (w : World) (hr : Kd.C k68 w A3 ls.length ls) (hc : ls.length ≤ c3) (hl : ls.length ≤ 1048576) :
    Calls Try.prog 40 #[.int .i64 n, .agg #[.int .i64 c, .int .i64 a, .int .u64 wt, .slice A3 ls.length c3, V4, .int .i64 rt]] w fun e w' => e = .returned (.bool (rightB n ls)) ∧ Below w.heap.size w w' := by
  have hba : Below w.heap.size w (w.alloc (.cells #[.int .i64 c, .int .i64 a, .int .u64 wt, .slice A3 ls.length c3, V4, .int .i64 rt] 60)) := below_alloc (Below.refl _ _) _
  have HB := Aside0.mk hba
  have HC := Aside0.mk (Kd.C_below hr hba)
  have HK := Aside0.mk hc
  have HL := Aside0.mk hl
  clear hba hr hc hl
  have hu146 := Try.underlying146
  go_enter Try.func40, Try.ntmps40
  by_cases h0 : n < 0
  · have d0 : decide (n < 0) = true := decide_eq_true h0
    have HE : Aside0 (rightB n ls = false) := ⟨by unfold rightB; rw [decide_eq_false (by omega)]; rfl⟩
    clear h0
    go_wp2_with fail
    go_ret
    exact ⟨by rw [HE.out]; rfl, HB.out⟩
  have d0 : decide (n < 0) = false := decide_eq_false h0
  by_cases h1 : 1048576 < n
  · have d1 : decide (1048576 < n) = true := decide_eq_true h1
    have HE : Aside0 (rightB n ls = false) := ⟨by unfold rightB; rw [decide_eq_true (show 0 ≤ n by omega), decide_eq_false (by omega)]; rfl⟩
    clear h0 h1
    go_wp2_with fail
    go_ret
    exact ⟨by rw [HE.out]; rfl, HB.out⟩
  have d1 : decide (1048576 < n) = false := decide_eq_false h1
  have HN : Aside0 (0 ≤ n ∧ n ≤ 1048576) := ⟨by omega⟩
  have HE0 : Aside0 (rightB n ls = rightL n 0 ls) := ⟨by unfold rightB; rw [decide_eq_true (show 0 ≤ n by omega), decide_eq_true (show n ≤ 1048576 by omega)]; rfl⟩
  clear h0 h1
  go_wp2_with fail
  generalize w.alloc (.cells #[.int .i64 c, .int .i64 a, .int .u64 wt, .slice A3 ls.length c3, V4, .int .i64 rt] 60) = w0 at HB HC ⊢
  go_loopw [5, 7, 9, 19] (fun v5 v7 v9 v19 wr => ∃ (i : Nat) (all : Int), v5 = .int .i64 all ∧ v19 = .int .i64 (i : Int) ∧ i ≤ ls.length ∧ Aside0 (0 ≤ all ∧ all ≤ n) ∧ Aside0 (rightL n 0 ls = rightL n all (ls.drop i)) ∧ Aside0 (Below w.heap.size w wr) ∧ Aside0 (Kd.C k68 wr A3 ls.length ls)) (fun _ _ _ v19 _ => ls.length - (intOf v19).toNat)
  case atStart => exact ⟨0, 0, rfl, rfl, by omega, ⟨by have := HN.out; omega⟩, ⟨by rw [List.drop_zero]⟩, HB, HC⟩
  case round =>
    obtain ⟨i, all, rfl, rfl, hi, HA, HR, HBr, HCr⟩ := hrel
    clear HB HC
    by_cases hlt : i < ls.length
    · have e1 : decide ((i : Int) < (ls.length : Int)) = true := decide_eq_true (by omega)
      have e2 : decide (i < ls.length) = true := decide_eq_true hlt
      have e3 : (i : Int) < (ls.length : Int) := by omega
      have HI := Aside0.mk hlt
      obtain ⟨ad, hA, z0, z1, z2, z3, z4, z5⟩ := at_T68 HCr.out (i : Int) (by omega) (by omega)
      have hd := rightL_drop n all ls i hlt
      rw [rdL ls i hlt, Int.toNat_natCast] at z0 z1 z2 z3 z4 z5
      obtain ⟨x, hx⟩ : ∃ x, x = ls[i] := ⟨_, rfl⟩
      rw [← hx] at z0 z1 z2 z3 z4 z5 hd
      have HD := Aside0.mk hd

      have hll := HL.out
      have hkk := HK.out
      obtain ⟨x0, x1, x2, x3, x4, x5⟩ := x
      subst hA
      clear hx hlt hi hd
      cases hk1 : inB x1 with
      | false =>
        have HE : Aside0 (rightL n 0 ls = false) := ⟨by rw [HR.out, HD.out]; unfold lfOk; dsimp only; rw [hk1]; rfl⟩
        rcases inB_no hk1 with h | ⟨h, h'⟩
        · have f1 : decide (x1 < 0) = true := decide_eq_true h
          clear h hk1
          go_wp2_with fail
          refine wp_loop_rounds 4 ?_
          rw [rounds_succ]
          go_wp2_with fail
          go_ret
          exact ⟨by rw [HE0.out, HE.out]; rfl, by have := HBr.out; repeat (first | exact this | apply below_alloc)⟩
        · have f1 : decide (x1 < 0) = false := decide_eq_false (by omega)
          have f2 : decide (1048577 < x1) = true := decide_eq_true h'
          clear h h' hk1
          go_wp2_with fail
          refine wp_loop_rounds 4 ?_
          rw [rounds_succ]
          go_wp2_with fail
          go_ret
          exact ⟨by rw [HE0.out, HE.out]; rfl, by have := HBr.out; repeat (first | exact this | apply below_alloc)⟩
      | true =>
        have b1 := inB_yes hk1
        have f1 : decide (x1 < 0) = false := decide_eq_false (by omega)
        have f2 : decide (1048577 < x1) = false := decide_eq_false (by omega)
        cases hk2 : inB x2 with
        | false =>
          have HE : Aside0 (rightL n 0 ls = false) := ⟨by rw [HR.out, HD.out]; unfold lfOk; dsimp only; rw [hk1, hk2]; rfl⟩
          clear b1
          rcases inB_no hk2 with h | ⟨h, h'⟩
          · have f3 : decide (x2 < 0) = true := decide_eq_true h
            clear h hk1 hk2
            go_wp2_with fail
            refine wp_loop_rounds 4 ?_
            rw [rounds_succ]
            go_wp2_with fail
            rw [rounds_succ]
            go_wp2_with fail
            go_ret
            exact ⟨by rw [HE0.out, HE.out]; rfl, by have := HBr.out; repeat (first | exact this | apply below_alloc)⟩
          · have f3 : decide (x2 < 0) = false := decide_eq_false (by omega)
            have f4 : decide (1048577 < x2) = true := decide_eq_true h'
            clear h h' hk1 hk2
            go_wp2_with fail
            refine wp_loop_rounds 4 ?_
            rw [rounds_succ]
            go_wp2_with fail
            rw [rounds_succ]
            go_wp2_with fail
            go_ret
            exact ⟨by rw [HE0.out, HE.out]; rfl, by have := HBr.out; repeat (first | exact this | apply below_alloc)⟩
        | true =>
          have b2 := inB_yes hk2
          have f3 : decide (x2 < 0) = false := decide_eq_false (by omega)
          have f4 : decide (1048577 < x2) = false := decide_eq_false (by omega)
          cases hk3 : inB x3 with
          | false =>
            have HE : Aside0 (rightL n 0 ls = false) := ⟨by rw [HR.out, HD.out]; unfold lfOk; dsimp only; rw [hk1, hk2, hk3]; rfl⟩
            clear b1 b2
            rcases inB_no hk3 with h | ⟨h, h'⟩
            · have f5 : decide (x3 < 0) = true := decide_eq_true h
              clear h hk1 hk2 hk3
              go_wp2_with fail
              refine wp_loop_rounds 4 ?_
              rw [rounds_succ]
              go_wp2_with fail
              rw [rounds_succ]
              go_wp2_with fail
              rw [rounds_succ]
              go_wp2_with fail
              go_ret
              exact ⟨by rw [HE0.out, HE.out]; rfl, by have := HBr.out; repeat (first | exact this | apply below_alloc)⟩
            · have f5 : decide (x3 < 0) = false := decide_eq_false (by omega)
              have f6 : decide (1048577 < x3) = true := decide_eq_true h'
              clear h h' hk1 hk2 hk3
              go_wp2_with fail
              refine wp_loop_rounds 4 ?_
              rw [rounds_succ]
              go_wp2_with fail
              rw [rounds_succ]
              go_wp2_with fail
              rw [rounds_succ]
              go_wp2_with fail
              go_ret
              exact ⟨by rw [HE0.out, HE.out]; rfl, by have := HBr.out; repeat (first | exact this | apply below_alloc)⟩
          | true =>
            have b3 := inB_yes hk3
            have f5 : decide (x3 < 0) = false := decide_eq_false (by omega)
            have f6 : decide (1048577 < x3) = false := decide_eq_false (by omega)
            have HE : Aside0 (rightL n 0 ls = (decide (all + (x1 + x2) ≤ n) && rightL n (all + (x1 + x2)) (ls.drop (i + 1)))) := ⟨by rw [HR.out, HD.out]; unfold lfOk; dsimp only; rw [hk1, hk2, hk3]; rfl⟩
            have ha := HA.out
            have hn := HN.out
            have g1 : IntKind.i64.wrap (x1 + x2) = x1 + x2 := (i64_w _).trans (w64 (by omega) (by omega))
            have g2 : IntKind.i64.wrap (all + (x1 + x2)) = all + (x1 + x2) := (i64_w _).trans (w64 (by omega) (by omega))
            by_cases hs : n < all + (x1 + x2)
            · have f7 : decide (n < all + (x1 + x2)) = true := decide_eq_true hs
              have HE2 : Aside0 (rightL n 0 ls = false) := ⟨by rw [HE.out, decide_eq_false (by omega)]; rfl⟩
              clear HE ha hn b1 b2 b3 hk1 hk2 hk3 hs
              go_wp2_with fail
              refine wp_loop_rounds 4 ?_
              rw [rounds_succ]
              go_wp2_with fail
              rw [rounds_succ]
              go_wp2_with fail
              rw [rounds_succ]
              go_wp2_with fail
              rw [rounds_succ]
              go_wp2_with fail
              go_ret
              exact ⟨by rw [HE0.out, HE2.out]; rfl, by have := HBr.out; repeat (first | exact this | apply below_alloc)⟩
            · have f7 : decide (n < all + (x1 + x2)) = false := decide_eq_false hs
              have HE2 : Aside0 (rightL n 0 ls = rightL n (all + (x1 + x2)) (ls.drop (i + 1))) := ⟨by rw [HE.out, decide_eq_true (by omega)]; rfl⟩
              have HS : Aside0 (0 ≤ all + (x1 + x2) ∧ all + (x1 + x2) ≤ n) := ⟨by omega⟩
              clear HE ha hn b1 b2 b3 hk1 hk2 hk3 hs
              go_wp2_with fail
              refine wp_loop_rounds 4 ?_
              rw [rounds_succ]
              go_wp2_with fail
              rw [rounds_succ]
              go_wp2_with fail
              rw [rounds_succ]
              go_wp2_with fail
              rw [rounds_succ]
              go_wp2_with fail
              have hba : Below wr.heap.size wr (wr.alloc (.cells #[.int .i64 x0, .int .i64 x1, .int .i64 x2, .int .i64 x3, .int .u64 x4, .string x5] 68)) := below_alloc (Below.refl _ _) _
              have HB2 := Aside0.mk (below_then HBr.out HBr.out.size hba)
              have HC2 := Aside0.mk (Kd.C_below HCr.out hba)
              clear hba
              go_roundw
              case measure => first | omega | (simp [intOf]; have := HI.out; omega)
              case rel => exact ⟨i + 1, all + (x1 + x2), by first | rfl | congr 1, by first | rfl | congr 1, by have := HI.out; omega, HS, HE2, HB2, HC2⟩
    · have e1 : decide ((i : Int) < (ls.length : Int)) = false := decide_eq_false (by omega)
      have e2 : decide (i < ls.length) = false := decide_eq_false hlt
      have HE : Aside0 (rightL n 0 ls = true) := ⟨by rw [HR.out, List.drop_eq_nil_of_le (by omega)]; rfl⟩
      clear hlt
      go_wp2_with fail
      go_ret
      exact ⟨by rw [HE0.out, HE.out]; rfl, HBr.out⟩
end Go.Proofs.Ytknagjiipelfnaa.RU
