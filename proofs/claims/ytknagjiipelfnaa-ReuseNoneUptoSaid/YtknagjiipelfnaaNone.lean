/- ReuseNone: of a row that is not right nothing stands; nothing is found under a valid set that no leaf has. -/
import Derived.Test.YtknagjiipelfnaaTwin
import Derived.Deep.RegionLaw
namespace Go.Proofs.Ytknagjiipelfnaa.RU
open Go.RowKit Go.WideShapes Go.ChangeShapes Go.Proofs.YtknagjiipelfnaaW.PrintWords Go.Proofs.YtknagjiipelfnaaW.PrintLast Go.Proofs.YtknagjiipelfnaaW.PrintMore Go.Proofs.Ytknagjiipelfnaa.PAll
set_option linter.unusedVariables false

theorem gAt_mem (ls : List S68) (a d s : Int) : ∀ (k : Nat) (p : Int) (x : St), x ∈ gAt ls a d s k p → ∃ j : Nat, j < k ∧ x.2 = rd_T68 ls (j : Int) := by
  intro k
  induction k with
  | zero => intro p x hx; cases hx
  | succ k ih =>
    intro p x hx
    rw [gAt, List.mem_append] at hx
    rcases hx with hx | hx
    · obtain ⟨j, hj, he⟩ := ih p x hx
      exact ⟨j, by omega, he⟩
    · split at hx
      · rw [List.mem_singleton] at hx
        exact ⟨k, by omega, by rw [hx]⟩
      · cases hx
theorem findO_none_go (bef : ByteArray) (val : Int) (xs : List St) : ∀ (r k : Nat), (∀ j, k ≤ j → j < k + r → hitO bef val (rdSt xs j) = false) → findO bef val xs r k = none := by
  intro r
  induction r with
  | zero => intro k _; rfl
  | succ r ih =>
    intro k h
    rw [findO, if_neg (by rw [h k (Nat.le_refl _) (by omega)]; decide)]
    exact ih (k + 1) (fun j h1 h2 => h j (by omega) (by omega))
theorem findO_none (bef : ByteArray) (val : Int) (xs : List St) (h : ∀ x ∈ xs, x.2.f4 ≠ val) : findO bef val xs xs.length 0 = none := by
  refine findO_none_go bef val xs _ _ (fun j _ h2 => ?_)
  have hj : j < xs.length := by omega
  have hm : rdSt xs j ∈ xs := by
    unfold rdSt
    rw [List.getD_eq_getElem?_getD, List.getElem?_eq_getElem hj]
    exact List.getElem_mem hj
  unfold hitO
  rw [eqI_ne (h _ hm), Bool.and_false]
theorem mLs_mem {n : Int} {ls : List S68} : ∀ j : Nat, j < (mLs n ls).length → ∃ k : Nat, k < ls.length ∧ rd_T68 (mLs n ls) (j : Int) = rd_T68 ls (k : Int) := by
  intro j hj
  unfold mLs at hj ⊢
  split
  · rename_i h
    rw [if_pos h] at hj
    exact ⟨j, hj, rfl⟩
  · rename_i h
    rw [if_neg h] at hj
    cases hj
theorem no_valid (n : Int) (ls : List S68) (a d s p val : Int) (bef : ByteArray) (h : ∀ k : Nat, k < ls.length → (rd_T68 ls (k : Int)).f4 ≠ val) :
    findO bef val (gAt (mLs n ls) a d s (mLs n ls).length p) (gAt (mLs n ls) a d s (mLs n ls).length p).length 0 = none := by
  refine findO_none _ _ _ (fun x hx => ?_)
  obtain ⟨j, hj, he⟩ := gAt_mem _ _ _ _ _ _ _ hx
  obtain ⟨k, hk, hk2⟩ := mLs_mem j hj
  rw [he, hk2]
  exact h k hk
theorem no_right {n : Int} {ls : List S68} (h : rightB n ls = false) (a d s p val : Int) (bef : ByteArray) :
    findO bef val (gAt (mLs n ls) a d s (mLs n ls).length p) (gAt (mLs n ls) a d s (mLs n ls).length p).length 0 = none ∧ standN (mLs n ls) a d (mLs n ls).length = 0 := by
  have e : mLs n ls = [] := by unfold mLs; rw [h]; rfl
  rw [e]
  exact ⟨rfl, rfl⟩
structure NoneI (n : Int) (ls : List S68) (i : Nat) (b : Bool) (sm : Int) : Prop where
  bad : b = true → rightB n ls = false
  ok : b = false → (0 ≤ n ∧ n ≤ 1048576) ∧ sm = begN ls i ∧ 0 ≤ sm ∧ sm ≤ n
theorem NoneI.start (n : Int) (ls : List S68) : NoneI n ls 0 (decide (n < 0) || decide (1048576 < n)) 0 where
  bad h := by
    unfold rightB
    rcases Bool.or_eq_true _ _ |>.mp h with h | h
    · rw [decide_eq_false (by have := of_decide_eq_true h; omega : ¬ 0 ≤ n)]; rfl
    · rw [decide_eq_false (by have := of_decide_eq_true h; omega : ¬ n ≤ 1048576)]; simp
  ok h := by
    rw [Bool.or_eq_false_iff] at h
    have h1 := of_decide_eq_false h.1
    have h2 := of_decide_eq_false h.2
    exact ⟨⟨by omega, by omega⟩, rfl, by omega, by omega⟩
theorem right_leaf {n : Int} {ls : List S68} (h : rightB n ls = true) (i : Nat) (hi : i < ls.length) : lfOk (rd_T68 ls (i : Int)) = true ∧ begN ls (i + 1) ≤ n := by
  obtain ⟨h0, h1⟩ := right_n h
  obtain ⟨h2, h3⟩ := rightL_facts n ls 0 (by omega) (by omega) h1
  refine ⟨h2 _ ?_, by have := (h3 (i + 1) (by omega)).2; omega⟩
  rw [rdL ls i hi]
  exact List.getElem_mem hi
theorem NoneI.worse {n : Int} {ls : List S68} {i : Nat} {b : Bool} {sm : Int} (h : NoneI n ls i b sm) (hi : i < ls.length) (hb : (b || !(lfOk (rd_T68 ls (i : Int)))) = true) : NoneI n ls (i + 1) true sm where
  bad _ := by
    rcases Bool.or_eq_true _ _ |>.mp hb with h1 | h1
    · exact h.bad h1
    · cases hr : rightB n ls with
      | false => rfl
      | true =>
        rw [(right_leaf hr i hi).1] at h1
        cases h1
  ok h' := by cases h'
theorem NoneI.on {n : Int} {ls : List S68} {i : Nat} {b : Bool} {sm : Int} (h : NoneI n ls i b sm) (hi : i < ls.length) (hb : (b || !(lfOk (rd_T68 ls (i : Int)))) = false) :
    ((0 ≤ sm ∧ sm ≤ 1048576) ∧ (0 ≤ (rd_T68 ls (i : Int)).f1 ∧ (rd_T68 ls (i : Int)).f1 ≤ 1048577) ∧ (0 ≤ (rd_T68 ls (i : Int)).f2 ∧ (rd_T68 ls (i : Int)).f2 ≤ 1048577)) ∧ NoneI n ls (i + 1) (decide (n < sm + (rd_T68 ls (i : Int)).f1 + (rd_T68 ls (i : Int)).f2)) (sm + (rd_T68 ls (i : Int)).f1 + (rd_T68 ls (i : Int)).f2) := by
  rw [Bool.or_eq_false_iff] at hb
  obtain ⟨h0, h1, h2, h3⟩ := h.ok hb.1
  have hk : lfOk (rd_T68 ls (i : Int)) = true := by
    have := hb.2
    cases hq : lfOk (rd_T68 ls (i : Int)) with
    | true => rfl
    | false => rw [hq] at this; cases this
  obtain ⟨f1, f2, f3⟩ := lfOk_of hk
  have hbs := begN_succ ls i
  refine ⟨⟨⟨h2, by omega⟩, f1, f2⟩, ⟨fun hq => ?_, fun hq => ?_⟩⟩
  · have hq := of_decide_eq_true hq
    cases hr : rightB n ls with
    | false => rfl
    | true =>
      have := (right_leaf hr i hi).2
      omega
  · have hq := of_decide_eq_false hq
    exact ⟨h0, by omega, by omega, by omega⟩
theorem mLs_len {n : Int} {ls : List S68} (hl : ls.length ≤ 1048576) : (mLs n ls).length ≤ 1048576 := by
  unfold mLs
  split
  · exact hl
  · decide
theorem zero_cells {w : World} {g : Nat} (h : w.heap[g]? = some (lfC z68)) : w.cell? ⟨g, 0, none⟩ = some (.int .i64 0) ∧ w.cell? ⟨g, 1, none⟩ = some (.int .i64 0) ∧ w.cell? ⟨g, 2, none⟩ = some (.int .i64 0) ∧ w.cell? ⟨g, 3, none⟩ = some (.int .i64 0) ∧ w.cell? ⟨g, 4, none⟩ = some (.int .u64 0) ∧ w.cell? ⟨g, 5, none⟩ = some (.string ⟨#[]⟩) :=
  ⟨(blk_cell h 0).trans rfl, (blk_cell h 1).trans rfl, (blk_cell h 2).trans rfl, (blk_cell h 3).trans rfl, (blk_cell h 4).trans rfl, (blk_cell h 5).trans rfl⟩
set_option maxRecDepth 100000 in
set_option maxHeartbeats 16000000 in
theorem ReuseNone_calls (n ea ed p val : Int) (es bef : ByteArray) (A1 : Option Addr) (c1 : Nat) (ls : List S68) (w : World) (hr : Kd.C k68 w A1 ls.length ls) (hc : ls.length ≤ c1) (hl : ls.length ≤ 1048576) (hs : es.size ≤ 1048576) (hp : (Lit.int .i64 p).wf = true) :
    Calls Try.prog 5 #[.int .i64 n, .slice A1 ls.length c1, .agg #[.int .i64 ea, .int .i64 ed, .string es], .int .i64 p, .string bef, .int .u64 val] w fun e w' => e = .returned (.bool true) ∧ Below w.heap.size w w' := by
  obtain ⟨oE, hoE⟩ : ∃ o : Obj, o = .cells #[.int .i64 ea, .int .i64 ed, .string es] 54 (0, 0) := ⟨_, rfl⟩
  have hba : Below w.heap.size w (w.alloc oE) := below_alloc (Below.refl _ _) _
  have KE := Aside0.mk ((heap_alloc_new w oE).trans (congrArg some hoE))
  have HB := Aside0.mk hba
  have H1 := Aside0.mk (Kd.C_below hr hba)
  have H1w := Aside0.mk hr
  have HP := Aside0.mk (And.intro hc (And.intro hl (And.intro hs hp)))
  clear hba hr hc hl hs hp
  go_enter Try.func5, Try.ntmps5
  go_wp2_with fail
  rw [← hoE]
  clear hoE
  obtain ⟨g8, hg8⟩ : ∃ g, w.heap.size = g := ⟨_, rfl⟩
  generalize w.alloc oE = w0 at KE HB H1 ⊢
  rw [hg8] at KE ⊢
  clear hg8
  refine (started_calls w0).mono ?_
  rintro e w1 ⟨rfl, hB⟩
  have KE1 := Aside0.mk ((hB.block _ (blk_lt KE.out)).trans KE.out)
  have HB1 := Aside0.mk (below_then HB.out HB.out.size hB)
  have H2 := Aside0.mk (Kd.C_below H1.out hB)
  clear hB KE HB H1
  have p0 : w1.cell? ⟨g8, 0, none⟩ = some (.int .i64 ea) := (blk_cell KE1.out 0).trans rfl
  have p1 : w1.cell? ⟨g8, 1, none⟩ = some (.int .i64 ed) := (blk_cell KE1.out 1).trans rfl
  have p2 : w1.cell? ⟨g8, 2, none⟩ = some (.string es) := (blk_cell KE1.out 2).trans rfl
  go_upto_region 3 with fail
  go_cut [13] (fun v13 wx => ∃ (g gm : Nat) (vs : Int → Value), v13 = .pointer (some ⟨g, 0, none⟩) ∧ Aside0 (OldS wx g gm vs (gAt (mLs n ls) (mAt n ls ea) (mDel n ls ea ed) (mIns n ls es) (mLs n ls).length) (standN (mLs n ls) (mAt n ls ea) (mDel n ls ea ed) (mLs n ls).length)) ∧ Aside0 (Below w.heap.size w wx))
  case first =>
    go_region_law
      (first
        | (go_simp
           go_at_call 20
           refine (twin_calls A1 c1 ls _ (Kd.C_below H2.out (below_drew (Below.refl _ _))) HP.out.1 HP.out.2.1).mono ?_
           rintro e w2 ⟨A3, A4, c3, c4, rfl, h3, h4, hB0⟩
           have hB : Below w1.heap.size w1 w2 := Below.trans (below_drew (Below.refl _ _)) hB0
           have HB2 := Aside0.mk (below_then HB1.out HB1.out.size hB)
           have KE2 := Aside0.mk ((hB.block _ (blk_lt KE1.out)).trans KE1.out)
           have q0 : w2.cell? ⟨g8, 0, none⟩ = some (.int .i64 ea) := (blk_cell KE2.out 0).trans rfl
           have q1 : w2.cell? ⟨g8, 1, none⟩ = some (.int .i64 ed) := (blk_cell KE2.out 1).trans rfl
           have q2 : w2.cell? ⟨g8, 2, none⟩ = some (.string es) := (blk_cell KE2.out 2).trans rfl
           have H3 := Aside0.mk (Kd.R_reads' h3).2.2
           have H4 := Aside0.mk (Kd.R_reads' h3).2.1
           clear hB hB0 h3 h4)
        | (go_simp
           go_at_call 17
           refine (New_calls n 0 0 0 0 ea ed es A3 A4 0 c3 c4 ls _ H3.out H4.out HP.out.2.1 HP.out.2.2.1).mono ?_
           rintro e w3 ⟨g, gm, vs, rfl, hO, hB0, _⟩
           have hB : Below w2.heap.size w2 w3 := hB0
           have HB3 := Aside0.mk (below_then HB2.out HB2.out.size hB)
           have HO3 := Aside0.mk hO
           clear hB hB0 hO))
    all_goals
      (go_wp2_with fail
       go_meet
       case rel => exact ⟨g, gm, vs, rfl, HO3, HB3⟩)
  case rest =>
  obtain ⟨g, gm, vs, rfl, HO, HB3⟩ := hcut
  clear p0 p1 p2 KE1 HB1 H2
  obtain ⟨w3, hw3⟩ : ∃ w3, wc = w3 := ⟨_, rfl⟩
  rw [hw3] at HO HB3 ⊢
  clear hw3 wc
  go_upto_region 7 with fail
  go_cut [15] (fun v15 wx => v15 = .bool (decide (n < 0) || decide (1048576 < n)) ∧ wx = w3)
  case first =>
    cases hn : decide (n < 0) with
    | true =>
      have HN := Aside0.mk hn
      go_wp2_with fail
      go_meet
      case rel => exact ⟨by rw [HN.out]; rfl, rfl⟩
    | false =>
      cases hm : decide (1048576 < n) with
      | true =>
        have HN := Aside0.mk hn
        have HM := Aside0.mk hm
        go_wp2_with fail
        go_meet
        case rel => exact ⟨by rw [HN.out, HM.out]; rfl, rfl⟩
      | false =>
        have HN := Aside0.mk hn
        have HM := Aside0.mk hm
        go_wp2_with fail
        go_meet
        case rel => exact ⟨by rw [HN.out, HM.out]; rfl, rfl⟩
  case rest =>
  obtain ⟨rfl, rfl⟩ := hcut
  obtain ⟨b0, hb0⟩ : ∃ b, (decide (n < 0) || decide (1048576 < n)) = b := ⟨_, rfl⟩
  have hn0 := NoneI.start n ls
  rw [hb0] at hn0 ⊢
  have HN0 := Aside0.mk hn0
  clear hb0 hn0
  go_wp2_with fail
  go_loopw [14, 15, 16, 17, 18] (fun v14 v15 v16 v17 v18 wr => ∃ (i : Nat) (sm : Int) (b h : Bool), v14 = .int .i64 sm ∧ v15 = .bool b ∧ v16 = .bool h ∧ v17 = .int .i64 (i : Int) ∧ i ≤ ls.length ∧ Aside0 (NoneI n ls i b sm) ∧ Aside0 (h = false → ∀ k : Nat, k < i → (rd_T68 ls (k : Int)).f4 ≠ val) ∧ Aside0 (OldS wr g gm vs (gAt (mLs n ls) (mAt n ls ea) (mDel n ls ea ed) (mIns n ls es) (mLs n ls).length) (standN (mLs n ls) (mAt n ls ea) (mDel n ls ea ed) (mLs n ls).length)) ∧ Aside0 (Below w.heap.size w wr)) (fun _ _ _ v17 _ _ => ls.length - (intOf v17).toNat)
  case atStart => exact ⟨0, 0, b0, false, rfl, rfl, rfl, rfl, by omega, HN0, ⟨fun _ k hk => by omega⟩, HO, HB3⟩
  case round =>
    obtain ⟨i, sm, b, h, rfl, rfl, rfl, rfl, hi, HI, HH, HOr, HBr⟩ := hrel
    clear HN0 HO HB3
    by_cases hlt : i < ls.length
    · have e1 : decide ((i : Int) < (ls.length : Int)) = true := decide_eq_true (by omega)
      have e2 : decide (i < ls.length) = true := decide_eq_true hlt
      have e3 : (i : Int) < (ls.length : Int) := by omega
      have hl := HP.out.2.1
      have hc := HP.out.1
      have e4 : IntKind.i64.wrap ((i : Int) + 1) = (i : Int) + 1 := (i64_w _).trans (w64 (by omega) (by omega))
      obtain ⟨ad, hA, y0, y1, y2, y3, y4, y5⟩ := at_T68 (Kd.C_below H1w.out HBr.out) (i : Int) (by omega) (by omega)
      rw [Int.toNat_natCast] at y0 y1 y2 y3 y4 y5
      have HW1 := Aside0.mk (fun hb => HI.out.worse hlt hb)
      have HW2 := Aside0.mk (fun hb => HI.out.on hlt hb)
      have HH2 : Aside0 (∀ h' : Bool, (h' = false → h = false ∧ (rd_T68 ls (i : Int)).f4 ≠ val) → (h' = false → ∀ k : Nat, k < i + 1 → (rd_T68 ls (k : Int)).f4 ≠ val)) := ⟨fun h' hq he k hk => by
        rcases Nat.lt_or_ge k i with hk2 | hk2
        · exact HH.out (hq he).1 k hk2
        · obtain rfl : k = i := by omega
          exact (hq he).2⟩
      have HLT := Aside0.mk hlt
      obtain ⟨x, hx⟩ : ∃ x, rd_T68 ls (i : Int) = x := ⟨_, rfl⟩
      rw [hx] at y0 y1 y2 y3 y4 y5 HW1 HW2 HH2
      subst hA
      clear hi hlt hx HI HH
      obtain ⟨oL, hoL⟩ : ∃ o : Obj, o = .cells #[.int .i64 x.f0, .int .i64 x.f1, .int .i64 x.f2, .int .i64 x.f3, .int .u64 x.f4, .string x.f5] 68 (0, 0) := ⟨_, rfl⟩
      have hba : Below wr.heap.size wr (wr.alloc oL) := below_alloc (Below.refl _ _) _
      have KL := Aside0.mk ((heap_alloc_new wr oL).trans (congrArg some hoL))
      have HO1 := Aside0.mk (HOr.out.moved hba)
      have HB1 := Aside0.mk (below_then HBr.out HBr.out.size hba)
      clear hba HOr HBr
      go_upto_region 13 with fail
      rw [← hoL]
      clear hoL y0 y1 y2 y3 y4 y5
      obtain ⟨gx, hgx⟩ : ∃ g, wr.heap.size = g := ⟨_, rfl⟩
      generalize wr.alloc oL = w4 at KL HO1 HB1 ⊢
      rw [hgx] at KL ⊢
      clear hgx
      have x1 : w4.cell? ⟨gx, 1, none⟩ = some (.int .i64 x.f1) := (blk_cell KL.out 1).trans rfl
      have x2 : w4.cell? ⟨gx, 2, none⟩ = some (.int .i64 x.f2) := (blk_cell KL.out 2).trans rfl
      have x3 : w4.cell? ⟨gx, 3, none⟩ = some (.int .i64 x.f3) := (blk_cell KL.out 3).trans rfl
      have x4 : w4.cell? ⟨gx, 4, none⟩ = some (.int .u64 x.f4) := (blk_cell KL.out 4).trans rfl
      clear KL
      go_cut [15] (fun v15 wx => v15 = .bool (b || !(lfOk x)) ∧ wx = w4)
      case first =>
        cases b with
        | true =>
          go_wp2_with fail
          go_meet
          case rel => exact ⟨rfl, rfl⟩
        | false =>
          cases t0 : decide (x.f1 < 0) with
          | true =>
            have HQ : Aside0 ((false || !(lfOk x)) = true) := ⟨by unfold lfOk inB; have h0 := of_decide_eq_true t0; rw [decide_eq_false (by omega : ¬ 0 ≤ x.f1)]; simp⟩
            go_wp2_with fail
            go_meet
            case rel => exact ⟨by rw [HQ.out], rfl⟩
          | false =>
            cases t1 : decide (x.f2 < 0) with
            | true =>
              have HQ : Aside0 ((false || !(lfOk x)) = true) := ⟨by unfold lfOk inB; have h0 := of_decide_eq_true t1; rw [decide_eq_false (by omega : ¬ 0 ≤ x.f2)]; simp⟩
              go_wp2_with fail
              go_meet
              case rel => exact ⟨by rw [HQ.out], rfl⟩
            | false =>
              cases t2 : decide (x.f3 < 0) with
              | true =>
                have HQ : Aside0 ((false || !(lfOk x)) = true) := ⟨by unfold lfOk inB; have h0 := of_decide_eq_true t2; rw [decide_eq_false (by omega : ¬ 0 ≤ x.f3)]; simp⟩
                go_wp2_with fail
                go_meet
                case rel => exact ⟨by rw [HQ.out], rfl⟩
              | false =>
                cases t3 : decide (1048577 < x.f1) with
                | true =>
                  have HQ : Aside0 ((false || !(lfOk x)) = true) := ⟨by unfold lfOk inB; have h0 := of_decide_eq_true t3; rw [decide_eq_false (by omega : ¬ x.f1 ≤ 1048577)]; simp⟩
                  go_wp2_with fail
                  go_meet
                  case rel => exact ⟨by rw [HQ.out], rfl⟩
                | false =>
                  cases t4 : decide (1048577 < x.f2) with
                  | true =>
                    have HQ : Aside0 ((false || !(lfOk x)) = true) := ⟨by unfold lfOk inB; have h0 := of_decide_eq_true t4; rw [decide_eq_false (by omega : ¬ x.f2 ≤ 1048577)]; simp⟩
                    go_wp2_with fail
                    go_meet
                    case rel => exact ⟨by rw [HQ.out], rfl⟩
                  | false =>
                    cases t5 : decide (1048577 < x.f3) with
                    | true =>
                      have HQ : Aside0 ((false || !(lfOk x)) = true) := ⟨by unfold lfOk inB; have h0 := of_decide_eq_true t5; rw [decide_eq_false (by omega : ¬ x.f3 ≤ 1048577)]; simp⟩
                      go_wp2_with fail
                      go_meet
                      case rel => exact ⟨by rw [HQ.out], rfl⟩
                    | false =>
                      have HQ : Aside0 ((false || !(lfOk x)) = false) := ⟨by unfold lfOk inB; have h0 := of_decide_eq_false t0; have h1 := of_decide_eq_false t1; have h2 := of_decide_eq_false t2; have h3 := of_decide_eq_false t3; have h4 := of_decide_eq_false t4; have h5 := of_decide_eq_false t5; rw [decide_eq_true (by omega : 0 ≤ x.f1), decide_eq_true (by omega : x.f1 ≤ 1048577), decide_eq_true (by omega : 0 ≤ x.f2), decide_eq_true (by omega : x.f2 ≤ 1048577), decide_eq_true (by omega : 0 ≤ x.f3), decide_eq_true (by omega : x.f3 ≤ 1048577)]; rfl⟩
                      go_wp2_with fail
                      go_meet
                      case rel => exact ⟨by rw [HQ.out], rfl⟩
      case rest =>
      obtain ⟨rfl, hwc⟩ := hcut
      rw [hwc]
      clear hwc wc
      obtain ⟨b1, hb1⟩ : ∃ b1, (b || !(lfOk x)) = b1 := ⟨_, rfl⟩
      rw [hb1] at HW1 HW2 ⊢
      clear hb1
      go_upto_if 78 with fail
      go_cut [14, 15] (fun v14 v15 wx => ∃ (sm2 : Int) (b2 : Bool), v14 = .int .i64 sm2 ∧ v15 = .bool b2 ∧ wx = w4 ∧ Aside0 (NoneI n ls (i + 1) b2 sm2))
      case first =>
        cases b1 with
        | true =>
          go_wp2_with fail
          go_meet
          case rel => exact ⟨sm, true, rfl, rfl, rfl, ⟨HW1.out (by first | rfl | trivial)⟩⟩
        | false =>
          obtain ⟨hbd, hni⟩ := HW2.out (by first | rfl | trivial)
          have HNI := Aside0.mk hni
          have g1 : IntKind.i64.wrap (sm + x.f1) = sm + x.f1 := (i64_w _).trans (w64 (by omega) (by omega))
          have g2 : IntKind.i64.wrap (sm + x.f1 + x.f2) = sm + x.f1 + x.f2 := (i64_w _).trans (w64 (by omega) (by omega))
          clear hni hbd
          go_wp2_with fail
          go_meet
          case rel => exact ⟨sm + x.f1 + x.f2, _, rfl, rfl, rfl, HNI⟩
      case rest =>
      obtain ⟨sm2, b2, rfl, rfl, hwc, HN2⟩ := hcut
      rw [hwc]
      clear hwc wc HW1 HW2
      cases h with
      | true =>
        go_wp2_with fail
        go_roundw
        case measure => first | omega | (simp [intOf]; have := HLT.out; omega)
        case rel => exact ⟨i + 1, sm2, b2, true, rfl, rfl, rfl, by congr 1, by have := HLT.out; omega, HN2, ⟨fun he => by cases he⟩, HO1, HB1⟩
      | false =>
        cases hv : eqI x.f4 val with
        | true =>
          obtain ⟨t1, u1⟩ := eqI_t hv
          clear hv
          go_wp2_with fail
          go_roundw
          case measure => first | omega | (simp [intOf]; have := HLT.out; omega)
          case rel => exact ⟨i + 1, sm2, b2, true, rfl, rfl, rfl, by congr 1, by have := HLT.out; omega, HN2, ⟨fun he => by cases he⟩, HO1, HB1⟩
        | false =>
          obtain ⟨t1, u1⟩ := eqI_f hv
          have HH3 := Aside0.mk (HH2.out false (fun _ => ⟨rfl, of_decide_eq_false t1⟩))
          clear hv
          go_wp2_with fail
          go_roundw
          case measure => first | omega | (simp [intOf]; have := HLT.out; omega)
          case rel => exact ⟨i + 1, sm2, b2, false, rfl, rfl, rfl, by congr 1, by have := HLT.out; omega, HN2, HH3, HO1, HB1⟩
    · have e1 : decide ((i : Int) < (ls.length : Int)) = false := decide_eq_false (by omega)
      have e2 : decide (i < ls.length) = false := decide_eq_false hlt
      obtain rfl : i = ls.length := by omega
      clear hi hlt
      go_wp2_with fail
      refine (OFind_calls g gm vs _ _ p val bef wr HOr.out HP.out.2.2.2 (Nat.le_trans (gAt_len _ _ _ _ _ _) (mLs_len HP.out.2.1))).mono ?_
      rintro e w5 ⟨rfl, hB⟩
      have HO5 := Aside0.mk (HOr.out.moved hB)
      have HB5 := Aside0.mk (below_then HBr.out HBr.out.size hB)
      clear hB HOr HBr
      have hr1 : b = true → findO bef val (gAt (mLs n ls) (mAt n ls ea) (mDel n ls ea ed) (mIns n ls es) (mLs n ls).length p) (gAt (mLs n ls) (mAt n ls ea) (mDel n ls ea ed) (mIns n ls es) (mLs n ls).length p).length 0 = none ∧ standN (mLs n ls) (mAt n ls ea) (mDel n ls ea ed) (mLs n ls).length = 0 := fun hb => ⟨(no_right (HI.out.bad hb) _ _ _ p val bef).1, (no_right (HI.out.bad hb) _ _ (mIns n ls es) p val bef).2⟩
      have hr2 : h = false → findO bef val (gAt (mLs n ls) (mAt n ls ea) (mDel n ls ea ed) (mIns n ls es) (mLs n ls).length p) (gAt (mLs n ls) (mAt n ls ea) (mDel n ls ea ed) (mIns n ls es) (mLs n ls).length p).length 0 = none := fun hh => no_valid n ls _ _ _ p val bef (HH.out hh)
      obtain ⟨r, hr⟩ : ∃ r, findO bef val (gAt (mLs n ls) (mAt n ls ea) (mDel n ls ea ed) (mIns n ls es) (mLs n ls).length p) (gAt (mLs n ls) (mAt n ls ea) (mDel n ls ea ed) (mIns n ls es) (mLs n ls).length p).length 0 = r := ⟨_, rfl⟩
      obtain ⟨st, hst⟩ : ∃ r, standN (mLs n ls) (mAt n ls ea) (mDel n ls ea ed) (mLs n ls).length = r := ⟨_, rfl⟩
      rw [hr] at hr1 hr2 ⊢
      rw [hst] at hr1 HO5
      have HR1 := Aside0.mk hr1
      have HR2 := Aside0.mk hr2
      clear hr hst hr1 hr2 HI HH
      unfold fnd
      obtain ⟨x, hx⟩ : ∃ x, r.getD z68 = x := ⟨_, rfl⟩
      obtain ⟨ok, hok⟩ : ∃ x, r.isSome = x := ⟨_, rfl⟩
      rw [hx, hok]
      have HX := Aside0.mk hx
      have HOK := Aside0.mk hok
      clear hx hok
      unfold lfV
      obtain ⟨oL, hoL⟩ : ∃ o : Obj, o = .cells #[.int .i64 x.f0, .int .i64 x.f1, .int .i64 x.f2, .int .i64 x.f3, .int .u64 x.f4, .string x.f5] 68 (0, 0) := ⟨_, rfl⟩
      have hba : Below w5.heap.size w5 (w5.alloc oL) := below_alloc (Below.refl _ _) _
      have KL := Aside0.mk ((heap_alloc_new w5 oL).trans (congrArg some hoL))
      have HO6 := Aside0.mk (HO5.out.moved hba)
      have HB6 := Aside0.mk (below_then HB5.out HB5.out.size hba)
      clear hba HO5 HB5
      go_upto_region 19 with fail
      rw [← hoL]
      clear hoL
      obtain ⟨gx, hgx⟩ : ∃ g, w5.heap.size = g := ⟨_, rfl⟩
      generalize w5.alloc oL = w6 at KL HO6 HB6 ⊢
      rw [hgx] at KL ⊢
      clear hgx
      cases b with
      | true =>
        obtain ⟨hn, hs0⟩ := HR1.out rfl
        subst hn hs0
        obtain rfl := HOK.out
        obtain rfl := HX.out
        go_wp2_with fail
        refine (OStanding_calls g gm vs _ 0 w6 HO6.out).mono ?_
        rintro e w7 ⟨rfl, hB⟩
        have KL7 := Aside0.mk ((hB.block _ (blk_lt KL.out)).trans KL.out)
        have HB7 := Aside0.mk (below_then HB6.out HB6.out.size hB)
        clear hB HB6 HO6 KL
        obtain ⟨q0, q1, q2, q3, q4, q5⟩ := zero_cells KL7.out
        cases h <;>
        (go_wp2_with fail
         go_ret
         exact ⟨rfl, HB7.out⟩)
      | false =>
        cases h with
        | true =>
          go_wp2_with fail
          go_ret
          exact ⟨rfl, HB6.out⟩
        | false =>
          have hn := HR2.out rfl
          subst hn
          obtain rfl := HOK.out
          obtain rfl := HX.out
          obtain ⟨q0, q1, q2, q3, q4, q5⟩ := zero_cells KL.out
          go_wp2_with fail
          go_ret
          exact ⟨rfl, HB6.out⟩
end Go.Proofs.Ytknagjiipelfnaa.RU
