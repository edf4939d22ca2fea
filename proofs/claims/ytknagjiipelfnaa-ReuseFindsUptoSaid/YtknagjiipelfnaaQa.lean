-- PRINTED by print.py (a twelfth state) out of the translation. Not trusted: Lean checks it.
import Derived.Test.YtknagjiipelfnaaPAllx0
import Derived.Test.YtknagjiipelfnaaPAllx2
namespace Go.Proofs.Ytknagjiipelfnaa.PAll
open Go.RowKit Go.Proofs.YtknagjiipelfnaaW.PrintWords Go.Proofs.YtknagjiipelfnaaW.PrintLast Go.Proofs.YtknagjiipelfnaaW.PrintMore
attribute [local go_sem] max2_int min2_int max_two min_two max_three min_three max_four min_four   -- for this text's walks alone
set_option linter.unusedVariables false
set_option linter.unusedSimpArgs false

attribute [local go_sem high] eqA68
/-! ### state_put: function 84 -/
def state_put.l0 : Nat → List Int → Int → Option (List Int)
  | 0, _, _ => none
  | k + 1, x0, x1 => if x1 ≥ 128 then (if x0.length < 140737488355328 then (state_put.l0 k (x0 ++ [Go.bits .or .u8 ((x1) % 256) 128]) (x1 / 128)) else (none)) else (if x0.length < 140737488355328 then (some (x0 ++ [(x1) % 256])) else (none))
def state_put.f (k : Nat) (l0 : List Int) (a1 : Int) : Option (List Int) := state_put.l0 k l0 a1
theorem state_put.mono_l : ∀ k, (∀ y0 y1, LeO (state_put.l0 k y0 y1) (state_put.l0 (k + 1) y0 y1))
  | 0 => fun _ _ r h => by simp [state_put.l0] at h
  | k + 1 => by
    have ih0 := state_put.mono_l k
    · intro y0 y1
      unfold state_put.l0
      repeat' first
      | (with_reducible exact ih0 _ _)
      | (with_reducible exact LeO.refl _)
      | (with_reducible exact LeO.none _)
      | (with_reducible refine LeO.ite ?_ ?_)
      | (with_reducible refine LeO.bind ?_ (fun _ => ?_))
      | exact ih0 _ _
      | exact LeO.none _
      | refine LeO.ite ?_ ?_
      | refine LeO.bind ?_ (fun _ => ?_)
theorem state_put.mono : ∀ a0 a1 k, LeO (state_put.f k a0 a1) (state_put.f (k + 1) a0 a1) := by
  intro a0 a1 k
  have ih0 := state_put.mono_l k
  unfold state_put.f
  repeat' first
      | (with_reducible exact ih0 _ _)
      | (with_reducible exact LeO.refl _)
      | (with_reducible exact LeO.none _)
      | (with_reducible refine LeO.ite ?_ ?_)
      | (with_reducible refine LeO.bind ?_ (fun _ => ?_))
      | exact ih0 _ _
      | exact LeO.none _
      | refine LeO.ite ?_ ?_
      | refine LeO.bind ?_ (fun _ => ?_)
set_option maxHeartbeats 8000000 in
set_option maxRecDepth 100000 in
theorem state_put.calls (k : Nat) (P0_ : Nat → Prop) (u9000_ : Value) (l0 : List Int) (a1 : Int) (r : List Int) (w0 w : World) (hB : Below w0.heap.size w0 w) (ho0 : Kd.R (Kd.int .u8) 5 w w0.heap.size P0_ u9000_ l0) (h : state_put.f k l0 a1 = some r) :
    Calls Try.prog 84 #[u9000_, .int .i64 a1] w fun e w' => ∃ v0_ : Value, e = .returned (v0_) ∧ Kd.R (Kd.int .u8) 5 w' w0.heap.size (fun k_ => (P0_ k_ ∨ w.heap.size ≤ k_)) v0_ r ∧ Below w0.heap.size w0 w' ∧ Kept w w' (fun k_ => P0_ k_) := by
  have HO0 := Aside0.mk (show Kd.R (Kd.int .u8) 5 w w0.heap.size (fun k_ => (P0_ k_ ∨ w.heap.size ≤ k_)) u9000_ l0 from Kd.R_mono ho0 (fun k_ hk => (.inl hk)))
  have HK := Aside0.mk (Kept.refl w (fun k_ => P0_ k_))
  have HW0 := Aside0.mk hB.size
  have HB := Aside0.mk hB
  clear hB
  have H : (state_put.l0 k l0 a1) = some r := h
  clear h
  have H' := Aside0.mk H
  clear H
  go_enter Try.func84, Try.ntmps84
  go_wp2
  go_loopg [0, 1] k (fun kq v0 v1 w' => ∃ (x0_1 : List Int) (x1_1 : Int), v1 = .int .i64 x1_1 ∧ Aside0 (state_put.l0 kq x0_1 x1_1 = some r) ∧ Aside0 (kq ≤ k) ∧ Aside0 (Kd.R (Kd.int .u8) 5 w' w0.heap.size (fun k_ => (P0_ k_ ∨ w.heap.size ≤ k_)) v0 x0_1) ∧ Aside0 (Kept w w' (fun k_ => P0_ k_)) ∧ Aside0 (Below w0.heap.size w0 w'))
  case atStart => exact ⟨(l0), (a1), (by first | rfl | (simp; done) | (simp [*]; done)), H', ⟨Nat.le_refl _⟩, ⟨by (with_reducible repeat (first | apply Kd.R_alloc | apply Kd.R_drewN | apply Kd.R_drew)); exact HO0.out⟩, ⟨by repeat (first | (with_reducible first | exact HK.out | apply Kept.alloc | apply Kept.drewN | apply Kept.drew) | exact HK.out)⟩, ⟨by repeat (first | (with_reducible first | exact HB.out | apply below_alloc | apply pw_below_drewN | apply below_drew1) | exact HB.out)⟩⟩
  case round =>
    clear H'
    try clear p2
    obtain ⟨x0_1, x1_1, rfl, HA, HK1, HO_0, HK, HB⟩ := hrel
    cases gk with
    | zero => exact absurd HA.out (by simp [state_put.l0])
    | succ k1 =>
      have H := HA.out
      clear HA
      simp only [state_put.l0] at H
      by_cases c3 : x1_1 ≥ 128
      · rw [if_pos c3] at H
        have c3b0 : decide (128 ≤ x1_1) = true := decide_eq_true c3
        clear c3
        by_cases c4 : x0_1.length < 140737488355328
        · rw [if_pos c4] at H
          have LMc4 := Aside0.mk c4
          clear c4
          obtain ⟨y293, hy293⟩ : ∃ y_ : List Int, y_ = (x0_1 ++ [Go.bits .or .u8 ((x1_1) % 256) 128]) := ⟨_, rfl⟩
          replace H : (state_put.l0 k1 y293 (x1_1 / 128)) = some r := by first | (rw [hy293]; with_reducible exact H) | (have H2_ := (Option.bind_some _ _).symm.trans H; rw [hy293]; with_reducible exact H2_) | (have H2_ := (Option.bind_some _ _).symm.trans H; with_reducible exact H2_) | with_reducible exact H | (rw [hy293]; exact H) | exact H
          have Ny293 := Aside0.mk hy293
          clear hy293
          have H' := Aside0.mk H
          clear H
          go_wp2_with (first | ((with_reducible refine gate_builtin (b := .append) (xs := #[.tmp 7, .tmp 11]) rfl ?_); at_builtin; refine Kd.R_append (Kd.int .u8) (w0 := w0) w0.heap.size rfl (.tmp 7) (.tmp 11) 148 5 (.int .u8 0) 1 rfl Try.underlying148 info5 rfl (by decide) (by omega) u0 x0_1 (Go.bits .or .u8 ((x1_1) % 256) 128) [.int .u8 (Go.bits .or .u8 ((x1_1) % 256) 128)] (fun k_ => (P0_ k_ ∨ w.heap.size ≤ k_)) (fun _ => False) rfl rfl ?aP (fun _ hk => hk.elim) ?aF ?aO ?aB ?aS ?aL ?_; (case aP => exact rfl); (case aB => exact (by repeat (first | (with_reducible first | exact HB.out | apply below_alloc | apply pw_below_drewN | apply below_drew1) | exact HB.out))); (case aF => exact (fun k_ hk => (.inr (Nat.le_trans (by first | exact HK.out.1 | exact (show Kept w _ (fun k_ => P0_ k_) from by repeat (first | (with_reducible first | exact HK.out | apply Kept.alloc | apply Kept.drewN | apply Kept.drew) | exact HK.out)).1) hk)))); (case aO => exact (by (with_reducible repeat (first | apply Kd.R_alloc | apply Kd.R_drewN | apply Kd.R_drew)); exact HO_0.out)); (case aS => exact (below_size (by repeat (first | (with_reducible first | exact HB.out | apply below_alloc | apply pw_below_drewN | apply below_drew1) | exact HB.out)))); (case aL => have := LMc4.out; omega); intro v294 w5 ho hb hg hat; rw [← Ny293.out] at ho; have n0_ := Aside0.mk (hb); have n1_ := Aside0.mk (Kept.of_grown (S := (fun k_ => P0_ k_)) hg (by repeat (first | (with_reducible first | exact HK.out | apply Kept.alloc | apply Kept.drewN | apply Kept.drew) | exact HK.out)) (fun k_ e_ => (HO_0.out.1 k_ e_))); have n2_ := Aside0.mk (ho); clear HB; clear HK; clear HO_0; have HB := n0_; have HK := n1_; have HO295 := n2_; clear n0_ n1_ n2_; clear ho hb hg hat))
          go_roundg k1
          case measure => have := HK1.out; omega
          case rel => exact ⟨(y293), (x1_1 / 128), (by first | rfl | (simp; done) | (simp [*]; done)), H', ⟨by have := HK1.out; omega⟩, ⟨by (with_reducible repeat (first | apply Kd.R_alloc | apply Kd.R_drewN | apply Kd.R_drew)); exact HO295.out⟩, ⟨by repeat (first | (with_reducible first | exact HK.out | apply Kept.alloc | apply Kept.drewN | apply Kept.drew) | exact HK.out)⟩, ⟨by repeat (first | (with_reducible first | exact HB.out | apply below_alloc | apply pw_below_drewN | apply below_drew1) | exact HB.out)⟩⟩
        · rw [if_neg c4] at H
          exact absurd H (by simp)
      · rw [if_neg c3] at H
        have c3b0 : decide (128 ≤ x1_1) = false := decide_eq_false c3
        clear c3
        by_cases c6 : x0_1.length < 140737488355328
        · rw [if_pos c6] at H
          have LMc6 := Aside0.mk c6
          clear c6
          obtain ⟨y296, hy296⟩ : ∃ y_ : List Int, y_ = (x0_1 ++ [(x1_1) % 256]) := ⟨_, rfl⟩
          replace H : (some y296) = some r := by first | (rw [hy296]; with_reducible exact H) | (have H2_ := (Option.bind_some _ _).symm.trans H; rw [hy296]; with_reducible exact H2_) | (have H2_ := (Option.bind_some _ _).symm.trans H; with_reducible exact H2_) | with_reducible exact H | (rw [hy296]; exact H) | exact H
          have Ny296 := Aside0.mk hy296
          clear hy296
          obtain rfl := Option.some.inj H
          go_wp2_with (first | ((with_reducible refine gate_builtin (b := .append) (xs := #[.tmp 15, .tmp 18]) rfl ?_); at_builtin; refine Kd.R_append (Kd.int .u8) (w0 := w0) w0.heap.size rfl (.tmp 15) (.tmp 18) 148 5 (.int .u8 0) 1 rfl Try.underlying148 info5 rfl (by decide) (by omega) u0 x0_1 ((x1_1) % 256) [.int .u8 ((x1_1) % 256)] (fun k_ => (P0_ k_ ∨ w.heap.size ≤ k_)) (fun _ => False) rfl rfl ?aP (fun _ hk => hk.elim) ?aF ?aO ?aB ?aS ?aL ?_; (case aP => exact rfl); (case aB => exact (by repeat (first | (with_reducible first | exact HB.out | apply below_alloc | apply pw_below_drewN | apply below_drew1) | exact HB.out))); (case aF => exact (fun k_ hk => (.inr (Nat.le_trans (by first | exact HK.out.1 | exact (show Kept w _ (fun k_ => P0_ k_) from by repeat (first | (with_reducible first | exact HK.out | apply Kept.alloc | apply Kept.drewN | apply Kept.drew) | exact HK.out)).1) hk)))); (case aO => exact (by (with_reducible repeat (first | apply Kd.R_alloc | apply Kd.R_drewN | apply Kd.R_drew)); exact HO_0.out)); (case aS => exact (below_size (by repeat (first | (with_reducible first | exact HB.out | apply below_alloc | apply pw_below_drewN | apply below_drew1) | exact HB.out)))); (case aL => have := LMc6.out; omega); intro v297 w7 ho hb hg hat; rw [← Ny296.out] at ho; have n0_ := Aside0.mk (hb); have n1_ := Aside0.mk (Kept.of_grown (S := (fun k_ => P0_ k_)) hg (by repeat (first | (with_reducible first | exact HK.out | apply Kept.alloc | apply Kept.drewN | apply Kept.drew) | exact HK.out)) (fun k_ e_ => (HO_0.out.1 k_ e_))); have n2_ := Aside0.mk (ho); clear HB; clear HK; clear HO_0; have HB := n0_; have HK := n1_; have HO298 := n2_; clear n0_ n1_ n2_; clear ho hb hg hat))
          go_ret
          exact ⟨_, by first | rfl | (simp [errW_none, errW_some] <;> rfl) | (simp [*, errW_none, errW_some] <;> rfl), by (with_reducible repeat (first | apply Kd.R_alloc | apply Kd.R_drewN | apply Kd.R_drew)); exact HO298.out, by repeat (first | (with_reducible first | exact HB.out | apply below_alloc | apply pw_below_drewN | apply below_drew1) | exact HB.out), by repeat (first | (with_reducible first | exact HK.out | apply Kept.alloc | apply Kept.drewN | apply Kept.drew) | exact HK.out)⟩
        · rw [if_neg c6] at H
          exact absurd H (by simp)

-- NOT PRINTED: function 72 (state_write)

-- NOT PRINTED: function 42 (state_Encode)

/-! ### trellisref17_Right: function 44 -/
mutual
def trellisref17_Right.j0 : Nat → Int → Bool → Int → Int → Int → List (S68) → List (S50) → Int → Option (Bool)
  | 0, _, _, _, _, _, _, _, _ => none
  | k + 1, x0, x13, x346000, x346001, x346002, x346003, x346004, x346005 => if x13 = true then (some false) else (trellisref17_Right.l0 k x0 0 0 x346000 x346001 x346002 x346003 x346004 x346005)
def trellisref17_Right.l0 : Nat → Int → Int → Int → Int → Int → Int → List (S68) → List (S50) → Int → Option (Bool)
  | 0, _, _, _, _, _, _, _, _, _ => none
  | k + 1, x0, x5, x6, x346000, x346001, x346002, x346003, x346004, x346005 => if x6 < (x346003.length : Int) then (if 0 ≤ x6 then (if ((rd_T68 x346003 x6).f1) < 0 then (trellisref17_Right.j2 k x0 x5 x6 true x346000 x346001 x346002 x346003 x346004 x346005 ((rd_T68 x346003 x6).f0) ((rd_T68 x346003 x6).f1) ((rd_T68 x346003 x6).f2) ((rd_T68 x346003 x6).f3) ((rd_T68 x346003 x6).f4) ((rd_T68 x346003 x6).f5)) else (if ((rd_T68 x346003 x6).f2) < 0 then (trellisref17_Right.j2 k x0 x5 x6 true x346000 x346001 x346002 x346003 x346004 x346005 ((rd_T68 x346003 x6).f0) ((rd_T68 x346003 x6).f1) ((rd_T68 x346003 x6).f2) ((rd_T68 x346003 x6).f3) ((rd_T68 x346003 x6).f4) ((rd_T68 x346003 x6).f5)) else (if ((rd_T68 x346003 x6).f3) < 0 then (trellisref17_Right.j2 k x0 x5 x6 true x346000 x346001 x346002 x346003 x346004 x346005 ((rd_T68 x346003 x6).f0) ((rd_T68 x346003 x6).f1) ((rd_T68 x346003 x6).f2) ((rd_T68 x346003 x6).f3) ((rd_T68 x346003 x6).f4) ((rd_T68 x346003 x6).f5)) else (if ((rd_T68 x346003 x6).f1) > 1048577 then (trellisref17_Right.j2 k x0 x5 x6 true x346000 x346001 x346002 x346003 x346004 x346005 ((rd_T68 x346003 x6).f0) ((rd_T68 x346003 x6).f1) ((rd_T68 x346003 x6).f2) ((rd_T68 x346003 x6).f3) ((rd_T68 x346003 x6).f4) ((rd_T68 x346003 x6).f5)) else (if ((rd_T68 x346003 x6).f2) > 1048577 then (trellisref17_Right.j2 k x0 x5 x6 true x346000 x346001 x346002 x346003 x346004 x346005 ((rd_T68 x346003 x6).f0) ((rd_T68 x346003 x6).f1) ((rd_T68 x346003 x6).f2) ((rd_T68 x346003 x6).f3) ((rd_T68 x346003 x6).f4) ((rd_T68 x346003 x6).f5)) else (trellisref17_Right.j2 k x0 x5 x6 (decide (((rd_T68 x346003 x6).f3) > 1048577)) x346000 x346001 x346002 x346003 x346004 x346005 ((rd_T68 x346003 x6).f0) ((rd_T68 x346003 x6).f1) ((rd_T68 x346003 x6).f2) ((rd_T68 x346003 x6).f3) ((rd_T68 x346003 x6).f4) ((rd_T68 x346003 x6).f5))))))) else (none)) else (some true)
def trellisref17_Right.j2 : Nat → Int → Int → Int → Bool → Int → Int → Int → List (S68) → List (S50) → Int → Int → Int → Int → Int → Int → ByteArray → Option (Bool)
  | 0, _, _, _, _, _, _, _, _, _, _, _, _, _, _, _, _ => none
  | k + 1, x0, x5, x6, x53, x346000, x346001, x346002, x346003, x346004, x346005, x348000, x348001, x348002, x348003, x348004, x348005 => if x53 = true then (some false) else (if (wrap64 ((wrap64 (x5 + x348001)) + x348002)) > x0 then (some false) else (trellisref17_Right.l0 k x0 (wrap64 ((wrap64 (x5 + x348001)) + x348002)) (wrap64 (x6 + 1)) x346000 x346001 x346002 x346003 x346004 x346005))
end
def trellisref17_Right.f (k : Nat) (a0 : Int) (a1_0 : Int) (a1_1 : Int) (a1_2 : Int) (l1_3 : List (S68)) (l1_4 : List (S50)) (a1_5 : Int) : Option (Bool) := if a0 < 0 then (trellisref17_Right.j0 k a0 true a1_0 a1_1 a1_2 l1_3 l1_4 a1_5) else (trellisref17_Right.j0 k a0 (decide (a0 > 1048576)) a1_0 a1_1 a1_2 l1_3 l1_4 a1_5)
theorem trellisref17_Right.mono_l : ∀ k, (∀ y0 y1 y2 y3 y4 y5 y6 y7, LeO (trellisref17_Right.j0 k y0 y1 y2 y3 y4 y5 y6 y7) (trellisref17_Right.j0 (k + 1) y0 y1 y2 y3 y4 y5 y6 y7)) ∧ (∀ y0 y1 y2 y3 y4 y5 y6 y7 y8, LeO (trellisref17_Right.l0 k y0 y1 y2 y3 y4 y5 y6 y7 y8) (trellisref17_Right.l0 (k + 1) y0 y1 y2 y3 y4 y5 y6 y7 y8)) ∧ (∀ y0 y1 y2 y3 y4 y5 y6 y7 y8 y9 y10 y11 y12 y13 y14 y15, LeO (trellisref17_Right.j2 k y0 y1 y2 y3 y4 y5 y6 y7 y8 y9 y10 y11 y12 y13 y14 y15) (trellisref17_Right.j2 (k + 1) y0 y1 y2 y3 y4 y5 y6 y7 y8 y9 y10 y11 y12 y13 y14 y15))
  | 0 => ⟨fun _ _ _ _ _ _ _ _ r h => by simp [trellisref17_Right.j0] at h, fun _ _ _ _ _ _ _ _ _ r h => by simp [trellisref17_Right.l0] at h, fun _ _ _ _ _ _ _ _ _ _ _ _ _ _ _ _ r h => by simp [trellisref17_Right.j2] at h⟩
  | k + 1 => by
    obtain ⟨ih0, ih1, ih2⟩ := trellisref17_Right.mono_l k
    refine ⟨?_, ?_, ?_⟩
    · intro y0 y1 y2 y3 y4 y5 y6 y7
      unfold trellisref17_Right.j0
      repeat' first
      | (with_reducible exact ih0 _ _ _ _ _ _ _ _)
      | (with_reducible exact ih1 _ _ _ _ _ _ _ _ _)
      | (with_reducible exact ih2 _ _ _ _ _ _ _ _ _ _ _ _ _ _ _ _)
      | (with_reducible exact LeO.refl _)
      | (with_reducible exact LeO.none _)
      | (with_reducible refine LeO.ite ?_ ?_)
      | (with_reducible refine LeO.bind ?_ (fun _ => ?_))
      | exact ih0 _ _ _ _ _ _ _ _
      | exact ih1 _ _ _ _ _ _ _ _ _
      | exact ih2 _ _ _ _ _ _ _ _ _ _ _ _ _ _ _ _
      | exact LeO.none _
      | refine LeO.ite ?_ ?_
      | refine LeO.bind ?_ (fun _ => ?_)
    · intro y0 y1 y2 y3 y4 y5 y6 y7 y8
      unfold trellisref17_Right.l0
      repeat' first
      | (with_reducible exact ih0 _ _ _ _ _ _ _ _)
      | (with_reducible exact ih1 _ _ _ _ _ _ _ _ _)
      | (with_reducible exact ih2 _ _ _ _ _ _ _ _ _ _ _ _ _ _ _ _)
      | (with_reducible exact LeO.refl _)
      | (with_reducible exact LeO.none _)
      | (with_reducible refine LeO.ite ?_ ?_)
      | (with_reducible refine LeO.bind ?_ (fun _ => ?_))
      | exact ih0 _ _ _ _ _ _ _ _
      | exact ih1 _ _ _ _ _ _ _ _ _
      | exact ih2 _ _ _ _ _ _ _ _ _ _ _ _ _ _ _ _
      | exact LeO.none _
      | refine LeO.ite ?_ ?_
      | refine LeO.bind ?_ (fun _ => ?_)
    · intro y0 y1 y2 y3 y4 y5 y6 y7 y8 y9 y10 y11 y12 y13 y14 y15
      unfold trellisref17_Right.j2
      repeat' first
      | (with_reducible exact ih0 _ _ _ _ _ _ _ _)
      | (with_reducible exact ih1 _ _ _ _ _ _ _ _ _)
      | (with_reducible exact ih2 _ _ _ _ _ _ _ _ _ _ _ _ _ _ _ _)
      | (with_reducible exact LeO.refl _)
      | (with_reducible exact LeO.none _)
      | (with_reducible refine LeO.ite ?_ ?_)
      | (with_reducible refine LeO.bind ?_ (fun _ => ?_))
      | exact ih0 _ _ _ _ _ _ _ _
      | exact ih1 _ _ _ _ _ _ _ _ _
      | exact ih2 _ _ _ _ _ _ _ _ _ _ _ _ _ _ _ _
      | exact LeO.none _
      | refine LeO.ite ?_ ?_
      | refine LeO.bind ?_ (fun _ => ?_)
theorem trellisref17_Right.mono : ∀ a0 a1 a2 a3 a4 a5 a6 k, LeO (trellisref17_Right.f k a0 a1 a2 a3 a4 a5 a6) (trellisref17_Right.f (k + 1) a0 a1 a2 a3 a4 a5 a6) := by
  intro a0 a1 a2 a3 a4 a5 a6 k
  obtain ⟨ih0, ih1, ih2⟩ := trellisref17_Right.mono_l k
  unfold trellisref17_Right.f
  repeat' first
      | (with_reducible exact ih0 _ _ _ _ _ _ _ _)
      | (with_reducible exact ih1 _ _ _ _ _ _ _ _ _)
      | (with_reducible exact ih2 _ _ _ _ _ _ _ _ _ _ _ _ _ _ _ _)
      | (with_reducible exact LeO.refl _)
      | (with_reducible exact LeO.none _)
      | (with_reducible refine LeO.ite ?_ ?_)
      | (with_reducible refine LeO.bind ?_ (fun _ => ?_))
      | exact ih0 _ _ _ _ _ _ _ _
      | exact ih1 _ _ _ _ _ _ _ _ _
      | exact ih2 _ _ _ _ _ _ _ _ _ _ _ _ _ _ _ _
      | exact LeO.none _
      | refine LeO.ite ?_ ?_
      | refine LeO.bind ?_ (fun _ => ?_)
set_option maxHeartbeats 8000000 in
set_option maxRecDepth 100000 in
theorem trellisref17_Right.calls (k : Nat) (a0 : Int) (a1_0 : Int) (a1_1 : Int) (a1_2 : Int) (A1_3 : Option Addr) (c1_3 : Nat) (l1_3 : List (S68)) (A1_4 : Option Addr) (c1_4 : Nat) (l1_4 : List (S50)) (a1_5 : Int) (r : Bool) (w : World) (hr1_3 : Kd.C k68 w A1_3 l1_3.length l1_3) (hc1_3 : l1_3.length ≤ c1_3) (hr1_4 : Kd.C k50 w A1_4 l1_4.length l1_4) (hc1_4 : l1_4.length ≤ c1_4) (h : trellisref17_Right.f k a0 a1_0 a1_1 a1_2 l1_3 l1_4 a1_5 = some r) :
    Calls Try.prog 44 #[.int .i64 a0, .agg #[.int .i64 a1_0, .int .i64 a1_1, .int .u64 a1_2, .slice A1_3 l1_3.length c1_3, .slice A1_4 l1_4.length c1_4, .int .i64 a1_5]] w fun e w' => e = .returned (.bool r) ∧ Below w.heap.size w w' := by
  have hu60 := Try.underlying60
  have hu68 := Try.underlying68
  have HR1_3 := Aside0.mk hr1_3
  have HC1_3 := Aside0.mk hc1_3
  clear hr1_3 hc1_3
  have HR1_4 := Aside0.mk hr1_4
  have HC1_4 := Aside0.mk hc1_4
  clear hr1_4 hc1_4
  have HB := Aside0.mk (Below.refl w.heap.size w)
  have H : (if a0 < 0 then (trellisref17_Right.j0 k a0 true a1_0 a1_1 a1_2 l1_3 l1_4 a1_5) else (trellisref17_Right.j0 k a0 (decide (a0 > 1048576)) a1_0 a1_1 a1_2 l1_3 l1_4 a1_5)) = some r := h
  clear h
  have HC3 := Aside0.mk H
  clear H
  go_enter Try.func44, Try.ntmps44
  go_upto_region 1 with (first | ((with_reducible refine gate_dst (N := 3) rfl ?_); refine box_event ?hg (N := 3) ?hd (cs := #[.int .i64 a1_0, .int .i64 a1_1, .int .u64 a1_2, .slice A1_3 l1_3.length c1_3, .slice A1_4 l1_4.length c1_4, .int .i64 a1_5]) (t := 60) ?hr ?_; (case hd => rfl); (case hg => rfl); (case hr => first | (go_simp; done) | (go_simp; rfl)); intro gb345 hg w4 hbox hb; have n0_ := Aside0.mk (below_step (by repeat (first | (with_reducible first | exact HB.out | apply below_alloc | apply pw_below_drewN | apply below_drew1) | exact HB.out)) hb); have n1_ := Aside0.mk (hbox); have n2_ := Aside0.mk ((by rw [hg]; exact (below_size (by repeat (first | (with_reducible first | exact HB.out | apply below_alloc | apply pw_below_drewN | apply below_drew1) | exact HB.out))) : w.heap.size ≤ gb345)); have n3_ := Aside0.mk ((by rw [hg]; exact (below_size (by repeat (first | (with_reducible first | exact HB.out | apply below_alloc | apply pw_below_drewN | apply below_drew1) | exact HB.out))) : w.heap.size ≤ gb345)); clear HB; have HB := n0_; have BK345 := n1_; have GW345 := n2_; have GE345 := n3_; clear n0_ n1_ n2_ n3_; clear hb hbox hg))
  (try simp only [Act.put, List.setIfInBounds_toArray, List.set_cons_zero, List.set_cons_succ])
  go_cut [13] (fun v13 wc => ∃ (kq : Nat) (x13_2 : Bool), v13 = .bool x13_2 ∧ Aside0 (trellisref17_Right.j0 kq a0 x13_2 a1_0 a1_1 a1_2 l1_3 l1_4 a1_5 = some r) ∧ Aside0 (kq ≤ k) ∧ Aside0 (wc.heap[gb345]? = some (.cells #[.int .i64 a1_0, .int .i64 a1_1, .int .u64 a1_2, (.slice A1_3 l1_3.length c1_3), (.slice A1_4 l1_4.length c1_4), .int .i64 a1_5] 60 (0, 0))) ∧ Aside0 (Below w.heap.size w wc))
  case first =>
    have H := HC3.out
    clear HC3
    by_cases c5 : a0 < 0
    · rw [if_pos c5] at H
      have c5b0 : decide (a0 < 0) = true := decide_eq_true c5
      clear c5
      (first | rw [c5b0] | (simp only [i64_w, i32_w]; rw [c5b0]) | skip)
      have H' := Aside0.mk H
      clear H
      go_wp2
      go_meet
      case rel => exact ⟨_, (true), (by first | rfl | (simp; done) | (simp [*]; done)), H', ⟨by first | omega | exact Nat.le_refl _⟩, ⟨by (with_reducible repeat (first | refine blk_drewN ?_ _ | refine blk_drew ?_ | refine blk_alloc ?_ _)); exact BK345.out⟩, ⟨by repeat (first | (with_reducible first | exact HB.out | apply below_alloc | apply pw_below_drewN | apply below_drew1 | refine below_set ?_ GE345.out) | exact HB.out)⟩⟩
    · rw [if_neg c5] at H
      have c5b0 : decide (a0 < 0) = false := decide_eq_false c5
      clear c5
      (first | rw [c5b0] | (simp only [i64_w, i32_w]; rw [c5b0]) | skip)
      have H' := Aside0.mk H
      clear H
      go_wp2
      go_meet
      case rel => exact ⟨_, (decide (a0 > 1048576)), (by first | rfl | (simp; done) | (simp [*]; done)), H', ⟨by first | omega | exact Nat.le_refl _⟩, ⟨by (with_reducible repeat (first | refine blk_drewN ?_ _ | refine blk_drew ?_ | refine blk_alloc ?_ _)); exact BK345.out⟩, ⟨by repeat (first | (with_reducible first | exact HB.out | apply below_alloc | apply pw_below_drewN | apply below_drew1 | refine below_set ?_ GE345.out) | exact HB.out)⟩⟩
  case rest =>
    clear HC3
    try clear c1
    try clear p2
    try clear c4
    try clear c5
    try clear c5b0
    obtain ⟨kq, x13_2, rfl, HA, HJ2, BK345, HB⟩ := hcut
    cases kq with
    | zero => exact absurd HA.out (by simp [trellisref17_Right.j0])
    | succ kj2 =>
      have H := HA.out
      clear HA
      simp only [trellisref17_Right.j0] at H
      by_cases c6 : x13_2 = true
      · subst c6
        have H1 : (some false) = some r := by rw [if_pos rfl] at H; exact H
        clear H
        have H := H1
        clear H1
        obtain rfl := Option.some.inj H
        go_wp2
        go_ret
        exact ⟨by first | rfl | (simp [errW_none, errW_some] <;> rfl) | (simp [*, errW_none, errW_some] <;> rfl), by repeat (first | (with_reducible first | exact HB.out | apply below_alloc | apply pw_below_drewN | apply below_drew1 | refine below_set ?_ GE345.out) | exact HB.out)⟩
      · replace c6 := Bool.eq_false_iff.mpr c6
        subst c6
        have H1 : (trellisref17_Right.l0 kj2 a0 0 0 a1_0 a1_1 a1_2 l1_3 l1_4 a1_5) = some r := by rw [if_neg (show ¬ (false = true) by decide)] at H; exact H
        clear H
        have H := H1
        clear H1
        have H' := Aside0.mk H
        clear H
        go_wp2
        go_loopg [5, 6] kj2 (fun kq v5 v6 w' => ∃ (x5_2 : Int) (x6_2 : Int), v5 = .int .i64 x5_2 ∧ v6 = .int .i64 x6_2 ∧ Aside0 (trellisref17_Right.l0 kq a0 x5_2 x6_2 a1_0 a1_1 a1_2 l1_3 l1_4 a1_5 = some r) ∧ Aside0 (kq ≤ kj2) ∧ Aside0 (w'.heap[gb345]? = some (.cells #[.int .i64 a1_0, .int .i64 a1_1, .int .u64 a1_2, (.slice A1_3 l1_3.length c1_3), (.slice A1_4 l1_4.length c1_4), .int .i64 a1_5] 60 (0, 0))) ∧ Aside0 (Below w.heap.size w w'))
        case atStart => exact ⟨(0), (0), (by first | rfl | (simp; done) | (simp [*]; done)), (by first | rfl | (simp; done) | (simp [*]; done)), H', ⟨Nat.le_refl _⟩, ⟨by (with_reducible repeat (first | refine blk_drewN ?_ _ | refine blk_drew ?_ | refine blk_alloc ?_ _)); exact BK345.out⟩, ⟨by repeat (first | (with_reducible first | exact HB.out | apply below_alloc | apply pw_below_drewN | apply below_drew1 | refine below_set ?_ GE345.out) | exact HB.out)⟩⟩
        case round =>
          clear H'
          try clear c1
          try clear p2
          try clear c4
          try clear c5
          try clear c5b0
          try clear c6
          try clear p2
          obtain ⟨x5_2, x6_2, rfl, rfl, HA, HK2, BK345, HB⟩ := hrel
          cases gk with
          | zero => exact absurd HA.out (by simp [trellisref17_Right.l0])
          | succ k2 =>
            have H := HA.out
            clear HA
            simp only [trellisref17_Right.l0] at H
            by_cases c7 : x6_2 < (l1_3.length : Int)
            · rw [if_pos c7] at H
              have c7b0 : decide (x6_2 < (l1_3.length : Int)) = true := decide_eq_true c7
              clear c7
              by_cases c8 : 0 ≤ x6_2
              · rw [if_pos c8] at H
                have c8b0 : decide (0 ≤ x6_2) = true := decide_eq_true c8
                clear c8
                have HC9 := Aside0.mk H
                clear H
                have hcz10_0 : wr.cell? ⟨gb345, 0, none⟩ = some (.int .i64 a1_0) := (blk_cell BK345.out 0).trans rfl
                have hcz10_1 : wr.cell? ⟨gb345, 1, none⟩ = some (.int .i64 a1_1) := (blk_cell BK345.out 1).trans rfl
                have hcz10_2 : wr.cell? ⟨gb345, 2, none⟩ = some (.int .u64 a1_2) := (blk_cell BK345.out 2).trans rfl
                have hcz10_3 : wr.cell? ⟨gb345, 3, none⟩ = some (.slice A1_3 l1_3.length c1_3) := (blk_cell BK345.out 3).trans rfl
                have hcz10_4 : wr.cell? ⟨gb345, 4, none⟩ = some (.slice A1_4 l1_4.length c1_4) := (blk_cell BK345.out 4).trans rfl
                have hcz10_5 : wr.cell? ⟨gb345, 5, none⟩ = some (.int .i64 a1_5) := (blk_cell BK345.out 5).trans rfl
                have hfz10_0 := blk_frozen BK345.out 0
                have hfz10_1 := blk_frozen BK345.out 1
                have hfz10_2 := blk_frozen BK345.out 2
                have hfz10_3 := blk_frozen BK345.out 3
                have hfz10_4 := blk_frozen BK345.out 4
                have hfz10_5 := blk_frozen BK345.out 5
                have p346 : 0 ≤ (x6_2 : Int) := of_decide_eq_true (by first | (with_reducible assumption) | assumption)
                have q346 : x6_2 < (l1_3.length : Int) := of_decide_eq_true (by first | (with_reducible assumption) | assumption)
                obtain ⟨ad346, e346, hx346_0, hx346_1, hx346_2, hx346_3, hx346_4, hx346_5⟩ := at_T68 HR1_3.out x6_2 p346 q346
                cases e346
                replace hx346_0 := (HB.out.cell (World.block_lt_of_cell? w _ hx346_0)).trans hx346_0
                replace hx346_1 := (HB.out.cell (World.block_lt_of_cell? w _ hx346_1)).trans hx346_1
                replace hx346_2 := (HB.out.cell (World.block_lt_of_cell? w _ hx346_2)).trans hx346_2
                replace hx346_3 := (HB.out.cell (World.block_lt_of_cell? w _ hx346_3)).trans hx346_3
                replace hx346_4 := (HB.out.cell (World.block_lt_of_cell? w _ hx346_4)).trans hx346_4
                replace hx346_5 := (HB.out.cell (World.block_lt_of_cell? w _ hx346_5)).trans hx346_5
                replace p346 := eq_true p346
                replace q346 := eq_true q346
                go_upto_region 8 with (first | ((with_reducible refine gate_dst (N := 7) rfl ?_); refine box_event ?hg (N := 7) ?hd (cs := #[.int .i64 0, .int .i64 0, .int .i64 0, .int .i64 0, .int .u64 0, .string (⟨#[]⟩ : ByteArray)]) (t := 68) ?hr ?_; (case hd => rfl); (case hg => rfl); (case hr => first | (go_simp; done) | (go_simp; rfl)); intro gb347 hg w11 hbox hb; have n0_ := Aside0.mk (blk_below (g := gb345) (o := .cells #[.int .i64 a1_0, .int .i64 a1_1, .int .u64 a1_2, .slice (some ad346) l1_3.length c1_3, .slice A1_4 l1_4.length c1_4, .int .i64 a1_5] 60 (0, 0)) (by (with_reducible repeat (first | refine blk_drewN ?_ _ | refine blk_drew ?_ | refine blk_alloc ?_ _)); exact BK345.out) hb); have n1_ := Aside0.mk (below_step (by repeat (first | (with_reducible first | exact HB.out | apply below_alloc | apply pw_below_drewN | apply below_drew1 | refine below_set ?_ GE345.out) | exact HB.out)) hb); have n2_ := Aside0.mk (hbox); have n3_ := Aside0.mk ((by rw [hg]; exact (below_size (by repeat (first | (with_reducible first | exact HB.out | apply below_alloc | apply pw_below_drewN | apply below_drew1 | refine below_set ?_ GE345.out) | exact HB.out))) : w.heap.size ≤ gb347)); have n4_ := Aside0.mk ((by rw [hg]; exact (below_size (by repeat (first | (with_reducible first | exact HB.out | apply below_alloc | apply pw_below_drewN | apply below_drew1 | refine below_set ?_ GE345.out) | exact HB.out))) : w.heap.size ≤ gb347)); have n5_ := Aside0.mk ((by rw [hg]; exact Nat.ne_of_lt (blk_lt (g := gb345) (o := .cells #[.int .i64 a1_0, .int .i64 a1_1, .int .u64 a1_2, .slice (some ad346) l1_3.length c1_3, .slice A1_4 l1_4.length c1_4, .int .i64 a1_5] 60 (0, 0)) (by (with_reducible repeat (first | refine blk_drewN ?_ _ | refine blk_drew ?_ | refine blk_alloc ?_ _)); exact BK345.out)) : gb345 ≠ gb347)); have n6_ := Aside0.mk ((by rw [hg]; exact Nat.ne_of_gt (blk_lt (g := gb345) (o := .cells #[.int .i64 a1_0, .int .i64 a1_1, .int .u64 a1_2, .slice (some ad346) l1_3.length c1_3, .slice A1_4 l1_4.length c1_4, .int .i64 a1_5] 60 (0, 0)) (by (with_reducible repeat (first | refine blk_drewN ?_ _ | refine blk_drew ?_ | refine blk_alloc ?_ _)); exact BK345.out)) : gb347 ≠ gb345)); clear BK345; clear HB; have BK345 := n0_; have HB := n1_; have BK347 := n2_; have GW347 := n3_; have GE347 := n4_; have NB345_347 := n5_; have NB347_345 := n6_; clear n0_ n1_ n2_ n3_ n4_ n5_ n6_; clear hb hbox hg; have hnb12 := NB347_345.out; have hnc12 := NB345_347.out; have hcz13_0 : w11.cell? ⟨gb347, 0, none⟩ = some (.int .i64 0) := (blk_cell BK347.out 0).trans rfl; have hcz13_1 : w11.cell? ⟨gb347, 1, none⟩ = some (.int .i64 0) := (blk_cell BK347.out 1).trans rfl; have hcz13_2 : w11.cell? ⟨gb347, 2, none⟩ = some (.int .i64 0) := (blk_cell BK347.out 2).trans rfl; have hcz13_3 : w11.cell? ⟨gb347, 3, none⟩ = some (.int .i64 0) := (blk_cell BK347.out 3).trans rfl; have hcz13_4 : w11.cell? ⟨gb347, 4, none⟩ = some (.int .u64 0) := (blk_cell BK347.out 4).trans rfl; have hcz13_5 : w11.cell? ⟨gb347, 5, none⟩ = some (.string (⟨#[]⟩ : ByteArray)) := (blk_cell BK347.out 5).trans rfl; have hfz13_0 := blk_frozen BK347.out 0; have hfz13_1 := blk_frozen BK347.out 1; have hfz13_2 := blk_frozen BK347.out 2; have hfz13_3 := blk_frozen BK347.out 3; have hfz13_4 := blk_frozen BK347.out 4; have hfz13_5 := blk_frozen BK347.out 5))
                (try simp only [Act.put, List.setIfInBounds_toArray, List.set_cons_zero, List.set_cons_succ])
                go_cut [53] (fun v53 wc => ∃ (kq : Nat) (x53_8 : Bool), v53 = .bool x53_8 ∧ Aside0 (trellisref17_Right.j2 kq a0 x5_2 x6_2 x53_8 a1_0 a1_1 a1_2 l1_3 l1_4 a1_5 ((rd_T68 l1_3 x6_2).f0) ((rd_T68 l1_3 x6_2).f1) ((rd_T68 l1_3 x6_2).f2) ((rd_T68 l1_3 x6_2).f3) ((rd_T68 l1_3 x6_2).f4) ((rd_T68 l1_3 x6_2).f5) = some r) ∧ Aside0 (kq ≤ k2) ∧ Aside0 (wc.heap[gb345]? = some (.cells #[.int .i64 a1_0, .int .i64 a1_1, .int .u64 a1_2, (.slice (some ad346) l1_3.length c1_3), (.slice A1_4 l1_4.length c1_4), .int .i64 a1_5] 60 (0, 0))) ∧ Aside0 (wc.heap[gb347]? = some (.cells #[.int .i64 ((rd_T68 l1_3 x6_2).f0), .int .i64 ((rd_T68 l1_3 x6_2).f1), .int .i64 ((rd_T68 l1_3 x6_2).f2), .int .i64 ((rd_T68 l1_3 x6_2).f3), .int .u64 ((rd_T68 l1_3 x6_2).f4), .string ((rd_T68 l1_3 x6_2).f5)] 68 (0, 0))) ∧ Aside0 (Below w.heap.size w wc))
                case first =>
                  have H := HC9.out
                  clear HC9
                  by_cases c14 : ((rd_T68 l1_3 x6_2).f1) < 0
                  · rw [if_pos c14] at H
                    have c14b0 : decide (((rd_T68 l1_3 x6_2).f1) < 0) = true := decide_eq_true c14
                    clear c14
                    (first | rw [c14b0] | (simp only [i64_w, i32_w]; rw [c14b0]) | skip)
                    have H' := Aside0.mk H
                    clear H
                    have hnb15 := NB347_345.out
                    have hnc15 := NB345_347.out
                    have hcz16_0 : w11.cell? ⟨gb347, 0, none⟩ = some (.int .i64 0) := (blk_cell BK347.out 0).trans rfl
                    have hcz16_1 : w11.cell? ⟨gb347, 1, none⟩ = some (.int .i64 0) := (blk_cell BK347.out 1).trans rfl
                    have hcz16_2 : w11.cell? ⟨gb347, 2, none⟩ = some (.int .i64 0) := (blk_cell BK347.out 2).trans rfl
                    have hcz16_3 : w11.cell? ⟨gb347, 3, none⟩ = some (.int .i64 0) := (blk_cell BK347.out 3).trans rfl
                    have hcz16_4 : w11.cell? ⟨gb347, 4, none⟩ = some (.int .u64 0) := (blk_cell BK347.out 4).trans rfl
                    have hcz16_5 : w11.cell? ⟨gb347, 5, none⟩ = some (.string (⟨#[]⟩ : ByteArray)) := (blk_cell BK347.out 5).trans rfl
                    have hfz16_0 := blk_frozen BK347.out 0
                    have hfz16_1 := blk_frozen BK347.out 1
                    have hfz16_2 := blk_frozen BK347.out 2
                    have hfz16_3 := blk_frozen BK347.out 3
                    have hfz16_4 := blk_frozen BK347.out 4
                    have hfz16_5 := blk_frozen BK347.out 5
                    go_wp2
                    go_meet
                    case rel => exact ⟨_, (true), (by first | rfl | (simp; done) | (simp [*]; done)), H', ⟨by have := HJ2.out; have := HK2.out; first | omega | exact Nat.le_refl _⟩, ⟨by (with_reducible repeat (first | refine blk_drewN ?_ _ | refine blk_drew ?_ | refine blk_alloc ?_ _)); refine blk_far ?_ NB345_347.out _; (with_reducible repeat (first | refine blk_drewN ?_ _ | refine blk_drew ?_ | refine blk_alloc ?_ _)); refine blk_far ?_ NB345_347.out _; (with_reducible repeat (first | refine blk_drewN ?_ _ | refine blk_drew ?_ | refine blk_alloc ?_ _)); refine blk_far ?_ NB345_347.out _; (with_reducible repeat (first | refine blk_drewN ?_ _ | refine blk_drew ?_ | refine blk_alloc ?_ _)); refine blk_far ?_ NB345_347.out _; (with_reducible repeat (first | refine blk_drewN ?_ _ | refine blk_drew ?_ | refine blk_alloc ?_ _)); refine blk_far ?_ NB345_347.out _; (with_reducible repeat (first | refine blk_drewN ?_ _ | refine blk_drew ?_ | refine blk_alloc ?_ _)); refine blk_far ?_ NB345_347.out _; (with_reducible repeat (first | refine blk_drewN ?_ _ | refine blk_drew ?_ | refine blk_alloc ?_ _)); exact BK345.out⟩, ⟨by (with_reducible repeat (first | refine blk_drewN ?_ _ | refine blk_drew ?_ | refine blk_alloc ?_ _)); refine blk_put (cs := #[.int .i64 ((rd_T68 l1_3 x6_2).f0), .int .i64 ((rd_T68 l1_3 x6_2).f1), .int .i64 ((rd_T68 l1_3 x6_2).f2), .int .i64 ((rd_T68 l1_3 x6_2).f3), .int .u64 ((rd_T68 l1_3 x6_2).f4), .string (⟨#[]⟩ : ByteArray)]) ?_ 5 _ rfl; (with_reducible repeat (first | refine blk_drewN ?_ _ | refine blk_drew ?_ | refine blk_alloc ?_ _)); refine blk_put (cs := #[.int .i64 ((rd_T68 l1_3 x6_2).f0), .int .i64 ((rd_T68 l1_3 x6_2).f1), .int .i64 ((rd_T68 l1_3 x6_2).f2), .int .i64 ((rd_T68 l1_3 x6_2).f3), .int .u64 0, .string (⟨#[]⟩ : ByteArray)]) ?_ 4 _ rfl; (with_reducible repeat (first | refine blk_drewN ?_ _ | refine blk_drew ?_ | refine blk_alloc ?_ _)); refine blk_put (cs := #[.int .i64 ((rd_T68 l1_3 x6_2).f0), .int .i64 ((rd_T68 l1_3 x6_2).f1), .int .i64 ((rd_T68 l1_3 x6_2).f2), .int .i64 0, .int .u64 0, .string (⟨#[]⟩ : ByteArray)]) ?_ 3 _ rfl; (with_reducible repeat (first | refine blk_drewN ?_ _ | refine blk_drew ?_ | refine blk_alloc ?_ _)); refine blk_put (cs := #[.int .i64 ((rd_T68 l1_3 x6_2).f0), .int .i64 ((rd_T68 l1_3 x6_2).f1), .int .i64 0, .int .i64 0, .int .u64 0, .string (⟨#[]⟩ : ByteArray)]) ?_ 2 _ rfl; (with_reducible repeat (first | refine blk_drewN ?_ _ | refine blk_drew ?_ | refine blk_alloc ?_ _)); refine blk_put (cs := #[.int .i64 ((rd_T68 l1_3 x6_2).f0), .int .i64 0, .int .i64 0, .int .i64 0, .int .u64 0, .string (⟨#[]⟩ : ByteArray)]) ?_ 1 _ rfl; (with_reducible repeat (first | refine blk_drewN ?_ _ | refine blk_drew ?_ | refine blk_alloc ?_ _)); refine blk_put (cs := #[.int .i64 0, .int .i64 0, .int .i64 0, .int .i64 0, .int .u64 0, .string (⟨#[]⟩ : ByteArray)]) ?_ 0 _ rfl; (with_reducible repeat (first | refine blk_drewN ?_ _ | refine blk_drew ?_ | refine blk_alloc ?_ _)); exact BK347.out⟩, ⟨by repeat (first | (with_reducible first | exact HB.out | apply below_alloc | apply pw_below_drewN | apply below_drew1 | refine below_set ?_ GE345.out | refine below_set ?_ GE347.out) | exact HB.out)⟩⟩
                  · rw [if_neg c14] at H
                    have c14b0 : decide (((rd_T68 l1_3 x6_2).f1) < 0) = false := decide_eq_false c14
                    clear c14
                    (first | rw [c14b0] | (simp only [i64_w, i32_w]; rw [c14b0]) | skip)
                    by_cases c17 : ((rd_T68 l1_3 x6_2).f2) < 0
                    · rw [if_pos c17] at H
                      have c17b0 : decide (((rd_T68 l1_3 x6_2).f2) < 0) = true := decide_eq_true c17
                      clear c17
                      have H' := Aside0.mk H
                      clear H
                      have hnb18 := NB347_345.out
                      have hnc18 := NB345_347.out
                      have hcz19_0 : w11.cell? ⟨gb347, 0, none⟩ = some (.int .i64 0) := (blk_cell BK347.out 0).trans rfl
                      have hcz19_1 : w11.cell? ⟨gb347, 1, none⟩ = some (.int .i64 0) := (blk_cell BK347.out 1).trans rfl
                      have hcz19_2 : w11.cell? ⟨gb347, 2, none⟩ = some (.int .i64 0) := (blk_cell BK347.out 2).trans rfl
                      have hcz19_3 : w11.cell? ⟨gb347, 3, none⟩ = some (.int .i64 0) := (blk_cell BK347.out 3).trans rfl
                      have hcz19_4 : w11.cell? ⟨gb347, 4, none⟩ = some (.int .u64 0) := (blk_cell BK347.out 4).trans rfl
                      have hcz19_5 : w11.cell? ⟨gb347, 5, none⟩ = some (.string (⟨#[]⟩ : ByteArray)) := (blk_cell BK347.out 5).trans rfl
                      have hfz19_0 := blk_frozen BK347.out 0
                      have hfz19_1 := blk_frozen BK347.out 1
                      have hfz19_2 := blk_frozen BK347.out 2
                      have hfz19_3 := blk_frozen BK347.out 3
                      have hfz19_4 := blk_frozen BK347.out 4
                      have hfz19_5 := blk_frozen BK347.out 5
                      go_wp2
                      go_meet
                      case rel => exact ⟨_, (true), (by first | rfl | (simp; done) | (simp [*]; done)), H', ⟨by have := HJ2.out; have := HK2.out; first | omega | exact Nat.le_refl _⟩, ⟨by (with_reducible repeat (first | refine blk_drewN ?_ _ | refine blk_drew ?_ | refine blk_alloc ?_ _)); refine blk_far ?_ NB345_347.out _; (with_reducible repeat (first | refine blk_drewN ?_ _ | refine blk_drew ?_ | refine blk_alloc ?_ _)); refine blk_far ?_ NB345_347.out _; (with_reducible repeat (first | refine blk_drewN ?_ _ | refine blk_drew ?_ | refine blk_alloc ?_ _)); refine blk_far ?_ NB345_347.out _; (with_reducible repeat (first | refine blk_drewN ?_ _ | refine blk_drew ?_ | refine blk_alloc ?_ _)); refine blk_far ?_ NB345_347.out _; (with_reducible repeat (first | refine blk_drewN ?_ _ | refine blk_drew ?_ | refine blk_alloc ?_ _)); refine blk_far ?_ NB345_347.out _; (with_reducible repeat (first | refine blk_drewN ?_ _ | refine blk_drew ?_ | refine blk_alloc ?_ _)); refine blk_far ?_ NB345_347.out _; (with_reducible repeat (first | refine blk_drewN ?_ _ | refine blk_drew ?_ | refine blk_alloc ?_ _)); exact BK345.out⟩, ⟨by (with_reducible repeat (first | refine blk_drewN ?_ _ | refine blk_drew ?_ | refine blk_alloc ?_ _)); refine blk_put (cs := #[.int .i64 ((rd_T68 l1_3 x6_2).f0), .int .i64 ((rd_T68 l1_3 x6_2).f1), .int .i64 ((rd_T68 l1_3 x6_2).f2), .int .i64 ((rd_T68 l1_3 x6_2).f3), .int .u64 ((rd_T68 l1_3 x6_2).f4), .string (⟨#[]⟩ : ByteArray)]) ?_ 5 _ rfl; (with_reducible repeat (first | refine blk_drewN ?_ _ | refine blk_drew ?_ | refine blk_alloc ?_ _)); refine blk_put (cs := #[.int .i64 ((rd_T68 l1_3 x6_2).f0), .int .i64 ((rd_T68 l1_3 x6_2).f1), .int .i64 ((rd_T68 l1_3 x6_2).f2), .int .i64 ((rd_T68 l1_3 x6_2).f3), .int .u64 0, .string (⟨#[]⟩ : ByteArray)]) ?_ 4 _ rfl; (with_reducible repeat (first | refine blk_drewN ?_ _ | refine blk_drew ?_ | refine blk_alloc ?_ _)); refine blk_put (cs := #[.int .i64 ((rd_T68 l1_3 x6_2).f0), .int .i64 ((rd_T68 l1_3 x6_2).f1), .int .i64 ((rd_T68 l1_3 x6_2).f2), .int .i64 0, .int .u64 0, .string (⟨#[]⟩ : ByteArray)]) ?_ 3 _ rfl; (with_reducible repeat (first | refine blk_drewN ?_ _ | refine blk_drew ?_ | refine blk_alloc ?_ _)); refine blk_put (cs := #[.int .i64 ((rd_T68 l1_3 x6_2).f0), .int .i64 ((rd_T68 l1_3 x6_2).f1), .int .i64 0, .int .i64 0, .int .u64 0, .string (⟨#[]⟩ : ByteArray)]) ?_ 2 _ rfl; (with_reducible repeat (first | refine blk_drewN ?_ _ | refine blk_drew ?_ | refine blk_alloc ?_ _)); refine blk_put (cs := #[.int .i64 ((rd_T68 l1_3 x6_2).f0), .int .i64 0, .int .i64 0, .int .i64 0, .int .u64 0, .string (⟨#[]⟩ : ByteArray)]) ?_ 1 _ rfl; (with_reducible repeat (first | refine blk_drewN ?_ _ | refine blk_drew ?_ | refine blk_alloc ?_ _)); refine blk_put (cs := #[.int .i64 0, .int .i64 0, .int .i64 0, .int .i64 0, .int .u64 0, .string (⟨#[]⟩ : ByteArray)]) ?_ 0 _ rfl; (with_reducible repeat (first | refine blk_drewN ?_ _ | refine blk_drew ?_ | refine blk_alloc ?_ _)); exact BK347.out⟩, ⟨by repeat (first | (with_reducible first | exact HB.out | apply below_alloc | apply pw_below_drewN | apply below_drew1 | refine below_set ?_ GE345.out | refine below_set ?_ GE347.out) | exact HB.out)⟩⟩
                    · rw [if_neg c17] at H
                      have c17b0 : decide (((rd_T68 l1_3 x6_2).f2) < 0) = false := decide_eq_false c17
                      clear c17
                      by_cases c20 : ((rd_T68 l1_3 x6_2).f3) < 0
                      · rw [if_pos c20] at H
                        have c20b0 : decide (((rd_T68 l1_3 x6_2).f3) < 0) = true := decide_eq_true c20
                        clear c20
                        have H' := Aside0.mk H
                        clear H
                        have hnb21 := NB347_345.out
                        have hnc21 := NB345_347.out
                        have hcz22_0 : w11.cell? ⟨gb347, 0, none⟩ = some (.int .i64 0) := (blk_cell BK347.out 0).trans rfl
                        have hcz22_1 : w11.cell? ⟨gb347, 1, none⟩ = some (.int .i64 0) := (blk_cell BK347.out 1).trans rfl
                        have hcz22_2 : w11.cell? ⟨gb347, 2, none⟩ = some (.int .i64 0) := (blk_cell BK347.out 2).trans rfl
                        have hcz22_3 : w11.cell? ⟨gb347, 3, none⟩ = some (.int .i64 0) := (blk_cell BK347.out 3).trans rfl
                        have hcz22_4 : w11.cell? ⟨gb347, 4, none⟩ = some (.int .u64 0) := (blk_cell BK347.out 4).trans rfl
                        have hcz22_5 : w11.cell? ⟨gb347, 5, none⟩ = some (.string (⟨#[]⟩ : ByteArray)) := (blk_cell BK347.out 5).trans rfl
                        have hfz22_0 := blk_frozen BK347.out 0
                        have hfz22_1 := blk_frozen BK347.out 1
                        have hfz22_2 := blk_frozen BK347.out 2
                        have hfz22_3 := blk_frozen BK347.out 3
                        have hfz22_4 := blk_frozen BK347.out 4
                        have hfz22_5 := blk_frozen BK347.out 5
                        go_wp2
                        go_meet
                        case rel => exact ⟨_, (true), (by first | rfl | (simp; done) | (simp [*]; done)), H', ⟨by have := HJ2.out; have := HK2.out; first | omega | exact Nat.le_refl _⟩, ⟨by (with_reducible repeat (first | refine blk_drewN ?_ _ | refine blk_drew ?_ | refine blk_alloc ?_ _)); refine blk_far ?_ NB345_347.out _; (with_reducible repeat (first | refine blk_drewN ?_ _ | refine blk_drew ?_ | refine blk_alloc ?_ _)); refine blk_far ?_ NB345_347.out _; (with_reducible repeat (first | refine blk_drewN ?_ _ | refine blk_drew ?_ | refine blk_alloc ?_ _)); refine blk_far ?_ NB345_347.out _; (with_reducible repeat (first | refine blk_drewN ?_ _ | refine blk_drew ?_ | refine blk_alloc ?_ _)); refine blk_far ?_ NB345_347.out _; (with_reducible repeat (first | refine blk_drewN ?_ _ | refine blk_drew ?_ | refine blk_alloc ?_ _)); refine blk_far ?_ NB345_347.out _; (with_reducible repeat (first | refine blk_drewN ?_ _ | refine blk_drew ?_ | refine blk_alloc ?_ _)); refine blk_far ?_ NB345_347.out _; (with_reducible repeat (first | refine blk_drewN ?_ _ | refine blk_drew ?_ | refine blk_alloc ?_ _)); exact BK345.out⟩, ⟨by (with_reducible repeat (first | refine blk_drewN ?_ _ | refine blk_drew ?_ | refine blk_alloc ?_ _)); refine blk_put (cs := #[.int .i64 ((rd_T68 l1_3 x6_2).f0), .int .i64 ((rd_T68 l1_3 x6_2).f1), .int .i64 ((rd_T68 l1_3 x6_2).f2), .int .i64 ((rd_T68 l1_3 x6_2).f3), .int .u64 ((rd_T68 l1_3 x6_2).f4), .string (⟨#[]⟩ : ByteArray)]) ?_ 5 _ rfl; (with_reducible repeat (first | refine blk_drewN ?_ _ | refine blk_drew ?_ | refine blk_alloc ?_ _)); refine blk_put (cs := #[.int .i64 ((rd_T68 l1_3 x6_2).f0), .int .i64 ((rd_T68 l1_3 x6_2).f1), .int .i64 ((rd_T68 l1_3 x6_2).f2), .int .i64 ((rd_T68 l1_3 x6_2).f3), .int .u64 0, .string (⟨#[]⟩ : ByteArray)]) ?_ 4 _ rfl; (with_reducible repeat (first | refine blk_drewN ?_ _ | refine blk_drew ?_ | refine blk_alloc ?_ _)); refine blk_put (cs := #[.int .i64 ((rd_T68 l1_3 x6_2).f0), .int .i64 ((rd_T68 l1_3 x6_2).f1), .int .i64 ((rd_T68 l1_3 x6_2).f2), .int .i64 0, .int .u64 0, .string (⟨#[]⟩ : ByteArray)]) ?_ 3 _ rfl; (with_reducible repeat (first | refine blk_drewN ?_ _ | refine blk_drew ?_ | refine blk_alloc ?_ _)); refine blk_put (cs := #[.int .i64 ((rd_T68 l1_3 x6_2).f0), .int .i64 ((rd_T68 l1_3 x6_2).f1), .int .i64 0, .int .i64 0, .int .u64 0, .string (⟨#[]⟩ : ByteArray)]) ?_ 2 _ rfl; (with_reducible repeat (first | refine blk_drewN ?_ _ | refine blk_drew ?_ | refine blk_alloc ?_ _)); refine blk_put (cs := #[.int .i64 ((rd_T68 l1_3 x6_2).f0), .int .i64 0, .int .i64 0, .int .i64 0, .int .u64 0, .string (⟨#[]⟩ : ByteArray)]) ?_ 1 _ rfl; (with_reducible repeat (first | refine blk_drewN ?_ _ | refine blk_drew ?_ | refine blk_alloc ?_ _)); refine blk_put (cs := #[.int .i64 0, .int .i64 0, .int .i64 0, .int .i64 0, .int .u64 0, .string (⟨#[]⟩ : ByteArray)]) ?_ 0 _ rfl; (with_reducible repeat (first | refine blk_drewN ?_ _ | refine blk_drew ?_ | refine blk_alloc ?_ _)); exact BK347.out⟩, ⟨by repeat (first | (with_reducible first | exact HB.out | apply below_alloc | apply pw_below_drewN | apply below_drew1 | refine below_set ?_ GE345.out | refine below_set ?_ GE347.out) | exact HB.out)⟩⟩
                      · rw [if_neg c20] at H
                        have c20b0 : decide (((rd_T68 l1_3 x6_2).f3) < 0) = false := decide_eq_false c20
                        clear c20
                        by_cases c23 : ((rd_T68 l1_3 x6_2).f1) > 1048577
                        · rw [if_pos c23] at H
                          have c23b0 : decide (1048577 < ((rd_T68 l1_3 x6_2).f1)) = true := decide_eq_true c23
                          clear c23
                          have H' := Aside0.mk H
                          clear H
                          have hnb24 := NB347_345.out
                          have hnc24 := NB345_347.out
                          have hcz25_0 : w11.cell? ⟨gb347, 0, none⟩ = some (.int .i64 0) := (blk_cell BK347.out 0).trans rfl
                          have hcz25_1 : w11.cell? ⟨gb347, 1, none⟩ = some (.int .i64 0) := (blk_cell BK347.out 1).trans rfl
                          have hcz25_2 : w11.cell? ⟨gb347, 2, none⟩ = some (.int .i64 0) := (blk_cell BK347.out 2).trans rfl
                          have hcz25_3 : w11.cell? ⟨gb347, 3, none⟩ = some (.int .i64 0) := (blk_cell BK347.out 3).trans rfl
                          have hcz25_4 : w11.cell? ⟨gb347, 4, none⟩ = some (.int .u64 0) := (blk_cell BK347.out 4).trans rfl
                          have hcz25_5 : w11.cell? ⟨gb347, 5, none⟩ = some (.string (⟨#[]⟩ : ByteArray)) := (blk_cell BK347.out 5).trans rfl
                          have hfz25_0 := blk_frozen BK347.out 0
                          have hfz25_1 := blk_frozen BK347.out 1
                          have hfz25_2 := blk_frozen BK347.out 2
                          have hfz25_3 := blk_frozen BK347.out 3
                          have hfz25_4 := blk_frozen BK347.out 4
                          have hfz25_5 := blk_frozen BK347.out 5
                          go_wp2
                          go_meet
                          case rel => exact ⟨_, (true), (by first | rfl | (simp; done) | (simp [*]; done)), H', ⟨by have := HJ2.out; have := HK2.out; first | omega | exact Nat.le_refl _⟩, ⟨by (with_reducible repeat (first | refine blk_drewN ?_ _ | refine blk_drew ?_ | refine blk_alloc ?_ _)); refine blk_far ?_ NB345_347.out _; (with_reducible repeat (first | refine blk_drewN ?_ _ | refine blk_drew ?_ | refine blk_alloc ?_ _)); refine blk_far ?_ NB345_347.out _; (with_reducible repeat (first | refine blk_drewN ?_ _ | refine blk_drew ?_ | refine blk_alloc ?_ _)); refine blk_far ?_ NB345_347.out _; (with_reducible repeat (first | refine blk_drewN ?_ _ | refine blk_drew ?_ | refine blk_alloc ?_ _)); refine blk_far ?_ NB345_347.out _; (with_reducible repeat (first | refine blk_drewN ?_ _ | refine blk_drew ?_ | refine blk_alloc ?_ _)); refine blk_far ?_ NB345_347.out _; (with_reducible repeat (first | refine blk_drewN ?_ _ | refine blk_drew ?_ | refine blk_alloc ?_ _)); refine blk_far ?_ NB345_347.out _; (with_reducible repeat (first | refine blk_drewN ?_ _ | refine blk_drew ?_ | refine blk_alloc ?_ _)); exact BK345.out⟩, ⟨by (with_reducible repeat (first | refine blk_drewN ?_ _ | refine blk_drew ?_ | refine blk_alloc ?_ _)); refine blk_put (cs := #[.int .i64 ((rd_T68 l1_3 x6_2).f0), .int .i64 ((rd_T68 l1_3 x6_2).f1), .int .i64 ((rd_T68 l1_3 x6_2).f2), .int .i64 ((rd_T68 l1_3 x6_2).f3), .int .u64 ((rd_T68 l1_3 x6_2).f4), .string (⟨#[]⟩ : ByteArray)]) ?_ 5 _ rfl; (with_reducible repeat (first | refine blk_drewN ?_ _ | refine blk_drew ?_ | refine blk_alloc ?_ _)); refine blk_put (cs := #[.int .i64 ((rd_T68 l1_3 x6_2).f0), .int .i64 ((rd_T68 l1_3 x6_2).f1), .int .i64 ((rd_T68 l1_3 x6_2).f2), .int .i64 ((rd_T68 l1_3 x6_2).f3), .int .u64 0, .string (⟨#[]⟩ : ByteArray)]) ?_ 4 _ rfl; (with_reducible repeat (first | refine blk_drewN ?_ _ | refine blk_drew ?_ | refine blk_alloc ?_ _)); refine blk_put (cs := #[.int .i64 ((rd_T68 l1_3 x6_2).f0), .int .i64 ((rd_T68 l1_3 x6_2).f1), .int .i64 ((rd_T68 l1_3 x6_2).f2), .int .i64 0, .int .u64 0, .string (⟨#[]⟩ : ByteArray)]) ?_ 3 _ rfl; (with_reducible repeat (first | refine blk_drewN ?_ _ | refine blk_drew ?_ | refine blk_alloc ?_ _)); refine blk_put (cs := #[.int .i64 ((rd_T68 l1_3 x6_2).f0), .int .i64 ((rd_T68 l1_3 x6_2).f1), .int .i64 0, .int .i64 0, .int .u64 0, .string (⟨#[]⟩ : ByteArray)]) ?_ 2 _ rfl; (with_reducible repeat (first | refine blk_drewN ?_ _ | refine blk_drew ?_ | refine blk_alloc ?_ _)); refine blk_put (cs := #[.int .i64 ((rd_T68 l1_3 x6_2).f0), .int .i64 0, .int .i64 0, .int .i64 0, .int .u64 0, .string (⟨#[]⟩ : ByteArray)]) ?_ 1 _ rfl; (with_reducible repeat (first | refine blk_drewN ?_ _ | refine blk_drew ?_ | refine blk_alloc ?_ _)); refine blk_put (cs := #[.int .i64 0, .int .i64 0, .int .i64 0, .int .i64 0, .int .u64 0, .string (⟨#[]⟩ : ByteArray)]) ?_ 0 _ rfl; (with_reducible repeat (first | refine blk_drewN ?_ _ | refine blk_drew ?_ | refine blk_alloc ?_ _)); exact BK347.out⟩, ⟨by repeat (first | (with_reducible first | exact HB.out | apply below_alloc | apply pw_below_drewN | apply below_drew1 | refine below_set ?_ GE345.out | refine below_set ?_ GE347.out) | exact HB.out)⟩⟩
                        · rw [if_neg c23] at H
                          have c23b0 : decide (1048577 < ((rd_T68 l1_3 x6_2).f1)) = false := decide_eq_false c23
                          clear c23
                          by_cases c26 : ((rd_T68 l1_3 x6_2).f2) > 1048577
                          · rw [if_pos c26] at H
                            have c26b0 : decide (1048577 < ((rd_T68 l1_3 x6_2).f2)) = true := decide_eq_true c26
                            clear c26
                            have H' := Aside0.mk H
                            clear H
                            have hnb27 := NB347_345.out
                            have hnc27 := NB345_347.out
                            have hcz28_0 : w11.cell? ⟨gb347, 0, none⟩ = some (.int .i64 0) := (blk_cell BK347.out 0).trans rfl
                            have hcz28_1 : w11.cell? ⟨gb347, 1, none⟩ = some (.int .i64 0) := (blk_cell BK347.out 1).trans rfl
                            have hcz28_2 : w11.cell? ⟨gb347, 2, none⟩ = some (.int .i64 0) := (blk_cell BK347.out 2).trans rfl
                            have hcz28_3 : w11.cell? ⟨gb347, 3, none⟩ = some (.int .i64 0) := (blk_cell BK347.out 3).trans rfl
                            have hcz28_4 : w11.cell? ⟨gb347, 4, none⟩ = some (.int .u64 0) := (blk_cell BK347.out 4).trans rfl
                            have hcz28_5 : w11.cell? ⟨gb347, 5, none⟩ = some (.string (⟨#[]⟩ : ByteArray)) := (blk_cell BK347.out 5).trans rfl
                            have hfz28_0 := blk_frozen BK347.out 0
                            have hfz28_1 := blk_frozen BK347.out 1
                            have hfz28_2 := blk_frozen BK347.out 2
                            have hfz28_3 := blk_frozen BK347.out 3
                            have hfz28_4 := blk_frozen BK347.out 4
                            have hfz28_5 := blk_frozen BK347.out 5
                            go_wp2
                            go_meet
                            case rel => exact ⟨_, (true), (by first | rfl | (simp; done) | (simp [*]; done)), H', ⟨by have := HJ2.out; have := HK2.out; first | omega | exact Nat.le_refl _⟩, ⟨by (with_reducible repeat (first | refine blk_drewN ?_ _ | refine blk_drew ?_ | refine blk_alloc ?_ _)); refine blk_far ?_ NB345_347.out _; (with_reducible repeat (first | refine blk_drewN ?_ _ | refine blk_drew ?_ | refine blk_alloc ?_ _)); refine blk_far ?_ NB345_347.out _; (with_reducible repeat (first | refine blk_drewN ?_ _ | refine blk_drew ?_ | refine blk_alloc ?_ _)); refine blk_far ?_ NB345_347.out _; (with_reducible repeat (first | refine blk_drewN ?_ _ | refine blk_drew ?_ | refine blk_alloc ?_ _)); refine blk_far ?_ NB345_347.out _; (with_reducible repeat (first | refine blk_drewN ?_ _ | refine blk_drew ?_ | refine blk_alloc ?_ _)); refine blk_far ?_ NB345_347.out _; (with_reducible repeat (first | refine blk_drewN ?_ _ | refine blk_drew ?_ | refine blk_alloc ?_ _)); refine blk_far ?_ NB345_347.out _; (with_reducible repeat (first | refine blk_drewN ?_ _ | refine blk_drew ?_ | refine blk_alloc ?_ _)); exact BK345.out⟩, ⟨by (with_reducible repeat (first | refine blk_drewN ?_ _ | refine blk_drew ?_ | refine blk_alloc ?_ _)); refine blk_put (cs := #[.int .i64 ((rd_T68 l1_3 x6_2).f0), .int .i64 ((rd_T68 l1_3 x6_2).f1), .int .i64 ((rd_T68 l1_3 x6_2).f2), .int .i64 ((rd_T68 l1_3 x6_2).f3), .int .u64 ((rd_T68 l1_3 x6_2).f4), .string (⟨#[]⟩ : ByteArray)]) ?_ 5 _ rfl; (with_reducible repeat (first | refine blk_drewN ?_ _ | refine blk_drew ?_ | refine blk_alloc ?_ _)); refine blk_put (cs := #[.int .i64 ((rd_T68 l1_3 x6_2).f0), .int .i64 ((rd_T68 l1_3 x6_2).f1), .int .i64 ((rd_T68 l1_3 x6_2).f2), .int .i64 ((rd_T68 l1_3 x6_2).f3), .int .u64 0, .string (⟨#[]⟩ : ByteArray)]) ?_ 4 _ rfl; (with_reducible repeat (first | refine blk_drewN ?_ _ | refine blk_drew ?_ | refine blk_alloc ?_ _)); refine blk_put (cs := #[.int .i64 ((rd_T68 l1_3 x6_2).f0), .int .i64 ((rd_T68 l1_3 x6_2).f1), .int .i64 ((rd_T68 l1_3 x6_2).f2), .int .i64 0, .int .u64 0, .string (⟨#[]⟩ : ByteArray)]) ?_ 3 _ rfl; (with_reducible repeat (first | refine blk_drewN ?_ _ | refine blk_drew ?_ | refine blk_alloc ?_ _)); refine blk_put (cs := #[.int .i64 ((rd_T68 l1_3 x6_2).f0), .int .i64 ((rd_T68 l1_3 x6_2).f1), .int .i64 0, .int .i64 0, .int .u64 0, .string (⟨#[]⟩ : ByteArray)]) ?_ 2 _ rfl; (with_reducible repeat (first | refine blk_drewN ?_ _ | refine blk_drew ?_ | refine blk_alloc ?_ _)); refine blk_put (cs := #[.int .i64 ((rd_T68 l1_3 x6_2).f0), .int .i64 0, .int .i64 0, .int .i64 0, .int .u64 0, .string (⟨#[]⟩ : ByteArray)]) ?_ 1 _ rfl; (with_reducible repeat (first | refine blk_drewN ?_ _ | refine blk_drew ?_ | refine blk_alloc ?_ _)); refine blk_put (cs := #[.int .i64 0, .int .i64 0, .int .i64 0, .int .i64 0, .int .u64 0, .string (⟨#[]⟩ : ByteArray)]) ?_ 0 _ rfl; (with_reducible repeat (first | refine blk_drewN ?_ _ | refine blk_drew ?_ | refine blk_alloc ?_ _)); exact BK347.out⟩, ⟨by repeat (first | (with_reducible first | exact HB.out | apply below_alloc | apply pw_below_drewN | apply below_drew1 | refine below_set ?_ GE345.out | refine below_set ?_ GE347.out) | exact HB.out)⟩⟩
                          · rw [if_neg c26] at H
                            have c26b0 : decide (1048577 < ((rd_T68 l1_3 x6_2).f2)) = false := decide_eq_false c26
                            clear c26
                            have H' := Aside0.mk H
                            clear H
                            have hnb29 := NB347_345.out
                            have hnc29 := NB345_347.out
                            have hcz30_0 : w11.cell? ⟨gb347, 0, none⟩ = some (.int .i64 0) := (blk_cell BK347.out 0).trans rfl
                            have hcz30_1 : w11.cell? ⟨gb347, 1, none⟩ = some (.int .i64 0) := (blk_cell BK347.out 1).trans rfl
                            have hcz30_2 : w11.cell? ⟨gb347, 2, none⟩ = some (.int .i64 0) := (blk_cell BK347.out 2).trans rfl
                            have hcz30_3 : w11.cell? ⟨gb347, 3, none⟩ = some (.int .i64 0) := (blk_cell BK347.out 3).trans rfl
                            have hcz30_4 : w11.cell? ⟨gb347, 4, none⟩ = some (.int .u64 0) := (blk_cell BK347.out 4).trans rfl
                            have hcz30_5 : w11.cell? ⟨gb347, 5, none⟩ = some (.string (⟨#[]⟩ : ByteArray)) := (blk_cell BK347.out 5).trans rfl
                            have hfz30_0 := blk_frozen BK347.out 0
                            have hfz30_1 := blk_frozen BK347.out 1
                            have hfz30_2 := blk_frozen BK347.out 2
                            have hfz30_3 := blk_frozen BK347.out 3
                            have hfz30_4 := blk_frozen BK347.out 4
                            have hfz30_5 := blk_frozen BK347.out 5
                            go_wp2
                            go_meet
                            case rel => exact ⟨_, (decide (((rd_T68 l1_3 x6_2).f3) > 1048577)), (by first | rfl | (simp; done) | (simp [*]; done)), H', ⟨by have := HJ2.out; have := HK2.out; first | omega | exact Nat.le_refl _⟩, ⟨by (with_reducible repeat (first | refine blk_drewN ?_ _ | refine blk_drew ?_ | refine blk_alloc ?_ _)); refine blk_far ?_ NB345_347.out _; (with_reducible repeat (first | refine blk_drewN ?_ _ | refine blk_drew ?_ | refine blk_alloc ?_ _)); refine blk_far ?_ NB345_347.out _; (with_reducible repeat (first | refine blk_drewN ?_ _ | refine blk_drew ?_ | refine blk_alloc ?_ _)); refine blk_far ?_ NB345_347.out _; (with_reducible repeat (first | refine blk_drewN ?_ _ | refine blk_drew ?_ | refine blk_alloc ?_ _)); refine blk_far ?_ NB345_347.out _; (with_reducible repeat (first | refine blk_drewN ?_ _ | refine blk_drew ?_ | refine blk_alloc ?_ _)); refine blk_far ?_ NB345_347.out _; (with_reducible repeat (first | refine blk_drewN ?_ _ | refine blk_drew ?_ | refine blk_alloc ?_ _)); refine blk_far ?_ NB345_347.out _; (with_reducible repeat (first | refine blk_drewN ?_ _ | refine blk_drew ?_ | refine blk_alloc ?_ _)); exact BK345.out⟩, ⟨by (with_reducible repeat (first | refine blk_drewN ?_ _ | refine blk_drew ?_ | refine blk_alloc ?_ _)); refine blk_put (cs := #[.int .i64 ((rd_T68 l1_3 x6_2).f0), .int .i64 ((rd_T68 l1_3 x6_2).f1), .int .i64 ((rd_T68 l1_3 x6_2).f2), .int .i64 ((rd_T68 l1_3 x6_2).f3), .int .u64 ((rd_T68 l1_3 x6_2).f4), .string (⟨#[]⟩ : ByteArray)]) ?_ 5 _ rfl; (with_reducible repeat (first | refine blk_drewN ?_ _ | refine blk_drew ?_ | refine blk_alloc ?_ _)); refine blk_put (cs := #[.int .i64 ((rd_T68 l1_3 x6_2).f0), .int .i64 ((rd_T68 l1_3 x6_2).f1), .int .i64 ((rd_T68 l1_3 x6_2).f2), .int .i64 ((rd_T68 l1_3 x6_2).f3), .int .u64 0, .string (⟨#[]⟩ : ByteArray)]) ?_ 4 _ rfl; (with_reducible repeat (first | refine blk_drewN ?_ _ | refine blk_drew ?_ | refine blk_alloc ?_ _)); refine blk_put (cs := #[.int .i64 ((rd_T68 l1_3 x6_2).f0), .int .i64 ((rd_T68 l1_3 x6_2).f1), .int .i64 ((rd_T68 l1_3 x6_2).f2), .int .i64 0, .int .u64 0, .string (⟨#[]⟩ : ByteArray)]) ?_ 3 _ rfl; (with_reducible repeat (first | refine blk_drewN ?_ _ | refine blk_drew ?_ | refine blk_alloc ?_ _)); refine blk_put (cs := #[.int .i64 ((rd_T68 l1_3 x6_2).f0), .int .i64 ((rd_T68 l1_3 x6_2).f1), .int .i64 0, .int .i64 0, .int .u64 0, .string (⟨#[]⟩ : ByteArray)]) ?_ 2 _ rfl; (with_reducible repeat (first | refine blk_drewN ?_ _ | refine blk_drew ?_ | refine blk_alloc ?_ _)); refine blk_put (cs := #[.int .i64 ((rd_T68 l1_3 x6_2).f0), .int .i64 0, .int .i64 0, .int .i64 0, .int .u64 0, .string (⟨#[]⟩ : ByteArray)]) ?_ 1 _ rfl; (with_reducible repeat (first | refine blk_drewN ?_ _ | refine blk_drew ?_ | refine blk_alloc ?_ _)); refine blk_put (cs := #[.int .i64 0, .int .i64 0, .int .i64 0, .int .i64 0, .int .u64 0, .string (⟨#[]⟩ : ByteArray)]) ?_ 0 _ rfl; (with_reducible repeat (first | refine blk_drewN ?_ _ | refine blk_drew ?_ | refine blk_alloc ?_ _)); exact BK347.out⟩, ⟨by repeat (first | (with_reducible first | exact HB.out | apply below_alloc | apply pw_below_drewN | apply below_drew1 | refine below_set ?_ GE345.out | refine below_set ?_ GE347.out) | exact HB.out)⟩⟩
                case rest =>
                  clear HC9
                  try clear c1
                  try clear c2
                  try clear p2
                  try clear p3
                  try clear q3
                  try clear hx3
                  try clear c4
                  try clear c5
                  try clear c5b0
                  try clear c6
                  try clear c7
                  try clear c7b0
                  try clear c8
                  try clear c8b0
                  try clear c12
                  try clear c14
                  try clear c14b0
                  try clear c15
                  try clear c17
                  try clear c17b0
                  try clear c18
                  try clear c20
                  try clear c20b0
                  try clear c21
                  try clear c23
                  try clear c23b0
                  try clear c24
                  try clear c26
                  try clear c26b0
                  try clear c27
                  try clear c29
                  try clear hcz10_0
                  try clear hcz10_1
                  try clear hcz10_2
                  try clear hcz10_3
                  try clear hcz10_4
                  try clear hcz10_5
                  try clear hcz13_0
                  try clear hcz13_1
                  try clear hcz13_2
                  try clear hcz13_3
                  try clear hcz13_4
                  try clear hcz13_5
                  try clear hcz16_0
                  try clear hcz16_1
                  try clear hcz16_2
                  try clear hcz16_3
                  try clear hcz16_4
                  try clear hcz16_5
                  try clear hcz19_0
                  try clear hcz19_1
                  try clear hcz19_2
                  try clear hcz19_3
                  try clear hcz19_4
                  try clear hcz19_5
                  try clear hcz22_0
                  try clear hcz22_1
                  try clear hcz22_2
                  try clear hcz22_3
                  try clear hcz22_4
                  try clear hcz22_5
                  try clear hcz25_0
                  try clear hcz25_1
                  try clear hcz25_2
                  try clear hcz25_3
                  try clear hcz25_4
                  try clear hcz25_5
                  try clear hcz28_0
                  try clear hcz28_1
                  try clear hcz28_2
                  try clear hcz28_3
                  try clear hcz28_4
                  try clear hcz28_5
                  try clear hcz30_0
                  try clear hcz30_1
                  try clear hcz30_2
                  try clear hcz30_3
                  try clear hcz30_4
                  try clear hcz30_5
                  try clear hfz10_0
                  try clear hfz10_1
                  try clear hfz10_2
                  try clear hfz10_3
                  try clear hfz10_4
                  try clear hfz10_5
                  try clear hfz13_0
                  try clear hfz13_1
                  try clear hfz13_2
                  try clear hfz13_3
                  try clear hfz13_4
                  try clear hfz13_5
                  try clear hfz16_0
                  try clear hfz16_1
                  try clear hfz16_2
                  try clear hfz16_3
                  try clear hfz16_4
                  try clear hfz16_5
                  try clear hfz19_0
                  try clear hfz19_1
                  try clear hfz19_2
                  try clear hfz19_3
                  try clear hfz19_4
                  try clear hfz19_5
                  try clear hfz22_0
                  try clear hfz22_1
                  try clear hfz22_2
                  try clear hfz22_3
                  try clear hfz22_4
                  try clear hfz22_5
                  try clear hfz25_0
                  try clear hfz25_1
                  try clear hfz25_2
                  try clear hfz25_3
                  try clear hfz25_4
                  try clear hfz25_5
                  try clear hfz28_0
                  try clear hfz28_1
                  try clear hfz28_2
                  try clear hfz28_3
                  try clear hfz28_4
                  try clear hfz28_5
                  try clear hfz30_0
                  try clear hfz30_1
                  try clear hfz30_2
                  try clear hfz30_3
                  try clear hfz30_4
                  try clear hfz30_5
                  try clear hx346_0
                  try clear hx346_1
                  try clear hx346_2
                  try clear hx346_3
                  try clear hx346_4
                  try clear hx346_5
                  try clear p2
                  try clear p346
                  try clear q346
                  obtain ⟨kq, x53_8, rfl, HA, HJ8, BK345, BK347, HB⟩ := hcut
                  cases kq with
                  | zero => exact absurd HA.out (by simp [trellisref17_Right.j2])
                  | succ kj8 =>
                    have H := HA.out
                    clear HA
                    simp only [trellisref17_Right.j2] at H
                    by_cases c31 : x53_8 = true
                    · subst c31
                      have H1 : (some false) = some r := by rw [if_pos rfl] at H; exact H
                      clear H
                      have H := H1
                      clear H1
                      obtain rfl := Option.some.inj H
                      go_wp2
                      go_ret
                      exact ⟨by first | rfl | (simp [errW_none, errW_some] <;> rfl) | (simp [*, errW_none, errW_some] <;> rfl), by repeat (first | (with_reducible first | exact HB.out | apply below_alloc | apply pw_below_drewN | apply below_drew1 | refine below_set ?_ GE345.out | refine below_set ?_ GE347.out) | exact HB.out)⟩
                    · replace c31 := Bool.eq_false_iff.mpr c31
                      subst c31
                      have H1 : (if (wrap64 ((wrap64 (x5_2 + ((rd_T68 l1_3 x6_2).f1))) + ((rd_T68 l1_3 x6_2).f2))) > a0 then (some false) else (trellisref17_Right.l0 kj8 a0 (wrap64 ((wrap64 (x5_2 + ((rd_T68 l1_3 x6_2).f1))) + ((rd_T68 l1_3 x6_2).f2))) (wrap64 (x6_2 + 1)) a1_0 a1_1 a1_2 l1_3 l1_4 a1_5)) = some r := by rw [if_neg (show ¬ (false = true) by decide)] at H; exact H
                      clear H
                      have H := H1
                      clear H1
                      by_cases c32 : (wrap64 ((wrap64 (x5_2 + ((rd_T68 l1_3 x6_2).f1))) + ((rd_T68 l1_3 x6_2).f2))) > a0
                      · rw [if_pos c32] at H
                        have c32b0 : decide (a0 < (wrap64 ((wrap64 (x5_2 + ((rd_T68 l1_3 x6_2).f1))) + ((rd_T68 l1_3 x6_2).f2)))) = true := decide_eq_true c32
                        clear c32
                        obtain rfl := Option.some.inj H
                        have hnb33 := NB347_345.out
                        have hnc33 := NB345_347.out
                        have hcz34_0 : wc.cell? ⟨gb347, 0, none⟩ = some (.int .i64 ((rd_T68 l1_3 x6_2).f0)) := (blk_cell BK347.out 0).trans rfl
                        have hcz34_1 : wc.cell? ⟨gb347, 1, none⟩ = some (.int .i64 ((rd_T68 l1_3 x6_2).f1)) := (blk_cell BK347.out 1).trans rfl
                        have hcz34_2 : wc.cell? ⟨gb347, 2, none⟩ = some (.int .i64 ((rd_T68 l1_3 x6_2).f2)) := (blk_cell BK347.out 2).trans rfl
                        have hcz34_3 : wc.cell? ⟨gb347, 3, none⟩ = some (.int .i64 ((rd_T68 l1_3 x6_2).f3)) := (blk_cell BK347.out 3).trans rfl
                        have hcz34_4 : wc.cell? ⟨gb347, 4, none⟩ = some (.int .u64 ((rd_T68 l1_3 x6_2).f4)) := (blk_cell BK347.out 4).trans rfl
                        have hcz34_5 : wc.cell? ⟨gb347, 5, none⟩ = some (.string ((rd_T68 l1_3 x6_2).f5)) := (blk_cell BK347.out 5).trans rfl
                        have hfz34_0 := blk_frozen BK347.out 0
                        have hfz34_1 := blk_frozen BK347.out 1
                        have hfz34_2 := blk_frozen BK347.out 2
                        have hfz34_3 := blk_frozen BK347.out 3
                        have hfz34_4 := blk_frozen BK347.out 4
                        have hfz34_5 := blk_frozen BK347.out 5
                        go_wp2
                        go_ret
                        exact ⟨by first | rfl | (simp [errW_none, errW_some] <;> rfl) | (simp [*, errW_none, errW_some] <;> rfl), by repeat (first | (with_reducible first | exact HB.out | apply below_alloc | apply pw_below_drewN | apply below_drew1 | refine below_set ?_ GE345.out | refine below_set ?_ GE347.out) | exact HB.out)⟩
                      · rw [if_neg c32] at H
                        have c32b0 : decide (a0 < (wrap64 ((wrap64 (x5_2 + ((rd_T68 l1_3 x6_2).f1))) + ((rd_T68 l1_3 x6_2).f2)))) = false := decide_eq_false c32
                        clear c32
                        have H' := Aside0.mk H
                        clear H
                        have hnb35 := NB347_345.out
                        have hnc35 := NB345_347.out
                        have hcz36_0 : wc.cell? ⟨gb347, 0, none⟩ = some (.int .i64 ((rd_T68 l1_3 x6_2).f0)) := (blk_cell BK347.out 0).trans rfl
                        have hcz36_1 : wc.cell? ⟨gb347, 1, none⟩ = some (.int .i64 ((rd_T68 l1_3 x6_2).f1)) := (blk_cell BK347.out 1).trans rfl
                        have hcz36_2 : wc.cell? ⟨gb347, 2, none⟩ = some (.int .i64 ((rd_T68 l1_3 x6_2).f2)) := (blk_cell BK347.out 2).trans rfl
                        have hcz36_3 : wc.cell? ⟨gb347, 3, none⟩ = some (.int .i64 ((rd_T68 l1_3 x6_2).f3)) := (blk_cell BK347.out 3).trans rfl
                        have hcz36_4 : wc.cell? ⟨gb347, 4, none⟩ = some (.int .u64 ((rd_T68 l1_3 x6_2).f4)) := (blk_cell BK347.out 4).trans rfl
                        have hcz36_5 : wc.cell? ⟨gb347, 5, none⟩ = some (.string ((rd_T68 l1_3 x6_2).f5)) := (blk_cell BK347.out 5).trans rfl
                        have hfz36_0 := blk_frozen BK347.out 0
                        have hfz36_1 := blk_frozen BK347.out 1
                        have hfz36_2 := blk_frozen BK347.out 2
                        have hfz36_3 := blk_frozen BK347.out 3
                        have hfz36_4 := blk_frozen BK347.out 4
                        have hfz36_5 := blk_frozen BK347.out 5
                        go_wp2
                        go_roundg kj8
                        case measure => have := HJ2.out; have := HK2.out; have := HJ8.out; omega
                        case rel => exact ⟨(wrap64 ((wrap64 (x5_2 + ((rd_T68 l1_3 x6_2).f1))) + ((rd_T68 l1_3 x6_2).f2))), (wrap64 (x6_2 + 1)), (by first | rfl | (simp; done) | (simp [*]; done)), (by first | rfl | (simp; done) | (simp [*]; done)), H', ⟨by have := HJ2.out; have := HK2.out; have := HJ8.out; omega⟩, ⟨by (with_reducible repeat (first | refine blk_drewN ?_ _ | refine blk_drew ?_ | refine blk_alloc ?_ _)); exact BK345.out⟩, ⟨by repeat (first | (with_reducible first | exact HB.out | apply below_alloc | apply pw_below_drewN | apply below_drew1 | refine below_set ?_ GE345.out | refine below_set ?_ GE347.out) | exact HB.out)⟩⟩
              · rw [if_neg c8] at H
                exact absurd H (by simp)
            · rw [if_neg c7] at H
              have c7b0 : decide (x6_2 < (l1_3.length : Int)) = false := decide_eq_false c7
              clear c7
              obtain rfl := Option.some.inj H
              have hcz37_0 : wr.cell? ⟨gb345, 0, none⟩ = some (.int .i64 a1_0) := (blk_cell BK345.out 0).trans rfl
              have hcz37_1 : wr.cell? ⟨gb345, 1, none⟩ = some (.int .i64 a1_1) := (blk_cell BK345.out 1).trans rfl
              have hcz37_2 : wr.cell? ⟨gb345, 2, none⟩ = some (.int .u64 a1_2) := (blk_cell BK345.out 2).trans rfl
              have hcz37_3 : wr.cell? ⟨gb345, 3, none⟩ = some (.slice A1_3 l1_3.length c1_3) := (blk_cell BK345.out 3).trans rfl
              have hcz37_4 : wr.cell? ⟨gb345, 4, none⟩ = some (.slice A1_4 l1_4.length c1_4) := (blk_cell BK345.out 4).trans rfl
              have hcz37_5 : wr.cell? ⟨gb345, 5, none⟩ = some (.int .i64 a1_5) := (blk_cell BK345.out 5).trans rfl
              have hfz37_0 := blk_frozen BK345.out 0
              have hfz37_1 := blk_frozen BK345.out 1
              have hfz37_2 := blk_frozen BK345.out 2
              have hfz37_3 := blk_frozen BK345.out 3
              have hfz37_4 := blk_frozen BK345.out 4
              have hfz37_5 := blk_frozen BK345.out 5
              go_wp2
              go_ret
              exact ⟨by first | rfl | (simp [errW_none, errW_some] <;> rfl) | (simp [*, errW_none, errW_some] <;> rfl), by repeat (first | (with_reducible first | exact HB.out | apply below_alloc | apply pw_below_drewN | apply below_drew1 | refine below_set ?_ GE345.out) | exact HB.out)⟩

end Go.Proofs.Ytknagjiipelfnaa.PAll
