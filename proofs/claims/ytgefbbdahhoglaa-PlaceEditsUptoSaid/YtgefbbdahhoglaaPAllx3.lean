-- PRINTED by print.py (a twelfth state) out of the translation. Not trusted: Lean checks it.
import Derived.Test.YtgefbbdahhoglaaPAllx0
import Derived.Test.YtgefbbdahhoglaaPAllx2
namespace Go.Proofs.Ytgefbbdahhoglaa.PAll
open Go.RowKit Go.Proofs.YtgefbbdahhoglaaW.PrintWords Go.Proofs.YtgefbbdahhoglaaW.PrintLast Go.Proofs.YtgefbbdahhoglaaW.PrintMore
attribute [local go_sem] max2_int min2_int max_two min_two max_three min_three max_four min_four   -- for this text's walks alone
set_option linter.unusedVariables false
set_option linter.unusedSimpArgs false

/-! ### trellisref2_Char: function 38 -/
mutual
def trellisref2_Char.j0 : Nat → ByteArray → Int → Int → Bool → Option (Int × Int)
  | 0, _, _, _, _ => none
  | k + 1, x0, x1, x6, x10 => if x10 = true then (some (2, 1)) else (if x6 = 224 then ((trellisref2_follows.f k x0 (wrap64 (x1 + 1)) 160 191 2).bind fun t142 => (trellisref2_Char.j1 k x0 x1 x6 t142)) else (trellisref2_Char.j1 k x0 x1 x6 false))
def trellisref2_Char.j1 : Nat → ByteArray → Int → Int → Bool → Option (Int × Int)
  | 0, _, _, _, _ => none
  | k + 1, x0, x1, x6, x23 => if x23 = true then (some (3, 1)) else (if x6 = 237 then ((trellisref2_follows.f k x0 (wrap64 (x1 + 1)) 128 159 2).bind fun t143 => (trellisref2_Char.j2 k x0 x1 x6 t143)) else (trellisref2_Char.j2 k x0 x1 x6 false))
def trellisref2_Char.j2 : Nat → ByteArray → Int → Int → Bool → Option (Int × Int)
  | 0, _, _, _, _ => none
  | k + 1, x0, x1, x6, x32 => if x32 = true then (some (3, 1)) else (if x6 ≥ 225 then (if x6 ≤ 239 then (if x6 = 237 then (trellisref2_Char.j3 k x0 x1 x6 false) else ((trellisref2_follows.f k x0 (wrap64 (x1 + 1)) 128 191 2).bind fun t144 => (trellisref2_Char.j3 k x0 x1 x6 t144))) else (trellisref2_Char.j3 k x0 x1 x6 false)) else (trellisref2_Char.j3 k x0 x1 x6 false))
def trellisref2_Char.j3 : Nat → ByteArray → Int → Int → Bool → Option (Int × Int)
  | 0, _, _, _, _ => none
  | k + 1, x0, x1, x6, x41 => if x41 = true then (some (3, 1)) else (if x6 = 240 then ((trellisref2_follows.f k x0 (wrap64 (x1 + 1)) 144 191 3).bind fun t145 => (trellisref2_Char.j4 k x0 x1 x6 t145)) else (trellisref2_Char.j4 k x0 x1 x6 false))
def trellisref2_Char.j4 : Nat → ByteArray → Int → Int → Bool → Option (Int × Int)
  | 0, _, _, _, _ => none
  | k + 1, x0, x1, x6, x58 => if x58 = true then (some (4, 2)) else (if x6 ≥ 241 then (if x6 ≤ 243 then ((trellisref2_follows.f k x0 (wrap64 (x1 + 1)) 128 191 3).bind fun t146 => (trellisref2_Char.j5 k x0 x1 x6 t146)) else (trellisref2_Char.j5 k x0 x1 x6 false)) else (trellisref2_Char.j5 k x0 x1 x6 false))
def trellisref2_Char.j5 : Nat → ByteArray → Int → Int → Bool → Option (Int × Int)
  | 0, _, _, _, _ => none
  | k + 1, x0, x1, x6, x67 => if x67 = true then (some (4, 2)) else (if x6 = 244 then ((trellisref2_follows.f k x0 (wrap64 (x1 + 1)) 128 143 3).bind fun t147 => (if t147 = true then (some (4, 2)) else (some (1, 1)))) else (some (1, 1)))
end
def trellisref2_Char.f (k : Nat) (a0 : ByteArray) (a1 : Int) : Option (Int × Int) := if 0 ≤ a1 then (if a1 < (a0.size : Int) then (if (bt a0 a1) ≥ 194 then (if (bt a0 a1) ≤ 223 then ((trellisref2_follows.f k a0 (wrap64 (a1 + 1)) 128 191 1).bind fun t141 => (trellisref2_Char.j0 k a0 a1 (bt a0 a1) t141)) else (trellisref2_Char.j0 k a0 a1 (bt a0 a1) false)) else (trellisref2_Char.j0 k a0 a1 (bt a0 a1) false)) else (none)) else (none)
theorem trellisref2_Char.mono_l : ∀ k, (∀ y0 y1 y2 y3, LeO (trellisref2_Char.j0 k y0 y1 y2 y3) (trellisref2_Char.j0 (k + 1) y0 y1 y2 y3)) ∧ (∀ y0 y1 y2 y3, LeO (trellisref2_Char.j1 k y0 y1 y2 y3) (trellisref2_Char.j1 (k + 1) y0 y1 y2 y3)) ∧ (∀ y0 y1 y2 y3, LeO (trellisref2_Char.j2 k y0 y1 y2 y3) (trellisref2_Char.j2 (k + 1) y0 y1 y2 y3)) ∧ (∀ y0 y1 y2 y3, LeO (trellisref2_Char.j3 k y0 y1 y2 y3) (trellisref2_Char.j3 (k + 1) y0 y1 y2 y3)) ∧ (∀ y0 y1 y2 y3, LeO (trellisref2_Char.j4 k y0 y1 y2 y3) (trellisref2_Char.j4 (k + 1) y0 y1 y2 y3)) ∧ (∀ y0 y1 y2 y3, LeO (trellisref2_Char.j5 k y0 y1 y2 y3) (trellisref2_Char.j5 (k + 1) y0 y1 y2 y3))
  | 0 => ⟨fun _ _ _ _ r h => by simp [trellisref2_Char.j0] at h, fun _ _ _ _ r h => by simp [trellisref2_Char.j1] at h, fun _ _ _ _ r h => by simp [trellisref2_Char.j2] at h, fun _ _ _ _ r h => by simp [trellisref2_Char.j3] at h, fun _ _ _ _ r h => by simp [trellisref2_Char.j4] at h, fun _ _ _ _ r h => by simp [trellisref2_Char.j5] at h⟩
  | k + 1 => by
    obtain ⟨ih0, ih1, ih2, ih3, ih4, ih5⟩ := trellisref2_Char.mono_l k
    refine ⟨?_, ?_, ?_, ?_, ?_, ?_⟩
    · intro y0 y1 y2 y3
      unfold trellisref2_Char.j0
      repeat' first
      | (with_reducible exact ih0 _ _ _ _)
      | (with_reducible exact ih1 _ _ _ _)
      | (with_reducible exact ih2 _ _ _ _)
      | (with_reducible exact ih3 _ _ _ _)
      | (with_reducible exact ih4 _ _ _ _)
      | (with_reducible exact ih5 _ _ _ _)
      | (with_reducible exact trellisref2_follows.mono _ _ _ _ _ _)
      | (with_reducible exact LeO.refl _)
      | (with_reducible exact LeO.none _)
      | (with_reducible refine LeO.ite ?_ ?_)
      | (with_reducible refine LeO.bind ?_ (fun _ => ?_))
      | exact ih0 _ _ _ _
      | exact ih1 _ _ _ _
      | exact ih2 _ _ _ _
      | exact ih3 _ _ _ _
      | exact ih4 _ _ _ _
      | exact ih5 _ _ _ _
      | exact trellisref2_follows.mono _ _ _ _ _ _
      | exact LeO.none _
      | refine LeO.ite ?_ ?_
      | refine LeO.bind ?_ (fun _ => ?_)
    · intro y0 y1 y2 y3
      unfold trellisref2_Char.j1
      repeat' first
      | (with_reducible exact ih0 _ _ _ _)
      | (with_reducible exact ih1 _ _ _ _)
      | (with_reducible exact ih2 _ _ _ _)
      | (with_reducible exact ih3 _ _ _ _)
      | (with_reducible exact ih4 _ _ _ _)
      | (with_reducible exact ih5 _ _ _ _)
      | (with_reducible exact trellisref2_follows.mono _ _ _ _ _ _)
      | (with_reducible exact LeO.refl _)
      | (with_reducible exact LeO.none _)
      | (with_reducible refine LeO.ite ?_ ?_)
      | (with_reducible refine LeO.bind ?_ (fun _ => ?_))
      | exact ih0 _ _ _ _
      | exact ih1 _ _ _ _
      | exact ih2 _ _ _ _
      | exact ih3 _ _ _ _
      | exact ih4 _ _ _ _
      | exact ih5 _ _ _ _
      | exact trellisref2_follows.mono _ _ _ _ _ _
      | exact LeO.none _
      | refine LeO.ite ?_ ?_
      | refine LeO.bind ?_ (fun _ => ?_)
    · intro y0 y1 y2 y3
      unfold trellisref2_Char.j2
      repeat' first
      | (with_reducible exact ih0 _ _ _ _)
      | (with_reducible exact ih1 _ _ _ _)
      | (with_reducible exact ih2 _ _ _ _)
      | (with_reducible exact ih3 _ _ _ _)
      | (with_reducible exact ih4 _ _ _ _)
      | (with_reducible exact ih5 _ _ _ _)
      | (with_reducible exact trellisref2_follows.mono _ _ _ _ _ _)
      | (with_reducible exact LeO.refl _)
      | (with_reducible exact LeO.none _)
      | (with_reducible refine LeO.ite ?_ ?_)
      | (with_reducible refine LeO.bind ?_ (fun _ => ?_))
      | exact ih0 _ _ _ _
      | exact ih1 _ _ _ _
      | exact ih2 _ _ _ _
      | exact ih3 _ _ _ _
      | exact ih4 _ _ _ _
      | exact ih5 _ _ _ _
      | exact trellisref2_follows.mono _ _ _ _ _ _
      | exact LeO.none _
      | refine LeO.ite ?_ ?_
      | refine LeO.bind ?_ (fun _ => ?_)
    · intro y0 y1 y2 y3
      unfold trellisref2_Char.j3
      repeat' first
      | (with_reducible exact ih0 _ _ _ _)
      | (with_reducible exact ih1 _ _ _ _)
      | (with_reducible exact ih2 _ _ _ _)
      | (with_reducible exact ih3 _ _ _ _)
      | (with_reducible exact ih4 _ _ _ _)
      | (with_reducible exact ih5 _ _ _ _)
      | (with_reducible exact trellisref2_follows.mono _ _ _ _ _ _)
      | (with_reducible exact LeO.refl _)
      | (with_reducible exact LeO.none _)
      | (with_reducible refine LeO.ite ?_ ?_)
      | (with_reducible refine LeO.bind ?_ (fun _ => ?_))
      | exact ih0 _ _ _ _
      | exact ih1 _ _ _ _
      | exact ih2 _ _ _ _
      | exact ih3 _ _ _ _
      | exact ih4 _ _ _ _
      | exact ih5 _ _ _ _
      | exact trellisref2_follows.mono _ _ _ _ _ _
      | exact LeO.none _
      | refine LeO.ite ?_ ?_
      | refine LeO.bind ?_ (fun _ => ?_)
    · intro y0 y1 y2 y3
      unfold trellisref2_Char.j4
      repeat' first
      | (with_reducible exact ih0 _ _ _ _)
      | (with_reducible exact ih1 _ _ _ _)
      | (with_reducible exact ih2 _ _ _ _)
      | (with_reducible exact ih3 _ _ _ _)
      | (with_reducible exact ih4 _ _ _ _)
      | (with_reducible exact ih5 _ _ _ _)
      | (with_reducible exact trellisref2_follows.mono _ _ _ _ _ _)
      | (with_reducible exact LeO.refl _)
      | (with_reducible exact LeO.none _)
      | (with_reducible refine LeO.ite ?_ ?_)
      | (with_reducible refine LeO.bind ?_ (fun _ => ?_))
      | exact ih0 _ _ _ _
      | exact ih1 _ _ _ _
      | exact ih2 _ _ _ _
      | exact ih3 _ _ _ _
      | exact ih4 _ _ _ _
      | exact ih5 _ _ _ _
      | exact trellisref2_follows.mono _ _ _ _ _ _
      | exact LeO.none _
      | refine LeO.ite ?_ ?_
      | refine LeO.bind ?_ (fun _ => ?_)
    · intro y0 y1 y2 y3
      unfold trellisref2_Char.j5
      repeat' first
      | (with_reducible exact ih0 _ _ _ _)
      | (with_reducible exact ih1 _ _ _ _)
      | (with_reducible exact ih2 _ _ _ _)
      | (with_reducible exact ih3 _ _ _ _)
      | (with_reducible exact ih4 _ _ _ _)
      | (with_reducible exact ih5 _ _ _ _)
      | (with_reducible exact trellisref2_follows.mono _ _ _ _ _ _)
      | (with_reducible exact LeO.refl _)
      | (with_reducible exact LeO.none _)
      | (with_reducible refine LeO.ite ?_ ?_)
      | (with_reducible refine LeO.bind ?_ (fun _ => ?_))
      | exact ih0 _ _ _ _
      | exact ih1 _ _ _ _
      | exact ih2 _ _ _ _
      | exact ih3 _ _ _ _
      | exact ih4 _ _ _ _
      | exact ih5 _ _ _ _
      | exact trellisref2_follows.mono _ _ _ _ _ _
      | exact LeO.none _
      | refine LeO.ite ?_ ?_
      | refine LeO.bind ?_ (fun _ => ?_)
theorem trellisref2_Char.mono : ∀ a0 a1 k, LeO (trellisref2_Char.f k a0 a1) (trellisref2_Char.f (k + 1) a0 a1) := by
  intro a0 a1 k
  obtain ⟨ih0, ih1, ih2, ih3, ih4, ih5⟩ := trellisref2_Char.mono_l k
  unfold trellisref2_Char.f
  repeat' first
      | (with_reducible exact ih0 _ _ _ _)
      | (with_reducible exact ih1 _ _ _ _)
      | (with_reducible exact ih2 _ _ _ _)
      | (with_reducible exact ih3 _ _ _ _)
      | (with_reducible exact ih4 _ _ _ _)
      | (with_reducible exact ih5 _ _ _ _)
      | (with_reducible exact trellisref2_follows.mono _ _ _ _ _ _)
      | (with_reducible exact LeO.refl _)
      | (with_reducible exact LeO.none _)
      | (with_reducible refine LeO.ite ?_ ?_)
      | (with_reducible refine LeO.bind ?_ (fun _ => ?_))
      | exact ih0 _ _ _ _
      | exact ih1 _ _ _ _
      | exact ih2 _ _ _ _
      | exact ih3 _ _ _ _
      | exact ih4 _ _ _ _
      | exact ih5 _ _ _ _
      | exact trellisref2_follows.mono _ _ _ _ _ _
      | exact LeO.none _
      | refine LeO.ite ?_ ?_
      | refine LeO.bind ?_ (fun _ => ?_)
set_option maxHeartbeats 8000000 in
set_option maxRecDepth 100000 in
theorem trellisref2_Char.calls (k : Nat) (a0 : ByteArray) (a1 : Int) (r1 : Int) (r2 : Int) (w : World) (h : trellisref2_Char.f k a0 a1 = some (r1, r2)) :
    Calls Try.prog 38 #[.string a0, .int .i64 a1] w fun e w' => e = .returned (.tuple #[.int .i64 r1, .int .i64 r2]) ∧ Drawn0 w w' := by
  have H : (if 0 ≤ a1 then (if a1 < (a0.size : Int) then (if (bt a0 a1) ≥ 194 then (if (bt a0 a1) ≤ 223 then ((trellisref2_follows.f k a0 (wrap64 (a1 + 1)) 128 191 1).bind fun t141 => (trellisref2_Char.j0 k a0 a1 (bt a0 a1) t141)) else (trellisref2_Char.j0 k a0 a1 (bt a0 a1) false)) else (trellisref2_Char.j0 k a0 a1 (bt a0 a1) false)) else (none)) else (none)) = some (r1, r2) := h
  clear h
  by_cases c3 : 0 ≤ a1
  · rw [if_pos c3] at H
    have c3b0 : decide (0 ≤ a1) = true := decide_eq_true c3
    clear c3
    by_cases c4 : a1 < (a0.size : Int)
    · rw [if_pos c4] at H
      have c4b0 : decide (a1 < (a0.size : Int)) = true := decide_eq_true c4
      clear c4
      have HC6 := Aside0.mk H
      clear H
      have p5 : 0 ≤ (a1 : Int) := of_decide_eq_true (by first | (with_reducible assumption) | assumption)
      have q5 : a1 < (a0.size : Int) := of_decide_eq_true (by first | (with_reducible assumption) | assumption)
      have hx5 := bt_at a0 a1
      replace p5 := eq_true p5
      replace q5 := eq_true q5
      go_enter Try.func38, Try.ntmps38
      go_upto_region 2 with (fail)
      go_cut [10] (fun v10 wc => ∃ (kq : Nat) (x10_5 : Bool), v10 = .bool x10_5 ∧ Aside0 (trellisref2_Char.j0 kq a0 a1 (bt a0 a1) x10_5 = some (r1, r2)) ∧ Aside0 (kq ≤ k) ∧ Drawn0 w wc)
      case first =>
        have H := HC6.out
        clear HC6
        by_cases c7 : (bt a0 a1) ≥ 194
        · rw [if_pos c7] at H
          have c7b0 : decide (194 ≤ (bt a0 a1)) = true := decide_eq_true c7
          clear c7
          (first | rw [c7b0] | (simp only [i64_w, i32_w]; rw [c7b0]) | skip)
          by_cases c8 : (bt a0 a1) ≤ 223
          · rw [if_pos c8] at H
            have c8b0 : decide ((bt a0 a1) ≤ 223) = true := decide_eq_true c8
            clear c8
            replace H := Option.bind_eq_some_iff.mp H
            obtain ⟨t141, A90, H⟩ := H
            replace H : (trellisref2_Char.j0 k a0 a1 (bt a0 a1) t141) = some (r1, r2) := H
            have A9 := Aside0.mk A90
            clear A90
            have H' := Aside0.mk H
            clear H
            go_wp2_with (first | (go_at_call 39; (with_reducible refine (trellisref2_follows.calls k a0 (wrap64 (a1 + 1)) 128 191 1 t141 _ A9.out).mono ?_); rintro e w' ⟨rfl, ⟨nd, rfl⟩⟩))
            go_meet
            case rel => exact ⟨_, (t141), (by first | rfl | (simp; done) | (simp [*]; done)), H', ⟨by first | omega | exact Nat.le_refl _⟩, by repeat (first | exact Drawn0.refl _ | apply Drawn0.step)⟩
          · rw [if_neg c8] at H
            have c8b0 : decide ((bt a0 a1) ≤ 223) = false := decide_eq_false c8
            clear c8
            have H' := Aside0.mk H
            clear H
            go_wp2
            go_meet
            case rel => exact ⟨_, (false), (by first | rfl | (simp; done) | (simp [*]; done)), H', ⟨by first | omega | exact Nat.le_refl _⟩, by repeat (first | exact Drawn0.refl _ | apply Drawn0.step)⟩
        · rw [if_neg c7] at H
          have c7b0 : decide (194 ≤ (bt a0 a1)) = false := decide_eq_false c7
          clear c7
          (first | rw [c7b0] | (simp only [i64_w, i32_w]; rw [c7b0]) | skip)
          have H' := Aside0.mk H
          clear H
          go_wp2
          go_meet
          case rel => exact ⟨_, (false), (by first | rfl | (simp; done) | (simp [*]; done)), H', ⟨by first | omega | exact Nat.le_refl _⟩, by repeat (first | exact Drawn0.refl _ | apply Drawn0.step)⟩
      case rest =>
        clear HC6
        try clear p2
        try clear c3
        try clear c3b0
        try clear c4
        try clear c4b0
        try clear p5
        try clear q5
        try clear hx5
        try clear p6
        try clear c7
        try clear c7b0
        try clear c8
        try clear c8b0
        try clear p5
        try clear q5
        obtain ⟨kq, x10_5, rfl, HA, HJ5, ⟨mc5, rfl⟩⟩ := hcut
        cases kq with
        | zero => exact absurd HA.out (by simp [trellisref2_Char.j0])
        | succ kj5 =>
          have H := HA.out
          clear HA
          simp only [trellisref2_Char.j0] at H
          by_cases c10 : x10_5 = true
          · subst c10
            have H1 : (some (2, 1)) = some (r1, r2) := by rw [if_pos rfl] at H; exact H
            clear H
            have H := H1
            clear H1
            simp only [Option.some.injEq, Prod.mk.injEq] at H
            obtain ⟨rfl, rfl⟩ := H
            go_wp2
            go_ret2
            exact ⟨by first | rfl | (simp; done) | (simp [*]; done), by repeat (first | exact Drawn0.refl _ | apply Drawn0.step)⟩
          · replace c10 := Bool.eq_false_iff.mpr c10
            subst c10
            have H1 : (if (bt a0 a1) = 224 then ((trellisref2_follows.f kj5 a0 (wrap64 (a1 + 1)) 160 191 2).bind fun t142 => (trellisref2_Char.j1 kj5 a0 a1 (bt a0 a1) t142)) else (trellisref2_Char.j1 kj5 a0 a1 (bt a0 a1) false)) = some (r1, r2) := by rw [if_neg (show ¬ (false = true) by decide)] at H; exact H
            clear H
            have H := H1
            clear H1
            have HC11 := Aside0.mk H
            clear H
            go_upto_region 4 with (fail)
            go_cut [23] (fun v23 wc => ∃ (kq : Nat) (x23_10 : Bool), v23 = .bool x23_10 ∧ Aside0 (trellisref2_Char.j1 kq a0 a1 (bt a0 a1) x23_10 = some (r1, r2)) ∧ Aside0 (kq ≤ kj5) ∧ Drawn0 w wc)
            case first =>
              have H := HC11.out
              clear HC11
              by_cases c12 : (bt a0 a1) = 224
              · rw [if_pos c12] at H
                have c12b0 : ((bt a0 a1) == 224) = true := beq_iff_eq.mpr c12
                have c12b1 : ((bt a0 a1) != 224) = false := bne_eq_false_iff_eq.mpr c12
                clear c12
                (first | rw [c12b0] | (simp only [i64_w, i32_w]; rw [c12b0]) | skip)
                replace H := Option.bind_eq_some_iff.mp H
                obtain ⟨t142, A130, H⟩ := H
                replace H : (trellisref2_Char.j1 kj5 a0 a1 (bt a0 a1) t142) = some (r1, r2) := H
                have A13 := Aside0.mk A130
                clear A130
                have H' := Aside0.mk H
                clear H
                go_wp2_with (first | (go_at_call 39; (with_reducible refine (trellisref2_follows.calls kj5 a0 (wrap64 (a1 + 1)) 160 191 2 t142 _ A13.out).mono ?_); rintro e w' ⟨rfl, ⟨nd, rfl⟩⟩))
                go_meet
                case rel => exact ⟨_, (t142), (by first | rfl | (simp; done) | (simp [*]; done)), H', ⟨by have := HJ5.out; first | omega | exact Nat.le_refl _⟩, by repeat (first | exact Drawn0.refl _ | apply Drawn0.step)⟩
              · rw [if_neg c12] at H
                have c12b0 : ((bt a0 a1) == 224) = false := beq_eq_false_iff_ne.mpr c12
                have c12b1 : ((bt a0 a1) != 224) = true := bne_iff_ne.mpr c12
                (first | rw [c12b0] | (simp only [i64_w, i32_w]; rw [c12b0]) | skip)
                have H' := Aside0.mk H
                clear H
                go_wp2
                go_meet
                case rel => exact ⟨_, (false), (by first | rfl | (simp; done) | (simp [*]; done)), H', ⟨by have := HJ5.out; first | omega | exact Nat.le_refl _⟩, by repeat (first | exact Drawn0.refl _ | apply Drawn0.step)⟩
            case rest =>
              clear HC11
              try clear c1
              try clear p2
              try clear c3
              try clear c3b0
              try clear c4
              try clear c4b0
              try clear c5
              try clear p5
              try clear q5
              try clear hx5
              try clear p6
              try clear c7
              try clear c7b0
              try clear c8
              try clear c8b0
              try clear c10
              try clear c12
              try clear c12b0
              try clear c12b1
              try clear p2
              try clear p5
              try clear p6
              try clear q5
              obtain ⟨kq, x23_10, rfl, HA, HJ10, ⟨mc10, rfl⟩⟩ := hcut
              cases kq with
              | zero => exact absurd HA.out (by simp [trellisref2_Char.j1])
              | succ kj10 =>
                have H := HA.out
                clear HA
                simp only [trellisref2_Char.j1] at H
                by_cases c14 : x23_10 = true
                · subst c14
                  have H1 : (some (3, 1)) = some (r1, r2) := by rw [if_pos rfl] at H; exact H
                  clear H
                  have H := H1
                  clear H1
                  simp only [Option.some.injEq, Prod.mk.injEq] at H
                  obtain ⟨rfl, rfl⟩ := H
                  go_wp2
                  go_ret2
                  exact ⟨by first | rfl | (simp; done) | (simp [*]; done), by repeat (first | exact Drawn0.refl _ | apply Drawn0.step)⟩
                · replace c14 := Bool.eq_false_iff.mpr c14
                  subst c14
                  have H1 : (if (bt a0 a1) = 237 then ((trellisref2_follows.f kj10 a0 (wrap64 (a1 + 1)) 128 159 2).bind fun t143 => (trellisref2_Char.j2 kj10 a0 a1 (bt a0 a1) t143)) else (trellisref2_Char.j2 kj10 a0 a1 (bt a0 a1) false)) = some (r1, r2) := by rw [if_neg (show ¬ (false = true) by decide)] at H; exact H
                  clear H
                  have H := H1
                  clear H1
                  have HC15 := Aside0.mk H
                  clear H
                  go_upto_region 6 with (fail)
                  go_cut [32] (fun v32 wc => ∃ (kq : Nat) (x32_14 : Bool), v32 = .bool x32_14 ∧ Aside0 (trellisref2_Char.j2 kq a0 a1 (bt a0 a1) x32_14 = some (r1, r2)) ∧ Aside0 (kq ≤ kj10) ∧ Drawn0 w wc)
                  case first =>
                    have H := HC15.out
                    clear HC15
                    by_cases c16 : (bt a0 a1) = 237
                    · rw [if_pos c16] at H
                      have c16b0 : ((bt a0 a1) == 237) = true := beq_iff_eq.mpr c16
                      have c16b1 : ((bt a0 a1) != 237) = false := bne_eq_false_iff_eq.mpr c16
                      clear c16
                      (first | rw [c16b0] | (simp only [i64_w, i32_w]; rw [c16b0]) | skip)
                      replace H := Option.bind_eq_some_iff.mp H
                      obtain ⟨t143, A170, H⟩ := H
                      replace H : (trellisref2_Char.j2 kj10 a0 a1 (bt a0 a1) t143) = some (r1, r2) := H
                      have A17 := Aside0.mk A170
                      clear A170
                      have H' := Aside0.mk H
                      clear H
                      go_wp2_with (first | (go_at_call 39; (with_reducible refine (trellisref2_follows.calls kj10 a0 (wrap64 (a1 + 1)) 128 159 2 t143 _ A17.out).mono ?_); rintro e w' ⟨rfl, ⟨nd, rfl⟩⟩))
                      go_meet
                      case rel => exact ⟨_, (t143), (by first | rfl | (simp; done) | (simp [*]; done)), H', ⟨by have := HJ5.out; have := HJ10.out; first | omega | exact Nat.le_refl _⟩, by repeat (first | exact Drawn0.refl _ | apply Drawn0.step)⟩
                    · rw [if_neg c16] at H
                      have c16b0 : ((bt a0 a1) == 237) = false := beq_eq_false_iff_ne.mpr c16
                      have c16b1 : ((bt a0 a1) != 237) = true := bne_iff_ne.mpr c16
                      (first | rw [c16b0] | (simp only [i64_w, i32_w]; rw [c16b0]) | skip)
                      have H' := Aside0.mk H
                      clear H
                      go_wp2
                      go_meet
                      case rel => exact ⟨_, (false), (by first | rfl | (simp; done) | (simp [*]; done)), H', ⟨by have := HJ5.out; have := HJ10.out; first | omega | exact Nat.le_refl _⟩, by repeat (first | exact Drawn0.refl _ | apply Drawn0.step)⟩
                  case rest =>
                    clear HC15
                    try clear c1
                    try clear p2
                    try clear c3
                    try clear c3b0
                    try clear c4
                    try clear c4b0
                    try clear c5
                    try clear p5
                    try clear q5
                    try clear hx5
                    try clear p6
                    try clear c7
                    try clear c7b0
                    try clear c8
                    try clear c8b0
                    try clear c10
                    try clear c12
                    try clear c12b0
                    try clear c12b1
                    try clear c14
                    try clear c16
                    try clear c16b0
                    try clear c16b1
                    try clear p2
                    try clear p5
                    try clear p6
                    try clear q5
                    obtain ⟨kq, x32_14, rfl, HA, HJ14, ⟨mc14, rfl⟩⟩ := hcut
                    cases kq with
                    | zero => exact absurd HA.out (by simp [trellisref2_Char.j2])
                    | succ kj14 =>
                      have H := HA.out
                      clear HA
                      simp only [trellisref2_Char.j2] at H
                      by_cases c18 : x32_14 = true
                      · subst c18
                        have H1 : (some (3, 1)) = some (r1, r2) := by rw [if_pos rfl] at H; exact H
                        clear H
                        have H := H1
                        clear H1
                        simp only [Option.some.injEq, Prod.mk.injEq] at H
                        obtain ⟨rfl, rfl⟩ := H
                        go_wp2
                        go_ret2
                        exact ⟨by first | rfl | (simp; done) | (simp [*]; done), by repeat (first | exact Drawn0.refl _ | apply Drawn0.step)⟩
                      · replace c18 := Bool.eq_false_iff.mpr c18
                        subst c18
                        have H1 : (if (bt a0 a1) ≥ 225 then (if (bt a0 a1) ≤ 239 then (if (bt a0 a1) = 237 then (trellisref2_Char.j3 kj14 a0 a1 (bt a0 a1) false) else ((trellisref2_follows.f kj14 a0 (wrap64 (a1 + 1)) 128 191 2).bind fun t144 => (trellisref2_Char.j3 kj14 a0 a1 (bt a0 a1) t144))) else (trellisref2_Char.j3 kj14 a0 a1 (bt a0 a1) false)) else (trellisref2_Char.j3 kj14 a0 a1 (bt a0 a1) false)) = some (r1, r2) := by rw [if_neg (show ¬ (false = true) by decide)] at H; exact H
                        clear H
                        have H := H1
                        clear H1
                        have HC19 := Aside0.mk H
                        clear H
                        go_upto_region 8 with (fail)
                        go_cut [41] (fun v41 wc => ∃ (kq : Nat) (x41_18 : Bool), v41 = .bool x41_18 ∧ Aside0 (trellisref2_Char.j3 kq a0 a1 (bt a0 a1) x41_18 = some (r1, r2)) ∧ Aside0 (kq ≤ kj14) ∧ Drawn0 w wc)
                        case first =>
                          have H := HC19.out
                          clear HC19
                          by_cases c20 : (bt a0 a1) ≥ 225
                          · rw [if_pos c20] at H
                            have c20b0 : decide (225 ≤ (bt a0 a1)) = true := decide_eq_true c20
                            clear c20
                            (first | rw [c20b0] | (simp only [i64_w, i32_w]; rw [c20b0]) | skip)
                            by_cases c21 : (bt a0 a1) ≤ 239
                            · rw [if_pos c21] at H
                              have c21b0 : decide ((bt a0 a1) ≤ 239) = true := decide_eq_true c21
                              clear c21
                              by_cases c22 : (bt a0 a1) = 237
                              · rw [if_pos c22] at H
                                have c22b0 : ((bt a0 a1) == 237) = true := beq_iff_eq.mpr c22
                                have c22b1 : ((bt a0 a1) != 237) = false := bne_eq_false_iff_eq.mpr c22
                                clear c22
                                have H' := Aside0.mk H
                                clear H
                                go_wp2
                                go_meet
                                case rel => exact ⟨_, (false), (by first | rfl | (simp; done) | (simp [*]; done)), H', ⟨by have := HJ5.out; have := HJ10.out; have := HJ14.out; first | omega | exact Nat.le_refl _⟩, by repeat (first | exact Drawn0.refl _ | apply Drawn0.step)⟩
                              · rw [if_neg c22] at H
                                have c22b0 : ((bt a0 a1) == 237) = false := beq_eq_false_iff_ne.mpr c22
                                have c22b1 : ((bt a0 a1) != 237) = true := bne_iff_ne.mpr c22
                                replace H := Option.bind_eq_some_iff.mp H
                                obtain ⟨t144, A230, H⟩ := H
                                replace H : (trellisref2_Char.j3 kj14 a0 a1 (bt a0 a1) t144) = some (r1, r2) := H
                                have A23 := Aside0.mk A230
                                clear A230
                                have H' := Aside0.mk H
                                clear H
                                go_wp2_with (first | (go_at_call 39; (with_reducible refine (trellisref2_follows.calls kj14 a0 (wrap64 (a1 + 1)) 128 191 2 t144 _ A23.out).mono ?_); rintro e w' ⟨rfl, ⟨nd, rfl⟩⟩))
                                go_meet
                                case rel => exact ⟨_, (t144), (by first | rfl | (simp; done) | (simp [*]; done)), H', ⟨by have := HJ5.out; have := HJ10.out; have := HJ14.out; first | omega | exact Nat.le_refl _⟩, by repeat (first | exact Drawn0.refl _ | apply Drawn0.step)⟩
                            · rw [if_neg c21] at H
                              have c21b0 : decide ((bt a0 a1) ≤ 239) = false := decide_eq_false c21
                              clear c21
                              have H' := Aside0.mk H
                              clear H
                              go_wp2
                              go_meet
                              case rel => exact ⟨_, (false), (by first | rfl | (simp; done) | (simp [*]; done)), H', ⟨by have := HJ5.out; have := HJ10.out; have := HJ14.out; first | omega | exact Nat.le_refl _⟩, by repeat (first | exact Drawn0.refl _ | apply Drawn0.step)⟩
                          · rw [if_neg c20] at H
                            have c20b0 : decide (225 ≤ (bt a0 a1)) = false := decide_eq_false c20
                            clear c20
                            (first | rw [c20b0] | (simp only [i64_w, i32_w]; rw [c20b0]) | skip)
                            have H' := Aside0.mk H
                            clear H
                            go_wp2
                            go_meet
                            case rel => exact ⟨_, (false), (by first | rfl | (simp; done) | (simp [*]; done)), H', ⟨by have := HJ5.out; have := HJ10.out; have := HJ14.out; first | omega | exact Nat.le_refl _⟩, by repeat (first | exact Drawn0.refl _ | apply Drawn0.step)⟩
                        case rest =>
                          clear HC19
                          try clear c1
                          try clear c2
                          try clear p2
                          try clear c3
                          try clear c3b0
                          try clear c4
                          try clear c4b0
                          try clear c5
                          try clear p5
                          try clear q5
                          try clear hx5
                          try clear p6
                          try clear c7
                          try clear c7b0
                          try clear c8
                          try clear c8b0
                          try clear c10
                          try clear c12
                          try clear c12b0
                          try clear c12b1
                          try clear c14
                          try clear c16
                          try clear c16b0
                          try clear c16b1
                          try clear c18
                          try clear c20
                          try clear c20b0
                          try clear c21
                          try clear c21b0
                          try clear c22
                          try clear c22b0
                          try clear c22b1
                          try clear p2
                          try clear p5
                          try clear p6
                          try clear q5
                          obtain ⟨kq, x41_18, rfl, HA, HJ18, ⟨mc18, rfl⟩⟩ := hcut
                          cases kq with
                          | zero => exact absurd HA.out (by simp [trellisref2_Char.j3])
                          | succ kj18 =>
                            have H := HA.out
                            clear HA
                            simp only [trellisref2_Char.j3] at H
                            by_cases c24 : x41_18 = true
                            · subst c24
                              have H1 : (some (3, 1)) = some (r1, r2) := by rw [if_pos rfl] at H; exact H
                              clear H
                              have H := H1
                              clear H1
                              simp only [Option.some.injEq, Prod.mk.injEq] at H
                              obtain ⟨rfl, rfl⟩ := H
                              go_wp2
                              go_ret2
                              exact ⟨by first | rfl | (simp; done) | (simp [*]; done), by repeat (first | exact Drawn0.refl _ | apply Drawn0.step)⟩
                            · replace c24 := Bool.eq_false_iff.mpr c24
                              subst c24
                              have H1 : (if (bt a0 a1) = 240 then ((trellisref2_follows.f kj18 a0 (wrap64 (a1 + 1)) 144 191 3).bind fun t145 => (trellisref2_Char.j4 kj18 a0 a1 (bt a0 a1) t145)) else (trellisref2_Char.j4 kj18 a0 a1 (bt a0 a1) false)) = some (r1, r2) := by rw [if_neg (show ¬ (false = true) by decide)] at H; exact H
                              clear H
                              have H := H1
                              clear H1
                              have HC25 := Aside0.mk H
                              clear H
                              go_upto_region 10 with (fail)
                              go_cut [58] (fun v58 wc => ∃ (kq : Nat) (x58_24 : Bool), v58 = .bool x58_24 ∧ Aside0 (trellisref2_Char.j4 kq a0 a1 (bt a0 a1) x58_24 = some (r1, r2)) ∧ Aside0 (kq ≤ kj18) ∧ Drawn0 w wc)
                              case first =>
                                have H := HC25.out
                                clear HC25
                                by_cases c26 : (bt a0 a1) = 240
                                · rw [if_pos c26] at H
                                  have c26b0 : ((bt a0 a1) == 240) = true := beq_iff_eq.mpr c26
                                  have c26b1 : ((bt a0 a1) != 240) = false := bne_eq_false_iff_eq.mpr c26
                                  clear c26
                                  (first | rw [c26b0] | (simp only [i64_w, i32_w]; rw [c26b0]) | skip)
                                  replace H := Option.bind_eq_some_iff.mp H
                                  obtain ⟨t145, A270, H⟩ := H
                                  replace H : (trellisref2_Char.j4 kj18 a0 a1 (bt a0 a1) t145) = some (r1, r2) := H
                                  have A27 := Aside0.mk A270
                                  clear A270
                                  have H' := Aside0.mk H
                                  clear H
                                  go_wp2_with (first | (go_at_call 39; (with_reducible refine (trellisref2_follows.calls kj18 a0 (wrap64 (a1 + 1)) 144 191 3 t145 _ A27.out).mono ?_); rintro e w' ⟨rfl, ⟨nd, rfl⟩⟩))
                                  go_meet
                                  case rel => exact ⟨_, (t145), (by first | rfl | (simp; done) | (simp [*]; done)), H', ⟨by have := HJ5.out; have := HJ10.out; have := HJ14.out; have := HJ18.out; first | omega | exact Nat.le_refl _⟩, by repeat (first | exact Drawn0.refl _ | apply Drawn0.step)⟩
                                · rw [if_neg c26] at H
                                  have c26b0 : ((bt a0 a1) == 240) = false := beq_eq_false_iff_ne.mpr c26
                                  have c26b1 : ((bt a0 a1) != 240) = true := bne_iff_ne.mpr c26
                                  (first | rw [c26b0] | (simp only [i64_w, i32_w]; rw [c26b0]) | skip)
                                  have H' := Aside0.mk H
                                  clear H
                                  go_wp2
                                  go_meet
                                  case rel => exact ⟨_, (false), (by first | rfl | (simp; done) | (simp [*]; done)), H', ⟨by have := HJ5.out; have := HJ10.out; have := HJ14.out; have := HJ18.out; first | omega | exact Nat.le_refl _⟩, by repeat (first | exact Drawn0.refl _ | apply Drawn0.step)⟩
                              case rest =>
                                clear HC25
                                try clear c1
                                try clear c2
                                try clear p2
                                try clear c3
                                try clear c3b0
                                try clear c4
                                try clear c4b0
                                try clear c5
                                try clear p5
                                try clear q5
                                try clear hx5
                                try clear p6
                                try clear c7
                                try clear c7b0
                                try clear c8
                                try clear c8b0
                                try clear c10
                                try clear c12
                                try clear c12b0
                                try clear c12b1
                                try clear c14
                                try clear c16
                                try clear c16b0
                                try clear c16b1
                                try clear c18
                                try clear c20
                                try clear c20b0
                                try clear c21
                                try clear c21b0
                                try clear c22
                                try clear c22b0
                                try clear c22b1
                                try clear c24
                                try clear c26
                                try clear c26b0
                                try clear c26b1
                                try clear p2
                                try clear p5
                                try clear p6
                                try clear q5
                                obtain ⟨kq, x58_24, rfl, HA, HJ24, ⟨mc24, rfl⟩⟩ := hcut
                                cases kq with
                                | zero => exact absurd HA.out (by simp [trellisref2_Char.j4])
                                | succ kj24 =>
                                  have H := HA.out
                                  clear HA
                                  simp only [trellisref2_Char.j4] at H
                                  by_cases c28 : x58_24 = true
                                  · subst c28
                                    have H1 : (some (4, 2)) = some (r1, r2) := by rw [if_pos rfl] at H; exact H
                                    clear H
                                    have H := H1
                                    clear H1
                                    simp only [Option.some.injEq, Prod.mk.injEq] at H
                                    obtain ⟨rfl, rfl⟩ := H
                                    go_wp2
                                    go_ret2
                                    exact ⟨by first | rfl | (simp; done) | (simp [*]; done), by repeat (first | exact Drawn0.refl _ | apply Drawn0.step)⟩
                                  · replace c28 := Bool.eq_false_iff.mpr c28
                                    subst c28
                                    have H1 : (if (bt a0 a1) ≥ 241 then (if (bt a0 a1) ≤ 243 then ((trellisref2_follows.f kj24 a0 (wrap64 (a1 + 1)) 128 191 3).bind fun t146 => (trellisref2_Char.j5 kj24 a0 a1 (bt a0 a1) t146)) else (trellisref2_Char.j5 kj24 a0 a1 (bt a0 a1) false)) else (trellisref2_Char.j5 kj24 a0 a1 (bt a0 a1) false)) = some (r1, r2) := by rw [if_neg (show ¬ (false = true) by decide)] at H; exact H
                                    clear H
                                    have H := H1
                                    clear H1
                                    have HC29 := Aside0.mk H
                                    clear H
                                    go_upto_region 12 with (fail)
                                    go_cut [67] (fun v67 wc => ∃ (kq : Nat) (x67_28 : Bool), v67 = .bool x67_28 ∧ Aside0 (trellisref2_Char.j5 kq a0 a1 (bt a0 a1) x67_28 = some (r1, r2)) ∧ Aside0 (kq ≤ kj24) ∧ Drawn0 w wc)
                                    case first =>
                                      have H := HC29.out
                                      clear HC29
                                      by_cases c30 : (bt a0 a1) ≥ 241
                                      · rw [if_pos c30] at H
                                        have c30b0 : decide (241 ≤ (bt a0 a1)) = true := decide_eq_true c30
                                        clear c30
                                        (first | rw [c30b0] | (simp only [i64_w, i32_w]; rw [c30b0]) | skip)
                                        by_cases c31 : (bt a0 a1) ≤ 243
                                        · rw [if_pos c31] at H
                                          have c31b0 : decide ((bt a0 a1) ≤ 243) = true := decide_eq_true c31
                                          clear c31
                                          replace H := Option.bind_eq_some_iff.mp H
                                          obtain ⟨t146, A320, H⟩ := H
                                          replace H : (trellisref2_Char.j5 kj24 a0 a1 (bt a0 a1) t146) = some (r1, r2) := H
                                          have A32 := Aside0.mk A320
                                          clear A320
                                          have H' := Aside0.mk H
                                          clear H
                                          go_wp2_with (first | (go_at_call 39; (with_reducible refine (trellisref2_follows.calls kj24 a0 (wrap64 (a1 + 1)) 128 191 3 t146 _ A32.out).mono ?_); rintro e w' ⟨rfl, ⟨nd, rfl⟩⟩))
                                          go_meet
                                          case rel => exact ⟨_, (t146), (by first | rfl | (simp; done) | (simp [*]; done)), H', ⟨by have := HJ5.out; have := HJ10.out; have := HJ14.out; have := HJ18.out; have := HJ24.out; first | omega | exact Nat.le_refl _⟩, by repeat (first | exact Drawn0.refl _ | apply Drawn0.step)⟩
                                        · rw [if_neg c31] at H
                                          have c31b0 : decide ((bt a0 a1) ≤ 243) = false := decide_eq_false c31
                                          clear c31
                                          have H' := Aside0.mk H
                                          clear H
                                          go_wp2
                                          go_meet
                                          case rel => exact ⟨_, (false), (by first | rfl | (simp; done) | (simp [*]; done)), H', ⟨by have := HJ5.out; have := HJ10.out; have := HJ14.out; have := HJ18.out; have := HJ24.out; first | omega | exact Nat.le_refl _⟩, by repeat (first | exact Drawn0.refl _ | apply Drawn0.step)⟩
                                      · rw [if_neg c30] at H
                                        have c30b0 : decide (241 ≤ (bt a0 a1)) = false := decide_eq_false c30
                                        clear c30
                                        (first | rw [c30b0] | (simp only [i64_w, i32_w]; rw [c30b0]) | skip)
                                        have H' := Aside0.mk H
                                        clear H
                                        go_wp2
                                        go_meet
                                        case rel => exact ⟨_, (false), (by first | rfl | (simp; done) | (simp [*]; done)), H', ⟨by have := HJ5.out; have := HJ10.out; have := HJ14.out; have := HJ18.out; have := HJ24.out; first | omega | exact Nat.le_refl _⟩, by repeat (first | exact Drawn0.refl _ | apply Drawn0.step)⟩
                                    case rest =>
                                      clear HC29
                                      try clear c1
                                      try clear c2
                                      try clear p2
                                      try clear c3
                                      try clear c3b0
                                      try clear c4
                                      try clear c4b0
                                      try clear c5
                                      try clear p5
                                      try clear q5
                                      try clear hx5
                                      try clear p6
                                      try clear c7
                                      try clear c7b0
                                      try clear c8
                                      try clear c8b0
                                      try clear c10
                                      try clear c12
                                      try clear c12b0
                                      try clear c12b1
                                      try clear c14
                                      try clear c16
                                      try clear c16b0
                                      try clear c16b1
                                      try clear c18
                                      try clear c20
                                      try clear c20b0
                                      try clear c21
                                      try clear c21b0
                                      try clear c22
                                      try clear c22b0
                                      try clear c22b1
                                      try clear c24
                                      try clear c26
                                      try clear c26b0
                                      try clear c26b1
                                      try clear c28
                                      try clear c30
                                      try clear c30b0
                                      try clear c31
                                      try clear c31b0
                                      try clear p2
                                      try clear p5
                                      try clear p6
                                      try clear q5
                                      obtain ⟨kq, x67_28, rfl, HA, HJ28, ⟨mc28, rfl⟩⟩ := hcut
                                      cases kq with
                                      | zero => exact absurd HA.out (by simp [trellisref2_Char.j5])
                                      | succ kj28 =>
                                        have H := HA.out
                                        clear HA
                                        simp only [trellisref2_Char.j5] at H
                                        by_cases c33 : x67_28 = true
                                        · subst c33
                                          have H1 : (some (4, 2)) = some (r1, r2) := by rw [if_pos rfl] at H; exact H
                                          clear H
                                          have H := H1
                                          clear H1
                                          simp only [Option.some.injEq, Prod.mk.injEq] at H
                                          obtain ⟨rfl, rfl⟩ := H
                                          go_wp2
                                          go_ret2
                                          exact ⟨by first | rfl | (simp; done) | (simp [*]; done), by repeat (first | exact Drawn0.refl _ | apply Drawn0.step)⟩
                                        · replace c33 := Bool.eq_false_iff.mpr c33
                                          subst c33
                                          have H1 : (if (bt a0 a1) = 244 then ((trellisref2_follows.f kj28 a0 (wrap64 (a1 + 1)) 128 143 3).bind fun t147 => (if t147 = true then (some (4, 2)) else (some (1, 1)))) else (some (1, 1))) = some (r1, r2) := by rw [if_neg (show ¬ (false = true) by decide)] at H; exact H
                                          clear H
                                          have H := H1
                                          clear H1
                                          by_cases c34 : (bt a0 a1) = 244
                                          · rw [if_pos c34] at H
                                            have c34b0 : ((bt a0 a1) == 244) = true := beq_iff_eq.mpr c34
                                            have c34b1 : ((bt a0 a1) != 244) = false := bne_eq_false_iff_eq.mpr c34
                                            clear c34
                                            replace H := Option.bind_eq_some_iff.mp H
                                            obtain ⟨t147, A350, H⟩ := H
                                            replace H : (if t147 = true then (some (4, 2)) else (some (1, 1))) = some (r1, r2) := H
                                            have A35 := Aside0.mk A350
                                            clear A350
                                            by_cases c36 : t147 = true
                                            · subst c36
                                              have H1 : (some (4, 2)) = some (r1, r2) := by rw [if_pos rfl] at H; exact H
                                              clear H
                                              have H := H1
                                              clear H1
                                              simp only [Option.some.injEq, Prod.mk.injEq] at H
                                              obtain ⟨rfl, rfl⟩ := H
                                              go_wp2_with (first | (go_at_call 39; (with_reducible refine (trellisref2_follows.calls kj28 a0 (wrap64 (a1 + 1)) 128 143 3 true _ A35.out).mono ?_); rintro e w' ⟨rfl, ⟨nd, rfl⟩⟩))
                                              go_ret2
                                              exact ⟨by first | rfl | (simp; done) | (simp [*]; done), by repeat (first | exact Drawn0.refl _ | apply Drawn0.step)⟩
                                            · replace c36 := Bool.eq_false_iff.mpr c36
                                              subst c36
                                              have H1 : (some (1, 1)) = some (r1, r2) := by rw [if_neg (show ¬ (false = true) by decide)] at H; exact H
                                              clear H
                                              have H := H1
                                              clear H1
                                              simp only [Option.some.injEq, Prod.mk.injEq] at H
                                              obtain ⟨rfl, rfl⟩ := H
                                              go_wp2_with (first | (go_at_call 39; (with_reducible refine (trellisref2_follows.calls kj28 a0 (wrap64 (a1 + 1)) 128 143 3 false _ A35.out).mono ?_); rintro e w' ⟨rfl, ⟨nd, rfl⟩⟩))
                                              go_ret2
                                              exact ⟨by first | rfl | (simp; done) | (simp [*]; done), by repeat (first | exact Drawn0.refl _ | apply Drawn0.step)⟩
                                          · rw [if_neg c34] at H
                                            have c34b0 : ((bt a0 a1) == 244) = false := beq_eq_false_iff_ne.mpr c34
                                            have c34b1 : ((bt a0 a1) != 244) = true := bne_iff_ne.mpr c34
                                            simp only [Option.some.injEq, Prod.mk.injEq] at H
                                            obtain ⟨rfl, rfl⟩ := H
                                            go_wp2
                                            go_ret2
                                            exact ⟨by first | rfl | (simp; done) | (simp [*]; done), by repeat (first | exact Drawn0.refl _ | apply Drawn0.step)⟩
    · rw [if_neg c4] at H
      exact absurd H (by simp)
  · rw [if_neg c3] at H
    exact absurd H (by simp)

end Go.Proofs.Ytgefbbdahhoglaa.PAll
