/- slices.symMergeCmpFunc: two rows in order, side by side, become one. -/
import Derived.Test.YtknagjiipelfnaaSortW
namespace Go.Proofs.Ytknagjiipelfnaa.SO
open Go.RowKit Go.WideShapes Go.ChangeShapes Go.Proofs.YtknagjiipelfnaaW.PrintWords Go.Proofs.YtknagjiipelfnaaW.PrintLast Go.Proofs.YtknagjiipelfnaaW.PrintMore Go.Proofs.Ytknagjiipelfnaa.PAll
set_option linter.unusedVariables false
attribute [local go_sem ↓] stored82_at
theorem Same.bd {a b : Nat} {xs ys : List S82} (h : Same a b (get xs) (get ys)) (hb : ∀ k, Bd (get xs k)) : ∀ k, Bd (get ys k) := fun k => by
  by_cases hk : a ≤ k ∧ k < b
  · obtain ⟨u, -, -, hu⟩ := h.to k hk.1 hk.2
    rw [hu]
    exact hb u
  · rw [h.out k hk]
    exact hb k
/-- What the merge does. -/
def SymP (A : Option Addr) (n c base a m b : Nat) (xs : List S82) (w : World) : Prop :=
  Calls Try.prog 88 #[.slice A n c, .int .i64 (a : Int), .int .i64 (m : Int), .int .i64 (b : Int), .func (.func 54) #[] #[]] w fun e w' => e = .returned (.tuple #[]) ∧ ∃ ys, Wr w w' base (.slice A n c) xs ys ∧ Same a b (get xs) (get ys) ∧ Srt ltF a b (get ys)
set_option maxRecDepth 100000 in
set_option maxHeartbeats 8000000 in
/-- One fold ahead of a row. -/
theorem sym1 (A : Option Addr) (n c a m b : Nat) (xs : List S82) (w : World) (base : Nat) (hr : RF w base (.slice A n c) xs) (hn : n ≤ 1048577) (ham : m = a + 1) (hmb : m < b) (hbn : b ≤ n) (bd : ∀ k, Bd (get xs k)) (h2 : Srt ltF m b (get xs)) :
    Calls Try.prog 88 #[.slice A n c, .int .i64 (a : Int), .int .i64 (m : Int), .int .i64 (b : Int), .func (.func 54) #[] #[]] w fun e w' => e = .returned (.tuple #[]) ∧ ∃ ys, Wr w w' base (.slice A n c) xs ys ∧ Same a b (get xs) (get ys) ∧ Srt ltF a b (get ys) := by
  have e0 : IntKind.i64.wrap ((m : Int) - (a : Int)) = 1 := (i64_w _).trans ((w64 (by omega) (by omega)).trans (by omega))
  have hcap := hr.caps
  obtain ⟨g, rfl, -⟩ := hr.at_ (by omega)
  have HW0 := Aside0.mk (Wr.refl hr)
  have HP := Aside0.mk (And.intro hn (And.intro ham (And.intro hmb hbn)))
  have HBD := Aside0.mk bd
  have HS := Aside0.mk h2
  clear hr hn ham hmb hbn bd h2 hcap
  go_enter Try.func88, Try.ntmps88
  go_wp2_with fail
  go_loopw [10, 11, 12] (fun v10 v11 v12 wr => ∃ (i j : Nat), v10 = .int .i64 (i : Int) ∧ v11 = .int .i64 (j : Int) ∧ Aside0 (m ≤ i ∧ i ≤ j ∧ j ≤ b) ∧ Aside0 (Wr w wr base (.slice (some ⟨g, 0, none⟩) n c) xs xs) ∧ Aside0 ((i = m ∨ ltF (get xs (i - 1)) (get xs a) = true) ∧ (j = b ∨ ltF (get xs j) (get xs a) = false))) (fun v10 v11 _ _ => (intOf v11).toNat - (intOf v10).toNat)
  case atStart => exact ⟨m, b, rfl, rfl, ⟨by have := HP.out; omega⟩, HW0, ⟨.inl rfl, .inl rfl⟩⟩
  case round =>
    obtain ⟨i, j, rfl, rfl, HIJ, HZ, HC⟩ := hrel
    clear HW0 e0
    by_cases hlt : i < j
    · have e1 : decide ((i : Int) < (j : Int)) = true := decide_eq_true (by omega)
      have e2 : decide (i < j) = true := decide_eq_true hlt
      have hp := HP.out
      have hij := HIJ.out
      have e3 : IntKind.i64.wrap ((i : Int) + (j : Int)) = ((i + j : Nat) : Int) := (i64_w _).trans ((w64 (by omega) (by omega)).trans (by omega))
      obtain ⟨ij, hh⟩ : ∃ x, i + j = x := ⟨_, rfl⟩
      rw [hh] at e3
      obtain ⟨h, hh2⟩ : ∃ x, ij / 2 = x := ⟨_, rfl⟩
      have e4 : ((ij : Int) / 2) = (h : Int) := by omega
      have HH : Aside0 (i ≤ h ∧ h < j) := ⟨by omega⟩
      have hub : ij ≤ 2097154 := by omega
      have huh : h ≤ 1048577 := by omega
      have e5 : IntKind.i64.wrap ((h : Int) + 1) = ((h + 1 : Nat) : Int) := (i64_w _).trans ((w64 (by omega) (by omega)).trans (by omega))
      obtain ⟨h1, hh1⟩ : ∃ x, h + 1 = x := ⟨_, rfl⟩
      rw [hh1] at e5
      have HH1 := Aside0.mk hh1
      have f3 : (h : Int) < (n : Int) := by omega
      have f4 : (a : Int) < (n : Int) := by omega
      have HPQ : Aside0 (h < n ∧ a < n) := ⟨by omega⟩
      obtain ⟨p0, p1⟩ := HZ.out.r.cells h (by omega)
      obtain ⟨q0, q1⟩ := HZ.out.r.cells a (by omega)
      obtain ⟨X, hX⟩ : ∃ X, get xs h = X := ⟨_, rfl⟩
      obtain ⟨Y, hY⟩ : ∃ Y, get xs a = Y := ⟨_, rfl⟩
      have HBX := Aside0.mk (hX ▸ HBD.out h)
      have HBY := Aside0.mk (hY ▸ HBD.out a)
      have HXY := Aside0.mk (And.intro hX hY)
      rw [hX] at p0 p1
      rw [hY] at q0 q1
      obtain ⟨r, hr⟩ : ∃ r, cmpI X Y = r := ⟨_, rfl⟩
      have HCR := Aside0.mk hr
      have f1 : ltF X Y = decide (r < 0) := by unfold ltF; rw [hr]
      clear hr hX hY hlt hp hij hh hh2 hh1
      cases hq : decide (r < 0) with
      | true =>
        rw [hq] at f1
        have HI2 := Aside0.mk f1
        clear f1
        -- <T1
        go_upto_region 5 with fail
        go_region_held3 (fun w' => w'.cell? ⟨g, h * 2, none⟩ = some (.int .i64 X.f0) ∧ w'.cell? ⟨g, h * 2 + 1, none⟩ = some (.int .i64 X.f1) ∧ w'.cell? ⟨g, a * 2, none⟩ = some (.int .i64 Y.f0) ∧ w'.cell? ⟨g, a * 2 + 1, none⟩ = some (.int .i64 Y.f1))
          (first | exact ⟨by assumption, by assumption, by assumption, by assumption⟩ | go_keep)
          (first
            | (go_at_call 54
               refine (less_at X Y r _ HCR.out HBX.out HBY.out).mono ?_
               rintro e w2 ⟨rfl, hB0⟩
               have hB : Below wr.heap.size wr w2 := Below.trans (below_drew (Below.refl _ _)) hB0
               have HZ2 := Aside0.mk (HZ.out.moved hB)
               obtain ⟨t0, t1⟩ := HZ2.out.r.cells h (by have := HZ2.out.r.caps; have := HPQ.out; omega)
               obtain ⟨s0, s1⟩ := HZ2.out.r.cells a (by have := HZ2.out.r.caps; have := HPQ.out; omega)
               rw [HXY.out.1] at t0 t1
               rw [HXY.out.2] at s0 s1
               clear hB hB0))
        all_goals
         (go_wp2_with fail
          go_roundw
          case measure => first | (have := HH.out; have := HH1.out; omega) | (simp [intOf]; have := HH.out; have := HH1.out; omega)
          case rel => exact ⟨h1, j, rfl, rfl, ⟨by have := HH.out; have := HH1.out; have := HIJ.out; omega⟩, HZ2, ⟨.inr (by rw [← HH1.out, Nat.add_sub_cancel, HXY.out.1, HXY.out.2]; exact HI2.out), HC.out.2⟩⟩)
        -- T1>
      | false =>
        rw [hq] at f1
        have HI2 := Aside0.mk f1
        clear f1
        -- <F1
        go_upto_region 5 with fail
        go_region_held3 (fun w' => w'.cell? ⟨g, h * 2, none⟩ = some (.int .i64 X.f0) ∧ w'.cell? ⟨g, h * 2 + 1, none⟩ = some (.int .i64 X.f1) ∧ w'.cell? ⟨g, a * 2, none⟩ = some (.int .i64 Y.f0) ∧ w'.cell? ⟨g, a * 2 + 1, none⟩ = some (.int .i64 Y.f1))
          (first | exact ⟨by assumption, by assumption, by assumption, by assumption⟩ | go_keep)
          (first
            | (go_at_call 54
               refine (less_at X Y r _ HCR.out HBX.out HBY.out).mono ?_
               rintro e w2 ⟨rfl, hB0⟩
               have hB : Below wr.heap.size wr w2 := Below.trans (below_drew (Below.refl _ _)) hB0
               have HZ2 := Aside0.mk (HZ.out.moved hB)
               obtain ⟨t0, t1⟩ := HZ2.out.r.cells h (by have := HZ2.out.r.caps; have := HPQ.out; omega)
               obtain ⟨s0, s1⟩ := HZ2.out.r.cells a (by have := HZ2.out.r.caps; have := HPQ.out; omega)
               rw [HXY.out.1] at t0 t1
               rw [HXY.out.2] at s0 s1
               clear hB hB0))
        all_goals
         (go_wp2_with fail
          go_roundw
          case measure => first | (have := HH.out; omega) | (simp [intOf]; have := HH.out; omega)
          case rel => exact ⟨i, h, rfl, rfl, ⟨by have := HH.out; have := HIJ.out; omega⟩, HZ2, ⟨HC.out.1, .inr (by rw [HXY.out.1, HXY.out.2]; exact HI2.out)⟩⟩)
        -- F1>
    · have hij0 := HIJ.out
      have HIE : Aside0 (j = i) := ⟨by omega⟩
      have e1 : decide ((i : Int) < (j : Int)) = false := decide_eq_false (by omega)
      have e2 : decide (i < j) = false := decide_eq_false hlt
      have hp := HP.out
      obtain ⟨i1, hi1⟩ : ∃ x, i - 1 = x := ⟨_, rfl⟩
      have e9 : IntKind.i64.wrap ((i : Int) - 1) = (i1 : Int) := (i64_w _).trans ((w64 (by omega) (by omega)).trans (by omega))
      have HI1 := Aside0.mk (And.intro hi1 hij0)
      clear hij0 hlt hp hi1
      -- <E1
      go_wp2_with fail
      go_loopw [13] (fun v13 wr => ∃ (k : Nat) (zs : List S82), v13 = .int .i64 (k : Int) ∧ Aside0 (a ≤ k ∧ k ≤ i1) ∧ Aside0 (Wr w wr base (.slice (some ⟨g, 0, none⟩) n c) xs zs) ∧ Aside0 (get zs = rotF (get xs) a (a + 1) (k + 1))) (fun v13 _ => i1 - (intOf v13).toNat)
      case atStart => exact ⟨a, xs, rfl, ⟨by have := HI1.out; have := HP.out; omega⟩, HZ, ⟨(rot_right _ _ _).symm⟩⟩
      case round =>
        obtain ⟨k, zs, rfl, HK, HZk, HG⟩ := hrel
        clear HZ e1 e2
        by_cases hlt : k < i1
        · have e1 : decide ((k : Int) < (i1 : Int)) = true := decide_eq_true (by omega)
          have e2 : decide (k < i1) = true := decide_eq_true hlt
          have hp := HP.out
          have hi := HI1.out
          have hk := HK.out
          have hcap := HZk.out.r.caps
          obtain ⟨k1, hk1⟩ : ∃ x, k + 1 = x := ⟨_, rfl⟩
          have e3 : IntKind.i64.wrap ((k : Int) + 1) = (k1 : Int) := (i64_w _).trans ((w64 (by omega) (by omega)).trans (by omega))
          have f3 : (k : Int) < (n : Int) := by omega
          have f4 : (k1 : Int) < (n : Int) := by omega
          obtain ⟨p0, p1⟩ := HZk.out.r.cells k (by omega)
          obtain ⟨q0, q1⟩ := HZk.out.r.cells k1 (by omega)
          obtain ⟨W1, W2, us, st1, st2, hW, hg⟩ := HZk.out.swap k k1 (by omega) (by omega) (by omega)
          have HG2 : Aside0 (get us = rotF (get xs) a (a + 1) (k1 + 1)) := ⟨by rw [hg, HG.out, ← hk1, rot_up _ hk.1]⟩
          have HW2 := Aside0.mk hW
          have HK1 := Aside0.mk (And.intro hk1 hlt)
          obtain ⟨X, hX⟩ : ∃ X, get zs k = X := ⟨_, rfl⟩
          obtain ⟨Y, hY⟩ : ∃ Y, get zs k1 = Y := ⟨_, rfl⟩
          rw [hX] at p0 p1 st2
          rw [hY] at q0 q1 st1
          clear hlt hp hi hk hcap hk1 hg hW hX hY
          -- <E2
          go_upto_region 11 with fail
          go_region_law (fail)
          all_goals
           (go_wp2_with fail
            go_roundw
            case measure => first | (have := HK1.out; omega) | (simp [intOf]; have := HK1.out; omega)
            case rel => exact ⟨k1, us, rfl, ⟨by have := HK1.out; have := HK.out; omega⟩, HW2, HG2⟩)
          -- E2>
        · have e1 : decide ((k : Int) < (i1 : Int)) = false := decide_eq_false (by omega)
          have e2 : decide (k < i1) = false := decide_eq_false hlt
          have hk := HK.out
          have HKE : Aside0 (k + 1 = i) := ⟨by have := HI1.out; have := HP.out; omega⟩
          clear hlt hk
          -- <E3
          go_wp2_with fail
          refine bodyPost_ret (results_none rfl _ _ _) rfl ?_
          refine ⟨rfl, zs, HZk.out, ?_, ?_⟩
          · rw [HG.out, HKE.out]
            have := HI1.out; have := HP.out
            exact (rot_same _ (by omega) (by omega)).widen (Nat.le_refl _) (by omega)
          · rw [HG.out, HKE.out]
            have h1 := HI1.out; have h2 := HP.out
            refine Srt.insert_up ordF (h2.2.1 ▸ HS.out) (by omega) (by omega) ?_ ?_
            · rcases HC.out.1 with h | h
              · left; omega
              · right; exact h
            · rcases HC.out.2 with h | h
              · left; have := HIE.out; omega
              · right; rw [← HIE.out]; exact h
          -- E3>
      -- E1>
set_option maxRecDepth 100000 in
set_option maxHeartbeats 8000000 in
/-- One fold behind a row. -/
theorem sym2 (A : Option Addr) (n c a m b : Nat) (xs : List S82) (w : World) (base : Nat) (hr : RF w base (.slice A n c) xs) (hn : n ≤ 1048577) (ham : a < m) (ham2 : m ≠ a + 1) (hmb : b = m + 1) (hbn : b ≤ n) (bd : ∀ k, Bd (get xs k)) (h1 : Srt ltF a m (get xs)) :
    Calls Try.prog 88 #[.slice A n c, .int .i64 (a : Int), .int .i64 (m : Int), .int .i64 (b : Int), .func (.func 54) #[] #[]] w fun e w' => e = .returned (.tuple #[]) ∧ ∃ ys, Wr w w' base (.slice A n c) xs ys ∧ Same a b (get xs) (get ys) ∧ Srt ltF a b (get ys) := by
  obtain ⟨d1, hd1⟩ : ∃ d, m - a = d := ⟨_, rfl⟩
  have e0 : IntKind.i64.wrap ((m : Int) - (a : Int)) = (d1 : Int) := (i64_w _).trans ((w64 (by omega) (by omega)).trans (by omega))
  have e0a : decide ((d1 : Int) = 1) = false := decide_eq_false (by omega)
  have e0b : decide (d1 = 1) = false := decide_eq_false (by omega)
  have e0c : ¬ (d1 = 1) := by omega
  have e0e : ((d1 : Int) == 1) = false := beq_eq_false_iff_ne.2 (by omega)
  have e0f : (d1 == 1) = false := beq_eq_false_iff_ne.2 (by omega)
  have e0d : IntKind.i64.wrap ((b : Int) - (m : Int)) = 1 := (i64_w _).trans ((w64 (by omega) (by omega)).trans (by omega))
  have hcap := hr.caps
  obtain ⟨g, rfl, -⟩ := hr.at_ (by omega)
  have HW0 := Aside0.mk (Wr.refl hr)
  have HP := Aside0.mk (And.intro hn (And.intro ham (And.intro hmb hbn)))
  have HBD := Aside0.mk bd
  have HS := Aside0.mk h1
  clear hr hn ham ham2 hmb hbn bd h1 hcap hd1
  go_enter Try.func88, Try.ntmps88
  go_wp2_with fail
  go_loopw [14, 15, 16] (fun v14 v15 v16 wr => ∃ (i j : Nat), v14 = .int .i64 (i : Int) ∧ v15 = .int .i64 (j : Int) ∧ Aside0 (a ≤ i ∧ i ≤ j ∧ j ≤ m) ∧ Aside0 (Wr w wr base (.slice (some ⟨g, 0, none⟩) n c) xs xs) ∧ Aside0 ((i = a ∨ ltF (get xs m) (get xs (i - 1)) = false) ∧ (j = m ∨ ltF (get xs m) (get xs j) = true))) (fun v14 v15 _ _ => (intOf v15).toNat - (intOf v14).toNat)
  case atStart => exact ⟨a, m, rfl, rfl, ⟨by have := HP.out; omega⟩, HW0, ⟨.inl rfl, .inl rfl⟩⟩
  case round =>
    obtain ⟨i, j, rfl, rfl, HIJ, HZ, HC⟩ := hrel
    clear HW0 e0 e0a e0b e0c e0d e0e e0f
    by_cases hlt : i < j
    · have e1 : decide ((i : Int) < (j : Int)) = true := decide_eq_true (by omega)
      have e2 : decide (i < j) = true := decide_eq_true hlt
      have hp := HP.out
      have hij := HIJ.out
      have e3 : IntKind.i64.wrap ((i : Int) + (j : Int)) = ((i + j : Nat) : Int) := (i64_w _).trans ((w64 (by omega) (by omega)).trans (by omega))
      obtain ⟨ij, hh⟩ : ∃ x, i + j = x := ⟨_, rfl⟩
      rw [hh] at e3
      obtain ⟨h, hh2⟩ : ∃ x, ij / 2 = x := ⟨_, rfl⟩
      have e4 : ((ij : Int) / 2) = (h : Int) := by omega
      have HH : Aside0 (i ≤ h ∧ h < j) := ⟨by omega⟩
      have hub : ij ≤ 2097154 := by omega
      have huh : h ≤ 1048577 := by omega
      have e5 : IntKind.i64.wrap ((h : Int) + 1) = ((h + 1 : Nat) : Int) := (i64_w _).trans ((w64 (by omega) (by omega)).trans (by omega))
      obtain ⟨h1, hh1⟩ : ∃ x, h + 1 = x := ⟨_, rfl⟩
      rw [hh1] at e5
      have HH1 := Aside0.mk hh1
      have f3 : (m : Int) < (n : Int) := by omega
      have f4 : (h : Int) < (n : Int) := by omega
      have HPQ : Aside0 (m < n ∧ h < n) := ⟨by omega⟩
      obtain ⟨p0, p1⟩ := HZ.out.r.cells m (by omega)
      obtain ⟨q0, q1⟩ := HZ.out.r.cells h (by omega)
      obtain ⟨X, hX⟩ : ∃ X, get xs m = X := ⟨_, rfl⟩
      obtain ⟨Y, hY⟩ : ∃ Y, get xs h = Y := ⟨_, rfl⟩
      have HBX := Aside0.mk (hX ▸ HBD.out m)
      have HBY := Aside0.mk (hY ▸ HBD.out h)
      have HXY := Aside0.mk (And.intro hX hY)
      rw [hX] at p0 p1
      rw [hY] at q0 q1
      obtain ⟨r, hr⟩ : ∃ r, cmpI X Y = r := ⟨_, rfl⟩
      have HCR := Aside0.mk hr
      have f1 : ltF X Y = decide (r < 0) := by unfold ltF; rw [hr]
      clear hr hX hY hlt hp hij hh hh2 hh1
      cases hq : decide (r < 0) with
      | true =>
        rw [hq] at f1
        have HI2 := Aside0.mk f1
        clear f1
        -- <T1
        go_upto_region 17 with fail
        go_region_held3 (fun w' => w'.cell? ⟨g, m * 2, none⟩ = some (.int .i64 X.f0) ∧ w'.cell? ⟨g, m * 2 + 1, none⟩ = some (.int .i64 X.f1) ∧ w'.cell? ⟨g, h * 2, none⟩ = some (.int .i64 Y.f0) ∧ w'.cell? ⟨g, h * 2 + 1, none⟩ = some (.int .i64 Y.f1))
          (first | exact ⟨by assumption, by assumption, by assumption, by assumption⟩ | go_keep)
          (first
            | (go_at_call 54
               refine (less_at X Y r _ HCR.out HBX.out HBY.out).mono ?_
               rintro e w2 ⟨rfl, hB0⟩
               have hB : Below wr.heap.size wr w2 := Below.trans (below_drew (Below.refl _ _)) hB0
               have HZ2 := Aside0.mk (HZ.out.moved hB)
               obtain ⟨t0, t1⟩ := HZ2.out.r.cells m (by have := HZ2.out.r.caps; have := HPQ.out; omega)
               obtain ⟨s0, s1⟩ := HZ2.out.r.cells h (by have := HZ2.out.r.caps; have := HPQ.out; omega)
               rw [HXY.out.1] at t0 t1
               rw [HXY.out.2] at s0 s1
               clear hB hB0))
        all_goals
         (go_wp2_with fail
          go_roundw
          case measure => first | (have := HH.out; omega) | (simp [intOf]; have := HH.out; omega)
          case rel => exact ⟨i, h, rfl, rfl, ⟨by have := HH.out; have := HIJ.out; omega⟩, HZ2, ⟨HC.out.1, .inr (by rw [HXY.out.1, HXY.out.2]; exact HI2.out)⟩⟩)
        -- T1>
      | false =>
        rw [hq] at f1
        have HI2 := Aside0.mk f1
        clear f1
        -- <F1
        go_upto_region 17 with fail
        go_region_held3 (fun w' => w'.cell? ⟨g, m * 2, none⟩ = some (.int .i64 X.f0) ∧ w'.cell? ⟨g, m * 2 + 1, none⟩ = some (.int .i64 X.f1) ∧ w'.cell? ⟨g, h * 2, none⟩ = some (.int .i64 Y.f0) ∧ w'.cell? ⟨g, h * 2 + 1, none⟩ = some (.int .i64 Y.f1))
          (first | exact ⟨by assumption, by assumption, by assumption, by assumption⟩ | go_keep)
          (first
            | (go_at_call 54
               refine (less_at X Y r _ HCR.out HBX.out HBY.out).mono ?_
               rintro e w2 ⟨rfl, hB0⟩
               have hB : Below wr.heap.size wr w2 := Below.trans (below_drew (Below.refl _ _)) hB0
               have HZ2 := Aside0.mk (HZ.out.moved hB)
               obtain ⟨t0, t1⟩ := HZ2.out.r.cells m (by have := HZ2.out.r.caps; have := HPQ.out; omega)
               obtain ⟨s0, s1⟩ := HZ2.out.r.cells h (by have := HZ2.out.r.caps; have := HPQ.out; omega)
               rw [HXY.out.1] at t0 t1
               rw [HXY.out.2] at s0 s1
               clear hB hB0))
        all_goals
         (go_wp2_with fail
          go_roundw
          case measure => first | (have := HH.out; have := HH1.out; omega) | (simp [intOf]; have := HH.out; have := HH1.out; omega)
          case rel => exact ⟨h1, j, rfl, rfl, ⟨by have := HH.out; have := HH1.out; have := HIJ.out; omega⟩, HZ2, ⟨.inr (by rw [← HH1.out, Nat.add_sub_cancel, HXY.out.1, HXY.out.2]; exact HI2.out), HC.out.2⟩⟩)
        -- F1>
    · have hij0 := HIJ.out
      have HIE : Aside0 (j = i) := ⟨by omega⟩
      have e1 : decide ((i : Int) < (j : Int)) = false := decide_eq_false (by omega)
      have e2 : decide (i < j) = false := decide_eq_false hlt
      clear hlt hij0
      -- <E1
      go_wp2_with fail
      go_loopw [17] (fun v17 wr => ∃ (k : Nat) (zs : List S82), v17 = .int .i64 (k : Int) ∧ Aside0 (i ≤ k ∧ k ≤ m) ∧ Aside0 (Wr w wr base (.slice (some ⟨g, 0, none⟩) n c) xs zs) ∧ Aside0 (get zs = rotF (get xs) k m (m + 1))) (fun v17 _ => (intOf v17).toNat)
      case atStart => exact ⟨m, xs, rfl, ⟨by have := HIJ.out; omega⟩, HZ, ⟨(rot_left _ _ _).symm⟩⟩
      case round =>
        obtain ⟨k, zs, rfl, HK, HZk, HG⟩ := hrel
        clear HZ e1 e2
        by_cases hlt : i < k
        · have e1 : decide ((i : Int) < (k : Int)) = true := decide_eq_true (by omega)
          have e2 : decide (i < k) = true := decide_eq_true hlt
          have hp := HP.out
          have hk := HK.out
          have hcap := HZk.out.r.caps
          obtain ⟨k1, hk1⟩ : ∃ x, k - 1 = x := ⟨_, rfl⟩
          have e3 : IntKind.i64.wrap ((k : Int) - 1) = (k1 : Int) := (i64_w _).trans ((w64 (by omega) (by omega)).trans (by omega))
          have f3 : (k : Int) < (n : Int) := by omega
          have f4 : (k1 : Int) < (n : Int) := by omega
          obtain ⟨p0, p1⟩ := HZk.out.r.cells k (by omega)
          obtain ⟨q0, q1⟩ := HZk.out.r.cells k1 (by omega)
          obtain ⟨W1, W2, us, st1, st2, hW, hg⟩ := HZk.out.swap k k1 (by omega) (by omega) (by omega)
          have HG2 : Aside0 (get us = rotF (get xs) k1 m (m + 1)) := ⟨by rw [hg, HG.out, rot_down _ (show k1 + 1 ≤ m by omega), show k1 + 1 = k by omega]⟩
          have HW2 := Aside0.mk hW
          have HK1 := Aside0.mk (And.intro hk1 hlt)
          obtain ⟨X, hX⟩ : ∃ X, get zs k = X := ⟨_, rfl⟩
          obtain ⟨Y, hY⟩ : ∃ Y, get zs k1 = Y := ⟨_, rfl⟩
          rw [hX] at p0 p1 st2
          rw [hY] at q0 q1 st1
          clear hlt hp hk hcap hk1 hg hW hX hY
          -- <E2
          go_upto_region 23 with fail
          go_region_law (fail)
          all_goals
           (go_wp2_with fail
            go_roundw
            case measure => first | (have := HK1.out; omega) | (simp [intOf]; have := HK1.out; omega)
            case rel => exact ⟨k1, us, rfl, ⟨by have := HK1.out; have := HK.out; omega⟩, HW2, HG2⟩)
          -- E2>
        · have e1 : decide ((i : Int) < (k : Int)) = false := decide_eq_false (by omega)
          have e2 : decide (i < k) = false := decide_eq_false hlt
          have hk := HK.out
          have HKE : Aside0 (k = i) := ⟨by omega⟩
          clear hlt hk
          -- <E3
          go_wp2_with fail
          refine bodyPost_ret (results_none rfl _ _ _) rfl ?_
          have h1 := HIJ.out
          have h2 := HP.out
          have h3 := HIE.out
          refine ⟨rfl, zs, HZk.out, ?_, ?_⟩
          · rw [HG.out, HKE.out, h2.2.2.1]
            exact (rot_same _ (by omega) (by omega)).widen (by omega) (by omega)
          · rw [HG.out, HKE.out, h2.2.2.1]
            refine Srt.insert ordF HS.out (by omega) (by omega) HC.out.1 ?_
            rcases HC.out.2 with h | h
            · left; omega
            · right; rw [← h3]; exact h
          -- E3>
      -- E1>
end Go.Proofs.Ytknagjiipelfnaa.SO
