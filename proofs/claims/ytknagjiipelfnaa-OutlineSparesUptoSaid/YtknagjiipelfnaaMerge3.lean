/- slices.symMergeCmpFunc, two rows of more than one each; the whole. -/
import Derived.Test.YtknagjiipelfnaaMerge
namespace Go.Proofs.Ytknagjiipelfnaa.SO
open Go.RowKit Go.WideShapes Go.ChangeShapes Go.Proofs.YtknagjiipelfnaaW.PrintWords Go.Proofs.YtknagjiipelfnaaW.PrintLast Go.Proofs.YtknagjiipelfnaaW.PrintMore Go.Proofs.Ytknagjiipelfnaa.PAll
set_option linter.unusedVariables false
attribute [local go_sem ↓] stored82_at
set_option maxRecDepth 100000 in
set_option maxHeartbeats 8000000 in
theorem sym3 (A : Option Addr) (n c a m b : Nat) (xs : List S82) (w : World) (base : Nat) (hr : RF w base (.slice A n c) xs) (hn : n ≤ 1048577) (ham : a + 1 < m) (hmb : m + 1 < b) (hbn : b ≤ n) (bd : ∀ k, Bd (get xs k)) (h1 : Srt ltF a m (get xs)) (h2 : Srt ltF m b (get xs))
    (ih : ∀ a' m' b' xs' w', b' - a' < b - a → RF w' base (.slice A n c) xs' → a' < m' → m' < b' → b' ≤ n → (∀ k, Bd (get xs' k)) → Srt ltF a' m' (get xs') → Srt ltF m' b' (get xs') → SymP A n c base a' m' b' xs' w') :
    Calls Try.prog 88 #[.slice A n c, .int .i64 (a : Int), .int .i64 (m : Int), .int .i64 (b : Int), .func (.func 54) #[] #[]] w fun e w' => e = .returned (.tuple #[]) ∧ ∃ ys, Wr w w' base (.slice A n c) xs ys ∧ Same a b (get xs) (get ys) ∧ Srt ltF a b (get ys) := by
  obtain ⟨d1, hd1⟩ : ∃ d, m - a = d := ⟨_, rfl⟩
  have ea : IntKind.i64.wrap ((m : Int) - (a : Int)) = (d1 : Int) := (i64_w _).trans ((w64 (by omega) (by omega)).trans (by omega))
  have eaa : decide ((d1 : Int) = 1) = false := decide_eq_false (by omega)
  have eab : decide (d1 = 1) = false := decide_eq_false (by omega)
  have eac : ¬ (d1 = 1) := by omega
  have eae : ((d1 : Int) == 1) = false := beq_eq_false_iff_ne.2 (by omega)
  have eaf : (d1 == 1) = false := beq_eq_false_iff_ne.2 (by omega)
  obtain ⟨d2, hd2⟩ : ∃ d, b - m = d := ⟨_, rfl⟩
  have eb : IntKind.i64.wrap ((b : Int) - (m : Int)) = (d2 : Int) := (i64_w _).trans ((w64 (by omega) (by omega)).trans (by omega))
  have eba : decide ((d2 : Int) = 1) = false := decide_eq_false (by omega)
  have ebb : decide (d2 = 1) = false := decide_eq_false (by omega)
  have ebc : ¬ (d2 = 1) := by omega
  have ebe : ((d2 : Int) == 1) = false := beq_eq_false_iff_ne.2 (by omega)
  have ebf : (d2 == 1) = false := beq_eq_false_iff_ne.2 (by omega)
  have hcap := hr.caps
  obtain ⟨g, rfl, -⟩ := hr.at_ (by omega)
  obtain ⟨ab, hab⟩ : ∃ x, a + b = x := ⟨_, rfl⟩
  obtain ⟨mid, hmid⟩ : ∃ x, ab / 2 = x := ⟨_, rfl⟩
  obtain ⟨nn, hnn⟩ : ∃ x, mid + m = x := ⟨_, rfl⟩
  have hub : ab ≤ 2097154 := by omega
  have hum : mid ≤ 1048577 := by omega
  have ec : IntKind.i64.wrap ((a : Int) + (b : Int)) = (ab : Int) := (i64_w _).trans ((w64 (by omega) (by omega)).trans (by omega))
  have ed : ((ab : Int) / 2) = (mid : Int) := by omega
  have ee : IntKind.i64.wrap ((mid : Int) + (m : Int)) = (nn : Int) := (i64_w _).trans ((w64 (by omega) (by omega)).trans (by omega))
  have HW0 := Aside0.mk (Wr.refl hr)
  have HP : Aside0 (n ≤ 1048577 ∧ a + 1 < m ∧ m + 1 < b ∧ b ≤ n ∧ mid = (a + b) / 2 ∧ nn = mid + m) := ⟨⟨hn, ham, hmb, hbn, by omega, by omega⟩⟩
  have HBD := Aside0.mk bd
  have HS := Aside0.mk (And.intro h1 h2)
  have IH := Aside0.mk ih
  clear hr hn ham hmb hbn bd h1 h2 hcap hd1 hd2 hab hmid hnn ih
  go_enter Try.func88, Try.ntmps88
  go_upto_if 140 with fail
  clear ea eaa eab eac eae eaf eb eba ebb ebc ebe ebf ec ed ee hub
  go_cut [20, 21] (fun v20 v21 wx => ∃ lo hi : Nat, v20 = .int .i64 (lo : Int) ∧ v21 = .int .i64 (hi : Int) ∧ Aside0 (lo = (if mid < m then mid + m - b else a) ∧ hi = (if mid < m then mid else m)) ∧ wx = w)
  case first =>
    by_cases hmm : mid < m
    · have e1 : decide ((mid : Int) < (m : Int)) = true := decide_eq_true (by omega)
      have e2 : decide (mid < m) = true := decide_eq_true hmm
      have hp := HP.out
      obtain ⟨l, hl⟩ : ∃ x, nn - b = x := ⟨_, rfl⟩
      have e3 : IntKind.i64.wrap ((nn : Int) - (b : Int)) = (l : Int) := (i64_w _).trans ((w64 (by omega) (by omega)).trans (by omega))
      have HL : Aside0 (l = mid + m - b) := ⟨by omega⟩
      have HMM := Aside0.mk hmm
      clear hp hl
      go_wp2_with fail
      go_meet
      case rel => exact ⟨l, mid, rfl, rfl, ⟨by rw [if_pos HMM.out, if_pos HMM.out]; exact ⟨HL.out, rfl⟩⟩, rfl⟩
    · have e1 : decide ((mid : Int) < (m : Int)) = false := decide_eq_false (by omega)
      have e2 : decide (mid < m) = false := decide_eq_false hmm
      have HMM := Aside0.mk hmm
      go_wp2_with fail
      go_meet
      case rel => exact ⟨a, m, rfl, rfl, ⟨by rw [if_neg HMM.out, if_neg HMM.out]; exact ⟨rfl, rfl⟩⟩, rfl⟩
  case rest =>
  obtain ⟨lo, hi, rfl, rfl, HLH, hwc⟩ := hcut
  rw [hwc]
  clear hwc wc
  obtain ⟨p, hp⟩ : ∃ x, nn - 1 = x := ⟨_, rfl⟩
  have hpp := HP.out
  have ef : IntKind.i64.wrap ((nn : Int) - 1) = (p : Int) := (i64_w _).trans ((w64 (by omega) (by omega)).trans (by omega))
  have HPP := Aside0.mk hp
  have HLB : Aside0 (a ≤ lo ∧ lo ≤ hi ∧ hi ≤ m ∧ hi ≤ mid ∧ nn ≤ b + lo) := ⟨by
    have h := HLH.out
    by_cases hmm : mid < m
    · rw [if_pos hmm, if_pos hmm] at h; omega
    · rw [if_neg hmm, if_neg hmm] at h; omega⟩
  clear hpp hp
  -- <L1
  go_upto_block 8 with fail
  go_cut [20, 21, 23] (fun v20 v21 v23 wx => ∃ s r : Nat, v20 = .int .i64 (s : Int) ∧ v21 = .int .i64 (r : Int) ∧ Aside0 (Cutp ltF (get xs) a m b mid s) ∧ Aside0 (Wr w wx base (.slice (some ⟨g, 0, none⟩) n c) xs xs))
  case first =>
    -- <B1
    as_aux_lemma =>
      go_wp2_with fail
      go_loopw [20, 21, 23] (fun v20 v21 v23 wr => ∃ (i j : Nat), v20 = .int .i64 (i : Int) ∧ v21 = .int .i64 (j : Int) ∧ Aside0 (lo ≤ i ∧ i ≤ j ∧ j ≤ hi) ∧ Aside0 (Wr w wr base (.slice (some ⟨g, 0, none⟩) n c) xs xs) ∧ Aside0 ((i = lo ∨ ltF (get xs (nn - 1 - (i - 1))) (get xs (i - 1)) = false) ∧ (j = hi ∨ ltF (get xs (nn - 1 - j)) (get xs j) = true))) (fun v20 v21 _ _ => (intOf v21).toNat - (intOf v20).toNat)
      case atStart => exact ⟨lo, hi, rfl, rfl, ⟨by have := HLB.out; omega⟩, HW0, ⟨.inl rfl, .inl rfl⟩⟩
      case round =>
        obtain ⟨i, j, rfl, rfl, HIJ, HZ, HC⟩ := hrel
        clear HW0
        by_cases hlt : i < j
        · have e1 : decide ((i : Int) < (j : Int)) = true := decide_eq_true (by omega)
          have e2 : decide (i < j) = true := decide_eq_true hlt
          have hp := HP.out
          have hpp := HPP.out
          have hij := HIJ.out
          have hlb := HLB.out
          have e3 : IntKind.i64.wrap ((i : Int) + (j : Int)) = ((i + j : Nat) : Int) := (i64_w _).trans ((w64 (by omega) (by omega)).trans (by omega))
          obtain ⟨ij, hh⟩ : ∃ x, i + j = x := ⟨_, rfl⟩
          rw [hh] at e3
          obtain ⟨h, hh2⟩ : ∃ x, ij / 2 = x := ⟨_, rfl⟩
          have e4 : ((ij : Int) / 2) = (h : Int) := by omega
          have HH : Aside0 (i ≤ h ∧ h < j) := ⟨by omega⟩
          have hub : ij ≤ 2097154 := by omega
          have huh : h ≤ 1048577 := by omega
          have e5 : IntKind.i64.wrap ((h : Int) + 1) = ((h + 1 : Nat) : Int) := (i64_w _).trans ((w64 (by omega) (by omega)).trans (by omega))
          obtain ⟨pc, hpc⟩ : ∃ x, p - h = x := ⟨_, rfl⟩
          have e6 : IntKind.i64.wrap ((p : Int) - (h : Int)) = (pc : Int) := (i64_w _).trans ((w64 (by omega) (by omega)).trans (by omega))
          have HPC : Aside0 (nn - 1 - h = pc ∧ True) := ⟨⟨by omega, trivial⟩⟩
          obtain ⟨h1, hh1⟩ : ∃ x, h + 1 = x := ⟨_, rfl⟩
          rw [hh1] at e5
          have HH1 := Aside0.mk hh1
          have f3 : (pc : Int) < (n : Int) := by omega
          have f4 : (h : Int) < (n : Int) := by omega
          have HPQ : Aside0 (pc < n ∧ h < n) := ⟨by omega⟩
          obtain ⟨p0, p1⟩ := HZ.out.r.cells pc (by omega)
          obtain ⟨q0, q1⟩ := HZ.out.r.cells h (by omega)
          obtain ⟨X, hX⟩ : ∃ X, get xs pc = X := ⟨_, rfl⟩
          obtain ⟨Y, hY⟩ : ∃ Y, get xs h = Y := ⟨_, rfl⟩
          have HBX := Aside0.mk (hX ▸ HBD.out pc)
          have HBY := Aside0.mk (hY ▸ HBD.out h)
          have HXY := Aside0.mk (And.intro hX hY)
          rw [hX] at p0 p1
          rw [hY] at q0 q1
          obtain ⟨r, hr⟩ : ∃ r, cmpI X Y = r := ⟨_, rfl⟩
          have HCR := Aside0.mk hr
          have f1 : ltF X Y = decide (r < 0) := by unfold ltF; rw [hr]
          clear hr hX hY hlt hp hij hh hh2 hh1 hpp hlb hpc
          cases hq : decide (r < 0) with
          | true =>
            rw [hq] at f1
            have HI2 := Aside0.mk f1
            clear f1
            -- <T1
            go_upto_region 35 with fail
            go_region_held3 (fun w' => w'.cell? ⟨g, pc * 2, none⟩ = some (.int .i64 X.f0) ∧ w'.cell? ⟨g, pc * 2 + 1, none⟩ = some (.int .i64 X.f1) ∧ w'.cell? ⟨g, h * 2, none⟩ = some (.int .i64 Y.f0) ∧ w'.cell? ⟨g, h * 2 + 1, none⟩ = some (.int .i64 Y.f1))
              (first | exact ⟨by assumption, by assumption, by assumption, by assumption⟩ | go_keep)
              (first
                | (go_at_call 54
                   refine (less_at X Y r _ HCR.out HBX.out HBY.out).mono ?_
                   rintro e w2 ⟨rfl, hB0⟩
                   have hB : Below wr.heap.size wr w2 := Below.trans (below_drew (Below.refl _ _)) hB0
                   have HZ2 := Aside0.mk (HZ.out.moved hB)
                   obtain ⟨t0, t1⟩ := HZ2.out.r.cells pc (by have := HZ2.out.r.caps; have := HPQ.out; omega)
                   obtain ⟨s0, s1⟩ := HZ2.out.r.cells h (by have := HZ2.out.r.caps; have := HPQ.out; omega)
                   rw [HXY.out.1] at t0 t1
                   rw [HXY.out.2] at s0 s1
                   clear hB hB0))
            all_goals
             (go_wp2_with fail
              go_roundw
              case measure => first | (have := HH.out; omega) | (simp [intOf]; have := HH.out; omega)
              case rel => exact ⟨i, h, rfl, rfl, ⟨by have := HH.out; have := HIJ.out; omega⟩, HZ2, ⟨HC.out.1, .inr (by rw [HPC.out.1, HXY.out.1, HXY.out.2]; exact HI2.out)⟩⟩)
            -- T1>
          | false =>
            rw [hq] at f1
            have HI2 := Aside0.mk f1
            clear f1
            -- <F1
            go_upto_region 35 with fail
            go_region_held3 (fun w' => w'.cell? ⟨g, pc * 2, none⟩ = some (.int .i64 X.f0) ∧ w'.cell? ⟨g, pc * 2 + 1, none⟩ = some (.int .i64 X.f1) ∧ w'.cell? ⟨g, h * 2, none⟩ = some (.int .i64 Y.f0) ∧ w'.cell? ⟨g, h * 2 + 1, none⟩ = some (.int .i64 Y.f1))
              (first | exact ⟨by assumption, by assumption, by assumption, by assumption⟩ | go_keep)
              (first
                | (go_at_call 54
                   refine (less_at X Y r _ HCR.out HBX.out HBY.out).mono ?_
                   rintro e w2 ⟨rfl, hB0⟩
                   have hB : Below wr.heap.size wr w2 := Below.trans (below_drew (Below.refl _ _)) hB0
                   have HZ2 := Aside0.mk (HZ.out.moved hB)
                   obtain ⟨t0, t1⟩ := HZ2.out.r.cells pc (by have := HZ2.out.r.caps; have := HPQ.out; omega)
                   obtain ⟨s0, s1⟩ := HZ2.out.r.cells h (by have := HZ2.out.r.caps; have := HPQ.out; omega)
                   rw [HXY.out.1] at t0 t1
                   rw [HXY.out.2] at s0 s1
                   clear hB hB0))
            all_goals
             (go_wp2_with fail
              go_roundw
              case measure => first | (have := HH.out; have := HH1.out; omega) | (simp [intOf]; have := HH.out; have := HH1.out; omega)
              case rel => exact ⟨h1, j, rfl, rfl, ⟨by have := HH.out; have := HH1.out; have := HIJ.out; omega⟩, HZ2, ⟨.inr (by rw [← HH1.out, Nat.add_sub_cancel, HPC.out.1, HXY.out.1, HXY.out.2]; exact HI2.out), HC.out.2⟩⟩)
            -- F1>
        · have hij0 := HIJ.out
          have HIE : Aside0 (j = i) := ⟨by omega⟩
          have e1 : decide ((i : Int) < (j : Int)) = false := decide_eq_false (by omega)
          have e2 : decide (i < j) = false := decide_eq_false hlt
          clear hlt hij0
          -- <E1
          go_wp2_with fail
          go_meet
          case rel =>
            refine ⟨i, j, rfl, rfl, ⟨?_⟩, HZ⟩
            have h1 := HLH.out
            have h2 := HIJ.out
            have h3 := HIE.out
            have h4 := HP.out
            have h5 := HC.out
            refine ⟨by rw [← h1.1]; exact h2.1, by rw [← h1.2]; omega, ?_, ?_⟩
            · rw [← h1.1, show mid + m = nn by omega]
              exact h5.1
            · rw [← h1.2, show mid + m = nn by omega, ← h3]
              exact h5.2
          -- E1>
    -- B1>
  case rest =>
  -- <R1
  as_aux_lemma =>
    obtain ⟨s, r, rfl, rfl, HCUT, HZ⟩ := hcut
    have hp := HP.out
    have hbs := HCUT.out.bounds (by omega) (by omega) hp.2.2.2.2.1
    obtain ⟨en, hen⟩ : ∃ x, mid + m - s = x := ⟨_, rfl⟩
    have eg : IntKind.i64.wrap ((nn : Int) - (s : Int)) = (en : Int) := (i64_w _).trans ((w64 (by omega) (by omega)).trans (by omega))
    rw [hen] at hbs
    have HBS := Aside0.mk hbs
    have hal := HCUT.out.halves ordF (by omega) (by omega) hp.2.2.2.2.1 HS.out.1 HS.out.2
    rw [hen] at hal
    have HAL := Aside0.mk hal
    clear hal hbs hen hp
    obtain ⟨w1, hw1⟩ : ∃ w1, wc = w1 := ⟨_, rfl⟩
    rw [hw1] at HZ ⊢
    clear hw1 wc ef
    go_upto_region 39 with fail
    clear eg
    go_upto_region 39 with fail
    go_cut [185] (fun v wx => v = .bool (decide (s < m) && decide (m < en)) ∧ wx = w1)
    case first =>
      by_cases c1 : s < m
      · have e1 : decide ((s : Int) < (m : Int)) = true := decide_eq_true (by omega)
        have e2 : decide (s < m) = true := decide_eq_true c1
        by_cases c2 : m < en
        · have e3 : decide ((m : Int) < (en : Int)) = true := decide_eq_true (by omega)
          have e4 : decide (m < en) = true := decide_eq_true c2
          have HE := Aside0.mk (And.intro e2 e4)
          clear c1 c2
          go_wp2_with fail
          go_meet
          case rel => exact ⟨by rw [HE.out.1, HE.out.2]; rfl, rfl⟩
        · have e3 : decide ((m : Int) < (en : Int)) = false := decide_eq_false (by omega)
          have e4 : decide (m < en) = false := decide_eq_false c2
          have HE := Aside0.mk (And.intro e2 e4)
          clear c1 c2
          go_wp2_with fail
          go_meet
          case rel => exact ⟨by rw [HE.out.1, HE.out.2]; rfl, rfl⟩
      · have e1 : decide ((s : Int) < (m : Int)) = false := decide_eq_false (by omega)
        have e2 : decide (s < m) = false := decide_eq_false c1
        have HE := Aside0.mk e2
        clear c1
        go_wp2_with fail
        go_meet
        case rel => exact ⟨by rw [HE.out]; rfl, rfl⟩
    case rest =>
    obtain ⟨rfl, hwc⟩ := hcut
    rw [hwc]
    clear hwc wc
    obtain ⟨q, hq⟩ : ∃ q, (decide (s < m) && decide (m < en)) = q := ⟨_, rfl⟩
    rw [hq]
    have HQ := Aside0.mk hq
    clear hq
    go_upto_if 185 with fail
    go_cut [] (fun wx => ∃ ys, Aside0 (Wr w wx base (.slice (some ⟨g, 0, none⟩) n c) xs ys) ∧ Aside0 (get ys = rotF (get xs) s m en))
    case first =>
      cases q with
      | true =>
        have hq := HQ.out
        rw [Bool.and_eq_true] at hq
        have HQ2 := Aside0.mk (And.intro (of_decide_eq_true hq.1) (of_decide_eq_true hq.2))
        clear hq
        go_wp2_with fail
        refine (rotate_calls (some ⟨g, 0, none⟩) n c s m en xs (.func (.func 54) #[] #[]) w1 base HZ.out.r HP.out.1 HQ2.out.1 HQ2.out.2 (by have := HBS.out; have := HP.out; omega)).mono ?_
        rintro e w2 ⟨rfl, ys, hW, hg⟩
        have HY := Aside0.mk (HZ.out.trans hW)
        have HYG := Aside0.mk hg
        clear hW hg
        go_wp2_with fail
        go_meet
        case rel => exact ⟨ys, HY, HYG⟩
      | false =>
        have HR : Aside0 (get xs = rotF (get xs) s m en) := ⟨by
          have hq := HQ.out
          have hb := HBS.out
          rw [Bool.and_eq_false_iff] at hq
          rcases hq with hq | hq
          · have := of_decide_eq_false hq
            rw [show s = m by omega, rot_left]
          · have := of_decide_eq_false hq
            rw [show en = m by omega, rot_right]⟩
        go_wp2_with fail
        go_meet
        case rel => exact ⟨xs, HZ, HR⟩
    case rest =>
    obtain ⟨ys, HY, HYG⟩ := hcut
    obtain ⟨w2, hw2⟩ : ∃ w2, wc = w2 := ⟨_, rfl⟩
    rw [hw2] at HY ⊢
    have HAY : Aside0 (Srt ltF a s (get ys) ∧ Srt ltF s mid (get ys) ∧ Srt ltF mid en (get ys) ∧ Srt ltF en b (get ys) ∧ ∀ i j, a ≤ i → i < mid → mid ≤ j → j < b → ltF (get ys j) (get ys i) = false) := ⟨by rw [HYG.out]; exact HAL.out⟩
    have HSY : Aside0 (Same a b (get xs) (get ys)) := ⟨by
      rw [HYG.out]
      have h1 := HBS.out
      exact (rot_same _ (by omega) (by omega)).widen (by omega) (by omega)⟩
    clear hw2 wc HZ HAL HYG HQ q
    -- <R2
    as_aux_lemma =>
      go_upto_region 41 with fail
      go_cut [199] (fun v wx => v = .bool (decide (a < s) && decide (s < mid)) ∧ wx = w2)
      case first =>
        by_cases c1 : a < s
        · have e1 : decide ((a : Int) < (s : Int)) = true := decide_eq_true (by omega)
          have e2 : decide (a < s) = true := decide_eq_true c1
          by_cases c2 : s < mid
          · have e3 : decide ((s : Int) < (mid : Int)) = true := decide_eq_true (by omega)
            have e4 : decide (s < mid) = true := decide_eq_true c2
            have HE := Aside0.mk (And.intro e2 e4)
            clear c1 c2
            go_wp2_with fail
            go_meet
            case rel => exact ⟨by rw [HE.out.1, HE.out.2]; rfl, rfl⟩
          · have e3 : decide ((s : Int) < (mid : Int)) = false := decide_eq_false (by omega)
            have e4 : decide (s < mid) = false := decide_eq_false c2
            have HE := Aside0.mk (And.intro e2 e4)
            clear c1 c2
            go_wp2_with fail
            go_meet
            case rel => exact ⟨by rw [HE.out.1, HE.out.2]; rfl, rfl⟩
        · have e1 : decide ((a : Int) < (s : Int)) = false := decide_eq_false (by omega)
          have e2 : decide (a < s) = false := decide_eq_false c1
          have HE := Aside0.mk e2
          clear c1
          go_wp2_with fail
          go_meet
          case rel => exact ⟨by rw [HE.out]; rfl, rfl⟩
      case rest =>
      obtain ⟨rfl, hwc⟩ := hcut
      rw [hwc]
      clear hwc wc
      obtain ⟨q, hq⟩ : ∃ q, (decide (a < s) && decide (s < mid)) = q := ⟨_, rfl⟩
      rw [hq]
      have HQ := Aside0.mk hq
      clear hq
      go_upto_if 199 with fail
      go_cut [] (fun wx => ∃ zs, Aside0 (Wr w wx base (.slice (some ⟨g, 0, none⟩) n c) xs zs) ∧ Aside0 (Same a mid (get ys) (get zs) ∧ Srt ltF a mid (get zs)))
      case first =>
        cases q with
        | true =>
          have hq := HQ.out
          rw [Bool.and_eq_true] at hq
          have HQ2 := Aside0.mk (And.intro (of_decide_eq_true hq.1) (of_decide_eq_true hq.2))
          clear hq
          go_wp2_with fail
          have hc := IH.out a s mid ys w2 (by have := HP.out; omega) HY.out.r HQ2.out.1 HQ2.out.2 (by have := HP.out; omega) (HSY.out.bd HBD.out) HAY.out.1 HAY.out.2.1
          unfold SymP at hc
          refine hc.mono ?_
          clear hc
          rintro e w3 ⟨rfl, zs, hW, hg⟩
          have HZ := Aside0.mk (HY.out.trans hW)
          have HZG := Aside0.mk hg
          clear hW hg
          go_wp2_with fail
          go_meet
          case rel => exact ⟨zs, HZ, HZG⟩
        | false =>
          have HR : Aside0 (Same a mid (get ys) (get ys) ∧ Srt ltF a mid (get ys)) := ⟨⟨Same.refl _ _ _, by
            have hq := HQ.out
            have hb := HBS.out
            have hp := HP.out
            rw [Bool.and_eq_false_iff] at hq
            rcases hq with hq | hq
            · have := of_decide_eq_false hq
              exact HAY.out.2.1.sub (by omega) (Nat.le_refl _)
            · have := of_decide_eq_false hq
              exact HAY.out.1.sub (Nat.le_refl _) (by omega)⟩⟩
          go_wp2_with fail
          go_meet
          case rel => exact ⟨ys, HY, HR⟩
      case rest =>
      obtain ⟨zs, HZ, HZG⟩ := hcut
      obtain ⟨w3, hw3⟩ : ∃ w3, wc = w3 := ⟨_, rfl⟩
      rw [hw3] at HZ ⊢
      have HM : Aside0 (∀ us, Same mid b (get zs) (get us) → Srt ltF mid b (get us) → Same a b (get xs) (get us) ∧ Srt ltF a b (get us)) := ⟨fun us h1 h2 => by
        have hp := HP.out
        have h3 := Srt.merged (show a ≤ mid by omega) (show mid ≤ b by omega) HAY.out.2.2.2.2 HZG.out.1 HZG.out.2 h1 h2
        exact ⟨HSY.out.trans h3.2, h3.1⟩⟩
      have HEQ : Aside0 (Srt ltF mid en (get zs) ∧ Srt ltF en b (get zs)) := ⟨⟨HAY.out.2.2.1.of_eq fun k h1 h2 => HZG.out.1.out k (by omega), HAY.out.2.2.2.1.of_eq fun k h1 h2 => HZG.out.1.out k (by have := HBS.out; omega)⟩⟩
      have HBZ : Aside0 (∀ k, Bd (get zs k)) := ⟨HZG.out.1.bd (HSY.out.bd HBD.out)⟩
      clear hw3 wc HY HQ q HAY
      -- <R3
      as_aux_lemma =>
        go_upto_region 43 with fail
        go_cut [213] (fun v wx => v = .bool (decide (mid < en) && decide (en < b)) ∧ wx = w3)
        case first =>
          by_cases c1 : mid < en
          · have e1 : decide ((mid : Int) < (en : Int)) = true := decide_eq_true (by omega)
            have e2 : decide (mid < en) = true := decide_eq_true c1
            by_cases c2 : en < b
            · have e3 : decide ((en : Int) < (b : Int)) = true := decide_eq_true (by omega)
              have e4 : decide (en < b) = true := decide_eq_true c2
              have HE := Aside0.mk (And.intro e2 e4)
              clear c1 c2
              go_wp2_with fail
              go_meet
              case rel => exact ⟨by rw [HE.out.1, HE.out.2]; rfl, rfl⟩
            · have e3 : decide ((en : Int) < (b : Int)) = false := decide_eq_false (by omega)
              have e4 : decide (en < b) = false := decide_eq_false c2
              have HE := Aside0.mk (And.intro e2 e4)
              clear c1 c2
              go_wp2_with fail
              go_meet
              case rel => exact ⟨by rw [HE.out.1, HE.out.2]; rfl, rfl⟩
          · have e1 : decide ((mid : Int) < (en : Int)) = false := decide_eq_false (by omega)
            have e2 : decide (mid < en) = false := decide_eq_false c1
            have HE := Aside0.mk e2
            clear c1
            go_wp2_with fail
            go_meet
            case rel => exact ⟨by rw [HE.out]; rfl, rfl⟩
        case rest =>
        obtain ⟨rfl, hwc⟩ := hcut
        rw [hwc]
        clear hwc wc
        obtain ⟨q, hq⟩ : ∃ q, (decide (mid < en) && decide (en < b)) = q := ⟨_, rfl⟩
        rw [hq]
        have HQ := Aside0.mk hq
        clear hq
        cases q with
        | true =>
          have hq := HQ.out
          rw [Bool.and_eq_true] at hq
          have HQ2 := Aside0.mk (And.intro (of_decide_eq_true hq.1) (of_decide_eq_true hq.2))
          clear hq
          go_wp2_with fail
          have hc := IH.out mid en b zs w3 (by have := HP.out; omega) HZ.out.r HQ2.out.1 HQ2.out.2 (by have := HP.out; omega) HBZ.out HEQ.out.1 HEQ.out.2
          unfold SymP at hc
          refine hc.mono ?_
          clear hc
          rintro e w4 ⟨rfl, us, hW, hg⟩
          have HU := Aside0.mk (HZ.out.trans hW)
          have HUG := Aside0.mk (HM.out us hg.1 hg.2)
          clear hW hg
          go_wp2_with fail
          go_end0
          exact ⟨rfl, us, HU.out, HUG.out⟩
        | false =>
          have HUG : Aside0 (Same a b (get xs) (get zs) ∧ Srt ltF a b (get zs)) := ⟨HM.out zs (Same.refl _ _ _) (by
            have hq := HQ.out
            have hb := HBS.out
            have hp := HP.out
            rw [Bool.and_eq_false_iff] at hq
            rcases hq with hq | hq
            · have := of_decide_eq_false hq
              exact HEQ.out.2.sub (by omega) (Nat.le_refl _)
            · have := of_decide_eq_false hq
              exact HEQ.out.1.sub (Nat.le_refl _) (by omega))⟩
          go_wp2_with fail
          go_end0
          exact ⟨rfl, zs, HZ.out, HUG.out⟩
      -- R3>
    -- R2>
  -- R1>
  -- L1>
/-- Two rows in order, side by side, become one. -/
theorem sym_calls (A : Option Addr) (n c base : Nat) (hn : n ≤ 1048577) : ∀ d a m b xs w, b - a ≤ d → RF w base (.slice A n c) xs → a < m → m < b → b ≤ n → (∀ k, Bd (get xs k)) → Srt ltF a m (get xs) → Srt ltF m b (get xs) → SymP A n c base a m b xs w := by
  intro d
  induction d with
  | zero =>
    intro a m b xs w hd hr ham hmb hbn bd h1 h2
    exfalso
    omega
  | succ d ih =>
    intro a m b xs w hd hr ham hmb hbn bd h1 h2
    unfold SymP
    by_cases c1 : m = a + 1
    · exact sym1 A n c a m b xs w base hr hn c1 hmb hbn bd h2
    · by_cases c2 : b = m + 1
      · exact sym2 A n c a m b xs w base hr hn ham c1 c2 hbn bd h1
      · exact sym3 A n c a m b xs w base hr hn (by omega) (by omega) hbn bd h1 h2 (fun a' m' b' xs' w' hlt hr' h3 h4 h5 h6 h7 h8 => ih a' m' b' xs' w' (by omega) hr' h3 h4 h5 h6 h7 h8)
end Go.Proofs.Ytknagjiipelfnaa.SO
