/- slices.SortStableFunc on folds: the same folds, in order. -/
import Derived.Test.YtknagjiipelfnaaMerge3
namespace Go.Proofs.Ytknagjiipelfnaa.SO
open Go.RowKit Go.WideShapes Go.ChangeShapes Go.Proofs.YtknagjiipelfnaaW.PrintWords Go.Proofs.YtknagjiipelfnaaW.PrintLast Go.Proofs.YtknagjiipelfnaaW.PrintMore Go.Proofs.Ytknagjiipelfnaa.PAll
set_option linter.unusedVariables false
/-- Blocks of one size are in order. -/
def Blk (s n : Nat) (f : Nat → S82) : Prop := ∀ p, Srt ltF (p * s) (min (p * s + s) n) f
structure Half (s n q : Nat) (f : Nat → S82) : Prop where
  done : ∀ Q, Q < q → Srt ltF (Q * (2 * s)) (Q * (2 * s) + 2 * s) f
  todo : ∀ p, 2 * q ≤ p → Srt ltF (p * s) (min (p * s + s) n) f
theorem dbl (q s : Nat) : 2 * q * s = q * (2 * s) := by rw [Nat.mul_comm 2 q, Nat.mul_assoc]
theorem step_le {Q q k : Nat} (h : Q < q) : Q * k + k ≤ q * k := by
  have := Nat.mul_le_mul_right k (show Q + 1 ≤ q from h)
  rwa [Nat.succ_mul] at this
theorem Half.start {s n : Nat} {f : Nat → S82} (h : Blk s n f) : Half s n 0 f := ⟨fun Q hQ => by omega, fun p _ => h p⟩
theorem Half.pair {s n q t : Nat} {f : Nat → S82} (h : Half s n q f) (ht : q * (2 * s) = t) (hle : t + s < n) : Srt ltF t (t + s) f ∧ Srt ltF (t + s) (min (t + 2 * s) n) f := by
  have h1 := h.todo (2 * q) (Nat.le_refl _)
  have h2 := h.todo (2 * q + 1) (by omega)
  rw [Nat.succ_mul] at h2
  rw [dbl, ht] at h1 h2
  refine ⟨h1.sub (Nat.le_refl _) (by omega), h2.sub (Nat.le_refl _) (by omega)⟩
theorem Half.next {s n q t : Nat} {f g : Nat → S82} (h : Half s n q f) (ht : q * (2 * s) = t) (hs : Same t (t + 2 * s) f g) (ho : Srt ltF t (t + 2 * s) g) : Half s n (q + 1) g := by
  refine ⟨fun Q hQ => ?_, fun p hp => ?_⟩
  · by_cases e : Q = q
    · subst e
      rw [ht]
      exact ho
    · have hlt : Q < q := by omega
      have hle := step_le (k := 2 * s) hlt
      rw [ht] at hle
      exact (h.done Q hlt).of_eq fun k k1 k2 => hs.out k (by omega)
  · have hle := Nat.mul_le_mul_right s hp
    have e : 2 * (q + 1) * s = t + 2 * s := by rw [dbl, Nat.succ_mul, ht]
    exact (h.todo p (by omega)).of_eq fun k k1 k2 => hs.out k (by omega)
theorem Half.fin {s n q t : Nat} {f g : Nat → S82} (h : Half s n q f) (ht : q * (2 * s) = t) (htn : t ≤ n) (hgt : n < t + 2 * s) (hs : Same t n f g) (ho : Srt ltF t n g) : Blk (2 * s) n g := fun Q => by
  by_cases e : Q = q
  · subst e
    rw [ht]
    exact ho.sub (Nat.le_refl _) (by omega)
  · by_cases hlt : Q < q
    · have hle := step_le (k := 2 * s) hlt
      rw [ht] at hle
      exact ((h.done Q hlt).of_eq fun k k1 k2 => hs.out k (by omega)).sub (Nat.le_refl _) (by omega)
    · have hle := step_le (k := 2 * s) (show q < Q by omega)
      rw [ht] at hle
      exact Srt.small (by omega)
theorem Half.fin0 {s n q t : Nat} {f : Nat → S82} (h : Half s n q f) (ht : q * (2 * s) = t) (hle : n ≤ t + s) : Srt ltF t n f := by
  have h1 := h.todo (2 * q) (Nat.le_refl _)
  rw [dbl, ht] at h1
  exact h1.sub (Nat.le_refl _) (by omega)
/-- The first blocks, of twenty. -/
theorem blk20 {n q : Nat} {f : Nat → S82} (h1 : ∀ p, p < q → Srt ltF (20 * p) (20 * p + 20) f) (h2 : Srt ltF (20 * q) n f) (hq : n < 20 * q + 20) : Blk 20 n f := fun p => by
  rw [Nat.mul_comm p 20]
  by_cases c1 : p < q
  · exact (h1 p c1).sub (Nat.le_refl _) (by omega)
  · by_cases c2 : p = q
    · subst c2
      exact h2.sub (Nat.le_refl _) (by omega)
    · exact Srt.small (by omega)
set_option maxRecDepth 100000 in
set_option maxHeartbeats 8000000 in
theorem stable_calls (A : Option Addr) (n c : Nat) (xs : List S82) (w : World) (base : Nat) (hr : RF w base (.slice A n c) xs) (hn : n ≤ 1048577) (bd : ∀ k, Bd (get xs k)) :
    Calls Try.prog 78 #[.slice A n c, .int .i64 (n : Int), .func (.func 54) #[] #[]] w fun e w' => e = .returned (.tuple #[]) ∧ ∃ ys, Wr w w' base (.slice A n c) xs ys ∧ Same 0 n (get xs) (get ys) ∧ Srt ltF 0 n (get ys) := by
  have HW0 := Aside0.mk (Wr.refl hr)
  have HN := Aside0.mk hn
  have HBD := Aside0.mk bd
  clear hr hn bd
  go_enter Try.func78, Try.ntmps78
  go_upto_block 0 with fail
  go_cut [7, 8] (fun v7 v8 wx => ∃ (q a : Nat) (ys : List S82) (u : Value), v7 = .int .i64 (a : Int) ∧ v8 = u ∧ Aside0 (a = 20 * q ∧ a ≤ n ∧ n < a + 20) ∧ Aside0 (Wr w wx base (.slice A n c) xs ys) ∧ Aside0 (Same 0 n (get xs) (get ys) ∧ ∀ p, p < q → Srt ltF (20 * p) (20 * p + 20) (get ys)))
  case first =>
    -- <P1
    go_wp2_with fail
    go_loopw [7, 8] (fun v7 v8 wr => ∃ (q a b : Nat) (ys : List S82), v7 = .int .i64 (a : Int) ∧ v8 = .int .i64 (b : Int) ∧ Aside0 (a = 20 * q ∧ b = a + 20 ∧ a ≤ n) ∧ Aside0 (Wr w wr base (.slice A n c) xs ys) ∧ Aside0 (Same 0 n (get xs) (get ys) ∧ ∀ p, p < q → Srt ltF (20 * p) (20 * p + 20) (get ys))) (fun _ v8 _ => n + 1 - (intOf v8).toNat)
    case atStart => exact ⟨0, 0, 20, xs, rfl, rfl, ⟨by omega⟩, HW0, ⟨Same.refl _ _ _, fun p hp => by omega⟩⟩
    case round =>
      obtain ⟨q, a, b, ys, rfl, rfl, HQ, HZ, HS⟩ := hrel
      clear HW0
      by_cases hle : b ≤ n
      · have e1 : decide ((b : Int) ≤ (n : Int)) = true := decide_eq_true (by omega)
        have e2 : decide (b ≤ n) = true := decide_eq_true hle
        have hn := HN.out
        have hq := HQ.out
        obtain ⟨b2, hb2⟩ : ∃ x, b + 20 = x := ⟨_, rfl⟩
        have e3 : IntKind.i64.wrap ((b : Int) + 20) = (b2 : Int) := (i64_w _).trans ((w64 (by omega) (by omega)).trans (by omega))
        have HLE := Aside0.mk (And.intro hle hb2)
        clear hle hn hq hb2
        go_wp2_with fail
        refine (ins_calls A n c a b ys wr base HZ.out.r HN.out (by have := HQ.out; omega) HLE.out.1 (HS.out.1.bd HBD.out)).mono ?_
        rintro e w2 ⟨rfl, zs, hW, h1, h2⟩
        have HZ2 := Aside0.mk (HZ.out.trans hW)
        have HS2 : Aside0 (Same 0 n (get xs) (get zs) ∧ ∀ p, p < q + 1 → Srt ltF (20 * p) (20 * p + 20) (get zs)) := ⟨by
          have hq := HQ.out
          have hl := HLE.out
          refine ⟨HS.out.1.trans (h1.widen (Nat.zero_le _) hl.1), fun p hp => ?_⟩
          by_cases e : p = q
          · subst e
            exact h2.sub (by omega) (by omega)
          · exact (HS.out.2 p (by omega)).of_eq fun k k1 k2 => h1.out k (by omega)⟩
        clear hW h1 h2
        go_wp2_with fail
        go_roundw
        case measure => first | (have := HLE.out; have := HQ.out; omega) | (simp [intOf]; have := HLE.out; have := HQ.out; omega)
        case rel => exact ⟨q + 1, b, b2, zs, rfl, rfl, ⟨by have := HLE.out; have := HQ.out; omega⟩, HZ2, HS2⟩
      · have e1 : decide ((b : Int) ≤ (n : Int)) = false := decide_eq_false (by omega)
        have e2 : decide (b ≤ n) = false := decide_eq_false hle
        have HLE := Aside0.mk hle
        clear hle
        go_wp2_with fail
        go_meet
        case rel => exact ⟨q, a, ys, _, rfl, rfl, ⟨by have := HLE.out; have := HQ.out; omega⟩, HZ, HS⟩
    -- P1>
  case rest =>
  obtain ⟨q, a, ys, u, rfl, rfl, HQ, HZ, HS⟩ := hcut
  go_wp2_with fail
  refine (ins_calls A n c a n ys wc base HZ.out.r HN.out HQ.out.2.1 (Nat.le_refl _) (HS.out.1.bd HBD.out)).mono ?_
  rintro e w2 ⟨rfl, zs, hW, h1, h2⟩
  have HZ2 := Aside0.mk (HZ.out.trans hW)
  have HS2 : Aside0 (Same 0 n (get xs) (get zs) ∧ Blk 20 n (get zs)) := ⟨by
    have hq := HQ.out
    refine ⟨HS.out.1.trans (h1.widen (Nat.zero_le _) (Nat.le_refl _)), blk20 (q := q) (fun p hp => ?_) (h2.sub (by omega) (Nat.le_refl _)) (by omega)⟩
    exact (HS.out.2 p hp).of_eq fun k k1 k2 => h1.out k (by omega)⟩
  clear hW h1 h2 HS HZ HQ HW0
  go_wp2_with fail
  -- <P2
  go_loopw [6, 7, 8, 9] (fun v6 v7 v8 v9 wr => ∃ (s : Nat) (ys : List S82), v6 = .int .i64 (s : Int) ∧ Aside0 (1 ≤ s ∧ s ≤ 4194304) ∧ Aside0 (Wr w wr base (.slice A n c) xs ys) ∧ Aside0 (Same 0 n (get xs) (get ys) ∧ Blk s n (get ys))) (fun v6 _ _ _ _ => n - (intOf v6).toNat)
  case atStart => exact ⟨20, zs, rfl, ⟨by omega⟩, HZ2, HS2⟩
  case round =>
    obtain ⟨s, ys, rfl, HSB, HZ, HS⟩ := hrel
    clear HZ2 HS2
    by_cases hlt : s < n
    · have e1 : decide ((s : Int) < (n : Int)) = true := decide_eq_true (by omega)
      have e2 : decide (s < n) = true := decide_eq_true hlt
      have hn := HN.out
      have hs := HSB.out
      obtain ⟨s2, hs2⟩ : ∃ x, 2 * s = x := ⟨_, rfl⟩
      have e3 : IntKind.i64.wrap (2 * (s : Int)) = (s2 : Int) := (i64_w _).trans ((w64 (by omega) (by omega)).trans (by omega))
      have e4 : IntKind.i64.wrap ((s : Int) * 2) = (s2 : Int) := (i64_w _).trans ((w64 (by omega) (by omega)).trans (by omega))
      have HLT := Aside0.mk (And.intro hlt hs2)
      clear hlt hn hs hs2
      go_upto_block 4 with fail
      go_cut [7, 8] (fun v7 v8 wx => ∃ (q t : Nat) (zs : List S82) (u : Value), v7 = .int .i64 (t : Int) ∧ v8 = u ∧ Aside0 (q * s2 = t ∧ t ≤ n ∧ n < t + s2) ∧ Aside0 (Wr w wx base (.slice A n c) xs zs) ∧ Aside0 (Same 0 n (get xs) (get zs) ∧ Half s n q (get zs)))
      case first =>
        -- <P3
        go_wp2_with fail
        go_loopw [7, 8] (fun v7 v8 wr => ∃ (q t b : Nat) (zs : List S82), v7 = .int .i64 (t : Int) ∧ v8 = .int .i64 (b : Int) ∧ Aside0 (q * s2 = t ∧ t ≤ n ∧ b = t + s2) ∧ Aside0 (Wr w wr base (.slice A n c) xs zs) ∧ Aside0 (Same 0 n (get xs) (get zs) ∧ Half s n q (get zs))) (fun _ v8 _ => n + 1 - (intOf v8).toNat)
        case atStart => exact ⟨0, 0, s2, ys, rfl, rfl, ⟨by omega⟩, HZ, ⟨HS.out.1, Half.start HS.out.2⟩⟩
        case round =>
          obtain ⟨q, t, b, zs, rfl, rfl, HQ, HZ1, HS1⟩ := hrel
          clear HZ HS
          by_cases hle : b ≤ n
          · have e1 : decide ((b : Int) ≤ (n : Int)) = true := decide_eq_true (by omega)
            have e2 : decide (b ≤ n) = true := decide_eq_true hle
            have hn := HN.out
            have hq := HQ.out
            have hs := HSB.out
            have hl := HLT.out
            obtain ⟨ts, hts⟩ : ∃ x, t + s = x := ⟨_, rfl⟩
            obtain ⟨b2, hb2⟩ : ∃ x, b + s2 = x := ⟨_, rfl⟩
            have e5 : IntKind.i64.wrap ((t : Int) + (s : Int)) = (ts : Int) := (i64_w _).trans ((w64 (by omega) (by omega)).trans (by omega))
            have e6 : IntKind.i64.wrap ((b : Int) + (s2 : Int)) = (b2 : Int) := (i64_w _).trans ((w64 (by omega) (by omega)).trans (by omega))
            have HLE := Aside0.mk (And.intro hle (And.intro hb2 hts))
            have hpair := HS1.out.2.pair (t := t) (by rw [hl.2]; exact hq.1) (by omega)
            have HPR : Aside0 (Srt ltF t ts (get zs) ∧ Srt ltF ts b (get zs)) := ⟨by
              rw [hts] at hpair
              exact ⟨hpair.1, hpair.2.sub (Nat.le_refl _) (by omega)⟩⟩
            clear hle hn hq hs hl hts hb2 hpair
            go_wp2_with fail
            have hc := sym_calls A n c base HN.out (b - t) t ts b zs wr (Nat.le_refl _) HZ1.out.r (by have := HLE.out; have := HSB.out; omega) (by have := HLE.out; have := HQ.out; have := HLT.out; have := HSB.out; omega) HLE.out.1 (HS1.out.1.bd HBD.out) HPR.out.1 HPR.out.2
            unfold SymP at hc
            refine hc.mono ?_
            clear hc
            rintro e w2 ⟨rfl, us, hW, h1, h2⟩
            have HU := Aside0.mk (HZ1.out.trans hW)
            have HSU : Aside0 (Same 0 n (get xs) (get us) ∧ Half s n (q + 1) (get us)) := ⟨by
              have hq := HQ.out
              have hl := HLT.out
              have he := HLE.out
              refine ⟨HS1.out.1.trans (h1.widen (Nat.zero_le _) he.1), HS1.out.2.next (t := t) (by rw [hl.2]; exact hq.1) ?_ ?_⟩
              · rw [show t + 2 * s = b by omega]; exact h1
              · rw [show t + 2 * s = b by omega]; exact h2⟩
            clear hW h1 h2
            go_wp2_with fail
            go_roundw
            case measure => first | (have := HLE.out; have := HSB.out; have := HLT.out; omega) | (simp [intOf]; have := HLE.out; have := HSB.out; have := HLT.out; omega)
            case rel => exact ⟨q + 1, b, b2, us, rfl, rfl, ⟨by have := HLE.out; have := HQ.out; rw [Nat.succ_mul]; omega⟩, HU, HSU⟩
          · have e1 : decide ((b : Int) ≤ (n : Int)) = false := decide_eq_false (by omega)
            have e2 : decide (b ≤ n) = false := decide_eq_false hle
            have HLE := Aside0.mk hle
            clear hle
            go_wp2_with fail
            go_meet
            case rel => exact ⟨q, t, zs, _, rfl, rfl, ⟨by have := HLE.out; have := HQ.out; omega⟩, HZ1, HS1⟩
        -- P3>
      case rest =>
      obtain ⟨q, t, zs, u, rfl, rfl, HQ, HZ1, HS1⟩ := hcut
      obtain ⟨w1, hw1⟩ : ∃ w1, wc = w1 := ⟨_, rfl⟩
      rw [hw1] at HZ1 ⊢
      have hn := HN.out
      have hq := HQ.out
      have hs := HSB.out
      have hl := HLT.out
      obtain ⟨ts, hts⟩ : ∃ x, t + s = x := ⟨_, rfl⟩
      have e5 : IntKind.i64.wrap ((t : Int) + (s : Int)) = (ts : Int) := (i64_w _).trans ((w64 (by omega) (by omega)).trans (by omega))
      have HT : Aside0 (t + s = ts ∧ q * (2 * s) = t) := ⟨⟨hts, by rw [hl.2]; exact hq.1⟩⟩
      clear hn hq hs hl hts hw1 wc HZ HS
      -- <P4
      by_cases hlt : ts < n
      · have f1 : decide ((ts : Int) < (n : Int)) = true := decide_eq_true (by omega)
        have f2 : decide (ts < n) = true := decide_eq_true hlt
        have HTL := Aside0.mk hlt
        clear hlt
        go_wp2_with fail
        have hpair := HS1.out.2.pair HT.out.2 (by have := HTL.out; have := HT.out; omega)
        rw [HT.out.1] at hpair
        have hc := sym_calls A n c base HN.out (n - t) t ts n zs w1 (Nat.le_refl _) HZ1.out.r (by have := HT.out; have := HSB.out; omega) HTL.out (Nat.le_refl _) (HS1.out.1.bd HBD.out) hpair.1 (hpair.2.sub (Nat.le_refl _) (by have := HQ.out; have := HLT.out; omega))
        clear hpair
        unfold SymP at hc
        refine hc.mono ?_
        clear hc
        rintro e w2 ⟨rfl, us, hW, h1, h2⟩
        have HU := Aside0.mk (HZ1.out.trans hW)
        have HSU : Aside0 (Same 0 n (get xs) (get us) ∧ Blk s2 n (get us)) := ⟨by
          have hq := HQ.out
          have hl := HLT.out
          refine ⟨HS1.out.1.trans (h1.widen (Nat.zero_le _) (Nat.le_refl _)), ?_⟩
          rw [← hl.2]
          exact HS1.out.2.fin HT.out.2 hq.2.1 (by omega) h1 h2⟩
        clear hW h1 h2
        go_wp2_with fail
        go_roundw
        case measure => first | (have := HLT.out; have := HSB.out; omega) | (simp [intOf]; have := HLT.out; have := HSB.out; omega)
        case rel => exact ⟨s2, us, rfl, ⟨by have := HLT.out; have := HSB.out; have := HN.out; omega⟩, HU, HSU⟩
      · have f1 : decide ((ts : Int) < (n : Int)) = false := decide_eq_false (by omega)
        have f2 : decide (ts < n) = false := decide_eq_false hlt
        have HSU : Aside0 (Same 0 n (get xs) (get zs) ∧ Blk s2 n (get zs)) := ⟨by
          have hq := HQ.out
          have hl := HLT.out
          have ht := HT.out
          refine ⟨HS1.out.1, ?_⟩
          rw [← hl.2]
          exact HS1.out.2.fin HT.out.2 hq.2.1 (by omega) (Same.refl _ _ _) (HS1.out.2.fin0 HT.out.2 (by omega))⟩
        clear hlt
        go_wp2_with fail
        go_roundw
        case measure => first | (have := HLT.out; have := HSB.out; omega) | (simp [intOf]; have := HLT.out; have := HSB.out; omega)
        case rel => exact ⟨s2, zs, rfl, ⟨by have := HLT.out; have := HSB.out; have := HN.out; omega⟩, HZ1, HSU⟩
      -- P4>
    · have e1 : decide ((s : Int) < (n : Int)) = false := decide_eq_false (by omega)
      have e2 : decide (s < n) = false := decide_eq_false hlt
      have HR : Aside0 (Same 0 n (get xs) (get ys) ∧ Srt ltF 0 n (get ys)) := ⟨⟨HS.out.1, by
        have h := HS.out.2 0
        rw [Nat.zero_mul] at h
        exact h.sub (Nat.le_refl _) (by omega)⟩⟩
      clear hlt
      go_wp2_with fail
      go_end0
      exact ⟨rfl, ys, HZ.out, HR.out⟩
  -- P2>
set_option maxRecDepth 100000 in
set_option maxHeartbeats 8000000 in
theorem sort_calls (A : Option Addr) (n c : Nat) (xs : List S82) (w : World) (base : Nat) (hr : RF w base (.slice A n c) xs) (hn : n ≤ 1048577) (bd : ∀ k, Bd (get xs k)) :
    Calls Try.prog 53 #[.slice A n c, .func (.func 54) #[] #[]] w fun e w' => e = .returned (.tuple #[]) ∧ ∃ ys, Wr w w' base (.slice A n c) xs ys ∧ Same 0 n (get xs) (get ys) ∧ Srt ltF 0 n (get ys) := by
  have hc := stable_calls A n c xs w base hr hn bd
  clear hr hn bd
  go_enter Try.func53, Try.ntmps53
  go_wp2_with fail
  refine hc.mono ?_
  clear hc
  rintro e w2 ⟨rfl, ys, h⟩
  have H := Aside0.mk h
  clear h
  go_wp2_with fail
  go_end0
  exact ⟨rfl, ys, H.out⟩
end Go.Proofs.Ytknagjiipelfnaa.SO
