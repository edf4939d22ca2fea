/- The text behind an edit: the walk of 'spliced'. -/
import Derived.Test.YtgefbbdahhoglaaEditText
namespace Go.Proofs.Ytgefbbdahhoglaa.PT
open Go.RowKit Go.WideShapes Go.ChangeShapes Go.Proofs.YtgefbbdahhoglaaW.PrintWords Go.Proofs.YtgefbbdahhoglaaW.PrintLast Go.Proofs.YtgefbbdahhoglaaW.PrintMore Go.Proofs.Ytgefbbdahhoglaa.PAll
set_option linter.unusedVariables false

set_option maxRecDepth 100000 in
set_option maxHeartbeats 1500000 in
theorem spliced_calls (t s : ByteArray) (a d : Int) (w : World) (ht : t.size ≤ 4294967296) (hs : s.size ≤ 4294967296) :
    Calls Try.prog 30 #[.string t, .agg #[.int .i64 a, .int .i64 d, .string s]] w fun e w' => e = .returned (.string (behind t a d s)) ∧ Below w.heap.size w w' := by
  have HT := Aside0.mk ht
  have HS := Aside0.mk hs
  have HB := Aside0.mk (below_alloc (Below.refl w.heap.size w) (.cells #[.int .i64 a, .int .i64 d, .string s] 64))
  have HC := Aside0.mk (cut_le t a d)
  obtain ⟨k, hk⟩ : ∃ k, cutAt t a = k := ⟨_, rfl⟩
  obtain ⟨n, hn⟩ : ∃ n, cutDel t a d = n := ⟨_, rfl⟩
  have HK := Aside0.mk hk
  have HN := Aside0.mk hn
  rw [show behind t a d s = t.extract 0 k ++ s ++ t.extract (k + n) t.size by rw [← hk, ← hn]; rfl]
  rw [hk, hn] at HC
  clear ht hs hk hn
  go_enter Try.func30, Try.ntmps30
  go_upto_if 10 with fail
  go_cut [5] (fun v wx => v = .int .i64 (if a < 0 then 0 else a) ∧ wx = w.alloc (.cells #[.int .i64 a, .int .i64 d, .string s] 64))
  case first =>
    by_cases h0 : a < 0
    · have d0 : decide (a < 0) = true := decide_eq_true h0
      go_wp2
      go_meet
      case rel => exact ⟨by rw [if_pos h0], rfl⟩
    · have d0 : decide (a < 0) = false := decide_eq_false h0
      go_wp2
      go_meet
      case rel => exact ⟨by rw [if_neg (by omega)], rfl⟩
  case rest =>
  obtain ⟨rfl, rfl⟩ := hcut
  obtain ⟨m, hm⟩ : ∃ m : Int, (if a < 0 then 0 else a) = m := ⟨_, rfl⟩
  have hmk : (if (t.size : Int) < m then (t.size : Int) else m) = k := by
    rw [← HK.out, ← hm]; unfold cutAt clampN; (repeat' split) <;> omega
  rw [hm]
  have HMK := Aside0.mk hmk
  clear hm hmk
  go_upto_if 14 with fail
  go_cut [5] (fun v wx => v = .int .i64 (k : Int) ∧ wx = w.alloc (.cells #[.int .i64 a, .int .i64 d, .string s] 64))
  case first =>
    by_cases h0 : (t.size : Int) < m
    · have d0 : decide ((t.size : Int) < m) = true := decide_eq_true h0
      go_wp2
      go_meet
      case rel => exact ⟨by rw [← HMK.out, if_pos h0], rfl⟩
    · have d0 : decide ((t.size : Int) < m) = false := decide_eq_false h0
      go_wp2
      go_meet
      case rel => exact ⟨by rw [← HMK.out, if_neg (by omega)], rfl⟩
  case rest =>
  obtain ⟨rfl, rfl⟩ := hcut
  clear HMK
  go_upto_if 20 with fail
  go_cut [6] (fun v wx => v = .int .i64 (if d < 0 then 0 else d) ∧ wx = w.alloc (.cells #[.int .i64 a, .int .i64 d, .string s] 64))
  case first =>
    by_cases h0 : d < 0
    · have d0 : decide (d < 0) = true := decide_eq_true h0
      go_wp2
      go_meet
      case rel => exact ⟨by rw [if_pos h0], rfl⟩
    · have d0 : decide (d < 0) = false := decide_eq_false h0
      go_wp2
      go_meet
      case rel => exact ⟨by rw [if_neg (by omega)], rfl⟩
  case rest =>
  obtain ⟨rfl, rfl⟩ := hcut
  obtain ⟨m2, hm⟩ : ∃ m : Int, (if d < 0 then 0 else d) = m := ⟨_, rfl⟩
  have hkt := HC.out
  have htt := HT.out
  have hss := HS.out
  have hmk : (if (t.size : Int) - k < m2 then (t.size : Int) - k else m2) = n := by
    rw [← HN.out, ← hm]; unfold cutDel; rw [HK.out]; (repeat' split) <;> omega
  rw [hm]
  have HMK := Aside0.mk hmk
  clear hm hmk
  go_upto_if 26 with fail
  go_cut [6] (fun v wx => v = .int .i64 (n : Int) ∧ wx = w.alloc (.cells #[.int .i64 a, .int .i64 d, .string s] 64))
  case first =>
    by_cases h0 : (t.size : Int) - k < m2
    · have d0 : decide ((t.size : Int) - k < m2) = true := decide_eq_true h0
      go_wp2
      go_meet
      case rel => exact ⟨by rw [← HMK.out, if_pos h0], rfl⟩
    · have d0 : decide ((t.size : Int) - k < m2) = false := decide_eq_false h0
      go_wp2
      go_meet
      case rel => exact ⟨by rw [← HMK.out, if_neg (by omega)], rfl⟩
  case rest =>
  obtain ⟨rfl, rfl⟩ := hcut
  clear HMK
  go_wp2_with fail
  go_quiet (fail)
  go_wp2
  go_ret
  exact ⟨rfl, pw_below_drewN HB.out _⟩
end Go.Proofs.Ytgefbbdahhoglaa.PT
