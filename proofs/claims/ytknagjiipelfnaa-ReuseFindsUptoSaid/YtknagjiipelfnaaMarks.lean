/- trellislaw17.marks: the marks behind the leaves are as they were. -/
import Derived.Test.YtknagjiipelfnaaLent
namespace Go.Proofs.Ytknagjiipelfnaa.RU
open Go.RowKit Go.WideShapes Go.ChangeShapes Go.Proofs.YtknagjiipelfnaaW.PrintWords Go.Proofs.YtknagjiipelfnaaW.PrintLast Go.Proofs.YtknagjiipelfnaaW.PrintMore Go.Proofs.Ytknagjiipelfnaa.PAll
set_option linter.unusedVariables false

set_option maxRecDepth 100000 in
set_option maxHeartbeats 8000000 in
theorem marks_calls (A A4 : Option Addr) (c c4 : Nat) (xs : List S68) (w : World) (hC : Kd.C k68 w A (xs.length + 20) (xs ++ mks 20)) (hc : xs.length + 20 ≤ c) (hl : xs.length ≤ 1048576) :
    Calls Try.prog 18 #[.agg #[.int .i64 0, .int .i64 0, .int .u64 0, .slice A xs.length c, .slice A4 0 c4, .int .i64 0], .int .i64 (xs.length : Int)] w fun e w' => e = .returned (.bool true) ∧ Below w.heap.size w w' := by
  obtain ⟨oZ, hoZ⟩ : ∃ o : Obj, o = .cells #[.int .i64 0, .int .i64 0, .int .u64 0, .slice A xs.length c, .slice A4 0 c4, .int .i64 0] 60 (0, 0) := ⟨_, rfl⟩
  have hba : Below w.heap.size w (w.alloc oZ) := below_alloc (Below.refl _ _) _
  have KZ := Aside0.mk ((heap_alloc_new w oZ).trans (congrArg some hoZ))
  have HB := Aside0.mk hba
  have H0 := Aside0.mk (Kd.C_below hC hba)
  obtain ⟨m, hm⟩ : ∃ m, xs.length + 20 = m := ⟨_, rfl⟩
  rw [hm] at H0 hc
  have HP := Aside0.mk (And.intro hc (And.intro hl hm))
  obtain ⟨i022, hi022, _, hsz22, _⟩ := info_parts info68
  have hcut := cut_cap (P := Try.prog) 52 68 .i64 Try.underlying52 hi022 A xs.length c ((xs.length : Int) + 20) (by omega) (by omega)
  rw [show ((xs.length : Int) + 20).toNat = m by omega] at hcut
  have g0 : IntKind.i64.wrap ((xs.length : Int) + 20) = (xs.length : Int) + 20 := (i64_w _).trans (w64 (by omega) (by omega))
  clear hba hC hc hl hm hi022 hsz22
  go_enter Try.func18, Try.ntmps18
  go_upto_region 1 with fail
  rw [← hoZ]
  clear hoZ
  obtain ⟨gz, hgz⟩ : ∃ g, w.heap.size = g := ⟨_, rfl⟩
  generalize w.alloc oZ = w0 at KZ HB H0 ⊢
  rw [hgz] at KZ ⊢
  clear hgz
  have q3 : w0.cell? ⟨gz, 3, none⟩ = some (.slice A xs.length c) := (blk_cell KZ.out 3).trans rfl
  go_wp2_with fail
  clear hcut q3 g0 KZ
  go_loopw [6] (fun v6 wr => ∃ i : Nat, v6 = .int .i64 (i : Int) ∧ i ≤ 20 ∧ Aside0 (Kd.C k68 wr A m (xs ++ mks 20)) ∧ Aside0 (Below w.heap.size w wr)) (fun v6 _ => 20 - (intOf v6).toNat)
  case atStart => exact ⟨0, rfl, by omega, H0, HB⟩
  case round =>
    obtain ⟨i, rfl, hi, HC, HBr⟩ := hrel
    clear H0 HB
    by_cases hlt : i < 20
    · have e1 : decide ((i : Int) < 20) = true := decide_eq_true (by omega)
      have hp := HP.out
      obtain ⟨j, hj⟩ : ∃ j : Nat, xs.length + i = j := ⟨_, rfl⟩
      have g1 : IntKind.i64.wrap (900 + (i : Int)) = 900 + (i : Int) := (i64_w _).trans (w64 (by omega) (by omega))
      have g2 : IntKind.i64.wrap ((xs.length : Int) + (i : Int)) = (j : Int) := ((i64_w _).trans (w64 (by omega) (by omega))).trans (by omega)
      have g4 : IntKind.i64.wrap ((i : Int) + 1) = (i : Int) + 1 := (i64_w _).trans (w64 (by omega) (by omega))
      obtain ⟨ad, hA, z0, z1, z2, z3, z4, z5⟩ := at_T68 HC.out (j : Int) (by omega) (by omega)
      rw [← hj, mks_at xs i hlt, hj, Int.toNat_natCast] at z0 z1 z2 z3 z4 z5
      unfold mk at z0 z1 z2 z3 z4 z5
      have e2 : decide (j < m) = true := decide_eq_true (by omega)
      have e3 : (j : Int) < (m : Int) := by omega
      have e5 : decide ((j : Int) < (m : Int)) = true := decide_eq_true e3
      have HLT := Aside0.mk hlt
      subst hA
      clear hi hlt hj
      go_wp2_with fail
      go_roundw
      case measure => first | omega | (simp [intOf]; have := HLT.out; omega)
      case rel => exact ⟨i + 1, by congr 1, by have := HLT.out; omega, HC, HBr⟩
    · have e1 : decide ((i : Int) < 20) = false := decide_eq_false (by omega)
      clear hi hlt
      go_wp2_with fail
      go_ret
      exact ⟨rfl, HBr.out⟩
end Go.Proofs.Ytknagjiipelfnaa.RU
