/- reuse: the document's model: where a leaf begins, whether it stays, whether it moves. -/
import Derived.Test.YtknagjiipelfnaaRight
import Derived.Deep.QuietTactic
import Derived.BigQuiet
namespace Go.Proofs.Ytknagjiipelfnaa.RU
open Go.RowKit Go.WideShapes Go.ChangeShapes Go.Proofs.YtknagjiipelfnaaW.PrintWords Go.Proofs.YtknagjiipelfnaaW.PrintLast Go.Proofs.YtknagjiipelfnaaW.PrintMore Go.Proofs.Ytknagjiipelfnaa.PAll
set_option linter.unusedVariables false

/-- where a leaf begins -/
def begN (ls : List S68) : Nat → Int
  | 0 => 0
  | k + 1 => begN ls k + (rd_T68 ls (k : Int)).f1 + (rd_T68 ls (k : Int)).f2
structure MOk (ls : List S68) (a d s : Int) : Prop where
  f : ∀ k, k < ls.length → (0 ≤ (rd_T68 ls (k : Int)).f1 ∧ (rd_T68 ls (k : Int)).f1 ≤ 1048577) ∧ (0 ≤ (rd_T68 ls (k : Int)).f2 ∧ (rd_T68 ls (k : Int)).f2 ≤ 1048577) ∧ (0 ≤ (rd_T68 ls (k : Int)).f3 ∧ (rd_T68 ls (k : Int)).f3 ≤ 1048577)
  b : ∀ k, k ≤ ls.length → 0 ≤ begN ls k ∧ begN ls k ≤ 1048576
  a : 0 ≤ a ∧ a ≤ 1048576
  d : 0 ≤ d ∧ d ≤ 1048576
  s : 0 ≤ s ∧ s ≤ 1048576
  l : ls.length ≤ 1048576
structure Mdl (w : World) (g : Nat) (A : Option Addr) (c : Nat) (ls : List S68) (a d s : Int) : Prop where
  k : w.heap[g]? = some (.cells #[.slice A ls.length c, .int .i64 a, .int .i64 d, .int .i64 s] 112 (0, 0))
  c : ls.length ≤ c
  r : Kd.C k68 w A ls.length ls
theorem Mdl.moved {w w1 : World} {g : Nat} {A : Option Addr} {c : Nat} {ls : List S68} {a d s : Int} (h : Mdl w g A c ls a d s) (hb : Below w.heap.size w w1) : Mdl w1 g A c ls a d s := ⟨(hb.block _ (blk_lt h.k)).trans h.k, h.c, Kd.C_below h.r hb⟩
theorem below_drews {w : World} (m : Nat) : Below w.heap.size w (w.drewN m) := (Drawn0.below ⟨m, rfl⟩)
set_option maxRecDepth 100000 in
set_option maxHeartbeats 4000000 in
theorem begins_calls (g : Nat) (A : Option Addr) (c : Nat) (ls : List S68) (a d s : Int) (i : Nat) (w : World) (hM : Mdl w g A c ls a d s) (hO : MOk ls a d s) (hi : i ≤ ls.length) :
    Calls Try.prog 48 #[.pointer (some ⟨g, 0, none⟩), .int .i64 (i : Int)] w fun e w' => e = .returned (.int .i64 (begN ls i)) ∧ ∃ m, w' = w.drewN m := by
  have HM := Aside0.mk hM
  have HO := Aside0.mk hO
  have HI := Aside0.mk hi
  clear hM hO hi
  go_enter Try.func48, Try.ntmps48
  go_wp2
  go_loopw [5, 6] (fun v5 v6 wr => ∃ k m : Nat, v5 = .int .i64 (begN ls k) ∧ v6 = .int .i64 (k : Int) ∧ k ≤ i ∧ wr = w.drewN m) (fun _ v6 _ => i - (intOf v6).toNat)
  case atStart => exact ⟨0, 0, rfl, rfl, by omega, rfl⟩
  case round =>
    obtain ⟨k, m, rfl, rfl, hk, rfl⟩ := hrel
    have p0 : w.cell? ⟨g, 0, none⟩ = some (.slice A ls.length c) := (blk_cell HM.out.k 0).trans rfl
    by_cases hlt : k < i
    · have e1 : decide ((k : Int) < (i : Int)) = true := decide_eq_true (by omega)
      have e2 : decide (k < i) = true := decide_eq_true hlt
      have hkl : k < ls.length := by have := HI.out; omega
      have e3 : (k : Int) < (ls.length : Int) := by omega
      obtain ⟨ad, hA, z0, z1, z2, z3, z4, z5⟩ := at_T68 HM.out.r (k : Int) (by omega) (by omega)
      rw [Int.toNat_natCast] at z0 z1 z2 z3 z4 z5
      have hb := HO.out.b k (by omega)
      have hb1 := HO.out.b (k + 1) (by omega)
      have hf := HO.out.f k hkl
      have hs : begN ls (k + 1) = begN ls k + (rd_T68 ls (k : Int)).f1 + (rd_T68 ls (k : Int)).f2 := rfl
      generalize rd_T68 ls (k : Int) = x at z0 z1 z2 z3 z4 z5 hf hs
      generalize begN ls k = y at hb hs ⊢
      have g1 : IntKind.i64.wrap (y + x.f1) = y + x.f1 := (i64_w _).trans (w64 (by omega) (by omega))
      have g2 : IntKind.i64.wrap (y + x.f1 + x.f2) = y + x.f1 + x.f2 := (i64_w _).trans (w64 (by omega) (by omega))
      have hl := HO.out.l
      have hc := HM.out.c
      have HS := Aside0.mk hs
      have HLT := Aside0.mk hlt
      clear hs hf hb hb1 hlt hk hkl
      go_wp2
      go_quiet (fail)
      go_wp2
      go_roundw
      case measure => first | omega | (simp [intOf]; have := HLT.out; omega)
      case rel => exact ⟨k + 1, m + nq, by rw [HS.out], by congr 1, by have := HLT.out; omega, rfl⟩
    · have e1 : decide ((k : Int) < (i : Int)) = false := decide_eq_false (by omega)
      have e2 : decide (k < i) = false := decide_eq_false hlt
      obtain rfl : k = i := by omega
      clear hlt hk
      go_wp2
      go_ret
      exact ⟨rfl, m, rfl⟩
theorem Mdl.drewN {w : World} {g : Nat} {A : Option Addr} {c : Nat} {ls : List S68} {a d s : Int} (h : Mdl w g A c ls a d s) (n : Nat) : Mdl (w.drewN n) g A c ls a d s := h.moved (below_drews n)
theorem begins_y (g : Nat) (A : Option Addr) (c : Nat) (ls : List S68) (a d s : Int) (i : Nat) (y : Int) (w : World) (hy : begN ls i = y) (hM : Mdl w g A c ls a d s) (hO : MOk ls a d s) (hi : i ≤ ls.length) :
    Calls Try.prog 48 #[.pointer (some ⟨g, 0, none⟩), .int .i64 (i : Int)] w fun e w' => e = .returned (.int .i64 y) ∧ ∃ m, w' = w.drewN m := by
  subst hy
  exact begins_calls g A c ls a d s i w hM hO hi
def stayB (ls : List S68) (a : Int) (i : Nat) : Bool := decide (begN ls i + (rd_T68 ls (i : Int)).f3 ≤ a)
def moveB (ls : List S68) (a d : Int) (i : Nat) : Bool := decide (a + d ≤ begN ls i)
set_option maxRecDepth 100000 in
set_option maxHeartbeats 4000000 in
theorem stays_calls (g : Nat) (A : Option Addr) (c : Nat) (ls : List S68) (a d s : Int) (i : Nat) (w : World) (hM : Mdl w g A c ls a d s) (hO : MOk ls a d s) (hi : i < ls.length) :
    Calls Try.prog 46 #[.pointer (some ⟨g, 0, none⟩), .int .i64 (i : Int)] w fun e w' => e = .returned (.bool (stayB ls a i)) ∧ ∃ m, w' = w.drewN m := by
  have HM := Aside0.mk hM
  have HO := Aside0.mk hO
  have HI := Aside0.mk hi
  have p0 : w.cell? ⟨g, 0, none⟩ = some (.slice A ls.length c) := (blk_cell hM.k 0).trans rfl
  have p1 : w.cell? ⟨g, 1, none⟩ = some (.int .i64 a) := (blk_cell hM.k 1).trans rfl
  obtain ⟨ad, hA, z0, z1, z2, z3, z4, z5⟩ := at_T68 hM.r (i : Int) (by omega) (by omega)
  rw [Int.toNat_natCast] at z0 z1 z2 z3 z4 z5
  have hb := hO.b i (by omega)
  have hf := hO.f i hi
  have ha := hO.a
  have hl := hO.l
  have hc := hM.c
  have e3 : (i : Int) < (ls.length : Int) := by omega
  have HE : Aside0 (stayB ls a i = decide (begN ls i + (rd_T68 ls (i : Int)).f3 ≤ a)) := ⟨rfl⟩
  obtain ⟨y, hy⟩ : ∃ y, begN ls i = y := ⟨_, rfl⟩
  obtain ⟨x3, hx3⟩ : ∃ x3, (rd_T68 ls (i : Int)).f3 = x3 := ⟨_, rfl⟩
  rw [hy] at hb
  rw [hx3] at hf
  rw [hy, hx3] at HE
  rw [hx3] at z3
  have g1 : IntKind.i64.wrap (y + x3) = y + x3 := (i64_w _).trans (w64 (by omega) (by omega))
  have HY := Aside0.mk hy
  obtain ⟨b, hb2⟩ : ∃ b, decide (y + x3 ≤ a) = b := ⟨_, rfl⟩
  rw [hb2] at HE
  clear hM hO hi hb hf ha hy hx3
  go_enter Try.func46, Try.ntmps46
  go_wp2
  go_quiet ((go_at_call 48; exact Calls.quiet_of (begins_y g A c ls a d s i _ _ HY.out (HM.out.drewN _) HO.out (Nat.le_of_lt HI.out))))
  go_wp2
  go_ret
  exact ⟨by rw [HE.out]; rfl, nq, rfl⟩
set_option maxRecDepth 100000 in
set_option maxHeartbeats 4000000 in
theorem moves_calls (g : Nat) (A : Option Addr) (c : Nat) (ls : List S68) (a d s : Int) (i : Nat) (w : World) (hM : Mdl w g A c ls a d s) (hO : MOk ls a d s) (hi : i < ls.length) :
    Calls Try.prog 47 #[.pointer (some ⟨g, 0, none⟩), .int .i64 (i : Int)] w fun e w' => e = .returned (.bool (moveB ls a d i)) ∧ ∃ m, w' = w.drewN m := by
  have HM := Aside0.mk hM
  have HO := Aside0.mk hO
  have HI := Aside0.mk hi
  have p1 : w.cell? ⟨g, 1, none⟩ = some (.int .i64 a) := (blk_cell hM.k 1).trans rfl
  have p2 : w.cell? ⟨g, 2, none⟩ = some (.int .i64 d) := (blk_cell hM.k 2).trans rfl
  have hb := hO.b i (by omega)
  have ha := hO.a
  have hd := hO.d
  have HE : Aside0 (moveB ls a d i = decide (a + d ≤ begN ls i)) := ⟨rfl⟩
  obtain ⟨y, hy⟩ : ∃ y, begN ls i = y := ⟨_, rfl⟩
  rw [hy] at hb HE
  have g1 : IntKind.i64.wrap (a + d) = a + d := (i64_w _).trans (w64 (by omega) (by omega))
  have HY := Aside0.mk hy
  obtain ⟨b, hb2⟩ : ∃ b, decide (a + d ≤ y) = b := ⟨_, rfl⟩
  rw [hb2] at HE
  clear hM hO hi hb ha hd hy
  go_enter Try.func47, Try.ntmps47
  go_wp2
  go_quiet ((go_at_call 48; exact Calls.quiet_of (begins_y g A c ls a d s i _ _ HY.out (HM.out.drewN _) HO.out (Nat.le_of_lt HI.out))))
  go_wp2
  go_ret
  exact ⟨by rw [HE.out]; rfl, nq, rfl⟩
theorem stays_y (g : Nat) (A : Option Addr) (c : Nat) (ls : List S68) (a d s : Int) (i : Nat) (y : Bool) (w : World) (hy : stayB ls a i = y) (hM : Mdl w g A c ls a d s) (hO : MOk ls a d s) (hi : i < ls.length) :
    Calls Try.prog 46 #[.pointer (some ⟨g, 0, none⟩), .int .i64 (i : Int)] w fun e w' => e = .returned (.bool y) ∧ ∃ m, w' = w.drewN m := by
  subst hy
  exact stays_calls g A c ls a d s i w hM hO hi
theorem moves_y (g : Nat) (A : Option Addr) (c : Nat) (ls : List S68) (a d s : Int) (i : Nat) (y : Bool) (w : World) (hy : moveB ls a d i = y) (hM : Mdl w g A c ls a d s) (hO : MOk ls a d s) (hi : i < ls.length) :
    Calls Try.prog 47 #[.pointer (some ⟨g, 0, none⟩), .int .i64 (i : Int)] w fun e w' => e = .returned (.bool y) ∧ ∃ m, w' = w.drewN m := by
  subst hy
  exact moves_calls g A c ls a d s i w hM hO hi
end Go.Proofs.Ytknagjiipelfnaa.RU
