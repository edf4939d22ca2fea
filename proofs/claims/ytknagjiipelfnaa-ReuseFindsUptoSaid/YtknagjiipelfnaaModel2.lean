/- reuse: the document's model: the state ahead of a leaf, how many stand. -/
import Derived.Test.YtknagjiipelfnaaModel
import Derived.Test.YtknagjiipelfnaaRBegin
namespace Go.Proofs.Ytknagjiipelfnaa.RU
open Go.RowKit Go.WideShapes Go.ChangeShapes Go.Proofs.YtknagjiipelfnaaW.PrintWords Go.Proofs.YtknagjiipelfnaaW.PrintLast Go.Proofs.YtknagjiipelfnaaW.PrintMore Go.Proofs.Ytknagjiipelfnaa.PAll
set_option linter.unusedVariables false

def aheadS (ls : List S68) : Nat → ByteArray
  | 0 => startB
  | k + 1 => (rd_T68 ls (k : Int)).f5
set_option maxRecDepth 100000 in
set_option maxHeartbeats 4000000 in
theorem ahead_calls (g : Nat) (A : Option Addr) (c : Nat) (ls : List S68) (a d s : Int) (i : Nat) (w : World) (hM : Mdl w g A c ls a d s) (hO : MOk ls a d s) (hi : i < ls.length) :
    Calls Try.prog 49 #[.pointer (some ⟨g, 0, none⟩), .int .i64 (i : Int)] w fun e w' => e = .returned (.string (aheadS ls i)) ∧ Below w.heap.size w w' := by
  have HB := Aside0.mk (Below.refl w.heap.size w)
  cases i with
  | succ k =>
    have p0 : w.cell? ⟨g, 0, none⟩ = some (.slice A ls.length c) := (blk_cell hM.k 0).trans rfl
    obtain ⟨ad, hA, z0, z1, z2, z3, z4, z5⟩ := at_T68 hM.r (k : Int) (by omega) (by omega)
    rw [Int.toNat_natCast] at z0 z1 z2 z3 z4 z5
    have HE : Aside0 (aheadS ls (k + 1) = (rd_T68 ls (k : Int)).f5) := ⟨rfl⟩
    obtain ⟨y, hy⟩ : ∃ y, (rd_T68 ls (k : Int)).f5 = y := ⟨_, rfl⟩
    rw [hy] at HE z5
    have hl := hO.l
    have hc := hM.c
    obtain ⟨j, hj⟩ : ∃ j : Int, ((k + 1 : Nat) : Int) = j := ⟨_, rfl⟩
    have e1 : decide (0 < j) = true := decide_eq_true (by omega)
    have e2 : IntKind.i64.wrap (j - 1) = (k : Int) := by rw [← hj]; exact (i64_w _).trans ((w64 (by omega) (by omega)).trans (by omega))
    have e3 : (k : Int) < (ls.length : Int) := by omega
    rw [hj]
    clear hy hM hO hi hj hl
    go_enter Try.func49, Try.ntmps49
    go_wp2_with fail
    go_ret
    exact ⟨by rw [HE.out]; rfl, HB.out⟩
  | zero =>
    clear hM hO hi
    go_enter Try.func49, Try.ntmps49
    go_wp2_with fail
    refine (RStart_calls _).mono ?_
    rintro e w1 ⟨rfl, hB⟩
    have HB1 := Aside0.mk (below_then HB.out HB.out.size hB)
    clear hB HB
    go_wp2_with fail
    refine (REncode_calls _).mono ?_
    rintro e w2 ⟨rfl, hB⟩
    have HB2 := Aside0.mk (below_then (below_alloc HB1.out C106) (Nat.le_trans HB1.out.size (by simp)) hB)
    clear hB HB1
    go_wp2_with fail
    go_ret
    exact ⟨rfl, HB2.out⟩
/-- how many of the first leaves stand -/
def standN (ls : List S68) (a d : Int) : Nat → Int
  | 0 => 0
  | k + 1 => standN ls a d k + (if (stayB ls a k || moveB ls a d k) = true then 1 else 0)
theorem standN_le (ls : List S68) (a d : Int) : ∀ k : Nat, 0 ≤ standN ls a d k ∧ standN ls a d k ≤ k := by
  intro k
  induction k with
  | zero => exact ⟨Int.le_refl _, Int.le_refl _⟩
  | succ k ih =>
    unfold standN
    split <;> omega
set_option maxRecDepth 100000 in
set_option maxHeartbeats 4000000 in
theorem MStanding_calls (g : Nat) (A : Option Addr) (c : Nat) (ls : List S68) (a d s : Int) (w : World) (hM : Mdl w g A c ls a d s) (hO : MOk ls a d s) :
    Calls Try.prog 22 #[.pointer (some ⟨g, 0, none⟩)] w fun e w' => e = .returned (.int .i64 (standN ls a d ls.length)) ∧ Below w.heap.size w w' := by
  have HM := Aside0.mk hM
  have HO := Aside0.mk hO
  clear hM hO
  go_enter Try.func22, Try.ntmps22
  go_wp2
  go_loopw [3, 4] (fun v3 v4 wr => ∃ k m : Nat, v3 = .int .i64 (standN ls a d k) ∧ v4 = .int .i64 (k : Int) ∧ k ≤ ls.length ∧ wr = w.drewN m) (fun _ v4 _ => ls.length - (intOf v4).toNat)
  case atStart => exact ⟨0, 0, rfl, rfl, by omega, rfl⟩
  case round =>
    obtain ⟨k, m, rfl, rfl, hk, rfl⟩ := hrel
    have p0 : w.cell? ⟨g, 0, none⟩ = some (.slice A ls.length c) := (blk_cell HM.out.k 0).trans rfl
    by_cases hlt : k < ls.length
    · have e1 : decide ((k : Int) < (ls.length : Int)) = true := decide_eq_true (by omega)
      have e2 : decide (k < ls.length) = true := decide_eq_true hlt
      have HLT := Aside0.mk hlt
      have hb := standN_le ls a d k
      have hl := HO.out.l
      have hs : standN ls a d (k + 1) = standN ls a d k + (if (stayB ls a k || moveB ls a d k) = true then 1 else 0) := rfl
      have g1 : IntKind.i64.wrap (standN ls a d k + 1) = standN ls a d k + 1 := (i64_w _).trans (w64 (by omega) (by omega))
      have HS := Aside0.mk hs
      have e4 : IntKind.i64.wrap ((k : Int) + 1) = (k : Int) + 1 := (i64_w _).trans (w64 (by omega) (by omega))
      clear hs hk hlt hb
      go_wp2_with fail
      refine (stays_calls g A c ls a d s k _ (HM.out.drewN m) HO.out HLT.out).mono ?_
      rintro e w1 ⟨rfl, m1, rfl⟩
      obtain ⟨b1, hb1⟩ : ∃ b, stayB ls a k = b := ⟨_, rfl⟩
      rw [hb1] at HS ⊢
      clear hb1
      cases b1
      · go_wp2_with fail
        refine (moves_calls g A c ls a d s k _ (HM.out.drewN (m + m1)) HO.out HLT.out).mono ?_
        rintro e w1 ⟨rfl, m2, rfl⟩
        obtain ⟨b2, hb2⟩ : ∃ b, moveB ls a d k = b := ⟨_, rfl⟩
        rw [hb2] at HS ⊢
        clear hb2
        cases b2
        · go_wp2_with fail
          go_roundw
          case measure => first | omega | (simp [intOf]; have := HLT.out; omega)
          case rel => exact ⟨k + 1, m + m1 + m2, by rw [HS.out]; simp, by congr 1, by have := HLT.out; omega, rfl⟩
        · go_wp2_with fail
          go_roundw
          case measure => first | omega | (simp [intOf]; have := HLT.out; omega)
          case rel => exact ⟨k + 1, m + m1 + m2, by rw [HS.out]; simp, by congr 1, by have := HLT.out; omega, rfl⟩
      · go_wp2_with fail
        go_roundw
        case measure => first | omega | (simp [intOf]; have := HLT.out; omega)
        case rel => exact ⟨k + 1, m + m1, by rw [HS.out]; simp, by congr 1, by have := HLT.out; omega, rfl⟩
    · have e1 : decide ((k : Int) < (ls.length : Int)) = false := decide_eq_false (by omega)
      have e2 : decide (k < ls.length) = false := decide_eq_false hlt
      obtain rfl : k = ls.length := by omega
      clear hlt hk
      go_wp2_with fail
      go_ret
      exact ⟨rfl, below_drews m⟩
end Go.Proofs.Ytknagjiipelfnaa.RU
