/- outline.right, trellisref22.right: trees whose nodes' bytes lie within the text: the same. -/
import Derived.Test.YtknagjiipelfnaaTreeW
namespace Go.Proofs.Ytknagjiipelfnaa.OL
open Go.RowKit Go.WideShapes Go.ChangeShapes Go.Proofs.YtknagjiipelfnaaW.PrintWords Go.Proofs.YtknagjiipelfnaaW.PrintLast Go.Proofs.YtknagjiipelfnaaW.PrintMore Go.Proofs.Ytknagjiipelfnaa.PAll
set_option linter.unusedVariables false

def okN (text : ByteArray) (x : S50) : Bool := !(decide (x.f3 < 0) || decide (x.f4 < x.f3) || decide ((text.size : Int) < x.f4))
def rightF (t : List S50) (text : ByteArray) : Bool := t.all (okN text) && (gr t 0).isSome
theorem rootsF_pos (t : List S50) : decide (0 ≤ rootsF t) = (gr t 0).isSome := by
  unfold rootsF
  cases gr t 0 with
  | none => rfl
  | some F => exact decide_eq_true (Int.natCast_nonneg _)
set_option maxRecDepth 100000 in
set_option maxHeartbeats 4000000 in
theorem ORight_calls (A : Option Addr) (c : Nat) (t : List S50) (text : ByteArray) (w : World) (hr : Kd.C k50 w A t.length t) (hc : t.length ≤ c) (hl : t.length ≤ 1048576) (hk : ∀ x ∈ t, x.f5 ≤ 9223372036854775807) :
    Calls Try.prog 33 #[.slice A t.length c, .string text] w fun e w' => e = .returned (.bool (rightF t text)) ∧ Below w.heap.size w w' := by
  have HRw := Aside0.mk hr
  have HP := Aside0.mk (And.intro hc (And.intro hl hk))
  have HB0 := Aside0.mk (Below.refl w.heap.size w)
  clear hr hc hl hk
  go_enter Try.func33, Try.ntmps33
  go_wp2_with fail
  go_loopw [6, 9] (fun v6 v9 wr => ∃ i : Nat, v9 = .int .i64 (i : Int) ∧ i ≤ t.length ∧ Aside0 (rightF t text = ((t.drop i).all (okN text) && (gr t 0).isSome)) ∧ Aside0 (Below w.heap.size w wr)) (fun _ v9 _ => t.length - (intOf v9).toNat)
  case atStart => exact ⟨0, rfl, by omega, ⟨rfl⟩, HB0⟩
  case round =>
    obtain ⟨i, rfl, hi, HV, HB⟩ := hrel
    by_cases hlt : i < t.length
    · have e1 : decide ((i : Int) < (t.length : Int)) = true := decide_eq_true (by omega)
      have e2 : decide (i < t.length) = true := decide_eq_true hlt
      have e3 : (i : Int) < (t.length : Int) := by omega
      have hl := HP.out.2.1
      have hc := HP.out.1
      have e4 : IntKind.i64.wrap ((i : Int) + 1) = (i : Int) + 1 := (i64_w _).trans (w64 (by omega) (by omega))
      obtain ⟨ad, hA, y0, y1, y2, y3, y4, y5, y6⟩ := at_T50 (Kd.C_below HRw.out HB.out) (i : Int) (by omega) (by omega)
      rw [Int.toNat_natCast] at y0 y1 y2 y3 y4 y5 y6
      have hdr := drop_cons hlt
      obtain ⟨x, hx⟩ : ∃ x, rd_T50 t (i : Int) = x := ⟨_, rfl⟩
      rw [hx] at y0 y1 y2 y3 y4 y5 y6 hdr
      rw [hdr, List.all_cons] at HV
      have HLT := Aside0.mk hlt
      subst hA
      clear hx hi hlt hdr
      obtain ⟨oN, hoN⟩ : ∃ o : Obj, o = .cells #[.string x.f0, .bool x.f1, .string x.f2, .int .i64 x.f3, .int .i64 x.f4, .int .i64 x.f5, .int .i64 x.f6] 50 (0, 0) := ⟨_, rfl⟩
      go_upto_region 4 with fail
      rw [← hoN]
      have KN := (heap_alloc_new wr oN).trans (congrArg some hoN)
      have HB1 := Aside0.mk (below_then HB.out HB.out.size (below_alloc (Below.refl _ _) oN))
      clear hoN HB y0 y1 y2 y3 y4 y5 y6
      obtain ⟨gN, hgN⟩ : ∃ g, wr.heap.size = g := ⟨_, rfl⟩
      generalize wr.alloc oN = w2 at KN HB1 ⊢
      rw [hgN] at KN ⊢
      clear hgN
      have n3 : w2.cell? ⟨gN, 3, none⟩ = some (.int .i64 x.f3) := (blk_cell KN 3).trans rfl
      have n4 : w2.cell? ⟨gN, 4, none⟩ = some (.int .i64 x.f4) := (blk_cell KN 4).trans rfl
      clear KN
      by_cases h1 : x.f3 < 0
      · have d1 : decide (x.f3 < 0) = true := decide_eq_true h1
        have HW : Aside0 (rightF t text = false) := ⟨by rw [HV.out]; simp [okN, d1]⟩
        clear h1
        go_wp2_with fail
        go_ret
        exact ⟨by rw [HW.out]; rfl, HB1.out⟩
      · have d1 : decide (x.f3 < 0) = false := decide_eq_false h1
        by_cases h2 : x.f4 < x.f3
        · have d2 : decide (x.f4 < x.f3) = true := decide_eq_true h2
          have HW : Aside0 (rightF t text = false) := ⟨by rw [HV.out]; simp [okN, d2]⟩
          clear h1 h2
          go_wp2_with fail
          go_ret
          exact ⟨by rw [HW.out]; rfl, HB1.out⟩
        · have d2 : decide (x.f4 < x.f3) = false := decide_eq_false h2
          by_cases h3 : (text.size : Int) < x.f4
          · have d3 : decide ((text.size : Int) < x.f4) = true := decide_eq_true h3
            have HW : Aside0 (rightF t text = false) := ⟨by rw [HV.out]; simp [okN, d3]⟩
            clear h1 h2 h3
            go_wp2_with fail
            go_ret
            exact ⟨by rw [HW.out]; rfl, HB1.out⟩
          · have d3 : decide ((text.size : Int) < x.f4) = false := decide_eq_false h3
            have HW : Aside0 (rightF t text = ((t.drop (i + 1)).all (okN text) && (gr t 0).isSome)) := ⟨by rw [HV.out]; simp [okN, d1, d2, d3]⟩
            clear h1 h2 h3
            go_wp2_with fail
            go_roundw
            case measure => first | omega | (simp [intOf]; have := HLT.out; omega)
            case rel => exact ⟨i + 1, by congr 1, by have := HLT.out; omega, HW, HB1⟩
    · have e1 : decide ((i : Int) < (t.length : Int)) = false := decide_eq_false (by omega)
      have e2 : decide (i < t.length) = false := decide_eq_false hlt
      obtain rfl : i = t.length := by omega
      rw [List.drop_length] at HV
      clear hi hlt
      go_wp2_with fail
      refine (Roots_calls A c t wr (Kd.C_below HRw.out HB.out) HP.out.1 (by have := HP.out.2.1; omega) HP.out.2.2).mono ?_
      rintro e w2 ⟨rfl, hB⟩
      have hrp := rootsF_pos t
      have HB2 := Aside0.mk (below_then HB.out HB.out.size hB)
      obtain ⟨r, hr⟩ : ∃ r, rootsF t = r := ⟨_, rfl⟩
      rw [hr] at hrp ⊢
      obtain ⟨b, hb⟩ : ∃ b, (gr t 0).isSome = b := ⟨_, rfl⟩
      rw [hb] at hrp HV
      clear hr hb hB
      go_wp2_with fail
      go_ret
      exact ⟨by rw [HV.out]; rfl, HB2.out⟩
end Go.Proofs.Ytknagjiipelfnaa.OL
