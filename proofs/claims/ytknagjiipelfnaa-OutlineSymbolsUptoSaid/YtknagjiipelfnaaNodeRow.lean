/- A row of nodes of a call's own, whose names are written over. -/
import Derived.Test.YtknagjiipelfnaaSpared
namespace Go.Proofs.Ytknagjiipelfnaa.OL
open Go.RowKit Go.WideShapes Go.ChangeShapes Go.Proofs.YtknagjiipelfnaaW.PrintWords Go.Proofs.YtknagjiipelfnaaW.PrintLast Go.Proofs.YtknagjiipelfnaaW.PrintMore Go.Proofs.Ytknagjiipelfnaa.PAll
set_option linter.unusedVariables false

abbrev RN (w : World) (b : Nat) (v : Value) (xs : List S50) : Prop := k50.R 50 w b (fun _ => True) v xs
theorem RN.cells {w : World} {b n c g : Nat} {xs : List S50} (h : RN w b (.slice (some ⟨g, 0, none⟩) n c) xs) (i : Nat) (hi : i < n) :
    w.cell? ⟨g, i * 7, none⟩ = some (.string (rd_T50 xs (i : Int)).f0) ∧ w.cell? ⟨g, i * 7 + 1, none⟩ = some (.bool (rd_T50 xs (i : Int)).f1) ∧ w.cell? ⟨g, i * 7 + 2, none⟩ = some (.string (rd_T50 xs (i : Int)).f2) ∧ w.cell? ⟨g, i * 7 + 3, none⟩ = some (.int .i64 (rd_T50 xs (i : Int)).f3) ∧ w.cell? ⟨g, i * 7 + 4, none⟩ = some (.int .i64 (rd_T50 xs (i : Int)).f4) ∧ w.cell? ⟨g, i * 7 + 5, none⟩ = some (.int .i64 (rd_T50 xs (i : Int)).f5) ∧ w.cell? ⟨g, i * 7 + 6, none⟩ = some (.int .i64 (rd_T50 xs (i : Int)).f6) := by
  have hr := (Kd.R_reads' h)
  obtain ⟨ad, he, h0, h1, h2, h3, h4, h5, h6⟩ := at_T50 hr.2.2 (i : Int) (by omega) (by omega)
  injection he with he
  subst he
  have e : (⟨g, 0, none⟩ : Addr).add (i * 7) = ⟨g, i * 7, none⟩ := by
    unfold Addr.add
    split <;> simp_all
  rw [Int.toNat_natCast, e] at h0 h1 h2 h3 h4 h5 h6
  exact ⟨h0, h1, h2, h3, h4, h5, h6⟩
theorem RN.seven {W : World} {b g n c : Nat} {xs : List S50} (HR : RN W b (.slice (some ⟨g, 0, none⟩) n c) xs) (i : Nat) (hi : i < n) : ∀ j u, ([.string (rd_T50 xs (i : Int)).f0, .bool (rd_T50 xs (i : Int)).f1, .string (rd_T50 xs (i : Int)).f2, .int .i64 (rd_T50 xs (i : Int)).f3, .int .i64 (rd_T50 xs (i : Int)).f4, .int .i64 (rd_T50 xs (i : Int)).f5, .int .i64 (rd_T50 xs (i : Int)).f6] : List Value)[j]? = some u → W.cell? ⟨g, (i : Int).toNat * k50.sz + j, none⟩ = some u := by
  obtain ⟨z0, z1, z2, z3, z4, z5, z6⟩ := HR.cells i hi
  intro j u hj
  rw [Int.toNat_natCast]
  match j, hj with
  | 0, hj => injection hj with hj; subst hj; exact z0
  | 1, hj => injection hj with hj; subst hj; exact z1
  | 2, hj => injection hj with hj; subst hj; exact z2
  | 3, hj => injection hj with hj; subst hj; exact z3
  | 4, hj => injection hj with hj; subst hj; exact z4
  | 5, hj => injection hj with hj; subst hj; exact z5
  | 6, hj => injection hj with hj; subst hj; exact z6
  | j + 7, hj => simp at hj
/-- A name is written over. -/
theorem RN.putName {W : World} {b g n c : Nat} {xs : List S50} (HR : RN W b (.slice (some ⟨g, 0, none⟩) n c) xs) (i : Nat) (hi : i < n) (nm : ByteArray) :
    RN (W.setCell ⟨g, i * 7, none⟩ (.string nm)) b (.slice (some ⟨g, 0, none⟩) n c) (xs.set i { rd_T50 xs (i : Int) with f0 := nm }) ∧ W.grownBy (W.setCell ⟨g, i * 7, none⟩ (.string nm)) (some g) := by
  have h := Kd.R_seg (d := k50) HR (i : Int) (by omega) (by omega) (seg := [.string nm]) (j := 0) (x' := { rd_T50 xs (i : Int) with f0 := nm }) (okp := fun _ => False) rfl (HR.seven i hi) (show 1 ≤ 7 by decide) (k50_mkM _ _ _ { rd_T50 xs (i : Int) with f0 := nm }) (fun _ hk => hk.elim)
  rw [Int.toNat_natCast] at h
  exact h
/-- It is one that is named. -/
theorem RN.putNamed {W : World} {b g n c : Nat} {xs : List S50} (HR : RN W b (.slice (some ⟨g, 0, none⟩) n c) xs) (i : Nat) (hi : i < n) (q : Bool) :
    RN (W.setCell ⟨g, i * 7 + 1, none⟩ (.bool q)) b (.slice (some ⟨g, 0, none⟩) n c) (xs.set i { rd_T50 xs (i : Int) with f1 := q }) ∧ W.grownBy (W.setCell ⟨g, i * 7 + 1, none⟩ (.bool q)) (some g) := by
  have h := Kd.R_seg (d := k50) HR (i : Int) (by omega) (by omega) (seg := [.bool q]) (j := 1) (x' := { rd_T50 xs (i : Int) with f1 := q }) (okp := fun _ => False) rfl (HR.seven i hi) (show 2 ≤ 7 by decide) (k50_mkM _ _ _ { rd_T50 xs (i : Int) with f1 := q }) (fun _ hk => hk.elim)
  rw [Int.toNat_natCast] at h
  exact h
end Go.Proofs.Ytknagjiipelfnaa.OL
