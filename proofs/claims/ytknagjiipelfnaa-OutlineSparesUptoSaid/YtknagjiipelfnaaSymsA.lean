/- outline.Symbols of every list of nodes. -/
import Derived.Test.YtknagjiipelfnaaOSyms
namespace Go.Proofs.Ytknagjiipelfnaa.OL
open Go.RowKit Go.WideShapes Go.ChangeShapes Go.Proofs.YtknagjiipelfnaaW.PrintWords Go.Proofs.YtknagjiipelfnaaW.PrintLast Go.Proofs.YtknagjiipelfnaaW.PrintMore Go.Proofs.Ytknagjiipelfnaa.PAll
set_option linter.unusedVariables false

/-- What Symbols tells of whatever nodes. -/
def symsA (ms : List Mk) (t : List S50) (text : ByteArray) : List S84 := match gr t 0 with | some F => (if rightF t text = true then symsF ms t F text else []) | none => []
theorem symsA_no {ms : List Mk} {t : List S50} {text : ByteArray} (h : rightF t text = false) : symsA ms t text = [] := by
  unfold symsA
  cases gr t 0 with
  | none => rfl
  | some F => simp [h]
theorem right_fo {t : List S50} {text : ByteArray} (h : rightF t text = true) : ∃ F, gr t 0 = some F := by
  unfold rightF at h
  rw [Bool.and_eq_true] at h
  exact Option.isSome_iff_exists.1 h.2
theorem symsA_yes {ms : List Mk} {t : List S50} {text : ByteArray} {F : List S143} (h : rightF t text = true) (hF : gr t 0 = some F) : symsA ms t text = symsF ms t F text := by
  unfold symsA
  rw [hF]
  simp [h]
set_option maxRecDepth 100000 in
set_option maxHeartbeats 4000000 in
theorem OSymbolsA_calls (vF : Value) (A M : Option Addr) (c cm : Nat) (t : List S50) (ms : List Mk) (text : ByteArray) (w : World) (hr : Kd.C k50 w A t.length t) (hc : t.length ≤ c) (hl : t.length ≤ 1048576) (hk : ∀ x ∈ t, x.f5 ≤ 9223372036854775807)
    (hm : Kd.C k129 w M ms.length ms) (hmc : ms.length ≤ cm) (hml : ms.length ≤ 1048576) :
    Calls Try.prog 11 #[.agg (langC vF (.slice M ms.length cm)), .slice A t.length c, .string text] w fun e w' => ∃ v, e = .returned v ∧ k84.R 84 w' w.heap.size (fun _ => True) v (symsA ms t text) ∧ Below w.heap.size w w' := by
  cases hR : rightF t text with
  | true =>
    obtain ⟨F, hF⟩ := right_fo hR
    rw [symsA_yes hR hF]
    exact OSymbols_calls vF A M c cm t F ms text w (gr_fo hF) hR hr hc hl hk hm hmc hml
  | false =>
    rw [symsA_no hR]
    have HRt := Aside0.mk hR
    have HRw := Aside0.mk hr
    have HP := Aside0.mk (And.intro hc (And.intro hl hk))
    obtain ⟨oL, hoL⟩ : ∃ o : Obj, o = .cells (langC vF (.slice M ms.length cm)) 45 (0, 0) := ⟨_, rfl⟩
    have hba : Below w.heap.size w (w.alloc oL) := below_alloc (Below.refl _ _) _
    have HB := Aside0.mk hba
    clear hR hr hm hc hl hk hmc hml hba
    go_enter Try.func11, Try.ntmps11
    go_upto_region 1 with fail
    rw [← hoL]
    clear hoL
    generalize w.alloc oL = w0 at HB ⊢
    go_wp2_with fail
    refine (ORight_calls A c t text w0 (Kd.C_below HRw.out HB.out) HP.out.1 HP.out.2.1 HP.out.2.2).mono ?_
    rintro e w1 ⟨rfl, hB⟩
    rw [HRt.out]
    have HB1 := Aside0.mk (below_then HB.out HB.out.size hB)
    clear hB HB
    go_wp2_with fail
    go_ret
    exact ⟨_, rfl, Kd.R_nil _ _ _ _ _, HB1.out⟩
end Go.Proofs.Ytknagjiipelfnaa.OL
