/- Symbols, both ways: of every list of nodes. -/
import Derived.Test.YtknagjiipelfnaaRSyms
namespace Go.Proofs.Ytknagjiipelfnaa.OL
open Go.RowKit Go.WideShapes Go.ChangeShapes Go.Proofs.YtknagjiipelfnaaW.PrintWords Go.Proofs.YtknagjiipelfnaaW.PrintLast Go.Proofs.YtknagjiipelfnaaW.PrintMore Go.Proofs.Ytknagjiipelfnaa.PAll
set_option linter.unusedVariables false

/-- What Symbols tells of whatever nodes. -/
def symsA (ms : List Mk) (t : List S50) (text : ByteArray) : List S84 := match gr t 0 with | some F => (if rightF t text = true then symsF ms t F text else []) | none => []
theorem symsA_no {ms : List Mk} {t : List S50} {text : ByteArray} (h : rightF t text = false) : symsA ms t text = [] := by
  unfold symsA
  cases gr t 0 with
  | none => rfl
  | some F => simp [h]
theorem right_fo {t : List S50} {text : ByteArray} (h : rightF t text = true) : ∃ F, gr t 0 = some F := by
  unfold rightF at h
  rw [Bool.and_eq_true] at h
  exact Option.isSome_iff_exists.1 h.2
theorem symsA_yes {ms : List Mk} {t : List S50} {text : ByteArray} {F : List S143} (h : rightF t text = true) (hF : gr t 0 = some F) : symsA ms t text = symsF ms t F text := by
  unfold symsA
  rw [hF]
  simp [h]
set_option maxRecDepth 100000 in
set_option maxHeartbeats 4000000 in
theorem OSymbolsA_calls (vF : Value) (A M : Option Addr) (c cm : Nat) (t : List S50) (ms : List Mk) (text : ByteArray) (w : World) (hr : Kd.C k50 w A t.length t) (hc : t.length ≤ c) (hl : t.length ≤ 1048576) (hk : ∀ x ∈ t, x.f5 ≤ 9223372036854775807)
    (hm : Kd.C k129 w M ms.length ms) (hmc : ms.length ≤ cm) (hml : ms.length ≤ 1048576) :
    Calls Try.prog 11 #[.agg (langC vF (.slice M ms.length cm)), .slice A t.length c, .string text] w fun e w' => ∃ v, e = .returned v ∧ k84.R 84 w' w.heap.size (fun _ => True) v (symsA ms t text) ∧ Below w.heap.size w w' := by
  cases hR : rightF t text with
  | true =>
    obtain ⟨F, hF⟩ := right_fo hR
    rw [symsA_yes hR hF]
    exact OSymbols_calls vF A M c cm t F ms text w (gr_fo hF) hR hr hc hl hk hm hmc hml
  | false =>
    rw [symsA_no hR]
    have HRt := Aside0.mk hR
    have HRw := Aside0.mk hr
    have HP := Aside0.mk (And.intro hc (And.intro hl hk))
    obtain ⟨oL, hoL⟩ : ∃ o : Obj, o = .cells (langC vF (.slice M ms.length cm)) 45 (0, 0) := ⟨_, rfl⟩
    have hba : Below w.heap.size w (w.alloc oL) := below_alloc (Below.refl _ _) _
    have HB := Aside0.mk hba
    clear hR hr hm hc hl hk hmc hml hba
    go_enter Try.func11, Try.ntmps11
    go_upto_region 1 with fail
    rw [← hoL]
    clear hoL
    generalize w.alloc oL = w0 at HB ⊢
    go_wp2_with fail
    refine (ORight_calls A c t text w0 (Kd.C_below HRw.out HB.out) HP.out.1 HP.out.2.1 HP.out.2.2).mono ?_
    rintro e w1 ⟨rfl, hB⟩
    rw [HRt.out]
    have HB1 := Aside0.mk (below_then HB.out HB.out.size hB)
    clear hB HB
    go_wp2_with fail
    go_ret
    exact ⟨_, rfl, Kd.R_nil _ _ _ _ _, HB1.out⟩
set_option maxRecDepth 100000 in
set_option maxHeartbeats 4000000 in
theorem RSymbolsA_calls (vF : Value) (A M : Option Addr) (c cm : Nat) (t : List S50) (ms : List Mk) (text : ByteArray) (w : World) (hr : Kd.C k50 w A t.length t) (hc : t.length ≤ c) (hl : t.length ≤ 1048576)
    (hm : Kd.C k129 w M ms.length ms) (hmc : ms.length ≤ cm) (hml : ms.length ≤ 1048576) :
    Calls Try.prog 14 #[.agg (langC vF (.slice M ms.length cm)), .slice A t.length c, .string text] w fun e w' => ∃ v, e = .returned v ∧ k84.R 84 w' w.heap.size (fun _ => True) v (symsA ms t text) ∧ Below w.heap.size w w' := by
  cases hR : rightF t text with
  | true =>
    obtain ⟨F, hF⟩ := right_fo hR
    rw [symsA_yes hR hF]
    exact RSymbols_calls vF A M c cm t F ms text w (gr_fo hF) hR hr hc hl hm hmc hml
  | false =>
    rw [symsA_no hR]
    have HRt := Aside0.mk hR
    have HRw := Aside0.mk hr
    have HP := Aside0.mk (And.intro hc hl)
    obtain ⟨oL, hoL⟩ : ∃ o : Obj, o = .cells (langC vF (.slice M ms.length cm)) 45 (0, 0) := ⟨_, rfl⟩
    have hba : Below w.heap.size w (w.alloc oL) := below_alloc (Below.refl _ _) _
    have HB := Aside0.mk hba
    clear hR hr hm hc hl hmc hml hba
    go_enter Try.func14, Try.ntmps14
    go_upto_region 1 with fail
    rw [← hoL]
    clear hoL
    generalize w.alloc oL = w0 at HB ⊢
    go_wp2_with fail
    refine (RRight_calls A c t text w0 (Kd.C_below HRw.out HB.out) HP.out.1 HP.out.2).mono ?_
    rintro e w1 ⟨rfl, hB⟩
    rw [HRt.out]
    have HB1 := Aside0.mk (below_then HB.out HB.out.size hB)
    clear hB HB
    go_wp2_with fail
    go_ret
    exact ⟨_, rfl, Kd.R_nil _ _ _ _ _, HB1.out⟩
/-! ### equal lists are the same; a copy with room -/
theorem same_go {xs : List S84} (hl : xs.length ≤ 1048576) : ∀ d i, xs.length - i = d → i ≤ xs.length → ∃ k, trellislaw22_sameSymbols.l0 k xs xs (i : Int) = some true := by
  intro d
  induction d with
  | zero =>
    intro i hd hi
    exact ⟨1, by rw [trellislaw22_sameSymbols.l0, if_neg (by omega)]⟩
  | succ d ih =>
    intro i hd hi
    obtain ⟨k, hk⟩ := ih (i + 1) (by omega) (by omega)
    refine ⟨k + 1, ?_⟩
    have e : wrap64 ((i : Int) + 1) = ((i + 1 : Nat) : Int) := (w64 (by omega) (by omega)).trans (by omega)
    rw [trellislaw22_sameSymbols.l0, if_pos (by omega), if_pos (by omega), if_pos (by omega), e, hk]
    simp
theorem same_f {xs : List S84} (hl : xs.length ≤ 1048576) : ∃ k, trellislaw22_sameSymbols.f k xs xs = some true := by
  obtain ⟨k, hk⟩ := same_go hl xs.length 0 rfl (Nat.zero_le _)
  exact ⟨k, by rw [trellislaw22_sameSymbols.f, if_pos rfl]; exact hk⟩
def mark77 : S50 := ⟨⟨#[]⟩, false, ⟨#[]⟩, 0, 0, -77, 0⟩
theorem roomy_f {t : List S50} (hl : t.length ≤ 1048576) : trellislaw22_roomy.f t = some (t ++ [mark77, mark77]) := by
  rw [trellislaw22_roomy.f, if_pos (by simp; omega)]
  simp only [Option.bind_some, List.nil_append]
  rw [if_pos (by simp; omega)]
  rfl
end Go.Proofs.Ytknagjiipelfnaa.OL
