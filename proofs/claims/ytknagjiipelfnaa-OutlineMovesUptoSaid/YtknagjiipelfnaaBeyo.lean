/- trellisref15.Beyond answers of every list of nodes. -/
import Derived.Test.YtknagjiipelfnaaSym
namespace Go.Proofs.Ytknagjiipelfnaa.OL
open Go.RowKit Go.WideShapes Go.ChangeShapes Go.Proofs.YtknagjiipelfnaaW.PrintWords Go.Proofs.YtknagjiipelfnaaW.PrintLast Go.Proofs.YtknagjiipelfnaaW.PrintMore Go.Proofs.Ytknagjiipelfnaa.PAll
set_option linter.unusedVariables false

theorem beyond_j2 {t : List S50} (hl : t.length ≤ 1048576) {i : Nat} (hi : i < t.length) (next : ∀ st : List Int, st.length ≤ i + 1 → ∃ k r, trellisref15_Beyond.l0 k t st ((i + 1 : Nat) : Int) = some r) (st : List Int) (hs : st.length ≤ i) : ∃ k r, trellisref15_Beyond.j2 k t st (i : Int) = some r := by
  have e : wrap64 ((i : Int) + 1) = ((i + 1 : Nat) : Int) := (w64 (by omega) (by omega)).trans (by omega)
  by_cases h : (st.length : Int) > 0
  · have e2 : wrap64 ((st.length : Int) - 1) = (st.length : Int) - 1 := w64 (by omega) (by omega)
    obtain ⟨k, r, hk⟩ := next (st.set ((st.length : Int) - 1).toNat (wrap64 (rd st ((st.length : Int) - 1) - 1)) ++ [(rd_T50 t (i : Int)).f5]) (by simp; omega)
    by_cases hb : (((st.set ((st.length : Int) - 1).toNat (wrap64 (rd st ((st.length : Int) - 1) - 1)) ++ [(rd_T50 t (i : Int)).f5]).length : Int) > 65536)
    · refine ⟨1, true, ?_⟩
      rw [trellisref15_Beyond.j2, if_pos h, e2, if_pos (by omega), if_pos (by omega), Option.bind_some, if_pos (by omega), if_pos (by omega), if_pos (by simp; omega), Option.bind_some, if_pos hb]
    · refine ⟨k + 1, r, ?_⟩
      rw [trellisref15_Beyond.j2, if_pos h, e2, if_pos (by omega), if_pos (by omega), Option.bind_some, if_pos (by omega), if_pos (by omega), if_pos (by simp; omega), Option.bind_some, if_neg hb, e]
      exact hk
  · obtain ⟨k, r, hk⟩ := next (st ++ [(rd_T50 t (i : Int)).f5]) (by simp; omega)
    by_cases hb : (((st ++ [(rd_T50 t (i : Int)).f5]).length : Int) > 65536)
    · refine ⟨1, true, ?_⟩
      rw [trellisref15_Beyond.j2, if_neg h, if_pos (by omega), if_pos (by omega), if_pos (by omega), Option.bind_some, if_pos hb]
    · refine ⟨k + 1, r, ?_⟩
      rw [trellisref15_Beyond.j2, if_neg h, if_pos (by omega), if_pos (by omega), if_pos (by omega), Option.bind_some, if_neg hb, e]
      exact hk
theorem beyond_l1 {t : List S50} (hl : t.length ≤ 1048576) {i : Nat} (hi : i < t.length) (next : ∀ st : List Int, st.length ≤ i + 1 → ∃ k r, trellisref15_Beyond.l0 k t st ((i + 1 : Nat) : Int) = some r) : ∀ m (st : List Int), st.length = m → m ≤ i → ∃ k r, trellisref15_Beyond.l1 k t st (i : Int) = some r := by
  intro m
  induction m with
  | zero =>
    intro st hm hmi
    obtain ⟨k, r, hk⟩ := beyond_j2 hl hi next st (by omega)
    exact ⟨k + 1, r, by rw [trellisref15_Beyond.l1, if_neg (by omega)]; exact hk⟩
  | succ m ih =>
    intro st hm hmi
    have e2 : wrap64 ((st.length : Int) - 1) = (st.length : Int) - 1 := w64 (by omega) (by omega)
    by_cases h : rd st ((st.length : Int) - 1) ≤ 0
    · obtain ⟨k, r, hk⟩ := ih (st.take ((st.length : Int) - 1).toNat) (by simp; omega) (by omega)
      exact ⟨k + 1, r, by rw [trellisref15_Beyond.l1, if_pos (by omega), e2, if_pos (by omega), if_pos (by omega), if_pos h, if_pos (by omega)]; exact hk⟩
    · obtain ⟨k, r, hk⟩ := beyond_j2 hl hi next st (by omega)
      exact ⟨k + 1, r, by rw [trellisref15_Beyond.l1, if_pos (by omega), e2, if_pos (by omega), if_pos (by omega), if_neg h]; exact hk⟩
theorem beyond_l0 {t : List S50} (hl : t.length ≤ 1048576) : ∀ d i (st : List Int), t.length - i = d → i ≤ t.length → st.length ≤ i → ∃ k r, trellisref15_Beyond.l0 k t st (i : Int) = some r := by
  intro d
  induction d with
  | zero =>
    intro i st hd hi hs
    exact ⟨1, false, by rw [trellisref15_Beyond.l0, if_neg (by omega)]⟩
  | succ d ih =>
    intro i st hd hi hs
    obtain ⟨k, r, hk⟩ := beyond_l1 hl (i := i) (by omega) (fun st2 h2 => ih (i + 1) st2 (by omega) (by omega) h2) _ st rfl hs
    exact ⟨k + 1, r, by rw [trellisref15_Beyond.l0, if_pos (by omega)]; exact hk⟩
theorem Beyond_calls (A : Option Addr) (c : Nat) (t : List S50) (w : World) (hr : Kd.C k50 w A t.length t) (hc : t.length ≤ c) (hl : t.length ≤ 1048576) : ∃ r, Calls Try.prog 9 #[.slice A t.length c] w fun e w' => e = .returned (.bool r) ∧ Below w.heap.size w w' := by
  obtain ⟨k, r, hk⟩ := beyond_l0 hl t.length 0 [] rfl (Nat.zero_le _) (Nat.le_refl _)
  exact ⟨r, trellisref15_Beyond.calls k A c t r w hr hc hk⟩
end Go.Proofs.Ytknagjiipelfnaa.OL
