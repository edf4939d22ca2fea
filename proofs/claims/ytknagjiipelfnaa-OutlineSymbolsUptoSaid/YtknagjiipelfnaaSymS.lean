/- outline.Symbols: what lies about in one round; what is told. -/
import Derived.Test.YtknagjiipelfnaaOSym
namespace Go.Proofs.Ytknagjiipelfnaa.OL
open Go.RowKit Go.WideShapes Go.ChangeShapes Go.Proofs.YtknagjiipelfnaaW.PrintWords Go.Proofs.YtknagjiipelfnaaW.PrintLast Go.Proofs.YtknagjiipelfnaaW.PrintMore Go.Proofs.Ytknagjiipelfnaa.PAll
set_option linter.unusedVariables false

structure SyS (w wr : World) (gL : Nat) (vF vM vo va : Value) (outs : List S84) (S : List Int) : Prop where
  kl : wr.heap[gL]? = some (.cells (langC vF vM) 45 (0, 0))
  o : k84.R 84 wr w.heap.size (fun _ => True) vo outs
  a : RI wr w.heap.size va S.reverse
  b : Below w.heap.size w wr
section
variable {w wr w1 : World} {gL : Nat} {vF vM vo va : Value} {outs : List S84} {S : List Int}
theorem SyS.moved (h : SyS w wr gL vF vM vo va outs S) (hb : Below wr.heap.size wr w1) : SyS w w1 gL vF vM vo va outs S :=
  ⟨(hb.block _ (blk_lt h.kl)).trans h.kl, Kd.R_below h.o hb, h.a.below hb, below_then h.b h.b.size hb⟩
theorem SyS.cut {A : Option Addr} {n c : Nat} {e : Int} (h : SyS w wr gL vF vM vo (.slice A n c) outs (e :: S)) : SyS w wr gL vF vM vo (.slice A S.length c) outs S := by
  refine ⟨h.kl, h.o, ?_, h.b⟩
  have h2 := h.a.take S.length (by simp)
  rw [List.reverse_cons, List.take_append_of_le_length (by simp), List.take_of_length_le (by simp)] at h2
  exact h2
theorem SyS.appO {vo1 : Value} {outs1 : List S84} (h : SyS w wr gL vF vM vo va outs S) (ho : k84.R 84 w1 w.heap.size (fun _ => True) vo1 outs1) (hb : Below w.heap.size w w1) (hg : wr.grownBy w1 vo.ownBlock) : SyS w w1 gL vF vM vo1 va outs1 S := by
  refine ⟨blk_grown h.kl hg (Kd.R_ne h.o h.kl (by decide)), ho, h.a.keep hg (fun k hk e => ?_), hb⟩
  obtain ⟨c1, h1⟩ := h.a.typed hk
  obtain ⟨c2, h2⟩ := Kd.R_typed h.o k e.symm
  rw [h1] at h2
  injection h2 with h2
  injection h2 with _ h3
  cases h3
theorem SyS.appA {va1 : Value} {S1 : List Int} (h : SyS w wr gL vF vM vo va outs S) (ho : RI w1 w.heap.size va1 S1.reverse) (hb : Below w.heap.size w w1) (hg : wr.grownBy w1 va.ownBlock) : SyS w w1 gL vF vM vo va1 outs S1 := by
  refine ⟨(hg.block _ (blk_lt h.kl) (fun e => ?_)).trans h.kl, Kd.R_over' h.o (e' := 3) (fun k hk => h.a.typed hk) (fun q hq => ?_) hg, ho, hb⟩
  · obtain ⟨cur, hc⟩ := h.a.typed e.symm
    exact ty_ne h.kl hc (by decide) rfl
  · intro e
    subst e
    rcases List.mem_cons.1 hq with hq | hq
    · cases hq
    · cases hq
end
/-- The bytes of a text from a place on, up to a place. -/
def cutB (text : ByteArray) (a b : Int) : ByteArray := text.extract a.toNat b.toNat
/-- One symbol. -/
def mkSym (t : List S50) (text : ByteArray) (o : Nat × Int × Nat) : S84 := ⟨(rd_T50 t (o.1 : Int)).f0, cutB text (rd_T50 t o.2.1).f3 (rd_T50 t o.2.1).f4, (rd_T50 t (o.1 : Int)).f3, (rd_T50 t (o.1 : Int)).f4, (o.2.2 : Int)⟩
def enF (F : List S143) (i : Nat) : Int := (enL F).getD i 0
/-- What Symbols tells of a forest. -/
def symsF (ms : List Mk) (t : List S50) (F : List S143) (text : ByteArray) : List S84 := (runS (symK ms t F) (enF F) t.length 0 []).1.map (mkSym t text)
theorem popA_len (i : Nat) : ∀ S : List Int, (popA i S).length ≤ S.length := by
  intro S
  induction S with
  | nil => exact Nat.le_refl _
  | cons e S ih =>
    simp only [popA]
    split
    · have := ih; simp; omega
    · exact Nat.le_refl _
theorem symK_in {ms : List Mk} {t : List S50} {F : List S143} (h : Fo t 0 F) {i : Nat} (hi : i < t.length) {k : Int} (hk : symK ms t F i = some k) : 0 ≤ k ∧ k < (t.length : Int) := by
  unfold symK at hk
  split at hk
  · split at hk
    · cases hk
    · unfold kidK at hk
      exact kids_in h hi k (List.mem_of_find?_eq_some hk)
  · cases hk
theorem right_at {t : List S50} {text : ByteArray} (h : rightF t text = true) {k : Int} (h0 : 0 ≤ k) (h1 : k < (t.length : Int)) : 0 ≤ (rd_T50 t k).f3 ∧ (rd_T50 t k).f3 ≤ (rd_T50 t k).f4 ∧ (rd_T50 t k).f4 ≤ (text.size : Int) := by
  unfold rightF at h
  rw [Bool.and_eq_true, List.all_eq_true] at h
  have hm : rd_T50 t k ∈ t := by
    unfold rd_T50
    rw [List.getD_eq_getElem?_getD, List.getElem?_eq_getElem (by omega)]
    exact List.getElem_mem _
  have h2 := h.1 _ hm
  unfold okN at h2
  simp only [Bool.not_eq_true', Bool.or_eq_false_iff, decide_eq_false_iff_not] at h2
  omega
theorem enF_size {t : List S50} {F : List S143} (h : Fo t 0 F) {i : Nat} (hi : i < t.length) : (i : Int) ≤ enF F i ∧ enF F i ≤ (t.length : Int) := by
  obtain ⟨x, ks, K, hx, hnd, hfk, hen, hle, hin⟩ := h.node i hi
  unfold enF
  rw [List.getD_eq_getElem?_getD, hen]
  simp only [Option.getD_some]
  omega
end Go.Proofs.Ytknagjiipelfnaa.OL
