/- Folds: what the walks of both sides want: a fold that is stored into memory of its own, appends of folds, a node's rows. -/
import Derived.Test.YtknagjiipelfnaaFoldPure
import Derived.Test.YtknagjiipelfnaaPIx
import Derived.Test.YtknagjiipelfnaaSched2
namespace Go.Proofs.Ytknagjiipelfnaa.SO
open Go.RowKit Go.WideShapes Go.ChangeShapes Go.Proofs.YtknagjiipelfnaaW.PrintWords Go.Proofs.YtknagjiipelfnaaW.PrintLast Go.Proofs.YtknagjiipelfnaaW.PrintMore Go.Proofs.Ytknagjiipelfnaa.PAll Go.Proofs.Ytknagjiipelfnaa.Sched
set_option linter.unusedVariables false

theorem info82z : (Try.prog.info? 82).map (fun i => (i.zero, i.size, i.bytes)) = some (some (.agg #[.int .i64 0, .int .i64 0]), 2, 16) := by kernel_rfl
def fC (y : S82) : Obj := .cells #[.int .i64 y.f0, .int .i64 y.f1] 82 (0, 0)
def setF (w : World) (g : Nat) (x : S82) : World := (w.setCell ⟨g, 0, none⟩ (.int .i64 x.f0)).setCell ⟨g, 1, none⟩ (.int .i64 x.f1)
theorem setF_at {w : World} {g : Nat} {y : S82} (h : w.heap[g]? = some (fC y)) (x : S82) : (setF w g x).heap[g]? = some (fC x) :=
  (blk_set ((blk_set h 0 _).trans rfl) 1 _).trans rfl
theorem setF_far {w : World} {g k : Nat} (x : S82) (h : k ≠ g) : (setF w g x).heap[k]? = w.heap[k]? := by
  have e : ∀ (W : World) (j : Nat) (v : Value), (W.setCell ⟨g, j, none⟩ v).heap[k]? = W.heap[k]? := fun W j v => Below.heap_setCell W ⟨g, j, none⟩ v k h
  unfold setF
  rw [e, e]
def MvF (b : Nat) (x : S82) (w w' : World) : Prop := ∃ g, b ≤ g ∧ w' = setF w g x
def FF (b : Nat) : Fact := fun v w => ∃ g, v = .pointer (some ⟨g, 0, none⟩) ∧ b ≤ g ∧ ∃ y : S82, w.heap[g]? = some (fC y)
def GF (b : Nat) (x : S82) : Fact := fun v w => ∃ g, v = .pointer (some ⟨g, 0, none⟩) ∧ b ≤ g ∧ w.heap[g]? = some (fC x)
theorem FF_kept (b : Nat) (x : S82) : Sched2.KeptM (MvF b x) (FF b) := by
  rintro v w w' ⟨g, rfl, hg, y, hy⟩ (hb | ⟨g2, hg2, rfl⟩)
  · exact ⟨g, rfl, hg, y, (hb.block _ (blk_lt hy)).trans hy⟩
  · by_cases e : g = g2
    · subst e
      exact ⟨g, rfl, hg, x, setF_at hy x⟩
    · exact ⟨g, rfl, hg, y, (setF_far x e).trans hy⟩
theorem GF_kept (b : Nat) (x : S82) : Sched2.KeptM (MvF b x) (GF b x) := by
  rintro v w w' ⟨g, rfl, hg, hy⟩ (hb | ⟨g2, hg2, rfl⟩)
  · exact ⟨g, rfl, hg, (hb.block _ (blk_lt hy)).trans hy⟩
  · by_cases e : g = g2
    · subst e
      exact ⟨g, rfl, hg, setF_at hy x⟩
    · exact ⟨g, rfl, hg, (setF_far x e).trans hy⟩
theorem FF_made (w : World) (b : Nat) (hb : b ≤ w.heap.size) : FF b (.pointer (some ⟨w.heap.size, 0, none⟩)) (w.alloc (fC z82)) := ⟨_, rfl, hb, z82, heap_alloc_new w _⟩
theorem f_cells {w : World} {g : Nat} {y : S82} (h : w.heap[g]? = some (fC y)) : w.cell? ⟨g, 0, none⟩ = some (.int .i64 y.f0) ∧ w.cell? ⟨g, 1, none⟩ = some (.int .i64 y.f1) := ⟨(blk_cell h 0).trans rfl, (blk_cell h 1).trans rfl⟩
theorem wroteF {W w : World} {g : Nat} {y : S82} (x : S82) (hW : Below W.heap.size W w) (hg : W.heap.size ≤ g) (h : w.heap[g]? = some (fC y)) : MvF W.heap.size x w (setF w g x) ∧ Below W.heap.size W (setF w g x) ∧ GF W.heap.size x (.pointer (some ⟨g, 0, none⟩)) (setF w g x) :=
  ⟨⟨g, hg, rfl⟩, (hW.setCell hg _).setCell hg _, g, rfl, hg, setF_at h x⟩
theorem lit82 {w : World} {g : Nat} {p q : Int} (h : w.heap[g]? = some (.cells #[.int .i64 p, .int .i64 q] 82 (0, 0))) : k82.C w (some ⟨g, 0, none⟩) 1 [⟨p, q⟩] := by
  refine ⟨rfl, by decide, fun _ => ⟨⟨g, 0, none⟩, rfl, fun j y hj => ?_⟩⟩
  cases j with
  | succ j => simp at hj
  | zero =>
    simp only [List.getElem?_cons_zero] at hj
    injection hj with hj
    subst hj
    refine ⟨[.int .i64 p, .int .i64 q], rfl, k82_mk _ _, fun i u hi => ?_⟩
    match i, hi with
    | 0, hi => rw [← hi]; exact (blk_cell h 0).trans rfl
    | 1, hi => rw [← hi]; exact (blk_cell h 1).trans rfl
    | n + 2, hi => simp at hi
theorem RF_appL {P : Program} {ops : Array Oper} {rest : List Oper} {o : Oper} {a : Act} {Q : Exit → Act → World → Prop} {w0 W : World} (base : Nat) (hgd : o.guard = none) (s x : Operand)
    (ho : o.op = .call { callee := .builtin .append, args := #[s, x], argTypes := #[77, 77] })
    (ht : P.underlying 77 = some (.slice 82)) (hinfo : (P.info? 82).map (fun i => (i.zero, i.size, i.bytes)) = some (some (.agg #[.int .i64 0, .int .i64 0]), 2, 16))
    (v : Value) (xs : List S82) (p : S82) (A : Option Addr) (c : Nat) (hs : a.eval s = v) (hx : a.eval x = .slice A 1 c)
    (HO : RF W base v xs) (HR : k82.C W A 1 [p]) (HB : Below base w0 W) (hbase : base ≤ W.heap.size) (hl : xs.length ≤ 2097152)
    (h : ∀ v1 w1, RF w1 base v1 (xs ++ [p]) → Below base w0 w1 → W.grownBy w1 v.ownBlock → wpList P ops Q rest (a.put o.dst v1) w1) :
    wpList P ops Q (o :: rest) a W :=
  Kd.R_append_rows (P := P) (ops := ops) (rest := rest) (o := o) (a := a) (Q := Q) k82 (Rr := k82.K W) (w0 := w0) base hgd s x 77 82 (.agg #[.int .i64 0, .int .i64 0]) 16 ho ht hinfo rfl (by decide) (by omega) v xs [p] A 1 c (fun _ => True) (fun _ => False) hs hx HO HR (fun y cs hk => by rw [k82_open hk]; exact k82_mkM _ _ _ _) (fun _ hk => hk.elim) (fun _ _ => trivial) HB hbase (by omega) (fun v1 w1 h1 h2 h3 _ => h v1 w1 h1 h2 h3)
/-- A row of one's own above what stood. -/
structure FoS (w1 wr : World) (v : Value) (xs : List S82) : Prop where
  o : RF wr w1.heap.size v xs
  b : Below w1.heap.size w1 wr
theorem FoS.moved {w1 wr w2 : World} {v : Value} {xs : List S82} (h : FoS w1 wr v xs) (hb : Below wr.heap.size wr w2) : FoS w1 w2 v xs := ⟨Kd.R_below h.o hb, below_then h.b h.b.size hb⟩
theorem FoS.nil (w : World) : FoS w w (.slice none 0 0) [] := ⟨Kd.R_nil _ _ _ _ _, Below.refl _ _⟩
theorem FoS.start {w1 w2 : World} {v : Value} {xs : List S82} (h : FoS w1 w2 v xs) : Kd.R k82 82 w2 w1.heap.size (fun _ => True) v xs := h.o
theorem allF_bd (fs : List ByteArray) (text : ByteArray) (t : List S50) (hs : text.size ≤ 1048576) : ∀ k, Bd (get (allF fs text t) k) := fun k => by
  by_cases h : k < (allF fs text t).length
  · obtain ⟨z, _, _, he, _⟩ := mem_allF.1 (get_mem h)
    obtain ⟨a, b, hab, ha, hb⟩ := rowsF_nat text z
    have := PT.rowN_le text text.size
    rw [← he, hab]
    exact ⟨⟨by show (0 : Int) ≤ (a : Int); omega, by show (a : Int) ≤ 1048577; omega⟩, by show (0 : Int) ≤ (b : Int); omega, by show (b : Int) ≤ 1048577; omega⟩
  · unfold get
    rw [List.getD_eq_getElem?_getD, List.getElem?_eq_none (by omega)]
    exact ⟨⟨by decide, by decide⟩, by decide, by decide⟩
theorem contains_calls (A : Option Addr) (c : Nat) (fs : List ByteArray) (nm : ByteArray) (w : World) (hr : Kd.C Kd.string w A fs.length fs) (hc : fs.length ≤ c) (hl : fs.length ≤ 1048576) :
    Calls Try.prog 51 #[.slice A fs.length c, .string nm] w fun e w' => e = .returned (.bool (inF fs nm)) ∧ Below w.heap.size w w' := by
  obtain ⟨k, hk⟩ := contains_f (nm := nm) hl
  exact (slices_Contains_string_string.calls k A c fs nm _ w hr hc hk).mono fun e w' ⟨h1, h2⟩ => ⟨h1, h2.below⟩
theorem in_calls (A : Option Addr) (c : Nat) (fs : List ByteArray) (nm : ByteArray) (w : World) (hr : Kd.C Kd.string w A fs.length fs) (hc : fs.length ≤ c) (hl : fs.length ≤ 1048576) :
    Calls Try.prog 57 #[.slice A fs.length c, .string nm] w fun e w' => e = .returned (.bool (inF fs nm)) ∧ Below w.heap.size w w' := by
  obtain ⟨k, hk⟩ := in_f (nm := nm) hl
  exact (trellisref22_in.calls k A c fs nm _ w hr hc hk).mono fun e w' ⟨h1, h2⟩ => ⟨h1, h2.below⟩
end Go.Proofs.Ytknagjiipelfnaa.SO
