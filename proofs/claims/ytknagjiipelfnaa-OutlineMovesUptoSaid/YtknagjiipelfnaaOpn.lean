/- What came in, opened whole: plain data of a type is a value of a kind, and weighs no less than the value tells. -/
import Derived.Test.YtknagjiipelfnaaWMore
import Derived.Test.YtknagjiipelfnaaRows
import Derived.Deep.Slices
import Derived.ChangeArms
import Derived.Lib.SmallJoins
namespace Go.Proofs.Ytknagjiipelfnaa.Opn
open Go.WideShapes Go.ChangeShapes Go.Deep Go.Proofs.YtknagjiipelfnaaW.PrintWords

/-- Whatever cells of type t can be read are those of a value of kind d, which is good, and weighs no more than what was read. -/
def Opens (P : Program) (t : TypeId) {α : Type} (d : Kd α) (good : α → Prop) (wt : α → Nat) : Prop :=
  ∀ (H : Type) (enc : TypeId × Value → H) (w : World) (base : Nat) (spare : Nat → Bool) (held : Bool) (fuel : Nat) (cs : List Value) (x : DataW H × List MemPlace),
    DataW.trod enc P w base spare held fuel t cs = some x → ∃ y : α, d.K w y cs ∧ good y ∧ wt y ≤ Rows.uptoBulk x.1
section
variable {P : Program} {t e : TypeId}
theorem int {k : IntKind} (ht : P.underlying t = some (.int k)) : Opens P t (Kd.int k) (fun n => (Lit.int k n).wf = true) (fun _ => 1) := by
  intro H enc w base spare held fuel cs x h
  obtain ⟨n, rfl, rfl, hw⟩ := DataW.trod_int ht h
  exact ⟨n, rfl, hw, by simp [Rows.uptoBulk]⟩
theorem bool (ht : P.underlying t = some .bool) : Opens P t Kd.bool (fun _ => True) (fun _ => 1) := by
  intro H enc w base spare held fuel cs x h
  obtain ⟨n, rfl, rfl⟩ := DataW.trod_bool ht h
  exact ⟨n, rfl, trivial, by simp [Rows.uptoBulk]⟩
theorem string (ht : P.underlying t = some .string) : Opens P t Kd.string (fun _ => True) (fun s => s.size + 1) := by
  intro H enc w base spare held fuel cs x h
  obtain ⟨s, rfl, rfl, _⟩ := DataW.trod_string ht h
  refine ⟨s, rfl, trivial, ?_⟩
  show s.size + 1 ≤ Rows.uptoBulk (.lit (.string s.data.toList))
  rw [Rows.uptoBulk, Array.length_toList]
  exact Nat.le_refl _
theorem bulk_append {H : Type} (a b : List (DataW H)) : Rows.uptoBulkAll (a ++ b) = Rows.uptoBulkAll a + Rows.uptoBulkAll b := by
  induction a with
  | nil => simp [Rows.uptoBulkAll]
  | cons x r ih => simp only [List.cons_append, Rows.uptoBulkAll, ih]; omega
theorem slice {α : Type} {d : Kd α} {good : α → Prop} {wt : α → Nat} (ht : P.underlying t = some (.slice e)) (hC : P.cellsOf e = d.sz) (h : Opens P e d good wt) :
    Opens P t (Kd.slice e d) (fun xs => ∀ x, x ∈ xs → good x) (fun xs => (xs.map wt).sum + 1) := by
  intro H enc w base spare held fuel cs x hx
  rcases open_slice ht hx with ⟨rfl, rfl⟩ | ⟨a, len, cap, m, n, D, Pl, rfl, _, hl, hm, hmm, rfl, hi⟩
  · exact ⟨[], ⟨none, 0, rfl, Nat.le_refl _, rfl, by simp, fun h0 => absurd h0 (Nat.lt_irrefl 0)⟩, by simp, by simp [Rows.uptoBulk]⟩
  · have hle : len ≤ m := by rw [hmm]; split <;> omega
    have build : ∀ k, k ≤ len → ∃ ys : List α, ys.length = k ∧ (∀ i y, ys[i]? = some y → (∃ c, c.length = d.sz ∧ d.K w y c ∧ ∀ j u, c[j]? = some u → w.cell? (a.add (i * d.sz + j)) = some u) ∧ good y) ∧
        (ys.map wt).sum ≤ Rows.uptoBulkAll ((List.range k).map D) := by
      intro k
      induction k with
      | zero => intro _; exact ⟨[], rfl, by simp, by simp⟩
      | succ k ih =>
        intro hk
        obtain ⟨ys, hl1, hall, hsum⟩ := ih (by omega)
        obtain ⟨c, hc, hr⟩ := hi k (by omega)
        obtain ⟨_, hcl, hcell⟩ := World.cells?_some hc
        rw [hC] at hcl hcell
        obtain ⟨y, hK, hg, hw⟩ := h H enc w base spare held n c _ hr
        refine ⟨ys ++ [y], by simp [hl1], ?_, ?_⟩
        · intro i z hz
          by_cases e1 : i < k
          · rw [List.getElem?_append_left (by omega)] at hz
            exact hall i z hz
          · have hil := (List.getElem?_eq_some_iff.1 hz).1
            simp [hl1] at hil
            obtain rfl : i = k := by omega
            rw [List.getElem?_append_right (by omega), hl1] at hz
            simp at hz
            subst hz
            refine ⟨⟨c, hcl, hK, fun j u hj => ?_⟩, hg⟩
            have hjl : j < c.length := (List.getElem?_eq_some_iff.1 hj).1
            rw [hC] at *
            rw [← Go.Deep.add_add, hcell j (by omega), hj]
        · rw [List.range_succ, List.map_append, List.map_append, List.sum_append, bulk_append]
          have hw' : wt y ≤ Rows.uptoBulk (D k) := hw
          simp [Rows.uptoBulkAll]
          omega
    obtain ⟨ys, hl1, hall, hsum⟩ := build len (Nat.le_refl _)
    refine ⟨ys, ⟨some a, cap, by rw [hl1], by omega, rfl, ?_, fun _ => ⟨a, rfl, fun j p hp => (hall j p hp).1⟩⟩, ?_, ?_⟩
    · simp [maxLen] at hm ⊢
      omega
    · intro y hy
      obtain ⟨i, hi'⟩ := List.getElem?_of_mem hy
      exact (hall i y hi').2
    · simp only [Rows.uptoBulk]
      omega

/-- Fields in line, the first of them at offset o. -/
def OpensF (P : Program) (o : Nat) (fs : List Field) {α : Type} (d : Kd α) (good : α → Prop) (wt : α → Nat) : Prop :=
  ∀ (H : Type) (enc : TypeId × Value → H) (w : World) (base : Nat) (spare : Nat → Bool) (held : Bool) (n : Nat) (cs : List Value) (xs : List (DataW H × List MemPlace)), cs.length = d.sz → xs.length = fs.length →
    (∀ (i : Nat) (f : Field), fs[i]? = some f → DataW.trod enc P w base spare held n f.type ((cs.drop (f.offset - o)).take (P.cellsOf f.type)) = xs[i]?) → ∃ y : α, d.K w y cs ∧ good y ∧ wt y ≤ Rows.uptoBulkAll (xs.map (·.1))
theorem one {o : Nat} {f : Field} {α : Type} {d : Kd α} {good : α → Prop} {wt : α → Nat} (ho : f.offset = o) (hC : P.cellsOf f.type = d.sz) (h : Opens P f.type d good wt) : OpensF P o [f] d good wt := by
  intro H enc w base spare held n cs xs hcl hxl hf
  have h0 := hf 0 f rfl
  match xs, hxl with
  | [x], _ =>
    rw [ho, Nat.sub_self, List.drop_zero, hC, ← hcl, List.take_length] at h0
    obtain ⟨y, hK, hg, hw⟩ := h H enc w base spare held n cs x h0
    exact ⟨y, hK, hg, by simpa [Rows.uptoBulkAll] using hw⟩
theorem more {o : Nat} {f : Field} {fs : List Field} {α β : Type} {d : Kd α} {d' : Kd β} {good : α → Prop} {good' : β → Prop} {wt : α → Nat} {wt' : β → Nat} (ho : f.offset = o) (hC : P.cellsOf f.type = d.sz)
    (h : Opens P f.type d good wt) (hfs : ∀ g ∈ fs, o + d.sz ≤ g.offset) (h' : OpensF P (o + d.sz) fs d' good' wt') :
    OpensF P o (f :: fs) (Kd.pair d d') (fun y => good y.1 ∧ good' y.2) (fun y => wt y.1 + wt' y.2) := by
  intro H enc w base spare held n cs xs hcl hxl hf
  have hcl' : cs.length = d.sz + d'.sz := hcl
  have h0 := hf 0 f rfl
  match xs, hxl with
  | x :: xr, hxl =>
    rw [ho, Nat.sub_self, List.drop_zero, hC] at h0
    obtain ⟨y, hK, hg, hw⟩ := h H enc w base spare held n _ x h0
    obtain ⟨z, hK', hg', hw'⟩ := h' H enc w base spare held n (cs.drop d.sz) xr (by rw [List.length_drop]; omega) (by simpa using hxl) (fun i g hgi => by
      have h1 := hf (i + 1) g hgi
      have h2 := hfs g (List.mem_of_getElem? hgi)
      rw [List.drop_drop, show d.sz + (g.offset - (o + d.sz)) = g.offset - o by omega]
      simpa using h1)
    refine ⟨(y, z), ⟨cs.take d.sz, cs.drop d.sz, (List.take_append_drop _ _).symm, hK, hK'⟩, ⟨hg, hg'⟩, ?_⟩
    simp only [List.map_cons, Rows.uptoBulkAll]
    omega
theorem struct {fs : Array Field} {α : Type} {d : Kd α} {good : α → Prop} {wt : α → Nat} (ht : P.underlying t = some (.struct fs)) (hC : P.cellsOf t = d.sz) (h : OpensF P 0 fs.toList d good wt) : Opens P t d good (fun y => wt y + 1) := by
  intro H enc w base spare held fuel cs x hx
  obtain ⟨xs, n, _, rfl, hcl, hxl, hf⟩ := DataW.trod_struct ht hx
  obtain ⟨y, hK, hg, hw⟩ := h H enc w base spare held n cs xs (hcl.trans hC) (by simpa using hxl) (fun i f hi => by
    rw [Nat.sub_zero]
    exact hf i f (by simpa using hi))
  exact ⟨y, hK, hg, by simp only [Rows.uptoBulk]; omega⟩
/-- By a Lean structure's fields. -/
theorem iso {α β : Type} {d : Kd α} {good : α → Prop} {wt : α → Nat} (h : Opens P t d good wt) (f : β → α) (g : α → β) (hfg : ∀ x, f (g x) = x) : Opens P t (Kd.iso d f) (fun y => good (f y)) (fun y => wt (f y)) := by
  intro H enc w base spare held fuel cs x hx
  obtain ⟨y, hK, hg, hw⟩ := h H enc w base spare held fuel cs x hx
  refine ⟨g y, ?_, by show good (f (g y)); rw [hfg]; exact hg, by show wt (f (g y)) ≤ _; rw [hfg]; exact hw⟩
  show d.K w (f (g y)) cs
  rw [hfg]
  exact hK
/-- a parameter that is a slice -/
theorem arg_slice {H : Type} {enc : TypeId × Value → H} {w : World} {base : Nat} {spare : Nat → Bool} {held : Bool} {v : Value} {x : DataW H} {ps : List MemPlace} {r : Reach} {b0 : Nat} {α : Type} {d : Kd α} {good : List α → Prop} {wt : List α → Nat}
    (ht : P.underlying t = some (.slice e)) (h : Opens P t (Kd.slice e d) good wt) (hv : Value.okWide P w r b0 t v) (hx : DataW.Trod enc P w base spare held t v x ps) :
    ∃ (A : Option Addr) (c : Nat) (y : List α), v = .slice A y.length c ∧ y.length ≤ c ∧ d.C w A y.length y ∧ good y ∧ wt y ≤ Rows.uptoBulk x := by
  obtain ⟨A, n, c, rfl⟩ := okWide_slice ht hv
  obtain ⟨fuel, hf⟩ := hx
  obtain ⟨y, ⟨A', c', he, hl, hC⟩, hg, hw⟩ := h H enc w base spare held fuel _ _ hf
  have he' : [Value.slice A n c] = [.slice A' y.length c'] := he
  injection he' with he' _
  injection he' with h1 h2 h3
  subst h1; subst h3
  exact ⟨A, c, y, by rw [h2], hl, hC, hg, hw⟩
/-- a parameter that is a struct -/
theorem arg_struct {H : Type} {enc : TypeId × Value → H} {w : World} {base : Nat} {spare : Nat → Bool} {held : Bool} {v : Value} {x : DataW H} {ps : List MemPlace} {r : Reach} {b0 : Nat} {α : Type} {d : Kd α} {good : α → Prop} {wt : α → Nat} {fs : Array Field}
    (ht : P.underlying t = some (.struct fs)) (h : Opens P t d good wt) (hv : Value.okWide P w r b0 t v) (hx : DataW.Trod enc P w base spare held t v x ps) :
    ∃ (cs : Array Value) (y : α), v = .agg cs ∧ d.K w y cs.toList ∧ good y ∧ wt y ≤ Rows.uptoBulk x := by
  obtain ⟨cs, rfl, _⟩ := okWide_struct ht hv
  obtain ⟨fuel, hf⟩ := hx
  obtain ⟨y, hK, hg, hw⟩ := h H enc w base spare held fuel _ _ hf
  exact ⟨cs, y, rfl, hK, hg, hw⟩
end
end Go.Proofs.Ytknagjiipelfnaa.Opn
