/- trellisref15.find: its values, a tree in memory of its own. -/
import Derived.Test.YtknagjiipelfnaaOSyms
namespace Go.Proofs.Ytknagjiipelfnaa.OL
open Go.RowKit Go.WideShapes Go.ChangeShapes Go.Proofs.YtknagjiipelfnaaW.PrintWords Go.Proofs.YtknagjiipelfnaaW.PrintLast Go.Proofs.YtknagjiipelfnaaW.PrintMore Go.Proofs.Ytknagjiipelfnaa.PAll
set_option linter.unusedVariables false

theorem nd_len : ∀ l : List S143, l.length ≤ (ndL l).length := by
  intro l
  induction l with
  | nil => simp
  | cons x r ih =>
    obtain ⟨n, K, a⟩ := x
    rw [ndL_cons]
    simp
    omega
theorem nd_elem : ∀ (l : List S143) (j : Nat) (x : S143), l[j]? = some x → (ndL x.f1).length < (ndL l).length := by
  intro l
  induction l with
  | nil => intro j x h; simp at h
  | cons y r ih =>
    intro j x h
    obtain ⟨n, K, a⟩ := y
    rw [ndL_cons]
    cases j with
    | zero =>
      simp only [List.getElem?_cons_zero, Option.some.injEq] at h
      subst h
      simp
      omega
    | succ j =>
      have := ih j x (by simpa using h)
      simp
      omega
abbrev tV (y : S143) (A : Option Addr) (c : Nat) : Value := .agg #[.string y.f0.f0, .bool y.f0.f1, .string y.f0.f2, .int .i64 y.f0.f3, .int .i64 y.f0.f4, .int .i64 y.f0.f5, .int .i64 y.f0.f6, .slice A y.f1.length c, .int .i64 y.f2]
def fdY (o : Option (S143 × Int)) : S143 := (o.map (·.1)).getD z143
def fdP (o : Option (S143 × Int)) : Int := (o.map (·.2)).getD (-1)
def fdV (o : Option (S143 × Int)) (A : Option Addr) (c : Nat) : Value := .tuple #[tV (fdY o) A c, .int .i64 (fdP o), .bool o.isSome]
theorem fd_step (at_ par : Int) (x : S143) (r : List S143) : fdL at_ par (x :: r) = if x.f2 = at_ then some (x, par) else match fdL at_ x.f2 x.f1 with | some y => some y | none => fdL at_ par r := by
  obtain ⟨n, K, a⟩ := x
  exact fdL_cons at_ par n K r a
abbrev tC (y : S143) (A : Option Addr) (c : Nat) : Obj := .cells #[.string y.f0.f0, .bool y.f0.f1, .string y.f0.f2, .int .i64 y.f0.f3, .int .i64 y.f0.f4, .int .i64 y.f0.f5, .int .i64 y.f0.f6, .slice A y.f1.length c, .int .i64 y.f2] 143 (0, 0)
abbrev tZ : Obj := .cells #[.string ⟨#[]⟩, .bool false, .string ⟨#[]⟩, .int .i64 0, .int .i64 0, .int .i64 0, .int .i64 0, .slice none 0 0, .int .i64 0] 143 (0, 0)
theorem nine {w : World} {g : Nat} {y : S143} {A : Option Addr} {c : Nat} (h : w.heap[g]? = some (tC y A c)) : w.cell? ⟨g, 0, none⟩ = some (.string y.f0.f0) ∧ w.cell? ⟨g, 1, none⟩ = some (.bool y.f0.f1) ∧ w.cell? ⟨g, 2, none⟩ = some (.string y.f0.f2) ∧ w.cell? ⟨g, 3, none⟩ = some (.int .i64 y.f0.f3) ∧ w.cell? ⟨g, 4, none⟩ = some (.int .i64 y.f0.f4) ∧ w.cell? ⟨g, 5, none⟩ = some (.int .i64 y.f0.f5) ∧ w.cell? ⟨g, 6, none⟩ = some (.int .i64 y.f0.f6) ∧ w.cell? ⟨g, 7, none⟩ = some (.slice A y.f1.length c) ∧ w.cell? ⟨g, 8, none⟩ = some (.int .i64 y.f2) :=
  ⟨(blk_cell h 0).trans rfl, (blk_cell h 1).trans rfl, (blk_cell h 2).trans rfl, (blk_cell h 3).trans rfl, (blk_cell h 4).trans rfl, (blk_cell h 5).trans rfl, (blk_cell h 6).trans rfl, (blk_cell h 7).trans rfl, (blk_cell h 8).trans rfl⟩
theorem nineZ {w : World} {g : Nat} (h : w.heap[g]? = some tZ) : w.cell? ⟨g, 0, none⟩ = some (.string ⟨#[]⟩) ∧ w.cell? ⟨g, 1, none⟩ = some (.bool false) ∧ w.cell? ⟨g, 2, none⟩ = some (.string ⟨#[]⟩) ∧ w.cell? ⟨g, 3, none⟩ = some (.int .i64 0) ∧ w.cell? ⟨g, 4, none⟩ = some (.int .i64 0) ∧ w.cell? ⟨g, 5, none⟩ = some (.int .i64 0) ∧ w.cell? ⟨g, 6, none⟩ = some (.int .i64 0) ∧ w.cell? ⟨g, 7, none⟩ = some (.slice none 0 0) ∧ w.cell? ⟨g, 8, none⟩ = some (.int .i64 0) :=
  ⟨(blk_cell h 0).trans rfl, (blk_cell h 1).trans rfl, (blk_cell h 2).trans rfl, (blk_cell h 3).trans rfl, (blk_cell h 4).trans rfl, (blk_cell h 5).trans rfl, (blk_cell h 6).trans rfl, (blk_cell h 7).trans rfl, (blk_cell h 8).trans rfl⟩
set_option maxHeartbeats 8000000 in
theorem set9 {w : World} {g : Nat} (h : w.heap[g]? = some tZ) (y : S143) (A : Option Addr) (c : Nat) : (((((((((w.setCell ⟨g, 0, none⟩ (.string y.f0.f0)).setCell ⟨g, 1, none⟩ (.bool y.f0.f1)).setCell ⟨g, 2, none⟩ (.string y.f0.f2)).setCell ⟨g, 3, none⟩ (.int .i64 y.f0.f3)).setCell ⟨g, 4, none⟩ (.int .i64 y.f0.f4)).setCell ⟨g, 5, none⟩ (.int .i64 y.f0.f5)).setCell ⟨g, 6, none⟩ (.int .i64 y.f0.f6)).setCell ⟨g, 7, none⟩ (.slice A y.f1.length c)).setCell ⟨g, 8, none⟩ (.int .i64 y.f2)).heap[g]? = some (tC y A c) := by
  have k0 : (w.setCell ⟨g, 0, none⟩ (.string y.f0.f0)).heap[g]? = some (.cells #[(.string y.f0.f0), (.bool false), (.string ⟨#[]⟩), (.int .i64 0), (.int .i64 0), (.int .i64 0), (.int .i64 0), (.slice none 0 0), (.int .i64 0)] 143 (0, 0)) := blk_set h 0 _
  have k1 : ((w.setCell ⟨g, 0, none⟩ (.string y.f0.f0)).setCell ⟨g, 1, none⟩ (.bool y.f0.f1)).heap[g]? = some (.cells #[(.string y.f0.f0), (.bool y.f0.f1), (.string ⟨#[]⟩), (.int .i64 0), (.int .i64 0), (.int .i64 0), (.int .i64 0), (.slice none 0 0), (.int .i64 0)] 143 (0, 0)) := blk_set k0 1 _
  have k2 : (((w.setCell ⟨g, 0, none⟩ (.string y.f0.f0)).setCell ⟨g, 1, none⟩ (.bool y.f0.f1)).setCell ⟨g, 2, none⟩ (.string y.f0.f2)).heap[g]? = some (.cells #[(.string y.f0.f0), (.bool y.f0.f1), (.string y.f0.f2), (.int .i64 0), (.int .i64 0), (.int .i64 0), (.int .i64 0), (.slice none 0 0), (.int .i64 0)] 143 (0, 0)) := blk_set k1 2 _
  have k3 : ((((w.setCell ⟨g, 0, none⟩ (.string y.f0.f0)).setCell ⟨g, 1, none⟩ (.bool y.f0.f1)).setCell ⟨g, 2, none⟩ (.string y.f0.f2)).setCell ⟨g, 3, none⟩ (.int .i64 y.f0.f3)).heap[g]? = some (.cells #[(.string y.f0.f0), (.bool y.f0.f1), (.string y.f0.f2), (.int .i64 y.f0.f3), (.int .i64 0), (.int .i64 0), (.int .i64 0), (.slice none 0 0), (.int .i64 0)] 143 (0, 0)) := blk_set k2 3 _
  have k4 : (((((w.setCell ⟨g, 0, none⟩ (.string y.f0.f0)).setCell ⟨g, 1, none⟩ (.bool y.f0.f1)).setCell ⟨g, 2, none⟩ (.string y.f0.f2)).setCell ⟨g, 3, none⟩ (.int .i64 y.f0.f3)).setCell ⟨g, 4, none⟩ (.int .i64 y.f0.f4)).heap[g]? = some (.cells #[(.string y.f0.f0), (.bool y.f0.f1), (.string y.f0.f2), (.int .i64 y.f0.f3), (.int .i64 y.f0.f4), (.int .i64 0), (.int .i64 0), (.slice none 0 0), (.int .i64 0)] 143 (0, 0)) := blk_set k3 4 _
  have k5 : ((((((w.setCell ⟨g, 0, none⟩ (.string y.f0.f0)).setCell ⟨g, 1, none⟩ (.bool y.f0.f1)).setCell ⟨g, 2, none⟩ (.string y.f0.f2)).setCell ⟨g, 3, none⟩ (.int .i64 y.f0.f3)).setCell ⟨g, 4, none⟩ (.int .i64 y.f0.f4)).setCell ⟨g, 5, none⟩ (.int .i64 y.f0.f5)).heap[g]? = some (.cells #[(.string y.f0.f0), (.bool y.f0.f1), (.string y.f0.f2), (.int .i64 y.f0.f3), (.int .i64 y.f0.f4), (.int .i64 y.f0.f5), (.int .i64 0), (.slice none 0 0), (.int .i64 0)] 143 (0, 0)) := blk_set k4 5 _
  have k6 : (((((((w.setCell ⟨g, 0, none⟩ (.string y.f0.f0)).setCell ⟨g, 1, none⟩ (.bool y.f0.f1)).setCell ⟨g, 2, none⟩ (.string y.f0.f2)).setCell ⟨g, 3, none⟩ (.int .i64 y.f0.f3)).setCell ⟨g, 4, none⟩ (.int .i64 y.f0.f4)).setCell ⟨g, 5, none⟩ (.int .i64 y.f0.f5)).setCell ⟨g, 6, none⟩ (.int .i64 y.f0.f6)).heap[g]? = some (.cells #[(.string y.f0.f0), (.bool y.f0.f1), (.string y.f0.f2), (.int .i64 y.f0.f3), (.int .i64 y.f0.f4), (.int .i64 y.f0.f5), (.int .i64 y.f0.f6), (.slice none 0 0), (.int .i64 0)] 143 (0, 0)) := blk_set k5 6 _
  have k7 : ((((((((w.setCell ⟨g, 0, none⟩ (.string y.f0.f0)).setCell ⟨g, 1, none⟩ (.bool y.f0.f1)).setCell ⟨g, 2, none⟩ (.string y.f0.f2)).setCell ⟨g, 3, none⟩ (.int .i64 y.f0.f3)).setCell ⟨g, 4, none⟩ (.int .i64 y.f0.f4)).setCell ⟨g, 5, none⟩ (.int .i64 y.f0.f5)).setCell ⟨g, 6, none⟩ (.int .i64 y.f0.f6)).setCell ⟨g, 7, none⟩ (.slice A y.f1.length c)).heap[g]? = some (.cells #[(.string y.f0.f0), (.bool y.f0.f1), (.string y.f0.f2), (.int .i64 y.f0.f3), (.int .i64 y.f0.f4), (.int .i64 y.f0.f5), (.int .i64 y.f0.f6), (.slice A y.f1.length c), (.int .i64 0)] 143 (0, 0)) := blk_set k6 7 _
  have k8 : (((((((((w.setCell ⟨g, 0, none⟩ (.string y.f0.f0)).setCell ⟨g, 1, none⟩ (.bool y.f0.f1)).setCell ⟨g, 2, none⟩ (.string y.f0.f2)).setCell ⟨g, 3, none⟩ (.int .i64 y.f0.f3)).setCell ⟨g, 4, none⟩ (.int .i64 y.f0.f4)).setCell ⟨g, 5, none⟩ (.int .i64 y.f0.f5)).setCell ⟨g, 6, none⟩ (.int .i64 y.f0.f6)).setCell ⟨g, 7, none⟩ (.slice A y.f1.length c)).setCell ⟨g, 8, none⟩ (.int .i64 y.f2)).heap[g]? = some (.cells #[(.string y.f0.f0), (.bool y.f0.f1), (.string y.f0.f2), (.int .i64 y.f0.f3), (.int .i64 y.f0.f4), (.int .i64 y.f0.f5), (.int .i64 y.f0.f6), (.slice A y.f1.length c), (.int .i64 y.f2)] 143 (0, 0)) := blk_set k7 8 _
  exact k8
theorem below_sets9 {B : Nat} {w w1 : World} {g : Nat} (h : Below B w w1) (hg : B ≤ g) (v0 : Value) (v1 : Value) (v2 : Value) (v3 : Value) (v4 : Value) (v5 : Value) (v6 : Value) (v7 : Value) (v8 : Value) : Below B w (((((((((w1.setCell ⟨g, 0, none⟩ v0).setCell ⟨g, 1, none⟩ v1).setCell ⟨g, 2, none⟩ v2).setCell ⟨g, 3, none⟩ v3).setCell ⟨g, 4, none⟩ v4).setCell ⟨g, 5, none⟩ v5).setCell ⟨g, 6, none⟩ v6).setCell ⟨g, 7, none⟩ v7).setCell ⟨g, 8, none⟩ v8) :=
  ((((((((h.setCell hg v0).setCell hg v1).setCell hg v2).setCell hg v3).setCell hg v4).setCell hg v5).setCell hg v6).setCell hg v7).setCell hg v8
theorem results_cell_tmp2 {fn : Func} {p u q : Tmp} {ty : TypeId} (h : fn.results = #[.cell p ty, .tmp u, .tmp q]) (tmps : Array Value) (P : Program) (w : World) :
    (results fn tmps).run P w = ((asAddr (tmps.getD p undef)).run P w).andThen fun a w₁ => ((loadVar ty a).run P w₁).andThen fun v w₂ => .ok (.tuple #[v, tmps.getD u undef, tmps.getD q undef]) w₂ := by
  simp only [results, h]
  simp [Sem.run_bind, Result.andThen]
end Go.Proofs.Ytknagjiipelfnaa.OL
