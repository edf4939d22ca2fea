/- From a law's walk to its statement: whatever plain data came in, the law answers true, and below the heap's old size nothing has turned: then its row's post holds. What came in, opened whole: plain data of a type is a value of a kind, and weighs no less than the value tells. Nodes, fold and mark lines that came in, opened: their values, and what they weigh. -/
import Derived.Test.YtknagjiipelfnaaRows
import Derived.ProofKit
import Derived.OpenShut
import Derived.JoinedCond
import Derived.Below
import Derived.Carry
import Derived.ChangeSame
import Derived.Test.YtknagjiipelfnaaWMore
import Derived.Deep.Slices
import Derived.ChangeArms
import Derived.Lib.SmallJoins
import Derived.Test.YtknagjiipelfnaaSym
namespace Go.Proofs.Ytknagjiipelfnaa.LawKit
open Go.RowKit Go.WideShapes Go.ChangeShapes

theorem own : ownKnob Try.prog.godebug = none := by kernel_rfl
theorem laidOut : laidOutB Try.prog = true := by kernel_rfl

theorem trodAll_below {H : Type} {enc : TypeId × Value → H} {P : Program} {W W' : World} (hl : laidOutB P = true) (hb : Below W.heap.size W W') (sp : Nat → Bool) : ∀ (ts : List TypeId) (vs : List Value) (ds : List (DataW H)) (ps : List MemPlace),
    (∀ t ∈ ts, P.readableRec t = true ∧ t < P.types.size) → DataW.TrodAll enc P W 0 (fun _ => true) true ts vs ds ps → (∀ x ∈ ps, x.block < W.heap.size) → (∀ x ∈ ps, sp x.block = true) → DataW.TrodAll enc P W' 0 sp true ts vs ds ps := by
  intro ts
  induction ts with
  | nil =>
    intro vs ds ps _ h _ _
    obtain ⟨rfl, rfl, rfl⟩ := trodAll_nil h
    exact trodAll_mk0
  | cons t ts ih =>
    intro vs ds ps ht h hlt hsp
    obtain ⟨v, vs', d, ds', p, q, rfl, rfl, rfl, h0, r0⟩ := trodAll_cons h
    obtain ⟨h1, h2⟩ := ht t (by simp)
    exact trodAll_cons_mk (WideElems.Trod_stays hl h1 h2 h0 (fun x hx => hb.same (hlt x (by simp [hx]))) (fun x hx => hsp x (by simp [hx])))
      (ih vs' ds' q (fun t' ht' => ht t' (by simp [ht'])) r0 (fun x hx => hlt x (by simp [hx])) (fun x hx => hsp x (by simp [hx])))

section
variable {H : Type} {enc : TypeId × Value → H} {P : Program}
theorem post_of_below {f : Func} {s : ChangeSpec} {apart fresh handsOn again : Bool} {W W' : World} {args : Array Value} {v : Value} {ds gs : List (DataW H)} {before pa pv : List MemPlace}
    (hW : DataW.Whole enc P f.params.toList s.vars apart W args.toList ds gs before)
    (hres : ∀ (b : Nat) (sp : Nat → Bool) (hd : Bool), DataW.TrodAll enc P W' b sp hd f.resultTypes.toList (v.resultList f.resultTypes.size) (s.fn H (ds ++ gs)).results [])
    (hargs : ∀ sp : Nat → Bool, (∀ p ∈ before, sp p.block = true) → DataW.TrodAll enc P W' 0 sp true f.params.toList args.toList (s.fn H (ds ++ gs)).args pa)
    (hvars : ∀ sp : Nat → Bool, (∀ p ∈ before, sp p.block = true) → DataW.TrodVars enc P W' sp s.vars (s.fn H (ds ++ gs)).vars pv)
    (hps : before = pa ++ pv) (hb : Below W.heap.size W W')
    (hok : ∀ (j : Nat) (t : TypeId) (r : Value), f.resultTypes[j]? = some t → (v.resultList f.resultTypes.size)[j]? = some r → Value.okWide P W' .any 0 t r) :
    s.post enc P f apart fresh handsOn again W args v W' := by
  have hlt : ∀ p ∈ before, p.block < W.heap.size := fun p hp => hW.lt p hp
  have hold : ∀ p ∈ before, (fun b => decide (b < W.heap.size)) p.block = true := fun p hp => by simpa using hlt p hp
  refine ⟨ds, gs, before, [], pa, pv, hW, hres _ _ _, hargs _ hold, hvars _ hold, World.keptBut_mono (fun p hp => ⟨hp, ?_⟩) (hb.frame (· ∈ before)), fun _ => ?_⟩
  · rw [hps, List.mem_append] at hp
    exact Or.inr hp
  · obtain ⟨_, _, _, _, _, hz, hn⟩ := hW
    refine ⟨hok, _, _, ([] ++ pa) ++ pv, ⟨[] ++ pa, pv, trodAll_append (hargs _ (fun _ _ => rfl)) (hres _ _ _), hvars _ (fun _ _ => rfl), rfl, ?_, ?_⟩, ?_⟩
    · intro b off hp
      have hin : MemPlace.cell b off ∈ before := by rw [hps]; simpa using hp
      rw [hb.frozen (hlt _ hin)]
      exact hz b off hin
    · intro ha
      have := hn ha
      rw [hps] at this
      simpa using this
    · intro p hp _
      rw [hps]
      simpa using hp

/-- A law's post: true, and the arguments read as they did. -/
theorem law_post {f : Func} {s : ChangeSpec} {apart fresh handsOn again : Bool} {W W' : World} {args : Array Value} {ds gs : List (DataW H)} {before : List MemPlace}
    (hl : laidOutB P = true) (hty : ∀ t ∈ f.params.toList, P.readableRec t = true ∧ t < P.types.size) (T : TypeId) (hrt : f.resultTypes = #[T]) (hT : P.underlying T = some .bool) (hv : s.vars = [])
    (hW : DataW.Whole enc P f.params.toList s.vars apart W args.toList ds gs before) (hf : s.fn H (ds ++ gs) = { results := [.lit (.bool true)], args := ds }) (hb : Below W.heap.size W W') :
    s.post enc P f apart fresh handsOn again W args (.bool true) W' := by
  have hW' := hW
  have hlt : ∀ p ∈ before, p.block < W.heap.size := fun p hp => hW.lt p hp
  obtain ⟨p, q, hA, hV, rfl, hfz, hnd⟩ := hW
  rw [hv] at hV
  obtain ⟨rfl, rfl⟩ := trodVars_none hV
  refine post_of_below (pa := p) (pv := []) hW' ?_ ?_ ?_ rfl hb ?_
  · intro b sp hd
    rw [hf, hrt]
    exact trodAll_mk1 (shut_bool hT true)
  · intro sp hsp
    rw [hf]
    exact trodAll_below hl hb sp _ _ _ _ hty hA (fun x hx => hlt x (by simp [hx])) (fun x hx => hsp x (by simp [hx]))
  · intro sp _
    rw [hf, hv]
    rfl
  · exact ok_one hrt rfl (okWide_bool_mk hT true)
end
end Go.Proofs.Ytknagjiipelfnaa.LawKit
namespace Go.Proofs.Ytknagjiipelfnaa.Opn
open Go.WideShapes Go.ChangeShapes Go.Deep Go.Proofs.YtknagjiipelfnaaW.PrintWords

/-- Whatever cells of type t can be read are those of a value of kind d, which is good, and weighs no more than what was read. -/
def Opens (P : Program) (t : TypeId) {α : Type} (d : Kd α) (good : α → Prop) (wt : α → Nat) : Prop :=
  ∀ (H : Type) (enc : TypeId × Value → H) (w : World) (base : Nat) (spare : Nat → Bool) (held : Bool) (fuel : Nat) (cs : List Value) (x : DataW H × List MemPlace),
    DataW.trod enc P w base spare held fuel t cs = some x → ∃ y : α, d.K w y cs ∧ good y ∧ wt y ≤ Rows.uptoBulk x.1
section
variable {P : Program} {t e : TypeId}
theorem int {k : IntKind} (ht : P.underlying t = some (.int k)) : Opens P t (Kd.int k) (fun n => (Lit.int k n).wf = true) (fun _ => 1) := by
  intro H enc w base spare held fuel cs x h
  obtain ⟨n, rfl, rfl, hw⟩ := DataW.trod_int ht h
  exact ⟨n, rfl, hw, by simp [Rows.uptoBulk]⟩
theorem bool (ht : P.underlying t = some .bool) : Opens P t Kd.bool (fun _ => True) (fun _ => 1) := by
  intro H enc w base spare held fuel cs x h
  obtain ⟨n, rfl, rfl⟩ := DataW.trod_bool ht h
  exact ⟨n, rfl, trivial, by simp [Rows.uptoBulk]⟩
theorem string (ht : P.underlying t = some .string) : Opens P t Kd.string (fun _ => True) (fun s => s.size + 1) := by
  intro H enc w base spare held fuel cs x h
  obtain ⟨s, rfl, rfl, _⟩ := DataW.trod_string ht h
  refine ⟨s, rfl, trivial, ?_⟩
  show s.size + 1 ≤ Rows.uptoBulk (.lit (.string s.data.toList))
  rw [Rows.uptoBulk, Array.length_toList]
  exact Nat.le_refl _
theorem bulk_append {H : Type} (a b : List (DataW H)) : Rows.uptoBulkAll (a ++ b) = Rows.uptoBulkAll a + Rows.uptoBulkAll b := by
  induction a with
  | nil => simp [Rows.uptoBulkAll]
  | cons x r ih => simp only [List.cons_append, Rows.uptoBulkAll, ih]; omega
theorem slice {α : Type} {d : Kd α} {good : α → Prop} {wt : α → Nat} (ht : P.underlying t = some (.slice e)) (hC : P.cellsOf e = d.sz) (h : Opens P e d good wt) :
    Opens P t (Kd.slice e d) (fun xs => ∀ x, x ∈ xs → good x) (fun xs => (xs.map wt).sum + 1) := by
  intro H enc w base spare held fuel cs x hx
  rcases open_slice ht hx with ⟨rfl, rfl⟩ | ⟨a, len, cap, m, n, D, Pl, rfl, _, hl, hm, hmm, rfl, hi⟩
  · exact ⟨[], ⟨none, 0, rfl, Nat.le_refl _, rfl, by simp, fun h0 => absurd h0 (Nat.lt_irrefl 0)⟩, by simp, by simp [Rows.uptoBulk]⟩
  · have hle : len ≤ m := by rw [hmm]; split <;> omega
    have build : ∀ k, k ≤ len → ∃ ys : List α, ys.length = k ∧ (∀ i y, ys[i]? = some y → (∃ c, c.length = d.sz ∧ d.K w y c ∧ ∀ j u, c[j]? = some u → w.cell? (a.add (i * d.sz + j)) = some u) ∧ good y) ∧
        (ys.map wt).sum ≤ Rows.uptoBulkAll ((List.range k).map D) := by
      intro k
      induction k with
      | zero => intro _; exact ⟨[], rfl, by simp, by simp⟩
      | succ k ih =>
        intro hk
        obtain ⟨ys, hl1, hall, hsum⟩ := ih (by omega)
        obtain ⟨c, hc, hr⟩ := hi k (by omega)
        obtain ⟨_, hcl, hcell⟩ := World.cells?_some hc
        rw [hC] at hcl hcell
        obtain ⟨y, hK, hg, hw⟩ := h H enc w base spare held n c _ hr
        refine ⟨ys ++ [y], by simp [hl1], ?_, ?_⟩
        · intro i z hz
          by_cases e1 : i < k
          · rw [List.getElem?_append_left (by omega)] at hz
            exact hall i z hz
          · have hil := (List.getElem?_eq_some_iff.1 hz).1
            simp [hl1] at hil
            obtain rfl : i = k := by omega
            rw [List.getElem?_append_right (by omega), hl1] at hz
            simp at hz
            subst hz
            refine ⟨⟨c, hcl, hK, fun j u hj => ?_⟩, hg⟩
            have hjl : j < c.length := (List.getElem?_eq_some_iff.1 hj).1
            rw [hC] at *
            rw [← Go.Deep.add_add, hcell j (by omega), hj]
        · rw [List.range_succ, List.map_append, List.map_append, List.sum_append, bulk_append]
          have hw' : wt y ≤ Rows.uptoBulk (D k) := hw
          simp [Rows.uptoBulkAll]
          omega
    obtain ⟨ys, hl1, hall, hsum⟩ := build len (Nat.le_refl _)
    refine ⟨ys, ⟨some a, cap, by rw [hl1], by omega, rfl, ?_, fun _ => ⟨a, rfl, fun j p hp => (hall j p hp).1⟩⟩, ?_, ?_⟩
    · simp [maxLen] at hm ⊢
      omega
    · intro y hy
      obtain ⟨i, hi'⟩ := List.getElem?_of_mem hy
      exact (hall i y hi').2
    · simp only [Rows.uptoBulk]
      omega

/-- Fields in line, the first of them at offset o. -/
def OpensF (P : Program) (o : Nat) (fs : List Field) {α : Type} (d : Kd α) (good : α → Prop) (wt : α → Nat) : Prop :=
  ∀ (H : Type) (enc : TypeId × Value → H) (w : World) (base : Nat) (spare : Nat → Bool) (held : Bool) (n : Nat) (cs : List Value) (xs : List (DataW H × List MemPlace)), cs.length = d.sz → xs.length = fs.length →
    (∀ (i : Nat) (f : Field), fs[i]? = some f → DataW.trod enc P w base spare held n f.type ((cs.drop (f.offset - o)).take (P.cellsOf f.type)) = xs[i]?) → ∃ y : α, d.K w y cs ∧ good y ∧ wt y ≤ Rows.uptoBulkAll (xs.map (·.1))
theorem one {o : Nat} {f : Field} {α : Type} {d : Kd α} {good : α → Prop} {wt : α → Nat} (ho : f.offset = o) (hC : P.cellsOf f.type = d.sz) (h : Opens P f.type d good wt) : OpensF P o [f] d good wt := by
  intro H enc w base spare held n cs xs hcl hxl hf
  have h0 := hf 0 f rfl
  match xs, hxl with
  | [x], _ =>
    rw [ho, Nat.sub_self, List.drop_zero, hC, ← hcl, List.take_length] at h0
    obtain ⟨y, hK, hg, hw⟩ := h H enc w base spare held n cs x h0
    exact ⟨y, hK, hg, by simpa [Rows.uptoBulkAll] using hw⟩
theorem more {o : Nat} {f : Field} {fs : List Field} {α β : Type} {d : Kd α} {d' : Kd β} {good : α → Prop} {good' : β → Prop} {wt : α → Nat} {wt' : β → Nat} (ho : f.offset = o) (hC : P.cellsOf f.type = d.sz)
    (h : Opens P f.type d good wt) (hfs : ∀ g ∈ fs, o + d.sz ≤ g.offset) (h' : OpensF P (o + d.sz) fs d' good' wt') :
    OpensF P o (f :: fs) (Kd.pair d d') (fun y => good y.1 ∧ good' y.2) (fun y => wt y.1 + wt' y.2) := by
  intro H enc w base spare held n cs xs hcl hxl hf
  have hcl' : cs.length = d.sz + d'.sz := hcl
  have h0 := hf 0 f rfl
  match xs, hxl with
  | x :: xr, hxl =>
    rw [ho, Nat.sub_self, List.drop_zero, hC] at h0
    obtain ⟨y, hK, hg, hw⟩ := h H enc w base spare held n _ x h0
    obtain ⟨z, hK', hg', hw'⟩ := h' H enc w base spare held n (cs.drop d.sz) xr (by rw [List.length_drop]; omega) (by simpa using hxl) (fun i g hgi => by
      have h1 := hf (i + 1) g hgi
      have h2 := hfs g (List.mem_of_getElem? hgi)
      rw [List.drop_drop, show d.sz + (g.offset - (o + d.sz)) = g.offset - o by omega]
      simpa using h1)
    refine ⟨(y, z), ⟨cs.take d.sz, cs.drop d.sz, (List.take_append_drop _ _).symm, hK, hK'⟩, ⟨hg, hg'⟩, ?_⟩
    simp only [List.map_cons, Rows.uptoBulkAll]
    omega
theorem struct {fs : Array Field} {α : Type} {d : Kd α} {good : α → Prop} {wt : α → Nat} (ht : P.underlying t = some (.struct fs)) (hC : P.cellsOf t = d.sz) (h : OpensF P 0 fs.toList d good wt) : Opens P t d good (fun y => wt y + 1) := by
  intro H enc w base spare held fuel cs x hx
  obtain ⟨xs, n, _, rfl, hcl, hxl, hf⟩ := DataW.trod_struct ht hx
  obtain ⟨y, hK, hg, hw⟩ := h H enc w base spare held n cs xs (hcl.trans hC) (by simpa using hxl) (fun i f hi => by
    rw [Nat.sub_zero]
    exact hf i f (by simpa using hi))
  exact ⟨y, hK, hg, by simp only [Rows.uptoBulk]; omega⟩
/-- By a Lean structure's fields. -/
theorem iso {α β : Type} {d : Kd α} {good : α → Prop} {wt : α → Nat} (h : Opens P t d good wt) (f : β → α) (g : α → β) (hfg : ∀ x, f (g x) = x) : Opens P t (Kd.iso d f) (fun y => good (f y)) (fun y => wt (f y)) := by
  intro H enc w base spare held fuel cs x hx
  obtain ⟨y, hK, hg, hw⟩ := h H enc w base spare held fuel cs x hx
  refine ⟨g y, ?_, by show good (f (g y)); rw [hfg]; exact hg, by show wt (f (g y)) ≤ _; rw [hfg]; exact hw⟩
  show d.K w (f (g y)) cs
  rw [hfg]
  exact hK
/-- a parameter that is a slice -/
theorem arg_slice {H : Type} {enc : TypeId × Value → H} {w : World} {base : Nat} {spare : Nat → Bool} {held : Bool} {v : Value} {x : DataW H} {ps : List MemPlace} {r : Reach} {b0 : Nat} {α : Type} {d : Kd α} {good : List α → Prop} {wt : List α → Nat}
    (ht : P.underlying t = some (.slice e)) (h : Opens P t (Kd.slice e d) good wt) (hv : Value.okWide P w r b0 t v) (hx : DataW.Trod enc P w base spare held t v x ps) :
    ∃ (A : Option Addr) (c : Nat) (y : List α), v = .slice A y.length c ∧ y.length ≤ c ∧ d.C w A y.length y ∧ good y ∧ wt y ≤ Rows.uptoBulk x := by
  obtain ⟨A, n, c, rfl⟩ := okWide_slice ht hv
  obtain ⟨fuel, hf⟩ := hx
  obtain ⟨y, ⟨A', c', he, hl, hC⟩, hg, hw⟩ := h H enc w base spare held fuel _ _ hf
  have he' : [Value.slice A n c] = [.slice A' y.length c'] := he
  injection he' with he' _
  injection he' with h1 h2 h3
  subst h1; subst h3
  exact ⟨A, c, y, by rw [h2], hl, hC, hg, hw⟩
/-- a parameter that is a struct -/
theorem arg_struct {H : Type} {enc : TypeId × Value → H} {w : World} {base : Nat} {spare : Nat → Bool} {held : Bool} {v : Value} {x : DataW H} {ps : List MemPlace} {r : Reach} {b0 : Nat} {α : Type} {d : Kd α} {good : α → Prop} {wt : α → Nat} {fs : Array Field}
    (ht : P.underlying t = some (.struct fs)) (h : Opens P t d good wt) (hv : Value.okWide P w r b0 t v) (hx : DataW.Trod enc P w base spare held t v x ps) :
    ∃ (cs : Array Value) (y : α), v = .agg cs ∧ d.K w y cs.toList ∧ good y ∧ wt y ≤ Rows.uptoBulk x := by
  obtain ⟨cs, rfl, _⟩ := okWide_struct ht hv
  obtain ⟨fuel, hf⟩ := hx
  obtain ⟨y, hK, hg, hw⟩ := h H enc w base spare held fuel _ _ hf
  exact ⟨cs, y, rfl, hK, hg, hw⟩
end
end Go.Proofs.Ytknagjiipelfnaa.Opn
namespace Go.Proofs.Ytknagjiipelfnaa.NO
open Go.RowKit Go.WideShapes Go.ChangeShapes Go.Proofs.YtknagjiipelfnaaW.PrintWords Go.Proofs.YtknagjiipelfnaaW.PrintLast Go.Proofs.YtknagjiipelfnaaW.PrintMore Go.Proofs.Ytknagjiipelfnaa.PAll

def gdN (x : S50) : Prop := True ∧ True ∧ True ∧ (Lit.int .i64 x.f3).wf = true ∧ (Lit.int .i64 x.f4).wf = true ∧ (Lit.int .i64 x.f5).wf = true ∧ (Lit.int .i64 x.f6).wf = true
def hvN (x : S50) : Nat := (x.f0.size + 1) + (1 + ((x.f2.size + 1) + (1 + (1 + (1 + 1))))) + 1
set_option maxRecDepth 100000 in
theorem openN : Opn.Opens Try.prog 50 k50 gdN hvN :=
  Opn.iso (Opn.struct Try.underlying50 (by kernel_rfl) (Opn.more rfl (by kernel_rfl) (Opn.string Try.underlying9) (by decide) (Opn.more rfl (by kernel_rfl) (Opn.bool Try.underlying4) (by decide) (Opn.more rfl (by kernel_rfl) (Opn.string Try.underlying9) (by decide)
    (Opn.more rfl (by kernel_rfl) (Opn.int Try.underlying3) (by decide) (Opn.more rfl (by kernel_rfl) (Opn.int Try.underlying3) (by decide) (Opn.more rfl (by kernel_rfl) (Opn.int Try.underlying3) (by decide) (Opn.one rfl (by kernel_rfl) (Opn.int Try.underlying3)))))))))
    (fun x : S50 => (x.f0, x.f1, x.f2, x.f3, x.f4, x.f5, x.f6)) (fun y => ⟨y.1, y.2.1, y.2.2.1, y.2.2.2.1, y.2.2.2.2.1, y.2.2.2.2.2.1, y.2.2.2.2.2.2⟩) (fun _ => rfl)
set_option maxRecDepth 100000 in
theorem openNs : Opn.Opens Try.prog 26 (Kd.slice 50 k50) (fun xs => ∀ x, x ∈ xs → gdN x) (fun xs => (xs.map hvN).sum + 1) := Opn.slice Try.underlying26 (by kernel_rfl) openN
theorem len_le {α : Type} (h : α → Nat) (hp : ∀ x, 1 ≤ h x) (l : List α) : l.length ≤ (l.map h).sum := by
  induction l with
  | nil => exact Nat.le_refl _
  | cons x r ih =>
    have := hp x
    simp only [List.map_cons, List.sum_cons, List.length_cons]
    omega
theorem lenN (l : List S50) : l.length ≤ (l.map hvN).sum := len_le hvN (fun x => by unfold hvN; omega) l
theorem kids_of {l : List S50} (h : ∀ x, x ∈ l → gdN x) : ∀ x ∈ l, x.f5 ≤ 9223372036854775807 := fun x hx => by
  have := (h x hx).2.2.2.2.2.1
  have h2 := Bool.and_eq_true _ _ |>.mp this
  exact of_decide_eq_true h2.2
def hvM (x : OL.Mk) : Nat := (x.1.size + 1) + (x.2.size + 1) + 1
set_option maxRecDepth 100000 in
theorem openM : Opn.Opens Try.prog 129 OL.k129 (fun _ => True ∧ True) hvM :=
  Opn.struct Try.underlying129 (by kernel_rfl) (Opn.more rfl (by kernel_rfl) (Opn.string Try.underlying9) (by decide) (Opn.one rfl (by kernel_rfl) (Opn.string Try.underlying9)))
abbrev kX : Kd (List ByteArray × List OL.Mk) := Kd.pair (Kd.slice 9 Kd.string) (Kd.slice 129 OL.k129)
set_option maxRecDepth 100000 in
theorem openX : Opn.Opens Try.prog 25 kX (fun y => (∀ x, x ∈ y.1 → True) ∧ (∀ x, x ∈ y.2 → True ∧ True)) (fun y => (((y.1.map fun s => s.size + 1).sum + 1) + ((y.2.map hvM).sum + 1)) + 1) :=
  Opn.struct Try.underlying25 (by kernel_rfl) (Opn.more rfl (by kernel_rfl) (Opn.slice Try.underlying22 (by kernel_rfl) (Opn.string Try.underlying9)) (by decide) (Opn.one rfl (by kernel_rfl) (Opn.slice Try.underlying23 (by kernel_rfl) openM)))
set_option maxRecDepth 100000 in
/-- Lines by their parts. -/
theorem open_lines {H : Type} {enc : TypeId × Value → H} {w : World} {base : Nat} {spare : Nat → Bool} {held : Bool} {v : Value} {x : DataW H} {ps : List MemPlace} {r : Reach} {b0 : Nat}
    (hv : Value.okWide Try.prog w r b0 25 v) (hx : DataW.Trod enc Try.prog w base spare held 25 v x ps) :
    ∃ (FA MA : Option Addr) (cf cm : Nat) (fs : List ByteArray) (ms : List OL.Mk), v = .agg #[.slice FA fs.length cf, .slice MA ms.length cm] ∧ fs.length ≤ cf ∧ Kd.string.C w FA fs.length fs ∧ ms.length ≤ cm ∧ OL.k129.C w MA ms.length ms ∧ fs.length + ms.length ≤ Rows.uptoBulk x := by
  obtain ⟨cs, ⟨fs, ms⟩, rfl, hK, _, hw⟩ := Opn.arg_struct Try.underlying25 openX hv hx
  obtain ⟨_, _, e0, ⟨FA, cf, rfl, hcf, hF⟩, ⟨MA, cm, rfl, hcm, hM⟩⟩ := hK
  obtain rfl : cs = #[.slice FA fs.length cf, .slice MA ms.length cm] := by
    apply Array.ext'
    rw [e0]
    rfl
  have h1 := len_le (fun s : ByteArray => s.size + 1) (fun s => by omega) fs
  have h2 := len_le hvM (fun s => by unfold hvM; omega) ms
  simp only at hw
  exact ⟨FA, MA, cf, cm, fs, ms, rfl, hcf, hF, hcm, hM, by omega⟩
end Go.Proofs.Ytknagjiipelfnaa.NO
