/- A region that draws its order, some of whose operations make new memory (their values hang on where it lies): one walk in the text's order serves every order. A region that draws its order, one of whose operations stores into memory that the region itself has made: one walk in the text's order serves every order. -/
import Derived.Deep.Quiet
import Derived.Below
namespace Go.Proofs.Ytknagjiipelfnaa.Sched
open Go Go.RowKit

/-- What one operation has yielded in the world w: the value v, the world as it was but for what is new. -/
def calmUpon (P : Program) (w : World) (v : Value) : Result Next → Prop
  | .ok (.value u) w' => w' = w ∧ u = v
  | .ok .skip w' => w' = w ∧ v = undef
  | .ok (.enter f args) w' => w' = w ∧ Calls P f args w (fun e w'' => e = .returned v ∧ Below w.heap.size w w'')
  | _ => False
def calmAt (P : Program) (o : Oper) (a : Act) (w : World) (v : Value) : Prop := calmUpon P w v ((execOp a.eval o).run P w)
abbrev Fact := Value → World → Prop
def KeptF (F : Fact) : Prop := ∀ x w w', F x w → Below w.heap.size w w' → F x w'

/-! ### what is asked of the region's text: a Bool -/
def dstOf (ops : Array Oper) (k : Nat) : Option Tmp := (ops[k]?).bind (·.dst)
def waits (ops : Array Oper) (md : Region.Mode) (j i : Nat) : Bool := match ops[j]? with | some o => o.after.any (fun e => Region.binds md e && e.on == i) | none => false
def okB (md : Region.Mode) (ops : Array Oper) : Bool :=
  Region.noSelect ops && (List.range ops.size).all fun j => match ops[j]? with
    | none => true
    | some oj => (oj.after.all fun e => !Region.binds md e || decide (e.on < j)) &&
      (List.range ops.size).all fun i => match dstOf ops i with
        | none => true
        | some d => (i == j || dstOf ops j != some d) && (!(oj.looksAt ops).contains d || (decide (i < j) && waits ops md j i) || (decide (j < i) && waits ops md i j) || i == j)
section
variable {ops : Array Oper} {md : Region.Mode}
theorem ok_select (h : okB md ops = true) : Region.noSelect ops = true := by
  unfold okB at h
  rw [Bool.and_eq_true] at h
  exact h.1
theorem ok_at (h : okB md ops = true) {j : Nat} {oj : Oper} (hj : ops[j]? = some oj) :
    (∀ e ∈ oj.after, Region.binds md e = true → e.on < j) ∧ ∀ i d, dstOf ops i = some d → (i = j ∨ dstOf ops j ≠ some d) ∧ (d ∈ oj.looksAt ops → (i < j ∧ waits ops md j i = true) ∨ (j < i ∧ waits ops md i j = true) ∨ i = j) := by
  unfold okB at h
  simp only [Bool.and_eq_true, List.all_eq_true, List.mem_range] at h
  have h1 := h.2 j (Array.getElem?_eq_some_iff.1 hj).1
  simp only [hj, Bool.and_eq_true, List.all_eq_true, List.mem_range] at h1
  refine ⟨fun e he hb => ?_, fun i d hi => ?_⟩
  · have h2 := Array.all_eq_true_iff_forall_mem.1 h1.1 e he
    simp only [hb, Bool.not_true, Bool.false_or, decide_eq_true_eq] at h2
    exact h2
  · have hlt : i < ops.size := by
      unfold dstOf at hi
      rcases Nat.lt_or_ge i ops.size with h' | h'
      · exact h'
      · rw [Array.getElem?_eq_none h'] at hi; cases hi
    have h2 := h1.2 i hlt
    simp only [hi, Bool.and_eq_true, Bool.or_eq_true, beq_iff_eq, bne_iff_ne, Bool.not_eq_true', decide_eq_true_eq] at h2
    refine ⟨h2.1, fun hd => ?_⟩
    rcases h2.2 with ((h3 | h3) | h3) | h3
    · have : (oj.looksAt ops).contains d = true := by simpa using hd
      rw [h3] at this
      cases this
    · exact .inl h3
    · exact .inr (.inl h3)
    · exact .inr (.inr h3)
theorem waits_mem {j i : Nat} (h : waits ops md j i = true) : ∃ o, ops[j]? = some o ∧ ∃ e ∈ o.after, Region.binds md e = true ∧ e.on = i := by
  unfold waits at h
  split at h
  · rename_i o ho
    obtain ⟨e, he, hb⟩ := Array.any_eq_true'.1 h
    simp only [Bool.and_eq_true, beq_iff_eq] at hb
    exact ⟨o, ho, e, he, hb.1, hb.2⟩
  · cases h
end

/-! ### the walk, step by step -/
theorem put_get (a : Act) (dst : Option Tmp) (v : Value) (d : Tmp) (h : dst ≠ some d) : (a.put dst v).tmps[d]? = a.tmps[d]? := by
  cases dst with
  | none => rfl
  | some e =>
    have hne : e ≠ d := fun he => h (by rw [he])
    simp [Act.put, Array.getElem?_setIfInBounds_ne hne]
theorem put_size (a : Act) (dst : Option Tmp) (v : Value) : (a.put dst v).tmps.size = a.tmps.size := by cases dst <;> simp [Act.put]
theorem put_def (a : Act) (dst : Option Tmp) (v : Value) : (a.put dst v).defers = a.defers := by cases dst <;> rfl
theorem put_self (a b : Act) (d : Tmp) (v : Value) (h : a.tmps.size = b.tmps.size) : (a.put (some d) v).tmps[d]? = (b.put (some d) v).tmps[d]? := by
  simp [Act.put, Array.getElem?_setIfInBounds, h]
theorem eval_of {a b : Act} {o : Oper} {ops : Array Oper} (h : ∀ d ∈ o.looksAt ops, b.tmps[d]? = a.tmps[d]?) : ∀ x ∈ o.op.operands, b.eval x = a.eval x := by
  intro x hx
  cases x with
  | tmp d =>
    have hd : d ∈ o.looksAt ops := List.mem_append_left _ (List.mem_filterMap.2 ⟨.tmp d, by simpa using hx, rfl⟩)
    have := h d hd
    simp only [Act.eval, Array.getD_eq_getD_getElem?, this]
  | _ => rfl
theorem wanted_of {a b : Act} {o : Oper} {ops : Array Oper} (h : ∀ d ∈ o.looksAt ops, b.tmps[d]? = a.tmps[d]?) : Region.wanted o (yielded ops b.tmps) = Region.wanted o (yielded ops a.tmps) := by
  unfold Region.wanted
  cases hg : o.guard with
  | none => rfl
  | some gw =>
    obtain ⟨g, want⟩ := gw
    have hy : yielded ops b.tmps g = yielded ops a.tmps g := by
      unfold yielded
      cases ht : (ops[g]?).bind (·.dst) with
      | none => rfl
      | some t =>
        have := h t (by simp [Oper.looksAt, hg, ht])
        simp [this]
    simp only [hy]
theorem getD_tf {listed : Array Bool} {j : Nat} (h : listed.getD j true = false) : j < listed.size ∧ listed.getD j false = false := by
  rw [Array.getD_eq_getD_getElem?] at h
  rcases Nat.lt_or_ge j listed.size with h' | h'
  · refine ⟨h', ?_⟩
    rw [Array.getElem?_eq_getElem h'] at h
    rw [Array.getD_eq_getD_getElem?, Array.getElem?_eq_getElem h']
    exact h
  · rw [Array.getElem?_eq_none h'] at h; cases h
theorem getD_ft {listed : Array Bool} {j : Nat} (hj : j < listed.size) (h : listed.getD j false = false) : listed.getD j true = false := by
  rw [Array.getD_eq_getD_getElem?, Array.getElem?_eq_getElem hj] at h ⊢
  exact h
theorem set_self {listed : Array Bool} {j : Nat} (hj : j < listed.size) : (listed.setIfInBounds j true).getD j false = true := by
  rw [Array.getD_eq_getD_getElem?]
  simp [hj]
theorem set_other {listed : Array Bool} {i j : Nat} (h : i ≠ j) : (listed.setIfInBounds i true).getD j false = listed.getD j false := by
  rw [Array.getD_eq_getD_getElem?, Array.getD_eq_getD_getElem?, Array.getElem?_setIfInBounds_ne h]
def unl (ops : Array Oper) (listed : Array Bool) : Nat := (List.range ops.size).countP (fun i => !listed.getD i false)
theorem count_le {α : Type} {p q : α → Bool} (h : ∀ x, q x = true → p x = true) : ∀ l : List α, l.countP q ≤ l.countP p := by
  intro l
  induction l with
  | nil => simp
  | cons x r ih =>
    rw [List.countP_cons, List.countP_cons]
    by_cases hq : q x = true
    · rw [if_pos hq, if_pos (h x hq)]; omega
    · rw [if_neg hq]; omega
theorem count_lt {α : Type} {p q : α → Bool} (h : ∀ x, q x = true → p x = true) {y : α} (hp : p y = true) (hq : q y = false) : ∀ l : List α, y ∈ l → l.countP q < l.countP p := by
  intro l
  induction l with
  | nil => intro hy; cases hy
  | cons x r ih =>
    intro hy
    rw [List.countP_cons, List.countP_cons]
    rcases List.mem_cons.1 hy with rfl | hy
    · have := count_le h r
      rw [if_pos hp, if_neg (by simp [hq])]; omega
    · have := ih hy
      by_cases hx : q x = true
      · rw [if_pos hx, if_pos (h x hx)]; omega
      · rw [if_neg hx]; omega
theorem unl_step {ops : Array Oper} {listed : Array Bool} {j : Nat} (hs : listed.size = ops.size) (hj : j < ops.size) (hu : listed.getD j false = false) : unl ops (listed.setIfInBounds j true) < unl ops listed := by
  unfold unl
  refine count_lt (y := j) (fun x hx => ?_) (by simp only [hu, Bool.not_false]) ?_ _ (List.mem_range.2 hj)
  · by_cases e : j = x
    · subst e
      rw [set_self (by rw [hs]; exact hj)] at hx
      cases hx
    · rwa [set_other e] at hx
  · rw [set_self (by rw [hs]; exact hj)]; rfl
theorem unl_zero {ops : Array Oper} {listed : Array Bool} (h : unl ops listed = 0) : ∀ i, i < ops.size → listed.getD i false = true := by
  intro i hi
  unfold unl at h
  rw [List.countP_eq_zero] at h
  have := h i (List.mem_range.2 hi)
  simpa using this
theorem all_of_ready {md : Region.Mode} {ops : Array Oper} {listed : Array Bool} (hok : okB md ops = true) (hs : listed.size = ops.size) (h : Region.ready md ops listed = []) : ∀ i, i < ops.size → listed.getD i false = true := by
  intro i
  induction i using Nat.strongRecOn with
  | ind i ih =>
    intro hi
    cases hu : listed.getD i false with
    | true => rfl
    | false =>
      have ho := Array.getElem?_eq_getElem hi
      have hm : i ∈ Region.ready md ops listed := mem_ready.2 ⟨getD_ft (by rw [hs]; exact hi) hu, _, ho, fun e he hb => by
        have hlt := (ok_at hok ho).1 e he hb
        exact ih e.on hlt (by omega)⟩
      rw [h] at hm
      cases hm
section
variable {P : Program} {ops : Array Oper} {md : Region.Mode} {W : World} {A : Nat → Act} {Fr : Nat → List (Tmp × Fact)} {Q : Exit → Act → World → Prop}
theorem calm_wp {o : Oper} {a b : Act} {w : World} {v : Value} {K : Act → World → Prop} (he : execOp b.eval o = execOp a.eval o) (h : calmAt P o a w v) (hK : ∀ w', Below w.heap.size w w' → K (b.put o.dst v) w') : o.wp P b w K Q := by
  unfold Oper.wp
  unfold calmAt at h
  rw [he]
  generalize (execOp a.eval o).run P w = r at *
  cases r with
  | ok n w' =>
    cases n <;> simp only [calmUpon] at h <;> simp only [Oper.upon]
    case value u =>
      obtain ⟨e1, e2⟩ := h
      rw [e1, e2]
      exact hK _ (Below.refl _ _)
    case skip =>
      obtain ⟨e1, e2⟩ := h
      rw [e1, ← e2]
      exact hK _ (Below.refl _ _)
    case enter f args =>
      obtain ⟨e1, hc⟩ := h
      rw [e1]
      exact hc.mono fun e w'' ⟨he, hw''⟩ => by subst he; exact hK _ hw''
  | halt x w' => simp only [calmUpon] at h
end

/-! ### one operation at a time, what follows behind a variable -/
theorem off_nil {o : Oper} {ops : Array Oper} : ∀ p ∈ ([] : List (Tmp × Fact)), p.1 ∉ o.looksAt ops := by simp
theorem off_one {o : Oper} {ops : Array Oper} {d : Tmp} {F : Fact} (h : (o.looksAt ops).contains d = false) : ∀ p ∈ [(d, F)], p.1 ∉ o.looksAt ops := by
  intro p hp
  rw [List.mem_singleton.1 hp]
  simpa using h
theorem on_one {o : Oper} {ops : Array Oper} {d : Tmp} (h : (o.looksAt ops).contains d = true) : d ∈ o.looksAt ops := by simpa using h
theorem but_one {o : Oper} {ops : Array Oper} {d : Tmp} {F : Fact} : ∀ p ∈ [(d, F)], p.1 ≠ d → p.1 ∉ o.looksAt ops := by
  intro p hp hne
  rw [List.mem_singleton.1 hp] at hne
  exact absurd rfl hne
end Go.Proofs.Ytknagjiipelfnaa.Sched
namespace Go.Proofs.Ytknagjiipelfnaa.Sched2
open Go Go.RowKit Go.Proofs.Ytknagjiipelfnaa.Sched

/-- How one operation turns the world: it only adds, or it stores (Mv). -/
def KeptM (Mv : World → World → Prop) (F : Fact) : Prop := ∀ x w w', F x w → (Below w.heap.size w w' ∨ Mv w w') → F x w'

/-- The walk in the text's order. fr: the slots whose values are new memory, and what is known of each. -/
inductive Sch (P : Program) (ops : Array Oper) (W : World) (Mv : World → World → Prop) : List (Tmp × Fact) → List (Tmp × Fact) → List Oper → Act → List (Tmp × Fact) → List (Tmp × Fact) → Act → Prop
  | nil (fr ws : List (Tmp × Fact)) (a : Act) : Sch P ops W Mv fr ws [] a fr ws a
  | fix {fr fr' ws ws' : List (Tmp × Fact)} {o : Oper} {rest : List Oper} {a a' : Act} (v : Value) (hl : ∀ p ∈ fr, p.1 ∉ o.looksAt ops)
      (h : ∀ w, Below W.heap.size W w → if Region.wanted o (yielded ops a.tmps) = true then calmAt P o a w v else v = undef) (hr : Sch P ops W Mv fr ws rest (a.put o.dst v) fr' ws' a') : Sch P ops W Mv fr ws (o :: rest) a fr' ws' a'
  | fresh {fr fr' ws ws' : List (Tmp × Fact)} {o : Oper} {rest : List Oper} {a a' : Act} (d : Tmp) (F : Fact) (hd : o.dst = some d) (hg : o.guard = none) (hl : ∀ p ∈ fr, p.1 ∉ o.looksAt ops) (hk : KeptM Mv F)
      (h : ∀ w, Below W.heap.size W w → ∃ x w', (execOp a.eval o).run P w = .ok (.value x) w' ∧ Below w.heap.size w w' ∧ F x w') (hr : Sch P ops W Mv ((d, F) :: fr) ws rest (a.put (some d) undef) fr' ws' a') : Sch P ops W Mv fr ws (o :: rest) a fr' ws' a'
  | look {fr fr' ws ws' : List (Tmp × Fact)} {o : Oper} {rest : List Oper} {a a' : Act} (v : Value) (d : Tmp) (F : Fact) (hf : (d, F) ∈ fr) (hg : o.guard = none) (hk : d ∈ o.looksAt ops) (hl : ∀ p ∈ fr, p.1 ≠ d → p.1 ∉ o.looksAt ops)
      (h : ∀ x w, Below W.heap.size W w → F x w → calmAt P o (a.put (some d) x) w v) (hr : Sch P ops W Mv fr ws rest (a.put o.dst v) fr' ws' a') : Sch P ops W Mv fr ws (o :: rest) a fr' ws' a'
  | write {fr fr' ws ws' : List (Tmp × Fact)} {o : Oper} {rest : List Oper} {a a' : Act} (d : Tmp) (F G : Fact) (hf : (d, F) ∈ fr) (hd : o.dst = none) (hg : o.guard = none) (hk : d ∈ o.looksAt ops) (hl : ∀ p ∈ fr, p.1 ≠ d → p.1 ∉ o.looksAt ops) (hG : KeptM Mv G)
      (h : ∀ x w, Below W.heap.size W w → F x w → ∃ w', (execOp (a.put (some d) x).eval o).run P w = .ok .skip w' ∧ Mv w w' ∧ Below W.heap.size W w' ∧ G x w') (hr : Sch P ops W Mv fr ((d, G) :: ws) rest a fr' ws' a') : Sch P ops W Mv fr ws (o :: rest) a fr' ws' a'

/-! ### the walk, step by step -/
section
variable {P : Program} {ops : Array Oper} {W : World} {Mv : World → World → Prop}
def StepAt (P : Program) (ops : Array Oper) (W : World) (Mv : World → World → Prop) (A : Nat → Act) (Fr Ws : Nat → List (Tmp × Fact)) (k : Nat) : Prop :=
  ∃ o, ops[k]? = some o ∧ (
    (∃ v, (∀ p ∈ Fr k, p.1 ∉ o.looksAt ops) ∧ (∀ w, Below W.heap.size W w → if Region.wanted o (yielded ops (A k).tmps) = true then calmAt P o (A k) w v else v = undef) ∧ A (k + 1) = (A k).put o.dst v ∧ Fr (k + 1) = Fr k ∧ Ws (k + 1) = Ws k) ∨
    (∃ d F, o.dst = some d ∧ o.guard = none ∧ (∀ p ∈ Fr k, p.1 ∉ o.looksAt ops) ∧ KeptM Mv F ∧ (∀ w, Below W.heap.size W w → ∃ x w', (execOp (A k).eval o).run P w = .ok (.value x) w' ∧ Below w.heap.size w w' ∧ F x w') ∧ A (k + 1) = (A k).put o.dst undef ∧ Fr (k + 1) = (d, F) :: Fr k ∧ Ws (k + 1) = Ws k) ∨
    (∃ v d F, (d, F) ∈ Fr k ∧ o.guard = none ∧ d ∈ o.looksAt ops ∧ (∀ p ∈ Fr k, p.1 ≠ d → p.1 ∉ o.looksAt ops) ∧ (∀ x w, Below W.heap.size W w → F x w → calmAt P o ((A k).put (some d) x) w v) ∧ A (k + 1) = (A k).put o.dst v ∧ Fr (k + 1) = Fr k ∧ Ws (k + 1) = Ws k) ∨
    (∃ d F G, (d, F) ∈ Fr k ∧ o.dst = none ∧ o.guard = none ∧ d ∈ o.looksAt ops ∧ (∀ p ∈ Fr k, p.1 ≠ d → p.1 ∉ o.looksAt ops) ∧ KeptM Mv G ∧ (∀ x w, Below W.heap.size W w → F x w → ∃ w', (execOp ((A k).put (some d) x).eval o).run P w = .ok .skip w' ∧ Mv w w' ∧ Below W.heap.size W w' ∧ G x w') ∧ A (k + 1) = A k ∧ Fr (k + 1) = Fr k ∧ Ws (k + 1) = (d, G) :: Ws k))
theorem Sch.seq {fr fr' ws ws' : List (Tmp × Fact)} {l : List Oper} {a a' : Act} (h : Sch P ops W Mv fr ws l a fr' ws' a') : ∀ k0, (∀ j, l[j]? = ops[k0 + j]?) →
    ∃ (A : Nat → Act) (Fr Ws : Nat → List (Tmp × Fact)), A k0 = a ∧ Fr k0 = fr ∧ Ws k0 = ws ∧ A (k0 + l.length) = a' ∧ Fr (k0 + l.length) = fr' ∧ Ws (k0 + l.length) = ws' ∧ ∀ k, k0 ≤ k → k < k0 + l.length → StepAt P ops W Mv A Fr Ws k := by
  have glue : ∀ (k0 : Nat) (o : Oper) (rest : List Oper) (a a1 a' : Act) (fr fr1 fr' ws ws1 ws' : List (Tmp × Fact)), ops[k0]? = some o →
      (∃ (A : Nat → Act) (Fr Ws : Nat → List (Tmp × Fact)), A (k0 + 1) = a1 ∧ Fr (k0 + 1) = fr1 ∧ Ws (k0 + 1) = ws1 ∧ A (k0 + 1 + rest.length) = a' ∧ Fr (k0 + 1 + rest.length) = fr' ∧ Ws (k0 + 1 + rest.length) = ws' ∧ ∀ k, k0 + 1 ≤ k → k < k0 + 1 + rest.length → StepAt P ops W Mv A Fr Ws k) →
      (∀ (A : Nat → Act) (Fr Ws : Nat → List (Tmp × Fact)), A k0 = a → Fr k0 = fr → Ws k0 = ws → A (k0 + 1) = a1 → Fr (k0 + 1) = fr1 → Ws (k0 + 1) = ws1 → StepAt P ops W Mv A Fr Ws k0) →
      ∃ (A : Nat → Act) (Fr Ws : Nat → List (Tmp × Fact)), A k0 = a ∧ Fr k0 = fr ∧ Ws k0 = ws ∧ A (k0 + (o :: rest).length) = a' ∧ Fr (k0 + (o :: rest).length) = fr' ∧ Ws (k0 + (o :: rest).length) = ws' ∧ ∀ k, k0 ≤ k → k < k0 + (o :: rest).length → StepAt P ops W Mv A Fr Ws k := by
    intro k0 o rest a a1 a' fr fr1 fr' ws ws1 ws' _ ⟨A, Fr, Ws, h1, h2, h3, h4, h5, h6, h7⟩ hs
    obtain ⟨B, b0, b1⟩ : ∃ B : Nat → Act, B k0 = a ∧ ∀ k, k0 + 1 ≤ k → B k = A k := ⟨fun k => if k = k0 then a else A k, by simp, fun k hk => if_neg (by omega)⟩
    obtain ⟨Gr, g0, g1⟩ : ∃ Gr : Nat → List (Tmp × Fact), Gr k0 = fr ∧ ∀ k, k0 + 1 ≤ k → Gr k = Fr k := ⟨fun k => if k = k0 then fr else Fr k, by simp, fun k hk => if_neg (by omega)⟩
    obtain ⟨Us, u0, u1⟩ : ∃ Us : Nat → List (Tmp × Fact), Us k0 = ws ∧ ∀ k, k0 + 1 ≤ k → Us k = Ws k := ⟨fun k => if k = k0 then ws else Ws k, by simp, fun k hk => if_neg (by omega)⟩
    have e : k0 + (o :: rest).length = k0 + 1 + rest.length := by simp; omega
    refine ⟨B, Gr, Us, b0, g0, u0, ?_, ?_, ?_, ?_⟩
    · rw [e, b1 _ (by omega), h4]
    · rw [e, g1 _ (by omega), h5]
    · rw [e, u1 _ (by omega), h6]
    · intro k hk hk2
      by_cases he : k = k0
      · subst he
        exact hs B Gr Us b0 g0 u0 (by rw [b1 _ (by omega), h1]) (by rw [g1 _ (by omega), h2]) (by rw [u1 _ (by omega), h3])
      · have h8 := h7 k (by omega) (by omega)
        unfold StepAt at h8 ⊢
        rw [b1 _ (show k0 + 1 ≤ k by omega), g1 _ (show k0 + 1 ≤ k by omega), u1 _ (show k0 + 1 ≤ k by omega), b1 _ (show k0 + 1 ≤ k + 1 by omega), g1 _ (show k0 + 1 ≤ k + 1 by omega), u1 _ (show k0 + 1 ≤ k + 1 by omega)]
        exact h8
  induction h with
  | nil fr ws a => intro k0 _; exact ⟨fun _ => a, fun _ => fr, fun _ => ws, rfl, rfl, rfl, rfl, rfl, rfl, fun k h1 h2 => by simp at h2; omega⟩
  | @fix fr fr' ws ws' o rest a a' v hl h hr ih =>
    intro k0 hj
    have ho : ops[k0]? = some o := by simpa using (hj 0).symm
    refine glue k0 o rest a _ a' fr _ fr' ws _ ws' ho (ih (k0 + 1) (fun j => by have := hj (j + 1); simpa [Nat.add_assoc, Nat.add_comm 1 j] using this)) ?_
    rintro A Fr Ws rfl rfl rfl h1 h2 h3
    exact ⟨o, ho, .inl ⟨v, hl, h, h1, h2, h3⟩⟩
  | @fresh fr fr' ws ws' o rest a a' d F hd hg hl hk h hr ih =>
    intro k0 hj
    have ho : ops[k0]? = some o := by simpa using (hj 0).symm
    refine glue k0 o rest a _ a' fr _ fr' ws _ ws' ho (ih (k0 + 1) (fun j => by have := hj (j + 1); simpa [Nat.add_assoc, Nat.add_comm 1 j] using this)) ?_
    rintro A Fr Ws rfl rfl rfl h1 h2 h3
    exact ⟨o, ho, .inr (.inl ⟨d, F, hd, hg, hl, hk, h, by rw [hd]; exact h1, h2, h3⟩)⟩
  | @look fr fr' ws ws' o rest a a' v d F hf hg hk hl h hr ih =>
    intro k0 hj
    have ho : ops[k0]? = some o := by simpa using (hj 0).symm
    refine glue k0 o rest a _ a' fr _ fr' ws _ ws' ho (ih (k0 + 1) (fun j => by have := hj (j + 1); simpa [Nat.add_assoc, Nat.add_comm 1 j] using this)) ?_
    rintro A Fr Ws rfl rfl rfl h1 h2 h3
    exact ⟨o, ho, .inr (.inr (.inl ⟨v, d, F, hf, hg, hk, hl, h, h1, h2, h3⟩))⟩
  | @write fr fr' ws ws' o rest a a' d F G hf hd hg hk hl hG h hr ih =>
    intro k0 hj
    have ho : ops[k0]? = some o := by simpa using (hj 0).symm
    refine glue k0 o rest a _ a' fr _ fr' ws _ ws' ho (ih (k0 + 1) (fun j => by have := hj (j + 1); simpa [Nat.add_assoc, Nat.add_comm 1 j] using this)) ?_
    rintro A Fr Ws rfl rfl rfl h1 h2 h3
    exact ⟨o, ho, .inr (.inr (.inr ⟨d, F, G, hf, hd, hg, hk, hl, hG, h, h1, h2, h3⟩))⟩
end

section
variable {P : Program} {ops : Array Oper} {md : Region.Mode} {W : World} {Mv : World → World → Prop} {A : Nat → Act} {Fr Ws : Nat → List (Tmp × Fact)}
theorem step_put {k : Nat} (h : StepAt P ops W Mv A Fr Ws k) : ∃ v, A (k + 1) = (A k).put (dstOf ops k) v := by
  obtain ⟨o, ho, h⟩ := h
  have e : dstOf ops k = o.dst := by unfold dstOf; rw [ho]; rfl
  rw [e]
  rcases h with ⟨v, _, _, h, _⟩ | ⟨_, _, _, _, _, _, _, h, _⟩ | ⟨v, _, _, _, _, _, _, _, h, _⟩ | ⟨_, _, _, _, hd, _, _, _, _, _, h, _⟩
  · exact ⟨v, h⟩
  · exact ⟨_, h⟩
  · exact ⟨v, h⟩
  · exact ⟨undef, by rw [hd]; exact h⟩
theorem step_fr {k : Nat} (h : StepAt P ops W Mv A Fr Ws k) : Fr (k + 1) = Fr k ∨ ∃ d F, Fr (k + 1) = (d, F) :: Fr k ∧ dstOf ops k = some d ∧ KeptM Mv F := by
  obtain ⟨o, ho, h⟩ := h
  have e : dstOf ops k = o.dst := by unfold dstOf; rw [ho]; rfl
  rw [e]
  rcases h with ⟨v, _, _, _, h, _⟩ | ⟨d, F, hd, _, _, hk, _, _, h, _⟩ | ⟨v, _, _, _, _, _, _, _, _, h, _⟩ | ⟨_, _, _, _, _, _, _, _, _, _, _, h, _⟩
  · exact .inl h
  · exact .inr ⟨d, F, h, hd, hk⟩
  · exact .inl h
  · exact .inl h
theorem step_ws {k : Nat} (h : StepAt P ops W Mv A Fr Ws k) : Ws (k + 1) = Ws k ∨ ∃ d G F, Ws (k + 1) = (d, G) :: Ws k ∧ (d, F) ∈ Fr k ∧ KeptM Mv G := by
  obtain ⟨o, ho, h⟩ := h
  rcases h with ⟨v, _, _, _, _, h⟩ | ⟨d, F, hd, _, _, hk, _, _, _, h⟩ | ⟨v, _, _, _, _, _, _, _, _, _, h⟩ | ⟨d, F, G, hf, _, _, _, _, hG, _, _, _, h⟩
  · exact .inl h
  · exact .inl h
  · exact .inl h
  · exact .inr ⟨d, G, F, h, hf, hG⟩
theorem A_size (hst : ∀ k, k < ops.size → StepAt P ops W Mv A Fr Ws k) {k : Nat} (hk : k ≤ ops.size) : (A k).tmps.size = (A 0).tmps.size ∧ (A k).defers = (A 0).defers := by
  induction k with
  | zero => exact ⟨rfl, rfl⟩
  | succ k ih =>
    obtain ⟨v, hv⟩ := step_put (hst k (by omega))
    rw [hv, put_size, put_def]
    exact ih (by omega)
theorem A_none (hst : ∀ k, k < ops.size → StepAt P ops W Mv A Fr Ws k) {k : Nat} (hk : k ≤ ops.size) (d : Tmp) (h : ∀ i, i < k → dstOf ops i ≠ some d) : (A k).tmps[d]? = (A 0).tmps[d]? := by
  induction k with
  | zero => rfl
  | succ k ih =>
    obtain ⟨v, hv⟩ := step_put (hst k (by omega))
    rw [hv, put_get _ _ _ _ (h k (by omega))]
    exact ih (by omega) (fun i hi => h i (by omega))
theorem uniq (hok : okB md ops = true) {i j : Nat} {d : Tmp} (hi : dstOf ops i = some d) (hj : dstOf ops j = some d) : i = j := by
  have hlt : j < ops.size := by
    unfold dstOf at hj
    rcases Nat.lt_or_ge j ops.size with h' | h'
    · exact h'
    · rw [Array.getElem?_eq_none h'] at hj; cases hj
  have := ((ok_at hok (Array.getElem?_eq_getElem hlt)).2 i d hi).1
  rcases this with h | h
  · exact h
  · exact absurd hj h
theorem A_writer (hst : ∀ k, k < ops.size → StepAt P ops W Mv A Fr Ws k) (hok : okB md ops = true) {i k : Nat} (hk : k ≤ ops.size) (hik : i < k) {d : Tmp} (hd : dstOf ops i = some d) : (A k).tmps[d]? = (A (i + 1)).tmps[d]? := by
  induction k with
  | zero => omega
  | succ k ih =>
    by_cases e : i = k
    · subst e; rfl
    · obtain ⟨v, hv⟩ := step_put (hst k (by omega))
      rw [hv, put_get _ _ _ _ (fun h => e (uniq hok hd h))]
      exact ih (by omega) (by omega)
theorem Fr_sub (hst : ∀ k, k < ops.size → StepAt P ops W Mv A Fr Ws k) {i k : Nat} (hik : i ≤ k) (hk : k ≤ ops.size) {p : Tmp × Fact} (h : p ∈ Fr i) : p ∈ Fr k := by
  induction k with
  | zero => obtain rfl : i = 0 := by omega
            exact h
  | succ k ih =>
    by_cases e : i = k + 1
    · subst e; exact h
    · have h1 := ih (by omega) (by omega)
      rcases step_fr (hst k (by omega)) with h2 | ⟨d, F, h2, _⟩
      · rw [h2]; exact h1
      · rw [h2]; exact List.mem_cons_of_mem _ h1
theorem Fr_mem (hst : ∀ k, k < ops.size → StepAt P ops W Mv A Fr Ws k) (hF0 : Fr 0 = []) {k : Nat} (hk : k ≤ ops.size) {p : Tmp × Fact} (h : p ∈ Fr k) : ∃ i, i < k ∧ Fr (i + 1) = p :: Fr i ∧ dstOf ops i = some p.1 ∧ KeptM Mv p.2 := by
  induction k with
  | zero => rw [hF0] at h; cases h
  | succ k ih =>
    rcases step_fr (hst k (by omega)) with h2 | ⟨d, F, h2, h3, h4⟩
    · rw [h2] at h
      obtain ⟨i, hi, h5⟩ := ih (by omega) h
      exact ⟨i, by omega, h5⟩
    · rw [h2] at h
      rcases List.mem_cons.1 h with rfl | h
      · exact ⟨k, by omega, h2, h3, h4⟩
      · obtain ⟨i, hi, h5⟩ := ih (by omega) h
        exact ⟨i, by omega, h5⟩
theorem Ws_mem (hst : ∀ k, k < ops.size → StepAt P ops W Mv A Fr Ws k) (hW0 : Ws 0 = []) {k : Nat} (hk : k ≤ ops.size) {p : Tmp × Fact} (h : p ∈ Ws k) : ∃ i, i < k ∧ Ws (i + 1) = p :: Ws i := by
  induction k with
  | zero => rw [hW0] at h; cases h
  | succ k ih =>
    rcases step_ws (hst k (by omega)) with h2 | ⟨d, G, F, h2, _⟩
    · rw [h2] at h
      obtain ⟨i, hi, h5⟩ := ih (by omega) h
      exact ⟨i, by omega, h5⟩
    · rw [h2] at h
      rcases List.mem_cons.1 h with rfl | h
      · exact ⟨k, by omega, h2⟩
      · obtain ⟨i, hi, h5⟩ := ih (by omega) h
        exact ⟨i, by omega, h5⟩
end

/-- Where a schedule stands: which operations have come up, the frame, the world. -/
structure Inv (ops : Array Oper) (md : Region.Mode) (W : World) (A : Nat → Act) (Fr Ws : Nat → List (Tmp × Fact)) (listed : Array Bool) (b : Act) (w : World) : Prop where
  size : listed.size = ops.size
  below : Below W.heap.size W w
  defers : b.defers = (A 0).defers
  tmps : b.tmps.size = (A 0).tmps.size
  s1 : ∀ i d, i < ops.size → listed.getD i false = true → dstOf ops i = some d → Fr (i + 1) = Fr i → b.tmps[d]? = (A (i + 1)).tmps[d]?
  s2 : ∀ i d F, i < ops.size → listed.getD i false = true → Fr (i + 1) = (d, F) :: Fr i → ∃ x, F x w ∧ b.tmps[d]? = ((A (i + 1)).put (some d) x).tmps[d]?
  s3 : ∀ d, (∀ i, i < ops.size → dstOf ops i = some d → listed.getD i false = false) → b.tmps[d]? = (A 0).tmps[d]?
  closed : ∀ i o, ops[i]? = some o → listed.getD i false = true → ∀ e ∈ o.after, Region.binds md e = true → listed.getD e.on false = true
  s4 : ∀ j d G, j < ops.size → listed.getD j false = true → Ws (j + 1) = (d, G) :: Ws j → (∃ i, dstOf ops i = some d ∧ listed.getD i false = true) ∧ ∃ x, G x w ∧ b.tmps[d]? = ((A 0).put (some d) x).tmps[d]?

section
variable {P : Program} {ops : Array Oper} {md : Region.Mode} {W : World} {Mv : World → World → Prop} {A : Nat → Act} {Fr Ws : Nat → List (Tmp × Fact)} {listed : Array Bool} {b : Act} {w : World}
/-- What an operation that may come up looks at stands as in the text's order. -/
theorem looks (hst : ∀ k, k < ops.size → StepAt P ops W Mv A Fr Ws k) (hok : okB md ops = true) (hI : Inv ops md W A Fr Ws listed b w) {j : Nat} {o : Oper} (ho : ops[j]? = some o) (hu : listed.getD j false = false) (hr : ∀ e ∈ o.after, Region.binds md e = true → listed.getD e.on false = true) {d : Tmp} (hd : d ∈ o.looksAt ops) :
    (b.tmps[d]? = (A j).tmps[d]?) ∨ ∃ i F, i < j ∧ listed.getD i false = true ∧ Fr (i + 1) = (d, F) :: Fr i ∧ dstOf ops i = some d := by
  have hj : j < ops.size := (Array.getElem?_eq_some_iff.1 ho).1
  have free : ∀ i, dstOf ops i = some d → j ≤ i → listed.getD i false = false → b.tmps[d]? = (A j).tmps[d]? := by
    intro i hi hji hli
    rw [hI.s3 d (fun i' _ hi' => by rw [uniq hok hi' hi]; exact hli), A_none hst (k := j) (by omega) d (fun i' hi' he => by have := uniq hok he hi; omega)]
  by_cases hw : ∃ i, dstOf ops i = some d
  · obtain ⟨i, hi⟩ := hw
    have hin : i < ops.size := by
      unfold dstOf at hi
      rcases Nat.lt_or_ge i ops.size with h' | h'
      · exact h'
      · rw [Array.getElem?_eq_none h'] at hi; cases hi
    rcases ((ok_at hok ho).2 i d hi).2 hd with ⟨h1, h2⟩ | ⟨h1, h2⟩ | h1
    · obtain ⟨o', ho', e, he, hb, hon⟩ := waits_mem h2
      rw [ho] at ho'
      injection ho' with ho'
      subst ho'
      have hli : listed.getD i false = true := by rw [← hon]; exact hr e he hb
      rcases step_fr (hst i hin) with h3 | ⟨d', F, h3, h4, _⟩
      · left
        rw [hI.s1 i d hin hli hi h3, A_writer hst hok (by omega) h1 hi]
      · rw [hi] at h4
        injection h4 with h4
        subst h4
        exact .inr ⟨i, F, h1, hli, h3, hi⟩
    · obtain ⟨o', ho', e, he, hb, hon⟩ := waits_mem h2
      left
      refine free i hi (by omega) ?_
      cases hl : listed.getD i false with
      | false => rfl
      | true =>
        have := hI.closed i o' ho' hl e he hb
        rw [hon, hu] at this
        cases this
    · subst h1
      exact .inl (free i hi (Nat.le_refl _) hu)
  · left
    rw [hI.s3 d (fun i _ hi => absurd ⟨i, hi⟩ hw), A_none hst (k := j) (by omega) d (fun i _ hi => hw ⟨i, hi⟩)]
/-- An operation has come up. -/
theorem Inv.step (hst : ∀ k, k < ops.size → StepAt P ops W Mv A Fr Ws k) (hok : okB md ops = true) (hI : Inv ops md W A Fr Ws listed b w) {j : Nat} {o : Oper} (ho : ops[j]? = some o) (hu : listed.getD j false = false) (hr : ∀ e ∈ o.after, Region.binds md e = true → listed.getD e.on false = true) {w' : World} {x : Value} (hb : Below W.heap.size W w') (hw : Below w.heap.size w w' ∨ Mv w w')
    (h1 : Fr (j + 1) = Fr j → A (j + 1) = (A j).put o.dst x) (h2 : ∀ d F, Fr (j + 1) = (d, F) :: Fr j → F x w') (h3 : ∀ d G, Ws (j + 1) = (d, G) :: Ws j → (∃ i, dstOf ops i = some d ∧ listed.getD i false = true) ∧ ∃ y, G y w' ∧ b.tmps[d]? = ((A 0).put (some d) y).tmps[d]?) : Inv ops md W A Fr Ws (listed.setIfInBounds j true) (b.put o.dst x) w' := by
  have hj : j < ops.size := (Array.getElem?_eq_some_iff.1 ho).1
  have hdj : dstOf ops j = o.dst := by unfold dstOf; rw [ho]; rfl
  have old : ∀ i, (listed.setIfInBounds j true).getD i false = true → i ≠ j → listed.getD i false = true := fun i hi hne => by rwa [set_other (Ne.symm hne)] at hi
  have hsz := A_size hst (show j ≤ ops.size by omega)
  have hsz1 := A_size hst (show j + 1 ≤ ops.size by omega)
  refine ⟨by simp [hI.size], hb, by rw [put_def]; exact hI.defers, by rw [put_size]; exact hI.tmps, ?_, ?_, ?_, ?_, ?_⟩
  · intro i d hi hl hd hf
    by_cases e : i = j
    · subst e
      rw [h1 hf, ← hdj, hd]
      exact put_self _ _ _ _ (by rw [hI.tmps, hsz.1])
    · rw [put_get _ _ _ _ (fun h => e (uniq hok hd (hdj.trans h)))]
      exact hI.s1 i d hi (old i hl e) hd hf
  · intro i d F hi hl hf
    have hdi : dstOf ops i = some d ∧ KeptM Mv F := by
      rcases step_fr (hst i hi) with h3 | ⟨d', F', h3, h4, h5⟩
      · rw [h3] at hf
        exact absurd (congrArg List.length hf) (by simp)
      · rw [h3] at hf
        injection hf with hf _
        injection hf with hf1 hf2
        subst hf1; subst hf2
        exact ⟨h4, h5⟩
    by_cases e : i = j
    · subst e
      refine ⟨x, h2 d F hf, ?_⟩
      rw [← hdj, hdi.1]
      exact put_self _ _ _ _ (by rw [hI.tmps, hsz1.1])
    · obtain ⟨y, hy, hb⟩ := hI.s2 i d F hi (old i hl e) hf
      refine ⟨y, hdi.2 y w w' hy hw, ?_⟩
      rw [put_get _ _ _ _ (fun h => e (uniq hok hdi.1 (hdj.trans h)))]
      exact hb
  · intro d hd
    rw [put_get]
    · refine hI.s3 d fun i hi hdi => ?_
      have := hd i hi hdi
      by_cases e : i = j
      · subst e; exact hu
      · rwa [set_other (Ne.symm e)] at this
    · intro h
      have := hd j hj (hdj.trans h)
      rw [set_self (by rw [hI.size]; exact hj)] at this
      cases this
  · intro i oi hoi hl e he hb
    by_cases h : e.on = j
    · rw [h]; exact set_self (by rw [hI.size]; exact hj)
    · rw [set_other (Ne.symm h)]
      by_cases h' : i = j
      · subst h'
        rw [ho] at hoi
        injection hoi with hoi
        subst hoi
        exact hr e he hb
      · exact hI.closed i oi hoi (old i hl h') e he hb
  · intro k d G hk hl hf
    by_cases e : k = j
    · subst e
      obtain ⟨⟨i, hi, hli⟩, y, hy, hby⟩ := h3 d G hf
      have hne : i ≠ k := fun h => by rw [h, hu] at hli; cases hli
      refine ⟨⟨i, hi, by rw [set_other (Ne.symm hne)]; exact hli⟩, y, hy, ?_⟩
      rw [put_get _ _ _ _ (fun h => hne (uniq hok hi (hdj.trans h)))]
      exact hby
    · obtain ⟨⟨i, hi, hli⟩, y, hy, hby⟩ := hI.s4 k d G hk (old k hl e) hf
      have hne : i ≠ j := fun h => by rw [h, hu] at hli; cases hli
      have hG : KeptM Mv G := by
        rcases step_ws (hst k hk) with h5 | ⟨d', G', F', h5, _, h6⟩
        · rw [h5] at hf
          exact absurd (congrArg List.length hf) (by simp)
        · rw [h5] at hf
          injection hf with hf _
          injection hf with _ hf2
          subst hf2
          exact h6
      refine ⟨⟨i, hi, by rw [set_other (Ne.symm hne)]; exact hli⟩, y, hG y w w' hy hw, ?_⟩
      rw [put_get _ _ _ _ (fun h => hne (uniq hok hi (hdj.trans h)))]
      exact hby
end

section
variable {P : Program} {ops : Array Oper} {md : Region.Mode} {W : World} {Mv : World → World → Prop} {A : Nat → Act} {Fr Ws : Nat → List (Tmp × Fact)} {Q : Exit → Act → World → Prop}
theorem sound (hst : ∀ k, k < ops.size → StepAt P ops W Mv A Fr Ws k) (hok : okB md ops = true) (hF0 : Fr 0 = []) (hQ : ∀ listed b w, Inv ops md W A Fr Ws listed b w → (∀ i, i < ops.size → listed.getD i false = true) → Q .normal b w) :
    ∀ fuel listed b w, Inv ops md W A Fr Ws listed b w → unl ops listed ≤ fuel → wpAny P md ops Q fuel listed b w := by
  intro fuel
  induction fuel with
  | zero =>
    intro listed b w hI hu
    have hall := unl_zero (Nat.le_zero.1 hu)
    refine ⟨?_, hQ listed b w hI hall⟩
    rw [List.eq_nil_iff_forall_not_mem]
    intro j hj
    obtain ⟨h0, o, ho, _⟩ := mem_ready.1 hj
    have h1 := (getD_tf h0).2
    rw [hall j (Array.getElem?_eq_some_iff.1 ho).1] at h1
    cases h1
  | succ fuel ih =>
    intro listed b w hI hu
    refine ⟨fun h => hQ listed b w hI (all_of_ready hok hI.size h), fun j hj => ?_⟩
    obtain ⟨h0, o, ho, hr⟩ := mem_ready.1 hj
    have h1 := (getD_tf h0).2
    have hjn : j < ops.size := (Array.getElem?_eq_some_iff.1 ho).1
    have hsel : ∀ cs b, o.op ≠ .select cs b := fun cs b => Region.noSelect_spec (ok_select hok) j o cs b ho
    have hlk := fun d hd => looks hst hok hI ho h1 hr (d := d) hd
    have go : ∀ (x : Value) (w' : World), Below w.heap.size w w' → (Fr (j + 1) = Fr j → A (j + 1) = (A j).put o.dst x) → (∀ d F, Fr (j + 1) = (d, F) :: Fr j → F x w') → Ws (j + 1) = Ws j → wpAny P md ops Q fuel (listed.setIfInBounds j true) (b.put o.dst x) w' := by
      intro x w' hw g1 g2 g3
      have hb : Below W.heap.size W w' := ⟨hw.os.trans hI.below.os, hw.tape.trans hI.below.tape, hw.output.trans hI.below.output, Nat.le_trans hI.below.size hw.size, fun k hk => (hw.block k (Nat.lt_of_lt_of_le hk hI.below.size)).trans (hI.below.block k hk)⟩
      exact ih _ _ _ (hI.step hst hok ho h1 hr hb (.inl hw) g1 g2 (fun d G e => by rw [g3] at e; exact absurd (congrArg List.length e) (by simp))) (by have := unl_step hI.size hjn h1; omega)
    have nofr : ∀ d F, Fr (j + 1) = Fr j → Fr (j + 1) = (d, F) :: Fr j → False := fun d F e1 e2 => by
      rw [e1] at e2
      exact absurd (congrArg List.length e2) (by simp)
    obtain ⟨o', ho', hs⟩ := hst j hjn
    rw [ho] at ho'
    injection ho' with ho'
    subst ho'
    unfold wpOp
    simp only [ho]
    rcases hs with ⟨v, hl, hc, hA, hF, hW⟩ | ⟨d, F, hd, hg, hl, hk, hc, hA, hF, hW⟩ | ⟨v, d, F, hf, hg, hk, hl, hc, hA, hF, hW⟩ | ⟨d, F, G, hf, hd, hg, hk, hl, hG, hc, hA, hF, hW⟩
    · have agree : ∀ d ∈ o.looksAt ops, b.tmps[d]? = (A j).tmps[d]? := by
        intro d hd
        rcases hlk d hd with h | ⟨i, F, hij, _, hFi, _⟩
        · exact h
        · have hm : (d, F) ∈ Fr j := Fr_sub hst (show i + 1 ≤ j by omega) (by omega) (by rw [hFi]; exact List.mem_cons_self)
          exact absurd hd (hl _ hm)
      have hw := wanted_of agree
      have he := execOp_congr o hsel (eval_of agree)
      have hcw := hc w hI.below
      rw [hw]
      split
      · rename_i hwt
        rw [if_pos hwt] at hcw
        exact .inl (calm_wp he hcw fun w' hb => go v w' hb (fun _ => hA) (fun d F e => (nofr d F hF e).elim) hW)
      · rename_i hwt
        rw [if_neg hwt] at hcw
        subst hcw
        exact go undef w (Below.refl _ _) (fun _ => hA) (fun d F e => (nofr d F hF e).elim) hW
    · have agree : ∀ d ∈ o.looksAt ops, b.tmps[d]? = (A j).tmps[d]? := by
        intro d hd
        rcases hlk d hd with h | ⟨i, F, hij, _, hFi, _⟩
        · exact h
        · have hm : (d, F) ∈ Fr j := Fr_sub hst (show i + 1 ≤ j by omega) (by omega) (by rw [hFi]; exact List.mem_cons_self)
          exact absurd hd (hl _ hm)
      have he := execOp_congr o hsel (eval_of agree)
      obtain ⟨x, w', hrun, hb, hFx⟩ := hc w hI.below
      have hwt : Region.wanted o (yielded ops b.tmps) = true := by simp [Region.wanted, hg]
      rw [if_pos hwt]
      left
      unfold Oper.wp
      rw [he, hrun]
      simp only [Oper.upon]
      refine go x w' hb (fun e => (nofr d F e hF).elim) (fun d' F' e => ?_) hW
      rw [hF] at e
      injection e with e _
      injection e with _ e
      subst e
      exact hFx
    · obtain ⟨i0, hi0, hFi0, hd0, hkF⟩ := Fr_mem hst hF0 (show j ≤ ops.size by omega) hf
      have hsz := A_size hst (show j ≤ ops.size by omega)
      have hsz1 := A_size hst (show i0 + 1 ≤ ops.size by omega)
      rcases hlk d hk with h | ⟨i, F', hij, hli, hFi, hdi⟩
      · rcases ((ok_at hok ho).2 i0 d hd0).2 hk with ⟨_, h3⟩ | ⟨h3, _⟩ | h3
        · obtain ⟨o2, ho2, e, he, hb, hon⟩ := waits_mem h3
          rw [ho] at ho2
          injection ho2 with ho2
          subst ho2
          have hli : listed.getD i0 false = true := by rw [← hon]; exact hr e he hb
          obtain ⟨x, hx, hbx⟩ := hI.s2 i0 d F (by omega) hli hFi0
          have agree : ∀ d' ∈ o.looksAt ops, b.tmps[d']? = ((A j).put (some d) x).tmps[d']? := by
            intro d' hd'
            by_cases e : d' = d
            · subst e
              rw [hbx]
              exact put_self _ _ _ _ (by rw [hsz.1, hsz1.1])
            · rw [put_get _ _ _ _ (fun h => e (by injection h with h; exact h.symm))]
              rcases hlk d' hd' with h | ⟨i, F', hij, _, hFi, _⟩
              · exact h
              · have hm : (d', F') ∈ Fr j := Fr_sub hst (show i + 1 ≤ j by omega) (by omega) (by rw [hFi]; exact List.mem_cons_self)
                exact absurd hd' (hl _ hm e)
          have hwt : Region.wanted o (yielded ops b.tmps) = true := by simp [Region.wanted, hg]
          rw [if_pos hwt]
          exact .inl (calm_wp (execOp_congr o hsel (eval_of agree)) (hc x w hI.below hx) fun w' hb => go v w' hb (fun _ => hA) (fun d F e => (nofr d F hF e).elim) hW)
        · omega
        · omega
      · obtain rfl := uniq hok hdi hd0
        rw [hFi] at hFi0
        injection hFi0 with e _
        injection e with _ e
        subst e
        obtain ⟨x, hx, hbx⟩ := hI.s2 i d F' (by omega) hli hFi
        have agree : ∀ d' ∈ o.looksAt ops, b.tmps[d']? = ((A j).put (some d) x).tmps[d']? := by
          intro d' hd'
          by_cases e : d' = d
          · subst e
            rw [hbx]
            exact put_self _ _ _ _ (by rw [hsz.1, hsz1.1])
          · rw [put_get _ _ _ _ (fun h => e (by injection h with h; exact h.symm))]
            rcases hlk d' hd' with h | ⟨i, F', hij, _, hFi, _⟩
            · exact h
            · have hm : (d', F') ∈ Fr j := Fr_sub hst (show i + 1 ≤ j by omega) (by omega) (by rw [hFi]; exact List.mem_cons_self)
              exact absurd hd' (hl _ hm e)
        have hwt : Region.wanted o (yielded ops b.tmps) = true := by simp [Region.wanted, hg]
        rw [if_pos hwt]
        exact .inl (calm_wp (execOp_congr o hsel (eval_of agree)) (hc x w hI.below hx) fun w' hb => go v w' hb (fun _ => hA) (fun d F e => (nofr d F hF e).elim) hW)
    · obtain ⟨i0, hi0, hFi0, hd0, hkF⟩ := Fr_mem hst hF0 (show j ≤ ops.size by omega) hf
      have hsz := A_size hst (show j ≤ ops.size by omega)
      have hsz1 := A_size hst (show i0 + 1 ≤ ops.size by omega)
      rcases hlk d hk with h | ⟨i, F', hij, hli, hFi, hdi⟩
      · rcases ((ok_at hok ho).2 i0 d hd0).2 hk with ⟨_, h3⟩ | ⟨h3, _⟩ | h3
        · obtain ⟨o2, ho2, e, he, hb, hon⟩ := waits_mem h3
          rw [ho] at ho2
          injection ho2 with ho2
          subst ho2
          have hli : listed.getD i0 false = true := by rw [← hon]; exact hr e he hb
          obtain ⟨x, hx, hbx⟩ := hI.s2 i0 d F (by omega) hli hFi0
          have agree : ∀ d' ∈ o.looksAt ops, b.tmps[d']? = ((A j).put (some d) x).tmps[d']? := by
            intro d' hd'
            by_cases e : d' = d
            · subst e
              rw [hbx]
              exact put_self _ _ _ _ (by rw [hsz.1, hsz1.1])
            · rw [put_get _ _ _ _ (fun h => e (by injection h with h; exact h.symm))]
              rcases hlk d' hd' with h | ⟨i, F', hij, _, hFi, _⟩
              · exact h
              · have hm : (d', F') ∈ Fr j := Fr_sub hst (show i + 1 ≤ j by omega) (by omega) (by rw [hFi]; exact List.mem_cons_self)
                exact absurd hd' (hl _ hm e)
          have hwt : Region.wanted o (yielded ops b.tmps) = true := by simp [Region.wanted, hg]
          rw [if_pos hwt]
          left
          obtain ⟨w', hrun, hmv, hbw, hGx⟩ := hc x w hI.below hx
          unfold Oper.wp
          rw [execOp_congr o hsel (eval_of agree), hrun]
          simp only [Oper.upon]
          refine ih _ _ _ (hI.step (x := undef) hst hok ho h1 hr hbw (.inr hmv) (fun _ => by rw [hA, hd]; rfl) (fun d F e => (nofr d F hF e).elim) (fun d' G' e => ?_)) (by have := unl_step hI.size hjn h1; omega)
          rw [hW] at e
          injection e with e _
          injection e with e1 e2
          subst e1; subst e2
          refine ⟨⟨_, hd0, hli⟩, x, hGx, ?_⟩
          rw [hbx]
          exact put_self _ _ _ _ hsz1.1
        · omega
        · omega
      · obtain rfl := uniq hok hdi hd0
        rw [hFi] at hFi0
        injection hFi0 with e _
        injection e with _ e
        subst e
        obtain ⟨x, hx, hbx⟩ := hI.s2 i d F' (by omega) hli hFi
        have agree : ∀ d' ∈ o.looksAt ops, b.tmps[d']? = ((A j).put (some d) x).tmps[d']? := by
          intro d' hd'
          by_cases e : d' = d
          · subst e
            rw [hbx]
            exact put_self _ _ _ _ (by rw [hsz.1, hsz1.1])
          · rw [put_get _ _ _ _ (fun h => e (by injection h with h; exact h.symm))]
            rcases hlk d' hd' with h | ⟨i, F', hij, _, hFi, _⟩
            · exact h
            · have hm : (d', F') ∈ Fr j := Fr_sub hst (show i + 1 ≤ j by omega) (by omega) (by rw [hFi]; exact List.mem_cons_self)
              exact absurd hd' (hl _ hm e)
        have hwt : Region.wanted o (yielded ops b.tmps) = true := by simp [Region.wanted, hg]
        rw [if_pos hwt]
        left
        obtain ⟨w', hrun, hmv, hbw, hGx⟩ := hc x w hI.below hx
        unfold Oper.wp
        rw [execOp_congr o hsel (eval_of agree), hrun]
        simp only [Oper.upon]
        refine ih _ _ _ (hI.step (x := undef) hst hok ho h1 hr hbw (.inr hmv) (fun _ => by rw [hA, hd]; rfl) (fun d F e => (nofr d F hF e).elim) (fun d' G' e => ?_)) (by have := unl_step hI.size hjn h1; omega)
        rw [hW] at e
        injection e with e _
        injection e with e1 e2
        subst e1; subst e2
        refine ⟨⟨_, hd0, hli⟩, x, hGx, ?_⟩
        rw [hbx]
        exact put_self _ _ _ _ hsz1.1
end

/-- What stands behind the region: the frame of the text's order, but for the slots of new memory. -/
structure Fits (fr ws : List (Tmp × Fact)) (a b : Act) (w : World) : Prop where
  defers : b.defers = a.defers
  size : b.tmps.size = a.tmps.size
  same : ∀ d, (∀ p ∈ fr, p.1 ≠ d) → b.tmps[d]? = a.tmps[d]?
  new : ∀ p ∈ fr, ∃ x, p.2 x w ∧ b.tmps[p.1]? = (a.put (some p.1) x).tmps[p.1]?
  wrote : ∀ p ∈ ws, ∃ x, p.2 x w ∧ b.tmps[p.1]? = (a.put (some p.1) x).tmps[p.1]?
theorem wp_region_sched {P : Program} {id : Nat} {Q : Exit → Act → World → Prop} {a a' : Act} {w : World} {l : List Oper} {fr ws : List (Tmp × Fact)} {Mv : World → World → Prop} (hm : P.follows .mixedOrders = true) (hB : okB .any l.toArray = true)
    (h : Sch P l.toArray w Mv [] [] l a fr ws a') (hQ : ∀ b w', Below w.heap.size w w' → Fits fr ws a' b w' → Q .normal b w') : (Code.region id l.toArray true).wp P Q a w := by
  obtain ⟨A, Fr, Ws, hA0, hF0, hW0, hAn, hFn, hWn, hst⟩ := h.seq 0 (fun j => by simp)
  simp only [Nat.zero_add] at hAn hFn hWn hst
  have hst' : ∀ k, k < l.toArray.size → StepAt P l.toArray w Mv A Fr Ws k := fun k hk => hst k (Nat.zero_le _) (by simpa using hk)
  have hfalse : ∀ i, (Array.replicate l.toArray.size false).getD i false = false := fun i => by rw [Array.getD_eq_getD_getElem?, Array.getElem?_replicate]; split <;> rfl
  refine wp_region_any hm ?_
  refine sound (W := w) hst' hB hF0 ?_ _ _ _ _ ?_ ?_
  · intro listed b w' hI hall
    have hn : l.toArray.size = l.length := by simp
    have hs := A_size hst' (Nat.le_refl _)
    rw [hn, hAn] at hs
    refine hQ b w' hI.below ⟨?_, ?_, ?_, ?_, ?_⟩
    · rw [hI.defers, hs.2]
    · rw [hI.tmps, hs.1]
    · intro d hd
      by_cases hw : ∃ i, dstOf l.toArray i = some d
      · obtain ⟨i, hi⟩ := hw
        have hin : i < l.toArray.size := by
          unfold dstOf at hi
          rcases Nat.lt_or_ge i l.toArray.size with h' | h'
          · exact h'
          · rw [Array.getElem?_eq_none h'] at hi; cases hi
        have hwr := A_writer hst' hB (Nat.le_refl _) hin hi
        rw [hn, hAn] at hwr
        rcases step_fr (hst' i hin) with h3 | ⟨d', F, h3, h4, _⟩
        · rw [hwr]; exact hI.s1 i d hin (hall i hin) hi h3
        · rw [hi] at h4
          injection h4 with h4
          subst h4
          have hm : (d, F) ∈ fr := by
            rw [← hFn]
            exact Fr_sub hst' (show i + 1 ≤ l.length by omega) (by omega) (by rw [h3]; exact List.mem_cons_self)
          exact absurd rfl (hd _ hm)
      · have hno := A_none hst' (Nat.le_refl _) d (fun i _ hi => hw ⟨i, hi⟩)
        rw [hn, hAn] at hno
        rw [hno]
        exact hI.s3 d (fun i _ hi => absurd ⟨i, hi⟩ hw)
    · rintro ⟨d, F⟩ hp
      rw [← hFn, ← hn] at hp
      obtain ⟨i, hi, hFi, hdi, _⟩ := Fr_mem hst' hF0 (Nat.le_refl _) hp
      obtain ⟨x, hx, hb⟩ := hI.s2 i d F hi (hall i hi) hFi
      refine ⟨x, hx, ?_⟩
      rw [hb]
      have hs1 := A_size hst' (show i + 1 ≤ l.toArray.size by omega)
      exact put_self _ _ _ _ (by rw [hs1.1, hs.1])
    · rintro ⟨d, G⟩ hp
      rw [← hWn, ← hn] at hp
      obtain ⟨i, hi, hWi⟩ := Ws_mem hst' hW0 (Nat.le_refl _) hp
      obtain ⟨_, x, hx, hb⟩ := hI.s4 i d G hi (hall i hi) hWi
      refine ⟨x, hx, ?_⟩
      rw [hb]
      exact put_self _ _ _ _ hs.1.symm
  · exact ⟨by simp, ⟨rfl, rfl, rfl, Nat.le_refl _, fun _ _ => rfl⟩, by rw [hA0], by rw [hA0], (fun i d _ hl => by rw [hfalse] at hl; cases hl), (fun i d F _ hl => by rw [hfalse] at hl; cases hl), (fun d _ => by rw [hA0]), (fun i o _ hl => by rw [hfalse] at hl; cases hl), (fun i d G _ hl => by rw [hfalse] at hl; cases hl)⟩
  · unfold unl
    refine Nat.le_trans (List.countP_le_length) ?_
    simp
/-- One slot of new memory, written once. -/
theorem Fits.one {a b : Act} {w : World} {d : Tmp} {F G : Fact} (h : Fits [(d, F)] [(d, G)] a b w) (hd : d < a.tmps.size) : ∃ x, F x w ∧ G x w ∧ b = a.put (some d) x := by
  obtain ⟨x, hx, hxd⟩ := h.new (d, F) (by simp)
  obtain ⟨y, hy, hyd⟩ := h.wrote (d, G) (by simp)
  have hxy : x = y := by
    have e := hxd.symm.trans hyd
    simp [Act.put, hd] at e
    exact e
  subst hxy
  refine ⟨x, hx, hy, ?_⟩
  obtain ⟨bt, bd⟩ := b
  obtain ⟨at_, ad⟩ := a
  have h1 : bd = ad := h.defers
  have h2 : bt = at_.setIfInBounds d x := Array.ext_getElem? fun d' => by
    by_cases e : d' = d
    · subst e; exact hxd
    · have h3 := h.same d' (by intro p hp; rw [List.mem_singleton.1 hp]; exact fun h => e h.symm)
      rw [Array.getElem?_setIfInBounds_ne (fun h => e h.symm)]
      exact h3
  subst h1; subst h2
  rfl

/-! ### one operation at a time, what follows behind a variable -/
section
variable {P : Program} {ops : Array Oper} {W : World} {Mv : World → World → Prop} {fr ws : List (Tmp × Fact)} {o : Oper} {rest : List Oper} {a : Act} {K Z : List (Tmp × Fact) → List (Tmp × Fact) → Act → Prop}
def Run (P : Program) (ops : Array Oper) (W : World) (Mv : World → World → Prop) (Z : List (Tmp × Fact) → List (Tmp × Fact) → Act → Prop) (fr ws : List (Tmp × Fact)) (l : List Oper) (a : Act) : Prop := ∃ fr' ws' a', Sch P ops W Mv fr ws l a fr' ws' a' ∧ Z fr' ws' a'
def Good (P : Program) (ops : Array Oper) (W : World) (Mv : World → World → Prop) (fr ws : List (Tmp × Fact)) (o : Oper) (a : Act) (K : List (Tmp × Fact) → List (Tmp × Fact) → Act → Prop) : Prop :=
  ∃ fr2 ws2 a2, K fr2 ws2 a2 ∧ ∀ rest fr' ws' a', Sch P ops W Mv fr2 ws2 rest a2 fr' ws' a' → Sch P ops W Mv fr ws (o :: rest) a fr' ws' a'
theorem Run.nil (h : Z fr ws a) : Run P ops W Mv Z fr ws [] a := ⟨fr, ws, a, Sch.nil fr ws a, h⟩
theorem Run.step (h : ∀ K : List (Tmp × Fact) → List (Tmp × Fact) → Act → Prop, (∀ fr2 ws2 a2, Run P ops W Mv Z fr2 ws2 rest a2 → K fr2 ws2 a2) → Good P ops W Mv fr ws o a K) : Run P ops W Mv Z fr ws (o :: rest) a := by
  obtain ⟨fr2, ws2, a2, ⟨fr', ws', a', h1, h2⟩, h3⟩ := h (fun fr2 ws2 a2 => Run P ops W Mv Z fr2 ws2 rest a2) (fun _ _ _ h => h)
  exact ⟨fr', ws', a', h3 rest fr' ws' a' h1, h2⟩
theorem Good.fix (hl : ∀ p ∈ fr, p.1 ∉ o.looksAt ops) (h : ∃ v, (∀ w, Below W.heap.size W w → if Region.wanted o (yielded ops a.tmps) = true then calmAt P o a w v else v = undef) ∧ K fr ws (a.put o.dst v)) : Good P ops W Mv fr ws o a K := by
  obtain ⟨v, h1, h2⟩ := h
  exact ⟨_, _, _, h2, fun _ _ _ _ hr => Sch.fix v hl h1 hr⟩
theorem Good.fresh (d : Tmp) (F : Fact) (hd : o.dst = some d) (hg : o.guard = none) (hl : ∀ p ∈ fr, p.1 ∉ o.looksAt ops) (hk : KeptM Mv F)
    (h : ∀ w, Below W.heap.size W w → ∃ x w', (execOp a.eval o).run P w = .ok (.value x) w' ∧ Below w.heap.size w w' ∧ F x w') (h2 : K ((d, F) :: fr) ws (a.put (some d) undef)) : Good P ops W Mv fr ws o a K :=
  ⟨_, _, _, h2, fun _ _ _ _ hr => Sch.fresh d F hd hg hl hk h hr⟩
theorem Good.look (d : Tmp) (F : Fact) (hf : (d, F) ∈ fr) (hg : o.guard = none) (hk : d ∈ o.looksAt ops) (hl : ∀ p ∈ fr, p.1 ≠ d → p.1 ∉ o.looksAt ops)
    (h : ∃ v, (∀ x w, Below W.heap.size W w → F x w → calmAt P o (a.put (some d) x) w v) ∧ K fr ws (a.put o.dst v)) : Good P ops W Mv fr ws o a K := by
  obtain ⟨v, h1, h2⟩ := h
  exact ⟨_, _, _, h2, fun _ _ _ _ hr => Sch.look v d F hf hg hk hl h1 hr⟩
theorem Good.write (d : Tmp) (F G : Fact) (hf : (d, F) ∈ fr) (hd : o.dst = none) (hg : o.guard = none) (hk : d ∈ o.looksAt ops) (hl : ∀ p ∈ fr, p.1 ≠ d → p.1 ∉ o.looksAt ops) (hG : KeptM Mv G)
    (h : ∀ x w, Below W.heap.size W w → F x w → ∃ w', (execOp (a.put (some d) x).eval o).run P w = .ok .skip w' ∧ Mv w w' ∧ Below W.heap.size W w' ∧ G x w') (h2 : K fr ((d, G) :: ws) a) : Good P ops W Mv fr ws o a K :=
  ⟨_, _, _, h2, fun _ _ _ _ hr => Sch.write d F G hf hd hg hk hl hG h hr⟩
end
theorem wp_region_run {P : Program} {id : Nat} {Q : Exit → Act → World → Prop} {a : Act} {w : World} {l : List Oper} (Mv : World → World → Prop) (hm : P.follows .mixedOrders = true) (hB : okB .any l.toArray = true)
    (h : Run P l.toArray w Mv (fun fr ws a' => ∀ b w', Below w.heap.size w w' → Fits fr ws a' b w' → Q .normal b w') [] [] l a) : (Code.region id l.toArray true).wp P Q a w := by
  obtain ⟨fr, ws, a', h1, h2⟩ := h
  exact wp_region_sched hm hB h1 h2
end Go.Proofs.Ytknagjiipelfnaa.Sched2
