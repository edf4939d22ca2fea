/- What can be folded, in plain Lean: the rows of the nodes that are named in the list; of each first row the furthest last one; the sorted list without its repetitions is that. Folds: what the walks of both sides want: a fold that is stored into memory of its own, appends of folds, a node's rows. -/
import Derived.Test.YtknagjiipelfnaaSortW
import Derived.Test.YtknagjiipelfnaaPIx
import Derived.Test.YtknagjiipelfnaaSched3
namespace Go.Proofs.Ytknagjiipelfnaa.SO
open Go.RowKit Go.WideShapes Go.ChangeShapes Go.Proofs.YtknagjiipelfnaaW.PrintWords Go.Proofs.YtknagjiipelfnaaW.PrintLast Go.Proofs.YtknagjiipelfnaaW.PrintMore Go.Proofs.Ytknagjiipelfnaa.PAll
set_option linter.unusedVariables false

/-! ### a name in a list -/
def inF (fs : List ByteArray) (nm : ByteArray) : Bool := fs.any fun f => decide (f.toList = nm.toList)
theorem inF_drop {fs : List ByteArray} {nm : ByteArray} {i : Nat} (h : i < fs.length) : inF (fs.drop i) nm = (decide ((fs.getD i ByteArray.empty).toList = nm.toList) || inF (fs.drop (i + 1)) nm) := by
  rw [List.drop_eq_getElem_cons h, List.getD_eq_getElem?_getD, List.getElem?_eq_getElem h]
  rfl
theorem in_go {fs : List ByteArray} {nm : ByteArray} (hl : fs.length ≤ 1048576) : ∀ d i, fs.length - i = d → i ≤ fs.length → ∃ k, trellisref22_in.l0 k fs nm (i : Int) = some (inF (fs.drop i) nm) := by
  intro d
  induction d with
  | zero =>
    intro i hd hi
    exact ⟨1, by rw [trellisref22_in.l0, if_neg (by omega), List.drop_eq_nil_of_le (by omega)]; rfl⟩
  | succ d ih =>
    intro i hd hi
    obtain ⟨k, hk⟩ := ih (i + 1) (by omega) (by omega)
    have e : wrap64 ((i : Int) + 1) = ((i + 1 : Nat) : Int) := (w64 (by omega) (by omega)).trans (by omega)
    refine ⟨k + 1, ?_⟩
    rw [trellisref22_in.l0, if_pos (by omega), if_pos (by omega), e, hk, inF_drop (show i < fs.length by omega)]
    have e2 : rdOf ByteArray.empty fs (i : Int) = fs.getD i ByteArray.empty := by unfold rdOf; rw [Int.toNat_natCast]
    rw [e2]
    by_cases h : (fs.getD i ByteArray.empty).toList = nm.toList
    · rw [if_pos h, decide_eq_true h]; rfl
    · rw [if_neg h, decide_eq_false h]; rfl
theorem in_f {fs : List ByteArray} {nm : ByteArray} (hl : fs.length ≤ 1048576) : ∃ k, trellisref22_in.f k fs nm = some (inF fs nm) := in_go hl fs.length 0 rfl (Nat.zero_le _)
theorem index_go {fs : List ByteArray} {nm : ByteArray} (hl : fs.length ≤ 1048576) : ∀ d i, fs.length - i = d → i ≤ fs.length → ∃ k r, slices_Index_string_string.l0 k fs nm (fs.length : Int) (i : Int) = some r ∧ decide (r ≥ 0) = inF (fs.drop i) nm := by
  intro d
  induction d with
  | zero =>
    intro i hd hi
    refine ⟨1, -1, ?_, ?_⟩
    · rw [slices_Index_string_string.l0, if_neg (by omega)]
    · rw [List.drop_eq_nil_of_le (by omega)]; rfl
  | succ d ih =>
    intro i hd hi
    obtain ⟨k, r, hk, hr⟩ := ih (i + 1) (by omega) (by omega)
    have e : wrap64 ((i : Int) + 1) = ((i + 1 : Nat) : Int) := (w64 (by omega) (by omega)).trans (by omega)
    have e2 : rdOf ByteArray.empty fs (i : Int) = fs.getD i ByteArray.empty := by unfold rdOf; rw [Int.toNat_natCast]
    by_cases h : nm.toList = (fs.getD i ByteArray.empty).toList
    · refine ⟨k + 1, (i : Int), ?_, ?_⟩
      · rw [slices_Index_string_string.l0, if_pos (by omega), if_pos (by omega), if_pos (by omega), e2, if_pos h]
      · rw [inF_drop (show i < fs.length by omega), decide_eq_true h.symm, decide_eq_true (by omega)]; rfl
    · refine ⟨k + 1, r, ?_, ?_⟩
      · rw [slices_Index_string_string.l0, if_pos (by omega), if_pos (by omega), if_pos (by omega), e2, if_neg h, e, hk]
      · rw [inF_drop (show i < fs.length by omega), decide_eq_false (fun q : (fs.getD i ByteArray.empty).toList = nm.toList => h q.symm), hr]; rfl
theorem contains_f {fs : List ByteArray} {nm : ByteArray} (hl : fs.length ≤ 1048576) : ∃ k, slices_Contains_string_string.f k fs nm = some (inF fs nm) := by
  obtain ⟨k, r, hk, hr⟩ := index_go (nm := nm) hl fs.length 0 rfl (Nat.zero_le _)
  refine ⟨k, ?_⟩
  have h2 : slices_Index_string_string.f k fs nm = some r := hk
  unfold slices_Contains_string_string.f
  rw [h2]
  simp only [Option.bind_some]
  rw [hr]
  rfl

/-! ### the folds of nodes -/
def keepF (fs : List ByteArray) (x : S50) : Bool := x.f1 && inF fs x.f0
def rowsF (text : ByteArray) (x : S50) : S82 := ⟨(PT.rowN text (PT.clampN text x.f3) : Int), (PT.rowN text (PT.clampN text (if x.f4 = x.f3 then x.f3 else x.f4 - 1)) : Int)⟩
def oneF (fs : List ByteArray) (text : ByteArray) (x : S50) : Option S82 := if keepF fs x && decide ((rowsF text x).f0 < (rowsF text x).f1) then some (rowsF text x) else none
def allF (fs : List ByteArray) (text : ByteArray) (t : List S50) : List S82 := t.filterMap (oneF fs text)
theorem take_succ {α : Type} (t : List α) (z : α) {i : Nat} (h : i < t.length) : t.take (i + 1) = t.take i ++ [t.getD i z] := by
  rw [List.take_add_one, List.getElem?_eq_getElem h, List.getD_eq_getElem?_getD, List.getElem?_eq_getElem h]
  rfl
theorem allF_succ {fs : List ByteArray} {text : ByteArray} {t : List S50} {i : Nat} (h : i < t.length) : allF fs text (t.take (i + 1)) = allF fs text (t.take i) ++ (oneF fs text (rd_T50 t (i : Int))).toList := by
  unfold allF
  rw [take_succ t z50 h, List.filterMap_append]
  have e : rd_T50 t (i : Int) = t.getD i z50 := by unfold rd_T50; rw [Int.toNat_natCast]
  rw [e, List.filterMap_cons]
  cases oneF fs text (t.getD i z50) with
  | none => rfl
  | some v => rfl
theorem mem_allF {fs : List ByteArray} {text : ByteArray} {t : List S50} {x : S82} : x ∈ allF fs text t ↔ ∃ z ∈ t, keepF fs z = true ∧ rowsF text z = x ∧ x.f0 < x.f1 := by
  unfold allF
  rw [List.mem_filterMap]
  constructor
  · rintro ⟨z, hz, h⟩
    unfold oneF at h
    split at h
    · rename_i hc
      rw [Bool.and_eq_true] at hc
      injection h with h
      subst h
      exact ⟨z, hz, hc.1, rfl, of_decide_eq_true hc.2⟩
    · cases h
  · rintro ⟨z, hz, h1, rfl, h2⟩
    refine ⟨z, hz, ?_⟩
    unfold oneF
    rw [h1, decide_eq_true h2]
    rfl
/-- The sorted list without what begins where another has begun. -/
def stepD (out : List S82) (f : S82) : List S82 := if out.length = 0 ∨ (get out (out.length - 1)).f0 ≠ f.f0 then out ++ [f] else out
def dedF (ys : List S82) : List S82 := ys.foldl stepD []
theorem dedF_succ {ys : List S82} {i : Nat} (h : i < ys.length) : dedF (ys.take (i + 1)) = stepD (dedF (ys.take i)) (get ys i) := by
  unfold dedF
  rw [take_succ ys z82 h, List.foldl_append]
  rfl
theorem stepD_len (out : List S82) (f : S82) : (stepD out f).length ≤ out.length + 1 := by
  unfold stepD
  split
  · simp
  · omega
theorem dedF_len (ys : List S82) : ∀ i, i ≤ ys.length → (dedF (ys.take i)).length ≤ i := by
  intro i
  induction i with
  | zero => intro _; exact Nat.le_refl _
  | succ i ih =>
    intro h
    rw [dedF_succ (by omega)]
    have := stepD_len (dedF (ys.take i)) (get ys i)
    have := ih (by omega)
    omega
structure Ded (p out : List S82) : Prop where
  top : ∀ x ∈ out, x ∈ p ∧ ∀ y ∈ p, y.f0 = x.f0 → y.f1 ≤ x.f1
  all : ∀ y ∈ p, ∃ x ∈ out, x.f0 = y.f0
  inc : out.Pairwise (fun a b => a.f0 < b.f0)
theorem get_last {l : List S82} (a : S82) : get (l ++ [a]) ((l ++ [a]).length - 1) = a := by
  unfold get
  rw [List.getD_eq_getElem?_getD, List.length_append, List.length_singleton, Nat.add_sub_cancel, List.getElem?_append_right (Nat.le_refl _), Nat.sub_self]
  rfl
theorem last_or (l : List S82) : l = [] ∨ ∃ l' a, l = l' ++ [a] := by
  rcases List.eq_nil_or_concat l with h | ⟨l', a, h⟩
  · exact .inl h
  · exact .inr ⟨l', a, by rw [h]; simp⟩
theorem Ded.step {p out : List S82} {f : S82} (h : Ded p out) (hs : ∀ y ∈ p, ltF f y = false) : Ded (p ++ [f]) (stepD out f) := by
  have hle : ∀ y ∈ p, y.f0 < f.f0 ∨ (f.f0 = y.f0 ∧ f.f1 ≤ y.f1) := fun y hy => ltF_not.1 (hs y hy)
  have add : (∀ x ∈ out, x.f0 < f.f0) → Ded (p ++ [f]) (out ++ [f]) := fun hlt => by
    refine ⟨fun x hx => ?_, fun y hy => ?_, ?_⟩
    · rcases List.mem_append.1 hx with hx | hx
      · obtain ⟨h1, h2⟩ := h.top x hx
        refine ⟨List.mem_append_left _ h1, fun y hy he => ?_⟩
        rcases List.mem_append.1 hy with hy | hy
        · exact h2 y hy he
        · rw [List.mem_singleton] at hy
          have := hlt x hx
          rw [hy] at he
          omega
      · rw [List.mem_singleton] at hx
        subst hx
        refine ⟨List.mem_append_right _ (List.mem_singleton.2 rfl), fun y hy he => ?_⟩
        rcases List.mem_append.1 hy with hy | hy
        · obtain ⟨x2, hx2, he2⟩ := h.all y hy
          have := hlt x2 hx2
          omega
        · rw [List.mem_singleton] at hy
          rw [hy]
          exact Int.le_refl _
    · rcases List.mem_append.1 hy with hy | hy
      · obtain ⟨x, hx, he⟩ := h.all y hy
        exact ⟨x, List.mem_append_left _ hx, he⟩
      · rw [List.mem_singleton] at hy
        exact ⟨f, List.mem_append_right _ (List.mem_singleton.2 rfl), by rw [hy]⟩
    · rw [List.pairwise_append]
      exact ⟨h.inc, List.pairwise_singleton _ _, fun a ha b hb => by rw [List.mem_singleton] at hb; rw [hb]; exact hlt a ha⟩
  unfold stepD
  rcases last_or out with he | ⟨l, a, he⟩
  · rw [if_pos (.inl (by rw [he]; rfl))]
    exact add (fun x hx => by rw [he] at hx; cases hx)
  · have hla : get out (out.length - 1) = a := by rw [he]; exact get_last a
    have ham : a ∈ out := by rw [he]; exact List.mem_append_right _ (List.mem_singleton.2 rfl)
    have hmax : ∀ x ∈ out, x.f0 ≤ a.f0 := fun x hx => by
      have hi := h.inc
      rw [he, List.pairwise_append] at hi
      rw [he] at hx
      rcases List.mem_append.1 hx with hx | hx
      · exact Int.le_of_lt (hi.2.2 x hx a (List.mem_singleton.2 rfl))
      · rw [List.mem_singleton] at hx
        rw [hx]
        exact Int.le_refl _
    rw [hla]
    by_cases hf : a.f0 = f.f0
    · rw [if_neg (by
        rintro (h1 | h1)
        · rw [he] at h1; simp at h1
        · exact h1 hf)]
      refine ⟨fun x hx => ?_, fun y hy => ?_, h.inc⟩
      · obtain ⟨h1, h2⟩ := h.top x hx
        refine ⟨List.mem_append_left _ h1, fun y hy hxy => ?_⟩
        rcases List.mem_append.1 hy with hy | hy
        · exact h2 y hy hxy
        · rw [List.mem_singleton] at hy
          subst hy
          rcases hle x h1 with h3 | h3
          · omega
          · exact h3.2
      · rcases List.mem_append.1 hy with hy | hy
        · exact h.all y hy
        · rw [List.mem_singleton] at hy
          exact ⟨a, ham, by rw [hy]; exact hf⟩
    · rw [if_pos (.inr hf)]
      refine add (fun x hx => ?_)
      have h1 := hmax x hx
      have h2 := (h.top a ham).1
      rcases hle a h2 with h3 | h3
      · omega
      · exact absurd h3.1.symm hf
theorem get_mem {ys : List S82} {i : Nat} (h : i < ys.length) : get ys i ∈ ys := by
  unfold get
  rw [List.getD_eq_getElem?_getD, List.getElem?_eq_getElem h]
  exact List.getElem_mem h
theorem mem_get {ys : List S82} {x : S82} (h : x ∈ ys) : ∃ i, i < ys.length ∧ get ys i = x := by
  obtain ⟨i, hi, he⟩ := List.mem_iff_getElem.1 h
  refine ⟨i, hi, ?_⟩
  unfold get
  rw [List.getD_eq_getElem?_getD, List.getElem?_eq_getElem hi]
  exact he
theorem mem_take_get {ys : List S82} {x : S82} {i : Nat} (h : x ∈ ys.take i) : ∃ j, j < i ∧ j < ys.length ∧ get ys j = x := by
  obtain ⟨j, hj, he⟩ := mem_get h
  rw [List.length_take] at hj
  refine ⟨j, by omega, by omega, ?_⟩
  rw [← he]
  unfold get
  rw [List.getD_eq_getElem?_getD, List.getD_eq_getElem?_getD, List.getElem?_take_of_lt (by omega)]
theorem ded_of {ys : List S82} (h : Srt ltF 0 ys.length (get ys)) : ∀ i, i ≤ ys.length → Ded (ys.take i) (dedF (ys.take i)) := by
  intro i
  induction i with
  | zero => intro _; exact ⟨fun x hx => by simp [dedF] at hx, fun y hy => by simp at hy, List.Pairwise.nil⟩
  | succ i ih =>
    intro hi
    rw [dedF_succ (by omega), take_succ ys z82 (by omega)]
    refine (ih (by omega)).step (fun y hy => ?_)
    obtain ⟨j, h1, h2, rfl⟩ := mem_take_get hy
    exact h j i (Nat.zero_le _) h1 (by omega)

/-! ### the document's: of each row the furthest -/
def farStep (fs : List ByteArray) (text : ByteArray) (far : List Int) (x : S50) : List Int :=
  if keepF fs x && decide (rd far (rowsF text x).f0 < (rowsF text x).f1) then far.set (rowsF text x).f0.toNat (rowsF text x).f1 else far
def farL (fs : List ByteArray) (text : ByteArray) (R : Nat) (t : List S50) : List Int := t.foldl (farStep fs text) (List.replicate R 0)
theorem farL_succ {fs : List ByteArray} {text : ByteArray} {R : Nat} {t : List S50} {i : Nat} (h : i < t.length) : farL fs text R (t.take (i + 1)) = farStep fs text (farL fs text R (t.take i)) (rd_T50 t (i : Int)) := by
  unfold farL
  rw [take_succ t z50 h, List.foldl_append]
  have e : rd_T50 t (i : Int) = t.getD i z50 := by unfold rd_T50; rw [Int.toNat_natCast]
  rw [e]
  rfl
theorem farStep_len {fs : List ByteArray} {text : ByteArray} {far : List Int} {x : S50} : (farStep fs text far x).length = far.length := by
  unfold farStep
  split
  · rw [List.length_set]
  · rfl
theorem farL_len {fs : List ByteArray} {text : ByteArray} {R : Nat} {t : List S50} : (farL fs text R t).length = R := by
  have h : ∀ (t : List S50) (far : List Int), (t.foldl (farStep fs text) far).length = far.length := by
    intro t
    induction t with
    | nil => intro far; rfl
    | cons x r ih => intro far; rw [List.foldl_cons, ih, farStep_len]
  unfold farL
  rw [h, List.length_replicate]
structure Far (fs : List ByteArray) (text : ByteArray) (p : List S50) (far : List Int) : Prop where
  from_ : ∀ r : Nat, rd far (r : Int) = 0 ∨ ∃ z ∈ p, keepF fs z = true ∧ rowsF text z = ⟨(r : Int), rd far (r : Int)⟩
  top : ∀ z ∈ p, keepF fs z = true → (rowsF text z).f1 ≤ rd far (rowsF text z).f0
theorem rowsF_nat (text : ByteArray) (x : S50) : ∃ a b : Nat, rowsF text x = ⟨(a : Int), (b : Int)⟩ ∧ a ≤ PT.rowN text text.size ∧ b ≤ PT.rowN text text.size :=
  ⟨_, _, rfl, PT.rowN_mono _ (PT.clampN_le _ _), PT.rowN_mono _ (PT.clampN_le _ _)⟩
theorem rd_set (far : List Int) (a r : Nat) (v : Int) (h : a < far.length) : rd (far.set a v) (r : Int) = if r = a then v else rd far (r : Int) := by
  unfold rd
  rw [Int.toNat_natCast, List.getD_eq_getElem?_getD, List.getD_eq_getElem?_getD, List.getElem?_set]
  by_cases e : a = r
  · subst e
    rw [if_pos rfl, if_pos h, if_pos rfl]
    rfl
  · rw [if_neg e, if_neg (fun e2 => e e2.symm)]
theorem Far.step {fs : List ByteArray} {text : ByteArray} {p : List S50} {far : List Int} {x : S50} (h : Far fs text p far) (hl : PT.rowN text text.size < far.length) : Far fs text (p ++ [x]) (farStep fs text far x) := by
  obtain ⟨a, b, hab, ha, hb⟩ := rowsF_nat text x
  unfold farStep
  rw [hab]
  simp only [Int.toNat_natCast]
  by_cases hc : (keepF fs x && decide (rd far (a : Int) < (b : Int))) = true
  · rw [if_pos hc]
    rw [Bool.and_eq_true] at hc
    have hlt := of_decide_eq_true hc.2
    refine ⟨fun r => ?_, fun z hz hk => ?_⟩
    · rw [rd_set _ _ _ _ (by omega)]
      by_cases e : r = a
      · subst e
        rw [if_pos rfl]
        exact .inr ⟨x, List.mem_append_right _ (List.mem_singleton.2 rfl), hc.1, hab⟩
      · rw [if_neg e]
        rcases h.from_ r with h1 | ⟨z, hz, h1, h2⟩
        · exact .inl h1
        · exact .inr ⟨z, List.mem_append_left _ hz, h1, h2⟩
    · obtain ⟨c, d, hcd, _, _⟩ := rowsF_nat text z
      rw [hcd]
      simp only
      rw [rd_set _ _ _ _ (by omega)]
      rcases List.mem_append.1 hz with hz | hz
      · have h1 := h.top z hz hk
        rw [hcd] at h1
        simp only at h1
        by_cases e : c = a
        · subst e
          rw [if_pos rfl]
          omega
        · rw [if_neg e]
          exact h1
      · rw [List.mem_singleton] at hz
        subst hz
        rw [hab] at hcd
        injection hcd with h1 h2
        have : c = a := by omega
        rw [if_pos this]
        omega
  · rw [if_neg hc]
    refine ⟨fun r => ?_, fun z hz hk => ?_⟩
    · rcases h.from_ r with h1 | ⟨z, hz, h1, h2⟩
      · exact .inl h1
      · exact .inr ⟨z, List.mem_append_left _ hz, h1, h2⟩
    · rcases List.mem_append.1 hz with hz | hz
      · exact h.top z hz hk
      · rw [List.mem_singleton] at hz
        subst hz
        rw [hk, Bool.true_and, decide_eq_true_eq] at hc
        rw [hab]
        simp only
        omega
theorem far_of {fs : List ByteArray} {text : ByteArray} {t : List S50} : Far fs text t (farL fs text (PT.rowN text text.size + 1) t) := by
  have h : ∀ i, i ≤ t.length → Far fs text (t.take i) (farL fs text (PT.rowN text text.size + 1) (t.take i)) := by
    intro i
    induction i with
    | zero =>
      intro _
      refine ⟨fun r => .inl ?_, fun z hz => by simp at hz⟩
      unfold farL rd
      rw [List.take_zero, List.foldl_nil, Int.toNat_natCast, List.getD_eq_getElem?_getD, List.getElem?_replicate]
      split <;> rfl
    | succ i ih =>
      intro hi
      rw [farL_succ (by omega), take_succ t z50 (by omega)]
      have e : rd_T50 t (i : Int) = t.getD i z50 := by unfold rd_T50; rw [Int.toNat_natCast]
      rw [e]
      exact (ih (by omega)).step (by rw [farL_len]; omega)
  have := h t.length (Nat.le_refl _)
  rwa [List.take_of_length_le (Nat.le_refl _)] at this
def outR (far : List Int) (i : Nat) : List S82 := (List.range i).filterMap fun (r : Nat) => if (r : Int) < rd far (r : Int) then some ⟨(r : Int), rd far (r : Int)⟩ else none
theorem outR_succ (far : List Int) (i : Nat) : outR far (i + 1) = outR far i ++ (if (i : Int) < rd far (i : Int) then [⟨(i : Int), rd far (i : Int)⟩] else []) := by
  unfold outR
  rw [List.range_succ, List.filterMap_append]
  congr 1
  rw [List.filterMap_cons]
  by_cases h : (i : Int) < rd far (i : Int)
  · rw [if_pos h, if_pos h]; rfl
  · rw [if_neg h, if_neg h]; rfl
theorem mem_outR {far : List Int} {i : Nat} {x : S82} : x ∈ outR far i ↔ ∃ r : Nat, r < i ∧ (r : Int) < rd far (r : Int) ∧ x = ⟨(r : Int), rd far (r : Int)⟩ := by
  unfold outR
  rw [List.mem_filterMap]
  constructor
  · rintro ⟨r, hr, h⟩
    rw [List.mem_range] at hr
    split at h
    · injection h with h
      exact ⟨r, hr, by assumption, h.symm⟩
    · cases h
  · rintro ⟨r, hr, h, rfl⟩
    exact ⟨r, List.mem_range.2 hr, by rw [if_pos h]⟩
theorem outR_inc (far : List Int) : ∀ i, (outR far i).Pairwise (fun a b => a.f0 < b.f0) := by
  intro i
  induction i with
  | zero => exact List.Pairwise.nil
  | succ i ih =>
    rw [outR_succ, List.pairwise_append]
    refine ⟨ih, ?_, fun a ha b hb => ?_⟩
    · split
      · exact List.pairwise_singleton _ _
      · exact List.Pairwise.nil
    · obtain ⟨r, hr, _, rfl⟩ := mem_outR.1 ha
      split at hb
      · rw [List.mem_singleton] at hb
        rw [hb]
        show (r : Int) < (i : Int)
        omega
      · cases hb
theorem outR_len (far : List Int) : ∀ i, (outR far i).length ≤ i := by
  intro i
  induction i with
  | zero => exact Nat.le_refl _
  | succ i ih =>
    rw [outR_succ, List.length_append]
    split
    · simp; omega
    · simp; omega
/-- Two lists that rise and have the same members are one. -/
theorem inc_eq : ∀ (l m : List S82), l.Pairwise (fun a b => a.f0 < b.f0) → m.Pairwise (fun a b => a.f0 < b.f0) → (∀ x, x ∈ l ↔ x ∈ m) → l = m := by
  intro l
  induction l with
  | nil =>
    intro m _ _ h
    cases m with
    | nil => rfl
    | cons b m => exact absurd ((h b).2 (List.mem_cons_self ..)) (by simp)
  | cons a l ih =>
    intro m hl hm h
    cases m with
    | nil => exact absurd ((h a).1 (List.mem_cons_self ..)) (by simp)
    | cons b m =>
      rw [List.pairwise_cons] at hl hm
      have hab : a = b := by
        rcases List.mem_cons.1 ((h a).1 (List.mem_cons_self ..)) with h1 | h1
        · exact h1
        · rcases List.mem_cons.1 ((h b).2 (List.mem_cons_self ..)) with h2 | h2
          · exact h2.symm
          · have := hm.1 a h1
            have := hl.1 b h2
            omega
      subst hab
      congr 1
      refine ih m hl.2 hm.2 (fun x => ?_)
      constructor
      · intro hx
        rcases List.mem_cons.1 ((h x).1 (List.mem_cons_of_mem _ hx)) with h1 | h1
        · subst h1
          have := hl.1 x hx
          omega
        · exact h1
      · intro hx
        rcases List.mem_cons.1 ((h x).2 (List.mem_cons_of_mem _ hx)) with h1 | h1
        · subst h1
          have := hm.1 x hx
          omega
        · exact h1
def foldsF (fs : List ByteArray) (text : ByteArray) (t : List S50) : List S82 := outR (farL fs text (PT.rowN text text.size + 1) t) (PT.rowN text text.size + 1)
/-- The sorted list without its repetitions is the document's. -/
theorem folds_eq {fs : List ByteArray} {text : ByteArray} {t : List S50} {ys : List S82} (hl : ys.length = (allF fs text t).length) (hs : Same 0 ys.length (get (allF fs text t)) (get ys)) (ho : Srt ltF 0 ys.length (get ys)) : dedF ys = foldsF fs text t := by
  have hm : ∀ x, x ∈ ys ↔ x ∈ allF fs text t := fun x => by
    constructor
    · intro hx
      obtain ⟨i, hi, rfl⟩ := mem_get hx
      obtain ⟨j, _, hj, he⟩ := hs.to i (Nat.zero_le _) hi
      rw [he]
      exact get_mem (by omega)
    · intro hx
      obtain ⟨i, hi, rfl⟩ := mem_get hx
      obtain ⟨j, _, hj, he⟩ := hs.fro i (Nat.zero_le _) (by omega)
      rw [he]
      exact get_mem hj
  have hd := ded_of ho ys.length (Nat.le_refl _)
  rw [List.take_of_length_le (Nat.le_refl _)] at hd
  have hf : Far fs text t (farL fs text (PT.rowN text text.size + 1) t) := far_of
  obtain ⟨far, hfar⟩ : ∃ far, farL fs text (PT.rowN text text.size + 1) t = far := ⟨_, rfl⟩
  unfold foldsF
  rw [hfar] at hf ⊢
  refine inc_eq _ _ hd.inc (outR_inc _ _) (fun x => ?_)
  rw [mem_outR]
  constructor
  · intro hx
    obtain ⟨h1, h2⟩ := hd.top x hx
    obtain ⟨z, hz, hk, rfl, hlt⟩ := mem_allF.1 ((hm x).1 h1)
    obtain ⟨a, b, hab, ha, hb⟩ := rowsF_nat text z
    have h3 := hf.top z hz hk
    rw [hab] at h3 hlt h2 ⊢
    simp only at h3 hlt h2
    rcases hf.from_ a with h4 | ⟨z2, hz2, hk2, h4⟩
    · omega
    · have h5 : (⟨(a : Int), rd far (a : Int)⟩ : S82) ∈ ys := (hm _).2 (mem_allF.2 ⟨z2, hz2, hk2, h4, by show (a : Int) < rd far (a : Int); omega⟩)
      have h6 := h2 _ h5 rfl
      simp only at h6
      refine ⟨a, by omega, by omega, ?_⟩
      congr 1
      omega
  · rintro ⟨r, hr, hlt, rfl⟩
    rcases hf.from_ r with h4 | ⟨z2, hz2, hk2, h4⟩
    · omega
    · have h5 : (⟨(r : Int), rd far (r : Int)⟩ : S82) ∈ ys := (hm _).2 (mem_allF.2 ⟨z2, hz2, hk2, h4, hlt⟩)
      obtain ⟨x, hx, he⟩ := hd.all _ h5
      obtain ⟨h6, h7⟩ := hd.top x hx
      have h8 := h7 _ h5 he.symm
      obtain ⟨z, hz, hk, hzx, hl2⟩ := mem_allF.1 ((hm x).1 h6)
      have h9 := hf.top z hz hk
      rw [hzx, he] at h9
      simp only at h8 h9 he
      have : x = ⟨(r : Int), rd far (r : Int)⟩ := by
        cases x
        simp only at he h8 h9
        congr 1
        omega
      rw [← this]
      exact hx
end Go.Proofs.Ytknagjiipelfnaa.SO
namespace Go.Proofs.Ytknagjiipelfnaa.SO
open Go.RowKit Go.WideShapes Go.ChangeShapes Go.Proofs.YtknagjiipelfnaaW.PrintWords Go.Proofs.YtknagjiipelfnaaW.PrintLast Go.Proofs.YtknagjiipelfnaaW.PrintMore Go.Proofs.Ytknagjiipelfnaa.PAll Go.Proofs.Ytknagjiipelfnaa.Sched
set_option linter.unusedVariables false

theorem info82z : (Try.prog.info? 82).map (fun i => (i.zero, i.size, i.bytes)) = some (some (.agg #[.int .i64 0, .int .i64 0]), 2, 16) := by kernel_rfl
def fC (y : S82) : Obj := .cells #[.int .i64 y.f0, .int .i64 y.f1] 82 (0, 0)
def setF (w : World) (g : Nat) (x : S82) : World := (w.setCell ⟨g, 0, none⟩ (.int .i64 x.f0)).setCell ⟨g, 1, none⟩ (.int .i64 x.f1)
theorem setF_at {w : World} {g : Nat} {y : S82} (h : w.heap[g]? = some (fC y)) (x : S82) : (setF w g x).heap[g]? = some (fC x) :=
  (blk_set ((blk_set h 0 _).trans rfl) 1 _).trans rfl
theorem setF_far {w : World} {g k : Nat} (x : S82) (h : k ≠ g) : (setF w g x).heap[k]? = w.heap[k]? := by
  have e : ∀ (W : World) (j : Nat) (v : Value), (W.setCell ⟨g, j, none⟩ v).heap[k]? = W.heap[k]? := fun W j v => Below.heap_setCell W ⟨g, j, none⟩ v k h
  unfold setF
  rw [e, e]
def MvF (b : Nat) (x : S82) (w w' : World) : Prop := ∃ g, b ≤ g ∧ w' = setF w g x
def FF (b : Nat) : Fact := fun v w => ∃ g, v = .pointer (some ⟨g, 0, none⟩) ∧ b ≤ g ∧ ∃ y : S82, w.heap[g]? = some (fC y)
def GF (b : Nat) (x : S82) : Fact := fun v w => ∃ g, v = .pointer (some ⟨g, 0, none⟩) ∧ b ≤ g ∧ w.heap[g]? = some (fC x)
theorem FF_kept (b : Nat) (x : S82) : Sched2.KeptM (MvF b x) (FF b) := by
  rintro v w w' ⟨g, rfl, hg, y, hy⟩ (hb | ⟨g2, hg2, rfl⟩)
  · exact ⟨g, rfl, hg, y, (hb.block _ (blk_lt hy)).trans hy⟩
  · by_cases e : g = g2
    · subst e
      exact ⟨g, rfl, hg, x, setF_at hy x⟩
    · exact ⟨g, rfl, hg, y, (setF_far x e).trans hy⟩
theorem GF_kept (b : Nat) (x : S82) : Sched2.KeptM (MvF b x) (GF b x) := by
  rintro v w w' ⟨g, rfl, hg, hy⟩ (hb | ⟨g2, hg2, rfl⟩)
  · exact ⟨g, rfl, hg, (hb.block _ (blk_lt hy)).trans hy⟩
  · by_cases e : g = g2
    · subst e
      exact ⟨g, rfl, hg, setF_at hy x⟩
    · exact ⟨g, rfl, hg, (setF_far x e).trans hy⟩
theorem FF_made (w : World) (b : Nat) (hb : b ≤ w.heap.size) : FF b (.pointer (some ⟨w.heap.size, 0, none⟩)) (w.alloc (fC z82)) := ⟨_, rfl, hb, z82, heap_alloc_new w _⟩
theorem f_cells {w : World} {g : Nat} {y : S82} (h : w.heap[g]? = some (fC y)) : w.cell? ⟨g, 0, none⟩ = some (.int .i64 y.f0) ∧ w.cell? ⟨g, 1, none⟩ = some (.int .i64 y.f1) := ⟨(blk_cell h 0).trans rfl, (blk_cell h 1).trans rfl⟩
theorem wroteF {W w : World} {g : Nat} {y : S82} (x : S82) (hW : Below W.heap.size W w) (hg : W.heap.size ≤ g) (h : w.heap[g]? = some (fC y)) : MvF W.heap.size x w (setF w g x) ∧ Below W.heap.size W (setF w g x) ∧ GF W.heap.size x (.pointer (some ⟨g, 0, none⟩)) (setF w g x) :=
  ⟨⟨g, hg, rfl⟩, (hW.setCell hg _).setCell hg _, g, rfl, hg, setF_at h x⟩
theorem lit82 {w : World} {g : Nat} {p q : Int} (h : w.heap[g]? = some (.cells #[.int .i64 p, .int .i64 q] 82 (0, 0))) : k82.C w (some ⟨g, 0, none⟩) 1 [⟨p, q⟩] := by
  refine ⟨rfl, by decide, fun _ => ⟨⟨g, 0, none⟩, rfl, fun j y hj => ?_⟩⟩
  cases j with
  | succ j => simp at hj
  | zero =>
    simp only [List.getElem?_cons_zero] at hj
    injection hj with hj
    subst hj
    refine ⟨[.int .i64 p, .int .i64 q], rfl, k82_mk _ _, fun i u hi => ?_⟩
    match i, hi with
    | 0, hi => rw [← hi]; exact (blk_cell h 0).trans rfl
    | 1, hi => rw [← hi]; exact (blk_cell h 1).trans rfl
    | n + 2, hi => simp at hi
theorem RF_appL {P : Program} {ops : Array Oper} {rest : List Oper} {o : Oper} {a : Act} {Q : Exit → Act → World → Prop} {w0 W : World} (base : Nat) (hgd : o.guard = none) (s x : Operand)
    (ho : o.op = .call { callee := .builtin .append, args := #[s, x], argTypes := #[77, 77] })
    (ht : P.underlying 77 = some (.slice 82)) (hinfo : (P.info? 82).map (fun i => (i.zero, i.size, i.bytes)) = some (some (.agg #[.int .i64 0, .int .i64 0]), 2, 16))
    (v : Value) (xs : List S82) (p : S82) (A : Option Addr) (c : Nat) (hs : a.eval s = v) (hx : a.eval x = .slice A 1 c)
    (HO : RF W base v xs) (HR : k82.C W A 1 [p]) (HB : Below base w0 W) (hbase : base ≤ W.heap.size) (hl : xs.length ≤ 2097152)
    (h : ∀ v1 w1, RF w1 base v1 (xs ++ [p]) → Below base w0 w1 → W.grownBy w1 v.ownBlock → wpList P ops Q rest (a.put o.dst v1) w1) :
    wpList P ops Q (o :: rest) a W :=
  Kd.R_append_rows (P := P) (ops := ops) (rest := rest) (o := o) (a := a) (Q := Q) k82 (Rr := k82.K W) (w0 := w0) base hgd s x 77 82 (.agg #[.int .i64 0, .int .i64 0]) 16 ho ht hinfo rfl (by decide) (by omega) v xs [p] A 1 c (fun _ => True) (fun _ => False) hs hx HO HR (fun y cs hk => by rw [k82_open hk]; exact k82_mkM _ _ _ _) (fun _ hk => hk.elim) (fun _ _ => trivial) HB hbase (by omega) (fun v1 w1 h1 h2 h3 _ => h v1 w1 h1 h2 h3)
/-- A row of one's own above what stood. -/
structure FoS (w1 wr : World) (v : Value) (xs : List S82) : Prop where
  o : RF wr w1.heap.size v xs
  b : Below w1.heap.size w1 wr
theorem FoS.moved {w1 wr w2 : World} {v : Value} {xs : List S82} (h : FoS w1 wr v xs) (hb : Below wr.heap.size wr w2) : FoS w1 w2 v xs := ⟨Kd.R_below h.o hb, below_then h.b h.b.size hb⟩
theorem FoS.nil (w : World) : FoS w w (.slice none 0 0) [] := ⟨Kd.R_nil _ _ _ _ _, Below.refl _ _⟩
theorem FoS.start {w1 w2 : World} {v : Value} {xs : List S82} (h : FoS w1 w2 v xs) : Kd.R k82 82 w2 w1.heap.size (fun _ => True) v xs := h.o
theorem allF_bd (fs : List ByteArray) (text : ByteArray) (t : List S50) (hs : text.size ≤ 1100000) : ∀ k, Bd (get (allF fs text t) k) := fun k => by
  by_cases h : k < (allF fs text t).length
  · obtain ⟨z, _, _, he, _⟩ := mem_allF.1 (get_mem h)
    obtain ⟨a, b, hab, ha, hb⟩ := rowsF_nat text z
    have := PT.rowN_le text text.size
    rw [← he, hab]
    exact ⟨⟨by show (0 : Int) ≤ (a : Int); omega, by show (a : Int) ≤ 2097152; omega⟩, by show (0 : Int) ≤ (b : Int); omega, by show (b : Int) ≤ 2097152; omega⟩
  · unfold get
    rw [List.getD_eq_getElem?_getD, List.getElem?_eq_none (by omega)]
    exact ⟨⟨by decide, by decide⟩, by decide, by decide⟩
theorem contains_calls (A : Option Addr) (c : Nat) (fs : List ByteArray) (nm : ByteArray) (w : World) (hr : Kd.C Kd.string w A fs.length fs) (hc : fs.length ≤ c) (hl : fs.length ≤ 1048576) :
    Calls Try.prog 51 #[.slice A fs.length c, .string nm] w fun e w' => e = .returned (.bool (inF fs nm)) ∧ Below w.heap.size w w' := by
  obtain ⟨k, hk⟩ := contains_f (nm := nm) hl
  exact (slices_Contains_string_string.calls k A c fs nm _ w hr hc hk).mono fun e w' ⟨h1, h2⟩ => ⟨h1, h2.below⟩
theorem in_calls (A : Option Addr) (c : Nat) (fs : List ByteArray) (nm : ByteArray) (w : World) (hr : Kd.C Kd.string w A fs.length fs) (hc : fs.length ≤ c) (hl : fs.length ≤ 1048576) :
    Calls Try.prog 57 #[.slice A fs.length c, .string nm] w fun e w' => e = .returned (.bool (inF fs nm)) ∧ Below w.heap.size w w' := by
  obtain ⟨k, hk⟩ := in_f (nm := nm) hl
  exact (trellisref22_in.calls k A c fs nm _ w hr hc hk).mono fun e w' ⟨h1, h2⟩ => ⟨h1, h2.below⟩
end Go.Proofs.Ytknagjiipelfnaa.SO
