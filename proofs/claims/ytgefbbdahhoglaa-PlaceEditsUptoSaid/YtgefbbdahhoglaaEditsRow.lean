/- PlaceEdits, the row: for every text, list of edits, place, row and column that together are of bulk at most 2^20 (the statement's second form): the indexes behind the edits answer as those made of the texts. -/
import Derived.Test.YtgefbbdahhoglaaEditsLaw
import Derived.Test.YtgefbbdahhoglaaOpn
namespace Go.Proofs.Ytgefbbdahhoglaa.placeEdits
open Go.Joins Go.RowKit Go.WideShapes Go.ChangeShapes Go.Proofs.YtgefbbdahhoglaaW.PrintWords
open Go.ChangeMaps (open_string shut_string)

theorem cells50 : Try.prog.cellsOf 50 = 2 := by kernel_rfl
theorem open64 : Opn.Opens Try.prog 64 PT.edK (fun y => (Lit.int .i64 y.1).wf = true ∧ (Lit.int .i64 y.2.1).wf = true ∧ True) (fun y => 1 + (1 + (y.2.2.size + 1)) + 1) :=
  Opn.struct Try.underlying64 (by kernel_rfl) (Opn.more rfl (by kernel_rfl) (Opn.int Try.underlying3) (by decide) (Opn.more rfl (by kernel_rfl) (Opn.int Try.underlying3) (by decide) (Opn.one rfl (by kernel_rfl) (Opn.string Try.underlying9))))
theorem open59 : Opn.Opens Try.prog 59 (Kd.slice 64 PT.edK) (fun xs => ∀ x, x ∈ xs → ((Lit.int .i64 x.1).wf = true ∧ (Lit.int .i64 x.2.1).wf = true ∧ True)) (fun xs => (xs.map (fun y => 1 + (1 + (y.2.2.size + 1)) + 1)).sum + 1) := Opn.slice Try.underlying59 (by kernel_rfl) open64

theorem ins_le (l : List PT.Ed) : ∀ n, n ≤ l.length → PT.insN l n + n ≤ ((l.take n).map (fun y => 1 + (1 + (y.2.2.size + 1)) + 1)).sum := by
  intro n
  induction n with
  | zero => intro _; simp [PT.insN]
  | succ n ih =>
    intro h
    have h1 := ih (by omega)
    rw [List.take_succ_eq_append_getElem (by omega), List.map_append, List.sum_append, PT.insN]
    have e : PT.edAt l n = l[n]'(by omega) := by
      unfold PT.edAt
      rw [List.getD_eq_getElem?_getD, List.getElem?_eq_getElem (by omega)]
      rfl
    rw [e]
    simp only [List.map_cons, List.map_nil, List.sum_cons, List.sum_nil]
    omega

set_option maxRecDepth 100000 in
theorem contract (H : Type) (enc : TypeId × Value → H) (W : World) (base : Nat) (args : Array Value) (ds gs : List (DataW H)) (before : List MemPlace)
    (hval : ∀ (j : Nat) t v, Try.f9.params[j]? = some t → args[j]? = some v → Value.okWide Try.prog W .any base t v)
    (hW : DataW.Whole enc Try.prog Try.f9.params.toList Rows.placeEditsSpec.vars false W args.toList ds gs before) (hk : Rows.uptoSmall H (ds ++ gs) = true) :
    Calls Try.prog 9 args W fun e W' => ∃ v, e = .returned v ∧ Rows.placeEditsSpec.post enc Try.prog Try.f9 false true false false W args v W' := by
  have hW' := hW
  obtain ⟨p, q, hA0, hV, rfl, hfz, hnd⟩ := hW
  have hA : DataW.TrodAll enc Try.prog W 0 (fun _ => true) true Try.f9.params.toList args.toList ds p := hA0
  rw [Try.params9] at hA hval
  obtain ⟨v0, vs0, d0, ds0, p0, q0, hargs, rfl, rfl, h0, r0⟩ := trodAll_cons hA
  obtain ⟨v1, vs1, d1, ds1, p1, q1, rfl, rfl, rfl, h1, r1⟩ := trodAll_cons r0
  obtain ⟨v2, vs2, d2, ds2, p2, q2, rfl, rfl, rfl, h2, r2⟩ := trodAll_cons r1
  obtain ⟨v3, vs3, d3, ds3, p3, q3, rfl, rfl, rfl, h3, r3⟩ := trodAll_cons r2
  obtain ⟨rfl, rfl, rfl⟩ := trodAll_nil r3
  obtain rfl : args = #[v0, v1, v2, v3] := by cases args; simp_all
  obtain ⟨rfl, rfl⟩ := trodVars_none hV
  obtain ⟨s, rfl, rfl, rfl, hmax⟩ := open_string Try.underlying9 (hval 0 9 v0 rfl rfl) h0
  obtain ⟨A, cp, l, rfl, _, hC, hg, hw⟩ := Opn.arg_slice Try.underlying59 open59 (hval 1 59 v1 rfl rfl) h1
  obtain ⟨i, rfl, rfl, rfl, wi⟩ := open_int Try.underlying3 (hval 2 3 v2 rfl rfl) h2
  obtain ⟨c0, c1, y0, y1, m, rfl, rfl, rfl, hy0, hy1⟩ := open_agg2 Try.underlying50 (by kernel_rfl) cells50 (hval 3 50 v3 rfl rfl) h3
  obtain ⟨r, e0, rfl, wr⟩ := DataW.trod_int Try.underlying3 hy0
  obtain ⟨c, e1, rfl, wc⟩ := DataW.trod_int Try.underlying3 hy1
  simp at e0 e1
  subst e0 e1
  have hs : s.size + PT.insN l l.length + l.length ≤ 1048576 := by
    have h : Rows.uptoBulkAll ([DataW.lit (H := H) (.string s.data.toList), d1, .lit (.int .i64 i), .agg [.lit (.int .i64 r), .lit (.int .i64 c)]] ++ []) ≤ 1048576 := of_decide_eq_true hk
    simp only [List.append_nil, Rows.uptoBulkAll, Rows.uptoBulk] at h
    have e : s.data.toList.length = s.size := by rw [Array.length_toList]; rfl
    have h5 := ins_le l l.length (Nat.le_refl _)
    rw [List.take_length] at h5
    omega
  refine (PT.PlaceEdits_calls s A l.length cp l i r c W hC (by omega) (by omega)).mono fun e W' ⟨he, hb⟩ => ?_
  subst he
  exact ⟨_, rfl, LawKit.law_post LawKit.laidOut (by rw [Try.params9]; decide +kernel) 4 rfl Try.underlying4 rfl hW' rfl hb⟩

set_option maxRecDepth 100000 in
theorem lifted (os : Os) (started : os.Started) (H : Type) (enc : TypeId × Value → H) (F : Stop.Interp) :
    ReturnsInHanded {} Try.checked os 9 .any ((Rows.OpenSpec.upto Rows.placeEditsSpec).pre6 enc Try.prog Try.f9 Rows.placeEditsUptoRow.domain false) (((Rows.OpenSpec.upto Rows.placeEditsSpec).at F).post enc Try.prog Try.f9 false true false false) := by
  refine returnsInHanded_of_cond (C := Try.checked) (s := Rows.OpenSpec.upto Rows.placeEditsSpec) (k := Rows.uptoSmall) rfl LawKit.own started (by kernel_rfl) Try.func9
    (OpenSpec.witness (enc := enc) (C := Try.checked) (s := Rows.OpenSpec.upto Rows.placeEditsSpec) (k := Rows.uptoSmall) rfl false ⟨#[], #[.string .empty, .slice none 0 0, .int .i64 0, .agg #[.int .i64 0, .int .i64 0]], []⟩ 8 (by kernel_rfl) (by kernel_rfl) (by kernel_rfl)
      (x := ([.lit (.string []), .nil, .lit (.int .i64 0), .agg [.lit (.int .i64 0), .lit (.int .i64 0)]], [], [])) (by kernel_rfl) rfl (by kernel_rfl)) ?_
  intro W base args ds gs before hval hW _ hk _
  exact contract H enc W base args ds gs before hval hW hk

theorem proved : Rows.PlaceEditsUptoSaid :=
  OpenClaim.holds_of_cond 9 Try.f9 rfl rfl rfl rfl rfl rfl rfl ⟨rfl, rfl, rfl, rfl, rfl⟩ rfl rfl rfl rfl rfl (by kernel_rfl) Try.func9 (by kernel_rfl)
    (of_decide_eq_true (by kernel_rfl)) (by unfold Func.isWrapper; first | (rw [if_pos (by decide +kernel)]; kernel_rfl) | (rw [if_neg (by decide +kernel)]; exact ⟨rfl, rfl⟩))
    (fun os started H enc _ F => lifted os started H enc F)
#print axioms proved
end Go.Proofs.Ytgefbbdahhoglaa.placeEdits
