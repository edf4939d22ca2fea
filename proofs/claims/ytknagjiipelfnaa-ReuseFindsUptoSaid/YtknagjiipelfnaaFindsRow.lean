/- ReuseFinds, the row: for every n, leaves, edit and questions that together are of bulk at most 2^20 (the statement's second form). -/
import Derived.Test.YtknagjiipelfnaaFinds
import Derived.Test.YtknagjiipelfnaaLeafOpn
import Derived.Test.YtknagjiipelfnaaLaw
namespace Go.Proofs.Ytknagjiipelfnaa.reuseFinds
open Go.Joins Go.RowKit Go.WideShapes Go.ChangeShapes Go.Proofs.YtknagjiipelfnaaW.PrintWords
open Go.ChangeMaps (open_string shut_string)

def gdA (x : RU.Ask) : Prop := (Lit.int .i64 x.1).wf = true ∧ True ∧ (Lit.int .u64 x.2.2).wf = true
def hvA (x : RU.Ask) : Nat := 1 + ((x.2.1.size + 1) + 1) + 1
set_option maxRecDepth 100000 in
theorem openA : Opn.Opens Try.prog 73 RU.k73 gdA hvA :=
  Opn.struct Try.underlying73 (by kernel_rfl) (Opn.more rfl (by kernel_rfl) (Opn.int Try.underlying3) (by decide) (Opn.more rfl (by kernel_rfl) (Opn.string Try.underlying9) (by decide) (Opn.one rfl (by kernel_rfl) (Opn.int Try.underlying58))))
set_option maxRecDepth 100000 in
theorem openAs : Opn.Opens Try.prog 55 (Kd.slice 73 RU.k73) (fun xs => ∀ x, x ∈ xs → gdA x) (fun xs => (xs.map hvA).sum + 1) := Opn.slice Try.underlying55 (by kernel_rfl) openA
theorem lenA (l : List RU.Ask) : l.length ≤ (l.map hvA).sum := by
  induction l with
  | nil => exact Nat.le_refl _
  | cons x r ih => simp only [List.map_cons, List.sum_cons, List.length_cons]; unfold hvA; unfold hvA at ih; omega
theorem rd_mem (l : List RU.Ask) (k : Nat) (hk : k < l.length) : RU.rdA l k ∈ l := by
  unfold RU.rdA
  rw [List.getD_eq_getElem?_getD, List.getElem?_eq_getElem hk]
  exact List.getElem_mem hk

set_option maxRecDepth 100000 in
theorem contract (H : Type) (enc : TypeId × Value → H) (W : World) (base : Nat) (args : Array Value) (ds gs : List (DataW H)) (before : List MemPlace)
    (hval : ∀ (j : Nat) t v, Try.f4.params[j]? = some t → args[j]? = some v → Value.okWide Try.prog W .any base t v)
    (hW : DataW.Whole enc Try.prog Try.f4.params.toList Rows.reuseFindsSpec.vars false W args.toList ds gs before) (hk : Rows.uptoSmall H (ds ++ gs) = true) :
    Calls Try.prog 4 args W fun e W' => ∃ v, e = .returned v ∧ Rows.reuseFindsSpec.post enc Try.prog Try.f4 false true false false W args v W' := by
  have hW' := hW
  obtain ⟨p, q, hA0, hV, rfl, hfz, hnd⟩ := hW
  have hA : DataW.TrodAll enc Try.prog W 0 (fun _ => true) true Try.f4.params.toList args.toList ds p := hA0
  rw [Try.params4] at hA hval
  obtain ⟨v0, vs0, d0, ds0, p0, q0, hargs, rfl, rfl, h0, r0⟩ := trodAll_cons hA
  obtain ⟨v1, vs1, d1, ds1, p1, q1, rfl, rfl, rfl, h1, r1⟩ := trodAll_cons r0
  obtain ⟨v2, vs2, d2, ds2, p2, q2, rfl, rfl, rfl, h2, r2⟩ := trodAll_cons r1
  obtain ⟨v3, vs3, d3, ds3, p3, q3, rfl, rfl, rfl, h3, r3⟩ := trodAll_cons r2
  obtain ⟨rfl, rfl, rfl⟩ := trodAll_nil r3
  obtain rfl : args = #[v0, v1, v2, v3] := by cases args; simp_all
  obtain ⟨rfl, rfl⟩ := trodVars_none hV
  obtain ⟨n, rfl, rfl, rfl, _⟩ := open_int Try.underlying3 (hval 0 3 v0 rfl rfl) h0
  obtain ⟨A, cp, l, rfl, hc, hC, hg, hw⟩ := Opn.arg_slice Try.underlying52 LO.openLs (hval 1 52 v1 rfl rfl) h1
  obtain ⟨ea, ed, es, rfl, hes⟩ := LO.open_edit (hval 2 54 v2 rfl rfl) h2
  obtain ⟨B, cq, qs, rfl, hcq, hCq, hgq, hwq⟩ := Opn.arg_slice Try.underlying55 openAs (hval 3 55 v3 rfl rfl) h3
  have hs : l.length ≤ 1048576 ∧ es.size ≤ 1048576 ∧ qs.length ≤ 1048576 := by
    have h : Rows.uptoBulkAll ([DataW.lit (H := H) (.int .i64 n), d1, d2, d3] ++ []) ≤ 1048576 := of_decide_eq_true hk
    simp only [List.append_nil, Rows.uptoBulkAll, Rows.uptoBulk] at h
    have := LO.len_le l
    have := lenA qs
    omega
  refine (RU.ReuseFinds_calls n ea ed es A B cp cq l qs W hC hc hCq hcq hs.1 hs.2.2 hs.2.1 (fun k hk => (hgq _ (rd_mem qs k hk)).1)).mono fun e W' ⟨he, hb⟩ => ?_
  subst he
  exact ⟨_, rfl, LawKit.law_post LawKit.laidOut (by rw [Try.params4]; decide +kernel) 4 rfl Try.underlying4 rfl hW' rfl hb⟩

set_option maxRecDepth 100000 in
theorem lifted (os : Os) (started : os.Started) (H : Type) (enc : TypeId × Value → H) (F : Stop.Interp) :
    ReturnsInHanded {} Try.checked os 4 .any ((Rows.OpenSpec.upto Rows.reuseFindsSpec).pre6 enc Try.prog Try.f4 Rows.reuseFindsUptoRow.domain false) (((Rows.OpenSpec.upto Rows.reuseFindsSpec).at F).post enc Try.prog Try.f4 false true false false) := by
  refine returnsInHanded_of_cond (C := Try.checked) (s := Rows.OpenSpec.upto Rows.reuseFindsSpec) (k := Rows.uptoSmall) rfl LawKit.own started (by kernel_rfl) Try.func4
    (OpenSpec.witness (enc := enc) (C := Try.checked) (s := Rows.OpenSpec.upto Rows.reuseFindsSpec) (k := Rows.uptoSmall) rfl false ⟨#[], #[.int .i64 0, .slice none 0 0, .agg #[.int .i64 0, .int .i64 0, .string .empty], .slice none 0 0], []⟩ 8 (by kernel_rfl) (by kernel_rfl) (by kernel_rfl)
      (x := ([.lit (.int .i64 0), .nil, .agg [.lit (.int .i64 0), .lit (.int .i64 0), .lit (.string [])], .nil], [], [])) (by kernel_rfl) rfl (by kernel_rfl)) ?_
  intro W base args ds gs before hval hW _ hk _
  exact contract H enc W base args ds gs before hval hW hk

theorem proved : Rows.ReuseFindsUptoSaid :=
  OpenClaim.holds_of_cond 4 Try.f4 rfl rfl rfl rfl rfl rfl rfl ⟨rfl, rfl, rfl, rfl, rfl⟩ rfl rfl rfl rfl rfl (by kernel_rfl) Try.func4 (by kernel_rfl)
    (of_decide_eq_true (by kernel_rfl)) (by unfold Func.isWrapper; first | (rw [if_pos (by decide +kernel)]; kernel_rfl) | (rw [if_neg (by decide +kernel)]; exact ⟨rfl, rfl⟩))
    (fun os started H enc _ F => lifted os started H enc F)
#print axioms proved
end Go.Proofs.Ytknagjiipelfnaa.reuseFinds
