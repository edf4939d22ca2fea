/- StoreEncodes, the row: for every definition, text and result that together are of bulk at most 2^20 (the statement's second form): Encode and Sum are the document's, the result stays. -/
import Derived.Test.YtjgccbpdpnpfjaaStoreEncLaw
import Derived.Test.YtjgccbpdpnpfjaaStoreOpn
import Derived.Test.YtjgccbpdpnpfjaaLaw
namespace Go.Proofs.Ytjgccbpdpnpfjaa.storeEncodes
open Go.Joins Go.RowKit Go.WideShapes Go.ChangeShapes Go.Proofs.YtjgccbpdpnpfjaaW.PrintWords
open Go.ChangeMaps (open_string shut_string)

set_option maxRecDepth 100000 in
theorem contract (H : Type) (enc : TypeId × Value → H) (W : World) (base : Nat) (args : Array Value) (ds gs : List (DataW H)) (before : List MemPlace)
    (hval : ∀ (j : Nat) t v, Try.f3.params[j]? = some t → args[j]? = some v → Value.okWide Try.prog W .any base t v)
    (hW : DataW.Whole enc Try.prog Try.f3.params.toList Rows.storeEncodesSpec.vars false W args.toList ds gs before) (hk : Rows.uptoSmall H (ds ++ gs) = true) :
    Calls Try.prog 3 args W fun e W' => ∃ v, e = .returned v ∧ Rows.storeEncodesSpec.post enc Try.prog Try.f3 false true false false W args v W' := by
  have hW' := hW
  obtain ⟨p, q, hA0, hV, rfl, hfz, hnd⟩ := hW
  have hA : DataW.TrodAll enc Try.prog W 0 (fun _ => true) true Try.f3.params.toList args.toList ds p := hA0
  rw [Try.params3] at hA hval
  obtain ⟨v0, v1, v2, d0, d1, d2, p0, p1, p2, rfl, rfl, rfl, h0, h1, h2⟩ := trodAll_three hA
  obtain ⟨rfl, rfl⟩ := trodVars_none hV
  obtain ⟨s, rfl, rfl, rfl, _⟩ := open_string Try.underlying9 (hval 0 9 v0 rfl rfl) h0
  obtain ⟨t, rfl, rfl, rfl, _⟩ := open_string Try.underlying9 (hval 1 9 v1 rfl rfl) h1
  obtain ⟨c, a, wt, rt, A3, A4, c3, c4, ls, ns, rfl, C3, h3, C4, h4, b0, b1, b2, b3, b4, b5, b6, hw⟩ := ST.open_result (hval 2 28 v2 rfl rfl) h2
  have hs : s.size + t.size + ((ls.map ST.wtLf).sum + (ns.map ST.wtNd).sum) ≤ 1048576 := by
    have h : Rows.uptoBulkAll ([DataW.lit (H := H) (.string s.data.toList), .lit (.string t.data.toList), d2] ++ []) ≤ 1048576 := of_decide_eq_true hk
    simp only [List.append_nil, Rows.uptoBulkAll, Rows.uptoBulk] at h
    have e : s.data.toList.length = s.size := by rw [Array.length_toList]; rfl
    have e' : t.data.toList.length = t.size := by rw [Array.length_toList]; rfl
    omega
  refine (ST.StoreEncodes_calls s t c a wt rt A3 A4 c3 c4 ls ns W C3 h3 C4 h4 (by omega) (by omega) b0 b1 b2 b3 b4 b5 b6 (by omega) (by omega)).mono fun e W' ⟨he, hb⟩ => ?_
  subst he
  exact ⟨_, rfl, LawKit.law_post LawKit.laidOut (by rw [Try.params3]; decide +kernel) 4 rfl Try.underlying4 rfl hW' rfl hb⟩

set_option maxRecDepth 100000 in
theorem lifted (os : Os) (started : os.Started) (H : Type) (enc : TypeId × Value → H) (F : Stop.Interp) :
    ReturnsInHanded {} Try.checked os 3 .any ((Rows.OpenSpec.upto Rows.storeEncodesSpec).pre6 enc Try.prog Try.f3 Rows.storeEncodesUptoRow.domain false) (((Rows.OpenSpec.upto Rows.storeEncodesSpec).at F).post enc Try.prog Try.f3 false true false false) := by
  refine returnsInHanded_of_cond (C := Try.checked) (s := Rows.OpenSpec.upto Rows.storeEncodesSpec) (k := Rows.uptoSmall) rfl LawKit.own started (by kernel_rfl) Try.func3
    (OpenSpec.witness (enc := enc) (C := Try.checked) (s := Rows.OpenSpec.upto Rows.storeEncodesSpec) (k := Rows.uptoSmall) rfl false ⟨#[], #[.string .empty, .string .empty, .agg #[.int .i64 0, .int .i64 0, .int .u64 0, .slice none 0 0, .slice none 0 0, .int .i64 0]], []⟩ 8 (by kernel_rfl) (by kernel_rfl) (by kernel_rfl)
      (x := ([.lit (.string []), .lit (.string []), .agg [.lit (.int .i64 0), .lit (.int .i64 0), .lit (.int .u64 0), .nil, .nil, .lit (.int .i64 0)]], [], [])) (by kernel_rfl) rfl (by kernel_rfl)) ?_
  intro W base args ds gs before hval hW _ hk _
  exact contract H enc W base args ds gs before hval hW hk

theorem proved : Rows.StoreEncodesUptoSaid :=
  OpenClaim.holds_of_cond 3 Try.f3 rfl rfl rfl rfl rfl rfl rfl ⟨rfl, rfl, rfl, rfl, rfl⟩ rfl rfl rfl rfl rfl (by kernel_rfl) Try.func3 (by kernel_rfl)
    (of_decide_eq_true (by kernel_rfl)) (by unfold Func.isWrapper; first | (rw [if_pos (by decide +kernel)]; kernel_rfl) | (rw [if_neg (by decide +kernel)]; exact ⟨rfl, rfl⟩))
    (fun os started H enc _ F => lifted os started H enc F)
#print axioms proved
end Go.Proofs.Ytjgccbpdpnpfjaa.storeEncodes
