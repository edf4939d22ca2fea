/- MendOdds: Odd of every list of slips is the document's, twice; the list stays as it was, the answers are apart; and of the list turned and written over it is asked anew: the law is true for every list. -/
import Derived.Test.YtgefbbdahhoglaaMendLaw
import Derived.Test.YtgefbbdahhoglaaOpn
import Derived.Test.YtgefbbdahhoglaaLaw
import Derived.SizedLaws
namespace Go.Proofs.Ytgefbbdahhoglaa.mendOdds
open Go.Joins Go.RowKit Go.WideShapes Go.ChangeShapes Go.Proofs.YtgefbbdahhoglaaW.PrintWords
open Go.ChangeMaps (open_string shut_string)

def tup (x : PMo.S25) : Int × Int × Int × Int := (x.f0, x.f1, x.f2, x.f3)
def untup (x : Int × Int × Int × Int) : PMo.S25 := ⟨x.1, x.2.1, x.2.2.1, x.2.2.2⟩
theorem open25 : Opn.Opens Try.prog 25 PMo.k25 (fun y => (Lit.int .i64 y.f0).wf = true ∧ (Lit.int .i64 y.f1).wf = true ∧ (Lit.int .i64 y.f2).wf = true ∧ (Lit.int .i64 y.f3).wf = true) (fun _ => 1 + (1 + (1 + 1)) + 1) :=
  Opn.iso (Opn.struct Try.underlying25 (by kernel_rfl) (Opn.more rfl (by kernel_rfl) (Opn.int Try.underlying23) (by decide) (Opn.more rfl (by kernel_rfl) (Opn.int Try.underlying3) (by decide) (Opn.more rfl (by kernel_rfl) (Opn.int Try.underlying3) (by decide) (Opn.one rfl (by kernel_rfl) (Opn.int Try.underlying3)))))) tup untup (fun _ => rfl)

theorem open22 : Opn.Opens Try.prog 22 (Kd.slice 25 PMo.k25) (fun xs => ∀ x, x ∈ xs → ((Lit.int .i64 x.f0).wf = true ∧ (Lit.int .i64 x.f1).wf = true ∧ (Lit.int .i64 x.f2).wf = true ∧ (Lit.int .i64 x.f3).wf = true)) (fun xs => (xs.map (fun _ => 1 + (1 + (1 + 1)) + 1)).sum + 1) := Opn.slice Try.underlying22 (by kernel_rfl) open25
theorem bytes25 : Try.prog.bytesOf 25 = 32 := by kernel_rfl

set_option maxRecDepth 100000 in
theorem lifted (os : Os) (started : os.Started) (H : Type) (enc : TypeId × Value → H) :
    ReturnsInHanded {} Try.checked os 3 .any (Rows.mendOddsSpec.pre6 enc Try.prog Try.f3 Rows.mendOddsRow.domain false) (Rows.mendOddsSpec.post enc Try.prog Try.f3 false true false false) := by
  refine returnsInHanded_of_change_sized (C := Try.checked) LawKit.own started (by kernel_rfl) Try.func3
    (ChangeSpec.witness6 (enc := enc) (C := Try.checked) false ⟨#[], #[.slice none 0 0], []⟩ 8 (by kernel_rfl) (by kernel_rfl) (by kernel_rfl) (by kernel_rfl)) ?_
  intro W base args ds gs before hval0 hW hcnd hsz0 _
  have hval : ∀ (j : Nat) t v, Try.f3.params[j]? = some t → args[j]? = some v → Value.okWide Try.prog W .any base t v := hval0
  have hsz : (DataW.weightsEach Try.prog (Try.f3.params.toList ++ Rows.mendOddsSpec.plain.varTypes Try.prog) (ds ++ gs)).all (· ≤ reachBytes) = true := hsz0
  have hW' := hW
  obtain ⟨p, q, hA0, hV, rfl, hfz, hnd⟩ := hW
  have hA : DataW.TrodAll enc Try.prog W 0 (fun _ => true) true Try.f3.params.toList args.toList ds p := hA0
  rw [Try.params3] at hA hval hsz
  obtain ⟨v0, vs0, d0, ds0, p0, q0, hargs, rfl, rfl, h0, r0⟩ := trodAll_cons hA
  obtain ⟨rfl, rfl, rfl⟩ := trodAll_nil r0
  obtain rfl : args = #[v0] := by cases args; simp_all
  obtain ⟨rfl, rfl⟩ := trodVars_none hV
  obtain ⟨A, cp, l, rfl, hcp, hC, hg, hw⟩ := Opn.arg_slice Try.underlying22 open22 (hval 0 22 v0 rfl rfl) h0
  have hs : l.length ≤ 4398046510976 := by
    obtain ⟨fuel, hf⟩ := h0
    rcases Go.Deep.open_slice Try.underlying22 hf with ⟨h1, h2⟩ | ⟨a, len, cap, m, n, D, Pl, h1, _, hl, hm, hmm, h2, _⟩
    · injection h1 with h1
      injection h1 with _ h1
      omega
    · injection h1 with h1
      injection h1 with _ h1
      have h3 : d0 = .slice ((List.range len).map D) ((List.range (m - len)).map fun j => D (len + j)) := congrArg Prod.fst h2
      have h4 := sized_slice hsz (j := 0) (t := 22) (e := 25) rfl (by rw [h3]; rfl) Try.underlying22
      rw [bytes25, List.length_map, List.length_range, reachBytes] at h4
      omega
  refine (Mend.MendOdds_calls A cp l W hC hcp hs).mono fun e W' ⟨he, hb⟩ => ?_
  subst he
  exact ⟨_, rfl, LawKit.law_post LawKit.laidOut (by rw [Try.params3]; decide +kernel) 4 rfl Try.underlying4 rfl hW' rfl hb⟩

theorem proved : Rows.MendOddsSaid :=
  OpenClaim.holds_of_wide 3 Try.f3 rfl rfl rfl rfl rfl rfl rfl ⟨rfl, rfl, rfl, rfl, rfl⟩ rfl rfl rfl rfl rfl (by kernel_rfl) Try.func3 (by kernel_rfl)
    (of_decide_eq_true (by kernel_rfl)) (by unfold Func.isWrapper; first | (rw [if_pos (by decide +kernel)]; kernel_rfl) | (rw [if_neg (by decide +kernel)]; exact ⟨rfl, rfl⟩))
    (fun os started H enc _ => lifted os started H enc)
#print axioms proved
end Go.Proofs.Ytgefbbdahhoglaa.mendOdds
