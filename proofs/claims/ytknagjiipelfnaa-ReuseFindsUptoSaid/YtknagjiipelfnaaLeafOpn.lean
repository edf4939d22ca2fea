/- Leaves, an edit, questions that came in, opened: their values, and what they weigh. -/
import Derived.Test.YtknagjiipelfnaaPAllx0
import Derived.Test.YtknagjiipelfnaaOpn
import Derived.OpenShut
namespace Go.Proofs.Ytknagjiipelfnaa.LO
open Go.RowKit Go.WideShapes Go.ChangeShapes Go.Proofs.YtknagjiipelfnaaW.PrintWords Go.Proofs.YtknagjiipelfnaaW.PrintLast Go.Proofs.YtknagjiipelfnaaW.PrintMore Go.Proofs.Ytknagjiipelfnaa.PAll

def gdL (x : S68) : Prop := (Lit.int .i64 x.f0).wf = true ∧ (Lit.int .i64 x.f1).wf = true ∧ (Lit.int .i64 x.f2).wf = true ∧ (Lit.int .i64 x.f3).wf = true ∧ (Lit.int .u64 x.f4).wf = true ∧ True
def hvL (x : S68) : Nat := 1 + (1 + (1 + (1 + (1 + (x.f5.size + 1))))) + 1
set_option maxRecDepth 100000 in
theorem openL : Opn.Opens Try.prog 68 k68 gdL hvL :=
  Opn.iso (Opn.struct Try.underlying68 (by kernel_rfl) (Opn.more rfl (by kernel_rfl) (Opn.int Try.underlying3) (by decide) (Opn.more rfl (by kernel_rfl) (Opn.int Try.underlying3) (by decide) (Opn.more rfl (by kernel_rfl) (Opn.int Try.underlying3) (by decide)
    (Opn.more rfl (by kernel_rfl) (Opn.int Try.underlying3) (by decide) (Opn.more rfl (by kernel_rfl) (Opn.int Try.underlying58) (by decide) (Opn.one rfl (by kernel_rfl) (Opn.string Try.underlying9))))))))
    (fun x : S68 => (x.f0, x.f1, x.f2, x.f3, x.f4, x.f5)) (fun y => ⟨y.1, y.2.1, y.2.2.1, y.2.2.2.1, y.2.2.2.2.1, y.2.2.2.2.2⟩) (fun _ => rfl)
set_option maxRecDepth 100000 in
theorem openLs : Opn.Opens Try.prog 52 (Kd.slice 68 k68) (fun xs => ∀ x, x ∈ xs → gdL x) (fun xs => (xs.map hvL).sum + 1) := Opn.slice Try.underlying52 (by kernel_rfl) openL
theorem len_le (l : List S68) : l.length ≤ (l.map hvL).sum := by
  induction l with
  | nil => exact Nat.le_refl _
  | cons x r ih => simp only [List.map_cons, List.sum_cons, List.length_cons]; unfold hvL; unfold hvL at ih; omega
abbrev kE : Kd (Int × Int × ByteArray) := Kd.pair (Kd.int .i64) (Kd.pair (Kd.int .i64) Kd.string)
set_option maxRecDepth 100000 in
theorem openE : Opn.Opens Try.prog 54 kE (fun y => (Lit.int .i64 y.1).wf = true ∧ (Lit.int .i64 y.2.1).wf = true ∧ True) (fun y => 1 + (1 + (y.2.2.size + 1)) + 1) :=
  Opn.struct Try.underlying54 (by kernel_rfl) (Opn.more rfl (by kernel_rfl) (Opn.int Try.underlying3) (by decide) (Opn.more rfl (by kernel_rfl) (Opn.int Try.underlying3) (by decide) (Opn.one rfl (by kernel_rfl) (Opn.string Try.underlying9))))
set_option maxRecDepth 100000 in
/-- An edit by its parts. -/
theorem open_edit {H : Type} {enc : TypeId × Value → H} {w : World} {base : Nat} {spare : Nat → Bool} {held : Bool} {v : Value} {x : DataW H} {ps : List MemPlace} {r : Reach} {b0 : Nat}
    (hv : Value.okWide Try.prog w r b0 54 v) (hx : DataW.Trod enc Try.prog w base spare held 54 v x ps) : ∃ (a d : Int) (s : ByteArray), v = .agg #[.int .i64 a, .int .i64 d, .string s] ∧ s.size ≤ Rows.uptoBulk x := by
  obtain ⟨cs, ⟨a, d, s⟩, rfl, hK, _, hw⟩ := Opn.arg_struct Try.underlying54 openE hv hx
  obtain ⟨_, _, e0, k0, _, _, rfl, k1, k2⟩ := hK
  have k0' : _ = [Value.int .i64 a] := k0
  have k1' : _ = [Value.int .i64 d] := k1
  have k2' : _ = [Value.string s] := k2
  subst k0'; subst k1'; subst k2'
  obtain rfl : cs = #[.int .i64 a, .int .i64 d, .string s] := by
    apply Array.ext'
    rw [e0]
    rfl
  simp only at hw
  exact ⟨a, d, s, rfl, by omega⟩
end Go.Proofs.Ytknagjiipelfnaa.LO
