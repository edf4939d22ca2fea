/- Nodes, fold and mark lines that came in, opened: their values, and what they weigh. -/
import Derived.Test.YtknagjiipelfnaaSym
import Derived.Test.YtknagjiipelfnaaOpn
import Derived.OpenShut
namespace Go.Proofs.Ytknagjiipelfnaa.NO
open Go.RowKit Go.WideShapes Go.ChangeShapes Go.Proofs.YtknagjiipelfnaaW.PrintWords Go.Proofs.YtknagjiipelfnaaW.PrintLast Go.Proofs.YtknagjiipelfnaaW.PrintMore Go.Proofs.Ytknagjiipelfnaa.PAll

def gdN (x : S50) : Prop := True ∧ True ∧ True ∧ (Lit.int .i64 x.f3).wf = true ∧ (Lit.int .i64 x.f4).wf = true ∧ (Lit.int .i64 x.f5).wf = true ∧ (Lit.int .i64 x.f6).wf = true
def hvN (x : S50) : Nat := (x.f0.size + 1) + (1 + ((x.f2.size + 1) + (1 + (1 + (1 + 1))))) + 1
set_option maxRecDepth 100000 in
theorem openN : Opn.Opens Try.prog 50 k50 gdN hvN :=
  Opn.iso (Opn.struct Try.underlying50 (by kernel_rfl) (Opn.more rfl (by kernel_rfl) (Opn.string Try.underlying9) (by decide) (Opn.more rfl (by kernel_rfl) (Opn.bool Try.underlying4) (by decide) (Opn.more rfl (by kernel_rfl) (Opn.string Try.underlying9) (by decide)
    (Opn.more rfl (by kernel_rfl) (Opn.int Try.underlying3) (by decide) (Opn.more rfl (by kernel_rfl) (Opn.int Try.underlying3) (by decide) (Opn.more rfl (by kernel_rfl) (Opn.int Try.underlying3) (by decide) (Opn.one rfl (by kernel_rfl) (Opn.int Try.underlying3)))))))))
    (fun x : S50 => (x.f0, x.f1, x.f2, x.f3, x.f4, x.f5, x.f6)) (fun y => ⟨y.1, y.2.1, y.2.2.1, y.2.2.2.1, y.2.2.2.2.1, y.2.2.2.2.2.1, y.2.2.2.2.2.2⟩) (fun _ => rfl)
set_option maxRecDepth 100000 in
theorem openNs : Opn.Opens Try.prog 26 (Kd.slice 50 k50) (fun xs => ∀ x, x ∈ xs → gdN x) (fun xs => (xs.map hvN).sum + 1) := Opn.slice Try.underlying26 (by kernel_rfl) openN
theorem len_le {α : Type} (h : α → Nat) (hp : ∀ x, 1 ≤ h x) (l : List α) : l.length ≤ (l.map h).sum := by
  induction l with
  | nil => exact Nat.le_refl _
  | cons x r ih =>
    have := hp x
    simp only [List.map_cons, List.sum_cons, List.length_cons]
    omega
theorem lenN (l : List S50) : l.length ≤ (l.map hvN).sum := len_le hvN (fun x => by unfold hvN; omega) l
theorem kids_of {l : List S50} (h : ∀ x, x ∈ l → gdN x) : ∀ x ∈ l, x.f5 ≤ 9223372036854775807 := fun x hx => by
  have := (h x hx).2.2.2.2.2.1
  have h2 := Bool.and_eq_true _ _ |>.mp this
  exact of_decide_eq_true h2.2
def hvM (x : OL.Mk) : Nat := (x.1.size + 1) + (x.2.size + 1) + 1
set_option maxRecDepth 100000 in
theorem openM : Opn.Opens Try.prog 129 OL.k129 (fun _ => True ∧ True) hvM :=
  Opn.struct Try.underlying129 (by kernel_rfl) (Opn.more rfl (by kernel_rfl) (Opn.string Try.underlying9) (by decide) (Opn.one rfl (by kernel_rfl) (Opn.string Try.underlying9)))
abbrev kX : Kd (List ByteArray × List OL.Mk) := Kd.pair (Kd.slice 9 Kd.string) (Kd.slice 129 OL.k129)
set_option maxRecDepth 100000 in
theorem openX : Opn.Opens Try.prog 25 kX (fun y => (∀ x, x ∈ y.1 → True) ∧ (∀ x, x ∈ y.2 → True ∧ True)) (fun y => (((y.1.map fun s => s.size + 1).sum + 1) + ((y.2.map hvM).sum + 1)) + 1) :=
  Opn.struct Try.underlying25 (by kernel_rfl) (Opn.more rfl (by kernel_rfl) (Opn.slice Try.underlying22 (by kernel_rfl) (Opn.string Try.underlying9)) (by decide) (Opn.one rfl (by kernel_rfl) (Opn.slice Try.underlying23 (by kernel_rfl) openM)))
set_option maxRecDepth 100000 in
/-- Lines by their parts. -/
theorem open_lines {H : Type} {enc : TypeId × Value → H} {w : World} {base : Nat} {spare : Nat → Bool} {held : Bool} {v : Value} {x : DataW H} {ps : List MemPlace} {r : Reach} {b0 : Nat}
    (hv : Value.okWide Try.prog w r b0 25 v) (hx : DataW.Trod enc Try.prog w base spare held 25 v x ps) :
    ∃ (FA MA : Option Addr) (cf cm : Nat) (fs : List ByteArray) (ms : List OL.Mk), v = .agg #[.slice FA fs.length cf, .slice MA ms.length cm] ∧ fs.length ≤ cf ∧ Kd.string.C w FA fs.length fs ∧ ms.length ≤ cm ∧ OL.k129.C w MA ms.length ms ∧ fs.length + ms.length ≤ Rows.uptoBulk x := by
  obtain ⟨cs, ⟨fs, ms⟩, rfl, hK, _, hw⟩ := Opn.arg_struct Try.underlying25 openX hv hx
  obtain ⟨_, _, e0, ⟨FA, cf, rfl, hcf, hF⟩, ⟨MA, cm, rfl, hcm, hM⟩⟩ := hK
  obtain rfl : cs = #[.slice FA fs.length cf, .slice MA ms.length cm] := by
    apply Array.ext'
    rw [e0]
    rfl
  have h1 := len_le (fun s : ByteArray => s.size + 1) (fun s => by omega) fs
  have h2 := len_le hvM (fun s => by unfold hvM; omega) ms
  simp only at hw
  exact ⟨FA, MA, cf, cm, fs, ms, rfl, hcf, hF, hcm, hM, by omega⟩
end Go.Proofs.Ytknagjiipelfnaa.NO
