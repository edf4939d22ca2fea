/- A result that came in, opened: its numbers, its leaves, its nodes, and what they weigh. -/
import Derived.Test.YtjgccbpdpnpfjaaDoorStoreEncPure
import Derived.Test.YtjgccbpdpnpfjaaDoorOpn
import Derived.OpenShut
namespace Go.Proofs.YtjgccbpdpnpfjaaDoor.ST
open Go.RowKit Go.WideShapes Go.ChangeShapes Go.Proofs.YtjgccbpdpnpfjaaDoorW.PrintWords Go.Proofs.YtjgccbpdpnpfjaaDoorW.PrintLast Go.Proofs.YtjgccbpdpnpfjaaDoorW.PrintMore Go.Proofs.YtjgccbpdpnpfjaaDoor.PAll

def gdL (x : S39) : Prop := (Lit.int .i64 x.f0).wf = true ∧ (Lit.int .i64 x.f1).wf = true ∧ (Lit.int .i64 x.f2).wf = true ∧ (Lit.int .i64 x.f3).wf = true ∧ (Lit.int .u64 x.f4).wf = true ∧ True
def gdN (x : S41) : Prop := True ∧ True ∧ True ∧ (Lit.int .i64 x.f3).wf = true ∧ (Lit.int .i64 x.f4).wf = true ∧ (Lit.int .i64 x.f5).wf = true ∧ (Lit.int .i64 x.f6).wf = true
def hvL (x : S39) : Nat := 1 + (1 + (1 + (1 + (1 + (x.f5.size + 1))))) + 1
def hvN (x : S41) : Nat := (x.f0.size + 1) + (1 + ((x.f2.size + 1) + (1 + (1 + (1 + 1))))) + 1
theorem openL : Opn.Opens Tryd.prog 39 k39 gdL hvL :=
  Opn.iso (Opn.struct Tryd.underlying39 (by kernel_rfl) (Opn.more rfl (by kernel_rfl) (Opn.int Tryd.underlying3) (by decide) (Opn.more rfl (by kernel_rfl) (Opn.int Tryd.underlying3) (by decide) (Opn.more rfl (by kernel_rfl) (Opn.int Tryd.underlying3) (by decide)
    (Opn.more rfl (by kernel_rfl) (Opn.int Tryd.underlying3) (by decide) (Opn.more rfl (by kernel_rfl) (Opn.int Tryd.underlying24) (by decide) (Opn.one rfl (by kernel_rfl) (Opn.string Tryd.underlying9))))))))
    (fun x : S39 => (x.f0, x.f1, x.f2, x.f3, x.f4, x.f5)) (fun y => ⟨y.1, y.2.1, y.2.2.1, y.2.2.2.1, y.2.2.2.2.1, y.2.2.2.2.2⟩) (fun _ => rfl)
theorem openN : Opn.Opens Tryd.prog 41 k41 gdN hvN :=
  Opn.iso (Opn.struct Tryd.underlying41 (by kernel_rfl) (Opn.more rfl (by kernel_rfl) (Opn.string Tryd.underlying9) (by decide) (Opn.more rfl (by kernel_rfl) (Opn.bool Tryd.underlying4) (by decide) (Opn.more rfl (by kernel_rfl) (Opn.string Tryd.underlying9) (by decide)
    (Opn.more rfl (by kernel_rfl) (Opn.int Tryd.underlying3) (by decide) (Opn.more rfl (by kernel_rfl) (Opn.int Tryd.underlying3) (by decide) (Opn.more rfl (by kernel_rfl) (Opn.int Tryd.underlying3) (by decide) (Opn.one rfl (by kernel_rfl) (Opn.int Tryd.underlying3)))))))))
    (fun x : S41 => (x.f0, x.f1, x.f2, x.f3, x.f4, x.f5, x.f6)) (fun y => ⟨y.1, y.2.1, y.2.2.1, y.2.2.2.1, y.2.2.2.2.1, y.2.2.2.2.2.1, y.2.2.2.2.2.2⟩) (fun _ => rfl)
abbrev Res := Int × Int × Int × List S39 × List S41 × Int
def kRes : Kd Res := Kd.pair (Kd.int .i64) (Kd.pair (Kd.int .i64) (Kd.pair (Kd.int .u64) (Kd.pair (Kd.slice 39 k39) (Kd.pair (Kd.slice 41 k41) (Kd.int .i64)))))
def gdR (x : Res) : Prop := (Lit.int .i64 x.1).wf = true ∧ (Lit.int .i64 x.2.1).wf = true ∧ (Lit.int .u64 x.2.2.1).wf = true ∧ (∀ y, y ∈ x.2.2.2.1 → gdL y) ∧ (∀ y, y ∈ x.2.2.2.2.1 → gdN y) ∧ (Lit.int .i64 x.2.2.2.2.2).wf = true
def hvR (x : Res) : Nat := 1 + (1 + (1 + (((x.2.2.2.1.map hvL).sum + 1) + (((x.2.2.2.2.1.map hvN).sum + 1) + 1)))) + 1
set_option maxRecDepth 100000 in
theorem openR : Opn.Opens Tryd.prog 28 kRes gdR hvR :=
  Opn.struct Tryd.underlying28 (by kernel_rfl) (Opn.more rfl (by kernel_rfl) (Opn.int Tryd.underlying22) (by decide) (Opn.more rfl (by kernel_rfl) (Opn.int Tryd.underlying3) (by decide) (Opn.more rfl (by kernel_rfl) (Opn.int Tryd.underlying24) (by decide)
    (Opn.more rfl (by kernel_rfl) (Opn.slice (e := 39) Tryd.underlying25 (by kernel_rfl) openL) (by decide) (Opn.more rfl (by kernel_rfl) (Opn.slice (e := 41) Tryd.underlying26 (by kernel_rfl) openN) (by decide) (Opn.one rfl (by kernel_rfl) (Opn.int Tryd.underlying3)))))))
theorem sum_le {α : Type} (f g : α → Nat) (h : ∀ x, f x ≤ g x) (l : List α) : (l.map f).sum ≤ (l.map g).sum := by
  induction l with
  | nil => simp
  | cons x r ih => have := h x; simp only [List.map_cons, List.sum_cons]; omega
set_option maxRecDepth 100000 in
/-- A result by its parts. -/
theorem open_result {H : Type} {enc : TypeId × Value → H} {w : World} {base : Nat} {spare : Nat → Bool} {held : Bool} {v : Value} {x : DataW H} {ps : List MemPlace} {r : Reach} {b0 : Nat}
    (hv : Value.okWide Tryd.prog w r b0 28 v) (hx : DataW.Trod enc Tryd.prog w base spare held 28 v x ps) :
    ∃ (c a wt rt : Int) (A3 A4 : Option Addr) (c3 c4 : Nat) (ls : List S39) (ns : List S41), v = .agg #[.int .i64 c, .int .i64 a, .int .u64 wt, .slice A3 ls.length c3, .slice A4 ns.length c4, .int .i64 rt] ∧ Kd.C k39 w A3 ls.length ls ∧ ls.length ≤ c3 ∧ Kd.C k41 w A4 ns.length ns ∧ ns.length ≤ c4 ∧
      c < 9223372036854775808 ∧ a < 9223372036854775808 ∧ rt < 9223372036854775808 ∧ 0 ≤ wt ∧ wt < 18446744073709551616 ∧ (∀ x ∈ ls, okL x) ∧ (∀ x ∈ ns, okN x) ∧ (ls.map wtLf).sum + (ns.map wtNd).sum ≤ Rows.uptoBulk x := by
  obtain ⟨cs, ⟨c, a, wt, ls, ns, rt⟩, rfl, hK, ⟨g0, g1, g2, g3, g4, g5⟩, hw⟩ := Opn.arg_struct Tryd.underlying28 openR hv hx
  obtain ⟨_, _, e0, k0, _, _, rfl, k1, _, _, rfl, k2, _, _, rfl, ⟨A3, c3, k3, h3, C3⟩, _, _, rfl, ⟨A4, c4, k4, h4, C4⟩, k5⟩ := hK
  have k0' : _ = [Value.int .i64 c] := k0
  have k1' : _ = [Value.int .i64 a] := k1
  have k2' : _ = [Value.int .u64 wt] := k2
  have k5' : _ = [Value.int .i64 rt] := k5
  subst k0'; subst k1'; subst k2'; subst k3; subst k4; subst k5'
  obtain rfl : cs = #[.int .i64 c, .int .i64 a, .int .u64 wt, .slice A3 ls.length c3, .slice A4 ns.length c4, .int .i64 rt] := by
    apply Array.ext'
    rw [e0]
    rfl
  simp only at g0 g1 g2 g3 g4 g5 C3 C4 h3 h4
  refine ⟨c, a, wt, rt, A3, A4, c3, c4, ls, ns, rfl, C3, h3, C4, h4, ?_, ?_, ?_, ?_, ?_, ?_, ?_, ?_⟩
  · have := bounds_i64 g0; omega
  · have := bounds_i64 g1; omega
  · have := bounds_i64 g5; omega
  · have := bounds_u64 g2; omega
  · have := bounds_u64 g2; omega
  · intro x hx
    obtain ⟨a0, a1, a2, a3, a4, _⟩ := g3 x hx
    have b0 := bounds_i64 a0; have b1 := bounds_i64 a1; have b2 := bounds_i64 a2; have b3 := bounds_i64 a3; have b4 := bounds_u64 a4
    exact ⟨by omega, by omega, by omega, by omega, by omega, by omega⟩
  · intro x hx
    obtain ⟨_, _, _, a3, a4, a5, a6⟩ := g4 x hx
    have b3 := bounds_i64 a3; have b4 := bounds_i64 a4; have b5 := bounds_i64 a5; have b6 := bounds_i64 a6
    exact ⟨by omega, by omega, by omega, by omega⟩
  · have h1 := sum_le wtLf hvL (fun x => by unfold wtLf hvL; omega) ls
    have h2 := sum_le wtNd hvN (fun x => by unfold wtNd hvN; omega) ns
    unfold hvR at hw
    simp only at hw
    omega
end Go.Proofs.YtjgccbpdpnpfjaaDoor.ST
