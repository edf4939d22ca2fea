/- Rows of whole numbers of a call's own, several beside one another: what a store into one leaves of the others. -/
import Derived.Test.YtknagjiipelfnaaGrove
import Derived.Test.YtknagjiipelfnaaWAt
namespace Go.Proofs.Ytknagjiipelfnaa.OL
open Go.RowKit Go.WideShapes Go.ChangeShapes Go.Proofs.YtknagjiipelfnaaW.PrintWords Go.Proofs.YtknagjiipelfnaaW.PrintLast Go.Proofs.YtknagjiipelfnaaW.PrintMore Go.Proofs.Ytknagjiipelfnaa.PAll
set_option linter.unusedVariables false

abbrev kI : Kd Int := Kd.int .i64
def T1 : Nat → Prop := fun _ => True
def RI (w : World) (b : Nat) (v : Value) (xs : List Int) : Prop := kI.R 3 w b (fun _ => True) v xs
/-- Not in one block. -/
def apart (u v : Value) : Prop := ∀ k, u.ownBlock = some k → v.ownBlock ≠ some k
theorem apart.symm {u v : Value} (h : apart u v) : apart v u := fun k hk he => h k he hk
section
variable {w w1 : World} {b : Nat} {v : Value} {xs : List Int}
theorem RI.ok (h : RI w b v xs) (ok : Nat → Prop) (hok : ∀ k, v.ownBlock = some k → ok k) : kI.R 3 w b ok v xs :=
  ⟨hok, h.2.imp_ (fun _ _ hp => hp)⟩
theorem RI.of {ok : Nat → Prop} (h : kI.R 3 w b ok v xs) : RI w b v xs := Kd.R_mono h (fun _ _ => trivial)
theorem RI.below (h : RI w b v xs) (hb : Below w.heap.size w w1) : RI w1 b v xs := Kd.R_below h hb
theorem RI.keep (h : RI w b v xs) {row : Option Nat} (hg : w.grownBy w1 row) (hn : ∀ k, v.ownBlock = some k → some k ≠ row) : RI w1 b v xs :=
  RI.of (Kd.R_grown (h.ok (fun k => v.ownBlock = some k) (fun _ hk => hk)) hg (fun k hk => hn k hk))
theorem RI.lt (h : RI w b v xs) {k : Nat} (hk : v.ownBlock = some k) : b ≤ k ∧ k < w.heap.size := ⟨Kd.R_base h k hk, Kd.R_lt h k hk⟩
theorem RI.form (h : RI w b v xs) {g : Nat} (hk : v.ownBlock = some g) : ∃ c, v = .slice (some ⟨g, 0, none⟩) xs.length c ∧ ∃ cells, w.heap[g]? = some (.cells cells 3 (0, 0)) := by
  obtain ⟨_, inner, ho, hr⟩ := h
  have hlen : xs.length = xs.length := rfl
  rcases ho.2 with ⟨rfl, _⟩ | ⟨g2, cap, cur, rfl, hg, hh, r⟩
  · simp [Value.ownBlock] at hk
  · have : g2 = g := by simpa [Value.ownBlock] using hk
    subst this
    exact ⟨cap, rfl, cur, hh⟩
theorem RI.pos (h : RI w b v xs) (hp : 0 < xs.length) : ∃ g c, v = .slice (some ⟨g, 0, none⟩) xs.length c ∧ v.ownBlock = some g ∧ b ≤ g ∧ g < w.heap.size ∧ ∃ cells, w.heap[g]? = some (.cells cells 3 (0, 0)) := by
  obtain ⟨g, c, e, h1, h2, h3⟩ := Kd.R_form h hp
  exact ⟨g, c, e, by rw [e]; rfl, h1, h2, h3⟩
theorem RI.opens (h : RI w b v xs) : ∃ A c, v = .slice A xs.length c ∧ xs.length ≤ c ∧ kI.C w A xs.length xs := Kd.R_reads h
theorem RI.typed (h : RI w b v xs) {g : Nat} (hk : v.ownBlock = some g) : ∃ cells, w.heap[g]? = some (.cells cells 3 (0, 0)) := Kd.R_typed h g hk
theorem RI.at_ {g n c : Nat} (h : RI w b (.slice (some ⟨g, 0, none⟩) n c) xs) (i : Nat) (hi : i < xs.length) (x : Int) (hx : xs[i]? = some x) : w.cell? ⟨g, i, none⟩ = some (.int .i64 x) ∧ w.frozen? ⟨g, i, none⟩ = false := by
  obtain ⟨hn, _⟩ := Kd.R_reads' h
  have h2 := Kd.R_celln (enc := Value.int .i64) (h1 := fun _ => rfl) 0 h (i : Int) (by omega) (by omega)
  rw [Int.toNat_natCast] at h2
  refine ⟨?_, h2.2⟩
  rw [h2.1]
  unfold rdOf
  rw [Int.toNat_natCast, List.getD_eq_getElem?_getD, hx]
  rfl
theorem RI.put {g n c : Nat} (h : RI w b (.slice (some ⟨g, 0, none⟩) n c) xs) (i : Nat) (x : Int) : RI (w.setCell ⟨g, i, none⟩ (.int .i64 x)) b (.slice (some ⟨g, 0, none⟩) n c) (xs.set i x) ∧ w.grownBy (w.setCell ⟨g, i, none⟩ (.int .i64 x)) (some g) := by
  have h2 := Kd.R_putg (enc := Value.int .i64) (h1 := fun _ => rfl) h (i : Int) x
  rw [Int.toNat_natCast] at h2
  exact h2
theorem RI.take {n c : Nat} {A : Option Addr} (h : RI w b (.slice A n c) xs) (m : Nat) (hm : m ≤ xs.length) : RI w b (.slice A m c) (xs.take m) := Kd.R_take h hm
theorem own_take_eq {A : Option Addr} {m n c : Nat} : (Value.slice A m c).ownBlock = (Value.slice A n c).ownBlock := by cases A <;> rfl
theorem RI.nil (w : World) (b : Nat) : RI w b (.slice none 0 0) [] := Kd.R_nil _ _ _ _ _
theorem RI.len {A : Option Addr} {n c : Nat} (h : RI w b (.slice A n c) xs) : n = xs.length := (Kd.R_reads' h).1
end
theorem lit1_C {w : World} {g : Nat} {p : Int} (h : w.heap[g]? = some (.cells #[.int .i64 p] 3 (0, 0))) : kI.C w (some ⟨g, 0, none⟩) 1 [p] := by
  refine ⟨rfl, by decide, fun _ => ⟨⟨g, 0, none⟩, rfl, fun j y hj => ?_⟩⟩
  cases j with
  | succ j => simp at hj
  | zero =>
    simp only [List.getElem?_cons_zero] at hj
    injection hj with hj
    subst hj
    refine ⟨[.int .i64 p], rfl, rfl, fun i u hi => ?_⟩
    cases i with
    | succ i => simp at hi
    | zero =>
      rw [← hi]
      exact (blk_cell h 0).trans rfl
end Go.Proofs.Ytknagjiipelfnaa.OL
