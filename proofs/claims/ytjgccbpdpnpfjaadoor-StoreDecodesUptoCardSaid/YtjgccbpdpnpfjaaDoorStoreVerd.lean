/- store: the verdict on bytes, as the reference comes to it. -/
import Derived.Test.YtjgccbpdpnpfjaaDoorStoreRead5
namespace Go.Proofs.YtjgccbpdpnpfjaaDoor.ST
open Go.RowKit Go.Proofs.YtjgccbpdpnpfjaaDoorW.PrintWords Go.Proofs.YtjgccbpdpnpfjaaDoorW.PrintLast Go.Proofs.YtjgccbpdpnpfjaaDoorW.PrintMore Go.Proofs.YtjgccbpdpnpfjaaDoor.PAll
set_option linter.unusedVariables false

/-- all that is read of the bytes -/
structure Hd where
  dw : Nat
  tw : Nat
  rs : Rs
  e : Nat
  sv : Nat
  a : Nat
  o : Bool
def rdHd (b : ByteArray) : Rd (Nat × Nat × Rs) := fun a o => bindS (rdB 83 83 b a o) fun _ a o => bindS (rdB 1 1 b a o) fun _ a o => bindS (rdW b a o) fun dw a o => bindS (rdW b a o) fun tw a o => bindS (rdRes b a o) fun rs a o => ((dw, tw, rs), a, o)
theorem good_hd (b : ByteArray) : Good b (rdHd b) := (good_B 83 83 b).bind fun _ => (good_B 1 1 b).bind fun _ => (good_W b).bind fun _ => (good_W b).bind fun _ => (good_res b).bind fun _ => Good.pure _
def hd (b : ByteArray) : Hd :=
  let s := rdHd b 0 true
  let q := rdW b s.2.1 s.2.2
  ⟨s.1.1, s.1.2.1, s.1.2.2, s.2.1, q.1, q.2.1, q.2.2⟩
/-- the code and the place -/
def verdict (b d t : ByteArray) : Nat × Nat :=
  if (hd b).o = true ∧ (hd b).sv ≠ sumS (b.extract 0 (hd b).e) then (330, (hd b).e) else if (hd b).o = false ∨ (hd b).a < b.size then (330, (hd b).a) else if (hd b).dw ≠ sumS d then (331, 0) else if (hd b).tw ≠ sumS t then (331, 1) else (0, 0)
def rs0 : Rs := ⟨0, 0, 0, [], [], 0⟩
def outOf (b d t : ByteArray) : Rs := if (verdict b d t).1 = 0 then (hd b).rs else rs0

/-- what is not well reads nothing, and stays where it is -/
def Still {α : Type} (f : Rd α) : Prop := ∀ a, (f a false).2.1 = a ∧ (f a false).2.2 = false
theorem Still.bind {α β : Type} {f : Rd α} {g : α → Rd β} (hf : Still f) (hg : ∀ x, Still (g x)) : Still (fun a o => bindS (f a o) g) := by
  intro a
  obtain ⟨h1, h2⟩ := hf a
  show (g (f a false).1 (f a false).2.1 (f a false).2.2).2.1 = a ∧ (g (f a false).1 (f a false).2.1 (f a false).2.2).2.2 = false
  rw [h1, h2]
  exact hg _ a
theorem Still.pure {α : Type} (x : α) : Still (fun a o => (x, a, o)) := fun a => ⟨rfl, rfl⟩
theorem still_C (b : ByteArray) : Still (rdC b) := fun a => ⟨rfl, rfl⟩
theorem still_W (b : ByteArray) : Still (rdW b) := fun a => ⟨rfl, rfl⟩
theorem still_K (b : ByteArray) (n : Nat) : Still (fun a o => rdK b a o n) := fun a => ⟨rfl, rfl⟩
theorem still_B (l m : Nat) (b : ByteArray) : Still (rdB l m b) := fun a => ⟨rfl, rfl⟩
theorem still_list {α : Type} (f : Rd α) (n : Nat) (acc : List α) : Still (rdList f n acc) := fun a => by rw [rdList_no]; exact ⟨rfl, rfl⟩
theorem still_res (b : ByteArray) : Still (rdRes b) := (still_C b).bind fun _ => (still_C b).bind fun _ => (still_C b).bind fun _ => (still_W b).bind fun _ => Still.bind ((still_C b).bind fun n => still_list _ n []) fun _ => Still.bind ((still_C b).bind fun n => still_list _ n []) fun _ => Still.pure _
theorem still_rest (b : ByteArray) : Still (fun a o => bindS (rdW b a o) fun dw a o => bindS (rdW b a o) fun tw a o => bindS (rdRes b a o) fun rs a o => (((dw, tw, rs), a, o) : Sv (Nat × Nat × Rs))) :=
  (still_W b).bind fun _ => (still_W b).bind fun _ => (still_res b).bind fun _ => Still.pure _
/-- bytes whose head is not well are refused there -/
theorem verdict_of_bad {b d t : ByteArray} {p : Nat} (h1 : (rdHd b 0 true).2.1 = p) (h2 : (rdHd b 0 true).2.2 = false) : verdict b d t = (330, p) := by
  have ho : (hd b).o = false := by unfold hd; dsimp only; rw [h2]; rfl
  have ha : (hd b).a = p := by unfold hd; dsimp only; rw [h2, h1]; rfl
  unfold verdict
  rw [if_neg (fun h => by rw [ho] at h; cases h.1), if_pos (.inl ho), ha]
theorem bad0 {b : ByteArray} (d t : ByteArray) (h : ¬(1 ≤ b.size ∧ nb b 0 = 83)) : verdict b d t = (330, 0) := by
  have e : rdB 83 83 b 0 true = (0, 0, false) := by
    unfold rdB
    by_cases h1 : 0 + 1 ≤ b.size
    · rw [if_pos ⟨rfl, h1⟩, if_neg (fun h2 => h ⟨by omega, by omega⟩)]
    · rw [if_neg (fun h2 => h1 h2.2)]
  have hs := Still.bind (g := fun _ a o => bindS (rdW b a o) fun dw a o => bindS (rdW b a o) fun tw a o => bindS (rdRes b a o) fun rs a o => (((dw, tw, rs), a, o) : Sv (Nat × Nat × Rs))) (still_B 1 1 b) (fun _ => still_rest b) 0
  refine verdict_of_bad ?_ ?_
  · unfold rdHd
    show (bindS (rdB 83 83 b 0 true) _).2.1 = 0
    rw [e]
    exact hs.1
  · unfold rdHd
    show (bindS (rdB 83 83 b 0 true) _).2.2 = false
    rw [e]
    exact hs.2
theorem well0 {b : ByteArray} (h : 1 ≤ b.size ∧ nb b 0 = 83) : rdB 83 83 b 0 true = (83, 1, true) := by
  unfold rdB
  rw [if_pos ⟨rfl, by omega⟩, if_pos ⟨by omega, by omega⟩, h.2]
theorem bad1 {b : ByteArray} (d t : ByteArray) (h0 : 1 ≤ b.size ∧ nb b 0 = 83) (h : ¬(2 ≤ b.size ∧ nb b 1 = 1)) : verdict b d t = (330, 1) := by
  have e : rdB 1 1 b 1 true = (0, 1, false) := by
    unfold rdB
    by_cases h1 : 1 + 1 ≤ b.size
    · rw [if_pos ⟨rfl, h1⟩, if_neg (fun h2 => h ⟨by omega, by omega⟩)]
    · rw [if_neg (fun h2 => h1 h2.2)]
  have hs := still_rest b 1
  refine verdict_of_bad ?_ ?_
  · unfold rdHd bindS
    rw [well0 h0]
    dsimp only
    rw [e]
    exact hs.1
  · unfold rdHd bindS
    rw [well0 h0]
    dsimp only
    rw [e]
    exact hs.2
theorem well1 {b : ByteArray} (h0 : 1 ≤ b.size ∧ nb b 0 = 83) (h : 2 ≤ b.size ∧ nb b 1 = 1) : rdHd b 0 true = bindS (rdW b 2 true) fun dw a o => bindS (rdW b a o) fun tw a o => bindS (rdRes b a o) fun rs a o => ((dw, tw, rs), a, o) := by
  have e : rdB 1 1 b 1 true = (1, 2, true) := by
    unfold rdB
    rw [if_pos ⟨rfl, by omega⟩, if_pos ⟨by omega, by omega⟩, h.2]
  unfold rdHd bindS
  rw [well0 h0]
  dsimp only
  rw [e]
end Go.Proofs.YtjgccbpdpnpfjaaDoor.ST
