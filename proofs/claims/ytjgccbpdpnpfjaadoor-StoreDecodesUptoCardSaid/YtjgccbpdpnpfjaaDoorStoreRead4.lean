/- store: leaves, nodes, lists and whole results, as the readers answer them. -/
import Derived.Test.YtjgccbpdpnpfjaaDoorStoreRead3
namespace Go.Proofs.YtjgccbpdpnpfjaaDoor.ST
open Go.RowKit Go.Proofs.YtjgccbpdpnpfjaaDoorW.PrintWords Go.Proofs.YtjgccbpdpnpfjaaDoorW.PrintLast Go.Proofs.YtjgccbpdpnpfjaaDoorW.PrintMore Go.Proofs.YtjgccbpdpnpfjaaDoor.PAll
set_option linter.unusedVariables false
set_option linter.unusedSimpArgs false

def bindS {α β : Type} (s : Sv α) (f : α → Nat → Bool → Sv β) : Sv β := f s.1 s.2.1 s.2.2
abbrev Rd (α : Type) := Nat → Bool → Sv α
/-- goes on, stays within the bytes, and is not well again -/
def Good {α : Type} (b : ByteArray) (f : Rd α) : Prop := ∀ a o, a ≤ b.size → a ≤ (f a o).2.1 ∧ (f a o).2.1 ≤ b.size ∧ ((f a o).2.2 = true → o = true)
def Eats {α : Type} (b : ByteArray) (f : Rd α) : Prop := ∀ a o, a ≤ b.size → (f a o).2.2 = true → a + 1 ≤ (f a o).2.1
section
variable {α β : Type} {b : ByteArray} {f : Rd α} {g : α → Rd β}
theorem Good.bind (hf : Good b f) (hg : ∀ x, Good b (g x)) : Good b (fun a o => bindS (f a o) g) := by
  intro a o ha
  obtain ⟨h1, h2, h3⟩ := hf a o ha
  obtain ⟨g1, g2, g3⟩ := hg (f a o).1 (f a o).2.1 (f a o).2.2 h2
  exact ⟨Nat.le_trans h1 g1, g2, fun h => h3 (g3 h)⟩
theorem Eats.left (hf : Good b f) (he : Eats b f) (hg : ∀ x, Good b (g x)) : Eats b (fun a o => bindS (f a o) g) := by
  intro a o ha h
  obtain ⟨h1, h2, h3⟩ := hf a o ha
  obtain ⟨g1, g2, g3⟩ := hg (f a o).1 (f a o).2.1 (f a o).2.2 h2
  exact Nat.le_trans (he a o ha (g3 h)) g1
theorem Eats.right (hf : Good b f) (he : ∀ x, Eats b (g x)) : Eats b (fun a o => bindS (f a o) g) := by
  intro a o ha h
  obtain ⟨h1, h2, h3⟩ := hf a o ha
  have := he (f a o).1 (f a o).2.1 (f a o).2.2 h2 h
  show a + 1 ≤ _
  exact Nat.le_trans (Nat.succ_le_succ h1) this
theorem Good.pure (x : α) : Good b (fun a o => (x, a, o)) := fun a o ha => ⟨Nat.le_refl _, ha, fun h => h⟩
end
theorem good_C (b : ByteArray) : Good b (rdC b) := by
  intro a o ha
  obtain ⟨_, h1, h2⟩ := rdC_ok (ok := o) ha
  refine ⟨h1, h2, fun h => ?_⟩
  cases o with
  | true => rfl
  | false => cases h
theorem good_W (b : ByteArray) : Good b (rdW b) := by
  intro a o ha
  obtain ⟨h1, h2, _⟩ := rdW_ok (ok := o) ha
  refine ⟨h1, h2, fun h => ?_⟩
  cases o with
  | true => rfl
  | false => cases h
theorem eats_W (b : ByteArray) : Eats b (rdW b) := by
  intro a o ha h
  have := (rdW_ok (ok := o) ha).2.2 h
  omega
theorem good_K (b : ByteArray) (n : Nat) : Good b (fun a o => rdK b a o n) := by
  intro a o ha
  obtain ⟨h1, h2⟩ := rdK_ok (ok := o) (n := n) ha
  refine ⟨h1, h2, fun h => ?_⟩
  cases o with
  | true => rfl
  | false => cases h
theorem good_T (b : ByteArray) : Good b (rdT b) := by
  have h := Good.bind (good_C b) (g := fun n a o => rdK b a o n) (fun n => good_K b n)
  exact h
theorem good_B (l m : Nat) (b : ByteArray) : Good b (rdB l m b) := by
  intro a o ha
  obtain ⟨h1, h2, _⟩ := rdB_ok (l := l) (m := m) (ok := o) ha
  refine ⟨h1, h2, fun h => ?_⟩
  cases o with
  | true => rfl
  | false => cases h
theorem eats_B (l m : Nat) (b : ByteArray) : Eats b (rdB l m b) := fun a o ha h => (rdB_ok (l := l) (m := m) (ok := o) ha).2.2 h

def rdLeaf (b : ByteArray) : Rd S39 := fun a o => bindS (rdC b a o) fun f0 a o => bindS (rdC b a o) fun f1 a o => bindS (rdC b a o) fun f2 a o => bindS (rdC b a o) fun f3 a o => bindS (rdW b a o) fun f4 a o => bindS (rdT b a o) fun f5 a o => (⟨f0, f1, f2, f3, f4, f5⟩, a, o)
def rdNode (b : ByteArray) : Rd S41 := fun a o => bindS (rdT b a o) fun f0 a o => bindS (rdB 0 1 b a o) fun f1 a o => bindS (rdT b a o) fun f2 a o => bindS (rdC b a o) fun f3 a o => bindS (rdC b a o) fun f4 a o => bindS (rdC b a o) fun f5 a o => bindS (rdC b a o) fun f6 a o => (⟨f0, f1 == 1, f2, f3, f4, f5, (f6 : Int) - 1⟩, a, o)
theorem good_leaf (b : ByteArray) : Good b (rdLeaf b) := (good_C b).bind fun _ => (good_C b).bind fun _ => (good_C b).bind fun _ => (good_C b).bind fun _ => (good_W b).bind fun _ => (good_T b).bind fun _ => Good.pure _
theorem eats_leaf (b : ByteArray) : Eats b (rdLeaf b) := Eats.right (good_C b) fun _ => Eats.right (good_C b) fun _ => Eats.right (good_C b) fun _ => Eats.right (good_C b) fun _ => Eats.left (good_W b) (eats_W b) fun _ => (good_T b).bind fun _ => Good.pure _
theorem good_node (b : ByteArray) : Good b (rdNode b) := (good_T b).bind fun _ => (good_B 0 1 b).bind fun _ => (good_T b).bind fun _ => (good_C b).bind fun _ => (good_C b).bind fun _ => (good_C b).bind fun _ => (good_C b).bind fun _ => Good.pure _
theorem eats_node (b : ByteArray) : Eats b (rdNode b) := Eats.right (good_T b) fun _ => Eats.left (good_B 0 1 b) (eats_B 0 1 b) fun _ => (good_T b).bind fun _ => (good_C b).bind fun _ => (good_C b).bind fun _ => (good_C b).bind fun _ => (good_C b).bind fun _ => Good.pure _
theorem sub_one (b : ByteArray) {a : Nat} (o : Bool) (ha : a ≤ b.size) : wrap64 (((rdC b a o).1 : Int) - 1) = ((rdC b a o).1 : Int) - 1 := by
  have h := (rdC_ok (ok := o) ha).1
  exact w64' (by omega) (by omega)
theorem eq_one (c : Nat) : (((c : Nat) : Int) == 1) = (c == 1) := by
  by_cases h2 : c = 1
  · subst h2; rfl
  · rw [beq_eq_false_iff_ne.2 h2, beq_eq_false_iff_ne.2 (by omega)]
theorem st_leaf (b : ByteArray) (a : Nat) (o : Bool) (k : Nat) (hb : b.size ≤ 1048576) (ha : a ≤ b.size) (hk : 30 ≤ k) :
    store_reader_leaf.f k b (a : Int) o = some ((rdLeaf b a o).1.f0, (rdLeaf b a o).1.f1, (rdLeaf b a o).1.f2, (rdLeaf b a o).1.f3, (rdLeaf b a o).1.f4, (rdLeaf b a o).1.f5, b, ((rdLeaf b a o).2.1 : Int), (rdLeaf b a o).2.2) := by
  have h1 := (good_C b a o ha).2.1
  have h2 := (good_C b _ (rdC b a o).2.2 h1).2.1
  have h3 := (good_C b _ (rdC b (rdC b a o).2.1 (rdC b a o).2.2).2.2 h2).2.1
  have h4 := (good_C b _ (rdC b (rdC b (rdC b a o).2.1 (rdC b a o).2.2).2.1 (rdC b (rdC b a o).2.1 (rdC b a o).2.2).2.2).2.2 h3).2.1
  unfold store_reader_leaf.f
  rw [st_number b a o k hb ha hk]
  dsimp only [Option.bind]
  rw [st_number b _ _ k hb h1 hk]
  dsimp only [Option.bind]
  rw [st_number b _ _ k hb h2 hk]
  dsimp only [Option.bind]
  rw [st_number b _ _ k hb h3 hk]
  dsimp only [Option.bind]
  rw [st_word b _ _ k hb h4 hk]
  dsimp only [Option.bind]
  rw [st_text b _ _ k hb (good_W b _ _ h4).2.1 hk]
  rfl
theorem st_node (b : ByteArray) (a : Nat) (o : Bool) (k : Nat) (hb : b.size ≤ 1048576) (ha : a ≤ b.size) (hk : 30 ≤ k) :
    store_reader_node.f k b (a : Int) o = some ((rdNode b a o).1.f0, (rdNode b a o).1.f1, (rdNode b a o).1.f2, (rdNode b a o).1.f3, (rdNode b a o).1.f4, (rdNode b a o).1.f5, (rdNode b a o).1.f6, b, ((rdNode b a o).2.1 : Int), (rdNode b a o).2.2) := by
  unfold store_reader_node.f rdNode bindS
  rw [st_text b a o k hb ha hk]
  have h1 := (good_T b _ o ha).2.1
  generalize rdT b a o = r at h1 ⊢
  obtain ⟨x1, a1, o1⟩ := r
  dsimp only [Option.bind] at h1 ⊢
  rw [show store_reader_one.f k b (a1 : Int) o1 0 1 = _ from st_one 0 1 b a1 o1 k hb h1 hk]
  have h2 := (good_B 0 1 b _ o1 h1).2.1
  generalize rdB 0 1 b a1 o1 = r at h2 ⊢
  obtain ⟨x2, a2, o2⟩ := r
  dsimp only [Option.bind] at h2 ⊢
  rw [st_text b a2 o2 k hb h2 hk]
  have h3 := (good_T b _ o2 h2).2.1
  generalize rdT b a2 o2 = r at h3 ⊢
  obtain ⟨x3, a3, o3⟩ := r
  dsimp only [Option.bind] at h3 ⊢
  rw [st_number b a3 o3 k hb h3 hk]
  have h4 := (good_C b _ o3 h3).2.1
  generalize rdC b a3 o3 = r at h4 ⊢
  obtain ⟨x4, a4, o4⟩ := r
  dsimp only [Option.bind] at h4 ⊢
  rw [st_number b a4 o4 k hb h4 hk]
  have h5 := (good_C b _ o4 h4).2.1
  generalize rdC b a4 o4 = r at h5 ⊢
  obtain ⟨x5, a5, o5⟩ := r
  dsimp only [Option.bind] at h5 ⊢
  rw [st_number b a5 o5 k hb h5 hk]
  have h6 := (good_C b _ o5 h5).2.1
  generalize rdC b a5 o5 = r at h6 ⊢
  obtain ⟨x6, a6, o6⟩ := r
  dsimp only [Option.bind] at h6 ⊢
  rw [st_number b a6 o6 k hb h6 hk]
  dsimp only [Option.bind]
  rw [sub_one b _ h6, eq_one]
end Go.Proofs.YtjgccbpdpnpfjaaDoor.ST
