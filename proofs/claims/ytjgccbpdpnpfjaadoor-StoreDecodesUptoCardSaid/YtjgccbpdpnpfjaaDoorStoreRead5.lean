/- store: lists and whole results; the reference's result. -/
import Derived.Test.YtjgccbpdpnpfjaaDoorStoreRead4
namespace Go.Proofs.YtjgccbpdpnpfjaaDoor.ST
open Go.RowKit Go.Proofs.YtjgccbpdpnpfjaaDoorW.PrintWords Go.Proofs.YtjgccbpdpnpfjaaDoorW.PrintLast Go.Proofs.YtjgccbpdpnpfjaaDoorW.PrintMore Go.Proofs.YtjgccbpdpnpfjaaDoor.PAll
set_option linter.unusedVariables false
set_option linter.unusedSimpArgs false

def rdList {α : Type} (f : Rd α) : Nat → List α → Rd (List α)
  | 0, acc, a, o => (acc, a, o)
  | n + 1, acc, a, o => if o = true then rdList f n (acc ++ [(f a o).1]) (f a o).2.1 (f a o).2.2 else (acc, a, o)
theorem rdList_no {α : Type} (f : Rd α) (n : Nat) (acc : List α) (a : Nat) : rdList f n acc a false = (acc, a, false) := by
  cases n <;> rfl
theorem good_list {α : Type} {b : ByteArray} {f : Rd α} (hf : Good b f) : ∀ n acc, Good b (rdList f n acc) := by
  intro n
  induction n with
  | zero => intro acc; exact Good.pure acc
  | succ n ih =>
    intro acc a o ha
    rw [rdList]
    split
    · obtain ⟨h1, h2, h3⟩ := hf a o ha
      obtain ⟨g1, g2, g3⟩ := ih (acc ++ [(f a o).1]) (f a o).2.1 (f a o).2.2 h2
      exact ⟨Nat.le_trans h1 g1, g2, fun h => h3 (g3 h)⟩
    · exact ⟨Nat.le_refl _, ha, fun h => h⟩
structure Rs where
  c : Nat
  at_ : Nat
  wt : Nat
  ls : List S39
  ns : List S41
  rt : Nat
def rdNodes (b : ByteArray) : Rd (List S41) := fun a o => bindS (rdC b a o) fun n a o => rdList (rdNode b) n [] a o
def rdLeaves (b : ByteArray) : Rd (List S39) := fun a o => bindS (rdC b a o) fun n a o => rdList (rdLeaf b) n [] a o
theorem good_nodes (b : ByteArray) : Good b (rdNodes b) := (good_C b).bind fun n => good_list (good_node b) n []
theorem good_leaves (b : ByteArray) : Good b (rdLeaves b) := (good_C b).bind fun n => good_list (good_leaf b) n []
def rdRes (b : ByteArray) : Rd Rs := fun a o => bindS (rdC b a o) fun c a o => bindS (rdC b a o) fun p a o => bindS (rdC b a o) fun r a o => bindS (rdW b a o) fun w a o => bindS (rdLeaves b a o) fun ls a o => bindS (rdNodes b a o) fun ns a o => (⟨c, p, w, ls, ns, r⟩, a, o)
theorem good_res (b : ByteArray) : Good b (rdRes b) := (good_C b).bind fun _ => (good_C b).bind fun _ => (good_C b).bind fun _ => (good_W b).bind fun _ => (good_leaves b).bind fun _ => (good_nodes b).bind fun _ => Good.pure _

theorem rn_stop (b : ByteArray) (n : Nat) (a : Nat) (o : Bool) (c p w r : Int) (ls : List S39) (ns : List S41) (k : Nat) (hk : 2 ≤ k) (h : n = 0 ∨ o = false) :
    trellisref33_Reader_result.l1 k (n : Int) b (a : Int) o c p w ls ns r = some (c, p, w, ls, ns, r, b, (a : Int), o) := by
  obtain ⟨k, rfl⟩ : ∃ k', k = k' + 2 := ⟨k - 2, by omega⟩
  rw [trellisref33_Reader_result.l1]
  rcases h with rfl | rfl
  · rw [if_neg (by omega), trellisref33_Reader_result.j3, if_neg (by decide)]
  · split <;> rw [trellisref33_Reader_result.j3, if_neg (by decide)]
theorem rn_step (b : ByteArray) (hb : b.size ≤ 1048576) (c p w r : Int) (ls : List S39) (ns : List S41) (n a k : Nat) (ha : a ≤ b.size) (hn : n + 1 < 9223372036854775808) (hk : 30 ≤ k) (hl : ns.length ≤ 1048576) :
    trellisref33_Reader_result.l1 (k + 2) ((n + 1 : Nat) : Int) b (a : Int) true c p w ls ns r = trellisref33_Reader_result.l1 k (n : Int) b ((rdNode b a true).2.1 : Int) (rdNode b a true).2.2 c p w ls (ns ++ [(rdNode b a true).1]) r := by
  have e : wrap64 (((n + 1 : Nat) : Int) - 1) = (n : Int) := by rw [w64' (by omega) (by omega)]; omega
  rw [trellisref33_Reader_result.l1, if_pos (by omega), trellisref33_Reader_result.j3, if_pos rfl, e]
  unfold rdNode bindS
  rw [ref_text b a true k hb ha (by omega)]
  have h1 := (good_T b _ true ha).2.1
  generalize rdT b a true = r_ at h1 ⊢
  obtain ⟨x1, a1, o1⟩ := r_
  dsimp only [Option.bind] at h1 ⊢
  rw [ref_flag b a1 o1 hb h1]
  have h2 := (good_B 0 1 b _ o1 h1).2.1
  generalize rdB 0 1 b a1 o1 = r_ at h2 ⊢
  obtain ⟨x2, a2, o2⟩ := r_
  dsimp only [Option.bind] at h2 ⊢
  rw [ref_text b a2 o2 k hb h2 (by omega)]
  have h3 := (good_T b _ o2 h2).2.1
  generalize rdT b a2 o2 = r_ at h3 ⊢
  obtain ⟨x3, a3, o3⟩ := r_
  dsimp only [Option.bind] at h3 ⊢
  rw [ref_num b a3 o3 k hb h3 (by omega)]
  have h4 := (good_C b _ o3 h3).2.1
  generalize rdC b a3 o3 = r_ at h4 ⊢
  obtain ⟨x4, a4, o4⟩ := r_
  dsimp only [Option.bind] at h4 ⊢
  rw [ref_num b a4 o4 k hb h4 (by omega)]
  have h5 := (good_C b _ o4 h4).2.1
  generalize rdC b a4 o4 = r_ at h5 ⊢
  obtain ⟨x5, a5, o5⟩ := r_
  dsimp only [Option.bind] at h5 ⊢
  rw [ref_num b a5 o5 k hb h5 (by omega)]
  have h6 := (good_C b _ o5 h5).2.1
  generalize rdC b a5 o5 = r_ at h6 ⊢
  obtain ⟨x6, a6, o6⟩ := r_
  dsimp only [Option.bind] at h6 ⊢
  rw [ref_num b a6 o6 k hb h6 (by omega)]
  dsimp only [Option.bind]
  rw [sub_one b _ h6, if_pos (by omega)]
theorem rn_loop (b : ByteArray) (hb : b.size ≤ 1048576) (c p w r : Int) (ls : List S39) : ∀ (d n a k : Nat) (o : Bool) (ns : List S41), a ≤ b.size → b.size - a < d → n < 9223372036854775808 → 2 * d + 60 ≤ k → ns.length ≤ a →
    trellisref33_Reader_result.l1 k (n : Int) b (a : Int) o c p w ls ns r = some (c, p, w, ls, (rdList (rdNode b) n ns a o).1, r, b, ((rdList (rdNode b) n ns a o).2.1 : Int), (rdList (rdNode b) n ns a o).2.2) := by
  intro d
  induction d with
  | zero => intro n a k o ns ha hd; omega
  | succ d ih =>
    intro n a k o ns ha hd hn hk hl
    cases n with
    | zero => exact rn_stop b 0 a o c p w r ls ns k (by omega) (.inl rfl)
    | succ n =>
      cases o with
      | false => rw [rdList_no]; exact rn_stop b (n + 1) a false c p w r ls ns k (by omega) (.inr rfl)
      | true =>
        obtain ⟨k, rfl⟩ : ∃ k', k = k' + 2 := ⟨k - 2, by omega⟩
        rw [rn_step b hb c p w r ls ns n a k ha hn (by omega) (by omega), rdList, if_pos rfl]
        have hg := good_node b a true ha
        have he := eats_node b a true ha
        generalize rdNode b a true = x at hg he ⊢
        obtain ⟨x, a', o'⟩ := x
        dsimp only at hg he ⊢
        cases o' with
        | true =>
          have := he rfl
          exact ih n a' k true _ hg.2.1 (by omega) (by omega) (by omega) (by rw [List.length_append, List.length_singleton]; omega)
        | false => rw [rdList_no]; exact rn_stop b n a' false c p w r ls _ k (by omega) (.inr rfl)
theorem rl_stop (b : ByteArray) (hb : b.size ≤ 1048576) (n : Nat) (a : Nat) (ha : a ≤ b.size) (o : Bool) (c p w r : Int) (ls : List S39) (k : Nat) (hk : 2 * b.size + 100 ≤ k) (h : n = 0 ∨ o = false) :
    trellisref33_Reader_result.l0 k (n : Int) b (a : Int) o c p w ls r = some (c, p, w, ls, (rdNodes b a o).1, r, b, ((rdNodes b a o).2.1 : Int), (rdNodes b a o).2.2) := by
  obtain ⟨k, rfl⟩ : ∃ k', k = k' + 2 := ⟨k - 2, by omega⟩
  have hrest : ((trellisref33_Reader_num.f k b (a : Int) o).bind fun bt263 => (trellisref33_Reader_result.l1 k bt263.1 bt263.2.1 bt263.2.2.1 bt263.2.2.2 c p w ls ([] : List (S41)) r)) = some (c, p, w, ls, (rdNodes b a o).1, r, b, ((rdNodes b a o).2.1 : Int), (rdNodes b a o).2.2) := by
    rw [ref_num b a o k hb ha (by omega)]
    have h1 := good_C b a o ha
    exact rn_loop b hb c p w r ls (b.size + 1) _ _ k _ [] h1.2.1 (by omega) (rdC_ok (ok := o) ha).1 (by omega) (by simp)
  rw [trellisref33_Reader_result.l0]
  rcases h with rfl | rfl
  · rw [if_neg (by omega), trellisref33_Reader_result.j1, if_neg (by decide)]
    exact hrest
  · split <;> (rw [trellisref33_Reader_result.j1, if_neg (by decide)]; exact hrest)
theorem rl_step (b : ByteArray) (hb : b.size ≤ 1048576) (c p w r : Int) (ls : List S39) (n a k : Nat) (ha : a ≤ b.size) (hn : n + 1 < 9223372036854775808) (hk : 30 ≤ k) (hl : ls.length ≤ 1048576) :
    trellisref33_Reader_result.l0 (k + 2) ((n + 1 : Nat) : Int) b (a : Int) true c p w ls r = trellisref33_Reader_result.l0 k (n : Int) b ((rdLeaf b a true).2.1 : Int) (rdLeaf b a true).2.2 c p w (ls ++ [(rdLeaf b a true).1]) r := by
  have e : wrap64 (((n + 1 : Nat) : Int) - 1) = (n : Int) := by rw [w64' (by omega) (by omega)]; omega
  rw [trellisref33_Reader_result.l0, if_pos (by omega), trellisref33_Reader_result.j1, if_pos rfl, e]
  unfold rdLeaf bindS
  rw [ref_num b a true k hb ha (by omega)]
  have h1 := (good_C b _ true ha).2.1
  generalize rdC b a true = r_ at h1 ⊢
  obtain ⟨x1, a1, o1⟩ := r_
  dsimp only [Option.bind] at h1 ⊢
  rw [ref_num b a1 o1 k hb h1 (by omega)]
  have h2 := (good_C b _ o1 h1).2.1
  generalize rdC b a1 o1 = r_ at h2 ⊢
  obtain ⟨x2, a2, o2⟩ := r_
  dsimp only [Option.bind] at h2 ⊢
  rw [ref_num b a2 o2 k hb h2 (by omega)]
  have h3 := (good_C b _ o2 h2).2.1
  generalize rdC b a2 o2 = r_ at h3 ⊢
  obtain ⟨x3, a3, o3⟩ := r_
  dsimp only [Option.bind] at h3 ⊢
  rw [ref_num b a3 o3 k hb h3 (by omega)]
  have h4 := (good_C b _ o3 h3).2.1
  generalize rdC b a3 o3 = r_ at h4 ⊢
  obtain ⟨x4, a4, o4⟩ := r_
  dsimp only [Option.bind] at h4 ⊢
  rw [ref_word b a4 o4 k hb h4 (by omega)]
  have h5 := (good_W b _ o4 h4).2.1
  generalize rdW b a4 o4 = r_ at h5 ⊢
  obtain ⟨x5, a5, o5⟩ := r_
  dsimp only [Option.bind] at h5 ⊢
  rw [ref_text b a5 o5 k hb h5 (by omega)]
  dsimp only [Option.bind]
  rw [if_pos (by omega)]
theorem rl_loop (b : ByteArray) (hb : b.size ≤ 1048576) (c p w r : Int) : ∀ (d n a k : Nat) (o : Bool) (ls : List S39), a ≤ b.size → b.size - a < d → n < 9223372036854775808 → 2 * d + 2 * b.size + 200 ≤ k → ls.length ≤ a →
    trellisref33_Reader_result.l0 k (n : Int) b (a : Int) o c p w ls r = some (c, p, w, (rdList (rdLeaf b) n ls a o).1, (rdNodes b (rdList (rdLeaf b) n ls a o).2.1 (rdList (rdLeaf b) n ls a o).2.2).1, r, b, ((rdNodes b (rdList (rdLeaf b) n ls a o).2.1 (rdList (rdLeaf b) n ls a o).2.2).2.1 : Int), (rdNodes b (rdList (rdLeaf b) n ls a o).2.1 (rdList (rdLeaf b) n ls a o).2.2).2.2) := by
  intro d
  induction d with
  | zero => intro n a k o ls ha hd; omega
  | succ d ih =>
    intro n a k o ls ha hd hn hk hl
    cases n with
    | zero => exact rl_stop b hb 0 a ha o c p w r ls k (by omega) (.inl rfl)
    | succ n =>
      cases o with
      | false => rw [rdList_no]; exact rl_stop b hb (n + 1) a ha false c p w r ls k (by omega) (.inr rfl)
      | true =>
        obtain ⟨k, rfl⟩ : ∃ k', k = k' + 2 := ⟨k - 2, by omega⟩
        rw [rl_step b hb c p w r ls n a k ha hn (by omega) (by omega), rdList, if_pos rfl]
        have hg := good_leaf b a true ha
        have he := eats_leaf b a true ha
        generalize rdLeaf b a true = x at hg he ⊢
        obtain ⟨x, a', o'⟩ := x
        dsimp only at hg he ⊢
        cases o' with
        | true =>
          have := he rfl
          exact ih n a' k true _ hg.2.1 (by omega) (by omega) (by omega) (by rw [List.length_append, List.length_singleton]; omega)
        | false => rw [rdList_no]; exact rl_stop b hb n a' hg.2.1 false c p w r _ k (by omega) (.inr rfl)
theorem ref_result (b : ByteArray) (a : Nat) (o : Bool) (k : Nat) (hb : b.size ≤ 1048576) (ha : a ≤ b.size) (hk : 4 * b.size + 300 ≤ k) :
    trellisref33_Reader_result.f k b (a : Int) o = some (((rdRes b a o).1.c : Int), ((rdRes b a o).1.at_ : Int), ((rdRes b a o).1.wt : Int), (rdRes b a o).1.ls, (rdRes b a o).1.ns, ((rdRes b a o).1.rt : Int), b, ((rdRes b a o).2.1 : Int), (rdRes b a o).2.2) := by
  unfold trellisref33_Reader_result.f rdRes rdLeaves bindS
  rw [ref_num b a o k hb ha (by omega)]
  have h1 := (good_C b _ o ha).2.1
  generalize rdC b a o = r_ at h1 ⊢
  obtain ⟨x1, a1, o1⟩ := r_
  dsimp only [Option.bind] at h1 ⊢
  rw [ref_num b a1 o1 k hb h1 (by omega)]
  have h2 := (good_C b _ o1 h1).2.1
  generalize rdC b a1 o1 = r_ at h2 ⊢
  obtain ⟨x2, a2, o2⟩ := r_
  dsimp only [Option.bind] at h2 ⊢
  rw [ref_num b a2 o2 k hb h2 (by omega)]
  have h3 := (good_C b _ o2 h2).2.1
  generalize rdC b a2 o2 = r_ at h3 ⊢
  obtain ⟨x3, a3, o3⟩ := r_
  dsimp only [Option.bind] at h3 ⊢
  rw [ref_word b a3 o3 k hb h3 (by omega)]
  have h4 := (good_W b _ o3 h3).2.1
  generalize rdW b a3 o3 = r_ at h4 ⊢
  obtain ⟨x4, a4, o4⟩ := r_
  dsimp only [Option.bind] at h4 ⊢
  rw [ref_num b a4 o4 k hb h4 (by omega)]
  have h5 := good_C b a4 o4 h4
  have h6 := (rdC_ok (ok := o4) h4).1
  exact rl_loop b hb x1 x2 x4 x3 (b.size + 1) _ _ k _ [] h5.2.1 (by omega) h6 (by omega) (by simp)
end Go.Proofs.YtjgccbpdpnpfjaaDoor.ST
