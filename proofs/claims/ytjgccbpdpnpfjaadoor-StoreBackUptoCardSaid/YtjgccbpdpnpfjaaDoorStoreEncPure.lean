/- The bytes of a kept result: head, leaves, nodes, and how many they are. -/
import Derived.Test.YtjgccbpdpnpfjaaDoorStoreWriter
import Derived.Test.YtjgccbpdpnpfjaaDoorStoreKept
namespace Go.Proofs.YtjgccbpdpnpfjaaDoor.ST
open Go.RowKit Go.Proofs.YtjgccbpdpnpfjaaDoorW.PrintWords Go.Proofs.YtjgccbpdpnpfjaaDoorW.PrintLast Go.Proofs.YtjgccbpdpnpfjaaDoorW.PrintMore Go.Proofs.YtjgccbpdpnpfjaaDoor.PAll

def flag (b : Bool) : Int := if b then 1 else 0
def leafL (x : S39) : List Int := [x.f0, x.f1, x.f2, x.f3].flatMap numL ++ wordL x.f4.toNat ++ textL x.f5
def nodeL (x : S41) : List Int := textL x.f0 ++ [flag x.f1] ++ textL x.f2 ++ [x.f3, x.f4, x.f5].flatMap numL ++ cntL (x.f6 + 1).toNat
def headL (d t : ByteArray) (c a wt rt : Int) (n : Nat) : List Int := [83, 1] ++ wordL (sumS d) ++ wordL (sumS t) ++ [c, a, rt].flatMap numL ++ wordL wt.toNat ++ [(n : Int)].flatMap numL
def bodyL (d t : ByteArray) (c a wt rt : Int) (ls : List S39) (ns : List S41) : List Int := headL d t c a wt rt ls.length ++ ls.flatMap leafL ++ [(ns.length : Int)].flatMap numL ++ ns.flatMap nodeL
def encL (d t : ByteArray) (c a wt rt : Int) (ls : List S39) (ns : List S41) : List Int := bodyL d t c a wt rt ls ns ++ wordL (sumS (strOfNums (bodyL d t c a wt rt ls ns)))
def wtLf (x : S39) : Nat := x.f5.size + 1
def wtNd (x : S41) : Nat := x.f0.size + x.f2.size + 1
def okL (x : S39) : Prop := x.f0 < 9223372036854775808 ∧ x.f1 < 9223372036854775808 ∧ x.f2 < 9223372036854775808 ∧ x.f3 < 9223372036854775808 ∧ 0 ≤ x.f4 ∧ x.f4 < 18446744073709551616
def okN (x : S41) : Prop := x.f3 < 9223372036854775808 ∧ x.f4 < 9223372036854775808 ∧ x.f5 < 9223372036854775808 ∧ x.f6 < 9223372036854775808
theorem len_word {xs : List Int} {N : Nat} (n : Nat) (h : xs.length ≤ N) : (xs ++ wordL n).length ≤ N + 8 := by rw [List.length_append, wordL, wrd_len]; omega
theorem len_counts {xs : List Int} {N : Nat} (zs : List Int) (h : xs.length ≤ N) : (xs ++ zs.flatMap numL).length ≤ N + 11 * zs.length := by rw [List.length_append]; have := flat_len zs; omega
theorem len_countsN {xs : List Int} {N : Nat} (zs : List Int) (n : Nat) (hn : zs.length = n) (h : xs.length ≤ N) : (xs ++ zs.flatMap numL).length ≤ N + 11 * n := by rw [List.length_append]; have := flat_len zs; omega
theorem len_text {xs : List Int} {N : Nat} (s : ByteArray) (h : xs.length ≤ N) : (xs ++ textL s).length ≤ N + 11 + s.size := by
  rw [List.length_append, textL, List.length_append, bytesOf_length]; have := cntL_len s.size; omega
theorem len_cnt {xs : List Int} {N : Nat} (n : Nat) (h : xs.length ≤ N) : (xs ++ cntL n).length ≤ N + 11 := by rw [List.length_append]; have := cntL_len n; omega
theorem len_one {xs : List Int} {N : Nat} (z : Int) (h : xs.length ≤ N) : (xs ++ [z]).length ≤ N + 1 := by rw [List.length_append]; simp; omega
theorem leafL_len (x : S39) : (leafL x).length ≤ 100 * wtLf x := by
  unfold leafL wtLf
  have h1 := len_text x.f5 (len_word x.f4.toNat (len_counts (xs := []) (N := 0) [x.f0, x.f1, x.f2, x.f3] (by simp)))
  simp only [List.nil_append] at h1
  refine Nat.le_trans h1 ?_
  simp only [List.length_cons, List.length_nil]
  omega
theorem nodeL_len (x : S41) : (nodeL x).length ≤ 100 * wtNd x := by
  unfold nodeL wtNd
  have h1 := len_cnt (x.f6 + 1).toNat (len_counts [x.f3, x.f4, x.f5] (len_text x.f2 (len_one (flag x.f1) (len_text (xs := []) (N := 0) x.f0 (by simp)))))
  simp only [List.nil_append] at h1
  refine Nat.le_trans h1 ?_
  simp only [List.length_cons, List.length_nil]
  omega
theorem flat_bound {α : Type} (f : α → List Int) (wt : α → Nat) (h : ∀ x, (f x).length ≤ 100 * wt x) : ∀ l : List α, (l.flatMap f).length ≤ 100 * (l.map wt).sum := by
  intro l
  induction l with
  | nil => simp
  | cons x r ih =>
    have := h x
    simp only [List.flatMap_cons, List.length_append, List.map_cons, List.sum_cons]
    omega
theorem sum_take {α : Type} (wt : α → Nat) (l : List α) (i : Nat) : ((l.take i).map wt).sum ≤ (l.map wt).sum := by
  conv => rhs; rw [← List.take_append_drop i l, List.map_append, List.sum_append]
  omega
theorem len_sum {α : Type} (wt : α → Nat) (h : ∀ x, 1 ≤ wt x) (l : List α) : l.length ≤ (l.map wt).sum := by
  induction l with
  | nil => simp
  | cons x r ih =>
    have := h x
    simp only [List.length_cons, List.map_cons, List.sum_cons]
    omega
theorem mem_sum {α : Type} (wt : α → Nat) (l : List α) (i : Nat) (h : i < l.length) : wt l[i] ≤ (l.map wt).sum := by
  have h1 := sum_take wt l (i + 1)
  rw [List.take_succ_eq_append_getElem h, List.map_append, List.sum_append] at h1
  simp at h1
  omega
theorem head_len (d t : ByteArray) (c a wt rt : Int) (n : Nat) : (headL d t c a wt rt n).length ≤ 70 := by
  have h1 := len_counts [(n : Int)] (len_word wt.toNat (len_counts [c, a, rt] (len_word (sumS t) (len_word (sumS d) (xs := [83, 1]) (N := 2) (by simp)))))
  refine Nat.le_trans h1 ?_
  simp
def preL (d t : ByteArray) (c a wt rt : Int) (ls : List S39) (i : Nat) : List Int := headL d t c a wt rt ls.length ++ (ls.take i).flatMap leafL
def preN (d t : ByteArray) (c a wt rt : Int) (ls : List S39) (ns : List S41) (i : Nat) : List Int := headL d t c a wt rt ls.length ++ ls.flatMap leafL ++ [(ns.length : Int)].flatMap numL ++ (ns.take i).flatMap nodeL
theorem preL_len (d t : ByteArray) (c a wt rt : Int) (ls : List S39) (i : Nat) (h : (ls.map wtLf).sum ≤ 2097152) : (preL d t c a wt rt ls i).length ≤ 220000000 := by
  unfold preL
  have h1 := head_len d t c a wt rt ls.length
  have h2 := flat_bound leafL wtLf leafL_len (ls.take i)
  have h3 := sum_take wtLf ls i
  rw [List.length_append]
  omega
theorem preN_len (d t : ByteArray) (c a wt rt : Int) (ls : List S39) (ns : List S41) (i : Nat) (h : (ls.map wtLf).sum ≤ 2097152) (h' : (ns.map wtNd).sum ≤ 2097152) : (preN d t c a wt rt ls ns i).length ≤ 440000000 := by
  unfold preN
  have h1 := head_len d t c a wt rt ls.length
  have h2 := flat_bound leafL wtLf leafL_len ls
  have h4 := flat_bound nodeL wtNd nodeL_len (ns.take i)
  have h3 := sum_take wtNd ns i
  have h5 := flat_len [(ns.length : Int)]
  simp only [List.length_append] at *
  simp only [List.length_cons, List.length_nil] at h5
  omega
theorem preL_succ (d t : ByteArray) (c a wt rt : Int) (ls : List S39) (i : Nat) (h : i < ls.length) :
    preL d t c a wt rt ls (i + 1) = preL d t c a wt rt ls i ++ [ls[i].f0, ls[i].f1, ls[i].f2, ls[i].f3].flatMap numL ++ wordL ls[i].f4.toNat ++ textL ls[i].f5 := by
  unfold preL
  rw [List.take_succ_eq_append_getElem h, List.flatMap_append, ← List.append_assoc]
  simp only [List.flatMap_cons (f := leafL), List.flatMap_nil, List.append_nil, leafL, List.append_assoc]
theorem preN_succ (d t : ByteArray) (c a wt rt : Int) (ls : List S39) (ns : List S41) (i : Nat) (h : i < ns.length) :
    preN d t c a wt rt ls ns (i + 1) = preN d t c a wt rt ls ns i ++ textL ns[i].f0 ++ [flag ns[i].f1] ++ textL ns[i].f2 ++ [ns[i].f3, ns[i].f4, ns[i].f5].flatMap numL ++ cntL (ns[i].f6 + 1).toNat := by
  unfold preN
  rw [List.take_succ_eq_append_getElem h, List.flatMap_append, ← List.append_assoc]
  simp only [List.flatMap_cons (f := nodeL), List.flatMap_nil, List.append_nil, nodeL, List.append_assoc]
theorem preN_all (d t : ByteArray) (c a wt rt : Int) (ls : List S39) (ns : List S41) : preN d t c a wt rt ls ns ns.length = bodyL d t c a wt rt ls ns := by unfold preN bodyL; rw [List.take_length]
theorem preL_all (d t : ByteArray) (c a wt rt : Int) (ls : List S39) (ns : List S41) : preL d t c a wt rt ls ls.length ++ [(ns.length : Int)].flatMap numL = preN d t c a wt rt ls ns 0 := by unfold preN preL; rw [List.take_length]; simp
theorem kept_all {c a rt : Int} {ls : List S39} {ns : List S41} (h : keptB c a rt ls ns = true) : 0 ≤ c ∧ 0 ≤ a ∧ 0 ≤ rt ∧ (∀ x ∈ ls, 0 ≤ x.f0 ∧ 0 ≤ x.f1 ∧ 0 ≤ x.f2 ∧ 0 ≤ x.f3) ∧ (∀ x ∈ ns, 0 ≤ x.f3 ∧ 0 ≤ x.f4 ∧ 0 ≤ x.f5 ∧ -1 ≤ x.f6 ∧ x.f6 < 9223372036854775807) := by
  unfold keptB at h
  simp only [Bool.and_eq_true, decide_eq_true_eq, List.all_eq_true] at h
  obtain ⟨⟨⟨h1, h2, h3⟩, h4⟩, h5⟩ := h
  refine ⟨h1, h2, h3, fun x hx => ?_, fun x hx => ?_⟩
  · have h6 := h4 x hx
    unfold lf at h6
    simpa only [Bool.and_eq_true, decide_eq_true_eq] using h6
  · have h6 := h5 x hx
    unfold nd at h6
    simpa only [Bool.and_eq_true, decide_eq_true_eq] using h6
end Go.Proofs.YtjgccbpdpnpfjaaDoor.ST
