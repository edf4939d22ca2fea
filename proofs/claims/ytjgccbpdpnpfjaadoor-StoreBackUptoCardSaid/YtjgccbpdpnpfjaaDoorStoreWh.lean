/- store: what stands in bytes is read back: counts. store: each step of the sum is one to one. store: what is read well stands in the bytes: each reading has one encoding alone. store: whole bytes: those that are an encoding; a cut of them, more behind them, one byte another: no longer whole. -/
import Derived.Test.YtjgccbpdpnpfjaaDoorStoreRd
namespace Go.Proofs.YtjgccbpdpnpfjaaDoor.ST
open Go.RowKit Go.Proofs.YtjgccbpdpnpfjaaDoorW.PrintWords Go.Proofs.YtjgccbpdpnpfjaaDoorW.PrintLast Go.Proofs.YtjgccbpdpnpfjaaDoorW.PrintMore Go.Proofs.YtjgccbpdpnpfjaaDoor.PAll
set_option linter.unusedVariables false

/-- the list stands in the bytes, from a place on -/
def Stands (b : ByteArray) (p : Nat) (l : List Int) : Prop := p + l.length ≤ b.size ∧ ∀ j, j < l.length → (nb b (p + j) : Int) = l.getD j 0
theorem Stands.left {b : ByteArray} {p : Nat} {l m : List Int} (h : Stands b p (l ++ m)) : Stands b p l := by
  obtain ⟨h1, h2⟩ := h
  rw [List.length_append] at h1
  refine ⟨by omega, fun j hj => ?_⟩
  rw [h2 j (by rw [List.length_append]; omega), List.getD_eq_getElem?_getD, List.getD_eq_getElem?_getD, List.getElem?_append_left hj]
theorem Stands.right {b : ByteArray} {p : Nat} {l m : List Int} (h : Stands b p (l ++ m)) : Stands b (p + l.length) m := by
  obtain ⟨h1, h2⟩ := h
  rw [List.length_append] at h1
  refine ⟨by omega, fun j hj => ?_⟩
  have := h2 (l.length + j) (by rw [List.length_append]; omega)
  rw [← Nat.add_assoc] at this
  rw [this, List.getD_eq_getElem?_getD, List.getD_eq_getElem?_getD, List.getElem?_append_right (by omega), Nat.add_sub_cancel_left]
theorem Stands.tail {b : ByteArray} {p : Nat} {x : Int} {m : List Int} (h : Stands b p (x :: m)) : Stands b (p + 1) m := Stands.right (l := [x]) h
theorem Stands.head {b : ByteArray} {p : Nat} {x : Int} {m : List Int} (h : Stands b p (x :: m)) : p < b.size ∧ (nb b p : Int) = x := by
  obtain ⟨h1, h2⟩ := h
  rw [List.length_cons] at h1
  exact ⟨by omega, h2 0 (by simp)⟩
theorem dcl_of (b : ByteArray) (at_ : Nat) : ∀ (k d i n m : Nat), m < 128 ^ d → m < 128 ^ (k + 1) → 0 < d → (i = 0 ∨ 0 < m) → Stands b (at_ + i) (cnt k m) → dcl b at_ d i n = some (n + 128 ^ i * m, at_ + i + (cnt k m).length) := by
  have small : ∀ (d i n m : Nat), m < 128 → 0 < d → (i = 0 ∨ 0 < m) → Stands b (at_ + i) [(m : Int)] → dcl b at_ d i n = some (n + 128 ^ i * m, at_ + i + 1) := by
    intro d i n m hm hd hz hs
    obtain ⟨d, rfl⟩ : ∃ d', d = d' + 1 := ⟨d - 1, by omega⟩
    obtain ⟨h1, h2⟩ := hs.head
    have h3 : nb b (at_ + i) = m := by omega
    rw [dcl, if_pos h1, h3, if_pos hm, if_neg (fun h => by omega)]
  intro k
  induction k with
  | zero =>
    intro d i n m h1 h2 hd hz hs
    exact small d i n m (by simpa using h2) hd hz hs
  | succ k ih =>
    intro d i n m h1 h2 hd hz hs
    rw [cnt] at hs ⊢
    by_cases hm : m < 128
    · rw [if_pos hm] at hs ⊢
      exact small d i n m hm hd hz hs
    · rw [if_neg hm] at hs ⊢
      obtain ⟨d, rfl⟩ : ∃ d', d = d' + 1 := ⟨d - 1, by omega⟩
      obtain ⟨h3, h4⟩ := hs.head
      have h5 : nb b (at_ + i) = m % 128 + 128 := by omega
      have hp : 128 ^ (d + 1) = 128 ^ d * 128 := Nat.pow_succ ..
      have hq : 128 ^ (k + 1 + 1) = 128 ^ (k + 1) * 128 := Nat.pow_succ ..
      have hd0 : 0 < d := by
        rcases Nat.eq_zero_or_pos d with rfl | h
        · simp at h1; omega
        · exact h
      rw [dcl, if_pos h3, h5, if_neg (by omega)]
      have hmod : (m % 128 + 128) % 128 = m % 128 := by omega
      rw [hmod, ih d (i + 1) _ (m / 128) (by omega) (by omega) hd0 (.inr (by omega)) (by have := hs.tail; rwa [Nat.add_assoc] at this)]
      have hi : 128 ^ (i + 1) = 128 ^ i * 128 := Nat.pow_succ ..
      have he : 128 ^ i * (m % 128) + 128 ^ i * 128 * (m / 128) = 128 ^ i * m := by
        rw [Nat.mul_assoc, ← Nat.mul_add, Nat.mod_add_div]
      rw [hi, Nat.add_assoc, he, List.length_cons]
      congr 2
      omega
theorem dcnt_of {b : ByteArray} {a m : Nat} (hm : m < 9223372036854775808) (h : Stands b a (cntL m)) : rdC b a true = (m, a + (cntL m).length, true) := by
  have h9 : (128 : Nat) ^ 9 = 9223372036854775808 := by decide
  have h11 : (128 : Nat) ^ 9 ≤ 128 ^ (10 + 1) := Nat.pow_le_pow_right (by omega) (by omega)
  have h1 := dcl_of b a 10 9 0 0 m (by omega) (by omega) (by omega) (.inl rfl) h
  unfold rdC dcnt
  rw [if_pos rfl, h1]
  simp [cntL]
theorem w8_of {b : ByteArray} {a : Nat} : ∀ (k n : Nat), Stands b a (wrd k n) → w8 b a k = n % 256 ^ k := by
  have gen : ∀ (k a n : Nat), Stands b a (wrd k n) → ∀ j, j ≤ k → w8 b a j = n % 256 ^ j := by
    intro k
    induction k with
    | zero =>
      intro a n _ j hj
      obtain rfl : j = 0 := by omega
      simp [w8, Nat.mod_one]
    | succ k ih =>
      intro a n h j hj
      rw [wrd] at h
      obtain ⟨h1, h2⟩ := h.head
      have h3 := ih (a + 1) (n / 256) h.tail
      have hn : nb b a = n % 256 := by omega
      -- w8 from its head
      have hw : ∀ j, w8 b a (j + 1) = nb b a + 256 * w8 b (a + 1) j := by
        intro j
        induction j with
        | zero => simp [w8]
        | succ j ihj =>
          have e1 : w8 b a (j + 1 + 1) = w8 b a (j + 1) + 256 ^ (j + 1) * nb b (a + (j + 1)) := rfl
          have e2 : w8 b (a + 1) (j + 1) = w8 b (a + 1) j + 256 ^ j * nb b (a + 1 + j) := rfl
          have e3 : a + 1 + j = a + (j + 1) := by omega
          rw [e1, ihj, e2, e3, Nat.pow_succ, Nat.mul_add, Nat.mul_comm (256 ^ j) 256, Nat.mul_assoc, Nat.add_assoc]
      cases j with
      | zero => simp [w8, Nat.mod_one]
      | succ j =>
        rw [hw j, h3 j (by omega), hn, Nat.pow_succ, Nat.mul_comm (256 ^ j) 256, Nat.mod_mul]
  exact fun k n h => gen k a n h k (Nat.le_refl _)
theorem rdW_of {b : ByteArray} {a n : Nat} (hn : n < 18446744073709551616) (h : Stands b a (wordL n)) : rdW b a true = (n, a + 8, true) := by
  have hl : (wordL n).length = 8 := wrd_len 8 n
  have h1 := w8_of 8 n h
  have h2 : (256 : Nat) ^ 8 = 18446744073709551616 := by decide
  unfold rdW
  rw [if_pos ⟨rfl, by have := h.1; omega⟩, h1, h2, Nat.mod_eq_of_lt hn]
theorem bytes_get (s : ByteArray) (j : Nat) : (bytesOf s).getD j 0 = (nb s j : Int) := by
  have h := rd_bytesOf s (j : Int)
  rw [bt_nb] at h
  unfold rd at h
  rwa [Int.toNat_natCast] at h
theorem ext_of {b s : ByteArray} {p : Nat} (h : Stands b p (bytesOf s)) : b.extract p (p + s.size) = s := by
  obtain ⟨h1, h2⟩ := h
  rw [bytesOf_length] at h1 h2
  have hsz : (b.extract p (p + s.size)).size = s.size := ext_size (by omega)
  have e : bytesOf (b.extract p (p + s.size)) = bytesOf s := by
    apply List.ext_getElem?
    intro j
    by_cases hj : j < s.size
    · have l1 : j < (bytesOf (b.extract p (p + s.size))).length := by rw [bytesOf_length, hsz]; exact hj
      have l2 : j < (bytesOf s).length := by rw [bytesOf_length]; exact hj
      have g1 := bytes_get (b.extract p (p + s.size)) j
      have g2 := bytes_get s j
      have g3 := h2 j hj
      rw [nb_ext (by omega) hj] at g1
      rw [List.getD_eq_getElem?_getD] at g1 g3
      rw [List.getElem?_eq_getElem l1] at g1 ⊢
      rw [List.getElem?_eq_getElem l2] at g3 ⊢
      simp only [Option.getD_some] at g1 g3
      rw [g1, g3]
    · rw [List.getElem?_eq_none (by rw [bytesOf_length, hsz]; omega), List.getElem?_eq_none (by rw [bytesOf_length]; omega)]
  rw [← str_bytes (b.extract p (p + s.size)), e, str_bytes]
theorem rdT_of {b s : ByteArray} {a : Nat} (hs : s.size < 9223372036854775808) (h : Stands b a (textL s)) : rdT b a true = (s, a + (textL s).length, true) := by
  unfold textL at h
  have h1 := dcnt_of hs h.left
  have h2 := h.right
  have h3 := h2.1
  rw [bytesOf_length] at h3
  unfold rdT
  rw [h1]
  dsimp only
  unfold rdK
  rw [if_pos ⟨rfl, by omega⟩, ext_of h2]
  simp only [textL, List.length_append, bytesOf_length]
  rw [Nat.add_assoc]
theorem rdB_of {l m : Nat} {b : ByteArray} {a x : Nat} (h1 : l ≤ x) (h2 : x ≤ m) (h : Stands b a [(x : Int)]) : rdB l m b a true = (x, a + 1, true) := by
  obtain ⟨h3, h4⟩ := h.head
  have h5 : nb b a = x := by omega
  unfold rdB
  rw [if_pos ⟨rfl, by omega⟩, h5, if_pos ⟨h1, h2⟩]
theorem cast_toNat {z : Int} (h : 0 ≤ z) : ((z.toNat : Nat) : Int) = z := by omega
theorem leafL_eq (x : S39) : leafL x = cntL x.f0.toNat ++ (cntL x.f1.toNat ++ (cntL x.f2.toNat ++ (cntL x.f3.toNat ++ (wordL x.f4.toNat ++ textL x.f5)))) := by simp [leafL, numL, List.append_assoc]
theorem rdLeaf_of {b : ByteArray} {a : Nat} (x : S39) (ho : okL x) (h0 : 0 ≤ x.f0) (h1 : 0 ≤ x.f1) (h2 : 0 ≤ x.f2) (h3 : 0 ≤ x.f3) (hs : x.f5.size < 9223372036854775808) (h : Stands b a (leafL x)) : rdLeaf b a true = (x, a + (leafL x).length, true) := by
  obtain ⟨g0, g1, g2, g3, g4, g5⟩ := ho
  rw [leafL_eq] at h ⊢
  have e0 := dcnt_of (by omega) h.left
  have h := h.right
  have e1 := dcnt_of (by omega) h.left
  have h := h.right
  have e2 := dcnt_of (by omega) h.left
  have h := h.right
  have e3 := dcnt_of (by omega) h.left
  have h := h.right
  have e4 := rdW_of (by omega) h.left
  have h := h.right
  have hl : (wordL x.f4.toNat).length = 8 := wrd_len 8 _
  rw [hl] at h
  have e5 := rdT_of hs h
  unfold rdLeaf bindS
  rw [e0]
  dsimp only
  rw [e1]
  dsimp only
  rw [e2]
  dsimp only
  rw [e3]
  dsimp only
  rw [e4]
  dsimp only
  rw [e5]
  dsimp only
  rw [cast_toNat h0, cast_toNat h1, cast_toNat h2, cast_toNat h3, cast_toNat g4]
  simp only [List.length_append, hl]
  congr 2
  omega
theorem nodeL_eq (x : S41) : nodeL x = textL x.f0 ++ ([flag x.f1] ++ (textL x.f2 ++ (cntL x.f3.toNat ++ (cntL x.f4.toNat ++ (cntL x.f5.toNat ++ cntL (x.f6 + 1).toNat))))) := by simp [nodeL, numL, List.append_assoc]
theorem flag_nat (x : Bool) : flag x = ((if x then 1 else 0 : Nat) : Int) := by cases x <;> rfl
theorem rdNode_of {b : ByteArray} {a : Nat} (x : S41) (ho : okN x) (h3 : 0 ≤ x.f3) (h4 : 0 ≤ x.f4) (h5 : 0 ≤ x.f5) (h6 : -1 ≤ x.f6) (h7 : x.f6 < 9223372036854775807) (hs : x.f0.size < 9223372036854775808) (hs2 : x.f2.size < 9223372036854775808) (h : Stands b a (nodeL x)) : rdNode b a true = (x, a + (nodeL x).length, true) := by
  obtain ⟨g3, g4, g5, g6⟩ := ho
  rw [nodeL_eq] at h ⊢
  have e0 := rdT_of hs h.left
  have h := h.right
  have hf := h.left
  rw [flag_nat] at hf
  have e1 := rdB_of (l := 0) (m := 1) (Nat.zero_le _) (by split <;> omega) hf
  have h := h.right
  rw [List.length_singleton] at h
  have e2 := rdT_of hs2 h.left
  have h := h.right
  have e3 := dcnt_of (by omega) h.left
  have h := h.right
  have e4 := dcnt_of (by omega) h.left
  have h := h.right
  have e5 := dcnt_of (by omega) h.left
  have h := h.right
  have e6 := dcnt_of (by omega) h
  unfold rdNode bindS
  rw [e0]
  dsimp only
  rw [e1]
  dsimp only
  rw [e2]
  dsimp only
  rw [e3]
  dsimp only
  rw [e4]
  dsimp only
  rw [e5]
  dsimp only
  rw [e6]
  dsimp only
  have e7 : (((x.f6 + 1).toNat : Nat) : Int) - 1 = x.f6 := by omega
  have e8 : ((if x.f1 = true then 1 else 0 : Nat) == 1) = x.f1 := by cases x.f1 <;> rfl
  rw [cast_toNat h3, cast_toNat h4, cast_toNat h5, e7, e8]
  simp only [List.length_append, List.length_singleton]
  congr 2
  omega
theorem rdList_of {α : Type} {b : ByteArray} {f : Rd α} (enc : α → List Int) : ∀ (xs acc : List α) (a : Nat), (∀ x ∈ xs, ∀ a, Stands b a (enc x) → f a true = (x, a + (enc x).length, true)) → Stands b a (xs.flatMap enc) → rdList f xs.length acc a true = (acc ++ xs, a + (xs.flatMap enc).length, true) := by
  intro xs
  induction xs with
  | nil => intro acc a _ _; simp [rdList]
  | cons x r ih =>
    intro acc a hf h
    rw [List.flatMap_cons] at h ⊢
    rw [List.length_cons, rdList, if_pos rfl, hf x List.mem_cons_self a h.left]
    dsimp only
    rw [ih (acc ++ [x]) _ (fun y hy => hf y (List.mem_cons_of_mem _ hy)) h.right, List.length_append]
    simp [Nat.add_assoc]
theorem bodyL_eq (d t : ByteArray) (c a wt rt : Int) (ls : List S39) (ns : List S41) : bodyL d t c a wt rt ls ns = [83] ++ ([1] ++ (wordL (sumS d) ++ (wordL (sumS t) ++ (cntL c.toNat ++ (cntL a.toNat ++ (cntL rt.toNat ++ (wordL wt.toNat ++ (cntL ls.length ++ (ls.flatMap leafL ++ (cntL ns.length ++ ns.flatMap nodeL)))))))))) := by
  simp [bodyL, headL, numL, List.append_assoc]
/-- what a whole encoding's body is read back as -/
theorem rdHd_of {b d t : ByteArray} {c a wt rt : Int} {ls : List S39} {ns : List S41} (hc : 0 ≤ c ∧ c < 9223372036854775808) (ha : 0 ≤ a ∧ a < 9223372036854775808) (hr : 0 ≤ rt ∧ rt < 9223372036854775808) (hw : 0 ≤ wt ∧ wt < 18446744073709551616)
    (hll : ls.length < 9223372036854775808) (hnl : ns.length < 9223372036854775808) (hl : ∀ x ∈ ls, ∀ a, Stands b a (leafL x) → rdLeaf b a true = (x, a + (leafL x).length, true)) (hn : ∀ x ∈ ns, ∀ a, Stands b a (nodeL x) → rdNode b a true = (x, a + (nodeL x).length, true))
    (h : Stands b 0 (bodyL d t c a wt rt ls ns)) : rdHd b 0 true = ((sumS d, sumS t, ⟨c.toNat, a.toNat, wt.toNat, ls, ns, rt.toNat⟩), (bodyL d t c a wt rt ls ns).length, true) := by
  rw [bodyL_eq] at h ⊢
  have e0 := rdB_of (l := 83) (m := 83) (x := 83) (Nat.le_refl _) (Nat.le_refl _) h.left
  have h := h.right
  rw [List.length_singleton] at h
  have e1 := rdB_of (l := 1) (m := 1) (x := 1) (Nat.le_refl _) (Nat.le_refl _) h.left
  have h := h.right
  rw [List.length_singleton] at h
  have e2 := rdW_of (sumS_lt d) h.left
  have h := h.right
  rw [show (wordL (sumS d)).length = 8 from wrd_len 8 _] at h
  have e3 := rdW_of (sumS_lt t) h.left
  have h := h.right
  rw [show (wordL (sumS t)).length = 8 from wrd_len 8 _] at h
  have e4 := dcnt_of (by omega) h.left
  have h := h.right
  have e5 := dcnt_of (by omega) h.left
  have h := h.right
  have e6 := dcnt_of (by omega) h.left
  have h := h.right
  have e7 := rdW_of (by omega) h.left
  have h := h.right
  rw [show (wordL wt.toNat).length = 8 from wrd_len 8 _] at h
  have e8 := dcnt_of hll h.left
  have h := h.right
  have e9 := rdList_of leafL ls [] _ hl h.left
  have h := h.right
  have e10 := dcnt_of hnl h.left
  have h := h.right
  have e11 := rdList_of nodeL ns [] _ hn h
  have w1 : (wordL (sumS d)).length = 8 := wrd_len 8 _
  have w2 : (wordL (sumS t)).length = 8 := wrd_len 8 _
  have w3 : (wordL wt.toNat).length = 8 := wrd_len 8 _
  unfold rdHd rdRes rdLeaves rdNodes bindS
  rw [e0]
  dsimp only
  rw [e1]
  dsimp only
  rw [e2]
  dsimp only
  rw [e3]
  dsimp only
  rw [e4]
  dsimp only
  rw [e5]
  dsimp only
  rw [e6]
  dsimp only
  rw [e7]
  dsimp only
  rw [e8]
  dsimp only
  rw [e9]
  dsimp only
  rw [e10]
  dsimp only
  rw [e11]
  dsimp only
  simp only [List.length_append, List.length_singleton, List.nil_append, w1, w2, w3]
  congr 2
  omega
theorem stands_str {l : List Int} (h : ∀ x ∈ l, 0 ≤ x ∧ x < 256) : Stands (strOfNums l) 0 l := by
  have hb := byte_str l h
  have hs : (strOfNums l).size = l.length := by rw [← bytesOf_length, hb]
  refine ⟨by omega, fun j hj => ?_⟩
  rw [Nat.zero_add, ← bytes_get, hb]
/-- the verdict on a whole encoding -/
theorem verdict_of {d t d' t' : ByteArray} {c a wt rt : Int} {ls : List S39} {ns : List S41} (hb : ∀ x ∈ encL d t c a wt rt ls ns, 0 ≤ x ∧ x < 256)
    (h : ∀ b, Stands b 0 (bodyL d t c a wt rt ls ns) → rdHd b 0 true = ((sumS d, sumS t, ⟨c.toNat, a.toNat, wt.toNat, ls, ns, rt.toNat⟩), (bodyL d t c a wt rt ls ns).length, true)) :
    hd (strOfNums (encL d t c a wt rt ls ns)) = ⟨sumS d, sumS t, ⟨c.toNat, a.toNat, wt.toNat, ls, ns, rt.toNat⟩, (bodyL d t c a wt rt ls ns).length, sumS (strOfNums (bodyL d t c a wt rt ls ns)), (strOfNums (encL d t c a wt rt ls ns)).size, true⟩ := by
  have hs := stands_str hb
  have hz : (strOfNums (encL d t c a wt rt ls ns)).size = (bodyL d t c a wt rt ls ns).length + 8 := by
    rw [← bytesOf_length, byte_str _ hb, encL, List.length_append, wordL, wrd_len]
  generalize strOfNums (encL d t c a wt rt ls ns) = b at hs hz ⊢
  unfold encL at hs
  have h1 := h b hs.left
  have h2 := rdW_of (sumS_lt _) hs.right
  rw [Nat.zero_add] at h2
  unfold hd
  rw [h1]
  dsimp only
  rw [h2, hz]
end Go.Proofs.YtjgccbpdpnpfjaaDoor.ST
namespace Go.Proofs.YtjgccbpdpnpfjaaDoor.ST
open Go.RowKit Go.Proofs.YtjgccbpdpnpfjaaDoorW.PrintWords Go.Proofs.YtjgccbpdpnpfjaaDoorW.PrintLast Go.Proofs.YtjgccbpdpnpfjaaDoorW.PrintMore Go.Proofs.YtjgccbpdpnpfjaaDoor.PAll
set_option linter.unusedVariables false

theorem xor_nat {n m : Nat} (hn : n < 18446744073709551616) (hm : m < 18446744073709551616) : Go.bits .xor .u64 (n : Int) (m : Int) = ((n ^^^ m : Nat) : Int) := by
  have h : n ^^^ m < 2 ^ 64 := Nat.xor_lt_two_pow hn hm
  unfold Go.bits
  have e1 : (BitVec.ofInt IntKind.u64.bits (n : Int)).toNat = n := by
    rw [BitVec.ofInt_natCast, BitVec.toNat_ofNat]
    exact Nat.mod_eq_of_lt hn
  have e2 : (BitVec.ofInt IntKind.u64.bits (m : Int)).toNat = m := by
    rw [BitVec.ofInt_natCast, BitVec.toNat_ofNat]
    exact Nat.mod_eq_of_lt hm
  show IntKind.u64.wrap ((BitVec.ofInt IntKind.u64.bits (n : Int) ^^^ BitVec.ofInt IntKind.u64.bits (m : Int)).toNat : Int) = _
  rw [BitVec.toNat_xor, e1, e2]
  exact wu (by omega) (by omega)
theorem mix_nat {n m : Nat} (hn : n < 18446744073709551616) (hm : m < 256) : mixI (n : Int) (m : Int) = (((n ^^^ m) * 1099511628211 % 18446744073709551616 : Nat) : Int) := by
  unfold mixI
  rw [wu (a := (m : Int)) (by omega) (by omega), xor_nat hn (by omega), wrap_u64]
  omega
theorem mul_inj {x y : Nat} (hx : x < 18446744073709551616) (hy : y < 18446744073709551616) (h : x * 1099511628211 % 18446744073709551616 = y * 1099511628211 % 18446744073709551616) : x = y := by
  have back : ∀ z : Nat, z < 18446744073709551616 → (z * 1099511628211 % 18446744073709551616) * 14886173955864302971 % 18446744073709551616 = z := by
    intro z hz
    rw [Nat.mod_mul_mod, Nat.mul_assoc, Nat.mul_mod]
    have : 1099511628211 * 14886173955864302971 % 18446744073709551616 = 1 := by decide
    rw [this, Nat.mul_one, Nat.mod_mod, Nat.mod_eq_of_lt hz]
  have a := back x hx
  have b := back y hy
  rw [h] at a
  exact a.symm.trans b
theorem mixI_inj {n n' m : Nat} (hn : n < 18446744073709551616) (hn' : n' < 18446744073709551616) (hm : m < 256) (h : mixI (n : Int) (m : Int) = mixI (n' : Int) (m : Int)) : n = n' := by
  rw [mix_nat hn hm, mix_nat hn' hm] at h
  have h1 : n ^^^ m < 2 ^ 64 := Nat.xor_lt_two_pow hn (by omega)
  have h2 : n' ^^^ m < 2 ^ 64 := Nat.xor_lt_two_pow hn' (by omega)
  have h3 : n ^^^ m = n' ^^^ m := mul_inj h1 h2 (Int.natCast_inj.1 h)
  have h4 : (n ^^^ m) ^^^ m = (n' ^^^ m) ^^^ m := by rw [h3]
  rwa [Nat.xor_assoc, Nat.xor_self, Nat.xor_zero, Nat.xor_assoc, Nat.xor_self, Nat.xor_zero] at h4
theorem mixI_byte {n m m' : Nat} (hn : n < 18446744073709551616) (hm : m < 256) (hm' : m' < 256) (h : mixI (n : Int) (m : Int) = mixI (n : Int) (m' : Int)) : m = m' := by
  rw [mix_nat hn hm, mix_nat hn hm'] at h
  have h1 : n ^^^ m < 2 ^ 64 := Nat.xor_lt_two_pow hn (by omega)
  have h2 : n ^^^ m' < 2 ^ 64 := Nat.xor_lt_two_pow hn (by omega)
  have h3 : n ^^^ m = n ^^^ m' := mul_inj h1 h2 (Int.natCast_inj.1 h)
  have h4 : n ^^^ (n ^^^ m) = n ^^^ (n ^^^ m') := by rw [h3]
  rwa [← Nat.xor_assoc, ← Nat.xor_assoc, Nat.xor_self, Nat.zero_xor, Nat.zero_xor] at h4
theorem fold_inj : ∀ (l : List Int) (n n' : Nat), n < 18446744073709551616 → n' < 18446744073709551616 → (∀ x ∈ l, 0 ≤ x ∧ x < 256) → l.foldl mixI (n : Int) = l.foldl mixI (n' : Int) → n = n' := by
  intro l
  induction l with
  | nil => intro n n' _ _ _ h; exact Int.natCast_inj.1 h
  | cons x r ih =>
    intro n n' hn hn' hl h
    obtain ⟨h0, h1⟩ := hl x List.mem_cons_self
    obtain ⟨m, rfl⟩ := Int.eq_ofNat_of_zero_le h0
    have hm : m < 256 := by omega
    rw [List.foldl_cons, List.foldl_cons] at h
    have e := mix_nat hn hm
    have e' := mix_nat hn' hm
    rw [e, e'] at h
    have h2 := ih _ _ (Nat.mod_lt _ (by decide)) (Nat.mod_lt _ (by decide)) (fun y hy => hl y (List.mem_cons_of_mem _ hy)) h
    exact mixI_inj hn hn' hm (by rw [e, e', h2])
theorem bytesOf_append (a b : ByteArray) : bytesOf (a ++ b) = bytesOf a ++ bytesOf b := by simp [bytesOf]
theorem sumS_append (a m : ByteArray) : ((sumS (a ++ m) : Nat) : Int) = (bytesOf m).foldl mixI ((sumS a : Nat) : Int) := by
  rw [sumS_int, sumS_int, bytesOf_append, sumL, List.foldl_append]
  rfl
/-- the law: texts that go on alike have other sums just if they had -/
theorem sums_go_on (a b m : ByteArray) : sumS a = sumS b ↔ sumS (a ++ m) = sumS (b ++ m) := by
  constructor
  · intro h
    have h1 := sumS_append a m
    rw [h, ← sumS_append b m] at h1
    exact Int.natCast_inj.1 h1
  · intro h
    have h1 := sumS_append a m
    rw [h, sumS_append b m] at h1
    exact (fold_inj (bytesOf m) _ _ (sumS_lt b) (sumS_lt a) (bytes_ok m) h1).symm
end Go.Proofs.YtjgccbpdpnpfjaaDoor.ST
namespace Go.Proofs.YtjgccbpdpnpfjaaDoor.ST
open Go.RowKit Go.Proofs.YtjgccbpdpnpfjaaDoorW.PrintWords Go.Proofs.YtjgccbpdpnpfjaaDoorW.PrintLast Go.Proofs.YtjgccbpdpnpfjaaDoorW.PrintMore Go.Proofs.YtjgccbpdpnpfjaaDoor.PAll
set_option linter.unusedVariables false

theorem Stands.join {b : ByteArray} {p : Nat} {l m : List Int} (h1 : Stands b p l) (h2 : Stands b (p + l.length) m) : Stands b p (l ++ m) := by
  refine ⟨by rw [List.length_append]; have := h2.1; omega, fun j hj => ?_⟩
  rw [List.length_append] at hj
  rw [List.getD_eq_getElem?_getD]
  by_cases h : j < l.length
  · rw [List.getElem?_append_left h, ← List.getD_eq_getElem?_getD]
    exact h1.2 j h
  · rw [List.getElem?_append_right (by omega), ← List.getD_eq_getElem?_getD, ← h2.2 (j - l.length) (by omega)]
    rw [show p + l.length + (j - l.length) = p + j by omega]
theorem Stands.one {b : ByteArray} {p : Nat} {x : Int} (h1 : p < b.size) (h2 : (nb b p : Int) = x) : Stands b p [x] := by
  refine ⟨by simp; omega, fun j hj => ?_⟩
  obtain rfl : j = 0 := by simpa using hj
  simpa using h2
theorem Stands.cons {b : ByteArray} {p : Nat} {x : Int} {m : List Int} (h1 : p < b.size) (h2 : (nb b p : Int) = x) (h3 : Stands b (p + 1) m) : Stands b p (x :: m) := Stands.join (Stands.one h1 h2) (by simpa using h3)
theorem Stands.nil {b : ByteArray} {p : Nat} (h : p ≤ b.size) : Stands b p [] := ⟨by simpa using h, fun j hj => by simp at hj⟩
theorem dcl_canon (b : ByteArray) (at_ : Nat) : ∀ (d i n x a : Nat), dcl b at_ d i n = some (x, a) → ∃ m, x = n + 128 ^ i * m ∧ m < 128 ^ d ∧ (i = 0 ∨ 0 < m) ∧ ∀ k, d ≤ k + 1 → Stands b (at_ + i) (cnt k m) ∧ a = at_ + i + (cnt k m).length := by
  intro d
  induction d with
  | zero => intro i n x a h; simp [dcl] at h
  | succ d ih =>
    intro i n x a h
    rw [dcl] at h
    by_cases h1 : at_ + i < b.size
    · rw [if_pos h1] at h
      have hlt := nb_lt b (at_ + i)
      by_cases h2 : nb b (at_ + i) < 128
      · rw [if_pos h2] at h
        by_cases h3 : nb b (at_ + i) = 0 ∧ 0 < i
        · rw [if_pos h3] at h; cases h
        · rw [if_neg h3] at h
          injection h with h
          injection h with e1 e2
          have hp : 128 ≤ 128 ^ (d + 1) := by
            have : 128 ^ 1 ≤ 128 ^ (d + 1) := Nat.pow_le_pow_right (by omega) (by omega)
            omega
          refine ⟨nb b (at_ + i), e1.symm, by omega, by omega, fun k hk => ?_⟩
          have hc : cnt k (nb b (at_ + i)) = [(nb b (at_ + i) : Int)] := by
            cases k with
            | zero => rfl
            | succ k => rw [cnt, if_pos h2]
          rw [hc]
          exact ⟨Stands.one h1 rfl, e2.symm⟩
      · rw [if_neg h2] at h
        obtain ⟨m, hx, hm, hz, hs⟩ := ih (i + 1) _ x a h
        have hm0 : 0 < m := by omega
        have hi : 128 ^ (i + 1) = 128 ^ i * 128 := Nat.pow_succ ..
        have hd : 128 ^ (d + 1) = 128 ^ d * 128 := Nat.pow_succ ..
        have hd1 : (128 : Nat) ^ 1 = 128 := rfl
        have hd0 : 0 < d := by
          rcases Nat.eq_zero_or_pos d with rfl | hh
          · simp at hm; omega
          · exact hh
        refine ⟨nb b (at_ + i) % 128 + 128 * m, ?_, by omega, by omega, fun k hk => ?_⟩
        · rw [hx, hi, Nat.mul_assoc, Nat.add_assoc, ← Nat.mul_add]
        · obtain ⟨k, rfl⟩ : ∃ k', k = k' + 1 := ⟨k - 1, by omega⟩
          rw [cnt, if_neg (by omega)]
          have e1 : (nb b (at_ + i) % 128 + 128 * m) / 128 = m := by omega
          have e2 : (nb b (at_ + i) % 128 + 128 * m) % 128 + 128 = nb b (at_ + i) := by omega
          rw [e1]
          obtain ⟨hs1, hs2⟩ := hs k (by omega)
          refine ⟨Stands.cons h1 (by omega) (by rw [Nat.add_assoc]; exact hs1), ?_⟩
          rw [hs2, List.length_cons]
          omega
    · rw [if_neg h1] at h
      cases h

/-- what is read well: it stands there, the place behind it is the encoding's end, and it is of its kind -/
def Cn {α : Type} (b : ByteArray) (f : Rd α) (P : α → Prop) (enc : α → List Int) : Prop := ∀ a o x a', f a o = (x, a', true) → o = true ∧ P x ∧ Stands b a (enc x) ∧ a' = a + (enc x).length
theorem cn_C (b : ByteArray) : Cn b (rdC b) (fun n => n < 9223372036854775808) (fun n => cntL n) := by
  intro a o x a' h
  unfold rdC at h
  cases o with
  | false => simp at h
  | true =>
    rw [if_pos rfl] at h
    cases hd : dcnt b a with
    | none => rw [hd] at h; simp at h
    | some p =>
      obtain ⟨n, a2⟩ := p
      rw [hd] at h
      simp only [Prod.mk.injEq, and_true] at h
      obtain ⟨rfl, rfl⟩ := h
      obtain ⟨m, h1, h2, _, h4⟩ := dcl_canon b a 9 0 0 n a2 hd
      have h9 : (128 : Nat) ^ 9 = 9223372036854775808 := by decide
      obtain ⟨h5, h6⟩ := h4 10 (by omega)
      have e : n = m := by simpa using h1
      subst e
      exact ⟨rfl, by omega, h5, h6⟩
theorem w8_head (b : ByteArray) : ∀ (j a : Nat), w8 b a (j + 1) = nb b a + 256 * w8 b (a + 1) j := by
  intro j
  induction j with
  | zero => intro a; simp [w8]
  | succ j ihj =>
    intro a
    have e1 : w8 b a (j + 1 + 1) = w8 b a (j + 1) + 256 ^ (j + 1) * nb b (a + (j + 1)) := rfl
    have e2 : w8 b (a + 1) (j + 1) = w8 b (a + 1) j + 256 ^ j * nb b (a + 1 + j) := rfl
    have e3 : a + 1 + j = a + (j + 1) := by omega
    rw [e1, ihj, e2, e3, Nat.pow_succ, Nat.mul_add, Nat.mul_comm (256 ^ j) 256, Nat.mul_assoc, Nat.add_assoc]
theorem w8_canon (b : ByteArray) : ∀ (k a : Nat), a + k ≤ b.size → Stands b a (wrd k (w8 b a k)) ∧ w8 b a k < 256 ^ k := by
  intro k
  induction k with
  | zero => intro a h; exact ⟨Stands.nil (by omega), by simp [w8]⟩
  | succ k ih =>
    intro a h
    obtain ⟨h1, h2⟩ := ih (a + 1) (by omega)
    have hb := nb_lt b a
    rw [w8_head, wrd]
    have e1 : (nb b a + 256 * w8 b (a + 1) k) % 256 = nb b a := by omega
    have e2 : (nb b a + 256 * w8 b (a + 1) k) / 256 = w8 b (a + 1) k := by omega
    have hp : 256 ^ (k + 1) = 256 ^ k * 256 := Nat.pow_succ ..
    rw [e2]
    exact ⟨Stands.cons (by omega) (by omega) h1, by omega⟩
theorem cn_W (b : ByteArray) : Cn b (rdW b) (fun n => n < 18446744073709551616) (fun n => wordL n) := by
  intro a o x a' h
  unfold rdW at h
  split at h
  · rename_i hh
    simp only [Prod.mk.injEq, and_true] at h
    obtain ⟨rfl, rfl⟩ := h
    obtain ⟨h1, h2⟩ := w8_canon b 8 a (by omega)
    have h3 : (256 : Nat) ^ 8 = 18446744073709551616 := by decide
    exact ⟨hh.1, by omega, h1, by show a + 8 = a + (wrd 8 _).length; rw [wrd_len]⟩
  · simp at h
theorem stands_ext {b : ByteArray} {a n : Nat} (h : n + a ≤ b.size) : Stands b a (bytesOf (b.extract a (a + n))) := by
  have hs := ext_size h
  refine ⟨by rw [bytesOf_length, hs]; omega, fun j hj => ?_⟩
  rw [bytesOf_length, hs] at hj
  rw [bytes_get, nb_ext h hj]
theorem cn_T (b : ByteArray) : Cn b (rdT b) (fun s => s.size < 9223372036854775808) textL := by
  intro a o x a' h
  unfold rdT at h
  obtain ⟨n, a1, o1, hc⟩ : ∃ n a1 o1, rdC b a o = (n, a1, o1) := ⟨_, _, _, rfl⟩
  rw [hc] at h
  unfold rdK at h
  dsimp only at h
  split at h
  · rename_i hh
    obtain ⟨rfl, hh⟩ := hh
    simp only [Prod.mk.injEq, and_true] at h
    obtain ⟨rfl, rfl⟩ := h
    obtain ⟨h1, h2, h3, h4⟩ := cn_C b a o n a1 hc
    have hs := ext_size hh
    refine ⟨h1, by show ByteArray.size _ < _; rw [hs]; exact h2, ?_, ?_⟩
    · unfold textL
      rw [hs]
      exact Stands.join h3 (by rw [← h4]; exact stands_ext hh)
    · unfold textL
      rw [List.length_append, bytesOf_length, hs]
      have h5 : a1 = a + (cntL n).length := h4
      omega
  · simp at h
theorem cn_B (l m : Nat) (b : ByteArray) : Cn b (rdB l m b) (fun x => l ≤ x ∧ x ≤ m) (fun x => [(x : Int)]) := by
  intro a o x a' h
  unfold rdB at h
  split at h
  · rename_i hh
    split at h
    · rename_i h2
      simp only [Prod.mk.injEq, and_true] at h
      obtain ⟨rfl, rfl⟩ := h
      exact ⟨hh.1, h2, Stands.one (by omega) rfl, rfl⟩
    · simp at h
  · simp at h
theorem bind_inv {α β : Type} {f : Rd α} {g : α → Rd β} (hs : ∀ x, Still (g x)) {a : Nat} {o : Bool} {y : β} {a' : Nat} (h : bindS (f a o) g = (y, a', true)) : ∃ x a1, f a o = (x, a1, true) ∧ g x a1 true = (y, a', true) := by
  obtain ⟨x, a1, o1, hf⟩ : ∃ x a1 o1, f a o = (x, a1, o1) := ⟨_, _, _, rfl⟩
  rw [hf] at h
  replace h : g x a1 o1 = (y, a', true) := h
  cases o1 with
  | true => exact ⟨x, a1, hf, h⟩
  | false =>
    have h2 := (hs x a1).2
    rw [h] at h2
    cases h2
theorem still_T (b : ByteArray) : Still (rdT b) := fun a => ⟨rfl, rfl⟩
def kL (x : S39) : Prop := (0 ≤ x.f0 ∧ 0 ≤ x.f1 ∧ 0 ≤ x.f2 ∧ 0 ≤ x.f3) ∧ okL x ∧ x.f5.size < 9223372036854775808
def kN (x : S41) : Prop := (0 ≤ x.f3 ∧ 0 ≤ x.f4 ∧ 0 ≤ x.f5 ∧ -1 ≤ x.f6 ∧ x.f6 < 9223372036854775807) ∧ okN x ∧ x.f0.size < 9223372036854775808 ∧ x.f2.size < 9223372036854775808
theorem cn_leaf (b : ByteArray) : Cn b (rdLeaf b) kL leafL := by
  intro a o x a' h
  unfold rdLeaf at h
  obtain ⟨x0, a0, h0, h⟩ := bind_inv (fun _ => (still_C b).bind fun _ => (still_C b).bind fun _ => (still_C b).bind fun _ => (still_W b).bind fun _ => (still_T b).bind fun _ => Still.pure _) h
  obtain ⟨x1, a1, h1, h⟩ := bind_inv (fun _ => (still_C b).bind fun _ => (still_C b).bind fun _ => (still_W b).bind fun _ => (still_T b).bind fun _ => Still.pure _) h
  obtain ⟨x2, a2, h2, h⟩ := bind_inv (fun _ => (still_C b).bind fun _ => (still_W b).bind fun _ => (still_T b).bind fun _ => Still.pure _) h
  obtain ⟨x3, a3, h3, h⟩ := bind_inv (fun _ => (still_W b).bind fun _ => (still_T b).bind fun _ => Still.pure _) h
  obtain ⟨x4, a4, h4, h⟩ := bind_inv (fun _ => (still_T b).bind fun _ => Still.pure _) h
  obtain ⟨x5, a5, h5, h⟩ := bind_inv (fun _ => Still.pure _) h
  simp only [Prod.mk.injEq, and_true] at h
  obtain ⟨rfl, rfl⟩ := h
  obtain ⟨ho, p0, s0, rfl⟩ := cn_C b _ _ _ _ h0
  obtain ⟨_, p1, s1, rfl⟩ := cn_C b _ _ _ _ h1
  obtain ⟨_, p2, s2, rfl⟩ := cn_C b _ _ _ _ h2
  obtain ⟨_, p3, s3, rfl⟩ := cn_C b _ _ _ _ h3
  obtain ⟨_, p4, s4, rfl⟩ := cn_W b _ _ _ _ h4
  obtain ⟨_, p5, s5, rfl⟩ := cn_T b _ _ _ _ h5
  refine ⟨ho, ⟨⟨Int.natCast_nonneg _, Int.natCast_nonneg _, Int.natCast_nonneg _, Int.natCast_nonneg _⟩, ⟨by show (x0 : Int) < _; omega, by show (x1 : Int) < _; omega, by show (x2 : Int) < _; omega, by show (x3 : Int) < _; omega, Int.natCast_nonneg _, by show (x4 : Int) < _; omega⟩, p5⟩, ?_, ?_⟩
  · rw [leafL_eq]
    exact s0.join (s1.join (s2.join (s3.join (s4.join s5))))
  · rw [leafL_eq]
    simp only [List.length_append, Int.toNat_natCast]
    omega
theorem cn_node (b : ByteArray) : Cn b (rdNode b) kN nodeL := by
  intro a o x a' h
  unfold rdNode at h
  obtain ⟨x0, a0, h0, h⟩ := bind_inv (fun _ => (still_B 0 1 b).bind fun _ => (still_T b).bind fun _ => (still_C b).bind fun _ => (still_C b).bind fun _ => (still_C b).bind fun _ => (still_C b).bind fun _ => Still.pure _) h
  obtain ⟨x1, a1, h1, h⟩ := bind_inv (fun _ => (still_T b).bind fun _ => (still_C b).bind fun _ => (still_C b).bind fun _ => (still_C b).bind fun _ => (still_C b).bind fun _ => Still.pure _) h
  obtain ⟨x2, a2, h2, h⟩ := bind_inv (fun _ => (still_C b).bind fun _ => (still_C b).bind fun _ => (still_C b).bind fun _ => (still_C b).bind fun _ => Still.pure _) h
  obtain ⟨x3, a3, h3, h⟩ := bind_inv (fun _ => (still_C b).bind fun _ => (still_C b).bind fun _ => (still_C b).bind fun _ => Still.pure _) h
  obtain ⟨x4, a4, h4, h⟩ := bind_inv (fun _ => (still_C b).bind fun _ => (still_C b).bind fun _ => Still.pure _) h
  obtain ⟨x5, a5, h5, h⟩ := bind_inv (fun _ => (still_C b).bind fun _ => Still.pure _) h
  obtain ⟨x6, a6, h6, h⟩ := bind_inv (fun _ => Still.pure _) h
  simp only [Prod.mk.injEq, and_true] at h
  obtain ⟨rfl, rfl⟩ := h
  obtain ⟨ho, p0, s0, rfl⟩ := cn_T b _ _ _ _ h0
  obtain ⟨_, p1, s1, rfl⟩ := cn_B 0 1 b _ _ _ _ h1
  obtain ⟨_, p2, s2, rfl⟩ := cn_T b _ _ _ _ h2
  obtain ⟨_, p3, s3, rfl⟩ := cn_C b _ _ _ _ h3
  obtain ⟨_, p4, s4, rfl⟩ := cn_C b _ _ _ _ h4
  obtain ⟨_, p5, s5, rfl⟩ := cn_C b _ _ _ _ h5
  obtain ⟨_, p6, s6, rfl⟩ := cn_C b _ _ _ _ h6
  have ef : flag (x1 == 1) = (x1 : Int) := by
    have : x1 = 0 ∨ x1 = 1 := by omega
    rcases this with rfl | rfl <;> rfl
  have el : (((x6 : Int) - 1) + 1).toNat = x6 := by omega
  refine ⟨ho, ⟨⟨Int.natCast_nonneg _, Int.natCast_nonneg _, Int.natCast_nonneg _, by show -1 ≤ (x6 : Int) - 1; omega, by show (x6 : Int) - 1 < _; omega⟩, ⟨by show (x3 : Int) < _; omega, by show (x4 : Int) < _; omega, by show (x5 : Int) < _; omega, by show (x6 : Int) - 1 < _; omega⟩, p0, p2⟩, ?_, ?_⟩
  · rw [nodeL_eq]
    simp only [Int.toNat_natCast, ef, el]
    exact s0.join (s1.join (s2.join (s3.join (s4.join (s5.join s6)))))
  · rw [nodeL_eq]
    simp only [List.length_append, Int.toNat_natCast, el, List.length_singleton]
    omega
theorem cn_list {α : Type} {b : ByteArray} {f : Rd α} {P : α → Prop} {enc : α → List Int} (hf : Cn b f P enc) : ∀ (n : Nat) (acc : List α) (a : Nat) (o : Bool) (xs : List α) (a' : Nat), a ≤ b.size → rdList f n acc a o = (xs, a', true) → o = true ∧ ∃ ys, xs = acc ++ ys ∧ ys.length = n ∧ (∀ y ∈ ys, P y) ∧ Stands b a (ys.flatMap enc) ∧ a' = a + (ys.flatMap enc).length := by
  intro n
  induction n with
  | zero =>
    intro acc a o xs a' hle h
    rw [rdList] at h
    simp only [Prod.mk.injEq] at h
    obtain ⟨rfl, rfl, rfl⟩ := h
    exact ⟨rfl, [], by simp, rfl, by simp, Stands.nil hle, by simp⟩
  | succ n ih =>
    intro acc a o xs a' hle h
    cases o with
    | false => rw [rdList_no] at h; simp at h
    | true =>
      rw [rdList, if_pos rfl] at h
      obtain ⟨x, a1, o1, hx⟩ : ∃ x a1 o1, f a true = (x, a1, o1) := ⟨_, _, _, rfl⟩
      rw [hx] at h
      dsimp only at h
      cases o1 with
      | false => rw [rdList_no] at h; simp at h
      | true =>
        obtain ⟨_, h2, h3, h4⟩ := hf a true x a1 hx
        obtain ⟨_, ys, g1, g2, g3, g4, g5⟩ := ih _ _ _ _ _ (by rw [h4]; exact h3.1) h
        refine ⟨rfl, x :: ys, by rw [g1]; simp, by simp [g2], ?_, ?_, ?_⟩
        · intro y hy
          rcases List.mem_cons.1 hy with rfl | hy
          · exact h2
          · exact g3 y hy
        · rw [List.flatMap_cons]
          exact h3.join (by rw [← h4]; exact g4)
        · rw [List.flatMap_cons, List.length_append, g5, h4]
          omega
end Go.Proofs.YtjgccbpdpnpfjaaDoor.ST
namespace Go.Proofs.YtjgccbpdpnpfjaaDoor.ST
open Go.RowKit Go.Proofs.YtjgccbpdpnpfjaaDoorW.PrintWords Go.Proofs.YtjgccbpdpnpfjaaDoorW.PrintLast Go.Proofs.YtjgccbpdpnpfjaaDoorW.PrintMore Go.Proofs.YtjgccbpdpnpfjaaDoor.PAll
set_option linter.unusedVariables false

def bodyW (dw tw : Nat) (r : Rs) : List Int := [83] ++ ([1] ++ (wordL dw ++ (wordL tw ++ (cntL r.c ++ (cntL r.at_ ++ (cntL r.rt ++ (wordL r.wt ++ (cntL r.ls.length ++ (r.ls.flatMap leafL ++ (cntL r.ns.length ++ r.ns.flatMap nodeL))))))))))
structure Kr (dw tw : Nat) (r : Rs) : Prop where
  dw : dw < 18446744073709551616
  tw : tw < 18446744073709551616
  c : r.c < 9223372036854775808
  a : r.at_ < 9223372036854775808
  rt : r.rt < 9223372036854775808
  wt : r.wt < 18446744073709551616
  ll : r.ls.length < 9223372036854775808
  nl : r.ns.length < 9223372036854775808
  l : ∀ x ∈ r.ls, kL x
  n : ∀ x ∈ r.ns, kN x
theorem still_leaves (b : ByteArray) : Still (rdLeaves b) := Still.bind (still_C b) fun n => still_list _ n []
theorem still_nodes (b : ByteArray) : Still (rdNodes b) := Still.bind (still_C b) fun n => still_list _ n []
/-- what is read well is an encoding's body -/
theorem cn_hd {b : ByteArray} {dw tw : Nat} {r : Rs} {e : Nat} (h : rdHd b 0 true = ((dw, tw, r), e, true)) : Kr dw tw r ∧ Stands b 0 (bodyW dw tw r) ∧ e = (bodyW dw tw r).length := by
  unfold rdHd at h
  obtain ⟨x0, a0, h0, h⟩ := bind_inv (fun _ => (still_B 1 1 b).bind fun _ => (still_W b).bind fun _ => (still_W b).bind fun _ => (still_res b).bind fun _ => Still.pure _) h
  obtain ⟨x1, a1, h1, h⟩ := bind_inv (fun _ => (still_W b).bind fun _ => (still_W b).bind fun _ => (still_res b).bind fun _ => Still.pure _) h
  obtain ⟨x2, a2, h2, h⟩ := bind_inv (fun _ => (still_W b).bind fun _ => (still_res b).bind fun _ => Still.pure _) h
  obtain ⟨x3, a3, h3, h⟩ := bind_inv (fun _ => (still_res b).bind fun _ => Still.pure _) h
  obtain ⟨x4, a4, h4, h⟩ := bind_inv (fun _ => Still.pure _) h
  simp only [Prod.mk.injEq, and_true] at h
  obtain ⟨⟨rfl, rfl, rfl⟩, rfl⟩ := h
  unfold rdRes at h4
  obtain ⟨y0, b0, g0, h⟩ := bind_inv (fun _ => (still_C b).bind fun _ => (still_C b).bind fun _ => (still_W b).bind fun _ => (still_leaves b).bind fun _ => (still_nodes b).bind fun _ => Still.pure _) h4
  obtain ⟨y1, b1, g1, h⟩ := bind_inv (fun _ => (still_C b).bind fun _ => (still_W b).bind fun _ => (still_leaves b).bind fun _ => (still_nodes b).bind fun _ => Still.pure _) h
  obtain ⟨y2, b2, g2, h⟩ := bind_inv (fun _ => (still_W b).bind fun _ => (still_leaves b).bind fun _ => (still_nodes b).bind fun _ => Still.pure _) h
  obtain ⟨y3, b3, g3, h⟩ := bind_inv (fun _ => (still_leaves b).bind fun _ => (still_nodes b).bind fun _ => Still.pure _) h
  obtain ⟨y4, b4, g4, h⟩ := bind_inv (fun _ => (still_nodes b).bind fun _ => Still.pure _) h
  obtain ⟨y5, b5, g5, h⟩ := bind_inv (fun _ => Still.pure _) h
  simp only [Prod.mk.injEq, and_true] at h
  obtain ⟨rfl, rfl⟩ := h
  unfold rdLeaves at g4
  obtain ⟨n4, c4, k4, g4⟩ := bind_inv (fun n => still_list _ n []) g4
  unfold rdNodes at g5
  obtain ⟨n5, c5, k5, g5⟩ := bind_inv (fun n => still_list _ n []) g5
  obtain ⟨_, p0, s0, rfl⟩ := cn_B 83 83 b _ _ _ _ h0
  obtain ⟨_, p1, s1, rfl⟩ := cn_B 1 1 b _ _ _ _ h1
  obtain ⟨_, p2, s2, rfl⟩ := cn_W b _ _ _ _ h2
  obtain ⟨_, p3, s3, rfl⟩ := cn_W b _ _ _ _ h3
  obtain ⟨_, q0, t0, rfl⟩ := cn_C b _ _ _ _ g0
  obtain ⟨_, q1, t1, rfl⟩ := cn_C b _ _ _ _ g1
  obtain ⟨_, q2, t2, rfl⟩ := cn_C b _ _ _ _ g2
  obtain ⟨_, q3, t3, rfl⟩ := cn_W b _ _ _ _ g3
  obtain ⟨_, q4, t4, rfl⟩ := cn_C b _ _ _ _ k4
  obtain ⟨_, ls, u1, u2, u3, u4, rfl⟩ := cn_list (cn_leaf b) n4 [] _ true y4 b4 t4.1 g4
  obtain ⟨_, q5, t5, rfl⟩ := cn_C b _ _ _ _ k5
  obtain ⟨_, ns, v1, v2, v3, v4, rfl⟩ := cn_list (cn_node b) n5 [] _ true y5 b5 t5.1 g5
  rw [List.nil_append] at u1 v1
  subst u1 v1 u2 v2
  obtain rfl : x0 = 83 := by omega
  obtain rfl : x1 = 1 := by omega
  refine ⟨⟨p2, p3, q0, q1, q2, q3, q4, q5, u3, v3⟩, ?_, ?_⟩
  · unfold bodyW
    exact s0.join (s1.join (s2.join (s3.join (t0.join (t1.join (t2.join (t3.join (t4.join (u4.join (t5.join v4))))))))))
  · unfold bodyW
    simp only [List.length_append, List.length_cons, List.length_nil]
    omega
/-- and an encoding's body is read well -/
theorem rdHd_back {b : ByteArray} {dw tw : Nat} {r : Rs} (K : Kr dw tw r) (h : Stands b 0 (bodyW dw tw r)) : rdHd b 0 true = ((dw, tw, r), (bodyW dw tw r).length, true) := by
  unfold bodyW at h ⊢
  have e0 := rdB_of (l := 83) (m := 83) (x := 83) (Nat.le_refl _) (Nat.le_refl _) h.left
  have h := h.right
  rw [List.length_singleton] at h
  have e1 := rdB_of (l := 1) (m := 1) (x := 1) (Nat.le_refl _) (Nat.le_refl _) h.left
  have h := h.right
  rw [List.length_singleton] at h
  have e2 := rdW_of K.dw h.left
  have h := h.right
  rw [show (wordL dw).length = 8 from wrd_len 8 _] at h
  have e3 := rdW_of K.tw h.left
  have h := h.right
  rw [show (wordL tw).length = 8 from wrd_len 8 _] at h
  have e4 := dcnt_of K.c h.left
  have h := h.right
  have e5 := dcnt_of K.a h.left
  have h := h.right
  have e6 := dcnt_of K.rt h.left
  have h := h.right
  have e7 := rdW_of K.wt h.left
  have h := h.right
  rw [show (wordL r.wt).length = 8 from wrd_len 8 _] at h
  have e8 := dcnt_of K.ll h.left
  have h := h.right
  have e9 := rdList_of leafL r.ls [] _ (fun x hx a ha => by
    obtain ⟨k1, k2, k3⟩ := K.l x hx
    exact rdLeaf_of x k2 k1.1 k1.2.1 k1.2.2.1 k1.2.2.2 k3 ha) h.left
  have h := h.right
  have e10 := dcnt_of K.nl h.left
  have h := h.right
  have e11 := rdList_of nodeL r.ns [] _ (fun x hx a ha => by
    obtain ⟨k1, k2, k3, k4⟩ := K.n x hx
    exact rdNode_of x k2 k1.1 k1.2.1 k1.2.2.1 k1.2.2.2.1 k1.2.2.2.2 k3 k4 ha) h
  have w1 : (wordL dw).length = 8 := wrd_len 8 _
  have w2 : (wordL tw).length = 8 := wrd_len 8 _
  have w3 : (wordL r.wt).length = 8 := wrd_len 8 _
  unfold rdHd rdRes rdLeaves rdNodes bindS
  rw [e0]
  dsimp only
  rw [e1]
  dsimp only
  rw [e2]
  dsimp only
  rw [e3]
  dsimp only
  rw [e4]
  dsimp only
  rw [e5]
  dsimp only
  rw [e6]
  dsimp only
  rw [e7]
  dsimp only
  rw [e8]
  dsimp only
  rw [e9]
  dsimp only
  rw [e10]
  dsimp only
  rw [e11]
  dsimp only
  simp only [List.length_append, List.length_singleton, List.nil_append, w1, w2, w3]
  congr 2
  omega
def encW (dw tw : Nat) (r : Rs) : List Int := bodyW dw tw r ++ wordL (sumS (strOfNums (bodyW dw tw r)))
/-- whole bytes -/
def Is (b : ByteArray) (dw tw : Nat) (r : Rs) : Prop := Kr dw tw r ∧ bytesOf b = encW dw tw r
def Whole (b : ByteArray) : Prop := ∃ dw tw r, Is b dw tw r
theorem stands_bytes {b : ByteArray} : Stands b 0 (bytesOf b) := by
  have h := stands_str (bytes_ok b)
  rwa [str_bytes] at h
theorem Is.size {b : ByteArray} {dw tw : Nat} {r : Rs} (h : Is b dw tw r) : b.size = (bodyW dw tw r).length + 8 := by
  rw [← bytesOf_length, h.2, encW, List.length_append, show (wordL (sumS (strOfNums (bodyW dw tw r)))).length = 8 from wrd_len 8 _]
theorem Is.body {b : ByteArray} {dw tw : Nat} {r : Rs} (h : Is b dw tw r) : Stands b 0 (bodyW dw tw r) := by
  have h1 := stands_bytes (b := b)
  rw [h.2] at h1
  exact h1.left
theorem Is.hd {b : ByteArray} {dw tw : Nat} {r : Rs} (h : Is b dw tw r) : hd b = ⟨dw, tw, r, (bodyW dw tw r).length, sumS (strOfNums (bodyW dw tw r)), b.size, true⟩ := by
  have h1 := stands_bytes (b := b)
  rw [h.2] at h1
  have h2 := rdHd_back h.1 h1.left
  have h3 := rdW_of (sumS_lt _) h1.right
  rw [Nat.zero_add] at h3
  unfold ST.hd
  rw [h2]
  dsimp only
  rw [h3, h.size]
theorem ext_take {b : ByteArray} {l : List Int} (h : Stands b 0 l) : bytesOf (b.extract 0 l.length) = l := by
  have hl := h.1
  have e : b.extract 0 l.length = b.extract 0 (0 + l.length) := by rw [Nat.zero_add]
  have hs : (b.extract 0 l.length).size = l.length := by rw [e]; exact ext_size (by omega)
  apply List.ext_getElem?
  intro j
  by_cases hj : j < l.length
  · have l1 : j < (bytesOf (b.extract 0 l.length)).length := by rw [bytesOf_length, hs]; exact hj
    have g1 := bytes_get (b.extract 0 l.length) j
    have g2 := h.2 j hj
    rw [e, nb_ext (by omega) hj, ← e, g2] at g1
    rw [List.getD_eq_getElem?_getD, List.getD_eq_getElem?_getD, List.getElem?_eq_getElem l1, List.getElem?_eq_getElem hj] at g1
    rw [List.getElem?_eq_getElem l1, List.getElem?_eq_getElem hj]
    simpa using g1
  · rw [List.getElem?_eq_none (by rw [bytesOf_length, hs]; omega), List.getElem?_eq_none (by omega)]
theorem Is.sum {b : ByteArray} {dw tw : Nat} {r : Rs} (h : Is b dw tw r) : sumS (b.extract 0 (bodyW dw tw r).length) = sumS (strOfNums (bodyW dw tw r)) := by
  rw [← str_bytes (b.extract 0 (bodyW dw tw r).length), ext_take h.body]
theorem Is.verdict {b : ByteArray} {dw tw : Nat} {r : Rs} (h : Is b dw tw r) (d t : ByteArray) : verdict b d t = if dw ≠ sumS d then (331, 0) else if tw ≠ sumS t then (331, 1) else (0, 0) := by
  have e := h.hd
  have e1 : (ST.hd b).o = true := by rw [e]
  have e2 : (ST.hd b).sv = sumS (b.extract 0 (ST.hd b).e) := by rw [e]; exact h.sum.symm
  have e3 : (ST.hd b).a = b.size := by rw [e]
  have e4 : (ST.hd b).dw = dw := by rw [e]
  have e5 : (ST.hd b).tw = tw := by rw [e]
  unfold ST.verdict
  rw [if_neg (fun hh => hh.2 e2), if_neg (fun hh => by rcases hh with hh | hh; · rw [e1] at hh; cases hh
                                                       · omega), e4, e5]
/-- whatever is not refused by ErrCache is whole -/
theorem whole_of {b d t : ByteArray} (h : (verdict b d t).1 ≠ 330) : Whole b := by
  unfold ST.verdict at h
  split at h
  · exact absurd rfl h
  · rename_i h1
    split at h
    · exact absurd rfl h
    · rename_i h2
      clear h
      have ho : (hd b).o = true := by
        cases hh : (hd b).o with
        | true => rfl
        | false => exact absurd (.inl hh) h2
      have ha : ¬ (hd b).a < b.size := fun hh => h2 (.inr hh)
      have hsv : (hd b).sv = sumS (b.extract 0 (hd b).e) := by
        by_cases hh : (hd b).sv = sumS (b.extract 0 (hd b).e)
        · exact hh
        · exact absurd ⟨ho, hh⟩ h1
      clear h1 h2
      obtain ⟨⟨dw, tw, r⟩, e, o, hr⟩ : ∃ x e o, rdHd b 0 true = (x, e, o) := ⟨_, _, _, rfl⟩
      obtain ⟨sv, a, o2, hw⟩ : ∃ sv a o2, rdW b e o = (sv, a, o2) := ⟨_, _, _, rfl⟩
      have eh : hd b = ⟨dw, tw, r, e, sv, a, o2⟩ := by
        unfold ST.hd
        rw [hr]
        dsimp only
        rw [hw]
      rw [eh] at ho ha hsv
      dsimp only at ho ha hsv
      subst ho
      obtain ⟨rfl, k1, k2, k3⟩ := cn_W b e o sv a hw
      obtain ⟨K, s1, rfl⟩ := cn_hd hr
      have k4 : a = (bodyW dw tw r).length + 8 := by rw [k3, show (wordL sv).length = 8 from wrd_len 8 _]
      have hsz : b.size = (bodyW dw tw r).length + 8 := by
        have := k2.1
        rw [show (wordL sv).length = 8 from wrd_len 8 _] at this
        omega
      refine ⟨dw, tw, r, K, ?_⟩
      have s2 := Stands.join s1 (by rw [Nat.zero_add]; exact k2)
      have e3 := ext_take s2
      have e4 : b.extract 0 (bodyW dw tw r ++ wordL sv).length = b := by
        rw [List.length_append, show (wordL sv).length = 8 from wrd_len 8 _, ← hsz]
        exact ByteArray.extract_zero_size
      rw [e4] at e3
      rw [e3, encW, hsv, ← str_bytes (b.extract 0 (bodyW dw tw r).length), ext_take s1]
theorem verdict_no {b : ByteArray} (h : ¬ Whole b) (d t : ByteArray) : (verdict b d t).1 = 330 := by
  by_cases hh : (verdict b d t).1 = 330
  · exact hh
  · exact absurd (whole_of hh) h
/-- no two whole bytes, one the beginning of the other, but the same -/
theorem whole_prefix {b b' : ByteArray} (h : Whole b) (h' : Whole b') (hp : Stands b 0 (bytesOf b')) : b'.size = b.size := by
  obtain ⟨dw, tw, r, h⟩ := h
  obtain ⟨dw', tw', r', h'⟩ := h'
  have e1 := rdHd_back h.1 h.body
  rw [h'.2] at hp
  have e2 := rdHd_back h'.1 hp.left
  rw [e1] at e2
  simp only [Prod.mk.injEq, and_true] at e2
  rw [h.size, h'.size, e2.2]
theorem word_inj {n m : Nat} (hn : n < 18446744073709551616) (hm : m < 18446744073709551616) (h : wordL n = wordL m) : n = m := by
  have h2 : (256 : Nat) ^ 8 = 18446744073709551616 := by decide
  have ok : ∀ (k n : Nat), ∀ x ∈ wrd k n, 0 ≤ x ∧ x < 256 := by
    intro k
    induction k with
    | zero => intro n x hx; simp [wrd] at hx
    | succ k ih =>
      intro n x hx
      rw [wrd] at hx
      rcases List.mem_cons.1 hx with rfl | hx
      · omega
      · exact ih _ x hx
  have e1 := w8_of 8 n (stands_str (ok 8 n))
  have e2 := w8_of 8 m (stands_str (ok 8 m))
  have e3 : wrd 8 n = wrd 8 m := h
  rw [← e3] at e2
  rw [e1, h2, Nat.mod_eq_of_lt hn, Nat.mod_eq_of_lt hm] at e2
  exact e2
/-- one byte another -/
def Chg (b b' : ByteArray) : Prop := ∃ u x y v, bytesOf b = u ++ x :: v ∧ bytesOf b' = u ++ y :: v ∧ x ≠ y
theorem fold_lt : ∀ (l : List Int) (n : Nat), n < 18446744073709551616 → (∀ x ∈ l, 0 ≤ x ∧ x < 256) → ∃ m : Nat, m < 18446744073709551616 ∧ l.foldl mixI (n : Int) = (m : Int) := by
  intro l
  induction l with
  | nil => intro n hn _; exact ⟨n, hn, rfl⟩
  | cons x r ih =>
    intro n hn hl
    obtain ⟨h0, h1⟩ := hl x List.mem_cons_self
    obtain ⟨m, rfl⟩ := Int.eq_ofNat_of_zero_le h0
    have e := mix_nat hn (show m < 256 by omega)
    rw [List.foldl_cons, e]
    exact ih _ (Nat.mod_lt _ (by decide)) (fun y hy => hl y (List.mem_cons_of_mem _ hy))
theorem sum_list {u v : List Int} {x y : Int} (h : ∀ z ∈ u ++ x :: v, 0 ≤ z ∧ z < 256) (h' : ∀ z ∈ u ++ y :: v, 0 ≤ z ∧ z < 256) (he : sumL (u ++ x :: v) = sumL (u ++ y :: v)) : x = y := by
  unfold sumL at he
  rw [List.foldl_append, List.foldl_append, List.foldl_cons, List.foldl_cons] at he
  obtain ⟨m, hm, e⟩ := fold_lt u 14695981039346656037 (by decide) (fun z hz => h z (List.mem_append_left _ hz))
  rw [show ((14695981039346656037 : Nat) : Int) = 14695981039346656037 from rfl] at e
  rw [e] at he
  obtain ⟨hx0, hx1⟩ := h x (by simp)
  obtain ⟨hy0, hy1⟩ := h' y (by simp)
  obtain ⟨x, rfl⟩ := Int.eq_ofNat_of_zero_le hx0
  obtain ⟨y, rfl⟩ := Int.eq_ofNat_of_zero_le hy0
  have ex := mix_nat hm (show x < 256 by omega)
  have ey := mix_nat hm (show y < 256 by omega)
  rw [ex, ey] at he
  have h1 := fold_inj v _ _ (Nat.mod_lt _ (by decide)) (Nat.mod_lt _ (by decide)) (fun z hz => h z (by simp [hz])) he
  have h2 := mixI_byte hm (show x < 256 by omega) (show y < 256 by omega) (by rw [ex, ey, h1])
  rw [h2]
theorem Chg.sum {b b' : ByteArray} (h : Chg b b') : sumS b' ≠ sumS b := by
  obtain ⟨u, x, y, v, e1, e2, hne⟩ := h
  intro he
  have h1 := sumS_int b
  rw [← he, sumS_int b', e1, e2] at h1
  exact hne (sum_list (by rw [← e1]; exact bytes_ok b) (by rw [← e2]; exact bytes_ok b') h1.symm)
theorem Chg.whole {b b' : ByteArray} (h : Chg b b') (hb : Whole b) : ¬ Whole b' := by
  rintro ⟨dw', tw', r', h'⟩
  obtain ⟨dw, tw, r, hb⟩ := hb
  obtain ⟨u, x, y, v, e1, e2, hne⟩ := h
  have s1 := hb.size
  have s2 := h'.size
  rw [← bytesOf_length, e1, List.length_append, List.length_cons] at s1
  rw [← bytesOf_length, e2, List.length_append, List.length_cons] at s2
  have o1 := bytes_ok b
  have o2 := bytes_ok b'
  have f1 := hb.2
  have f2 := h'.2
  unfold encW at f1 f2
  have ok1 : ∀ z ∈ bodyW dw tw r, 0 ≤ z ∧ z < 256 := fun z hz => o1 z (by rw [f1]; exact List.mem_append_left _ hz)
  have ok2 : ∀ z ∈ bodyW dw' tw' r', 0 ≤ z ∧ z < 256 := fun z hz => o2 z (by rw [f2]; exact List.mem_append_left _ hz)
  rw [e1] at f1
  rw [e2] at f2
  have n1 := sumS_int (strOfNums (bodyW dw tw r))
  have n2 := sumS_int (strOfNums (bodyW dw' tw' r'))
  rw [byte_str _ ok1] at n1
  rw [byte_str _ ok2] at n2
  have m1 := sumS_lt (strOfNums (bodyW dw tw r))
  have m2 := sumS_lt (strOfNums (bodyW dw' tw' r'))
  generalize bodyW dw tw r = B at *
  generalize bodyW dw' tw' r' = B' at *
  have hl : B.length = B'.length := by omega
  by_cases hu : u.length < B.length
  · -- the changed byte lies in the body
    obtain ⟨p, rfl⟩ : ∃ p, B = u ++ x :: p := by
      have := congrArg (List.take B.length) f1
      rw [List.take_left, List.take_append, List.take_of_length_le (by omega)] at this
      obtain ⟨k, hk⟩ : ∃ k, B.length - u.length = k + 1 := ⟨B.length - u.length - 1, by omega⟩
      rw [hk, List.take_succ_cons] at this
      exact ⟨_, this.symm⟩
    obtain ⟨p', rfl⟩ : ∃ p, B' = u ++ y :: p := by
      have := congrArg (List.take B'.length) f2
      rw [List.take_left, List.take_append, List.take_of_length_le (by omega)] at this
      obtain ⟨k, hk⟩ : ∃ k, B'.length - u.length = k + 1 := ⟨B'.length - u.length - 1, by omega⟩
      rw [hk, List.take_succ_cons] at this
      exact ⟨_, this.symm⟩
    rw [List.append_assoc, List.append_cancel_left_eq, List.cons_append] at f1 f2
    injection f1 with _ f1
    injection f2 with _ f2
    have hp : p.length = p'.length := by simp only [List.length_append, List.length_cons] at hl; omega
    rw [f1] at f2
    obtain ⟨rfl, f3⟩ := List.append_inj f2 hp
    have he := word_inj m1 m2 f3
    rw [he, n2] at n1
    exact hne (sum_list ok1 ok2 n1.symm)
  · -- it lies in the sum
    obtain ⟨q, rfl⟩ : ∃ q, u = B ++ q := by
      have := congrArg (List.take B.length) f1
      rw [List.take_left, List.take_append_of_le_length (by omega)] at this
      exact ⟨u.drop B.length, by conv => lhs; rw [← List.take_append_drop B.length u, this]⟩
    rw [List.append_assoc, List.append_cancel_left_eq] at f1
    rw [List.append_assoc] at f2
    obtain ⟨rfl, f3⟩ := List.append_inj f2 hl
    rw [← f1] at f3
    have := (List.append_inj f3 rfl).2
    injection this with this _
    exact hne this.symm
end Go.Proofs.YtjgccbpdpnpfjaaDoor.ST
