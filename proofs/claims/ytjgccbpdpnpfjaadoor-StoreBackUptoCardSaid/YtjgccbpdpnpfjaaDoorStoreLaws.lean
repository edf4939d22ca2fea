/- store: what Encode writes is whole. -/
import Derived.Test.YtjgccbpdpnpfjaaDoorStoreShare
namespace Go.Proofs.YtjgccbpdpnpfjaaDoor.ST
open Go.RowKit Go.Proofs.YtjgccbpdpnpfjaaDoorW.PrintWords Go.Proofs.YtjgccbpdpnpfjaaDoorW.PrintLast Go.Proofs.YtjgccbpdpnpfjaaDoorW.PrintMore Go.Proofs.YtjgccbpdpnpfjaaDoor.PAll
set_option linter.unusedVariables false

def Bytes (l : List Int) : Prop := ∀ x ∈ l, 0 ≤ x ∧ x < 256
theorem Bytes.app {l m : List Int} (h : Bytes l) (h' : Bytes m) : Bytes (l ++ m) := fun x hx => by
  rcases List.mem_append.1 hx with hx | hx
  · exact h x hx
  · exact h' x hx
theorem bytes_cnt : ∀ (k n : Nat), n < 128 ^ (k + 1) → Bytes (cnt k n) := by
  intro k
  induction k with
  | zero => intro n h x hx; rw [cnt, List.mem_singleton] at hx; omega
  | succ k ih =>
    intro n h x hx
    have hp : 128 ^ (k + 1 + 1) = 128 ^ (k + 1) * 128 := Nat.pow_succ ..
    rw [cnt] at hx
    by_cases hn : n < 128
    · rw [if_pos hn, List.mem_singleton] at hx; omega
    · rw [if_neg hn] at hx
      rcases List.mem_cons.1 hx with rfl | hx
      · omega
      · exact ih (n / 128) (by omega) x hx
theorem bytes_cntL {n : Nat} (h : n < 9223372036854775808) : Bytes (cntL n) := bytes_cnt 10 n (by
  have h9 : (128 : Nat) ^ 9 = 9223372036854775808 := by decide
  have h11 : (128 : Nat) ^ 9 ≤ 128 ^ (10 + 1) := Nat.pow_le_pow_right (by omega) (by omega)
  omega)
theorem bytes_wrd : ∀ (k n : Nat), Bytes (wrd k n) := by
  intro k
  induction k with
  | zero => intro n x hx; simp [wrd] at hx
  | succ k ih =>
    intro n x hx
    rw [wrd] at hx
    rcases List.mem_cons.1 hx with rfl | hx
    · omega
    · exact ih _ x hx
theorem bytes_text {s : ByteArray} (h : s.size < 9223372036854775808) : Bytes (textL s) := (bytes_cntL h).app (bytes_ok s)
theorem bytes_leaf {x : S39} (h : kL x) : Bytes (leafL x) := by
  obtain ⟨⟨h0, h1, h2, h3⟩, ⟨g0, g1, g2, g3, g4, g5⟩, h5⟩ := h
  rw [leafL_eq]
  exact (bytes_cntL (by omega)).app ((bytes_cntL (by omega)).app ((bytes_cntL (by omega)).app ((bytes_cntL (by omega)).app ((bytes_wrd 8 _).app (bytes_text h5)))))
theorem bytes_node {x : S41} (h : kN x) : Bytes (nodeL x) := by
  obtain ⟨⟨h3, h4, h5, h6, h7⟩, ⟨g3, g4, g5, g6⟩, h0, h2⟩ := h
  rw [nodeL_eq]
  refine (bytes_text h0).app (Bytes.app ?_ ((bytes_text h2).app ((bytes_cntL (by omega)).app ((bytes_cntL (by omega)).app ((bytes_cntL (by omega)).app (bytes_cntL (by omega)))))))
  intro z hz
  rw [List.mem_singleton] at hz
  subst hz
  unfold flag
  split <;> omega
theorem bytes_flat {α : Type} {f : α → List Int} {l : List α} (h : ∀ x ∈ l, Bytes (f x)) : Bytes (l.flatMap f) := fun z hz => by
  obtain ⟨x, hx, hz⟩ := List.mem_flatMap.1 hz
  exact h x hx z hz
theorem bytes_lit {z : Int} (h : 0 ≤ z ∧ z < 256) : Bytes [z] := fun x hx => by rw [List.mem_singleton] at hx; subst hx; exact h
theorem bytes_body {dw tw : Nat} {r : Rs} (K : Kr dw tw r) : Bytes (bodyW dw tw r) := by
  unfold bodyW
  exact (bytes_lit (by omega)).app ((bytes_lit (by omega)).app ((bytes_wrd 8 _).app ((bytes_wrd 8 _).app ((bytes_cntL K.c).app ((bytes_cntL K.a).app ((bytes_cntL K.rt).app ((bytes_wrd 8 _).app ((bytes_cntL K.ll).app ((bytes_flat fun x hx => bytes_leaf (K.l x hx)).app ((bytes_cntL K.nl).app (bytes_flat fun x hx => bytes_node (K.n x hx))))))))))))
theorem body_eq (d t : ByteArray) (r : Rs) : bodyL d t r.c r.at_ r.wt r.rt r.ls r.ns = bodyW (sumS d) (sumS t) r := by
  rw [bodyL_eq]
  rfl
theorem enc_eq (d t : ByteArray) (r : Rs) : encL d t r.c r.at_ r.wt r.rt r.ls r.ns = encW (sumS d) (sumS t) r := by
  unfold encL encW
  rw [body_eq]
/-- what Encode writes of a result, by its reading -/
def encR (d t : ByteArray) (r : Rs) : ByteArray := encS d t r.c r.at_ r.wt r.rt r.ls r.ns
theorem is_enc {d t : ByteArray} {r : Rs} (K : Kr (sumS d) (sumS t) r) (hk : keptB r.c r.at_ r.rt r.ls r.ns = true) : Is (encR d t r) (sumS d) (sumS t) r := by
  refine ⟨K, ?_⟩
  unfold encR encS
  rw [if_pos hk, enc_eq, byte_str]
  exact (bytes_body K).app (bytes_wrd 8 _)
/-- whole bytes are those that Encode writes of their reading -/
theorem enc_is {b d t : ByteArray} {r : Rs} (h : Is b (sumS d) (sumS t) r) (hk : keptB r.c r.at_ r.rt r.ls r.ns = true) : encR d t r = b := by
  unfold encR encS
  rw [if_pos hk, enc_eq, ← h.2, str_bytes]
theorem kept_of {dw tw : Nat} {r : Rs} (K : Kr dw tw r) : keptB r.c r.at_ r.rt r.ls r.ns = true := by
  unfold keptB
  simp only [Bool.and_eq_true, decide_eq_true_eq, List.all_eq_true]
  refine ⟨⟨⟨by omega, by omega, by omega⟩, fun x hx => ?_⟩, fun x hx => ?_⟩
  · obtain ⟨⟨h0, h1, h2, h3⟩, _⟩ := K.l x hx
    unfold lf
    simp only [Bool.and_eq_true, decide_eq_true_eq]
    exact ⟨h0, h1, h2, h3⟩
  · obtain ⟨⟨h3, h4, h5, h6, h7⟩, _⟩ := K.n x hx
    unfold nd
    simp only [Bool.and_eq_true, decide_eq_true_eq]
    exact ⟨h3, h4, h5, h6, h7⟩
theorem Is.out {b d t : ByteArray} {r : Rs} (h : Is b (sumS d) (sumS t) r) : ST.verdict b d t = (0, 0) ∧ outOf b d t = r := by
  have h1 := h.verdict d t
  rw [if_neg (by simp), if_neg (by simp)] at h1
  refine ⟨h1, ?_⟩
  rw [out_yes (by rw [h1]), h.hd]
theorem cntL_pos (n : Nat) : 1 ≤ (cntL n).length := by
  unfold cntL
  rw [cnt]
  split
  · exact Nat.le_refl _
  · rw [List.length_cons]
    omega
theorem leaf_wt (x : S39) : wtLf x ≤ (leafL x).length := by
  rw [leafL_eq]
  unfold wtLf textL
  have := cntL_pos x.f0.toNat
  simp only [List.length_append, bytesOf_length]
  omega
theorem node_wt (x : S41) : wtNd x ≤ (nodeL x).length := by
  rw [nodeL_eq]
  unfold wtNd textL
  simp only [List.length_append, bytesOf_length, List.length_singleton]
  omega
theorem flat_wt {α : Type} {f : α → List Int} {wt : α → Nat} (h : ∀ x, wt x ≤ (f x).length) : ∀ l : List α, (l.map wt).sum ≤ (l.flatMap f).length := by
  intro l
  induction l with
  | nil => simp
  | cons x r ih =>
    have := h x
    rw [List.map_cons, List.sum_cons, List.flatMap_cons, List.length_append]
    omega
theorem Is.wt {b : ByteArray} {dw tw : Nat} {r : Rs} (h : Is b dw tw r) : (r.ls.map wtLf).sum ≤ b.size ∧ (r.ns.map wtNd).sum ≤ b.size := by
  have h1 := h.size
  have h2 := flat_wt leaf_wt r.ls
  have h3 := flat_wt node_wt r.ns
  unfold bodyW at h1
  simp only [List.length_append] at h1
  omega
theorem Is.small {d t : ByteArray} {b : ByteArray} {r : Rs} (h : Is b (sumS d) (sumS t) r) (hl : (r.ls.map wtLf).sum ≤ 2097152) (hn : (r.ns.map wtNd).sum ≤ 2097152) : b.size ≤ 440000008 := by
  have h1 := preN_len d t r.c r.at_ r.wt r.rt r.ls r.ns r.ns.length hl hn
  rw [preN_all, body_eq] at h1
  rw [h.size]
  omega
/-- Encode of a result that stands -/
theorem Encode_holds (d t : ByteArray) (r : Rs) (w : World) {A3 A4 : Option Addr} {c3 c4 : Nat} (hH : Holds w A3 c3 A4 c4 r) (K : Kr (sumS d) (sumS t) r) (hd : d.size ≤ 1048576) (ht : t.size ≤ 1048576) (hl : (r.ls.map wtLf).sum ≤ 2097152) (hn : (r.ns.map wtNd).sum ≤ 2097152) :
    Calls Tryd.prog 13 #[.string d, .string t, rsV A3 c3 A4 c4 r] w fun e w' => e = .returned (.string (encR d t r)) ∧ Below w.heap.size w w' := by
  have h1 := K.c
  have h2 := K.a
  have h3 := K.rt
  have h4 := K.wt
  exact Encode_calls d t r.c r.at_ r.wt r.rt A3 A4 c3 c4 r.ls r.ns w hH.l hH.lc hH.n hH.nc (by omega) (by omega) (by omega) (by omega) (by omega) (by omega) (by omega) (fun x hx => (K.l x hx).2.1) (fun x hx => (K.n x hx).2.1) hl hn
theorem good_holds (r : Rs) (w : World) {A3 A4 : Option Addr} {c3 c4 : Nat} (hH : Holds w A3 c3 A4 c4 r) {dw tw : Nat} (K : Kr dw tw r) (hl : r.ls.length ≤ 1073741824) (hn : r.ns.length ≤ 1073741824) :
    Calls Tryd.prog 14 #[rsV A3 c3 A4 c4 r] w fun e w' => e = .returned (.bool true) ∧ Below w.heap.size w w' := by
  have h := good_f r.c r.at_ r.wt r.rt r.ls r.ns (fun x hx => by have := (K.n x hx).1.2.2.2.2; omega) hl hn
  rw [kept_of K] at h
  exact trellislaw33_good.calls _ _ _ _ A3 c3 r.ls A4 c4 r.ns _ true w hH.l hH.lc hH.n hH.nc h
theorem verdict_cases (b d t : ByteArray) : verdict b d t = (0, 0) ∨ verdict b d t = (331, 0) ∨ verdict b d t = (331, 1) ∨ ∃ p, p ≤ b.size ∧ verdict b d t = (330, p) := by
  have g := good_hd b 0 true (Nat.zero_le _)
  have he : (hd b).e ≤ b.size := g.2.1
  have ha : (hd b).a ≤ b.size := (good_W b _ (rdHd b 0 true).2.2 g.2.1).2.1
  unfold verdict
  split
  · exact .inr (.inr (.inr ⟨_, he, rfl⟩))
  · split
    · exact .inr (.inr (.inr ⟨_, ha, rfl⟩))
    · split
      · exact .inr (.inl rfl)
      · split
        · exact .inr (.inr (.inl rfl))
        · exact .inl rfl
theorem is_of {b d t : ByteArray} (h : verdict b d t = (0, 0)) : ∃ r, Is b (sumS d) (sumS t) r := by
  obtain ⟨dw, tw, r, hI⟩ := whole_of (b := b) (d := d) (t := t) (by rw [h]; decide)
  have h1 := hI.verdict d t
  rw [h] at h1
  by_cases e1 : dw = sumS d
  · subst e1
    rw [if_neg (by simp)] at h1
    by_cases e2 : tw = sumS t
    · subst e2
      exact ⟨r, hI⟩
    · rw [if_pos e2] at h1
      cases h1
  · rw [if_pos e1] at h1
    cases h1
end Go.Proofs.YtjgccbpdpnpfjaaDoor.ST
