/- Two marked nodes behind a list. trellisref15.Beyond answers of every list of nodes. trellislaw22: sameNodes of a list with itself; what stands behind a copy with room. A row of nodes of a call's own, whose names are written over. What a law of layer 22 keeps by it: the lines' box, a row of nodes of its own. -/
import Derived.Test.YtknagjiipelfnaaSym
namespace Go.Proofs.Ytknagjiipelfnaa.OL
open Go.RowKit Go.WideShapes Go.ChangeShapes Go.Proofs.YtknagjiipelfnaaW.PrintWords Go.Proofs.YtknagjiipelfnaaW.PrintLast Go.Proofs.YtknagjiipelfnaaW.PrintMore Go.Proofs.Ytknagjiipelfnaa.PAll
set_option linter.unusedVariables false
def mark77 : S50 := ⟨⟨#[]⟩, false, ⟨#[]⟩, 0, 0, -77, 0⟩
theorem roomy_f {t : List S50} (hl : t.length ≤ 1048576) : trellislaw22_roomy.f t = some (t ++ [mark77, mark77]) := by
  rw [trellislaw22_roomy.f, if_pos (by simp; omega)]
  simp only [Option.bind_some, List.nil_append]
  rw [if_pos (by simp; omega)]
  rfl
end Go.Proofs.Ytknagjiipelfnaa.OL
namespace Go.Proofs.Ytknagjiipelfnaa.OL
open Go.RowKit Go.WideShapes Go.ChangeShapes Go.Proofs.YtknagjiipelfnaaW.PrintWords Go.Proofs.YtknagjiipelfnaaW.PrintLast Go.Proofs.YtknagjiipelfnaaW.PrintMore Go.Proofs.Ytknagjiipelfnaa.PAll
set_option linter.unusedVariables false

theorem beyond_j2 {t : List S50} (hl : t.length ≤ 1048576) {i : Nat} (hi : i < t.length) (next : ∀ st : List Int, st.length ≤ i + 1 → ∃ k r, trellisref15_Beyond.l0 k t st ((i + 1 : Nat) : Int) = some r) (st : List Int) (hs : st.length ≤ i) : ∃ k r, trellisref15_Beyond.j2 k t st (i : Int) = some r := by
  have e : wrap64 ((i : Int) + 1) = ((i + 1 : Nat) : Int) := (w64 (by omega) (by omega)).trans (by omega)
  by_cases h : (st.length : Int) > 0
  · have e2 : wrap64 ((st.length : Int) - 1) = (st.length : Int) - 1 := w64 (by omega) (by omega)
    obtain ⟨k, r, hk⟩ := next (st.set ((st.length : Int) - 1).toNat (wrap64 (rd st ((st.length : Int) - 1) - 1)) ++ [(rd_T50 t (i : Int)).f5]) (by simp; omega)
    by_cases hb : (((st.set ((st.length : Int) - 1).toNat (wrap64 (rd st ((st.length : Int) - 1) - 1)) ++ [(rd_T50 t (i : Int)).f5]).length : Int) > 65536)
    · refine ⟨1, true, ?_⟩
      rw [trellisref15_Beyond.j2, if_pos h, e2, if_pos (by omega), if_pos (by omega), Option.bind_some, if_pos (by omega), if_pos (by omega), if_pos (by simp; omega), Option.bind_some, if_pos hb]
    · refine ⟨k + 1, r, ?_⟩
      rw [trellisref15_Beyond.j2, if_pos h, e2, if_pos (by omega), if_pos (by omega), Option.bind_some, if_pos (by omega), if_pos (by omega), if_pos (by simp; omega), Option.bind_some, if_neg hb, e]
      exact hk
  · obtain ⟨k, r, hk⟩ := next (st ++ [(rd_T50 t (i : Int)).f5]) (by simp; omega)
    by_cases hb : (((st ++ [(rd_T50 t (i : Int)).f5]).length : Int) > 65536)
    · refine ⟨1, true, ?_⟩
      rw [trellisref15_Beyond.j2, if_neg h, if_pos (by omega), if_pos (by omega), if_pos (by omega), Option.bind_some, if_pos hb]
    · refine ⟨k + 1, r, ?_⟩
      rw [trellisref15_Beyond.j2, if_neg h, if_pos (by omega), if_pos (by omega), if_pos (by omega), Option.bind_some, if_neg hb, e]
      exact hk
theorem beyond_l1 {t : List S50} (hl : t.length ≤ 1048576) {i : Nat} (hi : i < t.length) (next : ∀ st : List Int, st.length ≤ i + 1 → ∃ k r, trellisref15_Beyond.l0 k t st ((i + 1 : Nat) : Int) = some r) : ∀ m (st : List Int), st.length = m → m ≤ i → ∃ k r, trellisref15_Beyond.l1 k t st (i : Int) = some r := by
  intro m
  induction m with
  | zero =>
    intro st hm hmi
    obtain ⟨k, r, hk⟩ := beyond_j2 hl hi next st (by omega)
    exact ⟨k + 1, r, by rw [trellisref15_Beyond.l1, if_neg (by omega)]; exact hk⟩
  | succ m ih =>
    intro st hm hmi
    have e2 : wrap64 ((st.length : Int) - 1) = (st.length : Int) - 1 := w64 (by omega) (by omega)
    by_cases h : rd st ((st.length : Int) - 1) ≤ 0
    · obtain ⟨k, r, hk⟩ := ih (st.take ((st.length : Int) - 1).toNat) (by simp; omega) (by omega)
      exact ⟨k + 1, r, by rw [trellisref15_Beyond.l1, if_pos (by omega), e2, if_pos (by omega), if_pos (by omega), if_pos h, if_pos (by omega)]; exact hk⟩
    · obtain ⟨k, r, hk⟩ := beyond_j2 hl hi next st (by omega)
      exact ⟨k + 1, r, by rw [trellisref15_Beyond.l1, if_pos (by omega), e2, if_pos (by omega), if_pos (by omega), if_neg h]; exact hk⟩
theorem beyond_l0 {t : List S50} (hl : t.length ≤ 1048576) : ∀ d i (st : List Int), t.length - i = d → i ≤ t.length → st.length ≤ i → ∃ k r, trellisref15_Beyond.l0 k t st (i : Int) = some r := by
  intro d
  induction d with
  | zero =>
    intro i st hd hi hs
    exact ⟨1, false, by rw [trellisref15_Beyond.l0, if_neg (by omega)]⟩
  | succ d ih =>
    intro i st hd hi hs
    obtain ⟨k, r, hk⟩ := beyond_l1 hl (i := i) (by omega) (fun st2 h2 => ih (i + 1) st2 (by omega) (by omega) h2) _ st rfl hs
    exact ⟨k + 1, r, by rw [trellisref15_Beyond.l0, if_pos (by omega)]; exact hk⟩
theorem Beyond_calls (A : Option Addr) (c : Nat) (t : List S50) (w : World) (hr : Kd.C k50 w A t.length t) (hc : t.length ≤ c) (hl : t.length ≤ 1048576) : ∃ r, Calls Try.prog 9 #[.slice A t.length c] w fun e w' => e = .returned (.bool r) ∧ Below w.heap.size w w' := by
  obtain ⟨k, r, hk⟩ := beyond_l0 hl t.length 0 [] rfl (Nat.zero_le _) (Nat.le_refl _)
  exact ⟨r, trellisref15_Beyond.calls k A c t r w hr hc hk⟩
end Go.Proofs.Ytknagjiipelfnaa.OL
namespace Go.Proofs.Ytknagjiipelfnaa.OL
open Go.RowKit Go.WideShapes Go.ChangeShapes Go.Proofs.YtknagjiipelfnaaW.PrintWords Go.Proofs.YtknagjiipelfnaaW.PrintLast Go.Proofs.YtknagjiipelfnaaW.PrintMore Go.Proofs.Ytknagjiipelfnaa.PAll
set_option linter.unusedVariables false

theorem nodes_go {xs : List S50} (hl : xs.length ≤ 1048576) : ∀ d i, xs.length - i = d → i ≤ xs.length → ∃ k, trellislaw22_sameNodes.l0 k xs xs (i : Int) = some true := by
  intro d
  induction d with
  | zero =>
    intro i hd hi
    exact ⟨1, by rw [trellislaw22_sameNodes.l0, if_neg (by omega)]⟩
  | succ d ih =>
    intro i hd hi
    obtain ⟨k, hk⟩ := ih (i + 1) (by omega) (by omega)
    refine ⟨k + 1, ?_⟩
    have e : wrap64 ((i : Int) + 1) = ((i + 1 : Nat) : Int) := (w64 (by omega) (by omega)).trans (by omega)
    rw [trellislaw22_sameNodes.l0, if_pos (by omega), if_pos (by omega), if_pos (by omega), e, hk]
    simp
theorem nodes_same (A B : Option Addr) (c d : Nat) (xs : List S50) (w : World) (ha : Kd.C k50 w A xs.length xs) (hc : xs.length ≤ c) (hb : Kd.C k50 w B xs.length xs) (hd : xs.length ≤ d) (hl : xs.length ≤ 1048576) :
    Calls Try.prog 39 #[.slice A xs.length c, .slice B xs.length d] w fun e w' => e = .returned (.bool true) ∧ Below w.heap.size w w' := by
  obtain ⟨k, hk⟩ := nodes_go hl xs.length 0 rfl (Nat.zero_le _)
  exact (trellislaw22_sameNodes.calls k A c xs B d xs true w ha hc hb hd (by rw [trellislaw22_sameNodes.f, if_pos rfl]; exact hk)).mono fun e w' ⟨h1, h2⟩ => ⟨h1, h2.below⟩
theorem mark_at (t : List S50) : rd_T50 (t ++ [mark77, mark77]) (t.length : Int) = mark77 ∧ rd_T50 (t ++ [mark77, mark77]) ((t.length + 1 : Nat) : Int) = mark77 := by
  unfold rd_T50
  rw [Int.toNat_natCast, Int.toNat_natCast, List.getD_eq_getElem?_getD, List.getD_eq_getElem?_getD, List.getElem?_append_right (Nat.le_refl _), List.getElem?_append_right (by omega), Nat.sub_self, Nat.add_sub_cancel_left]
  exact ⟨rfl, rfl⟩
theorem node_prefix {w : World} {A : Option Addr} {n : Nat} {xs ys : List S50} (h : Kd.C k50 w A n (xs ++ ys)) : Kd.C k50 w A xs.length xs := by
  have hn : (xs ++ ys).length = n := Kd.C_len h
  subst hn
  have h2 := Kd.C_take (m := xs.length) h (by simp)
  rwa [List.take_append_of_le_length (Nat.le_refl _), List.take_of_length_le (Nat.le_refl _)] at h2
attribute [local go_sem high] eqA50
set_option maxRecDepth 100000 in
set_option maxHeartbeats 4000000 in
theorem spared_calls (A B : Option Addr) (ca cb m : Nat) (t : List S50) (w : World) (hm : m = t.length + 2) (ha : Kd.C k50 w A (t ++ [mark77, mark77]).length (t ++ [mark77, mark77])) (hca : m ≤ ca) (hb : Kd.C k50 w B t.length t) (hcb : t.length ≤ cb) (hl : t.length ≤ 1048576) :
    Calls Try.prog 15 #[.slice A m ca, .slice B t.length cb] w fun e w' => e = .returned (.bool true) ∧ Below w.heap.size w w' := by
  have hlen : (t ++ [mark77, mark77]).length = m := by rw [hm]; simp
  rw [hlen] at ha
  obtain ⟨i0, hi0, -, hsz, -⟩ := info_parts info50
  have hcut := cut_to (P := Try.prog) 26 50 .i64 Try.underlying26 hi0 A m ca (t.length : Int) (by omega) (by omega) hca
  rw [Int.toNat_natCast] at hcut
  have HA := Aside0.mk ha
  have HBw := Aside0.mk hb
  have HP := Aside0.mk (And.intro hcb (And.intro hl (And.intro hm hca)))
  have e1 : (t.length : Int) < (m : Int) := by omega
  have e2 : IntKind.i64.wrap ((t.length : Int) + 1) = ((t.length + 1 : Nat) : Int) := (i64_w _).trans ((w64 (by omega) (by omega)).trans (by omega))
  have e3 : ((t.length + 1 : Nat) : Int) < (m : Int) := by omega
  have e4 : (0 : Int) ≤ ((t.length + 1 : Nat) : Int) := by omega
  have e5 : (t.length : Int) ≤ (m : Int) := by omega
  clear hi0 hsz ha hb hcb hl hca hlen hm
  go_enter Try.func15, Try.ntmps15
  go_wp2_with fail
  refine (nodes_same A B ca cb t w (node_prefix HA.out) (by have := HP.out; omega) HBw.out HP.out.1 HP.out.2.1).mono ?_
  rintro e w1 ⟨rfl, hB⟩
  obtain ⟨ad, hA, y0, y1, y2, y3, y4, y5, y6⟩ := at_T50 (Kd.C_below HA.out hB) (t.length : Int) (by omega) e1
  obtain ⟨ad2, hA2, x0, x1, x2, x3, x4, x5, x6⟩ := at_T50 (Kd.C_below HA.out hB) ((t.length + 1 : Nat) : Int) (by omega) e3
  rw [hA] at hA2
  injection hA2 with hA2
  subst hA2
  rw [(mark_at t).1, Int.toNat_natCast] at y0 y1 y2 y3 y4 y5 y6
  rw [(mark_at t).2, Int.toNat_natCast] at x0 x1 x2 x3 x4 x5 x6
  have HB1 := Aside0.mk hB
  subst hA
  obtain ⟨n1, hn1⟩ : ∃ n1, t.length + 1 = n1 := ⟨_, rfl⟩
  rw [hn1] at x0 x1 x2 x3 x4 x5 x6 e2 e3 e4
  clear hB hn1 hcut
  change _ = some (Value.string ⟨#[]⟩) at y0
  change _ = some (Value.bool false) at y1
  change _ = some (Value.string ⟨#[]⟩) at y2
  change _ = some (Value.int .i64 0) at y3
  change _ = some (Value.int .i64 0) at y4
  change _ = some (Value.int .i64 (-77)) at y5
  change _ = some (Value.int .i64 0) at y6
  change _ = some (Value.string ⟨#[]⟩) at x0
  change _ = some (Value.bool false) at x1
  change _ = some (Value.string ⟨#[]⟩) at x2
  change _ = some (Value.int .i64 0) at x3
  change _ = some (Value.int .i64 0) at x4
  change _ = some (Value.int .i64 (-77)) at x5
  change _ = some (Value.int .i64 0) at x6
  go_wp2_with fail
  go_ret
  exact ⟨rfl, HB1.out⟩
end Go.Proofs.Ytknagjiipelfnaa.OL
namespace Go.Proofs.Ytknagjiipelfnaa.OL
open Go.RowKit Go.WideShapes Go.ChangeShapes Go.Proofs.YtknagjiipelfnaaW.PrintWords Go.Proofs.YtknagjiipelfnaaW.PrintLast Go.Proofs.YtknagjiipelfnaaW.PrintMore Go.Proofs.Ytknagjiipelfnaa.PAll
set_option linter.unusedVariables false

abbrev RN (w : World) (b : Nat) (v : Value) (xs : List S50) : Prop := k50.R 50 w b (fun _ => True) v xs
theorem RN.cells {w : World} {b n c g : Nat} {xs : List S50} (h : RN w b (.slice (some ⟨g, 0, none⟩) n c) xs) (i : Nat) (hi : i < n) :
    w.cell? ⟨g, i * 7, none⟩ = some (.string (rd_T50 xs (i : Int)).f0) ∧ w.cell? ⟨g, i * 7 + 1, none⟩ = some (.bool (rd_T50 xs (i : Int)).f1) ∧ w.cell? ⟨g, i * 7 + 2, none⟩ = some (.string (rd_T50 xs (i : Int)).f2) ∧ w.cell? ⟨g, i * 7 + 3, none⟩ = some (.int .i64 (rd_T50 xs (i : Int)).f3) ∧ w.cell? ⟨g, i * 7 + 4, none⟩ = some (.int .i64 (rd_T50 xs (i : Int)).f4) ∧ w.cell? ⟨g, i * 7 + 5, none⟩ = some (.int .i64 (rd_T50 xs (i : Int)).f5) ∧ w.cell? ⟨g, i * 7 + 6, none⟩ = some (.int .i64 (rd_T50 xs (i : Int)).f6) := by
  have hr := (Kd.R_reads' h)
  obtain ⟨ad, he, h0, h1, h2, h3, h4, h5, h6⟩ := at_T50 hr.2.2 (i : Int) (by omega) (by omega)
  injection he with he
  subst he
  have e : (⟨g, 0, none⟩ : Addr).add (i * 7) = ⟨g, i * 7, none⟩ := by
    unfold Addr.add
    split <;> simp_all
  rw [Int.toNat_natCast, e] at h0 h1 h2 h3 h4 h5 h6
  exact ⟨h0, h1, h2, h3, h4, h5, h6⟩
theorem RN.seven {W : World} {b g n c : Nat} {xs : List S50} (HR : RN W b (.slice (some ⟨g, 0, none⟩) n c) xs) (i : Nat) (hi : i < n) : ∀ j u, ([.string (rd_T50 xs (i : Int)).f0, .bool (rd_T50 xs (i : Int)).f1, .string (rd_T50 xs (i : Int)).f2, .int .i64 (rd_T50 xs (i : Int)).f3, .int .i64 (rd_T50 xs (i : Int)).f4, .int .i64 (rd_T50 xs (i : Int)).f5, .int .i64 (rd_T50 xs (i : Int)).f6] : List Value)[j]? = some u → W.cell? ⟨g, (i : Int).toNat * k50.sz + j, none⟩ = some u := by
  obtain ⟨z0, z1, z2, z3, z4, z5, z6⟩ := HR.cells i hi
  intro j u hj
  rw [Int.toNat_natCast]
  match j, hj with
  | 0, hj => injection hj with hj; subst hj; exact z0
  | 1, hj => injection hj with hj; subst hj; exact z1
  | 2, hj => injection hj with hj; subst hj; exact z2
  | 3, hj => injection hj with hj; subst hj; exact z3
  | 4, hj => injection hj with hj; subst hj; exact z4
  | 5, hj => injection hj with hj; subst hj; exact z5
  | 6, hj => injection hj with hj; subst hj; exact z6
  | j + 7, hj => simp at hj
/-- A name is written over. -/
theorem RN.putName {W : World} {b g n c : Nat} {xs : List S50} (HR : RN W b (.slice (some ⟨g, 0, none⟩) n c) xs) (i : Nat) (hi : i < n) (nm : ByteArray) :
    RN (W.setCell ⟨g, i * 7, none⟩ (.string nm)) b (.slice (some ⟨g, 0, none⟩) n c) (xs.set i { rd_T50 xs (i : Int) with f0 := nm }) ∧ W.grownBy (W.setCell ⟨g, i * 7, none⟩ (.string nm)) (some g) := by
  have h := Kd.R_seg (d := k50) HR (i : Int) (by omega) (by omega) (seg := [.string nm]) (j := 0) (x' := { rd_T50 xs (i : Int) with f0 := nm }) (okp := fun _ => False) rfl (HR.seven i hi) (show 1 ≤ 7 by decide) (k50_mkM _ _ _ { rd_T50 xs (i : Int) with f0 := nm }) (fun _ hk => hk.elim)
  rw [Int.toNat_natCast] at h
  exact h
/-- It is one that is named. -/
theorem RN.putNamed {W : World} {b g n c : Nat} {xs : List S50} (HR : RN W b (.slice (some ⟨g, 0, none⟩) n c) xs) (i : Nat) (hi : i < n) (q : Bool) :
    RN (W.setCell ⟨g, i * 7 + 1, none⟩ (.bool q)) b (.slice (some ⟨g, 0, none⟩) n c) (xs.set i { rd_T50 xs (i : Int) with f1 := q }) ∧ W.grownBy (W.setCell ⟨g, i * 7 + 1, none⟩ (.bool q)) (some g) := by
  have h := Kd.R_seg (d := k50) HR (i : Int) (by omega) (by omega) (seg := [.bool q]) (j := 1) (x' := { rd_T50 xs (i : Int) with f1 := q }) (okp := fun _ => False) rfl (HR.seven i hi) (show 2 ≤ 7 by decide) (k50_mkM _ _ _ { rd_T50 xs (i : Int) with f1 := q }) (fun _ hk => hk.elim)
  rw [Int.toNat_natCast] at h
  exact h
end Go.Proofs.Ytknagjiipelfnaa.OL
namespace Go.Proofs.Ytknagjiipelfnaa.OL
open Go.RowKit Go.WideShapes Go.ChangeShapes Go.Proofs.YtknagjiipelfnaaW.PrintWords Go.Proofs.YtknagjiipelfnaaW.PrintLast Go.Proofs.YtknagjiipelfnaaW.PrintMore Go.Proofs.Ytknagjiipelfnaa.PAll
set_option linter.unusedVariables false

theorem RN.at_ {w : World} {b n c : Nat} {A : Option Addr} {xs : List S50} (h : RN w b (.slice A n c) xs) (h0 : 0 < n) : ∃ g, A = some ⟨g, 0, none⟩ ∧ b ≤ g ∧ g < w.heap.size := by
  have hl := (Kd.R_reads' h).1
  obtain ⟨g, cap, he, h1, h2, _⟩ := Kd.R_form h (by omega)
  injection he with he
  exact ⟨g, he, h1, h2⟩
theorem RN.frozen {w : World} {b n c g : Nat} {xs : List S50} (h : RN w b (.slice (some ⟨g, 0, none⟩) n c) xs) (i : Nat) : w.frozen? ⟨g, i, none⟩ = false := by
  obtain ⟨_, _, _, q, _, cells, hc⟩ := (Kd.R_bound h).1 g rfl
  exact blk_frozen hc i
/-- What is kept through the law's walk: the lines' box, the row of one's own, what stood. -/
structure OwS (w w1 : World) (gX gA n c : Nat) (FA MA : Option Addr) (nf nm cf cm : Nat) (xs : List S50) : Prop where
  kx : w1.heap[gX]? = some (.cells #[.slice FA nf cf, .slice MA nm cm] 25 (0, 0))
  r : RN w1 w.heap.size (.slice (some ⟨gA, 0, none⟩) n c) (xs ++ [mark77, mark77])
  ne : gX ≠ gA
  lo : w.heap.size ≤ gA
  b : Below w.heap.size w w1
theorem OwS.moved {w w1 w2 : World} {gX gA n c : Nat} {FA MA : Option Addr} {nf nm cf cm : Nat} {xs : List S50} (h : OwS w w1 gX gA n c FA MA nf nm cf cm xs) (hb : Below w1.heap.size w1 w2) : OwS w w2 gX gA n c FA MA nf nm cf cm xs :=
  ⟨(hb.block _ (blk_lt h.kx)).trans h.kx, Kd.R_below h.r hb, h.ne, h.lo, below_then h.b h.b.size hb⟩
theorem OwS.row {w w1 : World} {gX gA n c : Nat} {FA MA : Option Addr} {nf nm cf cm : Nat} {xs : List S50} (h : OwS w w1 gX gA n c FA MA nf nm cf cm xs) : Kd.C k50 w1 (some ⟨gA, 0, none⟩) xs.length xs := node_prefix (Kd.R_reads' h.r).2.2
theorem OwS.cap {w w1 : World} {gX gA n c : Nat} {FA MA : Option Addr} {nf nm cf cm : Nat} {xs : List S50} (h : OwS w w1 gX gA n c FA MA nf nm cf cm xs) : xs.length + 2 = n ∧ n ≤ c := by
  have h2 := Kd.R_reads' h.r
  have h1 := h2.1
  have h3 := h2.2.1
  simp only [List.length_append, List.length_cons, List.length_nil] at h1 h3
  exact ⟨by omega, by omega⟩
theorem OwS.put {w w1 : World} {gX gA n c : Nat} {FA MA : Option Addr} {nf nm cf cm : Nat} {xs : List S50} (h : OwS w w1 gX gA n c FA MA nf nm cf cm xs) (i : Nat) (hi : i < xs.length) (nm' : ByteArray) :
    ∃ y : S50, y.f5 = (rd_T50 xs (i : Int)).f5 ∧ OwS w (w1.setCell ⟨gA, i * 7, none⟩ (.string nm')) gX gA n c FA MA nf nm cf cm (xs.set i y) := by
  have hc := h.cap
  obtain ⟨h1, h2⟩ := RN.putName h.r i (by omega) nm'
  rw [List.set_append_left _ _ hi] at h1
  refine ⟨_, ?_, blk_far h.kx (p := ⟨gA, i * 7, none⟩) h.ne _, h1, h.ne, h.lo, h.b.setCell h.lo _⟩
  show (rd_T50 (xs ++ [mark77, mark77]) (i : Int)).f5 = _
  unfold rd_T50
  rw [Int.toNat_natCast, List.getD_eq_getElem?_getD, List.getD_eq_getElem?_getD, List.getElem?_append_left hi]
theorem OwS.put1 {w w1 : World} {gX gA n c : Nat} {FA MA : Option Addr} {nf nm cf cm : Nat} {xs : List S50} (h : OwS w w1 gX gA n c FA MA nf nm cf cm xs) (i : Nat) (hi : i < xs.length) (q : Bool) :
    ∃ y : S50, y.f5 = (rd_T50 xs (i : Int)).f5 ∧ OwS w (w1.setCell ⟨gA, i * 7 + 1, none⟩ (.bool q)) gX gA n c FA MA nf nm cf cm (xs.set i y) := by
  have hc := h.cap
  obtain ⟨h1, h2⟩ := RN.putNamed h.r i (by omega) q
  rw [List.set_append_left _ _ hi] at h1
  refine ⟨_, ?_, blk_far h.kx (p := ⟨gA, i * 7 + 1, none⟩) h.ne _, h1, h.ne, h.lo, h.b.setCell h.lo _⟩
  show (rd_T50 (xs ++ [mark77, mark77]) (i : Int)).f5 = _
  unfold rd_T50
  rw [Int.toNat_natCast, List.getD_eq_getElem?_getD, List.getD_eq_getElem?_getD, List.getElem?_append_left hi]
theorem kids_set {xs : List S50} {i : Nat} {y : S50} {B : Int} (h : ∀ x ∈ xs, x.f5 ≤ B) (hi : i < xs.length) (hy : y.f5 = (rd_T50 xs (i : Int)).f5) : ∀ x ∈ xs.set i y, x.f5 ≤ B := by
  intro x hx
  rcases List.mem_or_eq_of_mem_set hx with hx | rfl
  · exact h x hx
  · rw [hy]
    unfold rd_T50
    rw [Int.toNat_natCast, List.getD_eq_getElem?_getD, List.getElem?_eq_getElem hi]
    exact h _ (List.getElem_mem hi)
end Go.Proofs.Ytknagjiipelfnaa.OL
