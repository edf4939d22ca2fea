/- trellisref15.Beyond answers of every list of nodes. trellislaw22.awake: at one language and one tree the program folds and names. -/
import Derived.Test.YtknagjiipelfnaaSym
import Derived.Test.YtknagjiipelfnaaLang
import Derived.Test.YtknagjiipelfnaaSymsA
import Derived.Test.YtknagjiipelfnaaOFolds
namespace Go.Proofs.Ytknagjiipelfnaa.OL
open Go.RowKit Go.WideShapes Go.ChangeShapes Go.Proofs.YtknagjiipelfnaaW.PrintWords Go.Proofs.YtknagjiipelfnaaW.PrintLast Go.Proofs.YtknagjiipelfnaaW.PrintMore Go.Proofs.Ytknagjiipelfnaa.PAll
set_option linter.unusedVariables false

theorem beyond_j2 {t : List S50} (hl : t.length ≤ 1048576) {i : Nat} (hi : i < t.length) (next : ∀ st : List Int, st.length ≤ i + 1 → ∃ k r, trellisref15_Beyond.l0 k t st ((i + 1 : Nat) : Int) = some r) (st : List Int) (hs : st.length ≤ i) : ∃ k r, trellisref15_Beyond.j2 k t st (i : Int) = some r := by
  have e : wrap64 ((i : Int) + 1) = ((i + 1 : Nat) : Int) := (w64 (by omega) (by omega)).trans (by omega)
  by_cases h : (st.length : Int) > 0
  · have e2 : wrap64 ((st.length : Int) - 1) = (st.length : Int) - 1 := w64 (by omega) (by omega)
    obtain ⟨k, r, hk⟩ := next (st.set ((st.length : Int) - 1).toNat (wrap64 (rd st ((st.length : Int) - 1) - 1)) ++ [(rd_T50 t (i : Int)).f5]) (by simp; omega)
    by_cases hb : (((st.set ((st.length : Int) - 1).toNat (wrap64 (rd st ((st.length : Int) - 1) - 1)) ++ [(rd_T50 t (i : Int)).f5]).length : Int) > 65536)
    · refine ⟨1, true, ?_⟩
      rw [trellisref15_Beyond.j2, if_pos h, e2, if_pos (by omega), if_pos (by omega), Option.bind_some, if_pos (by omega), if_pos (by omega), if_pos (by simp; omega), Option.bind_some, if_pos hb]
    · refine ⟨k + 1, r, ?_⟩
      rw [trellisref15_Beyond.j2, if_pos h, e2, if_pos (by omega), if_pos (by omega), Option.bind_some, if_pos (by omega), if_pos (by omega), if_pos (by simp; omega), Option.bind_some, if_neg hb, e]
      exact hk
  · obtain ⟨k, r, hk⟩ := next (st ++ [(rd_T50 t (i : Int)).f5]) (by simp; omega)
    by_cases hb : (((st ++ [(rd_T50 t (i : Int)).f5]).length : Int) > 65536)
    · refine ⟨1, true, ?_⟩
      rw [trellisref15_Beyond.j2, if_neg h, if_pos (by omega), if_pos (by omega), if_pos (by omega), Option.bind_some, if_pos hb]
    · refine ⟨k + 1, r, ?_⟩
      rw [trellisref15_Beyond.j2, if_neg h, if_pos (by omega), if_pos (by omega), if_pos (by omega), Option.bind_some, if_neg hb, e]
      exact hk
theorem beyond_l1 {t : List S50} (hl : t.length ≤ 1048576) {i : Nat} (hi : i < t.length) (next : ∀ st : List Int, st.length ≤ i + 1 → ∃ k r, trellisref15_Beyond.l0 k t st ((i + 1 : Nat) : Int) = some r) : ∀ m (st : List Int), st.length = m → m ≤ i → ∃ k r, trellisref15_Beyond.l1 k t st (i : Int) = some r := by
  intro m
  induction m with
  | zero =>
    intro st hm hmi
    obtain ⟨k, r, hk⟩ := beyond_j2 hl hi next st (by omega)
    exact ⟨k + 1, r, by rw [trellisref15_Beyond.l1, if_neg (by omega)]; exact hk⟩
  | succ m ih =>
    intro st hm hmi
    have e2 : wrap64 ((st.length : Int) - 1) = (st.length : Int) - 1 := w64 (by omega) (by omega)
    by_cases h : rd st ((st.length : Int) - 1) ≤ 0
    · obtain ⟨k, r, hk⟩ := ih (st.take ((st.length : Int) - 1).toNat) (by simp; omega) (by omega)
      exact ⟨k + 1, r, by rw [trellisref15_Beyond.l1, if_pos (by omega), e2, if_pos (by omega), if_pos (by omega), if_pos h, if_pos (by omega)]; exact hk⟩
    · obtain ⟨k, r, hk⟩ := beyond_j2 hl hi next st (by omega)
      exact ⟨k + 1, r, by rw [trellisref15_Beyond.l1, if_pos (by omega), e2, if_pos (by omega), if_pos (by omega), if_neg h]; exact hk⟩
theorem beyond_l0 {t : List S50} (hl : t.length ≤ 1048576) : ∀ d i (st : List Int), t.length - i = d → i ≤ t.length → st.length ≤ i → ∃ k r, trellisref15_Beyond.l0 k t st (i : Int) = some r := by
  intro d
  induction d with
  | zero =>
    intro i st hd hi hs
    exact ⟨1, false, by rw [trellisref15_Beyond.l0, if_neg (by omega)]⟩
  | succ d ih =>
    intro i st hd hi hs
    obtain ⟨k, r, hk⟩ := beyond_l1 hl (i := i) (by omega) (fun st2 h2 => ih (i + 1) st2 (by omega) (by omega) h2) _ st rfl hs
    exact ⟨k + 1, r, by rw [trellisref15_Beyond.l0, if_pos (by omega)]; exact hk⟩
theorem Beyond_calls (A : Option Addr) (c : Nat) (t : List S50) (w : World) (hr : Kd.C k50 w A t.length t) (hc : t.length ≤ c) (hl : t.length ≤ 1048576) : ∃ r, Calls Try.prog 9 #[.slice A t.length c] w fun e w' => e = .returned (.bool r) ∧ Below w.heap.size w w' := by
  obtain ⟨k, r, hk⟩ := beyond_l0 hl t.length 0 [] rfl (Nat.zero_le _) (Nat.le_refl _)
  exact ⟨r, trellisref15_Beyond.calls k A c t r w hr hc hk⟩
end Go.Proofs.Ytknagjiipelfnaa.OL
namespace Go.Proofs.Ytknagjiipelfnaa.AW
open Go.RowKit Go.WideShapes Go.ChangeShapes Go.Proofs.YtknagjiipelfnaaW.PrintWords Go.Proofs.YtknagjiipelfnaaW.PrintLast Go.Proofs.YtknagjiipelfnaaW.PrintMore Go.Proofs.Ytknagjiipelfnaa.PAll
open Go.Proofs.Ytknagjiipelfnaa.OL Go.Proofs.Ytknagjiipelfnaa.SO
set_option linter.unusedVariables false

def dB : ByteArray := ⟨#[100]⟩
def fB : ByteArray := ⟨#[102]⟩
def xB : ByteArray := ⟨#[120]⟩
def tB : ByteArray := ⟨#[97, 10, 98]⟩
def n0 : S50 := ⟨dB, true, ⟨#[]⟩, 0, 3, 1, -1⟩
def n1 : S50 := ⟨xB, false, fB, 0, 1, 0, 0⟩
theorem awF : foldsA [dB] [n0, n1] tB = [⟨0, 1⟩] := by kernel_rfl
theorem awS : symsA [(dB, fB)] [n0, n1] tB = [⟨dB, ⟨#[97]⟩, 0, 3, 0⟩] := by kernel_rfl
theorem litS {w : World} {g : Nat} {a : ByteArray} (h : w.heap[g]? = some (.cells #[.string a] 9 (0, 0))) : Kd.string.C w (some ⟨g, 0, none⟩) 1 [a] := by
  refine ⟨rfl, by decide, fun _ => ⟨⟨g, 0, none⟩, rfl, fun j y hj => ?_⟩⟩
  cases j with
  | succ j => simp at hj
  | zero =>
    simp only [List.getElem?_cons_zero] at hj
    injection hj with hj
    subst hj
    refine ⟨[.string a], rfl, rfl, fun i u hi => ?_⟩
    match i, hi with
    | 0, hi => rw [← hi]; exact (blk_cell h 0).trans rfl
    | n + 1, hi => simp at hi
theorem litM {w : World} {g : Nat} {a b : ByteArray} (h : w.heap[g]? = some (.cells #[.string a, .string b] 129 (0, 0))) : k129.C w (some ⟨g, 0, none⟩) 1 [(a, b)] := by
  refine ⟨rfl, by decide, fun _ => ⟨⟨g, 0, none⟩, rfl, fun j y hj => ?_⟩⟩
  cases j with
  | succ j => simp at hj
  | zero =>
    simp only [List.getElem?_cons_zero] at hj
    injection hj with hj
    subst hj
    refine ⟨[.string a, .string b], rfl, ⟨[.string a], [.string b], rfl, rfl, rfl⟩, fun i u hi => ?_⟩
    match i, hi with
    | 0, hi => rw [← hi]; exact (blk_cell h 0).trans rfl
    | 1, hi => rw [← hi]; exact (blk_cell h 1).trans rfl
    | n + 2, hi => simp at hi
theorem litN2 {w : World} {g : Nat} (h : w.heap[g]? = some (.cells #[.string dB, .bool true, .string ⟨#[]⟩, .int .i64 0, .int .i64 3, .int .i64 1, .int .i64 (-1), .string xB, .bool false, .string fB, .int .i64 0, .int .i64 1, .int .i64 0, .int .i64 0] 50 (0, 0))) : k50.C w (some ⟨g, 0, none⟩) 2 [n0, n1] := by
  refine ⟨rfl, by decide, fun _ => ⟨⟨g, 0, none⟩, rfl, fun j y hj => ?_⟩⟩
  match j, hj with
  | 0, hj =>
    injection hj with hj
    subst hj
    refine ⟨[.string n0.f0, .bool n0.f1, .string n0.f2, .int .i64 n0.f3, .int .i64 n0.f4, .int .i64 n0.f5, .int .i64 n0.f6], rfl, k50_mk _ _, fun i u hi => ?_⟩
    match i, hi with
    | 0, hi => rw [← hi]; exact (blk_cell h 0).trans rfl
    | 1, hi => rw [← hi]; exact (blk_cell h 1).trans rfl
    | 2, hi => rw [← hi]; exact (blk_cell h 2).trans rfl
    | 3, hi => rw [← hi]; exact (blk_cell h 3).trans rfl
    | 4, hi => rw [← hi]; exact (blk_cell h 4).trans rfl
    | 5, hi => rw [← hi]; exact (blk_cell h 5).trans rfl
    | 6, hi => rw [← hi]; exact (blk_cell h 6).trans rfl
    | n + 7, hi => simp at hi
  | 1, hj =>
    injection hj with hj
    subst hj
    refine ⟨[.string n1.f0, .bool n1.f1, .string n1.f2, .int .i64 n1.f3, .int .i64 n1.f4, .int .i64 n1.f5, .int .i64 n1.f6], rfl, k50_mk _ _, fun i u hi => ?_⟩
    match i, hi with
    | 0, hi => rw [← hi]; exact (blk_cell h 7).trans rfl
    | 1, hi => rw [← hi]; exact (blk_cell h 8).trans rfl
    | 2, hi => rw [← hi]; exact (blk_cell h 9).trans rfl
    | 3, hi => rw [← hi]; exact (blk_cell h 10).trans rfl
    | 4, hi => rw [← hi]; exact (blk_cell h 11).trans rfl
    | 5, hi => rw [← hi]; exact (blk_cell h 12).trans rfl
    | 6, hi => rw [← hi]; exact (blk_cell h 13).trans rfl
    | n + 7, hi => simp at hi
  | j + 2, hj => simp at hj
/-- A language that is stored into memory of its own. -/
theorem stored_new (w3 : World) (F M : Option Addr) (n c m d : Nat) : ∃ W9, (∀ o a K Q, Stored o (.pointer (some ⟨w3.heap.size, 0, none⟩)) (.agg (langC (.slice F n c) (.slice M m d))) a (w3.alloc (.cells #[.string ⟨#[]⟩, .slice none 0 0, .slice none 0 0, .slice none 0 0, .slice none 0 0, .slice none 0 0, .slice none 0 0, .slice none 0 0, .slice none 0 0, .slice none 0 0, .slice none 0 0, .slice none 0 0] 45)) K Q = K (a.put o.dst undef) W9) ∧
    W9.heap[w3.heap.size]? = some (.cells (langC (.slice F n c) (.slice M m d)) 45 (0, 0)) ∧ Below w3.heap.size w3 W9 := by
  have h : (w3.alloc (.cells #[.string ⟨#[]⟩, .slice none 0 0, .slice none 0 0, .slice none 0 0, .slice none 0 0, .slice none 0 0, .slice none 0 0, .slice none 0 0, .slice none 0 0, .slice none 0 0, .slice none 0 0, .slice none 0 0] 45)).heap[w3.heap.size]? = some (.cells (langC (.slice none 0 0) (.slice none 0 0)) 45 (0, 0)) := heap_alloc_new w3 _
  obtain ⟨W9, hW9, _, hst⟩ := stored_ex h F M n c m d
  refine ⟨W9, hst, ?_, ?_⟩
  · rw [← hW9]
    exact set12 h _ _
  · rw [← hW9]
    exact below_sets12 (below_alloc (Below.refl _ _) _) (Nat.le_refl _) _ _ _ _ _ _ _ _ _ _ _ _
attribute [local go_sem ↓] stored_at
attribute [local go_sem high] eqA82 eqA84
set_option maxRecDepth 100000 in
set_option maxHeartbeats 8000000 in
theorem awake_calls (w : World) : Calls Try.prog 29 #[] w fun e w' => e = .returned (.bool true) ∧ Below w.heap.size w w' := by
  obtain ⟨oA, hoA⟩ : ∃ o : Obj, o = .cells #[.string ⟨#[100]⟩] 9 (0, 0) := ⟨_, rfl⟩
  obtain ⟨oB, hoB⟩ : ∃ o : Obj, o = .cells #[.string ⟨#[100]⟩, .string ⟨#[102]⟩] 129 (0, 0) := ⟨_, rfl⟩
  have hb2 : Below w.heap.size w ((w.alloc oA).alloc oB) := below_alloc (below_alloc (Below.refl _ _) _) _
  have kA : Kd.string.C ((w.alloc oA).alloc oB) (some ⟨w.heap.size, 0, none⟩) 1 [dB] := litS ((al0 w oA oB).trans (congrArg some hoA))
  have kB : k129.C ((w.alloc oA).alloc oB) (some ⟨w.heap.size + 1, 0, none⟩) 1 [(dB, fB)] := litM ((al1 w oA oB).trans (congrArg some hoB))
  have HB := Aside0.mk hb2
  have KA := Aside0.mk kA
  have KB := Aside0.mk kB
  clear kA kB hb2
  go_enter Try.func29, Try.ntmps29
  go_wp2_with fail
  rw [← hoA, ← hoB]
  clear hoA hoB
  obtain ⟨gA, hgA⟩ : ∃ g, w.heap.size = g := ⟨_, rfl⟩
  generalize (w.alloc oA).alloc oB = w2 at HB KA KB ⊢
  rw [hgA] at KA KB ⊢
  clear hgA
  refine (lang_calls (some ⟨gA, 0, none⟩) (some ⟨gA + 1, 0, none⟩) 1 1 [dB] [(dB, fB)] w2 KA.out (Nat.le_refl _) (by decide) KB.out (Nat.le_refl _) (by decide)).mono ?_
  rintro e w3 ⟨F1, M1, cf1, cm1, rfl, hm, hmc, hf, hfc, hB⟩
  obtain ⟨W9, hst, hk9, hb9⟩ := stored_new w3 F1 M1 1 cf1 1 cm1
  have HB9 := Aside0.mk (below_then (below_then HB.out HB.out.size hB) (below_then HB.out HB.out.size hB).size hb9)
  have HM9 := Aside0.mk (And.intro (Kd.C_below hm hb9) hmc)
  have HF9 := Aside0.mk (And.intro (Kd.C_below hf hb9) hfc)
  have KL9 := Aside0.mk hk9
  clear hm hmc hf hfc hB hk9 hb9 HB KA KB
  go_upto_region 2 with fail
  obtain ⟨gL, hgL⟩ : ∃ g, w3.heap.size = g := ⟨_, rfl⟩
  rw [hgL] at KL9 ⊢
  clear hst hgL
  obtain ⟨oN, hoN⟩ : ∃ o : Obj, o = .cells #[.string ⟨#[100]⟩, .bool true, .string ⟨#[]⟩, .int .i64 0, .int .i64 3, .int .i64 1, .int .i64 (-1), .string ⟨#[120]⟩, .bool false, .string ⟨#[102]⟩, .int .i64 0, .int .i64 1, .int .i64 0, .int .i64 0] 50 (0, 0) := ⟨_, rfl⟩
  have hb10 : Below W9.heap.size W9 (W9.alloc oN) := below_alloc (Below.refl _ _) _
  have kN : k50.C (W9.alloc oN) (some ⟨W9.heap.size, 0, none⟩) 2 [n0, n1] := litN2 ((heap_alloc_new W9 oN).trans (congrArg some hoN))
  have KN := Aside0.mk kN
  have HB10 := Aside0.mk (below_then HB9.out HB9.out.size hb10)
  have HM10 := Aside0.mk (And.intro (Kd.C_below HM9.out.1 hb10) HM9.out.2)
  have HF10 := Aside0.mk (And.intro (Kd.C_below HF9.out.1 hb10) HF9.out.2)
  have KL10 := Aside0.mk ((hb10.block _ (blk_lt KL9.out)).trans KL9.out)
  clear kN hb10 HB9 HM9 HF9 KL9
  go_upto_region 3 with fail
  rw [← hoN]
  clear hoN
  obtain ⟨gN, hgN⟩ : ∃ g, W9.heap.size = g := ⟨_, rfl⟩
  generalize W9.alloc oN = w4 at KN HB10 HM10 HF10 KL10 ⊢
  rw [hgN] at KN ⊢
  clear hgN
  obtain ⟨l0, l1, l2, l3, l4, l5, l6, l7, l8, l9, l10, l11⟩ := lang_cells KL10.out
  go_wp2_with fail
  refine (OFolds_calls F1 (some ⟨gN, 0, none⟩) cf1 2 (.slice M1 1 cm1) [dB] [n0, n1] tB w4 KN.out (Nat.le_refl _) (by decide) (by decide) HF10.out.1 HF10.out.2 (by decide) (by decide)).mono ?_
  rintro e w5 ⟨v, rfl, hR, hB⟩
  obtain ⟨A5, c5, rfl⟩ := Kd.R_slice hR
  rw [awF] at hR
  have hr5 := Kd.R_reads' hR
  have HR5 := Aside0.mk hr5.2.2
  have HRR := Aside0.mk hR
  have HB11 := Aside0.mk (below_then HB10.out HB10.out.size hB)
  have KN11 := Aside0.mk (Kd.C_below KN.out hB)
  have HM11 := Aside0.mk (And.intro (Kd.C_below HM10.out.1 hB) HM10.out.2)
  have KL11 := Aside0.mk ((hB.block _ (blk_lt KL10.out)).trans KL10.out)
  have hlen : (foldsA [dB] [n0, n1] tB).length = 1 := by rw [awF]; rfl
  rw [hlen]
  clear hR hB hr5 hlen l0 l1 l2 l3 l4 l5 l6 l7 l8 l9 l10 l11 KN HB10 HM10 HF10 KL10
  obtain ⟨l0, l1, l2, l3, l4, l5, l6, l7, l8, l9, l10, l11⟩ := lang_cells KL11.out
  go_wp2_with fail
  refine (OSymbolsA_calls (.slice F1 1 cf1) (some ⟨gN, 0, none⟩) M1 2 cm1 [n0, n1] [(dB, fB)] tB w5 KN11.out (Nat.le_refl _) (by decide) (by decide) HM11.out.1 HM11.out.2 (by decide)).mono ?_
  rintro e w6 ⟨v, rfl, hR, hB⟩
  obtain ⟨A6, c6, rfl⟩ := Kd.R_slice hR
  have hlen : (symsA [(dB, fB)] [n0, n1] tB).length = 1 := by rw [awS]; rfl
  rw [hlen]
  rw [awS] at hR
  have hr6 := (Kd.R_reads' hR).2.2
  have HB12 := Aside0.mk (below_then HB11.out HB11.out.size hB)
  have hr5 := HR5.out
  obtain ⟨g5, c50, he5, -⟩ := Kd.R_form HRR.out (by decide)
  injection he5 with he5
  obtain ⟨g6, c60, he6, -⟩ := Kd.R_form hR (by decide)
  injection he6 with he6
  subst he5 he6
  obtain ⟨ad, hA5, y0, y1⟩ := at_T82 (Kd.C_below hr5 hB) 0 (by decide) (by decide)
  obtain ⟨ad2, hA6, z0, z1, z2, z3, z4⟩ := at_T84 hr6 0 (by decide) (by decide)
  injection hA5 with hA5
  injection hA6 with hA6
  subst hA5 hA6
  change w6.cell? ⟨g5, 0, none⟩ = some (.int .i64 0) at y0
  change w6.cell? ⟨g5, 1, none⟩ = some (.int .i64 1) at y1
  change w6.cell? ⟨g6, 0, none⟩ = some (.string ⟨#[100]⟩) at z0
  change w6.cell? ⟨g6, 1, none⟩ = some (.string ⟨#[97]⟩) at z1
  change w6.cell? ⟨g6, 2, none⟩ = some (.int .i64 0) at z2
  change w6.cell? ⟨g6, 3, none⟩ = some (.int .i64 3) at z3
  change w6.cell? ⟨g6, 4, none⟩ = some (.int .i64 0) at z4
  clear hr5 hr6 hR hB l0 l1 l2 l3 l4 l5 l6 l7 l8 l9 l10 l11 hlen
  go_wp2_with fail
  go_ret
  exact ⟨rfl, HB12.out⟩
end Go.Proofs.Ytknagjiipelfnaa.AW
