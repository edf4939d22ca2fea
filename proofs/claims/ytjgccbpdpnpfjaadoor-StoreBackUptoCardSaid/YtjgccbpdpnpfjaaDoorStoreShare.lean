/- store: what the four statements share: an answer that is carried along, refused, good. -/
import Derived.Test.YtjgccbpdpnpfjaaDoorStoreTurned
import Derived.Test.YtjgccbpdpnpfjaaDoorStoreDec
import Derived.Test.YtjgccbpdpnpfjaaDoorStoreTold
import Derived.Test.YtjgccbpdpnpfjaaDoorStoreEncode
import Derived.Test.YtjgccbpdpnpfjaaDoorPAllx6
namespace Go.Proofs.YtjgccbpdpnpfjaaDoor.ST
open Go.RowKit Go.WideShapes Go.ChangeShapes Go.Proofs.YtjgccbpdpnpfjaaDoorW.PrintWords Go.Proofs.YtjgccbpdpnpfjaaDoorW.PrintLast Go.Proofs.YtjgccbpdpnpfjaaDoorW.PrintMore Go.Proofs.YtjgccbpdpnpfjaaDoor.PAll
set_option linter.unusedVariables false

abbrev GV : Value := .iface 100 (.agg #[.pointer (some ⟨1, 30, none⟩)])
theorem code_lt (b d t : ByteArray) : (verdict b d t).1 = 0 ∨ (verdict b d t).1 = 330 ∨ (verdict b d t).1 = 331 := by
  unfold verdict
  split
  · exact .inr (.inl rfl)
  · split
    · exact .inr (.inl rfl)
    · split
      · exact .inr (.inr rfl)
      · split
        · exact .inr (.inr rfl)
        · exact .inl rfl
theorem verdict_at (b d t : ByteArray) (h : (verdict b d t).1 = 0) : verdict b d t = (0, 0) := by
  unfold verdict at h ⊢
  split at h
  · cases h
  · split at h
    · cases h
    · split at h
      · cases h
      · split at h
        · cases h
        · rename_i h1 h2 h3 h4
          rw [if_neg h1, if_neg h2, if_neg h3, if_neg h4]
/-- told, of whatever Decode has answered -/
theorem told_any {B : Nat} {w : World} {er : Value} {b d t : ByteArray} (h : ErrIs B w er (verdict b d t)) (hg : w.cell? ⟨0, 0, none⟩ = some GV) :
    Calls Tryd.prog 9 #[er] w fun e w' => e = .returned (.tuple #[.int .i64 ((verdict b d t).1 : Int), .int .i64 ((verdict b d t).2 : Int)]) ∧ Below w.heap.size w w' := by
  rcases h with ⟨h1, rfl⟩ | ⟨h1, ge, rfl, h2, h3⟩
  · rw [verdict_at b d t h1]
    refine (told_nil w).mono ?_
    rintro e w' ⟨rfl, rfl⟩
    exact ⟨rfl, Below.refl _ _⟩
  · exact told_err ge _ _ w h3 hg
theorem ErrIs.moved {B : Nat} {w w1 : World} {er : Value} {v : Nat × Nat} (h : ErrIs B w er v) (hb : Below w.heap.size w w1) : ErrIs B w1 er v := by
  rcases h with h | ⟨h1, ge, h2, h3, h4⟩
  · exact .inl h
  · exact .inr ⟨h1, ge, h2, h3, (hb.block _ (blk_lt h4)).trans h4⟩
theorem R_opens {α : Type} {d : Kd α} {e base : Nat} {w : World} {A : Option Addr} {n c : Nat} {xs : List α} (h : d.R e w base T (.slice A n c) xs) : d.C w A xs.length xs ∧ xs.length ≤ c := ⟨(Kd.R_reads' h).2.2, (Kd.R_reads' h).1 ▸ (Kd.R_reads' h).2.1⟩
/-- a result that stands in memory -/
structure Holds (w : World) (A3 : Option Addr) (c3 : Nat) (A4 : Option Addr) (c4 : Nat) (r : Rs) : Prop where
  l : Kd.C k39 w A3 r.ls.length r.ls
  lc : r.ls.length ≤ c3
  n : Kd.C k41 w A4 r.ns.length r.ns
  nc : r.ns.length ≤ c4
abbrev rsV (A3 : Option Addr) (c3 : Nat) (A4 : Option Addr) (c4 : Nat) (r : Rs) : Value := .agg #[.int .i64 (r.c : Int), .int .i64 (r.at_ : Int), .int .u64 (r.wt : Int), .slice A3 r.ls.length c3, .slice A4 r.ns.length c4, .int .i64 (r.rt : Int)]
theorem Holds.moved {w w1 : World} {A3 A4 : Option Addr} {c3 c4 : Nat} {r : Rs} (h : Holds w A3 c3 A4 c4 r) (hb : Below w.heap.size w w1) : Holds w1 A3 c3 A4 c4 r := ⟨Kd.C_below h.l hb, h.lc, Kd.C_below h.n hb, h.nc⟩
theorem holds0 (w : World) : Holds w none 0 none 0 rs0 := ⟨⟨rfl, by decide, fun h => by cases h⟩, Nat.le_refl _, ⟨rfl, by decide, fun h => by cases h⟩, Nat.le_refl _⟩
/-- Decode, once more: its answer stands -/
theorem Decode_holds (b d t : ByteArray) (w : World) (hb : b.size ≤ 1073741824) (hd1 : d.size ≤ 1073741824) (ht1 : t.size ≤ 1073741824) :
    Calls Tryd.prog 8 #[.string b, .string d, .string t] w fun e w' => ∃ A3 c3 A4 c4 er, e = .returned (.tuple #[rsV A3 c3 A4 c4 (outOf b d t), er]) ∧ Below w.heap.size w w' ∧ Holds w' A3 c3 A4 c4 (outOf b d t) ∧ ErrIs w.heap.size w' er (verdict b d t) := by
  refine (Decode_calls b d t w hb hd1 ht1).mono ?_
  rintro e w' ⟨v3, v4, er, rfl, hB, hR3, hR4, hE⟩
  obtain ⟨A3, c3, rfl⟩ := Kd.R_slice hR3
  obtain ⟨A4, c4, rfl⟩ := Kd.R_slice hR4
  exact ⟨A3, c3, A4, c4, er, rfl, hB, ⟨(R_opens hR3).1, (R_opens hR3).2, (R_opens hR4).1, (R_opens hR4).2⟩, hE⟩
/-- the same, of two that are the same -/
theorem same_calls (w : World) {A3 A4 B3 B4 : Option Addr} {c3 c4 d3 d4 : Nat} {r s : Rs} (h : Holds w A3 c3 A4 c4 r) (h' : Holds w B3 d3 B4 d4 s) (he : r = s) (hl : r.ls.length ≤ 1073741824) (hn : r.ns.length ≤ 1073741824) :
    Calls Tryd.prog 11 #[rsV A3 c3 A4 c4 r, rsV B3 d3 B4 d4 s] w fun e w' => e = .returned (.bool true) ∧ Below w.heap.size w w' := by
  subst he
  exact trellislaw33_same.calls _ _ _ _ A3 c3 r.ls A4 c4 r.ns _ _ _ _ B3 d3 r.ls B4 d4 r.ns _ true w h.l h.lc h.n h.nc h'.l h'.lc h'.n h'.nc (same_f _ _ _ _ _ _ hl hn)
theorem out_no {b d t : ByteArray} (h : (verdict b d t).1 ≠ 0) : outOf b d t = rs0 := if_neg h
theorem out_yes {b d t : ByteArray} (h : (verdict b d t).1 = 0) : outOf b d t = (hd b).rs := if_pos h
set_option maxRecDepth 100000 in
set_option maxHeartbeats 4000000 in
theorem refused_calls (b d t : ByteArray) (k : Nat) (w : World) (er : Value) {A3 A4 : Option Addr} {c3 c4 B : Nat} (hH : Holds w A3 c3 A4 c4 (outOf b d t)) (hE : ErrIs B w er (verdict b d t)) (hg : w.cell? ⟨0, 0, none⟩ = some GV) (hk : k ≠ 0) :
    Calls Tryd.prog 15 #[rsV A3 c3 A4 c4 (outOf b d t), er, .int .i64 (k : Int)] w fun e w' => e = .returned (.bool (decide ((verdict b d t).1 = k))) ∧ Below w.heap.size w w' := by
  have HK := Aside0.mk hk
  have h0 : 0 < w.heap.size := by
    rcases Nat.eq_zero_or_pos w.heap.size with h0 | h
    · simp [World.cell?, h0] at hg
    · exact h
  have hba : Below w.heap.size w (w.alloc (.cells #[.int .i64 ((outOf b d t).c : Int), .int .i64 ((outOf b d t).at_ : Int), .int .u64 ((outOf b d t).wt : Int), .slice A3 (outOf b d t).ls.length c3, .slice A4 (outOf b d t).ns.length c4, .int .i64 ((outOf b d t).rt : Int)] 28)) := below_alloc (Below.refl _ _) _
  have HB := Aside0.mk hba
  have HH := Aside0.mk (hH.moved hba)
  have HE := Aside0.mk (hE.moved hba)
  have HG := Aside0.mk ((World.cell?_alloc_lt w (.cells #[.int .i64 ((outOf b d t).c : Int), .int .i64 ((outOf b d t).at_ : Int), .int .u64 ((outOf b d t).wt : Int), .slice A3 (outOf b d t).ls.length c3, .slice A4 (outOf b d t).ns.length c4, .int .i64 ((outOf b d t).rt : Int)] 28) ⟨0, 0, none⟩ h0).trans hg)
  have HN := Aside0.mk (heap_alloc_new w (.cells #[.int .i64 ((outOf b d t).c : Int), .int .i64 ((outOf b d t).at_ : Int), .int .u64 ((outOf b d t).wt : Int), .slice A3 (outOf b d t).ls.length c3, .slice A4 (outOf b d t).ns.length c4, .int .i64 ((outOf b d t).rt : Int)] 28))
  clear hk h0 hba hH hE hg
  go_enter Tryd.func15, Tryd.ntmps15
  go_wp2_with fail
  refine (told_any HE.out HG.out).mono ?_
  rintro e w1 ⟨rfl, hB⟩
  have HB1 := Aside0.mk (below_then HB.out HB.out.size hB)
  have HH1 := Aside0.mk (HH.out.moved hB)
  have hn1 := (hB.block _ (blk_lt HN.out)).trans HN.out
  clear hB HB HH HE HG HN
  have q0 := blk_cell hn1 0
  have q1 := blk_cell hn1 1
  have q2 := blk_cell hn1 2
  have q3 := blk_cell hn1 3
  have q4 := blk_cell hn1 4
  have q5 := blk_cell hn1 5
  clear hn1
  by_cases hv : (verdict b d t).1 = k
  · have e1 : (((verdict b d t).1 : Nat) : Int) = (k : Int) := by rw [hv]
    have t1 : decide ((((verdict b d t).1 : Nat) : Int) = (k : Int)) = true := decide_eq_true e1
    have t2 : ((((verdict b d t).1 : Nat) : Int) == (k : Int)) = true := beq_iff_eq.2 e1
    have t3 : decide ((verdict b d t).1 = k) = true := decide_eq_true hv
    have t4 : ((verdict b d t).1 == k) = true := beq_iff_eq.2 hv
    have HV := Aside0.mk hv
    clear hv e1
    go_wp2_with fail
    refine (same_calls w1 HH1.out (holds0 w1) (out_no (by rw [HV.out]; exact HK.out)) (by rw [out_no (by rw [HV.out]; exact HK.out)]; decide) (by rw [out_no (by rw [HV.out]; exact HK.out)]; decide)).mono ?_
    rintro e w2 ⟨rfl, hB⟩
    have HB2 := Aside0.mk (below_then HB1.out HB1.out.size hB)
    clear hB HB1 q0 q1 q2 q3 q4 q5 HH1
    go_wp2_with fail
    go_ret
    exact ⟨by rw [t3]; rfl, HB2.out⟩
  · have e1 : ¬ (((verdict b d t).1 : Nat) : Int) = (k : Int) := by omega
    have t1 : decide ((((verdict b d t).1 : Nat) : Int) = (k : Int)) = false := decide_eq_false e1
    have t2 : ((((verdict b d t).1 : Nat) : Int) == (k : Int)) = false := beq_eq_false_iff_ne.2 e1
    have t3 : decide ((verdict b d t).1 = k) = false := decide_eq_false hv
    have t4 : ((verdict b d t).1 == k) = false := beq_eq_false_iff_ne.2 hv
    clear hv e1
    go_wp2_with fail
    go_ret
    exact ⟨by rw [t3]; rfl, HB1.out⟩

/-! ### good -/
theorem good_l1 (ns : List S41) (hx : ∀ x ∈ ns, x.f6 ≤ 9223372036854775807) (hl : ns.length ≤ 1073741824) (b0 b1 b2 : Int) (ls : List S39) (b5 : Int) : ∀ (d i k : Nat), i + d = ns.length → d < k → trellislaw33_good.l1 k (i : Int) b0 b1 b2 ls ns b5 = some ((ns.drop i).all nd) := by
  intro d
  induction d with
  | zero =>
    intro i k hi hk
    obtain ⟨k, rfl⟩ : ∃ m, k = m + 1 := ⟨k - 1, by omega⟩
    simp only [trellislaw33_good.l1]
    rw [if_neg (by omega), List.drop_eq_nil_of_le (by omega)]
    rfl
  | succ d ih =>
    intro i k hi hk
    obtain ⟨k, rfl⟩ : ∃ m, k = m + 1 := ⟨k - 1, by omega⟩
    have h : i < ns.length := by omega
    simp only [trellislaw33_good.l1]
    rw [if_pos (by omega), if_pos (by omega), rdN ns i h, w64 (by omega) (by omega), all_drop nd ns i h]
    have h2 := ih (i + 1) k (by omega) (by omega)
    have h3 := hx _ (List.getElem_mem h)
    rw [show ((i : Int) + 1) = ((i + 1 : Nat) : Int) by omega, h2]
    generalize ns[i] = x at h3 ⊢
    unfold nd
    by_cases a1 : x.f3 < 0
    · rw [if_pos a1, decide_eq_false (by omega : ¬ 0 ≤ x.f3)]; rfl
    rw [if_neg a1, decide_eq_true (by omega : 0 ≤ x.f3)]
    by_cases a2 : x.f4 < 0
    · rw [if_pos a2, decide_eq_false (by omega : ¬ 0 ≤ x.f4)]; rfl
    rw [if_neg a2, decide_eq_true (by omega : 0 ≤ x.f4)]
    by_cases a3 : x.f5 < 0
    · rw [if_pos a3, decide_eq_false (by omega : ¬ 0 ≤ x.f5)]; rfl
    rw [if_neg a3, decide_eq_true (by omega : 0 ≤ x.f5)]
    by_cases a4 : x.f6 < -1
    · rw [if_pos a4, decide_eq_false (by omega : ¬ -1 ≤ x.f6)]; rfl
    rw [if_neg a4, decide_eq_true (by omega : -1 ≤ x.f6)]
    by_cases a5 : x.f6 = 9223372036854775807
    · rw [if_pos a5, decide_eq_false (by omega : ¬ x.f6 < 9223372036854775807)]; rfl
    rw [if_neg a5, decide_eq_true (by omega : x.f6 < 9223372036854775807)]
    rfl
theorem good_l0 (ls : List S39) (ns : List S41) (hx : ∀ x ∈ ns, x.f6 ≤ 9223372036854775807) (hl : ls.length ≤ 1073741824) (hn : ns.length ≤ 1073741824) (b0 b1 b2 b5 : Int) : ∀ (d i k : Nat), i + d = ls.length → d + ns.length + 1 < k →
    trellislaw33_good.l0 k (i : Int) b0 b1 b2 ls ns b5 = some ((ls.drop i).all lf && ns.all nd) := by
  intro d
  induction d with
  | zero =>
    intro i k hi hk
    obtain ⟨k, rfl⟩ : ∃ m, k = m + 1 := ⟨k - 1, by omega⟩
    simp only [trellislaw33_good.l0]
    have h2 := good_l1 ns hx hn b0 b1 b2 ls b5 ns.length 0 k (by omega) (by omega)
    rw [if_neg (by omega), List.drop_eq_nil_of_le (by omega)]
    rw [List.drop_zero] at h2
    exact h2
  | succ d ih =>
    intro i k hi hk
    obtain ⟨k, rfl⟩ : ∃ m, k = m + 1 := ⟨k - 1, by omega⟩
    have h : i < ls.length := by omega
    simp only [trellislaw33_good.l0]
    rw [if_pos (by omega), if_pos (by omega), rdL ls i h, w64 (by omega) (by omega), all_drop lf ls i h]
    have h2 := ih (i + 1) k (by omega) (by omega)
    rw [show ((i : Int) + 1) = ((i + 1 : Nat) : Int) by omega, h2]
    generalize ls[i] = x
    unfold lf
    by_cases a1 : x.f0 < 0
    · rw [if_pos a1, decide_eq_false (by omega : ¬ 0 ≤ x.f0)]; rfl
    rw [if_neg a1, decide_eq_true (by omega : 0 ≤ x.f0)]
    by_cases a2 : x.f1 < 0
    · rw [if_pos a2, decide_eq_false (by omega : ¬ 0 ≤ x.f1)]; rfl
    rw [if_neg a2, decide_eq_true (by omega : 0 ≤ x.f1)]
    by_cases a3 : x.f2 < 0
    · rw [if_pos a3, decide_eq_false (by omega : ¬ 0 ≤ x.f2)]; rfl
    rw [if_neg a3, decide_eq_true (by omega : 0 ≤ x.f2)]
    by_cases a4 : x.f3 < 0
    · rw [if_pos a4, decide_eq_false (by omega : ¬ 0 ≤ x.f3)]; rfl
    rw [if_neg a4, decide_eq_true (by omega : 0 ≤ x.f3)]
    rfl
theorem good_f (c a wt rt : Int) (ls : List S39) (ns : List S41) (hx : ∀ x ∈ ns, x.f6 ≤ 9223372036854775807) (hl : ls.length ≤ 1073741824) (hn : ns.length ≤ 1073741824) :
    trellislaw33_good.f (ls.length + ns.length + 4) c a wt ls ns rt = some (keptB c a rt ls ns) := by
  have h2 := good_l0 ls ns hx hl hn c a wt rt ls.length 0 (ls.length + ns.length + 3) (by omega) (by omega)
  rw [List.drop_zero] at h2
  unfold trellislaw33_good.f keptB
  simp only [trellislaw33_good.j0]
  by_cases a1 : c < 0
  · rw [if_pos a1, if_pos trivial, decide_eq_false (by omega : ¬ 0 ≤ c)]; rfl
  rw [if_neg a1, decide_eq_true (by omega : 0 ≤ c)]
  by_cases a2 : a < 0
  · rw [if_pos a2, if_pos trivial, decide_eq_false (by omega : ¬ 0 ≤ a)]; rfl
  rw [if_neg a2, decide_eq_true (by omega : 0 ≤ a)]
  by_cases a3 : rt < 0
  · rw [decide_eq_true a3, if_pos rfl, decide_eq_false (by omega : ¬ 0 ≤ rt)]; rfl
  rw [decide_eq_false a3, if_neg (by decide), decide_eq_true (by omega : 0 ≤ rt)]
  exact h2
theorem C_one {α : Type} {d : Kd α} {w : World} {g e : Nat} {cells : Array Value} {x : α} (hg : w.heap[g]? = some (.cells cells e (0, 0))) (hK : d.K w x cells.toList) : d.C w (some ⟨g, 0, none⟩) 1 [x] := by
  refine ⟨rfl, by omega, fun _ => ⟨_, rfl, fun j p hj => ?_⟩⟩
  obtain ⟨hj1, hj2⟩ := List.getElem?_eq_some_iff.1 hj
  obtain rfl : j = 0 := by simpa using hj1
  obtain rfl : x = p := by simpa using hj2
  refine ⟨cells.toList, d.K_len hK, hK, fun i u hu => ?_⟩
  rw [Go.Proofs.YtjgccbpdpnpfjaaDoorW.PrintWords.add_plain, blk_cell hg]
  simpa using hu
end Go.Proofs.YtjgccbpdpnpfjaaDoor.ST
