/- StoreDecodes: the walk of the law (so far: Decode, told, the reference's Decode, the comparison). -/
import Derived.Test.YtjgccbpdpnpfjaaDoorStoreRDec
import Derived.Test.YtjgccbpdpnpfjaaDoorStoreTold
import Derived.Test.YtjgccbpdpnpfjaaDoorStoreKept
namespace Go.Proofs.YtjgccbpdpnpfjaaDoor.ST
open Go.RowKit Go.WideShapes Go.ChangeShapes Go.Proofs.YtjgccbpdpnpfjaaDoorW.PrintWords Go.Proofs.YtjgccbpdpnpfjaaDoorW.PrintLast Go.Proofs.YtjgccbpdpnpfjaaDoorW.PrintMore Go.Proofs.YtjgccbpdpnpfjaaDoor.PAll
set_option linter.unusedVariables false

theorem rdList_len {α : Type} {b : ByteArray} {f : Rd α} (hg : Good b f) (he : Eats b f) : ∀ n acc a o, a ≤ b.size → acc.length ≤ b.size + 1 → (o = true → acc.length ≤ a) → (rdList f n acc a o).1.length ≤ b.size + 1 := by
  intro n
  induction n with
  | zero => intro acc a o ha h1 h2; exact h1
  | succ n ih =>
    intro acc a o ha h1 h2
    cases o with
    | false => rw [rdList_no]; exact h1
    | true =>
      rw [rdList, if_pos rfl]
      have g1 := hg a true ha
      have e1 := he a true ha
      have h3 := h2 rfl
      refine ih _ _ _ g1.2.1 (by rw [List.length_append, List.length_singleton]; omega) (fun h => ?_)
      rw [List.length_append, List.length_singleton]
      have := e1 h
      omega
theorem leaves_len (b : ByteArray) {a : Nat} (o : Bool) (ha : a ≤ b.size) : (rdLeaves b a o).1.length ≤ b.size + 1 := rdList_len (good_leaf b) (eats_leaf b) _ _ _ _ (good_C b a o ha).2.1 (by simp) (by simp)
theorem nodes_len (b : ByteArray) {a : Nat} (o : Bool) (ha : a ≤ b.size) : (rdNodes b a o).1.length ≤ b.size + 1 := rdList_len (good_node b) (eats_node b) _ _ _ _ (good_C b a o ha).2.1 (by simp) (by simp)
theorem res_len (b : ByteArray) {a : Nat} (o : Bool) (ha : a ≤ b.size) : (rdRes b a o).1.ls.length ≤ b.size + 1 ∧ (rdRes b a o).1.ns.length ≤ b.size + 1 := by
  have h1 := (good_C b a o ha).2.1
  have h2 := (good_C b _ (rdC b a o).2.2 h1).2.1
  have h3 := (good_C b _ (rdC b (rdC b a o).2.1 (rdC b a o).2.2).2.2 h2).2.1
  have h4 := (good_W b _ (rdC b (rdC b (rdC b a o).2.1 (rdC b a o).2.2).2.1 (rdC b (rdC b a o).2.1 (rdC b a o).2.2).2.2).2.2 h3).2.1
  exact ⟨leaves_len b _ h4, nodes_len b _ (good_leaves b _ _ h4).2.1⟩
theorem out_len (b d t : ByteArray) : (outOf b d t).ls.length ≤ b.size + 1 ∧ (outOf b d t).ns.length ≤ b.size + 1 := by
  unfold outOf
  split
  · have h1 := (good_B 83 83 b 0 true (Nat.zero_le _)).2.1
    have h2 := (good_B 1 1 b _ (rdB 83 83 b 0 true).2.2 h1).2.1
    have h3 := (good_W b _ (rdB 1 1 b (rdB 83 83 b 0 true).2.1 (rdB 83 83 b 0 true).2.2).2.2 h2).2.1
    have h4 := (good_W b _ (rdW b (rdB 1 1 b (rdB 83 83 b 0 true).2.1 (rdB 83 83 b 0 true).2.2).2.1 (rdB 1 1 b (rdB 83 83 b 0 true).2.1 (rdB 83 83 b 0 true).2.2).2.2).2.2 h3).2.1
    exact res_len b _ h4
  · exact ⟨Nat.zero_le _, Nat.zero_le _⟩
theorem code_lt (b d t : ByteArray) : (verdict b d t).1 = 0 ∨ (verdict b d t).1 = 330 ∨ (verdict b d t).1 = 331 := by
  unfold verdict
  split
  · exact .inr (.inl rfl)
  · split
    · exact .inr (.inl rfl)
    · split
      · exact .inr (.inr rfl)
      · split
        · exact .inr (.inr rfl)
        · exact .inl rfl
abbrev GV : Value := .iface 100 (.agg #[.pointer (some ⟨1, 30, none⟩)])
theorem verdict_at (b d t : ByteArray) (h : (verdict b d t).1 = 0) : verdict b d t = (0, 0) := by
  unfold verdict at h ⊢
  split at h
  · cases h
  · split at h
    · cases h
    · split at h
      · cases h
      · split at h
        · cases h
        · rename_i h1 h2 h3 h4
          rw [if_neg h1, if_neg h2, if_neg h3, if_neg h4]
/-- told, of whatever Decode has answered -/
theorem told_any {w0 w : World} {er : Value} {b d t : ByteArray} (h : ErrIs w0.heap.size w er (verdict b d t)) (hg : w.cell? ⟨0, 0, none⟩ = some GV) :
    Calls Tryd.prog 9 #[er] w fun e w' => e = .returned (.tuple #[.int .i64 ((verdict b d t).1 : Int), .int .i64 ((verdict b d t).2 : Int)]) ∧ Below w.heap.size w w' := by
  rcases h with ⟨h1, rfl⟩ | ⟨h1, ge, rfl, h2, h3⟩
  · rw [verdict_at b d t h1]
    refine (told_nil w).mono ?_
    rintro e w' ⟨rfl, rfl⟩
    exact ⟨rfl, Below.refl _ _⟩
  · exact told_err ge _ _ w h3 hg
theorem ErrIs.moved {B : Nat} {w w1 : World} {er : Value} {v : Nat × Nat} (h : ErrIs B w er v) (hb : Below w.heap.size w w1) : ErrIs B w1 er v := by
  rcases h with h | ⟨h1, ge, h2, h3, h4⟩
  · exact .inl h
  · exact .inr ⟨h1, ge, h2, h3, (hb.block _ (blk_lt h4)).trans h4⟩
theorem R_opens {α : Type} {d : Kd α} {e base : Nat} {w : World} {A : Option Addr} {n c : Nat} {xs : List α} (h : d.R e w base T (.slice A n c) xs) : d.C w A xs.length xs ∧ xs.length ≤ c := ⟨(Kd.R_reads' h).2.2, (Kd.R_reads' h).1 ▸ (Kd.R_reads' h).2.1⟩
theorem R_otherT {α : Type} {d : Kd α} {e base gA : Nat} {t : TypeId} {w w1 : World} {v : Value} {xs : List α} {cs : Array Value} (h : d.R e w base T v xs) (hb : w.heap[gA]? = some (.cells cs t (0, 0))) (ht : ∀ q, q ∈ e :: d.E → q ≠ t) (hg : w.grownBy w1 (some gA)) : d.R e w1 base T v xs :=
  Kd.R_mono (Kd.R_grown (Kd.R_types h hb ht) hg (fun k hk he => hk.2 (by injection he))) (fun _ _ => trivial)
theorem R_otherB {α : Type} {d : Kd α} {e base gA : Nat} {w w1 : World} {v : Value} {xs : List α} (h : d.R e w base T v xs) (hlt : gA < base) (hg : w.grownBy w1 (some gA)) : d.R e w1 base T v xs :=
  Kd.R_mono (Kd.R_grown (Kd.R_bound h) hg (fun k hk he => by injection he with he; have := hk.2.1; omega)) (fun _ _ => trivial)
theorem blk_ty {w w1 : World} {g gA : Nat} {t t' : TypeId} {cs cs' : Array Value} (h : w.heap[g]? = some (.cells cs t (0, 0))) (hb : w.heap[gA]? = some (.cells cs' t' (0, 0))) (hne : t ≠ t') (hg : w.grownBy w1 (some gA)) : w1.heap[g]? = some (.cells cs t (0, 0)) := by
  refine (hg.block g (blk_lt h) (fun e => ?_)).trans h
  injection e with e
  subst e
  rw [h] at hb
  injection hb with hb
  injection hb with _ hb
  exact hne hb
theorem add0 (g m : Nat) : (⟨g, 0, none⟩ : Addr).add m = ⟨g, m, none⟩ := by
  unfold Addr.add
  split <;> simp_all
theorem put_any {α : Type} {d : Kd α} {e base g n c : Nat} {W w0 : World} {xs : List α} (h : d.R e W base T (.slice (some ⟨g, 0, none⟩) n c) xs) (z : α) (i : Nat) (hi : i < n) (x : α) {seg : List Value} (hs : seg.length = d.sz) (hM : d.M W base (fun _ => False) x seg) (HB : Below base w0 W) :
    d.R e (W.setCells g (i * d.sz) seg) base T (.slice (some ⟨g, 0, none⟩) n c) (xs.set i x) ∧ W.grownBy (W.setCells g (i * d.sz) seg) (some g) ∧ Below base w0 (W.setCells g (i * d.sz) seg) := by
  have hn := (Kd.R_reads' h).1
  have hC := (Kd.R_reads' h).2.2
  rw [← hn] at hC
  obtain ⟨ad, cs, he, hcl, _, hcc⟩ := Kd.C_get hC z (i : Int) (by omega) (by omega)
  injection he with he
  subst he
  have h1 := Kd.R_seg h (i : Int) (by omega) (by omega) (c := cs) (seg := seg) (j := 0) (x' := x) (okp := fun _ => False) hcl (fun j u hj => by rw [← add0]; exact hcc j u hj) (by omega) (by rw [Nat.zero_add, hs, ← hcl, List.drop_length, List.take_zero, List.append_nil, List.nil_append]; exact hM) (fun _ hk => hk.elim)
  rw [Int.toNat_natCast, Nat.add_zero] at h1
  refine ⟨h1.1, h1.2, ?_⟩
  have hbg : base ≤ g := by
    obtain ⟨_, inner, ho, _⟩ := h
    exact own_base ho g rfl
  exact HB.trans ⟨h1.2.os, h1.2.tape, h1.2.output, h1.2.size, fun k hk => setCells_far seg _ k (by omega)⟩
section
variable {P : Program} {ops : Array Oper} {rest : List Oper} {o : Oper} {a : Act} {Q : Exit → Act → World → Prop}
/-- append(v, x, y), behind 'at_builtin': the length, and what else is written. -/
theorem append2_event {w0 W : World} (base : Nat) (hgd : o.guard = none) (s x : Operand) (t e : TypeId) (z : Value) (size bytes : Nat)
    (ho : o.op = .call { callee := .builtin .append, args := #[s, x], argTypes := #[t, t] })
    (ht : P.underlying t = some (.slice e)) (hinfo : (P.info? e).map (fun i => (i.zero, i.size, i.bytes)) = some (some z, size, bytes)) (hz : z.cells.size = size) (hs0 : 0 < size) (hb0 : 0 < bytes)
    (v : Value) (n : Nat) (xs ys : List Value) (hs : a.eval s = v) (hx : a.eval x = .slice (some ⟨W.heap.size, 0, none⟩) 2 2) (hys : ys.length = 2 * size) (h1 : ∀ u ∈ ys, u.oneCell' = true)
    (HO : W.ownsRow base e size v n xs) (HB : Below base w0 W) (hbase : base ≤ W.heap.size) (hl : (n + 2) * bytes ≤ 140737488355328)
    (h : ∀ A c w1, Below base w0 w1 → W.grownBy w1 v.ownBlock → wpList P ops Q rest (a.put o.dst (.slice A (n + 2) c)) w1) :
    wpList P ops Q (o :: rest) a (W.alloc (.cells ys.toArray e)) := by
  obtain ⟨i0, hi, hzz⟩ := Option.map_eq_some_iff.1 hinfo
  simp only [Prod.mk.injEq] at hzz
  obtain ⟨hz0, hz1, hz2⟩ := hzz
  have hlen : n + 2 ≤ 140737488355328 := Nat.le_trans (Nat.le_mul_of_pos_right _ hb0) hl
  refine wpList_append_own_at (W.alloc (.cells ys.toArray e)) hgd s x t ho base e i0 z size bytes ht hi hz0 hz1 hz2 hz hs0 v n xs hs (HO.alloc _) ⟨W.heap.size, 0, none⟩ 2 2 ys hx hys
    (by simpa using World.news_of_block (cs := ys.toArray) (t := e) (fr := (0, 0)) (heap_alloc_new W (.cells ys.toArray e))) h1 (by simp only [maxLen]; omega) hl (by simp; omega) ?_
  intro v1 w1 hown hg _ hat
  have hv : ∃ A c, v1 = .slice A (n + 2) c := by
    rcases hown.2 with ⟨_, h0⟩ | ⟨g, cap, cur, h0, _⟩
    · omega
    · exact ⟨_, _, h0⟩
  obtain ⟨A, c, rfl⟩ := hv
  exact h A c w1 ((HB.alloc hbase _).grown hg (by simp; omega) (own_base HO)) (World.grownBy.trans (World.grownBy_alloc W _ _) hg)
end
/-- what stands when the law begins to write over the first answer -/
structure Q (b d t : ByteArray) (w wr : World) (g7 g11 g14 : Nat) (A3 A4 A5 A6 A7 A8 : Option Addr) (c3 c4 c5 c6 c7 c8 B5 B7 : Nat) (xs : List S39) (ys : List S41) : Prop where
  r3 : Kd.R k39 39 wr w.heap.size T (.slice A3 (outOf b d t).ls.length c3) xs
  r4 : Kd.R k41 41 wr w.heap.size T (.slice A4 (outOf b d t).ns.length c4) ys
  r5 : Kd.R k39 39 wr B5 T (.slice A5 (outOf b d t).ls.length c5) (outOf b d t).ls
  r6 : Kd.R k41 41 wr B5 T (.slice A6 (outOf b d t).ns.length c6) (outOf b d t).ns
  r7 : Kd.R k39 39 wr B7 T (.slice A7 (outOf b d t).ls.length c7) (outOf b d t).ls
  r8 : Kd.R k41 41 wr B7 T (.slice A8 (outOf b d t).ns.length c8) (outOf b d t).ns
  k7 : wr.heap[g7]? = some (.cells #[.int .i64 ((outOf b d t).c : Int), .int .i64 ((outOf b d t).at_ : Int), .int .u64 ((outOf b d t).wt : Int), .slice A3 (outOf b d t).ls.length c3, .slice A4 (outOf b d t).ns.length c4, .int .i64 ((outOf b d t).rt : Int)] 28 (0, 0))
  k11 : wr.heap[g11]? = some (.cells #[.int .i64 ((outOf b d t).c : Int), .int .i64 ((outOf b d t).at_ : Int), .int .u64 ((outOf b d t).wt : Int), .slice A5 (outOf b d t).ls.length c5, .slice A6 (outOf b d t).ns.length c6, .int .i64 ((outOf b d t).rt : Int)] 28 (0, 0))
  k14 : wr.heap[g14]? = some (.cells #[.int .i64 ((outOf b d t).c : Int), .int .i64 ((outOf b d t).at_ : Int), .int .u64 ((outOf b d t).wt : Int), .slice A7 (outOf b d t).ls.length c7, .slice A8 (outOf b d t).ns.length c8, .int .i64 ((outOf b d t).rt : Int)] 28 (0, 0))
  below : Below w.heap.size w wr
  l3 : ∀ k, (Value.slice A3 (outOf b d t).ls.length c3).ownBlock = some k → k < B5 ∧ k < B7
  l4 : ∀ k, (Value.slice A4 (outOf b d t).ns.length c4).ownBlock = some k → k < B5 ∧ k < B7
section
variable {b d t : ByteArray} {w wr w1 : World} {g7 g11 g14 gA : Nat} {A3 A4 A5 A6 A7 A8 : Option Addr} {c3 c4 c5 c6 c7 c8 B5 B7 : Nat} {xs xs' : List S39} {ys ys' : List S41}
theorem Q.put3 (h : Q b d t w wr g7 g11 g14 A3 A4 A5 A6 A7 A8 c3 c4 c5 c6 c7 c8 B5 B7 xs ys) (hv : (Value.slice A3 (outOf b d t).ls.length c3).ownBlock = some gA) (hr : Kd.R k39 39 w1 w.heap.size T (.slice A3 (outOf b d t).ls.length c3) xs') (hg : wr.grownBy w1 (some gA)) (hb : Below w.heap.size w w1) :
    Q b d t w w1 g7 g11 g14 A3 A4 A5 A6 A7 A8 c3 c4 c5 c6 c7 c8 B5 B7 xs' ys := by
  obtain ⟨cs, hc⟩ := own_typed (Kd.R_own h.r3).choose_spec gA hv
  obtain ⟨l5, l7⟩ := h.l3 gA hv
  exact ⟨hr, R_otherT h.r4 hc (by decide) hg, R_otherB h.r5 l5 hg, R_otherB h.r6 l5 hg, R_otherB h.r7 l7 hg, R_otherB h.r8 l7 hg, blk_ty h.k7 hc (by decide) hg, blk_ty h.k11 hc (by decide) hg, blk_ty h.k14 hc (by decide) hg, hb, h.l3, h.l4⟩
theorem Q.put4 (h : Q b d t w wr g7 g11 g14 A3 A4 A5 A6 A7 A8 c3 c4 c5 c6 c7 c8 B5 B7 xs ys) (hv : (Value.slice A4 (outOf b d t).ns.length c4).ownBlock = some gA) (hr : Kd.R k41 41 w1 w.heap.size T (.slice A4 (outOf b d t).ns.length c4) ys') (hg : wr.grownBy w1 (some gA)) (hb : Below w.heap.size w w1) :
    Q b d t w w1 g7 g11 g14 A3 A4 A5 A6 A7 A8 c3 c4 c5 c6 c7 c8 B5 B7 xs ys' := by
  obtain ⟨cs, hc⟩ := own_typed (Kd.R_own h.r4).choose_spec gA hv
  obtain ⟨l5, l7⟩ := h.l4 gA hv
  exact ⟨R_otherT h.r3 hc (by decide) hg, hr, R_otherB h.r5 l5 hg, R_otherB h.r6 l5 hg, R_otherB h.r7 l7 hg, R_otherB h.r8 l7 hg, blk_ty h.k7 hc (by decide) hg, blk_ty h.k11 hc (by decide) hg, blk_ty h.k14 hc (by decide) hg, hb, h.l3, h.l4⟩
end
theorem R_none {α : Type} {d : Kd α} {e base : Nat} {w w1 : World} {v : Value} {xs : List α} (h : d.R e w base T v xs) (hg : w.grownBy w1 none) : d.R e w1 base T v xs := Kd.R_grown h hg (fun k _ he => by cases he)
theorem blk_none {w w1 : World} {g : Nat} {o : Obj} (h : w.heap[g]? = some o) (hg : w.grownBy w1 none) : w1.heap[g]? = some o := (hg.block g (blk_lt h) (by simp)).trans h
structure Q3 (b d t : ByteArray) (w wr : World) (g7 g11 g14 : Nat) (A3 A4 A5 A6 A7 A8 : Option Addr) (c3 c4 c5 c6 c7 c8 B5 B7 : Nat) : Prop where
  r5 : Kd.R k39 39 wr B5 T (.slice A5 (outOf b d t).ls.length c5) (outOf b d t).ls
  r6 : Kd.R k41 41 wr B5 T (.slice A6 (outOf b d t).ns.length c6) (outOf b d t).ns
  r7 : Kd.R k39 39 wr B7 T (.slice A7 (outOf b d t).ls.length c7) (outOf b d t).ls
  r8 : Kd.R k41 41 wr B7 T (.slice A8 (outOf b d t).ns.length c8) (outOf b d t).ns
  k7 : wr.heap[g7]? = some (.cells #[.int .i64 ((outOf b d t).c : Int), .int .i64 ((outOf b d t).at_ : Int), .int .u64 ((outOf b d t).wt : Int), .slice A3 (outOf b d t).ls.length c3, .slice A4 (outOf b d t).ns.length c4, .int .i64 ((outOf b d t).rt : Int)] 28 (0, 0))
  k11 : wr.heap[g11]? = some (.cells #[.int .i64 ((outOf b d t).c : Int), .int .i64 ((outOf b d t).at_ : Int), .int .u64 ((outOf b d t).wt : Int), .slice A5 (outOf b d t).ls.length c5, .slice A6 (outOf b d t).ns.length c6, .int .i64 ((outOf b d t).rt : Int)] 28 (0, 0))
  k14 : wr.heap[g14]? = some (.cells #[.int .i64 ((outOf b d t).c : Int), .int .i64 ((outOf b d t).at_ : Int), .int .u64 ((outOf b d t).wt : Int), .slice A7 (outOf b d t).ls.length c7, .slice A8 (outOf b d t).ns.length c8, .int .i64 ((outOf b d t).rt : Int)] 28 (0, 0))
  below : Below w.heap.size w wr
structure Q2 (b d t : ByteArray) (w wr : World) (g7 g11 g14 : Nat) (A3 A4 A5 A6 A7 A8 : Option Addr) (c3 c4 c5 c6 c7 c8 B5 B7 : Nat) (ys : List S41) : Prop where
  q : Q3 b d t w wr g7 g11 g14 A3 A4 A5 A6 A7 A8 c3 c4 c5 c6 c7 c8 B5 B7
  r4 : Kd.R k41 41 wr w.heap.size T (.slice A4 (outOf b d t).ns.length c4) ys
  l4 : ∀ k, (Value.slice A4 (outOf b d t).ns.length c4).ownBlock = some k → k < B5 ∧ k < B7
section
variable {b d t : ByteArray} {w wr w1 : World} {g7 g11 g14 gA : Nat} {A3 A4 A5 A6 A7 A8 : Option Addr} {c3 c4 c5 c6 c7 c8 B5 B7 : Nat} {xs xs' : List S39} {ys ys' : List S41}
theorem Q.app3 (h : Q b d t w wr g7 g11 g14 A3 A4 A5 A6 A7 A8 c3 c4 c5 c6 c7 c8 B5 B7 xs ys) (hg : wr.grownBy w1 (Value.slice A3 (outOf b d t).ls.length c3).ownBlock) (hb : Below w.heap.size w w1) : Q2 b d t w w1 g7 g11 g14 A3 A4 A5 A6 A7 A8 c3 c4 c5 c6 c7 c8 B5 B7 ys := by
  cases hv : (Value.slice A3 (outOf b d t).ls.length c3).ownBlock with
  | none =>
    rw [hv] at hg
    exact ⟨⟨R_none h.r5 hg, R_none h.r6 hg, R_none h.r7 hg, R_none h.r8 hg, blk_none h.k7 hg, blk_none h.k11 hg, blk_none h.k14 hg, hb⟩, R_none h.r4 hg, h.l4⟩
  | some gA =>
    rw [hv] at hg
    obtain ⟨cs, hc⟩ := own_typed (Kd.R_own h.r3).choose_spec gA hv
    obtain ⟨l5, l7⟩ := h.l3 gA hv
    exact ⟨⟨R_otherB h.r5 l5 hg, R_otherB h.r6 l5 hg, R_otherB h.r7 l7 hg, R_otherB h.r8 l7 hg, blk_ty h.k7 hc (by decide) hg, blk_ty h.k11 hc (by decide) hg, blk_ty h.k14 hc (by decide) hg, hb⟩, R_otherT h.r4 hc (by decide) hg, h.l4⟩
theorem Q2.app4 (h : Q2 b d t w wr g7 g11 g14 A3 A4 A5 A6 A7 A8 c3 c4 c5 c6 c7 c8 B5 B7 ys) (hg : wr.grownBy w1 (Value.slice A4 (outOf b d t).ns.length c4).ownBlock) (hb : Below w.heap.size w w1) : Q3 b d t w w1 g7 g11 g14 A3 A4 A5 A6 A7 A8 c3 c4 c5 c6 c7 c8 B5 B7 := by
  cases hv : (Value.slice A4 (outOf b d t).ns.length c4).ownBlock with
  | none =>
    rw [hv] at hg
    exact ⟨R_none h.q.r5 hg, R_none h.q.r6 hg, R_none h.q.r7 hg, R_none h.q.r8 hg, blk_none h.q.k7 hg, blk_none h.q.k11 hg, blk_none h.q.k14 hg, hb⟩
  | some gA =>
    rw [hv] at hg
    obtain ⟨cs, hc⟩ := own_typed (Kd.R_own h.r4).choose_spec gA hv
    obtain ⟨l5, l7⟩ := h.l4 gA hv
    exact ⟨R_otherB h.q.r5 l5 hg, R_otherB h.q.r6 l5 hg, R_otherB h.q.r7 l7 hg, R_otherB h.q.r8 l7 hg, blk_ty h.q.k7 hc (by decide) hg, blk_ty h.q.k11 hc (by decide) hg, blk_ty h.q.k14 hc (by decide) hg, hb⟩
theorem Q2.own (h : Q2 b d t w wr g7 g11 g14 A3 A4 A5 A6 A7 A8 c3 c4 c5 c6 c7 c8 B5 B7 ys) : ∃ inner, wr.ownsRow w.heap.size 41 k41.sz (.slice A4 (outOf b d t).ns.length c4) (outOf b d t).ns.length inner := by
  obtain ⟨inner, hi⟩ := Kd.R_own h.r4
  rw [← (Kd.R_reads' h.r4).1] at hi
  exact ⟨inner, hi⟩
end
set_option maxRecDepth 100000 in
set_option maxHeartbeats 8000000 in
theorem StoreDecodes_calls (b d t : ByteArray) (w : World) (hb : b.size ≤ 1048576) (hd1 : d.size ≤ 1048576) (ht1 : t.size ≤ 1048576) (hg : w.cell? ⟨0, 0, none⟩ = some GV) :
    Calls Tryd.prog 3 #[.string b, .string d, .string t] w fun e w' => e = .returned (.bool true) ∧ Below w.heap.size w w' := by
  have HBS := Aside0.mk hb
  have HDS := Aside0.mk hd1
  have HTS := Aside0.mk ht1
  have HG := Aside0.mk hg
  have HLn := Aside0.mk (out_len b d t)
  clear hb hd1 ht1 hg
  go_enter Tryd.func3, Tryd.ntmps3
  go_wp2_with fail
  refine (Decode_calls b d t w HBS.out HDS.out HTS.out).mono ?_
  rintro e w1 ⟨v3, v4, er, rfl, hB, hR3, hR4, hE⟩
  obtain ⟨A3, c3, rfl⟩ := Kd.R_slice hR3
  obtain ⟨A4, c4, rfl⟩ := Kd.R_slice hR4
  have H3 := Aside0.mk hR3
  have H4 := Aside0.mk hR4
  have HE := Aside0.mk hE
  have HB1 := Aside0.mk hB
  clear hB hR3 hR4 hE
  go_wp2_with fail
  have hba : Below w1.heap.size w1 (w1.alloc (.cells #[.int .i64 ((outOf b d t).c : Int), .int .i64 ((outOf b d t).at_ : Int), .int .u64 ((outOf b d t).wt : Int), .slice A3 (outOf b d t).ls.length c3, .slice A4 (outOf b d t).ns.length c4, .int .i64 ((outOf b d t).rt : Int)] 28 (0, 0))) := below_alloc (Below.refl _ _) _
  have HB2 := Aside0.mk (HB1.out.trans (hba.mono HB1.out.size))
  have H3a := Aside0.mk (Kd.R_below H3.out hba)
  have H4a := Aside0.mk (Kd.R_below H4.out hba)
  have HEa := Aside0.mk (HE.out.moved hba)
  have K7 := Aside0.mk (heap_alloc_new w1 (.cells #[.int .i64 ((outOf b d t).c : Int), .int .i64 ((outOf b d t).at_ : Int), .int .u64 ((outOf b d t).wt : Int), .slice A3 (outOf b d t).ls.length c3, .slice A4 (outOf b d t).ns.length c4, .int .i64 ((outOf b d t).rt : Int)] 28 (0, 0)))
  have HLo : Aside0 (w.heap.size ≤ w1.heap.size) := ⟨HB1.out.size⟩
  generalize w1.alloc (.cells #[.int .i64 ((outOf b d t).c : Int), .int .i64 ((outOf b d t).at_ : Int), .int .u64 ((outOf b d t).wt : Int), .slice A3 (outOf b d t).ls.length c3, .slice A4 (outOf b d t).ns.length c4, .int .i64 ((outOf b d t).rt : Int)] 28 (0, 0)) = w2 at HB2 H3a H4a HEa K7 ⊢
  generalize w1.heap.size = g7 at K7 HLo ⊢
  clear hba H3 H4 HE HB1
  refine (told_any HEa.out (pw_cell_below HB2.out HG.out)).mono ?_
  rintro e w3 ⟨rfl, hB⟩
  have HB3 := Aside0.mk (HB2.out.trans (hB.mono HB2.out.size))
  have H3b := Aside0.mk (Kd.R_below H3a.out hB)
  have H4b := Aside0.mk (Kd.R_below H4a.out hB)
  have K7b := Aside0.mk ((hB.block _ (blk_lt K7.out)).trans K7.out)
  clear hB HB2 H3a H4a K7 HEa
  go_wp2_with fail
  refine (RDecode_calls b d t w3 HBS.out HDS.out HTS.out).mono ?_
  rintro e w4 ⟨v5, v6, rfl, hB, hR5, hR6⟩
  obtain ⟨A5, c5, rfl⟩ := Kd.R_slice hR5
  obtain ⟨A6, c6, rfl⟩ := Kd.R_slice hR6
  have HB4 := Aside0.mk (HB3.out.trans (hB.mono HB3.out.size))
  have H3c := Aside0.mk (Kd.R_below H3b.out hB)
  have H4c := Aside0.mk (Kd.R_below H4b.out hB)
  have K7c := Aside0.mk ((hB.block _ (blk_lt K7b.out)).trans K7b.out)
  have H5 := Aside0.mk hR5
  have H6 := Aside0.mk hR6
  have HZ4 : Aside0 (w3.heap.size ≤ w4.heap.size) := ⟨hB.size⟩
  have HO3 : Aside0 (∀ k, (Value.slice A3 (outOf b d t).ls.length c3).ownBlock = some k → k < w3.heap.size) := ⟨fun k hk => own_lt (Kd.R_own H3b.out).choose_spec k hk⟩
  have HO4 : Aside0 (∀ k, (Value.slice A4 (outOf b d t).ns.length c4).ownBlock = some k → k < w3.heap.size) := ⟨fun k hk => own_lt (Kd.R_own H4b.out).choose_spec k hk⟩
  clear hB hR5 hR6 HB3 H3b H4b K7b
  have k7 := K7c.out
  have p0 : w4.cell? ⟨g7, 0, none⟩ = some (.int .i64 ((outOf b d t).c : Int)) := (blk_cell k7 0).trans rfl
  have p1 : w4.cell? ⟨g7, 1, none⟩ = some (.int .i64 ((outOf b d t).at_ : Int)) := (blk_cell k7 1).trans rfl
  have p2 : w4.cell? ⟨g7, 2, none⟩ = some (.int .u64 ((outOf b d t).wt : Int)) := (blk_cell k7 2).trans rfl
  have p3 : w4.cell? ⟨g7, 3, none⟩ = some (.slice A3 (outOf b d t).ls.length c3) := (blk_cell k7 3).trans rfl
  have p4 : w4.cell? ⟨g7, 4, none⟩ = some (.slice A4 (outOf b d t).ns.length c4) := (blk_cell k7 4).trans rfl
  have p5 : w4.cell? ⟨g7, 5, none⟩ = some (.int .i64 ((outOf b d t).rt : Int)) := (blk_cell k7 5).trans rfl
  have lg7 := blk_lt k7
  clear k7
  go_wp2_with fail
  have hba : Below w4.heap.size w4 (w4.alloc (.cells #[.int .i64 ((outOf b d t).c : Int), .int .i64 ((outOf b d t).at_ : Int), .int .u64 ((outOf b d t).wt : Int), .slice A5 (outOf b d t).ls.length c5, .slice A6 (outOf b d t).ns.length c6, .int .i64 ((outOf b d t).rt : Int)] 28 (0, 0))) := below_alloc (Below.refl _ _) _
  have HB5 := Aside0.mk (HB4.out.trans (hba.mono HB4.out.size))
  have H3d := Aside0.mk (Kd.R_below H3c.out hba)
  have H4d := Aside0.mk (Kd.R_below H4c.out hba)
  have H5d := Aside0.mk (Kd.R_below H5.out hba)
  have H6d := Aside0.mk (Kd.R_below H6.out hba)
  have K7d := Aside0.mk ((hba.block _ (blk_lt K7c.out)).trans K7c.out)
  have K11 := Aside0.mk (heap_alloc_new w4 (.cells #[.int .i64 ((outOf b d t).c : Int), .int .i64 ((outOf b d t).at_ : Int), .int .u64 ((outOf b d t).wt : Int), .slice A5 (outOf b d t).ls.length c5, .slice A6 (outOf b d t).ns.length c6, .int .i64 ((outOf b d t).rt : Int)] 28 (0, 0)))
  have HZ5 : Aside0 (w3.heap.size ≤ (w4.alloc (.cells #[.int .i64 ((outOf b d t).c : Int), .int .i64 ((outOf b d t).at_ : Int), .int .u64 ((outOf b d t).wt : Int), .slice A5 (outOf b d t).ls.length c5, .slice A6 (outOf b d t).ns.length c6, .int .i64 ((outOf b d t).rt : Int)] 28 (0, 0))).heap.size) := ⟨Nat.le_trans HZ4.out hba.size⟩
  clear p0 p1 p2 p3 p4 p5 lg7 HZ4
  generalize w4.alloc (.cells #[.int .i64 ((outOf b d t).c : Int), .int .i64 ((outOf b d t).at_ : Int), .int .u64 ((outOf b d t).wt : Int), .slice A5 (outOf b d t).ls.length c5, .slice A6 (outOf b d t).ns.length c6, .int .i64 ((outOf b d t).rt : Int)] 28 (0, 0)) = w5 at HB5 H3d H4d H5d H6d K7d K11 HZ5 ⊢
  generalize w4.heap.size = g11 at K11 ⊢
  clear hba H3c H4c H5 H6 K7c HB4
  refine (trellislaw33_same.calls _ _ _ _ A3 c3 (outOf b d t).ls A4 c4 (outOf b d t).ns _ _ _ _ A5 c5 (outOf b d t).ls A6 c6 (outOf b d t).ns _ true w5 (R_opens H3d.out).1 (R_opens H3d.out).2 (R_opens H4d.out).1 (R_opens H4d.out).2 (R_opens H5d.out).1 (R_opens H5d.out).2 (R_opens H6d.out).1 (R_opens H6d.out).2 (same_f _ _ _ _ _ _ (by have := HLn.out.1; have := HBS.out; omega) (by have := HLn.out.2; have := HBS.out; omega))).mono ?_
  rintro e w6 ⟨rfl, hB⟩
  have HB6 := Aside0.mk (HB5.out.trans (hB.mono HB5.out.size))
  have HZ6 : Aside0 (w3.heap.size ≤ w6.heap.size) := ⟨Nat.le_trans HZ5.out hB.size⟩
  have H3e := Aside0.mk (Kd.R_below H3d.out hB)
  have H4e := Aside0.mk (Kd.R_below H4d.out hB)
  have H5e := Aside0.mk (Kd.R_below H5d.out hB)
  have H6e := Aside0.mk (Kd.R_below H6d.out hB)
  have K7e := Aside0.mk ((hB.block _ (blk_lt K7d.out)).trans K7d.out)
  have K11e := Aside0.mk ((hB.block _ (blk_lt K11.out)).trans K11.out)
  clear hB HB5 H3d H4d H5d H6d K7d K11
  go_wp2_with fail
  refine (Decode_calls b d t w6 HBS.out HDS.out HTS.out).mono ?_
  rintro e w7 ⟨v7, v8, er2, rfl, hB, hR7, hR8, _⟩
  obtain ⟨A7, c7, rfl⟩ := Kd.R_slice hR7
  obtain ⟨A8, c8, rfl⟩ := Kd.R_slice hR8
  have HB7 := Aside0.mk (HB6.out.trans (hB.mono HB6.out.size))
  have H3f := Aside0.mk (Kd.R_below H3e.out hB)
  have H4f := Aside0.mk (Kd.R_below H4e.out hB)
  have H5f := Aside0.mk (Kd.R_below H5e.out hB)
  have H6f := Aside0.mk (Kd.R_below H6e.out hB)
  have K7f := Aside0.mk ((hB.block _ (blk_lt K7e.out)).trans K7e.out)
  have K11f := Aside0.mk ((hB.block _ (blk_lt K11e.out)).trans K11e.out)
  have H7 := Aside0.mk hR7
  have H8 := Aside0.mk hR8
  clear hB hR7 hR8 HB6 H3e H4e H5e H6e K7e K11e
  go_wp2_with fail
  have HQ0 : Aside0 (Q b d t w (w7.alloc (.cells #[.int .i64 ((outOf b d t).c : Int), .int .i64 ((outOf b d t).at_ : Int), .int .u64 ((outOf b d t).wt : Int), .slice A7 (outOf b d t).ls.length c7, .slice A8 (outOf b d t).ns.length c8, .int .i64 ((outOf b d t).rt : Int)] 28 (0, 0))) g7 g11 w7.heap.size A3 A4 A5 A6 A7 A8 c3 c4 c5 c6 c7 c8 w3.heap.size w6.heap.size (outOf b d t).ls (outOf b d t).ns) := by
    have hba : Below w7.heap.size w7 (w7.alloc (.cells #[.int .i64 ((outOf b d t).c : Int), .int .i64 ((outOf b d t).at_ : Int), .int .u64 ((outOf b d t).wt : Int), .slice A7 (outOf b d t).ls.length c7, .slice A8 (outOf b d t).ns.length c8, .int .i64 ((outOf b d t).rt : Int)] 28 (0, 0))) := below_alloc (Below.refl _ _) _
    exact ⟨⟨Kd.R_below H3f.out hba, Kd.R_below H4f.out hba, Kd.R_below H5f.out hba, Kd.R_below H6f.out hba, Kd.R_below H7.out hba, Kd.R_below H8.out hba, (hba.block _ (blk_lt K7f.out)).trans K7f.out, (hba.block _ (blk_lt K11f.out)).trans K11f.out, heap_alloc_new w7 _, HB7.out.trans (hba.mono HB7.out.size), fun k hk => by have := HO3.out k hk; have := HZ6.out; omega, fun k hk => by have := HO4.out k hk; have := HZ6.out; omega⟩⟩
  generalize w7.alloc (.cells #[.int .i64 ((outOf b d t).c : Int), .int .i64 ((outOf b d t).at_ : Int), .int .u64 ((outOf b d t).wt : Int), .slice A7 (outOf b d t).ls.length c7, .slice A8 (outOf b d t).ns.length c8, .int .i64 ((outOf b d t).rt : Int)] 28 (0, 0)) = w8 at HQ0 ⊢
  generalize w7.heap.size = g14 at HQ0 ⊢
  clear H3f H4f H5f H6f H7 H8 K7f K11f HB7
  go_loopw [16] (fun v16 wr => ∃ (i : Nat) (xs : List S39), v16 = .int .i64 (i : Int) ∧ i ≤ (outOf b d t).ls.length ∧ Aside0 (Q b d t w wr g7 g11 g14 A3 A4 A5 A6 A7 A8 c3 c4 c5 c6 c7 c8 w3.heap.size w6.heap.size xs (outOf b d t).ns)) (fun v16 _ => (outOf b d t).ls.length - (intOf v16).toNat)
  case atStart => exact ⟨0, _, rfl, by omega, HQ0⟩
  case round =>
    obtain ⟨i, xs, rfl, hi, HQr⟩ := hrel
    clear HQ0
    have p3 : wr.cell? ⟨g7, 3, none⟩ = some (.slice A3 (outOf b d t).ls.length c3) := (blk_cell HQr.out.k7 3).trans rfl
    have hl := HLn.out.1
    have hbs := HBS.out
    by_cases hlt : i < (outOf b d t).ls.length
    · have d1 : decide ((i : Int) < ((outOf b d t).ls.length : Int)) = true := decide_eq_true (by omega)
      have d2 : decide (i < (outOf b d t).ls.length) = true := decide_eq_true hlt
      obtain ⟨gA, rfl⟩ : ∃ gA, A3 = some ⟨gA, 0, none⟩ := by
        obtain ⟨_, inner, ho, _⟩ := HQr.out.r3
        rcases ho.2 with ⟨h1, h2⟩ | ⟨gA, cap, cur, h1, _⟩
        · injection h1 with _ h1
          omega
        · injection h1 with h1
          exact ⟨gA, h1⟩
      obtain ⟨cur, hcur⟩ := own_typed (Kd.R_own HQr.out.r3).choose_spec gA rfl
      have hC := (Kd.R_reads' HQr.out.r3).2.2
      rw [← (Kd.R_reads' HQr.out.r3).1] at hC
      obtain ⟨ad, he, y0, y1, y2, y3, y4, y5⟩ := at_T39 hC (i : Int) (by omega) (by omega)
      injection he with he
      subst he
      rw [Int.toNat_natCast, add0] at y0 y1 y2 y3 y4 y5
      have f0 := blk_frozen hcur (i * 6)
      have f1 := blk_frozen hcur (i * 6 + 1)
      have f2 := blk_frozen hcur (i * 6 + 2)
      have f3 := blk_frozen hcur (i * 6 + 3)
      have f4 := blk_frozen hcur (i * 6 + 4)
      have f5 := blk_frozen hcur (i * 6 + 5)
      have hput := put_any HQr.out.r3 z39 i hlt (⟨91, 0, 0, 0, 0, ⟨#[]⟩⟩ : S39) (seg := [.int .i64 91, .int .i64 0, .int .i64 0, .int .i64 0, .int .u64 0, .string ⟨#[]⟩]) rfl (k39_mkM _ _ _ _) HQr.out.below
      have HQ1 := Aside0.mk (HQr.out.put3 rfl hput.1 hput.2.1 hput.2.2)
      clear hC hcur hput
      go_wp2_with fail
      go_roundw
      case measure => first | omega | (simp [intOf]; omega)
      case rel => exact ⟨i + 1, _, by congr 1, by omega, HQ1⟩
    · have d1 : decide ((i : Int) < ((outOf b d t).ls.length : Int)) = false := decide_eq_false (by omega)
      have d2 : decide (i < (outOf b d t).ls.length) = false := decide_eq_false hlt
      go_wp2_with fail
      clear p3
      go_loopw [17] (fun v17 wr => ∃ (i : Nat) (ys : List S41), v17 = .int .i64 (i : Int) ∧ i ≤ (outOf b d t).ns.length ∧ Aside0 (Q b d t w wr g7 g11 g14 A3 A4 A5 A6 A7 A8 c3 c4 c5 c6 c7 c8 w3.heap.size w6.heap.size xs ys)) (fun v17 _ => (outOf b d t).ns.length - (intOf v17).toNat)
      case atStart => exact ⟨0, _, rfl, by omega, HQr⟩
      case round =>
        obtain ⟨i, ys, rfl, hi, HQs⟩ := hrel
        clear HQr
        have p4 : wr.cell? ⟨g7, 4, none⟩ = some (.slice A4 (outOf b d t).ns.length c4) := (blk_cell HQs.out.k7 4).trans rfl
        have hn := HLn.out.2
        by_cases hlt : i < (outOf b d t).ns.length
        · have d1 : decide ((i : Int) < ((outOf b d t).ns.length : Int)) = true := decide_eq_true (by omega)
          have d2 : decide (i < (outOf b d t).ns.length) = true := decide_eq_true hlt
          obtain ⟨gA, rfl⟩ : ∃ gA, A4 = some ⟨gA, 0, none⟩ := by
            obtain ⟨_, inner, ho, _⟩ := HQs.out.r4
            rcases ho.2 with ⟨h1, h2⟩ | ⟨gA, cap, cur, h1, _⟩
            · injection h1 with _ h1
              omega
            · injection h1 with h1
              exact ⟨gA, h1⟩
          obtain ⟨cur, hcur⟩ := own_typed (Kd.R_own HQs.out.r4).choose_spec gA rfl
          have hC := (Kd.R_reads' HQs.out.r4).2.2
          rw [← (Kd.R_reads' HQs.out.r4).1] at hC
          obtain ⟨ad, he, y0, y1, y2, y3, y4, y5, y6⟩ := at_T41 hC (i : Int) (by omega) (by omega)
          injection he with he
          subst he
          rw [Int.toNat_natCast, add0] at y0 y1 y2 y3 y4 y5 y6
          have f0 := blk_frozen hcur (i * 7)
          have f1 := blk_frozen hcur (i * 7 + 1)
          have f2 := blk_frozen hcur (i * 7 + 2)
          have f3 := blk_frozen hcur (i * 7 + 3)
          have f4 := blk_frozen hcur (i * 7 + 4)
          have f5 := blk_frozen hcur (i * 7 + 5)
          have f6 := blk_frozen hcur (i * 7 + 6)
          have hput := put_any HQs.out.r4 z41 i hlt (⟨⟨#[115, 112, 111, 105, 108, 116]⟩, false, ⟨#[]⟩, 0, 0, 0, 0⟩ : S41) (seg := [.string ⟨#[115, 112, 111, 105, 108, 116]⟩, .bool false, .string ⟨#[]⟩, .int .i64 0, .int .i64 0, .int .i64 0, .int .i64 0]) rfl (k41_mkM _ _ _ _) HQs.out.below
          have HQ1 := Aside0.mk (HQs.out.put4 rfl hput.1 hput.2.1 hput.2.2)
          clear hC hcur hput
          go_wp2_with fail
          go_roundw
          case measure => first | omega | (simp [intOf]; omega)
          case rel => exact ⟨i + 1, _, by congr 1, by omega, HQ1⟩
        · have d1 : decide ((i : Int) < ((outOf b d t).ns.length : Int)) = false := decide_eq_false (by omega)
          have d2 : decide (i < (outOf b d t).ns.length) = false := decide_eq_false hlt
          have p3 : wr.cell? ⟨g7, 3, none⟩ = some (.slice A3 (outOf b d t).ls.length c3) := (blk_cell HQs.out.k7 3).trans rfl
          obtain ⟨in3, HI3⟩ := Kd.R_own HQs.out.r3
          rw [← (Kd.R_reads' HQs.out.r3).1] at HI3
          have HJ3 := Aside0.mk HI3
          clear HI3
          have hl' := HLn.out.1
          have hn' := HLn.out.2
          go_wp2_with (first | ((with_reducible refine gate_builtin (b := .append) (xs := #[.tmp 86, .tmp 89]) rfl ?_); at_builtin; refine append2_event (w0 := w) w.heap.size rfl (.tmp 86) (.tmp 89) 25 39 (.agg #[.int .i64 0, .int .i64 0, .int .i64 0, .int .i64 0, .int .u64 0, .string ⟨#[]⟩]) k39.sz 56 rfl Tryd.underlying25 infoL rfl (by decide) (by omega) (.slice A3 (outOf b d t).ls.length c3) (outOf b d t).ls.length in3 [.int .i64 92, .int .i64 0, .int .i64 0, .int .i64 0, .int .u64 0, .string ⟨#[]⟩, .int .i64 93, .int .i64 0, .int .i64 0, .int .i64 0, .int .u64 0, .string ⟨#[]⟩] rfl rfl rfl ?a1 HJ3.out HQs.out.below HQs.out.below.size ?aL ?_; (case a1 => intro q hq; simp only [List.mem_cons, List.not_mem_nil, or_false] at hq; rcases hq with rfl | rfl | rfl | rfl | rfl | rfl | rfl | rfl | rfl | rfl | rfl | rfl <;> rfl); (case aL => omega); intro AX cX wA hb hg; have HQ2 := Aside0.mk (HQs.out.app3 hg hb); clear hb hg HQs HJ3 p3 p4; have p4A : wA.cell? ⟨g7, 4, none⟩ = some (.slice A4 (outOf b d t).ns.length c4) := (blk_cell HQ2.out.q.k7 4).trans rfl; obtain ⟨in4, HI4⟩ := HQ2.out.own; have HJ4 := Aside0.mk HI4; clear HI4) | ((with_reducible refine gate_builtin (b := .append) (xs := #[.tmp 92, .tmp 95]) rfl ?_); at_builtin; refine append2_event (w0 := w) w.heap.size rfl (.tmp 92) (.tmp 95) 26 41 (.agg #[.string ⟨#[]⟩, .bool false, .string ⟨#[]⟩, .int .i64 0, .int .i64 0, .int .i64 0, .int .i64 0]) k41.sz 72 rfl Tryd.underlying26 infoN rfl (by decide) (by omega) (.slice A4 (outOf b d t).ns.length c4) (outOf b d t).ns.length in4 [.string ⟨#[115, 112, 111, 105, 108, 116]⟩, .bool false, .string ⟨#[]⟩, .int .i64 0, .int .i64 0, .int .i64 0, .int .i64 0, .string ⟨#[115, 112, 111, 105, 108, 116]⟩, .bool false, .string ⟨#[]⟩, .int .i64 0, .int .i64 0, .int .i64 0, .int .i64 0] rfl rfl rfl ?b1 HJ4.out HQ2.out.q.below HQ2.out.q.below.size ?bL ?_; (case b1 => intro q hq; simp only [List.mem_cons, List.not_mem_nil, or_false] at hq; rcases hq with rfl | rfl | rfl | rfl | rfl | rfl | rfl | rfl | rfl | rfl | rfl | rfl | rfl | rfl <;> rfl); (case bL => omega); intro AY cY wB hb hg; have HQ3 := Aside0.mk (HQ2.out.app4 hg hb); clear hb hg HQ2 HJ4 p4A; have s0 : wB.cell? ⟨g14, 0, none⟩ = some (.int .i64 ((outOf b d t).c : Int)) := (blk_cell HQ3.out.k14 0).trans rfl; have s1 : wB.cell? ⟨g14, 1, none⟩ = some (.int .i64 ((outOf b d t).at_ : Int)) := (blk_cell HQ3.out.k14 1).trans rfl; have s2 : wB.cell? ⟨g14, 2, none⟩ = some (.int .u64 ((outOf b d t).wt : Int)) := (blk_cell HQ3.out.k14 2).trans rfl; have s3 : wB.cell? ⟨g14, 3, none⟩ = some (.slice A7 (outOf b d t).ls.length c7) := (blk_cell HQ3.out.k14 3).trans rfl; have s4 : wB.cell? ⟨g14, 4, none⟩ = some (.slice A8 (outOf b d t).ns.length c8) := (blk_cell HQ3.out.k14 4).trans rfl; have s5 : wB.cell? ⟨g14, 5, none⟩ = some (.int .i64 ((outOf b d t).rt : Int)) := (blk_cell HQ3.out.k14 5).trans rfl; have u0 : wB.cell? ⟨g11, 0, none⟩ = some (.int .i64 ((outOf b d t).c : Int)) := (blk_cell HQ3.out.k11 0).trans rfl; have u1 : wB.cell? ⟨g11, 1, none⟩ = some (.int .i64 ((outOf b d t).at_ : Int)) := (blk_cell HQ3.out.k11 1).trans rfl; have u2 : wB.cell? ⟨g11, 2, none⟩ = some (.int .u64 ((outOf b d t).wt : Int)) := (blk_cell HQ3.out.k11 2).trans rfl; have u3 : wB.cell? ⟨g11, 3, none⟩ = some (.slice A5 (outOf b d t).ls.length c5) := (blk_cell HQ3.out.k11 3).trans rfl; have u4 : wB.cell? ⟨g11, 4, none⟩ = some (.slice A6 (outOf b d t).ns.length c6) := (blk_cell HQ3.out.k11 4).trans rfl; have u5 : wB.cell? ⟨g11, 5, none⟩ = some (.int .i64 ((outOf b d t).rt : Int)) := (blk_cell HQ3.out.k11 5).trans rfl))
          refine (trellislaw33_same.calls _ _ _ _ A7 c7 (outOf b d t).ls A8 c8 (outOf b d t).ns _ _ _ _ A5 c5 (outOf b d t).ls A6 c6 (outOf b d t).ns _ true _ (R_opens HQ3.out.r7).1 (R_opens HQ3.out.r7).2 (R_opens HQ3.out.r8).1 (R_opens HQ3.out.r8).2 (R_opens HQ3.out.r5).1 (R_opens HQ3.out.r5).2 (R_opens HQ3.out.r6).1 (R_opens HQ3.out.r6).2 (same_f _ _ _ _ _ _ (by omega) (by omega))).mono ?_
          rintro e wC ⟨rfl, hB⟩
          have HBF := Aside0.mk (HQ3.out.below.trans (hB.mono HQ3.out.below.size))
          have k11 := (hB.block _ (blk_lt HQ3.out.k11)).trans HQ3.out.k11
          have v3 : wC.cell? ⟨g11, 3, none⟩ = some (.slice A5 (outOf b d t).ls.length c5) := (blk_cell k11 3).trans rfl
          have v4 : wC.cell? ⟨g11, 4, none⟩ = some (.slice A6 (outOf b d t).ns.length c6) := (blk_cell k11 4).trans rfl
          clear hB HQ3 k11
          go_wp2_with fail
          go_ret
          exact ⟨rfl, HBF.out⟩
end Go.Proofs.YtjgccbpdpnpfjaaDoor.ST
