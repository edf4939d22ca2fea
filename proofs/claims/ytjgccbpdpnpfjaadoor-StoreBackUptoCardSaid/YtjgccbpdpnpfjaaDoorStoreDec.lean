/- store.Decode: the walk. -/
import Derived.Test.YtjgccbpdpnpfjaaDoorStoreRd
import Derived.Test.YtjgccbpdpnpfjaaDoorStoreList
namespace Go.Proofs.YtjgccbpdpnpfjaaDoor.ST
open Go.RowKit Go.WideShapes Go.ChangeShapes Go.Proofs.YtjgccbpdpnpfjaaDoorW.PrintWords Go.Proofs.YtjgccbpdpnpfjaaDoorW.PrintLast Go.Proofs.YtjgccbpdpnpfjaaDoorW.PrintMore Go.Proofs.YtjgccbpdpnpfjaaDoor.PAll
set_option linter.unusedVariables false

abbrev Z28 : Obj := .cells #[.int .i64 0, .int .i64 0, .int .u64 0, .slice none 0 0, .slice none 0 0, .int .i64 0] 28 (0, 0)

structure DW (w wr : World) (g g6 : Nat) (b : ByteArray) (a : Nat) (o : Bool) : Prop where
  i : IsS55 w wr g b (a : Int) o
  below : Below w.heap.size w wr
  k6 : wr.heap[g6]? = some Z28
  ne : g6 ≠ g
  lo6 : w.heap.size ≤ g6
theorem DW.next {w wr w1 : World} {g g6 : Nat} {b : ByteArray} {a a1 : Nat} {o o1 : Bool} (h : DW w wr g g6 b a o) (hi : IsS55 w w1 g b (a1 : Int) o1) (hb : Below w.heap.size w w1) (hk : KeepBut wr w1 g none) : DW w w1 g g6 b a1 o1 :=
  ⟨hi, hb, hk.blk h.k6 h.ne (by simp), h.ne, h.lo6⟩
abbrev C28 (c p x : Nat) (vl vn : Value) (r : Nat) : Obj := .cells #[.int .i64 (c : Int), .int .i64 (p : Int), .int .u64 (x : Int), vl, vn, .int .i64 (r : Int)] 28 (0, 0)
structure DX (w wr : World) (g g6 g11 : Nat) (b : ByteArray) (a : Nat) (o : Bool) (c p x : Nat) (vl vn : Value) (r : Nat) : Prop where
  d : DW w wr g g6 b a o
  k11 : wr.heap[g11]? = some (C28 c p x vl vn r)
  ne : g11 ≠ g
  ne6 : g6 ≠ g11
  lo : w.heap.size ≤ g11
section
variable {w wr w1 : World} {g g6 g11 : Nat} {b : ByteArray} {a a1 : Nat} {o o1 : Bool} {c p x r : Nat} {vl vn : Value}
theorem DX.next (h : DX w wr g g6 g11 b a o c p x vl vn r) (hi : IsS55 w w1 g b (a1 : Int) o1) (hb : Below w.heap.size w w1) (hk : KeepBut wr w1 g none) : DX w w1 g g6 g11 b a1 o1 c p x vl vn r :=
  ⟨h.d.next hi hb hk, hk.blk h.k11 h.ne (by simp), h.ne, h.ne6, h.lo⟩
theorem DW.far (h : DW w wr g g6 b a o) {q : Addr} (hq : w.heap.size ≤ q.block) (h1 : g ≠ q.block) (h2 : g6 ≠ q.block) (u : Value) : DW w (wr.setCell q u) g g6 b a o :=
  ⟨h.i.far h1 u, Below.setCell (p := q) h.below hq u, blk_far h.k6 h2 u, h.ne, h.lo6⟩
theorem DX.set3 (h : DX w wr g g6 g11 b a o c p x vl vn r) (u : Value) : DX w (wr.setCell ⟨g11, 3, none⟩ u) g g6 g11 b a o c p x u vn r :=
  ⟨h.d.far h.lo (Ne.symm h.ne) h.ne6 u, blk_put h.k11 3 u rfl, h.ne, h.ne6, h.lo⟩
theorem DX.set4 (h : DX w wr g g6 g11 b a o c p x vl vn r) (u : Value) : DX w (wr.setCell ⟨g11, 4, none⟩ u) g g6 g11 b a o c p x vl u r :=
  ⟨h.d.far h.lo (Ne.symm h.ne) h.ne6 u, blk_put h.k11 4 u rfl, h.ne, h.ne6, h.lo⟩
theorem DX.start (h : DW w wr g g6 b a o) (e : g11 = wr.heap.size) (hb : Below wr.heap.size wr w1) (hk : w1.heap[g11]? = some Z28) :
    DX w ((((((w1.setCell ⟨g11, 0, none⟩ (.int .i64 (c : Int))).setCell ⟨g11, 1, none⟩ (.int .i64 (p : Int))).setCell ⟨g11, 2, none⟩ (.int .u64 (x : Int))).setCell ⟨g11, 3, none⟩ (.slice none 0 0)).setCell ⟨g11, 4, none⟩ (.slice none 0 0)).setCell ⟨g11, 5, none⟩ (.int .i64 (r : Int)))
      g g6 g11 b a o c p x (.slice none 0 0) (.slice none 0 0) r := by
  have hsz := h.below.size
  have l1 := blk_lt h.i.1
  have l2 := blk_lt h.k6
  have h0 : DW w w1 g g6 b a o := ⟨⟨(hb.block _ l1).trans h.i.1, h.i.2⟩, h.below.trans (hb.mono h.below.size), (hb.block _ l2).trans h.k6, h.ne, h.lo6⟩
  have q : w.heap.size ≤ g11 := by omega
  have n1 : g ≠ g11 := by omega
  have n2 : g6 ≠ g11 := by omega
  exact ⟨(((((h0.far (q := ⟨g11, 0, none⟩) q n1 n2 _).far (q := ⟨g11, 1, none⟩) q n1 n2 _).far (q := ⟨g11, 2, none⟩) q n1 n2 _).far (q := ⟨g11, 3, none⟩) q n1 n2 _).far (q := ⟨g11, 4, none⟩) q n1 n2 _).far (q := ⟨g11, 5, none⟩) q n1 n2 _,
    blk_put (blk_put (blk_put (blk_put (blk_put (blk_put hk 0 _ rfl) 1 _ rfl) 2 _ rfl) 3 _ rfl) 4 _ rfl) 5 _ rfl, Ne.symm n1, n2, q⟩
end
theorem DX.moved {w wr w1 : World} {g g6 g11 : Nat} {b : ByteArray} {a : Nat} {o : Bool} {c p x r : Nat} {vl vn : Value} (h : DX w wr g g6 g11 b a o c p x vl vn r) (hb : Below wr.heap.size wr w1) : DX w w1 g g6 g11 b a o c p x vl vn r :=
  h.next ⟨(hb.block _ (blk_lt h.d.i.1)).trans h.d.i.1, h.d.i.2⟩ (h.d.below.trans (hb.mono h.d.below.size)) (KeepBut.of_below hb _ _)
theorem DX.bad {w wr : World} {g g6 g11 : Nat} {b : ByteArray} {a a1 : Nat} {o : Bool} {c p x r : Nat} {vl vn : Value} (h : DX w wr g g6 g11 b a o c p x vl vn r) : DX w ((wr.setCell ⟨g, 1, none⟩ (.int .i64 (a1 : Int))).setCell ⟨g, 2, none⟩ (.bool false)) g g6 g11 b a1 false c p x vl vn r :=
  ⟨⟨(h.d.i.set_1 (a1 : Int)).set_2 false, below_set (below_set h.d.below h.d.i.2) h.d.i.2, blk_far (blk_far h.d.k6 h.d.ne _) h.d.ne _, h.d.ne, h.d.lo6⟩, blk_far (blk_far h.k11 h.ne _) h.ne _, h.ne, h.ne6, h.lo⟩
def ErrIs (B : Nat) (w : World) (er : Value) (v : Nat × Nat) : Prop := (v.1 = 0 ∧ er = .nilIface) ∨ (v.1 ≠ 0 ∧ ∃ ge, er = .iface 63 (.pointer (some ⟨ge, 0, none⟩)) ∧ B ≤ ge ∧ w.heap[ge]? = some (.cells #[.int .i64 (v.1 : Int), .int .i64 (v.2 : Int)] 65 (0, 0)))
def DecPost (b d t : ByteArray) (w : World) (e : Ending) (w' : World) : Prop := ∃ v3 v4 er, e = .returned (.tuple #[.agg #[.int .i64 ((outOf b d t).c : Int), .int .i64 ((outOf b d t).at_ : Int), .int .u64 ((outOf b d t).wt : Int), v3, v4, .int .i64 ((outOf b d t).rt : Int)], er]) ∧
  Below w.heap.size w w' ∧ Kd.R k39 39 w' w.heap.size T v3 (outOf b d t).ls ∧ Kd.R k41 41 w' w.heap.size T v4 (outOf b d t).ns ∧ ErrIs w.heap.size w' er (verdict b d t)
theorem fin_err {b d t : ByteArray} {w W : World} {c p ge : Nat} (hv : verdict b d t = (c, p)) (hc : c ≠ 0) (hB : Below w.heap.size w W) (hge : w.heap.size ≤ ge) (hk : W.heap[ge]? = some (.cells #[.int .i64 (c : Int), .int .i64 (p : Int)] 65 (0, 0))) :
    DecPost b d t w (.returned (.tuple #[.agg #[.int .i64 0, .int .i64 0, .int .u64 0, .slice none 0 0, .slice none 0 0, .int .i64 0], .iface 63 (.pointer (some ⟨ge, 0, none⟩))])) W := by
  have ho : outOf b d t = rs0 := by unfold outOf; rw [hv, if_neg hc]
  unfold DecPost
  rw [ho, hv]
  exact ⟨.slice none 0 0, .slice none 0 0, _, rfl, hB, Kd.R_nil _ _ _ _ _, Kd.R_nil _ _ _ _ _, .inr ⟨hc, ge, rfl, hge, hk⟩⟩
def z6 (w : World) (g6 : Nat) : World := (((((w.setCell ⟨g6, 0, none⟩ (.int .i64 0)).setCell ⟨g6, 1, none⟩ (.int .i64 0)).setCell ⟨g6, 2, none⟩ (.int .u64 0)).setCell ⟨g6, 3, none⟩ (.slice none 0 0)).setCell ⟨g6, 4, none⟩ (.slice none 0 0)).setCell ⟨g6, 5, none⟩ (.int .i64 0)
theorem z6_below {w wr : World} {g6 : Nat} (h : Below w.heap.size w wr) (hg : w.heap.size ≤ g6) : Below w.heap.size w (z6 wr g6) := below_set (below_set (below_set (below_set (below_set (below_set h hg) hg) hg) hg) hg) hg
theorem z6_size (w : World) (g6 : Nat) : (z6 w g6).heap.size = w.heap.size := by simp [z6, World.setCell]
theorem z6_blk {w : World} {g6 g : Nat} {t : TypeId} {cs : Array Value} (h : w.heap[g]? = some (.cells cs t (0, 0))) (hne : g ≠ g6) : (z6 w g6).heap[g]? = some (.cells cs t (0, 0)) := blk_far (blk_far (blk_far (blk_far (blk_far (blk_far h hne _) hne _) hne _) hne _) hne _) hne _
/-- the region that refuses bytes: the result is cleared, then the error is made -/
theorem fin_cache {b d t : ByteArray} {w wr : World} {c p g6 : Nat} (hv : verdict b d t = (c, p)) (hc : c ≠ 0) (hB : Below w.heap.size w wr) (h6 : w.heap.size ≤ g6) :
    DecPost b d t w (.returned (.tuple #[.agg #[.int .i64 0, .int .i64 0, .int .u64 0, .slice none 0 0, .slice none 0 0, .int .i64 0], .iface 63 (.pointer (some ⟨wr.heap.size, 0, none⟩))])) (((z6 wr g6).alloc (.cells #[.int .i64 (c : Int), .int .i64 (p : Int)] 65 (0, 0))).drew) := by
  refine fin_err hv hc (below_drew1 (below_alloc (z6_below hB h6) _)) hB.size ?_
  have h := heap_alloc_new (z6 wr g6) (.cells #[.int .i64 (c : Int), .int .i64 (p : Int)] 65 (0, 0))
  rw [z6_size] at h
  exact h
/-- the other two: the error is made, then the result is cleared -/
theorem fin_stale {b d t : ByteArray} {w wr : World} {c p g6 : Nat} {C P : Int} (hC : C = (c : Int)) (hP : P = (p : Int)) (hv : verdict b d t = (c, p)) (hc : c ≠ 0) (hB : Below w.heap.size w wr) (h6 : w.heap.size ≤ g6) (hlt : g6 < wr.heap.size) :
    DecPost b d t w (.returned (.tuple #[.agg #[.int .i64 0, .int .i64 0, .int .u64 0, .slice none 0 0, .slice none 0 0, .int .i64 0], .iface 63 (.pointer (some ⟨wr.heap.size, 0, none⟩))])) (((((((wr.setCell ⟨g6, 0, none⟩ (.int .i64 0)).setCell ⟨g6, 1, none⟩ (.int .i64 0)).setCell ⟨g6, 2, none⟩ (.int .u64 0)).setCell ⟨g6, 3, none⟩ (.slice none 0 0)).setCell ⟨g6, 4, none⟩ (.slice none 0 0)).setCell ⟨g6, 5, none⟩ (.int .i64 0)).alloc (.cells #[.int .i64 C, .int .i64 P] 65 (0, 0))) := by
  subst hC hP
  have _ := hlt
  refine fin_err hv hc (below_alloc (z6_below hB h6) _) hB.size ?_
  have h := heap_alloc_new (z6 wr g6) (.cells #[.int .i64 (c : Int), .int .i64 (p : Int)] 65 (0, 0))
  rw [z6_size] at h
  exact h
theorem R_farN {α : Type} {d : Kd α} {e base : Nat} {w : World} {v : Value} {xs : List α} (h : d.R e w base T v xs) {q : Addr} (hq : q.block < base) (u : Value) : d.R e (w.setCell q u) base T v xs :=
  Kd.R_mono (Kd.R_far (Kd.R_bound h) (fun k hk he => by have := hk.2.1; omega) u) (fun _ _ => trivial)

set_option maxRecDepth 100000 in
set_option maxHeartbeats 12000000 in
theorem Decode_calls (b d t : ByteArray) (w : World) (hb : b.size ≤ 1073741824) (hd1 : d.size ≤ 1073741824) (ht1 : t.size ≤ 1073741824) :
    Calls Tryd.prog 8 #[.string b, .string d, .string t] w (DecPost b d t w) := by
  have HBS := Aside0.mk hb
  have HDS := Aside0.mk hd1
  have HTS := Aside0.mk ht1
  clear hb hd1 ht1
  go_enter Tryd.func8, Tryd.ntmps8
  go_wp2_with (first | ((with_reducible refine gate_dst (N := 6) rfl ?_); refine box_event ?hg (N := 6) ?hd (cs := #[.int .i64 0, .int .i64 0, .int .u64 0, .slice none 0 0, .slice none 0 0, .int .i64 0]) (t := 28) ?hr ?_; (case hd => rfl); (case hg => rfl); (case hr => first | (go_simp; done) | (go_simp; rfl)); intro g6 hg w6 hbox hb; have K6 := Aside0.mk hbox; have G6 := Aside0.mk hg; have B6 := Aside0.mk hb; clear hbox hg hb) | ((with_reducible refine gate_dst (N := 16) rfl ?_); refine box_event ?hg (N := 16) ?hd (cs := #[.string b, .int .i64 0, .bool true]) (t := 55) ?hr ?_; (case hd => rfl); (case hg => rfl); (case hr => first | (go_simp; done) | (go_simp; rfl)); intro g hg w1 hbox hb; have KR := Aside0.mk hbox; have GR := Aside0.mk hg; have BR := Aside0.mk hb; clear hbox hg hb))
  have HD0 : Aside0 (DW w w1 g g6 b 0 true) := ⟨⟨⟨KR.out, by have := B6.out.size; have := GR.out; omega⟩, B6.out.trans (BR.out.mono B6.out.size), (BR.out.block _ (blk_lt K6.out)).trans K6.out, by have := blk_lt K6.out; have := GR.out; omega, by have := G6.out; omega⟩⟩
  have HA0 : Aside0 (0 ≤ b.size) := ⟨Nat.zero_le _⟩
  clear KR GR BR K6 G6 B6
  have hf : store_reader_one.f 40 b ((0 : Nat) : Int) true 83 83 = _ := st_one 83 83 b 0 true 40 HBS.out HA0.out (by omega)
  obtain ⟨⟨x1, a1, o1⟩, hs⟩ : ∃ s, s = rdB 83 83 b 0 true := ⟨_, rfl⟩
  have hg := (good_B 83 83 b 0 true HA0.out).2.1
  rw [← hs] at hf hg
  dsimp only at hf hg
  have HS1 := Aside0.mk hs
  have HA1 := Aside0.mk hg
  clear hs hg
  refine (store_reader_one.calls 40 g b 0 true 83 83 _ _ _ _ w _ HD0.out.i HD0.out.below hf).mono ?_
  clear hf
  rintro e w2 ⟨rfl, hi, hbl, hk⟩
  have HD1 := Aside0.mk (HD0.out.next hi hbl hk)
  clear hi hbl hk HD0
  go_wp2_with fail
  have hf : store_reader_one.f 40 b ((a1 : Nat) : Int) o1 1 1 = _ := st_one 1 1 b a1 o1 40 HBS.out HA1.out (by omega)
  obtain ⟨⟨x2, a2, o2⟩, hs⟩ : ∃ s, s = rdB 1 1 b a1 o1 := ⟨_, rfl⟩
  have hg := (good_B 1 1 b a1 o1 HA1.out).2.1
  rw [← hs] at hf hg
  dsimp only at hf hg
  have HS2 := Aside0.mk hs
  have HA2 := Aside0.mk hg
  clear hs hg
  refine (store_reader_one.calls 40 g b a1 o1 1 1 _ _ _ _ w _ HD1.out.i HD1.out.below hf).mono ?_
  clear hf
  rintro e w3 ⟨rfl, hi, hbl, hk⟩
  have HD2 := Aside0.mk (HD1.out.next hi hbl hk)
  clear hi hbl hk HD1
  go_wp2_with fail
  have hf : store_reader_word.f 40 b ((a2 : Nat) : Int) o2 = _ := st_word b a2 o2 40 HBS.out HA2.out (by omega)
  obtain ⟨⟨x3, a3, o3⟩, hs⟩ : ∃ s, s = rdW b a2 o2 := ⟨_, rfl⟩
  have hg := (good_W b a2 o2 HA2.out).2.1
  rw [← hs] at hf hg
  dsimp only at hf hg
  have HS3 := Aside0.mk hs
  have HA3 := Aside0.mk hg
  clear hs hg
  refine (store_reader_word.calls 40 g b a2 o2 _ _ _ _ w _ HD2.out.i HD2.out.below hf).mono ?_
  clear hf
  rintro e w4 ⟨rfl, hi, hbl, hk⟩
  have HD3 := Aside0.mk (HD2.out.next hi hbl hk)
  clear hi hbl hk HD2
  go_wp2_with fail
  have hf : store_reader_word.f 40 b ((a3 : Nat) : Int) o3 = _ := st_word b a3 o3 40 HBS.out HA3.out (by omega)
  obtain ⟨⟨x4, a4, o4⟩, hs⟩ : ∃ s, s = rdW b a3 o3 := ⟨_, rfl⟩
  have hg := (good_W b a3 o3 HA3.out).2.1
  rw [← hs] at hf hg
  dsimp only at hf hg
  have HS4 := Aside0.mk hs
  have HA4 := Aside0.mk hg
  clear hs hg
  refine (store_reader_word.calls 40 g b a3 o3 _ _ _ _ w _ HD3.out.i HD3.out.below hf).mono ?_
  clear hf
  rintro e w5 ⟨rfl, hi, hbl, hk⟩
  have HD4 := Aside0.mk (HD3.out.next hi hbl hk)
  clear hi hbl hk HD3
  go_wp2_with fail
  have hf : store_reader_number.f 40 b ((a4 : Nat) : Int) o4 = _ := st_number b a4 o4 40 HBS.out HA4.out (by omega)
  obtain ⟨⟨x5, a5, o5⟩, hs⟩ : ∃ s, s = rdC b a4 o4 := ⟨_, rfl⟩
  have hg := (good_C b a4 o4 HA4.out).2.1
  rw [← hs] at hf hg
  dsimp only at hf hg
  have HS5 := Aside0.mk hs
  have HA5 := Aside0.mk hg
  clear hs hg
  refine (store_reader_number.calls 40 g b a4 o4 _ _ _ _ w _ HD4.out.i HD4.out.below hf).mono ?_
  clear hf
  rintro e w6 ⟨rfl, hi, hbl, hk⟩
  have HD5 := Aside0.mk (HD4.out.next hi hbl hk)
  clear hi hbl hk HD4
  go_wp2_with fail
  have hf : store_reader_number.f 40 b ((a5 : Nat) : Int) o5 = _ := st_number b a5 o5 40 HBS.out HA5.out (by omega)
  obtain ⟨⟨x6, a6, o6⟩, hs⟩ : ∃ s, s = rdC b a5 o5 := ⟨_, rfl⟩
  have hg := (good_C b a5 o5 HA5.out).2.1
  rw [← hs] at hf hg
  dsimp only at hf hg
  have HS6 := Aside0.mk hs
  have HA6 := Aside0.mk hg
  clear hs hg
  refine (store_reader_number.calls 40 g b a5 o5 _ _ _ _ w _ HD5.out.i HD5.out.below hf).mono ?_
  clear hf
  rintro e w7 ⟨rfl, hi, hbl, hk⟩
  have HD6 := Aside0.mk (HD5.out.next hi hbl hk)
  clear hi hbl hk HD5
  go_wp2_with fail
  have hf : store_reader_number.f 40 b ((a6 : Nat) : Int) o6 = _ := st_number b a6 o6 40 HBS.out HA6.out (by omega)
  obtain ⟨⟨x7, a7, o7⟩, hs⟩ : ∃ s, s = rdC b a6 o6 := ⟨_, rfl⟩
  have hg := (good_C b a6 o6 HA6.out).2.1
  rw [← hs] at hf hg
  dsimp only at hf hg
  have HS7 := Aside0.mk hs
  have HA7 := Aside0.mk hg
  clear hs hg
  refine (store_reader_number.calls 40 g b a6 o6 _ _ _ _ w _ HD6.out.i HD6.out.below hf).mono ?_
  clear hf
  rintro e w8 ⟨rfl, hi, hbl, hk⟩
  have HD7 := Aside0.mk (HD6.out.next hi hbl hk)
  clear hi hbl hk HD6
  go_wp2_with fail
  have hf : store_reader_word.f 40 b ((a7 : Nat) : Int) o7 = _ := st_word b a7 o7 40 HBS.out HA7.out (by omega)
  obtain ⟨⟨x8, a8, o8⟩, hs⟩ : ∃ s, s = rdW b a7 o7 := ⟨_, rfl⟩
  have hg := (good_W b a7 o7 HA7.out).2.1
  rw [← hs] at hf hg
  dsimp only at hf hg
  have HS8 := Aside0.mk hs
  have HA8 := Aside0.mk hg
  clear hs hg
  refine (store_reader_word.calls 40 g b a7 o7 _ _ _ _ w _ HD7.out.i HD7.out.below hf).mono ?_
  clear hf
  rintro e w9 ⟨rfl, hi, hbl, hk⟩
  have HD8 := Aside0.mk (HD7.out.next hi hbl hk)
  clear hi hbl hk HD7
  go_wp2_with (first | ((with_reducible refine gate_dst (N := 11) rfl ?_); refine box_event ?hg (N := 11) ?hd (cs := #[.int .i64 0, .int .i64 0, .int .u64 0, .slice none 0 0, .slice none 0 0, .int .i64 0]) (t := 28) ?hr ?_; (case hd => rfl); (case hg => rfl); (case hr => first | (go_simp; done) | (go_simp; rfl)); intro g11 hg w10 hbox hb; have K11 := Aside0.mk hbox; have G11 := Aside0.mk hg; have B11 := Aside0.mk hb; clear hbox hg hb; have y0 : w10.cell? ⟨g11, 0, none⟩ = some (.int .i64 0) := (blk_cell K11.out 0).trans rfl; have y1 : w10.cell? ⟨g11, 1, none⟩ = some (.int .i64 0) := (blk_cell K11.out 1).trans rfl; have y2 : w10.cell? ⟨g11, 2, none⟩ = some (.int .u64 0) := (blk_cell K11.out 2).trans rfl; have y3 : w10.cell? ⟨g11, 3, none⟩ = some (.slice none 0 0) := (blk_cell K11.out 3).trans rfl; have y4 : w10.cell? ⟨g11, 4, none⟩ = some (.slice none 0 0) := (blk_cell K11.out 4).trans rfl; have y5 : w10.cell? ⟨g11, 5, none⟩ = some (.int .i64 0) := (blk_cell K11.out 5).trans rfl; have f0 := blk_frozen K11.out 0; have f1 := blk_frozen K11.out 1; have f2 := blk_frozen K11.out 2; have f3 := blk_frozen K11.out 3; have f4 := blk_frozen K11.out 4; have f5 := blk_frozen K11.out 5))
  clear y0 y1 y2 y3 y4 y5 f0 f1 f2 f3 f4 f5
  have HX0 : Aside0 (DX w ((((((w10.setCell ⟨g11, 0, none⟩ (.int .i64 (x5 : Int))).setCell ⟨g11, 1, none⟩ (.int .i64 (x6 : Int))).setCell ⟨g11, 2, none⟩ (.int .u64 (x8 : Int))).setCell ⟨g11, 3, none⟩ (.slice none 0 0)).setCell ⟨g11, 4, none⟩ (.slice none 0 0)).setCell ⟨g11, 5, none⟩ (.int .i64 (x7 : Int))) g g6 g11 b a8 o8 x5 x6 x8 (.slice none 0 0) (.slice none 0 0) x7) := ⟨DX.start HD8.out G11.out B11.out K11.out⟩
  generalize ((((((w10.setCell ⟨g11, 0, none⟩ (.int .i64 (x5 : Int))).setCell ⟨g11, 1, none⟩ (.int .i64 (x6 : Int))).setCell ⟨g11, 2, none⟩ (.int .u64 (x8 : Int))).setCell ⟨g11, 3, none⟩ (.slice none 0 0)).setCell ⟨g11, 4, none⟩ (.slice none 0 0)).setCell ⟨g11, 5, none⟩ (.int .i64 (x7 : Int))) = w11 at HX0 ⊢
  clear HD8 G11 B11 K11
  have hcall := listL_calls g b a8 o8 w w11 HX0.out.d.i HX0.out.d.below HBS.out HA8.out
  obtain ⟨⟨ls, a9, o9⟩, hs⟩ : ∃ s, s = rdLeaves b a8 o8 := ⟨_, rfl⟩
  have hg := (good_leaves b a8 o8 HA8.out).2.1
  rw [← hs] at hcall hg
  dsimp only at hcall hg
  have HS9 := Aside0.mk hs
  have HA9 := Aside0.mk hg
  clear hs hg
  refine hcall.mono ?_
  clear hcall
  rintro e w12 ⟨vl, rfl, hRL, hi, hbl, hk⟩
  obtain ⟨AL, cL, rfl⟩ := Kd.R_slice hRL
  have HX1 := Aside0.mk (HX0.out.next hi hbl hk)
  have HL12 := Aside0.mk hRL
  have HG : Aside0 (g < w11.heap.size ∧ g11 < w11.heap.size ∧ w.heap.size ≤ w11.heap.size) := ⟨⟨blk_lt HX0.out.d.i.1, blk_lt HX0.out.k11, HX0.out.d.below.size⟩⟩
  have HG6 : Aside0 (g6 < w11.heap.size) := ⟨blk_lt HX0.out.d.k6⟩
  clear hRL hi hbl hk HX0
  have y3 : w12.cell? ⟨g11, 3, none⟩ = some (.slice none 0 0) := (blk_cell HX1.out.k11 3).trans rfl
  have f3 := blk_frozen HX1.out.k11 3
  go_wp2_with fail
  clear y3 f3
  have HX2 := Aside0.mk (HX1.out.set3 (.slice AL ls.length cL))
  have HL13 := Aside0.mk (R_farN HL12.out (q := ⟨g11, 3, none⟩) HG.out.2.1 (.slice AL ls.length cL))
  generalize w12.setCell ⟨g11, 3, none⟩ (.slice AL ls.length cL) = w13 at HX2 HL13 ⊢
  clear HX1 HL12
  have hcall := listN_calls g b a9 o9 w w13 HX2.out.d.i HX2.out.d.below HBS.out HA9.out
  obtain ⟨⟨ns, a10, o10⟩, hs⟩ : ∃ s, s = rdNodes b a9 o9 := ⟨_, rfl⟩
  have hg := (good_nodes b a9 o9 HA9.out).2.1
  rw [← hs] at hcall hg
  dsimp only at hcall hg
  have HS10 := Aside0.mk hs
  have HA10 := Aside0.mk hg
  clear hs hg
  refine hcall.mono ?_
  clear hcall
  rintro e w14 ⟨vn, rfl, hRN, hi, hbl, hk⟩
  obtain ⟨AN, cN, rfl⟩ := Kd.R_slice hRN
  have HX3 := Aside0.mk (HX2.out.next hi hbl hk)
  have HL14 := Aside0.mk (R_keepN HL13.out hk HG.out.1)
  have HN14 := Aside0.mk hRN
  have HG2 : Aside0 (g < w13.heap.size ∧ g11 < w13.heap.size ∧ w.heap.size ≤ w13.heap.size) := ⟨⟨blk_lt HX2.out.d.i.1, blk_lt HX2.out.k11, HX2.out.d.below.size⟩⟩
  have HG62 : Aside0 (g6 < w13.heap.size) := ⟨blk_lt HX2.out.d.k6⟩
  clear hRN hi hbl hk HX2 HL13
  have y4 : w14.cell? ⟨g11, 4, none⟩ = some (.slice none 0 0) := (blk_cell HX3.out.k11 4).trans rfl
  have f4 := blk_frozen HX3.out.k11 4
  have HX4 := Aside0.mk (HX3.out.set4 (.slice AN ns.length cN))
  have HL15 := Aside0.mk (R_farN HL14.out (q := ⟨g11, 4, none⟩) HG.out.2.1 (.slice AN ns.length cN))
  have HN15 := Aside0.mk (R_farN HN14.out (q := ⟨g11, 4, none⟩) HG2.out.2.1 (.slice AN ns.length cN))
  have q1 : (w14.setCell ⟨g11, 4, none⟩ (.slice AN ns.length cN)).cell? ⟨g, 1, none⟩ = some (.int .i64 (a10 : Int)) := (blk_cell HX4.out.d.i.1 1).trans rfl
  go_wp2_with fail
  clear y4 f4 q1
  generalize w14.setCell ⟨g11, 4, none⟩ (.slice AN ns.length cN) = w15 at HX4 HL15 HN15 ⊢
  clear HX3 HL14 HN14
  have HH : Aside0 (rdHd b 0 true = ((x3, x4, ⟨x5, x6, x8, ls, ns, x7⟩), a10, o10)) := ⟨by
    unfold rdHd rdRes bindS
    rw [← HS1.out]; dsimp only; rw [← HS2.out]; dsimp only; rw [← HS3.out]; dsimp only; rw [← HS4.out]; dsimp only; rw [← HS5.out]; dsimp only; rw [← HS6.out]; dsimp only; rw [← HS7.out]; dsimp only; rw [← HS8.out]; dsimp only; rw [← HS9.out]; dsimp only; rw [← HS10.out]⟩
  clear HS1 HS2 HS3 HS4 HS5 HS6 HS7 HS8 HS9 HS10 HA0 HA1 HA2 HA3 HA4 HA5 HA6 HA7 HA8 HA9
  have hf : store_reader_word.f 40 b ((a10 : Nat) : Int) o10 = _ := st_word b a10 o10 40 HBS.out HA10.out (by omega)
  obtain ⟨⟨sv, a11, o11⟩, hs⟩ : ∃ s, s = rdW b a10 o10 := ⟨_, rfl⟩
  have hg := (good_W b a10 o10 HA10.out).2.1
  rw [← hs] at hf hg
  dsimp only at hf hg
  have HHD : Aside0 (hd b = ⟨x3, x4, ⟨x5, x6, x8, ls, ns, x7⟩, a10, sv, a11, o11⟩) := ⟨by
    unfold hd
    rw [HH.out]
    dsimp only
    rw [← hs]⟩
  have HA11 := Aside0.mk hg
  clear hs hg HH
  refine (store_reader_word.calls 40 g b a10 o10 _ _ _ _ w _ HX4.out.d.i HX4.out.d.below hf).mono ?_
  clear hf
  rintro e w16 ⟨rfl, hi, hbl, hk⟩
  have HX5 := Aside0.mk (HX4.out.next hi hbl hk)
  have HL := Aside0.mk (R_keepN HL15.out hk HG.out.1)
  have HN := Aside0.mk (R_keepN HN15.out hk HG2.out.1)
  clear hi hbl hk HX4 HL15 HN15
  have z1 : w16.cell? ⟨g, 1, none⟩ = some (.int .i64 (a11 : Int)) := (blk_cell HX5.out.d.i.1 1).trans rfl
  have z2 : w16.cell? ⟨g, 2, none⟩ = some (.bool o11) := (blk_cell HX5.out.d.i.1 2).trans rfl
  have HL_w16 := HL
  have HN_w16 := HN
  clear HL HN
  cases o11 with
  | true =>
    have hA10 := HA10.out
    have hA11 := HA11.out
    have hbs := HBS.out
    have d1 : decide ((a10 : Int) ≤ (b.size : Int)) = true := decide_eq_true (by omega)
    have d2 : decide (a10 ≤ b.size) = true := decide_eq_true (by omega)
    go_wp2_with fail
    clear z1 z2
    refine (store_Sum.calls ((b.extract 0 a10).size + 1) (b.extract 0 a10) _ w16 (Sum_f _ (by rw [ByteArray.size_extract]; have := HBS.out; omega))).mono ?_
    rintro e w17 ⟨rfl, hD⟩
    have HX6 := Aside0.mk (HX5.out.moved hD.below)
    have HL_w17 := Aside0.mk (Kd.R_below HL_w16.out hD.below)
    have HN_w17 := Aside0.mk (Kd.R_below HN_w16.out hD.below)
    clear hD HL_w16 HN_w16
    have z1 : w17.cell? ⟨g, 1, none⟩ = some (.int .i64 (a11 : Int)) := (blk_cell HX6.out.d.i.1 1).trans rfl
    have z2 : w17.cell? ⟨g, 2, none⟩ = some (.bool true) := (blk_cell HX6.out.d.i.1 2).trans rfl
    by_cases hsum : sv = sumS (b.extract 0 a10)
    · have HSUM := Aside0.mk hsum
      have c1 : decide ((sv : Int) = ((sumS (b.extract 0 a10) : Nat) : Int)) = true := decide_eq_true (by rw [hsum])
      have c2 : (((sv : Nat) : Int) == ((sumS (b.extract 0 a10) : Nat) : Int)) = true := beq_iff_eq.2 (by rw [hsum])
      have c3 : decide (sv = sumS (b.extract 0 a10)) = true := decide_eq_true hsum
      clear hsum
      by_cases hlt : a11 < b.size
      · have d3 : decide ((a11 : Int) < (b.size : Int)) = true := decide_eq_true (by omega)
        have d4 : decide (a11 < b.size) = true := decide_eq_true hlt
        have x1 : w17.cell? ⟨g, 1, none⟩ = some (.int .i64 (a11 : Int)) := (blk_cell HX6.out.d.i.1 1).trans rfl
        have n1 := HX6.out.d.ne
        have n2 : g ≠ g6 := Ne.symm HX6.out.d.ne
        have k6 := HX6.out.d.k6
        have y0 : w17.cell? ⟨g6, 0, none⟩ = some (.int .i64 0) := (blk_cell k6 0).trans rfl
        have f0 := blk_frozen k6 0
        have y1 : w17.cell? ⟨g6, 1, none⟩ = some (.int .i64 0) := (blk_cell k6 1).trans rfl
        have f1 := blk_frozen k6 1
        have y2 : w17.cell? ⟨g6, 2, none⟩ = some (.int .u64 0) := (blk_cell k6 2).trans rfl
        have f2 := blk_frozen k6 2
        have y3 : w17.cell? ⟨g6, 3, none⟩ = some (.slice none 0 0) := (blk_cell k6 3).trans rfl
        have f3 := blk_frozen k6 3
        have y4 : w17.cell? ⟨g6, 4, none⟩ = some (.slice none 0 0) := (blk_cell k6 4).trans rfl
        have f4 := blk_frozen k6 4
        have y5 : w17.cell? ⟨g6, 5, none⟩ = some (.int .i64 0) := (blk_cell k6 5).trans rfl
        have f5 := blk_frozen k6 5
        have lg := blk_lt HX6.out.d.i.1
        have lg6 := blk_lt k6
        clear k6
        go_wp2_with fail
        go_region
        go_wp2_with fail
        (try simp only [Exit.inBlock, Exit.then])
        refine bodyPost_ret (v := .tuple #[.agg #[.int .i64 0, .int .i64 0, .int .u64 0, .slice none 0 0, .slice none 0 0, .int .i64 0], .iface 63 (.pointer (some ⟨w17.heap.size, 0, none⟩))]) (by rw [results_cell_tmp (p := 6) (u := 7) (ty := 28) rfl]; first | (go_simp; done) | (go_simp; rfl)) rfl ?_
        refine fin_cache (c := 330) (p := a11) ?_ (by decide) HX6.out.d.below HX6.out.d.lo6
        unfold verdict
        rw [HHD.out]
        dsimp only
        rw [if_neg (fun h => h.2 HSUM.out), if_pos (.inr hlt)]
      · have d3 : decide ((a11 : Int) < (b.size : Int)) = false := decide_eq_false (by omega)
        have d4 : decide (a11 < b.size) = false := decide_eq_false hlt
        have HLT := Aside0.mk hlt
        go_wp2_with fail
        clear d1 d2 d3 d4 c1 c2 c3 z1 z2 hlt
        refine (store_Sum.calls ((d).size + 1) (d) _ w17 (Sum_f _ (by have := HDS.out; omega))).mono ?_
        rintro e w18 ⟨rfl, hD⟩
        have HX7 := Aside0.mk (HX6.out.moved hD.below)
        have HL_w18 := Aside0.mk (Kd.R_below HL_w17.out hD.below)
        have HN_w18 := Aside0.mk (Kd.R_below HN_w17.out hD.below)
        clear hD HL_w17 HN_w17
        by_cases hsd : x3 = sumS d
        · have HSD := Aside0.mk hsd
          have c1 : decide ((x3 : Int) = ((sumS d : Nat) : Int)) = true := decide_eq_true (by rw [hsd])
          have c2 : (((x3 : Nat) : Int) == ((sumS d : Nat) : Int)) = true := beq_iff_eq.2 (by rw [hsd])
          have c3 : decide (x3 = sumS d) = true := decide_eq_true hsd
          clear hsd
          go_wp2_with fail
          clear c1 c2 c3
          refine (store_Sum.calls ((t).size + 1) (t) _ w18 (Sum_f _ (by have := HTS.out; omega))).mono ?_
          rintro e w19 ⟨rfl, hD⟩
          have HX8 := Aside0.mk (HX7.out.moved hD.below)
          have HL_w19 := Aside0.mk (Kd.R_below HL_w18.out hD.below)
          have HN_w19 := Aside0.mk (Kd.R_below HN_w18.out hD.below)
          clear hD HL_w18 HN_w18
          by_cases hst : x4 = sumS t
          · have HST := Aside0.mk hst
            have c1 : decide ((x4 : Int) = ((sumS t : Nat) : Int)) = true := decide_eq_true (by rw [hst])
            have c2 : (((x4 : Nat) : Int) == ((sumS t : Nat) : Int)) = true := beq_iff_eq.2 (by rw [hst])
            have c3 : decide (x4 = sumS t) = true := decide_eq_true hst
            clear hst
            have k11 := HX8.out.k11
            have u0 : w19.cell? ⟨g11, 0, none⟩ = some (.int .i64 (x5 : Int)) := (blk_cell k11 0).trans rfl
            have u1 : w19.cell? ⟨g11, 1, none⟩ = some (.int .i64 (x6 : Int)) := (blk_cell k11 1).trans rfl
            have u2 : w19.cell? ⟨g11, 2, none⟩ = some (.int .u64 (x8 : Int)) := (blk_cell k11 2).trans rfl
            have u3 : w19.cell? ⟨g11, 3, none⟩ = some (.slice AL ls.length cL) := (blk_cell k11 3).trans rfl
            have u4 : w19.cell? ⟨g11, 4, none⟩ = some (.slice AN ns.length cN) := (blk_cell k11 4).trans rfl
            have u5 : w19.cell? ⟨g11, 5, none⟩ = some (.int .i64 (x7 : Int)) := (blk_cell k11 5).trans rfl
            clear k11
            have n1 := HX8.out.d.ne
            have n2 : g ≠ g6 := Ne.symm HX8.out.d.ne
            have k6 := HX8.out.d.k6
            have y0 : w19.cell? ⟨g6, 0, none⟩ = some (.int .i64 0) := (blk_cell k6 0).trans rfl
            have f0 := blk_frozen k6 0
            have y1 : w19.cell? ⟨g6, 1, none⟩ = some (.int .i64 0) := (blk_cell k6 1).trans rfl
            have f1 := blk_frozen k6 1
            have y2 : w19.cell? ⟨g6, 2, none⟩ = some (.int .u64 0) := (blk_cell k6 2).trans rfl
            have f2 := blk_frozen k6 2
            have y3 : w19.cell? ⟨g6, 3, none⟩ = some (.slice none 0 0) := (blk_cell k6 3).trans rfl
            have f3 := blk_frozen k6 3
            have y4 : w19.cell? ⟨g6, 4, none⟩ = some (.slice none 0 0) := (blk_cell k6 4).trans rfl
            have f4 := blk_frozen k6 4
            have y5 : w19.cell? ⟨g6, 5, none⟩ = some (.int .i64 0) := (blk_cell k6 5).trans rfl
            have f5 := blk_frozen k6 5
            have lg := blk_lt HX8.out.d.i.1
            have lg6 := blk_lt k6
            clear k6
            go_wp2_with fail
            (try simp only [Exit.inBlock, Exit.then])
            refine bodyPost_ret (v := .tuple #[.agg #[.int .i64 (x5 : Int), .int .i64 (x6 : Int), .int .u64 (x8 : Int), .slice AL ls.length cL, .slice AN ns.length cN, .int .i64 (x7 : Int)], .nilIface]) (by rw [results_cell_tmp (p := 6) (u := 7) (ty := 28) rfl]; first | (go_simp; done) | (go_simp; rfl)) rfl ?_
            have hv : verdict b d t = (0, 0) := by
              unfold verdict
              rw [HHD.out]
              dsimp only
              rw [if_neg (fun h => h.2 HSUM.out), if_neg (fun h => h.elim (fun h => by cases h) (fun h => HLT.out h)), if_neg (fun h => h HSD.out), if_neg (fun h => h HST.out)]
            have ho : outOf b d t = ⟨x5, x6, x8, ls, ns, x7⟩ := by
              unfold outOf
              rw [hv, if_pos rfl, HHD.out]
            have l6 : g6 < w11.heap.size := HG6.out
            have l6' : g6 < w13.heap.size := HG62.out
            unfold DecPost
            rw [hv, ho]
            exact ⟨.slice AL ls.length cL, .slice AN ns.length cN, .nilIface, rfl, below_set (below_set (below_set (below_set (below_set (below_set HX8.out.d.below HX8.out.d.lo6) HX8.out.d.lo6) HX8.out.d.lo6) HX8.out.d.lo6) HX8.out.d.lo6) HX8.out.d.lo6,
              Kd.R_lower (R_farN (R_farN (R_farN (R_farN (R_farN (R_farN HL_w19.out (q := ⟨g6, 0, none⟩) l6 _) (q := ⟨g6, 1, none⟩) l6 _) (q := ⟨g6, 2, none⟩) l6 _) (q := ⟨g6, 3, none⟩) l6 _) (q := ⟨g6, 4, none⟩) l6 _) (q := ⟨g6, 5, none⟩) l6 _) HG.out.2.2,
              Kd.R_lower (R_farN (R_farN (R_farN (R_farN (R_farN (R_farN HN_w19.out (q := ⟨g6, 0, none⟩) l6' _) (q := ⟨g6, 1, none⟩) l6' _) (q := ⟨g6, 2, none⟩) l6' _) (q := ⟨g6, 3, none⟩) l6' _) (q := ⟨g6, 4, none⟩) l6' _) (q := ⟨g6, 5, none⟩) l6' _) HG2.out.2.2, .inl ⟨rfl, rfl⟩⟩
          · have HST := Aside0.mk hst
            have c1 : decide ((x4 : Int) = ((sumS t : Nat) : Int)) = false := decide_eq_false (by omega)
            have c2 : (((x4 : Nat) : Int) == ((sumS t : Nat) : Int)) = false := beq_eq_false_iff_ne.2 (by omega)
            have c3 : decide (x4 = sumS t) = false := decide_eq_false hst
            clear hst
            have n1 := HX8.out.d.ne
            have n2 : g ≠ g6 := Ne.symm HX8.out.d.ne
            have k6 := HX8.out.d.k6
            have y0 : w19.cell? ⟨g6, 0, none⟩ = some (.int .i64 0) := (blk_cell k6 0).trans rfl
            have f0 := blk_frozen k6 0
            have y1 : w19.cell? ⟨g6, 1, none⟩ = some (.int .i64 0) := (blk_cell k6 1).trans rfl
            have f1 := blk_frozen k6 1
            have y2 : w19.cell? ⟨g6, 2, none⟩ = some (.int .u64 0) := (blk_cell k6 2).trans rfl
            have f2 := blk_frozen k6 2
            have y3 : w19.cell? ⟨g6, 3, none⟩ = some (.slice none 0 0) := (blk_cell k6 3).trans rfl
            have f3 := blk_frozen k6 3
            have y4 : w19.cell? ⟨g6, 4, none⟩ = some (.slice none 0 0) := (blk_cell k6 4).trans rfl
            have f4 := blk_frozen k6 4
            have y5 : w19.cell? ⟨g6, 5, none⟩ = some (.int .i64 0) := (blk_cell k6 5).trans rfl
            have f5 := blk_frozen k6 5
            have lg := blk_lt HX8.out.d.i.1
            have lg6 := blk_lt k6
            clear k6
            go_wp2_with fail
            (try simp only [Exit.inBlock, Exit.then])
            refine bodyPost_ret (v := .tuple #[.agg #[.int .i64 0, .int .i64 0, .int .u64 0, .slice none 0 0, .slice none 0 0, .int .i64 0], .iface 63 (.pointer (some ⟨w19.heap.size, 0, none⟩))]) (by rw [results_cell_tmp (p := 6) (u := 7) (ty := 28) rfl]; first | (go_simp; done) | (go_simp; rfl)) rfl ?_
            refine fin_stale (c := 331) (p := 1) rfl rfl ?_ (by decide) HX8.out.d.below HX8.out.d.lo6 lg6
            unfold verdict
            rw [HHD.out]
            dsimp only
            rw [if_neg (fun h => h.2 HSUM.out), if_neg (fun h => h.elim (fun h => by cases h) (fun h => HLT.out h)), if_neg (fun h => h HSD.out), if_pos HST.out]
        · have HSD := Aside0.mk hsd
          have c1 : decide ((x3 : Int) = ((sumS d : Nat) : Int)) = false := decide_eq_false (by omega)
          have c2 : (((x3 : Nat) : Int) == ((sumS d : Nat) : Int)) = false := beq_eq_false_iff_ne.2 (by omega)
          have c3 : decide (x3 = sumS d) = false := decide_eq_false hsd
          clear hsd
          have n1 := HX7.out.d.ne
          have n2 : g ≠ g6 := Ne.symm HX7.out.d.ne
          have k6 := HX7.out.d.k6
          have y0 : w18.cell? ⟨g6, 0, none⟩ = some (.int .i64 0) := (blk_cell k6 0).trans rfl
          have f0 := blk_frozen k6 0
          have y1 : w18.cell? ⟨g6, 1, none⟩ = some (.int .i64 0) := (blk_cell k6 1).trans rfl
          have f1 := blk_frozen k6 1
          have y2 : w18.cell? ⟨g6, 2, none⟩ = some (.int .u64 0) := (blk_cell k6 2).trans rfl
          have f2 := blk_frozen k6 2
          have y3 : w18.cell? ⟨g6, 3, none⟩ = some (.slice none 0 0) := (blk_cell k6 3).trans rfl
          have f3 := blk_frozen k6 3
          have y4 : w18.cell? ⟨g6, 4, none⟩ = some (.slice none 0 0) := (blk_cell k6 4).trans rfl
          have f4 := blk_frozen k6 4
          have y5 : w18.cell? ⟨g6, 5, none⟩ = some (.int .i64 0) := (blk_cell k6 5).trans rfl
          have f5 := blk_frozen k6 5
          have lg := blk_lt HX7.out.d.i.1
          have lg6 := blk_lt k6
          clear k6
          go_wp2_with fail
          (try simp only [Exit.inBlock, Exit.then])
          refine bodyPost_ret (v := .tuple #[.agg #[.int .i64 0, .int .i64 0, .int .u64 0, .slice none 0 0, .slice none 0 0, .int .i64 0], .iface 63 (.pointer (some ⟨w18.heap.size, 0, none⟩))]) (by rw [results_cell_tmp (p := 6) (u := 7) (ty := 28) rfl]; first | (go_simp; done) | (go_simp; rfl)) rfl ?_
          refine fin_stale (c := 331) (p := 0) rfl rfl ?_ (by decide) HX7.out.d.below HX7.out.d.lo6 lg6
          unfold verdict
          rw [HHD.out]
          dsimp only
          rw [if_neg (fun h => h.2 HSUM.out), if_neg (fun h => h.elim (fun h => by cases h) (fun h => HLT.out h)), if_pos HSD.out]
    · have HSUM := Aside0.mk hsum
      have c1 : decide ((sv : Int) = ((sumS (b.extract 0 a10) : Nat) : Int)) = false := decide_eq_false (by omega)
      have c2 : (((sv : Nat) : Int) == ((sumS (b.extract 0 a10) : Nat) : Int)) = false := beq_eq_false_iff_ne.2 (by omega)
      have c3 : decide (sv = sumS (b.extract 0 a10)) = false := decide_eq_false hsum
      clear hsum
      have e1 := blk_frozen HX6.out.d.i.1 1
      have e2 := blk_frozen HX6.out.d.i.1 2
      go_wp2_with fail
      clear z1 z2 e1 e2
      have HX7 : Aside0 (DX w ((w17.setCell ⟨g, 1, none⟩ (.int .i64 (a10 : Int))).setCell ⟨g, 2, none⟩ (.bool false)) g g6 g11 b a10 false x5 x6 x8 (.slice AL ls.length cL) (.slice AN ns.length cN) x7) := ⟨HX6.out.bad⟩
      generalize (w17.setCell ⟨g, 1, none⟩ (.int .i64 (a10 : Int))).setCell ⟨g, 2, none⟩ (.bool false) = w18 at HX7 ⊢
      have x1 : w18.cell? ⟨g, 1, none⟩ = some (.int .i64 (a10 : Int)) := (blk_cell HX7.out.d.i.1 1).trans rfl
      have n1 := HX7.out.d.ne
      have n2 : g ≠ g6 := Ne.symm HX7.out.d.ne
      have k6 := HX7.out.d.k6
      have y0 : w18.cell? ⟨g6, 0, none⟩ = some (.int .i64 0) := (blk_cell k6 0).trans rfl
      have f0 := blk_frozen k6 0
      have y1 : w18.cell? ⟨g6, 1, none⟩ = some (.int .i64 0) := (blk_cell k6 1).trans rfl
      have f1 := blk_frozen k6 1
      have y2 : w18.cell? ⟨g6, 2, none⟩ = some (.int .u64 0) := (blk_cell k6 2).trans rfl
      have f2 := blk_frozen k6 2
      have y3 : w18.cell? ⟨g6, 3, none⟩ = some (.slice none 0 0) := (blk_cell k6 3).trans rfl
      have f3 := blk_frozen k6 3
      have y4 : w18.cell? ⟨g6, 4, none⟩ = some (.slice none 0 0) := (blk_cell k6 4).trans rfl
      have f4 := blk_frozen k6 4
      have y5 : w18.cell? ⟨g6, 5, none⟩ = some (.int .i64 0) := (blk_cell k6 5).trans rfl
      have f5 := blk_frozen k6 5
      have lg := blk_lt HX7.out.d.i.1
      have lg6 := blk_lt k6
      clear k6
      go_region
      go_wp2_with fail
      (try simp only [Exit.inBlock, Exit.then])
      refine bodyPost_ret (v := .tuple #[.agg #[.int .i64 0, .int .i64 0, .int .u64 0, .slice none 0 0, .slice none 0 0, .int .i64 0], .iface 63 (.pointer (some ⟨w18.heap.size, 0, none⟩))]) (by rw [results_cell_tmp (p := 6) (u := 7) (ty := 28) rfl]; first | (go_simp; done) | (go_simp; rfl)) rfl ?_
      refine fin_cache (c := 330) (p := a10) ?_ (by decide) HX7.out.d.below HX7.out.d.lo6
      unfold verdict
      rw [HHD.out]
      dsimp only
      rw [if_pos ⟨rfl, HSUM.out⟩]
  | false =>
    have x1 : w16.cell? ⟨g, 1, none⟩ = some (.int .i64 (a11 : Int)) := (blk_cell HX5.out.d.i.1 1).trans rfl
    have n1 := HX5.out.d.ne
    have n2 : g ≠ g6 := Ne.symm HX5.out.d.ne
    have k6 := HX5.out.d.k6
    have y0 : w16.cell? ⟨g6, 0, none⟩ = some (.int .i64 0) := (blk_cell k6 0).trans rfl
    have f0 := blk_frozen k6 0
    have y1 : w16.cell? ⟨g6, 1, none⟩ = some (.int .i64 0) := (blk_cell k6 1).trans rfl
    have f1 := blk_frozen k6 1
    have y2 : w16.cell? ⟨g6, 2, none⟩ = some (.int .u64 0) := (blk_cell k6 2).trans rfl
    have f2 := blk_frozen k6 2
    have y3 : w16.cell? ⟨g6, 3, none⟩ = some (.slice none 0 0) := (blk_cell k6 3).trans rfl
    have f3 := blk_frozen k6 3
    have y4 : w16.cell? ⟨g6, 4, none⟩ = some (.slice none 0 0) := (blk_cell k6 4).trans rfl
    have f4 := blk_frozen k6 4
    have y5 : w16.cell? ⟨g6, 5, none⟩ = some (.int .i64 0) := (blk_cell k6 5).trans rfl
    have f5 := blk_frozen k6 5
    have lg := blk_lt HX5.out.d.i.1
    have lg6 := blk_lt k6
    clear k6
    go_wp2_with fail
    go_region
    go_wp2_with fail
    (try simp only [Exit.inBlock, Exit.then])
    refine bodyPost_ret (v := .tuple #[.agg #[.int .i64 0, .int .i64 0, .int .u64 0, .slice none 0 0, .slice none 0 0, .int .i64 0], .iface 63 (.pointer (some ⟨w16.heap.size, 0, none⟩))]) (by rw [results_cell_tmp (p := 6) (u := 7) (ty := 28) rfl]; first | (go_simp; done) | (go_simp; rfl)) rfl ?_
    refine fin_cache (c := 330) (p := a11) ?_ (by decide) HX5.out.d.below HX5.out.d.lo6
    unfold verdict
    rw [HHD.out]
    dsimp only
    rw [if_neg (fun h => by cases h.1), if_pos (.inl rfl)]
end Go.Proofs.YtjgccbpdpnpfjaaDoor.ST
