/- store: list of leaves, list of nodes: the walks. -/
import Derived.Test.YtjgccbpdpnpfjaaDoorStoreRd
import Derived.Deep.DeepCutAuto
namespace Go.Proofs.YtjgccbpdpnpfjaaDoor.ST
open Go.RowKit Go.WideShapes Go.ChangeShapes Go.Proofs.YtjgccbpdpnpfjaaDoorW.PrintWords Go.Proofs.YtjgccbpdpnpfjaaDoorW.PrintLast Go.Proofs.YtjgccbpdpnpfjaaDoorW.PrintMore Go.Proofs.YtjgccbpdpnpfjaaDoor.PAll
set_option linter.unusedVariables false

abbrev T : Nat → Prop := fun _ => True
/-- the reader, as it stands in a world -/
structure RW (w0 w wr : World) (g : Nat) (b : ByteArray) (a : Nat) (o : Bool) : Prop where
  i : IsS55 w0 wr g b (a : Int) o
  below : Below w0.heap.size w0 wr
  keep : KeepBut w wr g none
theorem RW.next {w0 w wr w1 : World} {g : Nat} {b : ByteArray} {a a1 : Nat} {o o1 : Bool} (h : RW w0 w wr g b a o) (hi : IsS55 w0 w1 g b (a1 : Int) o1) (hb : Below w0.heap.size w0 w1) (hk : KeepBut wr w1 g none) : RW w0 w w1 g b a1 o1 :=
  ⟨hi, hb, h.keep.trans hk (.inl rfl)⟩
theorem R_keepN {α : Type} {d : Kd α} {e base g : Nat} {w w1 : World} {v : Value} {xs : List α} (h : d.R e w base T v xs) (hk : KeepBut w w1 g none) (hg : g < base) : d.R e w1 base T v xs :=
  Kd.R_mono (Kd.R_keep (Kd.R_bound h) hk (fun k hk he => by have := hk.2.1; omega)) (fun _ _ => trivial)
theorem RW.cell2 {w0 w wr : World} {g : Nat} {b : ByteArray} {a : Nat} {o : Bool} (h : RW w0 w wr g b a o) : wr.cell? ⟨g, 2, none⟩ = some (.bool o) := (blk_cell h.i.1 2).trans rfl
theorem RW.cell1 {w0 w wr : World} {g : Nat} {b : ByteArray} {a : Nat} {o : Bool} (h : RW w0 w wr g b a o) : wr.cell? ⟨g, 1, none⟩ = some (.int .i64 (a : Int)) := (blk_cell h.i.1 1).trans rfl
theorem infoL : (Tryd.prog.info? 39).map (fun i => (i.zero, i.size, i.bytes)) = some (some (.agg #[.int .i64 0, .int .i64 0, .int .i64 0, .int .i64 0, .int .u64 0, .string ⟨#[]⟩]), k39.sz, 56) := by kernel_rfl
theorem infoN : (Tryd.prog.info? 41).map (fun i => (i.zero, i.size, i.bytes)) = some (some (.agg #[.string ⟨#[]⟩, .bool false, .string ⟨#[]⟩, .int .i64 0, .int .i64 0, .int .i64 0, .int .i64 0]), k41.sz, 72) := by kernel_rfl
theorem wrap_sub {n : Nat} (h0 : 0 < n) (h : n < 9223372036854775808) : IntKind.u64.wrap ((n : Int) - 1) = ((n - 1 : Nat) : Int) := by rw [wu (by omega) (by omega)]; omega

set_option maxRecDepth 100000 in
set_option maxHeartbeats 2000000 in
theorem listL_calls (g : Nat) (b : ByteArray) (a : Nat) (o : Bool) (w0 w : World) (hI : IsS55 w0 w g b (a : Int) o) (hB : Below w0.heap.size w0 w) (hb : b.size ≤ 1073741824) (ha : a ≤ b.size) :
    Calls Tryd.prog 21 #[.pointer (some ⟨g, 0, none⟩), .func (.func 22) #[.pointer (some ⟨g, 0, none⟩)] #[]] w fun e w' => ∃ v, e = .returned v ∧ Kd.R k39 39 w' w.heap.size T v (rdLeaves b a o).1 ∧
      IsS55 w0 w' g b ((rdLeaves b a o).2.1 : Int) (rdLeaves b a o).2.2 ∧ Below w0.heap.size w0 w' ∧ KeepBut w w' g none := by
  have HR0 : Aside0 (RW w0 w w g b a o) := ⟨⟨hI, hB, KeepBut.refl _ _ _⟩⟩
  have HG : Aside0 (g < w.heap.size) := ⟨blk_lt hI.1⟩
  have HBS := Aside0.mk hb
  have HA := Aside0.mk ha
  clear hI hB hb ha
  go_enter Tryd.func21, Tryd.ntmps21
  go_wp2_with fail
  refine (store_reader_count.calls 40 g b a o _ _ _ _ w0 _ HR0.out.i HR0.out.below (st_count b a o 40 HBS.out HA.out (by omega))).mono ?_
  rintro e w1 ⟨rfl, hi, hbl, hk⟩
  have HR1 := Aside0.mk (HR0.out.next hi hbl hk)
  clear hi hbl hk HR0
  go_wp2_with fail
  obtain ⟨n0, hn0⟩ : ∃ n0, n0 = (rdC b a o).1 := ⟨_, rfl⟩
  obtain ⟨a0, ha0⟩ : ∃ a0, a0 = (rdC b a o).2.1 := ⟨_, rfl⟩
  obtain ⟨o0, ho0⟩ : ∃ o0, o0 = (rdC b a o).2.2 := ⟨_, rfl⟩
  have HL : Aside0 (rdList (rdLeaf b) n0 [] a0 o0 = rdLeaves b a o) := ⟨by rw [hn0, ha0, ho0]; rfl⟩
  have HN : Aside0 (n0 < 9223372036854775808 ∧ a0 ≤ b.size) := ⟨by rw [hn0, ha0]; exact ⟨(rdC_ok HA.out).1, (rdC_ok HA.out).2.2⟩⟩
  rw [← hn0]
  rw [← ha0, ← ho0] at HR1
  clear hn0 ha0 ho0
  go_loopw [5, 6] (fun v5 v6 wr => ∃ (n a' : Nat) (o' : Bool) (acc : List S39), v6 = .int .u64 (n : Int) ∧ Aside0 (rdList (rdLeaf b) n acc a' o' = rdLeaves b a o) ∧ Aside0 (n < 9223372036854775808 ∧ a' ≤ b.size ∧ acc.length ≤ 1073741825 ∧ (o' = true → acc.length ≤ a')) ∧ Aside0 (RW w0 w wr g b a' o') ∧ Aside0 (Kd.R k39 39 wr w.heap.size T v5 acc)) (fun _ v6 _ => (intOf v6).toNat)
  case atStart => exact ⟨n0, a0, o0, [], rfl, HL, ⟨⟨HN.out.1, HN.out.2, by simp, by simp⟩⟩, HR1, ⟨Kd.R_nil _ _ _ _ _⟩⟩
  case round =>
    obtain ⟨n, a', o', acc, rfl, HLr, HNr, HRr, HAr⟩ := hrel
    clear HL HN HR1
    have z2 := HRr.out.cell2
    by_cases hn : 0 < n
    · have d1 : decide (0 < (n : Int)) = true := decide_eq_true (by omega)
      have d2 : decide (0 < n) = true := decide_eq_true hn
      cases o' with
      | true =>
        have HS : Aside0 (rdList (rdLeaf b) (n - 1) (acc ++ [(rdLeaf b a' true).1]) (rdLeaf b a' true).2.1 (rdLeaf b a' true).2.2 = rdLeaves b a o) := ⟨by
          rw [← HLr.out]
          obtain ⟨m, rfl⟩ : ∃ m, n = m + 1 := ⟨n - 1, by omega⟩
          rw [rdList, if_pos rfl]
          rfl⟩
        have hw := wrap_sub hn HNr.out.1
        go_wp2_with fail
        refine (store_reader_leaf.calls 40 g b a' true _ _ _ _ _ _ _ _ _ w0 _ HRr.out.i HRr.out.below (st_leaf b a' true 40 HBS.out HNr.out.2.1 (by omega))).mono ?_
        rintro e w2 ⟨rfl, hi, hbl, hk⟩
        have HR2 := Aside0.mk (HRr.out.next hi hbl hk)
        have HA2 : Aside0 (Kd.R k39 39 w2 w.heap.size T u5 acc) := ⟨R_keepN HAr.out hk HG.out⟩
        have HN2 : Aside0 (a' ≤ (rdLeaf b a' true).2.1 ∧ (rdLeaf b a' true).2.1 ≤ b.size ∧ ((rdLeaf b a' true).2.2 = true → a' + 1 ≤ (rdLeaf b a' true).2.1)) := ⟨⟨(good_leaf b a' true HNr.out.2.1).1, (good_leaf b a' true HNr.out.2.1).2.1, eats_leaf b a' true HNr.out.2.1⟩⟩
        have hal := HNr.out.2.2.2 (by simp)
        have HN1 : Aside0 (n < 9223372036854775808 ∧ acc.length ≤ a' ∧ a' ≤ b.size) := ⟨⟨HNr.out.1, hal, HNr.out.2.1⟩⟩
        clear hi hbl hk HRr HAr HLr HNr z2 hal
        generalize rdLeaf b a' true = x at *
        obtain ⟨x, a2, o2⟩ := x
        dsimp only at HS HR2 HN2 ⊢
        go_wp2_with (first | ((with_reducible refine gate_builtin (b := .append) (xs := #[.tmp 19, .tmp 22]) rfl ?_); at_builtin; refine Kd.R_append k39 (w0 := w2) w.heap.size rfl (.tmp 19) (.tmp 22) 25 39 (.agg #[.int .i64 0, .int .i64 0, .int .i64 0, .int .i64 0, .int .u64 0, .string ⟨#[]⟩]) 56 rfl Tryd.underlying25 infoL rfl (by decide) (by omega) u5 acc x [.int .i64 x.f0, .int .i64 x.f1, .int .i64 x.f2, .int .i64 x.f3, .int .u64 x.f4, .string x.f5] T (fun _ => False) rfl rfl ?aP (fun _ hk => hk.elim) (fun _ _ => trivial) ?aO (Below.refl _ _) ?aS ?aL ?_; (case aP => exact k39_mkM _ _ _ x); (case aO => exact HA2.out); (case aS => exact HR2.out.keep.1); (case aL => have := HN1.out; have := HBS.out; omega); intro v1 w9 ho hb hg hat; have HA9 := Aside0.mk ho; have HR9 : Aside0 (RW w0 w w9 g b a2 o2) := ⟨⟨HR2.out.i.grown hg (HR2.out.i.own_ne HA2.out (by decide)), below_weaken HR2.out.below (Nat.le_trans HR2.out.i.2 (Nat.le_of_lt HG.out)) hb, HR2.out.keep.trans (KeepBut.of_grown hg g) (Kd.R_base2 HA2.out)⟩⟩; clear ho hb hg hat HA2 HR2))
        go_roundw
        case measure => first | omega | (simp [intOf]; omega)
        case rel => exact ⟨n - 1, a2, o2, acc ++ [x], rfl, HS, ⟨⟨by have := HN1.out; omega, HN2.out.2.1, by rw [List.length_append, List.length_singleton]; have := HN1.out; have := HBS.out; omega, fun h => by rw [List.length_append, List.length_singleton]; have := HN1.out; have := HN2.out.2.2 h; omega⟩⟩, HR9, HA9⟩
      | false =>
        have HF : Aside0 ((acc, a', false) = rdLeaves b a o) := ⟨by rw [← HLr.out, rdList_no]⟩
        clear HLr
        go_wp2_with fail
        go_ret
        refine ⟨_, rfl, ?_⟩
        rw [← HF.out]
        exact ⟨HAr.out, HRr.out.i, HRr.out.below, HRr.out.keep⟩
    · have d1 : decide (0 < (n : Int)) = false := decide_eq_false (by omega)
      have d2 : decide (0 < n) = false := decide_eq_false hn
      have HF : Aside0 ((acc, a', o') = rdLeaves b a o) := ⟨by
        rw [← HLr.out]
        obtain rfl : n = 0 := by omega
        rfl⟩
      clear HLr
      go_wp2_with fail
      go_ret
      refine ⟨_, rfl, ?_⟩
      rw [← HF.out]
      exact ⟨HAr.out, HRr.out.i, HRr.out.below, HRr.out.keep⟩
set_option maxRecDepth 100000 in
set_option maxHeartbeats 2000000 in
theorem listN_calls (g : Nat) (b : ByteArray) (a : Nat) (o : Bool) (w0 w : World) (hI : IsS55 w0 w g b (a : Int) o) (hB : Below w0.heap.size w0 w) (hb : b.size ≤ 1073741824) (ha : a ≤ b.size) :
    Calls Tryd.prog 23 #[.pointer (some ⟨g, 0, none⟩), .func (.func 24) #[.pointer (some ⟨g, 0, none⟩)] #[]] w fun e w' => ∃ v, e = .returned v ∧ Kd.R k41 41 w' w.heap.size T v (rdNodes b a o).1 ∧
      IsS55 w0 w' g b ((rdNodes b a o).2.1 : Int) (rdNodes b a o).2.2 ∧ Below w0.heap.size w0 w' ∧ KeepBut w w' g none := by
  have HR0 : Aside0 (RW w0 w w g b a o) := ⟨⟨hI, hB, KeepBut.refl _ _ _⟩⟩
  have HG : Aside0 (g < w.heap.size) := ⟨blk_lt hI.1⟩
  have HBS := Aside0.mk hb
  have HA := Aside0.mk ha
  clear hI hB hb ha
  go_enter Tryd.func23, Tryd.ntmps23
  go_wp2_with fail
  refine (store_reader_count.calls 40 g b a o _ _ _ _ w0 _ HR0.out.i HR0.out.below (st_count b a o 40 HBS.out HA.out (by omega))).mono ?_
  rintro e w1 ⟨rfl, hi, hbl, hk⟩
  have HR1 := Aside0.mk (HR0.out.next hi hbl hk)
  clear hi hbl hk HR0
  go_wp2_with fail
  obtain ⟨n0, hn0⟩ : ∃ n0, n0 = (rdC b a o).1 := ⟨_, rfl⟩
  obtain ⟨a0, ha0⟩ : ∃ a0, a0 = (rdC b a o).2.1 := ⟨_, rfl⟩
  obtain ⟨o0, ho0⟩ : ∃ o0, o0 = (rdC b a o).2.2 := ⟨_, rfl⟩
  have HL : Aside0 (rdList (rdNode b) n0 [] a0 o0 = rdNodes b a o) := ⟨by rw [hn0, ha0, ho0]; rfl⟩
  have HN : Aside0 (n0 < 9223372036854775808 ∧ a0 ≤ b.size) := ⟨by rw [hn0, ha0]; exact ⟨(rdC_ok HA.out).1, (rdC_ok HA.out).2.2⟩⟩
  rw [← hn0]
  rw [← ha0, ← ho0] at HR1
  clear hn0 ha0 ho0
  go_loopw [5, 6] (fun v5 v6 wr => ∃ (n a' : Nat) (o' : Bool) (acc : List S41), v6 = .int .u64 (n : Int) ∧ Aside0 (rdList (rdNode b) n acc a' o' = rdNodes b a o) ∧ Aside0 (n < 9223372036854775808 ∧ a' ≤ b.size ∧ acc.length ≤ 1073741825 ∧ (o' = true → acc.length ≤ a')) ∧ Aside0 (RW w0 w wr g b a' o') ∧ Aside0 (Kd.R k41 41 wr w.heap.size T v5 acc)) (fun _ v6 _ => (intOf v6).toNat)
  case atStart => exact ⟨n0, a0, o0, [], rfl, HL, ⟨⟨HN.out.1, HN.out.2, by simp, by simp⟩⟩, HR1, ⟨Kd.R_nil _ _ _ _ _⟩⟩
  case round =>
    obtain ⟨n, a', o', acc, rfl, HLr, HNr, HRr, HAr⟩ := hrel
    clear HL HN HR1
    have z2 := HRr.out.cell2
    by_cases hn : 0 < n
    · have d1 : decide (0 < (n : Int)) = true := decide_eq_true (by omega)
      have d2 : decide (0 < n) = true := decide_eq_true hn
      cases o' with
      | true =>
        have HS : Aside0 (rdList (rdNode b) (n - 1) (acc ++ [(rdNode b a' true).1]) (rdNode b a' true).2.1 (rdNode b a' true).2.2 = rdNodes b a o) := ⟨by
          rw [← HLr.out]
          obtain ⟨m, rfl⟩ : ∃ m, n = m + 1 := ⟨n - 1, by omega⟩
          rw [rdList, if_pos rfl]
          rfl⟩
        have hw := wrap_sub hn HNr.out.1
        go_wp2_with fail
        refine (store_reader_node.calls 40 g b a' true _ _ _ _ _ _ _ _ _ _ w0 _ HRr.out.i HRr.out.below (st_node b a' true 40 HBS.out HNr.out.2.1 (by omega))).mono ?_
        rintro e w2 ⟨rfl, hi, hbl, hk⟩
        have HR2 := Aside0.mk (HRr.out.next hi hbl hk)
        have HA2 : Aside0 (Kd.R k41 41 w2 w.heap.size T u5 acc) := ⟨R_keepN HAr.out hk HG.out⟩
        have HN2 : Aside0 (a' ≤ (rdNode b a' true).2.1 ∧ (rdNode b a' true).2.1 ≤ b.size ∧ ((rdNode b a' true).2.2 = true → a' + 1 ≤ (rdNode b a' true).2.1)) := ⟨⟨(good_node b a' true HNr.out.2.1).1, (good_node b a' true HNr.out.2.1).2.1, eats_node b a' true HNr.out.2.1⟩⟩
        have hal := HNr.out.2.2.2 (by simp)
        have HN1 : Aside0 (n < 9223372036854775808 ∧ acc.length ≤ a' ∧ a' ≤ b.size) := ⟨⟨HNr.out.1, hal, HNr.out.2.1⟩⟩
        clear hi hbl hk HRr HAr HLr HNr z2 hal
        generalize rdNode b a' true = x at *
        obtain ⟨x, a2, o2⟩ := x
        dsimp only at HS HR2 HN2 ⊢
        go_wp2_with (first | ((with_reducible refine gate_builtin (b := .append) (xs := #[.tmp 19, .tmp 22]) rfl ?_); at_builtin; refine Kd.R_append k41 (w0 := w2) w.heap.size rfl (.tmp 19) (.tmp 22) 26 41 (.agg #[.string ⟨#[]⟩, .bool false, .string ⟨#[]⟩, .int .i64 0, .int .i64 0, .int .i64 0, .int .i64 0]) 72 rfl Tryd.underlying26 infoN rfl (by decide) (by omega) u5 acc x [.string x.f0, .bool x.f1, .string x.f2, .int .i64 x.f3, .int .i64 x.f4, .int .i64 x.f5, .int .i64 x.f6] T (fun _ => False) rfl rfl ?aP (fun _ hk => hk.elim) (fun _ _ => trivial) ?aO (Below.refl _ _) ?aS ?aL ?_; (case aP => exact k41_mkM _ _ _ x); (case aO => exact HA2.out); (case aS => exact HR2.out.keep.1); (case aL => have := HN1.out; have := HBS.out; omega); intro v1 w9 ho hb hg hat; have HA9 := Aside0.mk ho; have HR9 : Aside0 (RW w0 w w9 g b a2 o2) := ⟨⟨HR2.out.i.grown hg (HR2.out.i.own_ne HA2.out (by decide)), below_weaken HR2.out.below (Nat.le_trans HR2.out.i.2 (Nat.le_of_lt HG.out)) hb, HR2.out.keep.trans (KeepBut.of_grown hg g) (Kd.R_base2 HA2.out)⟩⟩; clear ho hb hg hat HA2 HR2))
        go_roundw
        case measure => first | omega | (simp [intOf]; omega)
        case rel => exact ⟨n - 1, a2, o2, acc ++ [x], rfl, HS, ⟨⟨by have := HN1.out; omega, HN2.out.2.1, by rw [List.length_append, List.length_singleton]; have := HN1.out; have := HBS.out; omega, fun h => by rw [List.length_append, List.length_singleton]; have := HN1.out; have := HN2.out.2.2 h; omega⟩⟩, HR9, HA9⟩
      | false =>
        have HF : Aside0 ((acc, a', false) = rdNodes b a o) := ⟨by rw [← HLr.out, rdList_no]⟩
        clear HLr
        go_wp2_with fail
        go_ret
        refine ⟨_, rfl, ?_⟩
        rw [← HF.out]
        exact ⟨HAr.out, HRr.out.i, HRr.out.below, HRr.out.keep⟩
    · have d1 : decide (0 < (n : Int)) = false := decide_eq_false (by omega)
      have d2 : decide (0 < n) = false := decide_eq_false hn
      have HF : Aside0 ((acc, a', o') = rdNodes b a o) := ⟨by
        rw [← HLr.out]
        obtain rfl : n = 0 := by omega
        rfl⟩
      clear HLr
      go_wp2_with fail
      go_ret
      refine ⟨_, rfl, ?_⟩
      rw [← HF.out]
      exact ⟨HAr.out, HRr.out.i, HRr.out.below, HRr.out.keep⟩
end Go.Proofs.YtjgccbpdpnpfjaaDoor.ST
