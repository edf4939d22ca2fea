/- Encode: the bytes of a result that can be kept, or none: the walk. -/
import Derived.Test.YtjgccbpdpnpfjaaDoorStoreEncPure
import Derived.Deep.DeepCutAuto
import Derived.IntWalk
namespace Go.Proofs.YtjgccbpdpnpfjaaDoor.ST
open Go.RowKit Go.WideShapes Go.ChangeShapes Go.Proofs.YtjgccbpdpnpfjaaDoorW.PrintWords Go.Proofs.YtjgccbpdpnpfjaaDoorW.PrintLast Go.Proofs.YtjgccbpdpnpfjaaDoorW.PrintMore Go.Proofs.YtjgccbpdpnpfjaaDoor.PAll
set_option linter.unusedVariables false

theorem Wr_new (w w0 : World) (h : w0.heap.size ≤ w.heap.size) : Wr ((w.alloc (.cells #[.int .u8 83, .int .u8 1] 5)).alloc (.cells #[.slice (some ⟨w.heap.size, 0, none⟩) 2 2] 76)) w0.heap.size (w.heap.size + 1) [83, 1] := by
  have hr : Kd.R (Kd.int .u8) 5 (w.alloc (.cells #[.int .u8 83, .int .u8 1] 5)) w0.heap.size (fun _ => True) (.slice (some ⟨w.heap.size, 0, none⟩) 2 2) [83, 1] := by
    refine Kd.R_of_own (e := 5) ?_ (fun _ _ => trivial)
    exact own_lit w w0.heap.size 5 .u8 [83, 1] h (by simp)
  refine ⟨by omega, _, ?_, Kd.R_below hr (below_alloc (Below.refl _ _) _)⟩
  have h3 := heap_alloc_new (w.alloc (.cells #[.int .u8 83, .int .u8 1] 5)) (.cells #[.slice (some ⟨w.heap.size, 0, none⟩) 2 2] 76)
  simpa using h3

set_option maxRecDepth 100000 in
set_option maxHeartbeats 4000000 in
theorem Encode_yes (d t : ByteArray) (c a wt rt : Int) (A3 A4 : Option Addr) (c3 c4 : Nat) (ls : List S39) (ns : List S41) (w : World) (hr3 : Kd.C k39 w A3 ls.length ls) (hc3 : ls.length ≤ c3) (hr4 : Kd.C k41 w A4 ns.length ns) (hc4 : ns.length ≤ c4)
    (hd : d.size ≤ 140737488351232) (ht : t.size ≤ 140737488351232) (hc : c < 9223372036854775808) (ha : a < 9223372036854775808) (hrt : rt < 9223372036854775808) (hw0 : 0 ≤ wt) (hw1 : wt < 18446744073709551616) (hls : ∀ x ∈ ls, okL x) (hns : ∀ x ∈ ns, okN x)
    (hsl : (ls.map wtLf).sum ≤ 2097152) (hsn : (ns.map wtNd).sum ≤ 2097152) (hk : keptB c a rt ls ns = true) :
    Calls Tryd.prog 13 #[.string d, .string t, .agg #[.int .i64 c, .int .i64 a, .int .u64 wt, .slice A3 ls.length c3, .slice A4 ns.length c4, .int .i64 rt]] w fun e w' => e = .returned (.string (strOfNums (encL d t c a wt rt ls ns))) ∧ Below w.heap.size w w' := by
  have hll := len_sum wtLf (fun x => by unfold wtLf; omega) ls
  have hnl := len_sum wtNd (fun x => by unfold wtNd; omega) ns
  have HKF := Aside0.mk (kept_f c a wt rt ls ns (fun x hx => by have := (hns x hx).2.2.2; omega) (by omega) (by omega))
  rw [hk] at HKF
  obtain ⟨k0, k1, k2, k3, k4⟩ := kept_all hk
  have HD := Aside0.mk (Sum_f d hd)
  have HT := Aside0.mk (Sum_f t ht)
  have HC3 := Aside0.mk hr3
  have HC4 := Aside0.mk hr4
  have H3 := Aside0.mk hc3
  have H4 := Aside0.mk hc4
  have HZ := Aside0.mk (show ∀ z ∈ [c, a, rt], 0 ≤ z ∧ z < 9223372036854775808 by intro z hz; simp at hz; rcases hz with rfl | rfl | rfl <;> omega)
  have HZ3 := Aside0.mk (show ∀ z ∈ [(ls.length : Int)], 0 ≤ z ∧ z < 9223372036854775808 by intro z hz; simp at hz; subst hz; omega)
  have HZ4 := Aside0.mk (show ∀ z ∈ [(ns.length : Int)], 0 ≤ z ∧ z < 9223372036854775808 by intro z hz; simp at hz; subst hz; omega)
  have HLS := Aside0.mk (show ∀ x ∈ ls, okL x ∧ 0 ≤ x.f0 ∧ 0 ≤ x.f1 ∧ 0 ≤ x.f2 ∧ 0 ≤ x.f3 from fun x hx => ⟨hls x hx, k3 x hx⟩)
  have HNS := Aside0.mk (show ∀ x ∈ ns, okN x ∧ 0 ≤ x.f3 ∧ 0 ≤ x.f4 ∧ 0 ≤ x.f5 ∧ -1 ≤ x.f6 ∧ x.f6 < 9223372036854775807 from fun x hx => ⟨hns x hx, k4 x hx⟩)
  have HSL := Aside0.mk hsl
  have HSN := Aside0.mk hsn
  have HLL := Aside0.mk (show ls.length ≤ 2097152 by omega)
  have HNL := Aside0.mk (show ns.length ≤ 2097152 by omega)
  obtain ⟨m, rfl⟩ := Int.eq_ofNat_of_zero_le hw0
  have HWT := Aside0.mk (show m < 18446744073709551616 by omega)
  have HM := Aside0.mk (Int.toNat_natCast m)
  clear hll hnl hk k0 k1 k2 k3 k4 hd ht hr3 hr4 hc3 hc4 hc ha hrt hls hns hsl hsn hw0 hw1
  have hba := below_alloc (Below.refl w.heap.size w) (.cells #[.int .i64 c, .int .i64 a, .int .u64 (m : Int), .slice A3 ls.length c3, .slice A4 ns.length c4, .int .i64 rt] 28)
  have HBA := Aside0.mk hba
  have HRB := Aside0.mk (heap_alloc_new w (.cells #[.int .i64 c, .int .i64 a, .int .u64 (m : Int), .slice A3 ls.length c3, .slice A4 ns.length c4, .int .i64 rt] 28))
  clear hba
  go_enter Tryd.func13, Tryd.ntmps13
  go_wp2_with fail
  refine (store_kept.calls _ c a m A3 c3 ls A4 c4 ns rt true _ (Kd.C_below HC3.out HBA.out) H3.out (Kd.C_below HC4.out HBA.out) H4.out HKF.out).mono ?_
  rintro e w1 ⟨rfl, hB⟩
  have HR1 := Aside0.mk ((hB.block _ (blk_lt HRB.out)).trans HRB.out)
  have HB1 := Aside0.mk (below_then HBA.out HBA.out.size hB)
  clear hB HBA HRB HKF
  go_wp2_with fail
  have hb2 := below_alloc (below_alloc (Below.refl w1.heap.size w1) (.cells #[.int .u8 83, .int .u8 1] 5)) (.cells #[.slice (some ⟨w1.heap.size, 0, none⟩) 2 2] 76)
  refine (store_Sum.calls (d.size + 1) d _ _ HD.out).mono ?_
  rintro e w2 ⟨rfl, hD⟩
  have HW2 := Aside0.mk ((Wr_new w1 w HB1.out.size).below hD.below)
  have HR2 := Aside0.mk ((hD.below.block _ (blk_lt ((hb2.block _ (blk_lt HR1.out)).trans HR1.out))).trans ((hb2.block _ (blk_lt HR1.out)).trans HR1.out))
  have HB2 := Aside0.mk (below_then (below_then HB1.out HB1.out.size hb2) (Nat.le_trans HB1.out.size hb2.size) hD.below)
  obtain ⟨g, hg⟩ : ∃ g, w1.heap.size + 1 = g := ⟨_, rfl⟩
  rw [hg] at HW2 ⊢
  have HX2 : Aside0 (([83, 1] : List Int).length ≤ 2) := ⟨by simp⟩
  have HGR := Aside0.mk (show w.heap.size ≠ g from by
    obtain ⟨_, v, hgv, _⟩ := HW2.out
    exact blk_ne HR2.out hgv (by decide))
  clear hD hb2 HR1 HB1 hg
  go_wp2_with fail
  refine (word_calls w _ g (sumS d) _ HW2.out HB2.out (by have := HX2.out; omega)).mono ?_
  rintro e w3 ⟨rfl, hW, hB, hK⟩
  have HW3 := Aside0.mk hW
  have HB3 := Aside0.mk hB
  have HR3 := Aside0.mk (hK.2 _ _ 28 HR2.out HGR.out (by decide))
  have HX3 := Aside0.mk (len_word (sumS d) HX2.out)
  clear hW hB hK HW2 HB2 HR2 HX2
  go_wp2_with fail
  refine (store_Sum.calls (t.size + 1) t _ _ HT.out).mono ?_
  rintro e w4 ⟨rfl, hD⟩
  have HW4 := Aside0.mk (HW3.out.below hD.below)
  have HR4 := Aside0.mk ((hD.below.block _ (blk_lt HR3.out)).trans HR3.out)
  have HB4 := Aside0.mk (below_then HB3.out HB3.out.size hD.below)
  have HX4 := HX3
  clear hD HW3 HR3 HB3 HX3
  go_wp2_with fail
  refine (word_calls w _ g (sumS t) _ HW4.out HB4.out (by have := HX4.out; omega)).mono ?_
  rintro e w5 ⟨rfl, hW, hB, hK⟩
  have HW5 := Aside0.mk hW
  have HB5 := Aside0.mk hB
  have HR5 := Aside0.mk (hK.2 _ _ 28 HR4.out HGR.out (by decide))
  have HX5 := Aside0.mk (len_word (sumS t) HX4.out)
  clear hW hB hK HW4 HB4 HR4 HX4
  have hr := HR5.out
  have q0 : w5.cell? ⟨w.heap.size, 0, none⟩ = some (Value.int .i64 c) := (blk_cell hr 0).trans rfl
  have q1 : w5.cell? ⟨w.heap.size, 1, none⟩ = some (Value.int .i64 a) := (blk_cell hr 1).trans rfl
  have q2 : w5.cell? ⟨w.heap.size, 2, none⟩ = some (Value.int .u64 (m : Int)) := (blk_cell hr 2).trans rfl
  have q3 : w5.cell? ⟨w.heap.size, 3, none⟩ = some (Value.slice A3 ls.length c3) := (blk_cell hr 3).trans rfl
  have q4 : w5.cell? ⟨w.heap.size, 4, none⟩ = some (Value.slice A4 ns.length c4) := (blk_cell hr 4).trans rfl
  have q5 : w5.cell? ⟨w.heap.size, 5, none⟩ = some (Value.int .i64 rt) := (blk_cell hr 5).trans rfl
  clear hr
  go_wp2_with fail
  have hba := below_alloc (Below.refl w5.heap.size w5) (.cells #[.int .i64 c, .int .i64 a, .int .i64 rt] 3)
  have HRx := (hba.block _ (blk_lt HR5.out)).trans HR5.out
  refine (counts_calls w _ g w5.heap.size _ [c, a, rt] (heap_alloc_new w5 _) HZ.out (by simp) (HW5.out.below hba) (HB5.out.alloc HB5.out.size _) (by have := HX5.out; omega) 3 rfl).mono ?_
  rintro e w6 ⟨rfl, hW, hB, hK⟩
  have HW6 := Aside0.mk hW
  have HB6 := Aside0.mk hB
  have HR6 := Aside0.mk (hK.2 _ _ 28 HRx HGR.out (by decide))
  have HX6 := Aside0.mk (len_countsN [c, a, rt] 3 rfl HX5.out)
  clear hW hB hK HW5 HB5 HR5 HX5 hba HRx q0 q1 q2 q3 q4 q5
  have hr := HR6.out
  have q0 : w6.cell? ⟨w.heap.size, 0, none⟩ = some (Value.int .i64 c) := (blk_cell hr 0).trans rfl
  have q1 : w6.cell? ⟨w.heap.size, 1, none⟩ = some (Value.int .i64 a) := (blk_cell hr 1).trans rfl
  have q2 : w6.cell? ⟨w.heap.size, 2, none⟩ = some (Value.int .u64 (m : Int)) := (blk_cell hr 2).trans rfl
  have q3 : w6.cell? ⟨w.heap.size, 3, none⟩ = some (Value.slice A3 ls.length c3) := (blk_cell hr 3).trans rfl
  have q4 : w6.cell? ⟨w.heap.size, 4, none⟩ = some (Value.slice A4 ns.length c4) := (blk_cell hr 4).trans rfl
  have q5 : w6.cell? ⟨w.heap.size, 5, none⟩ = some (Value.int .i64 rt) := (blk_cell hr 5).trans rfl
  clear hr
  go_wp2_with fail
  refine (word_calls w _ g m _ HW6.out HB6.out (by have := HX6.out; omega)).mono ?_
  rintro e w7 ⟨rfl, hW, hB, hK⟩
  have HW7 := Aside0.mk hW
  have HB7 := Aside0.mk hB
  have HR7 := Aside0.mk (hK.2 _ _ 28 HR6.out HGR.out (by decide))
  have HX7 := Aside0.mk (len_word m HX6.out)
  clear hW hB hK HW6 HB6 HR6 HX6 q0 q1 q2 q3 q4 q5
  have hr := HR7.out
  have q0 : w7.cell? ⟨w.heap.size, 0, none⟩ = some (Value.int .i64 c) := (blk_cell hr 0).trans rfl
  have q1 : w7.cell? ⟨w.heap.size, 1, none⟩ = some (Value.int .i64 a) := (blk_cell hr 1).trans rfl
  have q2 : w7.cell? ⟨w.heap.size, 2, none⟩ = some (Value.int .u64 (m : Int)) := (blk_cell hr 2).trans rfl
  have q3 : w7.cell? ⟨w.heap.size, 3, none⟩ = some (Value.slice A3 ls.length c3) := (blk_cell hr 3).trans rfl
  have q4 : w7.cell? ⟨w.heap.size, 4, none⟩ = some (Value.slice A4 ns.length c4) := (blk_cell hr 4).trans rfl
  have q5 : w7.cell? ⟨w.heap.size, 5, none⟩ = some (Value.int .i64 rt) := (blk_cell hr 5).trans rfl
  clear hr
  go_wp2_with fail
  have hba := below_alloc (Below.refl w7.heap.size w7) (.cells #[.int .i64 (ls.length : Int)] 3)
  have HRx := (hba.block _ (blk_lt HR7.out)).trans HR7.out
  refine (counts_calls w _ g w7.heap.size _ [(ls.length : Int)] (heap_alloc_new w7 _) HZ3.out (by simp) (HW7.out.below hba) (HB7.out.alloc HB7.out.size _) (by have := HX7.out; omega) 1 rfl).mono ?_
  rintro e w8 ⟨rfl, hW, hB, hK⟩
  have HW8 := Aside0.mk hW
  have HB8 := Aside0.mk hB
  have HR8 := Aside0.mk (hK.2 _ _ 28 HRx HGR.out (by decide))
  have HX8 := Aside0.mk (len_countsN [(ls.length : Int)] 1 rfl HX7.out)
  clear hW hB hK HW7 HB7 HR7 HX7 hba HRx q0 q1 q2 q3 q4 q5
  have hr := HR8.out
  have q0 : w8.cell? ⟨w.heap.size, 0, none⟩ = some (Value.int .i64 c) := (blk_cell hr 0).trans rfl
  have q1 : w8.cell? ⟨w.heap.size, 1, none⟩ = some (Value.int .i64 a) := (blk_cell hr 1).trans rfl
  have q2 : w8.cell? ⟨w.heap.size, 2, none⟩ = some (Value.int .u64 (m : Int)) := (blk_cell hr 2).trans rfl
  have q3 : w8.cell? ⟨w.heap.size, 3, none⟩ = some (Value.slice A3 ls.length c3) := (blk_cell hr 3).trans rfl
  have q4 : w8.cell? ⟨w.heap.size, 4, none⟩ = some (Value.slice A4 ns.length c4) := (blk_cell hr 4).trans rfl
  have q5 : w8.cell? ⟨w.heap.size, 5, none⟩ = some (Value.int .i64 rt) := (blk_cell hr 5).trans rfl
  clear hr
  have HW : Aside0 (Wr w8 w.heap.size g (preL d t c a m rt ls 0)) := ⟨by unfold preL headL; rw [HM.out]; simpa using HW8.out⟩
  have HB := HB8
  have HR := HR8
  clear HW8 HB8 HR8 HX8
  go_wp2_with fail
  clear q0 q1 q2 q3 q4 q5
  go_loopw [9, 49] (fun v9 v49 wr => ∃ i : Nat, v49 = .int .i64 (i : Int) ∧ i ≤ ls.length ∧ Aside0 (Wr wr w.heap.size g (preL d t c a m rt ls i)) ∧ Aside0 (wr.heap[w.heap.size]? = some (.cells #[.int .i64 c, .int .i64 a, .int .u64 (m : Int), .slice A3 ls.length c3, .slice A4 ns.length c4, .int .i64 rt] 28 (0, 0))) ∧ Aside0 (Below w.heap.size w wr)) (fun _ v49 _ => ls.length - (intOf v49).toNat)
  case atStart => exact ⟨0, rfl, by omega, HW, HR, HB⟩
  case round =>
    obtain ⟨i, rfl, hi, HW2, HR2, HB2⟩ := hrel
    clear HW HR HB
    have hll := HLL.out
    by_cases h : i < ls.length
    · have d1 : decide ((i : Int) < (ls.length : Int)) = true := decide_eq_true (by omega)
      have d2 : decide (i < ls.length) = true := decide_eq_true h
      have d3 : (i : Int) < (ls.length : Int) := by omega
      obtain ⟨ad, hA, z0, z1, z2, z3, z4, z5⟩ := at_T39 (Kd.C_below HC3.out HB2.out) (i : Int) (by omega) (by omega)
      have hok := HLS.out ls[i] (List.getElem_mem h)
      have hwt := mem_sum wtLf ls i h
      have hsx := preL_succ d t c a m rt ls i h
      rw [rdL ls i h, Int.toNat_natCast] at z0 z1 z2 z3 z4 z5
      obtain ⟨x, hx⟩ : ∃ x, ls[i] = x := ⟨_, rfl⟩
      rw [hx] at z0 z1 z2 z3 z4 z5 hok hwt hsx
      obtain ⟨x0, x1, x2, x3, x4, x5⟩ := x
      simp only at z0 z1 z2 z3 z4 z5 hsx
      obtain ⟨⟨o0, o1, o2, o3, o4, o5⟩, o6, o7, o8, o9⟩ := hok
      simp only at o0 o1 o2 o3 o4 o5 o6 o7 o8 o9
      subst hA
      obtain ⟨y4, rfl⟩ := Int.eq_ofNat_of_zero_le o4
      rw [Int.toNat_natCast] at hsx
      have HSX := Aside0.mk hsx
      have HZX := Aside0.mk (show ∀ z ∈ [x0, x1, x2, x3], 0 ≤ z ∧ z < 9223372036854775808 by intro z hz; simp at hz; rcases hz with rfl | rfl | rfl | rfl <;> omega)
      have HS5 := Aside0.mk (show x5.size ≤ 4294967296 by have := HSL.out; have hw2 : x5.size + 1 ≤ (ls.map wtLf).sum := hwt; omega)
      have HX2 := Aside0.mk (preL_len d t c a m rt ls i HSL.out)
      clear hsx o0 o1 o2 o3 o4 o5 o6 o7 o8 o9 hwt hx
      go_upto_region 12 with fail
      have hba := below_alloc (Below.refl wr.heap.size wr) (.cells #[.int .i64 x0, .int .i64 x1, .int .i64 x2, .int .i64 x3, .int .u64 (y4 : Int), .string x5] 39)
      have hen := heap_alloc_new wr (.cells #[.int .i64 x0, .int .i64 x1, .int .i64 x2, .int .i64 x3, .int .u64 (y4 : Int), .string x5] 39)
      have HW3 := Aside0.mk (HW2.out.below hba)
      have HR3 := Aside0.mk ((hba.block _ (blk_lt HR2.out)).trans HR2.out)
      have HB3 := Aside0.mk (below_then HB2.out HB2.out.size hba)
      have HX3 := HX2
      obtain ⟨w3, hw3⟩ : ∃ w3, wr.alloc (.cells #[.int .i64 x0, .int .i64 x1, .int .i64 x2, .int .i64 x3, .int .u64 (y4 : Int), .string x5] 39) = w3 := ⟨_, rfl⟩
      obtain ⟨bl, hbl⟩ : ∃ bl, wr.heap.size = bl := ⟨_, rfl⟩
      rw [hw3] at HW3 HR3 HB3 hen ⊢
      rw [hbl] at hen ⊢
      have HE3 := Aside0.mk hen
      have HGE := Aside0.mk (show bl ≠ g from by
        obtain ⟨_, v, hgv, _⟩ := HW3.out
        exact blk_ne HE3.out hgv (by decide))
      clear hba hen hw3 hbl HW2 HR2 HB2 HX2
      have hl := HE3.out
      have p0 : w3.cell? ⟨bl, 0, none⟩ = some (Value.int .i64 x0) := (blk_cell hl 0).trans rfl
      have p1 : w3.cell? ⟨bl, 1, none⟩ = some (Value.int .i64 x1) := (blk_cell hl 1).trans rfl
      have p2 : w3.cell? ⟨bl, 2, none⟩ = some (Value.int .i64 x2) := (blk_cell hl 2).trans rfl
      have p3 : w3.cell? ⟨bl, 3, none⟩ = some (Value.int .i64 x3) := (blk_cell hl 3).trans rfl
      have p4 : w3.cell? ⟨bl, 4, none⟩ = some (Value.int .u64 (y4 : Int)) := (blk_cell hl 4).trans rfl
      have p5 : w3.cell? ⟨bl, 5, none⟩ = some (Value.string x5) := (blk_cell hl 5).trans rfl
      clear hl
      go_wp2_with fail
      have hba := below_alloc (Below.refl w3.heap.size w3) (.cells #[.int .i64 x0, .int .i64 x1, .int .i64 x2, .int .i64 x3] 3)
      have HRx := (hba.block _ (blk_lt HR3.out)).trans HR3.out
      have HEx := (hba.block _ (blk_lt HE3.out)).trans HE3.out
      refine (counts_calls w _ g w3.heap.size _ [x0, x1, x2, x3] (heap_alloc_new w3 _) HZX.out (by simp) (HW3.out.below hba) (HB3.out.alloc HB3.out.size _) (by have := HX3.out; omega) 4 rfl).mono ?_
      rintro e w4 ⟨rfl, hW, hB, hK⟩
      have HW4 := Aside0.mk hW
      have HB4 := Aside0.mk hB
      have HR4 := Aside0.mk (hK.2 _ _ 28 HRx HGR.out (by decide))
      have HE4 := Aside0.mk (hK.2 _ _ 39 HEx HGE.out (by decide))
      have HX4 := Aside0.mk (len_countsN [x0, x1, x2, x3] 4 rfl HX3.out)
      clear hW hB hK HW3 HB3 HR3 HX3 HE3 hba HRx HEx p0 p1 p2 p3 p4 p5
      have hl := HE4.out
      have p0 : w4.cell? ⟨bl, 0, none⟩ = some (Value.int .i64 x0) := (blk_cell hl 0).trans rfl
      have p1 : w4.cell? ⟨bl, 1, none⟩ = some (Value.int .i64 x1) := (blk_cell hl 1).trans rfl
      have p2 : w4.cell? ⟨bl, 2, none⟩ = some (Value.int .i64 x2) := (blk_cell hl 2).trans rfl
      have p3 : w4.cell? ⟨bl, 3, none⟩ = some (Value.int .i64 x3) := (blk_cell hl 3).trans rfl
      have p4 : w4.cell? ⟨bl, 4, none⟩ = some (Value.int .u64 (y4 : Int)) := (blk_cell hl 4).trans rfl
      have p5 : w4.cell? ⟨bl, 5, none⟩ = some (Value.string x5) := (blk_cell hl 5).trans rfl
      clear hl
      go_wp2_with fail
      refine (word_calls w _ g y4 _ HW4.out HB4.out (by have := HX4.out; omega)).mono ?_
      rintro e w5 ⟨rfl, hW, hB, hK⟩
      have HW5 := Aside0.mk hW
      have HB5 := Aside0.mk hB
      have HR5 := Aside0.mk (hK.2 _ _ 28 HR4.out HGR.out (by decide))
      have HE5 := Aside0.mk (hK.2 _ _ 39 HE4.out HGE.out (by decide))
      have HX5 := Aside0.mk (len_word y4 HX4.out)
      clear hW hB hK HW4 HB4 HR4 HX4 HE4 p0 p1 p2 p3 p4 p5
      have hl := HE5.out
      have p0 : w5.cell? ⟨bl, 0, none⟩ = some (Value.int .i64 x0) := (blk_cell hl 0).trans rfl
      have p1 : w5.cell? ⟨bl, 1, none⟩ = some (Value.int .i64 x1) := (blk_cell hl 1).trans rfl
      have p2 : w5.cell? ⟨bl, 2, none⟩ = some (Value.int .i64 x2) := (blk_cell hl 2).trans rfl
      have p3 : w5.cell? ⟨bl, 3, none⟩ = some (Value.int .i64 x3) := (blk_cell hl 3).trans rfl
      have p4 : w5.cell? ⟨bl, 4, none⟩ = some (Value.int .u64 (y4 : Int)) := (blk_cell hl 4).trans rfl
      have p5 : w5.cell? ⟨bl, 5, none⟩ = some (Value.string x5) := (blk_cell hl 5).trans rfl
      clear hl
      go_wp2_with fail
      refine (text_calls w _ g x5 _ HS5.out HW5.out HB5.out (by have := HX5.out; omega)).mono ?_
      rintro e w6 ⟨rfl, hW, hB, hK⟩
      have HW6 := Aside0.mk hW
      have HB6 := Aside0.mk hB
      have HR6 := Aside0.mk (hK.2 _ _ 28 HR5.out HGR.out (by decide))
      have HE6 := Aside0.mk (hK.2 _ _ 39 HE5.out HGE.out (by decide))
      have HX6 := Aside0.mk (len_text x5 HX5.out)
      clear hW hB hK HW5 HB5 HR5 HX5 HE5 p0 p1 p2 p3 p4 p5
      go_wp2
      go_roundw
      case rel => exact ⟨i + 1, by congr 1, by omega, ⟨by rw [HSX.out]; exact HW6.out⟩, HR6, HB6⟩
      case measure => first | omega | (simp [intOf]; omega)
    · obtain rfl : i = ls.length := by omega
      have d1 : decide ((ls.length : Int) < (ls.length : Int)) = false := decide_eq_false (by omega)
      have HX2 := Aside0.mk (preL_len d t c a m rt ls ls.length HSL.out)
      have hr := HR2.out
      have q0 : wr.cell? ⟨w.heap.size, 0, none⟩ = some (Value.int .i64 c) := (blk_cell hr 0).trans rfl
      have q1 : wr.cell? ⟨w.heap.size, 1, none⟩ = some (Value.int .i64 a) := (blk_cell hr 1).trans rfl
      have q2 : wr.cell? ⟨w.heap.size, 2, none⟩ = some (Value.int .u64 (m : Int)) := (blk_cell hr 2).trans rfl
      have q3 : wr.cell? ⟨w.heap.size, 3, none⟩ = some (Value.slice A3 ls.length c3) := (blk_cell hr 3).trans rfl
      have q4 : wr.cell? ⟨w.heap.size, 4, none⟩ = some (Value.slice A4 ns.length c4) := (blk_cell hr 4).trans rfl
      have q5 : wr.cell? ⟨w.heap.size, 5, none⟩ = some (Value.int .i64 rt) := (blk_cell hr 5).trans rfl
      clear hr
      go_wp2_with fail
      have hba := below_alloc (Below.refl wr.heap.size wr) (.cells #[.int .i64 (ns.length : Int)] 3)
      have HRx := (hba.block _ (blk_lt HR2.out)).trans HR2.out
      refine (counts_calls w _ g wr.heap.size _ [(ns.length : Int)] (heap_alloc_new wr _) HZ4.out (by simp) (HW2.out.below hba) (HB2.out.alloc HB2.out.size _) (by have := HX2.out; omega) 1 rfl).mono ?_
      rintro e w3 ⟨rfl, hW, hB, hK⟩
      have HW3 := Aside0.mk hW
      have HB3 := Aside0.mk hB
      have HR3 := Aside0.mk (hK.2 _ _ 28 HRx HGR.out (by decide))
      have HX3 := Aside0.mk (len_countsN [(ns.length : Int)] 1 rfl HX2.out)
      clear hW hB hK HW2 HB2 HR2 HX2 hba HRx q0 q1 q2 q3 q4 q5
      have hr := HR3.out
      have q0 : w3.cell? ⟨w.heap.size, 0, none⟩ = some (Value.int .i64 c) := (blk_cell hr 0).trans rfl
      have q1 : w3.cell? ⟨w.heap.size, 1, none⟩ = some (Value.int .i64 a) := (blk_cell hr 1).trans rfl
      have q2 : w3.cell? ⟨w.heap.size, 2, none⟩ = some (Value.int .u64 (m : Int)) := (blk_cell hr 2).trans rfl
      have q3 : w3.cell? ⟨w.heap.size, 3, none⟩ = some (Value.slice A3 ls.length c3) := (blk_cell hr 3).trans rfl
      have q4 : w3.cell? ⟨w.heap.size, 4, none⟩ = some (Value.slice A4 ns.length c4) := (blk_cell hr 4).trans rfl
      have q5 : w3.cell? ⟨w.heap.size, 5, none⟩ = some (Value.int .i64 rt) := (blk_cell hr 5).trans rfl
      clear hr
      have HW : Aside0 (Wr w3 w.heap.size g (preN d t c a m rt ls ns 0)) := ⟨by rw [← preL_all]; exact HW3.out⟩
      have HB := HB3
      have HR := HR3
      clear HW3 HB3 HR3 HX3
      go_wp2_with fail
      clear q0 q1 q2 q3 q4 q5
      go_loopw [11, 12, 82] (fun v11 v12 v82 wr => ∃ i : Nat, v82 = .int .i64 (i : Int) ∧ i ≤ ns.length ∧ Aside0 (Wr wr w.heap.size g (preN d t c a m rt ls ns i)) ∧ Aside0 (wr.heap[w.heap.size]? = some (.cells #[.int .i64 c, .int .i64 a, .int .u64 (m : Int), .slice A3 ls.length c3, .slice A4 ns.length c4, .int .i64 rt] 28 (0, 0))) ∧ Aside0 (Below w.heap.size w wr)) (fun _ _ v82 _ => ns.length - (intOf v82).toNat)
      case atStart => exact ⟨0, rfl, by omega, HW, HR, HB⟩
      case round =>
        obtain ⟨i, rfl, hi, HW2, HR2, HB2⟩ := hrel
        clear HW HR HB
        have hnl := HNL.out
        by_cases h : i < ns.length
        · have d1 : decide ((i : Int) < (ns.length : Int)) = true := decide_eq_true (by omega)
          have d2 : decide (i < ns.length) = true := decide_eq_true h
          have d3 : (i : Int) < (ns.length : Int) := by omega
          obtain ⟨ad, hA, z0, z1, z2, z3, z4, z5, z6⟩ := at_T41 (Kd.C_below HC4.out HB2.out) (i : Int) (by omega) (by omega)
          have hok := HNS.out ns[i] (List.getElem_mem h)
          have hwt := mem_sum wtNd ns i h
          have hsx := preN_succ d t c a m rt ls ns i h
          rw [rdN ns i h, Int.toNat_natCast] at z0 z1 z2 z3 z4 z5 z6
          obtain ⟨x, hx⟩ : ∃ x, ns[i] = x := ⟨_, rfl⟩
          rw [hx] at z0 z1 z2 z3 z4 z5 z6 hok hwt hsx
          obtain ⟨x0, x1, x2, x3, x4, x5, x6⟩ := x
          simp only at z0 z1 z2 z3 z4 z5 z6 hsx
          obtain ⟨⟨o0, o1, o2, o3⟩, o4, o5, o6, o7, o8⟩ := hok
          simp only at o0 o1 o2 o3 o4 o5 o6 o7 o8
          subst hA
          have HSX := Aside0.mk hsx
          have HZX := Aside0.mk (show ∀ z ∈ [x3, x4, x5], 0 ≤ z ∧ z < 9223372036854775808 by intro z hz; simp at hz; rcases hz with rfl | rfl | rfl <;> omega)
          have HS0 := Aside0.mk (show x0.size ≤ 2097152 by have := HSN.out; have hw2 : x0.size + x2.size + 1 ≤ (ns.map wtNd).sum := hwt; omega)
          have HS2 := Aside0.mk (show x2.size ≤ 2097152 by have := HSN.out; have hw2 : x0.size + x2.size + 1 ≤ (ns.map wtNd).sum := hwt; omega)
          have HX2 := Aside0.mk (preN_len d t c a m rt ls ns i HSL.out HSN.out)
          have H6 := Aside0.mk (show -1 ≤ x6 ∧ x6 < 9223372036854775807 from ⟨o7, o8⟩)
          clear hsx o0 o1 o2 o3 o4 o5 o6 o7 o8 hwt hx
          go_upto_region 20 with fail
          have hba := below_alloc (Below.refl wr.heap.size wr) (.cells #[.string x0, .bool x1, .string x2, .int .i64 x3, .int .i64 x4, .int .i64 x5, .int .i64 x6] 41)
          have hen := heap_alloc_new wr (.cells #[.string x0, .bool x1, .string x2, .int .i64 x3, .int .i64 x4, .int .i64 x5, .int .i64 x6] 41)
          have HW3 := Aside0.mk (HW2.out.below hba)
          have HR3 := Aside0.mk ((hba.block _ (blk_lt HR2.out)).trans HR2.out)
          have HB3 := Aside0.mk (below_then HB2.out HB2.out.size hba)
          have HX3 := HX2
          obtain ⟨w3, hw3⟩ : ∃ w3, wr.alloc (.cells #[.string x0, .bool x1, .string x2, .int .i64 x3, .int .i64 x4, .int .i64 x5, .int .i64 x6] 41) = w3 := ⟨_, rfl⟩
          obtain ⟨bl, hbl⟩ : ∃ bl, wr.heap.size = bl := ⟨_, rfl⟩
          rw [hw3] at HW3 HR3 HB3 hen ⊢
          rw [hbl] at hen ⊢
          have HE3 := Aside0.mk hen
          have HGE := Aside0.mk (show bl ≠ g from by
            obtain ⟨_, v, hgv, _⟩ := HW3.out
            exact blk_ne HE3.out hgv (by decide))
          clear hba hen hw3 hbl HW2 HR2 HB2 HX2
          have hl := HE3.out
          have p0 : w3.cell? ⟨bl, 0, none⟩ = some (Value.string x0) := (blk_cell hl 0).trans rfl
          have p1 : w3.cell? ⟨bl, 1, none⟩ = some (Value.bool x1) := (blk_cell hl 1).trans rfl
          have p2 : w3.cell? ⟨bl, 2, none⟩ = some (Value.string x2) := (blk_cell hl 2).trans rfl
          have p3 : w3.cell? ⟨bl, 3, none⟩ = some (Value.int .i64 x3) := (blk_cell hl 3).trans rfl
          have p4 : w3.cell? ⟨bl, 4, none⟩ = some (Value.int .i64 x4) := (blk_cell hl 4).trans rfl
          have p5 : w3.cell? ⟨bl, 5, none⟩ = some (Value.int .i64 x5) := (blk_cell hl 5).trans rfl
          have p6 : w3.cell? ⟨bl, 6, none⟩ = some (Value.int .i64 x6) := (blk_cell hl 6).trans rfl
          clear hl
          go_wp2_with fail
          refine (text_calls w _ g x0 _ (by have := HS0.out; omega) HW3.out HB3.out (by have := HX3.out; omega)).mono ?_
          rintro e w4 ⟨rfl, hW, hB, hK⟩
          have HW4 := Aside0.mk hW
          have HB4 := Aside0.mk hB
          have HR4 := Aside0.mk (hK.2 _ _ 28 HR3.out HGR.out (by decide))
          have HE4 := Aside0.mk (hK.2 _ _ 41 HE3.out HGE.out (by decide))
          have HX4 := Aside0.mk (len_text x0 HX3.out)
          clear hW hB hK HW3 HB3 HR3 HX3 HE3 p0 p1 p2 p3 p4 p5 p6
          have hl := HE4.out
          have p0 : w4.cell? ⟨bl, 0, none⟩ = some (Value.string x0) := (blk_cell hl 0).trans rfl
          have p1 : w4.cell? ⟨bl, 1, none⟩ = some (Value.bool x1) := (blk_cell hl 1).trans rfl
          have p2 : w4.cell? ⟨bl, 2, none⟩ = some (Value.string x2) := (blk_cell hl 2).trans rfl
          have p3 : w4.cell? ⟨bl, 3, none⟩ = some (Value.int .i64 x3) := (blk_cell hl 3).trans rfl
          have p4 : w4.cell? ⟨bl, 4, none⟩ = some (Value.int .i64 x4) := (blk_cell hl 4).trans rfl
          have p5 : w4.cell? ⟨bl, 5, none⟩ = some (Value.int .i64 x5) := (blk_cell hl 5).trans rfl
          have p6 : w4.cell? ⟨bl, 6, none⟩ = some (Value.int .i64 x6) := (blk_cell hl 6).trans rfl
          clear hl
          go_upto_if 91 with fail
          go_cut [12] (fun v wx => v = .int .u8 (flag x1) ∧ wx = w4)
          case first =>
            cases x1
            all_goals
              (go_wp2
               go_meet
               case rel => exact ⟨rfl, rfl⟩)
          case rest =>
          obtain ⟨rfl, rfl⟩ := hcut
          clear p0 p1 p2 p3 p4 p5 p6
          obtain ⟨wd, rfl⟩ : ∃ wd : World, wd = wc := ⟨_, rfl⟩
          obtain ⟨ys, hys⟩ : ∃ ys, preN d t c a m rt ls ns i ++ textL x0 = ys := ⟨_, rfl⟩
          have hwo := HW4.out
          rw [hys] at HX4 HSX hwo
          obtain ⟨hbg, v, hgv, hR⟩ := hwo
          have HG := Aside0.mk hgv
          have HRR := Aside0.mk hR
          have HBG := Aside0.mk hbg
          clear hgv hR hys HW4 hbg
          go_upto_region 24 with fail
          go_cut [] (fun wx => Wr wx w.heap.size g (ys ++ [flag x1]) ∧ Below w.heap.size w wx ∧ KeptT wd wx g)
          case first =>
            have q9 : wd.cell? ⟨g, 0, none⟩ = some v := (blk_cell HG.out 0).trans rfl
            go_wp2_with ((with_reducible refine gate_builtin (b := .append) (xs := #[.tmp 96, .tmp 98]) rfl ?_); at_builtin; refine Kd.R_append (Kd.int .u8) (w0 := w) w.heap.size rfl (.tmp 96) (.tmp 98) 74 5 (.int .u8 0) 1 rfl Tryd.underlying74 info5 rfl (Nat.succ_pos 0) (Nat.succ_pos 0) v ys (flag x1) [.int .u8 (flag x1)] (fun _ => True) (fun _ => False) rfl rfl ?aP (fun _ hk => hk.elim) (fun _ _ => trivial) ?aO ?aB ?aS ?aL ?_; (case aP => exact rfl); (case aO => exact HRR.out); (case aB => exact HB4.out); (case aS => exact HB4.out.size); (case aL => have := HX4.out; have := HS0.out; omega); intro v1 w9 ho hb hg hat; obtain ⟨A1, c1, rfl⟩ := Kd.R_slice ho; rw [show (ys ++ [flag x1]).length = ys.length + 1 by simp] at ho; have HK9 := Aside0.mk ((KeptT.refl wd g).grown HRR.out hg); have hG9 := blk_grown HG.out hg (Kd.R_ne HRR.out HG.out (by decide)); have q8 : w9.cell? ⟨g, 0, none⟩ = some v := (blk_cell hG9 0).trans rfl; have f9 := blk_frozen hG9 0; have HG9 := Aside0.mk hG9; have HR9 := Aside0.mk ho; have HB9 := Aside0.mk hb; clear ho hb hg hat hG9 HRR HG q9)
            go_meet
            exact ⟨⟨HBG.out, _, (blk_set HG9.out 0 _).trans rfl, Kd.R_set HR9.out HG9.out (by decide) 0 _⟩, below_set HB9.out HBG.out, HK9.out.set _⟩
          case rest =>
          obtain ⟨hW, hB, hK⟩ := hcut
          obtain ⟨w5, rfl⟩ : ∃ w5 : World, w5 = wc := ⟨_, rfl⟩
          have HW5 := Aside0.mk hW
          have HB5 := Aside0.mk hB
          have HR5 := Aside0.mk (hK.2 _ _ 28 HR4.out HGR.out (by decide))
          have HE5 := Aside0.mk (hK.2 _ _ 41 HE4.out HGE.out (by decide))
          have HX5 := Aside0.mk (len_one (flag x1) HX4.out)
          clear hW hB hK HR4 HB4 HE4 HX4 HG HRR
          have hl := HE5.out
          have p0 : w5.cell? ⟨bl, 0, none⟩ = some (Value.string x0) := (blk_cell hl 0).trans rfl
          have p1 : w5.cell? ⟨bl, 1, none⟩ = some (Value.bool x1) := (blk_cell hl 1).trans rfl
          have p2 : w5.cell? ⟨bl, 2, none⟩ = some (Value.string x2) := (blk_cell hl 2).trans rfl
          have p3 : w5.cell? ⟨bl, 3, none⟩ = some (Value.int .i64 x3) := (blk_cell hl 3).trans rfl
          have p4 : w5.cell? ⟨bl, 4, none⟩ = some (Value.int .i64 x4) := (blk_cell hl 4).trans rfl
          have p5 : w5.cell? ⟨bl, 5, none⟩ = some (Value.int .i64 x5) := (blk_cell hl 5).trans rfl
          have p6 : w5.cell? ⟨bl, 6, none⟩ = some (Value.int .i64 x6) := (blk_cell hl 6).trans rfl
          clear hl
          go_wp2_with fail
          refine (text_calls w _ g x2 _ (by have := HS2.out; omega) HW5.out HB5.out (by have := HX5.out; have := HS0.out; omega)).mono ?_
          rintro e w6 ⟨rfl, hW, hB, hK⟩
          have HW6 := Aside0.mk hW
          have HB6 := Aside0.mk hB
          have HR6 := Aside0.mk (hK.2 _ _ 28 HR5.out HGR.out (by decide))
          have HE6 := Aside0.mk (hK.2 _ _ 41 HE5.out HGE.out (by decide))
          have HX6 := Aside0.mk (len_text x2 HX5.out)
          clear hW hB hK HW5 HB5 HR5 HX5 HE5 p0 p1 p2 p3 p4 p5 p6
          have hl := HE6.out
          have p0 : w6.cell? ⟨bl, 0, none⟩ = some (Value.string x0) := (blk_cell hl 0).trans rfl
          have p1 : w6.cell? ⟨bl, 1, none⟩ = some (Value.bool x1) := (blk_cell hl 1).trans rfl
          have p2 : w6.cell? ⟨bl, 2, none⟩ = some (Value.string x2) := (blk_cell hl 2).trans rfl
          have p3 : w6.cell? ⟨bl, 3, none⟩ = some (Value.int .i64 x3) := (blk_cell hl 3).trans rfl
          have p4 : w6.cell? ⟨bl, 4, none⟩ = some (Value.int .i64 x4) := (blk_cell hl 4).trans rfl
          have p5 : w6.cell? ⟨bl, 5, none⟩ = some (Value.int .i64 x5) := (blk_cell hl 5).trans rfl
          have p6 : w6.cell? ⟨bl, 6, none⟩ = some (Value.int .i64 x6) := (blk_cell hl 6).trans rfl
          clear hl
          go_wp2_with fail
          have hba := below_alloc (Below.refl w6.heap.size w6) (.cells #[.int .i64 x3, .int .i64 x4, .int .i64 x5] 3)
          have HRx := (hba.block _ (blk_lt HR6.out)).trans HR6.out
          have HEx := (hba.block _ (blk_lt HE6.out)).trans HE6.out
          refine (counts_calls w _ g w6.heap.size _ [x3, x4, x5] (heap_alloc_new w6 _) HZX.out (by simp) (HW6.out.below hba) (HB6.out.alloc HB6.out.size _) (by have := HX6.out; have := HS0.out; have := HS2.out; omega) 3 rfl).mono ?_
          rintro e w7 ⟨rfl, hW, hB, hK⟩
          have HW7 := Aside0.mk hW
          have HB7 := Aside0.mk hB
          have HR7 := Aside0.mk (hK.2 _ _ 28 HRx HGR.out (by decide))
          have HE7 := Aside0.mk (hK.2 _ _ 41 HEx HGE.out (by decide))
          have HX7 := Aside0.mk (len_countsN [x3, x4, x5] 3 rfl HX6.out)
          clear hW hB hK HW6 HB6 HR6 HX6 HE6 hba HRx HEx p0 p1 p2 p3 p4 p5 p6
          have hl := HE7.out
          have p0 : w7.cell? ⟨bl, 0, none⟩ = some (Value.string x0) := (blk_cell hl 0).trans rfl
          have p1 : w7.cell? ⟨bl, 1, none⟩ = some (Value.bool x1) := (blk_cell hl 1).trans rfl
          have p2 : w7.cell? ⟨bl, 2, none⟩ = some (Value.string x2) := (blk_cell hl 2).trans rfl
          have p3 : w7.cell? ⟨bl, 3, none⟩ = some (Value.int .i64 x3) := (blk_cell hl 3).trans rfl
          have p4 : w7.cell? ⟨bl, 4, none⟩ = some (Value.int .i64 x4) := (blk_cell hl 4).trans rfl
          have p5 : w7.cell? ⟨bl, 5, none⟩ = some (Value.int .i64 x5) := (blk_cell hl 5).trans rfl
          have p6 : w7.cell? ⟨bl, 6, none⟩ = some (Value.int .i64 x6) := (blk_cell hl 6).trans rfl
          clear hl
          have h6 := H6.out
          obtain ⟨n, hn⟩ := Int.eq_ofNat_of_zero_le (show 0 ≤ x6 + 1 by omega)
          have HN6 := Aside0.mk (show n < 18446744073709551616 by omega)
          have hnb : (n : Int) ≤ 9223372036854775807 := by omega
          have x8 : IntKind.u64.wrap (n : Int) = (n : Int) := by rw [wrap_u64]; omega
          have x9 : IntKind.i64.wrap (n : Int) = (n : Int) := IntWalk.i64_in _ (by omega)
          have HN7 := Aside0.mk hn
          clear h6
          go_wp2_with fail
          refine (count_calls w _ g n _ HN6.out HW7.out HB7.out (by have := HX7.out; have := HS0.out; have := HS2.out; omega)).mono ?_
          clear hn x8 x9
          rintro e w8 ⟨rfl, hW, hB, hK⟩
          have HW8 := Aside0.mk hW
          have HB8 := Aside0.mk hB
          have HR8 := Aside0.mk (hK.2 _ _ 28 HR7.out HGR.out (by decide))
          have HE8 := Aside0.mk (hK.2 _ _ 41 HE7.out HGE.out (by decide))
          have HX8 := Aside0.mk (len_cnt n HX7.out)
          clear hW hB hK HW7 HB7 HR7 HX7 HE7 p0 p1 p2 p3 p4 p5 p6
          go_wp2
          go_roundw
          case rel => exact ⟨i + 1, by congr 1, by omega, ⟨by rw [HSX.out, HN7.out]; exact HW8.out⟩, HR8, HB8⟩
          case measure => first | omega | (simp [intOf]; omega)
        · obtain rfl : i = ns.length := by omega
          have d1 : decide ((ns.length : Int) < (ns.length : Int)) = false := decide_eq_false (by omega)
          rw [preN_all] at HW2
          have hbl := preN_len d t c a m rt ls ns ns.length HSL.out HSN.out
          rw [preN_all] at hbl
          have HXX := Aside0.mk hbl
          obtain ⟨hbg, v, hgv, hR⟩ := HW2.out
          obtain ⟨A5, c5, rfl, _, hC⟩ := Kd.R_reads hR
          have q9 : wr.cell? ⟨g, 0, none⟩ = some (.slice A5 (bodyL d t c a m rt ls ns).length c5) := (blk_cell hgv 0).trans rfl
          have hcs := Kd.C_string (src := 74) (dst := 9) Tryd.underlying74 Tryd.underlying5 Tryd.underlying9 (c := c5) hC
          have HSS := Aside0.mk (Sum_f (strOfNums (bodyL d t c a m rt ls ns)) (by rw [strOfNums_size]; omega))
          clear hbl hgv hR
          go_wp2_with fail
          refine (store_Sum.calls _ _ _ _ HSS.out).mono ?_
          rintro e w3 ⟨rfl, hD⟩
          have HW3 := Aside0.mk (HW2.out.below hD.below)
          have HB3 := Aside0.mk (below_then HB2.out HB2.out.size hD.below)
          clear hD HW2 HB2 q9 hcs hC
          go_wp2_with fail
          refine (word_calls w _ g (sumS (strOfNums (bodyL d t c a m rt ls ns))) _ HW3.out HB3.out (by have := HXX.out; omega)).mono ?_
          rintro e w4 ⟨rfl, hW, hB, hK⟩
          have HB4 := Aside0.mk hB
          obtain ⟨_, v, hgv, hR⟩ := hW
          obtain ⟨A6, c6, rfl, _, hC⟩ := Kd.R_reads hR
          replace hC : Kd.C (Kd.int .u8) w4 A6 (encL d t c a m rt ls ns).length (encL d t c a m rt ls ns) := hC
          replace hgv : w4.heap[g]? = some (.cells #[.slice A6 (encL d t c a m rt ls ns).length c6] 76 (0, 0)) := hgv
          obtain ⟨es, hes⟩ : ∃ es, encL d t c a m rt ls ns = es := ⟨_, rfl⟩
          rw [hes] at hC hgv
          have HES := Aside0.mk hes
          have q9 : w4.cell? ⟨g, 0, none⟩ = some (.slice A6 es.length c6) := (blk_cell hgv 0).trans rfl
          have hcs := Kd.C_string (src := 74) (dst := 9) Tryd.underlying74 Tryd.underlying5 Tryd.underlying9 (c := c6) hC
          clear hB hK hgv hR hC hes
          go_wp2
          go_ret
          exact ⟨by rw [HES.out]; rfl, HB4.out⟩

set_option maxRecDepth 100000 in
set_option maxHeartbeats 2000000 in
theorem Encode_no (d t : ByteArray) (c a wt rt : Int) (A3 A4 : Option Addr) (c3 c4 : Nat) (ls : List S39) (ns : List S41) (w : World) (hr3 : Kd.C k39 w A3 ls.length ls) (hc3 : ls.length ≤ c3) (hr4 : Kd.C k41 w A4 ns.length ns) (hc4 : ns.length ≤ c4)
    (hns : ∀ x ∈ ns, okN x) (hsl : (ls.map wtLf).sum ≤ 2097152) (hsn : (ns.map wtNd).sum ≤ 2097152) (hk : keptB c a rt ls ns = false) :
    Calls Tryd.prog 13 #[.string d, .string t, .agg #[.int .i64 c, .int .i64 a, .int .u64 wt, .slice A3 ls.length c3, .slice A4 ns.length c4, .int .i64 rt]] w fun e w' => e = .returned (.string (strOfNums [])) ∧ Below w.heap.size w w' := by
  have hll := len_sum wtLf (fun x => by unfold wtLf; omega) ls
  have hnl := len_sum wtNd (fun x => by unfold wtNd; omega) ns
  have HKF := Aside0.mk (kept_f c a wt rt ls ns (fun x hx => by have := (hns x hx).2.2.2; omega) (by omega) (by omega))
  rw [hk] at HKF
  have HC3 := Aside0.mk hr3
  have HC4 := Aside0.mk hr4
  have H3 := Aside0.mk hc3
  have H4 := Aside0.mk hc4
  clear hll hnl hk hr3 hr4 hc3 hc4 hns hsl hsn
  have HBA := Aside0.mk (below_alloc (Below.refl w.heap.size w) (.cells #[.int .i64 c, .int .i64 a, .int .u64 wt, .slice A3 ls.length c3, .slice A4 ns.length c4, .int .i64 rt] 28))
  go_enter Tryd.func13, Tryd.ntmps13
  go_wp2_with fail
  refine (store_kept.calls _ c a wt A3 c3 ls A4 c4 ns rt false _ (Kd.C_below HC3.out HBA.out) H3.out (Kd.C_below HC4.out HBA.out) H4.out HKF.out).mono ?_
  rintro e w1 ⟨rfl, hB⟩
  have HB1 := Aside0.mk (below_then HBA.out HBA.out.size hB)
  clear hB HBA HKF
  go_wp2
  go_ret
  exact ⟨rfl, HB1.out⟩
/-- what Encode answers -/
def encS (d t : ByteArray) (c a wt rt : Int) (ls : List S39) (ns : List S41) : ByteArray := if keptB c a rt ls ns = true then strOfNums (encL d t c a wt rt ls ns) else strOfNums []
theorem Encode_calls (d t : ByteArray) (c a wt rt : Int) (A3 A4 : Option Addr) (c3 c4 : Nat) (ls : List S39) (ns : List S41) (w : World) (hr3 : Kd.C k39 w A3 ls.length ls) (hc3 : ls.length ≤ c3) (hr4 : Kd.C k41 w A4 ns.length ns) (hc4 : ns.length ≤ c4)
    (hd : d.size ≤ 140737488351232) (ht : t.size ≤ 140737488351232) (hc : c < 9223372036854775808) (ha : a < 9223372036854775808) (hrt : rt < 9223372036854775808) (hw0 : 0 ≤ wt) (hw1 : wt < 18446744073709551616) (hls : ∀ x ∈ ls, okL x) (hns : ∀ x ∈ ns, okN x)
    (hsl : (ls.map wtLf).sum ≤ 2097152) (hsn : (ns.map wtNd).sum ≤ 2097152) :
    Calls Tryd.prog 13 #[.string d, .string t, .agg #[.int .i64 c, .int .i64 a, .int .u64 wt, .slice A3 ls.length c3, .slice A4 ns.length c4, .int .i64 rt]] w fun e w' => e = .returned (.string (encS d t c a wt rt ls ns)) ∧ Below w.heap.size w w' := by
  unfold encS
  by_cases hk : keptB c a rt ls ns = true
  · rw [if_pos hk]
    exact Encode_yes d t c a wt rt A3 A4 c3 c4 ls ns w hr3 hc3 hr4 hc4 hd ht hc ha hrt hw0 hw1 hls hns hsl hsn hk
  · rw [if_neg hk]
    exact Encode_no d t c a wt rt A3 A4 c3 c4 ls ns w hr3 hc3 hr4 hc4 hns hsl hsn (by simpa using hk)
end Go.Proofs.YtjgccbpdpnpfjaaDoor.ST
