/- StoreBack: the walk of the law. -/
import Derived.Test.YtjgccbpdpnpfjaaDoorStoreStaleLaw
import Derived.Deep.DeepCutAuto
namespace Go.Proofs.YtjgccbpdpnpfjaaDoor.ST
open Go.RowKit Go.WideShapes Go.ChangeShapes Go.Proofs.YtjgccbpdpnpfjaaDoorW.PrintWords Go.Proofs.YtjgccbpdpnpfjaaDoorW.PrintLast Go.Proofs.YtjgccbpdpnpfjaaDoorW.PrintMore Go.Proofs.YtjgccbpdpnpfjaaDoor.PAll
set_option linter.unusedVariables false

theorem cut_no {b : ByteArray} {n : Nat} (h : Whole b) (hn : n < b.size) : ¬ Whole (b.extract 0 n) := by
  intro h'
  have e : b.extract 0 n = b.extract 0 (0 + n) := by rw [Nat.zero_add]
  have hs : (b.extract 0 n).size = n := by rw [e]; exact ext_size (by omega)
  have := whole_prefix h h' (by rw [e]; exact stands_ext (by omega))
  omega
theorem more_no {b m : ByteArray} (h : Whole b) (hm : 0 < m.size) : ¬ Whole (b ++ m) := by
  intro h'
  have hs := stands_bytes (b := b ++ m)
  rw [bytesOf_append] at hs
  have := whole_prefix h' h hs.left
  rw [ByteArray.size_append] at this
  omega
theorem turnS_size (a : ByteArray) (p y : Int) : (turnS a p y).size ≤ a.size + 1 := by
  unfold turnS
  split
  · rename_i hh
    unfold turnOk at hh
    have := of_decide_eq_true hh
    unfold turnI
    rw [ByteArray.size_append, ByteArray.size_append, strOfNums_size, ByteArray.size_extract, ByteArray.size_extract]
    simp
    omega
  · omega
theorem ba_ne {m : ByteArray} (h : m.toList.isEmpty = false) : 0 < m.size := by
  rcases Nat.eq_zero_or_pos m.size with h0 | h0
  · exfalso
    have e : m = ⟨#[]⟩ := by
      apply ByteArray.ext
      apply Array.eq_empty_of_size_eq_zero
      exact h0
    subst e
    have h2 : (⟨#[]⟩ : ByteArray).toList.isEmpty = true := by
      unfold ByteArray.toList
      unfold ByteArray.toList.loop
      rfl
    rw [h2] at h
    cases h
  · exact h0

set_option maxRecDepth 100000 in
set_option maxHeartbeats 16000000 in
theorem StoreBack_yes (d t m : ByteArray) (r : Rs) (cut p y : Int) (A3 A4 : Option Addr) (c3 c4 : Nat) (w : World) (hg : w.cell? ⟨0, 0, none⟩ = some GV) (hH : Holds w A3 c3 A4 c4 r) (K : ∀ d t : ByteArray, Kr (sumS d) (sumS t) r)
    (hd : d.size ≤ 1048576) (ht : t.size ≤ 1048576) (hm : m.size ≤ 1048576) (hl : (r.ls.map wtLf).sum ≤ 1048576) (hn : (r.ns.map wtNd).sum ≤ 1048576) (hy0 : 0 ≤ y) (hy1 : y < 256) :
    Calls Tryd.prog 4 #[.string d, .string t, rsV A3 c3 A4 c4 r, .int .i64 cut, .int .i64 p, .int .u8 y, .string m] w fun e w' => e = .returned (.bool true) ∧ Below w.heap.size w w' := by
  have h0 : 0 < w.heap.size := by
    rcases Nat.eq_zero_or_pos w.heap.size with h0 | h
    · simp [World.cell?, h0] at hg
    · exact h
  have HB := Aside0.mk (Below.refl w.heap.size w)
  have HX := Aside0.mk hH
  have HG := Aside0.mk hg
  have H0 := Aside0.mk h0
  have HYY := Aside0.mk (And.intro hy0 hy1)
  have hll := len_sum wtLf (fun x => by unfold wtLf; omega) r.ls
  have hnl := len_sum wtNd (fun x => by unfold wtNd; omega) r.ns
  have HP : Aside0 (d.size ≤ 1048576 ∧ t.size ≤ 1048576 ∧ m.size ≤ 1048576 ∧ (r.ls.map wtLf).sum ≤ 1048576 ∧ (r.ns.map wtNd).sum ≤ 1048576 ∧ r.ls.length ≤ 1048576 ∧ r.ns.length ≤ 1048576) := ⟨⟨hd, ht, hm, hl, hn, by omega, by omega⟩⟩
  have HK := Aside0.mk K
  have hIs : Is (encR d t r) (sumS d) (sumS t) r := is_enc (K d t) (kept_of (K d t))
  have HSZ := Aside0.mk (hIs.small (by omega) (by omega))
  have HI := Aside0.mk hIs
  clear h0 hg hH K hd ht hm hl hn hll hnl hIs hy0 hy1
  go_enter Tryd.func4, Tryd.ntmps4
  go_wp2_with fail
  obtain ⟨o, ho⟩ : ∃ o : Obj, o = .cells #[.int .i64 ((r).c : Int), .int .i64 ((r).at_ : Int), .int .u64 ((r).wt : Int), .slice A3 (r).ls.length c3, .slice A4 (r).ns.length c4, .int .i64 ((r).rt : Int)] 28 (0, 0) := ⟨_, rfl⟩
  have hB : Below w.heap.size w (w.alloc o) := below_alloc (Below.refl _ _) _
  have HB0 := Aside0.mk hB
  have HX0 := Aside0.mk (HX.out.moved hB)
  have k := heap_alloc_new w o
  rw [← ho]
  generalize w.alloc o = w0 at HB0 HX0 k ⊢
  rw [ho] at k
  generalize w.heap.size = g0 at k ⊢
  have K0 := Aside0.mk k
  clear hB HB HX k ho
  refine (started_calls w0 ((HB0.out.cell (p := ⟨0, 0, none⟩) H0.out).trans HG.out)).mono ?_
  rintro e w1 ⟨rfl, hB⟩
  have HB1 := Aside0.mk (HB0.out.trans (hB.mono HB0.out.size))
  have HX1 := Aside0.mk (HX0.out.moved hB)
  have K1 := Aside0.mk ((hB.block _ (blk_lt K0.out)).trans K0.out)
  clear hB HB0 HX0 K0
  have q0 := blk_cell K1.out 0
  have q1 := blk_cell K1.out 1
  have q2 := blk_cell K1.out 2
  have q3 := blk_cell K1.out 3
  have q4 := blk_cell K1.out 4
  have q5 := blk_cell K1.out 5
  go_wp2_with fail
  refine (Encode_holds d t r w1 HX1.out (HK.out d t) HP.out.1 HP.out.2.1 (by have := HP.out; omega) (by have := HP.out; omega)).mono ?_
  rintro e w2 ⟨rfl, hB⟩
  obtain ⟨b, hb⟩ : ∃ b, encR d t r = b := ⟨_, rfl⟩
  rw [hb] at HI HSZ ⊢
  clear hb
  have HB2 := Aside0.mk (HB1.out.trans (hB.mono HB1.out.size))
  have HX2 := Aside0.mk (HX1.out.moved hB)
  have K2 := Aside0.mk ((hB.block _ (blk_lt K1.out)).trans K1.out)
  clear hB HB1 HX1 K1
  clear q0 q1 q2 q3 q4 q5
  have q0 := blk_cell K2.out 0
  have q1 := blk_cell K2.out 1
  have q2 := blk_cell K2.out 2
  have q3 := blk_cell K2.out 3
  have q4 := blk_cell K2.out 4
  have q5 := blk_cell K2.out 5
  go_wp2_with fail
  refine (good_holds r w2 HX2.out (HK.out d t) (by have := HP.out; omega) (by have := HP.out; omega)).mono ?_
  rintro e w3 ⟨rfl, hB⟩
  have HB3 := Aside0.mk (HB2.out.trans (hB.mono HB2.out.size))
  have HX3 := Aside0.mk (HX2.out.moved hB)
  have K3 := Aside0.mk ((hB.block _ (blk_lt K2.out)).trans K2.out)
  clear hB HB2 HX2 K2
  clear q0 q1 q2 q3 q4 q5
  go_wp2_with fail
  refine (Decode_holds b d t w3 (by have := HSZ.out; omega) (by have := HP.out; omega) (by have := HP.out; omega)).mono ?_
  rw [HI.out.out.1, HI.out.out.2]
  rintro e w4 ⟨B3, d3, B4, d4, er, rfl, hB, hY, hE⟩
  obtain rfl : er = .nilIface := by
    rcases hE with ⟨_, h⟩ | ⟨h, _⟩
    · exact h
    · exact absurd rfl h
  have HY4 := Aside0.mk hY
  clear hE hY
  have HB4 := Aside0.mk (HB3.out.trans (hB.mono HB3.out.size))
  have HX4 := Aside0.mk (HX3.out.moved hB)
  have K4 := Aside0.mk ((hB.block _ (blk_lt K3.out)).trans K3.out)
  clear hB HB3 HX3 K3
  obtain ⟨oe, hoe⟩ : ∃ o : Obj, o = .cells #[.int .i64 ((r).c : Int), .int .i64 ((r).at_ : Int), .int .u64 ((r).wt : Int), .slice B3 (r).ls.length d3, .slice B4 (r).ns.length d4, .int .i64 ((r).rt : Int)] 28 (0, 0) := ⟨_, rfl⟩
  have hB : Below w4.heap.size w4 (w4.alloc oe) := below_alloc (Below.refl _ _) _
  have kk := (hB.block _ (blk_lt K4.out)).trans K4.out
  clear hB
  have q0 := blk_cell kk 0
  have q1 := blk_cell kk 1
  have q2 := blk_cell kk 2
  have q3 := blk_cell kk 3
  have q4 := blk_cell kk 4
  have q5 := blk_cell kk 5
  rw [hoe] at q0 q1 q2 q3 q4 q5
  clear kk hoe oe
  go_wp2_with fail
  clear q0 q1 q2 q3 q4 q5
  obtain ⟨o, ho⟩ : ∃ o : Obj, o = .cells #[.int .i64 ((r).c : Int), .int .i64 ((r).at_ : Int), .int .u64 ((r).wt : Int), .slice B3 (r).ls.length d3, .slice B4 (r).ns.length d4, .int .i64 ((r).rt : Int)] 28 (0, 0) := ⟨_, rfl⟩
  have hba : Below w4.heap.size w4 (w4.alloc o) := below_alloc (Below.refl _ _) _
  have hB := hba
  have HB5 := Aside0.mk (HB4.out.trans (hB.mono HB4.out.size))
  have HX5 := Aside0.mk (HX4.out.moved hB)
  have HY5 := Aside0.mk (HY4.out.moved hB)
  have K5 := Aside0.mk ((hB.block _ (blk_lt K4.out)).trans K4.out)
  clear hB HB4 HX4 HY4 K4
  have k := heap_alloc_new w4 o
  rw [← ho]
  generalize w4.alloc o = w5 at HB5 HX5 HY5 K5 k ⊢
  rw [ho] at k
  generalize w4.heap.size = g5 at k ⊢
  have J5 := Aside0.mk k
  clear hba k ho
  refine (same_calls w5 HY5.out HX5.out rfl (by have := HP.out; omega) (by have := HP.out; omega)).mono ?_
  rintro e w6 ⟨rfl, hB⟩
  have HW := Aside0.mk (show Whole b from ⟨_, _, _, HI.out⟩)
  have HB6 := Aside0.mk (HB5.out.trans (hB.mono HB5.out.size))
  clear hB HB5 HX5 HY5 K5 J5
  go_upto_region 9 with fail
  go_cut [65] (fun v65 wx => v65 = .bool (decide (0 ≤ cut) && decide (cut < (b.size : Int))) ∧ wx = w6)
  case first =>
    by_cases h1 : 0 ≤ cut
    · have a1 : decide (0 ≤ cut) = true := decide_eq_true h1
      by_cases h2 : cut < (b.size : Int)
      · have a3 : decide (cut < (b.size : Int)) = true := decide_eq_true h2
        go_wp2_with fail
        go_meet
        case rel => exact ⟨by rw [a1, a3]; rfl, rfl⟩
      · have a3 : decide (cut < (b.size : Int)) = false := decide_eq_false h2
        go_wp2_with fail
        go_meet
        case rel => exact ⟨by rw [a1, a3]; rfl, rfl⟩
    · have a1 : decide (0 ≤ cut) = false := decide_eq_false h1
      go_wp2_with fail
      go_meet
      case rel => exact ⟨by rw [a1]; rfl, rfl⟩
  case rest =>
  obtain ⟨rfl, rfl⟩ := hcut
  obtain ⟨ok0, hok0⟩ : ∃ z, (decide (0 ≤ cut) && decide (cut < (b.size : Int))) = z := ⟨_, rfl⟩
  have HO : Aside0 (ok0 = true → 0 ≤ cut ∧ cut < (b.size : Int)) := ⟨fun h => by rw [← hok0] at h; simpa using h⟩
  rw [hok0]
  clear hok0
  go_upto_if 65 with fail
  go_cut [18, 19] (fun v18 v19 wx => Aside0 (Below w.heap.size w wx))
  case first =>
    cases ok0
    · go_wp2_with fail
      go_meet
      case rel => exact HB6
    · obtain ⟨h1, h2⟩ := HO.out rfl
      have a1 : decide (0 ≤ cut) = true := decide_eq_true h1
      have a2 : (0 ≤ cut) = True := eq_true h1
      have a3 : decide (cut < (b.size : Int)) = true := decide_eq_true h2
      have a4 : (cut ≤ (b.size : Int)) = True := eq_true (by omega)
      have a5 : decide (cut ≤ (b.size : Int)) = true := decide_eq_true (by omega)
      have a6 : (cut < (b.size : Int)) = True := eq_true h2
      have HN := Aside0.mk (cut_no HW.out (n := cut.toNat) (by omega))
      go_wp2_with fail
      refine (Decode_holds (b.extract 0 cut.toNat) d t wc (by rw [ByteArray.size_extract]; have := HSZ.out; omega) (by have := HP.out; omega) (by have := HP.out; omega)).mono ?_
      rintro e x1 ⟨C3, e3, C4, e4, er, rfl, hB, hY, hE⟩
      have HBx := Aside0.mk (HB6.out.trans (hB.mono HB6.out.size))
      have HYx := Aside0.mk hY
      have HEx := Aside0.mk hE
      clear hB hY hE
      go_wp2_with fail
      obtain ⟨o, ho⟩ : ∃ o : Obj, o = .cells #[.int .i64 ((outOf (b.extract 0 cut.toNat) d t).c : Int), .int .i64 ((outOf (b.extract 0 cut.toNat) d t).at_ : Int), .int .u64 ((outOf (b.extract 0 cut.toNat) d t).wt : Int), .slice C3 (outOf (b.extract 0 cut.toNat) d t).ls.length e3, .slice C4 (outOf (b.extract 0 cut.toNat) d t).ns.length e4, .int .i64 ((outOf (b.extract 0 cut.toNat) d t).rt : Int)] 28 (0, 0) := ⟨_, rfl⟩
      have hB : Below x1.heap.size x1 (x1.alloc o) := below_alloc (Below.refl _ _) _
      have HBy := Aside0.mk (HBx.out.trans (hB.mono HBx.out.size))
      have HYy := Aside0.mk (HYx.out.moved hB)
      have HEy := Aside0.mk (HEx.out.moved hB)
      have k := heap_alloc_new x1 o
      rw [← ho]
      generalize x1.alloc o = x2 at HBy HYy HEy k ⊢
      rw [ho] at k
      generalize x1.heap.size = gx at k ⊢
      clear hB HBx HYx HEx ho
      clear k
      refine (refused_calls (b.extract 0 cut.toNat) d t 330 x2 er HYy.out HEy.out ((HBy.out.cell (p := ⟨0, 0, none⟩) H0.out).trans HG.out) (by decide)).mono ?_
      rw [decide_eq_true (verdict_no HN.out d t)]
      rintro e x3 ⟨rfl, hB⟩
      have HBz := Aside0.mk (HBy.out.trans (hB.mono HBy.out.size))
      clear hB HBy HYy HEy
      go_wp2_with fail
      go_meet
      case rel => exact HBz
  case rest =>
  have HB7 := hcut
  clear hcut HB6 HO
  go_upto_if 80 with fail
  go_cut [20, 21] (fun v20 v21 wx => Aside0 (Below w.heap.size w wx))
  case first =>
    by_cases h1 : m.toList.isEmpty = true
    · have a1 : (!m.toList.isEmpty) = false := by rw [h1]; rfl
      rw [a1]
      go_wp2_with fail
      go_meet
      case rel => exact HB7
    · have h1 : m.toList.isEmpty = false := Bool.eq_false_iff.2 h1
      have a1 : (!m.toList.isEmpty) = true := by rw [h1]; rfl
      rw [a1]
      have a4 : (9223372036854775807 < b.size + m.size) = False := eq_false (by have := HSZ.out; have := HP.out; omega)
      have HN := Aside0.mk (more_no HW.out (ba_ne h1))
      go_wp2_with fail
      refine (Decode_holds (b ++ m) d t wc (by rw [ByteArray.size_append]; have := HSZ.out; have := HP.out; omega) (by have := HP.out; omega) (by have := HP.out; omega)).mono ?_
      rintro e x1 ⟨C3, e3, C4, e4, er, rfl, hB, hY, hE⟩
      have HBx := Aside0.mk (HB7.out.trans (hB.mono HB7.out.size))
      have HYx := Aside0.mk hY
      have HEx := Aside0.mk hE
      clear hB hY hE
      go_wp2_with fail
      obtain ⟨o, ho⟩ : ∃ o : Obj, o = .cells #[.int .i64 ((outOf (b ++ m) d t).c : Int), .int .i64 ((outOf (b ++ m) d t).at_ : Int), .int .u64 ((outOf (b ++ m) d t).wt : Int), .slice C3 (outOf (b ++ m) d t).ls.length e3, .slice C4 (outOf (b ++ m) d t).ns.length e4, .int .i64 ((outOf (b ++ m) d t).rt : Int)] 28 (0, 0) := ⟨_, rfl⟩
      have hB : Below x1.heap.size x1 (x1.alloc o) := below_alloc (Below.refl _ _) _
      have HBy := Aside0.mk (HBx.out.trans (hB.mono HBx.out.size))
      have HYy := Aside0.mk (HYx.out.moved hB)
      have HEy := Aside0.mk (HEx.out.moved hB)
      have k := heap_alloc_new x1 o
      rw [← ho]
      generalize x1.alloc o = x2 at HBy HYy HEy k ⊢
      rw [ho] at k
      generalize x1.heap.size = gx at k ⊢
      clear hB HBx HYx HEx ho
      clear k
      refine (refused_calls (b ++ m) d t 330 x2 er HYy.out HEy.out ((HBy.out.cell (p := ⟨0, 0, none⟩) H0.out).trans HG.out) (by decide)).mono ?_
      rw [decide_eq_true (verdict_no HN.out d t)]
      rintro e x3 ⟨rfl, hB⟩
      have HBz := Aside0.mk (HBy.out.trans (hB.mono HBy.out.size))
      clear hB HBy HYy HEy
      go_wp2_with fail
      go_meet
      case rel => exact HBz
  case rest =>
  have HB8 := hcut
  clear hcut HB7
  go_wp2_with fail
  refine (turned_calls b p y _ (by have := HSZ.out; omega)).mono ?_
  rintro e y1 ⟨rfl, hB⟩
  have HBt := Aside0.mk (HB8.out.trans (hB.mono HB8.out.size))
  clear hB HB8
  obtain ⟨ok, hok⟩ : ∃ z, turnOk b p y = z := ⟨_, rfl⟩
  obtain ⟨z, hz⟩ : ∃ z, turnS b p y = z := ⟨_, rfl⟩
  have HC : Aside0 (ok = true → Chg b z) := ⟨fun h => hz ▸ turn_chg (hok.trans h) HYY.out.1 HYY.out.2⟩
  have HCS : Aside0 (z.size ≤ b.size + 1) := ⟨hz ▸ turnS_size b p y⟩
  rw [hok, hz]
  clear hok hz
  go_upto_if 101 with fail
  go_cut [24, 25] (fun v24 v25 wx => Aside0 (Below w.heap.size w wx))
  case first =>
    cases ok
    · go_wp2_with fail
      go_meet
      case rel => exact HBt
    · have HN := Aside0.mk ((HC.out rfl).whole HW.out)
      clear HC
      go_wp2_with fail
      refine (Decode_holds z d t y1 (by have := HCS.out; have := HSZ.out; omega) (by have := HP.out; omega) (by have := HP.out; omega)).mono ?_
      rintro e x1 ⟨C3, e3, C4, e4, er, rfl, hB, hY, hE⟩
      have HBx := Aside0.mk (HBt.out.trans (hB.mono HBt.out.size))
      have HYx := Aside0.mk hY
      have HEx := Aside0.mk hE
      clear hB hY hE
      go_wp2_with fail
      obtain ⟨o, ho⟩ : ∃ o : Obj, o = .cells #[.int .i64 ((outOf z d t).c : Int), .int .i64 ((outOf z d t).at_ : Int), .int .u64 ((outOf z d t).wt : Int), .slice C3 (outOf z d t).ls.length e3, .slice C4 (outOf z d t).ns.length e4, .int .i64 ((outOf z d t).rt : Int)] 28 (0, 0) := ⟨_, rfl⟩
      have hB : Below x1.heap.size x1 (x1.alloc o) := below_alloc (Below.refl _ _) _
      have HBy := Aside0.mk (HBx.out.trans (hB.mono HBx.out.size))
      have HYy := Aside0.mk (HYx.out.moved hB)
      have HEy := Aside0.mk (HEx.out.moved hB)
      have k := heap_alloc_new x1 o
      rw [← ho]
      generalize x1.alloc o = x2 at HBy HYy HEy k ⊢
      rw [ho] at k
      generalize x1.heap.size = gx at k ⊢
      clear hB HBx HYx HEx ho
      clear k
      refine (refused_calls z d t 330 x2 er HYy.out HEy.out ((HBy.out.cell (p := ⟨0, 0, none⟩) H0.out).trans HG.out) (by decide)).mono ?_
      rw [decide_eq_true (verdict_no HN.out d t)]
      rintro e x3 ⟨rfl, hB⟩
      have HBz := Aside0.mk (HBy.out.trans (hB.mono HBy.out.size))
      clear hB HBy HYy HEy
      go_wp2_with fail
      go_meet
      case rel => exact HBz
  case rest =>
  have HB9 := hcut
  clear hcut HBt HC HCS
  go_wp2_with fail
  refine (turned_calls d p y _ (by have := HP.out; omega)).mono ?_
  rintro e y2 ⟨rfl, hB⟩
  have HBt := Aside0.mk (HB9.out.trans (hB.mono HB9.out.size))
  clear hB HB9
  obtain ⟨ok2, hok2⟩ : ∃ z, turnOk d p y = z := ⟨_, rfl⟩
  obtain ⟨z2, hz2⟩ : ∃ z, turnS d p y = z := ⟨_, rfl⟩
  have HC : Aside0 (ok2 = true → Chg d z2) := ⟨fun h => hz2 ▸ turn_chg (hok2.trans h) HYY.out.1 HYY.out.2⟩
  have HCS : Aside0 (z2.size ≤ d.size + 1) := ⟨hz2 ▸ turnS_size d p y⟩
  rw [hok2, hz2]
  clear hok2 hz2
  go_upto_if 120 with fail
  go_cut [27, 28] (fun v27 v28 wx => Aside0 (Below w.heap.size w wx))
  case first =>
    cases ok2
    · go_wp2_with fail
      go_meet
      case rel => exact HBt
    · have hne := (HC.out rfl).sum
      have HN : Aside0 ((verdict b z2 t).1 = 331) := ⟨by rw [HI.out.verdict z2 t, if_pos (fun h => hne h.symm)]⟩
      clear HC hne
      go_wp2_with fail
      refine (Decode_holds b z2 t y2 (by have := HSZ.out; omega) (by have := HCS.out; have := HP.out; omega) (by have := HP.out; omega)).mono ?_
      rintro e x1 ⟨C3, e3, C4, e4, er, rfl, hB, hY, hE⟩
      have HBx := Aside0.mk (HBt.out.trans (hB.mono HBt.out.size))
      have HYx := Aside0.mk hY
      have HEx := Aside0.mk hE
      clear hB hY hE
      go_wp2_with fail
      obtain ⟨o, ho⟩ : ∃ o : Obj, o = .cells #[.int .i64 ((outOf b z2 t).c : Int), .int .i64 ((outOf b z2 t).at_ : Int), .int .u64 ((outOf b z2 t).wt : Int), .slice C3 (outOf b z2 t).ls.length e3, .slice C4 (outOf b z2 t).ns.length e4, .int .i64 ((outOf b z2 t).rt : Int)] 28 (0, 0) := ⟨_, rfl⟩
      have hB : Below x1.heap.size x1 (x1.alloc o) := below_alloc (Below.refl _ _) _
      have HBy := Aside0.mk (HBx.out.trans (hB.mono HBx.out.size))
      have HYy := Aside0.mk (HYx.out.moved hB)
      have HEy := Aside0.mk (HEx.out.moved hB)
      have k := heap_alloc_new x1 o
      rw [← ho]
      generalize x1.alloc o = x2 at HBy HYy HEy k ⊢
      rw [ho] at k
      generalize x1.heap.size = gx at k ⊢
      clear hB HBx HYx HEx ho
      clear k
      refine (refused_calls b z2 t 331 x2 er HYy.out HEy.out ((HBy.out.cell (p := ⟨0, 0, none⟩) H0.out).trans HG.out) (by decide)).mono ?_
      rw [decide_eq_true (HN.out)]
      rintro e x3 ⟨rfl, hB⟩
      have HBz := Aside0.mk (HBy.out.trans (hB.mono HBy.out.size))
      clear hB HBy HYy HEy
      go_wp2_with fail
      go_meet
      case rel => exact HBz
  case rest =>
  have HB10 := hcut
  clear hcut HBt HC HCS
  go_wp2_with fail
  refine (turned_calls t p y _ (by have := HP.out; omega)).mono ?_
  rintro e y3 ⟨rfl, hB⟩
  have HBt := Aside0.mk (HB10.out.trans (hB.mono HB10.out.size))
  clear hB HB10
  obtain ⟨ok3, hok3⟩ : ∃ z, turnOk t p y = z := ⟨_, rfl⟩
  obtain ⟨z3, hz3⟩ : ∃ z, turnS t p y = z := ⟨_, rfl⟩
  have HC : Aside0 (ok3 = true → Chg t z3) := ⟨fun h => hz3 ▸ turn_chg (hok3.trans h) HYY.out.1 HYY.out.2⟩
  have HCS : Aside0 (z3.size ≤ t.size + 1) := ⟨hz3 ▸ turnS_size t p y⟩
  rw [hok3, hz3]
  clear hok3 hz3
  cases ok3
  · go_wp2_with fail
    go_ret
    exact ⟨rfl, HBt.out⟩
  · have hne := (HC.out rfl).sum
    have HN : Aside0 ((verdict b d z3).1 = 331) := ⟨by rw [HI.out.verdict d z3, if_neg (fun h => h rfl), if_pos (fun h => hne h.symm)]⟩
    clear HC hne
    go_wp2_with fail
    refine (Decode_holds b d z3 y3 (by have := HSZ.out; omega) (by have := HP.out; omega) (by have := HCS.out; have := HP.out; omega)).mono ?_
    rintro e x1 ⟨C3, e3, C4, e4, er, rfl, hB, hY, hE⟩
    have HBx := Aside0.mk (HBt.out.trans (hB.mono HBt.out.size))
    have HYx := Aside0.mk hY
    have HEx := Aside0.mk hE
    clear hB hY hE
    go_wp2_with fail
    obtain ⟨o, ho⟩ : ∃ o : Obj, o = .cells #[.int .i64 ((outOf b d z3).c : Int), .int .i64 ((outOf b d z3).at_ : Int), .int .u64 ((outOf b d z3).wt : Int), .slice C3 (outOf b d z3).ls.length e3, .slice C4 (outOf b d z3).ns.length e4, .int .i64 ((outOf b d z3).rt : Int)] 28 (0, 0) := ⟨_, rfl⟩
    have hB : Below x1.heap.size x1 (x1.alloc o) := below_alloc (Below.refl _ _) _
    have HBy := Aside0.mk (HBx.out.trans (hB.mono HBx.out.size))
    have HYy := Aside0.mk (HYx.out.moved hB)
    have HEy := Aside0.mk (HEx.out.moved hB)
    have k := heap_alloc_new x1 o
    rw [← ho]
    generalize x1.alloc o = x2 at HBy HYy HEy k ⊢
    rw [ho] at k
    generalize x1.heap.size = gx at k ⊢
    clear hB HBx HYx HEx ho
    clear k
    refine (refused_calls b d z3 331 x2 er HYy.out HEy.out ((HBy.out.cell (p := ⟨0, 0, none⟩) H0.out).trans HG.out) (by decide)).mono ?_
    rw [decide_eq_true (HN.out)]
    rintro e x3 ⟨rfl, hB⟩
    have HBz := Aside0.mk (HBy.out.trans (hB.mono HBy.out.size))
    clear hB HBy HYy HEy
    go_wp2_with fail
    go_ret
    exact ⟨rfl, HBz.out⟩
set_option maxRecDepth 100000 in
set_option maxHeartbeats 4000000 in
theorem StoreBack_no (d t m : ByteArray) (c a wt rt cut p y : Int) (A3 A4 : Option Addr) (c3 c4 : Nat) (ls : List S39) (ns : List S41) (w : World) (hg : w.cell? ⟨0, 0, none⟩ = some GV) (hr3 : Kd.C k39 w A3 ls.length ls) (hc3 : ls.length ≤ c3) (hr4 : Kd.C k41 w A4 ns.length ns) (hc4 : ns.length ≤ c4)
    (hns : ∀ x ∈ ns, okN x) (hsl : (ls.map wtLf).sum ≤ 2097152) (hsn : (ns.map wtNd).sum ≤ 2097152) (hk : keptB c a rt ls ns = false) :
    Calls Tryd.prog 4 #[.string d, .string t, .agg #[.int .i64 c, .int .i64 a, .int .u64 wt, .slice A3 ls.length c3, .slice A4 ns.length c4, .int .i64 rt], .int .i64 cut, .int .i64 p, .int .u8 y, .string m] w fun e w' => e = .returned (.bool true) ∧ Below w.heap.size w w' := by
  have h0 : 0 < w.heap.size := by
    rcases Nat.eq_zero_or_pos w.heap.size with h0 | h
    · simp [World.cell?, h0] at hg
    · exact h
  obtain ⟨o, ho⟩ : ∃ o : Obj, o = .cells #[.int .i64 c, .int .i64 a, .int .u64 wt, .slice A3 ls.length c3, .slice A4 ns.length c4, .int .i64 rt] 28 (0, 0) := ⟨_, rfl⟩
  have hba : Below w.heap.size w (w.alloc o) := below_alloc (Below.refl _ _) _
  have HB0 := Aside0.mk hba
  have k0 := heap_alloc_new w o
  have H30 := Aside0.mk (Kd.C_below hr3 hba)
  have H40 := Aside0.mk (Kd.C_below hr4 hba)
  have HG := Aside0.mk ((hba.cell (p := ⟨0, 0, none⟩) h0).trans hg)
  have hll := len_sum wtLf (fun x => by unfold wtLf; omega) ls
  have hnl := len_sum wtNd (fun x => by unfold wtNd; omega) ns
  have HL : Aside0 (ls.length ≤ 1073741824 ∧ ns.length ≤ 1073741824) := ⟨by omega⟩
  have HP := Aside0.mk (And.intro hc3 (And.intro hc4 (And.intro hns (And.intro hsl (And.intro hsn hk)))))
  clear hba h0 hg hr3 hc3 hr4 hc4 hns hsl hsn hk hll hnl
  go_enter Tryd.func4, Tryd.ntmps4
  go_wp2_with fail
  rw [← ho]
  generalize w.alloc o = w0 at HB0 k0 H30 H40 HG ⊢
  rw [ho] at k0
  generalize w.heap.size = g0 at k0 ⊢
  have K0 := Aside0.mk k0
  clear ho k0
  refine (started_calls w0 HG.out).mono ?_
  rintro e w1 ⟨rfl, hB⟩
  have HB1 := Aside0.mk (HB0.out.trans (hB.mono HB0.out.size))
  have H31 := Aside0.mk (Kd.C_below H30.out hB)
  have H41 := Aside0.mk (Kd.C_below H40.out hB)
  have K1 := Aside0.mk ((hB.block _ (blk_lt K0.out)).trans K0.out)
  clear hB HB0 H30 H40 K0
  have q0 := blk_cell K1.out 0
  have q1 := blk_cell K1.out 1
  have q2 := blk_cell K1.out 2
  have q3 := blk_cell K1.out 3
  have q4 := blk_cell K1.out 4
  have q5 := blk_cell K1.out 5
  go_wp2_with fail
  refine (Encode_no d t c a wt rt A3 A4 c3 c4 ls ns w1 H31.out HP.out.1 H41.out HP.out.2.1 HP.out.2.2.1 HP.out.2.2.2.1 HP.out.2.2.2.2.1 HP.out.2.2.2.2.2).mono ?_
  rw [show strOfNums [] = (⟨#[]⟩ : ByteArray) from rfl]
  rintro e w2 ⟨rfl, hB⟩
  have HB2 := Aside0.mk (HB1.out.trans (hB.mono HB1.out.size))
  have H32 := Aside0.mk (Kd.C_below H31.out hB)
  have H42 := Aside0.mk (Kd.C_below H41.out hB)
  have K2 := Aside0.mk ((hB.block _ (blk_lt K1.out)).trans K1.out)
  clear hB HB1 H31 H41 K1 q0 q1 q2 q3 q4 q5
  have q0 := blk_cell K2.out 0
  have q1 := blk_cell K2.out 1
  have q2 := blk_cell K2.out 2
  have q3 := blk_cell K2.out 3
  have q4 := blk_cell K2.out 4
  have q5 := blk_cell K2.out 5
  go_wp2_with fail
  refine (good_no c a wt rt ls ns w2 H32.out HP.out.1 H42.out HP.out.2.1 HP.out.2.2.2.2.2 HP.out.2.2.1 HL.out.1 HL.out.2).mono ?_
  rintro e w3 ⟨rfl, hB⟩
  have HB3 := Aside0.mk (HB2.out.trans (hB.mono HB2.out.size))
  clear hB HB2 H32 H42 K2 q0 q1 q2 q3 q4 q5
  go_wp2_with fail
  go_ret
  exact ⟨rfl, HB3.out⟩
theorem StoreBack_calls (d t m : ByteArray) (c a wt rt cut p y : Int) (A3 A4 : Option Addr) (c3 c4 : Nat) (ls : List S39) (ns : List S41) (w : World) (hg : w.cell? ⟨0, 0, none⟩ = some GV) (hr3 : Kd.C k39 w A3 ls.length ls) (hc3 : ls.length ≤ c3) (hr4 : Kd.C k41 w A4 ns.length ns) (hc4 : ns.length ≤ c4)
    (hd : d.size ≤ 1048576) (ht : t.size ≤ 1048576) (hm : m.size ≤ 1048576) (hc : c < 9223372036854775808) (ha : a < 9223372036854775808) (hrt : rt < 9223372036854775808) (hw0 : 0 ≤ wt) (hw1 : wt < 18446744073709551616) (hls : ∀ x ∈ ls, okL x) (hns : ∀ x ∈ ns, okN x)
    (hsl : (ls.map wtLf).sum ≤ 1048576) (hsn : (ns.map wtNd).sum ≤ 1048576) (hy0 : 0 ≤ y) (hy1 : y < 256) :
    Calls Tryd.prog 4 #[.string d, .string t, .agg #[.int .i64 c, .int .i64 a, .int .u64 wt, .slice A3 ls.length c3, .slice A4 ns.length c4, .int .i64 rt], .int .i64 cut, .int .i64 p, .int .u8 y, .string m] w fun e w' => e = .returned (.bool true) ∧ Below w.heap.size w w' := by
  by_cases hk : keptB c a rt ls ns = true
  · obtain ⟨r, rfl, rfl, rfl, rfl, rfl, rfl, K⟩ := kr_of hk hc ha hrt hw0 hw1 hls hns (by omega) (by omega)
    exact StoreBack_yes d t m r cut p y A3 A4 c3 c4 w hg ⟨hr3, hc3, hr4, hc4⟩ K hd ht hm hsl hsn hy0 hy1
  · exact StoreBack_no d t m c a wt rt cut p y A3 A4 c3 c4 ls ns w hg hr3 hc3 hr4 hc4 hns (by omega) (by omega) (by simpa using hk)

end Go.Proofs.YtjgccbpdpnpfjaaDoor.ST
