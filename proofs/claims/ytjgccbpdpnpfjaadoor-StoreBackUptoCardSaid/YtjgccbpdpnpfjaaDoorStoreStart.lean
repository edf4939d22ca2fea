/- store: a result goes out and comes back: the walk of 'started'. -/
import Derived.Test.YtjgccbpdpnpfjaaDoorStoreLaws
namespace Go.Proofs.YtjgccbpdpnpfjaaDoor.ST
open Go.RowKit Go.WideShapes Go.ChangeShapes Go.Proofs.YtjgccbpdpnpfjaaDoorW.PrintWords Go.Proofs.YtjgccbpdpnpfjaaDoorW.PrintLast Go.Proofs.YtjgccbpdpnpfjaaDoorW.PrintMore Go.Proofs.YtjgccbpdpnpfjaaDoor.PAll
set_option linter.unusedVariables false

abbrev sL : S39 := ⟨1, 0, 2, 3, 2, ⟨#[115]⟩⟩
abbrev sN : S41 := ⟨⟨#[110]⟩, true, ⟨#[]⟩, 0, 2, 0, 0⟩
abbrev sR : Rs := ⟨0, 2, 0, [sL], [sN], 1⟩
abbrev sD : ByteArray := ⟨#[100]⟩
abbrev sT : ByteArray := ⟨#[116]⟩
abbrev sU : ByteArray := ⟨#[117]⟩
theorem sR_kr : Kr (sumS sD) (sumS sT) sR := by
  refine ⟨sumS_lt _, sumS_lt _, by decide, by decide, by decide, by decide, by decide, by decide, fun x hx => ?_, fun x hx => ?_⟩
  · rw [List.mem_singleton.1 hx]
    refine ⟨by decide, ?_, by decide⟩
    unfold okL
    decide
  · rw [List.mem_singleton.1 hx]
    refine ⟨by decide, ?_, by decide, by decide⟩
    unfold okN
    decide
theorem sB_is : Is (encR sD sT sR) (sumS sD) (sumS sT) sR := is_enc sR_kr (kept_of sR_kr)
theorem sB_size : (encR sD sT sR).size = 61 := by
  rw [sB_is.size]
  rfl
theorem sTU : sumS sT ≠ sumS sU := Chg.sum (b := sU) (b' := sT) ⟨[], 117, 116, [], rfl, rfl, by decide⟩
theorem sB_stale : verdict (encR sD sT sR) sD sU = (331, 1) := by
  rw [sB_is.verdict, if_neg (by simp), if_pos sTU]
theorem sum_empty : sumS ⟨#[]⟩ = 14695981039346656037 := rfl
set_option maxRecDepth 100000 in
set_option maxHeartbeats 4000000 in
theorem started_calls (w : World) (hg : w.cell? ⟨0, 0, none⟩ = some GV) : Calls Tryd.prog 12 #[] w fun e w' => e = .returned (.bool true) ∧ Below w.heap.size w w' := by
  have h0 : 0 < w.heap.size := by
    rcases Nat.eq_zero_or_pos w.heap.size with h0 | h
    · simp [World.cell?, h0] at hg
    · exact h
  obtain ⟨w1, hw1⟩ : ∃ w1, w1 = w.alloc (.cells #[.int .i64 1, .int .i64 0, .int .i64 2, .int .i64 3, .int .u64 2, .string ⟨#[115]⟩] 39) := ⟨_, rfl⟩
  obtain ⟨w2, hw2⟩ : ∃ w2, w2 = w1.alloc (.cells #[.string ⟨#[110]⟩, .bool true, .string ⟨#[]⟩, .int .i64 0, .int .i64 2, .int .i64 0, .int .i64 0] 41) := ⟨_, rfl⟩
  obtain ⟨w3, hw3⟩ : ∃ w3, w3 = w2.alloc (.cells #[.int .i64 0, .int .i64 2, .int .u64 0, .slice (some ⟨w.heap.size, 0, none⟩) 1 1, .slice (some ⟨w.heap.size + 1, 0, none⟩) 1 1, .int .i64 1] 28) := ⟨_, rfl⟩
  have z1 : w1.heap.size = w.heap.size + 1 := by rw [hw1]; simp
  have z2 : w2.heap.size = w.heap.size + 1 + 1 := by rw [hw2, ← z1]; simp
  have b1 : Below w.heap.size w w1 := by rw [hw1]; exact below_alloc (Below.refl _ _) _
  have b2 : Below w1.heap.size w1 w2 := by rw [hw2]; exact below_alloc (Below.refl _ _) _
  have b3 : Below w2.heap.size w2 w3 := by rw [hw3]; exact below_alloc (Below.refl _ _) _
  have k1 : w1.heap[w.heap.size]? = some (.cells #[.int .i64 1, .int .i64 0, .int .i64 2, .int .i64 3, .int .u64 2, .string ⟨#[115]⟩] 39 (0, 0)) := by rw [hw1]; exact heap_alloc_new w _
  have k2 : w2.heap[w.heap.size + 1]? = some (.cells #[.string ⟨#[110]⟩, .bool true, .string ⟨#[]⟩, .int .i64 0, .int .i64 2, .int .i64 0, .int .i64 0] 41 (0, 0)) := by rw [hw2, ← z1]; exact heap_alloc_new w1 _
  have k3 : w3.heap[w.heap.size + 1 + 1]? = some (.cells #[.int .i64 0, .int .i64 2, .int .u64 0, .slice (some ⟨w.heap.size, 0, none⟩) 1 1, .slice (some ⟨w.heap.size + 1, 0, none⟩) 1 1, .int .i64 1] 28 (0, 0)) := by rw [hw3, ← z2]; exact heap_alloc_new w2 _
  have K3 := Aside0.mk k3
  have HB := Aside0.mk (below_then (below_then b1 b1.size b2) (Nat.le_trans b1.size b2.size) b3)
  have c1 : Kd.C k39 w1 (some ⟨w.heap.size, 0, none⟩) 1 [sL] := C_one k1 (k39_mk w1 sL)
  have c2 : Kd.C k41 w2 (some ⟨w.heap.size + 1, 0, none⟩) 1 [sN] := C_one k2 (k41_mk w2 sN)
  have HH : Aside0 (Holds w3 (some ⟨w.heap.size, 0, none⟩) 1 (some ⟨w.heap.size + 1, 0, none⟩) 1 sR) := ⟨⟨Kd.C_below (Kd.C_below c1 b2) b3, Nat.le_refl _, Kd.C_below c2 b3, Nat.le_refl _⟩⟩
  have HG := Aside0.mk hg
  have H0 := Aside0.mk h0
  clear k1 k2 k3 c1 c2 b1 b2 b3 z1 z2 hg h0
  go_enter Tryd.func12, Tryd.ntmps12
  go_wp2_with fail
  rw [← hw1, ← hw2, ← hw3]
  clear hw1 hw2 hw3
  refine (Encode_calls sD sT 0 2 0 1 _ _ 1 1 [sL] [sN] w3 HH.out.l HH.out.lc HH.out.n HH.out.nc (by decide) (by decide) (by decide) (by decide) (by decide) (by decide) (by decide) (fun x hx => (sR_kr.l x hx).2.1) (fun x hx => (sR_kr.n x hx).2.1) (by decide) (by decide)).mono ?_
  rintro e w4 ⟨rfl, hB⟩
  obtain ⟨b, hb⟩ : ∃ b, encS sD sT 0 2 0 1 [sL] [sN] = b := ⟨_, rfl⟩
  rw [hb]
  have hIs : Is b (sumS sD) (sumS sT) sR := hb ▸ sB_is
  have hSt : verdict b sD sU = (331, 1) := hb ▸ sB_stale
  have hSz : b.size = 61 := hb ▸ sB_size
  have HI := Aside0.mk hIs
  have HST := Aside0.mk hSt
  have HSZ := Aside0.mk hSz
  clear hb hIs hSt hSz
  have HB4 := Aside0.mk (below_then HB.out HB.out.size hB)
  have HH4 := Aside0.mk (HH.out.moved hB)
  have K4 := Aside0.mk ((hB.block _ (blk_lt K3.out)).trans K3.out)
  clear hB HB HH K3
  go_wp2_with fail
  refine (Decode_holds b sD sT w4 (by have := HSZ.out; omega) (by decide) (by decide)).mono ?_
  rw [HI.out.out.1, HI.out.out.2]
  rintro e w5 ⟨A3, c3, A4, c4, er, rfl, hB, hH, hE⟩
  obtain rfl : er = .nilIface := by
    rcases hE with ⟨_, h⟩ | ⟨h, _⟩
    · exact h
    · exact absurd rfl h
  clear hE
  have HB5 := Aside0.mk (below_then HB4.out HB4.out.size hB)
  have HH5 := Aside0.mk (HH4.out.moved hB)
  have HX5 := Aside0.mk hH
  have K5 := Aside0.mk ((hB.block _ (blk_lt K4.out)).trans K4.out)
  clear hB HB4 HH4 K4 hH
  go_wp2_with fail
  have hba : Below w5.heap.size w5 (w5.alloc (.cells #[.int .i64 0, .int .i64 2, .int .u64 0, .slice A3 1 c3, .slice A4 1 c4, .int .i64 1] 28)) := below_alloc (Below.refl _ _) _
  have HB6 := Aside0.mk (below_then HB5.out HB5.out.size hba)
  have HH6 := Aside0.mk (HH5.out.moved hba)
  have HX6 := Aside0.mk (HX5.out.moved hba)
  have K6 := Aside0.mk ((hba.block _ (blk_lt K5.out)).trans K5.out)
  have J6 := Aside0.mk (heap_alloc_new w5 (.cells #[.int .i64 0, .int .i64 2, .int .u64 0, .slice A3 1 c3, .slice A4 1 c4, .int .i64 1] 28))
  generalize w5.alloc (.cells #[.int .i64 0, .int .i64 2, .int .u64 0, .slice A3 1 c3, .slice A4 1 c4, .int .i64 1] 28) = w6 at HB6 HH6 HX6 K6 J6 ⊢
  generalize w5.heap.size = g5 at J6 ⊢
  clear hba HB5 HH5 HX5 K5
  refine (Decode_holds b sD sU w6 (by have := HSZ.out; omega) (by decide) (by decide)).mono ?_
  rintro e w7 ⟨B3, d3, B4, d4, er, rfl, hB, _, hE⟩
  have HE7 := Aside0.mk hE
  have HB7 := Aside0.mk (below_then HB6.out HB6.out.size hB)
  have HH7 := Aside0.mk (HH6.out.moved hB)
  have HX7 := Aside0.mk (HX6.out.moved hB)
  have K7 := Aside0.mk ((hB.block _ (blk_lt K6.out)).trans K6.out)
  have J7 := Aside0.mk ((hB.block _ (blk_lt J6.out)).trans J6.out)
  clear hB hE HB6 HH6 HX6 K6 J6
  go_wp2_with fail
  obtain ⟨o8, ho8⟩ : ∃ o8 : Obj, o8 = .cells #[.int .i64 ((outOf b sD sU).c : Int), .int .i64 ((outOf b sD sU).at_ : Int), .int .u64 ((outOf b sD sU).wt : Int), .slice B3 (outOf b sD sU).ls.length d3, .slice B4 (outOf b sD sU).ns.length d4, .int .i64 ((outOf b sD sU).rt : Int)] 28 := ⟨_, rfl⟩
  rw [← ho8]
  have hba : Below w7.heap.size w7 (w7.alloc o8) := below_alloc (Below.refl _ _) _
  have HB8 := Aside0.mk (below_then HB7.out HB7.out.size hba)
  have HH8 := Aside0.mk (HH7.out.moved hba)
  have HX8 := Aside0.mk (HX7.out.moved hba)
  have K8 := Aside0.mk ((hba.block _ (blk_lt K7.out)).trans K7.out)
  have J8 := Aside0.mk ((hba.block _ (blk_lt J7.out)).trans J7.out)
  have HE8 := Aside0.mk (HE7.out.moved hba)
  generalize w7.alloc o8 = w8 at HB8 HH8 HX8 K8 J8 HE8 ⊢
  clear hba HB7 HH7 HX7 K7 J7 HE7 ho8
  refine (told_any HE8.out ((HB8.out.cell (p := ⟨0, 0, none⟩) H0.out).trans HG.out)).mono ?_
  rw [HST.out]
  rintro e w9 ⟨rfl, hB⟩
  have HB9 := Aside0.mk (below_then HB8.out HB8.out.size hB)
  have HH9 := Aside0.mk (HH8.out.moved hB)
  have HX9 := Aside0.mk (HX8.out.moved hB)
  have k9 := (hB.block _ (blk_lt K8.out)).trans K8.out
  have j9 := (hB.block _ (blk_lt J8.out)).trans J8.out
  clear hB HB8 HH8 HX8 K8 J8 HE8
  have q0 := blk_cell k9 0
  have q1 := blk_cell k9 1
  have q2 := blk_cell k9 2
  have q3 := blk_cell k9 3
  have q4 := blk_cell k9 4
  have q5 := blk_cell k9 5
  have r0 := blk_cell j9 0
  have r1 := blk_cell j9 1
  have r2 := blk_cell j9 2
  have r3 := blk_cell j9 3
  have r4 := blk_cell j9 4
  have r5 := blk_cell j9 5
  clear k9 j9
  have l1 : decide ((50 : Int) < (b.size : Int)) = true := decide_eq_true (by have := HSZ.out; omega)
  have l2 : decide (50 < b.size) = true := decide_eq_true (by have := HSZ.out; omega)
  go_wp2_with fail
  refine (same_calls w9 HX9.out HH9.out rfl (by decide) (by decide)).mono ?_
  rintro e w10 ⟨rfl, hB⟩
  have HB10 := Aside0.mk (below_then HB9.out HB9.out.size hB)
  clear hB HB9 HH9 HX9 q0 q1 q2 q3 q4 q5 r0 r1 r2 r3 r4 r5
  go_wp2_with fail
  refine (store_Sum.calls ((⟨#[]⟩ : ByteArray).size + 1) ⟨#[]⟩ _ w10 (Sum_f _ (by decide))).mono ?_
  rintro e w11 ⟨rfl, hD⟩
  have HB11 := Aside0.mk (below_then HB10.out HB10.out.size hD.below)
  clear hD HB10
  rw [sum_empty]
  go_wp2_with fail
  go_ret
  exact ⟨rfl, HB11.out⟩
end Go.Proofs.YtjgccbpdpnpfjaaDoor.ST
