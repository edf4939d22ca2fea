/- StoreCanon: the walk of the law. -/
import Derived.Test.YtjgccbpdpnpfjaaDoorStoreStart
namespace Go.Proofs.YtjgccbpdpnpfjaaDoor.ST
open Go.RowKit Go.WideShapes Go.ChangeShapes Go.Proofs.YtjgccbpdpnpfjaaDoorW.PrintWords Go.Proofs.YtjgccbpdpnpfjaaDoorW.PrintLast Go.Proofs.YtjgccbpdpnpfjaaDoorW.PrintMore Go.Proofs.YtjgccbpdpnpfjaaDoor.PAll
set_option linter.unusedVariables false

set_option maxRecDepth 100000 in
set_option maxHeartbeats 4000000 in
theorem StoreCanon_calls (b d t : ByteArray) (w : World) (hg : w.cell? ⟨0, 0, none⟩ = some GV) (hb : b.size ≤ 1048576) (hd : d.size ≤ 1048576) (ht : t.size ≤ 1048576) :
    Calls Tryd.prog 5 #[.string b, .string d, .string t] w fun e w' => e = .returned (.bool true) ∧ Below w.heap.size w w' := by
  have h0 : 0 < w.heap.size := by
    rcases Nat.eq_zero_or_pos w.heap.size with h0 | h
    · simp [World.cell?, h0] at hg
    · exact h
  have H0 := Aside0.mk h0
  have HBb := Aside0.mk hb
  have HD := Aside0.mk hd
  have HT := Aside0.mk ht
  have HG := Aside0.mk hg
  clear hb hd ht hg h0
  go_enter Tryd.func5, Tryd.ntmps5
  go_wp2_with fail
  refine (started_calls w HG.out).mono ?_
  rintro e w1 ⟨rfl, hB⟩
  have HB1 := Aside0.mk hB
  clear hB
  go_wp2_with fail
  refine (Decode_holds b d t w1 (by have := HBb.out; omega) (by have := HD.out; omega) (by have := HT.out; omega)).mono ?_
  rintro e w2 ⟨A3, c3, A4, c4, er, rfl, hB, hH, hE⟩
  have HB2 := Aside0.mk (below_then HB1.out HB1.out.size hB)
  have HX2 := Aside0.mk hH
  have HE2 := Aside0.mk hE
  clear hB HB1 hH hE
  rcases verdict_cases b d t with hv | hv | hv | ⟨p, hp, hv⟩
  · obtain ⟨r, hI⟩ := is_of hv
    have hX := HX2.out
    rw [hI.out.2] at hX ⊢
    obtain rfl : er = .nilIface := by
      rcases HE2.out with ⟨_, h⟩ | ⟨h, _⟩
      · exact h
      · exact absurd (by rw [hv]) h
    have HI := Aside0.mk hI
    clear hv hI HE2 HX2
    go_wp2_with fail
    obtain ⟨o, ho⟩ : ∃ o : Obj, o = .cells #[.int .i64 (r.c : Int), .int .i64 (r.at_ : Int), .int .u64 (r.wt : Int), .slice A3 r.ls.length c3, .slice A4 r.ns.length c4, .int .i64 (r.rt : Int)] 28 (0, 0) := ⟨_, rfl⟩
    have hba : Below w2.heap.size w2 (w2.alloc o) := below_alloc (Below.refl _ _) _
    have HB3 := Aside0.mk (below_then HB2.out HB2.out.size hba)
    have HX3 := Aside0.mk (hX.moved hba)
    have k3 := heap_alloc_new w2 o
    rw [← ho]
    generalize w2.alloc o = w3 at HB3 HX3 k3 ⊢
    rw [ho] at k3
    generalize w2.heap.size = g3 at k3 ⊢
    clear hba HB2 hX ho
    have q0 := blk_cell k3 0
    have q1 := blk_cell k3 1
    have q2 := blk_cell k3 2
    have q3 := blk_cell k3 3
    have q4 := blk_cell k3 4
    have q5 := blk_cell k3 5
    have K3 := Aside0.mk k3
    clear k3
    have hwt := HI.out.wt
    have hll := len_sum wtLf (fun x => by unfold wtLf; omega) r.ls
    have hnl := len_sum wtNd (fun x => by unfold wtNd; omega) r.ns
    have HWT : Aside0 ((r.ls.map wtLf).sum ≤ 1048576 ∧ (r.ns.map wtNd).sum ≤ 1048576 ∧ r.ls.length ≤ 1048576 ∧ r.ns.length ≤ 1048576) := ⟨by have := HBb.out; omega⟩
    clear hwt hll hnl
    go_wp2_with fail
    refine (good_holds r w3 HX3.out HI.out.1 (by have := HWT.out; omega) (by have := HWT.out; omega)).mono ?_
    rintro e w4 ⟨rfl, hB⟩
    have HB4 := Aside0.mk (below_then HB3.out HB3.out.size hB)
    have HX4 := Aside0.mk (HX3.out.moved hB)
    have k4 := (hB.block _ (blk_lt K3.out)).trans K3.out
    clear hB HB3 HX3 K3 q0 q1 q2 q3 q4 q5
    have q0 := blk_cell k4 0
    have q1 := blk_cell k4 1
    have q2 := blk_cell k4 2
    have q3 := blk_cell k4 3
    have q4 := blk_cell k4 4
    have q5 := blk_cell k4 5
    clear k4
    go_wp2_with fail
    refine (Encode_holds d t r w4 HX4.out HI.out.1 HD.out HT.out (by have := HWT.out; omega) (by have := HWT.out; omega)).mono ?_
    rw [enc_is HI.out (kept_of HI.out.1)]
    rintro e w5 ⟨rfl, hB⟩
    have HB5 := Aside0.mk (below_then HB4.out HB4.out.size hB)
    clear hB HB4 HX4 q0 q1 q2 q3 q4 q5
    go_wp2_with fail
    go_ret
    exact ⟨rfl, HB5.out⟩
  · have hv0 : (verdict b d t).1 ≠ 0 := by rw [hv]; simp
    have hX := HX2.out
    rw [out_no hv0] at hX ⊢
    have hE := HE2.out
    rcases hE with ⟨h1, _⟩ | ⟨_, ge, rfl, h2, h3⟩
    · exact absurd h1 hv0
    have hE : ErrIs w1.heap.size w2 (.iface 63 (.pointer (some ⟨ge, 0, none⟩))) (verdict b d t) := .inr ⟨hv0, ge, rfl, h2, h3⟩
    clear hv0 h3 HX2 HE2 h2
    go_wp2_with fail
    obtain ⟨o, ho⟩ : ∃ o : Obj, o = .cells #[.int .i64 (rs0.c : Int), .int .i64 (rs0.at_ : Int), .int .u64 (rs0.wt : Int), .slice A3 rs0.ls.length c3, .slice A4 rs0.ns.length c4, .int .i64 (rs0.rt : Int)] 28 (0, 0) := ⟨_, rfl⟩
    have hba : Below w2.heap.size w2 (w2.alloc o) := below_alloc (Below.refl _ _) _
    have HB3 := Aside0.mk (below_then HB2.out HB2.out.size hba)
    have HX3 := Aside0.mk (hX.moved hba)
    have HE3 := Aside0.mk (hE.moved hba)
    have k3 := heap_alloc_new w2 o
    rw [← ho]
    generalize w2.alloc o = w3 at HB3 HX3 HE3 k3 ⊢
    rw [ho] at k3
    generalize w2.heap.size = g3 at k3 ⊢
    have K3 := Aside0.mk k3
    clear hba HB2 hX hE k3 ho
    refine (told_any HE3.out ((HB3.out.cell (p := ⟨0, 0, none⟩) H0.out).trans HG.out)).mono ?_
    rw [hv]
    rintro e w4 ⟨rfl, hB⟩
    have HB4 := Aside0.mk (below_then HB3.out HB3.out.size hB)
    have HX4 := Aside0.mk (HX3.out.moved hB)
    have k4 := (hB.block _ (blk_lt K3.out)).trans K3.out
    clear hB HB3 HX3 HE3 K3 hv
    have q0 := blk_cell k4 0
    have q1 := blk_cell k4 1
    have q2 := blk_cell k4 2
    have q3 := blk_cell k4 3
    have q4 := blk_cell k4 4
    have q5 := blk_cell k4 5
    clear k4
    go_wp2_with fail
    refine (same_calls w4 HX4.out (holds0 w4) rfl (by decide) (by decide)).mono ?_
    rintro e w5 ⟨rfl, hB⟩
    have HB5 := Aside0.mk (below_then HB4.out HB4.out.size hB)
    clear hB HB4 HX4 q0 q1 q2 q3 q4 q5
    go_wp2_with fail
    go_ret
    exact ⟨rfl, HB5.out⟩
  · have hv0 : (verdict b d t).1 ≠ 0 := by rw [hv]; simp
    have hX := HX2.out
    rw [out_no hv0] at hX ⊢
    have hE := HE2.out
    rcases hE with ⟨h1, _⟩ | ⟨_, ge, rfl, h2, h3⟩
    · exact absurd h1 hv0
    have hE : ErrIs w1.heap.size w2 (.iface 63 (.pointer (some ⟨ge, 0, none⟩))) (verdict b d t) := .inr ⟨hv0, ge, rfl, h2, h3⟩
    clear hv0 h3 HX2 HE2 h2
    go_wp2_with fail
    obtain ⟨o, ho⟩ : ∃ o : Obj, o = .cells #[.int .i64 (rs0.c : Int), .int .i64 (rs0.at_ : Int), .int .u64 (rs0.wt : Int), .slice A3 rs0.ls.length c3, .slice A4 rs0.ns.length c4, .int .i64 (rs0.rt : Int)] 28 (0, 0) := ⟨_, rfl⟩
    have hba : Below w2.heap.size w2 (w2.alloc o) := below_alloc (Below.refl _ _) _
    have HB3 := Aside0.mk (below_then HB2.out HB2.out.size hba)
    have HX3 := Aside0.mk (hX.moved hba)
    have HE3 := Aside0.mk (hE.moved hba)
    have k3 := heap_alloc_new w2 o
    rw [← ho]
    generalize w2.alloc o = w3 at HB3 HX3 HE3 k3 ⊢
    rw [ho] at k3
    generalize w2.heap.size = g3 at k3 ⊢
    have K3 := Aside0.mk k3
    clear hba HB2 hX hE k3 ho
    refine (told_any HE3.out ((HB3.out.cell (p := ⟨0, 0, none⟩) H0.out).trans HG.out)).mono ?_
    rw [hv]
    rintro e w4 ⟨rfl, hB⟩
    have HB4 := Aside0.mk (below_then HB3.out HB3.out.size hB)
    have HX4 := Aside0.mk (HX3.out.moved hB)
    have k4 := (hB.block _ (blk_lt K3.out)).trans K3.out
    clear hB HB3 HX3 HE3 K3 hv
    have q0 := blk_cell k4 0
    have q1 := blk_cell k4 1
    have q2 := blk_cell k4 2
    have q3 := blk_cell k4 3
    have q4 := blk_cell k4 4
    have q5 := blk_cell k4 5
    clear k4
    go_wp2_with fail
    refine (same_calls w4 HX4.out (holds0 w4) rfl (by decide) (by decide)).mono ?_
    rintro e w5 ⟨rfl, hB⟩
    have HB5 := Aside0.mk (below_then HB4.out HB4.out.size hB)
    clear hB HB4 HX4 q0 q1 q2 q3 q4 q5
    go_wp2_with fail
    go_ret
    exact ⟨rfl, HB5.out⟩
  · have HP := Aside0.mk hp
    clear hp
    have hv0 : (verdict b d t).1 ≠ 0 := by rw [hv]; simp
    have hX := HX2.out
    rw [out_no hv0] at hX ⊢
    have hE := HE2.out
    rcases hE with ⟨h1, _⟩ | ⟨_, ge, rfl, h2, h3⟩
    · exact absurd h1 hv0
    have hE : ErrIs w1.heap.size w2 (.iface 63 (.pointer (some ⟨ge, 0, none⟩))) (verdict b d t) := .inr ⟨hv0, ge, rfl, h2, h3⟩
    clear hv0 h3 HX2 HE2 h2
    go_wp2_with fail
    obtain ⟨o, ho⟩ : ∃ o : Obj, o = .cells #[.int .i64 (rs0.c : Int), .int .i64 (rs0.at_ : Int), .int .u64 (rs0.wt : Int), .slice A3 rs0.ls.length c3, .slice A4 rs0.ns.length c4, .int .i64 (rs0.rt : Int)] 28 (0, 0) := ⟨_, rfl⟩
    have hba : Below w2.heap.size w2 (w2.alloc o) := below_alloc (Below.refl _ _) _
    have HB3 := Aside0.mk (below_then HB2.out HB2.out.size hba)
    have HX3 := Aside0.mk (hX.moved hba)
    have HE3 := Aside0.mk (hE.moved hba)
    have k3 := heap_alloc_new w2 o
    rw [← ho]
    generalize w2.alloc o = w3 at HB3 HX3 HE3 k3 ⊢
    rw [ho] at k3
    generalize w2.heap.size = g3 at k3 ⊢
    have K3 := Aside0.mk k3
    clear hba HB2 hX hE k3 ho
    refine (told_any HE3.out ((HB3.out.cell (p := ⟨0, 0, none⟩) H0.out).trans HG.out)).mono ?_
    rw [hv]
    rintro e w4 ⟨rfl, hB⟩
    have HB4 := Aside0.mk (below_then HB3.out HB3.out.size hB)
    have HX4 := Aside0.mk (HX3.out.moved hB)
    have k4 := (hB.block _ (blk_lt K3.out)).trans K3.out
    clear hB HB3 HX3 HE3 K3 hv
    have q0 := blk_cell k4 0
    have q1 := blk_cell k4 1
    have q2 := blk_cell k4 2
    have q3 := blk_cell k4 3
    have q4 := blk_cell k4 4
    have q5 := blk_cell k4 5
    clear k4
    go_wp2_with fail
    refine (same_calls w4 HX4.out (holds0 w4) rfl (by decide) (by decide)).mono ?_
    rintro e w5 ⟨rfl, hB⟩
    have HB5 := Aside0.mk (below_then HB4.out HB4.out.size hB)
    clear hB HB4 HX4 q0 q1 q2 q3 q4 q5
    have u1 : decide (0 ≤ (p : Int)) = true := decide_eq_true (by omega)
    have u2 : decide ((p : Int) ≤ (b.size : Int)) = true := decide_eq_true (by have := HP.out; omega)
    have u3 : decide (p ≤ b.size) = true := decide_eq_true HP.out
    go_wp2_with fail
    go_ret
    exact ⟨rfl, HB5.out⟩
end Go.Proofs.YtjgccbpdpnpfjaaDoor.ST
