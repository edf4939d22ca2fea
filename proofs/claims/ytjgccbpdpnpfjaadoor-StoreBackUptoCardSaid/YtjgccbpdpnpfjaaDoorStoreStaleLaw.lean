/- StoreStale: the walk of the law. -/
import Derived.Test.YtjgccbpdpnpfjaaDoorStoreStart
namespace Go.Proofs.YtjgccbpdpnpfjaaDoor.ST
open Go.RowKit Go.WideShapes Go.ChangeShapes Go.Proofs.YtjgccbpdpnpfjaaDoorW.PrintWords Go.Proofs.YtjgccbpdpnpfjaaDoorW.PrintLast Go.Proofs.YtjgccbpdpnpfjaaDoorW.PrintMore Go.Proofs.YtjgccbpdpnpfjaaDoor.PAll
set_option linter.unusedVariables false

/-- a result of the caller's, kept: as plain numbers -/
theorem kr_of {c a wt rt : Int} {ls : List S39} {ns : List S41} (hk : keptB c a rt ls ns = true) (hc : c < 9223372036854775808) (ha : a < 9223372036854775808) (hrt : rt < 9223372036854775808) (hw0 : 0 ≤ wt) (hw1 : wt < 18446744073709551616) (hls : ∀ x ∈ ls, okL x) (hns : ∀ x ∈ ns, okN x)
    (hsl : (ls.map wtLf).sum ≤ 2097152) (hsn : (ns.map wtNd).sum ≤ 2097152) : ∃ r : Rs, c = (r.c : Int) ∧ a = (r.at_ : Int) ∧ wt = (r.wt : Int) ∧ rt = (r.rt : Int) ∧ ls = r.ls ∧ ns = r.ns ∧ ∀ d t : ByteArray, Kr (sumS d) (sumS t) r := by
  obtain ⟨k1, k2, k3, k4, k5⟩ := kept_all hk
  obtain ⟨c, rfl⟩ := Int.eq_ofNat_of_zero_le k1
  obtain ⟨a, rfl⟩ := Int.eq_ofNat_of_zero_le k2
  obtain ⟨rt, rfl⟩ := Int.eq_ofNat_of_zero_le k3
  obtain ⟨wt, rfl⟩ := Int.eq_ofNat_of_zero_le hw0
  have hll := len_sum wtLf (fun x => by unfold wtLf; omega) ls
  have hnl := len_sum wtNd (fun x => by unfold wtNd; omega) ns
  refine ⟨⟨c, a, wt, ls, ns, rt⟩, rfl, rfl, rfl, rfl, rfl, rfl, fun d t => ⟨sumS_lt _, sumS_lt _, by dsimp only; omega, by dsimp only; omega, by dsimp only; omega, by dsimp only; omega, by dsimp only; omega, by dsimp only; omega, fun x hx => ?_, fun x hx => ?_⟩⟩
  · refine ⟨k4 x hx, hls x hx, ?_⟩
    have hh : wtLf x ≤ 2097152 := by
      obtain ⟨i, hi, rfl⟩ := List.getElem_of_mem hx
      exact Nat.le_trans (mem_sum wtLf ls i hi) hsl
    unfold wtLf at hh
    omega
  · have hh : wtNd x ≤ 2097152 := by
      obtain ⟨i, hi, rfl⟩ := List.getElem_of_mem hx
      exact Nat.le_trans (mem_sum wtNd ns i hi) hsn
    unfold wtNd at hh
    exact ⟨k5 x hx, hns x hx, by omega, by omega⟩
theorem good_no (c a wt rt : Int) (ls : List S39) (ns : List S41) (w : World) {A3 A4 : Option Addr} {c3 c4 : Nat} (h3 : Kd.C k39 w A3 ls.length ls) (hc3 : ls.length ≤ c3) (h4 : Kd.C k41 w A4 ns.length ns) (hc4 : ns.length ≤ c4) (hk : keptB c a rt ls ns = false) (hns : ∀ x ∈ ns, okN x) (hl : ls.length ≤ 1073741824) (hn : ns.length ≤ 1073741824) :
    Calls Tryd.prog 14 #[.agg #[.int .i64 c, .int .i64 a, .int .u64 wt, .slice A3 ls.length c3, .slice A4 ns.length c4, .int .i64 rt]] w fun e w' => e = .returned (.bool false) ∧ Below w.heap.size w w' := by
  have h := good_f c a wt rt ls ns (fun x hx => by have := (hns x hx).2.2.2; omega) hl hn
  rw [hk] at h
  exact trellislaw33_good.calls _ _ _ _ A3 c3 ls A4 c4 ns _ false w h3 hc3 h4 hc4 h
theorem sum_calls' (s : ByteArray) (w : World) (hs : s.size ≤ 1073741824) : Calls Tryd.prog 17 #[.string s] w fun e w' => e = .returned (.int .u64 ((sumS s : Nat) : Int)) ∧ Below w.heap.size w w' :=
  (store_Sum.calls (s.size + 1) s _ w (Sum_f s (by omega))).mono fun e w' ⟨h1, h2⟩ => ⟨h1, h2.below⟩
set_option maxRecDepth 100000 in
set_option maxHeartbeats 4000000 in
theorem StoreStale_no (d t o1 o2 : ByteArray) (c a wt rt : Int) (A3 A4 : Option Addr) (c3 c4 : Nat) (ls : List S39) (ns : List S41) (w : World) (hg : w.cell? ⟨0, 0, none⟩ = some GV) (hr3 : Kd.C k39 w A3 ls.length ls) (hc3 : ls.length ≤ c3) (hr4 : Kd.C k41 w A4 ns.length ns) (hc4 : ns.length ≤ c4)
    (hns : ∀ x ∈ ns, okN x) (hl : ls.length ≤ 1073741824) (hn : ns.length ≤ 1073741824) (hk : keptB c a rt ls ns = false) :
    Calls Tryd.prog 6 #[.string d, .string t, .agg #[.int .i64 c, .int .i64 a, .int .u64 wt, .slice A3 ls.length c3, .slice A4 ns.length c4, .int .i64 rt], .string o1, .string o2] w fun e w' => e = .returned (.bool true) ∧ Below w.heap.size w w' := by
  have h0 : 0 < w.heap.size := by
    rcases Nat.eq_zero_or_pos w.heap.size with h0 | h
    · simp [World.cell?, h0] at hg
    · exact h
  obtain ⟨o, ho⟩ : ∃ o : Obj, o = .cells #[.int .i64 c, .int .i64 a, .int .u64 wt, .slice A3 ls.length c3, .slice A4 ns.length c4, .int .i64 rt] 28 (0, 0) := ⟨_, rfl⟩
  have hba : Below w.heap.size w (w.alloc o) := below_alloc (Below.refl _ _) _
  have HB0 := Aside0.mk hba
  have k0 := heap_alloc_new w o
  have H3 := Aside0.mk (Kd.C_below hr3 hba)
  have H4 := Aside0.mk (Kd.C_below hr4 hba)
  have HG := Aside0.mk ((hba.cell (p := ⟨0, 0, none⟩) h0).trans hg)
  have H0 : Aside0 (0 < (w.alloc o).heap.size) := ⟨by simp⟩
  have HP := Aside0.mk (And.intro hc3 (And.intro hc4 (And.intro hns (And.intro hl (And.intro hn hk)))))
  clear hba h0 hg hr3 hc3 hr4 hc4 hns hl hn hk
  go_enter Tryd.func6, Tryd.ntmps6
  go_wp2_with fail
  rw [← ho]
  generalize w.alloc o = w0 at HB0 k0 H3 H4 HG H0 ⊢
  rw [ho] at k0
  generalize w.heap.size = g0 at k0 ⊢
  have K0 := Aside0.mk k0
  clear ho k0
  refine (started_calls w0 HG.out).mono ?_
  rintro e w1 ⟨rfl, hB⟩
  have HB1 := Aside0.mk (HB0.out.trans (hB.mono HB0.out.size))
  have h3 := Kd.C_below H3.out hB
  have h4 := Kd.C_below H4.out hB
  have HG1 := Aside0.mk ((hB.cell (p := ⟨0, 0, none⟩) H0.out).trans HG.out)
  have k1 := (hB.block _ (blk_lt K0.out)).trans K0.out
  have H31 := Aside0.mk h3
  have H41 := Aside0.mk h4
  have H01 := Aside0.mk (Nat.lt_of_lt_of_le H0.out hB.size)
  clear hB h3 h4 HB0 H3 H4 K0 HG H0
  have q0 := blk_cell k1 0
  have q1 := blk_cell k1 1
  have q2 := blk_cell k1 2
  have q3 := blk_cell k1 3
  have q4 := blk_cell k1 4
  have q5 := blk_cell k1 5
  clear k1
  go_wp2_with fail
  refine (good_no c a wt rt ls ns w1 H31.out HP.out.1 H41.out HP.out.2.1 HP.out.2.2.2.2.2 HP.out.2.2.1 HP.out.2.2.2.1 HP.out.2.2.2.2.1).mono ?_
  rintro e w2 ⟨rfl, hB⟩
  have HB2 := Aside0.mk (HB1.out.trans (hB.mono HB1.out.size))
  have HG2 := Aside0.mk ((hB.cell (p := ⟨0, 0, none⟩) H01.out).trans HG1.out)
  clear hB HB1 H31 H41 q0 q1 q2 q3 q4 q5 HG1
  go_wp2_with fail
  refine (started_calls w2 HG2.out).mono ?_
  rintro e w3 ⟨rfl, hB⟩
  have HB3 := Aside0.mk (HB2.out.trans (hB.mono HB2.out.size))
  clear hB HB2
  go_wp2_with fail
  go_ret
  exact ⟨rfl, HB3.out⟩
set_option maxRecDepth 100000 in
set_option maxHeartbeats 4000000 in
theorem StoreStale_yes (d t o1 o2 : ByteArray) (r : Rs) (A3 A4 : Option Addr) (c3 c4 : Nat) (w : World) (hg : w.cell? ⟨0, 0, none⟩ = some GV) (hH : Holds w A3 c3 A4 c4 r) (K : ∀ d t : ByteArray, Kr (sumS d) (sumS t) r)
    (hd : d.size ≤ 1048576) (ht : t.size ≤ 1048576) (ho1 : o1.size ≤ 1048576) (ho2 : o2.size ≤ 1048576) (hl : (r.ls.map wtLf).sum ≤ 1048576) (hn : (r.ns.map wtNd).sum ≤ 1048576) :
    Calls Tryd.prog 6 #[.string d, .string t, rsV A3 c3 A4 c4 r, .string o1, .string o2] w fun e w' => e = .returned (.bool true) ∧ Below w.heap.size w w' := by
  have h0 : 0 < w.heap.size := by
    rcases Nat.eq_zero_or_pos w.heap.size with h0 | h
    · simp [World.cell?, h0] at hg
    · exact h
  obtain ⟨o, ho⟩ : ∃ o : Obj, o = .cells #[.int .i64 (r.c : Int), .int .i64 (r.at_ : Int), .int .u64 (r.wt : Int), .slice A3 r.ls.length c3, .slice A4 r.ns.length c4, .int .i64 (r.rt : Int)] 28 (0, 0) := ⟨_, rfl⟩
  have hba : Below w.heap.size w (w.alloc o) := below_alloc (Below.refl _ _) _
  have HB0 := Aside0.mk hba
  have k0 := heap_alloc_new w o
  have HX0 := Aside0.mk (hH.moved hba)
  have HG0 := Aside0.mk ((hba.cell (p := ⟨0, 0, none⟩) h0).trans hg)
  have H00 : Aside0 (0 < (w.alloc o).heap.size) := ⟨by simp⟩
  have hll := len_sum wtLf (fun x => by unfold wtLf; omega) r.ls
  have hnl := len_sum wtNd (fun x => by unfold wtNd; omega) r.ns
  have HP : Aside0 (d.size ≤ 1048576 ∧ t.size ≤ 1048576 ∧ o1.size ≤ 1048576 ∧ o2.size ≤ 1048576 ∧ (r.ls.map wtLf).sum ≤ 1048576 ∧ (r.ns.map wtNd).sum ≤ 1048576 ∧ r.ls.length ≤ 1048576 ∧ r.ns.length ≤ 1048576) := ⟨⟨hd, ht, ho1, ho2, hl, hn, by omega, by omega⟩⟩
  have HK := Aside0.mk K
  have hIs : Is (encR d t r) (sumS d) (sumS t) r := is_enc (K d t) (kept_of (K d t))
  have HSZ := Aside0.mk (hIs.small (by omega) (by omega))
  have HI := Aside0.mk hIs
  clear hba h0 hg hH K hd ht ho1 ho2 hl hn hll hnl hIs
  go_enter Tryd.func6, Tryd.ntmps6
  go_wp2_with fail
  rw [← ho]
  generalize w.alloc o = w0 at HB0 k0 HX0 HG0 H00 ⊢
  rw [ho] at k0
  generalize w.heap.size = g0 at k0 ⊢
  have K0 := Aside0.mk k0
  clear ho k0
  refine (started_calls w0 HG0.out).mono ?_
  rintro e w1 ⟨rfl, hB⟩
  have HB1 := Aside0.mk (HB0.out.trans (hB.mono HB0.out.size))
  have HX1 := Aside0.mk (HX0.out.moved hB)
  have HG1 := Aside0.mk ((hB.cell (p := ⟨0, 0, none⟩) H00.out).trans HG0.out)
  have H01 := Aside0.mk (Nat.lt_of_lt_of_le H00.out hB.size)
  have K1 := Aside0.mk ((hB.block _ (blk_lt K0.out)).trans K0.out)
  clear hB HB0 HX0 HG0 H00 K0 
  have q0 := blk_cell K1.out 0
  have q1 := blk_cell K1.out 1
  have q2 := blk_cell K1.out 2
  have q3 := blk_cell K1.out 3
  have q4 := blk_cell K1.out 4
  have q5 := blk_cell K1.out 5
  go_wp2_with fail
  refine (good_holds r w1 HX1.out (HK.out d t) (by have := HP.out; omega) (by have := HP.out; omega)).mono ?_
  rintro e w2 ⟨rfl, hB⟩
  have HB2 := Aside0.mk (HB1.out.trans (hB.mono HB1.out.size))
  have HX2 := Aside0.mk (HX1.out.moved hB)
  have HG2 := Aside0.mk ((hB.cell (p := ⟨0, 0, none⟩) H01.out).trans HG1.out)
  have H02 := Aside0.mk (Nat.lt_of_lt_of_le H01.out hB.size)
  have K2 := Aside0.mk ((hB.block _ (blk_lt K1.out)).trans K1.out)
  clear hB HB1 HX1 HG1 H01 K1 q0 q1 q2 q3 q4 q5
  have q0 := blk_cell K2.out 0
  have q1 := blk_cell K2.out 1
  have q2 := blk_cell K2.out 2
  have q3 := blk_cell K2.out 3
  have q4 := blk_cell K2.out 4
  have q5 := blk_cell K2.out 5
  go_wp2_with fail
  refine (Encode_holds d t r w2 HX2.out (HK.out d t) HP.out.1 HP.out.2.1 (by have := HP.out; omega) (by have := HP.out; omega)).mono ?_
  rintro e w3 ⟨rfl, hB⟩
  obtain ⟨b, hb⟩ : ∃ b, encR d t r = b := ⟨_, rfl⟩
  rw [hb] at HI HSZ ⊢
  clear hb
  have HB3 := Aside0.mk (HB2.out.trans (hB.mono HB2.out.size))
  have HX3 := Aside0.mk (HX2.out.moved hB)
  have HG3 := Aside0.mk ((hB.cell (p := ⟨0, 0, none⟩) H02.out).trans HG2.out)
  have H03 := Aside0.mk (Nat.lt_of_lt_of_le H02.out hB.size)
  have K3 := Aside0.mk ((hB.block _ (blk_lt K2.out)).trans K2.out)
  clear hB HB2 HX2 HG2 H02 K2 q0 q1 q2 q3 q4 q5
  have q0 := blk_cell K3.out 0
  have q1 := blk_cell K3.out 1
  have q2 := blk_cell K3.out 2
  have q3 := blk_cell K3.out 3
  have q4 := blk_cell K3.out 4
  have q5 := blk_cell K3.out 5
  go_wp2_with fail
  refine (Decode_holds b o1 o2 w3 (by have := HSZ.out; omega) (by have := HP.out; omega) (by have := HP.out; omega)).mono ?_
  rintro e w4 ⟨B3, d3, B4, d4, er, rfl, hB, hY, hE⟩
  have HB4 := Aside0.mk (HB3.out.trans (hB.mono HB3.out.size))
  have HX4 := Aside0.mk (HX3.out.moved hB)
  have HG4 := Aside0.mk ((hB.cell (p := ⟨0, 0, none⟩) H03.out).trans HG3.out)
  have H04 := Aside0.mk (Nat.lt_of_lt_of_le H03.out hB.size)
  have K4 := Aside0.mk ((hB.block _ (blk_lt K3.out)).trans K3.out)
  have HY4 := Aside0.mk hY
  have HE4 := Aside0.mk hE
  clear hB HB3 HX3 HG3 H03 K3 q0 q1 q2 q3 q4 q5 hY hE
  go_wp2_with fail
  obtain ⟨o, ho⟩ : ∃ o : Obj, o = .cells #[.int .i64 ((outOf b o1 o2).c : Int), .int .i64 ((outOf b o1 o2).at_ : Int), .int .u64 ((outOf b o1 o2).wt : Int), .slice B3 (outOf b o1 o2).ls.length d3, .slice B4 (outOf b o1 o2).ns.length d4, .int .i64 ((outOf b o1 o2).rt : Int)] 28 (0, 0) := ⟨_, rfl⟩
  have hba : Below w4.heap.size w4 (w4.alloc o) := below_alloc (Below.refl _ _) _
  have HB5 := Aside0.mk (HB4.out.trans (hba.mono HB4.out.size))
  have HX5 := Aside0.mk (HX4.out.moved hba)
  have HY5 := Aside0.mk (HY4.out.moved hba)
  have HE5 := Aside0.mk (HE4.out.moved hba)
  have HG5 := Aside0.mk ((hba.cell (p := ⟨0, 0, none⟩) H04.out).trans HG4.out)
  have K5 := Aside0.mk ((hba.block _ (blk_lt K4.out)).trans K4.out)
  have j5 := heap_alloc_new w4 o
  rw [← ho]
  generalize w4.alloc o = w5 at HB5 HX5 HY5 HE5 HG5 K5 j5 ⊢
  rw [ho] at j5
  generalize w4.heap.size = g5 at j5 ⊢
  have J5 := Aside0.mk j5
  clear hba HB4 HX4 HY4 HE4 HG4 K4 H04 j5 ho
  refine (told_any HE5.out HG5.out).mono ?_
  rintro e w6 ⟨rfl, hB⟩
  have HB6 := Aside0.mk (HB5.out.trans (hB.mono HB5.out.size))
  have HX6 := Aside0.mk (HX5.out.moved hB)
  have HY6 := Aside0.mk (HY5.out.moved hB)
  have HE6 := Aside0.mk (HE5.out.moved hB)
  have K6 := Aside0.mk ((hB.block _ (blk_lt K5.out)).trans K5.out)
  have J6 := Aside0.mk ((hB.block _ (blk_lt J5.out)).trans J5.out)
  clear hB HB5 HX5 HY5 HE5 HG5 K5 J5
  go_wp2_with fail
  refine (sum_calls' o1 w6 (by have := HP.out; omega)).mono ?_
  rintro e w7 ⟨rfl, hB⟩
  have HB7 := Aside0.mk (HB6.out.trans (hB.mono HB6.out.size))
  have HX7 := Aside0.mk (HX6.out.moved hB)
  have HY7 := Aside0.mk (HY6.out.moved hB)
  have HE7 := Aside0.mk (HE6.out.moved hB)
  have K7 := Aside0.mk ((hB.block _ (blk_lt K6.out)).trans K6.out)
  have J7 := Aside0.mk ((hB.block _ (blk_lt J6.out)).trans J6.out)
  clear hB HB6 HX6 HY6 HE6 K6 J6
  go_wp2_with fail
  refine (sum_calls' d w7 (by have := HP.out; omega)).mono ?_
  rintro e w8 ⟨rfl, hB⟩
  have HB8 := Aside0.mk (HB7.out.trans (hB.mono HB7.out.size))
  have HX8 := Aside0.mk (HX7.out.moved hB)
  have HY8 := Aside0.mk (HY7.out.moved hB)
  have HE8 := Aside0.mk (HE7.out.moved hB)
  have K8 := Aside0.mk ((hB.block _ (blk_lt K7.out)).trans K7.out)
  have J8 := Aside0.mk ((hB.block _ (blk_lt J7.out)).trans J7.out)
  clear hB HB7 HX7 HY7 HE7 K7 J7
  by_cases hs1 : sumS d = sumS o1
  · have e1 : sumS o1 = sumS d := hs1.symm
    rw [e1]
    have HS1 := Aside0.mk hs1
    clear hs1 e1
    go_wp2_with fail
    refine (sum_calls' o2 w8 (by have := HP.out; omega)).mono ?_
    rintro e w9 ⟨rfl, hB⟩
    have HB9 := Aside0.mk (HB8.out.trans (hB.mono HB8.out.size))
    have HX9 := Aside0.mk (HX8.out.moved hB)
    have HY9 := Aside0.mk (HY8.out.moved hB)
    have HE9 := Aside0.mk (HE8.out.moved hB)
    have K9 := Aside0.mk ((hB.block _ (blk_lt K8.out)).trans K8.out)
    have J9 := Aside0.mk ((hB.block _ (blk_lt J8.out)).trans J8.out)
    clear hB HB8 HX8 HY8 HE8 K8 J8
    go_wp2_with fail
    refine (sum_calls' t w9 (by have := HP.out; omega)).mono ?_
    rintro e w10 ⟨rfl, hB⟩
    have HB10 := Aside0.mk (HB9.out.trans (hB.mono HB9.out.size))
    have HX10 := Aside0.mk (HX9.out.moved hB)
    have hY := HY9.out.moved hB
    have hE := HE9.out.moved hB
    have k := (hB.block _ (blk_lt K9.out)).trans K9.out
    have j := (hB.block _ (blk_lt J9.out)).trans J9.out
    clear hB HB9 HX9 HY9 HE9 K9 J9
    by_cases hs2 : sumS t = sumS o2
    · have e2 : sumS o2 = sumS t := hs2.symm
      have hI : Is b (sumS o1) (sumS o2) r := by rw [← HS1.out, ← hs2]; exact HI.out
      rw [e2]
      rw [hI.out.1] at hE ⊢
      rw [hI.out.2] at hY j ⊢
      obtain rfl : er = .nilIface := by
        rcases hE with ⟨_, h⟩ | ⟨h, _⟩
        · exact h
        · exact absurd rfl h
      have HYA := Aside0.mk hY
      have q0 := blk_cell k 0
      have q1 := blk_cell k 1
      have q2 := blk_cell k 2
      have q3 := blk_cell k 3
      have q4 := blk_cell k 4
      have q5 := blk_cell k 5
      have r0 := blk_cell j 0
      have r1 := blk_cell j 1
      have r2 := blk_cell j 2
      have r3 := blk_cell j 3
      have r4 := blk_cell j 4
      have r5 := blk_cell j 5
      clear k j hY hE hs2 e2 hI
      go_wp2_with fail
      refine (same_calls w10 HYA.out HX10.out rfl (by have := HP.out; omega) (by have := HP.out; omega)).mono ?_
      rintro e w11 ⟨rfl, hB⟩
      have HB11 := Aside0.mk (HB10.out.trans (hB.mono HB10.out.size))
      clear hB HB10 HX10 HYA q0 q1 q2 q3 q4 q5 r0 r1 r2 r3 r4 r5
      go_wp2_with fail
      go_ret
      exact ⟨rfl, HB11.out⟩
    · have hvd : verdict b o1 o2 = (331, 1) := by
        have h := HI.out.verdict o1 o2
        rw [if_neg (fun h => h HS1.out), if_pos hs2] at h
        exact h
      rw [out_no (by rw [hvd]; decide)] at hY j ⊢
      rw [hvd]
      have HYA := Aside0.mk hY
      have r0 := blk_cell j 0
      have r1 := blk_cell j 1
      have r2 := blk_cell j 2
      have r3 := blk_cell j 3
      have r4 := blk_cell j 4
      have r5 := blk_cell j 5
      have t1 : decide (((sumS o2 : Nat) : Int) = ((sumS t : Nat) : Int)) = false := decide_eq_false (by omega)
      have t2 : (((sumS o2 : Nat) : Int) == ((sumS t : Nat) : Int)) = false := beq_eq_false_iff_ne.2 (by omega)
      have t3 : decide (sumS o2 = sumS t) = false := decide_eq_false (by omega)
      have t4 : (sumS o2 == sumS t) = false := beq_eq_false_iff_ne.2 (by omega)
      clear k j hY hE hs2 hvd
      go_wp2_with fail
      refine (same_calls w10 HYA.out (holds0 w10) rfl (by decide) (by decide)).mono ?_
      rintro e w11 ⟨rfl, hB⟩
      have HB11 := Aside0.mk (HB10.out.trans (hB.mono HB10.out.size))
      clear hB HB10 HX10 HYA r0 r1 r2 r3 r4 r5
      go_wp2_with fail
      go_ret
      exact ⟨rfl, HB11.out⟩
  · have hvd : verdict b o1 o2 = (331, 0) := by
      have h := HI.out.verdict o1 o2
      rw [if_pos hs1] at h
      exact h
    have hY := HY8.out
    have j := J8.out
    rw [out_no (by rw [hvd]; decide)] at hY j ⊢
    rw [hvd]
    have HYA := Aside0.mk hY
    have r0 := blk_cell j 0
    have r1 := blk_cell j 1
    have r2 := blk_cell j 2
    have r3 := blk_cell j 3
    have r4 := blk_cell j 4
    have r5 := blk_cell j 5
    have t1 : decide (((sumS o1 : Nat) : Int) = ((sumS d : Nat) : Int)) = false := decide_eq_false (by omega)
    have t2 : (((sumS o1 : Nat) : Int) == ((sumS d : Nat) : Int)) = false := beq_eq_false_iff_ne.2 (by omega)
    have t3 : decide (sumS o1 = sumS d) = false := decide_eq_false (by omega)
    have t4 : (sumS o1 == sumS d) = false := beq_eq_false_iff_ne.2 (by omega)
    clear j hY hs1 hvd
    go_wp2_with fail
    refine (same_calls w8 HYA.out (holds0 w8) rfl (by decide) (by decide)).mono ?_
    rintro e w11 ⟨rfl, hB⟩
    have HB11 := Aside0.mk (HB8.out.trans (hB.mono HB8.out.size))
    clear hB HB8 HX8 HYA r0 r1 r2 r3 r4 r5
    go_wp2_with fail
    go_ret
    exact ⟨rfl, HB11.out⟩
theorem StoreStale_calls (d t o1 o2 : ByteArray) (c a wt rt : Int) (A3 A4 : Option Addr) (c3 c4 : Nat) (ls : List S39) (ns : List S41) (w : World) (hg : w.cell? ⟨0, 0, none⟩ = some GV) (hr3 : Kd.C k39 w A3 ls.length ls) (hc3 : ls.length ≤ c3) (hr4 : Kd.C k41 w A4 ns.length ns) (hc4 : ns.length ≤ c4)
    (hd : d.size ≤ 1048576) (ht : t.size ≤ 1048576) (ho1 : o1.size ≤ 1048576) (ho2 : o2.size ≤ 1048576) (hc : c < 9223372036854775808) (ha : a < 9223372036854775808) (hrt : rt < 9223372036854775808) (hw0 : 0 ≤ wt) (hw1 : wt < 18446744073709551616) (hls : ∀ x ∈ ls, okL x) (hns : ∀ x ∈ ns, okN x)
    (hsl : (ls.map wtLf).sum ≤ 1048576) (hsn : (ns.map wtNd).sum ≤ 1048576) :
    Calls Tryd.prog 6 #[.string d, .string t, .agg #[.int .i64 c, .int .i64 a, .int .u64 wt, .slice A3 ls.length c3, .slice A4 ns.length c4, .int .i64 rt], .string o1, .string o2] w fun e w' => e = .returned (.bool true) ∧ Below w.heap.size w w' := by
  by_cases hk : keptB c a rt ls ns = true
  · obtain ⟨r, rfl, rfl, rfl, rfl, rfl, rfl, K⟩ := kr_of hk hc ha hrt hw0 hw1 hls hns (by omega) (by omega)
    exact StoreStale_yes d t o1 o2 r A3 A4 c3 c4 w hg ⟨hr3, hc3, hr4, hc4⟩ K hd ht ho1 ho2 hsl hsn
  · have hll := len_sum wtLf (fun x => by unfold wtLf; omega) ls
    have hnl := len_sum wtNd (fun x => by unfold wtNd; omega) ns
    exact StoreStale_no d t o1 o2 c a wt rt A3 A4 c3 c4 ls ns w hg hr3 hc3 hr4 hc4 hns (by omega) (by omega) (by simpa using hk)
end Go.Proofs.YtjgccbpdpnpfjaaDoor.ST
