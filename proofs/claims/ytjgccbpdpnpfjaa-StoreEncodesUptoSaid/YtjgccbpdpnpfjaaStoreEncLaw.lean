/- StoreEncodes: Encode is the document's, the result is as it was, Sum is the document's: the walk. -/
import Derived.Test.YtjgccbpdpnpfjaaStoreEncode
import Derived.Test.YtjgccbpdpnpfjaaStoreREnc
namespace Go.Proofs.Ytjgccbpdpnpfjaa.ST
open Go.RowKit Go.WideShapes Go.ChangeShapes Go.Proofs.YtjgccbpdpnpfjaaW.PrintWords Go.Proofs.YtjgccbpdpnpfjaaW.PrintLast Go.Proofs.YtjgccbpdpnpfjaaW.PrintMore Go.Proofs.Ytjgccbpdpnpfjaa.PAll
set_option linter.unusedVariables false

theorem far {w : World} {a : Addr} {v : Value} (h : w.cell? a = some v) (o : Obj) : (w.alloc o).cell? a = some v := pw_cell_below (below_alloc (Below.refl _ _) o) h
theorem rEncode_calls (d t : ByteArray) (c a wt rt : Int) (A3 A4 : Option Addr) (c3 c4 : Nat) (ls : List S35) (ns : List S37) (w : World) (hr3 : Kd.C k35 w A3 ls.length ls) (hc3 : ls.length ≤ c3) (hr4 : Kd.C k37 w A4 ns.length ns) (hc4 : ns.length ≤ c4)
    (hd : d.size ≤ 140737488351232) (ht : t.size ≤ 140737488351232) (hc : c < 9223372036854775808) (ha : a < 9223372036854775808) (hrt : rt < 9223372036854775808) (hw0 : 0 ≤ wt) (hw1 : wt < 18446744073709551616) (hls : ∀ x ∈ ls, okL x) (hns : ∀ x ∈ ns, okN x)
    (hsl : (ls.map wtLf).sum ≤ 2097152) (hsn : (ns.map wtNd).sum ≤ 2097152) :
    Calls Try.prog 6 #[.string d, .string t, .agg #[.int .i64 c, .int .i64 a, .int .u64 wt, .slice A3 ls.length c3, .slice A4 ns.length c4, .int .i64 rt]] w fun e w' => e = .returned (.string (encS d t c a wt rt ls ns)) ∧ Below w.heap.size w w' := by
  unfold encS
  by_cases hk : keptB c a rt ls ns = true
  · rw [if_pos hk]
    exact rEncode_yes d t c a wt rt A3 A4 c3 c4 ls ns w hr3 hc3 hr4 hc4 hd ht hc ha hrt hw0 hw1 hls hns hsl hsn hk
  · rw [if_neg hk]
    exact rEncode_no d t c a wt rt A3 A4 c3 c4 ls ns w hr3 hc3 hr4 hc4 hsl hsn (by simpa using hk)

set_option maxRecDepth 100000 in
set_option maxHeartbeats 2000000 in
theorem StoreEncodes_calls (d t : ByteArray) (c a wt rt : Int) (A3 A4 : Option Addr) (c3 c4 : Nat) (ls : List S35) (ns : List S37) (w : World) (hr3 : Kd.C k35 w A3 ls.length ls) (hc3 : ls.length ≤ c3) (hr4 : Kd.C k37 w A4 ns.length ns) (hc4 : ns.length ≤ c4)
    (hd : d.size ≤ 140737488351232) (ht : t.size ≤ 140737488351232) (hc : c < 9223372036854775808) (ha : a < 9223372036854775808) (hrt : rt < 9223372036854775808) (hw0 : 0 ≤ wt) (hw1 : wt < 18446744073709551616) (hls : ∀ x ∈ ls, okL x) (hns : ∀ x ∈ ns, okN x)
    (hsl : (ls.map wtLf).sum ≤ 2097152) (hsn : (ns.map wtNd).sum ≤ 2097152) :
    Calls Try.prog 3 #[.string d, .string t, .agg #[.int .i64 c, .int .i64 a, .int .u64 wt, .slice A3 ls.length c3, .slice A4 ns.length c4, .int .i64 rt]] w fun e w' => e = .returned (.bool true) ∧ Below w.heap.size w w' := by
  have hll := len_sum wtLf (fun x => by unfold wtLf; omega) ls
  have hnl := len_sum wtNd (fun x => by unfold wtNd; omega) ns
  have HTW := Aside0.mk (twin_f c a wt rt ls ns (by omega) (by omega))
  have HSM := Aside0.mk (same_f c a wt rt ls ns (by omega) (by omega))
  have HST := Aside0.mk (Sum_f t ht)
  have HRT := Aside0.mk (rSum_f t ht)
  have HEN := Aside0.mk (fun A3 A4 c3 c4 w h1 h2 h3 h4 => Encode_calls d t c a wt rt A3 A4 c3 c4 ls ns w h1 h2 h3 h4 hd ht hc ha hrt hw0 hw1 hls hns hsl hsn)
  have HRE := Aside0.mk (fun A3 A4 c3 c4 w h1 h2 h3 h4 => rEncode_calls d t c a wt rt A3 A4 c3 c4 ls ns w h1 h2 h3 h4 hd ht hc ha hrt hw0 hw1 hls hns hsl hsn)
  obtain ⟨E, hE⟩ : ∃ E, encS d t c a wt rt ls ns = E := ⟨_, rfl⟩
  rw [hE] at HEN HRE
  have HC3 := Aside0.mk hr3
  have HC4 := Aside0.mk hr4
  have H3 := Aside0.mk hc3
  have H4 := Aside0.mk hc4
  have hba := below_alloc (Below.refl w.heap.size w) (.cells #[.int .i64 c, .int .i64 a, .int .u64 wt, .slice A3 ls.length c3, .slice A4 ns.length c4, .int .i64 rt] 28)
  have HBA := Aside0.mk hba
  have HRB := Aside0.mk (heap_alloc_new w (.cells #[.int .i64 c, .int .i64 a, .int .u64 wt, .slice A3 ls.length c3, .slice A4 ns.length c4, .int .i64 rt] 28))
  clear hll hnl hd ht hr3 hr4 hc3 hc4 hc ha hrt hls hns hsl hsn hw0 hw1 hE hba
  go_enter Try.func3, Try.ntmps3
  go_wp2_with fail
  refine (trellislaw33_twin.calls _ c a wt A3 c3 ls A4 c4 ns rt c a wt ls ns rt _ (Kd.C_below HC3.out HBA.out) H3.out (Kd.C_below HC4.out HBA.out) H4.out HTW.out).mono ?_
  rintro e w1 ⟨v3, v4, rfl, hR3, hR4, hB⟩
  obtain ⟨A5, c5, rfl, h5, hC5⟩ := Kd.R_reads hR3
  obtain ⟨A6, c6, rfl, h6, hC6⟩ := Kd.R_reads hR4
  have hba := below_alloc (Below.refl w1.heap.size w1) (.cells #[.int .i64 c, .int .i64 a, .int .u64 wt, .slice A5 ls.length c5, .slice A6 ns.length c6, .int .i64 rt] 28)
  have HR1 := Aside0.mk ((hba.block _ (blk_lt ((hB.block _ (blk_lt HRB.out)).trans HRB.out))).trans ((hB.block _ (blk_lt HRB.out)).trans HRB.out))
  have HS1 := Aside0.mk (heap_alloc_new w1 (.cells #[.int .i64 c, .int .i64 a, .int .u64 wt, .slice A5 ls.length c5, .slice A6 ns.length c6, .int .i64 rt] 28))
  have HB1 := Aside0.mk (below_then (below_then HBA.out HBA.out.size hB) (Nat.le_trans HBA.out.size hB.size) hba)
  have HC5 := Aside0.mk (Kd.C_below hC5 hba)
  have HC6 := Aside0.mk (Kd.C_below hC6 hba)
  have H5 := Aside0.mk h5
  have H6 := Aside0.mk h6
  have r1 := (hB.block _ (blk_lt HRB.out)).trans HRB.out
  have q0 : w1.cell? ⟨w.heap.size, 0, none⟩ = some (.int .i64 c) := (blk_cell r1 0).trans rfl
  have q1 : w1.cell? ⟨w.heap.size, 1, none⟩ = some (.int .i64 a) := (blk_cell r1 1).trans rfl
  have q2 : w1.cell? ⟨w.heap.size, 2, none⟩ = some (.int .u64 wt) := (blk_cell r1 2).trans rfl
  have q3 : w1.cell? ⟨w.heap.size, 3, none⟩ = some (.slice A3 ls.length c3) := (blk_cell r1 3).trans rfl
  have q4 : w1.cell? ⟨w.heap.size, 4, none⟩ = some (.slice A4 ns.length c4) := (blk_cell r1 4).trans rfl
  have q5 : w1.cell? ⟨w.heap.size, 5, none⟩ = some (.int .i64 rt) := (blk_cell r1 5).trans rfl
  replace q0 := far q0 (.cells #[.int .i64 c, .int .i64 a, .int .u64 wt, .slice A5 ls.length c5, .slice A6 ns.length c6, .int .i64 rt] 28)
  replace q1 := far q1 (.cells #[.int .i64 c, .int .i64 a, .int .u64 wt, .slice A5 ls.length c5, .slice A6 ns.length c6, .int .i64 rt] 28)
  replace q2 := far q2 (.cells #[.int .i64 c, .int .i64 a, .int .u64 wt, .slice A5 ls.length c5, .slice A6 ns.length c6, .int .i64 rt] 28)
  replace q3 := far q3 (.cells #[.int .i64 c, .int .i64 a, .int .u64 wt, .slice A5 ls.length c5, .slice A6 ns.length c6, .int .i64 rt] 28)
  replace q4 := far q4 (.cells #[.int .i64 c, .int .i64 a, .int .u64 wt, .slice A5 ls.length c5, .slice A6 ns.length c6, .int .i64 rt] 28)
  replace q5 := far q5 (.cells #[.int .i64 c, .int .i64 a, .int .u64 wt, .slice A5 ls.length c5, .slice A6 ns.length c6, .int .i64 rt] 28)
  clear hR3 hR4 hC5 hC6 h5 h6 hba r1 hB HRB HBA HTW
  have HBB := Aside0.mk (Below.refl w.heap.size w)
  go_wp2_with fail
  refine (HEN.out A3 A4 c3 c4 _ (Kd.C_below HC3.out HB1.out) H3.out (Kd.C_below HC4.out HB1.out) H4.out).mono ?_
  rintro e w2 ⟨rfl, hB⟩
  have r2 := (hB.block _ (blk_lt HR1.out)).trans HR1.out
  have s2 := (hB.block _ (blk_lt HS1.out)).trans HS1.out
  have HR2 := Aside0.mk r2
  have HS2 := Aside0.mk s2
  have HB2 := Aside0.mk (below_then HB1.out HB1.out.size hB)
  have HC5' := Aside0.mk (Kd.C_below HC5.out hB)
  have HC6' := Aside0.mk (Kd.C_below HC6.out hB)
  clear q0 q1 q2 q3 q4 q5
  have q0 : w2.cell? ⟨w1.heap.size, 0, none⟩ = some (.int .i64 c) := (blk_cell s2 0).trans rfl
  have q1 : w2.cell? ⟨w1.heap.size, 1, none⟩ = some (.int .i64 a) := (blk_cell s2 1).trans rfl
  have q2 : w2.cell? ⟨w1.heap.size, 2, none⟩ = some (.int .u64 wt) := (blk_cell s2 2).trans rfl
  have q3 : w2.cell? ⟨w1.heap.size, 3, none⟩ = some (.slice A5 ls.length c5) := (blk_cell s2 3).trans rfl
  have q4 : w2.cell? ⟨w1.heap.size, 4, none⟩ = some (.slice A6 ns.length c6) := (blk_cell s2 4).trans rfl
  have q5 : w2.cell? ⟨w1.heap.size, 5, none⟩ = some (.int .i64 rt) := (blk_cell s2 5).trans rfl
  clear r2 s2 hB HR1 HS1 HB1 HC5 HC6 HEN
  go_wp2_with fail
  refine (HRE.out A5 A6 c5 c6 _ HC5'.out H5.out HC6'.out H6.out).mono ?_
  rintro e w3 ⟨rfl, hB⟩
  have r3 := (hB.block _ (blk_lt HR2.out)).trans HR2.out
  have s3 := (hB.block _ (blk_lt HS2.out)).trans HS2.out
  have HB3 := Aside0.mk (below_then HB2.out HB2.out.size hB)
  have HC5 := Aside0.mk (Kd.C_below HC5'.out hB)
  have HC6 := Aside0.mk (Kd.C_below HC6'.out hB)
  clear q0 q1 q2 q3 q4 q5
  have q0 : w3.cell? ⟨w1.heap.size, 0, none⟩ = some (.int .i64 c) := (blk_cell s3 0).trans rfl
  have q1 : w3.cell? ⟨w1.heap.size, 1, none⟩ = some (.int .i64 a) := (blk_cell s3 1).trans rfl
  have q2 : w3.cell? ⟨w1.heap.size, 2, none⟩ = some (.int .u64 wt) := (blk_cell s3 2).trans rfl
  have q3 : w3.cell? ⟨w1.heap.size, 3, none⟩ = some (.slice A5 ls.length c5) := (blk_cell s3 3).trans rfl
  have q4 : w3.cell? ⟨w1.heap.size, 4, none⟩ = some (.slice A6 ns.length c6) := (blk_cell s3 4).trans rfl
  have q5 : w3.cell? ⟨w1.heap.size, 5, none⟩ = some (.int .i64 rt) := (blk_cell s3 5).trans rfl
  have p0 : w3.cell? ⟨w.heap.size, 0, none⟩ = some (.int .i64 c) := (blk_cell r3 0).trans rfl
  have p1 : w3.cell? ⟨w.heap.size, 1, none⟩ = some (.int .i64 a) := (blk_cell r3 1).trans rfl
  have p2 : w3.cell? ⟨w.heap.size, 2, none⟩ = some (.int .u64 wt) := (blk_cell r3 2).trans rfl
  have p3 : w3.cell? ⟨w.heap.size, 3, none⟩ = some (.slice A3 ls.length c3) := (blk_cell r3 3).trans rfl
  have p4 : w3.cell? ⟨w.heap.size, 4, none⟩ = some (.slice A4 ns.length c4) := (blk_cell r3 4).trans rfl
  have p5 : w3.cell? ⟨w.heap.size, 5, none⟩ = some (.int .i64 rt) := (blk_cell r3 5).trans rfl
  clear r3 s3 hB HR2 HS2 HB2 HC5' HC6' HRE
  go_wp2_with fail
  refine (trellislaw33_same.calls _ c a wt A3 c3 ls A4 c4 ns rt c a wt A5 c5 ls A6 c6 ns rt true _ (Kd.C_below HC3.out HB3.out) H3.out (Kd.C_below HC4.out HB3.out) H4.out HC5.out H5.out HC6.out H6.out HSM.out).mono ?_
  rintro e w4 ⟨rfl, hB⟩
  have HB4 := Aside0.mk (below_then HB3.out HB3.out.size hB)
  clear q0 q1 q2 q3 q4 q5 p0 p1 p2 p3 p4 p5 hB HB3 HC5 HC6 HSM
  go_wp2_with fail
  refine (store_Sum.calls _ _ _ _ HST.out).mono ?_
  rintro e w5 ⟨rfl, hD⟩
  have HB5 := Aside0.mk (below_then HB4.out HB4.out.size hD.below)
  clear hD HB4
  go_wp2_with fail
  refine (trellisref33_Sum.calls _ _ _ _ HRT.out).mono ?_
  rintro e w6 ⟨rfl, hD⟩
  have HB6 := Aside0.mk (below_then HB5.out HB5.out.size hD.below)
  clear hD HB5
  go_wp2
  go_ret
  exact ⟨rfl, HB6.out⟩
end Go.Proofs.Ytjgccbpdpnpfjaa.ST
