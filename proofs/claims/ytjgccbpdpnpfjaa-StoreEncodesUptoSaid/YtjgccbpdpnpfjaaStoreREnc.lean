/- The document's Encode: the walk. -/
import Derived.Test.YtjgccbpdpnpfjaaStoreEncPure
import Derived.Test.YtjgccbpdpnpfjaaSched
import Derived.Deep.DeepCutAuto
import Derived.BigQuiet
namespace Go.Proofs.Ytjgccbpdpnpfjaa.ST
open Go.RowKit Go.WideShapes Go.ChangeShapes Go.Proofs.YtjgccbpdpnpfjaaW.PrintWords Go.Proofs.YtjgccbpdpnpfjaaW.PrintLast Go.Proofs.YtjgccbpdpnpfjaaW.PrintMore Go.Proofs.Ytjgccbpdpnpfjaa.PAll Go.Proofs.Ytjgccbpdpnpfjaa.Sched
set_option linter.unusedVariables false
attribute [local go_sem] calmAt calmUpon

theorem cat_le {a b : List Int} (h : (a ++ b).length ≤ 1000000000) : ¬ 9223372036854775807 < (strOfNums a).size + (strOfNums b).size := by
  rw [List.length_append] at h
  rw [strOfNums_size, strOfNums_size]
  omega
theorem len_num {xs : List Int} {N : Nat} (z : Int) (h : xs.length ≤ N) : (xs ++ numL z).length ≤ N + 11 := len_cnt _ h
theorem lit_reads {w : World} {g : Nat} (hg : w.heap[g]? = some (.cells #[.int .u8 83, .int .u8 1] 5 (0, 0))) : ReadsInt w .u8 (some ⟨g, 0, none⟩) 2 [83, 1] := by
  refine ⟨rfl, by omega, fun _ => ⟨_, rfl, fun j hj => ?_⟩⟩
  rw [Go.Proofs.YtjgccbpdpnpfjaaW.PrintWords.add_plain, blk_cell hg j]
  match j, hj with
  | 0, _ => rfl
  | 1, _ => rfl

theorem one_reads {w : World} {g : Nat} {z : Int} (hg : w.heap[g]? = some (.cells #[.int .u8 z] 5 (0, 0))) : ReadsInt w .u8 (some ⟨g, 0, none⟩) 1 [z] := by
  refine ⟨rfl, by omega, fun _ => ⟨_, rfl, fun j hj => ?_⟩⟩
  rw [Go.Proofs.YtjgccbpdpnpfjaaW.PrintWords.add_plain, blk_cell hg j]
  match j, hj with
  | 0, _ => rfl

set_option maxRecDepth 100000 in
set_option maxHeartbeats 4000000 in
theorem rEncode_yes (d t : ByteArray) (c a wt rt : Int) (A3 A4 : Option Addr) (c3 c4 : Nat) (ls : List S35) (ns : List S37) (w : World) (hr3 : Kd.C k35 w A3 ls.length ls) (hc3 : ls.length ≤ c3) (hr4 : Kd.C k37 w A4 ns.length ns) (hc4 : ns.length ≤ c4)
    (hd : d.size ≤ 140737488351232) (ht : t.size ≤ 140737488351232) (hc : c < 9223372036854775808) (ha : a < 9223372036854775808) (hrt : rt < 9223372036854775808) (hw0 : 0 ≤ wt) (hw1 : wt < 18446744073709551616) (hls : ∀ x ∈ ls, okL x) (hns : ∀ x ∈ ns, okN x)
    (hsl : (ls.map wtLf).sum ≤ 2097152) (hsn : (ns.map wtNd).sum ≤ 2097152) (hk : keptB c a rt ls ns = true) :
    Calls Try.prog 6 #[.string d, .string t, .agg #[.int .i64 c, .int .i64 a, .int .u64 wt, .slice A3 ls.length c3, .slice A4 ns.length c4, .int .i64 rt]] w fun e w' => e = .returned (.string (strOfNums (encL d t c a wt rt ls ns))) ∧ Below w.heap.size w w' := by
  have hll := len_sum wtLf (fun x => by unfold wtLf; omega) ls
  have hnl := len_sum wtNd (fun x => by unfold wtNd; omega) ns
  have HKF := Aside0.mk (rkept_f c a wt rt ls ns (by omega) (by omega))
  rw [hk] at HKF
  obtain ⟨k0, k1, k2, k3, k4⟩ := kept_all hk
  have HD := Aside0.mk (rSum_f d hd)
  have HT := Aside0.mk (rSum_f t ht)
  have HDW := Aside0.mk (rword_f (sumS d) (sumS_lt d))
  have HTW := Aside0.mk (rword_f (sumS t) (sumS_lt t))
  have HC3 := Aside0.mk hr3
  have HC4 := Aside0.mk hr4
  have H3 := Aside0.mk hc3
  have H4 := Aside0.mk hc4
  have HNC := Aside0.mk (rnum_f c k0 hc)
  have HNA := Aside0.mk (rnum_f a k1 ha)
  have HNR := Aside0.mk (rnum_f rt k2 hrt)
  have HN3 := Aside0.mk (rnum_f (ls.length : Int) (by omega) (by omega))
  have HN4 := Aside0.mk (rnum_f (ns.length : Int) (by omega) (by omega))
  have HLS := Aside0.mk (show ∀ x ∈ ls, okL x ∧ 0 ≤ x.f0 ∧ 0 ≤ x.f1 ∧ 0 ≤ x.f2 ∧ 0 ≤ x.f3 from fun x hx => ⟨hls x hx, k3 x hx⟩)
  have HNS := Aside0.mk (show ∀ x ∈ ns, okN x ∧ 0 ≤ x.f3 ∧ 0 ≤ x.f4 ∧ 0 ≤ x.f5 ∧ -1 ≤ x.f6 ∧ x.f6 < 9223372036854775807 from fun x hx => ⟨hns x hx, k4 x hx⟩)
  have HSL := Aside0.mk hsl
  have HSN := Aside0.mk hsn
  have HLL := Aside0.mk (show ls.length ≤ 2097152 by omega)
  have HNL := Aside0.mk (show ns.length ≤ 2097152 by omega)
  obtain ⟨m, rfl⟩ := Int.eq_ofNat_of_zero_le hw0
  have HMW := Aside0.mk (rword_f m (by omega))
  have HM := Aside0.mk (Int.toNat_natCast m)
  clear hll hnl hk k0 k1 k2 k3 k4 hd ht hr3 hr4 hc3 hc4 hc ha hrt hls hns hsl hsn hw0 hw1
  have hba := below_alloc (Below.refl w.heap.size w) (.cells #[.int .i64 c, .int .i64 a, .int .u64 (m : Int), .slice A3 ls.length c3, .slice A4 ns.length c4, .int .i64 rt] 28)
  have HBA := Aside0.mk hba
  have HRB := Aside0.mk (heap_alloc_new w (.cells #[.int .i64 c, .int .i64 a, .int .u64 (m : Int), .slice A3 ls.length c3, .slice A4 ns.length c4, .int .i64 rt] 28))
  clear hba
  go_enter Try.func6, Try.ntmps6
  go_wp2_with fail
  refine (trellisref33_Kept.calls _ c a m A3 c3 ls A4 c4 ns rt true _ (Kd.C_below HC3.out HBA.out) H3.out (Kd.C_below HC4.out HBA.out) H4.out HKF.out).mono ?_
  rintro e w1 ⟨rfl, hB⟩
  have HR1 := Aside0.mk ((hB.block _ (blk_lt HRB.out)).trans HRB.out)
  have HB1 := Aside0.mk (below_then HBA.out HBA.out.size hB)
  clear hB HBA HRB HKF
  go_wp2_with fail
  go_cut [7] (fun v wx => v = .string (strOfNums (headL d t c a m rt ls.length)) ∧ Below w1.heap.size w1 wx)
  case first =>
    have Q : ∀ w', Below w1.heap.size w1 w' → w'.cell? ⟨w.heap.size, 0, none⟩ = some (.int .i64 c) ∧ w'.cell? ⟨w.heap.size, 1, none⟩ = some (.int .i64 a) ∧ w'.cell? ⟨w.heap.size, 2, none⟩ = some (.int .u64 (m : Int)) ∧ w'.cell? ⟨w.heap.size, 3, none⟩ = some (.slice A3 ls.length c3) ∧ w'.cell? ⟨w.heap.size, 5, none⟩ = some (.int .i64 rt) := fun w' hb =>
      have h := (hb.block _ (blk_lt HR1.out)).trans HR1.out
      ⟨(blk_cell h 0).trans rfl, (blk_cell h 1).trans rfl, (blk_cell h 2).trans rfl, (blk_cell h 3).trans rfl, (blk_cell h 5).trans rfl⟩
    have HQ := Aside0.mk Q
    clear Q
    obtain ⟨s0, hs0⟩ : ∃ s0, ([83, 1] : List Int) = s0 := ⟨_, rfl⟩
    have HX0 : Aside0 (s0.length ≤ 2) := ⟨by rw [← hs0]; simp⟩
    have HS0 := Aside0.mk hs0
    clear hs0
    refine wp_region_run (by kernel_rfl) (by kernel_rfl) ?_
    refine Run.step (fun K hK => Good.fresh 16 (fun x w' => ∃ g, x = .slice (some ⟨g, 0, none⟩) 2 2 ∧ w'.heap[g]? = some (.cells #[.int .u8 83, .int .u8 1] 5 (0, 0))) rfl rfl (by simp) ?_ ?_ ?_)
    · rintro x w' w'' ⟨g, rfl, hg⟩ hb
      exact ⟨g, rfl, (hb.block _ (blk_lt hg)).trans hg⟩
    · intro w' hw'
      go_simp
      exact ⟨_, _, ⟨rfl, rfl⟩, below_alloc (Below.refl _ _) _, w'.heap.size, rfl, heap_alloc_new w' _⟩
    · go_simp
      refine hK _ _ ?_
      clear hK K
      refine Run.step (fun K hK => Good.look 16 _ (List.mem_singleton.2 rfl) rfl (on_one (by kernel_rfl)) but_one ?_)
      apply Exists.intro
      refine ⟨?_, ?_⟩
      · rintro x w' hw' ⟨g, rfl, hg⟩
        have hcs := string_of_reads (src := 40) (dst := 9) (c := 2) Try.underlying40 Try.underlying5 Try.underlying9 (lit_reads hg)
        rw [HS0.out] at hcs
        go_simp
        exact rfl
      go_simp
      refine hK _ _ ?_
      clear hK K
      refine Run.step (fun K hK => Good.fix (off_one (by kernel_rfl)) ?_)
      apply Exists.intro
      refine ⟨fun w' hw' => ?_, ?_⟩
      · go_simp
        exact rfl
      go_simp
      refine hK _ _ ?_
      clear hK K
      refine Run.step (fun K hK => Good.fix (off_one (by kernel_rfl)) ?_)
      apply Exists.intro
      refine ⟨fun w' hw' => ?_, ?_⟩
      · go_simp
        exact (trellisref33_Sum.calls _ _ _ _ HD.out).mono fun e w'' ⟨he, hb⟩ => ⟨he, hb.below⟩
      go_simp
      refine hK _ _ ?_
      clear hK K
      refine Run.step (fun K hK => Good.fix (off_one (by kernel_rfl)) ?_)
      apply Exists.intro
      refine ⟨fun w' hw' => ?_, ?_⟩
      · go_simp
        exact trellisref33_word.calls _ _ _ _ HDW.out
      go_simp
      refine hK _ _ ?_
      clear hK K
      obtain ⟨s1, hs1⟩ : ∃ s1, s0 ++ wordL (sumS d) = s1 := ⟨_, rfl⟩
      have HX1 := Aside0.mk (len_word (sumS d) HX0.out)
      rw [hs1] at HX1
      have HS1 := Aside0.mk hs1
      clear hs1
      refine Run.step (fun K hK => Good.fix (off_one (by kernel_rfl)) ⟨.string (strOfNums s1), fun w' hw' => ?_, ?_⟩)
      · go_simp
        rw [if_neg (cat_le (by rw [HS1.out]; have := HX1.out; omega))]
        exact ⟨rfl, by rw [← str_append, HS1.out]⟩
      go_simp
      refine hK _ _ ?_
      clear hK K
      refine Run.step (fun K hK => Good.fix (off_one (by kernel_rfl)) ?_)
      apply Exists.intro
      refine ⟨fun w' hw' => ?_, ?_⟩
      · go_simp
        exact rfl
      go_simp
      refine hK _ _ ?_
      clear hK K
      refine Run.step (fun K hK => Good.fix (off_one (by kernel_rfl)) ?_)
      apply Exists.intro
      refine ⟨fun w' hw' => ?_, ?_⟩
      · go_simp
        exact (trellisref33_Sum.calls _ _ _ _ HT.out).mono fun e w'' ⟨he, hb⟩ => ⟨he, hb.below⟩
      go_simp
      refine hK _ _ ?_
      clear hK K
      refine Run.step (fun K hK => Good.fix (off_one (by kernel_rfl)) ?_)
      apply Exists.intro
      refine ⟨fun w' hw' => ?_, ?_⟩
      · go_simp
        exact trellisref33_word.calls _ _ _ _ HTW.out
      go_simp
      refine hK _ _ ?_
      clear hK K
      obtain ⟨s2, hs2⟩ : ∃ s2, s1 ++ wordL (sumS t) = s2 := ⟨_, rfl⟩
      have HX2 := Aside0.mk (len_word (sumS t) HX1.out)
      rw [hs2] at HX2
      have HS2 := Aside0.mk hs2
      clear hs2
      refine Run.step (fun K hK => Good.fix (off_one (by kernel_rfl)) ⟨.string (strOfNums s2), fun w' hw' => ?_, ?_⟩)
      · go_simp
        rw [if_neg (cat_le (by rw [HS2.out]; have := HX2.out; omega))]
        exact ⟨rfl, by rw [← str_append, HS2.out]⟩
      go_simp
      refine hK _ _ ?_
      clear hK K
      refine Run.step (fun K hK => Good.fix (off_one (by kernel_rfl)) ?_)
      apply Exists.intro
      refine ⟨fun w' hw' => ?_, ?_⟩
      · go_simp
        exact rfl
      go_simp
      refine hK _ _ ?_
      clear hK K
      refine Run.step (fun K hK => Good.fix (off_one (by kernel_rfl)) ?_)
      apply Exists.intro
      refine ⟨fun w' hw' => ?_, ?_⟩
      · obtain ⟨q0, q1, q2, q3, q5⟩ := HQ.out w' hw'
        go_simp
        exact rfl
      go_simp
      refine hK _ _ ?_
      clear hK K
      refine Run.step (fun K hK => Good.fix (off_one (by kernel_rfl)) ?_)
      apply Exists.intro
      refine ⟨fun w' hw' => ?_, ?_⟩
      · go_simp
        exact trellisref33_num.calls _ _ _ _ HNC.out
      go_simp
      refine hK _ _ ?_
      clear hK K
      obtain ⟨s3, hs3⟩ : ∃ s3, s2 ++ numL c = s3 := ⟨_, rfl⟩
      have HX3 := Aside0.mk (len_num c HX2.out)
      rw [hs3] at HX3
      have HS3 := Aside0.mk hs3
      clear hs3
      refine Run.step (fun K hK => Good.fix (off_one (by kernel_rfl)) ⟨.string (strOfNums s3), fun w' hw' => ?_, ?_⟩)
      · go_simp
        rw [if_neg (cat_le (by rw [HS3.out]; have := HX3.out; omega))]
        exact ⟨rfl, by rw [← str_append, HS3.out]⟩
      go_simp
      refine hK _ _ ?_
      clear hK K
      refine Run.step (fun K hK => Good.fix (off_one (by kernel_rfl)) ?_)
      apply Exists.intro
      refine ⟨fun w' hw' => ?_, ?_⟩
      · go_simp
        exact rfl
      go_simp
      refine hK _ _ ?_
      clear hK K
      refine Run.step (fun K hK => Good.fix (off_one (by kernel_rfl)) ?_)
      apply Exists.intro
      refine ⟨fun w' hw' => ?_, ?_⟩
      · obtain ⟨q0, q1, q2, q3, q5⟩ := HQ.out w' hw'
        go_simp
        exact rfl
      go_simp
      refine hK _ _ ?_
      clear hK K
      refine Run.step (fun K hK => Good.fix (off_one (by kernel_rfl)) ?_)
      apply Exists.intro
      refine ⟨fun w' hw' => ?_, ?_⟩
      · go_simp
        exact trellisref33_num.calls _ _ _ _ HNA.out
      go_simp
      refine hK _ _ ?_
      clear hK K
      obtain ⟨s4, hs4⟩ : ∃ s4, s3 ++ numL a = s4 := ⟨_, rfl⟩
      have HX4 := Aside0.mk (len_num a HX3.out)
      rw [hs4] at HX4
      have HS4 := Aside0.mk hs4
      clear hs4
      refine Run.step (fun K hK => Good.fix (off_one (by kernel_rfl)) ⟨.string (strOfNums s4), fun w' hw' => ?_, ?_⟩)
      · go_simp
        rw [if_neg (cat_le (by rw [HS4.out]; have := HX4.out; omega))]
        exact ⟨rfl, by rw [← str_append, HS4.out]⟩
      go_simp
      refine hK _ _ ?_
      clear hK K
      refine Run.step (fun K hK => Good.fix (off_one (by kernel_rfl)) ?_)
      apply Exists.intro
      refine ⟨fun w' hw' => ?_, ?_⟩
      · go_simp
        exact rfl
      go_simp
      refine hK _ _ ?_
      clear hK K
      refine Run.step (fun K hK => Good.fix (off_one (by kernel_rfl)) ?_)
      apply Exists.intro
      refine ⟨fun w' hw' => ?_, ?_⟩
      · obtain ⟨q0, q1, q2, q3, q5⟩ := HQ.out w' hw'
        go_simp
        exact rfl
      go_simp
      refine hK _ _ ?_
      clear hK K
      refine Run.step (fun K hK => Good.fix (off_one (by kernel_rfl)) ?_)
      apply Exists.intro
      refine ⟨fun w' hw' => ?_, ?_⟩
      · go_simp
        exact trellisref33_num.calls _ _ _ _ HNR.out
      go_simp
      refine hK _ _ ?_
      clear hK K
      obtain ⟨s5, hs5⟩ : ∃ s5, s4 ++ numL rt = s5 := ⟨_, rfl⟩
      have HX5 := Aside0.mk (len_num rt HX4.out)
      rw [hs5] at HX5
      have HS5 := Aside0.mk hs5
      clear hs5
      refine Run.step (fun K hK => Good.fix (off_one (by kernel_rfl)) ⟨.string (strOfNums s5), fun w' hw' => ?_, ?_⟩)
      · go_simp
        rw [if_neg (cat_le (by rw [HS5.out]; have := HX5.out; omega))]
        exact ⟨rfl, by rw [← str_append, HS5.out]⟩
      go_simp
      refine hK _ _ ?_
      clear hK K
      refine Run.step (fun K hK => Good.fix (off_one (by kernel_rfl)) ?_)
      apply Exists.intro
      refine ⟨fun w' hw' => ?_, ?_⟩
      · go_simp
        exact rfl
      go_simp
      refine hK _ _ ?_
      clear hK K
      refine Run.step (fun K hK => Good.fix (off_one (by kernel_rfl)) ?_)
      apply Exists.intro
      refine ⟨fun w' hw' => ?_, ?_⟩
      · obtain ⟨q0, q1, q2, q3, q5⟩ := HQ.out w' hw'
        go_simp
        exact rfl
      go_simp
      refine hK _ _ ?_
      clear hK K
      refine Run.step (fun K hK => Good.fix (off_one (by kernel_rfl)) ?_)
      apply Exists.intro
      refine ⟨fun w' hw' => ?_, ?_⟩
      · go_simp
        exact trellisref33_word.calls _ _ _ _ HMW.out
      go_simp
      refine hK _ _ ?_
      clear hK K
      obtain ⟨s6, hs6⟩ : ∃ s6, s5 ++ wordL m = s6 := ⟨_, rfl⟩
      have HX6 := Aside0.mk (len_word m HX5.out)
      rw [hs6] at HX6
      have HS6 := Aside0.mk hs6
      clear hs6
      refine Run.step (fun K hK => Good.fix (off_one (by kernel_rfl)) ⟨.string (strOfNums s6), fun w' hw' => ?_, ?_⟩)
      · go_simp
        rw [if_neg (cat_le (by rw [HS6.out]; have := HX6.out; omega))]
        exact ⟨rfl, by rw [← str_append, HS6.out]⟩
      go_simp
      refine hK _ _ ?_
      clear hK K
      refine Run.step (fun K hK => Good.fix (off_one (by kernel_rfl)) ?_)
      apply Exists.intro
      refine ⟨fun w' hw' => ?_, ?_⟩
      · go_simp
        exact rfl
      go_simp
      refine hK _ _ ?_
      clear hK K
      refine Run.step (fun K hK => Good.fix (off_one (by kernel_rfl)) ?_)
      apply Exists.intro
      refine ⟨fun w' hw' => ?_, ?_⟩
      · obtain ⟨q0, q1, q2, q3, q5⟩ := HQ.out w' hw'
        go_simp
        exact rfl
      go_simp
      refine hK _ _ ?_
      clear hK K
      refine Run.step (fun K hK => Good.fix (off_one (by kernel_rfl)) ?_)
      apply Exists.intro
      refine ⟨fun w' hw' => ?_, ?_⟩
      · go_simp
        exact rfl
      go_simp
      refine hK _ _ ?_
      clear hK K
      refine Run.step (fun K hK => Good.fix (off_one (by kernel_rfl)) ?_)
      apply Exists.intro
      refine ⟨fun w' hw' => ?_, ?_⟩
      · go_simp
        exact trellisref33_num.calls _ _ _ _ HN3.out
      go_simp
      refine hK _ _ ?_
      clear hK K
      obtain ⟨s7, hs7⟩ : ∃ s7, s6 ++ numL (ls.length : Int) = s7 := ⟨_, rfl⟩
      have HX7 := Aside0.mk (len_num (ls.length : Int) HX6.out)
      rw [hs7] at HX7
      have HS7 := Aside0.mk hs7
      clear hs7
      refine Run.step (fun K hK => Good.fix (off_one (by kernel_rfl)) ⟨.string (strOfNums s7), fun w' hw' => ?_, ?_⟩)
      · go_simp
        rw [if_neg (cat_le (by rw [HS7.out]; have := HX7.out; omega))]
        exact ⟨rfl, by rw [← str_append, HS7.out]⟩
      go_simp
      refine hK _ _ ?_
      clear hK K
      refine Run.step (fun K hK => Good.fix (off_one (by kernel_rfl)) ?_)
      apply Exists.intro
      refine ⟨fun w' hw' => ?_, ?_⟩
      · go_simp
        exact rfl
      go_simp
      refine hK _ _ ?_
      clear hK K
      refine Run.nil ?_
      intro b w' hb hf
      obtain ⟨x, _, rfl⟩ := hf.one
      have HBX := Aside0.mk hb
      clear hb hf
      go_wp2
      go_meet
      case rel => exact ⟨by unfold headL; rw [HM.out, ← HS7.out, ← HS6.out, ← HS5.out, ← HS4.out, ← HS3.out, ← HS2.out, ← HS1.out, ← HS0.out]; simp, HBX.out⟩
  case rest =>
  obtain ⟨rfl, hB⟩ := hcut
  have HR := Aside0.mk ((hB.block _ (blk_lt HR1.out)).trans HR1.out)
  have HB := Aside0.mk (below_then HB1.out HB1.out.size hB)
  clear hB HR1 HB1
  have HP0 : Aside0 (headL d t c a m rt ls.length = preL d t c a m rt ls 0) := ⟨by unfold preL; simp⟩
  rw [HP0.out]
  go_wp2_with fail
  go_loopw [7, 8, 9] (fun v7 v8 v9 wr => ∃ i : Nat, v7 = .string (strOfNums (preL d t c a m rt ls i)) ∧ v8 = .int .i64 (i : Int) ∧ i ≤ ls.length ∧ Aside0 (wr.heap[w.heap.size]? = some (.cells #[.int .i64 c, .int .i64 a, .int .u64 (m : Int), .slice A3 ls.length c3, .slice A4 ns.length c4, .int .i64 rt] 28 (0, 0))) ∧ Aside0 (Below w.heap.size w wr)) (fun _ v8 _ _ => ls.length - (intOf v8).toNat)
  case atStart => exact ⟨0, rfl, rfl, by omega, HR, HB⟩
  case round =>
    obtain ⟨i, rfl, rfl, hi, HR2, HB2⟩ := hrel
    clear HR HB HP0
    have hll := HLL.out
    have hr2 := HR2.out
    have q3 : wr.cell? ⟨w.heap.size, 3, none⟩ = some (.slice A3 ls.length c3) := (blk_cell hr2 3).trans rfl
    clear hr2
    by_cases h : i < ls.length
    · have d1 : decide ((i : Int) < (ls.length : Int)) = true := decide_eq_true (by omega)
      have d2 : decide (i < ls.length) = true := decide_eq_true h
      have d3 : (i : Int) < (ls.length : Int) := by omega
      obtain ⟨ad, hA, z0, z1, z2, z3, z4, z5⟩ := at_T35 (Kd.C_below HC3.out HB2.out) (i : Int) (by omega) (by omega)
      have hok := HLS.out ls[i] (List.getElem_mem h)
      have hwt := mem_sum wtLf ls i h
      have hsx := preL_succ d t c a m rt ls i h
      rw [rdL ls i h, Int.toNat_natCast] at z0 z1 z2 z3 z4 z5
      obtain ⟨x, hx⟩ : ∃ x, ls[i] = x := ⟨_, rfl⟩
      rw [hx] at z0 z1 z2 z3 z4 z5 hok hwt hsx
      obtain ⟨x0, x1, x2, x3, x4, x5⟩ := x
      simp only at z0 z1 z2 z3 z4 z5 hsx
      obtain ⟨⟨o0, o1, o2, o3, o4, o5⟩, o6, o7, o8, o9⟩ := hok
      simp only at o0 o1 o2 o3 o4 o5 o6 o7 o8 o9
      subst hA
      obtain ⟨y4, rfl⟩ := Int.eq_ofNat_of_zero_le o4
      rw [Int.toNat_natCast] at hsx
      obtain ⟨s0, hs0⟩ : ∃ s0, preL d t c a m rt ls i = s0 := ⟨_, rfl⟩
      have hx0 := preL_len d t c a m rt ls i HSL.out
      rw [hs0] at hsx hx0
      rw [hs0]
      have HSX := Aside0.mk hsx
      have HX0 := Aside0.mk hx0
      have HN0' := Aside0.mk (rnum_f x0 o6 o0)
      have HN1' := Aside0.mk (rnum_f x1 o7 o1)
      have HN2' := Aside0.mk (rnum_f x2 o8 o2)
      have HN3' := Aside0.mk (rnum_f x3 o9 o3)
      have HW4' := Aside0.mk (rword_f y4 (by omega))
      have HZ5 := Aside0.mk (show x5.size ≤ 2097152 by have := HSL.out; have hw2 : x5.size + 1 ≤ (ls.map wtLf).sum := hwt; omega)
      have HT5' := Aside0.mk (rtext_f x5 (by have := HZ5.out; omega))
      clear hsx hx0 hs0 o0 o1 o2 o3 o4 o5 o6 o7 o8 o9 hwt hx
      go_upto_region 8 with fail
      have hba := below_alloc (Below.refl wr.heap.size wr) (.cells #[.int .i64 x0, .int .i64 x1, .int .i64 x2, .int .i64 x3, .int .u64 (y4 : Int), .string x5] 35)
      have hen := heap_alloc_new wr (.cells #[.int .i64 x0, .int .i64 x1, .int .i64 x2, .int .i64 x3, .int .u64 (y4 : Int), .string x5] 35)
      have HR3 := Aside0.mk ((hba.block _ (blk_lt HR2.out)).trans HR2.out)
      have HB3 := Aside0.mk (below_then HB2.out HB2.out.size hba)
      obtain ⟨w3, hw3⟩ : ∃ w3, wr.alloc (.cells #[.int .i64 x0, .int .i64 x1, .int .i64 x2, .int .i64 x3, .int .u64 (y4 : Int), .string x5] 35) = w3 := ⟨_, rfl⟩
      obtain ⟨bl, hbl⟩ : ∃ bl, wr.heap.size = bl := ⟨_, rfl⟩
      rw [hw3] at HR3 HB3 hen ⊢
      rw [hbl] at hen ⊢
      have HE3 := Aside0.mk hen
      clear hba hen hw3 hbl HR2 HB2
      have Q : ∀ w', Below w3.heap.size w3 w' → w'.cell? ⟨bl, 0, none⟩ = some (Value.int .i64 x0) ∧ w'.cell? ⟨bl, 1, none⟩ = some (Value.int .i64 x1) ∧ w'.cell? ⟨bl, 2, none⟩ = some (Value.int .i64 x2) ∧ w'.cell? ⟨bl, 3, none⟩ = some (Value.int .i64 x3) ∧ w'.cell? ⟨bl, 4, none⟩ = some (Value.int .u64 (y4 : Int)) ∧ w'.cell? ⟨bl, 5, none⟩ = some (Value.string x5) := fun w' hb =>
        have h := (hb.block _ (blk_lt HE3.out)).trans HE3.out
        ⟨(blk_cell h 0).trans rfl, (blk_cell h 1).trans rfl, (blk_cell h 2).trans rfl, (blk_cell h 3).trans rfl, (blk_cell h 4).trans rfl, (blk_cell h 5).trans rfl⟩
      have HQ := Aside0.mk Q
      clear Q
      refine wp_region_run (by kernel_rfl) (by kernel_rfl) ?_
      refine Run.step (fun K hK => Good.fix off_nil ?_)
      apply Exists.intro
      refine ⟨fun w' hw' => ?_, ?_⟩
      · go_simp
        exact rfl
      go_simp
      refine hK _ _ ?_
      clear hK K
      refine Run.step (fun K hK => Good.fix off_nil ?_)
      apply Exists.intro
      refine ⟨fun w' hw' => ?_, ?_⟩
      · go_simp
        exact rfl
      go_simp
      refine hK _ _ ?_
      clear hK K
      refine Run.step (fun K hK => Good.fix off_nil ?_)
      apply Exists.intro
      refine ⟨fun w' hw' => ?_, ?_⟩
      · obtain ⟨p0, p1, p2, p3, p4, p5⟩ := HQ.out w' hw'
        go_simp
        exact rfl
      go_simp
      refine hK _ _ ?_
      clear hK K
      refine Run.step (fun K hK => Good.fix off_nil ?_)
      apply Exists.intro
      refine ⟨fun w' hw' => ?_, ?_⟩
      · go_simp
        exact trellisref33_num.calls _ _ _ _ HN0'.out
      go_simp
      refine hK _ _ ?_
      clear hK K
      obtain ⟨s1, hs1⟩ : ∃ s1, s0 ++ numL x0 = s1 := ⟨_, rfl⟩
      have HX1 := Aside0.mk (len_num x0 HX0.out)
      rw [hs1] at HX1
      have HS1 := Aside0.mk hs1
      clear hs1
      refine Run.step (fun K hK => Good.fix off_nil ⟨.string (strOfNums s1), fun w' hw' => ?_, ?_⟩)
      · go_simp
        rw [if_neg (cat_le (by rw [HS1.out]; have := HX1.out; omega))]
        exact ⟨rfl, by rw [← str_append, HS1.out]⟩
      go_simp
      refine hK _ _ ?_
      clear hK K
      refine Run.step (fun K hK => Good.fix off_nil ?_)
      apply Exists.intro
      refine ⟨fun w' hw' => ?_, ?_⟩
      · go_simp
        exact rfl
      go_simp
      refine hK _ _ ?_
      clear hK K
      refine Run.step (fun K hK => Good.fix off_nil ?_)
      apply Exists.intro
      refine ⟨fun w' hw' => ?_, ?_⟩
      · obtain ⟨p0, p1, p2, p3, p4, p5⟩ := HQ.out w' hw'
        go_simp
        exact rfl
      go_simp
      refine hK _ _ ?_
      clear hK K
      refine Run.step (fun K hK => Good.fix off_nil ?_)
      apply Exists.intro
      refine ⟨fun w' hw' => ?_, ?_⟩
      · go_simp
        exact trellisref33_num.calls _ _ _ _ HN1'.out
      go_simp
      refine hK _ _ ?_
      clear hK K
      obtain ⟨s2, hs2⟩ : ∃ s2, s1 ++ numL x1 = s2 := ⟨_, rfl⟩
      have HX2 := Aside0.mk (len_num x1 HX1.out)
      rw [hs2] at HX2
      have HS2 := Aside0.mk hs2
      clear hs2
      refine Run.step (fun K hK => Good.fix off_nil ⟨.string (strOfNums s2), fun w' hw' => ?_, ?_⟩)
      · go_simp
        rw [if_neg (cat_le (by rw [HS2.out]; have := HX2.out; omega))]
        exact ⟨rfl, by rw [← str_append, HS2.out]⟩
      go_simp
      refine hK _ _ ?_
      clear hK K
      refine Run.step (fun K hK => Good.fix off_nil ?_)
      apply Exists.intro
      refine ⟨fun w' hw' => ?_, ?_⟩
      · go_simp
        exact rfl
      go_simp
      refine hK _ _ ?_
      clear hK K
      refine Run.step (fun K hK => Good.fix off_nil ?_)
      apply Exists.intro
      refine ⟨fun w' hw' => ?_, ?_⟩
      · obtain ⟨p0, p1, p2, p3, p4, p5⟩ := HQ.out w' hw'
        go_simp
        exact rfl
      go_simp
      refine hK _ _ ?_
      clear hK K
      refine Run.step (fun K hK => Good.fix off_nil ?_)
      apply Exists.intro
      refine ⟨fun w' hw' => ?_, ?_⟩
      · go_simp
        exact trellisref33_num.calls _ _ _ _ HN2'.out
      go_simp
      refine hK _ _ ?_
      clear hK K
      obtain ⟨s3, hs3⟩ : ∃ s3, s2 ++ numL x2 = s3 := ⟨_, rfl⟩
      have HX3 := Aside0.mk (len_num x2 HX2.out)
      rw [hs3] at HX3
      have HS3 := Aside0.mk hs3
      clear hs3
      refine Run.step (fun K hK => Good.fix off_nil ⟨.string (strOfNums s3), fun w' hw' => ?_, ?_⟩)
      · go_simp
        rw [if_neg (cat_le (by rw [HS3.out]; have := HX3.out; omega))]
        exact ⟨rfl, by rw [← str_append, HS3.out]⟩
      go_simp
      refine hK _ _ ?_
      clear hK K
      refine Run.step (fun K hK => Good.fix off_nil ?_)
      apply Exists.intro
      refine ⟨fun w' hw' => ?_, ?_⟩
      · go_simp
        exact rfl
      go_simp
      refine hK _ _ ?_
      clear hK K
      refine Run.step (fun K hK => Good.fix off_nil ?_)
      apply Exists.intro
      refine ⟨fun w' hw' => ?_, ?_⟩
      · obtain ⟨p0, p1, p2, p3, p4, p5⟩ := HQ.out w' hw'
        go_simp
        exact rfl
      go_simp
      refine hK _ _ ?_
      clear hK K
      refine Run.step (fun K hK => Good.fix off_nil ?_)
      apply Exists.intro
      refine ⟨fun w' hw' => ?_, ?_⟩
      · go_simp
        exact trellisref33_num.calls _ _ _ _ HN3'.out
      go_simp
      refine hK _ _ ?_
      clear hK K
      obtain ⟨s4, hs4⟩ : ∃ s4, s3 ++ numL x3 = s4 := ⟨_, rfl⟩
      have HX4 := Aside0.mk (len_num x3 HX3.out)
      rw [hs4] at HX4
      have HS4 := Aside0.mk hs4
      clear hs4
      refine Run.step (fun K hK => Good.fix off_nil ⟨.string (strOfNums s4), fun w' hw' => ?_, ?_⟩)
      · go_simp
        rw [if_neg (cat_le (by rw [HS4.out]; have := HX4.out; omega))]
        exact ⟨rfl, by rw [← str_append, HS4.out]⟩
      go_simp
      refine hK _ _ ?_
      clear hK K
      refine Run.step (fun K hK => Good.fix off_nil ?_)
      apply Exists.intro
      refine ⟨fun w' hw' => ?_, ?_⟩
      · go_simp
        exact rfl
      go_simp
      refine hK _ _ ?_
      clear hK K
      refine Run.step (fun K hK => Good.fix off_nil ?_)
      apply Exists.intro
      refine ⟨fun w' hw' => ?_, ?_⟩
      · obtain ⟨p0, p1, p2, p3, p4, p5⟩ := HQ.out w' hw'
        go_simp
        exact rfl
      go_simp
      refine hK _ _ ?_
      clear hK K
      refine Run.step (fun K hK => Good.fix off_nil ?_)
      apply Exists.intro
      refine ⟨fun w' hw' => ?_, ?_⟩
      · go_simp
        exact trellisref33_word.calls _ _ _ _ HW4'.out
      go_simp
      refine hK _ _ ?_
      clear hK K
      obtain ⟨s5, hs5⟩ : ∃ s5, s4 ++ wordL y4 = s5 := ⟨_, rfl⟩
      have HX5 := Aside0.mk (len_word y4 HX4.out)
      rw [hs5] at HX5
      have HS5 := Aside0.mk hs5
      clear hs5
      refine Run.step (fun K hK => Good.fix off_nil ⟨.string (strOfNums s5), fun w' hw' => ?_, ?_⟩)
      · go_simp
        rw [if_neg (cat_le (by rw [HS5.out]; have := HX5.out; omega))]
        exact ⟨rfl, by rw [← str_append, HS5.out]⟩
      go_simp
      refine hK _ _ ?_
      clear hK K
      refine Run.step (fun K hK => Good.fix off_nil ?_)
      apply Exists.intro
      refine ⟨fun w' hw' => ?_, ?_⟩
      · go_simp
        exact rfl
      go_simp
      refine hK _ _ ?_
      clear hK K
      refine Run.step (fun K hK => Good.fix off_nil ?_)
      apply Exists.intro
      refine ⟨fun w' hw' => ?_, ?_⟩
      · obtain ⟨p0, p1, p2, p3, p4, p5⟩ := HQ.out w' hw'
        go_simp
        exact rfl
      go_simp
      refine hK _ _ ?_
      clear hK K
      refine Run.step (fun K hK => Good.fix off_nil ?_)
      apply Exists.intro
      refine ⟨fun w' hw' => ?_, ?_⟩
      · go_simp
        exact trellisref33_text.calls _ _ _ _ HT5'.out
      go_simp
      refine hK _ _ ?_
      clear hK K
      have hs5 := HZ5.out
      obtain ⟨s6, hs6⟩ : ∃ s6, s5 ++ textL x5 = s6 := ⟨_, rfl⟩
      have HX6 := Aside0.mk (len_text x5 HX5.out)
      rw [hs6] at HX6
      have HS6 := Aside0.mk hs6
      clear hs6
      refine Run.step (fun K hK => Good.fix off_nil ⟨.string (strOfNums s6), fun w' hw' => ?_, ?_⟩)
      · go_simp
        rw [if_neg (cat_le (by rw [HS6.out]; have := HX6.out; omega))]
        exact ⟨rfl, by rw [← str_append, HS6.out]⟩
      go_simp
      refine hK _ _ ?_
      clear hK K
      clear hs5
      refine Run.step (fun K hK => Good.fix off_nil ?_)
      apply Exists.intro
      refine ⟨fun w' hw' => ?_, ?_⟩
      · go_simp
        exact rfl
      go_simp
      refine hK _ _ ?_
      clear hK K
      refine Run.nil ?_
      intro b w' hb hf
      obtain rfl := hf.nil
      have HBX := Aside0.mk hb
      clear hb hf
      have HR4 := Aside0.mk ((HBX.out.block _ (blk_lt HR3.out)).trans HR3.out)
      have HB4 := Aside0.mk (below_then HB3.out HB3.out.size HBX.out)
      clear HBX HR3 HB3 HE3 HQ
      go_wp2
      go_roundw
      case rel => exact ⟨i + 1, by rw [HSX.out, ← HS6.out, ← HS5.out, ← HS4.out, ← HS3.out, ← HS2.out, ← HS1.out]; simp, by congr 1, by omega, HR4, HB4⟩
      case measure => first | omega | (simp [intOf]; omega)
    · obtain rfl : i = ls.length := by omega
      have d1 : decide ((ls.length : Int) < (ls.length : Int)) = false := decide_eq_false (by omega)
      have hr2 := HR2.out
      have q4 : wr.cell? ⟨w.heap.size, 4, none⟩ = some (.slice A4 ns.length c4) := (blk_cell hr2 4).trans rfl
      obtain ⟨s0, hs0⟩ : ∃ s0, preL d t c a m rt ls ls.length = s0 := ⟨_, rfl⟩
      have hx0 := preL_len d t c a m rt ls ls.length HSL.out
      rw [hs0] at hx0
      rw [hs0]
      have HX0 := Aside0.mk hx0
      have HPN := Aside0.mk (show s0 ++ numL (ns.length : Int) = preN d t c a m rt ls ns 0 by rw [← preL_all, ← hs0]; simp)
      have HCL := Aside0.mk (cat_le (a := s0) (b := numL (ns.length : Int)) (by have := len_num (ns.length : Int) HX0.out; omega))
      clear hr2 hx0 hs0
      go_wp2_with fail
      refine (trellisref33_num.calls _ _ _ _ HN4.out).mono ?_
      rintro e w2 ⟨rfl, hB⟩
      have HR := Aside0.mk ((hB.block _ (blk_lt HR2.out)).trans HR2.out)
      have HB := Aside0.mk (below_then HB2.out HB2.out.size hB)
      have hcl := HCL.out
      have hpn : strOfNums s0 ++ strOfNums (numL (ns.length : Int)) = strOfNums (preN d t c a m rt ls ns 0) := by rw [← HPN.out, str_append]
      clear hB HR2 HB2 q3 q4
      go_wp2_with fail
      clear hcl hpn
      go_loopw [7, 10, 11, 12] (fun v7 v10 v11 v12 wr => ∃ i : Nat, v7 = .string (strOfNums (preN d t c a m rt ls ns i)) ∧ v10 = .int .i64 (i : Int) ∧ i ≤ ns.length ∧ Aside0 (wr.heap[w.heap.size]? = some (.cells #[.int .i64 c, .int .i64 a, .int .u64 (m : Int), .slice A3 ls.length c3, .slice A4 ns.length c4, .int .i64 rt] 28 (0, 0))) ∧ Aside0 (Below w.heap.size w wr)) (fun _ v10 _ _ _ => ns.length - (intOf v10).toNat)
      case atStart => exact ⟨0, rfl, rfl, by omega, HR, HB⟩
      case round =>
        obtain ⟨i, rfl, rfl, hi, HR2, HB2⟩ := hrel
        clear HR HB HPN HCL HX0
        have hnl := HNL.out
        have hr2 := HR2.out
        have q4 : wr.cell? ⟨w.heap.size, 4, none⟩ = some (.slice A4 ns.length c4) := (blk_cell hr2 4).trans rfl
        clear hr2
        by_cases h : i < ns.length
        · have d1 : decide ((i : Int) < (ns.length : Int)) = true := decide_eq_true (by omega)
          have d2 : decide (i < ns.length) = true := decide_eq_true h
          have d3 : (i : Int) < (ns.length : Int) := by omega
          obtain ⟨ad, hA, z0, z1, z2, z3, z4, z5, z6⟩ := at_T37 (Kd.C_below HC4.out HB2.out) (i : Int) (by omega) (by omega)
          have hok := HNS.out ns[i] (List.getElem_mem h)
          have hwt := mem_sum wtNd ns i h
          have hsx := preN_succ d t c a m rt ls ns i h
          rw [rdN ns i h, Int.toNat_natCast] at z0 z1 z2 z3 z4 z5 z6
          obtain ⟨x, hx⟩ : ∃ x, ns[i] = x := ⟨_, rfl⟩
          rw [hx] at z0 z1 z2 z3 z4 z5 z6 hok hwt hsx
          obtain ⟨x0, x1, x2, x3, x4, x5, x6⟩ := x
          simp only at z0 z1 z2 z3 z4 z5 z6 hsx
          obtain ⟨⟨o0, o1, o2, o3⟩, o4, o5, o6, o7, o8⟩ := hok
          simp only at o0 o1 o2 o3 o4 o5 o6 o7 o8
          subst hA
          obtain ⟨s0, hs0⟩ : ∃ s0, preN d t c a m rt ls ns i = s0 := ⟨_, rfl⟩
          have hx0 := preN_len d t c a m rt ls ns i HSL.out HSN.out
          rw [hs0] at hsx hx0
          rw [hs0]
          have HSX := Aside0.mk hsx
          have HX0 := Aside0.mk hx0
          have HN3' := Aside0.mk (rnum_f x3 o4 o0)
          have HN4' := Aside0.mk (rnum_f x4 o5 o1)
          have HN5' := Aside0.mk (rnum_f x5 o6 o2)
          obtain ⟨y6, hy6⟩ := Int.eq_ofNat_of_zero_le (show 0 ≤ x6 + 1 by omega)
          have HN6' := Aside0.mk (rcount_f y6 (by omega))
          have HY6 := Aside0.mk (show (x6 + 1).toNat = y6 by rw [hy6, Int.toNat_natCast])
          obtain rfl : x6 = (y6 : Int) - 1 := by omega
          have HB6 := Aside0.mk (show (y6 : Int) ≤ 9223372036854775807 by omega)
          have HZ0 := Aside0.mk (show x0.size ≤ 2097152 by have := HSN.out; have hw2 : x0.size + x2.size + 1 ≤ (ns.map wtNd).sum := hwt; omega)
          have HZ2 := Aside0.mk (show x2.size ≤ 2097152 by have := HSN.out; have hw2 : x0.size + x2.size + 1 ≤ (ns.map wtNd).sum := hwt; omega)
          have HT0' := Aside0.mk (rtext_f x0 (by have := HZ0.out; omega))
          have HT2' := Aside0.mk (rtext_f x2 (by have := HZ2.out; omega))
          clear hsx hx0 hs0 o0 o1 o2 o3 o4 o5 o6 o7 o8 hwt hx hy6
          go_upto_region 14 with fail
          have hba := below_alloc (Below.refl wr.heap.size wr) (.cells #[.string x0, .bool x1, .string x2, .int .i64 x3, .int .i64 x4, .int .i64 x5, .int .i64 ((y6 : Int) - 1)] 37)
          have hen := heap_alloc_new wr (.cells #[.string x0, .bool x1, .string x2, .int .i64 x3, .int .i64 x4, .int .i64 x5, .int .i64 ((y6 : Int) - 1)] 37)
          have HR3 := Aside0.mk ((hba.block _ (blk_lt HR2.out)).trans HR2.out)
          have HB3 := Aside0.mk (below_then HB2.out HB2.out.size hba)
          obtain ⟨w3, hw3⟩ : ∃ w3, wr.alloc (.cells #[.string x0, .bool x1, .string x2, .int .i64 x3, .int .i64 x4, .int .i64 x5, .int .i64 ((y6 : Int) - 1)] 37) = w3 := ⟨_, rfl⟩
          obtain ⟨bl, hbl⟩ : ∃ bl, wr.heap.size = bl := ⟨_, rfl⟩
          rw [hw3] at HR3 HB3 hen ⊢
          rw [hbl] at hen ⊢
          have HE3 := Aside0.mk hen
          clear hba hen hw3 hbl HR2 HB2
          have hp := (below_alloc (Below.refl w3.heap.size w3) (.cells #[.int .u8 0] 5)).block _ (blk_lt HE3.out)
          have p1 : (w3.alloc (.cells #[.int .u8 0] 5)).cell? ⟨bl, 1, none⟩ = some (.bool x1) := (blk_cell (hp.trans HE3.out) 1).trans rfl
          clear hp
          obtain ⟨b0, hb0⟩ : ∃ b0, strOfNums [0] = b0 := ⟨_, rfl⟩
          obtain ⟨b1, hb1⟩ : ∃ b1, strOfNums [1] = b1 := ⟨_, rfl⟩
          have hcv0 := string_of_reads (P := Try.prog) (src := 40) (dst := 9) (c := 1) Try.underlying40 Try.underlying5 Try.underlying9 (one_reads (heap_alloc_new w3 (.cells #[.int .u8 0] 5)))
          have hcv1 := string_of_reads (P := Try.prog) (src := 40) (dst := 9) (c := 1) Try.underlying40 Try.underlying5 Try.underlying9 (one_reads (heap_alloc_new (w3.alloc (.cells #[.int .u8 0] 5)) (.cells #[.int .u8 1] 5)))
          rw [show (w3.alloc (.cells #[.int .u8 0] 5)).heap.size = w3.heap.size + 1 by simp] at hcv1
          rw [hb0] at hcv0
          rw [hb1] at hcv1
          have HB0 := Aside0.mk hb0
          have HB1 := Aside0.mk hb1
          clear hb0 hb1
          go_upto_if 105 with fail
          go_cut [12] (fun v wx => v = .string (strOfNums [flag x1]) ∧ Below w3.heap.size w3 wx)
          case first =>
            cases x1
            · go_wp2
              go_meet
              case rel => exact ⟨by rw [← HB0.out]; rfl, below_alloc (Below.refl _ _) _⟩
            · go_wp2
              go_meet
              case rel => exact ⟨by rw [← HB1.out]; rfl, below_alloc (below_alloc (Below.refl _ _) _) _⟩
          case rest =>
          obtain ⟨rfl, hB⟩ := hcut
          have HR4 := Aside0.mk ((hB.block _ (blk_lt HR3.out)).trans HR3.out)
          have HB4 := Aside0.mk (below_then HB3.out HB3.out.size hB)
          have HE4 := Aside0.mk ((hB.block _ (blk_lt HE3.out)).trans HE3.out)
          clear hB HR3 HB3 HE3 hcv0 hcv1 p1 HB0 HB1
          obtain ⟨w4, rfl⟩ : ∃ w4 : World, w4 = wc := ⟨_, rfl⟩
          have Q : ∀ w', Below w4.heap.size w4 w' → w'.cell? ⟨bl, 0, none⟩ = some (Value.string x0) ∧ w'.cell? ⟨bl, 1, none⟩ = some (Value.bool x1) ∧ w'.cell? ⟨bl, 2, none⟩ = some (Value.string x2) ∧ w'.cell? ⟨bl, 3, none⟩ = some (Value.int .i64 x3) ∧ w'.cell? ⟨bl, 4, none⟩ = some (Value.int .i64 x4) ∧ w'.cell? ⟨bl, 5, none⟩ = some (Value.int .i64 x5) ∧ w'.cell? ⟨bl, 6, none⟩ = some (Value.int .i64 ((y6 : Int) - 1)) := fun w' hb =>
            have h := (hb.block _ (blk_lt HE4.out)).trans HE4.out
            ⟨(blk_cell h 0).trans rfl, (blk_cell h 1).trans rfl, (blk_cell h 2).trans rfl, (blk_cell h 3).trans rfl, (blk_cell h 4).trans rfl, (blk_cell h 5).trans rfl, (blk_cell h 6).trans rfl⟩
          have HQ := Aside0.mk Q
          clear Q
          obtain ⟨fl, hfl⟩ : ∃ fl, strOfNums [flag x1] = fl := ⟨_, rfl⟩
          rw [hfl]
          have HFL := Aside0.mk hfl
          clear hfl
          go_wp2_with fail
          refine wp_region_run (by kernel_rfl) (by kernel_rfl) ?_
          have hz0 := HZ0.out
          have hz2 := HZ2.out
          refine Run.step (fun K hK => Good.fix off_nil ?_)
          apply Exists.intro
          refine ⟨fun w' hw' => ?_, ?_⟩
          · go_simp
            exact rfl
          go_simp
          refine hK _ _ ?_
          clear hK K
          refine Run.step (fun K hK => Good.fix off_nil ?_)
          apply Exists.intro
          refine ⟨fun w' hw' => ?_, ?_⟩
          · go_simp
            exact rfl
          go_simp
          refine hK _ _ ?_
          clear hK K
          refine Run.step (fun K hK => Good.fix off_nil ?_)
          apply Exists.intro
          refine ⟨fun w' hw' => ?_, ?_⟩
          · obtain ⟨p0, p1, p2, p3, p4, p5, p6⟩ := HQ.out w' hw'
            go_simp
            exact rfl
          go_simp
          refine hK _ _ ?_
          clear hK K
          refine Run.step (fun K hK => Good.fix off_nil ?_)
          apply Exists.intro
          refine ⟨fun w' hw' => ?_, ?_⟩
          · go_simp
            exact trellisref33_text.calls _ _ _ _ HT0'.out
          go_simp
          refine hK _ _ ?_
          clear hK K
          obtain ⟨s1, hs1⟩ : ∃ s1, s0 ++ textL x0 = s1 := ⟨_, rfl⟩
          have HX1 := Aside0.mk (len_text x0 HX0.out)
          rw [hs1] at HX1
          have HS1 := Aside0.mk hs1
          clear hs1
          refine Run.step (fun K hK => Good.fix off_nil ⟨.string (strOfNums s1), fun w' hw' => ?_, ?_⟩)
          · go_simp
            rw [if_neg (cat_le (by rw [HS1.out]; have := HX1.out; omega))]
            exact ⟨rfl, by rw [← str_append, HS1.out]⟩
          go_simp
          refine hK _ _ ?_
          clear hK K
          refine Run.step (fun K hK => Good.fix off_nil ?_)
          apply Exists.intro
          refine ⟨fun w' hw' => ?_, ?_⟩
          · go_simp
            exact rfl
          go_simp
          refine hK _ _ ?_
          clear hK K
          obtain ⟨s2, hs2⟩ : ∃ s2, s1 ++ [flag x1] = s2 := ⟨_, rfl⟩
          have HX2 := Aside0.mk (len_one (flag x1) HX1.out)
          rw [hs2] at HX2
          have HS2 := Aside0.mk hs2
          clear hs2
          refine Run.step (fun K hK => Good.fix off_nil ⟨.string (strOfNums s2), fun w' hw' => ?_, ?_⟩)
          · go_simp
            rw [← HFL.out, if_neg (cat_le (by rw [HS2.out]; have := HX2.out; omega))]
            exact ⟨rfl, by rw [← str_append, HS2.out]⟩
          go_simp
          refine hK _ _ ?_
          clear hK K
          refine Run.step (fun K hK => Good.fix off_nil ?_)
          apply Exists.intro
          refine ⟨fun w' hw' => ?_, ?_⟩
          · go_simp
            exact rfl
          go_simp
          refine hK _ _ ?_
          clear hK K
          refine Run.step (fun K hK => Good.fix off_nil ?_)
          apply Exists.intro
          refine ⟨fun w' hw' => ?_, ?_⟩
          · obtain ⟨p0, p1, p2, p3, p4, p5, p6⟩ := HQ.out w' hw'
            go_simp
            exact rfl
          go_simp
          refine hK _ _ ?_
          clear hK K
          refine Run.step (fun K hK => Good.fix off_nil ?_)
          apply Exists.intro
          refine ⟨fun w' hw' => ?_, ?_⟩
          · go_simp
            exact trellisref33_text.calls _ _ _ _ HT2'.out
          go_simp
          refine hK _ _ ?_
          clear hK K
          obtain ⟨s3, hs3⟩ : ∃ s3, s2 ++ textL x2 = s3 := ⟨_, rfl⟩
          have HX3 := Aside0.mk (len_text x2 HX2.out)
          rw [hs3] at HX3
          have HS3 := Aside0.mk hs3
          clear hs3
          refine Run.step (fun K hK => Good.fix off_nil ⟨.string (strOfNums s3), fun w' hw' => ?_, ?_⟩)
          · go_simp
            rw [if_neg (cat_le (by rw [HS3.out]; have := HX3.out; omega))]
            exact ⟨rfl, by rw [← str_append, HS3.out]⟩
          go_simp
          refine hK _ _ ?_
          clear hK K
          refine Run.step (fun K hK => Good.fix off_nil ?_)
          apply Exists.intro
          refine ⟨fun w' hw' => ?_, ?_⟩
          · go_simp
            exact rfl
          go_simp
          refine hK _ _ ?_
          clear hK K
          refine Run.step (fun K hK => Good.fix off_nil ?_)
          apply Exists.intro
          refine ⟨fun w' hw' => ?_, ?_⟩
          · obtain ⟨p0, p1, p2, p3, p4, p5, p6⟩ := HQ.out w' hw'
            go_simp
            exact rfl
          go_simp
          refine hK _ _ ?_
          clear hK K
          refine Run.step (fun K hK => Good.fix off_nil ?_)
          apply Exists.intro
          refine ⟨fun w' hw' => ?_, ?_⟩
          · go_simp
            exact trellisref33_num.calls _ _ _ _ HN3'.out
          go_simp
          refine hK _ _ ?_
          clear hK K
          obtain ⟨s4, hs4⟩ : ∃ s4, s3 ++ numL x3 = s4 := ⟨_, rfl⟩
          have HX4 := Aside0.mk (len_num x3 HX3.out)
          rw [hs4] at HX4
          have HS4 := Aside0.mk hs4
          clear hs4
          refine Run.step (fun K hK => Good.fix off_nil ⟨.string (strOfNums s4), fun w' hw' => ?_, ?_⟩)
          · go_simp
            rw [if_neg (cat_le (by rw [HS4.out]; have := HX4.out; omega))]
            exact ⟨rfl, by rw [← str_append, HS4.out]⟩
          go_simp
          refine hK _ _ ?_
          clear hK K
          refine Run.step (fun K hK => Good.fix off_nil ?_)
          apply Exists.intro
          refine ⟨fun w' hw' => ?_, ?_⟩
          · go_simp
            exact rfl
          go_simp
          refine hK _ _ ?_
          clear hK K
          refine Run.step (fun K hK => Good.fix off_nil ?_)
          apply Exists.intro
          refine ⟨fun w' hw' => ?_, ?_⟩
          · obtain ⟨p0, p1, p2, p3, p4, p5, p6⟩ := HQ.out w' hw'
            go_simp
            exact rfl
          go_simp
          refine hK _ _ ?_
          clear hK K
          refine Run.step (fun K hK => Good.fix off_nil ?_)
          apply Exists.intro
          refine ⟨fun w' hw' => ?_, ?_⟩
          · go_simp
            exact trellisref33_num.calls _ _ _ _ HN4'.out
          go_simp
          refine hK _ _ ?_
          clear hK K
          obtain ⟨s5, hs5⟩ : ∃ s5, s4 ++ numL x4 = s5 := ⟨_, rfl⟩
          have HX5 := Aside0.mk (len_num x4 HX4.out)
          rw [hs5] at HX5
          have HS5 := Aside0.mk hs5
          clear hs5
          refine Run.step (fun K hK => Good.fix off_nil ⟨.string (strOfNums s5), fun w' hw' => ?_, ?_⟩)
          · go_simp
            rw [if_neg (cat_le (by rw [HS5.out]; have := HX5.out; omega))]
            exact ⟨rfl, by rw [← str_append, HS5.out]⟩
          go_simp
          refine hK _ _ ?_
          clear hK K
          refine Run.step (fun K hK => Good.fix off_nil ?_)
          apply Exists.intro
          refine ⟨fun w' hw' => ?_, ?_⟩
          · go_simp
            exact rfl
          go_simp
          refine hK _ _ ?_
          clear hK K
          refine Run.step (fun K hK => Good.fix off_nil ?_)
          apply Exists.intro
          refine ⟨fun w' hw' => ?_, ?_⟩
          · obtain ⟨p0, p1, p2, p3, p4, p5, p6⟩ := HQ.out w' hw'
            go_simp
            exact rfl
          go_simp
          refine hK _ _ ?_
          clear hK K
          refine Run.step (fun K hK => Good.fix off_nil ?_)
          apply Exists.intro
          refine ⟨fun w' hw' => ?_, ?_⟩
          · go_simp
            exact trellisref33_num.calls _ _ _ _ HN5'.out
          go_simp
          refine hK _ _ ?_
          clear hK K
          obtain ⟨s6, hs6⟩ : ∃ s6, s5 ++ numL x5 = s6 := ⟨_, rfl⟩
          have HX6 := Aside0.mk (len_num x5 HX5.out)
          rw [hs6] at HX6
          have HS6 := Aside0.mk hs6
          clear hs6
          refine Run.step (fun K hK => Good.fix off_nil ⟨.string (strOfNums s6), fun w' hw' => ?_, ?_⟩)
          · go_simp
            rw [if_neg (cat_le (by rw [HS6.out]; have := HX6.out; omega))]
            exact ⟨rfl, by rw [← str_append, HS6.out]⟩
          go_simp
          refine hK _ _ ?_
          clear hK K
          refine Run.step (fun K hK => Good.fix off_nil ?_)
          apply Exists.intro
          refine ⟨fun w' hw' => ?_, ?_⟩
          · go_simp
            exact rfl
          go_simp
          refine hK _ _ ?_
          clear hK K
          refine Run.step (fun K hK => Good.fix off_nil ?_)
          apply Exists.intro
          refine ⟨fun w' hw' => ?_, ?_⟩
          · obtain ⟨p0, p1, p2, p3, p4, p5, p6⟩ := HQ.out w' hw'
            go_simp
            exact rfl
          go_simp
          refine hK _ _ ?_
          clear hK K
          obtain ⟨u, hu⟩ : ∃ u, IntKind.u64.wrap ((y6 : Int) - 1) = u := ⟨_, rfl⟩
          have HU := Aside0.mk hu
          have HUY := Aside0.mk (show IntKind.u64.wrap (u + 1) = (y6 : Int) by rw [← hu, wrap_u64, wrap_u64]; have := HB6.out; omega)
          clear hu
          refine Run.step (fun K hK => Good.fix off_nil ⟨.int .u64 u, fun w' hw' => ?_, ?_⟩)
          · go_simp
            rw [← HU.out]
          go_simp
          refine hK _ _ ?_
          clear hK K
          refine Run.step (fun K hK => Good.fix off_nil ⟨.int .u64 (y6 : Int), fun w' hw' => ?_, ?_⟩)
          · go_simp
            rw [← HUY.out]
          go_simp
          refine hK _ _ ?_
          clear hK K
          refine Run.step (fun K hK => Good.fix off_nil ?_)
          apply Exists.intro
          refine ⟨fun w' hw' => ?_, ?_⟩
          · go_simp
            exact trellisref33_count.calls _ _ _ _ HN6'.out
          go_simp
          refine hK _ _ ?_
          clear hK K
          obtain ⟨s7, hs7⟩ : ∃ s7, s6 ++ cntL y6 = s7 := ⟨_, rfl⟩
          have HX7 := Aside0.mk (len_cnt y6 HX6.out)
          rw [hs7] at HX7
          have HS7 := Aside0.mk hs7
          clear hs7
          refine Run.step (fun K hK => Good.fix off_nil ⟨.string (strOfNums s7), fun w' hw' => ?_, ?_⟩)
          · go_simp
            rw [if_neg (cat_le (by rw [HS7.out]; have := HX7.out; omega))]
            exact ⟨rfl, by rw [← str_append, HS7.out]⟩
          go_simp
          refine hK _ _ ?_
          clear hK K
          refine Run.step (fun K hK => Good.fix off_nil ?_)
          apply Exists.intro
          refine ⟨fun w' hw' => ?_, ?_⟩
          · go_simp
            exact rfl
          go_simp
          refine hK _ _ ?_
          clear hK K
          refine Run.nil ?_
          intro b w' hb hf
          obtain rfl := hf.nil
          have HBX := Aside0.mk hb
          clear hb hf hz0 hz2
          have HR5 := Aside0.mk ((HBX.out.block _ (blk_lt HR4.out)).trans HR4.out)
          have HB5 := Aside0.mk (below_then HB4.out HB4.out.size HBX.out)
          clear HBX HR4 HB4 HE4 HQ
          go_wp2
          go_roundw
          case rel => exact ⟨i + 1, by rw [HSX.out, show (y6 : Int) - 1 + 1 = y6 by omega, Int.toNat_natCast, ← HS7.out, ← HS6.out, ← HS5.out, ← HS4.out, ← HS3.out, ← HS2.out, ← HS1.out]; simp, by congr 1, by omega, HR5, HB5⟩
          case measure => first | omega | (simp [intOf]; omega)
        · obtain rfl : i = ns.length := by omega
          have d1 : decide ((ns.length : Int) < (ns.length : Int)) = false := decide_eq_false (by omega)
          obtain ⟨s0, hs0⟩ : ∃ s0, bodyL d t c a m rt ls ns = s0 := ⟨_, rfl⟩
          have hx0 := preN_len d t c a m rt ls ns ns.length HSL.out HSN.out
          rw [preN_all, hs0] at hx0
          rw [preN_all, hs0]
          have HE := Aside0.mk (show strOfNums s0 ++ strOfNums (wordL (sumS (strOfNums s0))) = strOfNums (encL d t c a m rt ls ns) by unfold encL; rw [hs0, str_append])
          have HSS := Aside0.mk (rSum_f (strOfNums s0) (by rw [strOfNums_size]; omega))
          have HSW := Aside0.mk (rword_f (sumS (strOfNums s0)) (sumS_lt _))
          have HCL := Aside0.mk (cat_le (a := s0) (b := wordL (sumS (strOfNums s0))) (by have := len_word (sumS (strOfNums s0)) hx0; omega))
          clear hx0 hs0
          go_wp2_with fail
          refine (trellisref33_Sum.calls _ _ _ _ HSS.out).mono ?_
          rintro e w2 ⟨rfl, hD⟩
          have HB := Aside0.mk (below_then HB2.out HB2.out.size hD.below)
          clear hD HB2 HR2 q4
          go_wp2_with fail
          refine (trellisref33_word.calls _ _ _ _ HSW.out).mono ?_
          rintro e w3 ⟨rfl, hB⟩
          have HB3 := Aside0.mk (below_then HB.out HB.out.size hB)
          have hcl := HCL.out
          have he := HE.out
          clear hB HB
          go_wp2
          go_ret
          exact ⟨rfl, HB3.out⟩

set_option maxRecDepth 100000 in
set_option maxHeartbeats 2000000 in
theorem rEncode_no (d t : ByteArray) (c a wt rt : Int) (A3 A4 : Option Addr) (c3 c4 : Nat) (ls : List S35) (ns : List S37) (w : World) (hr3 : Kd.C k35 w A3 ls.length ls) (hc3 : ls.length ≤ c3) (hr4 : Kd.C k37 w A4 ns.length ns) (hc4 : ns.length ≤ c4)
    (hsl : (ls.map wtLf).sum ≤ 2097152) (hsn : (ns.map wtNd).sum ≤ 2097152) (hk : keptB c a rt ls ns = false) :
    Calls Try.prog 6 #[.string d, .string t, .agg #[.int .i64 c, .int .i64 a, .int .u64 wt, .slice A3 ls.length c3, .slice A4 ns.length c4, .int .i64 rt]] w fun e w' => e = .returned (.string (strOfNums [])) ∧ Below w.heap.size w w' := by
  have hll := len_sum wtLf (fun x => by unfold wtLf; omega) ls
  have hnl := len_sum wtNd (fun x => by unfold wtNd; omega) ns
  have HKF := Aside0.mk (rkept_f c a wt rt ls ns (by omega) (by omega))
  rw [hk] at HKF
  have HC3 := Aside0.mk hr3
  have HC4 := Aside0.mk hr4
  have H3 := Aside0.mk hc3
  have H4 := Aside0.mk hc4
  clear hll hnl hk hr3 hr4 hc3 hc4 hsl hsn
  have HBA := Aside0.mk (below_alloc (Below.refl w.heap.size w) (.cells #[.int .i64 c, .int .i64 a, .int .u64 wt, .slice A3 ls.length c3, .slice A4 ns.length c4, .int .i64 rt] 28))
  go_enter Try.func6, Try.ntmps6
  go_wp2_with fail
  refine (trellisref33_Kept.calls _ c a wt A3 c3 ls A4 c4 ns rt false _ (Kd.C_below HC3.out HBA.out) H3.out (Kd.C_below HC4.out HBA.out) H4.out HKF.out).mono ?_
  rintro e w1 ⟨rfl, hB⟩
  have HB1 := Aside0.mk (below_then HBA.out HBA.out.size hB)
  clear hB HBA HKF
  go_wp2
  go_ret
  exact ⟨rfl, HB1.out⟩
end Go.Proofs.Ytjgccbpdpnpfjaa.ST

