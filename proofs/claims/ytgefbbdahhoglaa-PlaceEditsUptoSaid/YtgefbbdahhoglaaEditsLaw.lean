/- PlaceEdits: the indexes behind a chain of edits answer as those that are made of the texts: the walk. -/
import Derived.Test.YtgefbbdahhoglaaEdit
import Derived.Test.YtgefbbdahhoglaaAlike
import Derived.Test.YtgefbbdahhoglaaEditsPure
namespace Go.Proofs.Ytgefbbdahhoglaa.PT
open Go.RowKit Go.WideShapes Go.ChangeShapes Go.Proofs.YtgefbbdahhoglaaW.PrintWords Go.Proofs.YtgefbbdahhoglaaW.PrintLast Go.Proofs.YtgefbbdahhoglaaW.PrintMore Go.Proofs.Ytgefbbdahhoglaa.PAll
set_option linter.unusedVariables false

theorem info39 : (Try.prog.info? 39).map (fun i => (i.zero, i.size, i.bytes)) = some (some (.pointer none), 1, 8) := by kernel_rfl
theorem info9 : (Try.prog.info? 9).map (fun i => (i.zero, i.size, i.bytes)) = some (some (.string ByteArray.empty), 1, 16) := by kernel_rfl
abbrev anyB : Nat → Prop := fun _ => True
/-- The indexes so far, as a row of pointers. -/
def All (w : World) (b : Nat) (v : Value) (xs : List ByteArray) : Prop := Kd.R ptrIx 39 w b anyB v xs
def Txt (w : World) (b : Nat) (v : Value) (xs : List ByteArray) : Prop := Kd.R Kd.string 9 w b anyB v xs
/-- where an index lies, no row of pointers lies -/
def okAt (w : World) (b : Nat) : Nat → Prop := fun k => anyB k ∧ b ≤ k ∧ k < w.heap.size ∧ ∃ q, q ∈ ptrIx.E ∧ ∃ cells, w.heap[k]? = some (.cells cells q (0, 0))
theorem okAt_ne {w : World} {b k : Nat} (hk : okAt w b k) {v : Value} {xs : List ByteArray} (h : All w b v xs) : anyB k ∧ some k ≠ v.ownBlock := by
  refine ⟨trivial, fun he => ?_⟩
  obtain ⟨_, _, _, q, hq, cells, hc⟩ := hk
  obtain ⟨cells', hc'⟩ := Kd.R_typed h k he.symm
  rw [hc] at hc'
  injection hc' with h1
  injection h1 with _ h2
  subst h2
  simp [ptrIx] at hq

theorem okAt_neT {w : World} {b k : Nat} (hk : okAt w b k) {v : Value} {xs : List ByteArray} (h : Txt w b v xs) : some k ≠ v.ownBlock := by
  intro he
  obtain ⟨_, _, _, q, hq, cells, hc⟩ := hk
  obtain ⟨cells', hc'⟩ := Kd.R_typed h k he.symm
  rw [hc] at hc'
  injection hc' with h1
  injection h1 with _ h2
  subst h2
  simp [ptrIx] at hq
theorem str_at {w : World} {b j n cp : Nat} {A : Option Addr} {xs : List ByteArray} (h : Txt w b (.slice A n cp) xs) (hj : j < xs.length) :
    ∃ ad, A = some ad ∧ w.cell? (ad.add j) = some (.string (xs.getD j ByteArray.empty)) := by
  obtain ⟨_, _, hC⟩ := Kd.R_reads' h
  obtain ⟨ad, c, rfl, _, hK, hc⟩ := Kd.C_get hC ByteArray.empty (j : Int) (by omega) (by omega)
  rw [Int.toNat_natCast] at hK hc
  have hK' : c = [.string (xs.getD j ByteArray.empty)] := hK
  subst hK'
  have e0 := hc 0 _ rfl
  rw [show Kd.string.sz = 1 from rfl, Nat.mul_one, Nat.add_zero] at e0
  exact ⟨ad, rfl, e0⟩
theorem ptr_at {w : World} {b j n cp : Nat} {A : Option Addr} {xs : List ByteArray} (h : All w b (.slice A n cp) xs) (hj : j < xs.length) :
    ∃ ad g, A = some ad ∧ w.cell? (ad.add j) = some (.pointer (some ⟨g, 0, none⟩)) ∧ Ix w g (xs.getD j ByteArray.empty) := by
  obtain ⟨_, _, hC⟩ := Kd.R_reads' h
  obtain ⟨ad, c, rfl, _, hK, hc⟩ := Kd.C_get hC ByteArray.empty (j : Int) (by omega) (by omega)
  rw [Int.toNat_natCast] at hK hc
  obtain ⟨g, rfl, hI⟩ := hK
  have e0 := hc 0 _ rfl
  rw [show ptrIx.sz = 1 from rfl, Nat.mul_one, Nat.add_zero] at e0
  exact ⟨ad, g, rfl, e0, hI⟩
theorem lenA {i n : Nat} (h : i ≤ n) (hn : n ≤ 1073741824) : (i + 1) * 8 ≤ 140737488355328 := by omega
theorem lenB {i n : Nat} (h : i ≤ n) (hn : n ≤ 1073741824) : (i + 1) * 16 ≤ 140737488355328 := by omega
theorem ixm_of {w w1 : World} {b : Nat} {ok : Nat → Prop} {g : Nat} {t : ByteArray} (h : ptrIx.M w b ok t [.pointer (some ⟨g, 0, none⟩)]) : IxM w b ok g t := by
  obtain ⟨g', hg', h2⟩ := h
  injection hg' with hg' _
  injection hg' with hg'
  injection hg' with hg'
  injection hg' with hg'
  subst hg'
  exact h2

set_option maxRecDepth 100000 in
set_option maxHeartbeats 2000000 in
theorem PlaceEdits_calls (t : ByteArray) (A : Option Addr) (n cap : Nat) (l : List Ed) (a r c : Int) (w : World) (hl : edK.C w A n l) (hs : t.size + insN l n ≤ 8388608) (hn : n ≤ 1073741824) :
    Calls Try.prog 9 #[.string t, .slice A n cap, .int .i64 a, .agg #[.int .i64 r, .int .i64 c]] w fun e w' => e = .returned (.bool true) ∧ Below w.heap.size w w' := by
  have HS := Aside0.mk hs
  have HL := Aside0.mk hl
  have hb := below_alloc (Below.refl w.heap.size w) (.cells #[.int .i64 r, .int .i64 c] 50)
  have HP := Aside0.mk (heap_alloc_new w (.cells #[.int .i64 r, .int .i64 c] 50))
  have HB := Aside0.mk hb
  clear hs hb hl
  go_enter Try.func9, Try.ntmps9
  go_wp2_with fail
  refine (NewM_calls t _ (by have := HS.out; omega)).mono ?_
  rintro e w1 ⟨g, rfl, hI, hB⟩
  have HP1 := Aside0.mk ((hB.block _ (blk_lt HP.out)).trans HP.out)
  have HI1 := Aside0.mk hI
  have HB1 := Aside0.mk (below_then HB.out HB.out.size hB)
  clear hB hI HP HB
  go_wp2_with fail
  refine (started_calls _).mono ?_
  rintro e w2 ⟨rfl, hB⟩
  have HP2 := Aside0.mk ((hB.block _ (blk_lt HP1.out)).trans HP1.out)
  have HI2 : Aside0 (IxM w2 w.heap.size anyB g t) := ⟨ixm_of (w1 := w2) (Kd.M_below (ptrIx.M_lower (by simp) (ptrIx.M_mono (fun _ _ => trivial) ⟨g, rfl, HI1.out⟩)) hB)⟩
  have HB2 := Aside0.mk (below_then HB1.out HB1.out.size hB)
  clear hB HP1 HI1 HB1
  go_wp2_with fail
  go_loopw [0, 9, 10, 11, 12, 13] (fun v0 v9 v10 v11 v12 v13 wr => ∃ (i g : Nat), v13 = .int .i64 (i : Int) ∧ i ≤ n ∧ v0 = .string (aft t l i) ∧ v9 = .pointer (some ⟨g, 0, none⟩) ∧ v12 = .int .i64 ((t.size + insN l i : Nat) : Int) ∧
    Aside0 (IxM wr w.heap.size anyB g (aft t l i)) ∧ Aside0 (All wr w.heap.size v10 (txts t l i)) ∧ Aside0 (Txt wr w.heap.size v11 (txts t l i)) ∧ Aside0 (wr.heap[w.heap.size]? = some (.cells #[.int .i64 r, .int .i64 c] 50 (0, 0))) ∧ Aside0 (Below w.heap.size w wr)) (fun _ _ _ _ _ v13 _ => n - (intOf v13).toNat)
  case atStart => exact ⟨0, g, rfl, by omega, rfl, rfl, by simp [insN], HI2, ⟨Kd.R_nil _ _ _ _ _⟩, ⟨Kd.R_nil _ _ _ _ _⟩, HP2, HB2⟩
  case round =>
    obtain ⟨i, g, rfl, hi, rfl, rfl, rfl, HIr, HAr, HTr, HPr, HBr⟩ := hrel
    clear HI2 HP2 HB2
    have hsz := aft_size t l i
    have hmo := insN_mono l hi
    have hs0 := HS.out
    by_cases hlt : i < n
    · have d1 : decide ((i : Int) < (n : Int)) = true := decide_eq_true (by omega)
      have d2 : decide (i < n) = true := decide_eq_true hlt
      have hmo1 := insN_mono l (show i + 1 ≤ n by omega)
      obtain ⟨ad, rfl, z0, z1, z2⟩ := ed_cells HL.out i hlt
      obtain ⟨ea, ed, es, hE⟩ : ∃ ea ed es, edAt l i = (ea, ed, es) := ⟨_, _, _, rfl⟩
      rw [hE] at z0 z1 z2
      have hA1 : aft t l (i + 1) = behind (aft t l i) ea ed es := by rw [aft, hE]
      have hN1 : insN l (i + 1) = insN l i + es.size := by rw [insN, hE]
      rw [hN1] at hmo1
      obtain ⟨N, hN⟩ : ∃ N, t.size + insN l i = N := ⟨_, rfl⟩
      have HN1 := Aside0.mk (show t.size + insN l (i + 1) = N + es.size by rw [hN1, ← hN]; omega)
      have hNs : N + es.size ≤ 8388608 := by omega
      rw [hN] at hsz ⊢
      have d3 : decide ((N : Int) < 16777216) = true := decide_eq_true (by omega)
      have d4 : decide (N < 16777216) = true := decide_eq_true (by omega)
      have HA1 := Aside0.mk hA1
      have HZ0 := Aside0.mk z0
      have HZ1 := Aside0.mk z1
      have HZ2 := Aside0.mk z2
      have HNs := Aside0.mk hNs
      have HSZ := Aside0.mk hsz
      clear hE hA1 hN1 hN z0 z1 z2 hmo hmo1 hs0 hNs hsz
      go_wp2_with (first | ((with_reducible refine gate_builtin (b := .append) (xs := #[.tmp 36, .tmp 38]) rfl ?_); at_builtin; refine Kd.R_append ptrIx (w0 := w) w.heap.size rfl (.tmp 36) (.tmp 38) 60 39 (.pointer none) 8 rfl Try.underlying60 info39 rfl (by decide) (Nat.succ_pos 7) u10 (txts t l i) (aft t l i) [.pointer (some ⟨g, 0, none⟩)] anyB (okAt wr w.heap.size) rfl rfl ?aP ?aK (fun _ _ => trivial) ?aO ?aB ?aS ?aL ?_; (case aP => exact ptrIx.M_bound ⟨g, rfl, HIr.out⟩); (case aK => exact fun k hk => okAt_ne hk HAr.out); (case aO => exact HAr.out); (case aB => exact HBr.out); (case aS => exact HBr.out.size); (case aL => rw [txts_len]; exact lenA hi hn); intro v1 w9 ho hb hg hat; have HA9 : Aside0 (All w9 w.heap.size v1 (txts t l (i + 1))) := ⟨ho⟩; have HI9 : Aside0 (IxM w9 w.heap.size anyB g (aft t l i)) := ⟨ixm_of (w1 := w9) (ptrIx.M_mono (fun _ _ => trivial) (Kd.M_grown (d := ptrIx) (ptrIx.M_bound ⟨g, rfl, HIr.out⟩) hg (fun k hk => (okAt_ne hk HAr.out).2)))⟩; have HT9 : Aside0 (Txt w9 w.heap.size u11 (txts t l i)) := ⟨Kd.R_over HTr.out HAr.out (by decide) hg⟩; have HP9 := Aside0.mk (blk_grown HPr.out hg (Kd.R_ne HAr.out HPr.out (by decide))); have HB9 := Aside0.mk hb; clear ho hb hg hat HAr HIr HTr HPr HBr) | ((with_reducible refine gate_builtin (b := .append) (xs := #[.tmp 40, .tmp 42]) rfl ?_); at_builtin; refine Kd.R_append Kd.string (w0 := w) w.heap.size rfl (.tmp 40) (.tmp 42) 61 9 (.string ByteArray.empty) 16 rfl Try.underlying61 info9 rfl (by decide) (Nat.succ_pos 15) u11 (txts t l i) (aft t l i) [.string (aft t l i)] anyB (fun _ => False) rfl rfl ?bP (fun _ hk => hk.elim) (fun _ _ => trivial) ?bO ?bB ?bS ?bL ?_; (case bP => exact rfl); (case bO => exact HT9.out); (case bB => exact HB9.out); (case bS => exact HB9.out.size); (case bL => rw [txts_len]; exact lenB hi hn); intro v2 w10 ho hb hg hat; have HT10 : Aside0 (Txt w10 w.heap.size v2 (txts t l (i + 1))) := ⟨ho⟩; have HI10 : Aside0 (IxM w10 w.heap.size anyB g (aft t l i)) := ⟨ixm_of (w1 := w10) (ptrIx.M_mono (fun _ _ => trivial) (Kd.M_grown (d := ptrIx) (ptrIx.M_bound ⟨g, rfl, HI9.out⟩) hg (fun k hk => okAt_neT hk HT9.out)))⟩; have HA10 : Aside0 (All w10 w.heap.size v1 (txts t l (i + 1))) := ⟨Kd.R_over HA9.out HT9.out (by decide) hg⟩; have HP10 := Aside0.mk (blk_grown HP9.out hg (Kd.R_ne HT9.out HP9.out (by decide))); have HB10 := Aside0.mk hb; clear ho hb hg hat HA9 HI9 HT9 HP9 HB9; have q0 := pw_cell_below HB10.out HZ0.out; have q1 := pw_cell_below HB10.out HZ1.out; have q2 := pw_cell_below HB10.out HZ2.out))
      refine (Edit_calls (aft t l i) es g ea ed _ HI10.out.ix (by have := HSZ.out; have := HNs.out; omega) (by have := HNs.out; omega)).mono ?_
      rintro e w11 ⟨g2, rfl, hI, hB⟩
      clear q0 q1 q2
      have HA11 : Aside0 (All w11 w.heap.size v1 (txts t l (i + 1))) := ⟨Kd.R_below HA10.out hB⟩
      have HT11 : Aside0 (Txt w11 w.heap.size v2 (txts t l (i + 1))) := ⟨Kd.R_below HT10.out hB⟩
      have HP11 := Aside0.mk ((hB.block _ (blk_lt HP10.out)).trans HP10.out)
      have HI11 : Aside0 (IxM w11 w.heap.size anyB g2 (behind (aft t l i) ea ed es)) := ⟨ixm_of (w1 := w11) (ptrIx.M_lower HB10.out.size (ptrIx.M_mono (fun _ _ => trivial) ⟨g2, rfl, hI⟩))⟩
      have HB11 := Aside0.mk (below_then HB10.out HB10.out.size hB)
      have q0 := pw_cell_below HB11.out HZ0.out
      have q1 := pw_cell_below HB11.out HZ1.out
      have q2 := pw_cell_below HB11.out HZ2.out
      clear hI hB HA10 HT10 HI10 HP10 HB10
      go_wp2_with fail
      refine (spliced_calls (aft t l i) es ea ed _ (by have := HSZ.out; have := HNs.out; omega) (by have := HNs.out; omega)).mono ?_
      rintro e w12 ⟨rfl, hB⟩
      clear q0 q1 q2
      have HA12 : Aside0 (All w12 w.heap.size v1 (txts t l (i + 1))) := ⟨Kd.R_below HA11.out hB⟩
      have HT12 : Aside0 (Txt w12 w.heap.size v2 (txts t l (i + 1))) := ⟨Kd.R_below HT11.out hB⟩
      have HP12 := Aside0.mk ((hB.block _ (blk_lt HP11.out)).trans HP11.out)
      have HI12 : Aside0 (IxM w12 w.heap.size anyB g2 (behind (aft t l i) ea ed es)) := ⟨ixm_of (w1 := w12) (Kd.M_below (d := ptrIx) ⟨g2, rfl, HI11.out⟩ hB)⟩
      have HB12 := Aside0.mk (below_then HB11.out HB11.out.size hB)
      have q2 := pw_cell_below HB12.out HZ2.out
      have hNs := HNs.out
      clear hB HA11 HT11 HI11 HP11 HB11
      go_wp2
      go_roundw
      case rel => exact ⟨i + 1, g2, by congr 1, by omega, by rw [HA1.out], rfl, by rw [HN1.out]; congr 1, ⟨by rw [HA1.out]; exact HI12.out⟩, HA12, HT12, HP12, HB12⟩
      case measure => first | omega | (simp [intOf]; omega)
    · obtain rfl : i = n := by omega
      have d1 : decide ((i : Int) < (i : Int)) = false := decide_eq_false (by omega)
      have d2 : decide (i < i) = false := decide_eq_false (by omega)
      obtain ⟨N, hN⟩ : ∃ N, t.size + insN l i = N := ⟨_, rfl⟩
      rw [hN]
      clear hN
      go_wp2_with (first | ((with_reducible refine gate_builtin (b := .append) (xs := #[.tmp 66, .tmp 68]) rfl ?_); at_builtin; refine Kd.R_append ptrIx (w0 := w) w.heap.size rfl (.tmp 66) (.tmp 68) 60 39 (.pointer none) 8 rfl Try.underlying60 info39 rfl (by decide) (Nat.succ_pos 7) u10 (txts t l i) (aft t l i) [.pointer (some ⟨g, 0, none⟩)] anyB (okAt wr w.heap.size) rfl rfl ?aP ?aK (fun _ _ => trivial) ?aO ?aB ?aS ?aL ?_; (case aP => exact ptrIx.M_bound ⟨g, rfl, HIr.out⟩); (case aK => exact fun k hk => okAt_ne hk HAr.out); (case aO => exact HAr.out); (case aB => exact HBr.out); (case aS => exact HBr.out.size); (case aL => rw [txts_len]; exact lenA hi hn); intro v1 w9 ho hb hg hat; have HA9 : Aside0 (All w9 w.heap.size v1 (txts t l (i + 1))) := ⟨ho⟩; have HI9 : Aside0 (IxM w9 w.heap.size anyB g (aft t l i)) := ⟨ixm_of (w1 := w9) (ptrIx.M_mono (fun _ _ => trivial) (Kd.M_grown (d := ptrIx) (ptrIx.M_bound ⟨g, rfl, HIr.out⟩) hg (fun k hk => (okAt_ne hk HAr.out).2)))⟩; have HT9 : Aside0 (Txt w9 w.heap.size u11 (txts t l i)) := ⟨Kd.R_over HTr.out HAr.out (by decide) hg⟩; have HP9 := Aside0.mk (blk_grown HPr.out hg (Kd.R_ne HAr.out HPr.out (by decide))); have HB9 := Aside0.mk hb; clear ho hb hg hat HAr HIr HTr HPr HBr) | ((with_reducible refine gate_builtin (b := .append) (xs := #[.tmp 70, .tmp 72]) rfl ?_); at_builtin; refine Kd.R_append Kd.string (w0 := w) w.heap.size rfl (.tmp 70) (.tmp 72) 61 9 (.string ByteArray.empty) 16 rfl Try.underlying61 info9 rfl (by decide) (Nat.succ_pos 15) u11 (txts t l i) (aft t l i) [.string (aft t l i)] anyB (fun _ => False) rfl rfl ?bP (fun _ hk => hk.elim) (fun _ _ => trivial) ?bO ?bB ?bS ?bL ?_; (case bP => exact rfl); (case bO => exact HT9.out); (case bB => exact HB9.out); (case bS => exact HB9.out.size); (case bL => rw [txts_len]; exact lenB hi hn); intro v2 w10 ho hb hg hat; have HT10 : Aside0 (Txt w10 w.heap.size v2 (txts t l (i + 1))) := ⟨ho⟩; have HI10 : Aside0 (IxM w10 w.heap.size anyB g (aft t l i)) := ⟨ixm_of (w1 := w10) (ptrIx.M_mono (fun _ _ => trivial) (Kd.M_grown (d := ptrIx) (ptrIx.M_bound ⟨g, rfl, HI9.out⟩) hg (fun k hk => okAt_neT hk HT9.out)))⟩; have HA10 : Aside0 (All w10 w.heap.size v1 (txts t l (i + 1))) := ⟨Kd.R_over HA9.out HT9.out (by decide) hg⟩; have HP10 := Aside0.mk (blk_grown HP9.out hg (Kd.R_ne HT9.out HP9.out (by decide))); have HB10 := Aside0.mk hb; clear ho hb hg hat HA9 HI9 HT9 HP9 HB9))
      obtain ⟨A1, c1, rfl⟩ := Kd.R_slice HA10.out
      obtain ⟨A2, c2, rfl⟩ := Kd.R_slice HT10.out
      have hA0 := HA10.out
      have hT0 := HT10.out
      rw [txts_len] at hA0 hT0 ⊢
      obtain ⟨aA, g0, rfl, _, _⟩ := ptr_at (j := 0) hA0 (by rw [txts_len]; omega)
      obtain ⟨aT, rfl, _⟩ := str_at (j := 0) hT0 (by rw [txts_len]; omega)
      have HA := Aside0.mk hA0
      have HT := Aside0.mk hT0
      have hP0 := HP10
      have hB0 := HB10
      clear hA0 hT0 HA10 HT10 HI10 HP10 HB10
      go_loopw [14, 15] (fun v14 v15 wr => ∃ j : Nat, v14 = .int .i64 (j : Int) ∧ j ≤ i + 1 ∧ Aside0 (All wr w.heap.size (.slice (some aA) (i + 1) c1) (txts t l (i + 1))) ∧ Aside0 (Txt wr w.heap.size (.slice (some aT) (i + 1) c2) (txts t l (i + 1))) ∧
        Aside0 (wr.heap[w.heap.size]? = some (.cells #[.int .i64 r, .int .i64 c] 50 (0, 0))) ∧ Aside0 (Below w.heap.size w wr)) (fun v14 _ _ => i + 1 - (intOf v14).toNat)
      case atStart => exact ⟨0, rfl, by omega, HA, HT, hP0, hB0⟩
      case round =>
        obtain ⟨j, rfl, hj, HAr, HTr, HPr, HBr⟩ := hrel
        clear HA HT hP0 hB0
        by_cases hlt : j < i + 1
        · have d1 : decide ((j : Int) < (i : Int) + 1) = true := decide_eq_true (by omega)
          have d2 : decide (j < i + 1) = true := decide_eq_true hlt
          have d5 : (j : Int) < (i : Int) + 1 := by omega
          obtain ⟨aT1, hT1, qT⟩ := str_at (j := j) HTr.out (by rw [txts_len]; exact hlt)
          obtain ⟨aA1, gj, hA1, qA, hIj⟩ := ptr_at (j := j) HAr.out (by rw [txts_len]; exact hlt)
          injection hT1 with hT1
          injection hA1 with hA1
          subst hT1; subst hA1
          rw [txts_get t l (i + 1) j hlt] at qT hIj
          have HTS := Aside0.mk (show (aft t l j).size ≤ 8388608 by have h1 := aft_size t l j; have h2 := insN_mono l (show j ≤ i by omega); have := HS.out; omega)
          have HQA := Aside0.mk qA
          have HIJ := Aside0.mk hIj
          clear qA hIj hsz hmo hs0
          go_wp2_with fail
          refine (NewM_calls (aft t l j) _ (by have := HTS.out; omega)).mono ?_
          rintro e W ⟨gy, rfl, hI, hB⟩
          have HIY := Aside0.mk hI.ix
          have HIK := Aside0.mk (HIJ.out.below hB)
          have HAW : Aside0 (All W w.heap.size (.slice (some aA) (i + 1) c1) (txts t l (i + 1))) := ⟨Kd.R_below HAr.out hB⟩
          have HTW : Aside0 (Txt W w.heap.size (.slice (some aT) (i + 1) c2) (txts t l (i + 1))) := ⟨Kd.R_below HTr.out hB⟩
          have HPW := Aside0.mk ((hB.block _ (blk_lt HPr.out)).trans HPr.out)
          have HBW := Aside0.mk (below_then HBr.out HBr.out.size hB)
          have HQW := Aside0.mk (pw_cell_below hB HQA.out)
          clear hI hB HQA HIJ HAr HTr HPr HBr qT
          go_upto_region 23 with fail
          go_cut [97] (fun v wx => v = .bool false ∧ Below W.heap.size W wx)
          case first =>
            have Q : ∀ w', Below W.heap.size W w' → w'.cell? (aA.add j) = some (.pointer (some ⟨gj, 0, none⟩)) ∧ w'.cell? ⟨w.heap.size, 0, none⟩ = some (.int .i64 r) ∧ w'.cell? ⟨w.heap.size, 1, none⟩ = some (.int .i64 c) := fun w' hb =>
              have h := (hb.block _ (blk_lt HPW.out)).trans HPW.out
              ⟨pw_cell_below hb HQW.out, (blk_cell h 0).trans rfl, (blk_cell h 1).trans rfl⟩
            have HQ2 := Aside0.mk Q
            clear Q
            refine wp_region_calm (by kernel_rfl) (by kernel_rfl) ?_
            iterate 13 (first | go_big_quiet_skip | (refine wpQuiet_step (fun K hK => ?_); go_simp; first | (refine hK _ ?_; clear hK K) | (apply Exists.intro; refine ⟨fun w' hw' => ?_, hK _ ?_⟩; (first | (with_reducible exact rfl) | (with_reducible refine Calls.calm hw' (alike_calls (aft t l j) gj gy a r c _ (HIK.out.below hw') (HIY.out.below hw') (by have := HTS.out; omega))) | (obtain ⟨q0, q1, q2⟩ := HQ2.out w' hw'; go_simp; exact rfl)); clear hK K)))
            refine wpQuiet_nil ?_
            intro wx hbx
            have HBX := Aside0.mk hbx
            clear hbx
            go_wp2
            go_meet
            case rel => exact ⟨rfl, HBX.out⟩
          case rest =>
          obtain ⟨rfl, hB⟩ := hcut
          have HAc : Aside0 (All wc w.heap.size (.slice (some aA) (i + 1) c1) (txts t l (i + 1))) := ⟨Kd.R_below HAW.out hB⟩
          have HTc : Aside0 (Txt wc w.heap.size (.slice (some aT) (i + 1) c2) (txts t l (i + 1))) := ⟨Kd.R_below HTW.out hB⟩
          have HPc := Aside0.mk ((hB.block _ (blk_lt HPW.out)).trans HPW.out)
          have HBc := Aside0.mk (below_then HBW.out HBW.out.size hB)
          clear hB HAW HTW HPW HBW HQW HIY HIK
          go_wp2
          go_roundw
          case rel => exact ⟨j + 1, by congr 1, by omega, HAc, HTc, HPc, HBc⟩
          case measure => first | omega | (simp [intOf]; omega)
        · obtain rfl : j = i + 1 := by omega
          have d1 : decide (((i + 1 : Nat) : Int) < (i : Int) + 1) = false := decide_eq_false (by omega)
          go_wp2
          go_ret
          exact ⟨rfl, HBr.out⟩
end Go.Proofs.Ytgefbbdahhoglaa.PT
