/- Edit: the index behind an edit: the walk. -/
import Derived.Test.YtgefbbdahhoglaaSpliced
import Derived.Test.YtgefbbdahhoglaaIxM
import Derived.StillTailTactics
import Derived.BigRegion
import Derived.Deep.RegionHeldLaw
import Derived.Deep.RegionLaw
import Derived.Deep.DeepCutAuto
namespace Go.Proofs.Ytgefbbdahhoglaa.PT
open Go.RowKit Go.WideShapes Go.ChangeShapes Go.Proofs.YtgefbbdahhoglaaW.PrintWords Go.Proofs.YtgefbbdahhoglaaW.PrintLast Go.Proofs.YtgefbbdahhoglaaW.PrintMore Go.Proofs.Ytgefbbdahhoglaa.PAll
attribute [local go_sem] max2_int min2_int max_two min_two
set_option linter.unusedVariables false

theorem take_next (l : List Int) (j : Nat) (h : j < l.length) : l.take (j + 1) = l.take j ++ [at_ l j] := by
  rw [List.take_succ_eq_append_getElem h]
  simp [at_, List.getD_eq_getElem?_getD, List.getElem?_eq_getElem h]
theorem keep_in (m : Int) (l : List Int) (j : Nat) (h : j < l.length) (hle : at_ l j ≤ m) : keepLe m (l.take (j + 1)) = keepLe m (l.take j) ++ [at_ l j] := by
  rw [take_next l j h]; unfold keepLe; rw [List.filter_append, List.filter_cons_of_pos (by simpa using hle)]; rfl
theorem keep_out (m : Int) (l : List Int) (j : Nat) (h : j < l.length) (hle : ¬ at_ l j ≤ m) : keepLe m (l.take (j + 1)) = keepLe m (l.take j) := by
  rw [take_next l j h]; unfold keepLe; rw [List.filter_append, List.filter_cons_of_neg (by simpa using hle)]; simp
theorem move_in (m d : Int) (l : List Int) (j : Nat) (h : j < l.length) (hle : m < at_ l j) : moveGt m d (l.take (j + 1)) = moveGt m d (l.take j) ++ [at_ l j + d] := by
  rw [take_next l j h]; unfold moveGt; rw [List.filter_append, List.filter_cons_of_pos (by simpa using hle)]; simp
theorem move_out (m d : Int) (l : List Int) (j : Nat) (h : j < l.length) (hle : ¬ m < at_ l j) : moveGt m d (l.take (j + 1)) = moveGt m d (l.take j) := by
  rw [take_next l j h]; unfold moveGt; rw [List.filter_append, List.filter_cons_of_neg (by simpa using hle)]; simp
theorem keep_len (m : Int) (l : List Int) (j : Nat) : (keepLe m (l.take j)).length ≤ j := by
  have h1 := List.length_filter_le (fun s => decide (s ≤ m)) (l.take j)
  have h2 := List.length_take_le j l
  unfold keepLe
  omega
theorem move_len (m d : Int) (l : List Int) (j : Nat) : (moveGt m d (l.take j)).length ≤ j := by
  have h1 := List.length_filter_le (fun s => decide (m < s)) (l.take j)
  have h2 := List.length_take_le j l
  unfold moveGt
  rw [List.length_map]
  omega

theorem R_append_any {P : Program} {ops : Array Oper} {o : Oper} {a : Act} {Q : Exit → Act → World → Prop} {Kc : Act → World → Prop} {α : Type} (d : Kd α) {w0 W : World} {E : Prop} (base : Nat) (hgd : o.guard = none) (s x : Operand) (t e : TypeId) (z : Value) (bytes : Nat)
    (ho : o.op = .call { callee := .builtin .append, args := #[s, x], argTypes := #[t, t] })
    (ht : P.underlying t = some (.slice e)) (hinfo : (P.info? e).map (fun i => (i.zero, i.size, i.bytes)) = some (some z, d.sz, bytes)) (hz : z.cells.size = d.sz) (hs0 : 0 < d.sz) (hb0 : 0 < bytes)
    (v : Value) (xs : List α) (p : α) (cs : List Value) (ok okp : Nat → Prop) (hs : a.eval s = v) (hx : a.eval x = .slice (some ⟨W.heap.size, 0, none⟩) 1 1) (hp : d.M W base okp p cs) (hokp : ∀ k, okp k → ok k ∧ some k ≠ v.ownBlock) (hfresh : ∀ k, W.heap.size ≤ k → ok k)
    (HO : d.R e W base ok v xs) (HB : Below base w0 W) (hbase : base ≤ W.heap.size) (hl : (xs.length + 1) * bytes ≤ 140737488355328)
    (h : ∀ v1 w1, d.R e w1 base ok v1 (xs ++ [p]) → Below base w0 w1 → W.grownBy w1 v.ownBlock → (v1.ownBlock = v.ownBlock ∨ ∃ b, v1.ownBlock = some b ∧ W.heap.size ≤ b) → Kc (a.put o.dst v1) w1) :
    if Region.wanted o (yielded ops a.tmps) = true then Oper.wp P o a (W.alloc (.cells cs.toArray e)) Kc Q else E := by
  have hw : Region.wanted o (yielded ops a.tmps) = true := by simp [Region.wanted, hgd]
  have h2 := Kd.R_append_step (P := P) (ops := ops) (Q := Q) (Kc := Kc) d (w0 := w0) base hw s x t e z bytes ho ht hinfo hz hs0 hb0 v xs p cs ok okp hs hx hp hokp hfresh HO HB hbase hl h
  rw [if_pos hw] at h2 ⊢
  exact h2

set_option maxRecDepth 100000 in
set_option maxHeartbeats 2000000 in
theorem Edit_calls (t s : ByteArray) (g : Nat) (a d : Int) (w : World) (hI : Ix w g t) (ht : t.size ≤ 1073741824) (hs : s.size ≤ 1073741824) :
    Calls Try.prog 29 #[.pointer (some ⟨g, 0, none⟩), .agg #[.int .i64 a, .int .i64 d, .string s]] w fun e w' => ∃ g', e = .returned (.pointer (some ⟨g', 0, none⟩)) ∧ IxM w' w.heap.size (fun q => w.heap.size ≤ q) g' (behind t a d s) ∧ Below w.heap.size w w' := by
  have HT := Aside0.mk ht
  have HS := Aside0.mk hs
  have HBS := Aside0.mk (behind_starts t a d s)
  have HCL := Aside0.mk (cut_le t a d)
  obtain ⟨k, hk⟩ : ∃ k, cutAt t a = k := ⟨_, rfl⟩
  obtain ⟨n, hn⟩ : ∃ n, cutDel t a d = n := ⟨_, rfl⟩
  obtain ⟨T, hT⟩ : ∃ T, behind t a d s = T := ⟨_, rfl⟩
  have HTT := Aside0.mk (show T = t.extract 0 k ++ s ++ t.extract (k + n) t.size by rw [← hT, ← hk, ← hn]; rfl)
  obtain ⟨m1, hm1⟩ : ∃ m : Int, (if a < 0 then 0 else a) = m := ⟨_, rfl⟩
  have hm2 : (if (t.size : Int) < m1 then (t.size : Int) else m1) = (k : Int) := by
    rw [← hk, ← hm1]; unfold cutAt clampN; (repeat' split) <;> omega
  obtain ⟨m3, hm3⟩ : ∃ m : Int, (if d < 0 then 0 else d) = m := ⟨_, rfl⟩
  have hm4 : (if (t.size : Int) - k < m3 then (t.size : Int) - k else m3) = (n : Int) := by
    have := HCL.out
    rw [← hn, ← hm3]; unfold cutDel; rw [hk]; rw [hk, hn] at this; (repeat' split) <;> omega
  rw [hk, hn, hT] at HBS
  rw [hk, hn] at HCL
  rw [hT]
  have hkn := HCL.out
  obtain ⟨ad, cp, hc0, hc1, hx⟩ := hI.open_
  have hbe := below_alloc (Below.refl w.heap.size w) (.cells #[.int .i64 a, .int .i64 d, .string s] 64)
  have HBE := Aside0.mk hbe
  have hc0' := hc0
  replace hc0 := far hc0 (.cells #[.int .i64 a, .int .i64 d, .string s] 64)
  have HC1 := Aside0.mk hc1
  have HX := Aside0.mk hx
  clear hx hc1 hI hk hn hT hbe hc0'
  go_enter Try.func29, Try.ntmps29
  go_wp2_with fail
  go_region
  rw [← HTT.out]
  obtain ⟨W0, hW0⟩ : ∃ W0, ((w.alloc (.cells #[.int .i64 a, .int .i64 d, .string s] 64)).alloc (.cells #[.string T, .slice none 0 0] 70)).drew = W0 := ⟨_, rfl⟩
  have hE : W0.heap[w.heap.size]? = some (.cells #[.int .i64 a, .int .i64 d, .string s] 64 (0, 0)) := by
    rw [← hW0]
    exact ((below_alloc (Below.refl _ _) (.cells #[.string T, .slice none 0 0] 70)).block _ (by simp)).trans (heap_alloc_new w _)
  have hY : W0.heap[w.heap.size + 1]? = some (.cells #[.string T, .slice none 0 0] 70 (0, 0)) := by
    rw [← hW0]
    have h3 := heap_alloc_new (w.alloc (.cells #[.int .i64 a, .int .i64 d, .string s] 64)) (.cells #[.string T, .slice none 0 0] 70)
    rw [show (w.alloc (.cells #[.int .i64 a, .int .i64 d, .string s] 64)).heap.size = w.heap.size + 1 by simp] at h3
    exact h3
  have hB0 : Below w.heap.size w W0 := by
    rw [← hW0]
    exact below_drew (below_alloc (below_alloc (Below.refl _ _) _) _)
  have hsz0 : W0.heap.size = w.heap.size + 2 := by rw [← hW0]; simp [World.drew]
  rw [hW0]
  have HE := Aside0.mk hE
  have HY := Aside0.mk hY
  have HB0 := Aside0.mk hB0
  have HSZ := Aside0.mk hsz0
  have hc1' : W0.cell? ⟨g, 1, none⟩ = some (.slice (some ad) (rowN t t.size + 1) cp) := pw_cell_below hB0 HC1.out
  clear hW0 hE hY hB0 hsz0 hc0
  go_wp2_with fail
  go_loopw [55] (fun v55 wr => ∃ (j : Nat) (v : Value), v55 = .int .i64 (j : Int) ∧ j ≤ rowN t t.size + 1 ∧ Aside0 (wr.heap[w.heap.size + 1]? = some (.cells #[.string T, v] 70 (0, 0))) ∧
    Aside0 (Kd.R (Kd.int .i64) 3 wr w.heap.size (fun q => W0.heap.size ≤ q) v (keepLe k ((stl t t.size).take j))) ∧ Aside0 (Kept W0 wr (fun q => q = w.heap.size + 1)) ∧ Aside0 (Below w.heap.size w wr)) (fun v55 _ => rowN t t.size + 1 - (intOf v55).toNat)
  case atStart => exact ⟨0, _, rfl, by omega, HY, ⟨Kd.R_nil _ _ _ _ _⟩, ⟨Kept.refl _ _⟩, HB0⟩
  case round =>
    obtain ⟨j, v, rfl, hj, HYr, HRr, HKr, HBr⟩ := hrel
    have hN := rowN_le t t.size
    by_cases hlt : j < rowN t t.size + 1
    · have d1 : decide ((j : Int) < (rowN t t.size : Int) + 1) = true := decide_eq_true (by omega)
      have d2 : decide (j < rowN t t.size + 1) = true := decide_eq_true hlt
      have hxj : wr.cell? (ad.add j) = some (.int .i64 (fromR t j)) := pw_cell_below HBr.out (by have h := HX.out (j : Int) (by omega) (by omega); rwa [Int.toNat_natCast] at h)
      have hL : j < (stl t t.size).length := by rw [stl_length]; exact hlt
      have q1 : wr.cell? ⟨w.heap.size + 1, 1, none⟩ = some v := (blk_cell HYr.out 1).trans rfl
      have HLen := Aside0.mk (keep_len k (stl t t.size) j)
      obtain ⟨f, hf⟩ : ∃ f, fromR t j = f := ⟨_, rfl⟩
      have hf' : at_ (stl t t.size) j = f := hf
      rw [hf] at hxj
      by_cases hle : f ≤ (k : Int)
      · have d3 : decide (f ≤ (k : Int)) = true := decide_eq_true hle
        have HNext := Aside0.mk (keep_in k (stl t t.size) j hL (by rw [hf']; exact hle))
        rw [hf'] at HNext
        clear hf hf' hL
        go_wp2_with (first | ((with_reducible refine gate_builtin (b := .append) (xs := #[.tmp 66, .tmp 68]) rfl ?_); at_builtin; refine Kd.R_append (Kd.int .i64) (w0 := w) w.heap.size rfl (.tmp 66) (.tmp 68) 68 3 (.int .i64 0) 8 rfl Try.underlying68 info3 rfl (by decide) (by omega) v (keepLe k ((stl t t.size).take j)) f [.int .i64 f] (fun q => W0.heap.size ≤ q) (fun _ => False) rfl rfl ?aP (fun _ hk => hk.elim) ?aF ?aO ?aB ?aS ?aL ?_; (case aP => exact rfl); (case aB => exact HBr.out); (case aF => exact fun q hq => Nat.le_trans HKr.out.1 hq); (case aO => exact HRr.out); (case aS => exact HBr.out.size); (case aL => have := HLen.out; omega); intro v1 w9 ho hb hg hat; obtain ⟨A1, c1, rfl⟩ := Kd.R_slice ho; rw [show (keepLe (k : Int) ((stl t t.size).take j) ++ [f]).length = (keepLe (k : Int) ((stl t t.size).take j)).length + 1 by simp] at ho; have hY9 := blk_grown HYr.out hg (Kd.R_ne HRr.out HYr.out (by decide)); have q9 : w9.cell? ⟨w.heap.size + 1, 1, none⟩ = some v := (blk_cell hY9 1).trans rfl; have f9 := blk_frozen hY9 1; have HY9 := Aside0.mk hY9; have HR9 := Aside0.mk ho; have HB9 := Aside0.mk hb; have HK9 := Aside0.mk (Kept.of_grown hg HKr.out (fun q e => .inr (HRr.out.1 q e))); clear ho hb hg hat hY9 q1 hxj))
        go_roundw
        case rel => exact ⟨j + 1, _, by congr 1, by omega, ⟨(blk_set HY9.out 1 _).trans rfl⟩, ⟨by rw [HNext.out]; exact Kd.R_set HR9.out HY9.out (by decide) 1 _⟩, ⟨HK9.out.setCell (.inl rfl) _⟩, ⟨below_set HB9.out (by omega)⟩⟩
        case measure => first | omega | (simp [intOf]; omega)
      · have d3 : decide (f ≤ (k : Int)) = false := decide_eq_false hle
        have HNext := Aside0.mk (keep_out k (stl t t.size) j hL (by rw [hf']; exact hle))
        clear hf hf' hL
        go_wp2
        go_roundw
        case rel => exact ⟨j + 1, v, by congr 1, by omega, HYr, ⟨by rw [HNext.out]; exact HRr.out⟩, HKr, HBr⟩
        case measure => first | omega | (simp [intOf]; omega)
    · rw [show (j : Int) = (rowN t t.size : Int) + 1 by omega]
      obtain rfl : j = rowN t t.size + 1 := by omega
      rw [show (stl t t.size).take (rowN t t.size + 1) = stl t t.size by rw [← stl_length]; exact List.take_length] at HRr
      have d1 : decide (((rowN t t.size + 1 : Nat) : Int) < (rowN t t.size : Int) + 1) = false := decide_eq_false (by omega)
      have q1 : wr.cell? ⟨w.heap.size + 1, 1, none⟩ = some v := (blk_cell HYr.out 1).trans rfl
      have hEr := blk_kept HE.out HKr.out (by simp)
      have HEr := Aside0.mk hEr
      have q2 : wr.cell? ⟨w.heap.size, 2, none⟩ = some (.string s) := (blk_cell hEr 2).trans rfl
      clear hEr
      have HLN := Aside0.mk (lines_f s (k : Int) (keepLe k (stl t t.size)) (by omega) (by omega) (by omega) (by have h1 := keep_len k (stl t t.size) (stl t t.size).length; rw [List.take_length, stl_length] at h1; omega))
      go_upto_region 11 with fail
      have HYd : Aside0 (wr.drew.heap[w.heap.size + 1]? = some (.cells #[.string T, v] 70 (0, 0))) := ⟨HYr.out⟩
      have HEd : Aside0 (wr.drew.heap[w.heap.size]? = some (.cells #[.int .i64 a, .int .i64 d, .string s] 64 (0, 0))) := ⟨HEr.out⟩
      have HKd : Aside0 (Kept W0 wr.drew (fun q => q = w.heap.size + 1)) := ⟨HKr.out.drew⟩
      have HRd : Aside0 (Kd.R (Kd.int .i64) 3 wr.drew w.heap.size (fun q => W0.heap.size ≤ q) v (keepLe k (stl t t.size))) := ⟨by with_reducible apply Kd.R_drew; exact HRr.out⟩
      have HBd : Aside0 (Below w.heap.size w wr.drew) := ⟨below_drew HBr.out⟩
      obtain ⟨xs0, hxs0⟩ : ∃ xs0, keepLe (k : Int) (stl t t.size) ++ lin s (k : Int) s.size = xs0 := ⟨_, rfl⟩
      rw [hxs0] at HBS
      have HX0 := Aside0.mk hxs0
      clear hxs0
      go_cut [] (fun wx => ∃ A2 c2, wx.heap[w.heap.size + 1]? = some (.cells #[.string T, .slice A2 xs0.length c2] 70 (0, 0)) ∧ Kd.R (Kd.int .i64) 3 wx w.heap.size (fun q => W0.heap.size ≤ q) (.slice A2 xs0.length c2) xs0 ∧ Kept W0 wx (fun q => q = w.heap.size + 1) ∧ Below w.heap.size w wx)
      case first =>
        go_region_law
          (first
            | (go_simp
               go_at_call 32
               refine (place_lines.calls (s.size + 1) (fun q => W0.heap.size ≤ q) _ _ s (k : Int) _ w _ HBd.out HRd.out HLN.out).mono ?_
               rintro e w2 ⟨v2, rfl, hR2, hB2, hK2⟩
               rw [HX0.out] at hR2
               obtain ⟨A2, c2, rfl⟩ := Kd.R_slice hR2
               obtain ⟨len, hlen⟩ : ∃ len, xs0.length = len := ⟨_, rfl⟩
               rw [hlen] at hR2 ⊢
               have HLX := Aside0.mk hlen
               clear hlen
               have hY2 := blk_kept HYd.out hK2 (by have := HSZ.out; omega)
               have q3 : w2.cell? ⟨w.heap.size + 1, 1, none⟩ = some v := (blk_cell hY2 1).trans rfl
               have f3 := blk_frozen hY2 1
               have HY2 := Aside0.mk hY2
               have HB2 := Aside0.mk hB2
               have HR2 := Aside0.mk (Kd.R_mono hR2 (fun q hq => hq.elim id (fun h => Nat.le_trans HKd.out.1 h)))
               have HK2 := Aside0.mk (HKd.out.then_ hK2 (fun q hq => .inr hq))
               clear hR2 hB2 hK2 hY2))
        all_goals
          (go_wp2_with fail
           go_meet
           exact ⟨_, _, by rw [HLX.out]; exact (blk_set HY2.out 1 _).trans rfl, by rw [HLX.out]; exact Kd.R_set HR2.out HY2.out (by decide) 1 _, HK2.out.setCell (.inl rfl) _, below_set HB2.out (by omega)⟩)
      case rest =>
      obtain ⟨A2, c2, hY3, hR3, hK3, hB3⟩ := hcut
      have HR3 := Aside0.mk hR3
      have HY3 := Aside0.mk hY3
      have HK3 := Aside0.mk hK3
      have HB3 := Aside0.mk hB3
      clear hR3 hY3 hK3 hB3 q1 q2 HYr HRr HKr HBr HEr HYd HRd HBd HKd HEd HLN
      have hlen0 : xs0.length ≤ 4294967296 := by
        have h1 := keep_len k (stl t t.size) (stl t t.size).length
        rw [List.take_length, stl_length] at h1
        have h2 := lin_length s k s.size
        have h3 := rowN_le s s.size
        rw [← HX0.out, List.length_append]
        omega
      have hc3 : wc.cell? ⟨g, 1, none⟩ = some (.slice (some ad) (rowN t t.size + 1) cp) := pw_cell_below HB3.out HC1.out
      have HLN2 := Aside0.mk hlen0
      clear hc1'
      go_wp2_with fail
      clear hc3
      go_loopw [89] (fun v89 wr => ∃ (j : Nat) (v : Value), v89 = .int .i64 (j : Int) ∧ j ≤ rowN t t.size + 1 ∧ Aside0 (wr.heap[w.heap.size + 1]? = some (.cells #[.string T, v] 70 (0, 0))) ∧
        Aside0 (Kd.R (Kd.int .i64) 3 wr w.heap.size (fun q => W0.heap.size ≤ q) v (xs0 ++ moveGt ((k + n : Nat) : Int) ((s.size : Int) - n) ((stl t t.size).take j))) ∧ Aside0 (Kept W0 wr (fun q => q = w.heap.size + 1)) ∧ Aside0 (Below w.heap.size w wr)) (fun v89 _ => rowN t t.size + 1 - (intOf v89).toNat)
      case atStart => exact ⟨0, _, rfl, by omega, HY3, ⟨by simpa [moveGt] using HR3.out⟩, HK3, HB3⟩
      case round =>
        obtain ⟨j, v, rfl, hj, HYr, HRr, HKr, HBr⟩ := hrel
        by_cases hlt : j < rowN t t.size + 1
        · have d1 : decide ((j : Int) < (rowN t t.size : Int) + 1) = true := decide_eq_true (by omega)
          have d2 : decide (j < rowN t t.size + 1) = true := decide_eq_true hlt
          have hxj : wr.cell? (ad.add j) = some (.int .i64 (fromR t j)) := pw_cell_below HBr.out (by have h := HX.out (j : Int) (by omega) (by omega); rwa [Int.toNat_natCast] at h)
          have hL : j < (stl t t.size).length := by rw [stl_length]; exact hlt
          have hfl := from_le t (show j ≤ rowN t t.size by omega)
          have HLen := Aside0.mk (move_len ((k + n : Nat) : Int) ((s.size : Int) - n) (stl t t.size) j)
          obtain ⟨f, hf⟩ : ∃ f, fromR t j = f := ⟨_, rfl⟩
          have hf' : at_ (stl t t.size) j = f := hf
          rw [hf] at hxj hfl
          by_cases hle : (k : Int) + n < f
          · have d3 : decide ((k : Int) + n < f) = true := decide_eq_true hle
            have HNext := Aside0.mk (move_in ((k + n : Nat) : Int) ((s.size : Int) - n) (stl t t.size) j hL (by rw [hf']; omega))
            rw [hf'] at HNext
            have q1 : wr.cell? ⟨w.heap.size + 1, 1, none⟩ = some v := (blk_cell HYr.out 1).trans rfl
            have hEr := blk_kept HE.out HKr.out (by simp)
            have q2 : wr.cell? ⟨w.heap.size, 2, none⟩ = some (.string s) := (blk_cell hEr 2).trans rfl
            have z1 : IntKind.i64.wrap (f - n) = f - n := wi64 (by omega) (by omega)
            have z2 : IntKind.i64.wrap (f - n + s.size) = f - n + s.size := wi64 (by omega) (by omega)
            have q3 := far q1 (.cells #[.int .i64 (f - n + s.size)] 3)
            clear hf hf' hL hEr
            go_upto_region 16 with fail
            have HBd : Aside0 (Below w.heap.size w wr.drew) := ⟨below_drew HBr.out⟩
            have HRd : Aside0 (Kd.R (Kd.int .i64) 3 wr.drew w.heap.size (fun q => W0.heap.size ≤ q) v (xs0 ++ moveGt ((k + n : Nat) : Int) ((s.size : Int) - n) ((stl t t.size).take j))) := ⟨by with_reducible apply Kd.R_drew; exact HRr.out⟩
            have HYd : Aside0 (wr.drew.heap[w.heap.size + 1]? = some (.cells #[.string T, v] 70 (0, 0))) := ⟨HYr.out⟩
            have HKd : Aside0 (Kept W0 wr.drew (fun q => q = w.heap.size + 1)) := ⟨HKr.out.drew⟩
            obtain ⟨ys, hys⟩ : ∃ ys, xs0 ++ moveGt ((k + n : Nat) : Int) ((s.size : Int) - n) ((stl t t.size).take j) = ys := ⟨_, rfl⟩
            have hyl : ys.length + 1 ≤ 8589934592 + 8 := by have := HLen.out; have := HLN2.out; rw [← hys, List.length_append]; omega
            have HYS := Aside0.mk hys
            have HYL := Aside0.mk hyl
            rw [hys] at HRd
            clear hys hyl
            go_region_law
                (first
                  | (rw [show (wr.alloc (.cells #[.int .i64 (f - n + s.size)] 3)).drew = wr.drew.alloc (.cells #[.int .i64 (f - n + s.size)] 3) from rfl]
                     refine R_append_any (Kd.int .i64) (w0 := w) w.heap.size (by rfl) (.tmp 102) (.tmp 110) 68 3 (.int .i64 0) 8 (by rfl) Try.underlying68 info3 rfl (by decide) (by omega) v ys (f - n + s.size) [.int .i64 (f - n + s.size)] (fun q => W0.heap.size ≤ q) (fun _ => False) ?aE ?aE2 ?aP (fun _ hk => hk.elim) ?aF ?aO ?aB ?aS ?aL ?_
                     (case aE => exact rfl)
                     (case aE2 => exact rfl)
                     (case aP => exact rfl)
                     (case aB => exact HBd.out)
                     (case aF => exact fun q hq => Nat.le_trans HKd.out.1 hq)
                     (case aO => exact HRd.out)
                     (case aS => exact HBd.out.size)
                     (case aL => have := HYL.out; omega)
                     intro v1 w9 ho hb hg hat
                     obtain ⟨A1, c1, rfl⟩ := Kd.R_slice ho
                     rw [show (ys ++ [f - n + s.size]).length = ys.length + 1 by simp] at ho
                     have hY9 := blk_grown HYd.out hg (Kd.R_ne HRd.out HYd.out (by decide))
                     have q9 : w9.cell? ⟨w.heap.size + 1, 1, none⟩ = some v := (blk_cell hY9 1).trans rfl
                     have f9 := blk_frozen hY9 1
                     have HY9 := Aside0.mk hY9
                     have HR9 := Aside0.mk ho
                     have HB9 := Aside0.mk hb
                     have HK9 := Aside0.mk (Kept.of_grown hg HKd.out (fun q e => .inr (HRd.out.1 q e)))
                     clear ho hb hg hat hY9))
            all_goals
              (go_wp2_with fail
               go_roundw
               case rel => exact ⟨j + 1, _, by congr 1, by omega, ⟨(blk_set HY9.out 1 _).trans rfl⟩, ⟨by rw [HNext.out, ← List.append_assoc, HYS.out, show f + ((s.size : Int) - n) = f - n + s.size by omega]; exact Kd.R_set HR9.out HY9.out (by decide) 1 _⟩, ⟨HK9.out.setCell (.inl rfl) _⟩, ⟨below_set HB9.out (by omega)⟩⟩
               case measure => first | omega | (simp [intOf]; omega))
          · have d3 : decide ((k : Int) + n < f) = false := decide_eq_false hle
            have HNext := Aside0.mk (move_out ((k + n : Nat) : Int) ((s.size : Int) - n) (stl t t.size) j hL (by rw [hf']; omega))
            clear hf hf' hL
            go_wp2
            go_roundw
            case rel => exact ⟨j + 1, v, by congr 1, by omega, HYr, ⟨by rw [HNext.out]; exact HRr.out⟩, HKr, HBr⟩
            case measure => first | omega | (simp [intOf]; omega)
        · obtain rfl : j = rowN t t.size + 1 := by omega
          rw [show (stl t t.size).take (rowN t t.size + 1) = stl t t.size by rw [← stl_length]; exact List.take_length, HBS.out] at HRr
          have d1 : decide (((rowN t t.size + 1 : Nat) : Int) < (rowN t t.size : Int) + 1) = false := decide_eq_false (by omega)
          go_wp2
          go_ret
          obtain ⟨A4, c4, rfl, _, hC4⟩ := Kd.R_reads HRr.out
          exact ⟨_, rfl, ⟨A4, c4, by simp, by simp, HYr.out, Kd.R_mono HRr.out (fun q hq => Nat.le_trans (by have := HSZ.out; omega) hq)⟩, HBr.out⟩
end Go.Proofs.Ytgefbbdahhoglaa.PT
