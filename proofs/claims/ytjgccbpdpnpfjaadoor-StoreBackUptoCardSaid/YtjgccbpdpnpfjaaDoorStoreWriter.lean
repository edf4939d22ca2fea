/- The writer of bytes: what count, counts, word and text add to what is gathered: the walks. -/
import Derived.Test.YtjgccbpdpnpfjaaDoorStorePure
namespace Go.Proofs.YtjgccbpdpnpfjaaDoor.ST
open Go.RowKit Go.WideShapes Go.ChangeShapes Go.Proofs.YtjgccbpdpnpfjaaDoorW.PrintWords Go.Proofs.YtjgccbpdpnpfjaaDoorW.PrintLast Go.Proofs.YtjgccbpdpnpfjaaDoorW.PrintMore Go.Proofs.YtjgccbpdpnpfjaaDoor.PAll
set_option linter.unusedVariables false

/-- A writer at block g has gathered the bytes xs. -/
def Wr (w : World) (base g : Nat) (xs : List Int) : Prop :=
  base ≤ g ∧ ∃ v, w.heap[g]? = some (.cells #[v] 76 (0, 0)) ∧ Kd.R (Kd.int .u8) 5 w base (fun _ => True) v xs
/-- What is no byte's block, and not the writer's, stays. -/
def KeptT (w w' : World) (g : Nat) : Prop :=
  w.heap.size ≤ w'.heap.size ∧ ∀ (i : Nat) (cs : Array Value) (t : TypeId), w.heap[i]? = some (.cells cs t (0, 0)) → i ≠ g → t ≠ 5 → w'.heap[i]? = some (.cells cs t (0, 0))
theorem KeptT.refl (w : World) (g : Nat) : KeptT w w g := ⟨Nat.le_refl _, fun _ _ _ h _ _ => h⟩
theorem KeptT.trans {w w1 w2 : World} {g : Nat} (h : KeptT w w1 g) (k : KeptT w1 w2 g) : KeptT w w2 g :=
  ⟨Nat.le_trans h.1 k.1, fun i cs t hi hg ht => k.2 i cs t (h.2 i cs t hi hg ht) hg ht⟩
theorem KeptT.below {w w1 w2 : World} {g : Nat} (h : KeptT w w1 g) (k : Below w1.heap.size w1 w2) : KeptT w w2 g :=
  ⟨Nat.le_trans h.1 k.size, fun i cs t hi hg ht => by have h1 := h.2 i cs t hi hg ht; exact (k.block i (blk_lt h1)).trans h1⟩
theorem KeptT.grown {w w1 w2 : World} {g base : Nat} {v : Value} {xs : List Int} (h : KeptT w w1 g) (hR : Kd.R (Kd.int .u8) 5 w1 base (fun _ => True) v xs) (k : w1.grownBy w2 v.ownBlock) : KeptT w w2 g :=
  ⟨Nat.le_trans h.1 k.size, fun i cs t hi hg ht => by have h1 := h.2 i cs t hi hg ht; exact blk_grown h1 k (Kd.R_ne hR h1 (fun e => ht e.symm))⟩
theorem KeptT.set {w w1 : World} {g j : Nat} (h : KeptT w w1 g) (u : Value) : KeptT w (w1.setCell ⟨g, j, none⟩ u) g :=
  ⟨by simpa using h.1, fun i cs t hi hg ht => (Below.heap_setCell w1 ⟨g, j, none⟩ u i (fun e => hg e)).trans (h.2 i cs t hi hg ht)⟩
theorem Wr.below {w w1 : World} {base g : Nat} {xs : List Int} (h : Wr w base g xs) (hb : Below w.heap.size w w1) : Wr w1 base g xs := by
  obtain ⟨h1, v, h2, h3⟩ := h
  exact ⟨h1, v, (hb.block g (blk_lt h2)).trans h2, Kd.R_below h3 hb⟩

theorem or_128f : ∀ x : Fin 256, Go.bits .or .u8 ((x.val : Nat) : Int) 128 = ((x.val % 128 + 128 : Nat) : Int) := by decide +kernel
theorem or_128 (m : Nat) : Go.bits .or .u8 ((m : Int) % 256) 128 = ((m % 128 + 128 : Nat) : Int) := by
  have h := or_128f ⟨m % 256, Nat.mod_lt _ (by decide)⟩
  simp only at h
  rw [show (m : Int) % 256 = ((m % 256 : Nat) : Int) by omega, h]
  congr 2
  omega

set_option maxRecDepth 100000 in
set_option maxHeartbeats 2000000 in
theorem count_calls (w0 w : World) (g n : Nat) (xs : List Int) (hn : n < 18446744073709551616) (hW : Wr w w0.heap.size g xs) (hB : Below w0.heap.size w0 w) (hl : xs.length ≤ 1099511627776) :
    Calls Tryd.prog 34 #[.pointer (some ⟨g, 0, none⟩), .int .u64 n] w fun e w' => e = .returned (.tuple #[]) ∧ Wr w' w0.heap.size g (xs ++ cntL n) ∧ Below w0.heap.size w0 w' ∧ KeptT w w' g := by
  have HW := Aside0.mk hW
  have HB := Aside0.mk hB
  have HL := Aside0.mk hl
  have HN := Aside0.mk hn
  clear hW hB hl hn
  go_enter Tryd.func34, Tryd.ntmps34
  go_wp2_with fail
  go_loopw [1] (fun v1 wr => ∃ (m : Nat) (ys : List Int), v1 = .int .u64 (m : Int) ∧ Aside0 (m < 18446744073709551616) ∧ Aside0 (xs ++ cntL n = ys ++ cntL m) ∧ Aside0 (Wr wr w0.heap.size g ys) ∧ Aside0 (Below w0.heap.size w0 wr) ∧ Aside0 (KeptT w wr g)) (fun v1 _ => (intOf v1).toNat)
  case atStart => exact ⟨n, xs, rfl, HN, ⟨rfl⟩, HW, HB, ⟨KeptT.refl _ _⟩⟩
  case round =>
    obtain ⟨m, ys, rfl, HM, HE, HWr, HBr, HKr⟩ := hrel
    clear HW HB
    obtain ⟨hbg, v, hg, hR⟩ := HWr.out
    have q1 : wr.cell? ⟨g, 0, none⟩ = some v := (blk_cell hg 0).trans rfl
    have HG := Aside0.mk hg
    have HR := Aside0.mk hR
    have HYL := Aside0.mk (show ys.length + 1 ≤ 1099511627776 + 12 by
      have h1 := congrArg List.length HE.out
      rw [List.length_append, List.length_append] at h1
      have := cntL_len n
      have := HL.out
      omega)
    clear hg hR HWr
    by_cases h : 128 ≤ m
    · have d1 : decide ((128 : Int) ≤ (m : Int)) = true := decide_eq_true (by omega)
      have d2 : decide (128 ≤ m) = true := decide_eq_true h
      obtain ⟨c, hc⟩ : ∃ c : Int, Go.bits .or .u8 ((m : Int) % 256) 128 = c := ⟨_, rfl⟩
      have HC := Aside0.mk (show c = ((m % 128 + 128 : Nat) : Int) by rw [← hc]; exact or_128 m)
      go_wp2_with ((with_reducible refine gate_builtin (b := .append) (xs := #[.tmp 12, .tmp 16]) rfl ?_); at_builtin; refine Kd.R_append (Kd.int .u8) (w0 := w0) w0.heap.size rfl (.tmp 12) (.tmp 16) 74 5 (.int .u8 0) 1 rfl Tryd.underlying74 info5 rfl (Nat.succ_pos 0) (Nat.succ_pos 0) v ys c [.int .u8 c] (fun _ => True) (fun _ => False) rfl rfl ?aP (fun _ hk => hk.elim) (fun _ _ => trivial) ?aO ?aB ?aS ?aL ?_; (case aP => exact rfl); (case aO => exact HR.out); (case aB => exact HBr.out); (case aS => exact HBr.out.size); (case aL => have := HYL.out; omega); intro v1 w9 ho hb hg hat; obtain ⟨A1, c1, rfl⟩ := Kd.R_slice ho; rw [show (ys ++ [c]).length = ys.length + 1 by simp] at ho; have HK9 := Aside0.mk (HKr.out.grown HR.out hg); have hG9 := blk_grown HG.out hg (Kd.R_ne HR.out HG.out (by decide)); have q9 : w9.cell? ⟨g, 0, none⟩ = some v := (blk_cell hG9 0).trans rfl; have f9 := blk_frozen hG9 0; have HG9 := Aside0.mk hG9; have HR9 := Aside0.mk ho; have HB9 := Aside0.mk hb; clear ho hb hg hat hG9 HR HG HBr HKr q1)
      go_roundw
      case rel => exact ⟨m / 128, ys ++ [c], by congr 1, ⟨by have := HM.out; omega⟩, ⟨by rw [HE.out, cntL_ge h HM.out, HC.out, List.append_assoc]; rfl⟩, ⟨hbg, _, (blk_set HG9.out 0 _).trans rfl, Kd.R_set HR9.out HG9.out (by decide) 0 _⟩, ⟨below_set HB9.out hbg⟩, ⟨HK9.out.set _⟩⟩
      case measure => first | omega | (simp [intOf]; omega)
    · have d1 : decide ((128 : Int) ≤ (m : Int)) = false := decide_eq_false (by omega)
      have d2 : decide (128 ≤ m) = false := decide_eq_false h
      obtain ⟨c, hc⟩ : ∃ c : Int, (m : Int) % 256 = c := ⟨_, rfl⟩
      have HC := Aside0.mk (show c = (m : Int) by rw [← hc]; omega)
      have HMM := Aside0.mk h
      clear h
      go_wp2_with ((with_reducible refine gate_builtin (b := .append) (xs := #[.tmp 24, .tmp 27]) rfl ?_); at_builtin; refine Kd.R_append (Kd.int .u8) (w0 := w0) w0.heap.size rfl (.tmp 24) (.tmp 27) 74 5 (.int .u8 0) 1 rfl Tryd.underlying74 info5 rfl (Nat.succ_pos 0) (Nat.succ_pos 0) v ys c [.int .u8 c] (fun _ => True) (fun _ => False) rfl rfl ?aP (fun _ hk => hk.elim) (fun _ _ => trivial) ?aO ?aB ?aS ?aL ?_; (case aP => exact rfl); (case aO => exact HR.out); (case aB => exact HBr.out); (case aS => exact HBr.out.size); (case aL => have := HYL.out; omega); intro v1 w9 ho hb hg hat; obtain ⟨A1, c1, rfl⟩ := Kd.R_slice ho; rw [show (ys ++ [c]).length = ys.length + 1 by simp] at ho; have HK9 := Aside0.mk (HKr.out.grown HR.out hg); have hG9 := blk_grown HG.out hg (Kd.R_ne HR.out HG.out (by decide)); have q9 : w9.cell? ⟨g, 0, none⟩ = some v := (blk_cell hG9 0).trans rfl; have f9 := blk_frozen hG9 0; have HG9 := Aside0.mk hG9; have HR9 := Aside0.mk ho; have HB9 := Aside0.mk hb; clear ho hb hg hat hG9 HR HG HBr HKr q1)
      go_end0
      refine ⟨rfl, ⟨hbg, _, (blk_set HG9.out 0 _).trans rfl, ?_⟩, below_set HB9.out hbg, HK9.out.set _⟩
      rw [HE.out, cntL_lt (by have := HMM.out; omega), ← HC.out]
      exact Kd.R_set HR9.out HG9.out (by decide) 0 _

set_option maxRecDepth 100000 in
set_option maxHeartbeats 2000000 in
theorem word_calls (w0 w : World) (g n : Nat) (xs : List Int) (hW : Wr w w0.heap.size g xs) (hB : Below w0.heap.size w0 w) (hl : xs.length ≤ 1099511627776) :
    Calls Tryd.prog 31 #[.pointer (some ⟨g, 0, none⟩), .int .u64 n] w fun e w' => e = .returned (.tuple #[]) ∧ Wr w' w0.heap.size g (xs ++ wordL n) ∧ Below w0.heap.size w0 w' ∧ KeptT w w' g := by
  have HW := Aside0.mk hW
  have HB := Aside0.mk hB
  have HL := Aside0.mk hl
  clear hW hB hl
  go_enter Tryd.func31, Tryd.ntmps31
  go_wp2_with fail
  go_loopw [1, 4] (fun v1 v4 wr => ∃ (i m : Nat) (ys : List Int), v1 = .int .u64 (m : Int) ∧ v4 = .int .i64 (i : Int) ∧ i ≤ 8 ∧ Aside0 (ys.length = xs.length + i) ∧ Aside0 (xs ++ wordL n = ys ++ wrd (8 - i) m) ∧ Aside0 (Wr wr w0.heap.size g ys) ∧ Aside0 (Below w0.heap.size w0 wr) ∧ Aside0 (KeptT w wr g)) (fun _ v4 _ => 8 - (intOf v4).toNat)
  case atStart => exact ⟨0, n, xs, rfl, rfl, by omega, ⟨rfl⟩, ⟨rfl⟩, HW, HB, ⟨KeptT.refl _ _⟩⟩
  case round =>
    obtain ⟨i, m, ys, rfl, rfl, hi, HYL, HE, HWr, HBr, HKr⟩ := hrel
    clear HW HB
    obtain ⟨hbg, v, hg, hR⟩ := HWr.out
    have q1 : wr.cell? ⟨g, 0, none⟩ = some v := (blk_cell hg 0).trans rfl
    have HG := Aside0.mk hg
    have HR := Aside0.mk hR
    clear hg hR HWr
    by_cases h : i < 8
    · have d1 : decide ((i : Int) < 8) = true := decide_eq_true (by omega)
      have d2 : decide (i < 8) = true := decide_eq_true h
      obtain ⟨c, hc⟩ : ∃ c : Int, (m : Int) % 256 = c := ⟨_, rfl⟩
      have HC := Aside0.mk (show c = ((m % 256 : Nat) : Int) by rw [← hc]; omega)
      go_wp2_with ((with_reducible refine gate_builtin (b := .append) (xs := #[.tmp 10, .tmp 13]) rfl ?_); at_builtin; refine Kd.R_append (Kd.int .u8) (w0 := w0) w0.heap.size rfl (.tmp 10) (.tmp 13) 74 5 (.int .u8 0) 1 rfl Tryd.underlying74 info5 rfl (Nat.succ_pos 0) (Nat.succ_pos 0) v ys c [.int .u8 c] (fun _ => True) (fun _ => False) rfl rfl ?aP (fun _ hk => hk.elim) (fun _ _ => trivial) ?aO ?aB ?aS ?aL ?_; (case aP => exact rfl); (case aO => exact HR.out); (case aB => exact HBr.out); (case aS => exact HBr.out.size); (case aL => have := HYL.out; have := HL.out; omega); intro v1 w9 ho hb hg hat; obtain ⟨A1, c1, rfl⟩ := Kd.R_slice ho; rw [show (ys ++ [c]).length = ys.length + 1 by simp] at ho; have HK9 := Aside0.mk (HKr.out.grown HR.out hg); have hG9 := blk_grown HG.out hg (Kd.R_ne HR.out HG.out (by decide)); have q9 : w9.cell? ⟨g, 0, none⟩ = some v := (blk_cell hG9 0).trans rfl; have f9 := blk_frozen hG9 0; have HG9 := Aside0.mk hG9; have HR9 := Aside0.mk ho; have HB9 := Aside0.mk hb; clear ho hb hg hat hG9 HR HG HBr HKr q1)
      go_roundw
      case rel => exact ⟨i + 1, m / 256, ys ++ [c], by congr 1, by congr 1, by omega, ⟨by rw [List.length_append, HYL.out]; rfl⟩, ⟨by rw [HE.out, show 8 - i = (8 - (i + 1)) + 1 by omega, wrd, HC.out, List.append_assoc]; rfl⟩, ⟨hbg, _, (blk_set HG9.out 0 _).trans rfl, Kd.R_set HR9.out HG9.out (by decide) 0 _⟩, ⟨below_set HB9.out hbg⟩, ⟨HK9.out.set _⟩⟩
      case measure => first | omega | (simp [intOf]; omega)
    · obtain rfl : i = 8 := by omega
      go_wp2
      go_end0
      refine ⟨rfl, ⟨hbg, v, HG.out, ?_⟩, HBr.out, HKr.out⟩
      have he : xs ++ wordL n = ys := by have := HE.out; simpa [wrd] using this
      rw [he]
      exact HR.out

theorem flat_take (zs : List Int) (i : Nat) (h : i < zs.length) : (zs.take (i + 1)).flatMap numL = (zs.take i).flatMap numL ++ numL (zs.getD i 0) := by
  rw [List.take_succ_eq_append_getElem h, List.flatMap_append]
  simp [List.getD_eq_getElem?_getD, List.getElem?_eq_getElem h]
theorem flat_len (zs : List Int) : (zs.flatMap numL).length ≤ 11 * zs.length := by
  induction zs with
  | nil => simp
  | cons z r ih =>
    have := cntL_len z.toNat
    simp only [List.flatMap_cons, List.length_append, List.length_cons, numL]
    omega
set_option maxRecDepth 100000 in
set_option maxHeartbeats 2000000 in
theorem counts_calls (w0 w : World) (g b : Nat) (xs zs : List Int) (hb : w.heap[b]? = some (.cells (zs.map (Value.int .i64)).toArray 3 (0, 0))) (hz : ∀ z ∈ zs, 0 ≤ z ∧ z < 9223372036854775808) (hzl : zs.length ≤ 100)
    (hW : Wr w w0.heap.size g xs) (hB : Below w0.heap.size w0 w) (hl : xs.length ≤ 1000000000000) (k : Nat) (hk : k = zs.length) :
    Calls Tryd.prog 32 #[.pointer (some ⟨g, 0, none⟩), .slice (some ⟨b, 0, none⟩) k k] w fun e w' => e = .returned (.tuple #[]) ∧ Wr w' w0.heap.size g (xs ++ zs.flatMap numL) ∧ Below w0.heap.size w0 w' ∧ KeptT w w' g := by
  have HWB := Aside0.mk hW
  have hbg : b ≠ g := by
    obtain ⟨_, v, hg, _⟩ := hW
    exact blk_ne hb hg (by decide)
  have HW := Aside0.mk hW
  have HB := Aside0.mk hB
  have HL := Aside0.mk hl
  have HZ := Aside0.mk hz
  have HBB := Aside0.mk hb
  have HBG := Aside0.mk hbg
  have HKL := Aside0.mk hk
  clear hW hB hl hz hb hbg HWB hk
  go_enter Tryd.func32, Tryd.ntmps32
  go_wp2_with fail
  go_loopw [5, 8] (fun v5 v8 wr => ∃ (i : Nat), v8 = .int .i64 (i : Int) ∧ Aside0 (i ≤ zs.length) ∧ Aside0 (Wr wr w0.heap.size g (xs ++ (zs.take i).flatMap numL)) ∧ Aside0 (Below w0.heap.size w0 wr) ∧ Aside0 (KeptT w wr g)) (fun _ v8 _ => zs.length - (intOf v8).toNat)
  case atStart => exact ⟨0, rfl, ⟨by omega⟩, ⟨by simpa using HW.out⟩, HB, ⟨KeptT.refl _ _⟩⟩
  case round =>
    obtain ⟨i, rfl, HI, HWr, HBr, HKr⟩ := hrel
    clear HW HB
    by_cases h : i < zs.length
    · have d1 : decide ((i : Int) < (k : Int)) = true := decide_eq_true (by have := HKL.out; omega)
      have d2 : decide (i < k) = true := decide_eq_true (by have := HKL.out; omega)
      have hbr := HKr.out.2 b _ 3 HBB.out HBG.out (by decide)
      have hzi := HZ.out (zs.getD i 0) (by rw [List.getD_eq_getElem?_getD, List.getElem?_eq_getElem h]; exact List.getElem_mem h)
      have q1 : wr.cell? ⟨b, i, none⟩ = some (.int .i64 (zs.getD i 0)) := by
        rw [blk_cell hbr i]
        simp [List.getElem?_eq_getElem h]
      have HF := Aside0.mk (flat_take zs i h)
      obtain ⟨z, hz⟩ : ∃ z, zs.getD i 0 = z := ⟨_, rfl⟩
      rw [hz] at q1 hzi
      obtain ⟨m, rfl⟩ := Int.eq_ofNat_of_zero_le hzi.1
      have HM := Aside0.mk (show numL (zs.getD i 0) = cntL m by rw [hz]; unfold numL; rw [Int.toNat_natCast])
      have HM2 := Aside0.mk hzi.2
      have x8 : IntKind.u64.wrap (m : Int) = (m : Int) := by rw [wrap_u64]; have := HM2.out; omega
      have x9 : (i : Int) < (k : Int) := by have := HKL.out; omega
      have HLL := Aside0.mk (show (xs ++ (zs.take i).flatMap numL).length ≤ 1099511627776 by
        have h1 := flat_len (zs.take i)
        have h2 := List.length_take_le i zs
        have := HL.out
        rw [List.length_append]; omega)
      clear hbr hz hzi
      go_wp2_with fail
      refine (count_calls w0 _ g m (xs ++ (zs.take i).flatMap numL) (by have := HM2.out; omega) HWr.out HBr.out HLL.out).mono ?_
      rintro e w1 ⟨rfl, hW1, hB1, hK1⟩
      have HW1 : Aside0 (Wr w1 w0.heap.size g (xs ++ (zs.take (i + 1)).flatMap numL)) := ⟨by rw [HF.out, HM.out, ← List.append_assoc]; exact hW1⟩
      have HB1 := Aside0.mk hB1
      have HK1 := Aside0.mk (HKr.out.trans hK1)
      clear hW1 hB1 hK1 HWr HBr HKr q1
      go_wp2
      go_roundw
      case rel => exact ⟨i + 1, by congr 1, ⟨h⟩, HW1, HB1, HK1⟩
      case measure => first | omega | (simp [intOf]; omega)
    · have hi := HI.out
      obtain rfl : i = zs.length := by omega
      have d1 : decide (((zs.length : Nat) : Int) < (k : Int)) = false := decide_eq_false (by have := HKL.out; omega)
      have d2 : decide (zs.length < k) = false := decide_eq_false (by have := HKL.out; omega)
      go_wp2
      go_end0
      exact ⟨rfl, by have := HWr.out; rwa [List.take_length] at this, HBr.out, HKr.out⟩

set_option maxRecDepth 100000 in
set_option maxHeartbeats 2000000 in
theorem text_calls (w0 w : World) (g : Nat) (s : ByteArray) (xs : List Int) (hs : s.size ≤ 4294967296) (hW : Wr w w0.heap.size g xs) (hB : Below w0.heap.size w0 w) (hl : xs.length ≤ 1000000000) :
    Calls Tryd.prog 33 #[.pointer (some ⟨g, 0, none⟩), .string s] w fun e w' => e = .returned (.tuple #[]) ∧ Wr w' w0.heap.size g (xs ++ textL s) ∧ Below w0.heap.size w0 w' ∧ KeptT w w' g := by
  have HW := Aside0.mk hW
  have HB := Aside0.mk hB
  have HL := Aside0.mk hl
  have HS := Aside0.mk hs
  clear hW hB hl hs
  go_enter Tryd.func33, Tryd.ntmps33
  go_wp2_with fail
  have hba := below_alloc (Below.refl w.heap.size w) (.cells #[.int .i64 (s.size : Int)] 3)
  refine (counts_calls w0 _ g w.heap.size xs [(s.size : Int)] (heap_alloc_new w _) (by intro z hz; rw [List.mem_singleton] at hz; subst hz; have := HS.out; omega) (by simp) (HW.out.below hba) (HB.out.alloc HB.out.size _) (by have := HL.out; omega) 1 rfl).mono ?_
  rintro e w1 ⟨rfl, hW1, hB1, hK1⟩
  have HB1 := Aside0.mk hB1
  have HK1 := Aside0.mk ((KeptT.below (KeptT.refl w g) hba).trans hK1)
  obtain ⟨ys, hys⟩ : ∃ ys, xs ++ [(s.size : Int)].flatMap numL = ys := ⟨_, rfl⟩
  rw [hys] at hW1
  obtain ⟨hbg, v, hg, hR⟩ := hW1
  have HYS := Aside0.mk (show xs ++ textL s = ys ++ bytesOf s by rw [← hys]; unfold textL numL; simp)
  have HYL := Aside0.mk (show ys.length ≤ 2000000000 by rw [← hys, List.length_append]; have := flat_len [(s.size : Int)]; have := HL.out; simp only [List.length_cons, List.length_nil] at *; omega)
  have q1 : w1.cell? ⟨g, 0, none⟩ = some v := (blk_cell hg 0).trans rfl
  have HG := Aside0.mk hg
  have HR := Aside0.mk hR
  clear hg hR hB1 hK1 hys hba HW HB
  go_wp2_with ((with_reducible refine gate_builtin (b := .append) (xs := #[.tmp 13, .tmp 14]) rfl ?_); at_builtin; refine print_append_str (w0 := w0) w0.heap.size rfl (.tmp 13) (.tmp 14) 74 9 5 rfl Tryd.underlying74 Tryd.underlying9 info5 v ys s rfl rfl (Kd.own_of_R HR.out) HB1.out HB1.out.size (by have := HYL.out; have := HS.out; omega) ?_; intro v1 w9 ho hb hg; replace ho : Kd.R (Kd.int .u8) 5 w9 w0.heap.size (fun _ => True) v1 (ys ++ bytesOf s) := Kd.R_of_own ho (fun _ _ => trivial); obtain ⟨A1, c1, rfl⟩ := Kd.R_slice ho; obtain ⟨len, hlen⟩ : ∃ len, (ys ++ bytesOf s).length = len := ⟨_, rfl⟩; rw [hlen] at ho ⊢; have HK9 := Aside0.mk (HK1.out.grown HR.out hg); have hG9 := blk_grown HG.out hg (Kd.R_ne HR.out HG.out (by decide)); have q9 : w9.cell? ⟨g, 0, none⟩ = some v := (blk_cell hG9 0).trans rfl; have f9 := blk_frozen hG9 0; have HG9 := Aside0.mk hG9; have HR9 := Aside0.mk ho; have HB9 := Aside0.mk hb; clear ho hb hg hG9 HR HG HB1 HK1 q1 hlen)
  go_end0
  refine ⟨rfl, ⟨hbg, _, (blk_set HG9.out 0 _).trans rfl, ?_⟩, below_set HB9.out hbg, HK9.out.set _⟩
  rw [HYS.out]
  exact Kd.R_set HR9.out HG9.out (by decide) 0 _
end Go.Proofs.YtjgccbpdpnpfjaaDoor.ST
