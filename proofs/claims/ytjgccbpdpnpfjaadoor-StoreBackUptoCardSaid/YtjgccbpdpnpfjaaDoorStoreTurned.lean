/- store: a byte of a text turned into another: the walk of 'turned'. -/
import Derived.Test.YtjgccbpdpnpfjaaDoorStoreWh
import Derived.Test.YtjgccbpdpnpfjaaDoorSched
namespace Go.Proofs.YtjgccbpdpnpfjaaDoor.ST
open Go.RowKit Go.Proofs.YtjgccbpdpnpfjaaDoorW.PrintWords Go.Proofs.YtjgccbpdpnpfjaaDoorW.PrintLast Go.Proofs.YtjgccbpdpnpfjaaDoorW.PrintMore Go.Proofs.YtjgccbpdpnpfjaaDoor.PAll Go.Proofs.YtjgccbpdpnpfjaaDoor.Sched
set_option linter.unusedVariables false
set_option linter.unusedSimpArgs false
attribute [local go_sem] calmAt calmUpon

theorem one_reads {w : World} {g : Nat} {z : Int} (hg : w.heap[g]? = some (.cells #[.int .u8 z] 5 (0, 0))) : ReadsInt w .u8 (some ⟨g, 0, none⟩) 1 [z] := by
  refine ⟨rfl, by omega, fun _ => ⟨_, rfl, fun j hj => ?_⟩⟩
  rw [Go.Proofs.YtjgccbpdpnpfjaaDoorW.PrintWords.add_plain, blk_cell hg j]
  match j, hj with
  | 0, _ => rfl
def turnI (s : ByteArray) (a y : Int) : ByteArray := s.extract 0 a.toNat ++ strOfNums [(bt s a + y) % 256] ++ s.extract (a + 1).toNat s.size
set_option maxRecDepth 100000 in
set_option maxHeartbeats 4000000 in
theorem turned_yes (s : ByteArray) (a y : Int) (w : World) (hs : s.size ≤ 1073741824) (h0 : 0 ≤ a) (h1 : a < (s.size : Int)) (hy : y ≠ 0) :
    Calls Tryd.prog 16 #[.string s, .int .i64 a, .int .u8 y] w fun e w' => e = .returned (.tuple #[.string (turnI s a y), .bool true]) ∧ Below w.heap.size w w' := by
  have b0 : decide (a < 0) = false := decide_eq_false (by omega)
  have b1 : decide ((s.size : Int) ≤ a) = false := decide_eq_false (by omega)
  have b2 : (y == 0) = false := beq_eq_false_iff_ne.mpr hy
  have b3 : (y != 0) = true := bne_iff_ne.mpr hy
  have b4 : (0 ≤ a) = True := eq_true h0
  have b5 : decide (0 ≤ a) = true := decide_eq_true h0
  have b6 : (a ≤ (s.size : Int)) = True := eq_true (by omega)
  have b7 : decide (a ≤ (s.size : Int)) = true := decide_eq_true (by omega)
  have b8 : (a < (s.size : Int)) = True := eq_true h1
  have b9 : decide (a < (s.size : Int)) = true := decide_eq_true h1
  have hx := bt_at s a
  obtain ⟨j, hj⟩ : ∃ j : Int, a + 1 = j := ⟨_, rfl⟩
  have hjw : IntKind.i64.wrap (a + 1) = j := by rw [← hj]; exact (i64_w _).trans (w64' (by omega) (by omega))
  have d0 : (0 ≤ j) = True := eq_true (by omega)
  have d1 : decide (0 ≤ j) = true := decide_eq_true (by omega)
  have d2 : (j ≤ (s.size : Int)) = True := eq_true (by omega)
  have d3 : decide (j ≤ (s.size : Int)) = true := decide_eq_true (by omega)
  have HJ := Aside0.mk hj
  have HS := Aside0.mk hs
  obtain ⟨y1, hy1⟩ : ∃ y1 : ByteArray, y1 = strOfNums [(bt s a + y) % 256] := ⟨_, rfl⟩
  obtain ⟨y0, hy0⟩ : ∃ y0 : Int, y0 = (bt s a + y) % 256 := ⟨_, rfl⟩
  have HY1 := Aside0.mk hy1
  have HZ1 : Aside0 (y1.size = 1) := ⟨by rw [hy1, strOfNums_size]; rfl⟩
  have HA1 : Aside0 (0 ≤ a ∧ a < (s.size : Int)) := ⟨h0, h1⟩
  have HY0 := Aside0.mk hy0
  clear hj hs hy1 hy0 h0 h1 hy
  go_enter Tryd.func16, Tryd.ntmps16
  go_wp2_with fail
  refine wp_region_run (by kernel_rfl) (by kernel_rfl) ?_
  refine Run.step (fun K hK => Good.fix off_nil ?_)
  apply Exists.intro
  refine ⟨fun w' hw' => ?_, ?_⟩
  · go_simp
    exact rfl
  go_simp
  refine hK _ _ ?_
  clear hK K
  refine Run.step (fun K hK => Good.fix off_nil ?_)
  apply Exists.intro
  refine ⟨fun w' hw' => ?_, ?_⟩
  · go_simp
    exact rfl
  go_simp
  refine hK _ _ ?_
  clear hK K
  refine Run.step (fun K hK => Good.fix off_nil ?_)
  apply Exists.intro
  refine ⟨fun w' hw' => ?_, ?_⟩
  · go_simp
    exact rfl
  go_simp
  refine hK _ _ ?_
  clear hK K
  refine Run.step (fun K hK => Good.fix off_nil ?_)
  apply Exists.intro
  refine ⟨fun w' hw' => ?_, ?_⟩
  · go_simp
    exact rfl
  go_simp
  refine hK _ _ ?_
  clear hK K
  refine Run.step (fun K hK => Good.fix off_nil ?_)
  apply Exists.intro
  refine ⟨fun w' hw' => ?_, ?_⟩
  · go_simp
    exact rfl
  go_simp
  refine hK _ _ ?_
  clear hK K
  refine Run.step (fun K hK => Good.fix off_nil ?_)
  apply Exists.intro
  refine ⟨fun w' hw' => ?_, ?_⟩
  · go_simp
    exact rfl
  go_simp
  refine hK _ _ ?_
  clear hK K
  refine Run.step (fun K hK => Good.fix off_nil ?_)
  apply Exists.intro
  refine ⟨fun w' hw' => ?_, ?_⟩
  · go_simp
    exact rfl
  go_simp
  refine hK _ _ ?_
  clear hK K
  refine Run.step (fun K hK => Good.fix off_nil ?_)
  apply Exists.intro
  refine ⟨fun w' hw' => ?_, ?_⟩
  · go_simp
    exact rfl
  go_simp
  refine hK _ _ ?_
  clear hK K
  refine Run.step (fun K hK => Good.fresh 29 (fun x w' => ∃ g, x = .slice (some ⟨g, 0, none⟩) 1 1 ∧ w'.heap[g]? = some (.cells #[.int .u8 y0] 5 (0, 0))) rfl rfl (by simp) ?_ ?_ ?_)
  · rintro x w' w'' ⟨g, rfl, hg⟩ hb
    exact ⟨g, rfl, (hb.block _ (blk_lt hg)).trans hg⟩
  · intro w' hw'
    go_simp
    exact ⟨_, _, ⟨rfl, rfl⟩, below_alloc (Below.refl _ _) _, w'.heap.size, rfl, by rw [HY0.out]; exact heap_alloc_new w' _⟩
  go_simp
  refine hK _ _ ?_
  clear hK K
  refine Run.step (fun K hK => Good.look 29 _ (List.mem_singleton.2 rfl) rfl (on_one (by kernel_rfl)) but_one ?_)
  refine ⟨.string y1, ?_, ?_⟩
  · rintro x w' hw' ⟨g, rfl, hg⟩
    have hcs := string_of_reads (src := 74) (dst := 9) (c := 1) Tryd.underlying74 Tryd.underlying5 Tryd.underlying9 (one_reads hg)
    rw [HY0.out, ← HY1.out] at hcs
    go_simp
  go_simp
  refine hK _ _ ?_
  clear hK K
  refine Run.step (fun K hK => Good.fix (off_one (by kernel_rfl)) ⟨.string (s.extract 0 a.toNat ++ y1), fun w' hw' => ?_, ?_⟩)
  · go_simp
    rw [if_neg (by have := HZ1.out; have := HS.out; have := HA1.out; omega)]
    exact ⟨rfl, rfl⟩
  go_simp
  refine hK _ _ ?_
  clear hK K
  refine Run.step (fun K hK => Good.fix (off_one (by kernel_rfl)) ?_)
  apply Exists.intro
  refine ⟨fun w' hw' => ?_, ?_⟩
  · go_simp
    exact rfl
  go_simp
  refine hK _ _ ?_
  clear hK K
  refine Run.step (fun K hK => Good.fix (off_one (by kernel_rfl)) ?_)
  apply Exists.intro
  refine ⟨fun w' hw' => ?_, ?_⟩
  · go_simp
    exact rfl
  go_simp
  refine hK _ _ ?_
  clear hK K
  refine Run.step (fun K hK => Good.fix (off_one (by kernel_rfl)) ?_)
  apply Exists.intro
  refine ⟨fun w' hw' => ?_, ?_⟩
  · go_simp
    exact rfl
  go_simp
  refine hK _ _ ?_
  clear hK K
  refine Run.step (fun K hK => Good.fix (off_one (by kernel_rfl)) ?_)
  apply Exists.intro
  refine ⟨fun w' hw' => ?_, ?_⟩
  · go_simp
    exact rfl
  go_simp
  refine hK _ _ ?_
  clear hK K
  refine Run.step (fun K hK => Good.fix (off_one (by kernel_rfl)) ⟨.string (s.extract 0 a.toNat ++ y1 ++ s.extract j.toNat s.size), fun w' hw' => ?_, ?_⟩)
  · go_simp
    rw [if_neg (by have := HZ1.out; have := HS.out; have := HA1.out; have := HJ.out; omega)]
    exact ⟨rfl, rfl⟩
  go_simp
  refine hK _ _ ?_
  clear hK K
  refine Run.step (fun K hK => Good.fix (off_one (by kernel_rfl)) ?_)
  apply Exists.intro
  refine ⟨fun w' hw' => ?_, ?_⟩
  · go_simp
    exact rfl
  go_simp
  refine hK _ _ ?_
  clear hK K
  refine Run.step (fun K hK => Good.fix (off_one (by kernel_rfl)) ?_)
  apply Exists.intro
  refine ⟨fun w' hw' => ?_, ?_⟩
  · go_simp
    exact rfl
  go_simp
  refine hK _ _ ?_
  clear hK K
  refine Run.nil ?_
  intro b w' hb hf
  obtain ⟨x, _, rfl⟩ := hf.one
  have HBX := Aside0.mk hb
  clear hb hf
  go_wp2
  go_ret2
  exact ⟨by unfold turnI; rw [HJ.out, ← HY1.out]; rfl, HBX.out⟩
theorem turned_no (s : ByteArray) (a y : Int) (w : World) (h : a < 0 ∨ (s.size : Int) ≤ a ∨ y = 0) :
    Calls Tryd.prog 16 #[.string s, .int .i64 a, .int .u8 y] w fun e w' => e = .returned (.tuple #[.string s, .bool false]) ∧ Below w.heap.size w w' := by
  have HB := Aside0.mk (Below.refl w.heap.size w)
  by_cases h0 : a < 0
  · have b0 : decide (a < 0) = true := decide_eq_true h0
    clear h h0
    go_enter Tryd.func16, Tryd.ntmps16
    go_wp2
    go_ret2
    exact ⟨rfl, HB.out⟩
  · have b0 : decide (a < 0) = false := decide_eq_false h0
    by_cases h1 : (s.size : Int) ≤ a
    · have b1 : decide ((s.size : Int) ≤ a) = true := decide_eq_true h1
      clear h h0 h1
      go_enter Tryd.func16, Tryd.ntmps16
      go_wp2
      go_ret2
      exact ⟨rfl, HB.out⟩
    · have b1 : decide ((s.size : Int) ≤ a) = false := decide_eq_false h1
      obtain rfl : y = 0 := by omega
      clear h h0 h1
      go_enter Tryd.func16, Tryd.ntmps16
      go_wp2
      go_ret2
      exact ⟨rfl, HB.out⟩
def turnOk (s : ByteArray) (a y : Int) : Bool := decide (0 ≤ a ∧ a < (s.size : Int) ∧ y ≠ 0)
def turnS (s : ByteArray) (a y : Int) : ByteArray := if turnOk s a y = true then turnI s a y else s
theorem turned_calls (s : ByteArray) (a y : Int) (w : World) (hs : s.size ≤ 1073741824) :
    Calls Tryd.prog 16 #[.string s, .int .i64 a, .int .u8 y] w fun e w' => e = .returned (.tuple #[.string (turnS s a y), .bool (turnOk s a y)]) ∧ Below w.heap.size w w' := by
  unfold turnS
  by_cases h : turnOk s a y = true
  · rw [if_pos h, h]
    unfold turnOk at h
    obtain ⟨h0, h1, h2⟩ := of_decide_eq_true h
    exact turned_yes s a y w hs h0 h1 h2
  · rw [if_neg h, Bool.eq_false_iff.2 h]
    unfold turnOk at h
    rw [decide_eq_true_eq] at h
    exact turned_no s a y w (by omega)
theorem bytes_ext0 (s : ByteArray) (n : Nat) (h : n ≤ s.size) : bytesOf (s.extract 0 n) = (bytesOf s).take n := by
  simp [bytesOf, h]
theorem bytes_extN (s : ByteArray) (n : Nat) : bytesOf (s.extract n s.size) = (bytesOf s).drop n := by
  simp [bytesOf]
  rw [List.take_of_length_le (by simp)]
theorem turn_chg {s : ByteArray} {a y : Int} (h : turnOk s a y = true) (hy0 : 0 ≤ y) (hy1 : y < 256) : Chg s (turnS s a y) := by
  unfold turnS
  rw [if_pos h]
  unfold turnOk at h
  obtain ⟨h0, h1, h2⟩ := of_decide_eq_true h
  obtain ⟨n, rfl⟩ := Int.eq_ofNat_of_zero_le h0
  obtain ⟨m, rfl⟩ := Int.eq_ofNat_of_zero_le hy0
  have hn : n < s.size := by omega
  have hl : n < (bytesOf s).length := by rw [bytesOf_length]; exact hn
  have hb : (bytesOf s)[n] = (nb s n : Int) := by
    have := bytes_get s n
    rwa [List.getD_eq_getElem?_getD, List.getElem?_eq_getElem hl, Option.getD_some] at this
  have hlt := nb_lt s n
  refine ⟨(bytesOf s).take n, (nb s n : Int), (bt s n + (m : Int)) % 256, (bytesOf s).drop (n + 1), ?_, ?_, ?_⟩
  · rw [← hb, List.getElem_cons_drop, List.take_append_drop]
  · unfold turnI
    have e1 : ((n : Int) + 1).toNat = n + 1 := by omega
    have e2 : (n : Int).toNat = n := rfl
    rw [e1, bytesOf_append, bytesOf_append, byte_str _ (by intro z hz; rw [List.mem_singleton.1 hz]; omega), bytes_extN]
    show bytesOf (s.extract 0 n) ++ _ ++ _ = _
    rw [bytes_ext0 s n (by omega)]
    simp
  · rw [bt_nb]
    omega
end Go.Proofs.YtjgccbpdpnpfjaaDoor.ST
