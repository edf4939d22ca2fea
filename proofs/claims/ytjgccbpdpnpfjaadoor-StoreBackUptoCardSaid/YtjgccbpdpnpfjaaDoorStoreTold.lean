/- errors.Is of a *api.Broken and its own code; told. -/
import Derived.Test.YtjgccbpdpnpfjaaDoorStoreAs
import Derived.Test.YtjgccbpdpnpfjaaDoorStoreList
import Derived.BigQuiet
namespace Go.Proofs.YtjgccbpdpnpfjaaDoor.ST
open Go.RowKit Go.Extern.Stop Go.Stop Go.Extern Go.Proofs.YtjgccbpdpnpfjaaDoorW.PrintWords
set_option linter.unusedVariables false

theorem told_unwrap (ge : Nat) (c : Int) (w : World) (h : w.cell? ⟨ge, 0, none⟩ = some (.int .i64 c)) : Calls Tryd.prog 69 #[.pointer (some ⟨ge, 0, none⟩)] w fun e w' => e = .returned (.iface 22 (.int .i64 c)) ∧ w' = w := by
  go_enter Tryd.func69, Tryd.ntmps69
  go_wp2
  go_ret
  exact ⟨rfl, rfl⟩
theorem tas_methodUnwrap (h : Value) (w : World) : (Go.method 243 63 h "Unwrap").run Tryd.prog w = .ok (69, h) w := by kernel_rfl
theorem tas_typeOf22 (v : Value) (w : World) : (ReflectliteType.typeOf #[.iface 22 v]).run Tryd.prog w = .ok (.iface 100 (.agg #[.pointer (some ⟨1, 22, none⟩)])) w := by kernel_rfl
theorem tas_methodComparable (h : Value) (w : World) : (Go.method 243 100 (.agg #[h]) "Comparable").run Tryd.prog w = .ok (75, .agg #[h]) w := by kernel_rfl

theorem tas_comparable22 (w : World) : (ReflectliteType.method (fun t => do Rtype.noPackHeld "Comparable" t; (fun a => Value.bool a.comparable) <$> typeInfo t) #[.agg #[.pointer (some ⟨1, 22, none⟩)]]).run Tryd.prog w = .ok (.bool true) w := by kernel_rfl
theorem tas_ne (a : Addr) (c : Int) (w : World) : (binOp .eql 30 (.iface 63 (.pointer (some a))) (.iface 22 (.int .i64 c))).run Tryd.prog w = .ok (.bool false) w := by kernel_rfl
theorem tas_as112 (a : Addr) (w : World) : (Instr.typeAssert (.iface 63 (.pointer (some a))) 30 112 true).run Tryd.prog w = .ok (.tuple #[.nilIface, .bool false]) w := run_typeAssert_lacksB Tryd.underlying112 (by kernel_rfl) (by kernel_rfl) _ _ w
theorem tas_as107 (a : Addr) (w : World) : (Instr.typeAssert (.iface 63 (.pointer (some a))) 30 107 true).run Tryd.prog w = .ok (.tuple #[.iface 63 (.pointer (some a)), .bool true]) w := by kernel_rfl
theorem tas_eq0 (c : Int) (w : World) : (binOp .eql 30 (.iface 22 (.int .i64 c)) (.iface 22 (.int .i64 c))).run Tryd.prog w = .ok (.bool (c == c)) w := by kernel_rfl
theorem tas_eq (c : Int) (w : World) : (binOp .eql 30 (.iface 22 (.int .i64 c)) (.iface 22 (.int .i64 c))).run Tryd.prog w = .ok (.bool true) w := by
  rw [tas_eq0]
  simp
set_option maxRecDepth 100000 in
set_option maxHeartbeats 4000000 in
theorem is_in (ge : Nat) (c : Int) (w : World) (h : w.cell? ⟨ge, 0, none⟩ = some (.int .i64 c)) :
    Calls Tryd.prog 43 #[.iface 63 (.pointer (some ⟨ge, 0, none⟩)), .iface 22 (.int .i64 c), .bool true] w fun e w' => e = .returned (.bool true) ∧ w' = w := by
  have mU := tas_methodUnwrap
  have nE := tas_ne
  have nQ := tas_eq
  have a1 := tas_as112
  have a2 := tas_as107
  go_enter Tryd.func43, Tryd.ntmps43
  go_wp2_with fail
  refine wp_loop_rounds 2 ?_
  rw [rounds_succ]
  go_wp2_with (first | (go_at_call 69; refine (told_unwrap ge c _ h).mono ?_; rintro e w' ⟨rfl, rfl⟩))
  rw [rounds_succ]
  go_wp2_with fail
  go_ret
  exact ⟨rfl, rfl⟩
set_option maxRecDepth 100000 in
set_option maxHeartbeats 4000000 in
theorem is_hit (ge : Nat) (c : Int) (w : World) (h : w.cell? ⟨ge, 0, none⟩ = some (.int .i64 c)) :
    Calls Tryd.prog 26 #[.iface 63 (.pointer (some ⟨ge, 0, none⟩)), .iface 22 (.int .i64 c)] w fun e w' => e = .returned (.bool true) ∧ w' = w := by
  have h42 := @run_callFunc_extern Tryd.prog 42 _ ReflectliteType.typeOf Tryd.func42 (by kernel_rfl) (by kernel_rfl) (by kernel_rfl) (by kernel_rfl)
  have h75 := @run_callFunc_extern Tryd.prog 75 _ (ReflectliteType.method fun t => do Rtype.noPackHeld "Comparable" t; pure (.bool (← typeInfo t).comparable)) Tryd.func75 (by kernel_rfl) (by kernel_rfl) (by kernel_rfl) (by kernel_rfl)
  have tO := tas_typeOf22
  have mC := tas_methodComparable
  have c22 := tas_comparable22
  have mU := tas_methodUnwrap
  go_enter Tryd.func26, Tryd.ntmps26
  go_wp2_with (first | (go_at_call 43; refine (is_in ge c _ h).mono ?_; rintro e w' ⟨rfl, rfl⟩))
  go_ret
  exact ⟨rfl, rfl⟩
theorem told_nil (w : World) : Calls Tryd.prog 9 #[.nilIface] w fun e w' => e = .returned (.tuple #[.int .i64 0, .int .i64 0]) ∧ w' = w := by
  go_enter Tryd.func9, Tryd.ntmps9
  go_wp2
  go_ret2
  exact ⟨rfl, rfl⟩
/-- errors.As of an error of that very type: the place holds it, all else stays. -/
theorem as_hit' (ge g4 : Nat) (w : World) (hg : w.cell? ⟨0, 0, none⟩ = some (.iface 100 (.agg #[.pointer (some ⟨1, 30, none⟩)]))) (ht : w.heap[g4]? = some (.cells #[.pointer none] 63 (0, 0))) :
    Calls Tryd.prog 25 #[.iface 63 (.pointer (some ⟨ge, 0, none⟩)), .iface 67 (.pointer (some ⟨g4, 0, none⟩))] w fun e w' => e = .returned (.bool true) ∧ w'.heap[g4]? = some (.cells #[.pointer (some ⟨ge, 0, none⟩)] 63 (0, 0)) ∧ Below g4 w w' := by
  have hlt := blk_lt ht
  refine (as_hit ⟨ge, 0, none⟩ ⟨g4, 0, none⟩ (.pointer none) w hg ((blk_cell ht 0).trans rfl) (blk_frozen ht 0)).mono ?_
  rintro e w' ⟨rfl, rfl⟩
  refine ⟨rfl, blk_put (cs := #[.pointer none]) ?_ 0 _ rfl, ?_⟩
  · exact blk_alloc (blk_alloc (blk_alloc (blk_alloc ht _) _) _) _
  · exact Below.setCell (p := ⟨g4, 0, none⟩) (((((Below.refl g4 w).alloc (by omega) _).alloc (by simp; omega) _).alloc (by simp; omega) _).alloc (by simp; omega) _) (Nat.le_refl _) _
set_option maxRecDepth 100000 in
set_option maxHeartbeats 4000000 in
theorem told_err (ge : Nat) (c p : Int) (w : World) (hk : w.heap[ge]? = some (.cells #[.int .i64 c, .int .i64 p] 65 (0, 0))) (hg : w.cell? ⟨0, 0, none⟩ = some (.iface 100 (.agg #[.pointer (some ⟨1, 30, none⟩)]))) :
    Calls Tryd.prog 9 #[.iface 63 (.pointer (some ⟨ge, 0, none⟩))] w fun e w' => e = .returned (.tuple #[.int .i64 c, .int .i64 p]) ∧ Below w.heap.size w w' := by
  have hb := blk_lt hk
  have h0 : 0 < w.heap.size := by
    rcases Nat.eq_zero_or_pos w.heap.size with h0 | h
    · simp [World.cell?, h0] at hg
    · exact h
  have hgA : (w.alloc (.cells #[.pointer none] 63)).cell? ⟨0, 0, none⟩ = some (.iface 100 (.agg #[.pointer (some ⟨1, 30, none⟩)])) := by
    rw [World.cell?_alloc_lt _ _ ⟨0, 0, none⟩ h0]; exact hg
  have HA := Aside0.mk hgA
  have HT := Aside0.mk (heap_alloc_new w (.cells #[.pointer none] 63 (0, 0)))
  have HK := Aside0.mk hk
  have HBL := Aside0.mk hb
  clear hgA hk hg h0 hb
  go_enter Tryd.func9, Tryd.ntmps9
  go_wp2_with fail
  refine (as_hit' ge w.heap.size _ HA.out HT.out).mono ?_
  rintro e w1 ⟨rfl, h4, hB⟩
  have HB1 : Aside0 (Below w.heap.size w w1) := ⟨(below_alloc (Below.refl w.heap.size w) (.cells #[.pointer none] 63 (0, 0))).trans hB⟩
  have HK1 : Aside0 (w1.heap[ge]? = some (.cells #[.int .i64 c, .int .i64 p] 65 (0, 0))) := ⟨(HB1.out.block _ HBL.out).trans HK.out⟩
  have z4 : w1.cell? ⟨w.heap.size, 0, none⟩ = some (.pointer (some ⟨ge, 0, none⟩)) := (blk_cell h4 0).trans rfl
  have z0 : w1.cell? ⟨ge, 0, none⟩ = some (.int .i64 c) := (blk_cell HK1.out 0).trans rfl
  have z1 : w1.cell? ⟨ge, 1, none⟩ = some (.int .i64 p) := (blk_cell HK1.out 1).trans rfl
  clear h4 hB HA HT HK
  go_wp2_with fail
  refine (is_hit ge c _ z0).mono ?_
  rintro e w2 ⟨rfl, rfl⟩
  go_wp2_with fail
  repeat (go_quiet (fail); try go_wp2)
  go_ret2
  exact ⟨rfl, by repeat (first | exact HB1.out | apply pw_below_drewN)⟩
end Go.Proofs.YtjgccbpdpnpfjaaDoor.ST
