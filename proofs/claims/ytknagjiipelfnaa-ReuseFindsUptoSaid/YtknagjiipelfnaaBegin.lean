/- reuse: the state ahead of a text, as bytes: the program's and the document's. -/
import Derived.Test.YtknagjiipelfnaaQa
import Derived.Test.YtknagjiipelfnaaQe
import Derived.BigQuiet
import Derived.Deep.DeepCutAuto
namespace Go.Proofs.Ytknagjiipelfnaa.RU
open Go.RowKit Go.WideShapes Go.ChangeShapes Go.Proofs.YtknagjiipelfnaaW.PrintWords Go.Proofs.YtknagjiipelfnaaW.PrintLast Go.Proofs.YtknagjiipelfnaaW.PrintMore Go.Proofs.Ytknagjiipelfnaa.PAll
set_option linter.unusedVariables false

abbrev T : Nat → Prop := fun _ => True
abbrev ST0 : Value := .agg #[.slice none 0 0, .int .i64 (-1), .slice none 0 0, .slice none 0 0, .int .u16 0]
abbrev C106 : Obj := .cells #[.slice none 0 0, .int .i64 (-1), .slice none 0 0, .slice none 0 0, .int .u16 0] 106 (0, 0)
abbrev startB : ByteArray := ⟨#[83, 0, 0, 0, 0, 0]⟩
set_option maxRecDepth 100000 in
set_option maxHeartbeats 4000000 in
theorem Start_calls (w : World) : Calls Try.prog 43 #[] w fun e w' => e = .returned ST0 ∧ Below w.heap.size w w' := by
  have hu106 := Try.underlying106
  have HB := Aside0.mk (Below.refl w.heap.size w)
  go_enter Try.func43, Try.ntmps43
  go_wp2_with (first | ((with_reducible refine gate_dst (N := 0) rfl ?_); refine box_event ?hg (N := 0) ?hd (cs := #[.slice none 0 0, .int .i64 0, .slice none 0 0, .slice none 0 0, .int .u16 0]) (t := 106) ?hr ?_; (case hd => rfl); (case hg => rfl); (case hr => first | (go_simp; done) | (go_simp; rfl)); intro gb338 hg w1 hbox hb; have n0_ := Aside0.mk (below_step (by repeat (first | (with_reducible first | exact HB.out | apply below_alloc | apply pw_below_drewN | apply below_drew1) | exact HB.out)) hb); have n1_ := Aside0.mk (hbox); have n2_ := Aside0.mk ((by rw [hg]; exact (below_size (by repeat (first | (with_reducible first | exact HB.out | apply below_alloc | apply pw_below_drewN | apply below_drew1) | exact HB.out))) : w.heap.size ≤ gb338)); have n3_ := Aside0.mk ((by rw [hg]; exact (below_size (by repeat (first | (with_reducible first | exact HB.out | apply below_alloc | apply pw_below_drewN | apply below_drew1) | exact HB.out))) : w.heap.size ≤ gb338)); clear HB; have HB := n0_; have BK338 := n1_; have GW338 := n2_; have GE338 := n3_; clear n0_ n1_ n2_ n3_; clear hb hbox hg; have hcz2_0 : w1.cell? ⟨gb338, 0, none⟩ = some (.slice none 0 0) := (blk_cell BK338.out 0).trans rfl; have hcz2_1 : w1.cell? ⟨gb338, 1, none⟩ = some (.int .i64 0) := (blk_cell BK338.out 1).trans rfl; have hcz2_2 : w1.cell? ⟨gb338, 2, none⟩ = some (.slice none 0 0) := (blk_cell BK338.out 2).trans rfl; have hcz2_3 : w1.cell? ⟨gb338, 3, none⟩ = some (.slice none 0 0) := (blk_cell BK338.out 3).trans rfl; have hcz2_4 : w1.cell? ⟨gb338, 4, none⟩ = some (.int .u16 0) := (blk_cell BK338.out 4).trans rfl; have hfz2_0 := blk_frozen BK338.out 0; have hfz2_1 := blk_frozen BK338.out 1; have hfz2_2 := blk_frozen BK338.out 2; have hfz2_3 := blk_frozen BK338.out 3; have hfz2_4 := blk_frozen BK338.out 4))
  refine bodyPost_ret (results_cell_row rfl _ _ gb338 106 #[.slice none 0 0, .int .i64 (-1), .slice none 0 0, .slice none 0 0, .int .u16 0] (0, 0) _ rfl (by (with_reducible repeat (first | refine blk_drewN ?_ _ | refine blk_drew ?_ | refine blk_alloc ?_ _)); refine blk_put (cs := #[.slice none 0 0, .int .i64 (-1), .slice none 0 0, .slice none 0 0, .int .u16 0]) ?_ 4 _ rfl; (with_reducible repeat (first | refine blk_drewN ?_ _ | refine blk_drew ?_ | refine blk_alloc ?_ _)); refine blk_put (cs := #[.slice none 0 0, .int .i64 (-1), .slice none 0 0, .slice none 0 0, .int .u16 0]) ?_ 3 _ rfl; (with_reducible repeat (first | refine blk_drewN ?_ _ | refine blk_drew ?_ | refine blk_alloc ?_ _)); refine blk_put (cs := #[.slice none 0 0, .int .i64 (-1), .slice none 0 0, .slice none 0 0, .int .u16 0]) ?_ 2 _ rfl; (with_reducible repeat (first | refine blk_drewN ?_ _ | refine blk_drew ?_ | refine blk_alloc ?_ _)); refine blk_put (cs := #[.slice none 0 0, .int .i64 0, .slice none 0 0, .slice none 0 0, .int .u16 0]) ?_ 1 _ rfl; (with_reducible repeat (first | refine blk_drewN ?_ _ | refine blk_drew ?_ | refine blk_alloc ?_ _)); refine blk_put (cs := #[.slice none 0 0, .int .i64 0, .slice none 0 0, .slice none 0 0, .int .u16 0]) ?_ 0 _ rfl; (with_reducible repeat (first | refine blk_drewN ?_ _ | refine blk_drew ?_ | refine blk_alloc ?_ _)); exact BK338.out) Try.underlying106 rfl (by kernel_rfl)) rfl ?_
  exact ⟨rfl, by repeat (first | (with_reducible first | exact HB.out | apply below_alloc | apply pw_below_drewN | apply below_drew1 | refine below_set ?_ GE338.out) | exact HB.out)⟩
set_option maxRecDepth 100000 in
set_option maxHeartbeats 4000000 in
theorem RStart_calls (w : World) : Calls Try.prog 73 #[] w fun e w' => e = .returned ST0 ∧ Below w.heap.size w w' := by
  have hu106 := Try.underlying106
  have HB := Aside0.mk (Below.refl w.heap.size w)
  go_enter Try.func73, Try.ntmps73
  go_wp2_with (first | ((with_reducible refine gate_dst (N := 0) rfl ?_); refine box_event ?hg (N := 0) ?hd (cs := #[.slice none 0 0, .int .i64 0, .slice none 0 0, .slice none 0 0, .int .u16 0]) (t := 106) ?hr ?_; (case hd => rfl); (case hg => rfl); (case hr => first | (go_simp; done) | (go_simp; rfl)); intro gb369 hg w1 hbox hb; have n0_ := Aside0.mk (below_step (by repeat (first | (with_reducible first | exact HB.out | apply below_alloc | apply pw_below_drewN | apply below_drew1) | exact HB.out)) hb); have n1_ := Aside0.mk (hbox); have n2_ := Aside0.mk ((by rw [hg]; exact (below_size (by repeat (first | (with_reducible first | exact HB.out | apply below_alloc | apply pw_below_drewN | apply below_drew1) | exact HB.out))) : w.heap.size ≤ gb369)); have n3_ := Aside0.mk ((by rw [hg]; exact (below_size (by repeat (first | (with_reducible first | exact HB.out | apply below_alloc | apply pw_below_drewN | apply below_drew1) | exact HB.out))) : w.heap.size ≤ gb369)); clear HB; have HB := n0_; have BK369 := n1_; have GW369 := n2_; have GE369 := n3_; clear n0_ n1_ n2_ n3_; clear hb hbox hg; have hcz2_0 : w1.cell? ⟨gb369, 0, none⟩ = some (.slice none 0 0) := (blk_cell BK369.out 0).trans rfl; have hcz2_1 : w1.cell? ⟨gb369, 1, none⟩ = some (.int .i64 0) := (blk_cell BK369.out 1).trans rfl; have hcz2_2 : w1.cell? ⟨gb369, 2, none⟩ = some (.slice none 0 0) := (blk_cell BK369.out 2).trans rfl; have hcz2_3 : w1.cell? ⟨gb369, 3, none⟩ = some (.slice none 0 0) := (blk_cell BK369.out 3).trans rfl; have hcz2_4 : w1.cell? ⟨gb369, 4, none⟩ = some (.int .u16 0) := (blk_cell BK369.out 4).trans rfl; have hfz2_0 := blk_frozen BK369.out 0; have hfz2_1 := blk_frozen BK369.out 1; have hfz2_2 := blk_frozen BK369.out 2; have hfz2_3 := blk_frozen BK369.out 3; have hfz2_4 := blk_frozen BK369.out 4))
  refine bodyPost_ret (results_cell_row rfl _ _ gb369 106 #[.slice none 0 0, .int .i64 (-1), .slice none 0 0, .slice none 0 0, .int .u16 0] (0, 0) _ rfl (by (with_reducible repeat (first | refine blk_drewN ?_ _ | refine blk_drew ?_ | refine blk_alloc ?_ _)); refine blk_put (cs := #[.slice none 0 0, .int .i64 (-1), .slice none 0 0, .slice none 0 0, .int .u16 0]) ?_ 4 _ rfl; (with_reducible repeat (first | refine blk_drewN ?_ _ | refine blk_drew ?_ | refine blk_alloc ?_ _)); refine blk_put (cs := #[.slice none 0 0, .int .i64 (-1), .slice none 0 0, .slice none 0 0, .int .u16 0]) ?_ 3 _ rfl; (with_reducible repeat (first | refine blk_drewN ?_ _ | refine blk_drew ?_ | refine blk_alloc ?_ _)); refine blk_put (cs := #[.slice none 0 0, .int .i64 (-1), .slice none 0 0, .slice none 0 0, .int .u16 0]) ?_ 2 _ rfl; (with_reducible repeat (first | refine blk_drewN ?_ _ | refine blk_drew ?_ | refine blk_alloc ?_ _)); refine blk_put (cs := #[.slice none 0 0, .int .i64 0, .slice none 0 0, .slice none 0 0, .int .u16 0]) ?_ 1 _ rfl; (with_reducible repeat (first | refine blk_drewN ?_ _ | refine blk_drew ?_ | refine blk_alloc ?_ _)); refine blk_put (cs := #[.slice none 0 0, .int .i64 0, .slice none 0 0, .slice none 0 0, .int .u16 0]) ?_ 0 _ rfl; (with_reducible repeat (first | refine blk_drewN ?_ _ | refine blk_drew ?_ | refine blk_alloc ?_ _)); exact BK369.out) Try.underlying106 rfl (by kernel_rfl)) rfl ?_
  exact ⟨rfl, by repeat (first | (with_reducible first | exact HB.out | apply below_alloc | apply pw_below_drewN | apply below_drew1 | refine below_set ?_ GE369.out) | exact HB.out)⟩
set_option maxRecDepth 100000 in
set_option maxHeartbeats 4000000 in
theorem Shaped_calls (w : World) : Calls Try.prog 71 #[ST0] w fun e w' => e = .returned (.bool true) ∧ Below w.heap.size w w' := by
  have HB := Aside0.mk (below_alloc (Below.refl w.heap.size w) C106)
  go_enter Try.func71, Try.ntmps71
  go_wp2_with fail
  refine wp_loop_rounds 1 ?_
  rw [rounds_succ]
  go_wp2_with fail
  refine wp_loop_rounds 1 ?_
  rw [rounds_succ]
  go_wp2_with fail
  refine wp_loop_rounds 1 ?_
  rw [rounds_succ]
  go_wp2_with fail
  go_ret
  exact ⟨rfl, HB.out⟩
set_option maxRecDepth 100000 in
set_option maxHeartbeats 4000000 in
theorem RShaped_calls (w : World) : Calls Try.prog 85 #[ST0] w fun e w' => e = .returned (.bool true) ∧ Below w.heap.size w w' := by
  have HB := Aside0.mk (below_alloc (Below.refl w.heap.size w) C106)
  go_enter Try.func85, Try.ntmps85
  go_wp2_with fail
  refine wp_loop_rounds 1 ?_
  rw [rounds_succ]
  go_wp2_with fail
  refine wp_loop_rounds 1 ?_
  rw [rounds_succ]
  go_wp2_with fail
  refine wp_loop_rounds 1 ?_
  rw [rounds_succ]
  go_wp2_with fail
  go_ret
  exact ⟨rfl, HB.out⟩
theorem put_calls (l : List Int) (v : Value) (g : Nat) (w0 w : World) (hB : Below w0.heap.size w0 w) (hR : Kd.R (Kd.int .u8) 5 w w0.heap.size (fun k => k ≠ g) v l) (hl : l.length ≤ 100) :
    Calls Try.prog 84 #[v, .int .i64 0] w fun e w' => ∃ v', e = .returned v' ∧ Kd.R (Kd.int .u8) 5 w' w0.heap.size T v' (l ++ [0]) ∧ Below w0.heap.size w0 w' ∧ (∀ o, w.heap[g]? = some o → w'.heap[g]? = some o) := by
  refine (state_put.calls 1 (fun k => k ≠ g) v l 0 (l ++ [0]) w0 w hB hR ?_).mono ?_
  · unfold state_put.f
    rw [state_put.l0, if_neg (by omega), if_pos (by omega)]
    rfl
  · rintro e w' ⟨v', rfl, h1, h2, h3⟩
    exact ⟨v', rfl, Kd.R_mono h1 (fun _ _ => trivial), h2, fun o ho => blk_kept ho h3 (fun h => h rfl)⟩
set_option maxRecDepth 100000 in
set_option maxHeartbeats 4000000 in
theorem write0_calls (l : List Int) (v : Value) (w0 w : World) (hB : Below w0.heap.size w0 w) (hR : Kd.R (Kd.int .u8) 5 w w0.heap.size T v l) (hl : l.length ≤ 100) :
    Calls Try.prog 72 #[v, .int .i64 0, ST0] w fun e w' => ∃ v', e = .returned v' ∧ Kd.R (Kd.int .u8) 5 w' w0.heap.size T v' (l ++ [0]) ∧ Below w0.heap.size w0 w' := by
  have hba : Below w.heap.size w (w.alloc C106) := below_alloc (Below.refl _ _) _
  have HB := Aside0.mk (below_then hB hB.size hba)
  have HR := Aside0.mk (Kd.R_below (Kd.R_mono (Kd.R_bound hR) (ok' := fun k => k ≠ w.heap.size) (fun k hk => by have := hk.2.2.1; omega)) hba)
  have HL := Aside0.mk hl
  have K := Aside0.mk (heap_alloc_new w C106)
  clear hB hR hl hba
  go_enter Try.func72, Try.ntmps72
  go_wp2_with fail
  refine (put_calls l v _ w0 _ HB.out HR.out HL.out).mono ?_
  rintro e w1 ⟨v1, rfl, hR1, hB1, hk1⟩
  have k1 := hk1 _ K.out
  have q0 := blk_cell k1 0
  have q2 := blk_cell k1 2
  have q3 := blk_cell k1 3
  clear k1 hk1
  have HB1 := Aside0.mk hB1
  have HR1 := Aside0.mk hR1
  have k0 : True := trivial
  clear hR1 hB1
  go_wp2_with fail
  refine wp_loop_rounds 1 ?_
  rw [rounds_succ]
  go_wp2_with fail
  go_ret
  exact ⟨_, rfl, HR1.out, HB1.out⟩
set_option maxRecDepth 100000 in
set_option maxHeartbeats 4000000 in
theorem write1_calls (l : List Int) (v : Value) (w0 w : World) (hB : Below w0.heap.size w0 w) (hR : Kd.R (Kd.int .u8) 5 w w0.heap.size T v l) (hl : l.length ≤ 100) :
    Calls Try.prog 72 #[v, .int .i64 1, ST0] w fun e w' => ∃ v', e = .returned v' ∧ Kd.R (Kd.int .u8) 5 w' w0.heap.size T v' (l ++ [0]) ∧ Below w0.heap.size w0 w' := by
  have hba : Below w.heap.size w (w.alloc C106) := below_alloc (Below.refl _ _) _
  have HB := Aside0.mk (below_then hB hB.size hba)
  have HR := Aside0.mk (Kd.R_below (Kd.R_mono (Kd.R_bound hR) (ok' := fun k => k ≠ w.heap.size) (fun k hk => by have := hk.2.2.1; omega)) hba)
  have HL := Aside0.mk hl
  have K := Aside0.mk (heap_alloc_new w C106)
  clear hB hR hl hba
  go_enter Try.func72, Try.ntmps72
  go_wp2_with fail
  refine (put_calls l v _ w0 _ HB.out HR.out HL.out).mono ?_
  rintro e w1 ⟨v1, rfl, hR1, hB1, hk1⟩
  have k1 := hk1 _ K.out
  have q0 := blk_cell k1 0
  have q2 := blk_cell k1 2
  have q3 := blk_cell k1 3
  clear k1 hk1
  have HB1 := Aside0.mk hB1
  have HR1 := Aside0.mk hR1
  have k0 : True := trivial
  clear hR1 hB1
  go_wp2_with fail
  go_ret
  exact ⟨_, rfl, HR1.out, HB1.out⟩
set_option maxRecDepth 100000 in
set_option maxHeartbeats 4000000 in
theorem write2_calls (l : List Int) (v : Value) (w0 w : World) (hB : Below w0.heap.size w0 w) (hR : Kd.R (Kd.int .u8) 5 w w0.heap.size T v l) (hl : l.length ≤ 100) :
    Calls Try.prog 72 #[v, .int .i64 2, ST0] w fun e w' => ∃ v', e = .returned v' ∧ Kd.R (Kd.int .u8) 5 w' w0.heap.size T v' (l ++ [0]) ∧ Below w0.heap.size w0 w' := by
  have hba : Below w.heap.size w (w.alloc C106) := below_alloc (Below.refl _ _) _
  have HB := Aside0.mk (below_then hB hB.size hba)
  have HR := Aside0.mk (Kd.R_below (Kd.R_mono (Kd.R_bound hR) (ok' := fun k => k ≠ w.heap.size) (fun k hk => by have := hk.2.2.1; omega)) hba)
  have HL := Aside0.mk hl
  have K := Aside0.mk (heap_alloc_new w C106)
  clear hB hR hl hba
  go_enter Try.func72, Try.ntmps72
  go_wp2_with fail
  refine (put_calls l v _ w0 _ HB.out HR.out HL.out).mono ?_
  rintro e w1 ⟨v1, rfl, hR1, hB1, hk1⟩
  have k1 := hk1 _ K.out
  have q0 := blk_cell k1 0
  have q2 := blk_cell k1 2
  have q3 := blk_cell k1 3
  clear k1 hk1
  have HB1 := Aside0.mk hB1
  have HR1 := Aside0.mk hR1
  have k0 : True := trivial
  clear hR1 hB1
  go_wp2_with fail
  refine wp_loop_rounds 1 ?_
  rw [rounds_succ]
  go_wp2_with fail
  go_ret
  exact ⟨_, rfl, HR1.out, HB1.out⟩
set_option maxRecDepth 100000 in
set_option maxHeartbeats 4000000 in
theorem write3_calls (l : List Int) (v : Value) (w0 w : World) (hB : Below w0.heap.size w0 w) (hR : Kd.R (Kd.int .u8) 5 w w0.heap.size T v l) (hl : l.length ≤ 100) :
    Calls Try.prog 72 #[v, .int .i64 3, ST0] w fun e w' => ∃ v', e = .returned v' ∧ Kd.R (Kd.int .u8) 5 w' w0.heap.size T v' (l ++ [0]) ∧ Below w0.heap.size w0 w' := by
  have hba : Below w.heap.size w (w.alloc C106) := below_alloc (Below.refl _ _) _
  have HB := Aside0.mk (below_then hB hB.size hba)
  have HR := Aside0.mk (Kd.R_below (Kd.R_mono (Kd.R_bound hR) (ok' := fun k => k ≠ w.heap.size) (fun k hk => by have := hk.2.2.1; omega)) hba)
  have HL := Aside0.mk hl
  have K := Aside0.mk (heap_alloc_new w C106)
  clear hB hR hl hba
  go_enter Try.func72, Try.ntmps72
  go_wp2_with fail
  refine (put_calls l v _ w0 _ HB.out HR.out HL.out).mono ?_
  rintro e w1 ⟨v1, rfl, hR1, hB1, hk1⟩
  have k1 := hk1 _ K.out
  have q0 := blk_cell k1 0
  have q2 := blk_cell k1 2
  have q3 := blk_cell k1 3
  clear k1 hk1
  have HB1 := Aside0.mk hB1
  have HR1 := Aside0.mk hR1
  have k0 : True := trivial
  clear hR1 hB1
  go_wp2_with fail
  refine wp_loop_rounds 1 ?_
  rw [rounds_succ]
  go_wp2_with fail
  go_ret
  exact ⟨_, rfl, HR1.out, HB1.out⟩
set_option maxRecDepth 100000 in
set_option maxHeartbeats 4000000 in
theorem write4_calls (l : List Int) (v : Value) (w0 w : World) (hB : Below w0.heap.size w0 w) (hR : Kd.R (Kd.int .u8) 5 w w0.heap.size T v l) (hl : l.length ≤ 100) :
    Calls Try.prog 72 #[v, .int .i64 4, ST0] w fun e w' => ∃ v', e = .returned v' ∧ Kd.R (Kd.int .u8) 5 w' w0.heap.size T v' (l ++ [0]) ∧ Below w0.heap.size w0 w' := by
  have hba : Below w.heap.size w (w.alloc C106) := below_alloc (Below.refl _ _) _
  have HB := Aside0.mk (below_then hB hB.size hba)
  have HR := Aside0.mk (Kd.R_below (Kd.R_mono (Kd.R_bound hR) (ok' := fun k => k ≠ w.heap.size) (fun k hk => by have := hk.2.2.1; omega)) hba)
  have HL := Aside0.mk hl
  have K := Aside0.mk (heap_alloc_new w C106)
  clear hB hR hl hba
  go_enter Try.func72, Try.ntmps72
  go_wp2_with fail
  refine (put_calls l v _ w0 _ HB.out HR.out HL.out).mono ?_
  rintro e w1 ⟨v1, rfl, hR1, hB1, hk1⟩
  have k1 := hk1 _ K.out
  have q0 := blk_cell k1 0
  have q2 := blk_cell k1 2
  have q3 := blk_cell k1 3
  clear k1 hk1
  have HB1 := Aside0.mk hB1
  have HR1 := Aside0.mk hR1
  have k0 : True := trivial
  clear hR1 hB1
  go_wp2_with fail
  go_ret
  exact ⟨_, rfl, HR1.out, HB1.out⟩
/-- a row just made, of one element -/
theorem R_lit1 {α : Type} {d : Kd α} {e : Nat} (W : World) (cells : Array Value) (x : α) (hl : cells.size = d.sz) (hM : d.M W W.heap.size (fun _ => False) x cells.toList) : d.R e (W.alloc (.cells cells e)) W.heap.size T (.slice (some ⟨W.heap.size, 0, none⟩) 1 1) [x] := by
  refine ⟨fun _ _ => trivial, cells.toList, World.ownsRow_lit W cells 1 (Nat.le_refl _) (by unfold maxLen; omega) (by omega), ?_⟩
  have h0 : Reps (d.M (W.alloc (.cells cells e)) W.heap.size (fun k => T k ∧ some k ≠ (Value.slice (some ⟨W.heap.size, 0, none⟩) 1 1).ownBlock)) d.sz ([] ++ [x]) ([] ++ cells.toList) := Reps.snoc (Reps.none _ _) (d.M_mono (fun k hk => hk.elim) (Kd.M_below hM (below_alloc (Below.refl _ _) _))) (by simpa using hl)
  simpa using h0
def zeros (n : Nat) : List Int := 83 :: List.replicate n 0
theorem zeros_succ (n : Nat) : zeros n ++ [0] = zeros (n + 1) := by
  unfold zeros
  rw [List.replicate_succ', List.cons_append]
set_option maxRecDepth 100000 in
set_option maxHeartbeats 4000000 in
theorem Encode_calls (w : World) : Calls Try.prog 42 #[ST0] w fun e w' => e = .returned (.tuple #[.string startB, .int .i64 0]) ∧ Below w.heap.size w w' := by
  have hba : Below w.heap.size w (w.alloc C106) := below_alloc (Below.refl _ _) _
  have HB := Aside0.mk hba
  have K := Aside0.mk (heap_alloc_new w C106)
  clear hba
  go_enter Try.func42, Try.ntmps42
  go_wp2_with fail
  refine (Shaped_calls _).mono ?_
  rintro e w1 ⟨rfl, hB⟩
  have HB1 := Aside0.mk (below_then HB.out HB.out.size hB)
  have K1 := Aside0.mk ((hB.block _ (blk_lt K.out)).trans K.out)
  clear hB HB K
  go_wp2_with fail
  have hR := R_lit1 (d := Kd.int .u8) (e := 5) w1 #[.int .u8 83] (83 : Int) rfl rfl
  have hba : Below w1.heap.size w1 (w1.alloc (.cells #[.int .u8 83] 5)) := below_alloc (Below.refl _ _) _
  obtain ⟨w2, hw2⟩ : ∃ w2, w2 = w1.alloc (.cells #[.int .u8 83] 5) := ⟨_, rfl⟩
  rw [← hw2] at hR hba ⊢
  have HX2 := Aside0.mk hba
  have HR2 := Aside0.mk (show Kd.R (Kd.int .u8) 5 w2 w1.heap.size T (.slice (some ⟨w1.heap.size, 0, none⟩) 1 1) (zeros 0) from hR)
  clear hR hba hw2
  generalize Value.slice (some ⟨w1.heap.size, 0, none⟩) 1 1 = v2 at HR2 ⊢
  refine wp_loop_rounds 6 ?_
  rw [rounds_succ]
  have k := (HX2.out.block _ (blk_lt K1.out)).trans K1.out
  have q0 := blk_cell k 0
  have q1 := blk_cell k 1
  have q2 := blk_cell k 2
  have q3 := blk_cell k 3
  have q4 := blk_cell k 4
  clear k
  go_wp2_with fail
  refine (write0_calls (zeros 0) v2 w1 w2 HX2.out HR2.out (by decide)).mono ?_
  rintro e w3 ⟨v3, rfl, hR, hB⟩
  have HX3 := Aside0.mk hB
  have HR3 := Aside0.mk (zeros_succ 0 ▸ hR)
  clear hB hR q0 q1 q2 q3 q4 HX2 HR2
  go_wp2_with fail
  rw [rounds_succ]
  have k := (HX3.out.block _ (blk_lt K1.out)).trans K1.out
  have q0 := blk_cell k 0
  have q1 := blk_cell k 1
  have q2 := blk_cell k 2
  have q3 := blk_cell k 3
  have q4 := blk_cell k 4
  clear k
  go_wp2_with fail
  refine (write1_calls (zeros 1) v3 w1 w3 HX3.out HR3.out (by decide)).mono ?_
  rintro e w4 ⟨v4, rfl, hR, hB⟩
  have HX4 := Aside0.mk hB
  have HR4 := Aside0.mk (zeros_succ 1 ▸ hR)
  clear hB hR q0 q1 q2 q3 q4 HX3 HR3
  go_wp2_with fail
  rw [rounds_succ]
  have k := (HX4.out.block _ (blk_lt K1.out)).trans K1.out
  have q0 := blk_cell k 0
  have q1 := blk_cell k 1
  have q2 := blk_cell k 2
  have q3 := blk_cell k 3
  have q4 := blk_cell k 4
  clear k
  go_wp2_with fail
  refine (write2_calls (zeros 2) v4 w1 w4 HX4.out HR4.out (by decide)).mono ?_
  rintro e w5 ⟨v5, rfl, hR, hB⟩
  have HX5 := Aside0.mk hB
  have HR5 := Aside0.mk (zeros_succ 2 ▸ hR)
  clear hB hR q0 q1 q2 q3 q4 HX4 HR4
  go_wp2_with fail
  rw [rounds_succ]
  have k := (HX5.out.block _ (blk_lt K1.out)).trans K1.out
  have q0 := blk_cell k 0
  have q1 := blk_cell k 1
  have q2 := blk_cell k 2
  have q3 := blk_cell k 3
  have q4 := blk_cell k 4
  clear k
  go_wp2_with fail
  refine (write3_calls (zeros 3) v5 w1 w5 HX5.out HR5.out (by decide)).mono ?_
  rintro e w6 ⟨v6, rfl, hR, hB⟩
  have HX6 := Aside0.mk hB
  have HR6 := Aside0.mk (zeros_succ 3 ▸ hR)
  clear hB hR q0 q1 q2 q3 q4 HX5 HR5
  go_wp2_with fail
  rw [rounds_succ]
  have k := (HX6.out.block _ (blk_lt K1.out)).trans K1.out
  have q0 := blk_cell k 0
  have q1 := blk_cell k 1
  have q2 := blk_cell k 2
  have q3 := blk_cell k 3
  have q4 := blk_cell k 4
  clear k
  go_wp2_with fail
  refine (write4_calls (zeros 4) v6 w1 w6 HX6.out HR6.out (by decide)).mono ?_
  rintro e w7 ⟨v7, rfl, hR, hB⟩
  have HX7 := Aside0.mk hB
  have HR7 := Aside0.mk (zeros_succ 4 ▸ hR)
  clear hB hR q0 q1 q2 q3 q4 HX6 HR6
  go_wp2_with fail
  rw [rounds_succ]
  obtain ⟨A, c, hv, _, hC⟩ := Kd.R_reads HR7.out
  subst hv
  have hcs := Kd.C_string (src := 148) (dst := 9) Try.underlying148 Try.underlying5 Try.underlying9 (c := c) hC
  have HF := Aside0.mk (below_then HB1.out HB1.out.size HX7.out)
  clear hC HR7 HX7 HB1
  go_wp2_with fail
  go_ret2
  exact ⟨rfl, HF.out⟩
end Go.Proofs.Ytknagjiipelfnaa.RU
