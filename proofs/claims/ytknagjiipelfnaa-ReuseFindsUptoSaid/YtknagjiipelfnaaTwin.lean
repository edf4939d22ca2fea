/- trellislaw17: twin (a copy of the leaves), started (no idle program). -/
import Derived.Test.YtknagjiipelfnaaONew
import Derived.Test.YtknagjiipelfnaaOFind
import Derived.Test.YtknagjiipelfnaaQb
namespace Go.Proofs.Ytknagjiipelfnaa.RU
open Go.RowKit Go.WideShapes Go.ChangeShapes Go.Proofs.YtknagjiipelfnaaW.PrintWords Go.Proofs.YtknagjiipelfnaaW.PrintLast Go.Proofs.YtknagjiipelfnaaW.PrintMore Go.Proofs.Ytknagjiipelfnaa.PAll
set_option linter.unusedVariables false

theorem twin_l0 (xs : List S68) (hl : xs.length ≤ 1048576) : ∀ (d i k : Nat), i + d = xs.length → d < k → trellislaw17_twin.l0 k xs (i : Int) 0 0 0 (xs.take i) 0 = some (0, 0, 0, xs, [], 0) := by
  intro d
  induction d with
  | zero =>
    intro i k hi hk
    obtain ⟨k, rfl⟩ : ∃ m, k = m + 1 := ⟨k - 1, by omega⟩
    rw [trellislaw17_twin.l0, if_neg (by omega), List.take_of_length_le (by omega)]
  | succ d ih =>
    intro i k hi hk
    obtain ⟨k, rfl⟩ : ∃ m, k = m + 1 := ⟨k - 1, by omega⟩
    have h : i < xs.length := by omega
    rw [trellislaw17_twin.l0, if_pos (by omega), if_pos (by omega), if_pos (by rw [List.length_take]; omega), rdL xs i h, w64 (by omega) (by omega)]
    have h2 := ih (i + 1) k (by omega) (by omega)
    rw [show ((i + 1 : Nat) : Int) = (i : Int) + 1 by omega] at h2
    rw [← h2]
    congr 1
    exact List.take_append_getElem h
theorem twin_f (xs : List S68) (hl : xs.length ≤ 1048576) : trellislaw17_twin.f (xs.length + 1) xs = some (0, 0, 0, xs, [], 0) := twin_l0 xs hl xs.length 0 (xs.length + 1) (by omega) (by omega)
theorem twin_calls (A0 : Option Addr) (c0 : Nat) (xs : List S68) (w : World) (hr0 : Kd.C k68 w A0 xs.length xs) (hc0 : xs.length ≤ c0) (hl : xs.length ≤ 1048576) :
    Calls Try.prog 20 #[.slice A0 xs.length c0] w fun e w' => ∃ (A3 A4 : Option Addr) (c3 c4 : Nat), e = .returned (.agg #[.int .i64 0, .int .i64 0, .int .u64 0, .slice A3 xs.length c3, .slice A4 0 c4, .int .i64 0]) ∧ Kd.R k68 68 w' w.heap.size T (.slice A3 xs.length c3) xs ∧ Kd.C k50 w' A4 0 ([] : List S50) ∧ Below w.heap.size w w' := by
  refine (trellislaw17_twin.calls (xs.length + 1) A0 c0 xs 0 0 0 xs [] 0 w hr0 hc0 (twin_f xs hl)).mono ?_
  rintro e w' ⟨v3, v4, rfl, h3, h4, hb⟩
  obtain ⟨A3, c3, rfl, hc3, hr3⟩ := Kd.R_reads h3
  obtain ⟨A4, c4, rfl, hc4, hr4⟩ := Kd.R_reads h4
  exact ⟨A3, A4, c3, c4, rfl, h3, hr4, hb⟩
/-- a row just made, of two elements -/
theorem R_lit2 {α : Type} {d : Kd α} {e : Nat} (W : World) (cells c0 c1 : Array Value) (x y : α) (hcs : cells = c0 ++ c1) (h0l : c0.size = d.sz) (h1l : c1.size = d.sz) (h0 : d.M W W.heap.size (fun _ => False) x c0.toList) (h1 : d.M W W.heap.size (fun _ => False) y c1.toList) (hsz : d.sz ≤ 1000) (hp : 0 < d.sz) : d.R e (W.alloc (.cells cells e)) W.heap.size T (.slice (some ⟨W.heap.size, 0, none⟩) 2 2) [x, y] := by
  subst hcs
  refine ⟨fun _ _ => trivial, (c0 ++ c1).toList, World.ownsRow_lit W (c0 ++ c1) 2 (Nat.le_refl _) (by unfold maxLen; omega) (by rw [Array.size_append]; omega), ?_⟩
  have hb : Below W.heap.size W (W.alloc (.cells (c0 ++ c1) e)) := below_alloc (Below.refl _ _) _
  have h : Reps (d.M (W.alloc (.cells (c0 ++ c1) e)) W.heap.size (fun k => T k ∧ some k ≠ (Value.slice (some ⟨W.heap.size, 0, none⟩) 2 2).ownBlock)) d.sz (([] ++ [x]) ++ [y]) (([] ++ c0.toList) ++ c1.toList) :=
    Reps.snoc (Reps.snoc (Reps.none _ _) (d.M_mono (fun k hk => hk.elim) (Kd.M_below h0 hb)) (by simpa using h0l)) (d.M_mono (fun k hk => hk.elim) (Kd.M_below h1 hb)) (by simpa using h1l)
  simpa using h
def lfA : S68 := ⟨1, 0, 2, 3, 2, startB⟩
def lfB : S68 := ⟨1, 1, 1, 2, 6, startB⟩
def lfs : List S68 := [lfA, lfB]
theorem st_right : rightB 6 lfs = true := by decide +kernel
theorem st_one : standN (mLs 6 lfs) (mAt 6 lfs 4) (mDel 6 lfs 4 0) (mLs 6 lfs).length = 2 := by decide +kernel
theorem st_two : standN (mLs 6 lfs) (mAt 6 lfs 0) (mDel 6 lfs 0 1) (mLs 6 lfs).length = 1 := by decide +kernel
def xyz : ByteArray := ⟨#[120, 121, 122]⟩
def st_G : Int → List St := gAt (mLs 6 lfs) (mAt 6 lfs 0) (mDel 6 lfs 0 1) (mIns 6 lfs xyz) (mLs 6 lfs).length
theorem st_find : findO startB 6 (st_G 4) (st_G 4).length 0 = some lfB := by
  kernel_rfl
theorem st_none : findO startB 6 (st_G 2) (st_G 2).length 0 = none := by
  kernel_rfl
set_option maxRecDepth 100000 in
set_option maxHeartbeats 8000000 in
theorem started_calls (w : World) : Calls Try.prog 25 #[] w fun e w' => e = .returned (.bool true) ∧ Below w.heap.size w w' := by
  have HB := Aside0.mk (Below.refl w.heap.size w)
  go_enter Try.func25, Try.ntmps25
  go_wp2_with fail
  refine (Start_calls w).mono ?_
  rintro e w1 ⟨rfl, hB⟩
  have HB1 := Aside0.mk hB
  clear HB hB
  go_wp2_with fail
  refine (Encode_calls w1).mono ?_
  rintro e w2 ⟨rfl, hB⟩
  have HB2 := Aside0.mk (below_then HB1.out HB1.out.size hB)
  clear HB1 hB
  obtain ⟨oL, hoL⟩ : ∃ o : Obj, o = .cells #[.int .i64 1, .int .i64 0, .int .i64 2, .int .i64 3, .int .u64 2, .string startB, .int .i64 1, .int .i64 1, .int .i64 1, .int .i64 2, .int .u64 6, .string startB] 68 (0, 0) := ⟨_, rfl⟩
  have hba : Below w2.heap.size w2 (w2.alloc oL) := below_alloc (Below.refl _ _) _
  have hR : Kd.R k68 68 (w2.alloc oL) w2.heap.size T (.slice (some ⟨w2.heap.size, 0, none⟩) 2 2) lfs := by
    rw [hoL]
    exact R_lit2 (d := k68) w2 _ #[.int .i64 1, .int .i64 0, .int .i64 2, .int .i64 3, .int .u64 2, .string startB] #[.int .i64 1, .int .i64 1, .int .i64 1, .int .i64 2, .int .u64 6, .string startB] lfA lfB rfl rfl rfl (k68_mkM _ _ _ lfA) (k68_mkM _ _ _ lfB) (by decide) (by decide)
  have HC := Aside0.mk (Kd.R_reads' hR).2.2
  have HB3 := Aside0.mk (below_then HB2.out HB2.out.size hba)
  have HZ := Aside0.mk HB2.out.size
  clear hba hR HB2
  go_wp2_with fail
  rw [← hoL]
  clear hoL
  obtain ⟨gl, hgl⟩ : ∃ g, w2.heap.size = g := ⟨_, rfl⟩
  generalize w2.alloc oL = w3 at HC HB3 ⊢
  rw [hgl] at HC HZ ⊢
  clear hgl
  refine (New_calls 6 0 0 0 0 4 0 ⟨#[120]⟩ (some ⟨gl, 0, none⟩) none 0 2 0 lfs w3 HC.out (by decide) (by decide) (by decide)).mono ?_
  rintro e w4 ⟨g1, gm1, vs1, rfl, hO, hB, _⟩
  rw [st_one] at hO
  have HO1 := Aside0.mk hO
  have HB4 := Aside0.mk (below_then HB3.out HB3.out.size hB)
  have HC4 := Aside0.mk (Kd.C_below HC.out hB)
  clear hO hB HB3 HC
  go_wp2_with fail
  refine (New_calls 6 0 0 0 0 0 1 xyz (some ⟨gl, 0, none⟩) none 0 2 0 lfs w4 HC4.out (by decide) (by decide) (by decide)).mono ?_
  rintro e w5 ⟨g2, gm2, vs2, rfl, hO, hB, _⟩
  rw [st_two] at hO
  have HO2 := Aside0.mk hO
  have HO3 := Aside0.mk (HO1.out.moved hB)
  have HB5 := Aside0.mk (below_then HB4.out HB4.out.size hB)
  have HC5 := Aside0.mk (Kd.C_below HC4.out hB)
  clear hO hB HB4 HC4 HO1
  go_wp2_with fail
  refine (OStanding_calls g1 gm1 vs1 _ 2 w5 HO3.out).mono ?_
  rintro e w6 ⟨rfl, hB⟩
  have HO4 := Aside0.mk (HO2.out.moved hB)
  have HB6 := Aside0.mk (below_then HB5.out HB5.out.size hB)
  have HC6 := Aside0.mk (Kd.C_below HC5.out hB)
  clear hB HB5 HC5 HO2 HO3
  go_wp2_with fail
  refine (OStanding_calls g2 gm2 vs2 _ 1 w6 HO4.out).mono ?_
  rintro e w7 ⟨rfl, hB⟩
  have HO5 := Aside0.mk (HO4.out.moved hB)
  have HB7 := Aside0.mk (below_then HB6.out HB6.out.size hB)
  have HC7 := Aside0.mk (Kd.C_below HC6.out hB)
  clear hB HB6 HC6 HO4
  go_wp2_with fail
  refine (OFind_calls g2 gm2 vs2 _ 1 4 6 startB w7 HO5.out rfl (Nat.le_trans (gAt_len _ _ _ _ _ _) (by decide))).mono ?_
  rintro e w8 ⟨rfl, hB⟩
  have h1 := st_find
  unfold st_G at h1
  rw [h1]
  clear h1
  have HO6 := Aside0.mk (HO5.out.moved hB)
  have HB8 := Aside0.mk (below_then HB7.out HB7.out.size hB)
  have HC8 := Aside0.mk (Kd.C_below HC7.out hB)
  clear hB HB7 HC7 HO5
  unfold fnd lfB
  have z2 := HB8.out.size
  obtain ⟨oX, hoX⟩ : ∃ o : Obj, o = .cells #[.int .i64 1, .int .i64 1, .int .i64 1, .int .i64 2, .int .u64 6, .string startB] 68 (0, 0) := ⟨_, rfl⟩
  have hba : Below w8.heap.size w8 (w8.alloc oX) := below_alloc (Below.refl _ _) _
  have KX : Aside0 ((w8.alloc oX).heap[w8.heap.size]? = some (lfC lfB)) := ⟨(heap_alloc_new w8 oX).trans (congrArg some hoX)⟩
  have HO7 := Aside0.mk (HO6.out.moved hba)
  have HB9 := Aside0.mk (below_then HB8.out HB8.out.size hba)
  have HC9 := Aside0.mk (Kd.C_below HC8.out hba)
  clear hba HB8 HC8 HO6 z2
  go_wp2_with fail
  rw [← hoX]
  clear hoX
  obtain ⟨gx, hgx⟩ : ∃ g, w8.heap.size = g := ⟨_, rfl⟩
  generalize w8.alloc oX = w9 at KX HO7 HB9 HC9 ⊢
  rw [hgx] at KX ⊢
  clear hgx
  refine (OFind_calls g2 gm2 vs2 _ 1 2 6 startB w9 HO7.out rfl (Nat.le_trans (gAt_len _ _ _ _ _ _) (by decide))).mono ?_
  rintro e w10 ⟨rfl, hB⟩
  have h1 := st_none
  unfold st_G at h1
  rw [h1]
  clear h1
  have HB10 := Aside0.mk (below_then HB9.out HB9.out.size hB)
  have HC10 := Aside0.mk (Kd.C_below HC9.out hB)
  have KX10 := Aside0.mk ((hB.block _ (blk_lt KX.out)).trans KX.out)
  clear hB HB9 HC9 HO7 KX
  rw [show fnd none = .tuple #[.agg #[.int .i64 0, .int .i64 0, .int .i64 0, .int .i64 0, .int .u64 0, .string ⟨#[]⟩], .bool false] from rfl]
  obtain ⟨oY, hoY⟩ : ∃ o : Obj, o = .cells #[.int .i64 0, .int .i64 0, .int .i64 0, .int .i64 0, .int .u64 0, .string ⟨#[]⟩] 68 (0, 0) := ⟨_, rfl⟩
  have hba : Below w10.heap.size w10 (w10.alloc oY) := below_alloc (Below.refl _ _) _
  have HB11 := Aside0.mk (below_then HB10.out HB10.out.size hba)
  have HC11 := Aside0.mk (Kd.C_below HC10.out hba)
  have KX11 := Aside0.mk ((hba.block _ (blk_lt KX10.out)).trans KX10.out)
  clear hba HB10 HC10 KX10
  go_upto_region 9 with fail
  rw [← hoY]
  clear hoY
  generalize w10.alloc oY = w11 at HB11 HC11 KX11 ⊢
  obtain ⟨ad, hA, z0, z1, z2, z3, z4, z5⟩ := at_T68 HC11.out 1 (by decide) (by decide)
  injection hA with hA
  subst hA
  have z0' : w11.cell? ⟨gl, 6, none⟩ = some (.int .i64 1) := z0
  have z1' : w11.cell? ⟨gl, 7, none⟩ = some (.int .i64 1) := z1
  have z2' : w11.cell? ⟨gl, 8, none⟩ = some (.int .i64 1) := z2
  have z3' : w11.cell? ⟨gl, 9, none⟩ = some (.int .i64 2) := z3
  have z4' : w11.cell? ⟨gl, 10, none⟩ = some (.int .u64 6) := z4
  have z5' : w11.cell? ⟨gl, 11, none⟩ = some (.string startB) := z5
  clear z0 z1 z2 z3 z4 z5
  have q0 : w11.cell? ⟨gx, 0, none⟩ = some (.int .i64 1) := (blk_cell KX11.out 0).trans rfl
  have q1 : w11.cell? ⟨gx, 1, none⟩ = some (.int .i64 1) := (blk_cell KX11.out 1).trans rfl
  have q2 : w11.cell? ⟨gx, 2, none⟩ = some (.int .i64 1) := (blk_cell KX11.out 2).trans rfl
  have q3 : w11.cell? ⟨gx, 3, none⟩ = some (.int .i64 2) := (blk_cell KX11.out 3).trans rfl
  have q4 : w11.cell? ⟨gx, 4, none⟩ = some (.int .u64 6) := (blk_cell KX11.out 4).trans rfl
  have q5 : w11.cell? ⟨gx, 5, none⟩ = some (.string startB) := (blk_cell KX11.out 5).trans rfl
  go_quiet (fail)
  go_wp2_with fail
  go_ret
  exact ⟨rfl, below_then HB11.out HB11.out.size (below_drews _)⟩
end Go.Proofs.Ytknagjiipelfnaa.RU
