/- trellislaw17: lent (a copy of the leaves, 20 marks behind it), marks (are they as they were?); a row of leaves that is written. -/
import Derived.Test.YtknagjiipelfnaaTwin
namespace Go.Proofs.Ytknagjiipelfnaa.RU
open Go.RowKit Go.WideShapes Go.ChangeShapes Go.Proofs.YtknagjiipelfnaaW.PrintWords Go.Proofs.YtknagjiipelfnaaW.PrintLast Go.Proofs.YtknagjiipelfnaaW.PrintMore Go.Proofs.Ytknagjiipelfnaa.PAll
set_option linter.unusedVariables false

/-! ### rows of leaves -/
abbrev Row (w : World) (b : Nat) (v : Value) (xs : List S68) : Prop := Kd.R k68 68 w b T v xs
theorem C_prefix {w : World} {A : Option Addr} {n : Nat} {xs ys : List S68} (h : Kd.C k68 w A n (xs ++ ys)) : Kd.C k68 w A xs.length xs := by
  obtain ⟨h1, h2, h3⟩ := h
  rw [List.length_append] at h1
  refine ⟨rfl, by omega, fun h0 => ?_⟩
  obtain ⟨ad, e, hc⟩ := h3 (by omega)
  refine ⟨ad, e, fun j p hj => hc j p ?_⟩
  obtain ⟨hlt, he⟩ := List.getElem?_eq_some_iff.1 hj
  rw [List.getElem?_append_left hlt, hj]
theorem cut_cap {P : Program} (t e : TypeId) (kh : IntKind) {i : TypeInfo} (ht : P.underlying t = some (.slice e)) (hi : P.info? e = some i) (A : Option Addr) (n c : Nat) (j : Int) (h0 : 0 ≤ j) (hm : j ≤ c) :
    ∀ W : World, (Instr.slice t (.slice A n c) none (some (.int kh j)) none).run P W = .ok (.slice A j.toNat c) W := by
  intro W
  have hel : P.elem t = e := by simp [Program.elem, ht]
  have hu : P.underlying t = some (.slice (P.elem t)) := by rw [hel]; exact ht
  have ha : (A.map fun x => x.add 0) = A := by cases A <;> simp [Addr.add]
  rw [run_slice_h W t A n c hu kh j h0 (by omega), hel]
  simp [sizeOf, typeInfo, hi, sliced, Result.andThen, ha]
theorem Row.at_ {w : World} {b n c : Nat} {A : Option Addr} {xs : List S68} (h : Row w b (.slice A n c) xs) (h0 : 0 < n) : ∃ g, A = some ⟨g, 0, none⟩ ∧ b ≤ g ∧ g < w.heap.size := by
  have hl := (Kd.R_reads' h).1
  obtain ⟨g, cap, he, h1, h2, _⟩ := Kd.R_form h (by omega)
  injection he with he
  exact ⟨g, he, h1, h2⟩
theorem Row.lt {w : World} {b : Nat} {v : Value} {xs : List S68} (h : Row w b v xs) {k : Nat} (hk : v.ownBlock = some k) : b ≤ k ∧ k < w.heap.size := by
  have := (Kd.R_bound h).1 k hk
  exact ⟨this.2.1, this.2.2.1⟩
theorem Row.cells {w : World} {b n c g : Nat} {xs : List S68} (h : Row w b (.slice (some ⟨g, 0, none⟩) n c) xs) (i : Nat) (hi : i < n) :
    w.cell? ⟨g, i * 6, none⟩ = some (.int .i64 (xs.getD i z68).f0) ∧ w.cell? ⟨g, i * 6 + 1, none⟩ = some (.int .i64 (xs.getD i z68).f1) ∧ w.cell? ⟨g, i * 6 + 2, none⟩ = some (.int .i64 (xs.getD i z68).f2) ∧ w.cell? ⟨g, i * 6 + 3, none⟩ = some (.int .i64 (xs.getD i z68).f3) ∧ w.cell? ⟨g, i * 6 + 4, none⟩ = some (.int .u64 (xs.getD i z68).f4) ∧ w.cell? ⟨g, i * 6 + 5, none⟩ = some (.string (xs.getD i z68).f5) := by
  have hr := (Kd.R_reads' h)
  obtain ⟨ad, he, h0, h1, h2, h3, h4, h5⟩ := at_T68 hr.2.2 (i : Int) (by omega) (by omega)
  injection he with he
  subst he
  have e : (⟨g, 0, none⟩ : Addr).add (i * 6) = ⟨g, i * 6, none⟩ := by
    unfold Addr.add
    split <;> simp_all
  rw [Int.toNat_natCast, e] at h0 h1 h2 h3 h4 h5
  unfold rd_T68 at h0 h1 h2 h3 h4 h5
  rw [Int.toNat_natCast] at h0 h1 h2 h3 h4 h5
  exact ⟨h0, h1, h2, h3, h4, h5⟩
def put6 (W : World) (g i : Nat) (m : S68) : World := (((((W.setCell ⟨g, i * 6, none⟩ (.int .i64 m.f0)).setCell ⟨g, i * 6 + 1, none⟩ (.int .i64 m.f1)).setCell ⟨g, i * 6 + 2, none⟩ (.int .i64 m.f2)).setCell ⟨g, i * 6 + 3, none⟩ (.int .i64 m.f3)).setCell ⟨g, i * 6 + 4, none⟩ (.int .u64 m.f4)).setCell ⟨g, i * 6 + 5, none⟩ (.string m.f5)
theorem Row.put {W : World} {b g n c : Nat} {xs : List S68} (HR : Row W b (.slice (some ⟨g, 0, none⟩) n c) xs) (i : Nat) (hi : i < n) (m : S68) :
    Row (put6 W g i m) b (.slice (some ⟨g, 0, none⟩) n c) (xs.set i m) ∧ W.grownBy (put6 W g i m) (some g) := by
  obtain ⟨z0, z1, z2, z3, z4, z5⟩ := HR.cells i hi
  have h := Kd.R_seg (d := k68) HR (i : Int) (by omega) (by omega) (c := [.int .i64 (xs.getD i z68).f0, .int .i64 (xs.getD i z68).f1, .int .i64 (xs.getD i z68).f2, .int .i64 (xs.getD i z68).f3, .int .u64 (xs.getD i z68).f4, .string (xs.getD i z68).f5]) (seg := [.int .i64 m.f0, .int .i64 m.f1, .int .i64 m.f2, .int .i64 m.f3, .int .u64 m.f4, .string m.f5]) (j := 0) (x' := m) (okp := fun _ => False) rfl ?_ (Nat.le_refl 6) (k68_mkM _ _ _ m) (fun _ hk => hk.elim)
  · rw [Int.toNat_natCast] at h
    exact h
  · intro j u hj
    rw [Int.toNat_natCast]
    match j, hj with
    | 0, hj => injection hj with hj; subst hj; exact z0
    | 1, hj => injection hj with hj; subst hj; exact z1
    | 2, hj => injection hj with hj; subst hj; exact z2
    | 3, hj => injection hj with hj; subst hj; exact z3
    | 4, hj => injection hj with hj; subst hj; exact z4
    | 5, hj => injection hj with hj; subst hj; exact z5
    | j + 6, hj => simp at hj
/-! ### the marks -/
def mk (i : Nat) : S68 := ⟨900 + (i : Int), 0, 0, 0, 0, ⟨#[]⟩⟩
def mks (k : Nat) : List S68 := (List.range k).map mk
theorem mks_succ (k : Nat) : mks k ++ [mk k] = mks (k + 1) := by
  unfold mks
  rw [List.range_succ, List.map_append]
  rfl
theorem mks_len (k : Nat) : (mks k).length = k := by simp [mks]
theorem mks_at (xs : List S68) (i : Nat) (hi : i < 20) : rd_T68 (xs ++ mks 20) (((xs.length + i : Nat)) : Int) = mk i := by
  rw [rdL _ _ (by rw [List.length_append, mks_len]; omega), List.getElem_append_right (by omega)]
  simp [mks]
abbrev ltC (v : Value) (A4 : Option Addr) (c4 : Nat) : Obj := .cells #[.int .i64 0, .int .i64 0, .int .u64 0, v, .slice A4 0 c4, .int .i64 0] 60 (0, 0)
theorem R_sets6 {w : World} {b g t : Nat} {v : Value} {xs : List S68} {cells : Array Value} (h : Row w b v xs) (hb : w.heap[g]? = some (.cells cells t (0, 0))) (ht : (68 : Nat) ≠ t) (v0 v1 v2 v3 v4 v5 : Value) : Row ((((((w.setCell ⟨g, 0, none⟩ v0).setCell ⟨g, 1, none⟩ v1).setCell ⟨g, 2, none⟩ v2).setCell ⟨g, 3, none⟩ v3).setCell ⟨g, 4, none⟩ v4).setCell ⟨g, 5, none⟩ v5) b v xs := by
  have hne := Kd.R_ne h hb ht
  have far : ∀ (W : World) (k : Nat) (u : Value), Row W b v xs → Row (W.setCell ⟨g, k, none⟩ u) b v xs := fun W k u hr => by
    refine Kd.R_mono (Kd.R_far (p := ⟨g, k, none⟩) (ok := fun j => T j ∧ j ≠ g) (Kd.R_far1 hr rfl hne) (fun j hj => hj.2) u) (fun _ _ => trivial)
  exact far _ 5 _ (far _ 4 _ (far _ 3 _ (far _ 2 _ (far _ 1 _ (far _ 0 _ h)))))
set_option maxRecDepth 100000 in
set_option maxHeartbeats 8000000 in
theorem lent_calls (A0 : Option Addr) (c0 : Nat) (xs : List S68) (w : World) (hr0 : Kd.C k68 w A0 xs.length xs) (hc0 : xs.length ≤ c0) (hl : xs.length ≤ 1048576) :
    Calls Try.prog 16 #[.slice A0 xs.length c0] w fun e w' => ∃ (A A4 : Option Addr) (c c4 : Nat), e = .returned (.agg #[.int .i64 0, .int .i64 0, .int .u64 0, .slice A xs.length c, .slice A4 0 c4, .int .i64 0]) ∧ Row w' w.heap.size (.slice A (xs.length + 20) c) (xs ++ mks 20) ∧ Below w.heap.size w w' := by
  obtain ⟨oZ, hoZ⟩ : ∃ o : Obj, o = .cells #[.int .i64 0, .int .i64 0, .int .u64 0, .slice none 0 0, .slice none 0 0, .int .i64 0] 60 (0, 0) := ⟨_, rfl⟩
  have hba : Below w.heap.size w (w.alloc oZ) := below_alloc (Below.refl _ _) _
  have KZ := Aside0.mk ((heap_alloc_new w oZ).trans (congrArg some hoZ))
  have HB := Aside0.mk hba
  have H0 := Aside0.mk (Kd.C_below hr0 hba)
  have HP := Aside0.mk (And.intro hc0 hl)
  clear hba hr0 hc0 hl
  go_enter Try.func16, Try.ntmps16
  go_wp2_with fail
  rw [← hoZ]
  clear hoZ
  obtain ⟨g2, hg2⟩ : ∃ g, w.heap.size = g := ⟨_, rfl⟩
  have G2 : Aside0 (w.heap.size ≤ g2) := ⟨by omega⟩
  generalize w.alloc oZ = w0 at KZ HB H0 ⊢
  rw [hg2] at KZ ⊢
  clear hg2
  refine (twin_calls A0 c0 xs w0 H0.out HP.out.1 HP.out.2).mono ?_
  rintro e w1 ⟨A3, A4, c3, c4, rfl, h3, _, hB⟩
  have KZ1 := Aside0.mk ((hB.block _ (blk_lt KZ.out)).trans KZ.out)
  have HB1 := Aside0.mk (below_then HB.out HB.out.size hB)
  have L1 := Aside0.mk (blk_lt KZ1.out)
  have HR1 := Aside0.mk (Kd.R_lower h3 (Nat.le_of_lt (Nat.lt_of_le_of_lt G2.out (blk_lt KZ.out))))
  clear hB KZ HB H0 h3
  obtain ⟨oL, hoL⟩ : ∃ o : Obj, o = .cells #[.int .i64 0, .int .i64 0, .int .u64 0, .slice A3 xs.length c3, .slice A4 0 c4, .int .i64 0] 60 (0, 0) := ⟨_, rfl⟩
  have hba : Below w1.heap.size w1 (w1.alloc oL) := below_alloc (Below.refl _ _) _
  have KL := Aside0.mk ((heap_alloc_new w1 oL).trans (congrArg some hoL))
  have HB2 := Aside0.mk (below_then HB1.out HB1.out.size hba)
  have KZ2 := Aside0.mk ((hba.block _ (blk_lt KZ1.out)).trans KZ1.out)
  have HR2 := Aside0.mk (Kd.R_below HR1.out hba)
  clear hba HB1 KZ1 HR1
  go_wp2_with fail
  rw [← hoL]
  clear hoL
  obtain ⟨g3, hg3⟩ : ∃ g, w1.heap.size = g := ⟨_, rfl⟩
  generalize w1.alloc oL = w2 at KL HB2 KZ2 HR2 ⊢
  rw [hg3] at KL L1 ⊢
  have G3 := Aside0.mk L1.out
  clear hg3 L1
  go_loopw [4] (fun v4 wr => ∃ (i : Nat) (v : Value), v4 = .int .i64 (i : Int) ∧ i ≤ 20 ∧ Aside0 (Row wr w.heap.size v (xs ++ mks i)) ∧ Aside0 (wr.heap[g3]? = some (ltC v A4 c4)) ∧ Aside0 (wr.heap[g2]? = some (.cells #[.int .i64 0, .int .i64 0, .int .u64 0, .slice none 0 0, .slice none 0 0, .int .i64 0] 60 (0, 0))) ∧ Aside0 (Below w.heap.size w wr)) (fun v4 _ => 20 - (intOf v4).toNat)
  case atStart => exact ⟨0, _, rfl, by omega, ⟨by simpa [mks] using HR2.out⟩, KL, KZ2, HB2⟩
  case round =>
    obtain ⟨i, v, rfl, hi, HR, KLr, KZr, HBr⟩ := hrel
    clear HR2 KL KZ2 HB2
    have q3 : wr.cell? ⟨g3, 3, none⟩ = some v := (blk_cell KLr.out 3).trans rfl
    have f3 := blk_frozen KLr.out 3
    obtain ⟨ys, hys⟩ : ∃ ys, xs ++ mks i = ys := ⟨_, rfl⟩
    have hyl : ys.length = xs.length + i := by rw [← hys, List.length_append, mks_len]
    rw [hys] at HR
    have HYS := Aside0.mk hys
    have HYL := Aside0.mk hyl
    clear hys hyl
    obtain ⟨Av, cv, rfl⟩ := Kd.R_slice HR.out
    have N3 : Aside0 (g2 ≠ g3) := ⟨by have := G3.out; omega⟩
    by_cases hlt : i < 20
    · have e1 : decide ((i : Int) < 20) = true := decide_eq_true (by omega)
      have g1 : IntKind.i64.wrap (900 + (i : Int)) = 900 + (i : Int) := (i64_w _).trans (w64 (by omega) (by omega))
      have g4 : IntKind.i64.wrap ((i : Int) + 1) = (i : Int) + 1 := (i64_w _).trans (w64 (by omega) (by omega))
      have HLT := Aside0.mk hlt
      clear hi hlt
      go_wp2_with (first | ((with_reducible refine gate_builtin (b := .append) (xs := #[.tmp 12, .tmp 16]) rfl ?_); at_builtin; refine Kd.R_append k68 (w0 := w) w.heap.size rfl (.tmp 12) (.tmp 16) 52 68 (.agg #[(.int .i64 0), (.int .i64 0), (.int .i64 0), (.int .i64 0), (.int .u64 0), (.string ⟨#[]⟩)]) 56 rfl Try.underlying52 info68 rfl (by decide) (by omega) (.slice Av ys.length cv) ys (mk i) [.int .i64 (900 + (i : Int)), .int .i64 0, .int .i64 0, .int .i64 0, .int .u64 0, .string (⟨#[]⟩ : ByteArray)] T (fun _ => False) rfl rfl ?aP (fun _ hk => hk.elim) ?aF ?aO ?aB ?aS ?aL ?_; (case aP => exact k68_mkM _ _ _ (mk i)); (case aB => exact HBr.out); (case aF => exact (fun _ _ => trivial)); (case aO => exact HR.out); (case aS => exact HBr.out.size); (case aL => have := HYL.out; have := HP.out; have := HLT.out; omega); intro v1 w9 ho hb hg hat; obtain ⟨A1, c1, ev1⟩ := Kd.R_slice ho; generalize (ys ++ [mk i]).length = n1 at ev1; subst ev1; have KL9 := Aside0.mk (blk_grown KLr.out hg (Kd.R_ne HR.out KLr.out (by decide))); have KZ9 := Aside0.mk (blk_grown KZr.out hg (Kd.R_ne HR.out KZr.out (by decide))); have HR9 := Aside0.mk ho; have HB9 := Aside0.mk hb; have q39 := blk_cell KL9.out 3; have f39 := blk_frozen KL9.out 3; clear ho hb hg hat))
      go_roundw
      case measure => first | omega | (simp [intOf]; have := HLT.out; omega)
      case rel => exact ⟨i + 1, .slice A1 n1 c1, by congr 1, by have := HLT.out; omega, ⟨by rw [← mks_succ, ← List.append_assoc, HYS.out]; exact Kd.R_set HR9.out KL9.out (by decide) 3 _⟩, ⟨(blk_set KL9.out 3 _).trans rfl⟩, ⟨blk_far KZ9.out N3.out _⟩, ⟨below_set HB9.out (by have := G2.out; have := G3.out; omega)⟩⟩
    · have e1 : decide ((i : Int) < 20) = false := decide_eq_false (by omega)
      obtain rfl : i = 20 := by omega
      clear hi hlt
      have hcv := (Kd.R_reads' HR.out).2.1
      have hyl := HYL.out
      obtain ⟨i022, hi022, _, hsz22, _⟩ := info_parts info68
      have hcut := cut_to (P := Try.prog) 52 68 .i64 Try.underlying52 hi022 Av ys.length cv (xs.length : Int) (by omega) (by omega) hcv
      rw [Int.toNat_natCast] at hcut
      have r0 : wr.cell? ⟨g3, 0, none⟩ = some (.int .i64 0) := (blk_cell KLr.out 0).trans rfl
      have r1 : wr.cell? ⟨g3, 1, none⟩ = some (.int .i64 0) := (blk_cell KLr.out 1).trans rfl
      have r2 : wr.cell? ⟨g3, 2, none⟩ = some (.int .u64 0) := (blk_cell KLr.out 2).trans rfl
      have r4 : wr.cell? ⟨g3, 4, none⟩ = some (.slice A4 0 c4) := (blk_cell KLr.out 4).trans rfl
      have r5 : wr.cell? ⟨g3, 5, none⟩ = some (.int .i64 0) := (blk_cell KLr.out 5).trans rfl
      clear hi022 hsz22 hcv hyl
      go_upto_region 7 with fail
      have KL8 : Aside0 ((wr.setCell ⟨g3, 3, none⟩ (.slice Av xs.length cv)).heap[g3]? = some (ltC (.slice Av xs.length cv) A4 c4)) := ⟨(blk_set KLr.out 3 _).trans rfl⟩
      have KZ8 : Aside0 ((wr.setCell ⟨g3, 3, none⟩ (.slice Av xs.length cv)).heap[g2]? = some (.cells #[.int .i64 0, .int .i64 0, .int .u64 0, .slice none 0 0, .slice none 0 0, .int .i64 0] 60 (0, 0))) := ⟨blk_far KZr.out N3.out _⟩
      have HR8 : Aside0 (Row (wr.setCell ⟨g3, 3, none⟩ (.slice Av xs.length cv)) w.heap.size (.slice Av ys.length cv) ys) := ⟨Kd.R_set HR.out KLr.out (by decide) 3 _⟩
      have HB8 : Aside0 (Below w.heap.size w (wr.setCell ⟨g3, 3, none⟩ (.slice Av xs.length cv))) := ⟨below_set HBr.out (by have := G2.out; have := G3.out; omega)⟩
      generalize wr.setCell ⟨g3, 3, none⟩ (.slice Av xs.length cv) = w8 at KL8 KZ8 HR8 HB8 ⊢
      clear r0 r1 r2 r4 r5 q3 f3 hcut HR KLr KZr HBr
      have r0 : w8.cell? ⟨g3, 0, none⟩ = some (.int .i64 0) := (blk_cell KL8.out 0).trans rfl
      have r1 : w8.cell? ⟨g3, 1, none⟩ = some (.int .i64 0) := (blk_cell KL8.out 1).trans rfl
      have r2 : w8.cell? ⟨g3, 2, none⟩ = some (.int .u64 0) := (blk_cell KL8.out 2).trans rfl
      have r3 : w8.cell? ⟨g3, 3, none⟩ = some (.slice Av xs.length cv) := (blk_cell KL8.out 3).trans rfl
      have r4 : w8.cell? ⟨g3, 4, none⟩ = some (.slice A4 0 c4) := (blk_cell KL8.out 4).trans rfl
      have r5 : w8.cell? ⟨g3, 5, none⟩ = some (.int .i64 0) := (blk_cell KL8.out 5).trans rfl
      have kz := KZ8.out
      have s0 := blk_cell kz 0
      have t0 := blk_frozen kz 0
      have s1 := blk_cell kz 1
      have t1 := blk_frozen kz 1
      have s2 := blk_cell kz 2
      have t2 := blk_frozen kz 2
      have s3 := blk_cell kz 3
      have t3 := blk_frozen kz 3
      have s4 := blk_cell kz 4
      have t4 := blk_frozen kz 4
      have s5 := blk_cell kz 5
      have t5 := blk_frozen kz 5
      clear kz
      go_wp2_with fail
      (try simp only [Exit.inBlock, Exit.then])
      refine bodyPost_ret (results_cell_row rfl _ _ g2 60 #[.int .i64 0, .int .i64 0, .int .u64 0, .slice Av xs.length cv, .slice A4 0 c4, .int .i64 0] (0, 0) _ rfl ((blk_set ((blk_set ((blk_set ((blk_set ((blk_set ((blk_set KZ8.out 0 _).trans rfl) 1 _).trans rfl) 2 _).trans rfl) 3 _).trans rfl) 4 _).trans rfl) 5 _).trans rfl) Try.underlying60 rfl (by kernel_rfl)) rfl ?_
      refine ⟨Av, A4, cv, c4, rfl, ?_, below_sets6 HB8.out G2.out _ _ _ _ _ _⟩
      have hR := HR8.out
      rw [HYL.out, ← HYS.out] at hR
      have k0 := KZ8.out
      have k1 := (blk_set k0 0 (.int .i64 0)).trans rfl
      exact R_sets6 (HYS.out ▸ HYL.out ▸ HR8.out) KZ8.out (by decide) _ _ _ _ _ _
end Go.Proofs.Ytknagjiipelfnaa.RU
