/- MendOdds: the walk of the law. -/
import Derived.Test.YtgefbbdahhoglaaMendPure
namespace Go.Proofs.Ytgefbbdahhoglaa.Mend
open Go.RowKit Go.WideShapes Go.ChangeShapes Go.Proofs.YtgefbbdahhoglaaW.PrintWords Go.Proofs.YtgefbbdahhoglaaW.PrintLast Go.Proofs.YtgefbbdahhoglaaW.PrintMore Go.Proofs.Ytgefbbdahhoglaa.PMo Go.Proofs.Ytgefbbdahhoglaa.Keep Go.Proofs.Ytgefbbdahhoglaa.Part
set_option linter.unusedVariables false
theorem info25' : (Try.prog.info? 25).map (fun i => (i.zero, i.size, i.bytes)) = some (some (.agg #[.int .i64 0, .int .i64 0, .int .i64 0, .int .i64 0]), k25.sz, 32) := by kernel_rfl
theorem size25 : (Try.prog.info? 25).map (·.size) = some k25.sz := by kernel_rfl
section
variable {P : Program} {ops : Array Oper} {rest : List Oper} {o : Oper} {a : Act} {Q : Exit → Act → World → Prop} {α : Type}
theorem R_make_cap (d : Kd α) {w0 W : World} (base : Nat) (hgd : o.guard = none) (l c : Operand) (t e : TypeId) (z : Value) (bytes : Nat) (hop : o.op = .makeSlice t l c) (ht : P.underlying t = some (.slice e))
    (hinfo : (P.info? e).map (fun i => (i.zero, i.size, i.bytes)) = some (some z, d.sz, bytes)) (C : Int) (n : Nat) (hl : a.eval l = .int .i64 0) (hc : a.eval c = .int .i64 C) (hC : C = (n : Int)) (b2 : bytes * n ≤ 281474976710656) (b3 : n ≤ maxLen) (b4 : base ≤ W.heap.size) (HB : Below base w0 W)
    (h : ∀ g, g = W.heap.size → ∀ w1, d.R e w1 base (fun _ => True) (.slice (some ⟨g, 0, none⟩) 0 n) [] → Below base w0 w1 → wpList P ops Q rest (a.put o.dst (.slice (some ⟨g, 0, none⟩) 0 n)) w1) : wpList P ops Q (o :: rest) a W := by
  obtain ⟨i0, hi, hzz⟩ := Option.map_eq_some_iff.1 hinfo
  simp only [Prod.mk.injEq] at hzz
  obtain ⟨hz0, hz1, hz2⟩ := hzz
  refine wpList_make_own W hgd l c t hop base e i0 z d.sz ht hi hz0 hz1 .i64 .i64 C n hl hc hC (by rw [hz2]; exact b2) b3 b4 ?_
  intro w1 hown hg
  exact h _ rfl w1 ⟨fun _ _ => trivial, [], hown, Reps.none _ _⟩ (HB.grown hg b4 (fun _ hk => by cases hk))
end
abbrev RowS (w : World) (b : Nat) (v : Value) (xs : List S25) : Prop := Kd.R k25 25 w b T v xs

abbrev C7 (g n : Nat) : Obj := .cells #[.int .i64 0, .int .i64 0, .int .u64 0, .slice none 0 0, .slice none 0 0, .int .i64 0, .slice (some ⟨g, 0, none⟩) n (n + 4)] 34 (0, 0)
structure M (w wc : World) (g g7 n : Nat) (xs : List S25) : Prop where
  rs : RowS wc w.heap.size (.slice (some ⟨g, 0, none⟩) (n + 4) (n + 4)) (xs ++ List.replicate 4 odd)
  len : xs.length = n
  k7 : wc.heap[g7]? = some (C7 g n)
  below : Below w.heap.size w wc
theorem M.moved {w wc w1 : World} {g g7 n : Nat} {xs : List S25} (h : M w wc g g7 n xs) (hb : Below wc.heap.size wc w1) : M w w1 g g7 n xs :=
  ⟨Kd.R_below h.rs hb, h.len, (hb.block _ (blk_lt h.k7)).trans h.k7, h.below.trans (hb.mono h.below.size)⟩
theorem M.glt {w wc : World} {g g7 n : Nat} {xs : List S25} (h : M w wc g g7 n xs) : w.heap.size ≤ g ∧ g < wc.heap.size := by
  obtain ⟨_, inner, ho, _⟩ := h.rs
  exact ⟨own_base ho g rfl, own_lt ho g rfl⟩
theorem M.all {w wc : World} {g g7 n : Nat} {xs : List S25} (h : M w wc g g7 n xs) : Kd.C k25 wc (some ⟨g, 0, none⟩) (n + 4) (xs ++ List.replicate 4 odd) := by
  have h2 := Kd.R_reads' h.rs
  have h3 := h2.2.2
  rw [← h2.1] at h3
  exact h3
theorem M.reads {w wc : World} {g g7 n : Nat} {xs : List S25} (h : M w wc g g7 n xs) : Kd.C k25 wc (some ⟨g, 0, none⟩) xs.length xs := C_prefix h.all

theorem slip_at {w : World} {g n : Nat} {l : List S25} (h : Kd.C k25 w (some ⟨g, 0, none⟩) n l) (j : Nat) (hj : j < n) (hl : j < l.length) :
    w.cell? ⟨g, j * 4, none⟩ = some (.int .i64 l[j].f0) ∧ w.cell? ⟨g, j * 4 + 1, none⟩ = some (.int .i64 l[j].f1) ∧ w.cell? ⟨g, j * 4 + 2, none⟩ = some (.int .i64 l[j].f2) ∧ w.cell? ⟨g, j * 4 + 3, none⟩ = some (.int .i64 l[j].f3) := by
  obtain ⟨ad, he, h0, h1, h2, h3⟩ := slip_cells h j hj hl
  injection he with he
  subst he
  have e : (⟨g, 0, none⟩ : Addr).add (j * 4) = ⟨g, j * 4, none⟩ := by
    unfold Addr.add
    split <;> simp_all
  rw [e] at h0 h1 h2 h3
  exact ⟨h0, h1, h2, h3⟩
theorem M.odd_at {w wc : World} {g g7 n : Nat} {xs : List S25} (h : M w wc g g7 n xs) (j : Nat) (h1 : n ≤ j) (h2 : j < n + 4) : wc.cell? ⟨g, j * 4, none⟩ = some (.int .i64 (-77)) := by
  have hl := h.len
  obtain ⟨h0, _⟩ := slip_at h.all j h2 (by rw [List.length_append, List.length_replicate]; omega)
  rw [List.getElem_append_right (by omega), List.getElem_replicate] at h0
  exact h0

theorem rows_reads {w : World} {b n c : Nat} {A : Option Addr} {xs : List S25} (h : RowS w b (.slice A n c) xs) : Kd.C k25 w A n xs := by
  have h2 := Kd.R_reads' h
  rw [h2.1]
  exact h2.2.2
theorem four {W : World} {g o : Nat} {a b c d : Value} (h0 : W.cell? ⟨g, o, none⟩ = some a) (h1 : W.cell? ⟨g, o + 1, none⟩ = some b) (h2 : W.cell? ⟨g, o + 2, none⟩ = some c) (h3 : W.cell? ⟨g, o + 3, none⟩ = some d) :
    ∀ j u, [a, b, c, d][j]? = some u → W.cell? ⟨g, o + j, none⟩ = some u := by
  intro j u hj
  match j, hj with
  | 0, hj => injection hj with hj; subst hj; exact h0
  | 1, hj => injection hj with hj; subst hj; exact h1
  | 2, hj => injection hj with hj; subst hj; exact h2
  | 3, hj => injection hj with hj; subst hj; exact h3
  | j + 4, hj => simp at hj
theorem rows_turn {W : World} {b g n c : Nat} {xs : List S25} (h : RowS W b (.slice (some ⟨g, 0, none⟩) n c) xs) (i : Nat) (hi : i < n) (x : S25) :
    RowS (((((W.setCell ⟨g, i * 4, none⟩ (.int .i64 x.f0)).setCell ⟨g, i * 4 + 1, none⟩ (.int .i64 x.f1)).setCell ⟨g, i * 4 + 2, none⟩ (.int .i64 x.f2)).setCell ⟨g, i * 4 + 3, none⟩ (.int .i64 x.f3)).setCell ⟨g, i * 4 + 1, none⟩ (.int .i64 x.f2)) b (.slice (some ⟨g, 0, none⟩) n c) (xs.set i (tw x)) := by
  have hn := (Kd.R_reads' h).1
  obtain ⟨z0, z1, z2, z3⟩ := slip_at (rows_reads h) i hi (by omega)
  have h1 := (Kd.R_seg (d := k25) h (i : Int) (by omega) (by omega) (c := [_, _, _, _]) (seg := [.int .i64 x.f0, .int .i64 x.f1, .int .i64 x.f2, .int .i64 x.f3]) (j := 0) (x' := x) (okp := fun _ => False) rfl (by rw [Int.toNat_natCast]; exact four z0 z1 z2 z3) (Nat.le_refl 4) (k25_mkM _ _ _ x) (fun _ hk => hk.elim)).1
  rw [Int.toNat_natCast] at h1
  obtain ⟨z0, z1, z2, z3⟩ := slip_at (rows_reads h1) i hi (by rw [List.length_set]; omega)
  rw [List.getElem_set_self] at z0 z1 z2 z3
  have h2 := (Kd.R_seg (d := k25) h1 (i : Int) (by omega) (by omega) (c := [_, _, _, _]) (seg := [.int .i64 x.f2]) (j := 1) (x' := tw x) (okp := fun _ => False) rfl (by rw [Int.toNat_natCast]; exact four z0 z1 z2 z3) (by show 1 + 1 ≤ 4; omega) (k25_mkM _ _ _ (tw x)) (fun _ hk => hk.elim)).1
  rw [Int.toNat_natCast, List.set_set] at h2
  exact h2
theorem M.turn {w wr : World} {g g7 n i : Nat} {xs : List S25} (h : M w wr g g7 n xs) (hi : i < n) (x : S25) :
    M w (((((wr.setCell ⟨g, i * 4, none⟩ (.int .i64 x.f0)).setCell ⟨g, i * 4 + 1, none⟩ (.int .i64 x.f1)).setCell ⟨g, i * 4 + 2, none⟩ (.int .i64 x.f2)).setCell ⟨g, i * 4 + 3, none⟩ (.int .i64 x.f3)).setCell ⟨g, i * 4 + 1, none⟩ (.int .i64 x.f2)) g g7 n (xs.set i (tw x)) := by
  have hl := h.len
  have hg := h.glt.1
  have hne : g7 ≠ g := by
    rintro rfl
    obtain ⟨_, inner, ho, _⟩ := h.rs
    obtain ⟨cells, hc⟩ := own_typed ho g7 rfl
    have := hc.symm.trans h.k7
    injection this with this
    injection this with _ this
    exact absurd this (by decide)
  refine ⟨?_, by rw [List.length_set]; exact hl, ?_, below_set (below_set (below_set (below_set (below_set h.below hg) hg) hg) hg) hg⟩
  · have h2 := rows_turn h.rs i (by omega) x
    rwa [List.set_append_left _ _ (by omega)] at h2
  · exact blk_far (blk_far (blk_far (blk_far (blk_far h.k7 hne _) hne _) hne _) hne _) hne _

set_option maxRecDepth 100000 in
set_option maxHeartbeats 2000000 in
theorem MendOdds_calls (A : Option Addr) (cap : Nat) (l : List S25) (w : World) (hl : Kd.C k25 w A l.length l) (hc : l.length ≤ cap) (hn : l.length ≤ 4398046510976) :
    Calls Try.prog 3 #[.slice A l.length cap] w fun e w' => e = .returned (.bool true) ∧ Below w.heap.size w w' := by
  have HL := Aside0.mk hl
  have HC := Aside0.mk hc
  clear hl hc
  go_enter Try.func3, Try.ntmps3
  go_wp2_with (first | ((with_reducible refine gate_dst (N := 18) rfl ?_); refine R_make_cap k25 (w0 := w) w.heap.size rfl (.const (.int .i64 0)) (.tmp 17) 22 25 (.agg #[.int .i64 0, .int .i64 0, .int .i64 0, .int .i64 0]) 32 rfl Try.underlying22 info25' ((l.length : Int) + 4) (l.length + 4) rfl ?mA (by omega) (by omega) (by simp only [maxLen]; omega) (Nat.le_refl _) (Below.refl _ _) ?_; (case mA => first | (go_simp; done) | (go_simp; rfl)); intro g hg w1 hr hb; have GR := Aside0.mk hg; have HR := Aside0.mk hr; have HB := Aside0.mk hb; clear hg hr hb))
  go_loopw [3, 4] (fun v3 v4 wr => ∃ i : Nat, v3 = .slice (some ⟨g, 0, none⟩) i (l.length + 4) ∧ v4 = .int .i64 (i : Int) ∧ i ≤ l.length ∧ Aside0 (RowS wr w.heap.size (.slice (some ⟨g, 0, none⟩) i (l.length + 4)) (l.take i)) ∧ Aside0 (Below w.heap.size w wr)) (fun _ v4 _ => l.length - (intOf v4).toNat)
  case atStart => exact ⟨0, rfl, rfl, by omega, HR, HB⟩
  case round =>
    obtain ⟨i, rfl, rfl, hi, HRr, HBr⟩ := hrel
    clear HR HB
    by_cases hlt : i < l.length
    · have d1 : decide ((i : Int) < (l.length : Int)) = true := decide_eq_true (by omega)
      have d2 : decide (i < l.length) = true := decide_eq_true hlt
      obtain ⟨ad, rfl, z0, z1, z2, z3⟩ := slip_cells (Kd.C_below HL.out HBr.out) i hlt hlt
      have HTS := Aside0.mk (take_snoc l hlt)
      generalize hx : l[i] = x at *
      clear hx
      go_wp2_with (first | ((with_reducible refine gate_builtin (b := .append) (xs := #[.tmp 25, .tmp 30]) rfl ?_); at_builtin; refine R_append_spare k25 (w0 := w) w.heap.size rfl (.tmp 25) (.tmp 30) 22 25 rfl Try.underlying22 size25 g i (l.length + 4) (l.take i) x [.int .i64 x.f0, .int .i64 x.f1, .int .i64 x.f2, .int .i64 x.f3] T (fun _ => False) rfl rfl ?aP (fun _ hk => hk.elim) (fun _ _ => trivial) ?aO ?aN ?aB ?aS ?aR ?_; (case aP => exact k25_mkM _ _ _ x); (case aO => exact HRr.out); (case aN => rw [List.length_take]; omega); (case aB => exact HBr.out); (case aS => exact HBr.out.size); (case aR => omega); intro w9 ho hb hg; have HR9 : Aside0 (RowS w9 w.heap.size (.slice (some ⟨g, 0, none⟩) (i + 1) (l.length + 4)) (l.take (i + 1))) := ⟨by rw [← HTS.out]; exact ho⟩; have HB9 := Aside0.mk hb; clear ho hb hg HRr HBr z0 z1 z2 z3))
      go_roundw
      case measure => first | omega | (simp [intOf]; omega)
      case rel => exact ⟨i + 1, rfl, by congr 1, by omega, HR9, HB9⟩
    · have d1 : decide ((i : Int) < (l.length : Int)) = false := decide_eq_false (by omega)
      have d2 : decide (i < l.length) = false := decide_eq_false hlt
      obtain rfl : i = l.length := by omega
      have HR2 : Aside0 (RowS wr w.heap.size (.slice (some ⟨g, 0, none⟩) (l.length + 0) (l.length + 4)) (l ++ List.replicate 0 odd)) := ⟨by have h := HRr.out; rw [List.take_length] at h; simpa using h⟩
      clear HRr
      go_wp2_with fail
      go_loopw [5, 6] (fun v5 v6 wr => ∃ i : Nat, v5 = .slice (some ⟨g, 0, none⟩) (l.length + i) (l.length + 4) ∧ v6 = .int .i64 (i : Int) ∧ i ≤ 4 ∧ Aside0 (RowS wr w.heap.size (.slice (some ⟨g, 0, none⟩) (l.length + i) (l.length + 4)) (l ++ List.replicate i odd)) ∧ Aside0 (Below w.heap.size w wr)) (fun _ v6 _ => 4 - (intOf v6).toNat)
      case atStart => exact ⟨0, rfl, rfl, by omega, HR2, HBr⟩
      case round =>
        obtain ⟨i, rfl, rfl, hi, HRs, HBs⟩ := hrel
        clear HR2 HBr
        by_cases hlt : i < 4
        · have d1 : decide ((i : Int) < 4) = true := decide_eq_true (by omega)
          have d2 : decide (i < 4) = true := decide_eq_true hlt
          go_wp2_with (first | ((with_reducible refine gate_builtin (b := .append) (xs := #[.tmp 37, .tmp 39]) rfl ?_); at_builtin; refine R_append_spare k25 (w0 := w) w.heap.size rfl (.tmp 37) (.tmp 39) 22 25 rfl Try.underlying22 size25 g (l.length + i) (l.length + 4) (l ++ List.replicate i odd) odd [.int .i64 (-77), .int .i64 0, .int .i64 0, .int .i64 0] T (fun _ => False) rfl rfl ?aP (fun _ hk => hk.elim) (fun _ _ => trivial) ?aO ?aN ?aB ?aS ?aR ?_; (case aP => exact k25_mkM _ _ _ odd); (case aO => exact HRs.out); (case aN => rw [List.length_append, List.length_replicate]); (case aB => exact HBs.out); (case aS => exact HBs.out.size); (case aR => omega); intro w9 ho hb hg; have HR9 : Aside0 (RowS w9 w.heap.size (.slice (some ⟨g, 0, none⟩) (l.length + (i + 1)) (l.length + 4)) (l ++ List.replicate (i + 1) odd)) := ⟨by rw [← odd_snoc]; exact ho⟩; have HB9 := Aside0.mk hb; clear ho hb hg HRs HBs))
          go_roundw
          case measure => first | omega | (simp [intOf]; omega)
          case rel => exact ⟨i + 1, rfl, by congr 1, by omega, HR9, HB9⟩
        · have d1 : decide ((i : Int) < 4) = false := decide_eq_false (by omega)
          have d2 : decide (i < 4) = false := decide_eq_false hlt
          obtain rfl : i = 4 := by omega
          go_wp2_with fail
          have HM0 : Aside0 (M w (wr.alloc (C7 g l.length)) g wr.heap.size l.length l) := ⟨⟨Kd.R_alloc HRs.out _, rfl, heap_alloc_new wr _, below_alloc HBs.out _⟩⟩
          have HN := Aside0.mk hn
          clear HRs HBs
          refine (trellisref30_Odd.calls (l.length + 1) 0 0 0 none 0 [] none 0 [] 0 A cap l (odds l) _ (Kd.C_nil _ _) (Nat.le_refl _) (Kd.C_nil _ _) (Nat.le_refl _) (Kd.C_below HL.out HM0.out.below) HC.out (ref_odds l HN.out)).mono ?_
          rintro e w1 ⟨v8, rfl, HV, hb⟩
          obtain ⟨A8, c8, rfl⟩ := Kd.R_slice HV
          have HM1 := Aside0.mk (HM0.out.moved hb)
          have HV8 : Aside0 (Kd.C k42 w1 A8 (odds l).length (odds l)) := ⟨(Kd.R_reads' HV).2.2⟩
          have HC8 : Aside0 ((odds l).length ≤ c8) := ⟨(Kd.R_reads' HV).2.1⟩
          generalize hg7 : wr.heap.size = g7 at *
          clear HV hb HM0 hg7
          have z0 : w1.cell? ⟨g7, 0, none⟩ = some (.int .i64 0) := (blk_cell HM1.out.k7 0).trans rfl
          have z1 : w1.cell? ⟨g7, 1, none⟩ = some (.int .i64 0) := (blk_cell HM1.out.k7 1).trans rfl
          have z2 : w1.cell? ⟨g7, 2, none⟩ = some (.int .u64 0) := (blk_cell HM1.out.k7 2).trans rfl
          have z3 : w1.cell? ⟨g7, 3, none⟩ = some (.slice none 0 0) := (blk_cell HM1.out.k7 3).trans rfl
          have z4 : w1.cell? ⟨g7, 4, none⟩ = some (.slice none 0 0) := (blk_cell HM1.out.k7 4).trans rfl
          have z5 : w1.cell? ⟨g7, 5, none⟩ = some (.int .i64 0) := (blk_cell HM1.out.k7 5).trans rfl
          have z6 : w1.cell? ⟨g7, 6, none⟩ = some (.slice (some ⟨g, 0, none⟩) l.length (l.length + 4)) := (blk_cell HM1.out.k7 6).trans rfl
          go_wp2_with fail
          clear z0 z1 z2 z3 z4 z5 z6
          refine (mend_Odd.calls (l.length + 1) 0 0 0 none 0 [] none 0 [] 0 (some ⟨g, 0, none⟩) (l.length + 4) l (odds l) _ (Kd.C_nil _ _) (Nat.le_refl _) (Kd.C_nil _ _) (Nat.le_refl _) HM1.out.reads (by omega) (mend_odds l HN.out)).mono ?_
          rintro e w2 ⟨v9, rfl, HV, hb⟩
          obtain ⟨A9, c9, rfl⟩ := Kd.R_slice HV
          have HB1 := Aside0.mk hb
          have HM2 := Aside0.mk (HM1.out.moved hb)
          have HV8' := Aside0.mk (Kd.C_below HV8.out hb)
          have HV9 : Aside0 (Row w2 w1.heap.size (.slice A9 (odds l).length c9) (odds l)) := ⟨HV⟩
          clear HV hb HV8
          have z0 : w2.cell? ⟨g7, 0, none⟩ = some (.int .i64 0) := (blk_cell HM2.out.k7 0).trans rfl
          have z1 : w2.cell? ⟨g7, 1, none⟩ = some (.int .i64 0) := (blk_cell HM2.out.k7 1).trans rfl
          have z2 : w2.cell? ⟨g7, 2, none⟩ = some (.int .u64 0) := (blk_cell HM2.out.k7 2).trans rfl
          have z3 : w2.cell? ⟨g7, 3, none⟩ = some (.slice none 0 0) := (blk_cell HM2.out.k7 3).trans rfl
          have z4 : w2.cell? ⟨g7, 4, none⟩ = some (.slice none 0 0) := (blk_cell HM2.out.k7 4).trans rfl
          have z5 : w2.cell? ⟨g7, 5, none⟩ = some (.int .i64 0) := (blk_cell HM2.out.k7 5).trans rfl
          have z6 : w2.cell? ⟨g7, 6, none⟩ = some (.slice (some ⟨g, 0, none⟩) l.length (l.length + 4)) := (blk_cell HM2.out.k7 6).trans rfl
          go_wp2_with fail
          clear z0 z1 z2 z3 z4 z5 z6
          refine (mend_Odd.calls (l.length + 1) 0 0 0 none 0 [] none 0 [] 0 (some ⟨g, 0, none⟩) (l.length + 4) l (odds l) _ (Kd.C_nil _ _) (Nat.le_refl _) (Kd.C_nil _ _) (Nat.le_refl _) HM2.out.reads (by omega) (mend_odds l HN.out)).mono ?_
          rintro e w3 ⟨v10, rfl, HV, hb⟩
          obtain ⟨A10, c10, rfl⟩ := Kd.R_slice HV
          have HM3 := Aside0.mk (HM2.out.moved hb)
          have HV8 := Aside0.mk (Kd.C_below HV8'.out hb)
          have HA : Aside0 (Apart (.slice A9 (odds l).length c9) (.slice A10 (odds l).length c10)) := ⟨fun k h1 h2 => by have q1 := (HV9.out.lt h1).2; have q2 := (Row.lt (w := w3) (b := w2.heap.size) HV h2).1; omega⟩
          have HV9' := Aside0.mk (HV9.out.below hb)
          have HV10 : Aside0 (Row w3 w1.heap.size (.slice A10 (odds l).length c10) (odds l)) := ⟨Kd.R_lower HV HB1.out.size⟩
          have HB3 : Aside0 (Below w1.heap.size w1 w3) := ⟨HB1.out.trans (hb.mono HB1.out.size)⟩
          clear HV hb HM2 HV8' HV9 HB1
          go_wp2_with fail
          have HOL : Aside0 ((odds l).length ≤ 4398046510976) := ⟨Nat.le_trans (odds_len l) HN.out⟩
          refine (trellislaw30_sameRanges.calls ((odds l).length + 1) A9 c9 (odds l) A8 c8 (odds l) true _ HV9'.out.reads (Kd.R_reads' HV9'.out).2.1 HV8.out HC8.out (same_self _ HOL.out)).mono ?_
          rintro e w4 ⟨rfl, hD⟩
          have HD4 := Aside0.mk hD.below
          clear hD
          go_wp2_with fail
          refine (trellislaw30_sameRanges.calls ((odds l).length + 1) A10 c10 (odds l) A8 c8 (odds l) true _ (Kd.C_below HV10.out.reads HD4.out) (Kd.R_reads' HV10.out).2.1 (Kd.C_below HV8.out HD4.out) HC8.out (same_self _ HOL.out)).mono ?_
          rintro e w5 ⟨rfl, hD⟩
          have HD5 : Aside0 (Below w3.heap.size w3 w5) := ⟨HD4.out.trans (hD.below.mono HD4.out.size)⟩
          have HM5 := Aside0.mk (HM3.out.moved HD5.out)
          have HV9 := Aside0.mk (HV9'.out.below HD5.out)
          have HV11 := Aside0.mk (HV10.out.below HD5.out)
          have HB5 : Aside0 (Below w1.heap.size w1 w5) := ⟨HB3.out.trans (HD5.out.mono HB3.out.size)⟩
          clear hD HD4 HM3 HV9' HV10 HB3 HD5 HV8 HC8
          go_wp2_with fail
          go_loopw [11] (fun v11 w' => ∃ i : Nat, v11 = .int .i64 (i : Int) ∧ i ≤ l.length + 4 ∧ Aside0 (Below w5.heap.size w5 w')) (fun v11 _ => l.length + 4 - (intOf v11).toNat)
          case atStart => exact ⟨0, rfl, by omega, ⟨Below.refl _ _⟩⟩
          case round =>
            obtain ⟨i, rfl, hi, HBl⟩ := hrel
            by_cases hlt : i < l.length + 4
            · have d1 : decide ((i : Int) < (l.length : Int) + 4) = true := decide_eq_true (by omega)
              have d2 : decide (i < l.length + 4) = true := decide_eq_true hlt
              have HMx := Aside0.mk (HM5.out.moved HBl.out)
              by_cases hin : i < l.length
              · have d3 : decide ((i : Int) < (l.length : Int)) = true := decide_eq_true (by omega)
                have d4 : decide (i < l.length) = true := decide_eq_true hin
                have d5 : decide ((l.length : Int) ≤ (i : Int)) = false := decide_eq_false (by omega)
                have d6 : decide (l.length ≤ i) = false := decide_eq_false (by omega)
                obtain ⟨z0, z1, z2, z3⟩ := slip_at HMx.out.reads i hin hin
                obtain ⟨ad, rfl, y0, y1, y2, y3⟩ := slip_cells (Kd.C_below HL.out HMx.out.below) i hin hin
                generalize l[i] = x at *
                go_wp2
                repeat (go_quiet (fail); try go_wp2)
                go_roundw
                case measure => first | omega | (simp [intOf]; omega)
                case rel => exact ⟨i + 1, by congr 1, by omega, ⟨pw_below_drewN HBl.out _⟩⟩
              · have d3 : decide ((i : Int) < (l.length : Int)) = false := decide_eq_false (by omega)
                have d4 : decide (i < l.length) = false := decide_eq_false hin
                have d5 : decide ((l.length : Int) ≤ (i : Int)) = true := decide_eq_true (by omega)
                have d6 : decide (l.length ≤ i) = true := decide_eq_true (by omega)
                have z0 := HMx.out.odd_at i (by omega) hlt
                go_wp2
                repeat (go_quiet (fail); try go_wp2)
                go_roundw
                case measure => first | omega | (simp [intOf]; omega)
                case rel => exact ⟨i + 1, by congr 1, by omega, ⟨pw_below_drewN HBl.out _⟩⟩
            · have d1 : decide ((i : Int) < (l.length : Int) + 4) = false := decide_eq_false (by omega)
              have d2 : decide (i < l.length + 4) = false := decide_eq_false hlt
              have HM6 := Aside0.mk (HM5.out.moved HBl.out)
              have HW9 := Aside0.mk (HV9.out.below HBl.out)
              have HW10 := Aside0.mk (HV11.out.below HBl.out)
              have HB6 : Aside0 (Below w1.heap.size w1 wr) := ⟨HB5.out.trans (HBl.out.mono HB5.out.size)⟩
              clear HM5 HV9 HV11 HB5 HBl
              go_wp2_with fail
              refine (partRanges_calls w1.heap.size A9 A10 c9 c10 (odds l) (odds l) wr HW9.out HW10.out HA.out HB6.out.size HOL.out HOL.out).mono ?_
              rintro e w7 ⟨rfl, hb⟩
              have HM7 : Aside0 (M w w7 g g7 l.length (fillS 0 l)) := ⟨by rw [fillS_zero]; exact HM1.out.moved (HB6.out.trans hb)⟩
              clear hb HM6 HW9 HW10 HB6 HM1 HA
              go_wp2_with fail
              go_loopw [12] (fun v12 wr => ∃ i : Nat, v12 = .int .i64 (i : Int) ∧ i ≤ l.length ∧ Aside0 (M w wr g g7 l.length (fillS i l))) (fun v12 _ => l.length - (intOf v12).toNat)
              case atStart => exact ⟨0, rfl, by omega, HM7⟩
              case round =>
                obtain ⟨i, rfl, hi, HMr⟩ := hrel
                clear HM7
                by_cases hlt : i < l.length
                · have d1 : decide ((i : Int) < (l.length : Int)) = true := decide_eq_true (by omega)
                  have d2 : decide (i < l.length) = true := decide_eq_true hlt
                  obtain ⟨j, hj⟩ : ∃ j, j = l.length - 1 - i := ⟨_, rfl⟩
                  have hjl : j < l.length := by omega
                  have e1 : wrap64 ((l.length : Int) - 1) = (l.length : Int) - 1 := wrap_in _ (by omega)
                  have e2 : wrap64 ((l.length : Int) - 1 - (i : Int)) = (j : Int) := by rw [wrap_in _ (by omega)]; omega
                  have e3 : (l.length : Int) - 1 - (i : Int) = (j : Int) := by omega
                  have d3 : decide ((j : Int) < (l.length : Int)) = true := decide_eq_true (by omega)
                  have d4 : decide (j < l.length) = true := decide_eq_true hjl
                  have HJ := Aside0.mk hj
                  obtain ⟨z0, z1, z2, z3⟩ := slip_at HMr.out.reads i (by rw [fillS_len hi]; exact hlt) (by rw [fillS_len hi]; exact hlt)
                  obtain ⟨ad, rfl, y0, y1, y2, y3⟩ := slip_cells (Kd.C_below HL.out HMr.out.below) j hjl hjl
                  obtain ⟨cur, hcur⟩ : ∃ cur, wr.heap[g]? = some (.cells cur 25 (0, 0)) := by
                    obtain ⟨_, inner, ho, _⟩ := HMr.out.rs
                    exact own_typed ho g rfl
                  have f0 := blk_frozen hcur (i * 4)
                  have f1 := blk_frozen hcur (i * 4 + 1)
                  have f2 := blk_frozen hcur (i * 4 + 2)
                  have f3 := blk_frozen hcur (i * 4 + 3)
                  clear hj hcur
                  go_wp2_with fail
                  go_roundw
                  case measure => first | omega | (simp [intOf]; omega)
                  case rel =>
                    refine ⟨i + 1, by congr 1, by omega, ⟨?_⟩⟩
                    rw [← fillS_set hlt]
                    have hj := HJ.out
                    subst hj
                    exact HMr.out.turn hlt _
                · have d1 : decide ((i : Int) < (l.length : Int)) = false := decide_eq_false (by omega)
                  have d2 : decide (i < l.length) = false := decide_eq_false hlt
                  obtain rfl : i = l.length := by omega
                  obtain ⟨w8, hw8⟩ : ∃ w8, w8 = wr := ⟨_, rfl⟩
                  subst hw8
                  have HM8 : Aside0 (M w w8 g g7 l.length (turned l)) := ⟨by rw [← fillS_all]; exact HMr.out⟩
                  clear HMr
                  go_wp2_with fail
                  go_loopw [13, 14] (fun v13 v14 wr => ∃ i : Nat, v14 = .int .i64 (i : Int) ∧ i ≤ l.length ∧ Aside0 (RowS wr w8.heap.size v13 ((turned l).take i)) ∧ Aside0 (Below w8.heap.size w8 wr)) (fun _ v14 _ => l.length - (intOf v14).toNat)
                  case atStart => exact ⟨0, rfl, by omega, ⟨Kd.R_nil _ _ _ _ _⟩, ⟨Below.refl _ _⟩⟩
                  case round =>
                    obtain ⟨i, rfl, hi, HTr, HBr⟩ := hrel
                    have HMr := Aside0.mk (HM8.out.moved HBr.out)
                    by_cases hlt : i < l.length
                    · have d1 : decide ((i : Int) < (l.length : Int)) = true := decide_eq_true (by omega)
                      have d2 : decide (i < l.length) = true := decide_eq_true hlt
                      have hlt' : i < (turned l).length := by rw [turned_len]; exact hlt
                      obtain ⟨z0, z1, z2, z3⟩ := slip_at HMr.out.reads i hlt' hlt'
                      have HTS := Aside0.mk (take_snoc (turned l) hlt')
                      have HTN : Aside0 (((turned l).take i).length = i) := ⟨by rw [List.length_take]; omega⟩
                      generalize (turned l)[i] = x at *
                      go_wp2_with (first | ((with_reducible refine gate_builtin (b := .append) (xs := #[.tmp 131, .tmp 136]) rfl ?_); at_builtin; refine Kd.R_append k25 (w0 := w8) w8.heap.size rfl (.tmp 131) (.tmp 136) 22 25 (.agg #[.int .i64 0, .int .i64 0, .int .i64 0, .int .i64 0]) 32 rfl Try.underlying22 info25' rfl (by decide) (by omega) u13 ((turned l).take i) x [.int .i64 x.f0, .int .i64 x.f1, .int .i64 x.f2, .int .i64 x.f3] T (fun _ => False) rfl rfl ?aP (fun _ hk => hk.elim) (fun _ _ => trivial) ?aO ?aB ?aS ?aL ?_; (case aP => exact k25_mkM _ _ _ x); (case aO => exact HTr.out); (case aB => exact HBr.out); (case aS => exact HBr.out.size); (case aL => rw [HTN.out]; omega); intro v1 w9 ho hb hg hat; have HT9 : Aside0 (RowS w9 w8.heap.size v1 ((turned l).take (i + 1))) := ⟨by rw [← HTS.out]; exact ho⟩; have HB9 := Aside0.mk hb; clear ho hb hg hat HTr HBr HMr z0 z1 z2 z3))
                      go_roundw
                      case measure => first | omega | (simp [intOf]; omega)
                      case rel => exact ⟨i + 1, by congr 1, by omega, HT9, HB9⟩
                    · have d1 : decide ((i : Int) < (l.length : Int)) = false := decide_eq_false (by omega)
                      have d2 : decide (i < l.length) = false := decide_eq_false hlt
                      obtain rfl : i = l.length := by omega
                      have HT : Aside0 (RowS wr w8.heap.size u13 (turned l)) := ⟨by have h := HTr.out; rwa [List.take_of_length_le (by rw [turned_len]; exact Nat.le_refl _)] at h⟩
                      clear HTr HM8 HBr
                      obtain ⟨A13, c13, e13⟩ := Kd.R_slice HT.out
                      rw [turned_len] at e13
                      subst e13
                      go_wp2_with fail
                      have HTL : Aside0 ((turned l).length ≤ 4398046510976) := ⟨by rw [turned_len]; exact HN.out⟩
                      have hcall := trellisref30_Odd.calls ((turned l).length + 1) 0 0 0 none 0 [] none 0 [] 0 A13 c13 (turned l) (odds (turned l)) wr (Kd.C_nil _ _) (Nat.le_refl _) (Kd.C_nil _ _) (Nat.le_refl _) (by have h := rows_reads HT.out; rwa [← turned_len l] at h) (by have h := (Kd.R_reads' HT.out).2.1; rwa [← turned_len l] at h) (ref_odds _ HTL.out)
                      rw [turned_len] at hcall
                      refine hcall.mono ?_
                      clear hcall
                      rintro e x1 ⟨y8, rfl, HV, hb⟩
                      obtain ⟨B8, b8, rfl⟩ := Kd.R_slice HV
                      have HM1 := Aside0.mk (HMr.out.moved hb)
                      have HV8 : Aside0 (Kd.C k42 x1 B8 (odds (turned l)).length (odds (turned l))) := ⟨(Kd.R_reads' HV).2.2⟩
                      have HC8 : Aside0 ((odds (turned l)).length ≤ b8) := ⟨(Kd.R_reads' HV).2.1⟩
                      clear HV hb HMr HT
                      have z0 : x1.cell? ⟨g7, 0, none⟩ = some (.int .i64 0) := (blk_cell HM1.out.k7 0).trans rfl
                      have z1 : x1.cell? ⟨g7, 1, none⟩ = some (.int .i64 0) := (blk_cell HM1.out.k7 1).trans rfl
                      have z2 : x1.cell? ⟨g7, 2, none⟩ = some (.int .u64 0) := (blk_cell HM1.out.k7 2).trans rfl
                      have z3 : x1.cell? ⟨g7, 3, none⟩ = some (.slice none 0 0) := (blk_cell HM1.out.k7 3).trans rfl
                      have z4 : x1.cell? ⟨g7, 4, none⟩ = some (.slice none 0 0) := (blk_cell HM1.out.k7 4).trans rfl
                      have z5 : x1.cell? ⟨g7, 5, none⟩ = some (.int .i64 0) := (blk_cell HM1.out.k7 5).trans rfl
                      have z6 : x1.cell? ⟨g7, 6, none⟩ = some (.slice (some ⟨g, 0, none⟩) l.length (l.length + 4)) := (blk_cell HM1.out.k7 6).trans rfl
                      go_wp2_with fail
                      clear z0 z1 z2 z3 z4 z5 z6
                      have hcall := mend_Odd.calls ((turned l).length + 1) 0 0 0 none 0 [] none 0 [] 0 (some ⟨g, 0, none⟩) (l.length + 4) (turned l) (odds (turned l)) x1 (Kd.C_nil _ _) (Nat.le_refl _) (Kd.C_nil _ _) (Nat.le_refl _) HM1.out.reads (by rw [turned_len]; omega) (mend_odds _ HTL.out)
                      rw [turned_len] at hcall
                      refine hcall.mono ?_
                      clear hcall
                      rintro e x2 ⟨y9, rfl, HV, hb⟩
                      obtain ⟨B9, b9, rfl⟩ := Kd.R_slice HV
                      have HM2 := Aside0.mk (HM1.out.moved hb)
                      have HV8' := Aside0.mk (Kd.C_below HV8.out hb)
                      have HV9 : Aside0 (Row x2 x1.heap.size (.slice B9 (odds (turned l)).length b9) (odds (turned l))) := ⟨HV⟩
                      have HOT : Aside0 ((odds (turned l)).length ≤ 4398046510976) := ⟨Nat.le_trans (odds_len _) HTL.out⟩
                      clear HV hb HM1 HV8
                      go_wp2_with fail
                      refine (trellislaw30_sameRanges.calls ((odds (turned l)).length + 1) B9 b9 (odds (turned l)) B8 b8 (odds (turned l)) true _ HV9.out.reads (Kd.R_reads' HV9.out).2.1 HV8'.out HC8.out (same_self _ HOT.out)).mono ?_
                      rintro e x3 ⟨rfl, hD⟩
                      have HM3 := Aside0.mk (HM2.out.moved hD.below)
                      clear hD HM2
                      go_wp2_with fail
                      go_ret
                      exact ⟨rfl, HM3.out.below⟩
end Go.Proofs.Ytgefbbdahhoglaa.Mend
