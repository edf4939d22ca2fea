/- outline.Symbols: what lies about in one round; what is told. outline.Symbols: the symbols of a list of nodes, by a stack of ends. -/
import Derived.Test.YtknagjiipelfnaaOSym
import Derived.Deep.RegionLaw
namespace Go.Proofs.Ytknagjiipelfnaa.OL
open Go.RowKit Go.WideShapes Go.ChangeShapes Go.Proofs.YtknagjiipelfnaaW.PrintWords Go.Proofs.YtknagjiipelfnaaW.PrintLast Go.Proofs.YtknagjiipelfnaaW.PrintMore Go.Proofs.Ytknagjiipelfnaa.PAll
set_option linter.unusedVariables false

structure SyS (w wr : World) (gL : Nat) (vF vM vo va : Value) (outs : List S84) (S : List Int) : Prop where
  kl : wr.heap[gL]? = some (.cells (langC vF vM) 45 (0, 0))
  o : k84.R 84 wr w.heap.size (fun _ => True) vo outs
  a : RI wr w.heap.size va S.reverse
  b : Below w.heap.size w wr
section
variable {w wr w1 : World} {gL : Nat} {vF vM vo va : Value} {outs : List S84} {S : List Int}
theorem SyS.moved (h : SyS w wr gL vF vM vo va outs S) (hb : Below wr.heap.size wr w1) : SyS w w1 gL vF vM vo va outs S :=
  ⟨(hb.block _ (blk_lt h.kl)).trans h.kl, Kd.R_below h.o hb, h.a.below hb, below_then h.b h.b.size hb⟩
theorem SyS.cut {A : Option Addr} {n c : Nat} {e : Int} (h : SyS w wr gL vF vM vo (.slice A n c) outs (e :: S)) : SyS w wr gL vF vM vo (.slice A S.length c) outs S := by
  refine ⟨h.kl, h.o, ?_, h.b⟩
  have h2 := h.a.take S.length (by simp)
  rw [List.reverse_cons, List.take_append_of_le_length (by simp), List.take_of_length_le (by simp)] at h2
  exact h2
theorem SyS.appO {vo1 : Value} {outs1 : List S84} (h : SyS w wr gL vF vM vo va outs S) (ho : k84.R 84 w1 w.heap.size (fun _ => True) vo1 outs1) (hb : Below w.heap.size w w1) (hg : wr.grownBy w1 vo.ownBlock) : SyS w w1 gL vF vM vo1 va outs1 S := by
  refine ⟨blk_grown h.kl hg (Kd.R_ne h.o h.kl (by decide)), ho, h.a.keep hg (fun k hk e => ?_), hb⟩
  obtain ⟨c1, h1⟩ := h.a.typed hk
  obtain ⟨c2, h2⟩ := Kd.R_typed h.o k e.symm
  rw [h1] at h2
  injection h2 with h2
  injection h2 with _ h3
  cases h3
theorem SyS.appA {va1 : Value} {S1 : List Int} (h : SyS w wr gL vF vM vo va outs S) (ho : RI w1 w.heap.size va1 S1.reverse) (hb : Below w.heap.size w w1) (hg : wr.grownBy w1 va.ownBlock) : SyS w w1 gL vF vM vo va1 outs S1 := by
  refine ⟨(hg.block _ (blk_lt h.kl) (fun e => ?_)).trans h.kl, Kd.R_over' h.o (e' := 3) (fun k hk => h.a.typed hk) (fun q hq => ?_) hg, ho, hb⟩
  · obtain ⟨cur, hc⟩ := h.a.typed e.symm
    exact ty_ne h.kl hc (by decide) rfl
  · intro e
    subst e
    rcases List.mem_cons.1 hq with hq | hq
    · cases hq
    · cases hq
end
/-- The bytes of a text from a place on, up to a place. -/
def cutB (text : ByteArray) (a b : Int) : ByteArray := text.extract a.toNat b.toNat
/-- One symbol. -/
def mkSym (t : List S50) (text : ByteArray) (o : Nat × Int × Nat) : S84 := ⟨(rd_T50 t (o.1 : Int)).f0, cutB text (rd_T50 t o.2.1).f3 (rd_T50 t o.2.1).f4, (rd_T50 t (o.1 : Int)).f3, (rd_T50 t (o.1 : Int)).f4, (o.2.2 : Int)⟩
def enF (F : List S143) (i : Nat) : Int := (enL F).getD i 0
/-- What Symbols tells of a forest. -/
def symsF (ms : List Mk) (t : List S50) (F : List S143) (text : ByteArray) : List S84 := (runS (symK ms t F) (enF F) t.length 0 []).1.map (mkSym t text)
theorem popA_len (i : Nat) : ∀ S : List Int, (popA i S).length ≤ S.length := by
  intro S
  induction S with
  | nil => exact Nat.le_refl _
  | cons e S ih =>
    simp only [popA]
    split
    · have := ih; simp; omega
    · exact Nat.le_refl _
theorem symK_in {ms : List Mk} {t : List S50} {F : List S143} (h : Fo t 0 F) {i : Nat} (hi : i < t.length) {k : Int} (hk : symK ms t F i = some k) : 0 ≤ k ∧ k < (t.length : Int) := by
  unfold symK at hk
  split at hk
  · split at hk
    · cases hk
    · unfold kidK at hk
      exact kids_in h hi k (List.mem_of_find?_eq_some hk)
  · cases hk
theorem right_at {t : List S50} {text : ByteArray} (h : rightF t text = true) {k : Int} (h0 : 0 ≤ k) (h1 : k < (t.length : Int)) : 0 ≤ (rd_T50 t k).f3 ∧ (rd_T50 t k).f3 ≤ (rd_T50 t k).f4 ∧ (rd_T50 t k).f4 ≤ (text.size : Int) := by
  unfold rightF at h
  rw [Bool.and_eq_true, List.all_eq_true] at h
  have hm : rd_T50 t k ∈ t := by
    unfold rd_T50
    rw [List.getD_eq_getElem?_getD, List.getElem?_eq_getElem (by omega)]
    exact List.getElem_mem _
  have h2 := h.1 _ hm
  unfold okN at h2
  simp only [Bool.not_eq_true', Bool.or_eq_false_iff, decide_eq_false_iff_not] at h2
  omega
theorem enF_size {t : List S50} {F : List S143} (h : Fo t 0 F) {i : Nat} (hi : i < t.length) : (i : Int) ≤ enF F i ∧ enF F i ≤ (t.length : Int) := by
  obtain ⟨x, ks, K, hx, hnd, hfk, hen, hle, hin⟩ := h.node i hi
  unfold enF
  rw [List.getD_eq_getElem?_getD, hen]
  simp only [Option.getD_some]
  omega
end Go.Proofs.Ytknagjiipelfnaa.OL
namespace Go.Proofs.Ytknagjiipelfnaa.OL
open Go.RowKit Go.WideShapes Go.ChangeShapes Go.Proofs.YtknagjiipelfnaaW.PrintWords Go.Proofs.YtknagjiipelfnaaW.PrintLast Go.Proofs.YtknagjiipelfnaaW.PrintMore Go.Proofs.Ytknagjiipelfnaa.PAll
set_option linter.unusedVariables false

theorem info84 : (Try.prog.info? 84).map (fun i => (i.zero, i.size, i.bytes)) = some (some (.agg #[.string ⟨#[]⟩, .string ⟨#[]⟩, .int .i64 0, .int .i64 0, .int .i64 0]), 5, 56) := by kernel_rfl
theorem lang_cells {w : World} {g : Nat} {vF vM : Value} (h : w.heap[g]? = some (.cells (langC vF vM) 45 (0, 0))) : w.cell? ⟨g, 0, none⟩ = some (.string ⟨#[]⟩) ∧ w.cell? ⟨g, 1, none⟩ = some (.slice none 0 0) ∧ w.cell? ⟨g, 2, none⟩ = some (.slice none 0 0) ∧ w.cell? ⟨g, 3, none⟩ = some (.slice none 0 0) ∧ w.cell? ⟨g, 4, none⟩ = some (.slice none 0 0) ∧ w.cell? ⟨g, 5, none⟩ = some (.slice none 0 0) ∧ w.cell? ⟨g, 6, none⟩ = some (.slice none 0 0) ∧ w.cell? ⟨g, 7, none⟩ = some (.slice none 0 0) ∧ w.cell? ⟨g, 8, none⟩ = some (.slice none 0 0) ∧ w.cell? ⟨g, 9, none⟩ = some vF ∧ w.cell? ⟨g, 10, none⟩ = some vM ∧ w.cell? ⟨g, 11, none⟩ = some (.slice none 0 0) :=
  ⟨(blk_cell h 0).trans rfl, (blk_cell h 1).trans rfl, (blk_cell h 2).trans rfl, (blk_cell h 3).trans rfl, (blk_cell h 4).trans rfl, (blk_cell h 5).trans rfl, (blk_cell h 6).trans rfl, (blk_cell h 7).trans rfl, (blk_cell h 8).trans rfl, (blk_cell h 9).trans rfl, (blk_cell h 10).trans rfl, (blk_cell h 11).trans rfl⟩
theorem lit84 {w : World} {g : Nat} {a b : ByteArray} {p q r : Int} (h : w.heap[g]? = some (.cells #[.string a, .string b, .int .i64 p, .int .i64 q, .int .i64 r] 84 (0, 0))) : k84.C w (some ⟨g, 0, none⟩) 1 [⟨a, b, p, q, r⟩] := by
  refine ⟨rfl, by decide, fun _ => ⟨⟨g, 0, none⟩, rfl, fun j y hj => ?_⟩⟩
  cases j with
  | succ j => simp at hj
  | zero =>
    simp only [List.getElem?_cons_zero] at hj
    injection hj with hj
    subst hj
    refine ⟨[.string a, .string b, .int .i64 p, .int .i64 q, .int .i64 r], rfl, k84_mk _ _, fun i u hi => ?_⟩
    match i, hi with
    | 0, hi => rw [← hi]; exact (blk_cell h 0).trans rfl
    | 1, hi => rw [← hi]; exact (blk_cell h 1).trans rfl
    | 2, hi => rw [← hi]; exact (blk_cell h 2).trans rfl
    | 3, hi => rw [← hi]; exact (blk_cell h 3).trans rfl
    | 4, hi => rw [← hi]; exact (blk_cell h 4).trans rfl
    | n + 5, hi => simp at hi
theorem grown_node84 {w5 W w6 : World} {b gN : Nat} {v : Value} {xs : List S84} {cs : Array Value} (h : w5.heap[gN]? = some (.cells cs 50 (0, 0))) (hb : Below w5.heap.size w5 W) (ho : k84.R 84 w5 b (fun _ => True) v xs) (hg : W.grownBy w6 v.ownBlock) : w6.heap[gN]? = some (.cells cs 50 (0, 0)) := by
  have h1 := (hb.block _ (blk_lt h)).trans h
  exact (hg.block _ (blk_lt h1) (Kd.R_ne ho h (by decide))).trans h1
theorem R84_app {P : Program} {ops : Array Oper} {o : Oper} {a : Act} {Q : Exit → Act → World → Prop} {Kc : Act → World → Prop} {w0 W : World} {E : Prop} (base : Nat) (hgd : o.guard = none) (s x : Operand)
    (ho : o.op = .call { callee := .builtin .append, args := #[s, x], argTypes := #[29, 29] })
    (ht : P.underlying 29 = some (.slice 84)) (hinfo : (P.info? 84).map (fun i => (i.zero, i.size, i.bytes)) = some (some (.agg #[.string ⟨#[]⟩, .string ⟨#[]⟩, .int .i64 0, .int .i64 0, .int .i64 0]), 5, 56))
    (v : Value) (xs : List S84) (p : S84) (A : Option Addr) (c : Nat) (hs : a.eval s = v) (hx : a.eval x = .slice A 1 c)
    (HO : k84.R 84 W base (fun _ => True) v xs) (HR : k84.C W A 1 [p]) (HB : Below base w0 W) (hbase : base ≤ W.heap.size) (hl : xs.length ≤ 2097152)
    (h : ∀ v1 w1, k84.R 84 w1 base (fun _ => True) v1 (xs ++ [p]) → Below base w0 w1 → W.grownBy w1 v.ownBlock → Kc (a.put o.dst v1) w1) :
    if Region.wanted o (yielded ops a.tmps) = true then Oper.wp P o a W Kc Q else E := by
  have hw : Region.wanted o (yielded ops a.tmps) = true := by simp [Region.wanted, hgd]
  have h2 := Kd.R_append_rows_step (P := P) (ops := ops) (o := o) (a := a) (Q := Q) (Kc := Kc) k84 (Rr := k84.K W) (w0 := w0) base hw s x 29 84 (.agg #[.string ⟨#[]⟩, .string ⟨#[]⟩, .int .i64 0, .int .i64 0, .int .i64 0]) 56 ho ht hinfo rfl (by decide) (by omega) v xs [p] A 1 c (fun _ => True) (fun _ => False) hs hx HO HR (fun y cs hk => by rw [k84_open hk]; exact k84_mkM _ _ _ _) (fun _ hk => hk.elim) (fun _ _ => trivial) HB hbase (by omega) (fun v1 w1 h1 h2 h3 _ => h v1 w1 h1 h2 h3)
  rw [if_pos hw] at h2 ⊢
  exact h2
theorem RI_appL {P : Program} {ops : Array Oper} {rest : List Oper} {o : Oper} {a : Act} {Q : Exit → Act → World → Prop} {w0 W : World} (base : Nat) (hgd : o.guard = none) (s x : Operand)
    (ho : o.op = .call { callee := .builtin .append, args := #[s, x], argTypes := #[90, 90] })
    (ht : P.underlying 90 = some (.slice 3)) (hinfo : (P.info? 3).map (fun i => (i.zero, i.size, i.bytes)) = some (some (.int .i64 0), 1, 8))
    (v : Value) (xs : List Int) (p : Int) (A : Option Addr) (c : Nat) (hs : a.eval s = v) (hx : a.eval x = .slice A 1 c)
    (HO : RI W base v xs) (HR : kI.C W A 1 [p]) (HB : Below base w0 W) (hbase : base ≤ W.heap.size) (hl : xs.length ≤ 2097152)
    (h : ∀ v1 w1, RI w1 base v1 (xs ++ [p]) → Below base w0 w1 → W.grownBy w1 v.ownBlock → wpList P ops Q rest (a.put o.dst v1) w1) :
    wpList P ops Q (o :: rest) a W :=
  Kd.R_append_rows (P := P) (ops := ops) (rest := rest) (o := o) (a := a) (Q := Q) kI (Rr := kI.K W) (w0 := w0) base hgd s x 90 3 (.int .i64 0) 8 ho ht hinfo rfl (by decide) (by omega) v xs [p] A 1 c (fun _ => True) (fun _ => False) hs hx HO HR (fun _ _ hk => hk) (fun _ hk => hk.elim) (fun _ _ => trivial) HB hbase (by omega) (fun v1 w1 h1 h2 h3 _ => h v1 w1 h1 h2 h3)
def outsF (ms : List Mk) (t : List S50) (F : List S143) (text : ByteArray) (m i : Nat) (S : List Int) : List S84 := (runS (symK ms t F) (enF F) m i S).1.map (mkSym t text)
set_option maxRecDepth 100000 in
set_option maxHeartbeats 8000000 in
theorem OSymbols_calls (vF : Value) (A M : Option Addr) (c cm : Nat) (t : List S50) (F : List S143) (ms : List Mk) (text : ByteArray) (w : World) (hF : Fo t 0 F) (hR : rightF t text = true) (hr : Kd.C k50 w A t.length t) (hc : t.length ≤ c) (hl : t.length ≤ 1048576) (hk : ∀ x ∈ t, x.f5 ≤ 9223372036854775807)
    (hm : Kd.C k129 w M ms.length ms) (hmc : ms.length ≤ cm) (hml : ms.length ≤ 1048576) :
    Calls Try.prog 11 #[.agg (langC vF (.slice M ms.length cm)), .slice A t.length c, .string text] w fun e w' => ∃ v, e = .returned v ∧ k84.R 84 w' w.heap.size (fun _ => True) v (symsF ms t F text) ∧ Below w.heap.size w w' := by
  have HF := Aside0.mk hF
  have HRt := Aside0.mk hR
  have HRw := Aside0.mk hr
  have HMw := Aside0.mk hm
  have HP := Aside0.mk (And.intro hc (And.intro hl (And.intro hk (And.intro hmc hml))))
  obtain ⟨oL, hoL⟩ : ∃ o : Obj, o = .cells (langC vF (.slice M ms.length cm)) 45 (0, 0) := ⟨_, rfl⟩
  have hba : Below w.heap.size w (w.alloc oL) := below_alloc (Below.refl _ _) _
  have HB := Aside0.mk hba
  have KL := Aside0.mk ((heap_alloc_new w oL).trans (congrArg some hoL))
  clear hF hR hr hm hc hl hk hmc hml hba
  go_enter Try.func11, Try.ntmps11
  go_upto_region 1 with fail
  rw [← hoL]
  clear hoL
  obtain ⟨gL, hgL⟩ : ∃ g, w.heap.size = g := ⟨_, rfl⟩
  generalize w.alloc oL = w0 at KL HB ⊢
  rw [hgL] at KL ⊢
  clear hgL
  go_wp2_with fail
  refine (ORight_calls A c t text w0 (Kd.C_below HRw.out HB.out) HP.out.1 HP.out.2.1 HP.out.2.2.1).mono ?_
  rintro e w1 ⟨rfl, hB⟩
  rw [HRt.out]
  have HB1 := Aside0.mk (below_then HB.out HB.out.size hB)
  have KL1 := Aside0.mk ((hB.block _ (blk_lt KL.out)).trans KL.out)
  clear hB HB KL
  go_wp2_with fail
  go_loopw [7, 8, 9, 10, 11, 12, 19] (fun v7 v8 v9 v10 v11 v12 v19 wr => ∃ (i : Nat) (outs : List S84) (S : List Int), v19 = .int .i64 (i : Int) ∧ i ≤ t.length ∧ Aside0 (symsF ms t F text = outs ++ outsF ms t F text (t.length - i) i S) ∧ Aside0 (S.length ≤ i ∧ outs.length ≤ i) ∧ Aside0 (SyS w wr gL vF (.slice M ms.length cm) v7 v8 outs S)) (fun _ _ _ _ _ _ v19 _ => t.length - (intOf v19).toNat)
  case atStart => exact ⟨0, [], [], rfl, by omega, ⟨rfl⟩, ⟨⟨Nat.le_refl _, Nat.le_refl _⟩⟩, ⟨⟨KL1.out, Kd.R_nil _ _ _ _ _, RI.nil _ _, HB1.out⟩⟩⟩
  case round =>
    obtain ⟨i, outs, S, rfl, hi, HV, HS, SYr⟩ := hrel
    clear KL1 HB1
    by_cases hlt : i < t.length
    · have e1 : decide ((i : Int) < (t.length : Int)) = true := decide_eq_true (by omega)
      have e2 : decide (i < t.length) = true := decide_eq_true hlt
      have e3 : (i : Int) < (t.length : Int) := by omega
      have hl := HP.out.2.1
      have hc := HP.out.1
      have e4 : IntKind.i64.wrap ((i : Int) + 1) = (i : Int) + 1 := (i64_w _).trans (w64 (by omega) (by omega))
      obtain ⟨ad, hA, y0, y1, y2, y3, y4, y5, y6⟩ := at_T50 (Kd.C_below HRw.out SYr.out.b) (i : Int) (by omega) (by omega)
      rw [Int.toNat_natCast] at y0 y1 y2 y3 y4 y5 y6
      obtain ⟨x, hx⟩ : ∃ x, rd_T50 t (i : Int) = x := ⟨_, rfl⟩
      rw [hx] at y0 y1 y2 y3 y4 y5 y6
      have HX := Aside0.mk hx
      have HLT := Aside0.mk hlt
      have HV2 : Aside0 (symsF ms t F text = outs ++ outsF ms t F text (t.length - (i + 1) + 1) i S) := ⟨by rw [HV.out]; congr 2; omega⟩
      subst hA
      clear hx hi hlt HV
      obtain ⟨oN, hoN⟩ : ∃ o : Obj, o = .cells #[.string x.f0, .bool x.f1, .string x.f2, .int .i64 x.f3, .int .i64 x.f4, .int .i64 x.f5, .int .i64 x.f6] 50 (0, 0) := ⟨_, rfl⟩
      obtain ⟨Aa, ca, rfl, hca, -⟩ := SYr.out.a.opens
      rw [List.length_reverse] at SYr ⊢
      go_upto_block 2 with fail
      rw [← hoN]
      have KN := Aside0.mk ((heap_alloc_new wr oN).trans (congrArg some hoN))
      have SY1 := Aside0.mk (SYr.out.moved (below_alloc (Below.refl _ _) oN))
      clear hoN SYr y0 y1 y2 y3 y4 y5 y6 hca
      obtain ⟨gN, hgN⟩ : ∃ g, wr.heap.size = g := ⟨_, rfl⟩
      generalize wr.alloc oN = w2 at KN SY1 ⊢
      rw [hgN] at KN ⊢
      clear hgN
      go_cut [8] (fun v8 wx => wx = w2 ∧ ∃ (A' : Option Addr) (c' : Nat), v8 = .slice A' (popA i S).length c' ∧ Aside0 (SyS w w2 gL vF (.slice M ms.length cm) u7 (.slice A' (popA i S).length c') outs (popA i S)))
      case first =>
        go_wp2_with fail
        go_loopw [8] (fun v8 wr => wr = w2 ∧ ∃ (S1 : List Int) (A' : Option Addr) (c' : Nat), v8 = .slice A' S1.length c' ∧ Aside0 (SyS w w2 gL vF (.slice M ms.length cm) u7 (.slice A' S1.length c') outs S1) ∧ Aside0 (popA i S1 = popA i S) ∧ S1.length ≤ i) (fun v8 _ => slLen v8)
        case atStart => exact ⟨rfl, S, _, _, rfl, SY1, ⟨rfl⟩, HS.out.1⟩
        case round =>
          obtain ⟨rfl, S1, Ab, cb, rfl, SY2, HPO, hsl⟩ := hrel
          clear SY1
          cases S1 with
          | nil =>
            simp only [List.length_nil] at SY2 ⊢
            have hp : popA i S = [] := HPO.out.symm
            go_wp2_with fail
            go_meet
            case rel => exact ⟨rfl, Ab, cb, by rw [hp]; rfl, ⟨by rw [hp]; exact SY2.out⟩⟩
          | cons q S1 =>
            have hil := HLT.out
            have hll := HP.out.2.1
            obtain ⟨ga, cb2, e5, -, -, -, -⟩ := SY2.out.a.pos (by simp)
            simp only [List.length_cons] at hsl SY2 e5 ⊢
            injection e5 with e5 h1 h2
            clear h1 h2
            subst e5
            have e7 : IntKind.i64.wrap (((S1.length + 1 : Nat) : Int) - 1) = (S1.length : Int) := (i64_w _).trans ((w64 (by omega) (by omega)).trans (by omega))
            have e7b : IntKind.i64.wrap ((S1.length : Int) + 1 - 1) = (S1.length : Int) := (i64_w _).trans ((w64 (by omega) (by omega)).trans (by omega))
            have e7c : IntKind.i64.wrap (S1.length : Int) = (S1.length : Int) := (i64_w _).trans (w64 (by omega) (by omega))
            have e9 : (S1.length : Int) < ((S1.length + 1 : Nat) : Int) := by omega
            have e9b : (S1.length : Int) < (S1.length : Int) + 1 := by omega
            obtain ⟨c1, -⟩ := SY2.out.a.at_ S1.length (by simp) q (by rw [List.reverse_cons, List.getElem?_append_right (by simp)]; simp)
            by_cases hq : q ≤ (i : Int)
            · have d1 : decide (q ≤ (i : Int)) = true := decide_eq_true hq
              have hp2 : popA i S1 = popA i S := by rw [← HPO.out, popA, if_pos hq]
              obtain ⟨i0, hi0, -, hsz, -⟩ := info_parts info3
              have hcA := cut_to (P := Try.prog) 90 3 .i64 Try.underlying90 hi0 (some ⟨ga, 0, none⟩) (S1.length + 1) cb (S1.length : Int) (by omega) (by omega) (Kd.R_reads' SY2.out.a).2.1
              rw [Int.toNat_natCast] at hcA
              have HP2 := Aside0.mk hp2
              clear hi0 hsz hq hp2
              go_wp2_with fail
              go_roundw
              case measure => first | omega | (simp [slLen])
              case rel => exact ⟨trivial, S1, _, _, rfl, ⟨SY2.out.cut⟩, HP2, by omega⟩
            · have d1 : decide (q ≤ (i : Int)) = false := decide_eq_false hq
              have hp2 : popA i S = q :: S1 := by rw [← HPO.out, popA, if_neg hq]
              have HP2 := Aside0.mk hp2
              clear hq hp2
              go_wp2_with fail
              go_meet
              case rel => exact ⟨rfl, _, _, by rw [HP2.out]; rfl, ⟨by rw [HP2.out]; exact SY2.out⟩⟩
      case rest =>
      obtain ⟨rfl, Ab, cb, rfl, SY2⟩ := hcut
      clear SY1
      obtain ⟨S1, hS1⟩ : ∃ S1, popA i S = S1 := ⟨_, rfl⟩
      rw [hS1] at SY2 ⊢
      have hsl : S1.length ≤ i := by rw [← hS1]; exact Nat.le_trans (popA_len i S) HS.out.1
      have HS1 := Aside0.mk hS1
      have HSL := Aside0.mk hsl
      obtain ⟨l0, l1, l2, l3, l4, l5, l6, l7, l8, l9, l10, l11⟩ := lang_cells SY2.out.kl
      clear hS1 hsl
      go_wp2_with fail
      refine (symbol_calls vF (some ad) M c cm i t F ms wc HF.out HLT.out (Kd.C_below HRw.out SY2.out.b) HP.out.1 HP.out.2.1 HP.out.2.2.1 (Kd.C_below HMw.out SY2.out.b) HP.out.2.2.2.1 HP.out.2.2.2.2).mono ?_
      rintro e w4 ⟨rfl, hB⟩
      have SY4 := Aside0.mk (SY2.out.moved hB)
      have KN4 := Aside0.mk ((hB.block _ (blk_lt KN.out)).trans KN.out)
      obtain ⟨r, hr⟩ : ∃ r, symK ms t F i = r := ⟨_, rfl⟩
      rw [hr]
      have HRS := Aside0.mk hr
      obtain ⟨y, hy⟩ : ∃ y, (r.map (rd_T50 t)).getD z50 = y := ⟨_, rfl⟩
      obtain ⟨q, hq⟩ : ∃ q, r.isSome = q := ⟨_, rfl⟩
      rw [show ansV t r = .tuple #[.agg #[.string y.f0, .bool y.f1, .string y.f2, .int .i64 y.f3, .int .i64 y.f4, .int .i64 y.f5, .int .i64 y.f6], .bool q] by unfold ansV; rw [hy, hq]]
      have HY := Aside0.mk hy
      have HQ := Aside0.mk hq
      obtain ⟨oS, hoS⟩ : ∃ o : Obj, o = .cells #[.string y.f0, .bool y.f1, .string y.f2, .int .i64 y.f3, .int .i64 y.f4, .int .i64 y.f5, .int .i64 y.f6] 50 (0, 0) := ⟨_, rfl⟩
      clear hr hy hq hB SY2 KN l0 l1 l2 l3 l4 l5 l6 l7 l8 l9 l10 l11
      go_upto_if 50 with fail
      rw [← hoS]
      have KS := Aside0.mk ((heap_alloc_new w4 oS).trans (congrArg some hoS))
      have hba : Below w4.heap.size w4 (w4.alloc oS) := below_alloc (Below.refl _ _) oS
      have SY5 := Aside0.mk (SY4.out.moved hba)
      have KN5 := Aside0.mk ((hba.block _ (blk_lt KN4.out)).trans KN4.out)
      clear hoS SY4 KN4 hba
      obtain ⟨gS, hgS⟩ : ∃ g, w4.heap.size = g := ⟨_, rfl⟩
      generalize w4.alloc oS = w5 at KS SY5 KN5 ⊢
      rw [hgS] at KS ⊢
      clear hgS
      cases r with
      | none =>
        have hq := HQ.out
        simp only [Option.isSome_none] at hq
        subst hq
        have HV3 : Aside0 (symsF ms t F text = outs ++ outsF ms t F text (t.length - (i + 1)) (i + 1) S1) := ⟨by
          rw [HV2.out]
          unfold outsF
          simp only [runS]
          rw [HRS.out, HS1.out]⟩
        go_wp2_with fail
        go_roundw
        case measure => first | omega | (simp [intOf]; have := HLT.out; omega)
        case rel => exact ⟨i + 1, outs, S1, by congr 1, by have := HLT.out; omega, HV3, ⟨⟨by have := HSL.out; omega, by have := HS.out.2; omega⟩⟩, SY5⟩
      | some k =>
        have hq := HQ.out
        simp only [Option.isSome_some] at hq
        subst hq
        have hkin := symK_in HF.out HLT.out HRS.out
        have hy : rd_T50 t k = y := HY.out
        obtain ⟨b1, b2, b3⟩ := right_at HRt.out hkin.1 hkin.2
        rw [hy] at b1 b2 b3
        have HYK := Aside0.mk hy
        obtain ⟨sy, hsy⟩ : ∃ z : S84, z = ⟨x.f0, cutB text y.f3 y.f4, x.f3, x.f4, (S1.length : Int)⟩ := ⟨_, rfl⟩
        have HSY : Aside0 (mkSym t text (i, k, S1.length) = sy) := ⟨by rw [hsy]; unfold mkSym; simp only; rw [HX.out, hy]⟩
        have n0 : w5.cell? ⟨gN, 0, none⟩ = some (.string x.f0) := (blk_cell KN5.out 0).trans rfl
        have n3 : w5.cell? ⟨gN, 3, none⟩ = some (.int .i64 x.f3) := (blk_cell KN5.out 3).trans rfl
        have n4 : w5.cell? ⟨gN, 4, none⟩ = some (.int .i64 x.f4) := (blk_cell KN5.out 4).trans rfl
        have s3 : w5.cell? ⟨gS, 3, none⟩ = some (.int .i64 y.f3) := (blk_cell KS.out 3).trans rfl
        have s4 : w5.cell? ⟨gS, 4, none⟩ = some (.int .i64 y.f4) := (blk_cell KS.out 4).trans rfl
        clear hkin hy
        obtain ⟨Ao, co, rfl, -, -⟩ := Kd.R_reads SY5.out.o
        go_upto_region 12 with fail
        go_cut [7] (fun v7 wx => Aside0 (SyS w wx gL vF (.slice M ms.length cm) v7 (.slice Ab S1.length cb) (outs ++ [sy]) S1))
        case first =>
          go_region_held3 (fun w' => w'.cell? ⟨gN, 0, none⟩ = some (.string x.f0) ∧ w'.cell? ⟨gN, 3, none⟩ = some (.int .i64 x.f3) ∧ w'.cell? ⟨gN, 4, none⟩ = some (.int .i64 x.f4) ∧ w'.cell? ⟨gS, 3, none⟩ = some (.int .i64 y.f3) ∧ w'.cell? ⟨gS, 4, none⟩ = some (.int .i64 y.f4))
            (first
              | exact ⟨by assumption, by assumption, by assumption, by assumption, by assumption⟩
              | go_keep)
            (first
              | (refine R84_app (w0 := w) w.heap.size (by rfl) (.tmp 51) (.tmp 67) (by rfl) Try.underlying29 info84 (.slice Ao outs.length co) outs _ _ 1 (by rfl) (by rfl) ?aO (lit84 (one0 _ _)) ?aB ?aS ?aL ?_
                 (case aO => exact Kd.R_below SY5.out.o (show Below w5.heap.size w5 _ by repeat (first | with_reducible exact Below.refl _ _ | with_reducible apply below_drew | with_reducible apply below_alloc)))
                 (case aB => exact below_then SY5.out.b SY5.out.b.size (show Below w5.heap.size w5 _ by repeat (first | with_reducible exact Below.refl _ _ | with_reducible apply below_drew | with_reducible apply below_alloc)))
                 (case aS => exact Nat.le_trans SY5.out.b.size (Below.size (show Below w5.heap.size w5 _ by repeat (first | with_reducible exact Below.refl _ _ | with_reducible apply below_drew | with_reducible apply below_alloc))))
                 (case aL => have := HS.out.2; have := HLT.out; have := HP.out.2.1; omega)
                 intro v1 w6 ho hb hg
                 have SY6 := Aside0.mk ((SY5.out.moved (show Below w5.heap.size w5 _ by repeat (first | with_reducible exact Below.refl _ _ | with_reducible apply below_drew | with_reducible apply below_alloc))).appO ho hb hg)
                 have kn6 := grown_node84 KN5.out (show Below w5.heap.size w5 _ by repeat (first | with_reducible exact Below.refl _ _ | with_reducible apply below_drew | with_reducible apply below_alloc)) SY5.out.o hg
                 have ks6 := grown_node84 KS.out (show Below w5.heap.size w5 _ by repeat (first | with_reducible exact Below.refl _ _ | with_reducible apply below_drew | with_reducible apply below_alloc)) SY5.out.o hg
                 have m0 : w6.cell? ⟨gN, 0, none⟩ = some (.string x.f0) := (blk_cell kn6 0).trans rfl
                 have m3 : w6.cell? ⟨gN, 3, none⟩ = some (.int .i64 x.f3) := (blk_cell kn6 3).trans rfl
                 have m4 : w6.cell? ⟨gN, 4, none⟩ = some (.int .i64 x.f4) := (blk_cell kn6 4).trans rfl
                 have m5 : w6.cell? ⟨gS, 3, none⟩ = some (.int .i64 y.f3) := (blk_cell ks6 3).trans rfl
                 have m6 : w6.cell? ⟨gS, 4, none⟩ = some (.int .i64 y.f4) := (blk_cell ks6 4).trans rfl
                 clear ho hb hg kn6 ks6))
          go_wp2_with fail
          go_meet
          case rel => exact ⟨by rw [hsy]; exact SY6.out⟩
        case rest =>
        have SY7 := hcut
        clear hcut SY5 KN5 KS n0 n3 n4 s3 s4 b1 b2 b3 hsy
        obtain ⟨w7, hw7⟩ : ∃ w7, wc = w7 := ⟨_, rfl⟩
        rw [hw7] at SY7 ⊢
        clear hw7 wc
        go_wp2_with fail
        refine (Size_calls (some ad) c t F i w7 HF.out HLT.out (Kd.C_below HRw.out SY7.out.b) HP.out.1 (by have := HP.out.2.1; omega) HP.out.2.2.1).mono ?_
        rintro e w8 ⟨rfl, hB⟩
        have SY8 := Aside0.mk (SY7.out.moved hB)
        have hes := enF_size HF.out HLT.out
        obtain ⟨ei, hei⟩ : ∃ z, enF F i = z := ⟨_, rfl⟩
        rw [show (enL F).getD i 0 = ei from hei]
        rw [hei] at hes
        have HEI := Aside0.mk hei
        have hll := HP.out.2.1
        have e5 : IntKind.i64.wrap ((i : Int) + (ei - (i : Int))) = ei := (i64_w _).trans ((w64 (by omega) (by omega)).trans (by omega))
        have hsl := HSL.out
        have hil := HLT.out
        clear hei hB SY7
        go_wp2_with (first | ((with_reducible refine gate_builtin (b := .append) (xs := #[.tmp 69, .tmp 75]) rfl ?_); at_builtin; refine RI_appL (w0 := w) w.heap.size rfl (.tmp 69) (.tmp 75) rfl Try.underlying90 info3 (.slice Ab S1.length cb) S1.reverse ei _ 1 rfl rfl ?aO (lit1_C (heap_alloc_new _ _)) ?aB ?aS ?aL ?_; (case aO => exact SY8.out.a.below (below_alloc (Below.refl _ _) _)); (case aB => exact below_then SY8.out.b SY8.out.b.size (below_alloc (Below.refl _ _) _)); (case aS => exact Nat.le_trans SY8.out.b.size (Below.size (below_alloc (Below.refl _ _) _))); (case aL => rw [List.length_reverse]; omega); intro v1 w9 ho hb hg; have SY9 := Aside0.mk ((SY8.out.moved (below_alloc (Below.refl _ _) _)).appA (S1 := ei :: S1) (by rw [List.reverse_cons]; exact ho) hb hg); clear ho hb hg))
        go_roundw
        case measure => first | omega | (simp [intOf]; have := HLT.out; omega)
        case rel =>
          refine ⟨i + 1, outs ++ [sy], ei :: S1, by congr 1, by have := HLT.out; omega, ⟨?_⟩, ⟨⟨by have := HSL.out; simp only [List.length_cons]; omega, by have := HS.out.2; simp only [List.length_append, List.length_cons, List.length_nil]; omega⟩⟩, SY9⟩
          rw [HV2.out]
          unfold outsF
          simp only [runS]
          rw [HRS.out, HS1.out, HEI.out]
          simp only [List.map_cons]
          rw [HSY.out, List.append_assoc]
          rfl
    · have e1 : decide ((i : Int) < (t.length : Int)) = false := decide_eq_false (by omega)
      have e2 : decide (i < t.length) = false := decide_eq_false hlt
      obtain rfl : i = t.length := by omega
      have HV2 : Aside0 (symsF ms t F text = outs) := ⟨by rw [HV.out, Nat.sub_self]; simp [outsF, runS]⟩
      clear hi hlt HV
      go_wp2_with fail
      go_ret
      exact ⟨_, rfl, by rw [HV2.out]; exact SYr.out.o, SYr.out.b⟩
end Go.Proofs.Ytknagjiipelfnaa.OL
