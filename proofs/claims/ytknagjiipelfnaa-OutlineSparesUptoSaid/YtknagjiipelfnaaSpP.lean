/- A row of nodes of a call's own, whose names are written over. OutlineSpares, the laws on rows: several rows that share nothing, one by one; a copy; what a call that writes over four of them leaves. -/
import Derived.Test.YtknagjiipelfnaaPAllx5
import Derived.Test.YtknagjiipelfnaaGrove
import Derived.Test.YtknagjiipelfnaaApt
import Derived.Test.YtknagjiipelfnaaLang
import Derived.Test.YtknagjiipelfnaaOFolds
import Derived.Test.YtknagjiipelfnaaSymsA
import Derived.Test.YtknagjiipelfnaaQg
namespace Go.Proofs.Ytknagjiipelfnaa.OL
open Go.RowKit Go.WideShapes Go.ChangeShapes Go.Proofs.YtknagjiipelfnaaW.PrintWords Go.Proofs.YtknagjiipelfnaaW.PrintLast Go.Proofs.YtknagjiipelfnaaW.PrintMore Go.Proofs.Ytknagjiipelfnaa.PAll
set_option linter.unusedVariables false

abbrev RN (w : World) (b : Nat) (v : Value) (xs : List S50) : Prop := k50.R 50 w b (fun _ => True) v xs
theorem RN.cells {w : World} {b n c g : Nat} {xs : List S50} (h : RN w b (.slice (some ⟨g, 0, none⟩) n c) xs) (i : Nat) (hi : i < n) :
    w.cell? ⟨g, i * 7, none⟩ = some (.string (rd_T50 xs (i : Int)).f0) ∧ w.cell? ⟨g, i * 7 + 1, none⟩ = some (.bool (rd_T50 xs (i : Int)).f1) ∧ w.cell? ⟨g, i * 7 + 2, none⟩ = some (.string (rd_T50 xs (i : Int)).f2) ∧ w.cell? ⟨g, i * 7 + 3, none⟩ = some (.int .i64 (rd_T50 xs (i : Int)).f3) ∧ w.cell? ⟨g, i * 7 + 4, none⟩ = some (.int .i64 (rd_T50 xs (i : Int)).f4) ∧ w.cell? ⟨g, i * 7 + 5, none⟩ = some (.int .i64 (rd_T50 xs (i : Int)).f5) ∧ w.cell? ⟨g, i * 7 + 6, none⟩ = some (.int .i64 (rd_T50 xs (i : Int)).f6) := by
  have hr := (Kd.R_reads' h)
  obtain ⟨ad, he, h0, h1, h2, h3, h4, h5, h6⟩ := at_T50 hr.2.2 (i : Int) (by omega) (by omega)
  injection he with he
  subst he
  have e : (⟨g, 0, none⟩ : Addr).add (i * 7) = ⟨g, i * 7, none⟩ := by
    unfold Addr.add
    split <;> simp_all
  rw [Int.toNat_natCast, e] at h0 h1 h2 h3 h4 h5 h6
  exact ⟨h0, h1, h2, h3, h4, h5, h6⟩
theorem RN.seven {W : World} {b g n c : Nat} {xs : List S50} (HR : RN W b (.slice (some ⟨g, 0, none⟩) n c) xs) (i : Nat) (hi : i < n) : ∀ j u, ([.string (rd_T50 xs (i : Int)).f0, .bool (rd_T50 xs (i : Int)).f1, .string (rd_T50 xs (i : Int)).f2, .int .i64 (rd_T50 xs (i : Int)).f3, .int .i64 (rd_T50 xs (i : Int)).f4, .int .i64 (rd_T50 xs (i : Int)).f5, .int .i64 (rd_T50 xs (i : Int)).f6] : List Value)[j]? = some u → W.cell? ⟨g, (i : Int).toNat * k50.sz + j, none⟩ = some u := by
  obtain ⟨z0, z1, z2, z3, z4, z5, z6⟩ := HR.cells i hi
  intro j u hj
  rw [Int.toNat_natCast]
  match j, hj with
  | 0, hj => injection hj with hj; subst hj; exact z0
  | 1, hj => injection hj with hj; subst hj; exact z1
  | 2, hj => injection hj with hj; subst hj; exact z2
  | 3, hj => injection hj with hj; subst hj; exact z3
  | 4, hj => injection hj with hj; subst hj; exact z4
  | 5, hj => injection hj with hj; subst hj; exact z5
  | 6, hj => injection hj with hj; subst hj; exact z6
  | j + 7, hj => simp at hj
/-- A name is written over. -/
theorem RN.putName {W : World} {b g n c : Nat} {xs : List S50} (HR : RN W b (.slice (some ⟨g, 0, none⟩) n c) xs) (i : Nat) (hi : i < n) (nm : ByteArray) :
    RN (W.setCell ⟨g, i * 7, none⟩ (.string nm)) b (.slice (some ⟨g, 0, none⟩) n c) (xs.set i { rd_T50 xs (i : Int) with f0 := nm }) ∧ W.grownBy (W.setCell ⟨g, i * 7, none⟩ (.string nm)) (some g) := by
  have h := Kd.R_seg (d := k50) HR (i : Int) (by omega) (by omega) (seg := [.string nm]) (j := 0) (x' := { rd_T50 xs (i : Int) with f0 := nm }) (okp := fun _ => False) rfl (HR.seven i hi) (show 1 ≤ 7 by decide) (k50_mkM _ _ _ { rd_T50 xs (i : Int) with f0 := nm }) (fun _ hk => hk.elim)
  rw [Int.toNat_natCast] at h
  exact h
/-- It is one that is named. -/
theorem RN.putNamed {W : World} {b g n c : Nat} {xs : List S50} (HR : RN W b (.slice (some ⟨g, 0, none⟩) n c) xs) (i : Nat) (hi : i < n) (q : Bool) :
    RN (W.setCell ⟨g, i * 7 + 1, none⟩ (.bool q)) b (.slice (some ⟨g, 0, none⟩) n c) (xs.set i { rd_T50 xs (i : Int) with f1 := q }) ∧ W.grownBy (W.setCell ⟨g, i * 7 + 1, none⟩ (.bool q)) (some g) := by
  have h := Kd.R_seg (d := k50) HR (i : Int) (by omega) (by omega) (seg := [.bool q]) (j := 1) (x' := { rd_T50 xs (i : Int) with f1 := q }) (okp := fun _ => False) rfl (HR.seven i hi) (show 2 ≤ 7 by decide) (k50_mkM _ _ _ { rd_T50 xs (i : Int) with f1 := q }) (fun _ hk => hk.elim)
  rw [Int.toNat_natCast] at h
  exact h
end Go.Proofs.Ytknagjiipelfnaa.OL
namespace Go.Proofs.Ytknagjiipelfnaa.AR
open Go.RowKit Go.WideShapes Go.ChangeShapes Go.Proofs.YtknagjiipelfnaaW.PrintWords Go.Proofs.YtknagjiipelfnaaW.PrintLast Go.Proofs.YtknagjiipelfnaaW.PrintMore Go.Proofs.Ytknagjiipelfnaa.PAll
open Go.Proofs.Ytknagjiipelfnaa.OL Go.Proofs.Ytknagjiipelfnaa.SO
set_option linter.unusedVariables false
section
variable {α : Type} {d : Kd α} {e : Nat}
/-- Rows that share nothing, the newest first. -/
def Rs (d : Kd α) (e : Nat) (w : World) (b : Nat) : List (Value × List α) → Prop
  | [] => True
  | p :: l => d.R e w b T p.1 p.2 ∧ (∀ q ∈ l, Off p.1 q.1) ∧ Rs d e w b l
theorem Rs.moved {w w' : World} {b : Nat} (hb : Below w.heap.size w w') : ∀ {l : List (Value × List α)}, Rs d e w b l → Rs d e w' b l
  | [], _ => trivial
  | _ :: _, h => ⟨Kd.R_below h.1 hb, h.2.1, Rs.moved hb h.2.2⟩
theorem Rs.lt {w : World} {b : Nat} : ∀ {l : List (Value × List α)}, Rs d e w b l → ∀ q ∈ l, d.R e w b T q.1 q.2
  | [], _, _, hq => by cases hq
  | p :: l, h, q, hq => by
    rcases List.mem_cons.1 hq with rfl | hq
    · exact h.1
    · exact Rs.lt h.2.2 q hq
theorem Rs.add {w w' : World} {b : Nat} {l : List (Value × List α)} {v : Value} {x : List α} (h : Rs d e w b l) (hb : Below w.heap.size w w') (hbw : b ≤ w.heap.size) (hr : d.R e w' w.heap.size T v x) : Rs d e w' b ((v, x) :: l) :=
  ⟨Kd.R_lower hr hbw, fun q hq => by
    cases hv : v.ownBlock with
    | none => exact .inl hv
    | some k =>
      refine .inr (fun e => ?_)
      have h1 := (Kd.R_bound hr).1 k hv
      have h2 := Kd.R_lt (h.lt q hq) k (e.symm.trans hv)
      omega, h.moved hb⟩
def f4 {β : Type} (a b c d : β) : Nat → β
  | 0 => a
  | 1 => b
  | 2 => c
  | _ => d
theorem Rs.four {w : World} {b : Nat} {vs : Nat → Value} {xs : Nat → List α} (h : Rs d e w b [(vs 3, xs 3), (vs 2, xs 2), (vs 1, xs 1), (vs 0, xs 0)]) : Lng d e w b vs vs xs xs 4 0 := by
  obtain ⟨h3, o3, h2, o2, h1, o1, h0, -, -⟩ := h
  have a32 := o3 (vs 2, xs 2) (by simp)
  have a31 := o3 (vs 1, xs 1) (by simp)
  have a30 := o3 (vs 0, xs 0) (by simp)
  have a21 := o2 (vs 1, xs 1) (by simp)
  have a20 := o2 (vs 0, xs 0) (by simp)
  have a10 := o1 (vs 0, xs 0) (by simp)
  refine ⟨fun i hi => ?_, fun i hi => by omega, fun i j hi hj hij => ?_, fun i j hi => by omega, fun i j hi => by omega⟩
  · match i, hi with
    | 0, _ => exact h0
    | 1, _ => exact h1
    | 2, _ => exact h2
    | 3, _ => exact h3
    | n + 4, hi => omega
  · match i, j, hi, hj with
    | 0, 0, _, _ => exact absurd rfl hij
    | 0, 1, _, _ => exact a10.symm
    | 0, 2, _, _ => exact a20.symm
    | 0, 3, _, _ => exact a30.symm
    | 1, 0, _, _ => exact a10
    | 1, 1, _, _ => exact absurd rfl hij
    | 1, 2, _, _ => exact a21.symm
    | 1, 3, _, _ => exact a31.symm
    | 2, 0, _, _ => exact a20
    | 2, 1, _, _ => exact a21
    | 2, 2, _, _ => exact absurd rfl hij
    | 2, 3, _, _ => exact a32.symm
    | 3, 0, _, _ => exact a30
    | 3, 1, _, _ => exact a31
    | 3, 2, _, _ => exact a32
    | 3, 3, _, _ => exact absurd rfl hij
    | n + 4, _, hi, _ => omega
    | _, n + 4, _, hj => omega
/-- The copy stays, over a call that writes over the four. -/
theorem Rs.copy (hE : d.E = []) {w w' : World} {b : Nat} {vs : Nat → Value} {xs : Nat → List α} {v : Value} {x : List α} (h : Rs d e w b [(v, x), (vs 3, xs 3), (vs 2, xs 2), (vs 1, xs 1), (vs 0, xs 0)]) (hc : Ch (Of vs 4) w w') : d.R e w' b T v x := by
  refine hc.row hE h.1 (fun k hk ho => ?_)
  obtain ⟨t, ht, he⟩ := ho
  have hoff : Off v (vs t) := by
    match t, ht with
    | 0, _ => exact h.2.1 (vs 0, xs 0) (by simp)
    | 1, _ => exact h.2.1 (vs 1, xs 1) (by simp)
    | 2, _ => exact h.2.1 (vs 2, xs 2) (by simp)
    | 3, _ => exact h.2.1 (vs 3, xs 3) (by simp)
    | n + 4, ht => omega
  exact hoff.ne k he hk.symm
theorem of_base {w : World} {b : Nat} {vs us : Nat → Value} {xs ys : Nat → List α} (h : Lng d e w b vs us xs ys 4 0) : ∀ k, Of vs 4 k → b ≤ k := fun k ⟨t, ht, hk⟩ => by
  have := (Kd.R_bound (h.rv t ht)).1 k hk
  omega
/-- Rows of another type stay. -/
theorem Rs.over {β : Type} {d2 : Kd β} {e2 : Nat} (hE : d.E = []) (hne : e ≠ e2) {w w' : World} {b b2 : Nat} {vs us : Nat → Value} {xs ys : Nat → List β} (h2 : Lng d2 e2 w b2 vs us xs ys 4 0) (hc : Ch (Of vs 4) w w') : ∀ {l : List (Value × List α)}, Rs d e w b l → Rs d e w' b l
  | [], _ => trivial
  | p :: l, h => ⟨hc.row hE h.1 (fun k hk ⟨t, ht, he⟩ => by
      obtain ⟨cs, h1⟩ := R_typed h.1 k hk
      obtain ⟨cs2, h3⟩ := R_typed (h2.rv t ht) k he
      rw [h1] at h3
      injection h3 with h3
      injection h3 with _ h3
      exact hne h3), h.2.1, Rs.over hE hne h2 hc h.2.2⟩
theorem Ch.base {S : Nat → Prop} {w w1 : World} {b : Nat} {w0 : World} (h : Ch S w w1) (hb : Below b w0 w) (hs : ∀ k, S k → b ≤ k) (hB : b ≤ w0.heap.size) : Below b w0 w1 :=
  ⟨h.os.trans hb.os, h.tape.trans hb.tape, h.output.trans hb.output, Nat.le_trans hb.size h.size, fun k hk => (h.block k (by have := hb.size; omega) (fun e => by have := hs k e; omega)).trans (hb.block k hk)⟩
end
section
variable {P : Program} {ops : Array Oper} {rest : List Oper} {o : Oper} {a : Act} {Q : Exit → Act → World → Prop} {α : Type}
/-- append([]T{}, ys...): a copy of one's own. -/
theorem R_cp (d : Kd α) (hd : ∀ W base ok y cs, d.K W y cs → d.M W base ok y cs) {W : World} (hgd : o.guard = none) (s x : Operand) (t e : TypeId) (z : Value) (bytes : Nat)
    (ho : o.op = .call { callee := .builtin .append, args := #[s, x], argTypes := #[t, t] })
    (ht : P.underlying t = some (.slice e)) (hinfo : (P.info? e).map (fun i => (i.zero, i.size, i.bytes)) = some (some z, d.sz, bytes)) (hz : z.cells.size = d.sz) (hs0 : 0 < d.sz) (hb0 : 0 < bytes)
    (ys : List α) (A : Option Addr) (m c : Nat) (hs : a.eval s = .slice (some ⟨W.heap.size, 0, none⟩) 0 0) (hx : a.eval x = .slice A m c) (HR : d.C W A m ys) (hl : m * bytes ≤ 140737488355328)
    (h : ∀ A1 c1 w1, d.R e w1 W.heap.size T (.slice A1 ys.length c1) ys → Below W.heap.size W w1 → wpList P ops Q rest (a.put o.dst (.slice A1 ys.length c1)) w1) :
    wpList P ops Q (o :: rest) a (W.alloc (.cells #[] e)) := by
  have hb : Below W.heap.size W (W.alloc (.cells #[] e)) := below_alloc (Below.refl _ _) _
  refine Kd.R_append_rows d (Rr := d.K (W.alloc (.cells #[] e))) (w0 := W) W.heap.size hgd s x t e z bytes ho ht hinfo hz hs0 hb0 (.slice (some ⟨W.heap.size, 0, none⟩) 0 0) [] ys A m c T (fun _ => False) hs hx (R_empty d e (Nat.le_refl _) (heap_alloc_new W _)) (Kd.C_below HR hb) (fun y cs hk => hd _ _ _ _ _ hk) (fun _ hk => hk.elim) (fun _ _ => trivial) hb hb.size (by simpa using hl) ?_
  intro v1 w1 h1 h2 h3 _
  obtain ⟨A1, c1, rfl⟩ := Kd.R_slice h1
  exact h A1 c1 w1 h1 h2
end
theorem R_at {α : Type} {d : Kd α} {e b n c : Nat} {w : World} {ok : Nat → Prop} {A : Option Addr} {xs : List α} (h : d.R e w b ok (.slice A n c) xs) : d.C w A n xs ∧ n ≤ c := by
  obtain ⟨h1, h2, h3⟩ := Kd.R_reads' h
  have e : n = xs.length := by omega
  subst e
  exact ⟨h3, h2⟩
theorem sameF_go {xs : List S82} (hl : xs.length ≤ 2097152) : ∀ d i, xs.length - i = d → i ≤ xs.length → ∃ k, trellislaw22_sameFolds.l0 k xs xs (i : Int) = some true := by
  intro d
  induction d with
  | zero =>
    intro i hd hi
    exact ⟨1, by rw [trellislaw22_sameFolds.l0, if_neg (by omega)]⟩
  | succ d ih =>
    intro i hd hi
    obtain ⟨k, hk⟩ := ih (i + 1) (by omega) (by omega)
    have e : wrap64 ((i : Int) + 1) = ((i + 1 : Nat) : Int) := (OL.w64 (by omega) (by omega)).trans (by omega)
    refine ⟨k + 1, ?_⟩
    rw [trellislaw22_sameFolds.l0, if_pos (by omega), if_pos (by omega), if_pos (by omega), if_neg (by simp), e]
    exact hk
theorem sameF_calls {A B : Option Addr} {c d b1 b2 : Nat} {xs : List S82} {w : World} (ha : k82.R 82 w b1 T (.slice A xs.length c) xs) (hb : k82.R 82 w b2 T (.slice B xs.length d) xs) (hl : xs.length ≤ 2097152) :
    Calls Try.prog 27 #[.slice A xs.length c, .slice B xs.length d] w fun e w' => e = .returned (.bool true) ∧ Below w.heap.size w w' := by
  obtain ⟨k, hk⟩ := sameF_go hl xs.length 0 rfl (Nat.zero_le _)
  exact (trellislaw22_sameFolds.calls k A c xs B d xs true w (Kd.R_reads' ha).2.2 (Kd.R_reads' ha).2.1 (Kd.R_reads' hb).2.2 (Kd.R_reads' hb).2.1 (by rw [trellislaw22_sameFolds.f, if_pos rfl]; exact hk)).mono fun e w' ⟨h1, h2⟩ => ⟨h1, h2.below⟩
theorem sameS_go {xs : List S84} (hl : xs.length ≤ 1048576) : ∀ d i, xs.length - i = d → i ≤ xs.length → ∃ k, trellislaw22_sameSymbols.l0 k xs xs (i : Int) = some true := by
  intro d
  induction d with
  | zero =>
    intro i hd hi
    exact ⟨1, by rw [trellislaw22_sameSymbols.l0, if_neg (by omega)]⟩
  | succ d ih =>
    intro i hd hi
    obtain ⟨k, hk⟩ := ih (i + 1) (by omega) (by omega)
    refine ⟨k + 1, ?_⟩
    have e : wrap64 ((i : Int) + 1) = ((i + 1 : Nat) : Int) := (OL.w64 (by omega) (by omega)).trans (by omega)
    rw [trellislaw22_sameSymbols.l0, if_pos (by omega), if_pos (by omega), if_pos (by omega), e, hk]
    simp
theorem sameS_calls {A B : Option Addr} {c d b1 b2 : Nat} {xs : List S84} {w : World} (ha : k84.R 84 w b1 T (.slice A xs.length c) xs) (hb : k84.R 84 w b2 T (.slice B xs.length d) xs) (hl : xs.length ≤ 1048576) :
    Calls Try.prog 13 #[.slice A xs.length c, .slice B xs.length d] w fun e w' => e = .returned (.bool true) ∧ Below w.heap.size w w' := by
  obtain ⟨k, hk⟩ := sameS_go hl xs.length 0 rfl (Nat.zero_le _)
  exact (trellislaw22_sameSymbols.calls k A c xs B d xs true w (Kd.R_reads' ha).2.2 (Kd.R_reads' ha).2.1 (Kd.R_reads' hb).2.2 (Kd.R_reads' hb).2.1 (by rw [trellislaw22_sameSymbols.f, if_pos rfl]; exact hk)).mono fun e w' ⟨h1, h2⟩ => ⟨h1, h2.below⟩
theorem foldsA_le {fs : List ByteArray} {t : List S50} {text : ByteArray} (hs : text.size ≤ 1100000) : (foldsA fs t text).length ≤ 2097152 := by
  unfold foldsA
  split
  · unfold foldsF
    exact Nat.le_trans (outR_len _ _) (by have := PT.rowN_le text text.size; omega)
  · exact Nat.zero_le _
theorem runS_le {sy : Nat → Option Int} {en : Nat → Int} : ∀ (m i : Nat) (S : List Int), (runS sy en m i S).1.length ≤ m := by
  intro m
  induction m with
  | zero => intro i S; exact Nat.le_refl _
  | succ m ih =>
    intro i S
    rw [runS]
    split
    · exact Nat.le_succ_of_le (ih _ _)
    · exact Nat.succ_le_succ (ih _ _)
theorem symsA_le {ms : List Mk} {t : List S50} {text : ByteArray} : (symsA ms t text).length ≤ t.length := by
  unfold symsA
  split
  · split
    · unfold symsF
      rw [List.length_map]
      exact runS_le _ _ _
    · exact Nat.zero_le _
  · exact Nat.zero_le _
/-- What the calls want at a world: the lines' box, the arguments; what stood. -/
structure Cx (w W : World) (gX : Nat) (FA MA A : Option Addr) (cf cm : Nat) (fs : List ByteArray) (ms : List Mk) (t : List S50) : Prop where
  kx : W.heap[gX]? = some (.cells #[.slice FA fs.length cf, .slice MA ms.length cm] 25 (0, 0))
  f : Kd.string.C W FA fs.length fs
  m : k129.C W MA ms.length ms
  r : k50.C W A t.length t
  b : Below w.heap.size w W
section
variable {w W W' : World} {gX : Nat} {FA MA A : Option Addr} {cf cm : Nat} {fs : List ByteArray} {ms : List Mk} {t : List S50}
theorem Cx.moved (h : Cx w W gX FA MA A cf cm fs ms t) (hb : Below W.heap.size W W') : Cx w W' gX FA MA A cf cm fs ms t :=
  ⟨(hb.block _ (blk_lt h.kx)).trans h.kx, Kd.C_below h.f hb, Kd.C_below h.m hb, Kd.C_below h.r hb, below_then h.b h.b.size hb⟩
theorem Cx.p0 (h : Cx w W gX FA MA A cf cm fs ms t) : W.cell? ⟨gX, 0, none⟩ = some (.slice FA fs.length cf) := (blk_cell h.kx 0).trans rfl
theorem Cx.p1 (h : Cx w W gX FA MA A cf cm fs ms t) : W.cell? ⟨gX, 1, none⟩ = some (.slice MA ms.length cm) := (blk_cell h.kx 1).trans rfl
theorem Cx.lang (h : Cx w W gX FA MA A cf cm fs ms t) (hp : fs.length ≤ cf ∧ fs.length ≤ 1048576) (hq : ms.length ≤ cm ∧ ms.length ≤ 1048576) :
    Calls Try.prog 12 #[.agg #[.slice FA fs.length cf, .slice MA ms.length cm]] W fun e W' => ∃ F M cf' cm', e = .returned (.agg (langC (.slice F fs.length cf') (.slice M ms.length cm'))) ∧ (Kd.string.C W' F fs.length fs ∧ fs.length ≤ cf') ∧ (k129.C W' M ms.length ms ∧ ms.length ≤ cm') ∧ Below W.heap.size W W' :=
  (lang_calls FA MA cf cm fs ms W h.f hp.1 hp.2 h.m hq.1 hq.2).mono fun e W' ⟨F, M, cf', cm', he, hm, hmc, hf, hfc, hB⟩ => ⟨F, M, cf', cm', he, ⟨hf, hfc⟩, ⟨hm, hmc⟩, hB⟩
end
theorem folds_to {m : Nat} {F A : Option Addr} {cf c : Nat} {vM : Value} {fs : List ByteArray} {t : List S50} {text : ByteArray} {w : World} {l : List S82} (hl0 : foldsA fs t text = l) (hm0 : t.length = m) (hr : Kd.C k50 w A m t) (hcl : m ≤ c ∧ m ≤ 1048576) (hk : ∀ x ∈ t, x.f5 ≤ 9223372036854775807)
    (hf : Kd.C Kd.string w F fs.length fs ∧ fs.length ≤ cf) (hfl : fs.length ≤ 1048576) (hts : text.size ≤ 1100000) :
    Calls Try.prog 26 #[.agg (langC (.slice F fs.length cf) vM), .slice A m c, .string text] w fun e w' => ∃ A1 c1, e = .returned (.slice A1 l.length c1) ∧ k82.R 82 w' w.heap.size T (.slice A1 l.length c1) l ∧ Below w.heap.size w w' := by
  subst hm0 hl0
  refine (OFolds_calls F A cf c vM fs t text w hr hcl.1 hcl.2 hk hf.1 hf.2 hfl hts).mono ?_
  rintro e w' ⟨v, rfl, hR, hB⟩
  obtain ⟨A1, c1, rfl⟩ := Kd.R_slice hR
  exact ⟨A1, c1, rfl, hR, hB⟩
theorem syms_to {m : Nat} {vF : Value} {A M : Option Addr} {c cm : Nat} {t : List S50} {ms : List Mk} {text : ByteArray} {w : World} {l : List S84} (hl0 : symsA ms t text = l) (hm0 : t.length = m) (hr : Kd.C k50 w A m t) (hcl : m ≤ c ∧ m ≤ 1048576) (hk : ∀ x ∈ t, x.f5 ≤ 9223372036854775807)
    (hm : Kd.C k129 w M ms.length ms ∧ ms.length ≤ cm) (hml : ms.length ≤ 1048576) :
    Calls Try.prog 11 #[.agg (langC vF (.slice M ms.length cm)), .slice A m c, .string text] w fun e w' => ∃ A1 c1, e = .returned (.slice A1 l.length c1) ∧ k84.R 84 w' w.heap.size T (.slice A1 l.length c1) l ∧ Below w.heap.size w w' := by
  subst hm0 hl0
  refine (OSymbolsA_calls vF A M c cm t ms text w hr hcl.1 hcl.2 hk hm.1 hm.2 hml).mono ?_
  rintro e w' ⟨v, rfl, hR, hB⟩
  obtain ⟨A1, c1, rfl⟩ := Kd.R_slice hR
  exact ⟨A1, c1, rfl, hR, hB⟩
theorem kids_same {xs : List S50} {i : Nat} {nm : ByteArray} {B : Int} (h : ∀ x ∈ xs, x.f5 ≤ B) (hi : i < xs.length) : ∀ x ∈ xs.set i { rd_T50 xs (i : Int) with f0 := nm }, x.f5 ≤ B := by
  intro x hx
  rcases List.mem_or_eq_of_mem_set hx with hx | rfl
  · exact h x hx
  · show (rd_T50 xs (i : Int)).f5 ≤ B
    unfold rd_T50
    rw [Int.toNat_natCast, List.getD_eq_getElem?_getD, List.getElem?_eq_getElem hi]
    exact h _ (List.getElem_mem hi)
end Go.Proofs.Ytknagjiipelfnaa.AR
