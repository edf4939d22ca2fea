/- tree.plant: all that lies about in one round, as one fact. -/
import Derived.Test.YtknagjiipelfnaaInts
namespace Go.Proofs.Ytknagjiipelfnaa.OL
open Go.RowKit Go.WideShapes Go.ChangeShapes Go.Proofs.YtknagjiipelfnaaW.PrintWords Go.Proofs.YtknagjiipelfnaaW.PrintLast Go.Proofs.YtknagjiipelfnaaW.PrintMore Go.Proofs.Ytknagjiipelfnaa.PAll
set_option linter.unusedVariables false

abbrev foC (A : Option Addr) (m c : Nat) (P E : Value) (ok : Bool) : Obj := .cells #[.slice A m c, P, E, .bool ok] 136 (0, 0)
abbrev foZ : Obj := .cells #[.slice none 0 0, .slice none 0 0, .slice none 0 0, .bool false] 136 (0, 0)
def opsS (S : Stk) : List Int := (S.map (·.1)).reverse
def lfsS (S : Stk) : List Int := (S.map (·.2)).reverse
theorem opsS_cons (p l : Int) (S : Stk) : opsS ((p, l) :: S) = opsS S ++ [p] := by simp [opsS]
theorem lfsS_cons (p l : Int) (S : Stk) : lfsS ((p, l) :: S) = lfsS S ++ [l] := by simp [lfsS]
theorem opsS_len (S : Stk) : (opsS S).length = S.length := by simp [opsS]
theorem lfsS_len (S : Stk) : (lfsS S).length = S.length := by simp [lfsS]
theorem opsS_top (p l : Int) (S : Stk) : (opsS ((p, l) :: S))[S.length]? = some p := by rw [opsS_cons, List.getElem?_append_right (by rw [opsS_len]; omega), opsS_len, Nat.sub_self]; rfl
theorem lfsS_top (p l : Int) (S : Stk) : (lfsS ((p, l) :: S))[S.length]? = some l := by rw [lfsS_cons, List.getElem?_append_right (by rw [lfsS_len]; omega), lfsS_len, Nat.sub_self]; rfl
theorem opsS_take (p l : Int) (S : Stk) : (opsS ((p, l) :: S)).take S.length = opsS S := by rw [opsS_cons, List.take_append_of_le_length (by rw [opsS_len]; omega), List.take_of_length_le (by rw [opsS_len]; omega)]
theorem lfsS_take (p l : Int) (S : Stk) : (lfsS ((p, l) :: S)).take S.length = lfsS S := by rw [lfsS_cons, List.take_append_of_le_length (by rw [lfsS_len]; omega), List.take_of_length_le (by rw [lfsS_len]; omega)]
theorem lfsS_set (p l x : Int) (S : Stk) : (lfsS ((p, l) :: S)).set S.length x = lfsS ((p, x) :: S) := by
  rw [lfsS_cons, lfsS_cons]
  exact set_mid (lfsS S) l x [] (lfsS_len S)
theorem opsS_dec (S : Stk) : opsS (decS S) = opsS S := by cases S with
  | nil => rfl
  | cons q S => obtain ⟨p, l⟩ := q; simp only [decS]; rw [opsS_cons, opsS_cons]

/-- What the stack's entries are held by: places of nodes, counts. -/
def SOk (n : Nat) (S : Stk) : Prop := ∀ q ∈ S, 0 ≤ q.1 ∧ q.1 < (n : Int) ∧ 0 ≤ q.2 ∧ q.2 ≤ 9223372036854775807
theorem SOk.tail {n : Nat} {q : Int × Int} {S : Stk} (h : SOk n (q :: S)) : SOk n S := fun z hz => h z (List.mem_cons_of_mem _ hz)
theorem SOk.pops {n : Nat} {i : Int} : ∀ {S : Stk} {en : List Int}, SOk n S → SOk n (OL.pops i S en).1 := by
  intro S
  induction S with
  | nil => intro en h; exact h
  | cons q S ih =>
    obtain ⟨p, l⟩ := q
    intro en h
    simp only [OL.pops]
    split
    · exact ih h.tail
    · exact h
theorem pops_size (i : Int) : ∀ (S : Stk) (en : List Int), (pops i S en).1.length ≤ S.length ∧ (pops i S en).2.length = en.length := by
  intro S
  induction S with
  | nil => intro en; exact ⟨Nat.le_refl _, rfl⟩
  | cons q S ih =>
    obtain ⟨p, l⟩ := q
    intro en
    simp only [pops]
    split
    · have := ih (en.set p.toNat (i + 1))
      rw [List.length_set] at this
      exact ⟨by have := this.1; simp; omega, this.2⟩
    · exact ⟨Nat.le_refl _, rfl⟩

structure PlS (w wr : World) (gR gF gP gE : Nat) (A : Option Addr) (m c cP cE : Nat) (vo vl : Value) (po en op lf : List Int) : Prop where
  kr : wr.heap[gR]? = some foZ
  kf : wr.heap[gF]? = some (foC A m c (.slice (some ⟨gP, 0, none⟩) m cP) (.slice (some ⟨gE, 0, none⟩) m cE) false)
  p : RI wr w.heap.size (.slice (some ⟨gP, 0, none⟩) m cP) po
  e : RI wr w.heap.size (.slice (some ⟨gE, 0, none⟩) m cE) en
  o : RI wr w.heap.size vo op
  l : RI wr w.heap.size vl lf
  pe : gP ≠ gE
  vop : ∀ k, vo.ownBlock = some k → k ≠ gP ∧ k ≠ gE
  vlp : ∀ k, vl.ownBlock = some k → k ≠ gP ∧ k ≠ gE ∧ vo.ownBlock ≠ some k
  b : Below w.heap.size w wr
section
variable {w wr w1 : World} {gR gF gP gE m c cP cE : Nat} {A : Option Addr} {vo vl : Value} {po en op lf : List Int}
theorem PlS.moved (h : PlS w wr gR gF gP gE A m c cP cE vo vl po en op lf) (hb : Below wr.heap.size wr w1) : PlS w w1 gR gF gP gE A m c cP cE vo vl po en op lf :=
  ⟨(hb.block _ (blk_lt h.kr)).trans h.kr, (hb.block _ (blk_lt h.kf)).trans h.kf, h.p.below hb, h.e.below hb, h.o.below hb, h.l.below hb, h.pe, h.vop, h.vlp, below_then h.b h.b.size hb⟩
theorem ty_ne {w : World} {g g2 t : Nat} {cells c2 : Array Value} (h : w.heap[g]? = some (.cells cells t (0, 0))) (h2 : w.heap[g2]? = some (.cells c2 3 (0, 0))) (ht : t ≠ 3) : g ≠ g2 := by
  rintro rfl
  rw [h] at h2
  injection h2 with h2
  injection h2 with _ h3
  exact ht h3
theorem grown_blk {w w1 : World} {g gk : Nat} {o : Obj} (h : w.heap[g]? = some o) (hg : w.grownBy w1 (some gk)) (hn : g ≠ gk) : w1.heap[g]? = some o := (hg.block g (blk_lt h) (by intro e; injection e with e; exact hn e)).trans h
/-- A store into the parents. -/
theorem PlS.putP (h : PlS w wr gR gF gP gE A m c cP cE vo vl po en op lf) (i : Nat) (x : Int) : PlS w (wr.setCell ⟨gP, i, none⟩ (.int .i64 x)) gR gF gP gE A m c cP cE vo vl (po.set i x) en op lf := by
  obtain ⟨h1, hg⟩ := h.p.put i x
  obtain ⟨cur, hb⟩ := h.p.typed (g := gP) rfl
  have hlo := (h.p.lt (k := gP) rfl).1
  exact ⟨grown_blk h.kr hg (ty_ne h.kr hb (by decide)), grown_blk h.kf hg (ty_ne h.kf hb (by decide)), h1,
    h.e.keep hg (fun k hk => by have : gE = k := by simpa [Value.ownBlock] using hk
                                intro e; injection e with e; exact h.pe (by omega)),
    h.o.keep hg (fun k hk e => (h.vop k hk).1 (by injection e)), h.l.keep hg (fun k hk e => (h.vlp k hk).1 (by injection e)), h.pe, h.vop, h.vlp,
    h.b.grown hg h.b.size (fun k hk => by injection hk with hk; omega)⟩
/-- A store into the ends. -/
theorem PlS.putE (h : PlS w wr gR gF gP gE A m c cP cE vo vl po en op lf) (i : Nat) (x : Int) : PlS w (wr.setCell ⟨gE, i, none⟩ (.int .i64 x)) gR gF gP gE A m c cP cE vo vl po (en.set i x) op lf := by
  obtain ⟨h1, hg⟩ := h.e.put i x
  obtain ⟨cur, hb⟩ := h.e.typed (g := gE) rfl
  have hlo := (h.e.lt (k := gE) rfl).1
  exact ⟨grown_blk h.kr hg (ty_ne h.kr hb (by decide)), grown_blk h.kf hg (ty_ne h.kf hb (by decide)),
    h.p.keep hg (fun k hk => by have : gP = k := by simpa [Value.ownBlock] using hk
                                intro e; injection e with e; exact h.pe (by omega)), h1,
    h.o.keep hg (fun k hk e => (h.vop k hk).2 (by injection e)), h.l.keep hg (fun k hk e => (h.vlp k hk).2.1 (by injection e)), h.pe, h.vop, h.vlp,
    h.b.grown hg h.b.size (fun k hk => by injection hk with hk; omega)⟩
/-- A store into the counts. -/
theorem PlS.putL {g n c2 : Nat} (h : PlS w wr gR gF gP gE A m c cP cE vo (.slice (some ⟨g, 0, none⟩) n c2) po en op lf) (i : Nat) (x : Int) : PlS w (wr.setCell ⟨g, i, none⟩ (.int .i64 x)) gR gF gP gE A m c cP cE vo (.slice (some ⟨g, 0, none⟩) n c2) po en op (lf.set i x) := by
  obtain ⟨h1, hg⟩ := h.l.put i x
  obtain ⟨cur, hb⟩ := h.l.typed (g := g) rfl
  have hlo := (h.l.lt (k := g) rfl).1
  have hv := h.vlp g rfl
  exact ⟨grown_blk h.kr hg (ty_ne h.kr hb (by decide)), grown_blk h.kf hg (ty_ne h.kf hb (by decide)),
    h.p.keep hg (fun k hk => by have : gP = k := by simpa [Value.ownBlock] using hk
                                intro e; injection e with e; exact hv.1 (by omega)),
    h.e.keep hg (fun k hk => by have : gE = k := by simpa [Value.ownBlock] using hk
                                intro e; injection e with e; exact hv.2.1 (by omega)),
    h.o.keep hg (fun k hk e => hv.2.2 (by injection e with e; rw [hk, e])), h1, h.pe, h.vop, h.vlp,
    h.b.grown hg h.b.size (fun k hk => by injection hk with hk; omega)⟩
/-- The stack is cut. -/
theorem PlS.cut {Ao Al : Option Addr} {n1 c1 n2 c2 : Nat} (h : PlS w wr gR gF gP gE A m c cP cE (.slice Ao n1 c1) (.slice Al n2 c2) po en op lf) (j : Nat) (h1 : j ≤ op.length) (h2 : j ≤ lf.length) : PlS w wr gR gF gP gE A m c cP cE (.slice Ao j c1) (.slice Al j c2) po en (op.take j) (lf.take j) :=
  ⟨h.kr, h.kf, h.p, h.e, h.o.take j h1, h.l.take j h2, h.pe, fun k hk => h.vop k (by rw [own_take_eq (n := j)]; exact hk), fun k hk => by
    have := h.vlp k (by rw [own_take_eq (n := j)]; exact hk)
    exact ⟨this.1, this.2.1, by rw [own_take_eq (n := n1)]; exact this.2.2⟩, h.b⟩
/-- The stack's places grow. -/
theorem PlS.appO {vo1 : Value} {op1 : List Int} (h : PlS w wr gR gF gP gE A m c cP cE vo vl po en op lf) (ho : RI w1 w.heap.size vo1 op1) (hb : Below w.heap.size w w1) (hg : wr.grownBy w1 vo.ownBlock) (hat : vo1.ownBlock = vo.ownBlock ∨ ∃ b, vo1.ownBlock = some b ∧ wr.heap.size ≤ b) : PlS w w1 gR gF gP gE A m c cP cE vo1 vl po en op1 lf := by
  have ne : ∀ g t (cells : Array Value), wr.heap[g]? = some (.cells cells t (0, 0)) → t ≠ 3 → some g ≠ vo.ownBlock := fun g t cells hh ht e => by
    obtain ⟨cur, hc⟩ := h.o.typed e.symm
    exact ty_ne hh hc ht rfl
  have hpP := (h.p.lt (k := gP) rfl).2
  have hpE := (h.e.lt (k := gE) rfl).2
  refine ⟨(hg.block _ (blk_lt h.kr) (ne _ _ _ h.kr (by decide))).trans h.kr, (hg.block _ (blk_lt h.kf) (ne _ _ _ h.kf (by decide))).trans h.kf, h.p.keep hg (fun k hk e => ?_), h.e.keep hg (fun k hk e => ?_), ho, h.l.keep hg (fun k hk e => (h.vlp k hk).2.2 e.symm), h.pe, fun k hk => ?_, fun k hk => ?_, hb⟩
  · have : gP = k := by simpa [Value.ownBlock] using hk
    exact (h.vop k e.symm).1 this.symm
  · have : gE = k := by simpa [Value.ownBlock] using hk
    exact (h.vop k e.symm).2 this.symm
  · rcases hat with hat | ⟨b, hat, hlt⟩
    · exact h.vop k (by rw [← hat]; exact hk)
    · rw [hat] at hk
      injection hk with hk
      omega
  · have h1 := h.vlp k hk
    have h2 := (h.l.lt hk).2
    refine ⟨h1.1, h1.2.1, fun e => ?_⟩
    rcases hat with hat | ⟨b, hat, hlt⟩
    · exact h1.2.2 (by rw [← hat]; exact e)
    · rw [hat] at e
      injection e with e
      omega
/-- The stack's counts grow. -/
theorem PlS.appL {vl1 : Value} {lf1 : List Int} (h : PlS w wr gR gF gP gE A m c cP cE vo vl po en op lf) (ho : RI w1 w.heap.size vl1 lf1) (hb : Below w.heap.size w w1) (hg : wr.grownBy w1 vl.ownBlock) (hat : vl1.ownBlock = vl.ownBlock ∨ ∃ b, vl1.ownBlock = some b ∧ wr.heap.size ≤ b) : PlS w w1 gR gF gP gE A m c cP cE vo vl1 po en op lf1 := by
  have ne : ∀ g t (cells : Array Value), wr.heap[g]? = some (.cells cells t (0, 0)) → t ≠ 3 → some g ≠ vl.ownBlock := fun g t cells hh ht e => by
    obtain ⟨cur, hc⟩ := h.l.typed e.symm
    exact ty_ne hh hc ht rfl
  have hpP := (h.p.lt (k := gP) rfl).2
  have hpE := (h.e.lt (k := gE) rfl).2
  refine ⟨(hg.block _ (blk_lt h.kr) (ne _ _ _ h.kr (by decide))).trans h.kr, (hg.block _ (blk_lt h.kf) (ne _ _ _ h.kf (by decide))).trans h.kf, h.p.keep hg (fun k hk e => ?_), h.e.keep hg (fun k hk e => ?_), h.o.keep hg (fun k hk e => (h.vlp k e.symm).2.2 hk), ho, h.pe, h.vop, fun k hk => ?_, hb⟩
  · have : gP = k := by simpa [Value.ownBlock] using hk
    exact (h.vlp k e.symm).1 this.symm
  · have : gE = k := by simpa [Value.ownBlock] using hk
    exact (h.vlp k e.symm).2.1 this.symm
  · rcases hat with hat | ⟨b, hat, hlt⟩
    · exact h.vlp k (by rw [← hat]; exact hk)
    · rw [hat] at hk
      injection hk with hk
      refine ⟨by omega, by omega, fun e => ?_⟩
      have := (h.o.lt e).2
      omega
end
/-- append(v, p) of a row that is read, whatever world it lies in. -/
theorem RI_app {P : Program} {ops : Array Oper} {o : Oper} {a : Act} {Q : Exit → Act → World → Prop} {Kc : Act → World → Prop} {w0 W : World} {E : Prop} (base : Nat) (hgd : o.guard = none) (s x : Operand)
    (ho : o.op = .call { callee := .builtin .append, args := #[s, x], argTypes := #[90, 90] })
    (ht : P.underlying 90 = some (.slice 3)) (hinfo : (P.info? 3).map (fun i => (i.zero, i.size, i.bytes)) = some (some (.int .i64 0), 1, 8))
    (v : Value) (xs : List Int) (p : Int) (A : Option Addr) (c : Nat) (hs : a.eval s = v) (hx : a.eval x = .slice A 1 c)
    (HO : RI W base v xs) (HR : kI.C W A 1 [p]) (HB : Below base w0 W) (hbase : base ≤ W.heap.size) (hl : xs.length ≤ 2097152)
    (h : ∀ v1 w1, RI w1 base v1 (xs ++ [p]) → Below base w0 w1 → W.grownBy w1 v.ownBlock → (v1.ownBlock = v.ownBlock ∨ ∃ b, v1.ownBlock = some b ∧ W.heap.size ≤ b) → Kc (a.put o.dst v1) w1) :
    if Region.wanted o (yielded ops a.tmps) = true then Oper.wp P o a W Kc Q else E := by
  have hw : Region.wanted o (yielded ops a.tmps) = true := by simp [Region.wanted, hgd]
  have h2 := Kd.R_append_rows_step (P := P) (ops := ops) (o := o) (a := a) (Q := Q) (Kc := Kc) kI (Rr := kI.K W) (w0 := w0) base hw s x 90 3 (.int .i64 0) 8 ho ht hinfo rfl (by decide) (by omega) v xs [p] A 1 c (fun _ => True) (fun _ => False) hs hx HO HR (fun _ _ hk => hk) (fun _ hk => hk.elim) (fun _ _ => trivial) HB hbase (by omega) h
  rw [if_pos hw] at h2 ⊢
  exact h2
end Go.Proofs.Ytknagjiipelfnaa.OL
