/- partRanges: two rows of ranges that share nothing: true. -/
import Derived.Test.YtgefbbdahhoglaaKeep
import Derived.Deep.DeepCutAuto
import Derived.BigQuiet
namespace Go.Proofs.Ytgefbbdahhoglaa.Part
open Go.RowKit Go.WideShapes Go.ChangeShapes Go.Proofs.YtgefbbdahhoglaaW.PrintWords Go.Proofs.YtgefbbdahhoglaaW.PrintLast Go.Proofs.YtgefbbdahhoglaaW.PrintMore Go.Proofs.Ytgefbbdahhoglaa.PMo Go.Proofs.Ytgefbbdahhoglaa.Keep
set_option linter.unusedVariables false

abbrev T : Nat → Prop := fun _ => True
def m1 : S42 := ⟨-71, 0⟩
def m2 : S42 := ⟨-72, 0⟩
/-- the first i elements are the mark -/
def fill (m : S42) (i : Nat) (xs : List S42) : List S42 := List.replicate i m ++ xs.drop i
theorem fill_zero (m : S42) (xs : List S42) : fill m 0 xs = xs := by simp [fill]
theorem fill_length (m : S42) {i : Nat} {xs : List S42} (h : i ≤ xs.length) : (fill m i xs).length = xs.length := by simp [fill]; omega
theorem fill_set (m : S42) {i : Nat} {xs : List S42} (h : i < xs.length) : (fill m i xs).set i m = fill m (i + 1) xs := by
  unfold fill
  rw [List.set_append_right _ _ (by simp), List.length_replicate, Nat.sub_self, List.drop_eq_getElem_cons h, List.set_cons_zero, List.replicate_succ', List.append_assoc]
  rfl
theorem fill_all (m : S42) (xs : List S42) : fill m xs.length xs = List.replicate xs.length m := by simp [fill]

def Row (w : World) (b : Nat) (v : Value) (xs : List S42) : Prop := Kd.R k42 42 w b T v xs
theorem Row.below {w w1 : World} {b : Nat} {v : Value} {xs : List S42} (h : Row w b v xs) (hb : Below w.heap.size w w1) : Row w1 b v xs := Kd.R_below h hb
theorem Row.at_ {w : World} {b n c : Nat} {A : Option Addr} {xs : List S42} (h : Row w b (.slice A n c) xs) (h0 : 0 < n) : ∃ g, A = some ⟨g, 0, none⟩ ∧ b ≤ g ∧ g < w.heap.size := by
  obtain ⟨_, inner, ho, hr⟩ := h
  rcases ho.2 with ⟨h1, h2⟩ | ⟨g, cap, cur, h1, hb, hh, _⟩
  · injection h1 with _ h1
    omega
  · injection h1 with h1
    exact ⟨g, h1, hb, blk_lt hh⟩
theorem Row.lt {w : World} {b : Nat} {v : Value} {xs : List S42} (h : Row w b v xs) {k : Nat} (hk : v.ownBlock = some k) : b ≤ k ∧ k < w.heap.size := by
  obtain ⟨_, inner, ho, hr⟩ := h
  exact ⟨own_base ho k hk, own_lt ho k hk⟩
theorem Row.other {w w1 : World} {b : Nat} {v : Value} {xs : List S42} (h : Row w b v xs) {row : Option Nat} (hg : w.grownBy w1 row) (hne : ∀ k, v.ownBlock = some k → row ≠ some k) : Row w1 b v xs := by
  obtain ⟨h0, inner, ho, hr⟩ := h
  refine ⟨h0, inner, own_move ho fun k hk => hg.block k (own_lt ho k hk) (fun e => hne k hk e.symm), hr.imp_ fun _ _ hp => ?_⟩
  exact hp
theorem Row.stays {w w1 : World} {b n : Nat} {v : Value} {xs : List S42} {row : Option Nat} (hs : Stays w w1 b 42 2 n row) (h : Row w b v xs) (hn : v.ownBlock = row → row ≠ none → xs.length ≤ n) : Row w1 b v xs :=
  R_stays (d := k42) (fun _ _ _ _ h => h) hs h hn

def Apart (u v : Value) : Prop := ∀ k, u.ownBlock = some k → v.ownBlock ≠ some k
def Off (g5 g6 : Nat) (u : Value) : Prop := ∀ k, u.ownBlock = some k → k ≠ g5 ∧ k ≠ g6
abbrev C1 : Obj := .cells #[.int .i64 (-71), .int .i64 0] 42 (0, 0)
abbrev C2 : Obj := .cells #[.int .i64 (-72), .int .i64 0] 42 (0, 0)
theorem new_own {v v1 : Value} {n : Nat} (hat : v1.ownBlock = v.ownBlock ∨ ∃ b, v1.ownBlock = some b ∧ n ≤ b) {k : Nat} (hk : v1.ownBlock = some k) : v.ownBlock = some k ∨ n ≤ k := by
  rcases hat with hat | ⟨b, hb, hle⟩
  · exact .inl (hat ▸ hk)
  · rw [hb] at hk
    injection hk with hk
    exact .inr (by omega)

structure St (b : Nat) (w wr : World) (g5 g6 : Nat) (v0 v1 : Value) (x0 x1 : List S42) : Prop where
  r0 : Row wr b v0 x0
  r1 : Row wr b v1 x1
  a01 : Apart v0 v1
  o0 : Off g5 g6 v0
  o1 : Off g5 g6 v1
  k5 : wr.heap[g5]? = some C1
  k6 : wr.heap[g6]? = some C2
  below : Below b w wr
section
variable {b : Nat} {w wr w1 : World} {g5 g6 : Nat} {v0 v1 : Value} {x0 x1 : List S42}
theorem St.start {w5 w6 W5 W6 : World} (h0 : Row w b v0 x0) (h1 : Row w b v1 x1) (hb : b ≤ w.heap.size) (ha : Apart v0 v1) (e5 : g5 = w.heap.size) (b5 : Below w.heap.size w w5) (p5 : w5.heap[g5]? = some (.cells #[.int .i64 0, .int .i64 0] 42 (0, 0)))
    (E5 : W5 = (w5.setCell ⟨g5, 0, none⟩ (.int .i64 (-71))).setCell ⟨g5, 1, none⟩ (.int .i64 0)) (e6 : g6 = W5.heap.size) (b6 : Below W5.heap.size W5 w6) (p6 : w6.heap[g6]? = some (.cells #[.int .i64 0, .int .i64 0] 42 (0, 0)))
    (E6 : W6 = (w6.setCell ⟨g6, 0, none⟩ (.int .i64 (-72))).setCell ⟨g6, 1, none⟩ (.int .i64 0)) : St b w W6 g5 g6 v0 v1 x0 x1 := by
  have q5 : W5.heap[g5]? = some C1 := by
    rw [E5]
    exact blk_put (blk_put p5 0 _ rfl) 1 _ rfl
  have B5 : Below w.heap.size w W5 := by
    rw [E5]
    exact below_set (below_set b5 (by omega)) (by omega)
  have l5 := blk_lt q5
  have q6 : W6.heap[g6]? = some C2 := by
    rw [E6]
    exact blk_put (blk_put p6 0 _ rfl) 1 _ rfl
  have B6 : Below W5.heap.size W5 W6 := by
    rw [E6]
    exact below_set (below_set b6 (by omega)) (by omega)
  have BB : Below w.heap.size w W6 := B5.trans (B6.mono B5.size)
  refine ⟨h0.below BB, h1.below BB, ha, fun k hk => ?_, fun k hk => ?_, (B6.block _ l5).trans q5, q6, BB.mono hb⟩
  · have := (h0.lt hk).2
    have := B5.size
    omega
  · have := (h1.lt hk).2
    have := B5.size
    omega
theorem St.set0 {x : List S42} {g : Nat} (h : St b w wr g5 g6 v0 v1 x0 x1) (hv : v0.ownBlock = some g) (ho : Row w1 b v0 x) (hg : wr.grownBy w1 (some g)) (hb : Below b w w1) : St b w w1 g5 g6 v0 v1 x x1 :=
  ⟨ho, h.r1.other hg (fun k hk e => h.a01 g hv (by rw [hk, e])), h.a01, h.o0, h.o1, (hg.block _ (blk_lt h.k5) (fun e => by injection e with e; exact (h.o0 g hv).1 e.symm)).trans h.k5, (hg.block _ (blk_lt h.k6) (fun e => by injection e with e; exact (h.o0 g hv).2 e.symm)).trans h.k6, hb⟩
theorem St.set1 {x : List S42} {g : Nat} (h : St b w wr g5 g6 v0 v1 x0 x1) (hv : v1.ownBlock = some g) (ho : Row w1 b v1 x) (hg : wr.grownBy w1 (some g)) (hb : Below b w w1) : St b w w1 g5 g6 v0 v1 x0 x :=
  ⟨h.r0.other hg (fun k hk e => h.a01 k hk (by rw [hv, e])), ho, h.a01, h.o0, h.o1, (hg.block _ (blk_lt h.k5) (fun e => by injection e with e; exact (h.o1 g hv).1 e.symm)).trans h.k5, (hg.block _ (blk_lt h.k6) (fun e => by injection e with e; exact (h.o1 g hv).2 e.symm)).trans h.k6, hb⟩
end

structure L (b : Nat) (w wr : World) (g5 g6 : Nat) (v0 v1 v9 v10 : Value) (x0 x1 x9 x10 : List S42) : Prop where
  st : St b w wr g5 g6 v0 v1 x0 x1
  r9 : Row wr b v9 x9
  r10 : Row wr b v10 x10
  a91 : Apart v9 v1
  a100 : Apart v10 v0
  a910 : Apart v9 v10
  o9 : Off g5 g6 v9
  o10 : Off g5 g6 v10
  l0 : x0.length ≤ x9.length
  l1 : x1.length ≤ x10.length
section
variable {b : Nat} {w wr w1 : World} {g5 g6 : Nat} {v0 v1 v9 v10 v : Value} {x0 x1 x9 x10 : List S42} {p : S42}
theorem L.start (h : St b w wr g5 g6 v0 v1 x0 x1) : L b w wr g5 g6 v0 v1 v0 v1 x0 x1 x0 x1 :=
  ⟨h, h.r0, h.r1, h.a01, fun k hk e => h.a01 k e hk, h.a01, h.o0, h.o1, Nat.le_refl _, Nat.le_refl _⟩
theorem L.step9 (h : L b w wr g5 g6 v0 v1 v9 v10 x0 x1 x9 x10) (ho : Row w1 b v (x9 ++ [p])) (hb : Below b w w1) (hg : wr.grownBy w1 v9.ownBlock) (hat : v.ownBlock = v9.ownBlock ∨ ∃ b, v.ownBlock = some b ∧ wr.heap.size ≤ b)
    (hs : Stays wr w1 b 42 2 x9.length v9.ownBlock) : L b w w1 g5 g6 v0 v1 v v10 x0 x1 (x9 ++ [p]) x10 := by
  have k5 := h.st.k5
  have k6 := h.st.k6
  have l5 := blk_lt k5
  have l6 := blk_lt k6
  refine ⟨⟨h.st.r0.stays hs (fun _ _ => h.l0), h.st.r1.stays hs (fun e hn => ?_), h.st.a01, h.st.o0, h.st.o1, ?_, ?_, hb⟩, ho, h.r10.stays hs (fun e hn => ?_), ?_, h.a100, ?_, ?_, h.o10, by rw [List.length_append]; have := h.l0; omega, h.l1⟩
  · exfalso
    cases he : v9.ownBlock with
    | none => exact hn he
    | some k => exact h.a91 k he (e.trans he)
  · exact (hg.block _ l5 (fun e => (h.o9 g5 e.symm).1 rfl)).trans k5
  · exact (hg.block _ l6 (fun e => (h.o9 g6 e.symm).2 rfl)).trans k6
  · exfalso
    cases he : v9.ownBlock with
    | none => exact hn he
    | some k => exact h.a910 k he (e.trans he)
  · intro k hk e
    rcases new_own hat hk with h1 | h1
    · exact h.a91 k h1 e
    · have := (h.st.r1.lt e).2
      omega
  · intro k hk e
    rcases new_own hat hk with h1 | h1
    · exact h.a910 k h1 e
    · have := (h.r10.lt e).2
      omega
  · intro k hk
    rcases new_own hat hk with h1 | h1
    · exact h.o9 k h1
    · exact ⟨by omega, by omega⟩
theorem L.step10 (h : L b w wr g5 g6 v0 v1 v9 v10 x0 x1 x9 x10) (ho : Row w1 b v (x10 ++ [p])) (hb : Below b w w1) (hg : wr.grownBy w1 v10.ownBlock) (hat : v.ownBlock = v10.ownBlock ∨ ∃ b, v.ownBlock = some b ∧ wr.heap.size ≤ b)
    (hs : Stays wr w1 b 42 2 x10.length v10.ownBlock) : L b w w1 g5 g6 v0 v1 v9 v x0 x1 x9 (x10 ++ [p]) := by
  have k5 := h.st.k5
  have k6 := h.st.k6
  have l5 := blk_lt k5
  have l6 := blk_lt k6
  refine ⟨⟨h.st.r0.stays hs (fun e hn => ?_), h.st.r1.stays hs (fun _ _ => h.l1), h.st.a01, h.st.o0, h.st.o1, ?_, ?_, hb⟩, h.r9.stays hs (fun e hn => ?_), ho, h.a91, ?_, ?_, h.o9, ?_, h.l0, by rw [List.length_append]; have := h.l1; omega⟩
  · exfalso
    cases he : v10.ownBlock with
    | none => exact hn he
    | some k => exact h.a100 k he (e.trans he)
  · exact (hg.block _ l5 (fun e => (h.o10 g5 e.symm).1 rfl)).trans k5
  · exact (hg.block _ l6 (fun e => (h.o10 g6 e.symm).2 rfl)).trans k6
  · exfalso
    cases he : v10.ownBlock with
    | none => exact hn he
    | some k => exact h.a910 k (e.trans he) he
  · intro k hk e
    rcases new_own hat hk with h1 | h1
    · exact h.a100 k h1 e
    · have := (h.st.r0.lt e).2
      omega
  · intro k hk e
    rcases new_own hat e with h1 | h1
    · exact h.a910 k hk h1
    · have := (h.r9.lt hk).2
      omega
  · intro k hk
    rcases new_own hat hk with h1 | h1
    · exact h.o10 k h1
    · exact ⟨by omega, by omega⟩
end

theorem Row.reads {w : World} {b n c : Nat} {A : Option Addr} {xs : List S42} (h : Row w b (.slice A n c) xs) : Kd.C k42 w A n xs := by
  have h2 := Kd.R_reads' h
  rw [h2.1]
  exact h2.2.2
theorem Row.len {w : World} {b n c : Nat} {A : Option Addr} {xs : List S42} (h : Row w b (.slice A n c) xs) : n = xs.length := (Kd.R_reads' h).1
theorem Row.cells {w : World} {b n c g : Nat} {xs : List S42} (h : Row w b (.slice (some ⟨g, 0, none⟩) n c) xs) (i : Nat) (hi : i < n) :
    w.cell? ⟨g, i * 2, none⟩ = some (.int .i64 (xs.getD i z42).f0) ∧ w.cell? ⟨g, i * 2 + 1, none⟩ = some (.int .i64 (xs.getD i z42).f1) := by
  obtain ⟨ad, he, h0, h1⟩ := at_T42 h.reads (i : Int) (by omega) (by omega)
  injection he with he
  subst he
  rw [Int.toNat_natCast] at h0 h1
  have e : (⟨g, 0, none⟩ : Addr).add (i * 2) = ⟨g, i * 2, none⟩ := by
    unfold Addr.add
    split <;> simp_all
  rw [e] at h0 h1
  unfold rd_T42 at h0 h1
  rw [Int.toNat_natCast] at h0 h1
  exact ⟨h0, h1⟩
theorem infoOf42 : (Try.prog.info? 42).map (·.size) = some 2 := by kernel_rfl
theorem Row.blk {w : World} {b n c g : Nat} {xs : List S42} (h : Row w b (.slice (some ⟨g, 0, none⟩) n c) xs) : ∃ cur, w.heap[g]? = some (.cells cur 42 (0, 0)) := by
  obtain ⟨_, inner, ho, _⟩ := h
  exact own_typed ho g rfl
theorem Row.put {w0 W : World} {b g n c : Nat} {xs : List S42} (HR : Row W b (.slice (some ⟨g, 0, none⟩) n c) xs) (i : Nat) (hi : i < n) (m : S42) (HB : Below b w0 W) :
    Row ((W.setCell ⟨g, i * 2, none⟩ (.int .i64 m.f0)).setCell ⟨g, i * 2 + 1, none⟩ (.int .i64 m.f1)) b (.slice (some ⟨g, 0, none⟩) n c) (xs.set i m) ∧ W.grownBy ((W.setCell ⟨g, i * 2, none⟩ (.int .i64 m.f0)).setCell ⟨g, i * 2 + 1, none⟩ (.int .i64 m.f1)) (some g) ∧
      Below b w0 ((W.setCell ⟨g, i * 2, none⟩ (.int .i64 m.f0)).setCell ⟨g, i * 2 + 1, none⟩ (.int .i64 m.f1)) := by
  obtain ⟨z0, z1⟩ := HR.cells i hi
  have h := Kd.R_seg (d := k42) HR (i : Int) (by omega) (by omega) (c := [.int .i64 (xs.getD i z42).f0, .int .i64 (xs.getD i z42).f1]) (seg := [.int .i64 m.f0, .int .i64 m.f1]) (j := 0) (x' := m) (okp := fun _ => False) rfl ?_ (Nat.le_refl 2) (k42_mkM _ _ _ m) (fun _ hk => hk.elim)
  · rw [Int.toNat_natCast] at h
    have hbg := (HR.lt rfl).1
    exact ⟨h.1, h.2, Below.setCell (p := ⟨g, i * 2 + 1, none⟩) (Below.setCell (p := ⟨g, i * 2, none⟩) HB hbg _) hbg _⟩
  · intro j u hj
    rw [Int.toNat_natCast]
    match j, hj with
    | 0, hj => injection hj with hj; subst hj; exact z0
    | 1, hj => injection hj with hj; subst hj; exact z1
    | j + 2, hj => simp at hj
theorem St.put0 {b : Nat} {w wr : World} {g5 g6 g n c i : Nat} {v1 : Value} {x0 x1 : List S42} (h : St b w wr g5 g6 (.slice (some ⟨g, 0, none⟩) n c) v1 x0 x1) (hi : i < n) (m : S42) :
    St b w ((wr.setCell ⟨g, i * 2, none⟩ (.int .i64 m.f0)).setCell ⟨g, i * 2 + 1, none⟩ (.int .i64 m.f1)) g5 g6 (.slice (some ⟨g, 0, none⟩) n c) v1 (x0.set i m) x1 := by
  obtain ⟨h1, h2, h3⟩ := h.r0.put i hi m h.below
  exact h.set0 rfl h1 h2 h3
theorem St.put1 {b : Nat} {w wr : World} {g5 g6 g n c i : Nat} {v0 : Value} {x0 x1 : List S42} (h : St b w wr g5 g6 v0 (.slice (some ⟨g, 0, none⟩) n c) x0 x1) (hi : i < n) (m : S42) :
    St b w ((wr.setCell ⟨g, i * 2, none⟩ (.int .i64 m.f0)).setCell ⟨g, i * 2 + 1, none⟩ (.int .i64 m.f1)) g5 g6 v0 (.slice (some ⟨g, 0, none⟩) n c) x0 (x1.set i m) := by
  obtain ⟨h1, h2, h3⟩ := h.r1.put i hi m h.below
  exact h.set1 rfl h1 h2 h3

theorem info42' : (Try.prog.info? 42).map (fun i => (i.zero, i.size, i.bytes)) = some (some (.agg #[.int .i64 0, .int .i64 0]), k42.sz, 16) := by kernel_rfl
theorem repl_snoc (m : S42) (n i : Nat) : List.replicate (n + i) m ++ [m] = List.replicate (n + (i + 1)) m := by rw [← List.replicate_succ']; rfl

theorem St.moved {b : Nat} {w wr w1 : World} {g5 g6 : Nat} {v0 v1 : Value} {x0 x1 : List S42} (h : St b w wr g5 g6 v0 v1 x0 x1) (h0 : b ≤ w.heap.size) (hb : Below wr.heap.size wr w1) : St b w w1 g5 g6 v0 v1 x0 x1 :=
  ⟨h.r0.below hb, h.r1.below hb, h.a01, h.o0, h.o1, (hb.block _ (blk_lt h.k5)).trans h.k5, (hb.block _ (blk_lt h.k6)).trans h.k6, h.below.trans (hb.mono (Nat.le_trans h0 h.below.size))⟩
theorem L.moved {b : Nat} {w wr w1 : World} {g5 g6 : Nat} {v0 v1 v9 v10 : Value} {x0 x1 x9 x10 : List S42} (h : L b w wr g5 g6 v0 v1 v9 v10 x0 x1 x9 x10) (h0 : b ≤ w.heap.size) (hb : Below wr.heap.size wr w1) : L b w w1 g5 g6 v0 v1 v9 v10 x0 x1 x9 x10 :=
  ⟨h.st.moved h0 hb, h.r9.below hb, h.r10.below hb, h.a91, h.a100, h.a910, h.o9, h.o10, h.l0, h.l1⟩
theorem L.drewN {b : Nat} {w wr : World} {g5 g6 : Nat} {v0 v1 v9 v10 : Value} {x0 x1 x9 x10 : List S42} (h : L b w wr g5 g6 v0 v1 v9 v10 x0 x1 x9 x10) (h0 : b ≤ w.heap.size) (n : Nat) : L b w (wr.drewN n) g5 g6 v0 v1 v9 v10 x0 x1 x9 x10 :=
  h.moved h0 (pw_below_drewN (Below.refl _ _) n)
theorem repl_get (m : S42) {n i : Nat} (h : i < n) : (List.replicate n m).getD i z42 = m := by
  rw [List.getD_eq_getElem?_getD, List.getElem?_replicate, if_pos h]
  rfl
theorem Row.marks {w : World} {b n k c g : Nat} {m : S42} (h : Row w b (.slice (some ⟨g, 0, none⟩) n c) (List.replicate k m)) (i : Nat) (hi : i < n) :
    w.cell? ⟨g, i * 2, none⟩ = some (.int .i64 m.f0) ∧ w.cell? ⟨g, i * 2 + 1, none⟩ = some (.int .i64 m.f1) := by
  have e := h.len
  rw [List.length_replicate] at e
  have := h.cells i hi
  rwa [repl_get m (by omega)] at this

set_option maxRecDepth 100000 in
set_option maxHeartbeats 2000000 in
theorem partRanges_calls (b : Nat) (A0 A1 : Option Addr) (c0 c1 : Nat) (xs ys : List S42) (w : World) (h0 : Row w b (.slice A0 xs.length c0) xs) (h1 : Row w b (.slice A1 ys.length c1) ys)
    (hne : Apart (.slice A0 xs.length c0) (.slice A1 ys.length c1)) (hb : b ≤ w.heap.size) (hx : xs.length ≤ 4398046510976) (hy : ys.length ≤ 4398046510976) :
    Calls Try.prog 13 #[.slice A0 xs.length c0, .slice A1 ys.length c1] w fun e w' => e = .returned (.bool true) ∧ Below b w w' := by
  have H0 := Aside0.mk h0
  have H1 := Aside0.mk h1
  have HN := Aside0.mk hne
  have HB := Aside0.mk hb
  have HX := Aside0.mk hx
  have HY := Aside0.mk hy
  clear h0 h1 hne hb hx hy
  go_enter Try.func13, Try.ntmps13
  go_wp2_with (first | ((with_reducible refine gate_dst (N := 5) rfl ?_); refine box_event ?hg (N := 5) ?hd (cs := #[.int .i64 0, .int .i64 0]) (t := 42) ?hr ?_; (case hd => rfl); (case hg => rfl); (case hr => first | (go_simp; done) | (go_simp; rfl)); intro g5 hg w5 hbox hb; have K5 := Aside0.mk hbox; have G5 := Aside0.mk hg; have B5 := Aside0.mk hb; clear hbox hg hb; have hcz0 : w5.cell? ⟨g5, 0, none⟩ = some (.int .i64 0) := (blk_cell K5.out 0).trans rfl; have hcz1 : w5.cell? ⟨g5, 1, none⟩ = some (.int .i64 0) := (blk_cell K5.out 1).trans rfl; have hfz0 := blk_frozen K5.out 0; have hfz1 := blk_frozen K5.out 1) | ((with_reducible refine gate_dst (N := 6) rfl ?_); refine box_event ?hg (N := 6) ?hd (cs := #[.int .i64 0, .int .i64 0]) (t := 42) ?hr ?_; (case hd => rfl); (case hg => rfl); (case hr => first | (go_simp; done) | (go_simp; rfl)); intro g6 hg w6 hbox hb; have K6 := Aside0.mk hbox; have G6 := Aside0.mk hg; have B6 := Aside0.mk hb; clear hbox hg hb hcz0 hcz1 hfz0 hfz1; have hcy0 : w6.cell? ⟨g6, 0, none⟩ = some (.int .i64 0) := (blk_cell K6.out 0).trans rfl; have hcy1 : w6.cell? ⟨g6, 1, none⟩ = some (.int .i64 0) := (blk_cell K6.out 1).trans rfl; have hfy0 := blk_frozen K6.out 0; have hfy1 := blk_frozen K6.out 1))
  have HS : Aside0 (St b w (World.setCell (World.setCell w6 ⟨g6, 0, none⟩ (.int .i64 (-72))) ⟨g6, 1, none⟩ (.int .i64 0)) g5 g6 (.slice A0 xs.length c0) (.slice A1 ys.length c1) xs ys) :=
    ⟨St.start H0.out H1.out HB.out HN.out G5.out B5.out K5.out rfl G6.out B6.out K6.out rfl⟩
  clear H0 H1 HN G5 B5 K5 G6 B6 K6 hcy0 hcy1 hfy0 hfy1
  go_loopw [7] (fun v7 wr => ∃ i : Nat, v7 = .int .i64 (i : Int) ∧ i ≤ xs.length ∧ Aside0 (St b w wr g5 g6 (.slice A0 xs.length c0) (.slice A1 ys.length c1) (fill m1 i xs) ys)) (fun v7 _ => xs.length - (intOf v7).toNat)
  case atStart => exact ⟨0, rfl, by omega, by rw [fill_zero]; exact HS⟩
  case round =>
    obtain ⟨i, rfl, hi, HSr⟩ := hrel
    clear HS
    have hX := HX.out
    by_cases hlt : i < xs.length
    · have d1 : decide ((i : Int) < (xs.length : Int)) = true := decide_eq_true (by omega)
      have d2 : decide (i < xs.length) = true := decide_eq_true hlt
      obtain ⟨g, rfl, hbg, hgl⟩ := HSr.out.r0.at_ (by omega)
      have z0 : wr.cell? ⟨g5, 0, none⟩ = some (.int .i64 (-71)) := (blk_cell HSr.out.k5 0).trans rfl
      have z1 : wr.cell? ⟨g5, 1, none⟩ = some (.int .i64 0) := (blk_cell HSr.out.k5 1).trans rfl
      obtain ⟨y0, y1⟩ := HSr.out.r0.cells i hlt
      obtain ⟨cur, hcur⟩ := HSr.out.r0.blk
      have f0 := blk_frozen hcur (i * 2)
      have f1 := blk_frozen hcur (i * 2 + 1)
      clear hcur
      go_wp2_with fail
      go_roundw
      case measure => first | omega | (simp [intOf]; omega)
      case rel => exact ⟨i + 1, by congr 1, by omega, ⟨by rw [← fill_set m1 hlt]; exact HSr.out.put0 hlt m1⟩⟩
    · have d1 : decide ((i : Int) < (xs.length : Int)) = false := decide_eq_false (by omega)
      have d2 : decide (i < xs.length) = false := decide_eq_false hlt
      obtain rfl : i = xs.length := by omega
      have HS : Aside0 (St b w wr g5 g6 (.slice A0 xs.length c0) (.slice A1 ys.length c1) (List.replicate xs.length m1) ys) := ⟨by rw [← fill_all]; exact HSr.out⟩
      clear HSr
      go_wp2_with fail
      go_loopw [8] (fun v8 wr => ∃ i : Nat, v8 = .int .i64 (i : Int) ∧ i ≤ ys.length ∧ Aside0 (St b w wr g5 g6 (.slice A0 xs.length c0) (.slice A1 ys.length c1) (List.replicate xs.length m1) (fill m2 i ys))) (fun v8 _ => ys.length - (intOf v8).toNat)
      case atStart => exact ⟨0, rfl, by omega, by rw [fill_zero]; exact HS⟩
      case round =>
        obtain ⟨i, rfl, hi, HSr⟩ := hrel
        clear HS
        have hY := HY.out
        by_cases hlt : i < ys.length
        · have d1 : decide ((i : Int) < (ys.length : Int)) = true := decide_eq_true (by omega)
          have d2 : decide (i < ys.length) = true := decide_eq_true hlt
          obtain ⟨g, rfl, hbg, hgl⟩ := HSr.out.r1.at_ (by omega)
          have z0 : wr.cell? ⟨g6, 0, none⟩ = some (.int .i64 (-72)) := (blk_cell HSr.out.k6 0).trans rfl
          have z1 : wr.cell? ⟨g6, 1, none⟩ = some (.int .i64 0) := (blk_cell HSr.out.k6 1).trans rfl
          obtain ⟨y0, y1⟩ := HSr.out.r1.cells i hlt
          obtain ⟨cur, hcur⟩ := HSr.out.r1.blk
          have f0 := blk_frozen hcur (i * 2)
          have f1 := blk_frozen hcur (i * 2 + 1)
          clear hcur
          go_wp2_with fail
          go_roundw
          case measure => first | omega | (simp [intOf]; omega)
          case rel => exact ⟨i + 1, by congr 1, by omega, ⟨by rw [← fill_set m2 hlt]; exact HSr.out.put1 hlt m2⟩⟩
        · have d1 : decide ((i : Int) < (ys.length : Int)) = false := decide_eq_false (by omega)
          have d2 : decide (i < ys.length) = false := decide_eq_false hlt
          obtain rfl : i = ys.length := by omega
          have HL : Aside0 (L b w wr g5 g6 (.slice A0 xs.length c0) (.slice A1 ys.length c1) (.slice A0 xs.length c0) (.slice A1 ys.length c1) (List.replicate xs.length m1) (List.replicate ys.length m2) (List.replicate (xs.length + 0) m1) (List.replicate (ys.length + 0) m2)) := ⟨by rw [Nat.add_zero, Nat.add_zero, ← fill_all m2 ys]; exact L.start HSr.out⟩
          clear HSr
          go_wp2_with fail
          go_loopw [9, 10, 11] (fun v9 v10 v11 wr => ∃ i : Nat, v11 = .int .i64 (i : Int) ∧ i ≤ 70 ∧ Aside0 (L b w wr g5 g6 (.slice A0 xs.length c0) (.slice A1 ys.length c1) v9 v10 (List.replicate xs.length m1) (List.replicate ys.length m2) (List.replicate (xs.length + i) m1) (List.replicate (ys.length + i) m2))) (fun _ _ v11 _ => 70 - (intOf v11).toNat)
          case atStart => exact ⟨0, rfl, by omega, HL⟩
          case round =>
            obtain ⟨i, rfl, hi, HLr⟩ := hrel
            clear HL
            by_cases hlt : i < 70
            · have d1 : decide ((i : Int) < 70) = true := decide_eq_true (by omega)
              have d2 : decide (i < 70) = true := decide_eq_true hlt
              have z0 : wr.cell? ⟨g5, 0, none⟩ = some (.int .i64 (-71)) := (blk_cell HLr.out.st.k5 0).trans rfl
              have z1 : wr.cell? ⟨g5, 1, none⟩ = some (.int .i64 0) := (blk_cell HLr.out.st.k5 1).trans rfl
              go_wp2_with (first | ((with_reducible refine gate_builtin (b := .append) (xs := #[.tmp 42, .tmp 44]) rfl ?_); at_builtin; refine R_append_keep k42 (w0 := w) b rfl (.tmp 42) (.tmp 44) 35 42 (.agg #[(.int .i64 0), (.int .i64 0)]) 16 rfl Try.underlying35 info42' rfl (by decide) (by omega) u9 (List.replicate (xs.length + i) m1) m1 [.int .i64 (-71), .int .i64 0] T (fun _ => False) rfl rfl ?aP (fun _ hk => hk.elim) (fun _ _ => trivial) ?aO ?aB ?aS ?aL ?_; (case aP => exact k42_mkM _ _ _ m1); (case aO => exact HLr.out.r9); (case aB => exact HLr.out.st.below); (case aS => exact Nat.le_trans HB.out HLr.out.st.below.size); (case aL => rw [List.length_replicate]; have := HX.out; omega); intro v1 w1 ho hb hg hat hst; have HL1 : Aside0 (L b w w1 g5 g6 (.slice A0 xs.length c0) (.slice A1 ys.length c1) v1 u10 (List.replicate xs.length m1) (List.replicate ys.length m2) (List.replicate (xs.length + (i + 1)) m1) (List.replicate (ys.length + i) m2)) := ⟨by rw [← repl_snoc]; exact HLr.out.step9 ho hb hg hat hst⟩; clear ho hb hg hat hst HLr z0 z1; have z0 : w1.cell? ⟨g6, 0, none⟩ = some (.int .i64 (-72)) := (blk_cell HL1.out.st.k6 0).trans rfl; have z1 : w1.cell? ⟨g6, 1, none⟩ = some (.int .i64 0) := (blk_cell HL1.out.st.k6 1).trans rfl) | ((with_reducible refine gate_builtin (b := .append) (xs := #[.tmp 46, .tmp 48]) rfl ?_); at_builtin; refine R_append_keep k42 (w0 := w) b rfl (.tmp 46) (.tmp 48) 35 42 (.agg #[(.int .i64 0), (.int .i64 0)]) 16 rfl Try.underlying35 info42' rfl (by decide) (by omega) u10 (List.replicate (ys.length + i) m2) m2 [.int .i64 (-72), .int .i64 0] T (fun _ => False) rfl rfl ?aP (fun _ hk => hk.elim) (fun _ _ => trivial) ?aO ?aB ?aS ?aL ?_; (case aP => exact k42_mkM _ _ _ m2); (case aO => exact HL1.out.r10); (case aB => exact HL1.out.st.below); (case aS => exact Nat.le_trans HB.out HL1.out.st.below.size); (case aL => rw [List.length_replicate]; have := HY.out; omega); intro v2 w2 ho hb hg hat hst; have HL2 : Aside0 (L b w w2 g5 g6 (.slice A0 xs.length c0) (.slice A1 ys.length c1) v1 v2 (List.replicate xs.length m1) (List.replicate ys.length m2) (List.replicate (xs.length + (i + 1)) m1) (List.replicate (ys.length + (i + 1)) m2)) := ⟨by rw [← repl_snoc m2]; exact HL1.out.step10 ho hb hg hat hst⟩; clear ho hb hg hat hst HL1 z0 z1))
              go_roundw
              case measure => first | omega | (simp [intOf]; omega)
              case rel => exact ⟨i + 1, by congr 1, by omega, HL2⟩
            · have d1 : decide ((i : Int) < 70) = false := decide_eq_false (by omega)
              have d2 : decide (i < 70) = false := decide_eq_false hlt
              obtain rfl : i = 70 := by omega
              obtain ⟨A9, c9, e9⟩ := Kd.R_slice HLr.out.r9
              obtain ⟨A10, c10, e10⟩ := Kd.R_slice HLr.out.r10
              rw [List.length_replicate] at e9 e10
              subst e9
              subst e10
              go_wp2_with fail
              have hb0 := HB.out
              obtain ⟨g9, rfl, hbg9, hgl9⟩ := HLr.out.r9.at_ (by omega)
              obtain ⟨g10, rfl, hbg10, hgl10⟩ := HLr.out.r10.at_ (by omega)
              clear hbg9 hgl9 hbg10 hgl10
              go_loopw [12] (fun v12 w' => ∃ i : Nat, v12 = .int .i64 (i : Int) ∧ i ≤ xs.length + 70 ∧ Aside0 (L b w w' g5 g6 (.slice A0 xs.length c0) (.slice A1 ys.length c1) (.slice (some ⟨g9, 0, none⟩) (xs.length + 70) c9) (.slice (some ⟨g10, 0, none⟩) (ys.length + 70) c10) (List.replicate xs.length m1) (List.replicate ys.length m2) (List.replicate (xs.length + 70) m1) (List.replicate (ys.length + 70) m2))) (fun v12 _ => xs.length + 70 - (intOf v12).toNat)
              case atStart => exact ⟨0, rfl, by omega, HLr⟩
              case round =>
                obtain ⟨i, rfl, hi, HLw⟩ := hrel
                clear HLr
                by_cases hlt : i < xs.length + 70
                · have d1 : decide ((i : Int) < (xs.length : Int) + 70) = true := decide_eq_true (by omega)
                  have d2 : decide (i < xs.length + 70) = true := decide_eq_true hlt
                  have z0 : wr.cell? ⟨g5, 0, none⟩ = some (.int .i64 (-71)) := (blk_cell HLw.out.st.k5 0).trans rfl
                  have z1 : wr.cell? ⟨g5, 1, none⟩ = some (.int .i64 0) := (blk_cell HLw.out.st.k5 1).trans rfl
                  obtain ⟨y0, y1⟩ := HLw.out.r9.marks i hlt
                  have y0' : wr.cell? ⟨g9, i * 2, none⟩ = some (.int .i64 (-71)) := y0
                  have y1' : wr.cell? ⟨g9, i * 2 + 1, none⟩ = some (.int .i64 0) := y1
                  clear y0 y1
                  by_cases hin : i < xs.length
                  · have d3 : decide ((i : Int) < (xs.length : Int)) = true := decide_eq_true (by omega)
                    have d4 : decide (i < xs.length) = true := decide_eq_true hin
                    obtain ⟨g0, rfl, hbg0, hgl0⟩ := HLw.out.st.r0.at_ (by omega)
                    clear hbg0 hgl0
                    obtain ⟨y2, y3⟩ := HLw.out.st.r0.marks i hin
                    have y2' : wr.cell? ⟨g0, i * 2, none⟩ = some (.int .i64 (-71)) := y2
                    have y3' : wr.cell? ⟨g0, i * 2 + 1, none⟩ = some (.int .i64 0) := y3
                    clear y2 y3
                    go_wp2
                    repeat (go_quiet (fail); try go_wp2)
                    go_roundw
                    case measure => first | omega | (simp [intOf]; omega)
                    case rel => exact ⟨i + 1, by congr 1, by omega, ⟨HLw.out.drewN hb0 _⟩⟩
                  · have d3 : decide ((i : Int) < (xs.length : Int)) = false := decide_eq_false (by omega)
                    have d4 : decide (i < xs.length) = false := decide_eq_false hin
                    go_wp2
                    repeat (go_quiet (fail); try go_wp2)
                    go_roundw
                    case measure => first | omega | (simp [intOf]; omega)
                    case rel => exact ⟨i + 1, by congr 1, by omega, ⟨HLw.out.drewN hb0 _⟩⟩
                · have d1 : decide ((i : Int) < (xs.length : Int) + 70) = false := decide_eq_false (by omega)
                  have d2 : decide (i < xs.length + 70) = false := decide_eq_false hlt
                  obtain rfl : i = xs.length + 70 := by omega
                  go_wp2_with fail
                  go_loopw [13] (fun v13 w' => ∃ i : Nat, v13 = .int .i64 (i : Int) ∧ i ≤ ys.length + 70 ∧ Aside0 (L b w w' g5 g6 (.slice A0 xs.length c0) (.slice A1 ys.length c1) (.slice (some ⟨g9, 0, none⟩) (xs.length + 70) c9) (.slice (some ⟨g10, 0, none⟩) (ys.length + 70) c10) (List.replicate xs.length m1) (List.replicate ys.length m2) (List.replicate (xs.length + 70) m1) (List.replicate (ys.length + 70) m2))) (fun v13 _ => ys.length + 70 - (intOf v13).toNat)
                  case atStart => exact ⟨0, rfl, by omega, HLw⟩
                  case round =>
                    obtain ⟨j, rfl, hj, HLv⟩ := hrel
                    clear HLw
                    by_cases hlt2 : j < ys.length + 70
                    · have d1 : decide ((j : Int) < (ys.length : Int) + 70) = true := decide_eq_true (by omega)
                      have d2 : decide (j < ys.length + 70) = true := decide_eq_true hlt2
                      have z0 : wr.cell? ⟨g6, 0, none⟩ = some (.int .i64 (-72)) := (blk_cell HLv.out.st.k6 0).trans rfl
                      have z1 : wr.cell? ⟨g6, 1, none⟩ = some (.int .i64 0) := (blk_cell HLv.out.st.k6 1).trans rfl
                      obtain ⟨y0, y1⟩ := HLv.out.r10.marks j hlt2
                      have y0' : wr.cell? ⟨g10, j * 2, none⟩ = some (.int .i64 (-72)) := y0
                      have y1' : wr.cell? ⟨g10, j * 2 + 1, none⟩ = some (.int .i64 0) := y1
                      clear y0 y1
                      by_cases hin2 : j < ys.length
                      · have d3 : decide ((j : Int) < (ys.length : Int)) = true := decide_eq_true (by omega)
                        have d4 : decide (j < ys.length) = true := decide_eq_true hin2
                        obtain ⟨g0, rfl, hbg0, hgl0⟩ := HLv.out.st.r1.at_ (by omega)
                        clear hbg0 hgl0
                        obtain ⟨y2, y3⟩ := HLv.out.st.r1.marks j hin2
                        have y2' : wr.cell? ⟨g0, j * 2, none⟩ = some (.int .i64 (-72)) := y2
                        have y3' : wr.cell? ⟨g0, j * 2 + 1, none⟩ = some (.int .i64 0) := y3
                        clear y2 y3
                        go_wp2
                        repeat (go_quiet (fail); try go_wp2)
                        go_roundw
                        case measure => first | omega | (simp [intOf]; omega)
                        case rel => exact ⟨j + 1, by congr 1, by omega, ⟨HLv.out.drewN hb0 _⟩⟩
                      · have d3 : decide ((j : Int) < (ys.length : Int)) = false := decide_eq_false (by omega)
                        have d4 : decide (j < ys.length) = false := decide_eq_false hin2
                        go_wp2
                        repeat (go_quiet (fail); try go_wp2)
                        go_roundw
                        case measure => first | omega | (simp [intOf]; omega)
                        case rel => exact ⟨j + 1, by congr 1, by omega, ⟨HLv.out.drewN hb0 _⟩⟩
                    · have d1 : decide ((j : Int) < (ys.length : Int) + 70) = false := decide_eq_false (by omega)
                      have d2 : decide (j < ys.length + 70) = false := decide_eq_false hlt2
                      obtain rfl : j = ys.length + 70 := by omega
                      go_wp2_with fail
                      go_ret
                      exact ⟨rfl, HLv.out.st.below⟩
end Go.Proofs.Ytgefbbdahhoglaa.Part
