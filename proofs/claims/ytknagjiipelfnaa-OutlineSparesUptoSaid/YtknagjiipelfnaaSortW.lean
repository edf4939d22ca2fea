/- Rows of folds that are written over; cmp.Or, Folds' own comparison, swapRange, rotate, insertionSort. -/
import Derived.Test.YtknagjiipelfnaaPAllx0
import Derived.Test.YtknagjiipelfnaaSortPure
import Derived.Deep.RegionLaw
import Derived.Deep.RegionHeld3
import Derived.Deep.DeepCutAuto
import Derived.Deep.MidRow
namespace Go.Proofs.Ytknagjiipelfnaa.SO
open Go.RowKit Go.WideShapes Go.ChangeShapes Go.Proofs.YtknagjiipelfnaaW.PrintWords Go.Proofs.YtknagjiipelfnaaW.PrintLast Go.Proofs.YtknagjiipelfnaaW.PrintMore Go.Proofs.Ytknagjiipelfnaa.PAll
set_option linter.unusedVariables false

theorem w64 {a : Int} (h0 : -9223372036854775808 ≤ a) (h1 : a ≤ 9223372036854775807) : wrap64 a = a := by unfold wrap64; omega
theorem al0 (w0 : World) (o1 o2 : Obj) : ((w0.alloc o1).alloc o2).heap[w0.heap.size]? = some o1 := by
  have h : Below (w0.alloc o1).heap.size (w0.alloc o1) ((w0.alloc o1).alloc o2) := below_alloc (Below.refl _ _) _
  have h1 := heap_alloc_new w0 o1
  exact (h.block _ (blk_lt h1)).trans h1
theorem al1 (w0 : World) (o1 o2 : Obj) : ((w0.alloc o1).alloc o2).heap[w0.heap.size + 1]? = some o2 := by
  have h := heap_alloc_new (w0.alloc o1) o2
  rwa [show (w0.alloc o1).heap.size = w0.heap.size + 1 from by simp] at h
abbrev RF (w : World) (b : Nat) (v : Value) (xs : List S82) : Prop := k82.R 82 w b (fun _ => True) v xs
def get (xs : List S82) (k : Nat) : S82 := xs.getD k z82
theorem get_set (xs : List S82) (p : Nat) (y : S82) (hp : p < xs.length) : get (xs.set p y) = fun k => if k = p then y else get xs k := by
  funext k
  unfold get
  rw [List.getD_eq_getElem?_getD, List.getD_eq_getElem?_getD, List.getElem?_set]
  by_cases h : p = k
  · subst h
    rw [if_pos rfl, if_pos hp, if_pos rfl]
    rfl
  · rw [if_neg h, if_neg (fun e => h e.symm)]
theorem get_swap (xs : List S82) (p q : Nat) (hp : p < xs.length) (hq : q < xs.length) (hne : p ≠ q) : get ((xs.set p (get xs q)).set q (get xs p)) = swapF (get xs) p q := by
  rw [get_set _ _ _ (by rw [List.length_set]; exact hq), get_set _ _ _ hp]
  funext k
  unfold swapF
  by_cases h1 : k = p
  · subst h1
    simp [hne]
  · by_cases h2 : k = q
    · subst h2
      simp [h1]
    · simp [h1, h2]
theorem info82 : (Try.prog.info? 82).map (·.size) = some 2 := by kernel_rfl
theorem RF.at_ {w : World} {b n c : Nat} {A : Option Addr} {xs : List S82} (h : RF w b (.slice A n c) xs) (h0 : 0 < n) : ∃ g, A = some ⟨g, 0, none⟩ ∧ b ≤ g ∧ g < w.heap.size := by
  have hl := (Kd.R_reads' h).1
  obtain ⟨g, cap, he, h1, h2, _⟩ := Kd.R_form h (by omega)
  injection he with he
  exact ⟨g, he, h1, h2⟩
theorem RF.cells {w : World} {b n c g : Nat} {xs : List S82} (h : RF w b (.slice (some ⟨g, 0, none⟩) n c) xs) (i : Nat) (hi : i < n) : w.cell? ⟨g, i * 2, none⟩ = some (.int .i64 (get xs i).f0) ∧ w.cell? ⟨g, i * 2 + 1, none⟩ = some (.int .i64 (get xs i).f1) := by
  have hr := (Kd.R_reads' h)
  obtain ⟨ad, he, h0, h1⟩ := at_T82 hr.2.2 (i : Int) (by omega) (by omega)
  injection he with he
  subst he
  have e : (⟨g, 0, none⟩ : Addr).add (i * 2) = ⟨g, i * 2, none⟩ := by
    unfold Addr.add
    split <;> simp_all
  rw [Int.toNat_natCast, e] at h0 h1
  exact ⟨h0, h1⟩
theorem RF.frozen {w : World} {b n c g : Nat} {xs : List S82} (h : RF w b (.slice (some ⟨g, 0, none⟩) n c) xs) (i : Nat) : w.frozen? ⟨g, i, none⟩ = false := by
  obtain ⟨_, _, _, q, _, cells, hc⟩ := (Kd.R_bound h).1 g rfl
  exact blk_frozen hc i
theorem RF.caps {w : World} {b n c : Nat} {A : Option Addr} {xs : List S82} (h : RF w b (.slice A n c) xs) : xs.length = n ∧ n ≤ c := by
  have h2 := Kd.R_reads' h
  have h1 := h2.1
  have h3 := h2.2.1
  exact ⟨by omega, by omega⟩
/-- The store of a fold, as one step. -/
def Stored82 (o : Oper) (p v : Value) (a : Act) (W : World) (K : Act → World → Prop) (Q : Exit → Act → World → Prop) : Prop := o.upon Try.prog a K Q ((do Instr.storeAt 82 p v; pure .skip : Sem Next).run Try.prog W)
theorem stored82_at {d : Option Tmp} {x y : Operand} {t : TypeId} {ps : String} {af : Array Edge} {gd : Option (Nat × Bool)} {a : Act} {W : World} {K : Act → World → Prop} {Q : Exit → Act → World → Prop} : Oper.wp Try.prog (Oper.mk d (.store 82 x y) t ps af gd) a W K Q = Stored82 (Oper.mk d (.store 82 x y) t ps af gd) (a.eval x) (a.eval y) a W K Q := rfl
theorem RF.put {W : World} {b n c g : Nat} {xs : List S82} (h : RF W b (.slice (some ⟨g, 0, none⟩) n c) xs) (p : Nat) (hp : p < n) (y : S82) :
    ∃ W1, (∀ o a K Q, Stored82 o (.pointer (some ⟨g, p * 2, none⟩)) (.agg #[.int .i64 y.f0, .int .i64 y.f1]) a W K Q = K (a.put o.dst undef) W1) ∧ RF W1 b (.slice (some ⟨g, 0, none⟩) n c) (xs.set p y) ∧ W.grownBy W1 (some g) := by
  obtain ⟨z0, z1⟩ := h.cells p hp
  have hs := Kd.R_seg (d := k82) h (p : Int) (by omega) (by omega) (c := [.int .i64 (get xs p).f0, .int .i64 (get xs p).f1]) (seg := [.int .i64 y.f0, .int .i64 y.f1]) (j := 0) (x' := y) (okp := fun _ => False) rfl
    (by
      intro j u hj
      rw [Int.toNat_natCast]
      match j, hj with
      | 0, hj => injection hj with hj; subst hj; exact z0
      | 1, hj => injection hj with hj; subst hj; exact z1
      | j + 2, hj => simp at hj) (show 2 ≤ 2 by decide) (k82_mkM _ _ _ y) (fun _ hk => hk.elim)
  rw [Int.toNat_natCast] at hs
  refine ⟨_, ?_, hs.1, hs.2⟩
  intro o a K Q
  unfold Stored82
  have hth : W.there g (p * 2) 2 := fun j hj => by
    match j, hj with
    | 0, _ => exact ⟨by rw [Nat.add_zero, z0]; rfl, h.frozen _⟩
    | 1, _ => exact ⟨by rw [z1]; rfl, h.frozen _⟩
    | j + 2, hj => omega
  rw [Sem.run_bind, run_storeAt_mid W g (p * 2) 82 #[.int .i64 y.f0, .int .i64 y.f1] hth (by rw [info82]; rfl) (by simp [Value.oneCell'])]
  rfl
/-- Two folds change their places. -/
theorem RF.swap {W : World} {b n c g : Nat} {xs : List S82} (h : RF W b (.slice (some ⟨g, 0, none⟩) n c) xs) (p q : Nat) (hp : p < n) (hq : q < n) (hne : p ≠ q) :
    ∃ W1 W2 xs', (∀ o a K Q, Stored82 o (.pointer (some ⟨g, p * 2, none⟩)) (.agg #[.int .i64 (get xs q).f0, .int .i64 (get xs q).f1]) a W K Q = K (a.put o.dst undef) W1) ∧ (∀ o a K Q, Stored82 o (.pointer (some ⟨g, q * 2, none⟩)) (.agg #[.int .i64 (get xs p).f0, .int .i64 (get xs p).f1]) a W1 K Q = K (a.put o.dst undef) W2) ∧
      RF W2 b (.slice (some ⟨g, 0, none⟩) n c) xs' ∧ xs'.length = xs.length ∧ get xs' = swapF (get xs) p q ∧ W.grownBy W2 (some g) := by
  obtain ⟨hl, _⟩ := h.caps
  obtain ⟨W1, s1, r1, g1⟩ := h.put p hp (get xs q)
  obtain ⟨W2, s2, r2, g2⟩ := r1.put q hq (get xs p)
  exact ⟨W1, W2, _, s1, s2, r2, by rw [List.length_set, List.length_set], get_swap xs p q (by omega) (by omega) hne, g1.trans g2⟩
/-- How a row was written over. -/
structure Wr (w w' : World) (b : Nat) (v : Value) (xs xs' : List S82) : Prop where
  r : RF w' b v xs'
  len : xs'.length = xs.length
  g : w.grownBy w' v.ownBlock
theorem Wr.refl {w : World} {b : Nat} {v : Value} {xs : List S82} (h : RF w b v xs) : Wr w w b v xs xs := ⟨h, rfl, grown_of_below (Below.refl _ _) _⟩
theorem Wr.moved {w w1 w2 : World} {b : Nat} {v : Value} {xs ys : List S82} (h : Wr w w1 b v xs ys) (hb : Below w1.heap.size w1 w2) : Wr w w2 b v xs ys := ⟨Kd.R_below h.r hb, h.len, h.g.trans (grown_of_below hb _)⟩
theorem Wr.trans {w w1 w2 : World} {b : Nat} {v : Value} {xs ys zs : List S82} (h : Wr w w1 b v xs ys) (k : Wr w1 w2 b v ys zs) : Wr w w2 b v xs zs := ⟨k.r, k.len.trans h.len, h.g.trans k.g⟩
theorem Wr.swap {w W : World} {b n c g : Nat} {xs ys : List S82} (h : Wr w W b (.slice (some ⟨g, 0, none⟩) n c) xs ys) (p q : Nat) (hp : p < n) (hq : q < n) (hne : p ≠ q) :
    ∃ W1 W2 zs, (∀ o a K Q, Stored82 o (.pointer (some ⟨g, p * 2, none⟩)) (.agg #[.int .i64 (get ys q).f0, .int .i64 (get ys q).f1]) a W.drew K Q = K (a.put o.dst undef) W1) ∧ (∀ o a K Q, Stored82 o (.pointer (some ⟨g, q * 2, none⟩)) (.agg #[.int .i64 (get ys p).f0, .int .i64 (get ys p).f1]) a W1 K Q = K (a.put o.dst undef) W2) ∧
      Wr w W2 b (.slice (some ⟨g, 0, none⟩) n c) xs zs ∧ get zs = swapF (get ys) p q := by
  have h' := h.moved (below_drew (Below.refl W.heap.size W))
  obtain ⟨W1, W2, zs, s1, s2, r, hl, hg, hgr⟩ := h'.r.swap p q hp hq hne
  exact ⟨W1, W2, zs, s1, s2, ⟨r, hl.trans h.len, h'.g.trans hgr⟩, hg⟩

/-! ### the comparison -/
def cmpI (a b : S82) : Int := if a.f0 - b.f0 ≠ 0 then a.f0 - b.f0 else b.f1 - a.f1
def ltF (a b : S82) : Bool := decide (cmpI a b < 0)
theorem ltF_iff {a b : S82} : ltF a b = true ↔ a.f0 < b.f0 ∨ (a.f0 = b.f0 ∧ b.f1 < a.f1) := by
  unfold ltF cmpI
  rw [decide_eq_true_eq]
  split
  · constructor
    · intro h; left; omega
    · rintro (h | h) <;> omega
  · constructor
    · intro h; right; omega
    · rintro (h | h) <;> omega
theorem ltF_not {a b : S82} : ltF a b = false ↔ b.f0 < a.f0 ∨ (a.f0 = b.f0 ∧ a.f1 ≤ b.f1) := by
  rw [← Bool.not_eq_true, ltF_iff]
  omega
theorem ordF : Ord ltF where
  asy x y h := by
    rw [ltF_iff] at h
    rw [ltF_not]
    rcases h with h | h
    · left; omega
    · right; omega
  tr x y z h k := by
    rw [ltF_not] at h k ⊢
    rcases h with h | h <;> rcases k with k | k
    · left; omega
    · left; omega
    · left; omega
    · right; omega
/-- Rows of a text. -/
def Bd (x : S82) : Prop := (0 ≤ x.f0 ∧ x.f0 ≤ 2097152) ∧ (0 ≤ x.f1 ∧ x.f1 ≤ 2097152)
set_option maxRecDepth 100000 in
set_option maxHeartbeats 4000000 in
theorem Or_calls (g : Nat) (a b : Int) (w : World) (h0 : w.cell? ⟨g, 0, none⟩ = some (.int .i64 a)) (h1 : w.cell? ⟨g, 1, none⟩ = some (.int .i64 b)) :
    Calls Try.prog 55 #[.slice (some ⟨g, 0, none⟩) 2 2] w fun e w' => e = .returned (.int .i64 (if a ≠ 0 then a else b)) ∧ w' = w := by
  go_enter Try.func55, Try.ntmps55
  by_cases ha : a = 0
  · subst ha
    have d0 : decide ((0 : Int) = 0) = true := rfl
    by_cases hb : b = 0
    · subst hb
      go_wp2_with fail
      refine wp_loop_rounds 3 ?_
      rw [rounds_succ]
      go_wp2_with fail
      rw [rounds_succ]
      go_wp2_with fail
      rw [rounds_succ]
      go_wp2_with fail
      go_ret
      exact ⟨rfl, rfl⟩
    · have d1 : decide (b = 0) = false := decide_eq_false hb
      go_wp2_with fail
      refine wp_loop_rounds 2 ?_
      rw [rounds_succ]
      go_wp2_with fail
      rw [rounds_succ]
      go_wp2_with fail
      go_ret
      exact ⟨rfl, rfl⟩
  · have d1 : decide (a = 0) = false := decide_eq_false ha
    rw [if_pos ha]
    go_wp2_with fail
    refine wp_loop_rounds 1 ?_
    rw [rounds_succ]
    go_wp2_with fail
    go_ret
    exact ⟨rfl, rfl⟩
set_option maxRecDepth 100000 in
set_option maxHeartbeats 4000000 in
theorem less_calls (x y : S82) (w : World) (hx : Bd x) (hy : Bd y) :
    Calls Try.prog 54 #[.agg #[.int .i64 x.f0, .int .i64 x.f1], .agg #[.int .i64 y.f0, .int .i64 y.f1]] w fun e w' => e = .returned (.int .i64 (cmpI x y)) ∧ Below w.heap.size w w' := by
  obtain ⟨⟨x0, x1⟩, x2, x3⟩ := hx
  obtain ⟨⟨y0, y1⟩, y2, y3⟩ := hy
  have e1 : IntKind.i64.wrap (x.f0 - y.f0) = x.f0 - y.f0 := (i64_w _).trans (w64 (by omega) (by omega))
  have e2 : IntKind.i64.wrap (y.f1 - x.f1) = y.f1 - x.f1 := (i64_w _).trans (w64 (by omega) (by omega))
  clear x0 x1 x2 x3 y0 y1 y2 y3
  obtain ⟨oA, hoA⟩ : ∃ o : Obj, o = .cells #[.int .i64 x.f0, .int .i64 x.f1] 82 (0, 0) := ⟨_, rfl⟩
  obtain ⟨oB, hoB⟩ : ∃ o : Obj, o = .cells #[.int .i64 y.f0, .int .i64 y.f1] 82 (0, 0) := ⟨_, rfl⟩
  have hb3 : Below w.heap.size w ((w.alloc oA).alloc oB) := below_alloc (below_alloc (Below.refl _ _) _) _
  have kA := (al0 w oA oB).trans (congrArg some hoA)
  have kB := (al1 w oA oB).trans (congrArg some hoB)
  have HB := Aside0.mk hb3
  have KA := Aside0.mk kA
  have KB := Aside0.mk kB
  clear kA kB hb3
  go_enter Try.func54, Try.ntmps54
  go_upto_region 1 with fail
  rw [← hoA, ← hoB]
  clear hoA hoB
  obtain ⟨gA, hgA⟩ : ∃ g, w.heap.size = g := ⟨_, rfl⟩
  generalize (w.alloc oA).alloc oB = w3 at HB KA KB ⊢
  rw [hgA] at KA KB ⊢
  clear hgA
  have p0 : w3.cell? ⟨gA, 0, none⟩ = some (.int .i64 x.f0) := (blk_cell KA.out 0).trans rfl
  have p1 : w3.cell? ⟨gA, 1, none⟩ = some (.int .i64 x.f1) := (blk_cell KA.out 1).trans rfl
  have q0 : w3.cell? ⟨gA + 1, 0, none⟩ = some (.int .i64 y.f0) := (blk_cell KB.out 0).trans rfl
  have q1 : w3.cell? ⟨gA + 1, 1, none⟩ = some (.int .i64 y.f1) := (blk_cell KB.out 1).trans rfl
  obtain ⟨oS, hoS⟩ : ∃ o : Obj, o = .cells #[.int .i64 (x.f0 - y.f0), .int .i64 (y.f1 - x.f1)] 3 (0, 0) := ⟨_, rfl⟩
  have hb4 : Below w3.heap.size w3 (w3.alloc oS) := below_alloc (Below.refl _ _) _
  have KS := Aside0.mk ((heap_alloc_new w3 oS).trans (congrArg some hoS))
  have HB4 := Aside0.mk (below_then HB.out HB.out.size hb4)
  clear hb4
  go_wp2_with fail
  rw [← hoS]
  refine (Or_calls w3.heap.size (x.f0 - y.f0) (y.f1 - x.f1) (w3.alloc oS) ((blk_cell KS.out 0).trans rfl) ((blk_cell KS.out 1).trans rfl)).mono ?_
  rintro e w5 ⟨rfl, rfl⟩
  obtain ⟨r, hr⟩ : ∃ r, cmpI x y = r := ⟨_, rfl⟩
  have hr2 : (if x.f0 - y.f0 ≠ 0 then x.f0 - y.f0 else y.f1 - x.f1) = r := hr
  rw [hr2]
  have HR := Aside0.mk hr
  clear hr2 hr hoS p0 p1 q0 q1 e1 e2
  go_wp2_with fail
  go_ret
  exact ⟨by rw [HR.out]; rfl, HB4.out⟩
theorem less_at (x y : S82) (q : Int) (w : World) (hq : cmpI x y = q) (hx : Bd x) (hy : Bd y) :
    Calls Try.prog 54 #[.agg #[.int .i64 x.f0, .int .i64 x.f1], .agg #[.int .i64 y.f0, .int .i64 y.f1]] w fun e w' => e = .returned (.int .i64 q) ∧ Below w.heap.size w w' := by
  subst hq
  exact less_calls x y w hx hy
attribute [local go_sem ↓] stored82_at
set_option maxRecDepth 100000 in
set_option maxHeartbeats 8000000 in
theorem swapRange_calls (A : Option Addr) (n c a b m : Nat) (xs : List S82) (vc : Value) (w : World) (base : Nat) (hr : RF w base (.slice A n c) xs) (hn : n ≤ 1048577) (hab : a + m ≤ b) (hbn : b + m ≤ n) :
    Calls Try.prog 97 #[.slice A n c, .int .i64 (a : Int), .int .i64 (b : Int), .int .i64 (m : Int), vc] w fun e w' => e = .returned (.tuple #[]) ∧ ∃ ys, Wr w w' base (.slice A n c) xs ys ∧ get ys = swapR (get xs) a b m := by
  have HW0 := Aside0.mk (Wr.refl hr)
  have HP := Aside0.mk (And.intro hn (And.intro hab hbn))
  clear hr hn hab hbn
  go_enter Try.func97, Try.ntmps97
  go_wp2_with fail
  go_loopw [10] (fun v10 wr => ∃ (i : Nat) (ys : List S82), v10 = .int .i64 (i : Int) ∧ i ≤ m ∧ Aside0 (Wr w wr base (.slice A n c) xs ys) ∧ Aside0 (get ys = swapR (get xs) a b i)) (fun v10 _ => m - (intOf v10).toNat)
  case atStart => exact ⟨0, xs, rfl, Nat.zero_le _, HW0, ⟨(swapR_zero _ _ _).symm⟩⟩
  case round =>
    obtain ⟨i, ys, rfl, hi, HWr, HG⟩ := hrel
    clear HW0
    by_cases hlt : i < m
    · obtain ⟨hn, hab, hbn⟩ := HP.out
      have hcap := HWr.out.r.caps
      obtain ⟨g, rfl, -⟩ := HWr.out.r.at_ (by omega)
      have e1 : decide ((i : Int) < (m : Int)) = true := decide_eq_true (by omega)
      have e2 : decide (i < m) = true := decide_eq_true hlt
      obtain ⟨p, hp⟩ : ∃ p, a + i = p := ⟨_, rfl⟩
      obtain ⟨q, hq⟩ : ∃ q, b + i = q := ⟨_, rfl⟩
      have e3 : IntKind.i64.wrap ((a : Int) + (i : Int)) = (p : Int) := (i64_w _).trans ((w64 (by omega) (by omega)).trans (by omega))
      have e4 : IntKind.i64.wrap ((b : Int) + (i : Int)) = (q : Int) := (i64_w _).trans ((w64 (by omega) (by omega)).trans (by omega))
      have e5 : IntKind.i64.wrap ((i : Int) + 1) = (i : Int) + 1 := (i64_w _).trans (w64 (by omega) (by omega))
      have e6 : (p : Int) < (n : Int) := by omega
      have e7 : (q : Int) < (n : Int) := by omega
      obtain ⟨p0, p1⟩ := HWr.out.r.cells p (by omega)
      obtain ⟨q0, q1⟩ := HWr.out.r.cells q (by omega)
      obtain ⟨W1, W2, zs, s1, s2, hW, hg⟩ := HWr.out.swap p q (by omega) (by omega) (by omega)
      have HG2 : Aside0 (get zs = swapR (get xs) a b (i + 1)) := ⟨by rw [hg, HG.out, swapR_succ _ (by omega), hp, hq]⟩
      have HW2 := Aside0.mk hW
      have HLT := Aside0.mk hlt
      obtain ⟨X, hX⟩ : ∃ X, get ys p = X := ⟨_, rfl⟩
      obtain ⟨Y, hY⟩ : ∃ Y, get ys q = Y := ⟨_, rfl⟩
      rw [hX] at p0 p1 s2
      rw [hY] at q0 q1 s1
      clear hi hlt hn hab hbn hcap hp hq hg hW hX hY HG HWr
      go_upto_region 3 with fail
      go_region_law (fail)
      all_goals
       (go_wp2_with fail
        go_roundw
        case measure => first | omega | (simp [intOf]; have := HLT.out; omega)
        case rel => exact ⟨i + 1, zs, by congr 1, by have := HLT.out; omega, HW2, HG2⟩)
    · obtain rfl : i = m := by omega
      clear hlt hi
      go_wp2_with fail
      go_end0
      exact ⟨rfl, ys, HWr.out, HG.out⟩
set_option maxRecDepth 100000 in
set_option maxHeartbeats 8000000 in
theorem rotate_calls (A : Option Addr) (n c a m b : Nat) (xs : List S82) (vc : Value) (w : World) (base : Nat) (hr : RF w base (.slice A n c) xs) (hn : n ≤ 1048577) (ham : a < m) (hmb : m < b) (hbn : b ≤ n) :
    Calls Try.prog 95 #[.slice A n c, .int .i64 (a : Int), .int .i64 (m : Int), .int .i64 (b : Int), vc] w fun e w' => e = .returned (.tuple #[]) ∧ ∃ ys, Wr w w' base (.slice A n c) xs ys ∧ get ys = rotF (get xs) a m b := by
  obtain ⟨i0, hi0⟩ : ∃ i, m - a = i := ⟨_, rfl⟩
  obtain ⟨j0, hj0⟩ : ∃ j, b - m = j := ⟨_, rfl⟩
  have e1 : IntKind.i64.wrap ((m : Int) - (a : Int)) = (i0 : Int) := (i64_w _).trans ((w64 (by omega) (by omega)).trans (by omega))
  have e2 : IntKind.i64.wrap ((b : Int) - (m : Int)) = (j0 : Int) := (i64_w _).trans ((w64 (by omega) (by omega)).trans (by omega))
  have HW0 := Aside0.mk (Wr.refl hr)
  have HP := Aside0.mk (And.intro hn (And.intro ham (And.intro hmb (And.intro hbn (And.intro hi0 hj0)))))
  clear hr hn ham hmb hbn hi0 hj0
  go_enter Try.func95, Try.ntmps95
  go_wp2_with fail
  go_loopw [10, 11] (fun v10 v11 wr => ∃ (i j : Nat) (ys : List S82), v10 = .int .i64 (i : Int) ∧ v11 = .int .i64 (j : Int) ∧ Aside0 (1 ≤ i ∧ 1 ≤ j ∧ i ≤ m ∧ m + j ≤ n) ∧ Aside0 (Wr w wr base (.slice A n c) xs ys) ∧ Aside0 (rotF (get ys) (m - i) m (m + j) = rotF (get xs) a m b)) (fun v10 v11 _ => (intOf v10).toNat + (intOf v11).toNat)
  case atStart => exact ⟨i0, j0, xs, rfl, rfl, ⟨by have := HP.out; omega⟩, HW0, ⟨by have := HP.out; rw [show m - i0 = a by omega, show m + j0 = b by omega]⟩⟩
  case round =>
    obtain ⟨i, j, ys, rfl, rfl, HIJ, HWr, HG⟩ := hrel
    clear HW0 e1 e2
    obtain ⟨h1, h2, h3, h4⟩ := HIJ.out
    have hn := HP.out.1
    obtain ⟨p, hp⟩ : ∃ p, m - i = p := ⟨_, rfl⟩
    have e3 : IntKind.i64.wrap ((m : Int) - (i : Int)) = (p : Int) := (i64_w _).trans ((w64 (by omega) (by omega)).trans (by omega))
    have HPP := Aside0.mk hp
    by_cases heq : i = j
    · have e5 : decide ((i : Int) = (j : Int)) = true := decide_eq_true (by omega)
      have e6 : decide (i = j) = true := decide_eq_true heq
      subst heq
      clear hn h1 h2 h3 h4 hp
      go_wp2_with fail
      refine (swapRange_calls A n c p m i ys vc wr base HWr.out.r HP.out.1 (by have := HPP.out; have := HIJ.out; omega) (by have := HIJ.out; omega)).mono ?_
      rintro e w2 ⟨rfl, zs, hW, hg⟩
      have HW2 := Aside0.mk (HWr.out.trans hW)
      have HG2 : Aside0 (get zs = rotF (get xs) a m b) := ⟨by rw [hg, ← HG.out, ← HPP.out, rot_eq _ (by have := HIJ.out; omega)]⟩
      clear hW hg
      go_wp2_with fail
      go_end0
      exact ⟨rfl, zs, HW2.out, HG2.out⟩
    · have e5 : decide ((i : Int) = (j : Int)) = false := decide_eq_false (by omega)
      have e6 : decide (i = j) = false := decide_eq_false heq
      have e6b : ((i : Int) != (j : Int)) = true := bne_iff_ne.2 (by omega)
      have e6c : (i != j) = true := bne_iff_ne.2 heq
      have e6d : ¬ ((i : Int) = (j : Int)) := by omega
      by_cases hgt : j < i
      · have e7 : decide ((j : Int) < (i : Int)) = true := decide_eq_true (by omega)
        have e8 : decide (j < i) = true := decide_eq_true hgt
        obtain ⟨k, hk⟩ : ∃ k, i - j = k := ⟨_, rfl⟩
        have e9 : IntKind.i64.wrap ((i : Int) - (j : Int)) = (k : Int) := (i64_w _).trans ((w64 (by omega) (by omega)).trans (by omega))
        have HK := Aside0.mk (And.intro hk hgt)
        clear hn h1 h2 h3 h4 hp hk hgt heq
        go_wp2_with fail
        refine (swapRange_calls A n c p m j ys vc wr base HWr.out.r HP.out.1 (by have := HPP.out; have := HIJ.out; have := HK.out; omega) (by have := HIJ.out; omega)).mono ?_
        rintro e w2 ⟨rfl, zs, hW, hg⟩
        have HW2 := Aside0.mk (HWr.out.trans hW)
        have HG2 : Aside0 (rotF (get zs) (m - k) m (m + j) = rotF (get xs) a m b) := ⟨by rw [hg, ← HG.out, ← HPP.out, ← HK.out.1]; exact rot_gt _ HK.out.2 (by have := HIJ.out; omega)⟩
        clear hW hg
        go_wp2_with fail
        go_roundw
        case measure => first | (have := HK.out; have := HIJ.out; omega) | (simp [intOf]; have := HK.out; have := HIJ.out; omega)
        case rel => exact ⟨k, j, zs, rfl, rfl, ⟨by have := HK.out; have := HIJ.out; omega⟩, HW2, HG2⟩
      · have e7 : decide ((j : Int) < (i : Int)) = false := decide_eq_false (by omega)
        have e8 : decide (j < i) = false := decide_eq_false hgt
        obtain ⟨k, hk⟩ : ∃ k, j - i = k := ⟨_, rfl⟩
        obtain ⟨s, hs⟩ : ∃ s, m + j = s := ⟨_, rfl⟩
        obtain ⟨q, hq⟩ : ∃ q, m + j - i = q := ⟨_, rfl⟩
        have e9 : IntKind.i64.wrap ((j : Int) - (i : Int)) = (k : Int) := (i64_w _).trans ((w64 (by omega) (by omega)).trans (by omega))
        have e10 : IntKind.i64.wrap ((m : Int) + (j : Int)) = (s : Int) := (i64_w _).trans ((w64 (by omega) (by omega)).trans (by omega))
        have e11 : IntKind.i64.wrap ((s : Int) - (i : Int)) = (q : Int) := (i64_w _).trans ((w64 (by omega) (by omega)).trans (by omega))
        have HK := Aside0.mk (And.intro hk (And.intro hq (show i < j by omega)))
        clear hn h1 h2 h3 h4 hp hk hgt heq hs hq
        go_wp2_with fail
        refine (swapRange_calls A n c p q i ys vc wr base HWr.out.r HP.out.1 (by have := HPP.out; have := HIJ.out; have := HK.out; omega) (by have := HIJ.out; have := HK.out; omega)).mono ?_
        rintro e w2 ⟨rfl, zs, hW, hg⟩
        have HW2 := Aside0.mk (HWr.out.trans hW)
        have HG2 : Aside0 (rotF (get zs) (m - i) m (m + k) = rotF (get xs) a m b) := ⟨by rw [hg, ← HG.out, ← HPP.out, ← HK.out.1, ← HK.out.2.1]; exact rot_lt _ HK.out.2.2 (by have := HIJ.out; omega)⟩
        clear hW hg
        go_wp2_with fail
        go_roundw
        case measure => first | (have := HK.out; have := HIJ.out; omega) | (simp [intOf]; have := HK.out; have := HIJ.out; omega)
        case rel => exact ⟨i, k, zs, rfl, rfl, ⟨by have := HK.out; have := HIJ.out; omega⟩, HW2, HG2⟩
set_option maxRecDepth 100000 in
set_option maxHeartbeats 8000000 in
theorem ins_calls (A : Option Addr) (n c a b : Nat) (xs : List S82) (w : World) (base : Nat) (hr : RF w base (.slice A n c) xs) (hn : n ≤ 1048577) (hab : a ≤ b) (hbn : b ≤ n) (bd : ∀ k, Bd (get xs k)) :
    Calls Try.prog 87 #[.slice A n c, .int .i64 (a : Int), .int .i64 (b : Int), .func (.func 54) #[] #[]] w fun e w' => e = .returned (.tuple #[]) ∧ ∃ ys, Wr w w' base (.slice A n c) xs ys ∧ Same a b (get xs) (get ys) ∧ Srt ltF a b (get ys) := by
  have e0 : IntKind.i64.wrap ((a : Int) + 1) = ((a + 1 : Nat) : Int) := (i64_w _).trans ((w64 (by omega) (by omega)).trans (by omega))
  have HW0 := Aside0.mk (Wr.refl hr)
  have HP := Aside0.mk (And.intro hn (And.intro hab hbn))
  have HBD := Aside0.mk bd
  clear hr hn hab hbn bd
  obtain ⟨a1, ha1⟩ : ∃ k, a + 1 = k := ⟨_, rfl⟩
  rw [ha1] at e0
  have HA1 := Aside0.mk ha1
  clear ha1
  go_enter Try.func87, Try.ntmps87
  go_wp2_with fail
  go_loopw [8, 9] (fun v8 v9 wr => ∃ (i : Nat) (ys : List S82), v8 = .int .i64 (i : Int) ∧ Aside0 (a + 1 ≤ i ∧ (i ≤ b ∨ i = a + 1)) ∧ Aside0 (Wr w wr base (.slice A n c) xs ys) ∧ Aside0 (Same a b (get xs) (get ys) ∧ Srt ltF a i (get ys))) (fun v8 _ _ => b - (intOf v8).toNat)
  case atStart => exact ⟨a1, xs, rfl, ⟨by have := HA1.out; omega⟩, HW0, ⟨Same.refl _ _ _, Srt.small (by have := HA1.out; omega)⟩⟩
  case round =>
    obtain ⟨i, ys, rfl, HI, HWr, HG⟩ := hrel
    clear HW0 e0
    by_cases hlt : i < b
    · have e1 : decide ((i : Int) < (b : Int)) = true := decide_eq_true (by omega)
      have e2 : decide (i < b) = true := decide_eq_true hlt
      have hn := HP.out
      have e5 : IntKind.i64.wrap ((i : Int) + 1) = (i : Int) + 1 := (i64_w _).trans (w64 (by omega) (by omega))
      have HLT := Aside0.mk hlt
      clear hlt hn
      go_wp2_with fail
      go_loopw [9] (fun v9 wr2 => ∃ (j : Nat) (zs : List S82), v9 = .int .i64 (j : Int) ∧ Aside0 (a ≤ j ∧ j ≤ i) ∧ Aside0 (Wr w wr2 base (.slice A n c) xs zs) ∧ Aside0 (get zs = rotF (get ys) j i (i + 1) ∧ (j = i ∨ ltF (get ys i) (get ys j) = true))) (fun v9 _ => (intOf v9).toNat)
      case atStart => exact ⟨i, ys, rfl, ⟨by have := HI.out; omega⟩, HWr, ⟨(rot_left _ _ _).symm, .inl rfl⟩⟩
      case round =>
        obtain ⟨j, zs, rfl, HJ, HZ, HR⟩ := hrel
        clear HWr
        have hj := HJ.out
        have hi := HLT.out
        have hn := HP.out
        have insd : (j = a ∨ ltF (get ys i) (get ys (j - 1)) = false) → Same a b (get xs) (get zs) ∧ Srt ltF a (i + 1) (get zs) := fun hs => by
          rw [HR.out.1]
          exact ⟨HG.out.1.trans ((rot_same _ hj.2 (by omega)).widen hj.1 (by omega)), Srt.insert ordF HG.out.2 hj.1 hj.2 hs HR.out.2⟩
        by_cases hja : j = a
        · have d1 : decide ((a : Int) < (j : Int)) = false := decide_eq_false (by omega)
          have d2 : decide (a < j) = false := decide_eq_false (by omega)
          have HI2 := Aside0.mk (insd (.inl hja))
          clear insd hja hn hj hi
          go_upto_region 4 with fail
          go_quiet (fail)
          have HZ2 := Aside0.mk (HZ.out.moved (pw_below_drewN (Below.refl wr.heap.size wr) nq))
          go_wp2_with fail
          go_roundw
          case measure => first | (have := HLT.out; omega) | (simp [intOf]; have := HLT.out; omega)
          case rel => exact ⟨i + 1, zs, by congr 1, ⟨by have := HI.out; have := HLT.out; omega⟩, HZ2, HI2⟩
        · have d1 : decide ((a : Int) < (j : Int)) = true := decide_eq_true (by omega)
          have d2 : decide (a < j) = true := decide_eq_true (by omega)
          have hcap := HZ.out.r.caps
          obtain ⟨g, rfl, -⟩ := HZ.out.r.at_ (by omega)
          obtain ⟨k, hk⟩ : ∃ k, j - 1 = k := ⟨_, rfl⟩
          have e6 : IntKind.i64.wrap ((j : Int) - 1) = (k : Int) := (i64_w _).trans ((w64 (by omega) (by omega)).trans (by omega))
          have e7 : (j : Int) < (n : Int) := by omega
          have e8 : (k : Int) < (n : Int) := by omega
          obtain ⟨p0, p1⟩ := HZ.out.r.cells j (by omega)
          obtain ⟨q0, q1⟩ := HZ.out.r.cells k (by omega)
          have gX : get zs j = get ys i := by
            rw [HR.out.1]
            unfold rotF
            rw [if_pos (by omega)]
            congr 1; omega
          have gY : get zs k = get ys k := by
            rw [HR.out.1]
            unfold rotF
            rw [if_neg (by omega), if_neg (by omega)]
          have hbz : ∀ x, Bd (get zs x) := fun x => by
            rw [HR.out.1]
            unfold rotF
            have hS := HG.out.1
            have hB : ∀ y, Bd (get ys y) := fun y => by
              by_cases hy : a ≤ y ∧ y < b
              · obtain ⟨u, -, -, hu⟩ := hS.to y hy.1 hy.2
                rw [hu]
                exact HBD.out u
              · rw [hS.out y hy]
                exact HBD.out y
            split
            · exact hB _
            · split
              · exact hB _
              · exact hB _
          obtain ⟨X, hX⟩ : ∃ X, get zs j = X := ⟨_, rfl⟩
          obtain ⟨Y, hY⟩ : ∃ Y, get zs k = Y := ⟨_, rfl⟩
          have HBX := Aside0.mk (hX ▸ hbz j)
          have HBY := Aside0.mk (hY ▸ hbz k)
          have HXY := Aside0.mk (And.intro hX hY)
          have HEX := Aside0.mk (And.intro (gX.symm.trans hX) (gY.symm.trans hY))
          have HK := Aside0.mk (And.intro hk (And.intro hj (show ¬ j = a from hja)))
          have HIN : Aside0 (ltF X Y = false → Same a b (get xs) (get zs) ∧ Srt ltF a (i + 1) (get zs)) := ⟨fun h => insd (.inr (by rw [hk, ← gY, hY, ← gX, hX]; exact h))⟩
          rw [hX] at p0 p1
          rw [hY] at q0 q1
          obtain ⟨r, hr⟩ : ∃ r, cmpI X Y = r := ⟨_, rfl⟩
          have HCR := Aside0.mk hr
          clear insd hja hn hj hi hcap hk gX gY hbz hX hY
          have f1 : ltF X Y = decide (r < 0) := by unfold ltF; rw [hr]
          clear hr
          cases hq : decide (r < 0) with
          | false =>
            rw [hq] at f1
            have HI2 := Aside0.mk (HIN.out f1)
            clear f1 HIN
            go_upto_region 4 with fail
            go_region_held3 (fun w' => w'.cell? ⟨g, j * 2, none⟩ = some (.int .i64 X.f0) ∧ w'.cell? ⟨g, j * 2 + 1, none⟩ = some (.int .i64 X.f1) ∧ w'.cell? ⟨g, k * 2, none⟩ = some (.int .i64 Y.f0) ∧ w'.cell? ⟨g, k * 2 + 1, none⟩ = some (.int .i64 Y.f1))
              (first | exact ⟨by assumption, by assumption, by assumption, by assumption⟩ | go_keep)
              (first
                | (go_at_call 54
                   refine (less_at X Y r _ HCR.out HBX.out HBY.out).mono ?_
                   rintro e w2 ⟨rfl, hB0⟩
                   have hB : Below wr.heap.size wr w2 := Below.trans (below_drew (Below.refl _ _)) hB0
                   have HZ2 := Aside0.mk (HZ.out.moved hB)
                   obtain ⟨t0, t1⟩ := HZ2.out.r.cells j (by have := HZ2.out.r.caps; have := HK.out; have := HP.out; have := HLT.out; omega)
                   obtain ⟨s0, s1⟩ := HZ2.out.r.cells k (by have := HZ2.out.r.caps; have := HK.out; have := HP.out; have := HLT.out; omega)
                   rw [HXY.out.1] at t0 t1
                   rw [HXY.out.2] at s0 s1
                   clear hB hB0))
            all_goals
             (go_wp2_with fail
              go_roundw
              case measure => first | (have := HLT.out; omega) | (simp [intOf]; have := HLT.out; omega)
              case rel => exact ⟨i + 1, zs, by congr 1, ⟨by have := HI.out; have := HLT.out; omega⟩, HZ2, HI2⟩)
          | true =>
            rw [hq] at f1
            have HIT := Aside0.mk f1
            clear f1 HIN
            go_upto_region 4 with fail
            go_region_held3 (fun w' => w'.cell? ⟨g, j * 2, none⟩ = some (.int .i64 X.f0) ∧ w'.cell? ⟨g, j * 2 + 1, none⟩ = some (.int .i64 X.f1) ∧ w'.cell? ⟨g, k * 2, none⟩ = some (.int .i64 Y.f0) ∧ w'.cell? ⟨g, k * 2 + 1, none⟩ = some (.int .i64 Y.f1))
              (first | exact ⟨by assumption, by assumption, by assumption, by assumption⟩ | go_keep)
              (first
                | (go_at_call 54
                   refine (less_at X Y r _ HCR.out HBX.out HBY.out).mono ?_
                   rintro e w2 ⟨rfl, hB0⟩
                   have hB : Below wr.heap.size wr w2 := Below.trans (below_drew (Below.refl _ _)) hB0
                   have HZ2 := Aside0.mk (HZ.out.moved hB)
                   obtain ⟨t0, t1⟩ := HZ2.out.r.cells j (by have := HZ2.out.r.caps; have := HK.out; have := HP.out; have := HLT.out; omega)
                   obtain ⟨s0, s1⟩ := HZ2.out.r.cells k (by have := HZ2.out.r.caps; have := HK.out; have := HP.out; have := HLT.out; omega)
                   rw [HXY.out.1] at t0 t1
                   rw [HXY.out.2] at s0 s1
                   clear hB hB0))
            all_goals
             (clear p0 p1 q0 q1
              obtain ⟨W1, W2, us, st1, st2, hW, hg⟩ := HZ2.out.swap j k (by have := HZ2.out.r.caps; have := HK.out; have := HP.out; have := HLT.out; omega) (by have := HZ2.out.r.caps; have := HK.out; have := HP.out; have := HLT.out; omega) (by have := HK.out; omega)
              have HG2 : Aside0 (get us = rotF (get ys) k i (i + 1) ∧ (k = i ∨ ltF (get ys i) (get ys k) = true)) := ⟨by
                have hk := HK.out
                refine ⟨?_, .inr (by rw [HEX.out.1, HEX.out.2]; exact HIT.out)⟩
                rw [hg, HR.out.1, rot_down _ (show k + 1 ≤ i by omega), show k + 1 = j by omega]⟩
              have HW2 := Aside0.mk hW
              rw [HXY.out.1] at st2
              rw [HXY.out.2] at st1
              clear hW hg
              go_upto_region 6 with fail
              go_region_law (fail)
              all_goals
               (go_wp2_with fail
                go_roundw
                case measure => first | (have := HK.out; omega) | (simp [intOf]; have := HK.out; omega)
                case rel => exact ⟨k, us, by congr 1, ⟨by have := HK.out; omega⟩, HW2, HG2⟩))
    · have hx := HG.out
      have HS := Aside0.mk (And.intro hx.1 (hx.2.sub (Nat.le_refl a) (show b ≤ i by omega)))
      have e1 : decide ((i : Int) < (b : Int)) = false := decide_eq_false (by omega)
      have e2 : decide (i < b) = false := decide_eq_false hlt
      clear hx hlt
      go_wp2_with fail
      go_end0
      exact ⟨rfl, ys, HWr.out, HS.out⟩
end Go.Proofs.Ytknagjiipelfnaa.SO
