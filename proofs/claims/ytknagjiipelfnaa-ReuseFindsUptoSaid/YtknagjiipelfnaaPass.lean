/- reuse.New in plain Lean: what is put at each place; one append to the map of rows. -/
import Derived.Test.YtknagjiipelfnaaGroups
namespace Go.Proofs.Ytknagjiipelfnaa.RU
open Go.RowKit Go.WideShapes Go.ChangeShapes Go.Proofs.YtknagjiipelfnaaW.PrintWords Go.Proofs.YtknagjiipelfnaaW.PrintLast Go.Proofs.YtknagjiipelfnaaW.PrintMore Go.Proofs.Ytknagjiipelfnaa.PAll
set_option linter.unusedVariables false

/-- at each place what stands there of the first leaves -/
def gAt (ls : List S68) (a d s : Int) : Nat → Int → List St
  | 0 => fun _ => []
  | k + 1 => fun p => gAt ls a d s k p ++ (if thereB ls a d s p k = true then [(aheadS ls k, rd_T68 ls (k : Int))] else [])
theorem gAt_succ (ls : List S68) (a d s : Int) (k : Nat) (p : Int) : gAt ls a d s (k + 1) p = gAt ls a d s k p ++ (if thereB ls a d s p k = true then [(aheadS ls k, rd_T68 ls (k : Int))] else []) := rfl
theorem gAt_len (ls : List S68) (a d s : Int) : ∀ (k : Nat) (p : Int), (gAt ls a d s k p).length ≤ k := by
  intro k
  induction k with
  | zero => intro p; exact Nat.le_refl _
  | succ k ih =>
    intro p
    rw [gAt, List.length_append]
    have := ih p
    split
    · rw [List.length_singleton]; omega
    · rw [List.length_nil]; omega
theorem thereB_eq (ls : List S68) (a d s p : Int) (k : Nat) {st mv : Bool} {f m : Int} (h1 : stayB ls a k = st) (h2 : moveB ls a d k = mv) (h3 : begN ls k = f) (h4 : f - d + s = m) : thereB ls a d s p k = ((st && eqI f p) || (mv && eqI m p)) := by
  unfold thereB
  rw [h1, h2, h3, h4]
theorem eqI_ne {x y : Int} (h : x ≠ y) : eqI x y = false := decide_eq_false h
theorem eqI_self (x : Int) : eqI x x = true := decide_eq_true rfl
theorem gAt_no (ls : List S68) (a d s : Int) (k : Nat) (h1 : stayB ls a k = false) (h2 : moveB ls a d k = false) : gAt ls a d s (k + 1) = gAt ls a d s k := by
  funext p
  rw [gAt_succ, thereB_eq ls a d s p k h1 h2 rfl rfl]
  simp
theorem gAt_stay (ls : List S68) (a d s : Int) (k : Nat) {f : Int} (hf : begN ls k = f) (h1 : stayB ls a k = true) (h2 : moveB ls a d k = false) : gAt ls a d s (k + 1) = putG (gAt ls a d s k) f (gAt ls a d s k f ++ [(aheadS ls k, rd_T68 ls (k : Int))]) := by
  funext p
  unfold putG
  rw [gAt_succ, thereB_eq ls a d s p k h1 h2 hf rfl]
  by_cases e : p = f
  · subst e
    rw [if_pos rfl, eqI_self]
    simp
  · rw [if_neg e, eqI_ne (fun h => e h.symm)]
    simp
theorem gAt_move (ls : List S68) (a d s : Int) (k : Nat) {f m : Int} (hf : begN ls k = f) (hm : f - d + s = m) (h1 : stayB ls a k = false) (h2 : moveB ls a d k = true) : gAt ls a d s (k + 1) = putG (gAt ls a d s k) m (gAt ls a d s k m ++ [(aheadS ls k, rd_T68 ls (k : Int))]) := by
  funext p
  unfold putG
  rw [gAt_succ, thereB_eq ls a d s p k h1 h2 hf hm]
  by_cases e : p = m
  · subst e
    rw [if_pos rfl, eqI_self]
    simp
  · rw [if_neg e, eqI_ne (fun h => e h.symm)]
    simp
theorem gAt_both (ls : List S68) (a d s : Int) (k : Nat) {f m : Int} (hf : begN ls k = f) (hm : f - d + s = m) (h1 : stayB ls a k = true) (h2 : moveB ls a d k = true) (hne : m ≠ f) :
    gAt ls a d s (k + 1) = putG (putG (gAt ls a d s k) f (gAt ls a d s k f ++ [(aheadS ls k, rd_T68 ls (k : Int))])) m (gAt ls a d s k m ++ [(aheadS ls k, rd_T68 ls (k : Int))]) := by
  funext p
  unfold putG
  rw [gAt_succ, thereB_eq ls a d s p k h1 h2 hf hm]
  by_cases e : p = m
  · subst e
    rw [if_pos rfl, eqI_self]
    simp
  · rw [if_neg e]
    by_cases e2 : p = f
    · subst e2
      rw [if_pos rfl, eqI_self]
      simp
    · rw [if_neg e2, eqI_ne (fun h => e h.symm), eqI_ne (fun h => e2 h.symm)]
      simp
theorem gAt_same (ls : List S68) (a d s : Int) (k : Nat) {f m : Int} (hf : begN ls k = f) (hm : f - d + s = m) (h1 : stayB ls a k = true) (h2 : moveB ls a d k = true) (he : m = f) : gAt ls a d s (k + 1) = putG (gAt ls a d s k) f (gAt ls a d s k f ++ [(aheadS ls k, rd_T68 ls (k : Int))]) := by
  funext p
  unfold putG
  rw [gAt_succ, thereB_eq ls a d s p k h1 h2 hf hm, he]
  by_cases e : p = f
  · subst e
    rw [if_pos rfl, eqI_self]
    simp
  · rw [if_neg e, eqI_ne (fun h => e h.symm)]
    simp
theorem i64_wf {p : Int} (h0 : -9223372036854775808 ≤ p) (h1 : p ≤ 9223372036854775807) : (Lit.int .i64 p).wf = true := by
  simp only [Lit.wf, Bool.and_eq_true, decide_eq_true_eq]
  exact ⟨h0, h1⟩
abbrev oC (gm : Nat) (cnt : Int) : Obj := .cells #[.map (some gm), .int .i64 cnt] 98 (0, 0)
abbrev sC (x : St) : Obj := .cells #[.string x.1, .int .i64 x.2.f0, .int .i64 x.2.f1, .int .i64 x.2.f2, .int .i64 x.2.f3, .int .u64 x.2.f4, .string x.2.f5] 109 (0, 0)
/-- what reuse.New hands back -/
structure OldS (w : World) (g gm : Nat) (vs : Int → Value) (G : Int → List St) (cnt : Int) : Prop where
  k : w.heap[g]? = some (oC gm cnt)
  m : ∃ n base, Grp w gm n base vs G
theorem OldS.moved {w w1 : World} {g gm : Nat} {vs : Int → Value} {G : Int → List St} {cnt : Int} (h : OldS w g gm vs G cnt) (hb : Below w.heap.size w w1) : OldS w1 g gm vs G cnt := by
  obtain ⟨n, base, hm⟩ := h.m
  exact ⟨(hb.block _ (blk_lt h.k)).trans h.k, n, base, hm.below hb⟩
theorem eClamp_calls (n e d : Int) (s : ByteArray) (w : World) (h0 : 0 ≤ n) (h1 : n ≤ 1048576) : Calls Try.prog 41 #[.int .i64 n, .agg #[.int .i64 e, .int .i64 d, .string s]] w fun ee w' => ee = .returned (.agg #[.int .i64 (atC n e), .int .i64 (delC n e d), .string s]) ∧ Below w.heap.size w w' :=
  edit_Clamp.calls n e d s _ _ _ w (eclamp_f n e d s h0 h1)
theorem blk_map {w w1 : World} {g gm : Nat} {ob : Obj} (h : w.heap[g]? = some ob) (hg : w.grownBy w1 (some gm)) (hne : g ≠ gm) : w1.heap[g]? = some ob := (hg.block g (blk_lt h) (fun e => hne (by injection e))).trans h
theorem blk_row {w w1 : World} {g : Nat} {ob : Obj} {row : Option Nat} (h : w.heap[g]? = some ob) (hg : w.grownBy w1 row) (hne : some g ≠ row) : w1.heap[g]? = some ob := (hg.block g (blk_lt h) hne).trans h
theorem grown_set (w : World) (g k : Nat) (v : Value) : w.grownBy (w.setCell ⟨g, k, none⟩ v) (some g) := ⟨rfl, rfl, rfl, by simp [World.setCell], fun i hi hne => Below.heap_setCell w ⟨g, k, none⟩ v i (fun e => hne (by rw [e]))⟩
theorem begN_succ (ls : List S68) (k : Nat) : begN ls (k + 1) = begN ls k + ((rd_T68 ls (k : Int)).f1 + (rd_T68 ls (k : Int)).f2) := by
  rw [begN]
  omega
/-- what one leaf adds -/
def put1 (G : Int → List St) (p : Int) (e : St) : Int → List St := putG G p (G p ++ [e])
def g1At (st : Bool) (G : Int → List St) (f : Int) (e : St) : Int → List St := if st = true then put1 G f e else G
def g2At (st mv : Bool) (G : Int → List St) (f m : Int) (e : St) : Int → List St := if (mv && !(st && decide (m = f))) = true then put1 (g1At st G f e) m e else g1At st G f e
theorem gAt_step (ls : List S68) (a d s : Int) (k : Nat) {f m : Int} {st mv : Bool} {bf : ByteArray} {x : S68} (hf : begN ls k = f) (hm : f - d + s = m) (h1 : stayB ls a k = st) (h2 : moveB ls a d k = mv) (hbf : aheadS ls k = bf) (hx : rd_T68 ls (k : Int) = x) :
    gAt ls a d s (k + 1) = g2At st mv (gAt ls a d s k) f m (bf, x) := by
  subst hbf hx
  unfold g2At g1At put1
  cases st with
  | false =>
    cases mv with
    | false => rw [gAt_no ls a d s k h1 h2]; rfl
    | true => rw [gAt_move ls a d s k hf hm h1 h2]; rfl
  | true =>
    cases mv with
    | false => rw [gAt_stay ls a d s k hf h1 h2]; rfl
    | true =>
      by_cases e : m = f
      · rw [gAt_same ls a d s k hf hm h1 h2 e]
        simp [e]
      · rw [gAt_both ls a d s k hf hm h1 h2 e]
        simp only [e, decide_false, Bool.and_false, Bool.not_false, Bool.and_true, if_true]
        congr 1
        unfold putG
        rw [if_neg e]
abbrev lC (x : S68) : Obj := .cells #[.int .i64 x.f0, .int .i64 x.f1, .int .i64 x.f2, .int .i64 x.f3, .int .u64 x.f4, .string x.f5] 68 (0, 0)
/-- one round of New: all that lies about -/
structure PassS (w W : World) (gr b1 m : Nat) (oR oE : Obj) (cn : Int) (bf : ByteArray) (x : S68) (vs : Int → Value) (G : Int → List St) (top : Nat) : Prop where
  kr : W.heap[gr]? = some oR
  ke : W.heap[gr + 1]? = some oE
  ko : W.heap[gr + 1 + 1 + 1]? = some (oC (gr + 1 + 1) cn)
  kl : W.heap[b1]? = some (lC x)
  ks : W.heap[b1 + 1]? = some (sC (bf, x))
  g : Grp W (gr + 1 + 1) m (gr + 1 + 1 + 1) vs G
  b : Below w.heap.size w W
  len : ∀ q, (G q).length ≤ top
  row : ∀ q k, (vs q).ownBlock = some k → gr + 1 + 1 + 1 ≤ k ∧ k ≠ b1 ∧ k ≠ b1 + 1
  lo : w.heap.size ≤ gr
  hi : gr + 1 + 1 + 1 < b1
theorem PassS.below {w W W1 : World} {gr b1 m : Nat} {oR oE : Obj} {cn : Int} {bf : ByteArray} {x : S68} {vs : Int → Value} {G : Int → List St} {top : Nat} (h : PassS w W gr b1 m oR oE cn bf x vs G top) (hb : Below W.heap.size W W1) : PassS w W1 gr b1 m oR oE cn bf x vs G top where
  kr := (hb.block _ (blk_lt h.kr)).trans h.kr
  ke := (hb.block _ (blk_lt h.ke)).trans h.ke
  ko := (hb.block _ (blk_lt h.ko)).trans h.ko
  kl := (hb.block _ (blk_lt h.kl)).trans h.kl
  ks := (hb.block _ (blk_lt h.ks)).trans h.ks
  g := h.g.below hb
  b := below_then h.b h.b.size hb
  len := h.len
  row := h.row
  lo := h.lo
  hi := h.hi
theorem PassS.up {w W : World} {gr b1 m : Nat} {oR oE : Obj} {cn : Int} {bf : ByteArray} {x : S68} {vs : Int → Value} {G : Int → List St} {top top2 : Nat} (h : PassS w W gr b1 m oR oE cn bf x vs G top) (ht : top ≤ top2) : PassS w W gr b1 m oR oE cn bf x vs G top2 where
  kr := h.kr
  ke := h.ke
  ko := h.ko
  kl := h.kl
  ks := h.ks
  g := h.g
  b := h.b
  len := fun q => Nat.le_trans (h.len q) ht
  row := h.row
  lo := h.lo
  hi := h.hi
theorem PassS.count {w W : World} {gr b1 m : Nat} {oR oE : Obj} {cn : Int} {bf : ByteArray} {x : S68} {vs : Int → Value} {G : Int → List St} {top : Nat} (h : PassS w W gr b1 m oR oE cn bf x vs G top) (c' : Int) : PassS w (W.setCell ⟨gr + 1 + 1 + 1, 1, none⟩ (.int .i64 c')) gr b1 m oR oE c' bf x vs G top := by
  have hgs := grown_set W (gr + 1 + 1 + 1) 1 (.int .i64 c')
  have hlo := h.lo
  have hhi := h.hi
  exact ⟨blk_map h.kr hgs (by omega), blk_map h.ke hgs (by omega), (blk_set h.ko 1 _).trans rfl, blk_map h.kl hgs (by omega), blk_map h.ks hgs (by omega),
    h.g.grown hgs (by intro e; injection e with e; omega) (fun q => .inr (fun e => (Kd.R_ne (h.g.r q) h.ko (by decide)) e.symm)), below_set h.b (by omega), h.len, h.row, h.lo, h.hi⟩
/-- the cells that the region reads -/
def SC (gr b1 : Nat) (bf : ByteArray) (x : S68) (w' : World) : Prop := w'.cell? ⟨gr + 1 + 1 + 1, 0, none⟩ = some (.map (some (gr + 1 + 1))) ∧ w'.cell? ⟨b1 + 1, 0, none⟩ = some (.string bf) ∧ w'.cell? ⟨b1 + 1, 1, none⟩ = some (.int .i64 x.f0) ∧ w'.cell? ⟨b1 + 1, 2, none⟩ = some (.int .i64 x.f1) ∧ w'.cell? ⟨b1 + 1, 3, none⟩ = some (.int .i64 x.f2) ∧ w'.cell? ⟨b1 + 1, 4, none⟩ = some (.int .i64 x.f3) ∧ w'.cell? ⟨b1 + 1, 5, none⟩ = some (.int .u64 x.f4) ∧ w'.cell? ⟨b1 + 1, 6, none⟩ = some (.string x.f5)
theorem SC_of {W : World} {gr b1 : Nat} {cn : Int} {bf : ByteArray} {x : S68} (ko : W.heap[gr + 1 + 1 + 1]? = some (oC (gr + 1 + 1) cn)) (ks : W.heap[b1 + 1]? = some (sC (bf, x))) : SC gr b1 bf x W := ⟨(blk_cell ko 0).trans rfl, (blk_cell ks 0).trans rfl, (blk_cell ks 1).trans rfl, (blk_cell ks 2).trans rfl, (blk_cell ks 3).trans rfl, (blk_cell ks 4).trans rfl, (blk_cell ks 5).trans rfl, (blk_cell ks 6).trans rfl⟩
theorem PassS.sc {w W : World} {gr b1 m : Nat} {oR oE : Obj} {cn : Int} {bf : ByteArray} {x : S68} {vs : Int → Value} {G : Int → List St} {top : Nat} (h : PassS w W gr b1 m oR oE cn bf x vs G top) : SC gr b1 bf x W := SC_of h.ko h.ks
theorem PassS.put {w W W9 : World} {gr b1 m : Nat} {oR oE : Obj} {cn : Int} {bf : ByteArray} {x : S68} {vs : Int → Value} {G : Int → List St} {top : Nat} (h : PassS w W gr b1 m oR oE cn bf x vs G top) {p : Int} (hp : (Lit.int .i64 p).wf = true) (hm : m < maxLen) {v : Value}
    (hg : W.grownBy W9 (vs p).ownBlock) (hR : Kd.R k109 109 W9 (gr + 1 + 1 + 1) T v (G p ++ [(bf, x)])) (hat : v.ownBlock = (vs p).ownBlock ∨ ∃ k, v.ownBlock = some k ∧ W.heap.size ≤ k) :
    SC gr b1 bf x W9 ∧ ∃ w2, (Instr.mapUpdate 96 (.map (some (gr + 1 + 1))) (.int .i64 p) v).run Try.prog W9 = .ok () w2 ∧ SC gr b1 bf x w2 ∧ PassS w w2 gr b1 (m + 1) oR oE cn bf x (putV vs p v) (put1 G p (bf, x)) (top + 1) := by
  obtain ⟨w2, hrun, hG, hg2⟩ := h.g.put hp hm hg hR hat
  have hlo := h.lo
  have hhi := h.hi
  have kr9 := blk_row h.kr hg (fun e => by have := (h.row p gr e.symm).1; omega)
  have ke9 := blk_row h.ke hg (fun e => by have := (h.row p _ e.symm).1; omega)
  have ko9 := blk_row h.ko hg (Kd.R_ne (h.g.r p) h.ko (by decide))
  have kl9 := blk_row h.kl hg (fun e => (h.row p _ e.symm).2.1 rfl)
  have ks9 := blk_row h.ks hg (fun e => (h.row p _ e.symm).2.2 rfl)
  have ko2 := blk_map ko9 hg2 (by omega)
  have ks2 := blk_map ks9 hg2 (by omega)
  have hb9 : Below w.heap.size w W9 := h.b.grown hg h.b.size (fun k hk => by have := (h.row p k hk).1; omega)
  refine ⟨SC_of ko9 ks9, w2, hrun, SC_of ko2 ks2, blk_map kr9 hg2 (by omega), blk_map ke9 hg2 (by omega), ko2, blk_map kl9 hg2 (by omega), ks2, hG, hb9.grown hg2 hb9.size (fun k hk => by injection hk with hk; omega), fun q => ?_, fun q k hk => ?_, hlo, hhi⟩
  · unfold put1 putG
    split
    · have := h.len p
      rw [List.length_append, List.length_singleton]
      omega
    · exact Nat.le_succ_of_le (h.len q)
  · unfold putV at hk
    split at hk
    · rcases hat with e | ⟨k', e, hk'⟩
      · rw [e] at hk
        exact h.row p k hk
      · rw [e] at hk
        injection hk with hk
        have := blk_lt h.ks
        omega
    · exact h.row q k hk
end Go.Proofs.Ytknagjiipelfnaa.RU
