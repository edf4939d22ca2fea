/- trellislaw22.lang: a language that has just these fold and mark lines. -/
import Derived.Test.YtknagjiipelfnaaSym
import Derived.Deep.RegionLaw
import Derived.Deep.MidRow
namespace Go.Proofs.Ytknagjiipelfnaa.OL
open Go.RowKit Go.WideShapes Go.ChangeShapes Go.Proofs.YtknagjiipelfnaaW.PrintWords Go.Proofs.YtknagjiipelfnaaW.PrintLast Go.Proofs.YtknagjiipelfnaaW.PrintMore Go.Proofs.Ytknagjiipelfnaa.PAll
set_option linter.unusedVariables false

theorem info9 : (Try.prog.info? 9).map (fun i => (i.zero, i.size, i.bytes)) = some (some (.string ⟨#[]⟩), 1, 16) := by kernel_rfl
theorem info129 : (Try.prog.info? 129).map (fun i => (i.zero, i.size, i.bytes)) = some (some (.agg #[.string ⟨#[]⟩, .string ⟨#[]⟩]), 2, 32) := by kernel_rfl
theorem k129_mkM (w : World) (base : Nat) (ok : Nat → Prop) (x : Mk) : k129.M w base ok x [.string x.1, .string x.2] := ⟨[.string x.1], [.string x.2], rfl, rfl, rfl⟩
theorem own_ne {g k n c : Nat} (h : k ≠ g) : some k ≠ (Value.slice (some ⟨g, 0, none⟩) n c).ownBlock := by
  intro e
  have e2 : some k = some g := e
  injection e2 with e2
  exact h e2
theorem ty7 {W : World} {g k t n c : Nat} (hk : (Value.slice (some ⟨g, 0, none⟩) n c).ownBlock = some k) (h : W.heap[g]? = some (.cells #[] t (0, 0))) : W.heap[k]? = some (.cells #[] t (0, 0)) := by
  have e : some g = some k := hk
  injection e with e
  subst e
  exact h
theorem noE9 : ∀ q, q ∈ 9 :: Kd.string.E → q ≠ 129 := fun q hq e => by
  subst e
  rcases List.mem_cons.1 hq with hq | hq
  · cases hq
  · cases hq
theorem keep_blk {W w1 w5 : World} {row : Option Nat} {g : Nat} {o : Obj} (hg : W.grownBy w5 row) (h : w1.heap[g]? = some o) (hb : Below w1.heap.size w1 W) (hn : some g ≠ row) : w5.heap[g]? = some o := by
  have h1 := (hb.block _ (blk_lt h)).trans h
  exact (hg.block _ (blk_lt h1) hn).trans h1
theorem over9 {W w1 w5 : World} {b g n c : Nat} {v : Value} {xs : List ByteArray} (hg : W.grownBy w5 (Value.slice (some ⟨g, 0, none⟩) n c).ownBlock) (h : Kd.string.R 9 w1 b (fun _ => True) v xs) (hb : Below w1.heap.size w1 W) (h7 : W.heap[g]? = some (.cells #[] 129 (0, 0))) : Kd.string.R 9 w5 b (fun _ => True) v xs :=
  Kd.R_over' (Kd.R_below h hb) (e' := 129) (fun k hk => ⟨#[], ty7 hk h7⟩) noE9 hg
theorem noE9b : ∀ q, q ∈ 9 :: Kd.string.E → q ≠ 45 := fun q hq e => by
  subst e
  rcases List.mem_cons.1 hq with hq | hq
  · cases hq
  · cases hq
theorem noE129 : ∀ q, q ∈ 129 :: k129.E → q ≠ 45 := fun q hq e => by
  subst e
  rcases List.mem_cons.1 hq with hq | hq
  · cases hq
  · cases hq
theorem there_of {w : World} {g t : Nat} {cs : Array Value} (h : w.heap[g]? = some (.cells cs t (0, 0))) : w.there g 0 cs.size := fun j hj => ⟨by
  rw [Nat.zero_add, blk_cell h j, Array.getElem?_eq_getElem hj]
  rfl, blk_frozen h _⟩
/-- A literal without elements. -/
theorem R_empty {α : Type} (d : Kd α) (e : Nat) {w : World} {b g : Nat} (hb : b ≤ g) (h : w.heap[g]? = some (.cells #[] e (0, 0))) : d.R e w b (fun _ => True) (.slice (some ⟨g, 0, none⟩) 0 0) [] :=
  ⟨fun _ _ => trivial, [], ⟨by simp, .inr ⟨g, 0, #[], rfl, hb, h, Nat.le_refl _, Nat.zero_le _, by simp, by simp⟩⟩, ⟨by simp, fun j p hj => by simp at hj⟩⟩
/-- append(v, ys...), whatever world it lies in: rows of strings, of mark lines. -/
theorem RF_app {P : Program} {ops : Array Oper} {o : Oper} {a : Act} {Q : Exit → Act → World → Prop} {Kc : Act → World → Prop} {w0 W : World} {E : Prop} (base : Nat) (hgd : o.guard = none) (s x : Operand)
    (ho : o.op = .call { callee := .builtin .append, args := #[s, x], argTypes := #[22, 22] })
    (ht : P.underlying 22 = some (.slice 9)) (hinfo : (P.info? 9).map (fun i => (i.zero, i.size, i.bytes)) = some (some (.string ⟨#[]⟩), 1, 16))
    (v : Value) (xs ys : List ByteArray) (A : Option Addr) (m c : Nat) (hs : a.eval s = v) (hx : a.eval x = .slice A m c)
    (HO : Kd.string.R 9 W base (fun _ => True) v xs) (HR : Kd.string.C W A m ys) (HB : Below base w0 W) (hbase : base ≤ W.heap.size) (hl : xs.length + m ≤ 2097152)
    (h : ∀ v1 w1, Kd.string.R 9 w1 base (fun _ => True) v1 (xs ++ ys) → Below base w0 w1 → W.grownBy w1 v.ownBlock → Kc (a.put o.dst v1) w1) :
    if Region.wanted o (yielded ops a.tmps) = true then Oper.wp P o a W Kc Q else E := by
  have hw : Region.wanted o (yielded ops a.tmps) = true := by simp [Region.wanted, hgd]
  have h2 := Kd.R_append_rows_step (P := P) (ops := ops) (o := o) (a := a) (Q := Q) (Kc := Kc) Kd.string (Rr := Kd.string.K W) (w0 := w0) base hw s x 22 9 (.string ⟨#[]⟩) 16 ho ht hinfo rfl (by decide) (by omega) v xs ys A m c (fun _ => True) (fun _ => False) hs hx HO HR (fun _ _ hk => hk) (fun _ hk => hk.elim) (fun _ _ => trivial) HB hbase (by omega) (fun v1 w1 h1 h2 h3 _ => h v1 w1 h1 h2 h3)
  rw [if_pos hw] at h2 ⊢
  exact h2
theorem RM_app {P : Program} {ops : Array Oper} {o : Oper} {a : Act} {Q : Exit → Act → World → Prop} {Kc : Act → World → Prop} {w0 W : World} {E : Prop} (base : Nat) (hgd : o.guard = none) (s x : Operand)
    (ho : o.op = .call { callee := .builtin .append, args := #[s, x], argTypes := #[23, 23] })
    (ht : P.underlying 23 = some (.slice 129)) (hinfo : (P.info? 129).map (fun i => (i.zero, i.size, i.bytes)) = some (some (.agg #[.string ⟨#[]⟩, .string ⟨#[]⟩]), 2, 32))
    (v : Value) (xs ys : List Mk) (A : Option Addr) (m c : Nat) (hs : a.eval s = v) (hx : a.eval x = .slice A m c)
    (HO : k129.R 129 W base (fun _ => True) v xs) (HR : k129.C W A m ys) (HB : Below base w0 W) (hbase : base ≤ W.heap.size) (hl : xs.length + m ≤ 2097152)
    (h : ∀ v1 w1, k129.R 129 w1 base (fun _ => True) v1 (xs ++ ys) → Below base w0 w1 → W.grownBy w1 v.ownBlock → Kc (a.put o.dst v1) w1) :
    if Region.wanted o (yielded ops a.tmps) = true then Oper.wp P o a W Kc Q else E := by
  have hw : Region.wanted o (yielded ops a.tmps) = true := by simp [Region.wanted, hgd]
  have h2 := Kd.R_append_rows_step (P := P) (ops := ops) (o := o) (a := a) (Q := Q) (Kc := Kc) k129 (Rr := k129.K W) (w0 := w0) base hw s x 23 129 (.agg #[.string ⟨#[]⟩, .string ⟨#[]⟩]) 32 ho ht hinfo rfl (by decide) (by omega) v xs ys A m c (fun _ => True) (fun _ => False) hs hx HO HR (fun y cs hk => by rw [k129_open hk]; exact k129_mkM _ _ _ _) (fun _ hk => hk.elim) (fun _ _ => trivial) HB hbase (by omega) (fun v1 w1 h1 h2 h3 _ => h v1 w1 h1 h2 h3)
  rw [if_pos hw] at h2 ⊢
  exact h2
set_option maxRecDepth 100000 in
theorem build45 (F M : Option Addr) (n c m d : Nat) (w : World) : Sem.run Try.prog (Instr.build 45 #[(6, .slice F n c), (7, .slice M m d)]) w = .ok (.agg (langC (.slice F n c) (.slice M m d))) w := by kernel_rfl
attribute [local go_sem] build45
theorem size45 : (Try.prog.info? 45).map (·.size) = some 12 := by kernel_rfl
theorem store45 {w : World} {g : Nat} (h : w.heap[g]? = some (.cells (langC (.slice none 0 0) (.slice none 0 0)) 45 (0, 0))) (F M : Option Addr) (n c m d : Nat) : (Instr.storeAt 45 (.pointer (some ⟨g, 0, none⟩)) (.agg (langC (.slice F n c) (.slice M m d)))).run Try.prog w = .ok () (w.setCells g 0 (langC (.slice F n c) (.slice M m d)).toList) :=
  run_storeAt_mid w g 0 45 (langC (.slice F n c) (.slice M m d)) (there_of (cs := langC (.slice none 0 0) (.slice none 0 0)) h) (by rw [size45]; rfl) (by simp [Value.oneCell'])
/-- The store of a language, as one step. -/
def Stored (o : Oper) (p v : Value) (a : Act) (W : World) (K : Act → World → Prop) (Q : Exit → Act → World → Prop) : Prop := o.upon Try.prog a K Q ((do Instr.storeAt 45 p v; pure .skip : Sem Next).run Try.prog W)
theorem stored_at {d : Option Tmp} {x y : Operand} {t : TypeId} {ps : String} {af : Array Edge} {gd : Option (Nat × Bool)} {a : Act} {W : World} {K : Act → World → Prop} {Q : Exit → Act → World → Prop} : Oper.wp Try.prog (Oper.mk d (.store 45 x y) t ps af gd) a W K Q = Stored (Oper.mk d (.store 45 x y) t ps af gd) (a.eval x) (a.eval y) a W K Q := rfl
attribute [local go_sem ↓] stored_at
theorem stored_ex {w : World} {g : Nat} (h : w.heap[g]? = some (.cells (langC (.slice none 0 0) (.slice none 0 0)) 45 (0, 0))) (F M : Option Addr) (n c m d : Nat) : ∃ W9, w.setCells g 0 (langC (.slice F n c) (.slice M m d)).toList = W9 ∧ (∀ a : Addr, a.block ≠ g → W9.cell? a = w.cell? a) ∧ ∀ o a K Q, Stored o (.pointer (some ⟨g, 0, none⟩)) (.agg (langC (.slice F n c) (.slice M m d))) a w K Q = K (a.put o.dst undef) W9 := by
  refine ⟨_, rfl, fun a ha => World.cell?_setCells_out _ _ _ _ _ (fun e => absurd e ha), fun o a K Q => ?_⟩
  unfold Stored
  rw [Sem.run_bind, store45 h]
  rfl
theorem set12 {w : World} {g : Nat} (h : w.heap[g]? = some (.cells (langC (.slice none 0 0) (.slice none 0 0)) 45 (0, 0))) (vF vM : Value) : ((((((((((((w.setCell ⟨g, 0, none⟩ (.string ⟨#[]⟩)).setCell ⟨g, 1, none⟩ (.slice none 0 0)).setCell ⟨g, 2, none⟩ (.slice none 0 0)).setCell ⟨g, 3, none⟩ (.slice none 0 0)).setCell ⟨g, 4, none⟩ (.slice none 0 0)).setCell ⟨g, 5, none⟩ (.slice none 0 0)).setCell ⟨g, 6, none⟩ (.slice none 0 0)).setCell ⟨g, 7, none⟩ (.slice none 0 0)).setCell ⟨g, 8, none⟩ (.slice none 0 0)).setCell ⟨g, 9, none⟩ vF).setCell ⟨g, 10, none⟩ vM).setCell ⟨g, 11, none⟩ (.slice none 0 0)).heap[g]? = some (.cells (langC vF vM) 45 (0, 0)) := by
  have k0 := blk_set h 0 (Value.string ⟨#[]⟩)
  have k1 := blk_set k0 1 (Value.slice none 0 0)
  have k2 := blk_set k1 2 (Value.slice none 0 0)
  have k3 := blk_set k2 3 (Value.slice none 0 0)
  have k4 := blk_set k3 4 (Value.slice none 0 0)
  have k5 := blk_set k4 5 (Value.slice none 0 0)
  have k6 := blk_set k5 6 (Value.slice none 0 0)
  have k7 := blk_set k6 7 (Value.slice none 0 0)
  have k8 := blk_set k7 8 (Value.slice none 0 0)
  have k9 := blk_set k8 9 vF
  have k10 := blk_set k9 10 vM
  have k11 := blk_set k10 11 (Value.slice none 0 0)
  exact k11.trans rfl
theorem R_sets12 {α : Type} {d : Kd α} {e b : Nat} {w : World} {g : Nat} {v : Value} {xs : List α} (r : d.R e w b (fun _ => True) v xs) (h : w.heap[g]? = some (.cells (langC (.slice none 0 0) (.slice none 0 0)) 45 (0, 0))) (vF vM : Value) (ht : ∀ q, q ∈ e :: d.E → q ≠ 45) : d.R e ((((((((((((w.setCell ⟨g, 0, none⟩ (.string ⟨#[]⟩)).setCell ⟨g, 1, none⟩ (.slice none 0 0)).setCell ⟨g, 2, none⟩ (.slice none 0 0)).setCell ⟨g, 3, none⟩ (.slice none 0 0)).setCell ⟨g, 4, none⟩ (.slice none 0 0)).setCell ⟨g, 5, none⟩ (.slice none 0 0)).setCell ⟨g, 6, none⟩ (.slice none 0 0)).setCell ⟨g, 7, none⟩ (.slice none 0 0)).setCell ⟨g, 8, none⟩ (.slice none 0 0)).setCell ⟨g, 9, none⟩ vF).setCell ⟨g, 10, none⟩ vM).setCell ⟨g, 11, none⟩ (.slice none 0 0)) b (fun _ => True) v xs := by
  have k0 := blk_set h 0 (Value.string ⟨#[]⟩)
  have k1 := blk_set k0 1 (Value.slice none 0 0)
  have k2 := blk_set k1 2 (Value.slice none 0 0)
  have k3 := blk_set k2 3 (Value.slice none 0 0)
  have k4 := blk_set k3 4 (Value.slice none 0 0)
  have k5 := blk_set k4 5 (Value.slice none 0 0)
  have k6 := blk_set k5 6 (Value.slice none 0 0)
  have k7 := blk_set k6 7 (Value.slice none 0 0)
  have k8 := blk_set k7 8 (Value.slice none 0 0)
  have k9 := blk_set k8 9 vF
  have k10 := blk_set k9 10 vM
  exact Kd.R_set (Kd.R_set (Kd.R_set (Kd.R_set (Kd.R_set (Kd.R_set (Kd.R_set (Kd.R_set (Kd.R_set (Kd.R_set (Kd.R_set (Kd.R_set r h ht 0 _) k0 ht 1 _) k1 ht 2 _) k2 ht 3 _) k3 ht 4 _) k4 ht 5 _) k5 ht 6 _) k6 ht 7 _) k7 ht 8 _) k8 ht 9 _) k9 ht 10 _) k10 ht 11 _
theorem below_sets12 {B : Nat} {w w1 : World} {g : Nat} (h : Below B w w1) (hg : B ≤ g) (v0 v1 v2 v3 v4 v5 v6 v7 v8 v9 v10 v11 : Value) : Below B w ((((((((((((w1.setCell ⟨g, 0, none⟩ v0).setCell ⟨g, 1, none⟩ v1).setCell ⟨g, 2, none⟩ v2).setCell ⟨g, 3, none⟩ v3).setCell ⟨g, 4, none⟩ v4).setCell ⟨g, 5, none⟩ v5).setCell ⟨g, 6, none⟩ v6).setCell ⟨g, 7, none⟩ v7).setCell ⟨g, 8, none⟩ v8).setCell ⟨g, 9, none⟩ v9).setCell ⟨g, 10, none⟩ v10).setCell ⟨g, 11, none⟩ v11) :=
  (((((((((((h.setCell hg v0).setCell hg v1).setCell hg v2).setCell hg v3).setCell hg v4).setCell hg v5).setCell hg v6).setCell hg v7).setCell hg v8).setCell hg v9).setCell hg v10).setCell hg v11
set_option maxRecDepth 100000 in
set_option maxHeartbeats 8000000 in
theorem lang_calls (FA MA : Option Addr) (cf cm : Nat) (fs : List ByteArray) (ms : List Mk) (w : World) (hf : Kd.string.C w FA fs.length fs) (hfc : fs.length ≤ cf) (hfl : fs.length ≤ 1048576) (hm : Kd.C k129 w MA ms.length ms) (hmc : ms.length ≤ cm) (hml : ms.length ≤ 1048576) :
    Calls Try.prog 12 #[.agg #[.slice FA fs.length cf, .slice MA ms.length cm]] w fun e w' => ∃ F' M' cf' cm', e = .returned (.agg (langC (.slice F' fs.length cf') (.slice M' ms.length cm'))) ∧ Kd.C k129 w' M' ms.length ms ∧ ms.length ≤ cm' ∧ Kd.string.C w' F' fs.length fs ∧ fs.length ≤ cf' ∧ Below w.heap.size w w' := by
  have HFw := Aside0.mk hf
  have HMw := Aside0.mk hm
  have HP := Aside0.mk (And.intro hfc (And.intro hfl (And.intro hmc hml)))
  clear hf hm hfc hfl hmc hml
  go_enter Try.func12, Try.ntmps12
  go_upto_region 1 with fail
  have hKX := two0 w (.cells #[.slice FA fs.length cf, .slice MA ms.length cm] 25) (.cells (langC (.slice none 0 0) (.slice none 0 0)) 45)
  have hKR := two1 w (.cells #[.slice FA fs.length cf, .slice MA ms.length cm] 25) (.cells (langC (.slice none 0 0) (.slice none 0 0)) 45)
  have hba : Below w.heap.size w ((w.alloc (.cells #[.slice FA fs.length cf, .slice MA ms.length cm] 25)).alloc (.cells (langC (.slice none 0 0) (.slice none 0 0)) 45)) := below_alloc (below_alloc (Below.refl _ _) _) _
  have KX0 : Aside0 (((w.alloc (.cells #[.slice FA fs.length cf, .slice MA ms.length cm] 25)).alloc (.cells (langC (.slice none 0 0) (.slice none 0 0)) 45)).heap[w.heap.size]? = some (.cells #[.slice FA fs.length cf, .slice MA ms.length cm] 25 (0, 0))) := ⟨hKX⟩
  have KR : Aside0 (((w.alloc (.cells #[.slice FA fs.length cf, .slice MA ms.length cm] 25)).alloc (.cells (langC (.slice none 0 0) (.slice none 0 0)) 45)).heap[w.heap.size + 1]? = some (.cells (langC (.slice none 0 0) (.slice none 0 0)) 45 (0, 0))) := ⟨hKR⟩
  have HB := Aside0.mk hba
  clear hKX hKR hba
  obtain ⟨gX, hgX⟩ : ∃ g, w.heap.size = g := ⟨_, rfl⟩
  have GX : Aside0 (w.heap.size = gX) := ⟨hgX⟩
  generalize ((w.alloc (.cells #[.slice FA fs.length cf, .slice MA ms.length cm] 25)).alloc (.cells (langC (.slice none 0 0) (.slice none 0 0)) 45)) = w1 at KX0 KR HB ⊢
  rw [hgX] at KX0 KR ⊢
  clear hgX
  have n0 : w1.cell? ⟨gX, 0, none⟩ = some (.slice FA fs.length cf) := (blk_cell KX0.out 0).trans rfl
  have n1 : w1.cell? ⟨gX, 1, none⟩ = some (.slice MA ms.length cm) := (blk_cell KX0.out 1).trans rfl
  have hlo := HB.out.size
  have hgl := blk_lt KX0.out
  have hgr := blk_lt KR.out
  go_region_held3 (fun w' => w'.cell? ⟨gX, 0, none⟩ = some (.slice FA fs.length cf) ∧ w'.cell? ⟨gX, 1, none⟩ = some (.slice MA ms.length cm))
    (first
      | exact ⟨by assumption, by assumption⟩
      | go_keep)
    (first
      | (refine RF_app (w0 := w) w.heap.size (by rfl) (.tmp 3) (.tmp 5) (by rfl) Try.underlying22 info9 (.slice (some ⟨w1.heap.size, 0, none⟩) 0 0) [] fs FA fs.length cf (by rfl) (by rfl) (R_empty Kd.string 9 ?aG ?aR) ?aC ?aB ?aS ?aL ?_
         (case aR => first | exact one0 _ _ | exact two0 _ _ _ | exact two1 _ _ _)
         (case aG => omega)
         (case aC => exact Kd.C_below HFw.out (below_then HB.out HB.out.size (show Below w1.heap.size w1 _ by repeat (first | with_reducible exact Below.refl _ _ | with_reducible apply below_drew | with_reducible apply below_alloc))))
         (case aB => exact below_then HB.out HB.out.size (show Below w1.heap.size w1 _ by repeat (first | with_reducible exact Below.refl _ _ | with_reducible apply below_drew | with_reducible apply below_alloc)))
         (case aS => exact Nat.le_trans hlo (Below.size (show Below w1.heap.size w1 _ by repeat (first | with_reducible exact Below.refl _ _ | with_reducible apply below_drew | with_reducible apply below_alloc))))
         (case aL => have := HP.out.2.1; simp only [List.length_nil]; omega)
         intro v5 w5 ho5 hb5 hg5
         obtain ⟨F', cf', rfl⟩ := Kd.R_slice (show Kd.string.R 9 w5 w.heap.size (fun _ => True) v5 fs from ho5)
         have KX5 := keep_blk hg5 KX0.out (show Below w1.heap.size w1 _ by repeat (first | with_reducible exact Below.refl _ _ | with_reducible apply below_drew | with_reducible apply below_alloc)) (own_ne (by omega))
         have KR5 := keep_blk hg5 KR.out (show Below w1.heap.size w1 _ by repeat (first | with_reducible exact Below.refl _ _ | with_reducible apply below_drew | with_reducible apply below_alloc)) (own_ne (by omega))
         have p0 : w5.cell? ⟨gX, 0, none⟩ = some (.slice FA fs.length cf) := (blk_cell KX5 0).trans rfl
         have p1 : w5.cell? ⟨gX, 1, none⟩ = some (.slice MA ms.length cm) := (blk_cell KX5 1).trans rfl
         have HF5 := Aside0.mk ho5
         have HB5 := Aside0.mk hb5
         have K5 := Aside0.mk (And.intro KX5 KR5)
         try (have k7 : w5.heap[w1.heap.size]? = some (.cells #[] 129) := (hg5.block _ (blk_lt (two0 _ _ _)) (own_ne (by omega))).trans (two0 _ _ _)
              have K7 := Aside0.mk k7
              clear k7)
         try (have k7 : w5.heap[w1.heap.size + 1]? = some (.cells #[] 129) := (hg5.block _ (blk_lt (two1 _ _ _)) (own_ne (by omega))).trans (two1 _ _ _)
              have K7 := Aside0.mk k7
              clear k7)
         clear ho5 hb5 hg5 KX5 KR5)
      | (refine RF_app (w0 := w) w.heap.size (by rfl) (.tmp 3) (.tmp 5) (by rfl) Try.underlying22 info9 (.slice (some ⟨w1.heap.size + 1, 0, none⟩) 0 0) [] fs FA fs.length cf (by rfl) (by rfl) (R_empty Kd.string 9 ?aG ?aR) ?aC ?aB ?aS ?aL ?_
         (case aR => first | exact one0 _ _ | exact two0 _ _ _ | exact two1 _ _ _)
         (case aG => omega)
         (case aC => exact Kd.C_below HFw.out (below_then HB.out HB.out.size (show Below w1.heap.size w1 _ by repeat (first | with_reducible exact Below.refl _ _ | with_reducible apply below_drew | with_reducible apply below_alloc))))
         (case aB => exact below_then HB.out HB.out.size (show Below w1.heap.size w1 _ by repeat (first | with_reducible exact Below.refl _ _ | with_reducible apply below_drew | with_reducible apply below_alloc)))
         (case aS => exact Nat.le_trans hlo (Below.size (show Below w1.heap.size w1 _ by repeat (first | with_reducible exact Below.refl _ _ | with_reducible apply below_drew | with_reducible apply below_alloc))))
         (case aL => have := HP.out.2.1; simp only [List.length_nil]; omega)
         intro v5 w5 ho5 hb5 hg5
         obtain ⟨F', cf', rfl⟩ := Kd.R_slice (show Kd.string.R 9 w5 w.heap.size (fun _ => True) v5 fs from ho5)
         have KX5 := keep_blk hg5 KX0.out (show Below w1.heap.size w1 _ by repeat (first | with_reducible exact Below.refl _ _ | with_reducible apply below_drew | with_reducible apply below_alloc)) (own_ne (by omega))
         have KR5 := keep_blk hg5 KR.out (show Below w1.heap.size w1 _ by repeat (first | with_reducible exact Below.refl _ _ | with_reducible apply below_drew | with_reducible apply below_alloc)) (own_ne (by omega))
         have p0 : w5.cell? ⟨gX, 0, none⟩ = some (.slice FA fs.length cf) := (blk_cell KX5 0).trans rfl
         have p1 : w5.cell? ⟨gX, 1, none⟩ = some (.slice MA ms.length cm) := (blk_cell KX5 1).trans rfl
         have HF5 := Aside0.mk ho5
         have HB5 := Aside0.mk hb5
         have K5 := Aside0.mk (And.intro KX5 KR5)
         try (have k7 : w5.heap[w1.heap.size]? = some (.cells #[] 129) := (hg5.block _ (blk_lt (two0 _ _ _)) (own_ne (by omega))).trans (two0 _ _ _)
              have K7 := Aside0.mk k7
              clear k7)
         try (have k7 : w5.heap[w1.heap.size + 1]? = some (.cells #[] 129) := (hg5.block _ (blk_lt (two1 _ _ _)) (own_ne (by omega))).trans (two1 _ _ _)
              have K7 := Aside0.mk k7
              clear k7)
         clear ho5 hb5 hg5 KX5 KR5)
      | (refine RM_app (w0 := w) w.heap.size (by rfl) (.tmp 7) (.tmp 9) (by rfl) Try.underlying23 info129 (.slice (some ⟨w5.heap.size, 0, none⟩) 0 0) [] ms MA ms.length cm (by rfl) (by rfl) (R_empty k129 129 ?aG ?aR) ?aC ?aB ?aS ?aL ?_
         (case aR => first | exact K7.out | exact heap_alloc_new _ _)
         (case aG => have := HB5.out.size; omega)
         (case aC => exact Kd.C_below HMw.out (below_then HB5.out HB5.out.size (show Below w5.heap.size w5 _ by repeat (first | with_reducible exact Below.refl _ _ | with_reducible apply below_drew | with_reducible apply below_alloc))))
         (case aB => exact below_then HB5.out HB5.out.size (show Below w5.heap.size w5 _ by repeat (first | with_reducible exact Below.refl _ _ | with_reducible apply below_drew | with_reducible apply below_alloc)))
         (case aS => exact Nat.le_trans HB5.out.size (Below.size (show Below w5.heap.size w5 _ by repeat (first | with_reducible exact Below.refl _ _ | with_reducible apply below_drew | with_reducible apply below_alloc))))
         (case aL => have := HP.out.2.2.2; simp only [List.length_nil]; omega)
         intro v6 w6 ho6 hb6 hg6
         obtain ⟨M', cm', rfl⟩ := Kd.R_slice (show k129.R 129 w6 w.heap.size (fun _ => True) v6 ms from ho6)
         have KX6 := keep_blk hg6 K5.out.1 (show Below w5.heap.size w5 _ by repeat (first | with_reducible exact Below.refl _ _ | with_reducible apply below_drew | with_reducible apply below_alloc)) (own_ne (by have := HB5.out.size; have := blk_lt K5.out.1; omega))
         have KR6 := keep_blk hg6 K5.out.2 (show Below w5.heap.size w5 _ by repeat (first | with_reducible exact Below.refl _ _ | with_reducible apply below_drew | with_reducible apply below_alloc)) (own_ne (by have := HB5.out.size; have := blk_lt K5.out.2; omega))
         have HF6 := Aside0.mk (over9 hg6 HF5.out (show Below w5.heap.size w5 _ by repeat (first | with_reducible exact Below.refl _ _ | with_reducible apply below_drew | with_reducible apply below_alloc)) (by first | exact K7.out | exact heap_alloc_new _ _))
         have HM6 := Aside0.mk ho6
         have HB6 := Aside0.mk hb6
         have HKR6 := Aside0.mk KR6
         have q0 : w6.cell? ⟨gX, 0, none⟩ = some (.slice FA fs.length cf) := (blk_cell KX6 0).trans rfl
         have q1 : w6.cell? ⟨gX, 1, none⟩ = some (.slice MA ms.length cm) := (blk_cell KX6 1).trans rfl
         obtain ⟨W9, hW9, hW9c, hst⟩ := stored_ex KR6 F' M' fs.length cf' ms.length cm'
         have HW9 := Aside0.mk hW9
         have r0 : W9.cell? ⟨gX, 0, none⟩ = some (.slice FA fs.length cf) := (hW9c _ (by show gX ≠ gX + 1; omega)).trans q0
         have r1 : W9.cell? ⟨gX, 1, none⟩ = some (.slice MA ms.length cm) := (hW9c _ (by show gX ≠ gX + 1; omega)).trans q1
         clear hW9c
         clear hW9
         clear ho6 hb6 hg6 KX6 KR6)
      | (refine RM_app (w0 := w) w.heap.size (by rfl) (.tmp 7) (.tmp 9) (by rfl) Try.underlying23 info129 (.slice (some ⟨w1.heap.size, 0, none⟩) 0 0) [] ms MA ms.length cm (by rfl) (by rfl) (R_empty k129 129 ?aG ?aR) ?aC ?aB ?aS ?aL ?_
         (case aR => first | exact K7.out | exact heap_alloc_new _ _)
         (case aG => have := HB5.out.size; omega)
         (case aC => exact Kd.C_below HMw.out (below_then HB5.out HB5.out.size (show Below w5.heap.size w5 _ by repeat (first | with_reducible exact Below.refl _ _ | with_reducible apply below_drew | with_reducible apply below_alloc))))
         (case aB => exact below_then HB5.out HB5.out.size (show Below w5.heap.size w5 _ by repeat (first | with_reducible exact Below.refl _ _ | with_reducible apply below_drew | with_reducible apply below_alloc)))
         (case aS => exact Nat.le_trans HB5.out.size (Below.size (show Below w5.heap.size w5 _ by repeat (first | with_reducible exact Below.refl _ _ | with_reducible apply below_drew | with_reducible apply below_alloc))))
         (case aL => have := HP.out.2.2.2; simp only [List.length_nil]; omega)
         intro v6 w6 ho6 hb6 hg6
         obtain ⟨M', cm', rfl⟩ := Kd.R_slice (show k129.R 129 w6 w.heap.size (fun _ => True) v6 ms from ho6)
         have KX6 := keep_blk hg6 K5.out.1 (show Below w5.heap.size w5 _ by repeat (first | with_reducible exact Below.refl _ _ | with_reducible apply below_drew | with_reducible apply below_alloc)) (own_ne (by have := HB5.out.size; have := blk_lt K5.out.1; omega))
         have KR6 := keep_blk hg6 K5.out.2 (show Below w5.heap.size w5 _ by repeat (first | with_reducible exact Below.refl _ _ | with_reducible apply below_drew | with_reducible apply below_alloc)) (own_ne (by have := HB5.out.size; have := blk_lt K5.out.2; omega))
         have HF6 := Aside0.mk (over9 hg6 HF5.out (show Below w5.heap.size w5 _ by repeat (first | with_reducible exact Below.refl _ _ | with_reducible apply below_drew | with_reducible apply below_alloc)) (by first | exact K7.out | exact heap_alloc_new _ _))
         have HM6 := Aside0.mk ho6
         have HB6 := Aside0.mk hb6
         have HKR6 := Aside0.mk KR6
         have q0 : w6.cell? ⟨gX, 0, none⟩ = some (.slice FA fs.length cf) := (blk_cell KX6 0).trans rfl
         have q1 : w6.cell? ⟨gX, 1, none⟩ = some (.slice MA ms.length cm) := (blk_cell KX6 1).trans rfl
         obtain ⟨W9, hW9, hW9c, hst⟩ := stored_ex KR6 F' M' fs.length cf' ms.length cm'
         have HW9 := Aside0.mk hW9
         have r0 : W9.cell? ⟨gX, 0, none⟩ = some (.slice FA fs.length cf) := (hW9c _ (by show gX ≠ gX + 1; omega)).trans q0
         have r1 : W9.cell? ⟨gX, 1, none⟩ = some (.slice MA ms.length cm) := (hW9c _ (by show gX ≠ gX + 1; omega)).trans q1
         clear hW9c
         clear hW9
         clear ho6 hb6 hg6 KX6 KR6)
      | (refine RM_app (w0 := w) w.heap.size (by rfl) (.tmp 7) (.tmp 9) (by rfl) Try.underlying23 info129 (.slice (some ⟨w1.heap.size + 1, 0, none⟩) 0 0) [] ms MA ms.length cm (by rfl) (by rfl) (R_empty k129 129 ?aG ?aR) ?aC ?aB ?aS ?aL ?_
         (case aR => first | exact K7.out | exact heap_alloc_new _ _)
         (case aG => have := HB5.out.size; omega)
         (case aC => exact Kd.C_below HMw.out (below_then HB5.out HB5.out.size (show Below w5.heap.size w5 _ by repeat (first | with_reducible exact Below.refl _ _ | with_reducible apply below_drew | with_reducible apply below_alloc))))
         (case aB => exact below_then HB5.out HB5.out.size (show Below w5.heap.size w5 _ by repeat (first | with_reducible exact Below.refl _ _ | with_reducible apply below_drew | with_reducible apply below_alloc)))
         (case aS => exact Nat.le_trans HB5.out.size (Below.size (show Below w5.heap.size w5 _ by repeat (first | with_reducible exact Below.refl _ _ | with_reducible apply below_drew | with_reducible apply below_alloc))))
         (case aL => have := HP.out.2.2.2; simp only [List.length_nil]; omega)
         intro v6 w6 ho6 hb6 hg6
         obtain ⟨M', cm', rfl⟩ := Kd.R_slice (show k129.R 129 w6 w.heap.size (fun _ => True) v6 ms from ho6)
         have KX6 := keep_blk hg6 K5.out.1 (show Below w5.heap.size w5 _ by repeat (first | with_reducible exact Below.refl _ _ | with_reducible apply below_drew | with_reducible apply below_alloc)) (own_ne (by have := HB5.out.size; have := blk_lt K5.out.1; omega))
         have KR6 := keep_blk hg6 K5.out.2 (show Below w5.heap.size w5 _ by repeat (first | with_reducible exact Below.refl _ _ | with_reducible apply below_drew | with_reducible apply below_alloc)) (own_ne (by have := HB5.out.size; have := blk_lt K5.out.2; omega))
         have HF6 := Aside0.mk (over9 hg6 HF5.out (show Below w5.heap.size w5 _ by repeat (first | with_reducible exact Below.refl _ _ | with_reducible apply below_drew | with_reducible apply below_alloc)) (by first | exact K7.out | exact heap_alloc_new _ _))
         have HM6 := Aside0.mk ho6
         have HB6 := Aside0.mk hb6
         have HKR6 := Aside0.mk KR6
         have q0 : w6.cell? ⟨gX, 0, none⟩ = some (.slice FA fs.length cf) := (blk_cell KX6 0).trans rfl
         have q1 : w6.cell? ⟨gX, 1, none⟩ = some (.slice MA ms.length cm) := (blk_cell KX6 1).trans rfl
         obtain ⟨W9, hW9, hW9c, hst⟩ := stored_ex KR6 F' M' fs.length cf' ms.length cm'
         have HW9 := Aside0.mk hW9
         have r0 : W9.cell? ⟨gX, 0, none⟩ = some (.slice FA fs.length cf) := (hW9c _ (by show gX ≠ gX + 1; omega)).trans q0
         have r1 : W9.cell? ⟨gX, 1, none⟩ = some (.slice MA ms.length cm) := (hW9c _ (by show gX ≠ gX + 1; omega)).trans q1
         clear hW9c
         clear hW9
         clear ho6 hb6 hg6 KX6 KR6))
  all_goals
   (have RF := Kd.R_reads' (R_sets12 (show Kd.string.R 9 w6 w.heap.size (fun _ => True) (.slice F' fs.length cf') fs from HF6.out) HKR6.out (.slice F' fs.length cf') (.slice M' ms.length cm') noE9b)
    have RM := Kd.R_reads' (R_sets12 (show k129.R 129 w6 w.heap.size (fun _ => True) (.slice M' ms.length cm') ms from HM6.out) HKR6.out (.slice F' fs.length cf') (.slice M' ms.length cm') noE129)
    have HRF := Aside0.mk RF
    have HRM := Aside0.mk RM
    clear RF RM
    go_wp2_with fail
    have KR9 : W9.heap[gX + 1]? = some (.cells (langC (.slice F' fs.length cf') (.slice M' ms.length cm')) 45 (0, 0)) := by
      rw [← HW9.out]
      exact set12 HKR6.out (.slice F' fs.length cf') (.slice M' ms.length cm')
    refine bodyPost_ret (results_cell_row rfl _ _ (gX + 1) 45 (langC (.slice F' fs.length cf') (.slice M' ms.length cm')) (0, 0) _ rfl KR9 Try.underlying45 rfl (by kernel_rfl)) rfl ?_
    rw [← HW9.out]
    exact ⟨F', M', cf', cm', rfl, HRM.out.2.2, HRM.out.2.1, HRF.out.2.2, HRF.out.2.1, below_sets12 HB6.out (by have := GX.out; omega) _ _ _ _ _ _ _ _ _ _ _ _⟩)
end Go.Proofs.Ytknagjiipelfnaa.OL
