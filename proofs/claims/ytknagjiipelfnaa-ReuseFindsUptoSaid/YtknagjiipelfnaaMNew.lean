/- reuse: the document's model: New. -/
import Derived.Test.YtknagjiipelfnaaPure
import Derived.Deep.RegionLaw
import Derived.Deep.DeepCutAuto
namespace Go.Proofs.Ytknagjiipelfnaa.RU
open Go.RowKit Go.WideShapes Go.ChangeShapes Go.Proofs.YtknagjiipelfnaaW.PrintWords Go.Proofs.YtknagjiipelfnaaW.PrintLast Go.Proofs.YtknagjiipelfnaaW.PrintMore Go.Proofs.Ytknagjiipelfnaa.PAll
set_option linter.unusedVariables false

theorem R_append_any {P : Program} {ops : Array Oper} {o : Oper} {a : Act} {Q : Exit → Act → World → Prop} {Kc : Act → World → Prop} {α : Type} (d : Kd α) {w0 W : World} {E : Prop} (base : Nat) (hgd : o.guard = none) (s x : Operand) (t e : TypeId) (z : Value) (bytes : Nat)
    (ho : o.op = .call { callee := .builtin .append, args := #[s, x], argTypes := #[t, t] })
    (ht : P.underlying t = some (.slice e)) (hinfo : (P.info? e).map (fun i => (i.zero, i.size, i.bytes)) = some (some z, d.sz, bytes)) (hz : z.cells.size = d.sz) (hs0 : 0 < d.sz) (hb0 : 0 < bytes)
    (v : Value) (xs : List α) (p : α) (cs : List Value) (ok okp : Nat → Prop) (hs : a.eval s = v) (hx : a.eval x = .slice (some ⟨W.heap.size, 0, none⟩) 1 1) (hp : d.M W base okp p cs) (hokp : ∀ k, okp k → ok k ∧ some k ≠ v.ownBlock) (hfresh : ∀ k, W.heap.size ≤ k → ok k)
    (HO : d.R e W base ok v xs) (HB : Below base w0 W) (hbase : base ≤ W.heap.size) (hl : (xs.length + 1) * bytes ≤ 140737488355328)
    (h : ∀ v1 w1, d.R e w1 base ok v1 (xs ++ [p]) → Below base w0 w1 → W.grownBy w1 v.ownBlock → (v1.ownBlock = v.ownBlock ∨ ∃ b, v1.ownBlock = some b ∧ W.heap.size ≤ b) → Kc (a.put o.dst v1) w1) :
    if Region.wanted o (yielded ops a.tmps) = true then Oper.wp P o a (W.alloc (.cells cs.toArray e)) Kc Q else E := by
  have hw : Region.wanted o (yielded ops a.tmps) = true := by simp [Region.wanted, hgd]
  have h2 := Kd.R_append_step (P := P) (ops := ops) (Q := Q) (Kc := Kc) d (w0 := w0) base hw s x t e z bytes ho ht hinfo hz hs0 hb0 v xs p cs ok okp hs hx hp hokp hfresh HO HB hbase hl h
  rw [if_pos hw] at h2 ⊢
  exact h2
theorem R_opens {α : Type} {d : Kd α} {e base : Nat} {w : World} {A : Option Addr} {n c : Nat} {xs : List α} (h : d.R e w base T (.slice A n c) xs) : d.C w A xs.length xs ∧ xs.length ≤ c := ⟨(Kd.R_reads' h).2.2, (Kd.R_reads' h).1 ▸ (Kd.R_reads' h).2.1⟩
abbrev rC (c a wt rt : Int) (A3 A4 : Option Addr) (n3 c3 n4 c4 : Nat) : Obj := .cells #[.int .i64 c, .int .i64 a, .int .u64 wt, .slice A3 n3 c3, .slice A4 n4 c4, .int .i64 rt] 60 (0, 0)
abbrev eC (ea ed : Int) (es : ByteArray) : Obj := .cells #[.int .i64 ea, .int .i64 ed, .string es] 54 (0, 0)
abbrev mC (v : Value) (x y z : Int) : Obj := .cells #[v, .int .i64 x, .int .i64 y, .int .i64 z] 112 (0, 0)
theorem clamp_calls (k lo hi : Int) (w : World) : Calls Try.prog 45 #[.int .i64 k, .int .i64 lo, .int .i64 hi] w fun e w' => e = .returned (.int .i64 (clI k lo hi)) ∧ Below w.heap.size w w' :=
  (trellisref17_clamp.calls k lo hi _ w (clamp_f k lo hi)).mono fun e w' ⟨h1, h2⟩ => ⟨h1, h2.below⟩
theorem RRight_calls (n c a wt rt : Int) (A3 A4 : Option Addr) (c3 c4 : Nat) (ls : List S68) (ns : List S50) (w : World) (hr3 : Kd.C k68 w A3 ls.length ls) (hc3 : ls.length ≤ c3) (hr4 : Kd.C k50 w A4 ns.length ns) (hc4 : ns.length ≤ c4) (hl : ls.length ≤ 1048576) :
    Calls Try.prog 44 #[.int .i64 n, .agg #[.int .i64 c, .int .i64 a, .int .u64 wt, .slice A3 ls.length c3, .slice A4 ns.length c4, .int .i64 rt]] w fun e w' => e = .returned (.bool (rightB n ls)) ∧ Below w.heap.size w w' :=
  trellisref17_Right.calls _ n c a wt A3 c3 ls A4 c4 ns rt _ w hr3 hc3 hr4 hc4 (right_f n c a wt rt ls ns hl)
theorem C_nil (w : World) : Kd.C k68 w none 0 ([] : List S68) := ⟨rfl, by decide, fun h => by cases h⟩
set_option maxRecDepth 100000 in
set_option maxHeartbeats 8000000 in
theorem MNew_calls (n c a wt rt ea ed : Int) (es : ByteArray) (A3 A4 : Option Addr) (c3 c4 : Nat) (ls : List S68) (ns : List S50) (w : World) (hr3 : Kd.C k68 w A3 ls.length ls) (hc3 : ls.length ≤ c3) (hr4 : Kd.C k50 w A4 ns.length ns) (hc4 : ns.length ≤ c4) (hl : ls.length ≤ 1048576) (hs : es.size ≤ 1048576) :
    Calls Try.prog 19 #[.int .i64 n, .agg #[.int .i64 c, .int .i64 a, .int .u64 wt, .slice A3 ls.length c3, .slice A4 ns.length c4, .int .i64 rt], .agg #[.int .i64 ea, .int .i64 ed, .string es]] w fun e w' =>
      ∃ g A cc, e = .returned (.pointer (some ⟨g, 0, none⟩)) ∧ Mdl w' g A cc (mLs n ls) (mAt n ls ea) (mDel n ls ea ed) (mIns n ls es) ∧ Below w.heap.size w w' ∧ w.heap.size ≤ g ∧ (∀ ad, A = some ad → w.heap.size ≤ ad.block) := by
  obtain ⟨o1, ho1⟩ : ∃ o : Obj, o = .cells #[.int .i64 c, .int .i64 a, .int .u64 wt, .slice A3 ls.length c3, .slice A4 ns.length c4, .int .i64 rt] 60 (0, 0) := ⟨_, rfl⟩
  obtain ⟨o2, ho2⟩ : ∃ o : Obj, o = .cells #[.int .i64 ea, .int .i64 ed, .string es] 54 (0, 0) := ⟨_, rfl⟩
  obtain ⟨o3, ho3⟩ : ∃ o : Obj, o = .cells #[.slice none 0 0, .int .i64 0, .int .i64 0, .int .i64 0] 112 (0, 0) := ⟨_, rfl⟩
  obtain ⟨w1, hw1⟩ : ∃ w1, w1 = w.alloc o1 := ⟨_, rfl⟩
  obtain ⟨w2, hw2⟩ : ∃ w2, w2 = w1.alloc o2 := ⟨_, rfl⟩
  obtain ⟨w3, hw3⟩ : ∃ w3, w3 = w2.alloc o3 := ⟨_, rfl⟩
  have b1 : Below w.heap.size w w1 := by rw [hw1]; exact below_alloc (Below.refl _ _) _
  have b2 : Below w1.heap.size w1 w2 := by rw [hw2]; exact below_alloc (Below.refl _ _) _
  have b3 : Below w2.heap.size w2 w3 := by rw [hw3]; exact below_alloc (Below.refl _ _) _
  have z1 : w1.heap.size = w.heap.size + 1 := by rw [hw1]; simp
  have z2 : w2.heap.size = w.heap.size + 1 + 1 := by rw [hw2, ← z1]; simp
  have k1 : w1.heap[w.heap.size]? = some o1 := by rw [hw1]; exact heap_alloc_new w _
  have k2 : w2.heap[w.heap.size + 1]? = some o2 := by rw [hw2, ← z1]; exact heap_alloc_new w1 _
  have k3 : w3.heap[w.heap.size + 1 + 1]? = some o3 := by rw [hw3, ← z2]; exact heap_alloc_new w2 _
  have KR := Aside0.mk ((b3.block _ (by omega)).trans ((b2.block _ (by omega)).trans k1))
  have KE := Aside0.mk ((b3.block _ (by omega)).trans k2)
  have KM := Aside0.mk k3
  have HB := Aside0.mk (below_then (below_then b1 b1.size b2) (Nat.le_trans b1.size b2.size) b3)
  have H3 := Aside0.mk (Kd.C_below hr3 HB.out)
  have H4 := Aside0.mk (Kd.C_below hr4 HB.out)
  have H3w := Aside0.mk hr3
  have HP := Aside0.mk (And.intro hc3 (And.intro hc4 (And.intro hl hs)))
  rw [ho1] at KR
  rw [ho2] at KE
  rw [ho3] at KM
  clear b1 b2 b3 z1 z2 k1 k2 k3 hr3 hr4 hc3 hc4 hl hs
  go_enter Try.func19, Try.ntmps19
  go_wp2_with fail
  rw [← ho1, ← ho2, ← ho3, ← hw1, ← hw2, ← hw3]
  clear ho1 ho2 ho3 hw1 hw2 hw3
  obtain ⟨gr, hgr⟩ : ∃ g, w.heap.size = g := ⟨_, rfl⟩
  have GR : Aside0 (w.heap.size ≤ gr) := ⟨by omega⟩
  rw [hgr] at KR KE KM ⊢
  clear hgr
  refine (RRight_calls n c a wt rt A3 A4 c3 c4 ls ns w3 H3.out HP.out.1 H4.out HP.out.2.1 HP.out.2.2.1).mono ?_
  rintro e w4 ⟨rfl, hB⟩
  have HB4 := Aside0.mk (below_then HB.out HB.out.size hB)
  have KR4 := Aside0.mk ((hB.block _ (blk_lt KR.out)).trans KR.out)
  have KE4 := Aside0.mk ((hB.block _ (blk_lt KE.out)).trans KE.out)
  have KM4 := Aside0.mk ((hB.block _ (blk_lt KM.out)).trans KM.out)
  clear hB HB KR KE KM H3 H4
  cases hR : rightB n ls with
  | false =>
    have HE : Aside0 (rightB n ls = false) := ⟨hR⟩
    clear hR
    go_wp2_with fail
    go_ret
    refine ⟨_, none, 0, rfl, ?_, HB4.out, by have := GR.out; omega, fun _ h => by cases h⟩
    unfold mLs mAt mDel mIns
    rw [HE.out]
    exact ⟨KM4.out, Nat.le_refl _, C_nil _⟩
  | true =>
    have HE : Aside0 (rightB n ls = true) := ⟨hR⟩
    have HN := Aside0.mk (right_n hR).1
    clear hR
    go_wp2_with fail
    go_loopw [8] (fun v8 wr => ∃ (i : Nat) (v : Value), v8 = .int .i64 (i : Int) ∧ i ≤ ls.length ∧ Aside0 (wr.heap[gr]? = some (rC c a wt rt A3 A4 ls.length c3 ns.length c4)) ∧ Aside0 (wr.heap[gr + 1]? = some (eC ea ed es)) ∧ Aside0 (wr.heap[gr + 1 + 1]? = some (mC v 0 0 0)) ∧ Aside0 (Kd.R k68 68 wr w.heap.size T v (ls.take i)) ∧ Aside0 (Below w.heap.size w wr)) (fun v8 _ => ls.length - (intOf v8).toNat)
    case atStart => exact ⟨0, _, rfl, by omega, KR4, KE4, KM4, ⟨by rw [List.take_zero]; exact Kd.R_nil _ _ _ _ _⟩, HB4⟩
    case round =>
      obtain ⟨i, v, rfl, hi, KRr, KEr, KMr, HRr, HBr⟩ := hrel
      clear KR4 KE4 KM4 HB4
      have q3 : wr.cell? ⟨gr, 3, none⟩ = some (.slice A3 ls.length c3) := (blk_cell KRr.out 3).trans rfl
      by_cases hlt : i < ls.length
      · have e1 : decide ((i : Int) < (ls.length : Int)) = true := decide_eq_true (by omega)
        have e2 : decide (i < ls.length) = true := decide_eq_true hlt
        have e3 : (i : Int) < (ls.length : Int) := by omega
        have hl := HP.out.2.2.1
        have hc := HP.out.1
        have e4 : IntKind.i64.wrap ((i : Int) + 1) = (i : Int) + 1 := (i64_w _).trans (w64 (by omega) (by omega))
        obtain ⟨ad, hA, y0, y1, y2, y3, y4, y5⟩ := at_T68 H3w.out (i : Int) (by omega) (by omega)
        have htk : ls.take (i + 1) = ls.take i ++ [rd_T68 ls (i : Int)] := by rw [rdL ls i hlt]; exact List.take_succ_eq_append_getElem hlt
        have htl : (ls.take i).length = i := by rw [List.length_take]; omega
        have had := World.block_lt_of_cell? w _ y0
        rw [Int.toNat_natCast] at y0 y1 y2 y3 y4 y5 had
        obtain ⟨x, hx⟩ : ∃ x, rd_T68 ls (i : Int) = x := ⟨_, rfl⟩
        rw [hx] at y0 y1 y2 y3 y4 y5 htk
        have Y : ∀ w' : World, Below w.heap.size w w' → w'.cell? (ad.add (i * 6)) = some (.int .i64 x.f0) ∧ w'.cell? ⟨(ad.add (i * 6)).block, (ad.add (i * 6)).off + 1, none⟩ = some (.int .i64 x.f1) ∧ w'.cell? ⟨(ad.add (i * 6)).block, (ad.add (i * 6)).off + 2, none⟩ = some (.int .i64 x.f2) ∧ w'.cell? ⟨(ad.add (i * 6)).block, (ad.add (i * 6)).off + 3, none⟩ = some (.int .i64 x.f3) ∧ w'.cell? ⟨(ad.add (i * 6)).block, (ad.add (i * 6)).off + 4, none⟩ = some (.int .u64 x.f4) ∧ w'.cell? ⟨(ad.add (i * 6)).block, (ad.add (i * 6)).off + 5, none⟩ = some (.string x.f5) := fun w' hb =>
          ⟨(hb.cell had).trans y0, (hb.cell (p := ⟨(ad.add (i * 6)).block, (ad.add (i * 6)).off + 1, none⟩) had).trans y1, (hb.cell (p := ⟨(ad.add (i * 6)).block, (ad.add (i * 6)).off + 2, none⟩) had).trans y2, (hb.cell (p := ⟨(ad.add (i * 6)).block, (ad.add (i * 6)).off + 3, none⟩) had).trans y3, (hb.cell (p := ⟨(ad.add (i * 6)).block, (ad.add (i * 6)).off + 4, none⟩) had).trans y4, (hb.cell (p := ⟨(ad.add (i * 6)).block, (ad.add (i * 6)).off + 5, none⟩) had).trans y5⟩
        have HY := Aside0.mk Y
        have HTK := Aside0.mk htk
        have HTL := Aside0.mk htl
        have HLT := Aside0.mk hlt
        subst hA
        clear Y htk htl hlt hx y0 y1 y2 y3 y4 y5 had hi
        obtain ⟨z0, z1, z2, z3, z4, z5⟩ := HY.out wr HBr.out
        have m0 : wr.cell? ⟨gr + 1 + 1, 0, none⟩ = some v := (blk_cell KMr.out 0).trans rfl
        have n0 := blk_frozen KMr.out 0
        obtain ⟨ys, hys⟩ : ∃ ys, ls.take i = ys := ⟨_, rfl⟩
        rw [hys] at HRr HTK HTL
        clear hys
        obtain ⟨Av, cv, rfl⟩ := Kd.R_slice HRr.out
        have m0a : (wr.alloc (.cells #[.int .i64 x.f0, .int .i64 x.f1, .int .i64 x.f2, .int .i64 x.f3, .int .u64 x.f4, .string x.f5] 68)).cell? ⟨gr + 1 + 1, 0, none⟩ = some (.slice Av ys.length cv) := by rw [World.cell?_alloc_lt _ _ ⟨gr + 1 + 1, 0, none⟩ (blk_lt KMr.out)]; exact m0
        go_upto_region 7 with fail
        have HBd : Aside0 (Below w.heap.size w wr.drew) := ⟨below_drew HBr.out⟩
        have HRd : Aside0 (Kd.R k68 68 wr.drew w.heap.size T (.slice Av ys.length cv) ys) := ⟨by with_reducible apply Kd.R_drew; exact HRr.out⟩
        have KMd : Aside0 (wr.drew.heap[gr + 1 + 1]? = some (mC (.slice Av ys.length cv) 0 0 0)) := ⟨KMr.out⟩
        have KRd : Aside0 (wr.drew.heap[gr]? = some (rC c a wt rt (some ad) A4 ls.length c3 ns.length c4)) := ⟨KRr.out⟩
        have KEd : Aside0 (wr.drew.heap[gr + 1]? = some (eC ea ed es)) := ⟨KEr.out⟩
        clear HBr HRr KMr KRr KEr
        go_region_law
          (first
            | (rw [show (wr.alloc (.cells #[.int .i64 x.f0, .int .i64 x.f1, .int .i64 x.f2, .int .i64 x.f3, .int .u64 x.f4, .string x.f5] 68)).drew = wr.drew.alloc (.cells #[.int .i64 x.f0, .int .i64 x.f1, .int .i64 x.f2, .int .i64 x.f3, .int .u64 x.f4, .string x.f5] 68) from rfl]
               refine R_append_any k68 (w0 := w) w.heap.size (by rfl) (.tmp 27) (.tmp 33) 52 68 (.agg #[.int .i64 0, .int .i64 0, .int .i64 0, .int .i64 0, .int .u64 0, .string ⟨#[]⟩]) 56 (by rfl) Try.underlying52 info68 rfl (by decide) (by omega) (.slice Av ys.length cv) ys x [.int .i64 x.f0, .int .i64 x.f1, .int .i64 x.f2, .int .i64 x.f3, .int .u64 x.f4, .string x.f5] T (fun _ => False) ?aE ?aE2 ?aP (fun _ hk => hk.elim) ?aF ?aO ?aB ?aS ?aL ?_
               (case aE => exact rfl)
               (case aE2 => exact rfl)
               (case aP => exact k68_mkM _ _ _ x)
               (case aB => exact HBd.out)
               (case aF => exact fun _ _ => trivial)
               (case aO => exact HRd.out)
               (case aS => exact HBd.out.size)
               (case aL => rw [HTL.out]; have := HLT.out; omega)
               intro v1 w9 ho hb hg hat
               obtain ⟨A1, c1, rfl⟩ := Kd.R_slice ho
               rw [show (ys ++ [x]).length = ys.length + 1 by simp] at ho
               have hM9 := blk_grown KMd.out hg (Kd.R_ne HRd.out KMd.out (by decide))
               have hR9 := blk_grown KRd.out hg (Kd.R_ne HRd.out KRd.out (by decide))
               have hE9 := blk_grown KEd.out hg (Kd.R_ne HRd.out KEd.out (by decide))
               have q90 : w9.cell? ⟨gr + 1 + 1, 0, none⟩ = some (.slice Av ys.length cv) := (blk_cell hM9 0).trans rfl
               have f90 := blk_frozen hM9 0
               have q93 : w9.cell? ⟨gr, 3, none⟩ = some (.slice (some ad) ls.length c3) := (blk_cell hR9 3).trans rfl
               obtain ⟨z90, z91, z92, z93, z94, z95⟩ := HY.out w9 hb
               have KM9 := Aside0.mk hM9
               have KR9 := Aside0.mk hR9
               have KE9 := Aside0.mk hE9
               have HR9 := Aside0.mk ho
               have HB9 := Aside0.mk hb
               clear ho hb hg hat hM9 hR9 hE9))
        all_goals
          (go_wp2_with fail
           go_roundw
           case rel => exact ⟨i + 1, _, by congr 1, by have := HLT.out; omega, ⟨blk_far KR9.out (by show gr ≠ gr + 1 + 1; omega) _⟩, ⟨blk_far KE9.out (by show gr + 1 ≠ gr + 1 + 1; omega) _⟩, ⟨(blk_set KM9.out 0 _).trans rfl⟩, ⟨by rw [HTK.out]; exact Kd.R_set HR9.out KM9.out (by decide) 0 _⟩, ⟨below_set HB9.out (by have := GR.out; omega)⟩⟩
           case measure => first | omega | (simp [intOf]; have := HLT.out; omega))
      · have e1 : decide ((i : Int) < (ls.length : Int)) = false := decide_eq_false (by omega)
        have e2 : decide (i < ls.length) = false := decide_eq_false hlt
        obtain rfl : i = ls.length := by omega
        have HRf : Aside0 (Kd.R k68 68 wr w.heap.size T v ls) := ⟨by have := HRr.out; rwa [List.take_length] at this⟩
        have HN2 := HN
        clear HRr hlt hi
        have p0 : wr.cell? ⟨gr + 1, 0, none⟩ = some (.int .i64 ea) := (blk_cell KEr.out 0).trans rfl
        go_wp2_with fail
        refine (clamp_calls ea 0 n wr).mono ?_
        rintro e w5 ⟨rfl, hB⟩
        have HB5 := Aside0.mk (below_then HBr.out HBr.out.size hB)
        have KE5 := Aside0.mk ((hB.block _ (blk_lt KEr.out)).trans KEr.out)
        have KM5 := Aside0.mk ((hB.block _ (blk_lt KMr.out)).trans KMr.out)
        have HR5 := Aside0.mk (Kd.R_below HRf.out hB)
        clear hB HBr KEr KMr KRr HRf p0 q3
        have s1 := blk_cell KM5.out 1
        have f1 := blk_frozen KM5.out 1
        have hat := cl_bounds (k := ea) HN.out.1
        obtain ⟨at_, hat_⟩ : ∃ x, clI ea 0 n = x := ⟨_, rfl⟩
        rw [hat_] at hat ⊢
        have HAT := Aside0.mk hat_
        have HATB := Aside0.mk hat
        clear hat_ hat
        go_upto_region 9 with fail
        have KM6 : Aside0 ((w5.setCell ⟨gr + 1 + 1, 1, none⟩ (.int .i64 at_)).heap[gr + 1 + 1]? = some (mC v at_ 0 0)) := ⟨(blk_set KM5.out 1 _).trans rfl⟩
        have KE6 : Aside0 ((w5.setCell ⟨gr + 1 + 1, 1, none⟩ (.int .i64 at_)).heap[gr + 1]? = some (eC ea ed es)) := ⟨blk_far KE5.out (by show gr + 1 ≠ gr + 1 + 1; omega) _⟩
        have HR6 : Aside0 (Kd.R k68 68 (w5.setCell ⟨gr + 1 + 1, 1, none⟩ (.int .i64 at_)) w.heap.size T v ls) := ⟨Kd.R_set HR5.out KM5.out (by decide) 1 _⟩
        have HB6 : Aside0 (Below w.heap.size w (w5.setCell ⟨gr + 1 + 1, 1, none⟩ (.int .i64 at_))) := ⟨below_set HB5.out (by have := GR.out; omega)⟩
        generalize w5.setCell ⟨gr + 1 + 1, 1, none⟩ (.int .i64 at_) = w6 at KM6 KE6 HR6 HB6 ⊢
        clear KM5 KE5 HR5 HB5 s1 f1
        have p1 : w6.cell? ⟨gr + 1, 1, none⟩ = some (.int .i64 ed) := (blk_cell KE6.out 1).trans rfl
        have s1 : w6.cell? ⟨gr + 1 + 1, 1, none⟩ = some (.int .i64 at_) := (blk_cell KM6.out 1).trans rfl
        have g1 : IntKind.i64.wrap (n - at_) = n - at_ := (i64_w _).trans (w64 (by have := HATB.out; have := HN.out; omega) (by have := HATB.out; have := HN.out; omega))
        go_region_law
          (first
            | (go_simp
               go_at_call 45
               refine (clamp_calls ed 0 (n - at_) w6.drew).mono ?_
               rintro e w7 ⟨rfl, hB0⟩
               have hB : Below w6.heap.size w6 w7 := Below.trans (below_drew (Below.refl _ _)) hB0
               have HB7 := Aside0.mk (below_then HB6.out HB6.out.size hB)
               have KE7 := Aside0.mk ((hB.block _ (blk_lt KE6.out)).trans KE6.out)
               have KM7 := Aside0.mk ((hB.block _ (blk_lt KM6.out)).trans KM6.out)
               have HR7 := Aside0.mk (Kd.R_below HR6.out hB)
               have s2 := blk_cell KM7.out 2
               have f2 := blk_frozen KM7.out 2
               clear hB hB0))
        all_goals
          (have KM8 : Aside0 ((w7.setCell ⟨gr + 1 + 1, 2, none⟩ (.int .i64 (clI ed 0 (n - at_)))).heap[gr + 1 + 1]? = some (mC v at_ (clI ed 0 (n - at_)) 0)) := ⟨(blk_set KM7.out 2 _).trans rfl⟩
           have KE8 : Aside0 ((w7.setCell ⟨gr + 1 + 1, 2, none⟩ (.int .i64 (clI ed 0 (n - at_)))).heap[gr + 1]? = some (eC ea ed es)) := ⟨blk_far KE7.out (by show gr + 1 ≠ gr + 1 + 1; omega) _⟩
           have HR8 : Aside0 (Kd.R k68 68 (w7.setCell ⟨gr + 1 + 1, 2, none⟩ (.int .i64 (clI ed 0 (n - at_)))) w.heap.size T v ls) := ⟨Kd.R_set HR7.out KM7.out (by decide) 2 _⟩
           have HB8 : Aside0 (Below w.heap.size w (w7.setCell ⟨gr + 1 + 1, 2, none⟩ (.int .i64 (clI ed 0 (n - at_))))) := ⟨below_set HB7.out (by have := GR.out; omega)⟩
           have HD : Aside0 (delC n ea ed = clI ed 0 (n - at_)) := ⟨by unfold delC atC; rw [HAT.out]⟩
           generalize clI ed 0 (n - at_) = dl at KM8 KE8 HR8 HB8 HD ⊢
           generalize w7.setCell ⟨gr + 1 + 1, 2, none⟩ (.int .i64 dl) = w8 at KM8 KE8 HR8 HB8 ⊢
           clear KM7 KE7 HR7 HB7 s1 p1
           have p2 : w8.cell? ⟨gr + 1, 2, none⟩ = some (.string es) := (blk_cell KE8.out 2).trans rfl
           have s3 := blk_cell KM8.out 3
           have f3 := blk_frozen KM8.out 3
           go_wp2_with fail
           go_ret
           obtain ⟨A, cc, rfl⟩ := Kd.R_slice HR8.out
           have hrd := Kd.R_reads' HR8.out
           refine ⟨gr + 1 + 1, A, cc, rfl, ?_, below_set HB8.out (by have := GR.out; omega), by have := GR.out; omega, fun ad he => by subst he; exact Kd.R_base HR8.out _ rfl⟩
           unfold mLs mAt mDel mIns
           rw [if_pos HE.out, if_pos HE.out, if_pos HE.out, if_pos HE.out, HD.out, show atC n ea = at_ from HAT.out]
           have hR9 := Kd.R_set HR8.out KM8.out (by decide) 3 (.int .i64 (es.size : Int))
           exact ⟨(blk_set KM8.out 3 _).trans rfl, (R_opens hR9).2, (R_opens hR9).1⟩)
end Go.Proofs.Ytknagjiipelfnaa.RU
