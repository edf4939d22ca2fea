/- reuse.Old: Find, Standing. -/
import Derived.Test.YtknagjiipelfnaaPass
import Derived.Deep.DeepCutAuto
namespace Go.Proofs.Ytknagjiipelfnaa.RU
open Go.RowKit Go.WideShapes Go.ChangeShapes Go.Proofs.YtknagjiipelfnaaW.PrintWords Go.Proofs.YtknagjiipelfnaaW.PrintLast Go.Proofs.YtknagjiipelfnaaW.PrintMore Go.Proofs.Ytknagjiipelfnaa.PAll
set_option linter.unusedVariables false

def zSt : St := (⟨#[]⟩, z68)
def rdSt (xs : List St) (k : Nat) : St := xs.getD k zSt
def hitO (bef : ByteArray) (val : Int) (x : St) : Bool := eqS x.1 bef && eqI x.2.f4 val
def findO (bef : ByteArray) (val : Int) (xs : List St) : Nat → Nat → Option S68
  | 0, _ => none
  | r + 1, k => if hitO bef val (rdSt xs k) = true then some (rdSt xs k).2 else findO bef val xs r (k + 1)
theorem findO_step (bef : ByteArray) (val : Int) (xs : List St) (k : Nat) (hk : k < xs.length) : findO bef val xs (xs.length - k) k = if hitO bef val (rdSt xs k) = true then some (rdSt xs k).2 else findO bef val xs (xs.length - (k + 1)) (k + 1) := by
  rw [show xs.length - k = (xs.length - (k + 1)) + 1 by omega]
  rfl
theorem at_St {w : World} {A : Option Addr} {n : Nat} {xs : List St} (h : Kd.C k109 w A n xs) (i : Int) (h0 : 0 ≤ i) (h1 : i < n) : ∃ ad, A = some ad ∧ w.cell? (ad.add (i.toNat * 7)) = some (.string (rdSt xs i.toNat).1) ∧ w.cell? ⟨(ad.add (i.toNat * 7)).block, (ad.add (i.toNat * 7)).off + 1, none⟩ = some (.int .i64 (rdSt xs i.toNat).2.f0) ∧ w.cell? ⟨(ad.add (i.toNat * 7)).block, (ad.add (i.toNat * 7)).off + 2, none⟩ = some (.int .i64 (rdSt xs i.toNat).2.f1) ∧ w.cell? ⟨(ad.add (i.toNat * 7)).block, (ad.add (i.toNat * 7)).off + 3, none⟩ = some (.int .i64 (rdSt xs i.toNat).2.f2) ∧ w.cell? ⟨(ad.add (i.toNat * 7)).block, (ad.add (i.toNat * 7)).off + 4, none⟩ = some (.int .i64 (rdSt xs i.toNat).2.f3) ∧ w.cell? ⟨(ad.add (i.toNat * 7)).block, (ad.add (i.toNat * 7)).off + 5, none⟩ = some (.int .u64 (rdSt xs i.toNat).2.f4) ∧ w.cell? ⟨(ad.add (i.toNat * 7)).block, (ad.add (i.toNat * 7)).off + 6, none⟩ = some (.string (rdSt xs i.toNat).2.f5) := by
  obtain ⟨ad, c, e, _, hK, hc0⟩ := Kd.C_get h zSt i h0 h1
  have hc : ∀ j u, c[j]? = some u → w.cell? (ad.add (i.toNat * 7 + j)) = some u := hc0
  obtain rfl := k109_open hK
  exact ⟨ad, e, hc 0 _ rfl, by rw [← add_field _ _ 1 (by omega)]; exact hc 1 _ rfl, by rw [← add_field _ _ 2 (by omega)]; exact hc 2 _ rfl, by rw [← add_field _ _ 3 (by omega)]; exact hc 3 _ rfl, by rw [← add_field _ _ 4 (by omega)]; exact hc 4 _ rfl, by rw [← add_field _ _ 5 (by omega)]; exact hc 5 _ rfl, by rw [← add_field _ _ 6 (by omega)]; exact hc 6 _ rfl⟩
set_option maxRecDepth 100000 in
set_option maxHeartbeats 8000000 in
theorem OFind_calls (g gm : Nat) (vs : Int → Value) (G : Int → List St) (cnt p val : Int) (bef : ByteArray) (w : World) (hO : OldS w g gm vs G cnt) (hp : (Lit.int .i64 p).wf = true) (hlen : (G p).length ≤ 1048576) :
    Calls Try.prog 23 #[.pointer (some ⟨g, 0, none⟩), .int .i64 p, .string bef, .int .u64 val] w fun e w' => e = .returned (fnd (findO bef val (G p) (G p).length 0)) ∧ Below w.heap.size w w' := by
  obtain ⟨oz, hoz⟩ : ∃ o : Obj, o = .cells #[.int .i64 0, .int .i64 0, .int .i64 0, .int .i64 0, .int .u64 0, .string ⟨#[]⟩] 68 (0, 0) := ⟨_, rfl⟩
  have hba : Below w.heap.size w (w.alloc oz) := below_alloc (Below.refl _ _) _
  have HB := Aside0.mk hba
  have hO1 := hO.moved hba
  have k0 := heap_alloc_new w oz
  have p0 : (w.alloc oz).cell? ⟨g, 0, none⟩ = some (.map (some gm)) := (blk_cell hO1.k 0).trans rfl
  obtain ⟨n, base, hm⟩ := hO1.m
  have hL := hm.look hp
  obtain ⟨A, c, he, hc, hC⟩ := Kd.R_reads (hm.r p)
  rw [he] at hL
  obtain ⟨xs, hxs⟩ : ∃ xs, G p = xs := ⟨_, rfl⟩
  rw [hxs] at hL hc hC hlen ⊢
  have HP := Aside0.mk (And.intro hc hlen)
  have HC := Aside0.mk hC
  clear hba hO1 hO hm he hc hC hlen hxs
  go_enter Try.func23, Try.ntmps23
  go_upto_region 1 with fail
  rw [← hoz]
  generalize w.alloc oz = w0 at HB HC k0 p0 hL ⊢
  rw [hoz] at k0
  obtain ⟨g8, hg8⟩ : ∃ g8, w.heap.size = g8 := ⟨_, rfl⟩
  have HG : Aside0 (w.heap.size ≤ g8) := ⟨by omega⟩
  rw [hg8] at k0 ⊢
  clear hg8
  have K : Aside0 (w0.heap[g8]? = some (lfC z68)) := ⟨k0⟩
  clear k0 hoz
  go_wp2_with fail
  clear hL p0
  go_loopw [11, 19] (fun v11 v19 wr => ∃ k : Nat, v19 = .int .i64 (k : Int) ∧ k ≤ xs.length ∧ Aside0 (findO bef val xs xs.length 0 = findO bef val xs (xs.length - k) k) ∧ Aside0 (Below w.heap.size w wr) ∧ Aside0 (Kd.C k109 wr A xs.length xs) ∧ Aside0 (wr.heap[g8]? = some (lfC z68))) (fun _ v19 _ => xs.length - (intOf v19).toNat)
  case atStart => exact ⟨0, rfl, by omega, ⟨rfl⟩, HB, HC, K⟩
  case round =>
    obtain ⟨k, rfl, hk, HF, HBr, HCr, HKr⟩ := hrel
    clear HB HC K
    by_cases hlt : k < xs.length
    · have e1 : decide ((k : Int) < (xs.length : Int)) = true := decide_eq_true (by omega)
      have e2 : decide (k < xs.length) = true := decide_eq_true hlt
      have e3 : (k : Int) < (xs.length : Int) := by omega
      have e4 : IntKind.i64.wrap ((k : Int) + 1) = (k : Int) + 1 := (i64_w _).trans (w64 (by have := HP.out.2; omega) (by have := HP.out.2; omega))
      have HLT := Aside0.mk hlt
      have HS := Aside0.mk (findO_step bef val xs k hlt)
      have hc := HP.out.1
      have hl := HP.out.2
      obtain ⟨ad, hA, z0, z1, z2, z3, z4, z5, z6⟩ := at_St HCr.out (k : Int) (by omega) (by omega)
      rw [Int.toNat_natCast] at z0 z1 z2 z3 z4 z5 z6
      obtain ⟨x, hx⟩ : ∃ x, rdSt xs k = x := ⟨_, rfl⟩
      rw [hx] at z0 z1 z2 z3 z4 z5 z6 HS
      subst hA
      clear hk hlt hx
      obtain ⟨oS, hoS⟩ : ∃ o : Obj, o = .cells #[.string x.1, .int .i64 x.2.f0, .int .i64 x.2.f1, .int .i64 x.2.f2, .int .i64 x.2.f3, .int .u64 x.2.f4, .string x.2.f5] 109 (0, 0) := ⟨_, rfl⟩
      have hBa : Below wr.heap.size wr (wr.alloc oS) := below_alloc (Below.refl _ _) _
      have kS : (wr.alloc oS).heap[wr.heap.size]? = some oS := heap_alloc_new wr oS
      have KS := Aside0.mk (kS.trans (congrArg some hoS))
      have HB1 := Aside0.mk (below_then HBr.out HBr.out.size hBa)
      have HC1 := Aside0.mk (Kd.C_below HCr.out hBa)
      have HK1 := Aside0.mk ((hBa.block _ (blk_lt HKr.out)).trans HKr.out)
      have lk := blk_lt HKr.out
      clear hBa kS HBr HCr HKr
      go_upto_region 4 with fail
      rw [← hoS]
      clear hoS z0 z1 z2 z3 z4 z5 z6
      obtain ⟨b1, hb1⟩ : ∃ b1, wr.heap.size = b1 := ⟨_, rfl⟩
      generalize wr.alloc oS = W1 at KS HB1 HC1 HK1 ⊢
      rw [hb1] at KS lk ⊢
      have LK := Aside0.mk lk
      clear hb1 lk
      have q0 : W1.cell? ⟨b1, 0, none⟩ = some (.string x.1) := (blk_cell KS.out 0).trans rfl
      have q5 : W1.cell? ⟨b1, 5, none⟩ = some (.int .u64 x.2.f4) := (blk_cell KS.out 5).trans rfl
      go_cut [33] (fun v33 wx => v33 = .bool (hitO bef val x) ∧ wx = W1)
      case first =>
        have HH : Aside0 (hitO bef val x = (eqS x.1 bef && eqI x.2.f4 val)) := ⟨rfl⟩
        cases hq : eqS x.1 bef with
        | false =>
          have hne := eqS_f hq
          have HW : Aside0 (hitO bef val x = false) := ⟨by rw [HH.out, hq]; rfl⟩
          clear hq HH
          go_wp2_with fail
          go_meet
          case rel => exact ⟨by rw [HW.out], rfl⟩
        | true =>
          have hy := eqS_t hq
          rw [hy] at q0
          cases hv : eqI x.2.f4 val with
          | false =>
            obtain ⟨t1, u1⟩ := eqI_f hv
            have HW : Aside0 (hitO bef val x = false) := ⟨by rw [HH.out, hq, hv]; rfl⟩
            clear hv hq hy HH
            go_wp2_with fail
            go_meet
            case rel => exact ⟨by rw [HW.out], rfl⟩
          | true =>
            obtain ⟨t1, u1⟩ := eqI_t hv
            have HW : Aside0 (hitO bef val x = true) := ⟨by rw [HH.out, hq, hv]; rfl⟩
            clear hv hq hy HH
            go_wp2_with fail
            go_meet
            case rel => exact ⟨by rw [HW.out], rfl⟩
      case rest =>
        obtain ⟨rfl, rfl⟩ := hcut
        cases hh : hitO bef val x with
        | false =>
          have HN : Aside0 (findO bef val xs xs.length 0 = findO bef val xs (xs.length - (k + 1)) (k + 1)) := ⟨by rw [HF.out, HS.out, hh]; rfl⟩
          clear HF HS hh q0 q5
          go_wp2_with fail
          go_roundw
          case measure => first | omega | (simp [intOf]; have := HLT.out; omega)
          case rel => exact ⟨k + 1, by congr 1, by have := HLT.out; omega, HN, HB1, HC1, HK1⟩
        | true =>
          have HN : Aside0 (findO bef val xs xs.length 0 = some x.2) := ⟨by rw [HF.out, HS.out, hh]; rfl⟩
          clear HF HS hh
          have kb := KS.out
          have r1 := blk_cell kb 1
          have r2 := blk_cell kb 2
          have r3 := blk_cell kb 3
          have r4 := blk_cell kb 4
          have r6 := blk_cell kb 6
          clear kb
          have k8 := HK1.out
          have s0 := blk_cell k8 0
          have f0 := blk_frozen k8 0
          have s1 := blk_cell k8 1
          have f1 := blk_frozen k8 1
          have s2 := blk_cell k8 2
          have f2 := blk_frozen k8 2
          have s3 := blk_cell k8 3
          have f3 := blk_frozen k8 3
          have s4 := blk_cell k8 4
          have f4 := blk_frozen k8 4
          have s5 := blk_cell k8 5
          have f5 := blk_frozen k8 5
          clear k8
          go_wp2_with fail
          (try simp only [Exit.inBlock, Exit.then])
          refine bodyPost_ret (v := .tuple #[lfV x.2, .bool true]) (by rw [results_cell_tmp (p := 8) (u := 9) (ty := 68) rfl]; first | (go_simp; done) | (go_simp; rfl)) rfl ?_
          exact ⟨by rw [HN.out]; rfl, below_sets6 HB1.out HG.out _ _ _ _ _ _⟩
    · have e1 : decide ((k : Int) < (xs.length : Int)) = false := decide_eq_false (by omega)
      have e2 : decide (k < xs.length) = false := decide_eq_false hlt
      obtain rfl : k = xs.length := by omega
      have HN : Aside0 (findO bef val xs xs.length 0 = none) := ⟨by rw [HF.out, Nat.sub_self]; rfl⟩
      clear HF hlt hk
      have k8 := HKr.out
      have q0 := blk_cell k8 0
      have f0 := blk_frozen k8 0
      have q1 := blk_cell k8 1
      have f1 := blk_frozen k8 1
      have q2 := blk_cell k8 2
      have f2 := blk_frozen k8 2
      have q3 := blk_cell k8 3
      have f3 := blk_frozen k8 3
      have q4 := blk_cell k8 4
      have f4 := blk_frozen k8 4
      have q5 := blk_cell k8 5
      have f5 := blk_frozen k8 5
      clear k8
      go_wp2_with fail
      (try simp only [Exit.inBlock, Exit.then])
      refine bodyPost_ret (v := .tuple #[.agg #[.int .i64 0, .int .i64 0, .int .i64 0, .int .i64 0, .int .u64 0, .string ⟨#[]⟩], .bool false]) (by rw [results_cell_tmp (p := 8) (u := 9) (ty := 68) rfl]; first | (go_simp; done) | (go_simp; rfl)) rfl ?_
      exact ⟨by rw [HN.out]; rfl, below_sets6 HBr.out HG.out _ _ _ _ _ _⟩
theorem OStanding_calls (g gm : Nat) (vs : Int → Value) (G : Int → List St) (cnt : Int) (w : World) (hO : OldS w g gm vs G cnt) :
    Calls Try.prog 21 #[.pointer (some ⟨g, 0, none⟩)] w fun e w' => e = .returned (.int .i64 cnt) ∧ Below w.heap.size w w' := by
  have p1 : w.cell? ⟨g, 1, none⟩ = some (.int .i64 cnt) := (blk_cell hO.k 1).trans rfl
  clear hO
  go_enter Try.func21, Try.ntmps21
  go_wp2_with fail
  go_ret
  exact ⟨rfl, Below.refl _ _⟩
end Go.Proofs.Ytknagjiipelfnaa.RU
