/- reuse: the document's model: Find. -/
import Derived.Test.YtknagjiipelfnaaModel2
import Derived.Deep.DeepCutAuto
namespace Go.Proofs.Ytknagjiipelfnaa.RU
open Go.RowKit Go.WideShapes Go.ChangeShapes Go.Proofs.YtknagjiipelfnaaW.PrintWords Go.Proofs.YtknagjiipelfnaaW.PrintLast Go.Proofs.YtknagjiipelfnaaW.PrintMore Go.Proofs.Ytknagjiipelfnaa.PAll
set_option linter.unusedVariables false

def eqI (x y : Int) : Bool := decide (x = y)
def eqS (x y : ByteArray) : Bool := decide (x = y)
def thereB (ls : List S68) (a d s p : Int) (k : Nat) : Bool := (stayB ls a k && eqI (begN ls k) p) || (moveB ls a d k && eqI (begN ls k - d + s) p)
def hitB (ls : List S68) (a d s p : Int) (bef : ByteArray) (val : Int) (k : Nat) : Bool := thereB ls a d s p k && (eqS (aheadS ls k) bef && eqI (rd_T68 ls (k : Int)).f4 val)
def findM (h : Nat → Bool) (ls : List S68) : Nat → Nat → Option S68
  | 0, _ => none
  | r + 1, k => if h k = true then some (rd_T68 ls (k : Int)) else findM h ls r (k + 1)
theorem findM_step (h : Nat → Bool) (ls : List S68) (k : Nat) (hk : k < ls.length) : findM h ls (ls.length - k) k = if h k = true then some (rd_T68 ls (k : Int)) else findM h ls (ls.length - (k + 1)) (k + 1) := by
  rw [show ls.length - k = (ls.length - (k + 1)) + 1 by omega]
  rfl
abbrev lfV (x : S68) : Value := .agg #[.int .i64 x.f0, .int .i64 x.f1, .int .i64 x.f2, .int .i64 x.f3, .int .u64 x.f4, .string x.f5]
abbrev lfC (x : S68) : Obj := .cells #[.int .i64 x.f0, .int .i64 x.f1, .int .i64 x.f2, .int .i64 x.f3, .int .u64 x.f4, .string x.f5] 68 (0, 0)
def fnd (o : Option S68) : Value := .tuple #[lfV (o.getD z68), .bool o.isSome]
theorem below_sets6 {B : Nat} {w w1 : World} {g : Nat} (h : Below B w w1) (hg : B ≤ g) (v0 v1 v2 v3 v4 v5 : Value) : Below B w ((((((w1.setCell ⟨g, 0, none⟩ v0).setCell ⟨g, 1, none⟩ v1).setCell ⟨g, 2, none⟩ v2).setCell ⟨g, 3, none⟩ v3).setCell ⟨g, 4, none⟩ v4).setCell ⟨g, 5, none⟩ v5) :=
  (((((h.setCell hg v0).setCell hg v1).setCell hg v2).setCell hg v3).setCell hg v4).setCell hg v5
theorem eqS_t {x y : ByteArray} (h : eqS x y = true) : x = y := of_decide_eq_true h
theorem eqS_f {x y : ByteArray} (h : eqS x y = false) : ¬ x.toList = y.toList := by
  intro e
  rw [ByteArray.toList_eq, ByteArray.toList_eq] at e
  exact of_decide_eq_false h (ByteArray.ext (Array.ext' e))
theorem eqI_t {x y : Int} (h : eqI x y = true) : decide (x = y) = true ∧ (x == y) = true := by
  unfold eqI at h
  exact ⟨h, by rw [beq_iff_eq]; exact of_decide_eq_true h⟩
theorem eqI_f {x y : Int} (h : eqI x y = false) : decide (x = y) = false ∧ (x == y) = false := by
  unfold eqI at h
  exact ⟨h, beq_eq_false_iff_ne.2 (of_decide_eq_false h)⟩
set_option maxRecDepth 100000 in
set_option maxHeartbeats 8000000 in
theorem MFind_calls (g : Nat) (A : Option Addr) (c : Nat) (ls : List S68) (a d s p val : Int) (bef : ByteArray) (w : World) (hM : Mdl w g A c ls a d s) (hO : MOk ls a d s) :
    Calls Try.prog 24 #[.pointer (some ⟨g, 0, none⟩), .int .i64 p, .string bef, .int .u64 val] w fun e w' => e = .returned (fnd (findM (hitB ls a d s p bef val) ls ls.length 0)) ∧ Below w.heap.size w w' := by
  obtain ⟨oz, hoz⟩ : ∃ o : Obj, o = .cells #[.int .i64 0, .int .i64 0, .int .i64 0, .int .i64 0, .int .u64 0, .string ⟨#[]⟩] 68 (0, 0) := ⟨_, rfl⟩
  have hba : Below w.heap.size w (w.alloc oz) := below_alloc (Below.refl _ _) _
  have HB := Aside0.mk hba
  have HM := Aside0.mk (hM.moved hba)
  have HO := Aside0.mk hO
  have k0 := heap_alloc_new w oz
  clear hba hM hO
  go_enter Try.func24, Try.ntmps24
  go_wp2_with fail
  rw [← hoz]
  generalize w.alloc oz = w0 at HB HM k0 ⊢
  rw [hoz] at k0
  have HG : Aside0 (w.heap.size ≤ w.heap.size) := ⟨Nat.le_refl _⟩
  obtain ⟨g8, hg8⟩ : ∃ g8, w.heap.size = g8 := ⟨_, rfl⟩
  have HG : Aside0 (w.heap.size ≤ g8) := ⟨by omega⟩
  rw [hg8] at k0 ⊢
  clear hg8
  have K : Aside0 (w0.heap[g8]? = some (lfC z68)) := ⟨k0⟩
  clear k0 hoz
  go_loopw [10, 11] (fun v10 v11 wr => ∃ k : Nat, v10 = .int .i64 (k : Int) ∧ k ≤ ls.length ∧ Aside0 (findM (hitB ls a d s p bef val) ls ls.length 0 = findM (hitB ls a d s p bef val) ls (ls.length - k) k) ∧ Aside0 (Below w.heap.size w wr) ∧ Aside0 (Mdl wr g A c ls a d s) ∧ Aside0 (wr.heap[g8]? = some (lfC z68))) (fun v10 _ _ => ls.length - (intOf v10).toNat)
  case atStart => exact ⟨0, rfl, by omega, ⟨rfl⟩, HB, HM, K⟩
  case round =>
    obtain ⟨k, rfl, hk, HF, HBr, HMr, HKr⟩ := hrel
    clear HB HM K
    have p0 : wr.cell? ⟨g, 0, none⟩ = some (.slice A ls.length c) := (blk_cell HMr.out.k 0).trans rfl
    have p2 : wr.cell? ⟨g, 2, none⟩ = some (.int .i64 d) := (blk_cell HMr.out.k 2).trans rfl
    have p3 : wr.cell? ⟨g, 3, none⟩ = some (.int .i64 s) := (blk_cell HMr.out.k 3).trans rfl
    by_cases hlt : k < ls.length
    · have e1 : decide ((k : Int) < (ls.length : Int)) = true := decide_eq_true (by omega)
      have e2 : decide (k < ls.length) = true := decide_eq_true hlt
      have e4 : IntKind.i64.wrap ((k : Int) + 1) = (k : Int) + 1 := (i64_w _).trans (w64 (by have := HO.out.l; omega) (by have := HO.out.l; omega))
      have HLT := Aside0.mk hlt
      have hs := findM_step (hitB ls a d s p bef val) ls k hlt
      have hh : hitB ls a d s p bef val k = (thereB ls a d s p k && (eqS (aheadS ls k) bef && eqI (rd_T68 ls (k : Int)).f4 val)) := rfl
      have ht : thereB ls a d s p k = ((stayB ls a k && eqI (begN ls k) p) || (moveB ls a d k && eqI (begN ls k - d + s) p)) := rfl
      have HT := Aside0.mk ht
      have HH := Aside0.mk hh
      have HS := Aside0.mk hs
      clear hs hh ht hk hlt
      go_upto_region 4 with fail
      go_cut [11] (fun v11 wx => v11 = .bool (thereB ls a d s p k) ∧ ∃ m, wx = wr.drewN m)
      case first =>
        have hb := HO.out.b k (Nat.le_of_lt HLT.out)
        have hd := HO.out.d
        have hs := HO.out.s
        obtain ⟨y, hy⟩ : ∃ y, begN ls k = y := ⟨_, rfl⟩
        rw [hy] at hb HT
        have g1 : IntKind.i64.wrap (y - d) = y - d := (i64_w _).trans (w64 (by omega) (by omega))
        have g2 : IntKind.i64.wrap (y - d + s) = y - d + s := (i64_w _).trans (w64 (by omega) (by omega))
        have HY := Aside0.mk hy
        clear hy hb hd hs
        obtain ⟨b1, hb1⟩ : ∃ b, stayB ls a k = b := ⟨_, rfl⟩
        obtain ⟨b2, hb2⟩ : ∃ b, eqI y p = b := ⟨_, rfl⟩
        obtain ⟨b3, hb3⟩ : ∃ b, moveB ls a d k = b := ⟨_, rfl⟩
        obtain ⟨b4, hb4⟩ : ∃ b, eqI (y - d + s) p = b := ⟨_, rfl⟩
        rw [hb1, hb2, hb3, hb4] at HT
        have HS1 := Aside0.mk hb1
        have HM1 := Aside0.mk hb3
        clear hb1 hb3
        cases b1
        · clear hb2
          cases b3
          · clear hb4
            go_quiet (first
              | (go_at_call 46; exact Calls.quiet_of (stays_y g A c ls a d s k _ _ HS1.out (HMr.out.drewN _) HO.out HLT.out))
              | (go_at_call 47; exact Calls.quiet_of (moves_y g A c ls a d s k _ _ HM1.out (HMr.out.drewN _) HO.out HLT.out))
              | (go_at_call 48; exact Calls.quiet_of (begins_y g A c ls a d s k y _ HY.out (HMr.out.drewN _) HO.out (Nat.le_of_lt HLT.out))))
            go_wp2_with fail
            go_meet
            case rel => exact ⟨by rw [HT.out]; rfl, nq, rfl⟩
          · cases b4
            · have hb := hb4
              clear hb4
              obtain ⟨t4, u4⟩ := eqI_f hb
              clear hb
              go_quiet (first
                | (go_at_call 46; exact Calls.quiet_of (stays_y g A c ls a d s k _ _ HS1.out (HMr.out.drewN _) HO.out HLT.out))
                | (go_at_call 47; exact Calls.quiet_of (moves_y g A c ls a d s k _ _ HM1.out (HMr.out.drewN _) HO.out HLT.out))
                | (go_at_call 48; exact Calls.quiet_of (begins_y g A c ls a d s k y _ HY.out (HMr.out.drewN _) HO.out (Nat.le_of_lt HLT.out))))
              go_wp2_with fail
              go_meet
              case rel => exact ⟨by rw [HT.out]; rfl, nq, rfl⟩
            · have hb := hb4
              clear hb4
              obtain ⟨t4, u4⟩ := eqI_t hb
              clear hb
              go_quiet (first
                | (go_at_call 46; exact Calls.quiet_of (stays_y g A c ls a d s k _ _ HS1.out (HMr.out.drewN _) HO.out HLT.out))
                | (go_at_call 47; exact Calls.quiet_of (moves_y g A c ls a d s k _ _ HM1.out (HMr.out.drewN _) HO.out HLT.out))
                | (go_at_call 48; exact Calls.quiet_of (begins_y g A c ls a d s k y _ HY.out (HMr.out.drewN _) HO.out (Nat.le_of_lt HLT.out))))
              go_wp2_with fail
              go_meet
              case rel => exact ⟨by rw [HT.out]; rfl, nq, rfl⟩
        · cases b2
          · obtain ⟨t2, u2⟩ := eqI_f hb2
            clear hb2
            cases b3
            · clear hb4
              go_quiet (first
                | (go_at_call 46; exact Calls.quiet_of (stays_y g A c ls a d s k _ _ HS1.out (HMr.out.drewN _) HO.out HLT.out))
                | (go_at_call 47; exact Calls.quiet_of (moves_y g A c ls a d s k _ _ HM1.out (HMr.out.drewN _) HO.out HLT.out))
                | (go_at_call 48; exact Calls.quiet_of (begins_y g A c ls a d s k y _ HY.out (HMr.out.drewN _) HO.out (Nat.le_of_lt HLT.out))))
              go_wp2_with fail
              go_meet
              case rel => exact ⟨by rw [HT.out]; rfl, nq, rfl⟩
            · cases b4
              · have hb := hb4
                clear hb4
                obtain ⟨t4, u4⟩ := eqI_f hb
                clear hb
                go_quiet (first
                  | (go_at_call 46; exact Calls.quiet_of (stays_y g A c ls a d s k _ _ HS1.out (HMr.out.drewN _) HO.out HLT.out))
                  | (go_at_call 47; exact Calls.quiet_of (moves_y g A c ls a d s k _ _ HM1.out (HMr.out.drewN _) HO.out HLT.out))
                  | (go_at_call 48; exact Calls.quiet_of (begins_y g A c ls a d s k y _ HY.out (HMr.out.drewN _) HO.out (Nat.le_of_lt HLT.out))))
                go_wp2_with fail
                go_meet
                case rel => exact ⟨by rw [HT.out]; rfl, nq, rfl⟩
              · have hb := hb4
                clear hb4
                obtain ⟨t4, u4⟩ := eqI_t hb
                clear hb
                go_quiet (first
                  | (go_at_call 46; exact Calls.quiet_of (stays_y g A c ls a d s k _ _ HS1.out (HMr.out.drewN _) HO.out HLT.out))
                  | (go_at_call 47; exact Calls.quiet_of (moves_y g A c ls a d s k _ _ HM1.out (HMr.out.drewN _) HO.out HLT.out))
                  | (go_at_call 48; exact Calls.quiet_of (begins_y g A c ls a d s k y _ HY.out (HMr.out.drewN _) HO.out (Nat.le_of_lt HLT.out))))
                go_wp2_with fail
                go_meet
                case rel => exact ⟨by rw [HT.out]; rfl, nq, rfl⟩
          · obtain ⟨t2, u2⟩ := eqI_t hb2
            clear hb2 hb4
            go_quiet (first
              | (go_at_call 46; exact Calls.quiet_of (stays_y g A c ls a d s k _ _ HS1.out (HMr.out.drewN _) HO.out HLT.out))
              | (go_at_call 47; exact Calls.quiet_of (moves_y g A c ls a d s k _ _ HM1.out (HMr.out.drewN _) HO.out HLT.out))
              | (go_at_call 48; exact Calls.quiet_of (begins_y g A c ls a d s k y _ HY.out (HMr.out.drewN _) HO.out (Nat.le_of_lt HLT.out))))
            go_wp2_with fail
            go_meet
            case rel => exact ⟨by rw [HT.out]; rfl, nq, rfl⟩
      case rest =>
        obtain ⟨rfl, m, rfl⟩ := hcut
        have HBd : Aside0 (Below w.heap.size w (wr.drewN m)) := ⟨below_then HBr.out HBr.out.size (below_drews m)⟩
        have HMd := Aside0.mk (HMr.out.drewN m)
        have HKd : Aside0 ((wr.drewN m).heap[g8]? = some (lfC z68)) := ⟨HKr.out⟩
        clear HBr HMr HKr p0 p2 p3
        generalize wr.drewN m = wd at HBd HMd HKd ⊢
        have p0 : wd.cell? ⟨g, 0, none⟩ = some (.slice A ls.length c) := (blk_cell HMd.out.k 0).trans rfl
        obtain ⟨b, hb⟩ : ∃ b, thereB ls a d s p k = b := ⟨_, rfl⟩
        rw [hb] at HH ⊢
        clear hb HT
        cases b with
        | false =>
          have HN : Aside0 (findM (hitB ls a d s p bef val) ls ls.length 0 = findM (hitB ls a d s p bef val) ls (ls.length - (k + 1)) (k + 1)) := ⟨by rw [HF.out, HS.out, HH.out]; rfl⟩
          clear HF HS HH
          go_wp2_with fail
          go_roundw
          case measure => first | omega | (simp [intOf]; have := HLT.out; omega)
          case rel => exact ⟨k + 1, by congr 1, by have := HLT.out; omega, HN, HBd, HMd, HKd⟩
        | true =>
          go_wp2_with fail
          refine (ahead_calls g A c ls a d s k wd HMd.out HO.out HLT.out).mono ?_
          rintro e w1 ⟨rfl, hB⟩
          have HB1 := Aside0.mk (below_then HBd.out HBd.out.size hB)
          have HM1 := Aside0.mk (HMd.out.moved hB)
          have HK1 := Aside0.mk ((hB.block _ (blk_lt HKd.out)).trans HKd.out)
          clear hB HBd HMd HKd p0
          have p0 : w1.cell? ⟨g, 0, none⟩ = some (.slice A ls.length c) := (blk_cell HM1.out.k 0).trans rfl
          obtain ⟨y, hy⟩ : ∃ y, aheadS ls k = y := ⟨_, rfl⟩
          rw [hy] at HH ⊢
          clear hy
          cases hq : eqS y bef with
          | false =>
            have hne := eqS_f hq
            have HN : Aside0 (findM (hitB ls a d s p bef val) ls ls.length 0 = findM (hitB ls a d s p bef val) ls (ls.length - (k + 1)) (k + 1)) := ⟨by rw [HF.out, HS.out, HH.out, hq]; rfl⟩
            clear HF HS HH hq
            go_wp2_with fail
            go_roundw
            case measure => first | omega | (simp [intOf]; have := HLT.out; omega)
            case rel => exact ⟨k + 1, by congr 1, by have := HLT.out; omega, HN, HB1, HM1, HK1⟩
          | true =>
            obtain rfl := eqS_t hq
            obtain ⟨ad, hA, z0, z1, z2, z3, z4, z5⟩ := at_T68 HM1.out.r (k : Int) (by omega) (by have := HLT.out; omega)
            rw [Int.toNat_natCast] at z0 z1 z2 z3 z4 z5
            obtain ⟨x, hx⟩ : ∃ x, rd_T68 ls (k : Int) = x := ⟨_, rfl⟩
            rw [hx] at z0 z1 z2 z3 z4 z5 HH HS
            clear hx
            have hl := HO.out.l
            have hc := HM1.out.c
            have e3 : (k : Int) < (ls.length : Int) := by have := HLT.out; omega
            cases hv : eqI x.f4 val with
            | false =>
              obtain ⟨t1, u1⟩ := eqI_f hv
              have HN : Aside0 (findM (hitB ls a d s p y val) ls ls.length 0 = findM (hitB ls a d s p y val) ls (ls.length - (k + 1)) (k + 1)) := ⟨by rw [HF.out, HS.out, HH.out, hq, hv]; rfl⟩
              clear HF HS HH hv hq
              go_wp2_with fail
              go_roundw
              case measure => first | omega | (simp [intOf]; have := HLT.out; omega)
              case rel => exact ⟨k + 1, by congr 1, by have := HLT.out; omega, HN, HB1, HM1, HK1⟩
            | true =>
              obtain ⟨t1, u1⟩ := eqI_t hv
              have HN : Aside0 (findM (hitB ls a d s p y val) ls ls.length 0 = some x) := ⟨by rw [HF.out, HS.out, HH.out, hq, hv]; rfl⟩
              clear HF HS HH hv hq
              have k8 := HK1.out
              have q0 := blk_cell k8 0
              have f0 := blk_frozen k8 0
              have q1 := blk_cell k8 1
              have f1 := blk_frozen k8 1
              have q2 := blk_cell k8 2
              have f2 := blk_frozen k8 2
              have q3 := blk_cell k8 3
              have f3 := blk_frozen k8 3
              have q4 := blk_cell k8 4
              have f4 := blk_frozen k8 4
              have q5 := blk_cell k8 5
              have f5 := blk_frozen k8 5
              clear k8
              go_wp2_with fail
              (try simp only [Exit.inBlock, Exit.then])
              refine bodyPost_ret (v := .tuple #[lfV x, .bool true]) (by rw [results_cell_tmp (p := 8) (u := 9) (ty := 68) rfl]; first | (go_simp; done) | (go_simp; rfl)) rfl ?_
              exact ⟨by rw [HN.out]; rfl, below_sets6 HB1.out HG.out _ _ _ _ _ _⟩
    · have e1 : decide ((k : Int) < (ls.length : Int)) = false := decide_eq_false (by omega)
      have e2 : decide (k < ls.length) = false := decide_eq_false hlt
      obtain rfl : k = ls.length := by omega
      have HN : Aside0 (findM (hitB ls a d s p bef val) ls ls.length 0 = none) := ⟨by rw [HF.out, Nat.sub_self]; rfl⟩
      clear HF hlt hk
      have k8 := HKr.out
      have q0 := blk_cell k8 0
      have f0 := blk_frozen k8 0
      have q1 := blk_cell k8 1
      have f1 := blk_frozen k8 1
      have q2 := blk_cell k8 2
      have f2 := blk_frozen k8 2
      have q3 := blk_cell k8 3
      have f3 := blk_frozen k8 3
      have q4 := blk_cell k8 4
      have f4 := blk_frozen k8 4
      have q5 := blk_cell k8 5
      have f5 := blk_frozen k8 5
      clear k8
      go_wp2_with fail
      (try simp only [Exit.inBlock, Exit.then])
      refine bodyPost_ret (v := .tuple #[.agg #[.int .i64 0, .int .i64 0, .int .i64 0, .int .i64 0, .int .u64 0, .string ⟨#[]⟩], .bool false]) (by rw [results_cell_tmp (p := 8) (u := 9) (ty := 68) rfl]; first | (go_simp; done) | (go_simp; rfl)) rfl ?_
      exact ⟨by rw [HN.out]; rfl, below_sets6 HBr.out HG.out _ _ _ _ _ _⟩
end Go.Proofs.Ytknagjiipelfnaa.RU
