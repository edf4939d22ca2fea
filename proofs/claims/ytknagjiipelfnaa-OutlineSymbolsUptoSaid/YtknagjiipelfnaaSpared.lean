/- trellislaw22: sameNodes of a list with itself; what stands behind a copy with room. -/
import Derived.Test.YtknagjiipelfnaaBeyond
namespace Go.Proofs.Ytknagjiipelfnaa.OL
open Go.RowKit Go.WideShapes Go.ChangeShapes Go.Proofs.YtknagjiipelfnaaW.PrintWords Go.Proofs.YtknagjiipelfnaaW.PrintLast Go.Proofs.YtknagjiipelfnaaW.PrintMore Go.Proofs.Ytknagjiipelfnaa.PAll
set_option linter.unusedVariables false

theorem nodes_go {xs : List S50} (hl : xs.length ≤ 1048576) : ∀ d i, xs.length - i = d → i ≤ xs.length → ∃ k, trellislaw22_sameNodes.l0 k xs xs (i : Int) = some true := by
  intro d
  induction d with
  | zero =>
    intro i hd hi
    exact ⟨1, by rw [trellislaw22_sameNodes.l0, if_neg (by omega)]⟩
  | succ d ih =>
    intro i hd hi
    obtain ⟨k, hk⟩ := ih (i + 1) (by omega) (by omega)
    refine ⟨k + 1, ?_⟩
    have e : wrap64 ((i : Int) + 1) = ((i + 1 : Nat) : Int) := (w64 (by omega) (by omega)).trans (by omega)
    rw [trellislaw22_sameNodes.l0, if_pos (by omega), if_pos (by omega), if_pos (by omega), e, hk]
    simp
theorem nodes_same (A B : Option Addr) (c d : Nat) (xs : List S50) (w : World) (ha : Kd.C k50 w A xs.length xs) (hc : xs.length ≤ c) (hb : Kd.C k50 w B xs.length xs) (hd : xs.length ≤ d) (hl : xs.length ≤ 1048576) :
    Calls Try.prog 39 #[.slice A xs.length c, .slice B xs.length d] w fun e w' => e = .returned (.bool true) ∧ Below w.heap.size w w' := by
  obtain ⟨k, hk⟩ := nodes_go hl xs.length 0 rfl (Nat.zero_le _)
  exact (trellislaw22_sameNodes.calls k A c xs B d xs true w ha hc hb hd (by rw [trellislaw22_sameNodes.f, if_pos rfl]; exact hk)).mono fun e w' ⟨h1, h2⟩ => ⟨h1, h2.below⟩
theorem mark_at (t : List S50) : rd_T50 (t ++ [mark77, mark77]) (t.length : Int) = mark77 ∧ rd_T50 (t ++ [mark77, mark77]) ((t.length + 1 : Nat) : Int) = mark77 := by
  unfold rd_T50
  rw [Int.toNat_natCast, Int.toNat_natCast, List.getD_eq_getElem?_getD, List.getD_eq_getElem?_getD, List.getElem?_append_right (Nat.le_refl _), List.getElem?_append_right (by omega), Nat.sub_self, Nat.add_sub_cancel_left]
  exact ⟨rfl, rfl⟩
theorem node_prefix {w : World} {A : Option Addr} {n : Nat} {xs ys : List S50} (h : Kd.C k50 w A n (xs ++ ys)) : Kd.C k50 w A xs.length xs := by
  have hn : (xs ++ ys).length = n := Kd.C_len h
  subst hn
  have h2 := Kd.C_take (m := xs.length) h (by simp)
  rwa [List.take_append_of_le_length (Nat.le_refl _), List.take_of_length_le (Nat.le_refl _)] at h2
attribute [local go_sem high] eqA50
set_option maxRecDepth 100000 in
set_option maxHeartbeats 4000000 in
theorem spared_calls (A B : Option Addr) (ca cb m : Nat) (t : List S50) (w : World) (hm : m = t.length + 2) (ha : Kd.C k50 w A (t ++ [mark77, mark77]).length (t ++ [mark77, mark77])) (hca : m ≤ ca) (hb : Kd.C k50 w B t.length t) (hcb : t.length ≤ cb) (hl : t.length ≤ 1048576) :
    Calls Try.prog 15 #[.slice A m ca, .slice B t.length cb] w fun e w' => e = .returned (.bool true) ∧ Below w.heap.size w w' := by
  have hlen : (t ++ [mark77, mark77]).length = m := by rw [hm]; simp
  rw [hlen] at ha
  obtain ⟨i0, hi0, -, hsz, -⟩ := info_parts info50
  have hcut := cut_to (P := Try.prog) 26 50 .i64 Try.underlying26 hi0 A m ca (t.length : Int) (by omega) (by omega) hca
  rw [Int.toNat_natCast] at hcut
  have HA := Aside0.mk ha
  have HBw := Aside0.mk hb
  have HP := Aside0.mk (And.intro hcb (And.intro hl (And.intro hm hca)))
  have e1 : (t.length : Int) < (m : Int) := by omega
  have e2 : IntKind.i64.wrap ((t.length : Int) + 1) = ((t.length + 1 : Nat) : Int) := (i64_w _).trans ((w64 (by omega) (by omega)).trans (by omega))
  have e3 : ((t.length + 1 : Nat) : Int) < (m : Int) := by omega
  have e4 : (0 : Int) ≤ ((t.length + 1 : Nat) : Int) := by omega
  have e5 : (t.length : Int) ≤ (m : Int) := by omega
  clear hi0 hsz ha hb hcb hl hca hlen hm
  go_enter Try.func15, Try.ntmps15
  go_wp2_with fail
  refine (nodes_same A B ca cb t w (node_prefix HA.out) (by have := HP.out; omega) HBw.out HP.out.1 HP.out.2.1).mono ?_
  rintro e w1 ⟨rfl, hB⟩
  obtain ⟨ad, hA, y0, y1, y2, y3, y4, y5, y6⟩ := at_T50 (Kd.C_below HA.out hB) (t.length : Int) (by omega) e1
  obtain ⟨ad2, hA2, x0, x1, x2, x3, x4, x5, x6⟩ := at_T50 (Kd.C_below HA.out hB) ((t.length + 1 : Nat) : Int) (by omega) e3
  rw [hA] at hA2
  injection hA2 with hA2
  subst hA2
  rw [(mark_at t).1, Int.toNat_natCast] at y0 y1 y2 y3 y4 y5 y6
  rw [(mark_at t).2, Int.toNat_natCast] at x0 x1 x2 x3 x4 x5 x6
  have HB1 := Aside0.mk hB
  subst hA
  obtain ⟨n1, hn1⟩ : ∃ n1, t.length + 1 = n1 := ⟨_, rfl⟩
  rw [hn1] at x0 x1 x2 x3 x4 x5 x6 e2 e3 e4
  clear hB hn1 hcut
  change _ = some (Value.string ⟨#[]⟩) at y0
  change _ = some (Value.bool false) at y1
  change _ = some (Value.string ⟨#[]⟩) at y2
  change _ = some (Value.int .i64 0) at y3
  change _ = some (Value.int .i64 0) at y4
  change _ = some (Value.int .i64 (-77)) at y5
  change _ = some (Value.int .i64 0) at y6
  change _ = some (Value.string ⟨#[]⟩) at x0
  change _ = some (Value.bool false) at x1
  change _ = some (Value.string ⟨#[]⟩) at x2
  change _ = some (Value.int .i64 0) at x3
  change _ = some (Value.int .i64 0) at x4
  change _ = some (Value.int .i64 (-77)) at x5
  change _ = some (Value.int .i64 0) at x6
  go_wp2_with fail
  go_ret
  exact ⟨rfl, HB1.out⟩
end Go.Proofs.Ytknagjiipelfnaa.OL
