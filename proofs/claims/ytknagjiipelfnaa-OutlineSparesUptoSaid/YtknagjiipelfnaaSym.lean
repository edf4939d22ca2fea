/- outline.symbol: the child that says what a node is called. -/
import Derived.Test.YtknagjiipelfnaaORight
namespace Go.Proofs.Ytknagjiipelfnaa.OL
open Go.RowKit Go.WideShapes Go.ChangeShapes Go.Proofs.YtknagjiipelfnaaW.PrintWords Go.Proofs.YtknagjiipelfnaaW.PrintLast Go.Proofs.YtknagjiipelfnaaW.PrintMore Go.Proofs.Ytknagjiipelfnaa.PAll
set_option linter.unusedVariables false

/-- a mark line: a name, a field -/
abbrev Mk := ByteArray × ByteArray
def k129 : Kd Mk := Kd.pair Kd.string Kd.string
def zMk : Mk := (⟨#[]⟩, ⟨#[]⟩)
def rdM (xs : List Mk) (k : Nat) : Mk := xs.getD k zMk
theorem k129_open {w : World} {x : Mk} {cs : List Value} (h : k129.K w x cs) : cs = [.string x.1, .string x.2] := by
  obtain ⟨c0, c1, rfl, h0, h1⟩ := h
  have e0 : c0 = [.string x.1] := h0
  have e1 : c1 = [.string x.2] := h1
  rw [e0, e1]
  rfl
theorem at_Mk {w : World} {A : Option Addr} {n : Nat} {xs : List Mk} (h : Kd.C k129 w A n xs) (i : Int) (h0 : 0 ≤ i) (h1 : i < n) : ∃ ad, A = some ad ∧ w.cell? (ad.add (i.toNat * 2)) = some (.string (rdM xs i.toNat).1) ∧ w.cell? ⟨(ad.add (i.toNat * 2)).block, (ad.add (i.toNat * 2)).off + 1, none⟩ = some (.string (rdM xs i.toNat).2) := by
  obtain ⟨ad, c, e, _, hK, hc0⟩ := Kd.C_get h zMk i h0 h1
  have hc : ∀ j u, c[j]? = some u → w.cell? (ad.add (i.toNat * 2 + j)) = some u := hc0
  obtain rfl := k129_open hK
  exact ⟨ad, e, hc 0 _ rfl, by rw [← add_field _ _ 1 (by omega)]; exact hc 1 _ rfl⟩
/-- equality of texts, as the program's -/
def eqT (x y : ByteArray) : Bool := x.toList == y.toList
def idxM (nm : ByteArray) : List Mk → Nat → Int
  | [], _ => -1
  | m :: r, j => if eqT m.1 nm then (j : Int) else idxM nm r (j + 1)
set_option maxRecDepth 100000 in
set_option maxHeartbeats 4000000 in
theorem clo61 (gT gA : Nat) (A : Option Addr) (c i : Nat) (t : List S50) (m : Mk) (w : World) (hi : i < t.length) (hr : Kd.C k50 w A t.length t) (kt : w.heap[gT]? = some (.cells #[.slice A t.length c] 26 (0, 0))) (ka : w.heap[gA]? = some (.cells #[.int .i64 (i : Int)] 3 (0, 0))) :
    Calls Try.prog 61 #[.agg #[.string m.1, .string m.2], .pointer (some ⟨gT, 0, none⟩), .pointer (some ⟨gA, 0, none⟩)] w fun e w' => e = .returned (.bool (eqT m.1 (rd_T50 t (i : Int)).f0)) ∧ Below w.heap.size w w' := by
  go_enter Try.func61, Try.ntmps61
  obtain ⟨oM, hoM⟩ : ∃ o : Obj, o = .cells #[.string m.1, .string m.2] 129 (0, 0) := ⟨_, rfl⟩
  have hba : Below w.heap.size w (w.alloc oM) := below_alloc (Below.refl _ _) _
  have KM := (heap_alloc_new w oM).trans (congrArg some hoM)
  have KT := (hba.block _ (blk_lt kt)).trans kt
  have KA := (hba.block _ (blk_lt ka)).trans ka
  obtain ⟨ad, hA, y0, y1, y2, y3, y4, y5, y6⟩ := at_T50 (Kd.C_below hr hba) (i : Int) (by omega) (by omega)
  rw [Int.toNat_natCast] at y0
  have e3 : (i : Int) < (t.length : Int) := by omega
  obtain ⟨nm, hnm⟩ : ∃ n, (rd_T50 t (i : Int)).f0 = n := ⟨_, rfl⟩
  rw [hnm] at y0
  have HNM := Aside0.mk hnm
  have HB := Aside0.mk hba
  subst hA
  clear hr kt ka hba hnm y1 y2 y3 y4 y5 y6 hi
  go_upto_region 1 with fail
  rw [← hoM]
  clear hoM
  obtain ⟨gM, hgM⟩ : ∃ g, w.heap.size = g := ⟨_, rfl⟩
  generalize w.alloc oM = w1 at KM KT KA HB y0 ⊢
  rw [hgM] at KM ⊢
  clear hgM
  have m0 : w1.cell? ⟨gM, 0, none⟩ = some (.string m.1) := (blk_cell KM 0).trans rfl
  have t0 : w1.cell? ⟨gT, 0, none⟩ = some (.slice (some ad) t.length c) := (blk_cell KT 0).trans rfl
  have a0 : w1.cell? ⟨gA, 0, none⟩ = some (.int .i64 (i : Int)) := (blk_cell KA 0).trans rfl
  clear KM KT KA
  go_quiet (fail)
  go_wp2_with fail
  go_ret
  exact ⟨by rw [HNM.out]; rfl, pw_below_drewN HB.out _⟩
/-- The closure over the mark lines: is the node's field the line's? -/
abbrev langC (vF vM : Value) : Array Value := #[.string ⟨#[]⟩, .slice none 0 0, .slice none 0 0, .slice none 0 0, .slice none 0 0, .slice none 0 0, .slice none 0 0, .slice none 0 0, .slice none 0 0, vF, vM, .slice none 0 0]
set_option maxRecDepth 100000 in
set_option maxHeartbeats 4000000 in
theorem clo63 (gL gI : Nat) (vF : Value) (M : Option Addr) (cm j : Nat) (ms : List Mk) (x : S50) (w : World) (hj : j < ms.length) (hm : Kd.C k129 w M ms.length ms) (kl : w.heap[gL]? = some (.cells (langC vF (.slice M ms.length cm)) 45 (0, 0))) (ki : w.heap[gI]? = some (.cells #[.int .i64 (j : Int)] 3 (0, 0))) :
    Calls Try.prog 63 #[.agg #[.string x.f0, .bool x.f1, .string x.f2, .int .i64 x.f3, .int .i64 x.f4, .int .i64 x.f5, .int .i64 x.f6], .pointer (some ⟨gL, 0, none⟩), .pointer (some ⟨gI, 0, none⟩)] w fun e w' => e = .returned (.bool (eqT x.f2 (rdM ms j).2)) ∧ Below w.heap.size w w' := by
  go_enter Try.func63, Try.ntmps63
  obtain ⟨oM, hoM⟩ : ∃ o : Obj, o = .cells #[.string x.f0, .bool x.f1, .string x.f2, .int .i64 x.f3, .int .i64 x.f4, .int .i64 x.f5, .int .i64 x.f6] 50 (0, 0) := ⟨_, rfl⟩
  have hba : Below w.heap.size w (w.alloc oM) := below_alloc (Below.refl _ _) _
  have KM := (heap_alloc_new w oM).trans (congrArg some hoM)
  have KL := (hba.block _ (blk_lt kl)).trans kl
  have KI := (hba.block _ (blk_lt ki)).trans ki
  obtain ⟨ad, hA, y0, y1⟩ := at_Mk (Kd.C_below hm hba) (j : Int) (by omega) (by omega)
  rw [Int.toNat_natCast] at y1
  have e3 : (j : Int) < (ms.length : Int) := by omega
  obtain ⟨nm, hnm⟩ : ∃ n, (rdM ms j).2 = n := ⟨_, rfl⟩
  rw [hnm] at y1
  have HNM := Aside0.mk hnm
  have HB := Aside0.mk hba
  subst hA
  clear hm kl ki hba hnm y0 hj
  go_upto_region 1 with fail
  rw [← hoM]
  clear hoM
  obtain ⟨gM, hgM⟩ : ∃ g, w.heap.size = g := ⟨_, rfl⟩
  generalize w.alloc oM = w1 at KM KL KI HB y1 ⊢
  rw [hgM] at KM ⊢
  clear hgM
  have m0 : w1.cell? ⟨gM, 2, none⟩ = some (.string x.f2) := (blk_cell KM 2).trans rfl
  have t0 : w1.cell? ⟨gL, 10, none⟩ = some (.slice (some ad) ms.length cm) := (blk_cell KL 10).trans rfl
  have a0 : w1.cell? ⟨gI, 0, none⟩ = some (.int .i64 (j : Int)) := (blk_cell KI 0).trans rfl
  clear KM KL KI
  obtain ⟨f2, hf2⟩ : ∃ f, x.f2 = f := ⟨_, rfl⟩
  rw [hf2] at m0
  have HF2 := Aside0.mk hf2
  clear hf2
  go_quiet (fail)
  go_wp2_with fail
  go_ret
  exact ⟨by rw [HF2.out, HNM.out]; rfl, pw_below_drewN HB.out _⟩
set_option maxRecDepth 100000 in
set_option maxHeartbeats 4000000 in
theorem index_calls (gT gA : Nat) (A M : Option Addr) (c cm i : Nat) (t : List S50) (ms : List Mk) (w : World) (hi : i < t.length) (hr : Kd.C k50 w A t.length t) (hm : Kd.C k129 w M ms.length ms) (hmc : ms.length ≤ cm) (hml : ms.length ≤ 1048576) (kt : w.heap[gT]? = some (.cells #[.slice A t.length c] 26 (0, 0))) (ka : w.heap[gA]? = some (.cells #[.int .i64 (i : Int)] 3 (0, 0))) :
    Calls Try.prog 60 #[.slice M ms.length cm, .func (.func 61) #[] #[.pointer (some ⟨gT, 0, none⟩), .pointer (some ⟨gA, 0, none⟩)]] w fun e w' => e = .returned (.int .i64 (idxM (rd_T50 t (i : Int)).f0 ms 0)) ∧ Below w.heap.size w w' := by
  have HRw := Aside0.mk hr
  have HMw := Aside0.mk hm
  have KT := Aside0.mk kt
  have KA := Aside0.mk ka
  have HP := Aside0.mk (And.intro hmc (And.intro hml hi))
  have HB0 := Aside0.mk (Below.refl w.heap.size w)
  clear hr hm kt ka hmc hml hi
  go_enter Try.func60, Try.ntmps60
  go_wp2_with fail
  go_loopw [5, 8] (fun v5 v8 wr => ∃ j : Nat, v8 = .int .i64 (j : Int) ∧ j ≤ ms.length ∧ Aside0 (idxM (rd_T50 t (i : Int)).f0 ms 0 = idxM (rd_T50 t (i : Int)).f0 (ms.drop j) j) ∧ Aside0 (Below w.heap.size w wr)) (fun _ v8 _ => ms.length - (intOf v8).toNat)
  case atStart => exact ⟨0, rfl, by omega, ⟨rfl⟩, HB0⟩
  case round =>
    obtain ⟨j, rfl, hj, HV, HB⟩ := hrel
    by_cases hlt : j < ms.length
    · have e1 : decide ((j : Int) < (ms.length : Int)) = true := decide_eq_true (by omega)
      have e2 : decide (j < ms.length) = true := decide_eq_true hlt
      have e3 : (j : Int) < (ms.length : Int) := by omega
      have hl := HP.out.2.1
      have e4 : IntKind.i64.wrap ((j : Int) + 1) = (j : Int) + 1 := (i64_w _).trans (w64 (by omega) (by omega))
      obtain ⟨ad, hA, y0, y1⟩ := at_Mk (Kd.C_below HMw.out HB.out) (j : Int) (by omega) (by omega)
      rw [Int.toNat_natCast] at y0 y1
      have hdr : ms.drop j = rdM ms j :: ms.drop (j + 1) := by
        rw [List.drop_eq_getElem_cons hlt]
        congr 1
        unfold rdM
        rw [List.getD_eq_getElem?_getD, List.getElem?_eq_getElem hlt]
        rfl
      obtain ⟨x, hx⟩ : ∃ x, rdM ms j = x := ⟨_, rfl⟩
      rw [hx] at y0 y1 hdr
      rw [hdr] at HV
      have HLT := Aside0.mk hlt
      subst hA
      clear hx hj hlt hdr
      go_wp2_with fail
      refine (clo61 gT gA A c i t x wr HP.out.2.2 (Kd.C_below HRw.out HB.out) ((HB.out.block _ (blk_lt KT.out)).trans KT.out) ((HB.out.block _ (blk_lt KA.out)).trans KA.out)).mono ?_
      rintro e w2 ⟨rfl, hB⟩
      have HB2 := Aside0.mk (below_then HB.out HB.out.size hB)
      obtain ⟨b, hb⟩ : ∃ b, eqT x.1 (rd_T50 t (i : Int)).f0 = b := ⟨_, rfl⟩
      rw [hb]
      have HV2 : Aside0 (idxM (rd_T50 t (i : Int)).f0 ms 0 = if b then (j : Int) else idxM (rd_T50 t (i : Int)).f0 (ms.drop (j + 1)) (j + 1)) := ⟨by rw [HV.out, idxM, hb]⟩
      clear hb hB HB y0 y1
      cases b with
      | true =>
        go_wp2_with fail
        go_ret
        exact ⟨by rw [HV2.out]; rfl, HB2.out⟩
      | false =>
        go_wp2_with fail
        go_roundw
        case measure => first | omega | (simp [intOf]; have := HLT.out; omega)
        case rel => exact ⟨j + 1, by congr 1, by have := HLT.out; omega, ⟨HV2.out⟩, HB2⟩
    · have e1 : decide ((j : Int) < (ms.length : Int)) = false := decide_eq_false (by omega)
      have e2 : decide (j < ms.length) = false := decide_eq_false hlt
      obtain rfl : j = ms.length := by omega
      rw [List.drop_length] at HV
      clear hj hlt
      go_wp2_with fail
      go_ret
      exact ⟨by rw [HV.out]; rfl, HB.out⟩
theorem idxM_lt (nm : ByteArray) : ∀ (ms : List Mk) (j : Nat), idxM nm ms j = -1 ∨ ∃ i : Nat, idxM nm ms j = (i : Int) ∧ j ≤ i ∧ i < j + ms.length := by
  intro ms
  induction ms with
  | nil => intro j; exact .inl rfl
  | cons m r ih =>
    intro j
    rw [idxM]
    split
    · exact .inr ⟨j, rfl, Nat.le_refl _, by simp⟩
    · rcases ih (j + 1) with h | ⟨i, h1, h2, h3⟩
      · exact .inl h
      · exact .inr ⟨i, h1, by omega, by simp; omega⟩
/-- The child that is called so: its place. -/
def kidK (t : List S50) (fld : ByteArray) (ks : List Int) : Option Int := ks.find? (fun k => eqT (rd_T50 t k).f2 fld)
abbrev nV (x : S50) : Value := .agg #[.string x.f0, .bool x.f1, .string x.f2, .int .i64 x.f3, .int .i64 x.f4, .int .i64 x.f5, .int .i64 x.f6]
abbrev nC (x : S50) : Obj := .cells #[.string x.f0, .bool x.f1, .string x.f2, .int .i64 x.f3, .int .i64 x.f4, .int .i64 x.f5, .int .i64 x.f6] 50 (0, 0)
end Go.Proofs.Ytknagjiipelfnaa.OL
