/- trellislaw22.foldsApart: writes over the rows, lets others grow out of them, and tells that they lie apart. trellislaw22.symbolsApart: writes over the rows, lets others grow out of them, and tells that they lie apart. -/
import Derived.Test.YtknagjiipelfnaaApt
import Derived.Test.YtknagjiipelfnaaSortW
import Derived.Test.YtknagjiipelfnaaPAllx3
import Derived.Test.YtknagjiipelfnaaPAllx4
namespace Go.Proofs.Ytknagjiipelfnaa.AR
open Go.RowKit Go.WideShapes Go.ChangeShapes Go.Proofs.YtknagjiipelfnaaW.PrintWords Go.Proofs.YtknagjiipelfnaaW.PrintLast Go.Proofs.YtknagjiipelfnaaW.PrintMore Go.Proofs.Ytknagjiipelfnaa.PAll
open Go.Proofs.Ytknagjiipelfnaa.Keep
set_option linter.unusedVariables false

def mkF : Nat → S82 := fun t => ⟨-9, 1000 + (t : Int)⟩
def nkF : Nat → S82 := fun t => ⟨-8, 500000 + (t : Int)⟩
theorem M82 (w w' : World) (b : Nat) (ok : Nat → Prop) (x : S82) (cs : List Value) (h : k82.M w b ok x cs) : k82.M w' b ok x cs := by
  rw [k82_openM h]
  exact k82_mkM _ _ _ x
theorem isz82 : (Try.prog.info? 82).map (·.size) = some 2 := by kernel_rfl
theorem info82y : (Try.prog.info? 82).map (fun i => (i.zero, i.size, i.bytes)) = some (some (.agg #[.int .i64 0, .int .i64 0]), 2, 16) := by kernel_rfl
theorem info77y : (Try.prog.info? 77).map (fun i => (i.zero, i.size, i.bytes)) = some (some (.slice none 0 0), 1, 24) := by kernel_rfl
theorem atF {w : World} {b n c : Nat} {A : Option Addr} {xs : List S82} (h : k82.R 82 w b T (.slice A n c) xs) (h0 : 0 < n) : ∃ g, A = some ⟨g, 0, none⟩ := by
  have hl := (Kd.R_reads' h).1
  obtain ⟨g, cap, he, _⟩ := Kd.R_form h (by omega)
  injection he with he
  exact ⟨g, he⟩
theorem capsF {w : World} {b n c : Nat} {A : Option Addr} {xs : List S82} (h : k82.R 82 w b T (.slice A n c) xs) : xs.length = n ∧ n ≤ c := by
  have h2 := Kd.R_reads' h
  have h1 := h2.1
  have h3 := h2.2.1
  exact ⟨by omega, by omega⟩
theorem cellsF {w : World} {n g : Nat} {xs : List S82} (h : k82.C w (some ⟨g, 0, none⟩) n xs) (p : Nat) (hp : p < n) : w.cell? ⟨g, p * 2, none⟩ = some (.int .i64 (xs.getD p z82).f0) ∧ w.cell? ⟨g, p * 2 + 1, none⟩ = some (.int .i64 (xs.getD p z82).f1) := by
  obtain ⟨ad, he, h0, h1⟩ := at_T82 h (p : Int) (by omega) (by omega)
  injection he with he
  subst he
  have e : (⟨g, 0, none⟩ : Addr).add (p * 2) = ⟨g, p * 2, none⟩ := by
    unfold Addr.add
    split <;> simp_all
  unfold rd_T82 at h0 h1
  rw [Int.toNat_natCast, e] at h0 h1
  exact ⟨h0, h1⟩
def StF (o : Oper) (p v : Value) (a : Act) (W : World) (K : Act → World → Prop) (Q : Exit → Act → World → Prop) : Prop := o.upon Try.prog a K Q ((do Instr.storeAt 82 p v; pure .skip : Sem Next).run Try.prog W)
theorem stF_at {d : Option Tmp} {x y : Operand} {t : TypeId} {ps : String} {af : Array Edge} {gd : Option (Nat × Bool)} {a : Act} {W : World} {K : Act → World → Prop} {Q : Exit → Act → World → Prop} : Oper.wp Try.prog (Oper.mk d (.store 82 x y) t ps af gd) a W K Q = StF (Oper.mk d (.store 82 x y) t ps af gd) (a.eval x) (a.eval y) a W K Q := rfl
theorem putF {W : World} {b n c g : Nat} {xs : List S82} (h : k82.R 82 W b T (.slice (some ⟨g, 0, none⟩) n c) xs) (p : Nat) (hp : p < n) (y : S82) :
    ∃ W1, (∀ o a K Q, StF o (.pointer (some ⟨g, p * 2, none⟩)) (.agg #[.int .i64 y.f0, .int .i64 y.f1]) a W K Q = K (a.put o.dst undef) W1) ∧ k82.R 82 W1 b T (.slice (some ⟨g, 0, none⟩) n c) (xs.set p y) ∧ W.grownBy W1 (some g) := by
  obtain ⟨z0, z1⟩ := cellsF (Kd.R_reads' h).2.2 p (by have := (Kd.R_reads' h).1; omega)
  have hs := Kd.R_seg (d := k82) h (p : Int) (by omega) (by omega) (c := [.int .i64 (xs.getD p z82).f0, .int .i64 (xs.getD p z82).f1]) (seg := [.int .i64 y.f0, .int .i64 y.f1]) (j := 0) (x' := y) (okp := fun _ => False) rfl
    (by
      intro j u hj
      rw [Int.toNat_natCast]
      match j, hj with
      | 0, hj => injection hj with hj; subst hj; exact z0
      | 1, hj => injection hj with hj; subst hj; exact z1
      | j + 2, hj => simp at hj) (show 2 ≤ 2 by decide) (k82_mkM _ _ _ y) (fun _ hk => hk.elim)
  rw [Int.toNat_natCast] at hs
  refine ⟨_, ?_, hs.1, hs.2⟩
  intro o a K Q
  unfold StF
  have hfr : ∀ i, W.frozen? ⟨g, i, none⟩ = false := fun i => by
    obtain ⟨_, _, _, q, _, cells, hc⟩ := (Kd.R_bound h).1 g rfl
    exact blk_frozen hc i
  have hth : W.there g (p * 2) 2 := fun j hj => by
    match j, hj with
    | 0, _ => exact ⟨by rw [Nat.add_zero, z0]; rfl, hfr _⟩
    | 1, _ => exact ⟨by rw [z1]; rfl, hfr _⟩
    | j + 2, hj => omega
  rw [Sem.run_bind, run_storeAt_mid W g (p * 2) 82 #[.int .i64 y.f0, .int .i64 y.f1] hth (by rw [isz82]; rfl) (by simp [Value.oneCell'])]
  rfl

attribute [local go_sem ↓] stF_at
attribute [local go_sem high] eqA82
set_option maxRecDepth 100000 in
set_option maxHeartbeats 16000000 in
theorem foldsApart_calls (A : Nat → Option Addr) (L c : Nat → Nat) (xs : Nat → List S82) (gl b : Nat) (w : World)
    (hv : Lng k82 82 w b (fun t => .slice (A t) (L t) (c t)) (fun t => .slice (A t) (L t) (c t)) xs xs 4 0) (hgl : w.heap[gl]? = some (.cells #[.slice (A 0) (L 0) (c 0), .slice (A 1) (L 1) (c 1), .slice (A 2) (L 2) (c 2), .slice (A 3) (L 3) (c 3)] 77 (0, 0))) (hb : b ≤ w.heap.size) (hL : ∀ t, t < 4 → L t ≤ 2097152) :
    Calls Try.prog 31 #[.slice (some ⟨gl, 0, none⟩) 4 4] w fun e w' => e = .returned (.bool true) ∧ Ch (Of (fun t => .slice (A t) (L t) (c t)) 4) w w' := by
  obtain ⟨vs, hvs⟩ : ∃ vs : Nat → Value, vs = fun t => .slice (A t) (L t) (c t) := ⟨_, rfl⟩
  have HVS : Aside0 (∀ t, vs t = .slice (A t) (L t) (c t)) := ⟨fun t => by rw [hvs]⟩
  rw [← hvs] at hv ⊢
  have HP0 : Aside0 (P1 k82 82 w w b vs L mkF 0 0 xs) := ⟨⟨hv, fun t ht => by have h := hv.rv t ht; rw [HVS.out] at h; exact (capsF h).1, fun t j ht hj hh => by omega, Ch.refl _ _⟩⟩
  have HNS : Aside0 (¬ Of vs 4 gl) := ⟨fun ⟨t, ht, he⟩ => Kd.R_ne (hv.rv t ht) hgl (by decide) he.symm⟩
  have HGL : Aside0 (∀ wr, Ch (Of vs 4) w wr → ∀ t, t < 4 → wr.cell? ⟨gl, t, none⟩ = some (.slice (A t) (L t) (c t))) := ⟨fun wr hc t ht => by
    have h2 := (hc.block gl (blk_lt hgl) HNS.out).trans hgl
    match t, ht with
    | 0, _ => exact (blk_cell h2 0).trans rfl
    | 1, _ => exact (blk_cell h2 1).trans rfl
    | 2, _ => exact (blk_cell h2 2).trans rfl
    | 3, _ => exact (blk_cell h2 3).trans rfl
    | t + 4, ht => omega⟩
  have HB := Aside0.mk hb
  have HL := Aside0.mk hL
  clear hv hgl hb hL hvs HNS
  go_enter Try.func31, Try.ntmps31
  go_wp2_with fail
  go_loopw [3, 4] (fun v3 v4 wr => ∃ (i : Nat) (u : Value) (xs' : Nat → List S82), v4 = u ∧ v3 = .int .i64 (i : Int) ∧ i ≤ 4 ∧ Aside0 (P1 k82 82 w wr b vs L mkF i 0 xs')) (fun v3 _ _ => 4 - (intOf v3).toNat)
  case atStart => exact ⟨0, _, xs, rfl, rfl, by omega, HP0⟩
  case round =>
    obtain ⟨i, u, xs', rfl, rfl, hi, HP⟩ := hrel
    clear HP0
    by_cases hlt : i < 4
    · have e1 : decide ((i : Int) < 4) = true := decide_eq_true (by omega)
      have e2 : decide (i < 4) = true := decide_eq_true hlt
      have e3 : (i : Int) < 4 := by omega
      have e4 : IntKind.i64.wrap ((i : Int) + 1) = (i : Int) + 1 := (i64_w _).trans (SO.w64 (by omega) (by omega))
      have e5 : IntKind.i64.wrap (1000 + (i : Int)) = 1000 + (i : Int) := (i64_w _).trans (SO.w64 (by omega) (by omega))
      have HLT := Aside0.mk hlt
      have hLi := HL.out i hlt
      obtain ⟨n, hn⟩ : ∃ n, L i = n := ⟨_, rfl⟩
      have HN := Aside0.mk hn
      have HNL : Aside0 (n ≤ 2097152) := ⟨by rw [← hn]; exact hLi⟩
      have HGI : Aside0 (∀ wr, Ch (Of vs 4) w wr → wr.cell? ⟨gl, i, none⟩ = some (.slice (A i) n (c i))) := ⟨fun wr h => by rw [← hn]; exact HGL.out wr h i hlt⟩
      clear hi hlt hLi hn
      obtain ⟨Ai, hAi⟩ : ∃ a, A i = a := ⟨_, rfl⟩
      obtain ⟨ci, hci⟩ : ∃ a, c i = a := ⟨_, rfl⟩
      rw [hAi, hci] at HGI
      have HVI : Aside0 (vs i = .slice Ai n ci) := ⟨by rw [HVS.out, hAi, hci, HN.out]⟩
      clear hAi hci
      have g0 := HGI.out wr HP.out.c
      -- <A
      go_wp2_with fail
      go_loopw [4] (fun v4 wr => ∃ (k : Nat) (ys : Nat → List S82), v4 = .int .i64 (k : Int) ∧ k ≤ n ∧ Aside0 (P1 k82 82 w wr b vs L mkF i k ys)) (fun v4 _ => n - (intOf v4).toNat)
      case atStart => exact ⟨0, xs', rfl, Nat.zero_le _, HP⟩
      case round =>
        obtain ⟨k, ys, rfl, hk, HQ⟩ := hrel
        clear HP g0
        have g0 := HGI.out wr HQ.out.c
        have hnl := HNL.out
        by_cases hkl : k < n
        · have d1 : decide ((k : Int) < (n : Int)) = true := decide_eq_true (by omega)
          have d2 : decide (k < n) = true := decide_eq_true hkl
          have d3 : (k : Int) < (n : Int) := by omega
          have e6 : IntKind.i64.wrap ((k : Int) + 1) = (k : Int) + 1 := (i64_w _).trans (SO.w64 (by omega) (by omega))
          have hR := HQ.out.l.rv i HLT.out
          rw [HVI.out] at hR
          obtain ⟨g, hg⟩ := atF hR (by omega)
          have HKL := Aside0.mk hkl
          clear hk hkl hnl
          subst hg
          obtain ⟨W1, hst, hR1, hg1⟩ := putF hR k HKL.out (mkF i)
          have HQ1 : Aside0 (P1 k82 82 w W1 b vs L mkF i (k + 1) (upd ys i ((ys i).set k (mkF i)))) := ⟨HQ.out.put rfl HLT.out (by rw [HN.out]; exact HKL.out) (by rw [HVI.out]; exact hR1) (by rw [HVI.out]; exact hg1)⟩
          clear hR hR1 hg1
          change ∀ o a K Q, StF o _ (.agg #[.int .i64 (-9), .int .i64 (1000 + (i : Int))]) a wr K Q = _ at hst
          -- <A1
          go_wp2_with fail
          go_roundw
          case measure => first | omega | (simp [intOf]; have := HKL.out; omega)
          case rel => exact ⟨k + 1, _, by congr 1, by have := HKL.out; omega, HQ1⟩
          -- A1>
        · have d1 : decide ((k : Int) < (n : Int)) = false := decide_eq_false (by omega)
          have d2 : decide (k < n) = false := decide_eq_false hkl
          have HQ1 := Aside0.mk (HQ.out.up (by rw [HN.out]; omega))
          clear hk hkl hnl
          -- <A2
          go_wp2_with fail
          go_roundw
          case measure => first | omega | (simp [intOf]; have := HLT.out; omega)
          case rel => exact ⟨i + 1, _, _, rfl, by congr 1, by have := HLT.out; omega, HQ1⟩
          -- A2>
      -- A>
    · have e1 : decide ((i : Int) < 4) = false := decide_eq_false (by omega)
      have e2 : decide (i < 4) = false := decide_eq_false hlt
      have h4 : i = 4 := by omega
      rw [h4] at HP
      have HS := Aside0.mk (P2.start (e2 := 77) (nk := nkF) HP.out)
      clear HP hi hlt h4
      -- <B
      go_wp2_with fail
      go_loopw [5, 6, 7, 8] (fun v5 v6 v7 v8 wr => ∃ (i : Nat) (x u : Value) (us : Nat → Value) (ys : Nat → List S82) (ls : List Tri), v7 = x ∧ v8 = u ∧ v6 = .int .i64 (i : Int) ∧ i ≤ 4 ∧ Aside0 (P2 k82 82 77 w wr b vs L mkF nkF i i 0 us ys v5 ls)) (fun _ v6 _ _ _ => 4 - (intOf v6).toNat)
      case atStart => exact ⟨0, _, _, _, _, _, rfl, rfl, rfl, by omega, HS⟩
      case round =>
        clear e1 e2 HS
        obtain ⟨i, x, u, us, ys, ls, rfl, rfl, rfl, hi, HP⟩ := hrel
        by_cases hlt : i < 4
        · have e1 : decide ((i : Int) < 4) = true := decide_eq_true (by omega)
          have e2 : decide (i < 4) = true := decide_eq_true hlt
          have e3 : (i : Int) < 4 := by omega
          have e4 : IntKind.i64.wrap ((i : Int) + 1) = (i : Int) + 1 := (i64_w _).trans (SO.w64 (by omega) (by omega))
          have e5 : IntKind.i64.wrap (500000 + (i : Int)) = 500000 + (i : Int) := (i64_w _).trans (SO.w64 (by omega) (by omega))
          have HLT := Aside0.mk hlt
          have HNL := Aside0.mk (HL.out i hlt)
          have g0 := HGL.out _ HP.out.c i hlt
          rw [← HVS.out] at g0
          have HQ0 := Aside0.mk (HP.out.begin_ hlt)
          clear hi hlt HP
          -- <B1
          go_wp2_with fail
          go_loopw [7, 8] (fun v7 v8 wr => ∃ (k : Nat) (us' : Nat → Value) (ys' : Nat → List S82), v7 = us' i ∧ v8 = .int .i64 (k : Int) ∧ k ≤ 70 ∧ Aside0 (P2 k82 82 77 w wr b vs L mkF nkF i (i + 1) k us' ys' u5 ls)) (fun _ v8 _ => 70 - (intOf v8).toNat)
          case atStart => exact ⟨0, _, _, (upd_at _ _ _).symm, rfl, by omega, HQ0⟩
          case round =>
            clear HQ0 g0
            obtain ⟨k, us', ys', rfl, rfl, hk, HQ⟩ := hrel
            by_cases hkl : k < 70
            · have d1 : decide ((k : Int) < 70) = true := decide_eq_true (by omega)
              have d2 : decide (k < 70) = true := decide_eq_true hkl
              have e6 : IntKind.i64.wrap ((k : Int) + 1) = (k : Int) + 1 := (i64_w _).trans (SO.w64 (by omega) (by omega))
              have HKL := Aside0.mk hkl
              clear hk hkl
              -- <B2
              go_wp2_with (first | ((with_reducible refine gate_builtin (b := .append) (xs := #[.tmp 49, .tmp 53]) rfl ?_); at_builtin; refine R_append_keep k82 (w0 := wr) b rfl (.tmp 49) (.tmp 53) 77 82 (.agg #[.int .i64 0, .int .i64 0]) 16 rfl Try.underlying77 info82y rfl (by decide) (by omega) (us' i) (ys' i) (nkF i) [.int .i64 (-8), .int .i64 (500000 + (i : Int))] T (fun _ => False) rfl rfl (k82_mkM _ _ _ (nkF i)) (fun _ hk => hk.elim) (fun _ _ => trivial) (HQ.out.l.ru i (Nat.lt_succ_self i)) (Below.refl _ _) ?aS ?aL ?_; (case aS => have := HB.out; have := HQ.out.c.size; omega); (case aL => rw [HQ.out.now (Nat.lt_succ_self i), List.length_append, List.length_replicate, List.length_replicate]; have := HNL.out; have := HKL.out; omega); intro v1 w9 hr _ hg hat hst; have HQ1 := Aside0.mk (HQ.out.grow rfl M82 (by decide) HLT.out hr hg hat hst); clear hr hg hat hst))
              go_roundw
              case measure => first | omega | (simp [intOf]; have := HKL.out; omega)
              case rel => exact ⟨k + 1, _, _, (upd_at _ _ _).symm, by congr 1, by have := HKL.out; omega, HQ1⟩
              -- B2>
            · have d1 : decide ((k : Int) < 70) = false := decide_eq_false (by omega)
              have d2 : decide (k < 70) = false := decide_eq_false hkl
              have h70 : k = 70 := by omega
              rw [h70] at HQ ⊢
              obtain ⟨Ax, cx, hx⟩ := Kd.R_slice (HQ.out.l.ru i (Nat.lt_succ_self i))
              obtain ⟨nx, hnx⟩ : ∃ q, (ys' i).length = q := ⟨_, rfl⟩
              rw [hnx] at hx
              have HX : Aside0 (us' i = enc (Ax, nx, cx)) := ⟨hx⟩
              rw [hx]
              clear hk hkl h70 hx hnx
              -- <B3
              go_wp2_with (first | ((with_reducible refine gate_builtin (b := .append) (xs := #[.tmp 55, .tmp 57]) rfl ?_); at_builtin; refine R_append_keep kL (w0 := wr) w.heap.size rfl (.tmp 55) (.tmp 57) 87 77 (.slice none 0 0) 24 rfl Try.underlying87 info77y rfl (by decide) (by omega) u5 ls (Ax, nx, cx) [.slice Ax nx cx] T (fun _ => False) rfl rfl ?aP (fun _ hk => hk.elim) (fun _ _ => trivial) HQ.out.long (Below.refl _ _) HQ.out.c.size ?aL ?_; (case aP => exact rfl); (case aL => rw [HQ.out.len]; have := HLT.out; omega); intro v1 w9 hr _ hg _ _; have HQ1 := Aside0.mk (HQ.out.up rfl (by decide) HLT.out HX.out hr hg); clear hr hg))
              go_roundw
              case measure => first | omega | (simp [intOf]; have := HLT.out; omega)
              case rel => exact ⟨i + 1, _, _, _, _, _, rfl, rfl, by congr 1, by have := HLT.out; omega, HQ1⟩
              -- B3>
          -- B1>
        · have e1 : decide ((i : Int) < 4) = false := decide_eq_false (by omega)
          have e2 : decide (i < 4) = false := decide_eq_false hlt
          have h4 : i = 4 := by omega
          rw [h4] at HP
          have HPv : Aside0 (P2 k82 82 77 w wr b (fun t => .slice (A t) (L t) (c t)) L mkF nkF 4 4 0 us ys u5 ls) := ⟨by rw [show (fun t => Value.slice (A t) (L t) (c t)) = vs from funext fun t => (HVS.out t).symm]; exact HP.out⟩
          have HCH := Aside0.mk HP.out.c
          obtain ⟨AL, cL, hv5, hcl, h3⟩ := P3.of HPv.out
          have H3 := Aside0.mk h3
          have HCL := Aside0.mk hcl
          subst hv5
          clear HP HPv hi hlt h4 h3 hcl
          obtain ⟨w3, hw3⟩ : ∃ u, wr = u := ⟨_, rfl⟩
          rw [hw3] at H3 HCH ⊢
          clear hw3
          -- <C
          go_wp2_with fail
          go_loopw [9, 10] (fun v9 v10 wr => ∃ (i : Nat) (u : Value), v10 = u ∧ v9 = .int .i64 (i : Int) ∧ i ≤ 4 ∧ Aside0 (Below w3.heap.size w3 wr)) (fun v9 _ _ => 4 - (intOf v9).toNat)
          case atStart => exact ⟨0, _, rfl, rfl, by omega, ⟨Below.refl _ _⟩⟩
          case round =>
            clear e1 e2
            obtain ⟨i, u, rfl, rfl, hi, HBr⟩ := hrel
            by_cases hlt : i < 4
            · have e1 : decide ((i : Int) < 4) = true := decide_eq_true (by omega)
              have e2 : decide (i < 4) = true := decide_eq_true hlt
              have e3 : (i : Int) < 4 := by omega
              have e4 : IntKind.i64.wrap ((i : Int) + 1) = (i : Int) + 1 := (i64_w _).trans (SO.w64 (by omega) (by omega))
              have e5 : IntKind.i64.wrap (500000 + (i : Int)) = 500000 + (i : Int) := (i64_w _).trans (SO.w64 (by omega) (by omega))
              have e7 : IntKind.i64.wrap (1000 + (i : Int)) = 1000 + (i : Int) := (i64_w _).trans (SO.w64 (by omega) (by omega))
              have HLT := Aside0.mk hlt
              obtain ⟨n, hn⟩ : ∃ n, L i = n := ⟨_, rfl⟩
              have HNL : Aside0 (n ≤ 2097152) := ⟨by rw [← hn]; exact HL.out i hlt⟩
              obtain ⟨ad, AU, cU, hAL, hlc, hCU⟩ := H3.out.u i hlt
              have hCV := H3.out.v i hlt
              rw [hn] at hlc hCU hCV
              have hgl := fun w4 hc => HGL.out w4 hc i hlt
              obtain ⟨Ai, hAi⟩ : ∃ a, A i = a := ⟨_, rfl⟩
              obtain ⟨ci, hci⟩ : ∃ a, c i = a := ⟨_, rfl⟩
              rw [hAi] at hCV
              rw [hAi, hn, hci] at hgl
              have HCU := Aside0.mk hCU
              have HCV := Aside0.mk hCV
              have HLC := Aside0.mk hlc
              have HGI := Aside0.mk hgl
              clear hi hlt hn hlc hCU hCV hgl hAi hci
              subst hAL
              have g0 := HGI.out wr (HCH.out.moved HBr.out)
              have l0 := pw_cell_below HBr.out HLC.out
              have b70 : IntKind.i64.wrap ((n : Int) + 70) = (n : Int) + 70 := (i64_w _).trans (SO.w64 (by omega) (by have := HNL.out; omega))
              -- <C1
              go_wp2_with fail
              go_loopw [10] (fun v10 wr => ∃ k : Nat, v10 = .int .i64 (k : Int) ∧ k ≤ n + 70 ∧ Aside0 (Below w3.heap.size w3 wr)) (fun v10 _ => n + 70 - (intOf v10).toNat)
              case atStart => exact ⟨0, rfl, Nat.zero_le _, HBr⟩
              case round =>
                clear g0 l0 HBr b70
                obtain ⟨k, rfl, hk, HB2⟩ := hrel
                have g0 := HGI.out wr (HCH.out.moved HB2.out)
                have l0 := pw_cell_below HB2.out HLC.out
                have hnl := HNL.out
                by_cases hkl : k < n + 70
                · have d1 : decide ((k : Int) < ((n : Int) + 70)) = true := decide_eq_true (by omega)
                  have d2 : decide (k < n + 70) = true := decide_eq_true hkl
                  have d3 : (k : Int) < (n : Int) + 70 := by omega
                  have e6 : IntKind.i64.wrap ((k : Int) + 1) = (k : Int) + 1 := (i64_w _).trans (SO.w64 (by omega) (by omega))
                  obtain ⟨a2, hAU, y0, y1⟩ := at_T82 (Kd.C_below HCU.out HB2.out) (k : Int) (by omega) (by omega)
                  have HKL := Aside0.mk hkl
                  unfold rd_T82 at y0 y1
                  rw [Int.toNat_natCast] at y0 y1
                  subst hAU
                  by_cases hkn : k < n
                  · have f1 : decide ((k : Int) < (n : Int)) = true := decide_eq_true (by omega)
                    have f2 : decide (k < n) = true := decide_eq_true hkn
                    have f3 : (k : Int) < (n : Int) := by omega
                    have f4 : decide ((n : Int) ≤ (k : Int)) = false := decide_eq_false (by omega)
                    have f5 : decide (n ≤ k) = false := decide_eq_false (by omega)
                    rw [mix_lt hkn] at y0 y1
                    obtain ⟨a3, hAV, x0, x1⟩ := at_T82 (Kd.C_below HCV.out HB2.out) (k : Int) (by omega) (by omega)
                    unfold rd_T82 at x0 x1
                    rw [Int.toNat_natCast, rep_at hkn] at x0 x1
                    subst hAV
                    change _ = some (Value.int .i64 (-9)) at y0
                    change _ = some (Value.int .i64 (1000 + (i : Int))) at y1
                    change _ = some (Value.int .i64 (-9)) at x0
                    change _ = some (Value.int .i64 (1000 + (i : Int))) at x1
                    clear hk hkl hkn hnl
                    -- <C2
                    go_upto_region 24 with fail
                    go_quiet (fail)
                    have HB3 := Aside0.mk (pw_below_drewN HB2.out nq)
                    go_wp2_with fail
                    go_roundw
                    case measure => first | omega | (simp [intOf]; have := HKL.out; omega)
                    case rel => exact ⟨k + 1, by congr 1, by have := HKL.out; omega, HB3⟩
                    -- C2>
                  · have f1 : decide ((k : Int) < (n : Int)) = false := decide_eq_false (by omega)
                    have f2 : decide (k < n) = false := decide_eq_false hkn
                    have f3 : decide ((n : Int) ≤ (k : Int)) = true := decide_eq_true (by omega)
                    have f4 : decide (n ≤ k) = true := decide_eq_true (by omega)
                    rw [mix_ge (by omega) hkl] at y0 y1
                    change _ = some (Value.int .i64 (-8)) at y0
                    change _ = some (Value.int .i64 (500000 + (i : Int))) at y1
                    clear hk hkl hkn hnl
                    -- <C3
                    go_upto_region 24 with fail
                    go_quiet (fail)
                    have HB3 := Aside0.mk (pw_below_drewN HB2.out nq)
                    go_wp2_with fail
                    go_roundw
                    case measure => first | omega | (simp [intOf]; have := HKL.out; omega)
                    case rel => exact ⟨k + 1, by congr 1, by have := HKL.out; omega, HB3⟩
                    -- C3>
                · have d1 : decide ((k : Int) < ((n : Int) + 70)) = false := decide_eq_false (by omega)
                  have d2 : decide (k < n + 70) = false := decide_eq_false hkl
                  clear hk hkl hnl
                  -- <C4
                  go_wp2_with fail
                  go_roundw
                  case measure => first | omega | (simp [intOf]; have := HLT.out; omega)
                  case rel => exact ⟨i + 1, _, rfl, by congr 1, by have := HLT.out; omega, HB2⟩
                  -- C4>
              -- C1>
            · have e1 : decide ((i : Int) < 4) = false := decide_eq_false (by omega)
              have e2 : decide (i < 4) = false := decide_eq_false hlt
              have HF := Aside0.mk (HCH.out.moved HBr.out)
              clear hi hlt
              -- <C5
              go_wp2_with fail
              go_ret
              exact ⟨rfl, HF.out⟩
              -- C5>
          -- C>
      -- B>
end Go.Proofs.Ytknagjiipelfnaa.AR
namespace Go.Proofs.Ytknagjiipelfnaa.AR
open Go.RowKit Go.WideShapes Go.ChangeShapes Go.Proofs.YtknagjiipelfnaaW.PrintWords Go.Proofs.YtknagjiipelfnaaW.PrintLast Go.Proofs.YtknagjiipelfnaaW.PrintMore Go.Proofs.Ytknagjiipelfnaa.PAll
open Go.Proofs.Ytknagjiipelfnaa.Keep
set_option linter.unusedVariables false

def mkS : Nat → S84 := fun t => ⟨⟨#[115, 112, 111, 105, 108, 116]⟩, ⟨#[]⟩, 0, 0, 1000 + (t : Int)⟩
def nkS : Nat → S84 := fun t => ⟨⟨#[109, 111, 114, 101]⟩, ⟨#[]⟩, 0, 0, 500000 + (t : Int)⟩
theorem M84 (w w' : World) (b : Nat) (ok : Nat → Prop) (x : S84) (cs : List Value) (h : k84.M w b ok x cs) : k84.M w' b ok x cs := by
  rw [k84_openM h]
  exact k84_mkM _ _ _ x
theorem isz84 : (Try.prog.info? 84).map (·.size) = some 5 := by kernel_rfl
theorem info84y : (Try.prog.info? 84).map (fun i => (i.zero, i.size, i.bytes)) = some (some (.agg #[.string ⟨#[]⟩, .string ⟨#[]⟩, .int .i64 0, .int .i64 0, .int .i64 0]), 5, 56) := by kernel_rfl
theorem info29y : (Try.prog.info? 29).map (fun i => (i.zero, i.size, i.bytes)) = some (some (.slice none 0 0), 1, 24) := by kernel_rfl
theorem atS {w : World} {b n c : Nat} {A : Option Addr} {xs : List S84} (h : k84.R 84 w b T (.slice A n c) xs) (h0 : 0 < n) : ∃ g, A = some ⟨g, 0, none⟩ := by
  have hl := (Kd.R_reads' h).1
  obtain ⟨g, cap, he, _⟩ := Kd.R_form h (by omega)
  injection he with he
  exact ⟨g, he⟩
theorem capsS {w : World} {b n c : Nat} {A : Option Addr} {xs : List S84} (h : k84.R 84 w b T (.slice A n c) xs) : xs.length = n ∧ n ≤ c := by
  have h2 := Kd.R_reads' h
  have h1 := h2.1
  have h3 := h2.2.1
  exact ⟨by omega, by omega⟩
theorem cellsS {w : World} {n g : Nat} {xs : List S84} (h : k84.C w (some ⟨g, 0, none⟩) n xs) (p : Nat) (hp : p < n) : w.cell? ⟨g, p * 5, none⟩ = some (.string (xs.getD p z84).f0) ∧ w.cell? ⟨g, p * 5 + 1, none⟩ = some (.string (xs.getD p z84).f1) ∧ w.cell? ⟨g, p * 5 + 2, none⟩ = some (.int .i64 (xs.getD p z84).f2) ∧ w.cell? ⟨g, p * 5 + 3, none⟩ = some (.int .i64 (xs.getD p z84).f3) ∧ w.cell? ⟨g, p * 5 + 4, none⟩ = some (.int .i64 (xs.getD p z84).f4) := by
  obtain ⟨ad, he, h0, h1, h2, h3, h4⟩ := at_T84 h (p : Int) (by omega) (by omega)
  injection he with he
  subst he
  have e : (⟨g, 0, none⟩ : Addr).add (p * 5) = ⟨g, p * 5, none⟩ := by
    unfold Addr.add
    split <;> simp_all
  unfold rd_T84 at h0 h1 h2 h3 h4
  rw [Int.toNat_natCast, e] at h0 h1 h2 h3 h4
  exact ⟨h0, h1, h2, h3, h4⟩
def StS (o : Oper) (p v : Value) (a : Act) (W : World) (K : Act → World → Prop) (Q : Exit → Act → World → Prop) : Prop := o.upon Try.prog a K Q ((do Instr.storeAt 84 p v; pure .skip : Sem Next).run Try.prog W)
theorem stS_at {d : Option Tmp} {x y : Operand} {t : TypeId} {ps : String} {af : Array Edge} {gd : Option (Nat × Bool)} {a : Act} {W : World} {K : Act → World → Prop} {Q : Exit → Act → World → Prop} : Oper.wp Try.prog (Oper.mk d (.store 84 x y) t ps af gd) a W K Q = StS (Oper.mk d (.store 84 x y) t ps af gd) (a.eval x) (a.eval y) a W K Q := rfl
theorem putS {W : World} {b n c g : Nat} {xs : List S84} (h : k84.R 84 W b T (.slice (some ⟨g, 0, none⟩) n c) xs) (p : Nat) (hp : p < n) (y : S84) :
    ∃ W1, (∀ o a K Q, StS o (.pointer (some ⟨g, p * 5, none⟩)) (.agg #[.string y.f0, .string y.f1, .int .i64 y.f2, .int .i64 y.f3, .int .i64 y.f4]) a W K Q = K (a.put o.dst undef) W1) ∧ k84.R 84 W1 b T (.slice (some ⟨g, 0, none⟩) n c) (xs.set p y) ∧ W.grownBy W1 (some g) := by
  obtain ⟨z0, z1, z2, z3, z4⟩ := cellsS (Kd.R_reads' h).2.2 p (by have := (Kd.R_reads' h).1; omega)
  have hs := Kd.R_seg (d := k84) h (p : Int) (by omega) (by omega) (c := [.string (xs.getD p z84).f0, .string (xs.getD p z84).f1, .int .i64 (xs.getD p z84).f2, .int .i64 (xs.getD p z84).f3, .int .i64 (xs.getD p z84).f4]) (seg := [.string y.f0, .string y.f1, .int .i64 y.f2, .int .i64 y.f3, .int .i64 y.f4]) (j := 0) (x' := y) (okp := fun _ => False) rfl
    (by
      intro j u hj
      rw [Int.toNat_natCast]
      match j, hj with
      | 0, hj => injection hj with hj; subst hj; exact z0
      | 1, hj => injection hj with hj; subst hj; exact z1
      | 2, hj => injection hj with hj; subst hj; exact z2
      | 3, hj => injection hj with hj; subst hj; exact z3
      | 4, hj => injection hj with hj; subst hj; exact z4
      | j + 5, hj => simp at hj) (show 5 ≤ 5 by decide) (k84_mkM _ _ _ y) (fun _ hk => hk.elim)
  rw [Int.toNat_natCast] at hs
  refine ⟨_, ?_, hs.1, hs.2⟩
  intro o a K Q
  unfold StS
  have hfr : ∀ i, W.frozen? ⟨g, i, none⟩ = false := fun i => by
    obtain ⟨_, _, _, q, _, cells, hc⟩ := (Kd.R_bound h).1 g rfl
    exact blk_frozen hc i
  have hth : W.there g (p * 5) 5 := fun j hj => by
    match j, hj with
    | 0, _ => exact ⟨by rw [Nat.add_zero, z0]; rfl, hfr _⟩
    | 1, _ => exact ⟨by rw [z1]; rfl, hfr _⟩
    | 2, _ => exact ⟨by rw [z2]; rfl, hfr _⟩
    | 3, _ => exact ⟨by rw [z3]; rfl, hfr _⟩
    | 4, _ => exact ⟨by rw [z4]; rfl, hfr _⟩
    | j + 5, hj => omega
  rw [Sem.run_bind, run_storeAt_mid W g (p * 5) 84 #[.string y.f0, .string y.f1, .int .i64 y.f2, .int .i64 y.f3, .int .i64 y.f4] hth (by rw [isz84]; rfl) (by simp [Value.oneCell'])]
  rfl

attribute [local go_sem ↓] stS_at
attribute [local go_sem high] eqA84
set_option maxRecDepth 100000 in
set_option maxHeartbeats 16000000 in
theorem symbolsApart_calls (A : Nat → Option Addr) (L c : Nat → Nat) (xs : Nat → List S84) (gl b : Nat) (w : World)
    (hv : Lng k84 84 w b (fun t => .slice (A t) (L t) (c t)) (fun t => .slice (A t) (L t) (c t)) xs xs 4 0) (hgl : w.heap[gl]? = some (.cells #[.slice (A 0) (L 0) (c 0), .slice (A 1) (L 1) (c 1), .slice (A 2) (L 2) (c 2), .slice (A 3) (L 3) (c 3)] 29 (0, 0))) (hb : b ≤ w.heap.size) (hL : ∀ t, t < 4 → L t ≤ 2097152) :
    Calls Try.prog 32 #[.slice (some ⟨gl, 0, none⟩) 4 4] w fun e w' => e = .returned (.bool true) ∧ Ch (Of (fun t => .slice (A t) (L t) (c t)) 4) w w' := by
  obtain ⟨vs, hvs⟩ : ∃ vs : Nat → Value, vs = fun t => .slice (A t) (L t) (c t) := ⟨_, rfl⟩
  have HVS : Aside0 (∀ t, vs t = .slice (A t) (L t) (c t)) := ⟨fun t => by rw [hvs]⟩
  rw [← hvs] at hv ⊢
  have HP0 : Aside0 (P1 k84 84 w w b vs L mkS 0 0 xs) := ⟨⟨hv, fun t ht => by have h := hv.rv t ht; rw [HVS.out] at h; exact (capsS h).1, fun t j ht hj hh => by omega, Ch.refl _ _⟩⟩
  have HNS : Aside0 (¬ Of vs 4 gl) := ⟨fun ⟨t, ht, he⟩ => Kd.R_ne (hv.rv t ht) hgl (by decide) he.symm⟩
  have HGL : Aside0 (∀ wr, Ch (Of vs 4) w wr → ∀ t, t < 4 → wr.cell? ⟨gl, t, none⟩ = some (.slice (A t) (L t) (c t))) := ⟨fun wr hc t ht => by
    have h2 := (hc.block gl (blk_lt hgl) HNS.out).trans hgl
    match t, ht with
    | 0, _ => exact (blk_cell h2 0).trans rfl
    | 1, _ => exact (blk_cell h2 1).trans rfl
    | 2, _ => exact (blk_cell h2 2).trans rfl
    | 3, _ => exact (blk_cell h2 3).trans rfl
    | t + 4, ht => omega⟩
  have HB := Aside0.mk hb
  have HL := Aside0.mk hL
  clear hv hgl hb hL hvs HNS
  go_enter Try.func32, Try.ntmps32
  go_wp2_with fail
  go_loopw [3, 4] (fun v3 v4 wr => ∃ (i : Nat) (u : Value) (xs' : Nat → List S84), v4 = u ∧ v3 = .int .i64 (i : Int) ∧ i ≤ 4 ∧ Aside0 (P1 k84 84 w wr b vs L mkS i 0 xs')) (fun v3 _ _ => 4 - (intOf v3).toNat)
  case atStart => exact ⟨0, _, xs, rfl, rfl, by omega, HP0⟩
  case round =>
    obtain ⟨i, u, xs', rfl, rfl, hi, HP⟩ := hrel
    clear HP0
    by_cases hlt : i < 4
    · have e1 : decide ((i : Int) < 4) = true := decide_eq_true (by omega)
      have e2 : decide (i < 4) = true := decide_eq_true hlt
      have e3 : (i : Int) < 4 := by omega
      have e4 : IntKind.i64.wrap ((i : Int) + 1) = (i : Int) + 1 := (i64_w _).trans (SO.w64 (by omega) (by omega))
      have e5 : IntKind.i64.wrap (1000 + (i : Int)) = 1000 + (i : Int) := (i64_w _).trans (SO.w64 (by omega) (by omega))
      have HLT := Aside0.mk hlt
      have hLi := HL.out i hlt
      obtain ⟨n, hn⟩ : ∃ n, L i = n := ⟨_, rfl⟩
      have HN := Aside0.mk hn
      have HNL : Aside0 (n ≤ 2097152) := ⟨by rw [← hn]; exact hLi⟩
      have HGI : Aside0 (∀ wr, Ch (Of vs 4) w wr → wr.cell? ⟨gl, i, none⟩ = some (.slice (A i) n (c i))) := ⟨fun wr h => by rw [← hn]; exact HGL.out wr h i hlt⟩
      clear hi hlt hLi hn
      obtain ⟨Ai, hAi⟩ : ∃ a, A i = a := ⟨_, rfl⟩
      obtain ⟨ci, hci⟩ : ∃ a, c i = a := ⟨_, rfl⟩
      rw [hAi, hci] at HGI
      have HVI : Aside0 (vs i = .slice Ai n ci) := ⟨by rw [HVS.out, hAi, hci, HN.out]⟩
      clear hAi hci
      have g0 := HGI.out wr HP.out.c
      -- <A
      go_wp2_with fail
      go_loopw [4] (fun v4 wr => ∃ (k : Nat) (ys : Nat → List S84), v4 = .int .i64 (k : Int) ∧ k ≤ n ∧ Aside0 (P1 k84 84 w wr b vs L mkS i k ys)) (fun v4 _ => n - (intOf v4).toNat)
      case atStart => exact ⟨0, xs', rfl, Nat.zero_le _, HP⟩
      case round =>
        obtain ⟨k, ys, rfl, hk, HQ⟩ := hrel
        clear HP g0
        have g0 := HGI.out wr HQ.out.c
        have hnl := HNL.out
        by_cases hkl : k < n
        · have d1 : decide ((k : Int) < (n : Int)) = true := decide_eq_true (by omega)
          have d2 : decide (k < n) = true := decide_eq_true hkl
          have d3 : (k : Int) < (n : Int) := by omega
          have e6 : IntKind.i64.wrap ((k : Int) + 1) = (k : Int) + 1 := (i64_w _).trans (SO.w64 (by omega) (by omega))
          have hR := HQ.out.l.rv i HLT.out
          rw [HVI.out] at hR
          obtain ⟨g, hg⟩ := atS hR (by omega)
          have HKL := Aside0.mk hkl
          clear hk hkl hnl
          subst hg
          obtain ⟨W1, hst, hR1, hg1⟩ := putS hR k HKL.out (mkS i)
          have HQ1 : Aside0 (P1 k84 84 w W1 b vs L mkS i (k + 1) (upd ys i ((ys i).set k (mkS i)))) := ⟨HQ.out.put rfl HLT.out (by rw [HN.out]; exact HKL.out) (by rw [HVI.out]; exact hR1) (by rw [HVI.out]; exact hg1)⟩
          clear hR hR1 hg1
          change ∀ o a K Q, StS o _ (.agg #[.string ⟨#[115, 112, 111, 105, 108, 116]⟩, .string ⟨#[]⟩, .int .i64 0, .int .i64 0, .int .i64 (1000 + (i : Int))]) a wr K Q = _ at hst
          -- <A1
          go_wp2_with fail
          go_roundw
          case measure => first | omega | (simp [intOf]; have := HKL.out; omega)
          case rel => exact ⟨k + 1, _, by congr 1, by have := HKL.out; omega, HQ1⟩
          -- A1>
        · have d1 : decide ((k : Int) < (n : Int)) = false := decide_eq_false (by omega)
          have d2 : decide (k < n) = false := decide_eq_false hkl
          have HQ1 := Aside0.mk (HQ.out.up (by rw [HN.out]; omega))
          clear hk hkl hnl
          -- <A2
          go_wp2_with fail
          go_roundw
          case measure => first | omega | (simp [intOf]; have := HLT.out; omega)
          case rel => exact ⟨i + 1, _, _, rfl, by congr 1, by have := HLT.out; omega, HQ1⟩
          -- A2>
      -- A>
    · have e1 : decide ((i : Int) < 4) = false := decide_eq_false (by omega)
      have e2 : decide (i < 4) = false := decide_eq_false hlt
      have h4 : i = 4 := by omega
      rw [h4] at HP
      have HS := Aside0.mk (P2.start (e2 := 29) (nk := nkS) HP.out)
      clear HP hi hlt h4
      -- <B
      go_wp2_with fail
      go_loopw [5, 6, 7, 8] (fun v5 v6 v7 v8 wr => ∃ (i : Nat) (x u : Value) (us : Nat → Value) (ys : Nat → List S84) (ls : List Tri), v7 = x ∧ v8 = u ∧ v6 = .int .i64 (i : Int) ∧ i ≤ 4 ∧ Aside0 (P2 k84 84 29 w wr b vs L mkS nkS i i 0 us ys v5 ls)) (fun _ v6 _ _ _ => 4 - (intOf v6).toNat)
      case atStart => exact ⟨0, _, _, _, _, _, rfl, rfl, rfl, by omega, HS⟩
      case round =>
        clear e1 e2 HS
        obtain ⟨i, x, u, us, ys, ls, rfl, rfl, rfl, hi, HP⟩ := hrel
        by_cases hlt : i < 4
        · have e1 : decide ((i : Int) < 4) = true := decide_eq_true (by omega)
          have e2 : decide (i < 4) = true := decide_eq_true hlt
          have e3 : (i : Int) < 4 := by omega
          have e4 : IntKind.i64.wrap ((i : Int) + 1) = (i : Int) + 1 := (i64_w _).trans (SO.w64 (by omega) (by omega))
          have e5 : IntKind.i64.wrap (500000 + (i : Int)) = 500000 + (i : Int) := (i64_w _).trans (SO.w64 (by omega) (by omega))
          have HLT := Aside0.mk hlt
          have HNL := Aside0.mk (HL.out i hlt)
          have g0 := HGL.out _ HP.out.c i hlt
          rw [← HVS.out] at g0
          have HQ0 := Aside0.mk (HP.out.begin_ hlt)
          clear hi hlt HP
          -- <B1
          go_wp2_with fail
          go_loopw [7, 8] (fun v7 v8 wr => ∃ (k : Nat) (us' : Nat → Value) (ys' : Nat → List S84), v7 = us' i ∧ v8 = .int .i64 (k : Int) ∧ k ≤ 70 ∧ Aside0 (P2 k84 84 29 w wr b vs L mkS nkS i (i + 1) k us' ys' u5 ls)) (fun _ v8 _ => 70 - (intOf v8).toNat)
          case atStart => exact ⟨0, _, _, (upd_at _ _ _).symm, rfl, by omega, HQ0⟩
          case round =>
            clear HQ0 g0
            obtain ⟨k, us', ys', rfl, rfl, hk, HQ⟩ := hrel
            by_cases hkl : k < 70
            · have d1 : decide ((k : Int) < 70) = true := decide_eq_true (by omega)
              have d2 : decide (k < 70) = true := decide_eq_true hkl
              have e6 : IntKind.i64.wrap ((k : Int) + 1) = (k : Int) + 1 := (i64_w _).trans (SO.w64 (by omega) (by omega))
              have HKL := Aside0.mk hkl
              clear hk hkl
              -- <B2
              go_wp2_with (first | ((with_reducible refine gate_builtin (b := .append) (xs := #[.tmp 49, .tmp 53]) rfl ?_); at_builtin; refine R_append_keep k84 (w0 := wr) b rfl (.tmp 49) (.tmp 53) 29 84 (.agg #[.string ⟨#[]⟩, .string ⟨#[]⟩, .int .i64 0, .int .i64 0, .int .i64 0]) 56 rfl Try.underlying29 info84y rfl (by decide) (by omega) (us' i) (ys' i) (nkS i) [.string ⟨#[109, 111, 114, 101]⟩, .string ⟨#[]⟩, .int .i64 0, .int .i64 0, .int .i64 (500000 + (i : Int))] T (fun _ => False) rfl rfl (k84_mkM _ _ _ (nkS i)) (fun _ hk => hk.elim) (fun _ _ => trivial) (HQ.out.l.ru i (Nat.lt_succ_self i)) (Below.refl _ _) ?aS ?aL ?_; (case aS => have := HB.out; have := HQ.out.c.size; omega); (case aL => rw [HQ.out.now (Nat.lt_succ_self i), List.length_append, List.length_replicate, List.length_replicate]; have := HNL.out; have := HKL.out; omega); intro v1 w9 hr _ hg hat hst; have HQ1 := Aside0.mk (HQ.out.grow rfl M84 (by decide) HLT.out hr hg hat hst); clear hr hg hat hst))
              go_roundw
              case measure => first | omega | (simp [intOf]; have := HKL.out; omega)
              case rel => exact ⟨k + 1, _, _, (upd_at _ _ _).symm, by congr 1, by have := HKL.out; omega, HQ1⟩
              -- B2>
            · have d1 : decide ((k : Int) < 70) = false := decide_eq_false (by omega)
              have d2 : decide (k < 70) = false := decide_eq_false hkl
              have h70 : k = 70 := by omega
              rw [h70] at HQ ⊢
              obtain ⟨Ax, cx, hx⟩ := Kd.R_slice (HQ.out.l.ru i (Nat.lt_succ_self i))
              obtain ⟨nx, hnx⟩ : ∃ q, (ys' i).length = q := ⟨_, rfl⟩
              rw [hnx] at hx
              have HX : Aside0 (us' i = enc (Ax, nx, cx)) := ⟨hx⟩
              rw [hx]
              clear hk hkl h70 hx hnx
              -- <B3
              go_wp2_with (first | ((with_reducible refine gate_builtin (b := .append) (xs := #[.tmp 55, .tmp 57]) rfl ?_); at_builtin; refine R_append_keep kL (w0 := wr) w.heap.size rfl (.tmp 55) (.tmp 57) 89 29 (.slice none 0 0) 24 rfl Try.underlying89 info29y rfl (by decide) (by omega) u5 ls (Ax, nx, cx) [.slice Ax nx cx] T (fun _ => False) rfl rfl ?aP (fun _ hk => hk.elim) (fun _ _ => trivial) HQ.out.long (Below.refl _ _) HQ.out.c.size ?aL ?_; (case aP => exact rfl); (case aL => rw [HQ.out.len]; have := HLT.out; omega); intro v1 w9 hr _ hg _ _; have HQ1 := Aside0.mk (HQ.out.up rfl (by decide) HLT.out HX.out hr hg); clear hr hg))
              go_roundw
              case measure => first | omega | (simp [intOf]; have := HLT.out; omega)
              case rel => exact ⟨i + 1, _, _, _, _, _, rfl, rfl, by congr 1, by have := HLT.out; omega, HQ1⟩
              -- B3>
          -- B1>
        · have e1 : decide ((i : Int) < 4) = false := decide_eq_false (by omega)
          have e2 : decide (i < 4) = false := decide_eq_false hlt
          have h4 : i = 4 := by omega
          rw [h4] at HP
          have HPv : Aside0 (P2 k84 84 29 w wr b (fun t => .slice (A t) (L t) (c t)) L mkS nkS 4 4 0 us ys u5 ls) := ⟨by rw [show (fun t => Value.slice (A t) (L t) (c t)) = vs from funext fun t => (HVS.out t).symm]; exact HP.out⟩
          have HCH := Aside0.mk HP.out.c
          obtain ⟨AL, cL, hv5, hcl, h3⟩ := P3.of HPv.out
          have H3 := Aside0.mk h3
          have HCL := Aside0.mk hcl
          subst hv5
          clear HP HPv hi hlt h4 h3 hcl
          obtain ⟨w3, hw3⟩ : ∃ u, wr = u := ⟨_, rfl⟩
          rw [hw3] at H3 HCH ⊢
          clear hw3
          -- <C
          go_wp2_with fail
          go_loopw [9, 10] (fun v9 v10 wr => ∃ (i : Nat) (u : Value), v10 = u ∧ v9 = .int .i64 (i : Int) ∧ i ≤ 4 ∧ Aside0 (Below w3.heap.size w3 wr)) (fun v9 _ _ => 4 - (intOf v9).toNat)
          case atStart => exact ⟨0, _, rfl, rfl, by omega, ⟨Below.refl _ _⟩⟩
          case round =>
            clear e1 e2
            obtain ⟨i, u, rfl, rfl, hi, HBr⟩ := hrel
            by_cases hlt : i < 4
            · have e1 : decide ((i : Int) < 4) = true := decide_eq_true (by omega)
              have e2 : decide (i < 4) = true := decide_eq_true hlt
              have e3 : (i : Int) < 4 := by omega
              have e4 : IntKind.i64.wrap ((i : Int) + 1) = (i : Int) + 1 := (i64_w _).trans (SO.w64 (by omega) (by omega))
              have e5 : IntKind.i64.wrap (500000 + (i : Int)) = 500000 + (i : Int) := (i64_w _).trans (SO.w64 (by omega) (by omega))
              have e7 : IntKind.i64.wrap (1000 + (i : Int)) = 1000 + (i : Int) := (i64_w _).trans (SO.w64 (by omega) (by omega))
              have HLT := Aside0.mk hlt
              obtain ⟨n, hn⟩ : ∃ n, L i = n := ⟨_, rfl⟩
              have HNL : Aside0 (n ≤ 2097152) := ⟨by rw [← hn]; exact HL.out i hlt⟩
              obtain ⟨ad, AU, cU, hAL, hlc, hCU⟩ := H3.out.u i hlt
              have hCV := H3.out.v i hlt
              rw [hn] at hlc hCU hCV
              have hgl := fun w4 hc => HGL.out w4 hc i hlt
              obtain ⟨Ai, hAi⟩ : ∃ a, A i = a := ⟨_, rfl⟩
              obtain ⟨ci, hci⟩ : ∃ a, c i = a := ⟨_, rfl⟩
              rw [hAi] at hCV
              rw [hAi, hn, hci] at hgl
              have HCU := Aside0.mk hCU
              have HCV := Aside0.mk hCV
              have HLC := Aside0.mk hlc
              have HGI := Aside0.mk hgl
              clear hi hlt hn hlc hCU hCV hgl hAi hci
              subst hAL
              have g0 := HGI.out wr (HCH.out.moved HBr.out)
              have l0 := pw_cell_below HBr.out HLC.out
              have b70 : IntKind.i64.wrap ((n : Int) + 70) = (n : Int) + 70 := (i64_w _).trans (SO.w64 (by omega) (by have := HNL.out; omega))
              -- <C1
              go_wp2_with fail
              go_loopw [10] (fun v10 wr => ∃ k : Nat, v10 = .int .i64 (k : Int) ∧ k ≤ n + 70 ∧ Aside0 (Below w3.heap.size w3 wr)) (fun v10 _ => n + 70 - (intOf v10).toNat)
              case atStart => exact ⟨0, rfl, Nat.zero_le _, HBr⟩
              case round =>
                clear g0 l0 HBr b70
                obtain ⟨k, rfl, hk, HB2⟩ := hrel
                have g0 := HGI.out wr (HCH.out.moved HB2.out)
                have l0 := pw_cell_below HB2.out HLC.out
                have hnl := HNL.out
                by_cases hkl : k < n + 70
                · have d1 : decide ((k : Int) < ((n : Int) + 70)) = true := decide_eq_true (by omega)
                  have d2 : decide (k < n + 70) = true := decide_eq_true hkl
                  have d3 : (k : Int) < (n : Int) + 70 := by omega
                  have e6 : IntKind.i64.wrap ((k : Int) + 1) = (k : Int) + 1 := (i64_w _).trans (SO.w64 (by omega) (by omega))
                  obtain ⟨a2, hAU, y0, y1, y2, y3, y4⟩ := at_T84 (Kd.C_below HCU.out HB2.out) (k : Int) (by omega) (by omega)
                  have HKL := Aside0.mk hkl
                  unfold rd_T84 at y0 y1 y2 y3 y4
                  rw [Int.toNat_natCast] at y0 y1 y2 y3 y4
                  subst hAU
                  by_cases hkn : k < n
                  · have f1 : decide ((k : Int) < (n : Int)) = true := decide_eq_true (by omega)
                    have f2 : decide (k < n) = true := decide_eq_true hkn
                    have f3 : (k : Int) < (n : Int) := by omega
                    have f4 : decide ((n : Int) ≤ (k : Int)) = false := decide_eq_false (by omega)
                    have f5 : decide (n ≤ k) = false := decide_eq_false (by omega)
                    rw [mix_lt hkn] at y0 y1 y2 y3 y4
                    obtain ⟨a3, hAV, x0, x1, x2, x3, x4⟩ := at_T84 (Kd.C_below HCV.out HB2.out) (k : Int) (by omega) (by omega)
                    unfold rd_T84 at x0 x1 x2 x3 x4
                    rw [Int.toNat_natCast, rep_at hkn] at x0 x1 x2 x3 x4
                    subst hAV
                    change _ = some (Value.string ⟨#[115, 112, 111, 105, 108, 116]⟩) at y0
                    change _ = some (Value.string ⟨#[]⟩) at y1
                    change _ = some (Value.int .i64 0) at y2
                    change _ = some (Value.int .i64 0) at y3
                    change _ = some (Value.int .i64 (1000 + (i : Int))) at y4
                    change _ = some (Value.string ⟨#[115, 112, 111, 105, 108, 116]⟩) at x0
                    change _ = some (Value.string ⟨#[]⟩) at x1
                    change _ = some (Value.int .i64 0) at x2
                    change _ = some (Value.int .i64 0) at x3
                    change _ = some (Value.int .i64 (1000 + (i : Int))) at x4
                    clear hk hkl hkn hnl
                    -- <C2
                    go_upto_region 24 with fail
                    go_quiet (fail)
                    have HB3 := Aside0.mk (pw_below_drewN HB2.out nq)
                    go_wp2_with fail
                    go_roundw
                    case measure => first | omega | (simp [intOf]; have := HKL.out; omega)
                    case rel => exact ⟨k + 1, by congr 1, by have := HKL.out; omega, HB3⟩
                    -- C2>
                  · have f1 : decide ((k : Int) < (n : Int)) = false := decide_eq_false (by omega)
                    have f2 : decide (k < n) = false := decide_eq_false hkn
                    have f3 : decide ((n : Int) ≤ (k : Int)) = true := decide_eq_true (by omega)
                    have f4 : decide (n ≤ k) = true := decide_eq_true (by omega)
                    rw [mix_ge (by omega) hkl] at y0 y1 y2 y3 y4
                    change _ = some (Value.string ⟨#[109, 111, 114, 101]⟩) at y0
                    change _ = some (Value.string ⟨#[]⟩) at y1
                    change _ = some (Value.int .i64 0) at y2
                    change _ = some (Value.int .i64 0) at y3
                    change _ = some (Value.int .i64 (500000 + (i : Int))) at y4
                    clear hk hkl hkn hnl
                    -- <C3
                    go_upto_region 24 with fail
                    go_quiet (fail)
                    have HB3 := Aside0.mk (pw_below_drewN HB2.out nq)
                    go_wp2_with fail
                    go_roundw
                    case measure => first | omega | (simp [intOf]; have := HKL.out; omega)
                    case rel => exact ⟨k + 1, by congr 1, by have := HKL.out; omega, HB3⟩
                    -- C3>
                · have d1 : decide ((k : Int) < ((n : Int) + 70)) = false := decide_eq_false (by omega)
                  have d2 : decide (k < n + 70) = false := decide_eq_false hkl
                  clear hk hkl hnl
                  -- <C4
                  go_wp2_with fail
                  go_roundw
                  case measure => first | omega | (simp [intOf]; have := HLT.out; omega)
                  case rel => exact ⟨i + 1, _, rfl, by congr 1, by have := HLT.out; omega, HB2⟩
                  -- C4>
              -- C1>
            · have e1 : decide ((i : Int) < 4) = false := decide_eq_false (by omega)
              have e2 : decide (i < 4) = false := decide_eq_false hlt
              have HF := Aside0.mk (HCH.out.moved HBr.out)
              clear hi hlt
              -- <C5
              go_wp2_with fail
              go_ret
              exact ⟨rfl, HF.out⟩
              -- C5>
          -- C>
      -- B>
end Go.Proofs.Ytknagjiipelfnaa.AR
