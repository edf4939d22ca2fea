/- reuse: a map of rows that the call makes: at each place the leaves that stand there. -/
import Derived.Test.YtknagjiipelfnaaMNew
import Derived.Maps.OwnOps
import Derived.Maps.OwnSet
namespace Go.Proofs.Ytknagjiipelfnaa.RU
open Go.RowKit Go.WideShapes Go.ChangeShapes Go.Proofs.YtknagjiipelfnaaW.PrintWords Go.Proofs.YtknagjiipelfnaaW.PrintLast Go.Proofs.YtknagjiipelfnaaW.PrintMore Go.Proofs.Ytknagjiipelfnaa.PAll
open Go.Maps (Keyed int_keyed IsMap)
set_option linter.unusedVariables false

/-- standing: the state ahead, the leaf -/
abbrev St := ByteArray × S68
def k109 : Kd St := Kd.pair Kd.string k68
abbrev stCs (x : St) : List Value := [.string x.1, .int .i64 x.2.f0, .int .i64 x.2.f1, .int .i64 x.2.f2, .int .i64 x.2.f3, .int .u64 x.2.f4, .string x.2.f5]
theorem k109_mkM (w : World) (base : Nat) (ok : Nat → Prop) (x : St) : k109.M w base ok x (stCs x) := ⟨[.string x.1], _, rfl, rfl, k68_mkM w base ok x.2⟩
theorem k109_open {w : World} {x : St} {cs : List Value} (h : k109.K w x cs) : cs = stCs x := by
  obtain ⟨c0, c1, rfl, h0, h1⟩ := h
  have e0 : c0 = [.string x.1] := h0
  rw [e0, k68_open h1]
  rfl
theorem info109 : (Try.prog.info? 109).map (fun i => (i.zero, i.size, i.bytes)) = some (some (.agg #[.string ⟨#[]⟩, .int .i64 0, .int .i64 0, .int .i64 0, .int .i64 0, .int .u64 0, .string ⟨#[]⟩]), 7, 72) := by kernel_rfl
/-- a row whose elements lead nowhere may lie in whatever blocks its own does -/
theorem R_flat {ok ok' : Nat → Prop} {w : World} {base : Nat} {v : Value} {xs : List St} (h : Kd.R k109 109 w base ok v xs) (hk : ∀ k, v.ownBlock = some k → ok' k) : Kd.R k109 109 w base ok' v xs := by
  obtain ⟨h0, inner, ho, hr⟩ := h
  refine ⟨hk, inner, ho, hr.imp_ (fun p c hp => ?_)⟩
  have hc := k109_open (k109.K_of_M hp)
  subst hc
  exact k109_mkM _ _ _ _
/-- a value as a map's ghost reads it -/
def Rv (v : Value) : Option (DataW Value × List MemPlace) := some (.held v, [])
theorem law3 : Keyed Try.prog 3 := int_keyed Try.underlying3
theorem zero110 (w : World) : (zeroValue 110).run Try.prog w = .ok (.slice none 0 0) w := by kernel_rfl
def i64Lit (p : Int) : Lit := .int .i64 p
structure Grp (w : World) (b n base : Nat) (vs : Int → Value) (G : Int → List St) : Prop where
  m : ∃ D : DataW Value, w.ownsMap Try.prog 3 Rv b n D ∧ ∀ p, (Lit.int .i64 p).wf = true → D.atKey (.int .i64 p) (.held (.slice none 0 0)) = .held (vs p)
  r : ∀ p, Kd.R k109 109 w base T (vs p) (G p)
  apart : ∀ p q, p ≠ q → (vs p).ownBlock = none ∨ (vs p).ownBlock ≠ (vs q).ownBlock
  lt : b < base
theorem Grp.made (w : World) : Grp (w.alloc (.map #[] 0)) w.heap.size 0 (w.heap.size + 1) (fun _ => .slice none 0 0) (fun _ => []) where
  m := ⟨.map [], World.ownsMap_made _ _ _ _, fun _ _ => rfl⟩
  r := fun _ => Kd.R_nil _ _ _ _ _
  apart := fun _ _ _ => .inl rfl
  lt := Nat.lt_succ_self _
theorem Grp.block {w : World} {b n base : Nat} {vs : Int → Value} {G : Int → List St} (h : Grp w b n base vs G) : b < w.heap.size := by
  obtain ⟨D, hD, _⟩ := h.m
  exact hD.lt
theorem Grp.look {w : World} {b n base : Nat} {vs : Int → Value} {G : Int → List St} (h : Grp w b n base vs G) {p : Int} (hp : (Lit.int .i64 p).wf = true) : (Instr.lookup 96 (.map (some b)) (.int .i64 p) false).run Try.prog w = .ok (vs p) w := by
  obtain ⟨D, hD, hat⟩ := h.m
  obtain ⟨v, ps, hrun, hv⟩ := hD.lookup (zd := .held (.slice none 0 0)) (zp := []) law3 Try.underlying96 (zero110 w) rfl (Go.Maps.keyOf_int_mk Try.underlying3 hp)
  rw [hat p hp] at hv
  unfold Rv at hv
  simp only [Option.some.injEq, Prod.mk.injEq, DataW.held.injEq] at hv
  rw [hrun, hv.1]
/-- nothing of the map's is written -/
theorem Grp.grown {w w1 : World} {b n base : Nat} {vs : Int → Value} {G : Int → List St} (h : Grp w b n base vs G) {row : Option Nat} (hg : w.grownBy w1 row) (hb : some b ≠ row) (hr : ∀ p, (vs p).ownBlock = none ∨ (vs p).ownBlock ≠ row) : Grp w1 b n base vs G where
  m := by
    obtain ⟨D, hD, hat⟩ := h.m
    exact ⟨D, hD.kept hg hb, hat⟩
  r := fun p => by
    have h1 : Kd.R k109 109 w base (fun k => some k ≠ row) (vs p) (G p) := R_flat (h.r p) (fun k hk => by
      rcases hr p with h2 | h2
      · rw [h2] at hk; cases hk
      · rw [hk] at h2; exact h2)
    exact Kd.R_mono (Kd.R_grown h1 hg (fun k hk => hk)) (fun _ _ => trivial)
  apart := h.apart
  lt := h.lt
theorem Grp.below {w w1 : World} {b n base : Nat} {vs : Int → Value} {G : Int → List St} (h : Grp w b n base vs G) (hb : Below w.heap.size w w1) : Grp w1 b n base vs G := by
  refine h.grown (row := none) (grown_of_below hb none) (by simp) (fun p => ?_)
  cases hv : (vs p).ownBlock with
  | none => exact .inl rfl
  | some k => exact .inr (by simp)
theorem Grp.mono {w : World} {b n n' base : Nat} {vs : Int → Value} {G : Int → List St} (h : Grp w b n base vs G) (hn : n ≤ n') : Grp w b n' base vs G where
  m := by
    obtain ⟨D, hD, hat⟩ := h.m
    exact ⟨D, hD.mono hn, hat⟩
  r := h.r
  apart := h.apart
  lt := h.lt
def putV (vs : Int → Value) (p : Int) (v : Value) (q : Int) : Value := if q = p then v else vs q
def putG (G : Int → List St) (p : Int) (xs : List St) (q : Int) : List St := if q = p then xs else G q
theorem Grp.rowLt {w : World} {b n base : Nat} {vs : Int → Value} {G : Int → List St} (h : Grp w b n base vs G) (p : Int) (k : Nat) (hk : (vs p).ownBlock = some k) : base ≤ k ∧ k < w.heap.size := by
  have := (Kd.R_bound (h.r p)).1 k hk
  exact ⟨this.2.1, this.2.2.1⟩
/-- 'm[p] = append(m[p], x)': the store -/
theorem Grp.put {w w1 : World} {b n base : Nat} {vs : Int → Value} {G : Int → List St} (h : Grp w b n base vs G) {p : Int} (hp : (Lit.int .i64 p).wf = true) (hn : n < maxLen) {v : Value} {xs : List St} (hg : w.grownBy w1 (vs p).ownBlock) (hR : Kd.R k109 109 w1 base T v xs)
    (hv : v.ownBlock = (vs p).ownBlock ∨ ∃ k, v.ownBlock = some k ∧ w.heap.size ≤ k) :
    ∃ w2, (Instr.mapUpdate 96 (.map (some b)) (.int .i64 p) v).run Try.prog w1 = .ok () w2 ∧ Grp w2 b (n + 1) base (putV vs p v) (putG G p xs) ∧ w1.grownBy w2 (some b) := by
  have hlt := h.lt
  have hrow : some b ≠ (vs p).ownBlock := fun e => by
    have := h.rowLt p b e.symm
    omega
  obtain ⟨D, hD, hat⟩ := h.m
  have hD1 := hD.kept hg hrow
  obtain ⟨w2, hrun, hD2, hg2⟩ := hD1.update law3 Try.underlying96 hn (Go.Maps.keyOf_int_mk Try.underlying3 hp) (val := v) (d := .held v) (ps := []) rfl
  refine ⟨w2, hrun, ⟨⟨_, hD2, fun q hq => ?_⟩, fun q => ?_, fun q q' hne => ?_, hlt⟩, hg2⟩
  · unfold putV
    by_cases e : q = p
    · subst e
      rw [if_pos rfl]
      exact Go.Maps.atKey_put_same hD1.isMap (law3.key (Go.Maps.keyOf_int_mk Try.underlying3 hp)) _ _
    · rw [if_neg e, Go.Maps.atKey_put_other (fun h => e (by injection h)), hat q hq]
  · have other : ∀ (u : Value) (ys : List St), Kd.R k109 109 w1 base T u ys → Kd.R k109 109 w2 base T u ys := fun u ys hu => Kd.R_mono (Kd.R_grown (Kd.R_bound hu) hg2 (fun k hk e => by
      injection e with e
      have := hk.2.1
      omega)) (fun _ _ => trivial)
    unfold putV putG
    by_cases e : q = p
    · rw [if_pos e, if_pos e]
      exact other v xs hR
    · rw [if_neg e, if_neg e]
      refine other _ _ ?_
      have h1 : Kd.R k109 109 w base (fun k => some k ≠ (vs p).ownBlock) (vs q) (G q) := R_flat (h.r q) (fun k hk => by
        rcases h.apart q p e with h2 | h2
        · rw [h2] at hk; cases hk
        · rw [hk] at h2; exact h2)
      exact Kd.R_mono (Kd.R_grown h1 hg (fun k hk => hk)) (fun _ _ => trivial)
  · -- the new row lies apart from all others
    have new : ∀ q, q ≠ p → (vs q).ownBlock = none ∨ (vs q).ownBlock ≠ v.ownBlock := fun q e => by
      rcases hv with h1 | ⟨k, h1, h2⟩
      · rw [h1]; exact h.apart q p e
      · cases hq : (vs q).ownBlock with
        | none => exact .inl rfl
        | some k' =>
          refine .inr (fun e' => ?_)
          rw [h1] at e'
          injection e' with e'
          have := (h.rowLt q k' hq).2
          omega
    unfold putV
    by_cases e : q = p
    · rw [if_pos e, if_neg (fun e' => hne (e.trans e'.symm))]
      rcases new q' (fun e' => hne (e.trans e'.symm)) with h1 | h1
      · cases hvb : v.ownBlock with
        | none => exact .inl rfl
        | some k => rw [h1]; exact .inr (by simp)
      · exact .inr (fun e' => h1 e'.symm)
    · by_cases e' : q' = p
      · rw [if_neg e, if_pos e']
        exact new q e
      · rw [if_neg e, if_neg e']
        exact h.apart q q' hne
end Go.Proofs.Ytknagjiipelfnaa.RU
