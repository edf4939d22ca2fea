/- Forests of nodes in plain Lean: from behind (gr), by a stack (plantF), by the document's recursion (take, Forest): the same; parents, ends, what is around what. -/
import Derived.Test.YtknagjiipelfnaaPAllx6
namespace Go.Proofs.Ytknagjiipelfnaa.OL
open Go.RowKit Go.WideShapes Go.ChangeShapes Go.Proofs.YtknagjiipelfnaaW.PrintWords Go.Proofs.YtknagjiipelfnaaW.PrintLast Go.Proofs.YtknagjiipelfnaaW.PrintMore Go.Proofs.Ytknagjiipelfnaa.PAll
set_option linter.unusedVariables false

theorem w64 {a : Int} (h0 : -9223372036854775808 ≤ a) (h1 : a ≤ 9223372036854775807) : wrap64 a = a := by unfold wrap64; omega
/-- A list of nodes that is a forest: its trees. -/
inductive Fo : List S50 → Nat → List S143 → Prop
  | nil (a : Nat) : Fo [] a []
  | cons (x : S50) (ks rest : List S50) (a : Nat) (K R : List S143) (h1 : Fo ks (a + 1) K) (hk : x.f5 = (K.length : Int)) (h2 : Fo rest (a + 1 + ks.length) R) : Fo (x :: (ks ++ rest)) a (⟨x, K, (a : Int)⟩ :: R)

/-- The forest of a list of nodes, from behind. -/
def gr : List S50 → Nat → Option (List S143)
  | [], _ => some []
  | x :: r, a => (gr r (a + 1)).bind fun F => if 0 ≤ x.f5 ∧ x.f5.toNat ≤ F.length then some (⟨x, F.take x.f5.toNat, (a : Int)⟩ :: F.drop x.f5.toNat) else none

theorem Fo.split {ts : List S50} {a : Nat} {F : List S143} (h : Fo ts a F) : ∀ k, k ≤ F.length → ∃ t1 t2, ts = t1 ++ t2 ∧ Fo t1 a (F.take k) ∧ Fo t2 (a + t1.length) (F.drop k) := by
  induction h with
  | nil a => intro k hk; exact ⟨[], [], rfl, by simpa using Fo.nil a, by simpa using Fo.nil _⟩
  | cons x ks rest a K R h1 hk h2 ih1 ih2 =>
    intro k hl
    cases k with
    | zero => exact ⟨[], _, rfl, Fo.nil a, Fo.cons x ks rest a K R h1 hk h2⟩
    | succ k =>
      obtain ⟨t1, t2, rfl, g1, g2⟩ := ih2 k (by simpa using hl)
      refine ⟨x :: (ks ++ t1), t2, by simp, Fo.cons x ks t1 a K _ h1 hk g1, ?_⟩
      have e : a + (x :: (ks ++ t1)).length = a + 1 + ks.length + t1.length := by simp; omega
      rw [e]
      exact g2

theorem gr_fo : ∀ {ts : List S50} {a : Nat} {F : List S143}, gr ts a = some F → Fo ts a F := by
  intro ts
  induction ts with
  | nil => intro a F h; simp only [gr] at h; injection h with h; subst h; exact Fo.nil a
  | cons x r ih =>
    intro a F h
    simp only [gr] at h
    cases hG : gr r (a + 1) with
    | none => rw [hG] at h; simp at h
    | some G =>
      rw [hG, Option.bind_some] at h
      split at h
      · rename_i hc
        injection h with h
        subst h
        obtain ⟨t1, t2, rfl, g1, g2⟩ := (ih hG).split x.f5.toNat hc.2
        exact Fo.cons x t1 t2 a _ _ g1 (by rw [List.length_take]; omega) g2
      · cases h

theorem Fo.len {ts : List S50} {a : Nat} {F : List S143} (h : Fo ts a F) : F.length ≤ ts.length := by
  induction h with
  | nil a => simp
  | cons x ks rest a K R h1 hk h2 ih1 ih2 => simp; omega
theorem Fo.append {t1 t2 : List S50} {a : Nat} {F G : List S143} (h : Fo t1 a F) : Fo t2 (a + t1.length) G → Fo (t1 ++ t2) a (F ++ G) := by
  induction h with
  | nil a => intro h; simpa using h
  | cons x ks rest a K R h1 hk h2 ih1 ih2 =>
    intro h
    have e : a + (x :: (ks ++ rest)).length = a + 1 + ks.length + rest.length := by simp; omega
    rw [e] at h
    have := Fo.cons x ks (rest ++ t2) a K (R ++ G) h1 hk (ih2 h)
    simpa using this
theorem fo_gr {ts : List S50} {a : Nat} {F : List S143} (h : Fo ts a F) : gr ts a = some F := by
  have key : ∀ n (ts : List S50) a F, ts.length = n → Fo ts a F → gr ts a = some F := by
    intro n
    induction n with
    | zero => intro ts a F hn h; cases h with
      | nil => rfl
      | cons => simp at hn
    | succ n ih =>
      intro ts a F hn h
      cases h with
      | nil => simp at hn
      | cons x ks rest a K R h1 hk h2 =>
        simp only [gr]
        rw [ih (ks ++ rest) (a + 1) (K ++ R) (by simpa using hn) (h1.append h2), Option.bind_some, if_pos (by rw [hk]; simp), hk]
        simp
  exact key _ ts a F rfl h

/-! ### the machine -/
abbrev Stk := List (Int × Int)
/-- What is done is taken off: where its subtree ends is noted. -/
def pops (i : Int) : Stk → List Int → Stk × List Int
  | [], en => ([], en)
  | (p, l) :: S, en => if l = 0 then pops i S (en.set p.toNat (i + 1)) else ((p, l) :: S, en)
def decS : Stk → Stk
  | [] => []
  | (p, l) :: S => (p, l - 1) :: S
def topS : Stk → Int
  | [] => -1
  | (p, _) :: _ => p
def runP : List S50 → Nat → Stk → List Int → List Int → (Stk × List Int × List Int × Bool)
  | [], _, S, po, en => (S, po, en, S.isEmpty)
  | x :: r, i, S, po, en => if x.f5 < 0 then (decS S, po.set i (topS S), en, false) else
    runP r (i + 1) (pops (i : Int) (((i : Int), x.f5) :: decS S) en).1 (po.set i (topS S)) (pops (i : Int) (((i : Int), x.f5) :: decS S) en).2
def plantF (t : List S50) : Stk × List Int × List Int × Bool := runP t 0 [] (List.replicate t.length 0) (List.replicate t.length 0)

/-! ### no forest: the machine says so -/
def sumS (S : Stk) : Int := (S.map (·.2)).sum
def posS (S : Stk) : Prop := ∀ p ∈ S, 0 < p.2
theorem pops_sum (i : Int) : ∀ (S : Stk) (en : List Int), (∀ p ∈ S, 0 ≤ p.2) → sumS (pops i S en).1 = sumS S ∧ (∀ p ∈ (pops i S en).1, 0 ≤ p.2) ∧ ((pops i S en).1 = [] ∨ 0 < sumS (pops i S en).1) := by
  intro S
  induction S with
  | nil => intro en h; exact ⟨rfl, h, .inl rfl⟩
  | cons q S ih =>
    intro en h
    obtain ⟨p, l⟩ := q
    simp only [pops]
    have hS : ∀ q ∈ S, 0 ≤ q.2 := fun q hq => h q (List.mem_cons_of_mem _ hq)
    split
    · rename_i hl
      obtain ⟨h1, h2, h3⟩ := ih (en.set p.toNat (i + 1)) hS
      refine ⟨?_, h2, h3⟩
      rw [h1]
      simp [sumS, hl]
    · rename_i hl
      have hl0 : 0 ≤ l := h (p, l) List.mem_cons_self
      have hs : 0 ≤ sumS S := by
        clear ih h hl hl0
        unfold sumS
        induction S with
        | nil => simp
        | cons q S ih2 =>
          have := ih2 (fun p hp => hS p (List.mem_cons_of_mem _ hp))
          have := hS q List.mem_cons_self
          simp only [List.map_cons, List.sum_cons]
          omega
      refine ⟨rfl, h, .inr ?_⟩
      simp only [sumS, List.map_cons, List.sum_cons] at hs ⊢
      omega
theorem decS_sum (S : Stk) (h : ∀ p ∈ S, 0 ≤ p.2) (hp : S = [] ∨ 0 < (S.head?.map (·.2)).getD 0) : sumS (decS S) = sumS S - (if S = [] then 0 else 1) ∧ (∀ p ∈ decS S, 0 ≤ p.2) := by
  cases S with
  | nil => simp [decS, sumS]
  | cons q S =>
    obtain ⟨p, l⟩ := q
    rcases hp with hp | hp
    · cases hp
    · simp only [List.head?_cons, Option.map_some, Option.getD_some] at hp
      refine ⟨by simp [decS, sumS]; omega, ?_⟩
      intro z hz
      simp only [decS] at hz
      rcases List.mem_cons.1 hz with rfl | hz
      · show 0 ≤ l - 1; omega
      · exact h z (List.mem_cons_of_mem _ hz)
theorem pops_head (i : Int) : ∀ (S : Stk) (en : List Int), (∀ p ∈ S, 0 ≤ p.2) → ((pops i S en).1 = [] ∨ 0 < ((pops i S en).1.head?.map (·.2)).getD 0) := by
  intro S
  induction S with
  | nil => intro en h; exact .inl rfl
  | cons q S ih =>
    intro en h
    obtain ⟨p, l⟩ := q
    simp only [pops]
    split
    · exact ih _ (fun q hq => h q (List.mem_cons_of_mem _ hq))
    · rename_i hl
      right
      have := h (p, l) List.mem_cons_self
      simp only [List.head?_cons, Option.map_some, Option.getD_some]
      show 0 < l
      have : 0 ≤ l := this
      omega
/-- The machine is well just of a forest. -/
theorem run_ok : ∀ (ts : List S50) (i : Nat) (S : Stk) (po en : List Int), (∀ p ∈ S, 0 ≤ p.2) → (S = [] ∨ 0 < (S.head?.map (·.2)).getD 0) →
    match gr ts i with
    | none => (runP ts i S po en).2.2.2 = false
    | some F => (runP ts i S po en).2.2.2 = true ↔ sumS S ≤ (F.length : Int) := by
  intro ts
  induction ts with
  | nil =>
    intro i S po en h hp
    simp only [gr, runP]
    cases S with
    | nil => simp [sumS]
    | cons q S =>
      rcases hp with hp | hp
      · cases hp
      · have h2 := (decS_sum (q :: S) h (.inr hp)).2
        have h3 : 0 ≤ sumS (decS (q :: S)) := by
          have : ∀ S : Stk, (∀ p ∈ S, 0 ≤ p.2) → 0 ≤ sumS S := by
            intro S
            induction S with
            | nil => intro _; simp [sumS]
            | cons q S ih2 =>
              intro hS
              have := ih2 (fun p hp => hS p (List.mem_cons_of_mem _ hp))
              have := hS q List.mem_cons_self
              simp only [sumS, List.map_cons, List.sum_cons] at *
              omega
          exact this _ h2
        have h4 := (decS_sum (q :: S) h (.inr hp)).1
        simp only [if_neg (List.cons_ne_nil q S)] at h4
        simp only [List.isEmpty_cons, List.length_nil]
        constructor
        · intro h; cases h
        · intro h; simp at h; omega
  | cons x r ih =>
    intro i S po en h hp
    simp only [gr, runP]
    by_cases hx : x.f5 < 0
    · rw [if_pos hx]
      cases hG : gr r (i + 1) with
      | none => simp
      | some G => rw [Option.bind_some, if_neg (by omega)]
    · rw [if_neg hx]
      obtain ⟨d1, d2⟩ := decS_sum S h hp
      have hall : ∀ p ∈ (((i : Int), x.f5) :: decS S), 0 ≤ p.2 := by
        intro p hp
        rcases List.mem_cons.1 hp with rfl | hp
        · show 0 ≤ x.f5; omega
        · exact d2 p hp
      obtain ⟨p1, p2, _⟩ := pops_sum (i : Int) (((i : Int), x.f5) :: decS S) en hall
      have p3 := pops_head (i : Int) (((i : Int), x.f5) :: decS S) en hall
      have key := ih (i + 1) (pops (i : Int) (((i : Int), x.f5) :: decS S) en).1 (po.set i (topS S)) (pops (i : Int) (((i : Int), x.f5) :: decS S) en).2 p2 p3
      have hsum : sumS (((i : Int), x.f5) :: decS S) = x.f5 + sumS (decS S) := by simp [sumS]
      cases hG : gr r (i + 1) with
      | none => rw [hG] at key; simpa using key
      | some G =>
        rw [hG] at key
        simp only at key
        rw [Option.bind_some]
        have hds : 0 ≤ sumS (decS S) := by
          have : ∀ S : Stk, (∀ p ∈ S, 0 ≤ p.2) → 0 ≤ sumS S := by
            intro S
            induction S with
            | nil => intro _; simp [sumS]
            | cons q S ih2 =>
              intro hS
              have := ih2 (fun p hp => hS p (List.mem_cons_of_mem _ hp))
              have := hS q List.mem_cons_self
              simp only [sumS, List.map_cons, List.sum_cons] at *
              omega
          exact this _ d2
        split
        · rename_i hc
          split at hc
          · cases hc
          · rename_i hk
            cases hv : (runP r (i + 1) (pops (i : Int) (((i : Int), x.f5) :: decS S) en).1 (po.set i (topS S)) (pops (i : Int) (((i : Int), x.f5) :: decS S) en).2).2.2.2 with
            | false => rfl
            | true =>
              have := key.1 hv
              rw [p1, hsum] at this
              omega
        · rename_i F hc
          split at hc
          · rename_i hk
            injection hc with hc
            subst hc
            rw [key, p1, hsum, d1]
            simp only [List.length_cons, List.length_drop]
            by_cases hS : S = []
            · subst hS
              simp [sumS]
              omega
            · rw [if_neg hS]
              omega
          · cases hc
theorem plant_ok (t : List S50) : (plantF t).2.2.2 = (gr t 0).isSome := by
  have h := run_ok t 0 [] (List.replicate t.length 0) (List.replicate t.length 0) (by simp) (.inl rfl)
  unfold plantF
  cases hg : gr t 0 with
  | none => rw [hg] at h; simpa using h
  | some F =>
    rw [hg] at h
    simp only at h
    exact h.2 (by simp [sumS])

mutual
/-- Where the subtrees end; the parents: in the nodes' order. -/
def enT : S143 → List Int
  | ⟨_, K, a⟩ => (a + 1 + ((enL K).length : Int)) :: enL K
def enL : List S143 → List Int
  | [] => []
  | x :: r => enT x ++ enL r
end
mutual
def poT (p : Int) : S143 → List Int
  | ⟨_, K, a⟩ => p :: poL a K
def poL (p : Int) : List S143 → List Int
  | [] => []
  | x :: r => poT p x ++ poL p r
end
theorem enL_cons (x : S50) (K R : List S143) (a : Int) : enL (⟨x, K, a⟩ :: R) = (a + 1 + ((enL K).length : Int)) :: (enL K ++ enL R) := by rw [enL, enT]; rfl
theorem poL_cons (p : Int) (x : S50) (K R : List S143) (a : Int) : poL p (⟨x, K, a⟩ :: R) = p :: (poL a K ++ poL p R) := by rw [poL, poT]; rfl
theorem enL_nil : enL [] = [] := by rw [enL]
theorem poL_nil (p : Int) : poL p [] = [] := by rw [poL]
theorem Fo.enlen {ts : List S50} {a : Nat} {F : List S143} (h : Fo ts a F) : (enL F).length = ts.length := by
  induction h with
  | nil a => rw [enL_nil]; rfl
  | cons x ks rest a K R h1 hk h2 ih1 ih2 => rw [enL_cons]; simp [ih1, ih2]
theorem Fo.polen {ts : List S50} {a : Nat} {F : List S143} (h : Fo ts a F) : ∀ p, (poL p F).length = ts.length := by
  induction h with
  | nil a => intro p; rw [poL_nil]; rfl
  | cons x ks rest a K R h1 hk h2 ih1 ih2 => intro p; rw [poL_cons]; simp [ih1, ih2]
def subS (m : Nat) : Stk → Stk
  | [] => []
  | (p, l) :: S => (p, l - (m : Int)) :: S
def room (m : Nat) (S : Stk) : Prop := ∀ p l S', S = (p, l) :: S' → (m : Int) ≤ l
theorem pops_top {i : Int} {S : Stk} {en : List Int} (h : room 1 S) : pops i S en = (S, en) := by
  cases S with
  | nil => rfl
  | cons q S =>
    obtain ⟨p, l⟩ := q
    have := h p l S rfl
    simp only [pops]
    rw [if_neg (by omega)]
theorem set_mid {α : Type} (u : List α) (x y : α) (v : List α) {n : Nat} (hn : u.length = n) : (u ++ x :: v).set n y = u ++ y :: v := by
  subst hn
  simp
theorem split_len {α : Type} {l : List α} {m n : Nat} (h : l.length = m + 1 + n) : ∃ (x : α) (u v : List α), l = x :: (u ++ v) ∧ u.length = m ∧ v.length = n := by
  cases l with
  | nil => simp at h; omega
  | cons x r => exact ⟨x, r.take m, r.drop m, by rw [List.take_append_drop], by simp at h ⊢; omega, by simp at h ⊢; omega⟩
theorem run_fo {ts : List S50} {a : Nat} {F : List S143} (h : Fo ts a F) : ∀ (rest : List S50) (S : Stk) (po0 po1 po2 en0 en1 en2 : List Int), po0.length = a → po1.length = ts.length → en0.length = a → en1.length = ts.length → room F.length S →
    runP (ts ++ rest) a (pops ((a : Int) - 1) S (en0 ++ en1 ++ en2)).1 (po0 ++ po1 ++ po2) (pops ((a : Int) - 1) S (en0 ++ en1 ++ en2)).2 =
    runP rest (a + ts.length) (pops (((a + ts.length : Nat) : Int) - 1) (subS F.length S) (en0 ++ enL F ++ en2)).1 (po0 ++ poL (topS S) F ++ po2) (pops (((a + ts.length : Nat) : Int) - 1) (subS F.length S) (en0 ++ enL F ++ en2)).2 := by
  induction h with
  | nil a =>
    intro rest S po0 po1 po2 en0 en1 en2 h1 h2 h3 h4 hr
    have e1 : po1 = [] := List.eq_nil_of_length_eq_zero h2
    have e2 : en1 = [] := List.eq_nil_of_length_eq_zero h4
    have e3 : subS ([] : List S143).length S = S := by
      cases S with
      | nil => rfl
      | cons q S => obtain ⟨p, l⟩ := q; simp [subS]
    rw [e1, e2, e3, enL_nil, poL_nil]
    rfl
  | cons x ks rs a K R h1 hk h2 ih1 ih2 =>
    intro rest S po0 po1 po2 en0 en1 en2 l1 l2 l3 l4 hr
    have hr1 : room 1 S := fun p l S' e => by have := hr p l S' e; simp at this; omega
    obtain ⟨pa, pk, pr, rfl, q1, q2⟩ := split_len (m := ks.length) (n := rs.length) (by rw [l2]; simp; omega)
    obtain ⟨ea, ek, er, rfl, q3, q4⟩ := split_len (m := ks.length) (n := rs.length) (by rw [l4]; simp; omega)
    rw [pops_top hr1]
    show runP (x :: ((ks ++ rs) ++ rest)) a S (po0 ++ (pa :: (pk ++ pr)) ++ po2) (en0 ++ (ea :: (ek ++ er)) ++ en2) = _
    simp only [runP]
    rw [if_neg (by rw [hk]; omega)]
    have e1 : (po0 ++ (pa :: (pk ++ pr)) ++ po2).set a (topS S) = (po0 ++ [topS S]) ++ pk ++ (pr ++ po2) := by
      have : po0 ++ (pa :: (pk ++ pr)) ++ po2 = po0 ++ pa :: ((pk ++ pr) ++ po2) := by simp
      rw [this, set_mid po0 pa _ _ l1]
      simp
    have e2 : en0 ++ (ea :: (ek ++ er)) ++ en2 = (en0 ++ [ea]) ++ ek ++ (er ++ en2) := by simp
    have e3 : ((a : Nat) : Int) = ((a + 1 : Nat) : Int) - 1 := by omega
    rw [e1, e2]
    conv => lhs; rw [e3]
    have e4 : ks ++ rs ++ rest = ks ++ (rs ++ rest) := by simp
    rw [e4, ← e3]
    have key := ih1 (rs ++ rest) (((a : Int), x.f5) :: decS S) (po0 ++ [topS S]) pk (pr ++ po2) (en0 ++ [ea]) ek (er ++ en2) (by simp [l1]) q1 (by simp [l3]) q3 (by intro p l S' e; injection e with e1 e2; injection e1 with _ e1; omega)
    rw [← e3] at key
    rw [key]
    have e5 : subS K.length (((a : Int), x.f5) :: decS S) = ((a : Int), 0) :: decS S := by simp only [subS]; rw [hk]; simp
    have hkl : ((enL K).length : Int) = (ks.length : Int) := by rw [h1.enlen]
    have e6 : pops (((a + 1 + ks.length : Nat) : Int) - 1) (((a : Int), 0) :: decS S) (en0 ++ [ea] ++ enL K ++ (er ++ en2)) = pops (((a + 1 + ks.length : Nat) : Int) - 1) (decS S) ((en0 ++ ((a : Int) + 1 + ((enL K).length : Int)) :: enL K) ++ er ++ en2) := by
      simp only [pops]
      rw [if_pos trivial]
      congr 1
      have : en0 ++ [ea] ++ enL K ++ (er ++ en2) = en0 ++ ea :: (enL K ++ (er ++ en2)) := by simp
      rw [this, Int.toNat_natCast, set_mid en0 ea _ _ l3, hkl]
      simp
    have e7 : topS (((a : Int), x.f5) :: decS S) = (a : Int) := rfl
    rw [e5, e6, e7]
    have hrR : room R.length (decS S) := by
      intro p l S' e
      cases S with
      | nil => cases e
      | cons q S =>
        obtain ⟨p0, l0⟩ := q
        simp only [decS] at e
        injection e with e1 e2
        injection e1 with e1 e3
        have := hr p0 l0 S rfl
        simp at this
        omega
    have e8 : po0 ++ [topS S] ++ poL (a : Int) K ++ (pr ++ po2) = (po0 ++ topS S :: poL (a : Int) K) ++ pr ++ po2 := by simp
    rw [e8]
    rw [ih2 rest (decS S) (po0 ++ topS S :: poL (a : Int) K) pr po2 (en0 ++ ((a : Int) + 1 + ((enL K).length : Int)) :: enL K) er en2 (by simp [l1, h1.polen]; omega) q2 (by simp [l3, h1.enlen]; omega) q4 hrR]
    have e9 : topS (decS S) = topS S := by cases S with
      | nil => rfl
      | cons q S => rfl
    have e10 : subS R.length (decS S) = subS (⟨x, K, (a : Int)⟩ :: R : List S143).length S := by
      cases S with
      | nil => rfl
      | cons q S => obtain ⟨p, l⟩ := q; simp only [subS, decS, List.length_cons]; congr 2; push_cast; omega
    have e11 : a + 1 + ks.length + rs.length = a + (x :: (ks ++ rs)).length := by simp; omega
    rw [e9, e10, e11, enL_cons, poL_cons]
    simp only [List.append_assoc, List.cons_append]
theorem plant_fo {t : List S50} {F : List S143} (h : Fo t 0 F) : plantF t = ([], poL (-1) F, enL F, true) := by
  have h1 := run_fo h [] [] [] (List.replicate t.length 0) [] [] (List.replicate t.length 0) [] rfl (by simp) rfl (by simp) (by intro p l S' e; cases e)
  simp only [List.append_nil, List.nil_append, pops, subS] at h1
  unfold plantF
  rw [h1]
  rfl
theorem plant_no {t : List S50} (h : gr t 0 = none) : (plantF t).2.2.2 = false := by rw [plant_ok, h]; rfl

mutual
/-- All subtrees, in the nodes' order. -/
def ndT : S143 → List S143
  | ⟨x, K, a⟩ => ⟨x, K, a⟩ :: ndL K
def ndL : List S143 → List S143
  | [] => []
  | x :: r => ndT x ++ ndL r
end
theorem ndL_nil : ndL [] = [] := by rw [ndL]
theorem ndL_cons (x : S50) (K R : List S143) (a : Int) : ndL (⟨x, K, a⟩ :: R) = ⟨x, K, a⟩ :: (ndL K ++ ndL R) := by rw [ndL, ndT]; rfl
theorem Fo.ndlen {ts : List S50} {a : Nat} {F : List S143} (h : Fo ts a F) : (ndL F).length = ts.length := by
  induction h with
  | nil a => rw [ndL_nil]; rfl
  | cons x ks rest a K R h1 hk h2 ih1 ih2 => rw [ndL_cons]; simp [ih1, ih2]
/-- The element at a place of a list that is put together. -/
theorem at_parts {α : Type} {x : α} {u v : List α} {m n : Nat} (hu : u.length = m) (hv : v.length = n) {j : Nat} (hj : j < m + n + 1) :
    (j = 0 ∧ (x :: (u ++ v))[j]? = some x) ∨ (∃ i, i < m ∧ j = i + 1 ∧ (x :: (u ++ v))[j]? = u[i]?) ∨ (∃ i, i < n ∧ j = m + 1 + i ∧ (x :: (u ++ v))[j]? = v[i]?) := by
  cases j with
  | zero => exact .inl ⟨rfl, rfl⟩
  | succ j =>
    right
    by_cases h : j < m
    · left
      refine ⟨j, h, rfl, ?_⟩
      rw [List.getElem?_cons_succ, List.getElem?_append_left (by omega)]
    · right
      refine ⟨j - m, by omega, by omega, ?_⟩
      rw [List.getElem?_cons_succ, List.getElem?_append_right (by omega), hu]
theorem fst_at {α : Type} (x : α) (u v : List α) {i : Nat} (h : i < u.length) : (x :: (u ++ v))[i + 1]? = u[i]? := by
  rw [List.getElem?_cons_succ, List.getElem?_append_left h]
theorem snd_at {α : Type} (x : α) (u v : List α) {m i : Nat} (h : u.length = m) : (x :: (u ++ v))[m + 1 + i]? = v[i]? := by
  have : m + 1 + i = (m + i) + 1 := by omega
  rw [this, List.getElem?_cons_succ, List.getElem?_append_right (by omega)]
  congr 1
  omega
/-- What stands at a place of a forest: its node, its children's forest, where it ends. -/
theorem Fo.node {ts : List S50} {a : Nat} {F : List S143} (h : Fo ts a F) : ∀ j, j < ts.length → ∃ x ks K, ts[j]? = some x ∧ (ndL F)[j]? = some ⟨x, K, ((a + j : Nat) : Int)⟩ ∧ Fo ks (a + j + 1) K ∧ (enL F)[j]? = some ((a + j + 1 + ks.length : Nat) : Int) ∧ j + 1 + ks.length ≤ ts.length ∧
    (∀ m, m < ks.length → (enL F)[j + 1 + m]? = (enL K)[m]?) := by
  induction h with
  | nil a => intro j hj; simp at hj
  | cons x ks rest a K R h1 hk h2 ih1 ih2 =>
    intro j hj
    rw [ndL_cons, enL_cons]
    have lK := h1.ndlen
    have lE := h1.enlen
    rcases at_parts (x := x) (u := ks) (v := rest) rfl rfl (j := j) (by simp at hj; omega) with ⟨rfl, e⟩ | ⟨i, hi, rfl, e⟩ | ⟨i, hi, rfl, e⟩
    · refine ⟨x, ks, K, e, rfl, by simpa using h1, by simp [lE], by simp; omega, fun m hm => ?_⟩
      have : 0 + 1 + m = m + 1 := by omega
      rw [this, fst_at _ _ _ (by omega)]
    · obtain ⟨y, us, U, g1, g2, g3, g4, g5, g6⟩ := ih1 i hi
      have e1 : a + (i + 1) = a + 1 + i := by omega
      refine ⟨y, us, U, by rw [e, g1], ?_, by rw [e1]; exact g3, ?_, by simp; omega, fun m hm => ?_⟩
      · rw [fst_at _ _ _ (by omega), g2, e1]
      · rw [fst_at _ _ _ (by omega), g4, e1]
      · have : i + 1 + 1 + m = (i + 1 + m) + 1 := by omega
        rw [this, fst_at _ _ _ (by omega)]
        exact g6 m hm
    · obtain ⟨y, us, U, g1, g2, g3, g4, g5, g6⟩ := ih2 i hi
      have e1 : a + (ks.length + 1 + i) = a + 1 + ks.length + i := by omega
      refine ⟨y, us, U, by rw [e, g1], ?_, by rw [e1]; exact g3, ?_, by simp; omega, fun m hm => ?_⟩
      · rw [snd_at _ _ _ lK, g2, e1]
      · rw [snd_at _ _ _ lE, g4, e1]
      · have : ks.length + 1 + i + 1 + m = ks.length + 1 + (i + 1 + m) := by omega
        rw [this, snd_at _ _ _ lE]
        exact g6 m hm
/-- A parent stands ahead. -/
theorem Fo.par_lt {ts : List S50} {a : Nat} {F : List S143} (h : Fo ts a F) : ∀ p, p < (a : Int) → ∀ j, j < ts.length → ∃ q, (poL p F)[j]? = some q ∧ q < ((a + j : Nat) : Int) ∧ (p ≤ q) := by
  induction h with
  | nil a => intro p hp j hj; simp at hj
  | cons x ks rest a K R h1 hk h2 ih1 ih2 =>
    intro p hp j hj
    rw [poL_cons]
    have lK := h1.polen (a : Int)
    rcases at_parts (x := p) (u := poL (a : Int) K) (v := poL p R) lK (h2.polen p) (j := j) (by simp at hj; omega) with ⟨rfl, e⟩ | ⟨i, hi, rfl, e⟩ | ⟨i, hi, rfl, e⟩
    · exact ⟨p, e, by simpa using hp, Int.le_refl _⟩
    · obtain ⟨q, g1, g2, g3⟩ := ih1 (a : Int) (by omega) i hi
      exact ⟨q, by rw [e, g1], by omega, by omega⟩
    · obtain ⟨q, g1, g2, g3⟩ := ih2 p (by omega) i hi
      exact ⟨q, by rw [e, g1], by omega, by omega⟩
/-! ### the subtree at a place -/
mutual
def fdT (at_ par : Int) : S143 → Option (S143 × Int)
  | ⟨x, K, a⟩ => if a = at_ then some (⟨x, K, a⟩, par) else fdL at_ a K
def fdL (at_ par : Int) : List S143 → Option (S143 × Int)
  | [] => none
  | x :: r => match fdT at_ par x with | some y => some y | none => fdL at_ par r
end
theorem fdL_nil (at_ par : Int) : fdL at_ par [] = none := by rw [fdL]
theorem fdL_cons (at_ par : Int) (x : S50) (K R : List S143) (a : Int) : fdL at_ par (⟨x, K, a⟩ :: R) = if a = at_ then some (⟨x, K, a⟩, par) else match fdL at_ a K with | some y => some y | none => fdL at_ par R := by
  rw [fdL, fdT]
  by_cases h : a = at_
  · rw [if_pos h, if_pos h]
  · rw [if_neg h, if_neg h]
theorem Fo.find_out {ts : List S50} {a : Nat} {F : List S143} (h : Fo ts a F) : ∀ (par i : Int), (i < (a : Int) ∨ ((a + ts.length : Nat) : Int) ≤ i) → fdL i par F = none := by
  induction h with
  | nil a => intro par i _; exact fdL_nil _ _
  | cons x ks rest a K R h1 hk h2 ih1 ih2 =>
    intro par i hi
    simp only [List.length_cons, List.length_append] at hi
    rw [fdL_cons, if_neg (by omega), ih1 (a : Int) i (by omega), ih2 par i (by omega)]
theorem Fo.find {ts : List S50} {a : Nat} {F : List S143} (h : Fo ts a F) : ∀ (par : Int) (j : Nat), j < ts.length → ∃ y q, (ndL F)[j]? = some y ∧ (poL par F)[j]? = some q ∧ fdL ((a + j : Nat) : Int) par F = some (y, q) := by
  induction h with
  | nil a => intro par j hj; simp at hj
  | cons x ks rest a K R h1 hk h2 ih1 ih2 =>
    intro par j hj
    rw [ndL_cons, poL_cons, fdL_cons]
    have lN := h1.ndlen
    have lP := h1.polen (a : Int)
    rcases at_parts (x := x) (u := ks) (v := rest) rfl rfl (j := j) (by simp at hj; omega) with ⟨rfl, e⟩ | ⟨i, hi, rfl, e⟩ | ⟨i, hi, rfl, e⟩
    · exact ⟨_, _, rfl, rfl, by rw [if_pos (by simp)]⟩
    · obtain ⟨y, q, g1, g2, g3⟩ := ih1 (a : Int) i hi
      refine ⟨y, q, by rw [fst_at _ _ _ (by omega), g1], by rw [fst_at _ _ _ (by omega), g2], ?_⟩
      rw [if_neg (by omega)]
      have e1 : a + (i + 1) = a + 1 + i := by omega
      rw [e1, g3]
    · obtain ⟨y, q, g1, g2, g3⟩ := ih2 par i hi
      refine ⟨y, q, by rw [snd_at _ _ _ lN, g1], by rw [snd_at _ _ _ lP, g2], ?_⟩
      rw [if_neg (by omega)]
      have e1 : a + (ks.length + 1 + i) = a + 1 + ks.length + i := by omega
      rw [e1, h1.find_out (a : Int) _ (by omega), g3]
/-! ### the symbols, by a stack of ends and by the parents -/
section
variable (sy : Nat → Option Int) (en : Nat → Int)
def popA (i : Nat) : List Int → List Int
  | [] => []
  | e :: S => if e ≤ (i : Int) then popA i S else e :: S
def runS : Nat → Nat → List Int → List (Nat × Int × Nat) × List Int
  | 0, _, S => ([], S)
  | m + 1, i, S => match sy i with
    | none => runS m (i + 1) (popA i S)
    | some k => ((i, k, (popA i S).length) :: (runS m (i + 1) (en i :: popA i S)).1, (runS m (i + 1) (en i :: popA i S)).2)
theorem runS_add : ∀ (m n i : Nat) (S : List Int), runS sy en (m + n) i S = ((runS sy en m i S).1 ++ (runS sy en n (i + m) (runS sy en m i S).2).1, (runS sy en n (i + m) (runS sy en m i S).2).2) := by
  intro m
  induction m with
  | zero => intro n i S; simp [runS]
  | succ m ih =>
    intro n i S
    have e : m + 1 + n = (m + n) + 1 := by omega
    have e2 : i + (m + 1) = i + 1 + m := by omega
    rw [e]
    simp only [runS]
    split
    · rw [ih, e2]
    · rw [ih, e2]; rfl
theorem popA_junk {i : Nat} {J B : List Int} (hJ : ∀ e ∈ J, e ≤ (i : Int)) (hB : ∀ e ∈ B, (i : Int) < e) : popA i (J ++ B) = B := by
  induction J with
  | nil =>
    cases B with
    | nil => rfl
    | cons b B => simp only [List.nil_append, popA]; rw [if_neg (by have := hB b List.mem_cons_self; omega)]
  | cons e J ih =>
    simp only [List.cons_append, popA]
    rw [if_pos (hJ e List.mem_cons_self)]
    exact ih (fun e he => hJ e (List.mem_cons_of_mem _ he))
mutual
def outT (d : Nat) : S143 → List (Nat × Int × Nat)
  | ⟨_, K, a⟩ => match sy a.toNat with
    | none => outL d K
    | some k => (a.toNat, k, d) :: outL (d + 1) K
def outL (d : Nat) : List S143 → List (Nat × Int × Nat)
  | [] => []
  | x :: r => outT d x ++ outL d r
end
theorem outL_nil (d : Nat) : outL sy d [] = [] := by rw [outL]
theorem outL_cons (d : Nat) (x : S50) (K R : List S143) (a : Nat) : outL sy d (⟨x, K, (a : Int)⟩ :: R) = (match sy a with | none => outL sy d K | some k => (a, k, d) :: outL sy (d + 1) K) ++ outL sy d R := by
  rw [outL, outT, Int.toNat_natCast]
theorem Fo.syms {ts : List S50} {a : Nat} {F : List S143} (h : Fo ts a F) : ∀ (J B : List Int), (∀ e ∈ J, e ≤ (a : Int)) → (∀ e ∈ B, ((a + ts.length : Nat) : Int) ≤ e) → (∀ j, j < ts.length → some (en (a + j)) = (enL F)[j]?) →
    ∃ J', (∀ e ∈ J', e ≤ ((a + ts.length : Nat) : Int)) ∧ runS sy en ts.length a (J ++ B) = (outL sy B.length F, J' ++ B) := by
  induction h with
  | nil a => intro J B hJ hB _; exact ⟨J, by simpa using hJ, by simp [runS, outL_nil]⟩
  | cons x ks rest a K R h1 hk h2 ih1 ih2 =>
    intro J B hJ hB hen
    have e0 : (x :: (ks ++ rest)).length = ks.length + rest.length + 1 := by simp
    rw [e0] at hB hen ⊢
    rw [enL_cons] at hen
    have hen1 : ∀ j, j < ks.length → some (en (a + 1 + j)) = (enL K)[j]? := fun j hj => by
      have := hen (j + 1) (by omega)
      rw [fst_at _ _ _ (by rw [h1.enlen]; exact hj)] at this
      rw [← this]
      congr 2
      omega
    have hen2 : ∀ j, j < rest.length → some (en (a + 1 + ks.length + j)) = (enL R)[j]? := fun j hj => by
      have := hen (ks.length + 1 + j) (by omega)
      rw [snd_at _ _ _ h1.enlen] at this
      rw [← this]
      congr 2
      omega
    have hena : en a = ((a + 1 + ks.length : Nat) : Int) := by
      have := hen 0 (by omega)
      simp only [List.getElem?_cons_zero, Nat.add_zero, h1.enlen] at this
      injection this with this
    have hpop : popA a (J ++ B) = B := popA_junk hJ (fun e he => by have := hB e he; omega)
    have e1 : a + (ks.length + rest.length + 1) = a + 1 + ks.length + rest.length := by omega
    rw [outL_cons]
    simp only [runS]
    cases hs : sy a with
    | none =>
      simp only [hpop]
      obtain ⟨J1, g1, g2⟩ := ih1 [] B (by simp) (fun e he => by have := hB e he; omega) hen1
      obtain ⟨J2, g3, g4⟩ := ih2 J1 B g1 (fun e he => by have := hB e he; omega) hen2
      refine ⟨J2, by rw [e1]; exact g3, ?_⟩
      rw [runS_add]
      simp only [List.nil_append] at g2
      rw [g2]
      simp only
      rw [g4]
    | some k =>
      simp only [hpop, hena]
      obtain ⟨J1, g1, g2⟩ := ih1 [] (((a + 1 + ks.length : Nat) : Int) :: B) (by simp) (fun e he => by
        rcases List.mem_cons.1 he with rfl | he
        · exact Int.le_refl _
        · have := hB e he; omega) hen1
      obtain ⟨J2, g3, g4⟩ := ih2 (J1 ++ [((a + 1 + ks.length : Nat) : Int)]) B (fun e he => by
        rcases List.mem_append.1 he with he | he
        · exact g1 e he
        · rw [List.mem_singleton.1 he]; exact Int.le_refl _) (fun e he => by have := hB e he; omega) hen2
      refine ⟨J2, by rw [e1]; exact g3, ?_⟩
      rw [runS_add]
      simp only [List.nil_append] at g2
      rw [g2]
      simp only
      have : J1 ++ ((a + 1 + ks.length : Nat) : Int) :: B = (J1 ++ [((a + 1 + ks.length : Nat) : Int)]) ++ B := by simp
      rw [this, g4]
      simp
/-- How many symbols stand around a place's children. -/
def dp (po : Nat → Int) (sb : Nat → Bool) (q : Nat) : Nat := (if sb q then 1 else 0) + (if _h : 0 ≤ po q ∧ (po q).toNat < q then dp po sb (po q).toNat else 0)
termination_by q
def dpI (po : Nat → Int) (sb : Nat → Bool) (p : Int) : Nat := if p < 0 then 0 else dp po sb p.toNat
theorem dpI_step (po : Nat → Int) (sb : Nat → Bool) (q : Nat) (h : po q < (q : Int)) : dpI po sb (q : Int) = (if sb q then 1 else 0) + dpI po sb (po q) := by
  unfold dpI
  rw [if_neg (by omega), Int.toNat_natCast, dp]
  congr 1
  split
  · rw [if_neg (by omega)]
  · rw [if_pos (by omega)]
theorem Fo.outs {ts : List S50} {a : Nat} {F : List S143} (h : Fo ts a F) (po : Nat → Int) : ∀ (p : Int), p < (a : Int) → (∀ j, j < ts.length → some (po (a + j)) = (poL p F)[j]?) →
    outL sy (dpI po (fun q => (sy q).isSome) p) F = (List.range' a ts.length).filterMap (fun i => (sy i).map (fun k => (i, k, dpI po (fun q => (sy q).isSome) (po i)))) := by
  induction h with
  | nil a => intro p _ _; rw [outL_nil]; rfl
  | cons x ks rest a K R h1 hk h2 ih1 ih2 =>
    intro p hp hpo
    have e0 : (x :: (ks ++ rest)).length = ks.length + rest.length + 1 := by simp
    rw [e0] at hpo ⊢
    rw [poL_cons] at hpo
    have hpo1 : ∀ j, j < ks.length → some (po (a + 1 + j)) = (poL (a : Int) K)[j]? := fun j hj => by
      have := hpo (j + 1) (by omega)
      rw [fst_at _ _ _ (by rw [h1.polen]; exact hj)] at this
      rw [← this]
      congr 2
      omega
    have hpo2 : ∀ j, j < rest.length → some (po (a + 1 + ks.length + j)) = (poL p R)[j]? := fun j hj => by
      have := hpo (ks.length + 1 + j) (by omega)
      rw [snd_at _ _ _ (h1.polen _)] at this
      rw [← this]
      congr 2
      omega
    have hpa : po a = p := by
      have := hpo 0 (by omega)
      simp only [List.getElem?_cons_zero, Nat.add_zero] at this
      injection this
    have g1 := ih1 (a : Int) (by omega) hpo1
    have g2 := ih2 p (by omega) hpo2
    have hst := dpI_step po (fun q => (sy q).isSome) a (by rw [hpa]; exact hp)
    rw [hst, hpa] at g1
    rw [outL_cons, g2, List.range'_succ, ← List.range'_append_1, List.filterMap_cons, List.filterMap_append]
    cases hs : sy a with
    | none =>
      simp only [hs, Option.isSome_none, Bool.false_eq_true, if_false, Nat.zero_add] at g1
      simp only [Option.map_none]
      rw [g1]
    | some k =>
      simp only [hs, Option.isSome_some, if_true] at g1
      simp only [Option.map_some]
      rw [Nat.add_comm (dpI _ _ _) 1, g1, hpa]
      simp
end
/-- Both ways tell the same symbols. -/
theorem syms_same {t : List S50} {F : List S143} (h : Fo t 0 F) (sy : Nat → Option Int) (en po : Nat → Int) (hen : ∀ j, j < t.length → some (en j) = (enL F)[j]?) (hpo : ∀ j, j < t.length → some (po j) = (poL (-1) F)[j]?) :
    (runS sy en t.length 0 []).1 = (List.range t.length).filterMap (fun i => (sy i).map (fun k => (i, k, dpI po (fun q => (sy q).isSome) (po i)))) := by
  obtain ⟨J', _, h1⟩ := h.syms sy en [] [] (by simp) (by simp) (by simpa using hen)
  have h2 := h.outs sy po (-1) (by omega) (by simpa using hpo)
  simp only [List.append_nil, List.length_nil] at h1
  rw [h1]
  have : dpI po (fun q => (sy q).isSome) (-1) = 0 := by unfold dpI; rw [if_pos (by omega)]
  rw [this] at h2
  simp only
  rw [h2, List.range_eq_range']

/-! ### the document's trees -/
abbrev Tup := ByteArray × Bool × ByteArray × Int × Int × Int × Int × (List S143) × Int × Int × Bool
def tup (x : S143) (m : Int) (ok : Bool) : Tup := (x.f0.f0, x.f0.f1, x.f0.f2, x.f0.f3, x.f0.f4, x.f0.f5, x.f0.f6, x.f1, x.f2, m, ok)
def noT (a : Int) : Tup := (⟨#[]⟩, false, ⟨#[]⟩, 0, 0, 0, 0, [], 0, a, false)
theorem le_take {t : List S50} {a : Int} {r : Tup} {k k' : Nat} (h : k ≤ k') (e : trellisref15_take.f k t a = some r) : trellisref15_take.f k' t a = some r := by
  induction h with
  | refl => exact e
  | step _ ih => exact trellisref15_take.mono _ _ _ _ ih
theorem le_loop {t : List S50} {a b i : Int} {c0 : ByteArray} {c1 : Bool} {c2 : ByteArray} {c3 c4 c5 c6 : Int} {acc : List S143} {c8 : Int} {r : Tup} {k k' : Nat} (h : k ≤ k') (e : trellisref15_take.l0 k t a b i c0 c1 c2 c3 c4 c5 c6 acc c8 = some r) : trellisref15_take.l0 k' t a b i c0 c1 c2 c3 c4 c5 c6 acc c8 = some r := by
  induction h with
  | refl => exact e
  | step _ ih => exact (trellisref15_take.mono_l _).2.2 _ _ _ _ _ _ _ _ _ _ _ _ _ _ ih
inductive Chain (t : List S50) : Nat → List S143 → Nat → Prop
  | nil (a : Nat) : Chain t a [] a
  | cons (a b m : Nat) (x : S143) (R : List S143) (k : Nat) (h : trellisref15_take.f k t (a : Int) = some (tup x (b : Int) true)) (hr : Chain t b R m) : Chain t a (x :: R) m
def w1 (n : Int) : Int := wrap64 n
theorem w64i {n : Int} (h0 : -9223372036854775808 ≤ n) (h1 : n ≤ 9223372036854775807) : wrap64 n = n := w64 h0 h1
/-- One round of the loop over the children, with its take. -/
theorem loop_step {t : List S50} {a : Nat} {x : S50} (ha : a < t.length) (hx : rd_T50 t (a : Int) = x) {b : Nat} {i : Int} (hi : i < x.f5) {acc : List S143} (hacc : acc.length < 1353245080339) (hi2 : 0 ≤ i) (hi3 : i ≤ 1048576) {k1 k2 : Nat} {y : S143} {m : Int} {r : Tup}
    (h1 : trellisref15_take.f k1 t (b : Int) = some (tup y m true)) (h2 : trellisref15_take.l0 k2 t (a : Int) m (i + 1) x.f0 x.f1 x.f2 x.f3 x.f4 x.f5 x.f6 (acc ++ [y]) (a : Int) = some r) :
    ∃ k, trellisref15_take.l0 k t (a : Int) (b : Int) i x.f0 x.f1 x.f2 x.f3 x.f4 x.f5 x.f6 acc (a : Int) = some r := by
  obtain ⟨⟨y0, y1, y2, y3, y4, y5, y6⟩, yk, ya⟩ := y
  refine ⟨max k1 k2 + 1, ?_⟩
  rw [trellisref15_take.l0, if_pos (by omega), if_pos (by omega), hx, if_pos hi, le_take (Nat.le_max_left k1 k2) h1, Option.bind_some]
  have e : wrap64 (i + 1) = i + 1 := w64 (by omega) (by omega)
  rw [e]
  simp only [tup]
  rw [if_pos trivial, if_pos hacc]
  exact le_loop (Nat.le_max_right k1 k2) h2
theorem loop_end {t : List S50} {a : Nat} {x : S50} (ha : a < t.length) (hx : rd_T50 t (a : Int) = x) {b i : Int} (hi : ¬ i < x.f5) (acc : List S143) :
    trellisref15_take.l0 1 t (a : Int) b i x.f0 x.f1 x.f2 x.f3 x.f4 x.f5 x.f6 acc (a : Int) = some (tup ⟨x, acc, (a : Int)⟩ b true) := by
  rw [trellisref15_take.l0, if_pos (by omega), if_pos (by omega), hx, if_neg hi]
  rfl
theorem loop_fail {t : List S50} {a : Nat} {x : S50} (ha : a < t.length) (hx : rd_T50 t (a : Int) = x) {b : Nat} {i : Int} (hi : i < x.f5) (acc : List S143) {k : Nat} {m : Int} (h1 : trellisref15_take.f k t (b : Int) = some (noT m)) :
    trellisref15_take.l0 (k + 1) t (a : Int) (b : Int) i x.f0 x.f1 x.f2 x.f3 x.f4 x.f5 x.f6 acc (a : Int) = some (noT (a : Int)) := by
  rw [trellisref15_take.l0, if_pos (by omega), if_pos (by omega), hx, if_pos hi, h1, Option.bind_some]
  simp only [noT, Bool.false_eq_true, if_false]
theorem loop_chain {t : List S50} {a : Nat} {x : S50} (ha : a < t.length) (hx : rd_T50 t (a : Int) = x) (hl : t.length ≤ 1048576) {b m : Nat} {R : List S143} (h : Chain t b R m) :
    ∀ acc : List S143, x.f5 = ((acc.length + R.length : Nat) : Int) → acc.length + R.length ≤ t.length → ∃ k, trellisref15_take.l0 k t (a : Int) (b : Int) (acc.length : Int) x.f0 x.f1 x.f2 x.f3 x.f4 x.f5 x.f6 acc (a : Int) = some (tup ⟨x, acc ++ R, (a : Int)⟩ (m : Int) true) := by
  induction h with
  | nil b =>
    intro acc hk hb
    refine ⟨1, ?_⟩
    rw [loop_end ha hx (by simp at hk; omega), List.append_nil]
  | cons b c m y R k h hr ih =>
    intro acc hk hb
    simp only [List.length_cons] at hk hb
    obtain ⟨k2, h2⟩ := ih (acc ++ [y]) (by simp; omega) (by simp; omega)
    have e : ((acc ++ [y]).length : Int) = (acc.length : Int) + 1 := by simp
    rw [e] at h2
    have h3 := loop_step (a := a) (x := x) ha hx (b := b) (i := (acc.length : Int)) (by omega) (acc := acc) (by omega) (by omega) (by omega) h h2
    rw [List.append_assoc] at h3
    exact h3
theorem take_start {t : List S50} {a : Nat} {x : S50} (ha : a < t.length) (hx : rd_T50 t (a : Int) = x) (h0 : 0 ≤ x.f5) (h1 : x.f5 ≤ (t.length : Int)) (hl : t.length ≤ 1048576) {k : Nat} {r : Tup}
    (h : trellisref15_take.l0 k t (a : Int) ((a + 1 : Nat) : Int) 0 x.f0 x.f1 x.f2 x.f3 x.f4 x.f5 x.f6 [] (a : Int) = some r) : trellisref15_take.f (k + 2) t (a : Int) = some r := by
  have e : wrap64 ((a : Int) + 1) = ((a + 1 : Nat) : Int) := (w64 (by omega) (by omega)).trans (by omega)
  rw [trellisref15_take.f, if_neg (by omega), if_pos (by omega), if_pos (by omega), hx, if_neg (by omega), decide_eq_false (by omega), trellisref15_take.j0, if_neg (by decide), if_pos (by omega), if_pos (by omega), hx, e]
  exact h
theorem rd_mid {pre ts : List S50} {x : S50} {a : Nat} (h : pre.length = a) : rd_T50 (pre ++ x :: ts) (a : Int) = x := by
  unfold rd_T50
  rw [Int.toNat_natCast, List.getD_eq_getElem?_getD, List.getElem?_append_right (by omega), h, Nat.sub_self]
  rfl
theorem fo_chain {ts : List S50} {a : Nat} {F : List S143} (h : Fo ts a F) : ∀ (t pre post : List S50), t = pre ++ ts ++ post → pre.length = a → t.length ≤ 1048576 → Chain t a F (a + ts.length) := by
  induction h with
  | nil a => intro t pre post _ _ _; exact Chain.nil a
  | cons x ks rest a K R h1 hk h2 ih1 ih2 =>
    intro t pre post ht hp hl
    have c1 := ih1 t (pre ++ [x]) (rest ++ post) (by rw [ht]; simp) (by simp [hp]) hl
    have c2 := ih2 t (pre ++ x :: ks) post (by rw [ht]; simp) (by simp [hp]; omega) hl
    have hlen : t.length = a + 1 + ks.length + rest.length + post.length := by rw [ht]; simp; omega
    have hx : rd_T50 t (a : Int) = x := by rw [ht]; simp only [List.append_assoc, List.cons_append]; exact rd_mid hp
    have hkl := h1.len
    obtain ⟨k, hkk⟩ := loop_chain (a := a) (x := x) (by omega) hx hl c1 [] (by rw [hk]; simp) (by simp; omega)
    have e : a + (x :: (ks ++ rest)).length = a + 1 + ks.length + rest.length := by simp; omega
    rw [e]
    refine Chain.cons a (a + 1 + ks.length) _ _ _ (k + 2) ?_ c2
    exact take_start (by omega) hx (by omega) (by omega) hl hkk
theorem drop_cons {t : List S50} {a : Nat} (h : a < t.length) : t.drop a = rd_T50 t (a : Int) :: t.drop (a + 1) := by
  rw [List.drop_eq_getElem_cons h]
  congr 1
  unfold rd_T50
  rw [Int.toNat_natCast, List.getD_eq_getElem?_getD, List.getElem?_eq_getElem h]
  rfl
/-- What stands ahead of a forest's first tree's end. -/
theorem gr_head {t : List S50} {a : Nat} {y : S143} {G : List S143} (ha : a ≤ t.length) (hl : t.length ≤ 1048576) (h : gr (t.drop a) a = some (y :: G)) : ∃ b k, a < b ∧ b ≤ t.length ∧ gr (t.drop b) b = some G ∧ trellisref15_take.f k t (a : Int) = some (tup y (b : Int) true) := by
  have hf := gr_fo h
  have hc := fo_chain hf t (t.take a) [] (by simp) (by simp; omega) hl
  generalize hu : t.drop a = u at hf
  cases hf with
  | cons x ks rest a K R h1 hk h2 =>
    cases hc with
    | cons _ b m _ _ k hk1 hr =>
      have hrest : rest = t.drop (a + 1 + ks.length) := by
        have e1 : (t.drop a).drop (1 + ks.length) = rest := by
          rw [hu, Nat.add_comm, List.drop_succ_cons, List.drop_left]
        rw [← e1, List.drop_drop]
        congr 1
        omega
      have hlen : ks.length + rest.length + 1 + a = t.length := by
        have := congrArg List.length hu
        simp at this
        omega
      have hb : b = a + 1 + ks.length := by
        have c1 := fo_chain h1 t (t.take a ++ [x]) rest (by
          have := List.take_append_drop a t
          rw [hu] at this
          simpa using this.symm) (by simp; omega) hl
        have hx : rd_T50 t (a : Int) = x := by
          have := drop_cons (t := t) (a := a) (by omega)
          rw [hu] at this
          injection this with this _
          exact this.symm
        have hkl := h1.len
        obtain ⟨k3, h3⟩ := loop_chain (a := a) (x := x) (by omega) hx hl c1 [] (by rw [hk]; simp) (by simp; omega)
        have h4 := take_start (by omega) hx (by omega) (by omega) hl h3
        have h5 := le_take (Nat.le_max_left (k3 + 2) k) h4
        have h6 := le_take (Nat.le_max_right (k3 + 2) k) hk1
        rw [h5] at h6
        injection h6 with h6
        simp only [tup, Prod.mk.injEq] at h6
        omega
      subst hb
      exact ⟨_, k, by omega, by omega, by rw [← hrest]; exact fo_gr h2, hk1⟩
theorem gr_nil {t : List S50} {a : Nat} (h : gr (t.drop a) a = some []) : t.length ≤ a := by
  have hf := gr_fo h
  generalize hu : t.drop a = u at hf
  cases hf
  have := congrArg List.length hu
  simp at this
  omega
theorem take_off {t : List S50} {a : Nat} (h : t.length ≤ a) : trellisref15_take.f 2 t (a : Int) = some (noT (a : Int)) := by
  rw [trellisref15_take.f, if_pos (by omega), trellisref15_take.j0, if_pos rfl]
  rfl
theorem take_bad {t : List S50} (hl : t.length ≤ 1048576) : ∀ n a, a ≤ t.length → t.length - a = n → gr (t.drop a) a = none →
    ∃ k, (trellisref15_take.f k t (a : Int) = some (noT (a : Int))) ∨ ∃ x m, a < m ∧ m ≤ t.length ∧ gr (t.drop m) m = none ∧ trellisref15_take.f k t (a : Int) = some (tup x (m : Int) true) := by
  intro n
  induction n using Nat.strongRecOn with
  | ind n IH =>
    intro a hal hn hg
    have ha : a < t.length := by
      rcases Nat.lt_or_ge a t.length with h | h
      · exact h
      · rw [List.drop_eq_nil_of_le h] at hg; simp [gr] at hg
    obtain ⟨x, hx⟩ : ∃ x, rd_T50 t (a : Int) = x := ⟨_, rfl⟩
    have hd := drop_cons ha
    rw [hx] at hd
    rw [hd] at hg
    simp only [gr] at hg
    by_cases hneg : x.f5 < 0
    · refine ⟨2, .inl ?_⟩
      rw [trellisref15_take.f, if_neg (by omega), if_pos (by omega), if_pos (by omega), hx, if_pos hneg, trellisref15_take.j0, if_pos rfl]
      rfl
    by_cases hbig : x.f5 > (t.length : Int)
    · refine ⟨2, .inl ?_⟩
      rw [trellisref15_take.f, if_neg (by omega), if_pos (by omega), if_pos (by omega), hx, if_neg hneg, decide_eq_true hbig, trellisref15_take.j0, if_pos rfl]
      rfl
    have loop : ∀ d b (i : Nat) (acc : List S143), t.length - b = d → a < b → b ≤ t.length → acc.length ≤ b → (i : Int) ≤ x.f5 → (gr (t.drop b) b = none ∨ ∃ G, gr (t.drop b) b = some G ∧ ((i + G.length : Nat) : Int) < x.f5) →
        ∃ k, (trellisref15_take.l0 k t (a : Int) (b : Int) (i : Int) x.f0 x.f1 x.f2 x.f3 x.f4 x.f5 x.f6 acc (a : Int) = some (noT (a : Int))) ∨ ∃ y m, a < m ∧ m ≤ t.length ∧ gr (t.drop m) m = none ∧ trellisref15_take.l0 k t (a : Int) (b : Int) (i : Int) x.f0 x.f1 x.f2 x.f3 x.f4 x.f5 x.f6 acc (a : Int) = some (tup y (m : Int) true) := by
      intro d
      induction d using Nat.strongRecOn with
      | ind d ih =>
        intro b i acc hd2 hab hbl hacc hi hG
        by_cases hii : (i : Int) < x.f5
        · have go : ∀ c y k1, b < c → c ≤ t.length → trellisref15_take.f k1 t (b : Int) = some (tup y (c : Int) true) → (gr (t.drop c) c = none ∨ ∃ G, gr (t.drop c) c = some G ∧ ((i + 1 + G.length : Nat) : Int) < x.f5) →
              ∃ k, (trellisref15_take.l0 k t (a : Int) (b : Int) (i : Int) x.f0 x.f1 x.f2 x.f3 x.f4 x.f5 x.f6 acc (a : Int) = some (noT (a : Int))) ∨ ∃ y m, a < m ∧ m ≤ t.length ∧ gr (t.drop m) m = none ∧ trellisref15_take.l0 k t (a : Int) (b : Int) (i : Int) x.f0 x.f1 x.f2 x.f3 x.f4 x.f5 x.f6 acc (a : Int) = some (tup y (m : Int) true) := by
            intro c y k1 hbc hcl h1 hG2
            obtain ⟨k2, h2⟩ := ih (t.length - c) (by omega) c (i + 1) (acc ++ [y]) rfl (by omega) hcl (by simp; omega) (by omega) hG2
            have ei : ((i + 1 : Nat) : Int) = (i : Int) + 1 := by omega
            rw [ei] at h2
            rcases h2 with h2 | ⟨z, m, g1, g2, g3, h2⟩
            · obtain ⟨k, h3⟩ := loop_step ha hx (b := b) hii (acc := acc) (by omega) (by omega) (by omega) h1 h2
              exact ⟨k, .inl h3⟩
            · obtain ⟨k, h3⟩ := loop_step ha hx (b := b) hii (acc := acc) (by omega) (by omega) (by omega) h1 h2
              exact ⟨k, .inr ⟨z, m, g1, g2, g3, h3⟩⟩
          rcases hG with hG | ⟨G, hG, hGl⟩
          · obtain ⟨k1, h1⟩ := IH (t.length - b) (by omega) b hbl rfl hG
            rcases h1 with h1 | ⟨y, c, g1, g2, g3, h1⟩
            · exact ⟨k1 + 1, .inl (loop_fail ha hx hii acc h1)⟩
            · exact go c y k1 g1 g2 h1 (.inl g3)
          · cases G with
            | nil =>
              have := gr_nil hG
              exact ⟨3, .inl (loop_fail ha hx hii acc (take_off this))⟩
            | cons y G =>
              obtain ⟨c, k1, g1, g2, g3, h1⟩ := gr_head hbl hl hG
              exact go c y k1 g1 g2 h1 (.inr ⟨G, g3, by simp at hGl; omega⟩)
        · rcases hG with hG | ⟨G, hG, hGl⟩
          · exact ⟨1, .inr ⟨_, b, hab, hbl, hG, loop_end ha hx hii acc⟩⟩
          · omega
    have hG0 : gr (t.drop (a + 1)) (a + 1) = none ∨ ∃ G, gr (t.drop (a + 1)) (a + 1) = some G ∧ ((0 + G.length : Nat) : Int) < x.f5 := by
      cases hG : gr (t.drop (a + 1)) (a + 1) with
      | none => exact .inl rfl
      | some G =>
        rw [hG, Option.bind_some] at hg
        split at hg
        · cases hg
        · exact .inr ⟨G, rfl, by omega⟩
    obtain ⟨k, h⟩ := loop (t.length - (a + 1)) (a + 1) 0 [] rfl (by omega) (by omega) (by simp) (by omega) hG0
    refine ⟨k + 2, ?_⟩
    rcases h with h | ⟨y, m, g1, g2, g3, h⟩
    · exact .inl (take_start ha hx (by omega) (by omega) hl h)
    · exact .inr ⟨y, m, g1, g2, g3, take_start ha hx (by omega) (by omega) hl h⟩
theorem le_forest {t : List S50} {acc : List S143} {a : Int} {r : List S143 × Bool} {k k' : Nat} (h : k ≤ k') (e : trellisref15_Forest.l0 k t acc a = some r) : trellisref15_Forest.l0 k' t acc a = some r := by
  induction h with
  | refl => exact e
  | step _ ih => exact trellisref15_Forest.mono_l _ _ _ _ _ ih
theorem forest_step {t : List S50} {b : Nat} (hb : b < t.length) {acc : List S143} (hacc : acc.length < 1353245080339) {k1 k2 : Nat} {y : S143} {m : Int} {r : List S143 × Bool}
    (h1 : trellisref15_take.f k1 t (b : Int) = some (tup y m true)) (h2 : trellisref15_Forest.l0 k2 t (acc ++ [y]) m = some r) : ∃ k, trellisref15_Forest.l0 k t acc (b : Int) = some r := by
  obtain ⟨⟨y0, y1, y2, y3, y4, y5, y6⟩, yk, ya⟩ := y
  refine ⟨max k1 k2 + 1, ?_⟩
  rw [trellisref15_Forest.l0, if_pos (by omega), le_take (Nat.le_max_left k1 k2) h1, Option.bind_some]
  simp only [tup]
  rw [if_pos trivial, if_pos hacc]
  exact le_forest (Nat.le_max_right k1 k2) h2
theorem forest_go {t : List S50} (hl : t.length ≤ 1048576) {b m : Nat} {R : List S143} (h : Chain t b R m) : ∀ (acc : List S143), m = t.length → acc.length + R.length ≤ t.length → (R ≠ [] → b < t.length) → ∃ k, trellisref15_Forest.l0 k t acc (b : Int) = some (acc ++ R, true) := by
  induction h with
  | nil b =>
    intro acc hm _ _
    exact ⟨1, by rw [trellisref15_Forest.l0, if_neg (by omega), List.append_nil]⟩
  | cons b c m y R k h hr ih =>
    intro acc hm hlen hb
    have hb := hb (List.cons_ne_nil _ _)
    have hR : R ≠ [] → c < t.length := by
      intro hne
      rcases Nat.lt_or_ge c t.length with h' | h'
      · exact h'
      · cases hr with
        | nil => exact absurd rfl hne
        | cons _ c2 _ y2 R2 k2 h2 hr2 =>
          have h3 := take_off h'
          have h4 := le_take (Nat.le_max_left k2 2) h2
          have h5 := le_take (Nat.le_max_right k2 2) h3
          rw [h4] at h5
          injection h5 with h5
          simp [tup, noT] at h5
    obtain ⟨k2, h2⟩ := ih (acc ++ [y]) hm (by simp at hlen ⊢; omega) hR
    have h3 := forest_step hb (acc := acc) (by simp at hlen; omega) h h2
    rw [List.append_assoc] at h3
    exact h3
theorem forest_ok {t : List S50} {F : List S143} (hl : t.length ≤ 1048576) (h : Fo t 0 F) : ∃ k, trellisref15_Forest.f k t = some (F, true) := by
  have hc := fo_chain h t [] [] (by simp) rfl hl
  have := forest_go hl hc [] (by simp) (by simpa using h.len) (by
    intro hne
    cases h with
    | nil => exact absurd rfl hne
    | cons => simp)
  simpa [trellisref15_Forest.f] using this
theorem forest_bad {t : List S50} (hl : t.length ≤ 1048576) : ∀ n b (acc : List S143), t.length - b = n → b ≤ t.length → acc.length ≤ b → gr (t.drop b) b = none → ∃ k, trellisref15_Forest.l0 k t acc (b : Int) = some ([], false) := by
  intro n
  induction n using Nat.strongRecOn with
  | ind n ih =>
    intro b acc hn hbl hacc hg
    have hb : b < t.length := by
      rcases Nat.lt_or_ge b t.length with h | h
      · exact h
      · rw [List.drop_eq_nil_of_le h] at hg; simp [gr] at hg
    obtain ⟨k1, h1⟩ := take_bad hl _ b hbl rfl hg
    rcases h1 with h1 | ⟨y, m, g1, g2, g3, h1⟩
    · refine ⟨k1 + 1, ?_⟩
      rw [trellisref15_Forest.l0, if_pos (by omega), h1, Option.bind_some]
      simp only [noT, Bool.false_eq_true, if_false]
    · obtain ⟨k2, h2⟩ := ih (t.length - m) (by omega) m (acc ++ [y]) rfl g2 (by simp; omega) g3
      exact forest_step hb (by omega) h1 h2
theorem forest_no {t : List S50} (hl : t.length ≤ 1048576) (h : gr t 0 = none) : ∃ k, trellisref15_Forest.f k t = some ([], false) := by
  have := forest_bad hl _ 0 [] rfl (Nat.zero_le _) (Nat.le_refl _) (by simpa using h)
  simpa [trellisref15_Forest.f] using this

end Go.Proofs.Ytknagjiipelfnaa.OL
