/- MendOdds, the laws on rows: an append that leaves the shorter rows of the same array as they were; an append with room; the head of a row. Rows that share nothing, and what has grown out of each: a store into one, an append to one, leave the others as they were. foldsApart, symbolsApart, plain: how the four rows stand while they are written over and while others grow out of them; what such a call leaves as it was. -/
import Derived.Test.YtknagjiipelfnaaWMore
import Derived.Deep.DeepAppendRoom
namespace Go.Proofs.Ytknagjiipelfnaa.Keep
open Go.RowKit Go.WideShapes Go.ChangeShapes Go.Proofs.YtknagjiipelfnaaW.PrintWords
set_option linter.unusedVariables false
section
variable {P : Program}
/-- Shorter rows of the same array stay. -/
def Stays (w w' : World) (base e size n : Nat) (row : Option Nat) : Prop :=
  ∀ v0 k cs, w.ownsRow base e size v0 k cs → (v0.ownBlock = row → row ≠ none → k ≤ n) → w'.ownsRow base e size v0 k cs

theorem stays_none {w w' : World} {base e size n : Nat} {row : Option Nat} (hg : w.grownBy w' none) : Stays w w' base e size n row := fun v0 k cs h _ => h.kept hg (by cases v0.ownBlock <;> simp)

theorem run_append_keep (w : World) (base : Nat) (t ty e : TypeId) (i : TypeInfo) (z : Value) (size bytes : Nat) (ht : P.underlying t = some (.slice e)) (hi : P.info? e = some i) (hz : i.zero = some z)
    (hsize : i.size = size) (hby : i.bytes = bytes) (hzs : z.cells.size = size) (hsz : 0 < size)
    (v : Value) (n : Nat) (xs : List Value) (hown : w.ownsRow base e size v n xs)
    (a : Addr) (m c : Nat) (news : List Value) (hl : news.length = m * size) (hnews : ∀ j u, news[j]? = some u → w.cell? (a.add j) = some u) (h1 : ∀ u ∈ news, u.oneCell' = true)
    (h63 : n + m ≤ maxLen) (hbytes : (n + m) * bytes ≤ 140737488355328) (hbase : base ≤ w.heap.size) (hm : 0 < m) :
    ∃ v' w', (Builtin.append_ #[t, t] ty #[v, .slice (some a) m c]).run P w = .ok v' w' ∧ w'.ownsRow base e size v' (n + m) (xs ++ news) ∧ w.grownBy w' v.ownBlock ∧
      (v'.ownBlock = v.ownBlock ∨ ∃ b, v'.ownBlock = some b ∧ w.heap.size ≤ b) ∧ Stays w w' base e size n v.ownBlock := by
  rcases hown.2 with ⟨hv, hn⟩ | ⟨g, cap, cur, hv, hbg, hg, hnc, hcm, hcs, htake⟩
  · subst hv hn
    obtain rfl : xs = [] := List.eq_nil_of_length_eq_zero (by have := hown.1; omega)
    obtain ⟨v', w', hr, ho, hgr, _⟩ := run_append_own (P := P) w w.heap.size t ty e i z size bytes ht hi hz hsize hby hzs hsz (.slice none 0 0) 0 [] (own_nil _ _ _ _) a m c news hl hnews h1 h63 hbytes (Nat.le_refl _)
    refine ⟨v', w', hr, own_weaken ho hbase, hgr, ?_, stays_none hgr⟩
    rcases ho.2 with ⟨_, h0⟩ | ⟨g', cap', cur', rfl, hb', hh', _⟩
    · omega
    · exact .inr ⟨g', rfl, hb'⟩
  · subst hv
    by_cases hroom : n + m ≤ cap
    · subst hsize
      have hfit : n * i.size + news.length ≤ cur.size := by rw [hl, hcs, ← Nat.add_mul]; exact Nat.mul_le_mul_right _ hroom
      have hr := run_append_room (P := P) w t ty e i ht hi g n cap cur hg a m c news hl hnews h1 hroom hfit
      have hlen : (xs ++ news).length = (n + m) * i.size := by rw [List.length_append, hown.1, hl, Nat.add_mul]
      refine ⟨_, _, hr, ⟨hlen, .inr ⟨g, cap, _, rfl, hbg, setRow_heap w g cur _ e _ hg, hroom, hcm, ?_, ?_⟩⟩, ⟨rfl, rfl, rfl, by simp, fun k _ hk => setRow_other w g k _ (fun e => hk (by simp [Value.ownBlock, e]))⟩, .inl rfl, ?_⟩
      · simp only [List.size_toArray, List.length_append, List.length_take, List.length_drop, Array.length_toList]
        omega
      · rw [htake, ← hlen]
        exact List.take_left
      · intro v0 k cs h0 hk
        rcases h0.2 with ⟨hv0, hk0⟩ | ⟨g0, cap0, cur0, hv0, hb0, hg0, hnc0, hcm0, hcs0, htake0⟩
        · exact ⟨h0.1, .inl ⟨hv0, hk0⟩⟩
        · subst hv0
          by_cases he : g0 = g
          · subst he
            have hkn := hk rfl (by simp [Value.ownBlock])
            rw [hg] at hg0
            injection hg0 with hg0
            injection hg0 with hg0
            subst hg0
            refine ⟨h0.1, .inr ⟨g0, cap0, _, rfl, hb0, setRow_heap w g0 cur _ e _ hg, hnc0, hcm0, ?_, ?_⟩⟩
            · rw [← hcs0]
              simp only [List.size_toArray, List.length_append, List.length_take, List.length_drop, Array.length_toList]
              omega
            · have h2 : k * i.size ≤ n * i.size := Nat.mul_le_mul_right _ hkn
              rw [← htake0]
              show List.take (k * i.size) (List.take (n * i.size) cur.toList ++ news ++ List.drop (n * i.size + news.length) cur.toList) = _
              rw [List.append_assoc, List.take_append_of_le_length (by rw [List.length_take, Array.length_toList]; omega), List.take_take, Nat.min_eq_left h2]
          · refine ⟨h0.1, .inr ⟨g0, cap0, cur0, rfl, hb0, (setRow_other w g g0 _ he).trans hg0, hnc0, hcm0, hcs0, htake0⟩⟩
    · obtain ⟨v', w', hr, ho, hgr⟩ := run_append_arg_grows (P := P) w t ty e i z size bytes ht hi hz hsize hby hzs hsz ⟨g, 0, none⟩ n cap xs hown.1 (hown.cells rfl) a m c news hl hnews (by omega) h63 hbytes
      refine ⟨v', w', hr, own_weaken ho hbase, ⟨hgr.os, hgr.tape, hgr.output, hgr.size, fun k hk _ => hgr.block k hk (by simp)⟩, ?_, stays_none hgr⟩
      rcases ho.2 with ⟨_, h0⟩ | ⟨g', cap', cur', rfl, hb', hh', _⟩
      · omega
      · exact .inr ⟨g', rfl, hb'⟩
end
section
variable {P : Program} {ops : Array Oper} {rest : List Oper} {o : Oper} {a : Act} {Q : Exit → Act → World → Prop} {α : Type}
theorem R_append_keep (d : Kd α) {w0 W : World} (base : Nat) (hgd : o.guard = none) (s x : Operand) (t e : TypeId) (z : Value) (bytes : Nat)
    (ho : o.op = .call { callee := .builtin .append, args := #[s, x], argTypes := #[t, t] })
    (ht : P.underlying t = some (.slice e)) (hinfo : (P.info? e).map (fun i => (i.zero, i.size, i.bytes)) = some (some z, d.sz, bytes)) (hz : z.cells.size = d.sz) (hs0 : 0 < d.sz) (hb0 : 0 < bytes)
    (v : Value) (xs : List α) (p : α) (cs : List Value) (ok okp : Nat → Prop) (hs : a.eval s = v) (hx : a.eval x = .slice (some ⟨W.heap.size, 0, none⟩) 1 1) (hp : d.M W base okp p cs) (hokp : ∀ k, okp k → ok k ∧ some k ≠ v.ownBlock) (hfresh : ∀ k, W.heap.size ≤ k → ok k)
    (HO : d.R e W base ok v xs) (HB : Below base w0 W) (hbase : base ≤ W.heap.size) (hl : (xs.length + 1) * bytes ≤ 140737488355328)
    (h : ∀ v1 w1, d.R e w1 base ok v1 (xs ++ [p]) → Below base w0 w1 → W.grownBy w1 v.ownBlock → (v1.ownBlock = v.ownBlock ∨ ∃ b, v1.ownBlock = some b ∧ W.heap.size ≤ b) → Stays W w1 base e d.sz xs.length v.ownBlock → wpList P ops Q rest (a.put o.dst v1) w1) :
    wpList P ops Q (o :: rest) a (W.alloc (.cells cs.toArray e)) := by
  obtain ⟨h0, inner, hown, hr⟩ := HO
  obtain ⟨i0, hi, hzz⟩ := Option.map_eq_some_iff.1 hinfo
  simp only [Prod.mk.injEq] at hzz
  obtain ⟨hz0, hz1, hz2⟩ := hzz
  have hlen : xs.length + 1 ≤ 140737488355328 := Nat.le_trans (Nat.le_mul_of_pos_right _ hb0) hl
  have hys : cs.length = d.sz := d.K_len (d.K_of_M hp)
  obtain ⟨v1, w1, hrun, hown1, hg, hat, hst⟩ := run_append_keep (P := P) (W.alloc (.cells cs.toArray e)) base t o.type e i0 z d.sz bytes ht hi hz0 hz1 hz2 hz hs0 v xs.length inner (hown.alloc _) ⟨W.heap.size, 0, none⟩ 1 1 cs (by rw [hys]; simp)
    (by simpa using World.news_of_block (cs := cs.toArray) (t := e) (fr := (0, 0)) (heap_alloc_new W (.cells cs.toArray e))) (d.K_one (d.K_of_M hp)) (by simp only [maxLen]; omega) hl (by simp; omega) (by omega)
  refine wpList_plain hgd fun K hK => ?_
  unfold Oper.wp execOp
  simp only [ho, resolve, invoke, builtin, Sem.run_bind, Sem.run_pure, Result.andThen_ok, List.map_toArray, List.map_cons, List.map_nil, hs, hx, hrun]
  refine hK _ _ ?_
  have hat' : v1.ownBlock = v.ownBlock ∨ ∃ b, v1.ownBlock = some b ∧ W.heap.size ≤ b := by
    rcases hat with hat | ⟨b, hb, hle⟩
    · exact .inl hat
    · exact .inr ⟨b, hb, by simp at hle; omega⟩
  have hg' := World.grownBy.trans (World.grownBy_alloc W (.cells cs.toArray e) _) hg
  exact h v1 w1 (Kd.R_appended h0 hr hp hokp hfresh hown1 hg' hat') ((HB.alloc hbase _).grown hg (by simp; omega) (own_base hown)) hg' hat' (fun v0 k cs0 h3 h4 => hst v0 k cs0 (h3.alloc _) h4)

end
end Go.Proofs.Ytknagjiipelfnaa.Keep
namespace Go.Proofs.Ytknagjiipelfnaa.AR
open Go.RowKit Go.WideShapes Go.ChangeShapes Go.Proofs.YtknagjiipelfnaaW.PrintWords Go.Proofs.YtknagjiipelfnaaW.PrintLast Go.Proofs.YtknagjiipelfnaaW.PrintMore Go.Proofs.Ytknagjiipelfnaa.Keep
set_option linter.unusedVariables false
variable {α : Type} {d : Kd α} {e : Nat}

def T : Nat → Prop := fun _ => True
theorem R_stays (hM : ∀ w w' b ok x cs, d.M w b ok x cs → d.M w' b ok x cs) {w w' : World} {b n : Nat} {row : Option Nat} {v : Value} {xs : List α} (h : d.R e w b T v xs) (hst : Stays w w' b e d.sz n row) (hn : v.ownBlock = row → row ≠ none → xs.length ≤ n) : d.R e w' b T v xs := by
  obtain ⟨h0, inner, hown, hr⟩ := h
  exact ⟨h0, inner, hst v xs.length inner hown hn, hr.imp_ (fun _ _ hp => hM _ _ _ _ _ _ hp)⟩
def Off (u v : Value) : Prop := u.ownBlock = none ∨ u.ownBlock ≠ v.ownBlock
theorem Off.symm {u v : Value} (h : Off u v) : Off v u := by
  unfold Off at *
  cases hv : v.ownBlock with
  | none => exact .inl rfl
  | some k =>
    rw [hv] at h
    rcases h with h | h
    · rw [h]; exact .inr (by simp)
    · exact .inr (fun e => h e.symm)
theorem Off.ne {u v : Value} (h : Off u v) : ∀ k, v.ownBlock = some k → some k ≠ u.ownBlock := fun k hk he => by
  rcases h with h | h
  · rw [h] at he; cases he
  · exact h (he.symm.trans hk.symm)
/-- The rows, and what has grown out of the first m of them. -/
structure Lng (d : Kd α) (e : Nat) (w : World) (b : Nat) (vs us : Nat → Value) (xs ys : Nat → List α) (n m : Nat) : Prop where
  rv : ∀ i, i < n → d.R e w b T (vs i) (xs i)
  ru : ∀ i, i < m → d.R e w b T (us i) (ys i)
  avv : ∀ i j, i < n → j < n → i ≠ j → Off (vs i) (vs j)
  auv : ∀ i j, i < m → j < n → i ≠ j → Off (us i) (vs j)
  auu : ∀ i j, i < m → j < m → i ≠ j → Off (us i) (us j)
def upd {β : Type} (f : Nat → β) (m : Nat) (x : β) : Nat → β := fun i => if i = m then x else f i
theorem upd_at {β : Type} (f : Nat → β) (m : Nat) (x : β) : upd f m x m = x := if_pos rfl
theorem upd_ne {β : Type} {f : Nat → β} {m i : Nat} {x : β} (h : i ≠ m) : upd f m x i = f i := if_neg h
section
variable {w w' : World} {b n m : Nat} {vs us : Nat → Value} {xs ys : Nat → List α}
theorem Lng.moved (h : Lng d e w b vs us xs ys n m) (hb : Below w.heap.size w w') : Lng d e w' b vs us xs ys n m :=
  ⟨fun i hi => Kd.R_below (h.rv i hi) hb, fun i hi => Kd.R_below (h.ru i hi) hb, h.avv, h.auv, h.auu⟩
/-- One of the rows is written over (nothing has grown out of any yet). -/
theorem Lng.put (hE : d.E = []) (h : Lng d e w b vs us xs ys n 0) {k : Nat} (hk : k < n) {zs : List α} (hz : d.R e w' b T (vs k) zs) (hg : w.grownBy w' (vs k).ownBlock) : Lng d e w' b vs us (upd xs k zs) ys n 0 := by
  refine ⟨fun i hi => ?_, fun i hi => by omega, h.avv, fun i j hi => by omega, fun i j hi => by omega⟩
  by_cases hik : i = k
  · subst hik
    rw [upd_at]
    exact hz
  · rw [upd_ne hik]
    exact Kd.R_grown2 (h.rv i hi) hE hg (fun q hq => (h.avv i k hi hk hik).ne q hq)
/-- A row begins to grow. -/
theorem Lng.begin_ (h : Lng d e w b vs us xs ys n m) (hm : m < n) : Lng d e w b vs (upd us m (vs m)) xs (upd ys m (xs m)) n (m + 1) := by
  refine ⟨h.rv, fun i hi => ?_, h.avv, fun i j hi hj hij => ?_, fun i j hi hj hij => ?_⟩
  · by_cases hik : i = m
    · subst hik
      rw [upd_at, upd_at]
      exact h.rv i hm
    · rw [upd_ne hik, upd_ne hik]
      exact h.ru i (by omega)
  · by_cases hik : i = m
    · subst hik
      rw [upd_at]
      exact h.avv i j hm hj hij
    · rw [upd_ne hik]
      exact h.auv i j (by omega) hj hij
  · by_cases hik : i = m
    · subst hik
      rw [upd_at, upd_ne (fun e => hij e.symm)]
      exact (h.auv j i (by omega) hm (fun e => hij e.symm)).symm
    · rw [upd_ne hik]
      by_cases hjk : j = m
      · subst hjk
        rw [upd_at]
        exact h.auv i j (by omega) hm hik
      · rw [upd_ne hjk]
        exact h.auu i j (by omega) (by omega) hij
/-- The last of those that grow has grown. -/
theorem Lng.grow (hE : d.E = []) (hM : ∀ w w' b ok x cs, d.M w b ok x cs → d.M w' b ok x cs) (h : Lng d e w b vs us xs ys n (m + 1)) (hm : m < n) {v1 : Value} {p : α} (hr : d.R e w' b T v1 (ys m ++ [p])) (hg : w.grownBy w' (us m).ownBlock) (hat : v1.ownBlock = (us m).ownBlock ∨ ∃ q, v1.ownBlock = some q ∧ w.heap.size ≤ q) (hst : Stays w w' b e d.sz (ys m).length (us m).ownBlock) (hle : (xs m).length ≤ (ys m).length) :
    Lng d e w' b vs (upd us m v1) xs (upd ys m (ys m ++ [p])) n (m + 1) := by
  have off : ∀ u zs, d.R e w b T u zs → Off u (us m) → Off v1 u := fun u zs hu ho => by
    rcases hat with hat | ⟨q, hq, hlt⟩
    · have := ho.symm
      unfold Off at *
      rwa [hat]
    · refine .inr (fun e => ?_)
      have := Kd.R_lt hu q (e.symm.trans hq)
      omega
  refine ⟨fun i hi => ?_, fun i hi => ?_, h.avv, fun i j hi hj hij => ?_, fun i j hi hj hij => ?_⟩
  · by_cases hik : i = m
    · subst hik
      exact R_stays hM (h.rv i hi) hst (fun _ _ => hle)
    · exact Kd.R_grown2 (h.rv i hi) hE hg (fun q hq => (h.auv m i (by omega) hi (fun e => hik e.symm)).symm.ne q hq)
  · by_cases hik : i = m
    · subst hik
      rw [upd_at, upd_at]
      exact hr
    · rw [upd_ne hik, upd_ne hik]
      exact Kd.R_grown2 (h.ru i hi) hE hg (fun q hq => (h.auu i m hi (by omega) hik).ne q hq)
  · by_cases hik : i = m
    · subst hik
      rw [upd_at]
      exact off _ _ (h.rv j hj) (h.auv i j hi hj hij).symm
    · rw [upd_ne hik]
      exact h.auv i j hi hj hij
  · by_cases hik : i = m
    · subst hik
      rw [upd_at, upd_ne (fun e => hij e.symm)]
      exact off _ _ (h.ru j hj) (h.auu i j hi hj hij).symm
    · rw [upd_ne hik]
      by_cases hjk : j = m
      · subst hjk
        rw [upd_at]
        exact (off _ _ (h.ru i hi) (h.auu i j hi hj hij)).symm
      · rw [upd_ne hjk]
        exact h.auu i j hi hj hij
end
end Go.Proofs.Ytknagjiipelfnaa.AR
namespace Go.Proofs.Ytknagjiipelfnaa.AR
open Go.RowKit Go.WideShapes Go.ChangeShapes Go.Proofs.YtknagjiipelfnaaW.PrintWords Go.Proofs.YtknagjiipelfnaaW.PrintLast Go.Proofs.YtknagjiipelfnaaW.PrintMore Go.Proofs.Ytknagjiipelfnaa.Keep
set_option linter.unusedVariables false
/-- What a call does that writes over the blocks S alone. -/
structure Ch (S : Nat → Prop) (w w' : World) : Prop where
  os : w'.os = w.os
  tape : w'.tape = w.tape
  output : w'.output = w.output
  size : w.heap.size ≤ w'.heap.size
  block : ∀ k, k < w.heap.size → ¬ S k → w'.heap[k]? = w.heap[k]?
section
variable {S : Nat → Prop} {w w1 w2 : World}
theorem Ch.refl (S : Nat → Prop) (w : World) : Ch S w w := ⟨rfl, rfl, rfl, Nat.le_refl _, fun _ _ _ => rfl⟩
theorem Ch.grown (h : Ch S w w1) {row : Option Nat} (hg : w1.grownBy w2 row) (hr : ∀ k, row = some k → k < w.heap.size → S k) : Ch S w w2 :=
  ⟨hg.os.trans h.os, hg.tape.trans h.tape, hg.output.trans h.output, Nat.le_trans h.size hg.size, fun k hk hs => (hg.block k (by have := h.size; omega) (fun e => hs (hr k e.symm hk))).trans (h.block k hk hs)⟩
theorem Ch.moved (h : Ch S w w1) (hb : Below w1.heap.size w1 w2) : Ch S w w2 := h.grown (grown_of_below hb none) (fun k hk => by cases hk)
theorem Ch.below (h : Ch S w w1) {B : Nat} (hB : B ≤ w.heap.size) (hs : ∀ k, S k → B ≤ k) : Below B w w1 :=
  ⟨h.os, h.tape, h.output, h.size, fun k hk => h.block k (by omega) (fun e => by have := hs k e; omega)⟩
theorem Ch.row {α : Type} {d : Kd α} {e b : Nat} {ok : Nat → Prop} {v : Value} {xs : List α} (h : Ch S w w1) (hE : d.E = []) (hr : d.R e w b ok v xs) (hs : ∀ k, v.ownBlock = some k → ¬ S k) : d.R e w1 b ok v xs :=
  Kd.R_mono (Kd.R_step (Kd.R_tight hE hr) (fun k hk hlt => h.block k hlt (hs k hk.symm))) (fun k hk => hr.1 k hk.symm)
end
variable {α : Type} {d : Kd α} {e : Nat}
/-- The blocks of the rows. -/
def Of (vs : Nat → Value) (n : Nat) : Nat → Prop := fun k => ∃ t, t < n ∧ (vs t).ownBlock = some k
theorem Lng.side {w w' : World} {b n m : Nat} {vs us : Nat → Value} {xs ys : Nat → List α} (hE : d.E = []) (h : Lng d e w b vs us xs ys n m) {row : Option Nat} (hg : w.grownBy w' row) (hne : ∀ k, row = some k → ∃ cells q, w.heap[k]? = some (.cells cells q (0, 0)) ∧ e ≠ q) : Lng d e w' b vs us xs ys n m := by
  have mv : ∀ v zs, d.R e w b T v zs → d.R e w' b T v zs := fun v zs hr => Kd.R_grown2 hr hE hg (fun k hk => by
    obtain ⟨cells, q, hc, hq⟩ := hne k hk
    exact Kd.R_ne hr hc hq)
  exact ⟨fun i hi => mv _ _ (h.rv i hi), fun i hi => mv _ _ (h.ru i hi), h.avv, h.auv, h.auu⟩
theorem R_typed {w : World} {b : Nat} {v : Value} {xs : List α} (h : d.R e w b T v xs) : ∀ k, v.ownBlock = some k → ∃ cells, w.heap[k]? = some (.cells cells e (0, 0)) := fun k hk => by
  obtain ⟨inner, ho⟩ := Kd.R_own h
  exact own_typed ho k hk
/-- Writing over: the rows up to i, and of row i the first k. -/
structure P1 (d : Kd α) (e : Nat) (w wr : World) (b : Nat) (vs : Nat → Value) (L : Nat → Nat) (mk : Nat → α) (i k : Nat) (xs : Nat → List α) : Prop where
  l : Lng d e wr b vs vs xs xs 4 0
  len : ∀ t, t < 4 → (xs t).length = L t
  m : ∀ t j, t < 4 → j < L t → (t < i ∨ (t = i ∧ j < k)) → (xs t)[j]? = some (mk t)
  c : Ch (Of vs 4) w wr
section
variable {w wr w1 : World} {b i k : Nat} {vs : Nat → Value} {L : Nat → Nat} {mk : Nat → α} {xs : Nat → List α}
theorem P1.moved (h : P1 d e w wr b vs L mk i k xs) (hb : Below wr.heap.size wr w1) : P1 d e w w1 b vs L mk i k xs := ⟨h.l.moved hb, h.len, h.m, h.c.moved hb⟩
theorem P1.put (hE : d.E = []) (h : P1 d e w wr b vs L mk i k xs) (hi : i < 4) (hk : k < L i) (hr : d.R e w1 b T (vs i) ((xs i).set k (mk i))) (hg : wr.grownBy w1 (vs i).ownBlock) : P1 d e w w1 b vs L mk i (k + 1) (upd xs i ((xs i).set k (mk i))) := by
  have hl := h.l.put hE hi hr hg
  refine ⟨⟨hl.rv, fun t ht => by omega, hl.avv, fun t j ht => by omega, fun t j ht => by omega⟩, fun t ht => ?_, fun t j ht hj hh => ?_, h.c.grown hg (fun q hq _ => ⟨i, hi, hq⟩)⟩
  · by_cases hti : t = i
    · subst hti
      rw [upd_at, List.length_set]
      exact h.len t ht
    · rw [upd_ne hti]
      exact h.len t ht
  · by_cases hti : t = i
    · subst hti
      rw [upd_at, List.getElem?_set]
      by_cases hjk : k = j
      · rw [if_pos hjk, if_pos (by rw [h.len t ht]; exact hk)]
      · rw [if_neg hjk]
        exact h.m t j ht hj (by omega)
    · rw [upd_ne hti]
      exact h.m t j ht hj (by omega)
theorem P1.up (h : P1 d e w wr b vs L mk i k xs) (hk : L i ≤ k) : P1 d e w wr b vs L mk (i + 1) 0 xs := ⟨h.l, h.len, fun t j ht hj hh => h.m t j ht hj (by
  by_cases hti : t = i
  · subst hti; right; omega
  · left; omega), h.c⟩
theorem P1.full (h : P1 d e w wr b vs L mk 4 0 xs) : ∀ t, t < 4 → xs t = List.replicate (L t) (mk t) := fun t ht => by
  refine List.ext_getElem? (fun j => ?_)
  by_cases hj : j < L t
  · rw [h.m t j ht hj (.inl ht), List.getElem?_replicate, if_pos hj]
  · rw [List.getElem?_eq_none (by rw [h.len t ht]; omega), List.getElem?_eq_none (by rw [List.length_replicate]; omega)]
end
abbrev Tri := Option Addr × Nat × Nat
def enc (x : Tri) : Value := .slice x.1 x.2.1 x.2.2
def kL : Kd Tri := Kd.scalar enc (fun _ => rfl)
/-- Growing: what has grown out of the rows up to i, and of row i by k. -/
structure P2 (d : Kd α) (e e2 : Nat) (w wr : World) (b : Nat) (vs : Nat → Value) (L : Nat → Nat) (mk nk : Nat → α) (i m k : Nat) (us : Nat → Value) (ys : Nat → List α) (vL : Value) (ls : List Tri) : Prop where
  l : Lng d e wr b vs us (fun t => List.replicate (L t) (mk t)) ys 4 m
  full : ∀ t, t < i → ys t = List.replicate (L t) (mk t) ++ List.replicate 70 (nk t)
  now : i < m → ys i = List.replicate (L i) (mk i) ++ List.replicate k (nk i)
  long : kL.R e2 wr w.heap.size T vL ls
  len : ls.length = i
  enc : ∀ t, t < i → ∃ x, ls[t]? = some x ∧ us t = enc x
  s : ∀ t q, t < m → (us t).ownBlock = some q → q < w.heap.size → Of vs 4 q
  c : Ch (Of vs 4) w wr
section
variable {w wr w1 : World} {b i k m : Nat} {e2 : Nat} {vs us : Nat → Value} {L : Nat → Nat} {mk nk : Nat → α} {xs ys : Nat → List α} {vL v1 : Value} {ls : List Tri}
theorem P2.start (h : P1 d e w wr b vs L mk 4 0 xs) : P2 d e e2 w wr b vs L mk nk 0 0 0 vs (fun _ => []) (.slice none 0 0) [] :=
  ⟨⟨fun t ht => by rw [← h.full t ht]; exact h.l.rv t ht, fun t ht => by omega, h.l.avv, fun t j ht => by omega, fun t j ht => by omega⟩, fun t ht => by omega, fun hh => by omega, Kd.R_nil _ _ _ _ _, rfl, fun t ht => by omega, fun t q ht => by omega, h.c⟩
theorem P2.moved (h : P2 d e e2 w wr b vs L mk nk i m k us ys vL ls) (hb : Below wr.heap.size wr w1) : P2 d e e2 w w1 b vs L mk nk i m k us ys vL ls := ⟨h.l.moved hb, h.full, h.now, Kd.R_below h.long hb, h.len, h.enc, h.s, h.c.moved hb⟩
theorem P2.begin_ (h : P2 d e e2 w wr b vs L mk nk i i k us ys vL ls) (hi : i < 4) : P2 d e e2 w wr b vs L mk nk i (i + 1) 0 (upd us i (vs i)) (upd ys i (List.replicate (L i) (mk i))) vL ls :=
  ⟨h.l.begin_ hi, fun t ht => by rw [upd_ne (by omega)]; exact h.full t ht, fun _ => by rw [upd_at]; simp, h.long, h.len, fun t ht => by rw [upd_ne (by omega)]; exact h.enc t ht, fun t q ht hq hlt => by
    by_cases hti : t = i
    · subst hti
      rw [upd_at] at hq
      exact ⟨t, hi, hq⟩
    · rw [upd_ne hti] at hq
      exact h.s t q (by omega) hq hlt, h.c⟩
theorem P2.grow (hE : d.E = []) (hM : ∀ w w' b ok x cs, d.M w b ok x cs → d.M w' b ok x cs) (hne : e2 ≠ e) (h : P2 d e e2 w wr b vs L mk nk i (i + 1) k us ys vL ls) (hi : i < 4) (hr : d.R e w1 b T v1 (ys i ++ [nk i])) (hg : wr.grownBy w1 (us i).ownBlock) (hat : v1.ownBlock = (us i).ownBlock ∨ ∃ q, v1.ownBlock = some q ∧ wr.heap.size ≤ q) (hst : Stays wr w1 b e d.sz (ys i).length (us i).ownBlock) :
    P2 d e e2 w w1 b vs L mk nk i (i + 1) (k + 1) (upd us i v1) (upd ys i (ys i ++ [nk i])) vL ls := by
  have hy := h.now (Nat.lt_succ_self i)
  refine ⟨h.l.grow hE hM hi hr hg hat hst (by rw [hy, List.length_append, List.length_replicate]; omega), fun t ht => by rw [upd_ne (by omega)]; exact h.full t ht, fun _ => by rw [upd_at, hy, List.append_assoc, ← List.replicate_succ'], Kd.R_grown2 h.long rfl hg (fun q hq => ?_), h.len, fun t ht => by rw [upd_ne (by omega)]; exact h.enc t ht, fun t q ht hq hlt => ?_, h.c.grown hg (fun q hq hlt => h.s i q (Nat.lt_succ_self i) hq hlt)⟩
  · obtain ⟨cells, hc⟩ := R_typed (h.l.ru i (Nat.lt_succ_self i)) q hq
    exact Kd.R_ne h.long hc hne
  · by_cases hti : t = i
    · subst hti
      rw [upd_at] at hq
      rcases hat with ha | ⟨q', hq', hle⟩
      · exact h.s t q ht (ha ▸ hq) hlt
      · rw [hq] at hq'
        injection hq' with hq'
        have := h.c.size
        omega
    · rw [upd_ne hti] at hq
      exact h.s t q ht hq hlt
theorem P2.up (hE : d.E = []) (hne : e ≠ e2) (h : P2 d e e2 w wr b vs L mk nk i (i + 1) 70 us ys vL ls) (hi : i < 4) {x : Tri} (hx : us i = AR.enc x) (hr : kL.R e2 w1 w.heap.size T v1 (ls ++ [x])) (hg : wr.grownBy w1 vL.ownBlock) :
    P2 d e e2 w w1 b vs L mk nk (i + 1) (i + 1) 0 us ys v1 (ls ++ [x]) := by
  refine ⟨h.l.side hE hg (fun q hq => ?_), fun t ht => ?_, fun hh => by omega, hr, by rw [List.length_append, h.len]; rfl, fun t ht => ?_, h.s, h.c.grown hg (fun q hq hlt => ?_)⟩
  · obtain ⟨cells, hc⟩ := R_typed h.long q hq
    exact ⟨cells, e2, hc, hne⟩
  · by_cases hti : t = i
    · subst hti
      exact h.now (Nat.lt_succ_self t)
    · exact h.full t (by omega)
  · by_cases hti : t = i
    · subst hti
      exact ⟨x, by rw [List.getElem?_append_right (by rw [h.len]; exact Nat.le_refl _), h.len, Nat.sub_self]; rfl, hx⟩
    · obtain ⟨y, hy, hu⟩ := h.enc t (by omega)
      exact ⟨y, by rw [List.getElem?_append_left (by rw [h.len]; omega)]; exact hy, hu⟩
  · have := (Kd.R_bound h.long).1 q hq
    omega
end
/-- What the last pass reads: the rows, the long rows, the row of the long rows. -/
structure P3 (d : Kd α) (w : World) (A : Nat → Option Addr) (L : Nat → Nat) (mk nk : Nat → α) (AL : Option Addr) : Prop where
  v : ∀ t, t < 4 → d.C w (A t) (L t) (List.replicate (L t) (mk t))
  u : ∀ t, t < 4 → ∃ ad AU c, AL = some ad ∧ w.cell? (ad.add t) = some (.slice AU (L t + 70) c) ∧ d.C w AU (L t + 70) (List.replicate (L t) (mk t) ++ List.replicate 70 (nk t))
theorem P3.moved {w w1 : World} {A : Nat → Option Addr} {L : Nat → Nat} {mk nk : Nat → α} {AL : Option Addr} (h : P3 d w A L mk nk AL) (hb : Below w.heap.size w w1) : P3 d w1 A L mk nk AL :=
  ⟨fun t ht => Kd.C_below (h.v t ht) hb, fun t ht => by
    obtain ⟨ad, AU, c, e1, hc, hu⟩ := h.u t ht
    exact ⟨ad, AU, c, e1, pw_cell_below hb hc, Kd.C_below hu hb⟩⟩
theorem P3.of {w wr : World} {b e2 : Nat} {A : Nat → Option Addr} {L c : Nat → Nat} {us : Nat → Value} {mk nk : Nat → α} {ys : Nat → List α} {vL : Value} {ls : List Tri} (h : P2 d e e2 w wr b (fun t => .slice (A t) (L t) (c t)) L mk nk 4 4 0 us ys vL ls) : ∃ AL cL, vL = .slice AL 4 cL ∧ 4 ≤ cL ∧ P3 d wr A L mk nk AL := by
  obtain ⟨AL, cL, rfl, hcl, hC⟩ := Kd.R_reads h.long
  rw [h.len] at hcl hC ⊢
  refine ⟨AL, cL, rfl, hcl, fun t ht => by
    have h2 := (Kd.R_reads' (h.l.rv t ht)).2.2
    rwa [List.length_replicate] at h2, fun t ht => ?_⟩
  obtain ⟨x, hx, hu⟩ := h.enc t ht
  obtain ⟨ad, e1, hc⟩ := hC.2.2 (by omega)
  obtain ⟨cs, _, hcs, hcell⟩ := hc t x hx
  have hcs : cs = [AR.enc x] := hcs
  subst hcs
  have h0 := hcell 0 _ rfl
  have hr := h.l.ru t ht
  rw [h.full t ht] at hr
  obtain ⟨AU, cU, hv, _, hCU⟩ := Kd.R_reads hr
  rw [List.length_append, List.length_replicate, List.length_replicate] at hv hCU
  refine ⟨ad, AU, cU, e1, ?_, hCU⟩
  rw [← hv, hu]
  have e0 : t * kL.sz + 0 = t := by show t * 1 + 0 = t; omega
  rwa [e0] at h0
theorem mix_lt {x y : α} {n k : Nat} {z : α} (h : k < n) : (List.replicate n x ++ List.replicate 70 y).getD k z = x := by
  rw [List.getD_eq_getElem?_getD, List.getElem?_append_left (by rw [List.length_replicate]; exact h), List.getElem?_replicate, if_pos h]
  rfl
theorem mix_ge {x y : α} {n k : Nat} {z : α} (h : n ≤ k) (h2 : k < n + 70) : (List.replicate n x ++ List.replicate 70 y).getD k z = y := by
  rw [List.getD_eq_getElem?_getD, List.getElem?_append_right (by rw [List.length_replicate]; exact h), List.length_replicate, List.getElem?_replicate, if_pos (by omega)]
  rfl
theorem rep_at {x : α} {n k : Nat} {z : α} (h : k < n) : (List.replicate n x).getD k z = x := by
  rw [List.getD_eq_getElem?_getD, List.getElem?_replicate, if_pos h]
  rfl
end Go.Proofs.Ytknagjiipelfnaa.AR
