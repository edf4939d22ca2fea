/- MendOdds, the laws on rows: an append that leaves the shorter rows of the same array as they were; an append with room; the head of a row. -/
import Derived.Test.YtgefbbdahhoglaaPMox2
import Derived.Deep.DeepAppendRoom
namespace Go.Proofs.Ytgefbbdahhoglaa.Keep
open Go.RowKit Go.WideShapes Go.ChangeShapes Go.Proofs.YtgefbbdahhoglaaW.PrintWords
set_option linter.unusedVariables false
section
variable {P : Program}
/-- Shorter rows of the same array stay. -/
def Stays (w w' : World) (base e size n : Nat) (row : Option Nat) : Prop :=
  ∀ v0 k cs, w.ownsRow base e size v0 k cs → (v0.ownBlock = row → row ≠ none → k ≤ n) → w'.ownsRow base e size v0 k cs

theorem stays_none {w w' : World} {base e size n : Nat} {row : Option Nat} (hg : w.grownBy w' none) : Stays w w' base e size n row := fun v0 k cs h _ => h.kept hg (by cases v0.ownBlock <;> simp)

theorem run_append_keep (w : World) (base : Nat) (t ty e : TypeId) (i : TypeInfo) (z : Value) (size bytes : Nat) (ht : P.underlying t = some (.slice e)) (hi : P.info? e = some i) (hz : i.zero = some z)
    (hsize : i.size = size) (hby : i.bytes = bytes) (hzs : z.cells.size = size) (hsz : 0 < size)
    (v : Value) (n : Nat) (xs : List Value) (hown : w.ownsRow base e size v n xs)
    (a : Addr) (m c : Nat) (news : List Value) (hl : news.length = m * size) (hnews : ∀ j u, news[j]? = some u → w.cell? (a.add j) = some u) (h1 : ∀ u ∈ news, u.oneCell' = true)
    (h63 : n + m ≤ maxLen) (hbytes : (n + m) * bytes ≤ 140737488355328) (hbase : base ≤ w.heap.size) (hm : 0 < m) :
    ∃ v' w', (Builtin.append_ #[t, t] ty #[v, .slice (some a) m c]).run P w = .ok v' w' ∧ w'.ownsRow base e size v' (n + m) (xs ++ news) ∧ w.grownBy w' v.ownBlock ∧
      (v'.ownBlock = v.ownBlock ∨ ∃ b, v'.ownBlock = some b ∧ w.heap.size ≤ b) ∧ Stays w w' base e size n v.ownBlock := by
  rcases hown.2 with ⟨hv, hn⟩ | ⟨g, cap, cur, hv, hbg, hg, hnc, hcm, hcs, htake⟩
  · subst hv hn
    obtain rfl : xs = [] := List.eq_nil_of_length_eq_zero (by have := hown.1; omega)
    obtain ⟨v', w', hr, ho, hgr, _⟩ := run_append_own (P := P) w w.heap.size t ty e i z size bytes ht hi hz hsize hby hzs hsz (.slice none 0 0) 0 [] (own_nil _ _ _ _) a m c news hl hnews h1 h63 hbytes (Nat.le_refl _)
    refine ⟨v', w', hr, own_weaken ho hbase, hgr, ?_, stays_none hgr⟩
    rcases ho.2 with ⟨_, h0⟩ | ⟨g', cap', cur', rfl, hb', hh', _⟩
    · omega
    · exact .inr ⟨g', rfl, hb'⟩
  · subst hv
    by_cases hroom : n + m ≤ cap
    · subst hsize
      have hfit : n * i.size + news.length ≤ cur.size := by rw [hl, hcs, ← Nat.add_mul]; exact Nat.mul_le_mul_right _ hroom
      have hr := run_append_room (P := P) w t ty e i ht hi g n cap cur hg a m c news hl hnews h1 hroom hfit
      have hlen : (xs ++ news).length = (n + m) * i.size := by rw [List.length_append, hown.1, hl, Nat.add_mul]
      refine ⟨_, _, hr, ⟨hlen, .inr ⟨g, cap, _, rfl, hbg, setRow_heap w g cur _ e _ hg, hroom, hcm, ?_, ?_⟩⟩, ⟨rfl, rfl, rfl, by simp, fun k _ hk => setRow_other w g k _ (fun e => hk (by simp [Value.ownBlock, e]))⟩, .inl rfl, ?_⟩
      · simp only [List.size_toArray, List.length_append, List.length_take, List.length_drop, Array.length_toList]
        omega
      · rw [htake, ← hlen]
        exact List.take_left
      · intro v0 k cs h0 hk
        rcases h0.2 with ⟨hv0, hk0⟩ | ⟨g0, cap0, cur0, hv0, hb0, hg0, hnc0, hcm0, hcs0, htake0⟩
        · exact ⟨h0.1, .inl ⟨hv0, hk0⟩⟩
        · subst hv0
          by_cases he : g0 = g
          · subst he
            have hkn := hk rfl (by simp [Value.ownBlock])
            rw [hg] at hg0
            injection hg0 with hg0
            injection hg0 with hg0
            subst hg0
            refine ⟨h0.1, .inr ⟨g0, cap0, _, rfl, hb0, setRow_heap w g0 cur _ e _ hg, hnc0, hcm0, ?_, ?_⟩⟩
            · rw [← hcs0]
              simp only [List.size_toArray, List.length_append, List.length_take, List.length_drop, Array.length_toList]
              omega
            · have h2 : k * i.size ≤ n * i.size := Nat.mul_le_mul_right _ hkn
              rw [← htake0]
              show List.take (k * i.size) (List.take (n * i.size) cur.toList ++ news ++ List.drop (n * i.size + news.length) cur.toList) = _
              rw [List.append_assoc, List.take_append_of_le_length (by rw [List.length_take, Array.length_toList]; omega), List.take_take, Nat.min_eq_left h2]
          · refine ⟨h0.1, .inr ⟨g0, cap0, cur0, rfl, hb0, (setRow_other w g g0 _ he).trans hg0, hnc0, hcm0, hcs0, htake0⟩⟩
    · obtain ⟨v', w', hr, ho, hgr⟩ := run_append_arg_grows (P := P) w t ty e i z size bytes ht hi hz hsize hby hzs hsz ⟨g, 0, none⟩ n cap xs hown.1 (hown.cells rfl) a m c news hl hnews (by omega) h63 hbytes
      refine ⟨v', w', hr, own_weaken ho hbase, ⟨hgr.os, hgr.tape, hgr.output, hgr.size, fun k hk _ => hgr.block k hk (by simp)⟩, ?_, stays_none hgr⟩
      rcases ho.2 with ⟨_, h0⟩ | ⟨g', cap', cur', rfl, hb', hh', _⟩
      · omega
      · exact .inr ⟨g', rfl, hb'⟩
end
section
variable {P : Program} {ops : Array Oper} {rest : List Oper} {o : Oper} {a : Act} {Q : Exit → Act → World → Prop} {α : Type}
theorem R_append_keep (d : Kd α) {w0 W : World} (base : Nat) (hgd : o.guard = none) (s x : Operand) (t e : TypeId) (z : Value) (bytes : Nat)
    (ho : o.op = .call { callee := .builtin .append, args := #[s, x], argTypes := #[t, t] })
    (ht : P.underlying t = some (.slice e)) (hinfo : (P.info? e).map (fun i => (i.zero, i.size, i.bytes)) = some (some z, d.sz, bytes)) (hz : z.cells.size = d.sz) (hs0 : 0 < d.sz) (hb0 : 0 < bytes)
    (v : Value) (xs : List α) (p : α) (cs : List Value) (ok okp : Nat → Prop) (hs : a.eval s = v) (hx : a.eval x = .slice (some ⟨W.heap.size, 0, none⟩) 1 1) (hp : d.M W base okp p cs) (hokp : ∀ k, okp k → ok k ∧ some k ≠ v.ownBlock) (hfresh : ∀ k, W.heap.size ≤ k → ok k)
    (HO : d.R e W base ok v xs) (HB : Below base w0 W) (hbase : base ≤ W.heap.size) (hl : (xs.length + 1) * bytes ≤ 140737488355328)
    (h : ∀ v1 w1, d.R e w1 base ok v1 (xs ++ [p]) → Below base w0 w1 → W.grownBy w1 v.ownBlock → (v1.ownBlock = v.ownBlock ∨ ∃ b, v1.ownBlock = some b ∧ W.heap.size ≤ b) → Stays W w1 base e d.sz xs.length v.ownBlock → wpList P ops Q rest (a.put o.dst v1) w1) :
    wpList P ops Q (o :: rest) a (W.alloc (.cells cs.toArray e)) := by
  obtain ⟨h0, inner, hown, hr⟩ := HO
  obtain ⟨i0, hi, hzz⟩ := Option.map_eq_some_iff.1 hinfo
  simp only [Prod.mk.injEq] at hzz
  obtain ⟨hz0, hz1, hz2⟩ := hzz
  have hlen : xs.length + 1 ≤ 140737488355328 := Nat.le_trans (Nat.le_mul_of_pos_right _ hb0) hl
  have hys : cs.length = d.sz := d.K_len (d.K_of_M hp)
  obtain ⟨v1, w1, hrun, hown1, hg, hat, hst⟩ := run_append_keep (P := P) (W.alloc (.cells cs.toArray e)) base t o.type e i0 z d.sz bytes ht hi hz0 hz1 hz2 hz hs0 v xs.length inner (hown.alloc _) ⟨W.heap.size, 0, none⟩ 1 1 cs (by rw [hys]; simp)
    (by simpa using World.news_of_block (cs := cs.toArray) (t := e) (fr := (0, 0)) (heap_alloc_new W (.cells cs.toArray e))) (d.K_one (d.K_of_M hp)) (by simp only [maxLen]; omega) hl (by simp; omega) (by omega)
  refine wpList_plain hgd fun K hK => ?_
  unfold Oper.wp execOp
  simp only [ho, resolve, invoke, builtin, Sem.run_bind, Sem.run_pure, Result.andThen_ok, List.map_toArray, List.map_cons, List.map_nil, hs, hx, hrun]
  refine hK _ _ ?_
  have hat' : v1.ownBlock = v.ownBlock ∨ ∃ b, v1.ownBlock = some b ∧ W.heap.size ≤ b := by
    rcases hat with hat | ⟨b, hb, hle⟩
    · exact .inl hat
    · exact .inr ⟨b, hb, by simp at hle; omega⟩
  have hg' := World.grownBy.trans (World.grownBy_alloc W (.cells cs.toArray e) _) hg
  exact h v1 w1 (Kd.R_appended h0 hr hp hokp hfresh hown1 hg' hat') ((HB.alloc hbase _).grown hg (by simp; omega) (own_base hown)) hg' hat' (fun v0 k cs0 h3 h4 => hst v0 k cs0 (h3.alloc _) h4)

/-- append WHERE THERE IS ROOM: block and capacity stay. -/
theorem R_append_spare (d : Kd α) {w0 W : World} (base : Nat) (hgd : o.guard = none) (s x : Operand) (t e : TypeId)
    (ho : o.op = .call { callee := .builtin .append, args := #[s, x], argTypes := #[t, t] })
    (ht : P.underlying t = some (.slice e)) (hinfo : (P.info? e).map (·.size) = some d.sz)
    (g n cap : Nat) (xs : List α) (p : α) (cs : List Value) (ok okp : Nat → Prop) (hs : a.eval s = .slice (some ⟨g, 0, none⟩) n cap) (hx : a.eval x = .slice (some ⟨W.heap.size, 0, none⟩) 1 1) (hp : d.M W base okp p cs) (hokp : ∀ k, okp k → ok k ∧ some k ≠ some g) (hfresh : ∀ k, W.heap.size ≤ k → ok k)
    (HO : d.R e W base ok (.slice (some ⟨g, 0, none⟩) n cap) xs) (hn : xs.length = n) (HB : Below base w0 W) (hbase : base ≤ W.heap.size) (hroom : n + 1 ≤ cap)
    (h : ∀ w1, d.R e w1 base ok (.slice (some ⟨g, 0, none⟩) (n + 1) cap) (xs ++ [p]) → Below base w0 w1 → W.grownBy w1 (some g) → wpList P ops Q rest (a.put o.dst (.slice (some ⟨g, 0, none⟩) (n + 1) cap)) w1) :
    wpList P ops Q (o :: rest) a (W.alloc (.cells cs.toArray e)) := by
  subst hn
  obtain ⟨h0, inner, hown, hr⟩ := HO
  obtain ⟨i0, hi, hzz⟩ := Option.map_eq_some_iff.1 hinfo
  have hys : cs.length = d.sz := d.K_len (d.K_of_M hp)
  refine wpList_append_own_spare (W.alloc (.cells cs.toArray e)) hgd s x t ho base e i0 d.sz ht hi hzz g xs.length cap inner hs (hown.alloc _) ⟨W.heap.size, 0, none⟩ 1 1 cs hx (by rw [hys]; simp)
    (by simpa using World.news_of_block (cs := cs.toArray) (t := e) (fr := (0, 0)) (heap_alloc_new W (.cells cs.toArray e))) (d.K_one (d.K_of_M hp)) hroom ?_
  intro w1 hown1 hg
  have hg' := World.grownBy.trans (World.grownBy_alloc W (.cells cs.toArray e) _) hg
  exact h w1 (Kd.R_appended h0 hr hp hokp hfresh hown1 hg' (.inl rfl)) ((HB.alloc hbase _).grown hg (by simp; omega) (own_base hown)) hg'
end
section
variable {α : Type} {d : Kd α} {w w1 : World} {e base : Nat} {ok : Nat → Prop}
theorem C_prefix {A : Option Addr} {n : Nat} {xs ys : List α} (h : d.C w A n (xs ++ ys)) : d.C w A xs.length xs := by
  obtain ⟨h1, h2, h3⟩ := h
  rw [List.length_append] at h1
  refine ⟨rfl, by omega, fun h0 => ?_⟩
  obtain ⟨ad, e, hc⟩ := h3 (by omega)
  refine ⟨ad, e, fun j p hj => hc j p ?_⟩
  obtain ⟨hlt, he⟩ := List.getElem?_eq_some_iff.1 hj
  rw [List.getElem?_append_left hlt, hj]
/-- A kind whose cells hang on no memory: a row stays where its array does. -/
theorem R_stays (hf : ∀ ok ok' x cs, d.M w base ok x cs → d.M w1 base ok' x cs) {v0 : Value} {zs : List α} {n : Nat} {row : Option Nat} (hs : Stays w w1 base e d.sz n row) (h : d.R e w base ok v0 zs) (hn : v0.ownBlock = row → row ≠ none → zs.length ≤ n) : d.R e w1 base ok v0 zs := by
  obtain ⟨h0, inner, hown, hr⟩ := h
  exact ⟨h0, inner, hs _ _ _ hown hn, hr.imp_ (fun _ _ hp => hf _ _ _ _ hp)⟩
end
end Go.Proofs.Ytgefbbdahhoglaa.Keep
