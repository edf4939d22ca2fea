/- Line ends ahead of a text: what can be folded is as many rows further down, what is called something as many bytes further on: in plain Lean. trellislaw22.awake: at one language and one tree the program folds and names. -/
import Derived.Test.YtknagjiipelfnaaSymsA
import Derived.Test.YtknagjiipelfnaaOFolds
import Derived.Test.YtknagjiipelfnaaLang
namespace Go.Proofs.Ytknagjiipelfnaa.MV
open Go.RowKit Go.WideShapes Go.ChangeShapes Go.Proofs.YtknagjiipelfnaaW.PrintWords Go.Proofs.YtknagjiipelfnaaW.PrintLast Go.Proofs.YtknagjiipelfnaaW.PrintMore Go.Proofs.Ytknagjiipelfnaa.PAll
open Go.Proofs.Ytknagjiipelfnaa.OL Go.Proofs.Ytknagjiipelfnaa.SO
set_option linter.unusedVariables false

/-! ### line ends ahead of a text -/
def nlB : Nat → ByteArray
  | 0 => ⟨#[]⟩
  | k + 1 => nlB k ++ (⟨#[10]⟩ : ByteArray)
theorem nlB_size (k : Nat) : (nlB k).size = k := by
  induction k with
  | zero => rfl
  | succ k ih => rw [nlB, ByteArray.size_append, ih]; rfl
theorem bt_left {a b : ByteArray} {i : Nat} (h : i < a.size) : bt (a ++ b) (i : Int) = bt a (i : Int) := by
  unfold bt
  rw [dif_pos (by rw [Int.toNat_natCast, ByteArray.size_append]; omega), dif_pos (by rw [Int.toNat_natCast]; exact h)]
  congr 2
  simp only [Int.toNat_natCast]
  exact ByteArray.getElem_append_left h
theorem bt_right {a b : ByteArray} {i : Nat} : bt (a ++ b) ((a.size + i : Nat) : Int) = bt b (i : Int) := by
  unfold bt
  by_cases h : i < b.size
  · rw [dif_pos (by rw [Int.toNat_natCast, ByteArray.size_append]; omega), dif_pos (by rw [Int.toNat_natCast]; exact h)]
    congr 2
    simp only [Int.toNat_natCast]
    rw [ByteArray.getElem_append_right (by omega)]
    congr 1
    omega
  · rw [dif_neg (by rw [Int.toNat_natCast, ByteArray.size_append]; omega), dif_neg (by rw [Int.toNat_natCast]; exact h)]
theorem nlB_bt {k i : Nat} (h : i < k) : bt (nlB k) (i : Int) = 10 := by
  induction k with
  | zero => omega
  | succ k ih =>
    rw [nlB]
    by_cases e : i < k
    · rw [bt_left (by rw [nlB_size]; exact e)]
      exact ih e
    · have e2 : i = (nlB k).size + 0 := by rw [nlB_size]; omega
      rw [e2, bt_right]
      rfl
theorem rowN_nl (k : Nat) (text : ByteArray) : ∀ i, i ≤ k → PT.rowN (nlB k ++ text) i = i := by
  intro i
  induction i with
  | zero => intro _; rfl
  | succ i ih =>
    intro h
    rw [PT.rowN_nl (by rw [bt_left (by rw [nlB_size]; omega)]; exact nlB_bt (by omega)), ih (by omega)]
theorem rowN_move (k : Nat) (text : ByteArray) : ∀ a, PT.rowN (nlB k ++ text) (k + a) = k + PT.rowN text a := by
  intro a
  induction a with
  | zero => exact rowN_nl k text k (Nat.le_refl _)
  | succ a ih =>
    have e : bt (nlB k ++ text) ((k + a : Nat) : Int) = bt text (a : Int) := by
      have h := bt_right (a := nlB k) (b := text) (i := a)
      rwa [nlB_size] at h
    by_cases h : bt text (a : Int) = 10
    · rw [← Nat.add_assoc, PT.rowN_nl (by rw [e]; exact h), ih, PT.rowN_nl h]
      omega
    · rw [← Nat.add_assoc, PT.rowN_no (by rw [e]; exact h), ih, PT.rowN_no h]
theorem move_size (k : Nat) (text : ByteArray) : (nlB k ++ text).size = k + text.size := by rw [ByteArray.size_append, nlB_size]
theorem clampN_in {text : ByteArray} {a : Int} (h0 : 0 ≤ a) (h1 : a ≤ text.size) : PT.clampN text a = a.toNat := by
  unfold PT.clampN
  rw [if_neg (by omega), if_neg (by omega)]
theorem ends_go (K : Nat) (hK : K ≤ 1000) : ∀ d i, K - i = d → i ≤ K → ∃ n, trellislaw22_ends.l0 n (K : Int) (nlB i) (i : Int) = some (nlB K) := by
  intro d
  induction d with
  | zero =>
    intro i hd hi
    obtain rfl : i = K := by omega
    exact ⟨1, by rw [trellislaw22_ends.l0, if_neg (by omega)]⟩
  | succ d ih =>
    intro i hd hi
    obtain ⟨n, hn⟩ := ih (i + 1) (by omega) (by omega)
    have e : wrap64 ((i : Int) + 1) = ((i + 1 : Nat) : Int) := (OL.w64 (by omega) (by omega)).trans (by omega)
    refine ⟨n + 1, ?_⟩
    rw [trellislaw22_ends.l0, if_pos (by omega), if_pos (by rw [nlB_size]; omega), e]
    exact hn
theorem ends_calls (K : Nat) (hK : K ≤ 1000) (w : World) : Calls Try.prog 30 #[.int .i64 (K : Int)] w fun e w' => e = .returned (.string (nlB K)) ∧ Below w.heap.size w w' := by
  obtain ⟨n, hn⟩ := ends_go K hK K 0 rfl (Nat.zero_le _)
  exact (trellislaw22_ends.calls n (K : Int) _ w hn).mono fun e w' ⟨h1, h2⟩ => ⟨h1, h2.below⟩

/-! ### trees moved on -/
def sh (k : Nat) (x : S50) : S50 := { x with f3 := x.f3 + k, f4 := x.f4 + k }
mutual
def mapT (e : S50 → S50) : S143 → S143
  | ⟨x, K, a⟩ => ⟨e x, mapL e K, a⟩
def mapL (e : S50 → S50) : List S143 → List S143
  | [] => []
  | x :: r => mapT e x :: mapL e r
end
theorem mapL_eq (e : S50 → S50) (F : List S143) : mapL e F = F.map (mapT e) := by
  induction F with
  | nil => rw [mapL]; rfl
  | cons x r ih => rw [mapL, ih]; rfl
theorem mapT_f2 (e : S50 → S50) (x : S143) : (mapT e x).f2 = x.f2 := by cases x; rw [mapT]
theorem mapT_f1 (e : S50 → S50) (x : S143) : (mapT e x).f1 = mapL e x.f1 := by cases x; rw [mapT]
mutual
theorem enT_map (e : S50 → S50) : ∀ x : S143, enT (mapT e x) = enT x
  | ⟨x, K, a⟩ => by rw [mapT, enT, enT, enL_map e K]
theorem enL_map (e : S50 → S50) : ∀ F : List S143, enL (mapL e F) = enL F
  | [] => by rw [mapL]
  | x :: r => by rw [mapL, enL, enL, enT_map e x, enL_map e r]
end
mutual
theorem ndT_map (e : S50 → S50) : ∀ x : S143, ndT (mapT e x) = (ndT x).map (mapT e)
  | ⟨x, K, a⟩ => by rw [mapT, ndT, ndT, ndL_map e K, List.map_cons, mapT]
theorem ndL_map (e : S50 → S50) : ∀ F : List S143, ndL (mapL e F) = (ndL F).map (mapT e)
  | [] => by rw [mapL, ndL]; rfl
  | x :: r => by rw [mapL, ndL, ndL, ndT_map e x, ndL_map e r, List.map_append]
end
theorem gr_map (e : S50 → S50) (he : ∀ x, (e x).f5 = x.f5) : ∀ (ts : List S50) (a : Nat), gr (ts.map e) a = (gr ts a).map (mapL e) := by
  intro ts
  induction ts with
  | nil => intro a; rw [List.map_nil, gr]; simp [mapL]
  | cons x r ih =>
    intro a
    rw [List.map_cons, gr, gr, ih]
    cases gr r (a + 1) with
    | none => rfl
    | some F =>
      simp only [Option.map_some, Option.bind_some]
      rw [he, mapL_eq, List.length_map]
      by_cases h : 0 ≤ x.f5 ∧ x.f5.toNat ≤ F.length
      · rw [if_pos h, if_pos h]
        simp only [Option.map_some]
        rw [mapL, mapT, mapL_eq, mapL_eq, List.map_take, List.map_drop]
      · rw [if_neg h, if_neg h]
        rfl
theorem kidsF_map (e : S50 → S50) (F : List S143) (i : Nat) : kidsF (mapL e F) i = kidsF F i := by
  unfold kidsF
  rw [ndL_map, List.getElem?_map]
  cases (ndL F)[i]? with
  | none => rfl
  | some y =>
    simp only [Option.map_some]
    rw [mapT_f1, mapL_eq, List.map_map]
    congr 1
    funext z
    exact mapT_f2 e z
theorem rd_map (e : S50 → S50) {t : List S50} {i : Int} (h0 : 0 ≤ i) (h1 : i < t.length) : rd_T50 (t.map e) i = e (rd_T50 t i) := by
  unfold rd_T50
  rw [List.getD_eq_getElem?_getD, List.getD_eq_getElem?_getD, List.getElem?_map, List.getElem?_eq_getElem (show i.toNat < t.length by omega)]
  rfl
theorem find_congr {α : Type} {p q : α → Bool} : ∀ (l : List α), (∀ x ∈ l, p x = q x) → l.find? p = l.find? q := by
  intro l
  induction l with
  | nil => intro _; rfl
  | cons a l ih =>
    intro h
    rw [List.find?_cons, List.find?_cons, h a (List.mem_cons_self ..), ih (fun x hx => h x (List.mem_cons_of_mem _ hx))]
theorem symK_move (k : Nat) {ms : List Mk} {t : List S50} {F : List S143} (hF : Fo t 0 F) {i : Nat} (hi : i < t.length) : symK ms (t.map (sh k)) (mapL (sh k) F) i = symK ms t F i := by
  unfold symK
  rw [rd_map _ (by omega) (by omega), kidsF_map]
  have e1 : (sh k (rd_T50 t (i : Int))).f1 = (rd_T50 t (i : Int)).f1 := rfl
  have e0 : (sh k (rd_T50 t (i : Int))).f0 = (rd_T50 t (i : Int)).f0 := rfl
  rw [e1, e0]
  split
  · split
    · rfl
    · unfold kidK
      refine find_congr _ (fun q hq => ?_)
      have := kids_in hF hi q hq
      rw [rd_map _ this.1 this.2]
      rfl
  · rfl
theorem runS_congr {sy sz : Nat → Option Int} {en : Nat → Int} : ∀ (m i : Nat) (S : List Int), (∀ j, i ≤ j → j < i + m → sy j = sz j) → runS sy en m i S = runS sz en m i S := by
  intro m
  induction m with
  | zero => intro i S _; rfl
  | succ m ih =>
    intro i S h
    rw [runS, runS, h i (Nat.le_refl _) (by omega)]
    cases sz i with
    | none => exact ih _ _ (fun j h1 h2 => h j (by omega) (by omega))
    | some k =>
      have e := ih (i + 1) (en i :: popA i S) (fun j h1 h2 => h j (by omega) (by omega))
      simp only [e]
theorem runS_mem {sy : Nat → Option Int} {en : Nat → Int} : ∀ (m i : Nat) (S : List Int) (o : Nat × Int × Nat), o ∈ (runS sy en m i S).1 → o.1 < i + m ∧ sy o.1 = some o.2.1 := by
  intro m
  induction m with
  | zero => intro i S o h; cases h
  | succ m ih =>
    intro i S o h
    rw [runS] at h
    cases hs : sy i with
    | none =>
      rw [hs] at h
      have := ih _ _ o h
      exact ⟨by omega, this.2⟩
    | some k =>
      rw [hs] at h
      rcases List.mem_cons.1 h with h | h
      · subst h
        exact ⟨by show i < i + (m + 1); omega, hs⟩
      · have := ih _ _ o h
        exact ⟨by omega, this.2⟩
def shS (k : Nat) (y : S84) : S84 := { y with f2 := y.f2 + k, f3 := y.f3 + k }
theorem cut_move (k : Nat) (text : ByteArray) {a b : Int} (h0 : 0 ≤ a) (h1 : a ≤ b) (h2 : b ≤ text.size) : cutB (nlB k ++ text) (a + k) (b + k) = cutB text a b := by
  unfold cutB
  have e1 : (a + (k : Int)).toNat = (nlB k).size + a.toNat := by rw [nlB_size]; omega
  have e2 : (b + (k : Int)).toNat = (nlB k).size + b.toNat := by rw [nlB_size]; omega
  rw [e1, e2]
  exact ByteArray.extract_append_size_add
theorem syms_move (k : Nat) {ms : List Mk} {t : List S50} {text : ByteArray} (hin : ∀ x ∈ t, 0 ≤ x.f3 ∧ x.f3 ≤ x.f4 ∧ x.f4 ≤ (text.size : Int)) {F : List S143} (hF : Fo t 0 F) : symsF ms (t.map (sh k)) (mapL (sh k) F) (nlB k ++ text) = (symsF ms t F text).map (shS k) := by
  unfold symsF
  rw [List.length_map, List.map_map]
  have e : enF (mapL (sh k) F) = enF F := by funext i; unfold enF; rw [enL_map]
  rw [e, runS_congr t.length 0 [] (fun j _ hj => symK_move k hF (by omega))]
  refine List.map_congr_left (fun o ho => ?_)
  obtain ⟨h1, h2⟩ := runS_mem _ _ _ _ ho
  have h3 := symK_in hF (by omega) h2
  unfold mkSym shS
  simp only [Function.comp]
  rw [rd_map _ (by omega) (by omega), rd_map _ h3.1 h3.2]
  have h4 := hin (rd_T50 t o.2.1) (by
    unfold rd_T50
    rw [List.getD_eq_getElem?_getD, List.getElem?_eq_getElem (show o.2.1.toNat < t.length by omega)]
    exact List.getElem_mem _)
  have e3 : cutB (nlB k ++ text) (sh k (rd_T50 t o.2.1)).f3 (sh k (rd_T50 t o.2.1)).f4 = cutB text (rd_T50 t o.2.1).f3 (rd_T50 t o.2.1).f4 := cut_move k text h4.1 h4.2.1 h4.2.2
  rw [e3]
  rfl
theorem right_move (k : Nat) {t : List S50} {text : ByteArray} (hin : ∀ x ∈ t, 0 ≤ x.f3 ∧ x.f3 ≤ x.f4 ∧ x.f4 ≤ (text.size : Int)) : rightF (t.map (sh k)) (nlB k ++ text) = rightF t text := by
  unfold rightF
  rw [gr_map (sh k) (fun _ => rfl)]
  have a1 : (t.map (sh k)).all (okN (nlB k ++ text)) = true := by
    rw [List.all_eq_true]
    intro y hy
    obtain ⟨x, hx, rfl⟩ := List.mem_map.1 hy
    have := hin x hx
    unfold okN
    rw [move_size]
    have e3 : (sh k x).f3 = x.f3 + k := rfl
    have e4 : (sh k x).f4 = x.f4 + k := rfl
    rw [e3, e4, decide_eq_false (by omega), decide_eq_false (by omega), decide_eq_false (by omega)]
    rfl
  have a2 : t.all (okN text) = true := by
    rw [List.all_eq_true]
    intro x hx
    have := hin x hx
    unfold okN
    rw [decide_eq_false (by omega), decide_eq_false (by omega), decide_eq_false (by omega)]
    rfl
  rw [a1, a2]
  cases gr t 0 <;> rfl
theorem symsA_move (k : Nat) {ms : List Mk} {t : List S50} {text : ByteArray} (hin : ∀ x ∈ t, 0 ≤ x.f3 ∧ x.f3 ≤ x.f4 ∧ x.f4 ≤ (text.size : Int)) : symsA ms (t.map (sh k)) (nlB k ++ text) = (symsA ms t text).map (shS k) := by
  unfold symsA
  rw [right_move k hin, gr_map (sh k) (fun _ => rfl)]
  cases h : gr t 0 with
  | none => rfl
  | some F =>
    simp only [Option.map_some]
    split
    · exact syms_move k hin (gr_fo h)
    · rfl

/-! ### folds -/
def shF (k : Nat) (y : S82) : S82 := ⟨y.f0 + k, y.f1 + k⟩
theorem rowsF_move (k : Nat) {text : ByteArray} {x : S50} (h : 0 ≤ x.f3 ∧ x.f3 ≤ x.f4 ∧ x.f4 ≤ (text.size : Int)) : rowsF (nlB k ++ text) (sh k x) = shF k (rowsF text x) := by
  have mv : ∀ a : Int, 0 ≤ a → a ≤ text.size → (PT.rowN (nlB k ++ text) (PT.clampN (nlB k ++ text) (a + k)) : Int) = (PT.rowN text (PT.clampN text a) : Int) + k := fun a h0 h1 => by
    rw [clampN_in h0 h1, clampN_in (text := nlB k ++ text) (by omega) (by rw [move_size]; omega), show (a + (k : Int)).toNat = k + a.toNat by omega, rowN_move]
    omega
  unfold rowsF shF
  have e3 : (sh k x).f3 = x.f3 + k := rfl
  have e4 : (sh k x).f4 = x.f4 + k := rfl
  rw [e3, e4, mv _ h.1 (by omega)]
  by_cases he : x.f4 = x.f3
  · rw [if_pos (by omega), if_pos he, mv _ h.1 (by omega)]
  · rw [if_neg (by omega), if_neg he, show x.f4 + (k : Int) - 1 = x.f4 - 1 + k by omega, mv _ (by omega) (by omega)]
theorem allF_move (k : Nat) {fs : List ByteArray} {t : List S50} {text : ByteArray} (hin : ∀ x ∈ t, 0 ≤ x.f3 ∧ x.f3 ≤ x.f4 ∧ x.f4 ≤ (text.size : Int)) : allF fs (nlB k ++ text) (t.map (sh k)) = (allF fs text t).map (shF k) := by
  unfold allF
  induction t with
  | nil => rfl
  | cons x r ih =>
    have hx := hin x (List.mem_cons_self ..)
    have e : oneF fs (nlB k ++ text) (sh k x) = (oneF fs text x).map (shF k) := by
      unfold oneF
      rw [rowsF_move k hx]
      have ek : keepF fs (sh k x) = keepF fs x := rfl
      have el : decide ((shF k (rowsF text x)).f0 < (shF k (rowsF text x)).f1) = decide ((rowsF text x).f0 < (rowsF text x).f1) := by
        unfold shF
        simp only
        rw [Bool.eq_iff_iff, decide_eq_true_eq, decide_eq_true_eq]
        omega
      rw [ek, el]
      split <;> rfl
    rw [List.map_cons, List.filterMap_cons, List.filterMap_cons, e, ih (fun y hy => hin y (List.mem_cons_of_mem _ hy))]
    cases oneF fs text x <;> rfl
/-- The document's folds are of each first row the furthest. -/
theorem mem_foldsF {fs : List ByteArray} {text : ByteArray} {t : List S50} {x : S82} : x ∈ foldsF fs text t ↔ x ∈ allF fs text t ∧ ∀ y ∈ allF fs text t, y.f0 = x.f0 → y.f1 ≤ x.f1 := by
  have hf : Far fs text t (farL fs text (PT.rowN text text.size + 1) t) := far_of
  obtain ⟨far, hfar⟩ : ∃ far, farL fs text (PT.rowN text text.size + 1) t = far := ⟨_, rfl⟩
  unfold foldsF
  rw [hfar] at hf ⊢
  rw [mem_outR]
  constructor
  · rintro ⟨r, hr, hlt, rfl⟩
    rcases hf.from_ r with h4 | ⟨z, hz, hk, h4⟩
    · omega
    · refine ⟨mem_allF.2 ⟨z, hz, hk, h4, hlt⟩, fun y hy he => ?_⟩
      obtain ⟨z2, hz2, hk2, h5, _⟩ := mem_allF.1 hy
      have h6 := hf.top z2 hz2 hk2
      rw [h5, he] at h6
      exact h6
  · rintro ⟨h1, h2⟩
    obtain ⟨z, hz, hk, hzx, hlt⟩ := mem_allF.1 h1
    obtain ⟨a, b, hab, ha, hb⟩ := rowsF_nat text z
    have h3 := hf.top z hz hk
    rw [hzx] at hab h3
    subst hab
    simp only at h3 hlt h2
    rcases hf.from_ a with h4 | ⟨z2, hz2, hk2, h4⟩
    · omega
    · have h6 := h2 _ (mem_allF.2 ⟨z2, hz2, hk2, h4, by show (a : Int) < rd far (a : Int); omega⟩) rfl
      simp only at h6
      refine ⟨a, by omega, by omega, ?_⟩
      congr 1
      omega
theorem foldsF_move (k : Nat) {fs : List ByteArray} {t : List S50} {text : ByteArray} (hin : ∀ x ∈ t, 0 ≤ x.f3 ∧ x.f3 ≤ x.f4 ∧ x.f4 ≤ (text.size : Int)) : foldsF fs (nlB k ++ text) (t.map (sh k)) = (foldsF fs text t).map (shF k) := by
  refine inc_eq _ _ (outR_inc _ _) ?_ (fun x => ?_)
  · rw [List.pairwise_map]
    exact (outR_inc _ _).imp (fun h => by unfold shF; simp only; omega)
  · rw [mem_foldsF, allF_move k hin]
    constructor
    · rintro ⟨h1, h2⟩
      obtain ⟨y, hy, rfl⟩ := List.mem_map.1 h1
      refine List.mem_map.2 ⟨y, mem_foldsF.2 ⟨hy, fun z hz he => ?_⟩, rfl⟩
      have h3 := h2 (shF k z) (List.mem_map_of_mem hz) (by unfold shF; simp only; omega)
      unfold shF at h3
      simp only at h3
      omega
    · intro h
      obtain ⟨y, hy, rfl⟩ := List.mem_map.1 h
      obtain ⟨h1, h2⟩ := mem_foldsF.1 hy
      refine ⟨List.mem_map_of_mem h1, fun z hz he => ?_⟩
      obtain ⟨u, hu, rfl⟩ := List.mem_map.1 hz
      unfold shF at he ⊢
      simp only at he ⊢
      have := h2 u hu (by omega)
      omega
theorem foldsA_move (k : Nat) {fs : List ByteArray} {t : List S50} {text : ByteArray} (hin : ∀ x ∈ t, 0 ≤ x.f3 ∧ x.f3 ≤ x.f4 ∧ x.f4 ≤ (text.size : Int)) : foldsA fs (t.map (sh k)) (nlB k ++ text) = (foldsA fs t text).map (shF k) := by
  unfold foldsA
  rw [right_move k hin]
  split
  · exact foldsF_move k hin
  · rfl
end Go.Proofs.Ytknagjiipelfnaa.MV
namespace Go.Proofs.Ytknagjiipelfnaa.AW
open Go.RowKit Go.WideShapes Go.ChangeShapes Go.Proofs.YtknagjiipelfnaaW.PrintWords Go.Proofs.YtknagjiipelfnaaW.PrintLast Go.Proofs.YtknagjiipelfnaaW.PrintMore Go.Proofs.Ytknagjiipelfnaa.PAll
open Go.Proofs.Ytknagjiipelfnaa.OL Go.Proofs.Ytknagjiipelfnaa.SO
set_option linter.unusedVariables false

def dB : ByteArray := ⟨#[100]⟩
def fB : ByteArray := ⟨#[102]⟩
def xB : ByteArray := ⟨#[120]⟩
def tB : ByteArray := ⟨#[97, 10, 98]⟩
def n0 : S50 := ⟨dB, true, ⟨#[]⟩, 0, 3, 1, -1⟩
def n1 : S50 := ⟨xB, false, fB, 0, 1, 0, 0⟩
theorem awF : foldsA [dB] [n0, n1] tB = [⟨0, 1⟩] := by kernel_rfl
theorem awS : symsA [(dB, fB)] [n0, n1] tB = [⟨dB, ⟨#[97]⟩, 0, 3, 0⟩] := by kernel_rfl
theorem litS {w : World} {g : Nat} {a : ByteArray} (h : w.heap[g]? = some (.cells #[.string a] 9 (0, 0))) : Kd.string.C w (some ⟨g, 0, none⟩) 1 [a] := by
  refine ⟨rfl, by decide, fun _ => ⟨⟨g, 0, none⟩, rfl, fun j y hj => ?_⟩⟩
  cases j with
  | succ j => simp at hj
  | zero =>
    simp only [List.getElem?_cons_zero] at hj
    injection hj with hj
    subst hj
    refine ⟨[.string a], rfl, rfl, fun i u hi => ?_⟩
    match i, hi with
    | 0, hi => rw [← hi]; exact (blk_cell h 0).trans rfl
    | n + 1, hi => simp at hi
theorem litM {w : World} {g : Nat} {a b : ByteArray} (h : w.heap[g]? = some (.cells #[.string a, .string b] 129 (0, 0))) : k129.C w (some ⟨g, 0, none⟩) 1 [(a, b)] := by
  refine ⟨rfl, by decide, fun _ => ⟨⟨g, 0, none⟩, rfl, fun j y hj => ?_⟩⟩
  cases j with
  | succ j => simp at hj
  | zero =>
    simp only [List.getElem?_cons_zero] at hj
    injection hj with hj
    subst hj
    refine ⟨[.string a, .string b], rfl, ⟨[.string a], [.string b], rfl, rfl, rfl⟩, fun i u hi => ?_⟩
    match i, hi with
    | 0, hi => rw [← hi]; exact (blk_cell h 0).trans rfl
    | 1, hi => rw [← hi]; exact (blk_cell h 1).trans rfl
    | n + 2, hi => simp at hi
theorem litN2 {w : World} {g : Nat} (h : w.heap[g]? = some (.cells #[.string dB, .bool true, .string ⟨#[]⟩, .int .i64 0, .int .i64 3, .int .i64 1, .int .i64 (-1), .string xB, .bool false, .string fB, .int .i64 0, .int .i64 1, .int .i64 0, .int .i64 0] 50 (0, 0))) : k50.C w (some ⟨g, 0, none⟩) 2 [n0, n1] := by
  refine ⟨rfl, by decide, fun _ => ⟨⟨g, 0, none⟩, rfl, fun j y hj => ?_⟩⟩
  match j, hj with
  | 0, hj =>
    injection hj with hj
    subst hj
    refine ⟨[.string n0.f0, .bool n0.f1, .string n0.f2, .int .i64 n0.f3, .int .i64 n0.f4, .int .i64 n0.f5, .int .i64 n0.f6], rfl, k50_mk _ _, fun i u hi => ?_⟩
    match i, hi with
    | 0, hi => rw [← hi]; exact (blk_cell h 0).trans rfl
    | 1, hi => rw [← hi]; exact (blk_cell h 1).trans rfl
    | 2, hi => rw [← hi]; exact (blk_cell h 2).trans rfl
    | 3, hi => rw [← hi]; exact (blk_cell h 3).trans rfl
    | 4, hi => rw [← hi]; exact (blk_cell h 4).trans rfl
    | 5, hi => rw [← hi]; exact (blk_cell h 5).trans rfl
    | 6, hi => rw [← hi]; exact (blk_cell h 6).trans rfl
    | n + 7, hi => simp at hi
  | 1, hj =>
    injection hj with hj
    subst hj
    refine ⟨[.string n1.f0, .bool n1.f1, .string n1.f2, .int .i64 n1.f3, .int .i64 n1.f4, .int .i64 n1.f5, .int .i64 n1.f6], rfl, k50_mk _ _, fun i u hi => ?_⟩
    match i, hi with
    | 0, hi => rw [← hi]; exact (blk_cell h 7).trans rfl
    | 1, hi => rw [← hi]; exact (blk_cell h 8).trans rfl
    | 2, hi => rw [← hi]; exact (blk_cell h 9).trans rfl
    | 3, hi => rw [← hi]; exact (blk_cell h 10).trans rfl
    | 4, hi => rw [← hi]; exact (blk_cell h 11).trans rfl
    | 5, hi => rw [← hi]; exact (blk_cell h 12).trans rfl
    | 6, hi => rw [← hi]; exact (blk_cell h 13).trans rfl
    | n + 7, hi => simp at hi
  | j + 2, hj => simp at hj
/-- A language that is stored into memory of its own. -/
theorem stored_new (w3 : World) (F M : Option Addr) (n c m d : Nat) : ∃ W9, (∀ o a K Q, Stored o (.pointer (some ⟨w3.heap.size, 0, none⟩)) (.agg (langC (.slice F n c) (.slice M m d))) a (w3.alloc (.cells #[.string ⟨#[]⟩, .slice none 0 0, .slice none 0 0, .slice none 0 0, .slice none 0 0, .slice none 0 0, .slice none 0 0, .slice none 0 0, .slice none 0 0, .slice none 0 0, .slice none 0 0, .slice none 0 0] 45)) K Q = K (a.put o.dst undef) W9) ∧
    W9.heap[w3.heap.size]? = some (.cells (langC (.slice F n c) (.slice M m d)) 45 (0, 0)) ∧ Below w3.heap.size w3 W9 := by
  have h : (w3.alloc (.cells #[.string ⟨#[]⟩, .slice none 0 0, .slice none 0 0, .slice none 0 0, .slice none 0 0, .slice none 0 0, .slice none 0 0, .slice none 0 0, .slice none 0 0, .slice none 0 0, .slice none 0 0, .slice none 0 0] 45)).heap[w3.heap.size]? = some (.cells (langC (.slice none 0 0) (.slice none 0 0)) 45 (0, 0)) := heap_alloc_new w3 _
  obtain ⟨W9, hW9, _, hst⟩ := stored_ex h F M n c m d
  refine ⟨W9, hst, ?_, ?_⟩
  · rw [← hW9]
    exact set12 h _ _
  · rw [← hW9]
    exact below_sets12 (below_alloc (Below.refl _ _) _) (Nat.le_refl _) _ _ _ _ _ _ _ _ _ _ _ _
attribute [local go_sem ↓] stored_at
attribute [local go_sem high] eqA82 eqA84
set_option maxRecDepth 100000 in
set_option maxHeartbeats 8000000 in
theorem awake_calls (w : World) : Calls Try.prog 29 #[] w fun e w' => e = .returned (.bool true) ∧ Below w.heap.size w w' := by
  obtain ⟨oA, hoA⟩ : ∃ o : Obj, o = .cells #[.string ⟨#[100]⟩] 9 (0, 0) := ⟨_, rfl⟩
  obtain ⟨oB, hoB⟩ : ∃ o : Obj, o = .cells #[.string ⟨#[100]⟩, .string ⟨#[102]⟩] 129 (0, 0) := ⟨_, rfl⟩
  have hb2 : Below w.heap.size w ((w.alloc oA).alloc oB) := below_alloc (below_alloc (Below.refl _ _) _) _
  have kA : Kd.string.C ((w.alloc oA).alloc oB) (some ⟨w.heap.size, 0, none⟩) 1 [dB] := litS ((al0 w oA oB).trans (congrArg some hoA))
  have kB : k129.C ((w.alloc oA).alloc oB) (some ⟨w.heap.size + 1, 0, none⟩) 1 [(dB, fB)] := litM ((al1 w oA oB).trans (congrArg some hoB))
  have HB := Aside0.mk hb2
  have KA := Aside0.mk kA
  have KB := Aside0.mk kB
  clear kA kB hb2
  go_enter Try.func29, Try.ntmps29
  go_wp2_with fail
  rw [← hoA, ← hoB]
  clear hoA hoB
  obtain ⟨gA, hgA⟩ : ∃ g, w.heap.size = g := ⟨_, rfl⟩
  generalize (w.alloc oA).alloc oB = w2 at HB KA KB ⊢
  rw [hgA] at KA KB ⊢
  clear hgA
  refine (lang_calls (some ⟨gA, 0, none⟩) (some ⟨gA + 1, 0, none⟩) 1 1 [dB] [(dB, fB)] w2 KA.out (Nat.le_refl _) (by decide) KB.out (Nat.le_refl _) (by decide)).mono ?_
  rintro e w3 ⟨F1, M1, cf1, cm1, rfl, hm, hmc, hf, hfc, hB⟩
  obtain ⟨W9, hst, hk9, hb9⟩ := stored_new w3 F1 M1 1 cf1 1 cm1
  have HB9 := Aside0.mk (below_then (below_then HB.out HB.out.size hB) (below_then HB.out HB.out.size hB).size hb9)
  have HM9 := Aside0.mk (And.intro (Kd.C_below hm hb9) hmc)
  have HF9 := Aside0.mk (And.intro (Kd.C_below hf hb9) hfc)
  have KL9 := Aside0.mk hk9
  clear hm hmc hf hfc hB hk9 hb9 HB KA KB
  go_upto_region 2 with fail
  obtain ⟨gL, hgL⟩ : ∃ g, w3.heap.size = g := ⟨_, rfl⟩
  rw [hgL] at KL9 ⊢
  clear hst hgL
  obtain ⟨oN, hoN⟩ : ∃ o : Obj, o = .cells #[.string ⟨#[100]⟩, .bool true, .string ⟨#[]⟩, .int .i64 0, .int .i64 3, .int .i64 1, .int .i64 (-1), .string ⟨#[120]⟩, .bool false, .string ⟨#[102]⟩, .int .i64 0, .int .i64 1, .int .i64 0, .int .i64 0] 50 (0, 0) := ⟨_, rfl⟩
  have hb10 : Below W9.heap.size W9 (W9.alloc oN) := below_alloc (Below.refl _ _) _
  have kN : k50.C (W9.alloc oN) (some ⟨W9.heap.size, 0, none⟩) 2 [n0, n1] := litN2 ((heap_alloc_new W9 oN).trans (congrArg some hoN))
  have KN := Aside0.mk kN
  have HB10 := Aside0.mk (below_then HB9.out HB9.out.size hb10)
  have HM10 := Aside0.mk (And.intro (Kd.C_below HM9.out.1 hb10) HM9.out.2)
  have HF10 := Aside0.mk (And.intro (Kd.C_below HF9.out.1 hb10) HF9.out.2)
  have KL10 := Aside0.mk ((hb10.block _ (blk_lt KL9.out)).trans KL9.out)
  clear kN hb10 HB9 HM9 HF9 KL9
  go_upto_region 3 with fail
  rw [← hoN]
  clear hoN
  obtain ⟨gN, hgN⟩ : ∃ g, W9.heap.size = g := ⟨_, rfl⟩
  generalize W9.alloc oN = w4 at KN HB10 HM10 HF10 KL10 ⊢
  rw [hgN] at KN ⊢
  clear hgN
  obtain ⟨l0, l1, l2, l3, l4, l5, l6, l7, l8, l9, l10, l11⟩ := lang_cells KL10.out
  go_wp2_with fail
  refine (OFolds_calls F1 (some ⟨gN, 0, none⟩) cf1 2 (.slice M1 1 cm1) [dB] [n0, n1] tB w4 KN.out (Nat.le_refl _) (by decide) (by decide) HF10.out.1 HF10.out.2 (by decide) (by decide)).mono ?_
  rintro e w5 ⟨v, rfl, hR, hB⟩
  obtain ⟨A5, c5, rfl⟩ := Kd.R_slice hR
  rw [awF] at hR
  have hr5 := Kd.R_reads' hR
  have HR5 := Aside0.mk hr5.2.2
  have HRR := Aside0.mk hR
  have HB11 := Aside0.mk (below_then HB10.out HB10.out.size hB)
  have KN11 := Aside0.mk (Kd.C_below KN.out hB)
  have HM11 := Aside0.mk (And.intro (Kd.C_below HM10.out.1 hB) HM10.out.2)
  have KL11 := Aside0.mk ((hB.block _ (blk_lt KL10.out)).trans KL10.out)
  have hlen : (foldsA [dB] [n0, n1] tB).length = 1 := by rw [awF]; rfl
  rw [hlen]
  clear hR hB hr5 hlen l0 l1 l2 l3 l4 l5 l6 l7 l8 l9 l10 l11 KN HB10 HM10 HF10 KL10
  obtain ⟨l0, l1, l2, l3, l4, l5, l6, l7, l8, l9, l10, l11⟩ := lang_cells KL11.out
  go_wp2_with fail
  refine (OSymbolsA_calls (.slice F1 1 cf1) (some ⟨gN, 0, none⟩) M1 2 cm1 [n0, n1] [(dB, fB)] tB w5 KN11.out (Nat.le_refl _) (by decide) (by decide) HM11.out.1 HM11.out.2 (by decide)).mono ?_
  rintro e w6 ⟨v, rfl, hR, hB⟩
  obtain ⟨A6, c6, rfl⟩ := Kd.R_slice hR
  have hlen : (symsA [(dB, fB)] [n0, n1] tB).length = 1 := by rw [awS]; rfl
  rw [hlen]
  rw [awS] at hR
  have hr6 := (Kd.R_reads' hR).2.2
  have HB12 := Aside0.mk (below_then HB11.out HB11.out.size hB)
  have hr5 := HR5.out
  obtain ⟨g5, c50, he5, -⟩ := Kd.R_form HRR.out (by decide)
  injection he5 with he5
  obtain ⟨g6, c60, he6, -⟩ := Kd.R_form hR (by decide)
  injection he6 with he6
  subst he5 he6
  obtain ⟨ad, hA5, y0, y1⟩ := at_T82 (Kd.C_below hr5 hB) 0 (by decide) (by decide)
  obtain ⟨ad2, hA6, z0, z1, z2, z3, z4⟩ := at_T84 hr6 0 (by decide) (by decide)
  injection hA5 with hA5
  injection hA6 with hA6
  subst hA5 hA6
  change w6.cell? ⟨g5, 0, none⟩ = some (.int .i64 0) at y0
  change w6.cell? ⟨g5, 1, none⟩ = some (.int .i64 1) at y1
  change w6.cell? ⟨g6, 0, none⟩ = some (.string ⟨#[100]⟩) at z0
  change w6.cell? ⟨g6, 1, none⟩ = some (.string ⟨#[97]⟩) at z1
  change w6.cell? ⟨g6, 2, none⟩ = some (.int .i64 0) at z2
  change w6.cell? ⟨g6, 3, none⟩ = some (.int .i64 3) at z3
  change w6.cell? ⟨g6, 4, none⟩ = some (.int .i64 0) at z4
  clear hr5 hr6 hR hB l0 l1 l2 l3 l4 l5 l6 l7 l8 l9 l10 l11 hlen
  go_wp2_with fail
  go_ret
  exact ⟨rfl, HB12.out⟩
end Go.Proofs.Ytknagjiipelfnaa.AW
