/- MendOdds: what the printed functions answer. -/
import Derived.Test.YtgefbbdahhoglaaPart
namespace Go.Proofs.Ytgefbbdahhoglaa.Mend
open Go.RowKit Go.WideShapes Go.ChangeShapes Go.Proofs.YtgefbbdahhoglaaW.PrintWords Go.Proofs.YtgefbbdahhoglaaW.PrintLast Go.Proofs.YtgefbbdahhoglaaW.PrintMore Go.Proofs.Ytgefbbdahhoglaa.PMo Go.Proofs.Ytgefbbdahhoglaa.Keep Go.Proofs.Ytgefbbdahhoglaa.Part
set_option linter.unusedVariables false
theorem wrap_in (n : Int) (h : -9223372036854775808 ≤ n ∧ n ≤ 9223372036854775807) : wrap64 n = n := by unfold wrap64; omega
def odds (l : List S25) : List S42 := (l.filter (fun x => decide (x.f0 = 1))).map fun x => ⟨x.f1, x.f2⟩
theorem odds_len (l : List S25) : (odds l).length ≤ l.length := by
  unfold odds
  rw [List.length_map]
  exact List.length_filter_le _ _
theorem odds_cons_yes {x : S25} {l : List S25} (h : x.f0 = 1) : odds (x :: l) = ⟨x.f1, x.f2⟩ :: odds l := by simp [odds, h]
theorem odds_cons_no {x : S25} {l : List S25} (h : x.f0 ≠ 1) : odds (x :: l) = odds l := by simp [odds, h]
theorem rd_at (l : List S25) (i : Nat) (h : i < l.length) : rd_T25 l (i : Int) = l[i] := by
  unfold rd_T25
  rw [Int.toNat_natCast, List.getD_eq_getElem?_getD, List.getElem?_eq_getElem h]
  rfl
theorem rd42_at (l : List S42) (i : Nat) (h : i < l.length) : rd_T42 l (i : Int) = l[i] := by
  unfold rd_T42
  rw [Int.toNat_natCast, List.getD_eq_getElem?_getD, List.getElem?_eq_getElem h]
  rfl
theorem ref_loop (l : List S25) (hl : l.length ≤ 4398046510976) : ∀ (k i : Nat) (acc : List S42), i ≤ l.length → l.length - i < k → acc.length ≤ i → trellisref30_Odd.l0 k acc (i : Int) 0 0 0 [] [] 0 l = some (acc ++ odds (l.drop i)) := by
  intro k
  induction k with
  | zero => intro i acc hi hk _; omega
  | succ k ih =>
    intro i acc hi hk ha
    rw [trellisref30_Odd.l0]
    by_cases h : i < l.length
    · rw [if_pos (by omega), if_pos (by omega), rd_at l i h, wrap_in _ (by omega), List.drop_eq_getElem_cons h]
      have e : (i : Int) + 1 = ((i + 1 : Nat) : Int) := by omega
      rw [e]
      by_cases h1 : l[i].f0 = 1
      · rw [if_pos h1, if_pos (by omega), odds_cons_yes h1, ih (i + 1) _ (by omega) (by omega) (by rw [List.length_append, List.length_singleton]; omega), List.append_assoc]
        rfl
      · rw [if_neg h1, odds_cons_no h1, ih (i + 1) _ (by omega) (by omega) (by omega)]
    · obtain rfl : i = l.length := by omega
      rw [if_neg (by omega), List.drop_length]
      simp [odds]
theorem ref_odds (l : List S25) (hl : l.length ≤ 4398046510976) : trellisref30_Odd.f (l.length + 1) 0 0 0 [] [] 0 l = some (odds l) := by
  unfold trellisref30_Odd.f
  have h := ref_loop l hl (l.length + 1) 0 [] (by omega) (by omega) (by simp)
  simpa using h
theorem mend_loop (l : List S25) (hl : l.length ≤ 4398046510976) : ∀ (k i : Nat) (acc : List S42), i ≤ l.length → l.length - i < k → acc.length ≤ i → mend_Odd.l0 k acc l (l.length : Int) (i : Int) = some (acc ++ odds (l.drop i)) := by
  intro k
  induction k with
  | zero => intro i acc hi hk _; omega
  | succ k ih =>
    intro i acc hi hk ha
    rw [mend_Odd.l0]
    by_cases h : i < l.length
    · rw [if_pos (by omega), if_pos (by omega), if_pos (by omega), rd_at l i h, wrap_in _ (by omega), List.drop_eq_getElem_cons h]
      have e : (i : Int) + 1 = ((i + 1 : Nat) : Int) := by omega
      rw [e]
      by_cases h1 : l[i].f0 = 1
      · rw [if_pos h1, if_pos (by omega), odds_cons_yes h1, ih (i + 1) _ (by omega) (by omega) (by rw [List.length_append, List.length_singleton]; omega), List.append_assoc]
        rfl
      · rw [if_neg h1, odds_cons_no h1, ih (i + 1) _ (by omega) (by omega) (by omega)]
    · obtain rfl : i = l.length := by omega
      rw [if_neg (by omega), List.drop_length]
      simp [odds]
theorem mend_odds (l : List S25) (hl : l.length ≤ 4398046510976) : mend_Odd.f (l.length + 1) 0 0 0 [] [] 0 l = some (odds l) := by
  unfold mend_Odd.f
  have h := mend_loop l hl (l.length + 1) 0 [] (by omega) (by omega) (by simp)
  simpa using h
theorem same_loop (l : List S42) (hl : l.length ≤ 4398046510976) : ∀ (k i : Nat), i ≤ l.length → l.length - i < k → trellislaw30_sameRanges.l0 k l l (i : Int) = some true := by
  intro k
  induction k with
  | zero => intro i hi hk; omega
  | succ k ih =>
    intro i hi hk
    rw [trellislaw30_sameRanges.l0]
    by_cases h : i < l.length
    · rw [if_pos (by omega), if_pos (by omega), if_pos (by omega), if_neg (by simp), wrap_in _ (by omega)]
      have e : (i : Int) + 1 = ((i + 1 : Nat) : Int) := by omega
      rw [e]
      exact ih (i + 1) (by omega) (by omega)
    · rw [if_neg (by omega)]
theorem same_self (l : List S42) (hl : l.length ≤ 4398046510976) : trellislaw30_sameRanges.f (l.length + 1) l l = some true := by
  unfold trellislaw30_sameRanges.f
  rw [if_pos rfl]
  exact same_loop l hl _ 0 (by omega) (by omega)
/-- the slip that is turned -/
def tw (x : S25) : S25 := ⟨x.f0, x.f2, x.f2, x.f3⟩
def odd : S25 := ⟨-77, 0, 0, 0⟩
def turned (l : List S25) : List S25 := l.reverse.map tw
theorem turned_len (l : List S25) : (turned l).length = l.length := by simp [turned]
/-- the first i are turned -/
def fillS (i : Nat) (l : List S25) : List S25 := (turned l).take i ++ l.drop i
theorem fillS_len {i : Nat} {l : List S25} (h : i ≤ l.length) : (fillS i l).length = l.length := by
  unfold fillS
  rw [List.length_append, List.length_take, turned_len, List.length_drop]
  omega
theorem fillS_zero (l : List S25) : fillS 0 l = l := by simp [fillS]
theorem fillS_all (l : List S25) : fillS l.length l = turned l := by
  unfold fillS
  rw [List.drop_length, List.append_nil, List.take_of_length_le (by rw [turned_len]; exact Nat.le_refl _)]
theorem fillS_set {l : List S25} {i : Nat} (h : i < l.length) : (fillS i l).set i (tw (l[l.length - 1 - i]'(by omega))) = fillS (i + 1) l := by
  unfold fillS
  have ht : i < (turned l).length := by rw [turned_len]; exact h
  have hl : ((turned l).take i).length = i := by rw [List.length_take]; omega
  rw [List.set_append_right _ _ (by omega), hl, Nat.sub_self, List.drop_eq_getElem_cons h, List.set_cons_zero, List.take_succ_eq_append_getElem ht, List.append_assoc]
  congr 1
  simp [turned]
theorem set_two (xs ys : List S25) (i : Nat) (a b : S25) (h : i < xs.length) : (((xs ++ ys).set i a).set i b) = (xs.set i b) ++ ys := by
  rw [List.set_set, List.set_append_left _ _ h]
theorem take_snoc (l : List S25) {i : Nat} (h : i < l.length) : l.take i ++ [l[i]] = l.take (i + 1) := (List.take_succ_eq_append_getElem h).symm
theorem odd_snoc (l : List S25) (k : Nat) : (l ++ List.replicate k odd) ++ [odd] = l ++ List.replicate (k + 1) odd := by rw [List.append_assoc, ← List.replicate_succ']
theorem slip_cells {w : World} {A : Option Addr} {n : Nat} {l : List S25} (h : Kd.C k25 w A n l) (j : Nat) (hj : j < n) (hl : j < l.length) :
    ∃ ad, A = some ad ∧ w.cell? (ad.add (j * 4)) = some (.int .i64 l[j].f0) ∧ w.cell? ⟨(ad.add (j * 4)).block, (ad.add (j * 4)).off + 1, none⟩ = some (.int .i64 l[j].f1) ∧
      w.cell? ⟨(ad.add (j * 4)).block, (ad.add (j * 4)).off + 2, none⟩ = some (.int .i64 l[j].f2) ∧ w.cell? ⟨(ad.add (j * 4)).block, (ad.add (j * 4)).off + 3, none⟩ = some (.int .i64 l[j].f3) := by
  obtain ⟨ad, e, h0, h1, h2, h3⟩ := at_T25 h (j : Int) (by omega) (by omega)
  rw [rd_at l j hl, Int.toNat_natCast] at h0 h1 h2 h3
  exact ⟨ad, e, h0, h1, h2, h3⟩
end Go.Proofs.Ytgefbbdahhoglaa.Mend
