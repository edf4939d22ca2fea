/- The first that stands at a place with that state and valid set: by the map's row, by the model's loop. -/
import Derived.Test.YtknagjiipelfnaaTwin
namespace Go.Proofs.Ytknagjiipelfnaa.RU
open Go.RowKit Go.WideShapes Go.ChangeShapes Go.Proofs.YtknagjiipelfnaaW.PrintWords Go.Proofs.YtknagjiipelfnaaW.PrintLast Go.Proofs.YtknagjiipelfnaaW.PrintMore Go.Proofs.Ytknagjiipelfnaa.PAll
set_option linter.unusedVariables false

theorem findO_find (bef : ByteArray) (val : Int) (xs : List St) : ∀ (r k : Nat), k + r ≤ xs.length → findO bef val xs r k = (((xs.drop k).take r).find? (hitO bef val)).map (·.2) := by
  intro r
  induction r with
  | zero => intro k _; rw [List.take_zero]; rfl
  | succ r ih =>
    intro k hk
    have h : k < xs.length := by omega
    have e : rdSt xs k = xs[k] := by
      unfold rdSt
      rw [List.getD_eq_getElem?_getD, List.getElem?_eq_getElem h]
      rfl
    rw [findO, List.drop_eq_getElem_cons h, List.take_succ_cons, List.find?_cons, e, ih (k + 1) (by omega)]
    cases hitO bef val xs[k] <;> rfl
theorem findM_find (h : Nat → Bool) (ls : List S68) : ∀ (r k : Nat), findM h ls r k = ((List.range' k r).find? h).map (fun j : Nat => rd_T68 ls (j : Int)) := by
  intro r
  induction r with
  | zero => intro k; rfl
  | succ r ih =>
    intro k
    rw [findM, List.range'_succ, List.find?_cons, ih (k + 1)]
    cases h k <;> rfl
theorem find_go (ls : List S68) (a d s p val : Int) (bef : ByteArray) : ∀ k : Nat, ((gAt ls a d s k p).find? (hitO bef val)).map (·.2) = ((List.range k).find? (hitB ls a d s p bef val)).map (fun j : Nat => rd_T68 ls (j : Int)) := by
  intro k
  induction k with
  | zero => rfl
  | succ k ih =>
    rw [gAt, List.range_succ, List.find?_append, List.find?_append, Option.map_or, Option.map_or, ih]
    congr 1
    rw [List.find?_singleton]
    unfold hitB
    cases thereB ls a d s p k with
    | false => simp
    | true =>
      rw [if_pos rfl, List.find?_singleton]
      unfold hitO
      rw [Bool.true_and]
      cases (eqS (aheadS ls k) bef && eqI (rd_T68 ls (k : Int)).f4 val) <;> rfl
theorem find_eq (ls : List S68) (a d s p val : Int) (bef : ByteArray) : findO bef val (gAt ls a d s ls.length p) (gAt ls a d s ls.length p).length 0 = findM (hitB ls a d s p bef val) ls ls.length 0 := by
  rw [findO_find _ _ _ _ _ (by omega), findM_find, List.drop_zero, List.take_length, find_go, List.range_eq_range']
end Go.Proofs.Ytknagjiipelfnaa.RU
