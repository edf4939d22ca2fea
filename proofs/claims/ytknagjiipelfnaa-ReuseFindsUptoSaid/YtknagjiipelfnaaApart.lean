/- What a row of leaves that is written leaves as it was: the old result's places, the model. Questions. -/
import Derived.Test.YtknagjiipelfnaaMarks
import Derived.Test.YtknagjiipelfnaaFindEq
import Derived.Test.YtknagjiipelfnaaWAt
namespace Go.Proofs.Ytknagjiipelfnaa.RU
open Go.RowKit Go.WideShapes Go.ChangeShapes Go.Proofs.YtknagjiipelfnaaW.PrintWords Go.Proofs.YtknagjiipelfnaaW.PrintLast Go.Proofs.YtknagjiipelfnaaW.PrintMore Go.Proofs.Ytknagjiipelfnaa.PAll
set_option linter.unusedVariables false

theorem keep_of_grown {w w1 : World} {g : Nat} (hg : w.grownBy w1 (some g)) : KeepBut w w1 g none := ⟨hg.size, fun i hi hne _ => hg.block i hi (fun e => hne (by injection e))⟩
theorem cells_ne {w : World} {g g2 t t2 : Nat} {c c2 : Array Value} (h : w.heap[g]? = some (.cells c t (0, 0))) (h2 : w.heap[g2]? = some (.cells c2 t2 (0, 0))) (ht : t ≠ t2) : g ≠ g2 := by
  rintro rfl
  rw [h] at h2
  injection h2 with h2
  injection h2 with _ h3
  exact ht h3
theorem OldS.put {w w1 : World} {g gm ga : Nat} {vs : Int → Value} {G : Int → List St} {cnt : Int} {cur : Array Value} (h : OldS w g gm vs G cnt) (hb : w.heap[ga]? = some (.cells cur 68 (0, 0))) (hg : w.grownBy w1 (some ga)) : OldS w1 g gm vs G cnt := by
  obtain ⟨n, base, hm⟩ := h.m
  refine ⟨blk_map h.k hg (cells_ne h.k hb (by decide)), n, base, hm.grown hg ?_ (fun p => .inr (fun e => Kd.R_ne (hm.r p) hb (by decide) e.symm))⟩
  intro e
  injection e with e
  subst e
  obtain ⟨D, ⟨es, clock, he, _⟩, _⟩ := hm.m
  rw [he] at hb
  injection hb with hb
  cases hb
theorem Mdl.put {w w1 : World} {g ga c : Nat} {A : Option Addr} {ls : List S68} {a d s : Int} {cur : Array Value} (h : Mdl w g A c ls a d s) (hA : ∀ ad, A = some ad → ad.block ≠ ga) (hb : w.heap[ga]? = some (.cells cur 68 (0, 0))) (hg : w.grownBy w1 (some ga)) : Mdl w1 g A c ls a d s :=
  ⟨blk_map h.k hg (cells_ne h.k hb (by decide)), h.c, Kd.C_foot_ne (fun hk => hk) h.r (fun ad he _ => hA ad he) _ (keep_of_grown hg)⟩
theorem Row.blk {w : World} {b n c g : Nat} {xs : List S68} (h : Row w b (.slice (some ⟨g, 0, none⟩) n c) xs) : ∃ cur, w.heap[g]? = some (.cells cur 68 (0, 0)) := by
  obtain ⟨_, inner, ho, _⟩ := h
  exact own_typed ho g rfl
/-- a question: a place, a state, a valid set -/
abbrev Ask := Int × ByteArray × Int
def k73 : Kd Ask := Kd.pair (Kd.int .i64) (Kd.pair Kd.string (Kd.int .u64))
def zAsk : Ask := (0, ⟨#[]⟩, 0)
def rdA (xs : List Ask) (k : Nat) : Ask := xs.getD k zAsk
theorem k73_open {w : World} {x : Ask} {cs : List Value} (h : k73.K w x cs) : cs = [.int .i64 x.1, .string x.2.1, .int .u64 x.2.2] := by
  obtain ⟨c0, c1, rfl, h0, c2, c3, rfl, h1, h2⟩ := h
  have e0 : c0 = [.int .i64 x.1] := h0
  have e1 : c2 = [.string x.2.1] := h1
  have e2 : c3 = [.int .u64 x.2.2] := h2
  rw [e0, e1, e2]
  rfl
theorem at_Ask {w : World} {A : Option Addr} {n : Nat} {xs : List Ask} (h : Kd.C k73 w A n xs) (i : Int) (h0 : 0 ≤ i) (h1 : i < n) : ∃ ad, A = some ad ∧ w.cell? (ad.add (i.toNat * 3)) = some (.int .i64 (rdA xs i.toNat).1) ∧ w.cell? ⟨(ad.add (i.toNat * 3)).block, (ad.add (i.toNat * 3)).off + 1, none⟩ = some (.string (rdA xs i.toNat).2.1) ∧ w.cell? ⟨(ad.add (i.toNat * 3)).block, (ad.add (i.toNat * 3)).off + 2, none⟩ = some (.int .u64 (rdA xs i.toNat).2.2) := by
  obtain ⟨ad, c, e, _, hK, hc0⟩ := Kd.C_get h zAsk i h0 h1
  have hc : ∀ j u, c[j]? = some u → w.cell? (ad.add (i.toNat * 3 + j)) = some u := hc0
  obtain rfl := k73_open hK
  exact ⟨ad, e, hc 0 _ rfl, by rw [← add_field _ _ 1 (by omega)]; exact hc 1 _ rfl, by rw [← add_field _ _ 2 (by omega)]; exact hc 2 _ rfl⟩
theorem set_app {xs ys : List S68} {i : Nat} {x : S68} (h : i < xs.length) : (xs ++ ys).set i x = xs.set i x ++ ys := List.set_append_left i x h
theorem rd_app {xs ys : List S68} {i : Nat} (h : i < xs.length) : (xs ++ ys).getD i z68 = rd_T68 xs (i : Int) := by
  rw [rdL xs i h, List.getD_eq_getElem?_getD, List.getElem?_append_left h, List.getElem?_eq_getElem h]
  rfl
theorem rd_set {xs : List S68} {i k : Nat} {x : S68} (h : k ≠ i) : rd_T68 (xs.set i x) (k : Int) = rd_T68 xs (k : Int) := by
  unfold rd_T68
  rw [Int.toNat_natCast, List.getD_eq_getElem?_getD, List.getD_eq_getElem?_getD, List.getElem?_set_ne (fun e => h e.symm)]
/-- the leaves that were lent, and the marks behind them: where they lie -/
structure FS (w wr : World) (g6 g9 ga m c : Nat) (A4 : Option Addr) (c4 : Nat) (ea ed : Int) (es : ByteArray) (ys : List S68) : Prop where
  ke : wr.heap[g6]? = some (eC ea ed es)
  kg : wr.heap[g9]? = some (ltC (.slice (some ⟨ga, 0, none⟩) m c) A4 c4)
  r : Row wr w.heap.size (.slice (some ⟨ga, 0, none⟩) (m + 20) c) (ys ++ mks 20)
  b : Below w.heap.size w wr
  len : ys.length = m
section
variable {w wr w1 : World} {g6 g9 ga m c : Nat} {A4 : Option Addr} {c4 : Nat} {ea ed : Int} {es : ByteArray} {ys : List S68}
theorem FS.moved (h : FS w wr g6 g9 ga m c A4 c4 ea ed es ys) (hb : Below wr.heap.size wr w1) : FS w w1 g6 g9 ga m c A4 c4 ea ed es ys :=
  ⟨(hb.block _ (blk_lt h.ke)).trans h.ke, (hb.block _ (blk_lt h.kg)).trans h.kg, Kd.R_below h.r hb, below_then h.b h.b.size hb, h.len⟩
theorem FS.grown (h : FS w wr g6 g9 ga m c A4 c4 ea ed es ys) (i : Nat) (x : S68) (hi : i < m) : wr.grownBy (put6 wr ga i x) (some ga) := (h.r.put i (by omega) x).2
theorem FS.put (h : FS w wr g6 g9 ga m c A4 c4 ea ed es ys) (i : Nat) (x : S68) (hi : i < m) : FS w (put6 wr ga i x) g6 g9 ga m c A4 c4 ea ed es (ys.set i x) := by
  obtain ⟨h1, hg⟩ := h.r.put i (by omega) x
  obtain ⟨cur, hb⟩ := h.r.blk
  have hlo : w.heap.size ≤ ga := (h.r.lt rfl).1
  have e := set_app (xs := ys) (ys := mks 20) (x := x) (show i < ys.length by have := h.len; omega)
  refine ⟨blk_map h.ke hg (cells_ne h.ke hb (by decide)), blk_map h.kg hg (cells_ne h.kg hb (by decide)), by rw [← e]; exact h1, h.b.grown hg h.b.size (fun k hk => by injection hk with hk; omega), by rw [List.length_set]; exact h.len⟩
theorem FS.at_ (h : FS w wr g6 g9 ga m c A4 c4 ea ed es ys) (i : Nat) (hi : i < m) : (wr.cell? ⟨ga, i * 6, none⟩ = some (.int .i64 (rd_T68 ys (i : Int)).f0) ∧ wr.cell? ⟨ga, i * 6 + 1, none⟩ = some (.int .i64 (rd_T68 ys (i : Int)).f1) ∧ wr.cell? ⟨ga, i * 6 + 2, none⟩ = some (.int .i64 (rd_T68 ys (i : Int)).f2) ∧ wr.cell? ⟨ga, i * 6 + 3, none⟩ = some (.int .i64 (rd_T68 ys (i : Int)).f3) ∧ wr.cell? ⟨ga, i * 6 + 4, none⟩ = some (.int .u64 (rd_T68 ys (i : Int)).f4) ∧ wr.cell? ⟨ga, i * 6 + 5, none⟩ = some (.string (rd_T68 ys (i : Int)).f5)) ∧ ∀ k, wr.frozen? ⟨ga, k, none⟩ = false := by
  have h2 := h.r.cells i (by omega)
  rw [rd_app (xs := ys) (ys := mks 20) (show i < ys.length by have := h.len; omega)] at h2
  obtain ⟨cur, hb⟩ := h.r.blk
  exact ⟨h2, fun k => blk_frozen hb k⟩
theorem FS.lens (h : FS w wr g6 g9 ga m c A4 c4 ea ed es ys) : m + 20 ≤ c ∧ w.heap.size ≤ ga ∧ ga < wr.heap.size := ⟨(Kd.R_reads' h.r).2.1, (h.r.lt rfl).1, (h.r.lt rfl).2⟩
theorem FS.reads (h : FS w wr g6 g9 ga m c A4 c4 ea ed es ys) : Kd.C k68 wr (some ⟨ga, 0, none⟩) ys.length ys := C_prefix (Kd.R_reads' h.r).2.2
theorem FS.all (h : FS w wr g6 g9 ga m c A4 c4 ea ed es ys) : Kd.C k68 wr (some ⟨ga, 0, none⟩) (ys.length + 20) (ys ++ mks 20) := by
  have h2 := (Kd.R_reads' h.r).2.2
  rwa [List.length_append, mks_len] at h2
theorem FS.olds {g gm : Nat} {vs : Int → Value} {G : Int → List St} {cnt : Int} (h : FS w wr g6 g9 ga m c A4 c4 ea ed es ys) (hO : OldS wr g gm vs G cnt) (i : Nat) (x : S68) (hi : i < m) : OldS (put6 wr ga i x) g gm vs G cnt := by
  obtain ⟨cur, hb⟩ := h.r.blk
  exact hO.put hb (h.grown i x hi)
theorem FS.mdl {gM cM : Nat} {AM : Option Addr} {ls : List S68} {a d s : Int} (h : FS w wr g6 g9 ga m c A4 c4 ea ed es ys) (hM : Mdl wr gM AM cM ls a d s) (hA : ∀ ad, AM = some ad → ad.block ≠ ga) (i : Nat) (x : S68) (hi : i < m) : Mdl (put6 wr ga i x) gM AM cM ls a d s := by
  obtain ⟨cur, hb⟩ := h.r.blk
  exact hM.put hA hb (h.grown i x hi)
end
end Go.Proofs.Ytknagjiipelfnaa.RU
