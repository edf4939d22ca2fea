/- StoreSums: the walk of the law. -/
import Derived.Test.YtjgccbpdpnpfjaaDoorStoreStart
namespace Go.Proofs.YtjgccbpdpnpfjaaDoor.ST
open Go.RowKit Go.WideShapes Go.ChangeShapes Go.Proofs.YtjgccbpdpnpfjaaDoorW.PrintWords Go.Proofs.YtjgccbpdpnpfjaaDoorW.PrintLast Go.Proofs.YtjgccbpdpnpfjaaDoorW.PrintMore Go.Proofs.YtjgccbpdpnpfjaaDoor.PAll
set_option linter.unusedVariables false

theorem sum_calls (s : ByteArray) (w : World) (hs : s.size ≤ 1073741824) : Calls Tryd.prog 17 #[.string s] w fun e w' => e = .returned (.int .u64 ((sumS s : Nat) : Int)) ∧ Below w.heap.size w w' :=
  (store_Sum.calls (s.size + 1) s _ w (Sum_f s (by omega))).mono fun e w' ⟨h1, h2⟩ => ⟨h1, h2.below⟩
set_option maxRecDepth 100000 in
set_option maxHeartbeats 4000000 in
theorem StoreSums_calls (a b m : ByteArray) (p y : Int) (w : World) (hg : w.cell? ⟨0, 0, none⟩ = some GV) (ha : a.size ≤ 1048576) (hb : b.size ≤ 1048576) (hm : m.size ≤ 1048576) (hy0 : 0 ≤ y) (hy1 : y < 256) :
    Calls Tryd.prog 7 #[.string a, .string b, .string m, .int .i64 p, .int .u8 y] w fun e w' => e = .returned (.bool true) ∧ Below w.heap.size w w' := by
  have HA := Aside0.mk ha
  have HBb := Aside0.mk hb
  have HM := Aside0.mk hm
  have HY := Aside0.mk (And.intro hy0 hy1)
  have HG := Aside0.mk hg
  clear ha hb hm hy0 hy1 hg
  go_enter Tryd.func7, Tryd.ntmps7
  go_wp2_with fail
  refine (started_calls w HG.out).mono ?_
  rintro e w1 ⟨rfl, hB⟩
  have HB1 := Aside0.mk hB
  clear hB
  go_wp2_with fail
  refine (turned_calls a p y w1 (by have := HA.out; omega)).mono ?_
  rintro e w2 ⟨rfl, hB⟩
  have HB2 := Aside0.mk (below_then HB1.out HB1.out.size hB)
  clear hB HB1
  have tail : ∀ (w3 : World), Below w.heap.size w w3 → True := fun _ _ => trivial
  obtain ⟨c, hc⟩ : ∃ c, turnS a p y = c := ⟨_, rfl⟩
  obtain ⟨ok, hok⟩ : ∃ ok, turnOk a p y = ok := ⟨_, rfl⟩
  have hsz : c.size ≤ a.size + 1 := by
    rw [← hc]
    unfold turnS
    split
    · rename_i hh
      unfold turnOk at hh
      have := of_decide_eq_true hh
      unfold turnI
      rw [ByteArray.size_append, ByteArray.size_append, strOfNums_size, ByteArray.size_extract, ByteArray.size_extract]
      simp
      omega
    · omega
  have hne : ok = true → sumS c ≠ sumS a := by
    intro hh
    rw [← hc]
    exact (turn_chg (hok.trans hh) HY.out.1 HY.out.2).sum
  rw [hc, hok]
  have HSZ := Aside0.mk hsz
  have HNE := Aside0.mk hne
  clear hc hok hsz hne tail
  cases ok
  · have HBX := HB2
    clear HB2 HNE
    go_wp2_with fail
    refine (sum_calls a _ (by have := HA.out; omega)).mono ?_
    rintro e w5 ⟨rfl, hB⟩
    have HB5 := Aside0.mk (below_then HBX.out HBX.out.size hB)
    clear hB HBX
    go_wp2_with fail
    refine (sum_calls b _ (by have := HBb.out; omega)).mono ?_
    rintro e w6 ⟨rfl, hB⟩
    have HB6 := Aside0.mk (below_then HB5.out HB5.out.size hB)
    clear hB HB5
    have j1 : (9223372036854775807 < a.size + m.size) = False := eq_false (by have := HA.out; have := HM.out; omega)
    have j2 : (9223372036854775807 < b.size + m.size) = False := eq_false (by have := HBb.out; have := HM.out; omega)
    go_wp2_with fail
    refine (sum_calls (a ++ m) _ (by rw [ByteArray.size_append]; have := HA.out; have := HM.out; omega)).mono ?_
    rintro e w7 ⟨rfl, hB⟩
    have HB7 := Aside0.mk (below_then HB6.out HB6.out.size hB)
    clear hB HB6
    go_wp2_with fail
    refine (sum_calls (b ++ m) _ (by rw [ByteArray.size_append]; have := HBb.out; have := HM.out; omega)).mono ?_
    rintro e w8 ⟨rfl, hB⟩
    have HB8 := Aside0.mk (below_then HB7.out HB7.out.size hB)
    clear hB HB7 j1 j2
    have hs := sums_go_on a b m
    obtain ⟨n1, hn1⟩ : ∃ n, sumS a = n := ⟨_, rfl⟩
    obtain ⟨n2, hn2⟩ : ∃ n, sumS b = n := ⟨_, rfl⟩
    obtain ⟨n3, hn3⟩ : ∃ n, sumS (a ++ m) = n := ⟨_, rfl⟩
    obtain ⟨n4, hn4⟩ : ∃ n, sumS (b ++ m) = n := ⟨_, rfl⟩
    rw [hn1, hn2, hn3, hn4] at hs
    simp only [hn1, hn2, hn3, hn4]
    clear hn1 hn2 hn3 hn4
    by_cases h1 : n1 = n2
    · have h2 := hs.1 h1
      subst h1 h2
      clear hs
      go_wp2_with fail
      go_ret
      exact ⟨rfl, HB8.out⟩
    · have h2 : ¬ n3 = n4 := fun h => h1 (hs.2 h)
      have t1 : decide ((n1 : Int) = (n2 : Int)) = false := decide_eq_false (by omega)
      have t2 : ((n1 : Int) == (n2 : Int)) = false := beq_eq_false_iff_ne.2 (by omega)
      have t3 : decide (n1 = n2) = false := decide_eq_false h1
      have t4 : (n1 == n2) = false := beq_eq_false_iff_ne.2 h1
      have t5 : decide ((n3 : Int) = (n4 : Int)) = false := decide_eq_false (by omega)
      have t6 : ((n3 : Int) == (n4 : Int)) = false := beq_eq_false_iff_ne.2 (by omega)
      have t7 : decide (n3 = n4) = false := decide_eq_false h2
      have t8 : (n3 == n4) = false := beq_eq_false_iff_ne.2 h2
      clear hs h1 h2
      go_wp2_with fail
      go_ret
      exact ⟨rfl, HB8.out⟩
  · have hne := HNE.out rfl
    clear HNE
    have HNE := Aside0.mk hne
    clear hne
    go_wp2_with fail
    refine (sum_calls c _ (by have := HSZ.out; have := HA.out; omega)).mono ?_
    rintro e w3 ⟨rfl, hB⟩
    have HB3 := Aside0.mk (below_then HB2.out HB2.out.size hB)
    clear hB HB2
    go_wp2_with fail
    refine (sum_calls a _ (by have := HA.out; omega)).mono ?_
    rintro e w4 ⟨rfl, hB⟩
    have HBX := Aside0.mk (below_then HB3.out HB3.out.size hB)
    clear hB HB3
    have hne := HNE.out
    have u1 : decide (((sumS c : Nat) : Int) = ((sumS a : Nat) : Int)) = false := decide_eq_false (by omega)
    have u2 : (((sumS c : Nat) : Int) == ((sumS a : Nat) : Int)) = false := beq_eq_false_iff_ne.2 (by omega)
    have u3 : decide (sumS c = sumS a) = false := decide_eq_false hne
    have u4 : (sumS c == sumS a) = false := beq_eq_false_iff_ne.2 hne
    clear hne
    go_wp2_with fail
    refine (sum_calls a _ (by have := HA.out; omega)).mono ?_
    rintro e w5 ⟨rfl, hB⟩
    have HB5 := Aside0.mk (below_then HBX.out HBX.out.size hB)
    clear hB HBX
    go_wp2_with fail
    refine (sum_calls b _ (by have := HBb.out; omega)).mono ?_
    rintro e w6 ⟨rfl, hB⟩
    have HB6 := Aside0.mk (below_then HB5.out HB5.out.size hB)
    clear hB HB5
    have j1 : (9223372036854775807 < a.size + m.size) = False := eq_false (by have := HA.out; have := HM.out; omega)
    have j2 : (9223372036854775807 < b.size + m.size) = False := eq_false (by have := HBb.out; have := HM.out; omega)
    go_wp2_with fail
    refine (sum_calls (a ++ m) _ (by rw [ByteArray.size_append]; have := HA.out; have := HM.out; omega)).mono ?_
    rintro e w7 ⟨rfl, hB⟩
    have HB7 := Aside0.mk (below_then HB6.out HB6.out.size hB)
    clear hB HB6
    go_wp2_with fail
    refine (sum_calls (b ++ m) _ (by rw [ByteArray.size_append]; have := HBb.out; have := HM.out; omega)).mono ?_
    rintro e w8 ⟨rfl, hB⟩
    have HB8 := Aside0.mk (below_then HB7.out HB7.out.size hB)
    clear hB HB7 j1 j2
    have hs := sums_go_on a b m
    obtain ⟨n1, hn1⟩ : ∃ n, sumS a = n := ⟨_, rfl⟩
    obtain ⟨n2, hn2⟩ : ∃ n, sumS b = n := ⟨_, rfl⟩
    obtain ⟨n3, hn3⟩ : ∃ n, sumS (a ++ m) = n := ⟨_, rfl⟩
    obtain ⟨n4, hn4⟩ : ∃ n, sumS (b ++ m) = n := ⟨_, rfl⟩
    rw [hn1, hn2, hn3, hn4] at hs
    simp only [hn1, hn2, hn3, hn4]
    clear hn1 hn2 hn3 hn4
    by_cases h1 : n1 = n2
    · have h2 := hs.1 h1
      subst h1 h2
      clear hs
      go_wp2_with fail
      go_ret
      exact ⟨rfl, HB8.out⟩
    · have h2 : ¬ n3 = n4 := fun h => h1 (hs.2 h)
      have t1 : decide ((n1 : Int) = (n2 : Int)) = false := decide_eq_false (by omega)
      have t2 : ((n1 : Int) == (n2 : Int)) = false := beq_eq_false_iff_ne.2 (by omega)
      have t3 : decide (n1 = n2) = false := decide_eq_false h1
      have t4 : (n1 == n2) = false := beq_eq_false_iff_ne.2 h1
      have t5 : decide ((n3 : Int) = (n4 : Int)) = false := decide_eq_false (by omega)
      have t6 : ((n3 : Int) == (n4 : Int)) = false := beq_eq_false_iff_ne.2 (by omega)
      have t7 : decide (n3 = n4) = false := decide_eq_false h2
      have t8 : (n3 == n4) = false := beq_eq_false_iff_ne.2 h2
      clear hs h1 h2
      go_wp2_with fail
      go_ret
      exact ⟨rfl, HB8.out⟩
end Go.Proofs.YtjgccbpdpnpfjaaDoor.ST
