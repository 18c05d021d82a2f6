/- What the law needs of the program: the contracts of its functions, each with its condition at its theorem. -/
import Derived.Test.YtncphlcbbffecaaLHearUndoM0
import Derived.Below
import GoSem.ClaimWrapper
import GoSem.ClaimJoined
import Derived.JoinedOf
set_option linter.unusedVariables false
set_option linter.unusedSimpArgs false
/- Stocks and words: the program and the reference do the same. Condition: the data lie in memory. -/
namespace Go.AX
variable {P : Program} {I : Ids}
theorem own_live {H : Heap} {b n : Nat} {bs : List C} (h : H.own b = some (n, bs)) : H.live b = some bs := by
  unfold Heap.own at h
  unfold Heap.live
  split at h
  · rename_i heq; rw [heq]; simp only [Option.some.injEq, Prod.mk.injEq] at h; rw [h.2]
  · cases h
/-- To write a hold whole. -/
theorem hold_set {H : Heap} {c : C} {l : List Hold} {F : List Nat} (h : Holds' H c l F) (ho : Owned H F) {i : Nat} {x : Hold} (hi : l[i]? = some x) (y : Hold) :
    ∃ b off bs H', c = .sl b off l.length ∧ H.own b = some (2, bs) ∧ off + i * 2 + 2 ≤ bs.length ∧ H.wr b (splice bs (off + i * 2) [.int .i64 y.many, .int .i64 y.state]) = H' ∧ Holds' H' c (l.set i y) F ∧ Step F H H' F := by
  obtain ⟨b, off, bs, H', e1, e2, e3, e4, e5, e6⟩ := sl_put RHold.good h ho hi 0 [.int .i64 y.many, .int .i64 y.state] (by simp) y (fun H' cs f hr hl => by
    obtain ⟨rfl, rfl⟩ := hr
    exact ⟨by simp [splice], rfl⟩)
  exact ⟨b, off, bs, H', e1, e2, by simpa using e3, by simpa using e4, e5, e6⟩
/-- To write a hold's state. -/
theorem hold_st {H : Heap} {c : C} {l : List Hold} {F : List Nat} (h : Holds' H c l F) (ho : Owned H F) {i : Nat} {x : Hold} (hi : l[i]? = some x) (v : Int) :
    ∃ b off bs H', c = .sl b off l.length ∧ H.own b = some (2, bs) ∧ off + i * 2 + 1 + 1 ≤ bs.length ∧ H.wr b (splice bs (off + i * 2 + 1) [.int .i64 v]) = H' ∧ Holds' H' c (l.set i ⟨x.many, v⟩) F ∧ Step F H H' F := by
  obtain ⟨b, off, bs, H', e1, e2, e3, e4, e5, e6⟩ := sl_put RHold.good h ho hi 1 [.int .i64 v] (by simp) ⟨x.many, v⟩ (fun H' cs f hr hl => by
    obtain ⟨rfl, rfl⟩ := hr
    exact ⟨by simp [splice], rfl⟩)
  exact ⟨b, off, bs, H', e1, e2, e3, e4, e5, e6⟩
theorem hadAll_snoc {hs : List Hold} {h : Hold} : hadAll (hs ++ [h]) = hadAll hs + had h := by
  induction hs with
  | nil => simp [hadAll]
  | cons x r ih => simp only [List.cons_append, hadAll, ih]; omega
theorem had_bound {h : Hold} (hk : holdOk h = true) : 0 ≤ had h ∧ had h ≤ 3 := by
  unfold had holdOk at *
  (repeat' split at hk) <;> (try split) <;> simp_all [inB] <;> omega
theorem hadAll_bound {hs : List Hold} (h : ∀ x ∈ hs, holdOk x = true) : 0 ≤ hadAll hs ∧ hadAll hs ≤ 3 * hs.length := by
  induction hs with
  | nil => simp [hadAll]
  | cons x r ih =>
    have h1 := ih fun y hy => h y (by simp [hy])
    have h2 := had_bound (h x (by simp))
    simp only [hadAll, List.length_cons]; omega
theorem does_s_l2Hold (K : Codes P I) {H : Heap} {a b : Int} : Does P I.s_l2Hold [.agg [.int .i64 a, .int .i64 b]] H fun v H' => v = bool (holdOk ⟨a, b⟩) ∧ H' = H := by
  refine K.does K.s_l2Hold rfl fun Q hQ => ?_
  by_cases h0 : b = 0
  · simp only [go_sem, Nat.reduceEqDiff, Nat.reduceAdd, Nat.reduceMul, Nat.reduceLeDiff, Int.reduceEq, Int.reduceLT, Int.reduceLE, Int.reduceAdd, Int.reduceSub, Int.reduceNeg, Int.reduceMul, Int.reduceToNat, Int.cast_ofNat_Int, Int.natCast_zero, Nat.add_zero, reduceCtorEq, L_s_l2Hold, h0]
    exact hQ _ _ (Ends.ret rfl ⟨by simp [tupOf, holdOk, h0], rfl⟩)
  · by_cases h1 : b = 1
    · simp only [go_sem, Nat.reduceEqDiff, Nat.reduceAdd, Nat.reduceMul, Nat.reduceLeDiff, Int.reduceEq, Int.reduceLT, Int.reduceLE, Int.reduceAdd, Int.reduceSub, Int.reduceNeg, Int.reduceMul, Int.reduceToNat, Int.cast_ofNat_Int, Int.natCast_zero, Nat.add_zero, reduceCtorEq, L_s_l2Hold, h0, h1]
      refine Does.test (does_s_l6In K) ?_
      simp only [go_sem, Nat.reduceEqDiff, Nat.reduceAdd, Nat.reduceMul, Nat.reduceLeDiff, Int.reduceEq, Int.reduceLT, Int.reduceLE, Int.reduceAdd, Int.reduceSub, Int.reduceNeg, Int.reduceMul, Int.reduceToNat, Int.cast_ofNat_Int, Int.natCast_zero, Nat.add_zero, reduceCtorEq]
      exact hQ _ _ (Ends.ret rfl ⟨by simp [tupOf, holdOk, h1], rfl⟩)
    · by_cases h2 : b = 2
      · simp only [go_sem, Nat.reduceEqDiff, Nat.reduceAdd, Nat.reduceMul, Nat.reduceLeDiff, Int.reduceEq, Int.reduceLT, Int.reduceLE, Int.reduceAdd, Int.reduceSub, Int.reduceNeg, Int.reduceMul, Int.reduceToNat, Int.cast_ofNat_Int, Int.natCast_zero, Nat.add_zero, reduceCtorEq, L_s_l2Hold, h0, h1, h2]
        refine Does.test (does_s_l6In K) ?_
        simp only [go_sem, Nat.reduceEqDiff, Nat.reduceAdd, Nat.reduceMul, Nat.reduceLeDiff, Int.reduceEq, Int.reduceLT, Int.reduceLE, Int.reduceAdd, Int.reduceSub, Int.reduceNeg, Int.reduceMul, Int.reduceToNat, Int.cast_ofNat_Int, Int.natCast_zero, Nat.add_zero, reduceCtorEq]
        exact hQ _ _ (Ends.ret rfl ⟨by simp [tupOf, holdOk, h2], rfl⟩)
      · by_cases h3 : b = 3
        · simp only [go_sem, Nat.reduceEqDiff, Nat.reduceAdd, Nat.reduceMul, Nat.reduceLeDiff, Int.reduceEq, Int.reduceLT, Int.reduceLE, Int.reduceAdd, Int.reduceSub, Int.reduceNeg, Int.reduceMul, Int.reduceToNat, Int.cast_ofNat_Int, Int.natCast_zero, Nat.add_zero, reduceCtorEq, L_s_l2Hold, h0, h1, h2, h3]
          refine Does.test (does_s_l6In K) ?_
          simp only [go_sem, Nat.reduceEqDiff, Nat.reduceAdd, Nat.reduceMul, Nat.reduceLeDiff, Int.reduceEq, Int.reduceLT, Int.reduceLE, Int.reduceAdd, Int.reduceSub, Int.reduceNeg, Int.reduceMul, Int.reduceToNat, Int.cast_ofNat_Int, Int.natCast_zero, Nat.add_zero, reduceCtorEq]
          exact hQ _ _ (Ends.ret rfl ⟨by simp [tupOf, holdOk, h3], rfl⟩)
        · simp only [go_sem, Nat.reduceEqDiff, Nat.reduceAdd, Nat.reduceMul, Nat.reduceLeDiff, Int.reduceEq, Int.reduceLT, Int.reduceLE, Int.reduceAdd, Int.reduceSub, Int.reduceNeg, Int.reduceMul, Int.reduceToNat, Int.cast_ofNat_Int, Int.natCast_zero, Nat.add_zero, reduceCtorEq, L_s_l2Hold, h0, h1, h2, h3]
          exact hQ _ _ (Ends.ret rfl ⟨by simp [tupOf, holdOk, h0, h1, h2, h3], rfl⟩)
theorem does_i_Hold_ok (K : Codes P I) {H : Heap} {a b : Int} : Does P I.i_Hold_ok [.agg [.int .i64 a, .int .i64 b]] H fun v H' => v = bool (holdOk ⟨a, b⟩) ∧ H' = H := by
  refine K.does K.i_Hold_ok rfl fun Q hQ => ?_
  by_cases h0 : b = 0
  · simp only [go_sem, Nat.reduceEqDiff, Nat.reduceAdd, Nat.reduceMul, Nat.reduceLeDiff, Int.reduceEq, Int.reduceLT, Int.reduceLE, Int.reduceAdd, Int.reduceSub, Int.reduceNeg, Int.reduceMul, Int.reduceToNat, Int.cast_ofNat_Int, Int.natCast_zero, Nat.add_zero, reduceCtorEq, L_i_Hold_ok, h0]
    exact hQ _ _ (Ends.ret rfl ⟨by simp [tupOf, holdOk, h0], rfl⟩)
  · by_cases h1 : b = 1
    · simp only [go_sem, Nat.reduceEqDiff, Nat.reduceAdd, Nat.reduceMul, Nat.reduceLeDiff, Int.reduceEq, Int.reduceLT, Int.reduceLE, Int.reduceAdd, Int.reduceSub, Int.reduceNeg, Int.reduceMul, Int.reduceToNat, Int.cast_ofNat_Int, Int.natCast_zero, Nat.add_zero, reduceCtorEq, L_i_Hold_ok, h0, h1]
      refine Does.test (does_i_in K) ?_
      simp only [go_sem, Nat.reduceEqDiff, Nat.reduceAdd, Nat.reduceMul, Nat.reduceLeDiff, Int.reduceEq, Int.reduceLT, Int.reduceLE, Int.reduceAdd, Int.reduceSub, Int.reduceNeg, Int.reduceMul, Int.reduceToNat, Int.cast_ofNat_Int, Int.natCast_zero, Nat.add_zero, reduceCtorEq]
      exact hQ _ _ (Ends.ret rfl ⟨by simp [tupOf, holdOk, h1], rfl⟩)
    · by_cases h2 : b = 2
      · simp only [go_sem, Nat.reduceEqDiff, Nat.reduceAdd, Nat.reduceMul, Nat.reduceLeDiff, Int.reduceEq, Int.reduceLT, Int.reduceLE, Int.reduceAdd, Int.reduceSub, Int.reduceNeg, Int.reduceMul, Int.reduceToNat, Int.cast_ofNat_Int, Int.natCast_zero, Nat.add_zero, reduceCtorEq, L_i_Hold_ok, h0, h1, h2]
        refine Does.test (does_i_in K) ?_
        simp only [go_sem, Nat.reduceEqDiff, Nat.reduceAdd, Nat.reduceMul, Nat.reduceLeDiff, Int.reduceEq, Int.reduceLT, Int.reduceLE, Int.reduceAdd, Int.reduceSub, Int.reduceNeg, Int.reduceMul, Int.reduceToNat, Int.cast_ofNat_Int, Int.natCast_zero, Nat.add_zero, reduceCtorEq]
        exact hQ _ _ (Ends.ret rfl ⟨by simp [tupOf, holdOk, h2], rfl⟩)
      · by_cases h3 : b = 3
        · simp only [go_sem, Nat.reduceEqDiff, Nat.reduceAdd, Nat.reduceMul, Nat.reduceLeDiff, Int.reduceEq, Int.reduceLT, Int.reduceLE, Int.reduceAdd, Int.reduceSub, Int.reduceNeg, Int.reduceMul, Int.reduceToNat, Int.cast_ofNat_Int, Int.natCast_zero, Nat.add_zero, reduceCtorEq, L_i_Hold_ok, h0, h1, h2, h3]
          refine Does.test (does_i_in K) ?_
          simp only [go_sem, Nat.reduceEqDiff, Nat.reduceAdd, Nat.reduceMul, Nat.reduceLeDiff, Int.reduceEq, Int.reduceLT, Int.reduceLE, Int.reduceAdd, Int.reduceSub, Int.reduceNeg, Int.reduceMul, Int.reduceToNat, Int.cast_ofNat_Int, Int.natCast_zero, Nat.add_zero, reduceCtorEq]
          exact hQ _ _ (Ends.ret rfl ⟨by simp [tupOf, holdOk, h3], rfl⟩)
        · simp only [go_sem, Nat.reduceEqDiff, Nat.reduceAdd, Nat.reduceMul, Nat.reduceLeDiff, Int.reduceEq, Int.reduceLT, Int.reduceLE, Int.reduceAdd, Int.reduceSub, Int.reduceNeg, Int.reduceMul, Int.reduceToNat, Int.cast_ofNat_Int, Int.natCast_zero, Nat.add_zero, reduceCtorEq, L_i_Hold_ok, h0, h1, h2, h3]
          exact hQ _ _ (Ends.ret rfl ⟨by simp [tupOf, holdOk, h0, h1, h2, h3], rfl⟩)
theorem does_i_StockOk_1 (K : Codes P I) {H : Heap} {cs : List C} {h : Hold} {F : List Nat} (hr : RHold H cs h F) : Tests P I.i_StockOk_1 H (.agg cs) (!holdOk h) := by
  obtain ⟨rfl, rfl⟩ := hr
  refine K.does K.i_StockOk_1 rfl fun Q hQ => ?_
  simp only [go_sem, Nat.reduceEqDiff, Nat.reduceAdd, Nat.reduceMul, Nat.reduceLeDiff, Int.reduceEq, Int.reduceLT, Int.reduceLE, Int.reduceAdd, Int.reduceSub, Int.reduceNeg, Int.reduceMul, Int.reduceToNat, Int.cast_ofNat_Int, Int.natCast_zero, Nat.add_zero, reduceCtorEq, L_i_StockOk_1]
  refine Does.test (does_i_Hold_ok K) ?_
  simp only [go_sem, Nat.reduceEqDiff, Nat.reduceAdd, Nat.reduceMul, Nat.reduceLeDiff, Int.reduceEq, Int.reduceLT, Int.reduceLE, Int.reduceAdd, Int.reduceSub, Int.reduceNeg, Int.reduceMul, Int.reduceToNat, Int.cast_ofNat_Int, Int.natCast_zero, Nat.add_zero, reduceCtorEq]
  exact hQ _ _ (Ends.ret rfl ⟨rfl, rfl⟩)
theorem does_i_Stock_free (K : Codes P I) {H : Heap} {cs : List C} {s : Stock} {F : List Nat} (h : RStock H cs s F) (hroom : 0 ≤ s.room ∧ s.room ≤ 9) (hlen : s.holds.length = 6) (hall : ∀ x ∈ s.holds, holdOk x = true) : Does P I.i_Stock_free [.agg cs] H fun v H' => v = .val (int (freeS s)) ∧ H' = H := by
  obtain ⟨c, rfl, hc⟩ := h
  refine K.does K.i_Stock_free rfl fun Q hQ => ?_
  simp only [go_sem, Nat.reduceEqDiff, Nat.reduceAdd, Nat.reduceMul, Nat.reduceLeDiff, Int.reduceEq, Int.reduceLT, Int.reduceLE, Int.reduceAdd, Int.reduceSub, Int.reduceNeg, Int.reduceMul, Int.reduceToNat, Int.cast_ofNat_Int, Int.natCast_zero, Nat.add_zero, reduceCtorEq, L_i_Stock_free, hc.len]
  refine RU_loop (fun m t => ∃ i : Nat, m = 6 - i ∧ i ≤ 6 ∧ t.H = H ∧ t.env 9 = .val (.c c) ∧ t.env 10 = .val (int s.holds.length) ∧ t.env 11 = .val (int i) ∧ t.env 3 = .val (int (s.room - hadAll (s.holds.take i)))) 6 ⟨0, rfl, by omega, rfl, rfl, rfl, rfl, by simp [upd, hadAll]⟩ ?_
  rintro m t ⟨i, rfl, hi, hH, g9, g10, g11, g3⟩ Q' hN hE hR
  by_cases hlt : (i : Int) < s.holds.length
  · obtain ⟨x, hx⟩ := get_lt hlt
    obtain ⟨b1, o1, bs1, cs1, f1, rfl, e1, e2, ⟨rfl, _⟩, _, _⟩ := hc.get hx
    have hb := hadAll_bound (hs := s.holds.take (i + 1)) fun y hy => hall y (List.mem_of_mem_take hy)
    have hbl : (s.holds.take (i + 1)).length ≤ 6 := by simp; omega
    have hsn : hadAll (s.holds.take (i + 1)) = hadAll (s.holds.take i) + had x := by rw [take_snoc hx, hadAll_snoc]
    have hwi := wrap_succ (show i ≤ lenTop by unfold lenTop; omega)
    by_cases s1 : x.state = 1
    · have hh : had x = x.many := by simp [had, s1]
      have hw : IntKind.wrap .i64 (s.room - hadAll (s.holds.take i) - x.many) = s.room - hadAll (s.holds.take i) - x.many := wrap_i64 (by omega) (by omega)
      simp only [go_sem, Nat.reduceEqDiff, Nat.reduceAdd, Nat.reduceMul, Nat.reduceLeDiff, Int.reduceEq, Int.reduceLT, Int.reduceLE, Int.reduceAdd, Int.reduceSub, Int.reduceNeg, Int.reduceMul, Int.reduceToNat, Int.cast_ofNat_Int, Int.natCast_zero, Nat.add_zero, reduceCtorEq, g3, g9, g10, g11, hlt, hH, e1, e2, s1, hw, hwi]
      exact hN _ _ (by omega) ⟨i + 1, rfl, by omega, by simp [hH], by simp [upd, g9], by simp [upd, g10], by simp [upd], by simp [upd, hsn, hh]; omega⟩
    · by_cases s2 : x.state = 2
      · have hh : had x = x.many := by simp [had, s2]
        have hw : IntKind.wrap .i64 (s.room - hadAll (s.holds.take i) - x.many) = s.room - hadAll (s.holds.take i) - x.many := wrap_i64 (by omega) (by omega)
        simp only [go_sem, Nat.reduceEqDiff, Nat.reduceAdd, Nat.reduceMul, Nat.reduceLeDiff, Int.reduceEq, Int.reduceLT, Int.reduceLE, Int.reduceAdd, Int.reduceSub, Int.reduceNeg, Int.reduceMul, Int.reduceToNat, Int.cast_ofNat_Int, Int.natCast_zero, Nat.add_zero, reduceCtorEq, g3, g9, g10, g11, hlt, hH, e1, e2, s1, s2, hw, hwi]
        exact hN _ _ (by omega) ⟨i + 1, rfl, by omega, by simp [hH], by simp [upd, g9], by simp [upd, g10], by simp [upd], by simp [upd, hsn, hh]; omega⟩
      · have hh : had x = 0 := by simp [had, s1, s2]
        simp only [go_sem, Nat.reduceEqDiff, Nat.reduceAdd, Nat.reduceMul, Nat.reduceLeDiff, Int.reduceEq, Int.reduceLT, Int.reduceLE, Int.reduceAdd, Int.reduceSub, Int.reduceNeg, Int.reduceMul, Int.reduceToNat, Int.cast_ofNat_Int, Int.natCast_zero, Nat.add_zero, reduceCtorEq, g3, g9, g10, g11, hlt, hH, e1, e2, s1, s2, hwi]
        exact hN _ _ (by omega) ⟨i + 1, rfl, by omega, by simp [hH], by simp [upd, g9], by simp [upd, g10], by simp [upd], by simp [upd, g3, hsn, hh]⟩
  · simp only [go_sem, Nat.reduceEqDiff, Nat.reduceAdd, Nat.reduceMul, Nat.reduceLeDiff, Int.reduceEq, Int.reduceLT, Int.reduceLE, Int.reduceAdd, Int.reduceSub, Int.reduceNeg, Int.reduceMul, Int.reduceToNat, Int.cast_ofNat_Int, Int.natCast_zero, Nat.add_zero, reduceCtorEq, g10, g11, hlt, hH]
    refine hE _ _ ?_
    rw [List.take_of_length_le (by omega)] at g3
    simp only [go_sem, Nat.reduceEqDiff, Nat.reduceAdd, Nat.reduceMul, Nat.reduceLeDiff, Int.reduceEq, Int.reduceLT, Int.reduceLE, Int.reduceAdd, Int.reduceSub, Int.reduceNeg, Int.reduceMul, Int.reduceToNat, Int.cast_ofNat_Int, Int.natCast_zero, Nat.add_zero, reduceCtorEq, g3]
    exact hQ _ _ (Ends.ret rfl ⟨rfl, rfl⟩)
theorem does_s_l2Free (K : Codes P I) {H : Heap} {cs : List C} {s : Stock} {F : List Nat} (h : RStock H cs s F) (hroom : 0 ≤ s.room ∧ s.room ≤ 9) (hlen : s.holds.length = 6) (hall : ∀ x ∈ s.holds, holdOk x = true) : Does P I.s_l2Free [.agg cs] H fun v H' => v = .val (int (freeS s)) ∧ H' = H := by
  obtain ⟨c, rfl, hc⟩ := h
  refine K.does K.s_l2Free rfl fun Q hQ => ?_
  simp only [go_sem, Nat.reduceEqDiff, Nat.reduceAdd, Nat.reduceMul, Nat.reduceLeDiff, Int.reduceEq, Int.reduceLT, Int.reduceLE, Int.reduceAdd, Int.reduceSub, Int.reduceNeg, Int.reduceMul, Int.reduceToNat, Int.cast_ofNat_Int, Int.natCast_zero, Nat.add_zero, reduceCtorEq, L_s_l2Free]
  refine RU_loop (fun m t => ∃ i : Nat, m = 6 - i ∧ i ≤ 6 ∧ t.H = H ∧ t.env 1 = .box [.int .i64 s.room, c] ∧ t.env 4 = .val (int i) ∧ t.env 3 = .val (int (s.room - hadAll (s.holds.take i)))) 6 ⟨0, rfl, by omega, rfl, rfl, rfl, by simp [upd, hadAll]⟩ ?_
  rintro m t ⟨i, rfl, hi, hH, g1, g4, g3⟩ Q' hN hE hR
  by_cases hlt : (i : Int) < s.holds.length
  · obtain ⟨x, hx⟩ := get_lt hlt
    obtain ⟨b1, o1, bs1, cs1, f1, rfl, e1, e2, ⟨rfl, _⟩, _, _⟩ := hc.get hx
    have hb := hadAll_bound (hs := s.holds.take (i + 1)) fun y hy => hall y (List.mem_of_mem_take hy)
    have hbl : (s.holds.take (i + 1)).length ≤ 6 := by simp; omega
    have hsn : hadAll (s.holds.take (i + 1)) = hadAll (s.holds.take i) + had x := by rw [take_snoc hx, hadAll_snoc]
    have hwi := wrap_succ (show i ≤ lenTop by unfold lenTop; omega)
    have ld0 := slab_sub0 e2 1 (by simp)
    have ld1 := slab_sub e2 1 1 (by simp)
    simp only [slabAt1, slabSkip1] at ld0 ld1
    by_cases s1 : x.state = 1
    · have hh : had x = x.many := by simp [had, s1]
      have hw : IntKind.wrap .i64 (s.room - hadAll (s.holds.take i) - x.many) = s.room - hadAll (s.holds.take i) - x.many := wrap_i64 (by omega) (by omega)
      simp only [go_sem, Nat.reduceEqDiff, Nat.reduceAdd, Nat.reduceMul, Nat.reduceLeDiff, Int.reduceEq, Int.reduceLT, Int.reduceLE, Int.reduceAdd, Int.reduceSub, Int.reduceNeg, Int.reduceMul, Int.reduceToNat, Int.cast_ofNat_Int, Int.natCast_zero, Nat.add_zero, reduceCtorEq, g1, g3, g4, hlt, hH, e1, ld0, ld1, s1, hw, hwi]
      exact hN _ _ (by omega) ⟨i + 1, rfl, by omega, by simp [hH], by simp [upd, g1], by simp [upd], by simp [upd, hsn, hh]; omega⟩
    · by_cases s2 : x.state = 2
      · have hh : had x = x.many := by simp [had, s2]
        have hw : IntKind.wrap .i64 (s.room - hadAll (s.holds.take i) - x.many) = s.room - hadAll (s.holds.take i) - x.many := wrap_i64 (by omega) (by omega)
        simp only [go_sem, Nat.reduceEqDiff, Nat.reduceAdd, Nat.reduceMul, Nat.reduceLeDiff, Int.reduceEq, Int.reduceLT, Int.reduceLE, Int.reduceAdd, Int.reduceSub, Int.reduceNeg, Int.reduceMul, Int.reduceToNat, Int.cast_ofNat_Int, Int.natCast_zero, Nat.add_zero, reduceCtorEq, g1, g3, g4, hlt, hH, e1, ld0, ld1, s1, s2, hw, hwi]
        exact hN _ _ (by omega) ⟨i + 1, rfl, by omega, by simp [hH], by simp [upd, g1], by simp [upd], by simp [upd, hsn, hh]; omega⟩
      · have hh : had x = 0 := by simp [had, s1, s2]
        simp only [go_sem, Nat.reduceEqDiff, Nat.reduceAdd, Nat.reduceMul, Nat.reduceLeDiff, Int.reduceEq, Int.reduceLT, Int.reduceLE, Int.reduceAdd, Int.reduceSub, Int.reduceNeg, Int.reduceMul, Int.reduceToNat, Int.cast_ofNat_Int, Int.natCast_zero, Nat.add_zero, reduceCtorEq, g1, g3, g4, hlt, hH, e1, ld0, ld1, s1, s2, hwi]
        exact hN _ _ (by omega) ⟨i + 1, rfl, by omega, by simp [hH], by simp [upd, g1], by simp [upd], by simp [upd, g3, hsn, hh]⟩
  · simp only [go_sem, Nat.reduceEqDiff, Nat.reduceAdd, Nat.reduceMul, Nat.reduceLeDiff, Int.reduceEq, Int.reduceLT, Int.reduceLE, Int.reduceAdd, Int.reduceSub, Int.reduceNeg, Int.reduceMul, Int.reduceToNat, Int.cast_ofNat_Int, Int.natCast_zero, Nat.add_zero, reduceCtorEq, g1, g4, hlt, hH, hc.len]
    refine hE _ _ ?_
    rw [List.take_of_length_le (by omega)] at g3
    simp only [go_sem, Nat.reduceEqDiff, Nat.reduceAdd, Nat.reduceMul, Nat.reduceLeDiff, Int.reduceEq, Int.reduceLT, Int.reduceLE, Int.reduceAdd, Int.reduceSub, Int.reduceNeg, Int.reduceMul, Int.reduceToNat, Int.cast_ofNat_Int, Int.natCast_zero, Nat.add_zero, reduceCtorEq, g3]
    exact hQ _ _ (Ends.ret rfl ⟨rfl, rfl⟩)
theorem does_i_StockOk (K : Codes P I) {H : Heap} {cs : List C} {s : Stock} {F : List Nat} (h : RStock H cs s F) : Does P I.i_StockOk [.agg cs] H fun v H' => v = bool (stockOk s) ∧ H' = H := by
  have h0 := h
  obtain ⟨c, rfl, hc⟩ := h
  refine K.does K.i_StockOk rfl fun Q hQ => ?_
  simp only [go_sem, Nat.reduceEqDiff, Nat.reduceAdd, Nat.reduceMul, Nat.reduceLeDiff, Int.reduceEq, Int.reduceLT, Int.reduceLE, Int.reduceAdd, Int.reduceSub, Int.reduceNeg, Int.reduceMul, Int.reduceToNat, Int.cast_ofNat_Int, Int.natCast_zero, Nat.add_zero, reduceCtorEq, L_i_StockOk]
  refine Does.test (does_i_in K) ?_
  cases hroom : inB s.room 0 9 with
  | false =>
    simp only [go_sem, Nat.reduceEqDiff, Nat.reduceAdd, Nat.reduceMul, Nat.reduceLeDiff, Int.reduceEq, Int.reduceLT, Int.reduceLE, Int.reduceAdd, Int.reduceSub, Int.reduceNeg, Int.reduceMul, Int.reduceToNat, Int.cast_ofNat_Int, Int.natCast_zero, Nat.add_zero, reduceCtorEq]
    exact hQ _ _ (Ends.ret rfl ⟨by simp [tupOf, stockOk, hroom], rfl⟩)
  | true =>
    by_cases hlen : (s.holds.length : Int) = 6
    · have hlen' : s.holds.length = 6 := by omega
      simp only [go_sem, Nat.reduceEqDiff, Nat.reduceAdd, Nat.reduceMul, Nat.reduceLeDiff, Int.reduceEq, Int.reduceLT, Int.reduceLE, Int.reduceAdd, Int.reduceSub, Int.reduceNeg, Int.reduceMul, Int.reduceToNat, Int.cast_ofNat_Int, Int.natCast_zero, Nat.add_zero, reduceCtorEq, hc.len, hlen]
      refine Does.test (does_g_ContainsFunc_Hold K hc (fun h => !holdOk h) fun cs x f' _ hr _ => does_i_StockOk_1 K hr) ?_
      cases hall : s.holds.all holdOk with
      | false =>
        simp only [go_sem, Nat.reduceEqDiff, Nat.reduceAdd, Nat.reduceMul, Nat.reduceLeDiff, Int.reduceEq, Int.reduceLT, Int.reduceLE, Int.reduceAdd, Int.reduceSub, Int.reduceNeg, Int.reduceMul, Int.reduceToNat, Int.cast_ofNat_Int, Int.natCast_zero, Nat.add_zero, reduceCtorEq, any_not', hall]
        exact hQ _ _ (Ends.ret rfl ⟨by simp [tupOf, stockOk, hall], rfl⟩)
      | true =>
        simp only [go_sem, Nat.reduceEqDiff, Nat.reduceAdd, Nat.reduceMul, Nat.reduceLeDiff, Int.reduceEq, Int.reduceLT, Int.reduceLE, Int.reduceAdd, Int.reduceSub, Int.reduceNeg, Int.reduceMul, Int.reduceToNat, Int.cast_ofNat_Int, Int.natCast_zero, Nat.add_zero, reduceCtorEq, any_not', hall]
        refine Does.test (does_i_Stock_free K h0 (by simpa [inB] using hroom) hlen' (List.all_eq_true.1 hall)) ?_
        simp only [go_sem, Nat.reduceEqDiff, Nat.reduceAdd, Nat.reduceMul, Nat.reduceLeDiff, Int.reduceEq, Int.reduceLT, Int.reduceLE, Int.reduceAdd, Int.reduceSub, Int.reduceNeg, Int.reduceMul, Int.reduceToNat, Int.cast_ofNat_Int, Int.natCast_zero, Nat.add_zero, reduceCtorEq]
        exact hQ _ _ (Ends.ret rfl ⟨by simp [tupOf, stockOk, hroom, hlen', hall], rfl⟩)
    · have hlen' : ¬ s.holds.length = 6 := by omega
      simp only [go_sem, Nat.reduceEqDiff, Nat.reduceAdd, Nat.reduceMul, Nat.reduceLeDiff, Int.reduceEq, Int.reduceLT, Int.reduceLE, Int.reduceAdd, Int.reduceSub, Int.reduceNeg, Int.reduceMul, Int.reduceToNat, Int.cast_ofNat_Int, Int.natCast_zero, Nat.add_zero, reduceCtorEq, hc.len, hlen]
      exact hQ _ _ (Ends.ret rfl ⟨by simp [tupOf, stockOk, hlen'], rfl⟩)
theorem does_s_StockOk (K : Codes P I) {H : Heap} {cs : List C} {s : Stock} {F : List Nat} (h : RStock H cs s F) : Does P I.s_StockOk [.agg cs] H fun v H' => v = bool (stockOk s) ∧ H' = H := by
  have h0 := h
  obtain ⟨c, rfl, hc⟩ := h
  have htop := hc.top
  refine K.does K.s_StockOk rfl fun Q hQ => ?_
  simp only [go_sem, Nat.reduceEqDiff, Nat.reduceAdd, Nat.reduceMul, Nat.reduceLeDiff, Int.reduceEq, Int.reduceLT, Int.reduceLE, Int.reduceAdd, Int.reduceSub, Int.reduceNeg, Int.reduceMul, Int.reduceToNat, Int.cast_ofNat_Int, Int.natCast_zero, Nat.add_zero, reduceCtorEq, L_s_StockOk]
  refine RU_loop (fun m t => ∃ i : Nat, m = s.holds.length - i ∧ i ≤ s.holds.length ∧ t.H = H ∧ t.env 1 = .box [.int .i64 s.room, c] ∧ t.env 3 = .val (int i) ∧ (s.holds.take i).all holdOk = true) s.holds.length ⟨0, by simp, by simp, rfl, rfl, rfl, rfl⟩ ?_
  rintro m t ⟨i, rfl, hi, hH, g1, g3, ha⟩ Q' hN hE hR
  by_cases hlt : (i : Int) < s.holds.length
  · obtain ⟨x, hx⟩ := get_lt hlt
    obtain ⟨b1, o1, bs1, cs1, f1, rfl, e1, e2, ⟨rfl, _⟩, _, _⟩ := hc.get hx
    simp only [go_sem, Nat.reduceEqDiff, Nat.reduceAdd, Nat.reduceMul, Nat.reduceLeDiff, Int.reduceEq, Int.reduceLT, Int.reduceLE, Int.reduceAdd, Int.reduceSub, Int.reduceNeg, Int.reduceMul, Int.reduceToNat, Int.cast_ofNat_Int, Int.natCast_zero, Nat.add_zero, reduceCtorEq, g1, g3, hlt, hH, e1, e2]
    refine Does.test (does_s_l2Hold K) ?_
    cases hx1 : holdOk ⟨x.many, x.state⟩ with
    | false =>
      simp only [go_sem, Nat.reduceEqDiff, Nat.reduceAdd, Nat.reduceMul, Nat.reduceLeDiff, Int.reduceEq, Int.reduceLT, Int.reduceLE, Int.reduceAdd, Int.reduceSub, Int.reduceNeg, Int.reduceMul, Int.reduceToNat, Int.cast_ofNat_Int, Int.natCast_zero, Nat.add_zero, reduceCtorEq]
      refine hR _ (hQ _ _ (Ends.ret rfl ⟨?_, by simp [hH]⟩))
      have : s.holds.all holdOk = false := all_false hx hx1
      simp [tupOf, stockOk, this]
    | true =>
      simp only [go_sem, Nat.reduceEqDiff, Nat.reduceAdd, Nat.reduceMul, Nat.reduceLeDiff, Int.reduceEq, Int.reduceLT, Int.reduceLE, Int.reduceAdd, Int.reduceSub, Int.reduceNeg, Int.reduceMul, Int.reduceToNat, Int.cast_ofNat_Int, Int.natCast_zero, Nat.add_zero, reduceCtorEq, g3, wrap_succ (show i ≤ lenTop by omega)]
      exact hN _ _ (by omega) ⟨i + 1, rfl, by omega, by simp [hH], by simp [upd, g1], by simp [upd], take_all hx ha hx1⟩
  · simp only [go_sem, Nat.reduceEqDiff, Nat.reduceAdd, Nat.reduceMul, Nat.reduceLeDiff, Int.reduceEq, Int.reduceLT, Int.reduceLE, Int.reduceAdd, Int.reduceSub, Int.reduceNeg, Int.reduceMul, Int.reduceToNat, Int.cast_ofNat_Int, Int.natCast_zero, Nat.add_zero, reduceCtorEq, g1, g3, hlt, hH, hc.len]
    refine hE _ _ ?_
    rw [List.take_of_length_le (by omega)] at ha
    simp only [go_sem, Nat.reduceEqDiff, Nat.reduceAdd, Nat.reduceMul, Nat.reduceLeDiff, Int.reduceEq, Int.reduceLT, Int.reduceLE, Int.reduceAdd, Int.reduceSub, Int.reduceNeg, Int.reduceMul, Int.reduceToNat, Int.cast_ofNat_Int, Int.natCast_zero, Nat.add_zero, reduceCtorEq, g1, hc.len]
    refine Does.test (does_s_l6In K) ?_
    cases hroom : inB s.room 0 9 with
    | false =>
      simp only [go_sem, Nat.reduceEqDiff, Nat.reduceAdd, Nat.reduceMul, Nat.reduceLeDiff, Int.reduceEq, Int.reduceLT, Int.reduceLE, Int.reduceAdd, Int.reduceSub, Int.reduceNeg, Int.reduceMul, Int.reduceToNat, Int.cast_ofNat_Int, Int.natCast_zero, Nat.add_zero, reduceCtorEq]
      exact hQ _ _ (Ends.ret rfl ⟨by simp [tupOf, stockOk, hroom], rfl⟩)
    | true =>
      by_cases hlen : (s.holds.length : Int) = 6
      · have hlen' : s.holds.length = 6 := by omega
        simp only [go_sem, Nat.reduceEqDiff, Nat.reduceAdd, Nat.reduceMul, Nat.reduceLeDiff, Int.reduceEq, Int.reduceLT, Int.reduceLE, Int.reduceAdd, Int.reduceSub, Int.reduceNeg, Int.reduceMul, Int.reduceToNat, Int.cast_ofNat_Int, Int.natCast_zero, Nat.add_zero, reduceCtorEq, g1, hc.len, hlen]
        refine Does.test (does_s_l2Free K h0 (by simpa [inB] using hroom) hlen' (List.all_eq_true.1 ha)) ?_
        simp only [go_sem, Nat.reduceEqDiff, Nat.reduceAdd, Nat.reduceMul, Nat.reduceLeDiff, Int.reduceEq, Int.reduceLT, Int.reduceLE, Int.reduceAdd, Int.reduceSub, Int.reduceNeg, Int.reduceMul, Int.reduceToNat, Int.cast_ofNat_Int, Int.natCast_zero, Nat.add_zero, reduceCtorEq]
        exact hQ _ _ (Ends.ret rfl ⟨by simp [tupOf, stockOk, hroom, hlen', ha], rfl⟩)
      · have hlen' : ¬ s.holds.length = 6 := by omega
        simp only [go_sem, Nat.reduceEqDiff, Nat.reduceAdd, Nat.reduceMul, Nat.reduceLeDiff, Int.reduceEq, Int.reduceLT, Int.reduceLE, Int.reduceAdd, Int.reduceSub, Int.reduceNeg, Int.reduceMul, Int.reduceToNat, Int.cast_ofNat_Int, Int.natCast_zero, Nat.add_zero, reduceCtorEq, g1, hc.len, hlen]
        exact hQ _ _ (Ends.ret rfl ⟨by simp [tupOf, stockOk, hlen'], rfl⟩)
end Go.AX

/- What records do to stocks: the program and the reference do the same. Condition: the data lie in memory. -/
namespace Go.AX
variable {P : Program} {I : Ids}
theorem RHold.cells {H : Heap} {cs : List C} {x : Hold} {F : List Nat} (h : RHold H cs x F) : cs.length = 2 := by rw [h.1]; rfl
theorem stock_at {s : Stock} {r : Rec} (hs : stockOk s = true) (hr : recOk r = true) : ∃ i, (r.trip - 1).toNat = i ∧ r.trip = (i : Nat) + 1 ∧ i < s.holds.length ∧ s.holds[i]? = some (holdAt s r.trip) ∧ IntKind.wrap .i64 (r.trip - 1) = (i : Int) ∧ (i : Int) < s.holds.length := by
  obtain ⟨_, hlen, _, _⟩ := stockOk_parts hs
  have ht := recOk_trip hr
  refine ⟨(r.trip - 1).toNat, rfl, by omega, by omega, holdAt_get hlen ht.1 ht.2, ?_, by omega⟩
  rw [wrap_i64 (by omega) (by omega)]; omega
theorem does_i_StockMay (K : Codes P I) {H : Heap} {cs ds : List C} {s : Stock} {r : Rec} {F G : List Nat} (h : RStock H cs s F) (hr : RRec H ds r G) : Does P I.i_StockMay [.agg cs, .agg ds] H fun v H' => v = bool (stockMay s r) ∧ H' = H := by
  have h0 := h
  have hr0 := hr
  obtain ⟨c, rfl, hc⟩ := h
  obtain ⟨cm, rfl, hm⟩ := hr
  refine K.does K.i_StockMay rfl fun Q hQ => ?_
  simp only [go_sem, Nat.reduceEqDiff, Nat.reduceAdd, Nat.reduceMul, Nat.reduceLeDiff, Int.reduceEq, Int.reduceLT, Int.reduceLE, Int.reduceAdd, Int.reduceSub, Int.reduceNeg, Int.reduceMul, Int.reduceToNat, Int.cast_ofNat_Int, Int.natCast_zero, Nat.add_zero, reduceCtorEq, L_i_StockMay]
  refine Does.test (does_i_StockOk K h0) ?_
  cases hok : stockOk s with
  | false =>
    simp only [go_sem, Nat.reduceEqDiff, Nat.reduceAdd, Nat.reduceMul, Nat.reduceLeDiff, Int.reduceEq, Int.reduceLT, Int.reduceLE, Int.reduceAdd, Int.reduceSub, Int.reduceNeg, Int.reduceMul, Int.reduceToNat, Int.cast_ofNat_Int, Int.natCast_zero, Nat.add_zero, reduceCtorEq]
    exact hQ _ _ (Ends.ret rfl ⟨by simp [tupOf, stockMay, hok], rfl⟩)
  | true =>
    simp only [go_sem, Nat.reduceEqDiff, Nat.reduceAdd, Nat.reduceMul, Nat.reduceLeDiff, Int.reduceEq, Int.reduceLT, Int.reduceLE, Int.reduceAdd, Int.reduceSub, Int.reduceNeg, Int.reduceMul, Int.reduceToNat, Int.cast_ofNat_Int, Int.natCast_zero, Nat.add_zero, reduceCtorEq]
    refine Does.test (does_i_RecOk K hr0) ?_
    cases hrk : recOk r with
    | false =>
      simp only [go_sem, Nat.reduceEqDiff, Nat.reduceAdd, Nat.reduceMul, Nat.reduceLeDiff, Int.reduceEq, Int.reduceLT, Int.reduceLE, Int.reduceAdd, Int.reduceSub, Int.reduceNeg, Int.reduceMul, Int.reduceToNat, Int.cast_ofNat_Int, Int.natCast_zero, Nat.add_zero, reduceCtorEq]
      exact hQ _ _ (Ends.ret rfl ⟨by simp [tupOf, stockMay, hrk], rfl⟩)
    | true =>
      obtain ⟨hroom, hlen, hall, hfree⟩ := stockOk_parts hok
      obtain ⟨i, q1, q2, q3, q4, q5, q6⟩ := stock_at hok hrk
      obtain ⟨b1, o1, bs1, cs1, f1, rfl, e1, e2, ⟨rfl, _⟩, _, _⟩ := hc.get q4
      have ld1 := slab_sub e2 1 1 (by simp)
      simp only [slabAt1, slabSkip1] at ld1
      by_cases k1 : r.kind = 1
      · obtain ⟨n, hn, _, _⟩ := recOk_hold hrk k1
        rw [hn] at hm
        obtain ⟨b2, o2, bs2, cs2, f2, rfl, g1, g2, ⟨rfl, _⟩, _⟩ := hm.get0
        simp only [Nat.zero_mul, Nat.add_zero] at g2
        simp only [go_sem, Nat.reduceEqDiff, Nat.reduceAdd, Nat.reduceMul, Nat.reduceLeDiff, Int.reduceEq, Int.reduceLT, Int.reduceLE, Int.reduceAdd, Int.reduceSub, Int.reduceNeg, Int.reduceMul, Int.reduceToNat, Int.cast_ofNat_Int, Int.natCast_zero, Nat.add_zero, reduceCtorEq, q5, q6, e1, ld1, k1]
        refine RU_code_regionZ (zOne b2 bs2) (zOne_holds g1) ?_
        by_cases s0 : (holdAt s r.trip).state = 0
        · simp only [go_sem, Nat.reduceEqDiff, Nat.reduceAdd, Nat.reduceMul, Nat.reduceLeDiff, Int.reduceEq, Int.reduceLT, Int.reduceLE, Int.reduceAdd, Int.reduceSub, Int.reduceNeg, Int.reduceMul, Int.reduceToNat, Int.cast_ofNat_Int, Int.natCast_zero, Nat.add_zero, reduceCtorEq, q5, q6, e1, ld1, k1, s0, g1, g2, Int.natCast_one, Int.ofNat_one, Nat.zero_mul, RUh_zOne g1]
          refine Does.test (does_i_Stock_free K h0 hroom hlen hall) ?_
          simp only [go_sem, Nat.reduceEqDiff, Nat.reduceAdd, Nat.reduceMul, Nat.reduceLeDiff, Int.reduceEq, Int.reduceLT, Int.reduceLE, Int.reduceAdd, Int.reduceSub, Int.reduceNeg, Int.reduceMul, Int.reduceToNat, Int.cast_ofNat_Int, Int.natCast_zero, Nat.add_zero, reduceCtorEq, RUh_zOne g1]
          exact hQ _ _ (Ends.ret rfl ⟨by simp [tupOf, stockMay, hok, hrk, stockMayB, k1, s0, first, hn], rfl⟩)
        · simp only [go_sem, Nat.reduceEqDiff, Nat.reduceAdd, Nat.reduceMul, Nat.reduceLeDiff, Int.reduceEq, Int.reduceLT, Int.reduceLE, Int.reduceAdd, Int.reduceSub, Int.reduceNeg, Int.reduceMul, Int.reduceToNat, Int.cast_ofNat_Int, Int.natCast_zero, Nat.add_zero, reduceCtorEq, q5, q6, e1, ld1, k1, s0, RUh_zOne g1]
          exact hQ _ _ (Ends.ret rfl ⟨by simp [tupOf, stockMay, hok, hrk, stockMayB, k1, s0], rfl⟩)
      · by_cases k2 : r.kind = 2
        · simp only [go_sem, Nat.reduceEqDiff, Nat.reduceAdd, Nat.reduceMul, Nat.reduceLeDiff, Int.reduceEq, Int.reduceLT, Int.reduceLE, Int.reduceAdd, Int.reduceSub, Int.reduceNeg, Int.reduceMul, Int.reduceToNat, Int.cast_ofNat_Int, Int.natCast_zero, Nat.add_zero, reduceCtorEq, q5, q6, e1, ld1, k1, k2]
          exact hQ _ _ (Ends.ret rfl ⟨by simp [tupOf, stockMay, hok, hrk, stockMayB, k2], rfl⟩)
        · by_cases k3 : r.kind = 3
          · by_cases s1 : (holdAt s r.trip).state = 1
            · simp only [go_sem, Nat.reduceEqDiff, Nat.reduceAdd, Nat.reduceMul, Nat.reduceLeDiff, Int.reduceEq, Int.reduceLT, Int.reduceLE, Int.reduceAdd, Int.reduceSub, Int.reduceNeg, Int.reduceMul, Int.reduceToNat, Int.cast_ofNat_Int, Int.natCast_zero, Nat.add_zero, reduceCtorEq, q5, q6, e1, ld1, k1, k2, k3, s1]
              exact hQ _ _ (Ends.ret rfl ⟨by simp [tupOf, stockMay, hok, hrk, stockMayB, k3, s1], rfl⟩)
            · simp only [go_sem, Nat.reduceEqDiff, Nat.reduceAdd, Nat.reduceMul, Nat.reduceLeDiff, Int.reduceEq, Int.reduceLT, Int.reduceLE, Int.reduceAdd, Int.reduceSub, Int.reduceNeg, Int.reduceMul, Int.reduceToNat, Int.cast_ofNat_Int, Int.natCast_zero, Nat.add_zero, reduceCtorEq, q5, q6, e1, ld1, k1, k2, k3, s1]
              exact hQ _ _ (Ends.ret rfl ⟨by simp [tupOf, stockMay, hok, hrk, stockMayB, k3, s1], rfl⟩)
          · simp only [go_sem, Nat.reduceEqDiff, Nat.reduceAdd, Nat.reduceMul, Nat.reduceLeDiff, Int.reduceEq, Int.reduceLT, Int.reduceLE, Int.reduceAdd, Int.reduceSub, Int.reduceNeg, Int.reduceMul, Int.reduceToNat, Int.cast_ofNat_Int, Int.natCast_zero, Nat.add_zero, reduceCtorEq, q5, q6, e1, ld1, k1, k2, k3]
            exact hQ _ _ (Ends.ret rfl ⟨by simp [tupOf, stockMay, hok, hrk, stockMayB, k1, k2, k3], rfl⟩)
theorem does_s_l2May (K : Codes P I) {H : Heap} {cs ds : List C} {s : Stock} {r : Rec} {F G : List Nat} (h : RStock H cs s F) (hr : RRec H ds r G) (hok : stockOk s = true) (hrk : recOk r = true) : Does P I.s_l2May [.agg cs, .agg ds] H fun v H' => v = bool (stockMayB s r) ∧ H' = H := by
  have h0 := h
  obtain ⟨c, rfl, hc⟩ := h
  obtain ⟨cm, rfl, hm⟩ := hr
  refine K.does K.s_l2May rfl fun Q hQ => ?_
  obtain ⟨hroom, hlen, hall, hfree⟩ := stockOk_parts hok
  obtain ⟨i, q1, q2, q3, q4, q5, q6⟩ := stock_at hok hrk
  obtain ⟨b1, o1, bs1, cs1, f1, rfl, e1, e2, ⟨rfl, _⟩, _, _⟩ := hc.get q4
  have ld1 := slab_sub e2 1 1 (by simp)
  simp only [slabAt1, slabSkip1] at ld1
  by_cases k1 : r.kind = 1
  · obtain ⟨n, hn, _, _⟩ := recOk_hold hrk k1
    rw [hn] at hm
    obtain ⟨b2, o2, bs2, cs2, f2, rfl, g1, g2, ⟨rfl, _⟩, _⟩ := hm.get0
    simp only [Nat.zero_mul, Nat.add_zero] at g2
    simp only [go_sem, Nat.reduceEqDiff, Nat.reduceAdd, Nat.reduceMul, Nat.reduceLeDiff, Int.reduceEq, Int.reduceLT, Int.reduceLE, Int.reduceAdd, Int.reduceSub, Int.reduceNeg, Int.reduceMul, Int.reduceToNat, Int.cast_ofNat_Int, Int.natCast_zero, Nat.add_zero, reduceCtorEq, L_s_l2May, q5, q6, e1, ld1, k1]
    refine RU_code_regionZ (zOne b2 bs2) (zOne_holds g1) ?_
    by_cases s0 : (holdAt s r.trip).state = 0
    · simp only [go_sem, Nat.reduceEqDiff, Nat.reduceAdd, Nat.reduceMul, Nat.reduceLeDiff, Int.reduceEq, Int.reduceLT, Int.reduceLE, Int.reduceAdd, Int.reduceSub, Int.reduceNeg, Int.reduceMul, Int.reduceToNat, Int.cast_ofNat_Int, Int.natCast_zero, Nat.add_zero, reduceCtorEq, q5, q6, e1, ld1, k1, s0, g1, g2, Int.natCast_one, Int.ofNat_one, Nat.zero_mul, RUh_zOne g1]
      refine Does.test (does_s_l2Free K h0 hroom hlen hall) ?_
      simp only [go_sem, Nat.reduceEqDiff, Nat.reduceAdd, Nat.reduceMul, Nat.reduceLeDiff, Int.reduceEq, Int.reduceLT, Int.reduceLE, Int.reduceAdd, Int.reduceSub, Int.reduceNeg, Int.reduceMul, Int.reduceToNat, Int.cast_ofNat_Int, Int.natCast_zero, Nat.add_zero, reduceCtorEq, RUh_zOne g1]
      exact hQ _ _ (Ends.ret rfl ⟨by simp [tupOf, stockMayB, k1, s0, first, hn], rfl⟩)
    · simp only [go_sem, Nat.reduceEqDiff, Nat.reduceAdd, Nat.reduceMul, Nat.reduceLeDiff, Int.reduceEq, Int.reduceLT, Int.reduceLE, Int.reduceAdd, Int.reduceSub, Int.reduceNeg, Int.reduceMul, Int.reduceToNat, Int.cast_ofNat_Int, Int.natCast_zero, Nat.add_zero, reduceCtorEq, q5, q6, e1, ld1, k1, s0, RUh_zOne g1]
      exact hQ _ _ (Ends.ret rfl ⟨by simp [tupOf, stockMayB, k1, s0], rfl⟩)
  · by_cases k2 : r.kind = 2
    · simp only [go_sem, Nat.reduceEqDiff, Nat.reduceAdd, Nat.reduceMul, Nat.reduceLeDiff, Int.reduceEq, Int.reduceLT, Int.reduceLE, Int.reduceAdd, Int.reduceSub, Int.reduceNeg, Int.reduceMul, Int.reduceToNat, Int.cast_ofNat_Int, Int.natCast_zero, Nat.add_zero, reduceCtorEq, L_s_l2May, q5, q6, e1, ld1, k1, k2]
      exact hQ _ _ (Ends.ret rfl ⟨by simp [tupOf, stockMayB, k2], rfl⟩)
    · by_cases k3 : r.kind = 3
      · by_cases s1 : (holdAt s r.trip).state = 1
        · simp only [go_sem, Nat.reduceEqDiff, Nat.reduceAdd, Nat.reduceMul, Nat.reduceLeDiff, Int.reduceEq, Int.reduceLT, Int.reduceLE, Int.reduceAdd, Int.reduceSub, Int.reduceNeg, Int.reduceMul, Int.reduceToNat, Int.cast_ofNat_Int, Int.natCast_zero, Nat.add_zero, reduceCtorEq, L_s_l2May, q5, q6, e1, ld1, k1, k2, k3, s1]
          exact hQ _ _ (Ends.ret rfl ⟨by simp [tupOf, stockMayB, k3, s1], rfl⟩)
        · simp only [go_sem, Nat.reduceEqDiff, Nat.reduceAdd, Nat.reduceMul, Nat.reduceLeDiff, Int.reduceEq, Int.reduceLT, Int.reduceLE, Int.reduceAdd, Int.reduceSub, Int.reduceNeg, Int.reduceMul, Int.reduceToNat, Int.cast_ofNat_Int, Int.natCast_zero, Nat.add_zero, reduceCtorEq, L_s_l2May, q5, q6, e1, ld1, k1, k2, k3, s1]
          exact hQ _ _ (Ends.ret rfl ⟨by simp [tupOf, stockMayB, k3, s1], rfl⟩)
      · simp only [go_sem, Nat.reduceEqDiff, Nat.reduceAdd, Nat.reduceMul, Nat.reduceLeDiff, Int.reduceEq, Int.reduceLT, Int.reduceLE, Int.reduceAdd, Int.reduceSub, Int.reduceNeg, Int.reduceMul, Int.reduceToNat, Int.cast_ofNat_Int, Int.natCast_zero, Nat.add_zero, reduceCtorEq, L_s_l2May, q5, q6, e1, ld1, k1, k2, k3]
        exact hQ _ _ (Ends.ret rfl ⟨by simp [tupOf, stockMayB, k1, k2, k3], rfl⟩)
theorem does_s_StockMay (K : Codes P I) {H : Heap} {cs ds : List C} {s : Stock} {r : Rec} {F G : List Nat} (h : RStock H cs s F) (hr : RRec H ds r G) : Does P I.s_StockMay [.agg cs, .agg ds] H fun v H' => v = bool (stockMay s r) ∧ H' = H := by
  obtain ⟨x0, x1, rfl⟩ := len2 h.cells
  obtain ⟨y0, y1, y2, rfl⟩ := len3 hr.cells
  refine K.does K.s_StockMay rfl fun Q hQ => ?_
  simp only [go_sem, Nat.reduceEqDiff, Nat.reduceAdd, Nat.reduceMul, Nat.reduceLeDiff, Int.reduceEq, Int.reduceLT, Int.reduceLE, Int.reduceAdd, Int.reduceSub, Int.reduceNeg, Int.reduceMul, Int.reduceToNat, Int.cast_ofNat_Int, Int.natCast_zero, Nat.add_zero, reduceCtorEq, L_s_StockMay]
  refine Does.test (does_s_StockOk K h) ?_
  cases hok : stockOk s with
  | false =>
    simp only [go_sem, Nat.reduceEqDiff, Nat.reduceAdd, Nat.reduceMul, Nat.reduceLeDiff, Int.reduceEq, Int.reduceLT, Int.reduceLE, Int.reduceAdd, Int.reduceSub, Int.reduceNeg, Int.reduceMul, Int.reduceToNat, Int.cast_ofNat_Int, Int.natCast_zero, Nat.add_zero, reduceCtorEq]
    exact hQ _ _ (Ends.ret rfl ⟨by simp [tupOf, stockMay, hok], rfl⟩)
  | true =>
    simp only [go_sem, Nat.reduceEqDiff, Nat.reduceAdd, Nat.reduceMul, Nat.reduceLeDiff, Int.reduceEq, Int.reduceLT, Int.reduceLE, Int.reduceAdd, Int.reduceSub, Int.reduceNeg, Int.reduceMul, Int.reduceToNat, Int.cast_ofNat_Int, Int.natCast_zero, Nat.add_zero, reduceCtorEq]
    refine Does.test (does_s_RecOk K hr) ?_
    cases hrk : recOk r with
    | false =>
      simp only [go_sem, Nat.reduceEqDiff, Nat.reduceAdd, Nat.reduceMul, Nat.reduceLeDiff, Int.reduceEq, Int.reduceLT, Int.reduceLE, Int.reduceAdd, Int.reduceSub, Int.reduceNeg, Int.reduceMul, Int.reduceToNat, Int.cast_ofNat_Int, Int.natCast_zero, Nat.add_zero, reduceCtorEq]
      exact hQ _ _ (Ends.ret rfl ⟨by simp [tupOf, stockMay, hrk], rfl⟩)
    | true =>
      simp only [go_sem, Nat.reduceEqDiff, Nat.reduceAdd, Nat.reduceMul, Nat.reduceLeDiff, Int.reduceEq, Int.reduceLT, Int.reduceLE, Int.reduceAdd, Int.reduceSub, Int.reduceNeg, Int.reduceMul, Int.reduceToNat, Int.cast_ofNat_Int, Int.natCast_zero, Nat.add_zero, reduceCtorEq]
      refine Does.test (does_s_l2May K h hr hok hrk) ?_
      simp only [go_sem, Nat.reduceEqDiff, Nat.reduceAdd, Nat.reduceMul, Nat.reduceLeDiff, Int.reduceEq, Int.reduceLT, Int.reduceLE, Int.reduceAdd, Int.reduceSub, Int.reduceNeg, Int.reduceMul, Int.reduceToNat, Int.cast_ofNat_Int, Int.natCast_zero, Nat.add_zero, reduceCtorEq]
      exact hQ _ _ (Ends.ret rfl ⟨by simp [tupOf, stockMay, hok, hrk], rfl⟩)
def stockDoV (s : Stock) (r : Rec) : Stock := if stockMay s r = true then stockDoL s r else stock0
theorem rstock0 {H : Heap} : RStock H [.int .i64 0, .nil] stock0 [] := ⟨.nil, rfl, .nil⟩
theorem may_kinds {s : Stock} {r : Rec} (h : stockMayB s r = true) (k1 : r.kind ≠ 1) (k2 : r.kind ≠ 2) : r.kind = 3 := by
  unfold stockMayB at h
  rw [if_neg k1, if_neg k2] at h
  split at h
  · assumption
  · cases h
theorem stockDoL_set {s : Stock} {r : Rec} {i : Nat} (h : (r.trip - 1).toNat = i) : stockDoL s r = ⟨s.room, s.holds.set i (holdDo (holdAt s r.trip) r)⟩ := by unfold stockDoL; rw [h]
set_option maxHeartbeats 1000000 in
theorem does_i_StockDo (K : Codes P I) {H : Heap} {cs ds : List C} {s : Stock} {r : Rec} {F G : List Nat} (h : RStock H cs s F) (hr : RRec H ds r G) : Does P I.i_StockDo [.agg cs, .agg ds] H fun v H' => ∃ cs' F', v = .tup [.agg cs', .c (.bool (stockMay s r))] ∧ Step [] H H' F' ∧ RStock H' cs' (stockDoV s r) F' := by
  have h0 := h
  have hr0 := hr
  obtain ⟨c, rfl, hc⟩ := h
  obtain ⟨cm, rfl, hm⟩ := hr
  refine K.does K.i_StockDo rfl fun Q hQ => ?_
  simp only [go_sem, Nat.reduceEqDiff, Nat.reduceAdd, Nat.reduceMul, Nat.reduceLeDiff, Int.reduceEq, Int.reduceLT, Int.reduceLE, Int.reduceAdd, Int.reduceSub, Int.reduceNeg, Int.reduceMul, Int.reduceToNat, Int.cast_ofNat_Int, Int.natCast_zero, Nat.add_zero, reduceCtorEq, L_i_StockDo]
  refine Does.test (does_i_StockMay K h0 hr0) ?_
  cases hmay : stockMay s r with
  | false =>
    simp only [go_sem, Nat.reduceEqDiff, Nat.reduceAdd, Nat.reduceMul, Nat.reduceLeDiff, Int.reduceEq, Int.reduceLT, Int.reduceLE, Int.reduceAdd, Int.reduceSub, Int.reduceNeg, Int.reduceMul, Int.reduceToNat, Int.cast_ofNat_Int, Int.natCast_zero, Nat.add_zero, reduceCtorEq]
    exact hQ _ _ (Ends.ret rfl ⟨[.int .i64 0, .nil], [], by simp [tupOf, hmay], Step.refl H, by rw [stockDoV, if_neg (by simp [hmay])]; exact rstock0⟩)
  | true =>
    have hV : stockDoV s r = stockDoL s r := by rw [stockDoV, if_pos hmay]
    have hmay2 := hmay
    simp only [stockMay, Bool.and_eq_true] at hmay2
    obtain ⟨hok, hrk, hmb⟩ := hmay2
    obtain ⟨hroom, hlen, hall, hfree⟩ := stockOk_parts hok
    obtain ⟨i, q1, q2, q3, q4, q5, q6⟩ := stock_at hok hrk
    have hS := stockDoL_set (s := s) q1
    simp only [go_sem, Nat.reduceEqDiff, Nat.reduceAdd, Nat.reduceMul, Nat.reduceLeDiff, Int.reduceEq, Int.reduceLT, Int.reduceLE, Int.reduceAdd, Int.reduceSub, Int.reduceNeg, Int.reduceMul, Int.reduceToNat, Int.cast_ofNat_Int, Int.natCast_zero, Nat.add_zero, reduceCtorEq]
    refine Does.call (does_g_Clone_Hold K hc (by unfold lenMax; omega)) ?_
    rintro _ H1 ⟨c1, F1, rfl, s1, h1⟩
    replace s1 : Step [] H H1 F1 := s1
    have hm1 := s1.keepSl RInt.good hm fun b _ => by simp
    by_cases k1 : r.kind = 1
    · obtain ⟨n, hn, _, _⟩ := recOk_hold hrk k1
      rw [hn] at hm1
      obtain ⟨b2, o2, bs2, cs2, f2, rfl, g1, g2, ⟨rfl, _⟩, _⟩ := hm1.get0
      simp only [Nat.zero_mul, Nat.add_zero] at g2
      obtain ⟨b, off, bs, H2, e1, e2, e3, e4, e5, e6⟩ := hold_set h1 s1.owned q4 ⟨n, 1⟩
      subst e1
      simp only [go_sem, Nat.reduceEqDiff, Nat.reduceAdd, Nat.reduceMul, Nat.reduceLeDiff, Int.reduceEq, Int.reduceLT, Int.reduceLE, Int.reduceAdd, Int.reduceSub, Int.reduceNeg, Int.reduceMul, Int.reduceToNat, Int.cast_ofNat_Int, Int.natCast_zero, Nat.add_zero, reduceCtorEq, q5, q6, k1, g1, g2, Int.natCast_one, Int.ofNat_one, Nat.zero_mul, e2, e3, e4]
      exact hQ _ _ (Ends.ret rfl ⟨[.int .i64 s.room, .sl b off s.holds.length], F1, by simp [tupOf, hmay], s1.trans e6, by rw [hV, hS]; exact ⟨_, rfl, by simpa [holdDo, k1, first, hn] using e5⟩⟩)
    · by_cases k2 : r.kind = 2
      · obtain ⟨b, off, bs, H2, e1, e2, e3, e4, e5, e6⟩ := hold_st h1 s1.owned q4 2
        subst e1
        simp only [go_sem, Nat.reduceEqDiff, Nat.reduceAdd, Nat.reduceMul, Nat.reduceLeDiff, Int.reduceEq, Int.reduceLT, Int.reduceLE, Int.reduceAdd, Int.reduceSub, Int.reduceNeg, Int.reduceMul, Int.reduceToNat, Int.cast_ofNat_Int, Int.natCast_zero, Nat.add_zero, reduceCtorEq, q5, q6, k1, k2, e2, e3, e4]
        exact hQ _ _ (Ends.ret rfl ⟨[.int .i64 s.room, .sl b off s.holds.length], F1, by simp [tupOf, hmay], s1.trans e6, by rw [hV, hS]; exact ⟨_, rfl, by simpa [holdDo, k2] using e5⟩⟩)
      · have k3 := may_kinds hmb k1 k2
        obtain ⟨b, off, bs, H2, e1, e2, e3, e4, e5, e6⟩ := hold_st h1 s1.owned q4 3
        subst e1
        simp only [go_sem, Nat.reduceEqDiff, Nat.reduceAdd, Nat.reduceMul, Nat.reduceLeDiff, Int.reduceEq, Int.reduceLT, Int.reduceLE, Int.reduceAdd, Int.reduceSub, Int.reduceNeg, Int.reduceMul, Int.reduceToNat, Int.cast_ofNat_Int, Int.natCast_zero, Nat.add_zero, reduceCtorEq, q5, q6, k1, k2, k3, e2, e3, e4]
        exact hQ _ _ (Ends.ret rfl ⟨[.int .i64 s.room, .sl b off s.holds.length], F1, by simp [tupOf, hmay], s1.trans e6, by rw [hV, hS]; exact ⟨_, rfl, by simpa [holdDo, k3] using e5⟩⟩)
set_option maxHeartbeats 1000000 in
theorem does_s_l2Do (K : Codes P I) {H : Heap} {cs ds : List C} {s : Stock} {r : Rec} {F G : List Nat} (h : RStock H cs s F) (ho : Owned H F) (hr : RRec H ds r G) (hok : stockOk s = true) (hrk : recOk r = true) (hmb : stockMayB s r = true) :
    Does P I.s_l2Do [.agg cs, .agg ds] H fun v H' => ∃ cs', v = .val (.agg cs') ∧ Step F H H' F ∧ RStock H' cs' (stockDoL s r) F := by
  obtain ⟨c, rfl, hc⟩ := h
  obtain ⟨cm, rfl, hm⟩ := hr
  refine K.does K.s_l2Do rfl fun Q hQ => ?_
  obtain ⟨hroom, hlen, hall, hfree⟩ := stockOk_parts hok
  obtain ⟨i, q1, q2, q3, q4, q5, q6⟩ := stock_at hok hrk
  have hS := stockDoL_set (s := s) q1
  obtain ⟨b, off, bs, H2, e1, e2, e3, e4, e5, e6⟩ := hold_set hc ho q4 (holdDo (holdAt s r.trip) r)
  obtain ⟨b3, o3, bs3, cs3, f3, e7, e8, e9, ⟨rfl, _⟩, _, _⟩ := hc.get q4
  rw [e1] at e7
  cases e7
  subst e1
  by_cases k1 : r.kind = 1
  · obtain ⟨n, hn, _, _⟩ := recOk_hold hrk k1
    rw [hn] at hm
    obtain ⟨b2, o2, bs2, cs2, f2, rfl, g1, g2, ⟨rfl, _⟩, _⟩ := hm.get0
    simp only [Nat.zero_mul, Nat.add_zero] at g2
    simp only [holdDo, k1, if_true, first, hn, List.headD_cons] at e4
    simp only [go_sem, Nat.reduceEqDiff, Nat.reduceAdd, Nat.reduceMul, Nat.reduceLeDiff, Int.reduceEq, Int.reduceLT, Int.reduceLE, Int.reduceAdd, Int.reduceSub, Int.reduceNeg, Int.reduceMul, Int.reduceToNat, Int.cast_ofNat_Int, Int.natCast_zero, Nat.add_zero, reduceCtorEq, L_s_l2Do, q5, q6, k1, e8, e9, g1, g2, Int.natCast_one, Int.ofNat_one, Nat.zero_mul, e2, e3, e4]
    exact hQ _ _ (Ends.ret rfl ⟨_, rfl, e6, by rw [hS]; exact ⟨_, rfl, e5⟩⟩)
  · by_cases k2 : r.kind = 2
    · simp only [holdDo, k2, Int.reduceEq, if_true, if_false] at e4
      simp only [go_sem, Nat.reduceEqDiff, Nat.reduceAdd, Nat.reduceMul, Nat.reduceLeDiff, Int.reduceEq, Int.reduceLT, Int.reduceLE, Int.reduceAdd, Int.reduceSub, Int.reduceNeg, Int.reduceMul, Int.reduceToNat, Int.cast_ofNat_Int, Int.natCast_zero, Nat.add_zero, reduceCtorEq, L_s_l2Do, q5, q6, k1, k2, e8, e9, e2, e3, e4]
      exact hQ _ _ (Ends.ret rfl ⟨_, rfl, e6, by rw [hS]; exact ⟨_, rfl, e5⟩⟩)
    · have k3 := may_kinds hmb k1 k2
      simp only [holdDo, k3, Int.reduceEq, if_true, if_false] at e4
      simp only [go_sem, Nat.reduceEqDiff, Nat.reduceAdd, Nat.reduceMul, Nat.reduceLeDiff, Int.reduceEq, Int.reduceLT, Int.reduceLE, Int.reduceAdd, Int.reduceSub, Int.reduceNeg, Int.reduceMul, Int.reduceToNat, Int.cast_ofNat_Int, Int.natCast_zero, Nat.add_zero, reduceCtorEq, L_s_l2Do, q5, q6, k1, k2, k3, e8, e9, e2, e3, e4]
      exact hQ _ _ (Ends.ret rfl ⟨_, rfl, e6, by rw [hS]; exact ⟨_, rfl, e5⟩⟩)
theorem rstockN {H : Heap} {room : Int} : RStock (H ++ [⟨.rw, 2, rep 6 [.int .i64 0, .int .i64 0]⟩]) [.int .i64 room, .sl H.length 0 6] (stockN room) [H.length] := ⟨_, rfl, show SlR 2 RHold _ _ (List.replicate 6 (⟨0, 0⟩ : Hold)) _ from sl_make (z := [.int .i64 0, .int .i64 0]) rfl (fun _ => ⟨rfl, rfl⟩) (by unfold lenTop; omega)⟩
theorem does_i_StockNew (K : Codes P I) {H : Heap} {room : Int} : Does P I.i_StockNew [int room] H fun v H' => ∃ cs F, v = .tup [.agg cs, .c (.bool (inB room 0 9))] ∧ Step [] H H' F ∧ RStock H' cs (stockNewV room) F := by
  refine K.does K.i_StockNew rfl fun Q hQ => ?_
  have hle : (6 : Int) ≤ ((lenMax : Nat) : Int) := by unfold lenMax; omega
  simp only [go_sem, Nat.reduceEqDiff, Nat.reduceAdd, Nat.reduceMul, Nat.reduceLeDiff, Int.reduceEq, Int.reduceLT, Int.reduceLE, Int.reduceAdd, Int.reduceSub, Int.reduceNeg, Int.reduceMul, Int.reduceToNat, Int.cast_ofNat_Int, Int.natCast_zero, Nat.add_zero, reduceCtorEq, L_i_StockNew]
  refine Does.test (does_i_in K) ?_
  cases hr : inB room 0 9 with
  | false =>
    simp only [go_sem, Nat.reduceEqDiff, Nat.reduceAdd, Nat.reduceMul, Nat.reduceLeDiff, Int.reduceEq, Int.reduceLT, Int.reduceLE, Int.reduceAdd, Int.reduceSub, Int.reduceNeg, Int.reduceMul, Int.reduceToNat, Int.cast_ofNat_Int, Int.natCast_zero, Nat.add_zero, reduceCtorEq]
    exact hQ _ _ (Ends.ret rfl ⟨_, [], by simp [tupOf, hr]; rfl, Step.refl H, by rw [stockNewV, if_neg (by simp [hr])]; exact rstock0⟩)
  | true =>
    simp only [go_sem, Nat.reduceEqDiff, Nat.reduceAdd, Nat.reduceMul, Nat.reduceLeDiff, Int.reduceEq, Int.reduceLT, Int.reduceLE, Int.reduceAdd, Int.reduceSub, Int.reduceNeg, Int.reduceMul, Int.reduceToNat, Int.cast_ofNat_Int, Int.natCast_zero, Nat.add_zero, reduceCtorEq, hle]
    exact hQ _ _ (Ends.ret rfl ⟨_, _, by simp [tupOf, hr]; rfl, step_new, by rw [stockNewV, if_pos hr]; exact rstockN⟩)
theorem does_s_StockNew (K : Codes P I) {H : Heap} {room : Int} : Does P I.s_StockNew [int room] H fun v H' => ∃ cs F, v = .tup [.agg cs, .c (.bool (inB room 0 9))] ∧ Step [] H H' F ∧ RStock H' cs (stockNewV room) F := by
  refine K.does K.s_StockNew rfl fun Q hQ => ?_
  have hle : (6 : Int) ≤ ((lenMax : Nat) : Int) := by unfold lenMax; omega
  simp only [go_sem, Nat.reduceEqDiff, Nat.reduceAdd, Nat.reduceMul, Nat.reduceLeDiff, Int.reduceEq, Int.reduceLT, Int.reduceLE, Int.reduceAdd, Int.reduceSub, Int.reduceNeg, Int.reduceMul, Int.reduceToNat, Int.cast_ofNat_Int, Int.natCast_zero, Nat.add_zero, reduceCtorEq, L_s_StockNew]
  refine Does.test (does_s_l6In K) ?_
  cases hr : inB room 0 9 with
  | false =>
    simp only [go_sem, Nat.reduceEqDiff, Nat.reduceAdd, Nat.reduceMul, Nat.reduceLeDiff, Int.reduceEq, Int.reduceLT, Int.reduceLE, Int.reduceAdd, Int.reduceSub, Int.reduceNeg, Int.reduceMul, Int.reduceToNat, Int.cast_ofNat_Int, Int.natCast_zero, Nat.add_zero, reduceCtorEq]
    exact hQ _ _ (Ends.ret rfl ⟨_, [], by simp [tupOf, hr]; rfl, Step.refl H, by rw [stockNewV, if_neg (by simp [hr])]; exact rstock0⟩)
  | true =>
    simp only [go_sem, Nat.reduceEqDiff, Nat.reduceAdd, Nat.reduceMul, Nat.reduceLeDiff, Int.reduceEq, Int.reduceLT, Int.reduceLE, Int.reduceAdd, Int.reduceSub, Int.reduceNeg, Int.reduceMul, Int.reduceToNat, Int.cast_ofNat_Int, Int.natCast_zero, Nat.add_zero, reduceCtorEq, hle]
    exact hQ _ _ (Ends.ret rfl ⟨_, _, by simp [tupOf, hr]; rfl, step_new, by rw [stockNewV, if_pos hr]; exact rstockN⟩)

theorem stockOf_next {room : Int} {recs : List Rec} {i : Nat} {s : Stock} {x : Rec} (h : stockOf room (recs.take i) = some s) (hx : recs[i]? = some x) (hg : (recOk x && stockMayB s x) = true) : stockOf room (recs.take (i + 1)) = some (stockDoL s x) := by
  rw [take_snoc hx, stockOf_snoc, h]; simp only [stockStep, Option.bind_some, hg, if_true]
theorem stockOf_fail {room : Int} {recs : List Rec} {i : Nat} {s : Stock} {x : Rec} (h : stockOf room (recs.take i) = some s) (hx : recs[i]? = some x) (hg : (recOk x && stockMayB s x) = false) : stockOf room recs = none := by
  cases ho : stockOf room recs with
  | none => rfl
  | some s' =>
    obtain ⟨t, ht⟩ := stockOf_take ho (i + 1)
    rw [take_snoc hx, stockOf_snoc, h] at ht
    simp only [stockStep, Option.bind_some, hg] at ht
    cases ht
def stockD (room : Int) (recs : List Rec) : Stock := (stockOf room recs).getD stock0
theorem stockOf_room {room : Int} {recs : List Rec} (h : inB room 0 9 = false) : stockOf room recs = none := by
  unfold stockOf; rw [if_neg (by simp [h])]; exact foldl_stock_none recs
theorem stockOf_zero {room : Int} {recs : List Rec} (h : inB room 0 9 = true) : stockOf room (recs.take 0) = some (stockN room) := by
  unfold stockOf; rw [if_pos h]; rfl
theorem does_s_l2Of (K : Codes P I) {H : Heap} {c : C} {room : Int} {recs : List Rec} {F : List Nat} (h : Recs H c recs F) :
    Does P I.s_l2Of [int room, .c c] H fun v H' => ∃ cs F', v = .tup [.agg cs, .c (.bool (stockOf room recs).isSome)] ∧ Step [] H H' F' ∧ RStock H' cs (stockD room recs) F' := by
  refine K.does K.s_l2Of rfl fun Q hQ => ?_
  have htop := h.top
  simp only [go_sem, Nat.reduceEqDiff, Nat.reduceAdd, Nat.reduceMul, Nat.reduceLeDiff, Int.reduceEq, Int.reduceLT, Int.reduceLE, Int.reduceAdd, Int.reduceSub, Int.reduceNeg, Int.reduceMul, Int.reduceToNat, Int.cast_ofNat_Int, Int.natCast_zero, Nat.add_zero, reduceCtorEq, L_s_l2Of]
  refine Does.call (does_s_StockNew K) ?_
  rintro _ H1 ⟨cs, F1, rfl, s1, h1⟩
  obtain ⟨x0, x1, rfl⟩ := len2 h1.cells
  cases hroom : inB room 0 9 with
  | false =>
    simp only [go_sem, Nat.reduceEqDiff, Nat.reduceAdd, Nat.reduceMul, Nat.reduceLeDiff, Int.reduceEq, Int.reduceLT, Int.reduceLE, Int.reduceAdd, Int.reduceSub, Int.reduceNeg, Int.reduceMul, Int.reduceToNat, Int.cast_ofNat_Int, Int.natCast_zero, Nat.add_zero, reduceCtorEq]
    exact hQ _ _ (Ends.ret rfl ⟨[.int .i64 0, .nil], [], by simp [tupOf, stockOf_room hroom], s1.less (by simp), by simp only [stockD, stockOf_room hroom, Option.getD_none]; exact rstock0⟩)
  | true =>
    rw [stockNewV, if_pos hroom] at h1
    simp only [go_sem, Nat.reduceEqDiff, Nat.reduceAdd, Nat.reduceMul, Nat.reduceLeDiff, Int.reduceEq, Int.reduceLT, Int.reduceLE, Int.reduceAdd, Int.reduceSub, Int.reduceNeg, Int.reduceMul, Int.reduceToNat, Int.cast_ofNat_Int, Int.natCast_zero, Nat.add_zero, reduceCtorEq]
    refine RU_loop (fun m t => ∃ i : Nat, m = recs.length - i ∧ i ≤ recs.length ∧ t.env 1 = .val (.c c) ∧ t.env 4 = .box [.int .i64 0, .nil] ∧ t.env 8 = .val (int i) ∧ ∃ s cs F', stockOf room (recs.take i) = some s ∧ t.env 6 = .box cs ∧ cs.length = 2 ∧ Step [] H t.H F' ∧ RStock t.H cs s F') recs.length
      ⟨0, by simp, by simp, rfl, rfl, rfl, _, _, _, stockOf_zero hroom, rfl, rfl, s1, h1⟩ ?_
    rintro m t ⟨i, rfl, hi, g1, g4, g8, s, cs, F', hs0, g6, hcs, hs, hr⟩ Q' hN hE hR
    obtain ⟨y0, y1, rfl⟩ := len2 hcs
    have h2 := hs.keepSl RRec.good h fun b _ => by simp
    by_cases hlt : (i : Int) < recs.length
    · obtain ⟨x, hx⟩ := get_lt hlt
      obtain ⟨b1, o1, bs1, cs1, f1, rfl, e1, e2, hrx, hcl, _⟩ := h2.get hx
      obtain ⟨z0, z1, z2, rfl⟩ := len3 hcl
      simp only [go_sem, Nat.reduceEqDiff, Nat.reduceAdd, Nat.reduceMul, Nat.reduceLeDiff, Int.reduceEq, Int.reduceLT, Int.reduceLE, Int.reduceAdd, Int.reduceSub, Int.reduceNeg, Int.reduceMul, Int.reduceToNat, Int.cast_ofNat_Int, Int.natCast_zero, Nat.add_zero, reduceCtorEq, g1, g4, g6, g8, hlt, e1, e2]
      refine Does.test (does_s_RecOk K hrx) ?_
      cases hrk : recOk x with
      | false =>
        have hn := stockOf_fail hs0 hx (by simp [hrk])
        simp only [go_sem, Nat.reduceEqDiff, Nat.reduceAdd, Nat.reduceMul, Nat.reduceLeDiff, Int.reduceEq, Int.reduceLT, Int.reduceLE, Int.reduceAdd, Int.reduceSub, Int.reduceNeg, Int.reduceMul, Int.reduceToNat, Int.cast_ofNat_Int, Int.natCast_zero, Nat.add_zero, reduceCtorEq, g4]
        exact hR _ (hQ _ _ (Ends.ret rfl ⟨[.int .i64 0, .nil], [], by simp [tupOf, hn], hs.less (by simp), by simp only [stockD, hn, Option.getD_none]; exact rstock0⟩))
      | true =>
        simp only [go_sem, Nat.reduceEqDiff, Nat.reduceAdd, Nat.reduceMul, Nat.reduceLeDiff, Int.reduceEq, Int.reduceLT, Int.reduceLE, Int.reduceAdd, Int.reduceSub, Int.reduceNeg, Int.reduceMul, Int.reduceToNat, Int.cast_ofNat_Int, Int.natCast_zero, Nat.add_zero, reduceCtorEq, g1, g4, g6, g8, hlt, e1, e2]
        refine Does.test (does_s_l2May K hr hrx (stockOf_ok hs0) hrk) ?_
        cases hmb : stockMayB s x with
        | false =>
          have hn := stockOf_fail hs0 hx (by simp [hmb])
          simp only [go_sem, Nat.reduceEqDiff, Nat.reduceAdd, Nat.reduceMul, Nat.reduceLeDiff, Int.reduceEq, Int.reduceLT, Int.reduceLE, Int.reduceAdd, Int.reduceSub, Int.reduceNeg, Int.reduceMul, Int.reduceToNat, Int.cast_ofNat_Int, Int.natCast_zero, Nat.add_zero, reduceCtorEq, g4]
          exact hR _ (hQ _ _ (Ends.ret rfl ⟨[.int .i64 0, .nil], [], by simp [tupOf, hn], hs.less (by simp), by simp only [stockD, hn, Option.getD_none]; exact rstock0⟩))
        | true =>
          simp only [go_sem, Nat.reduceEqDiff, Nat.reduceAdd, Nat.reduceMul, Nat.reduceLeDiff, Int.reduceEq, Int.reduceLT, Int.reduceLE, Int.reduceAdd, Int.reduceSub, Int.reduceNeg, Int.reduceMul, Int.reduceToNat, Int.cast_ofNat_Int, Int.natCast_zero, Nat.add_zero, reduceCtorEq, g1, g4, g6, g8, hlt, e1, e2]
          refine Does.call (does_s_l2Do K hr hs.owned hrx (stockOf_ok hs0) hrk hmb) ?_
          rintro _ H3 ⟨cs3, rfl, s3, h3⟩
          obtain ⟨w0, w1, rfl⟩ := len2 h3.cells
          simp only [go_sem, Nat.reduceEqDiff, Nat.reduceAdd, Nat.reduceMul, Nat.reduceLeDiff, Int.reduceEq, Int.reduceLT, Int.reduceLE, Int.reduceAdd, Int.reduceSub, Int.reduceNeg, Int.reduceMul, Int.reduceToNat, Int.cast_ofNat_Int, Int.natCast_zero, Nat.add_zero, reduceCtorEq, g1, g4, g6, g8, wrap_succ (show i ≤ lenTop by omega)]
          exact hN _ _ (by omega) ⟨i + 1, rfl, by omega, by simp [upd, g1], by simp [upd, g4], by simp [upd], _, _, F', stockOf_next hs0 hx (by simp [hrk, hmb]), by simp [upd], rfl, hs.trans s3, h3⟩
    · simp only [go_sem, Nat.reduceEqDiff, Nat.reduceAdd, Nat.reduceMul, Nat.reduceLeDiff, Int.reduceEq, Int.reduceLT, Int.reduceLE, Int.reduceAdd, Int.reduceSub, Int.reduceNeg, Int.reduceMul, Int.reduceToNat, Int.cast_ofNat_Int, Int.natCast_zero, Nat.add_zero, reduceCtorEq, g1, g8, hlt, h2.len]
      refine hE _ _ ?_
      rw [List.take_of_length_le (by omega)] at hs0
      simp only [go_sem, Nat.reduceEqDiff, Nat.reduceAdd, Nat.reduceMul, Nat.reduceLeDiff, Int.reduceEq, Int.reduceLT, Int.reduceLE, Int.reduceAdd, Int.reduceSub, Int.reduceNeg, Int.reduceMul, Int.reduceToNat, Int.cast_ofNat_Int, Int.natCast_zero, Nat.add_zero, reduceCtorEq, g4, g6]
      exact hQ _ _ (Ends.ret rfl ⟨_, F', by simp [tupOf, hs0]; rfl, hs, by simp only [stockD, hs0, Option.getD_some]; exact hr⟩)
theorem does_i_StockOf (K : Codes P I) {H : Heap} {c : C} {room : Int} {recs : List Rec} {F : List Nat} (h : Recs H c recs F) :
    Does P I.i_StockOf [int room, .c c] H fun v H' => ∃ cs F', v = .tup [.agg cs, .c (.bool (stockOf room recs).isSome)] ∧ Step [] H H' F' ∧ RStock H' cs (stockD room recs) F' := by
  refine K.does K.i_StockOf rfl fun Q hQ => ?_
  have htop := h.top
  simp only [go_sem, Nat.reduceEqDiff, Nat.reduceAdd, Nat.reduceMul, Nat.reduceLeDiff, Int.reduceEq, Int.reduceLT, Int.reduceLE, Int.reduceAdd, Int.reduceSub, Int.reduceNeg, Int.reduceMul, Int.reduceToNat, Int.cast_ofNat_Int, Int.natCast_zero, Nat.add_zero, reduceCtorEq, L_i_StockOf]
  refine Does.call (does_i_StockNew K) ?_
  rintro _ H1 ⟨cs, F1, rfl, s1, h1⟩
  obtain ⟨x0, x1, rfl⟩ := len2 h1.cells
  simp only [go_sem, Nat.reduceEqDiff, Nat.reduceAdd, Nat.reduceMul, Nat.reduceLeDiff, Int.reduceEq, Int.reduceLT, Int.reduceLE, Int.reduceAdd, Int.reduceSub, Int.reduceNeg, Int.reduceMul, Int.reduceToNat, Int.cast_ofNat_Int, Int.natCast_zero, Nat.add_zero, reduceCtorEq]
  refine RU_loop (fun m t => ∃ i : Nat, m = recs.length + 1 - i ∧ i ≤ recs.length ∧ t.env 1 = .val (.c c) ∧ t.env 4 = .box [.int .i64 0, .nil] ∧ t.env 8 = .val (int i) ∧ ((∃ s cs F', stockOf room (recs.take i) = some s ∧ t.env 7 = bool true ∧ t.env 6 = .box cs ∧ cs.length = 2 ∧ Step [] H t.H F' ∧ RStock t.H cs s F') ∨ (∃ cs F', stockOf room recs = none ∧ t.env 7 = bool false ∧ t.env 6 = .box cs ∧ cs.length = 2 ∧ Step [] H t.H F' ∧ RStock t.H cs stock0 F'))) (recs.length + 1)
    ⟨0, by simp, by simp, rfl, rfl, rfl, by
      cases hroom : inB room 0 9 with
      | true => rw [stockNewV, if_pos hroom] at h1; exact .inl ⟨_, _, _, stockOf_zero hroom, by simp [upd, hroom], rfl, rfl, s1, h1⟩
      | false => rw [stockNewV, if_neg (by simp [hroom])] at h1; exact .inr ⟨_, _, stockOf_room hroom, by simp [upd, hroom], rfl, rfl, s1, h1⟩⟩ ?_
  rintro m t ⟨i, rfl, hi, g1, g4, g8, hc⟩ Q' hN hE hR
  rcases hc with ⟨s, cs, F', hs0, g7, g6, hcs, hs, hr⟩ | ⟨cs, F', hn, g7, g6, hcs, hs, hr⟩
  · obtain ⟨y0, y1, rfl⟩ := len2 hcs
    have h2 := hs.keepSl RRec.good h fun b _ => by simp
    by_cases hlt : (i : Int) < recs.length
    · obtain ⟨x, hx⟩ := get_lt hlt
      obtain ⟨b1, o1, bs1, cs1, f1, rfl, e1, e2, hrx, hcl, _⟩ := h2.get hx
      obtain ⟨z0, z1, z2, rfl⟩ := len3 hcl
      simp only [go_sem, Nat.reduceEqDiff, Nat.reduceAdd, Nat.reduceMul, Nat.reduceLeDiff, Int.reduceEq, Int.reduceLT, Int.reduceLE, Int.reduceAdd, Int.reduceSub, Int.reduceNeg, Int.reduceMul, Int.reduceToNat, Int.cast_ofNat_Int, Int.natCast_zero, Nat.add_zero, reduceCtorEq, g1, g4, g6, g7, g8, hlt, e1, e2, h2.len]
      refine Does.call (does_i_StockDo K hr hrx) ?_
      rintro _ H3 ⟨cs3, F3, rfl, s3, h3⟩
      obtain ⟨w0, w1, rfl⟩ := len2 h3.cells
      have hok := stockOf_ok hs0
      have hmay : stockMay s x = (recOk x && stockMayB s x) := by simp [stockMay, hok]
      have t3 : Step [] H H3 F3 := (hs.with s3).less (by simp)
      simp only [go_sem, Nat.reduceEqDiff, Nat.reduceAdd, Nat.reduceMul, Nat.reduceLeDiff, Int.reduceEq, Int.reduceLT, Int.reduceLE, Int.reduceAdd, Int.reduceSub, Int.reduceNeg, Int.reduceMul, Int.reduceToNat, Int.cast_ofNat_Int, Int.natCast_zero, Nat.add_zero, reduceCtorEq, g1, g4, g6, g7, g8, wrap_succ (show i ≤ lenTop by omega)]
      cases hg : (recOk x && stockMayB s x) with
      | true =>
        rw [stockDoV, if_pos (by rw [hmay, hg])] at h3
        exact hN _ _ (by omega) ⟨i + 1, rfl, by omega, by simp [upd, g1], by simp [upd, g4], by simp [upd], .inl ⟨_, _, F3, stockOf_next hs0 hx hg, by simp [upd, hmay, hg], by simp [upd], rfl, t3, h3⟩⟩
      | false =>
        rw [stockDoV, if_neg (by rw [hmay, hg]; simp)] at h3
        exact hN _ _ (by omega) ⟨i + 1, rfl, by omega, by simp [upd, g1], by simp [upd, g4], by simp [upd], .inr ⟨_, F3, stockOf_fail hs0 hx hg, by simp [upd, hmay, hg], by simp [upd], rfl, t3, h3⟩⟩
    · simp only [go_sem, Nat.reduceEqDiff, Nat.reduceAdd, Nat.reduceMul, Nat.reduceLeDiff, Int.reduceEq, Int.reduceLT, Int.reduceLE, Int.reduceAdd, Int.reduceSub, Int.reduceNeg, Int.reduceMul, Int.reduceToNat, Int.cast_ofNat_Int, Int.natCast_zero, Nat.add_zero, reduceCtorEq, g1, g7, g8, hlt, h2.len]
      refine hE _ _ ?_
      rw [List.take_of_length_le (by omega)] at hs0
      simp only [go_sem, Nat.reduceEqDiff, Nat.reduceAdd, Nat.reduceMul, Nat.reduceLeDiff, Int.reduceEq, Int.reduceLT, Int.reduceLE, Int.reduceAdd, Int.reduceSub, Int.reduceNeg, Int.reduceMul, Int.reduceToNat, Int.cast_ofNat_Int, Int.natCast_zero, Nat.add_zero, reduceCtorEq, g4, g6, g7]
      exact hQ _ _ (Ends.ret rfl ⟨_, F', by simp [tupOf, hs0]; rfl, hs, by simp only [stockD, hs0, Option.getD_some]; exact hr⟩)
  · obtain ⟨y0, y1, rfl⟩ := len2 hcs
    simp only [go_sem, Nat.reduceEqDiff, Nat.reduceAdd, Nat.reduceMul, Nat.reduceLeDiff, Int.reduceEq, Int.reduceLT, Int.reduceLE, Int.reduceAdd, Int.reduceSub, Int.reduceNeg, Int.reduceMul, Int.reduceToNat, Int.cast_ofNat_Int, Int.natCast_zero, Nat.add_zero, reduceCtorEq, g1, g7, g8]
    refine hE _ _ ?_
    simp only [go_sem, Nat.reduceEqDiff, Nat.reduceAdd, Nat.reduceMul, Nat.reduceLeDiff, Int.reduceEq, Int.reduceLT, Int.reduceLE, Int.reduceAdd, Int.reduceSub, Int.reduceNeg, Int.reduceMul, Int.reduceToNat, Int.cast_ofNat_Int, Int.natCast_zero, Nat.add_zero, reduceCtorEq, g4, g6, g7]
    exact hQ _ _ (Ends.ret rfl ⟨_, F', by simp [tupOf, hn]; rfl, hs, by simp only [stockD, hn, Option.getD_none]; exact hr⟩)
theorem does_i_WordOk (K : Codes P I) {H : Heap} {cs : List C} {w : Word} {F : List Nat} (h : RWord H cs w F) : Does P I.i_WordOk [.agg cs] H fun v H' => v = bool (wordOk w) ∧ H' = H := by
  obtain ⟨rfl, rfl⟩ := h
  refine K.does K.i_WordOk rfl fun Q hQ => ?_
  by_cases k1 : w.kind = 1
  · simp only [go_sem, Nat.reduceEqDiff, Nat.reduceAdd, Nat.reduceMul, Nat.reduceLeDiff, Int.reduceEq, Int.reduceLT, Int.reduceLE, Int.reduceAdd, Int.reduceSub, Int.reduceNeg, Int.reduceMul, Int.reduceToNat, Int.cast_ofNat_Int, Int.natCast_zero, Nat.add_zero, reduceCtorEq, L_i_WordOk, k1]
    refine Does.test (does_i_in K) ?_
    simp only [go_sem, Nat.reduceEqDiff, Nat.reduceAdd, Nat.reduceMul, Nat.reduceLeDiff, Int.reduceEq, Int.reduceLT, Int.reduceLE, Int.reduceAdd, Int.reduceSub, Int.reduceNeg, Int.reduceMul, Int.reduceToNat, Int.cast_ofNat_Int, Int.natCast_zero, Nat.add_zero, reduceCtorEq, k1]
    refine Does.test (does_i_in K) ?_
    cases hk : inB 1 1 7 with
    | false =>
      simp only [go_sem, Nat.reduceEqDiff, Nat.reduceAdd, Nat.reduceMul, Nat.reduceLeDiff, Int.reduceEq, Int.reduceLT, Int.reduceLE, Int.reduceAdd, Int.reduceSub, Int.reduceNeg, Int.reduceMul, Int.reduceToNat, Int.cast_ofNat_Int, Int.natCast_zero, Nat.add_zero, reduceCtorEq]
      exact hQ _ _ (Ends.ret rfl ⟨by simp [tupOf, wordOk, hk, k1], rfl⟩)
    | true =>
      simp only [go_sem, Nat.reduceEqDiff, Nat.reduceAdd, Nat.reduceMul, Nat.reduceLeDiff, Int.reduceEq, Int.reduceLT, Int.reduceLE, Int.reduceAdd, Int.reduceSub, Int.reduceNeg, Int.reduceMul, Int.reduceToNat, Int.cast_ofNat_Int, Int.natCast_zero, Nat.add_zero, reduceCtorEq]
      refine Does.test (does_i_isHouse K) ?_
      cases hh : inB w.house 1 3 with
      | false =>
        simp only [go_sem, Nat.reduceEqDiff, Nat.reduceAdd, Nat.reduceMul, Nat.reduceLeDiff, Int.reduceEq, Int.reduceLT, Int.reduceLE, Int.reduceAdd, Int.reduceSub, Int.reduceNeg, Int.reduceMul, Int.reduceToNat, Int.cast_ofNat_Int, Int.natCast_zero, Nat.add_zero, reduceCtorEq]
        exact hQ _ _ (Ends.ret rfl ⟨by simp [tupOf, wordOk, hh], rfl⟩)
      | true =>
        simp only [go_sem, Nat.reduceEqDiff, Nat.reduceAdd, Nat.reduceMul, Nat.reduceLeDiff, Int.reduceEq, Int.reduceLT, Int.reduceLE, Int.reduceAdd, Int.reduceSub, Int.reduceNeg, Int.reduceMul, Int.reduceToNat, Int.cast_ofNat_Int, Int.natCast_zero, Nat.add_zero, reduceCtorEq]
        refine Does.test (does_i_isTrip K) ?_
        cases ht : inB w.trip 1 6 with
        | false =>
          simp only [go_sem, Nat.reduceEqDiff, Nat.reduceAdd, Nat.reduceMul, Nat.reduceLeDiff, Int.reduceEq, Int.reduceLT, Int.reduceLE, Int.reduceAdd, Int.reduceSub, Int.reduceNeg, Int.reduceMul, Int.reduceToNat, Int.cast_ofNat_Int, Int.natCast_zero, Nat.add_zero, reduceCtorEq]
          exact hQ _ _ (Ends.ret rfl ⟨by simp [tupOf, wordOk, ht], rfl⟩)
        | true =>
          simp only [go_sem, Nat.reduceEqDiff, Nat.reduceAdd, Nat.reduceMul, Nat.reduceLeDiff, Int.reduceEq, Int.reduceLT, Int.reduceLE, Int.reduceAdd, Int.reduceSub, Int.reduceNeg, Int.reduceMul, Int.reduceToNat, Int.cast_ofNat_Int, Int.natCast_zero, Nat.add_zero, reduceCtorEq]
          exact hQ _ _ (Ends.ret rfl ⟨by simp [tupOf, wordOk, hk, hh, ht, k1], rfl⟩)
  · simp only [go_sem, Nat.reduceEqDiff, Nat.reduceAdd, Nat.reduceMul, Nat.reduceLeDiff, Int.reduceEq, Int.reduceLT, Int.reduceLE, Int.reduceAdd, Int.reduceSub, Int.reduceNeg, Int.reduceMul, Int.reduceToNat, Int.cast_ofNat_Int, Int.natCast_zero, Nat.add_zero, reduceCtorEq, L_i_WordOk, k1]
    refine Does.test (does_i_in K) ?_
    cases hk : inB w.kind 1 7 with
    | false =>
      simp only [go_sem, Nat.reduceEqDiff, Nat.reduceAdd, Nat.reduceMul, Nat.reduceLeDiff, Int.reduceEq, Int.reduceLT, Int.reduceLE, Int.reduceAdd, Int.reduceSub, Int.reduceNeg, Int.reduceMul, Int.reduceToNat, Int.cast_ofNat_Int, Int.natCast_zero, Nat.add_zero, reduceCtorEq]
      exact hQ _ _ (Ends.ret rfl ⟨by simp [tupOf, wordOk, hk, k1], rfl⟩)
    | true =>
      simp only [go_sem, Nat.reduceEqDiff, Nat.reduceAdd, Nat.reduceMul, Nat.reduceLeDiff, Int.reduceEq, Int.reduceLT, Int.reduceLE, Int.reduceAdd, Int.reduceSub, Int.reduceNeg, Int.reduceMul, Int.reduceToNat, Int.cast_ofNat_Int, Int.natCast_zero, Nat.add_zero, reduceCtorEq]
      refine Does.test (does_i_isHouse K) ?_
      cases hh : inB w.house 1 3 with
      | false =>
        simp only [go_sem, Nat.reduceEqDiff, Nat.reduceAdd, Nat.reduceMul, Nat.reduceLeDiff, Int.reduceEq, Int.reduceLT, Int.reduceLE, Int.reduceAdd, Int.reduceSub, Int.reduceNeg, Int.reduceMul, Int.reduceToNat, Int.cast_ofNat_Int, Int.natCast_zero, Nat.add_zero, reduceCtorEq]
        exact hQ _ _ (Ends.ret rfl ⟨by simp [tupOf, wordOk, hh], rfl⟩)
      | true =>
        simp only [go_sem, Nat.reduceEqDiff, Nat.reduceAdd, Nat.reduceMul, Nat.reduceLeDiff, Int.reduceEq, Int.reduceLT, Int.reduceLE, Int.reduceAdd, Int.reduceSub, Int.reduceNeg, Int.reduceMul, Int.reduceToNat, Int.cast_ofNat_Int, Int.natCast_zero, Nat.add_zero, reduceCtorEq]
        refine Does.test (does_i_isTrip K) ?_
        cases ht : inB w.trip 1 6 with
        | false =>
          simp only [go_sem, Nat.reduceEqDiff, Nat.reduceAdd, Nat.reduceMul, Nat.reduceLeDiff, Int.reduceEq, Int.reduceLT, Int.reduceLE, Int.reduceAdd, Int.reduceSub, Int.reduceNeg, Int.reduceMul, Int.reduceToNat, Int.cast_ofNat_Int, Int.natCast_zero, Nat.add_zero, reduceCtorEq]
          exact hQ _ _ (Ends.ret rfl ⟨by simp [tupOf, wordOk, ht], rfl⟩)
        | true =>
          simp only [go_sem, Nat.reduceEqDiff, Nat.reduceAdd, Nat.reduceMul, Nat.reduceLeDiff, Int.reduceEq, Int.reduceLT, Int.reduceLE, Int.reduceAdd, Int.reduceSub, Int.reduceNeg, Int.reduceMul, Int.reduceToNat, Int.cast_ofNat_Int, Int.natCast_zero, Nat.add_zero, reduceCtorEq]
          exact hQ _ _ (Ends.ret rfl ⟨by simp [tupOf, wordOk, hk, hh, ht, k1], rfl⟩)
theorem does_s_WordOk (K : Codes P I) {H : Heap} {cs : List C} {w : Word} {F : List Nat} (h : RWord H cs w F) : Does P I.s_WordOk [.agg cs] H fun v H' => v = bool (wordOk w) ∧ H' = H := by
  obtain ⟨rfl, rfl⟩ := h
  refine K.does K.s_WordOk rfl fun Q hQ => ?_
  simp only [go_sem, Nat.reduceEqDiff, Nat.reduceAdd, Nat.reduceMul, Nat.reduceLeDiff, Int.reduceEq, Int.reduceLT, Int.reduceLE, Int.reduceAdd, Int.reduceSub, Int.reduceNeg, Int.reduceMul, Int.reduceToNat, Int.cast_ofNat_Int, Int.natCast_zero, Nat.add_zero, reduceCtorEq, L_s_WordOk]
  refine Does.test (does_s_l6In K) ?_
  cases hh : inB w.house 1 3 with
  | false =>
    simp only [go_sem, Nat.reduceEqDiff, Nat.reduceAdd, Nat.reduceMul, Nat.reduceLeDiff, Int.reduceEq, Int.reduceLT, Int.reduceLE, Int.reduceAdd, Int.reduceSub, Int.reduceNeg, Int.reduceMul, Int.reduceToNat, Int.cast_ofNat_Int, Int.natCast_zero, Nat.add_zero, reduceCtorEq]
    exact hQ _ _ (Ends.ret rfl ⟨by simp [tupOf, wordOk, hh], rfl⟩)
  | true =>
    simp only [go_sem, Nat.reduceEqDiff, Nat.reduceAdd, Nat.reduceMul, Nat.reduceLeDiff, Int.reduceEq, Int.reduceLT, Int.reduceLE, Int.reduceAdd, Int.reduceSub, Int.reduceNeg, Int.reduceMul, Int.reduceToNat, Int.cast_ofNat_Int, Int.natCast_zero, Nat.add_zero, reduceCtorEq]
    refine Does.test (does_s_l6In K) ?_
    cases ht : inB w.trip 1 6 with
    | false =>
      simp only [go_sem, Nat.reduceEqDiff, Nat.reduceAdd, Nat.reduceMul, Nat.reduceLeDiff, Int.reduceEq, Int.reduceLT, Int.reduceLE, Int.reduceAdd, Int.reduceSub, Int.reduceNeg, Int.reduceMul, Int.reduceToNat, Int.cast_ofNat_Int, Int.natCast_zero, Nat.add_zero, reduceCtorEq]
      exact hQ _ _ (Ends.ret rfl ⟨by simp [tupOf, wordOk, ht], rfl⟩)
    | true =>
      simp only [go_sem, Nat.reduceEqDiff, Nat.reduceAdd, Nat.reduceMul, Nat.reduceLeDiff, Int.reduceEq, Int.reduceLT, Int.reduceLE, Int.reduceAdd, Int.reduceSub, Int.reduceNeg, Int.reduceMul, Int.reduceToNat, Int.cast_ofNat_Int, Int.natCast_zero, Nat.add_zero, reduceCtorEq]
      refine Does.test (does_s_l6In K) ?_
      cases hk : inB w.kind 1 7 with
      | false =>
        simp only [go_sem, Nat.reduceEqDiff, Nat.reduceAdd, Nat.reduceMul, Nat.reduceLeDiff, Int.reduceEq, Int.reduceLT, Int.reduceLE, Int.reduceAdd, Int.reduceSub, Int.reduceNeg, Int.reduceMul, Int.reduceToNat, Int.cast_ofNat_Int, Int.natCast_zero, Nat.add_zero, reduceCtorEq]
        exact hQ _ _ (Ends.ret rfl ⟨by simp [tupOf, wordOk, hk], rfl⟩)
      | true =>
        by_cases k1 : w.kind = 1
        · simp only [go_sem, Nat.reduceEqDiff, Nat.reduceAdd, Nat.reduceMul, Nat.reduceLeDiff, Int.reduceEq, Int.reduceLT, Int.reduceLE, Int.reduceAdd, Int.reduceSub, Int.reduceNeg, Int.reduceMul, Int.reduceToNat, Int.cast_ofNat_Int, Int.natCast_zero, Nat.add_zero, reduceCtorEq, k1]
          refine Does.test (does_s_l6In K) ?_
          rw [k1] at hk
          simp only [go_sem, Nat.reduceEqDiff, Nat.reduceAdd, Nat.reduceMul, Nat.reduceLeDiff, Int.reduceEq, Int.reduceLT, Int.reduceLE, Int.reduceAdd, Int.reduceSub, Int.reduceNeg, Int.reduceMul, Int.reduceToNat, Int.cast_ofNat_Int, Int.natCast_zero, Nat.add_zero, reduceCtorEq]
          exact hQ _ _ (Ends.ret rfl ⟨by simp [tupOf, wordOk, hk, hh, ht, k1], rfl⟩)
        · simp only [go_sem, Nat.reduceEqDiff, Nat.reduceAdd, Nat.reduceMul, Nat.reduceLeDiff, Int.reduceEq, Int.reduceLT, Int.reduceLE, Int.reduceAdd, Int.reduceSub, Int.reduceNeg, Int.reduceMul, Int.reduceToNat, Int.cast_ofNat_Int, Int.natCast_zero, Nat.add_zero, reduceCtorEq, k1]
          exact hQ _ _ (Ends.ret rfl ⟨by simp [tupOf, wordOk, hk, hh, ht, k1], rfl⟩)
theorem does_i_Word_answer (K : Codes P I) {H : Heap} {cs : List C} {w : Word} {F : List Nat} (h : RWord H cs w F) : Does P I.i_Word_answer [.agg cs] H fun v H' => v = bool (decide (4 ≤ w.kind)) ∧ H' = H := by
  obtain ⟨rfl, rfl⟩ := h
  refine K.does K.i_Word_answer rfl fun Q hQ => ?_
  simp only [go_sem, Nat.reduceEqDiff, Nat.reduceAdd, Nat.reduceMul, Nat.reduceLeDiff, Int.reduceEq, Int.reduceLT, Int.reduceLE, Int.reduceAdd, Int.reduceSub, Int.reduceNeg, Int.reduceMul, Int.reduceToNat, Int.cast_ofNat_Int, Int.natCast_zero, Nat.add_zero, reduceCtorEq, L_i_Word_answer]
  exact hQ _ _ (Ends.ret rfl ⟨rfl, rfl⟩)
end Go.AX

/- Houses: the program and the reference do the same. Condition: the data lie in memory. -/
namespace Go.AX
variable {P : Program} {I : Ids}
theorem rhouse0 {H : Heap} : RHouse H [.int .i64 0, .bool false, .int .i64 0, .nil, .int .i64 0] house0 [] := ⟨.nil, rfl, .nil⟩
theorem does_i_HouseOk (K : Codes P I) {H : Heap} {cs : List C} {h : House} {F : List Nat} (hh : RHouse H cs h F) : Does P I.i_HouseOk [.agg cs] H fun v H' => v = bool (houseOk h) ∧ Step [] H H' [] := by
  obtain ⟨c, rfl, hc⟩ := hh
  refine K.does K.i_HouseOk rfl fun Q hQ => ?_
  simp only [go_sem, Nat.reduceEqDiff, Nat.reduceAdd, Nat.reduceMul, Nat.reduceLeDiff, Int.reduceEq, Int.reduceLT, Int.reduceLE, Int.reduceAdd, Int.reduceSub, Int.reduceNeg, Int.reduceMul, Int.reduceToNat, Int.cast_ofNat_Int, Int.natCast_zero, Nat.add_zero, reduceCtorEq, L_i_HouseOk]
  refine Does.test (does_i_isHouse K) ?_
  cases h1 : inB h.id 1 3 with
  | false =>
    simp only [go_sem, Nat.reduceEqDiff, Nat.reduceAdd, Nat.reduceMul, Nat.reduceLeDiff, Int.reduceEq, Int.reduceLT, Int.reduceLE, Int.reduceAdd, Int.reduceSub, Int.reduceNeg, Int.reduceMul, Int.reduceToNat, Int.cast_ofNat_Int, Int.natCast_zero, Nat.add_zero, reduceCtorEq]
    exact hQ _ _ (Ends.ret rfl ⟨by simp [tupOf, houseOk, h1], Step.refl H⟩)
  | true =>
    simp only [go_sem, Nat.reduceEqDiff, Nat.reduceAdd, Nat.reduceMul, Nat.reduceLeDiff, Int.reduceEq, Int.reduceLT, Int.reduceLE, Int.reduceAdd, Int.reduceSub, Int.reduceNeg, Int.reduceMul, Int.reduceToNat, Int.cast_ofNat_Int, Int.natCast_zero, Nat.add_zero, reduceCtorEq]
    refine Does.test (does_i_LogOk K (show RLog H [c, .int .i64 h.log.forced] h.log F from ⟨c, rfl, hc⟩)) ?_
    cases h2 : logOk h.log with
    | false =>
      simp only [go_sem, Nat.reduceEqDiff, Nat.reduceAdd, Nat.reduceMul, Nat.reduceLeDiff, Int.reduceEq, Int.reduceLT, Int.reduceLE, Int.reduceAdd, Int.reduceSub, Int.reduceNeg, Int.reduceMul, Int.reduceToNat, Int.cast_ofNat_Int, Int.natCast_zero, Nat.add_zero, reduceCtorEq]
      exact hQ _ _ (Ends.ret rfl ⟨by simp [tupOf, houseOk, h2], Step.refl H⟩)
    | true =>
      simp only [go_sem, Nat.reduceEqDiff, Nat.reduceAdd, Nat.reduceMul, Nat.reduceLeDiff, Int.reduceEq, Int.reduceLT, Int.reduceLE, Int.reduceAdd, Int.reduceSub, Int.reduceNeg, Int.reduceMul, Int.reduceToNat, Int.cast_ofNat_Int, Int.natCast_zero, Nat.add_zero, reduceCtorEq]
      refine Does.call (does_i_StockOf K hc) ?_
      rintro _ H1 ⟨cs, F1, rfl, s1, r1⟩
      obtain ⟨x0, x1, rfl⟩ := len2 r1.cells
      simp only [go_sem, Nat.reduceEqDiff, Nat.reduceAdd, Nat.reduceMul, Nat.reduceLeDiff, Int.reduceEq, Int.reduceLT, Int.reduceLE, Int.reduceAdd, Int.reduceSub, Int.reduceNeg, Int.reduceMul, Int.reduceToNat, Int.cast_ofNat_Int, Int.natCast_zero, Nat.add_zero, reduceCtorEq]
      exact hQ _ _ (Ends.ret rfl ⟨by simp [tupOf, houseOk, h1, h2], s1.less (by simp)⟩)
theorem does_s_HouseOk (K : Codes P I) {H : Heap} {cs : List C} {h : House} {F : List Nat} (hh : RHouse H cs h F) : Does P I.s_HouseOk [.agg cs] H fun v H' => v = bool (houseOk h) ∧ Step [] H H' [] := by
  obtain ⟨c, rfl, hc⟩ := hh
  refine K.does K.s_HouseOk rfl fun Q hQ => ?_
  simp only [go_sem, Nat.reduceEqDiff, Nat.reduceAdd, Nat.reduceMul, Nat.reduceLeDiff, Int.reduceEq, Int.reduceLT, Int.reduceLE, Int.reduceAdd, Int.reduceSub, Int.reduceNeg, Int.reduceMul, Int.reduceToNat, Int.cast_ofNat_Int, Int.natCast_zero, Nat.add_zero, reduceCtorEq, L_s_HouseOk]
  refine Does.call (does_s_l2Of K hc) ?_
  rintro _ H1 ⟨cs, F1, rfl, s1, r1⟩
  replace s1 : Step [] H H1 F1 := s1
  have s1' : Step [] H H1 [] := s1.less (by simp)
  obtain ⟨x0, x1, rfl⟩ := len2 r1.cells
  simp only [go_sem, Nat.reduceEqDiff, Nat.reduceAdd, Nat.reduceMul, Nat.reduceLeDiff, Int.reduceEq, Int.reduceLT, Int.reduceLE, Int.reduceAdd, Int.reduceSub, Int.reduceNeg, Int.reduceMul, Int.reduceToNat, Int.cast_ofNat_Int, Int.natCast_zero, Nat.add_zero, reduceCtorEq]
  refine Does.test (does_s_l6In K) ?_
  cases h1 : inB h.id 1 3 with
  | false =>
    simp only [go_sem, Nat.reduceEqDiff, Nat.reduceAdd, Nat.reduceMul, Nat.reduceLeDiff, Int.reduceEq, Int.reduceLT, Int.reduceLE, Int.reduceAdd, Int.reduceSub, Int.reduceNeg, Int.reduceMul, Int.reduceToNat, Int.cast_ofNat_Int, Int.natCast_zero, Nat.add_zero, reduceCtorEq]
    exact hQ _ _ (Ends.ret rfl ⟨by simp [tupOf, houseOk, h1], s1'⟩)
  | true =>
    simp only [go_sem, Nat.reduceEqDiff, Nat.reduceAdd, Nat.reduceMul, Nat.reduceLeDiff, Int.reduceEq, Int.reduceLT, Int.reduceLE, Int.reduceAdd, Int.reduceSub, Int.reduceNeg, Int.reduceMul, Int.reduceToNat, Int.cast_ofNat_Int, Int.natCast_zero, Nat.add_zero, reduceCtorEq]
    refine Does.test (does_s_LogOk K (show RLog H1 [c, .int .i64 h.log.forced] h.log F from ⟨c, rfl, s1.keepSl RRec.good hc fun b _ => by simp⟩)) ?_
    cases h2 : logOk h.log with
    | false =>
      simp only [go_sem, Nat.reduceEqDiff, Nat.reduceAdd, Nat.reduceMul, Nat.reduceLeDiff, Int.reduceEq, Int.reduceLT, Int.reduceLE, Int.reduceAdd, Int.reduceSub, Int.reduceNeg, Int.reduceMul, Int.reduceToNat, Int.cast_ofNat_Int, Int.natCast_zero, Nat.add_zero, reduceCtorEq]
      exact hQ _ _ (Ends.ret rfl ⟨by simp [tupOf, houseOk, h2], s1'⟩)
    | true =>
      simp only [go_sem, Nat.reduceEqDiff, Nat.reduceAdd, Nat.reduceMul, Nat.reduceLeDiff, Int.reduceEq, Int.reduceLT, Int.reduceLE, Int.reduceAdd, Int.reduceSub, Int.reduceNeg, Int.reduceMul, Int.reduceToNat, Int.cast_ofNat_Int, Int.natCast_zero, Nat.add_zero, reduceCtorEq]
      exact hQ _ _ (Ends.ret rfl ⟨by simp [tupOf, houseOk, h1, h2], s1'⟩)
theorem does_i_Log_known (K : Codes P I) {H : Heap} {cs : List C} {l : Log} {F : List Nat} {f : Bool} (h : RLog H cs l F) (hok : logOk l = true) : Does P I.i_Log_known [.agg cs, .c (.bool f)] H fun v H' => ∃ c' F', v = .val (.c c') ∧ H' = H ∧ Recs H' c' (known l f) F' := by
  obtain ⟨c, rfl, hc⟩ := h
  refine K.does K.i_Log_known rfl fun Q hQ => ?_
  obtain ⟨h1, h2, h3, h4⟩ := logOk_parts hok
  cases f with
  | false =>
    simp only [go_sem, Nat.reduceEqDiff, Nat.reduceAdd, Nat.reduceMul, Nat.reduceLeDiff, Int.reduceEq, Int.reduceLT, Int.reduceLE, Int.reduceAdd, Int.reduceSub, Int.reduceNeg, Int.reduceMul, Int.reduceToNat, Int.cast_ofNat_Int, Int.natCast_zero, Nat.add_zero, reduceCtorEq, L_i_Log_known]
    exact hQ _ _ (Ends.ret rfl ⟨c, F, rfl, rfl, hc⟩)
  | true =>
    obtain ⟨c', F', hs, hc', _⟩ := slc_take hc (k := l.forced.toNat) (by omega)
    rw [show ((l.forced.toNat : Nat) : Int) = l.forced by omega] at hs
    simp only [go_sem, Nat.reduceEqDiff, Nat.reduceAdd, Nat.reduceMul, Nat.reduceLeDiff, Int.reduceEq, Int.reduceLT, Int.reduceLE, Int.reduceAdd, Int.reduceSub, Int.reduceNeg, Int.reduceMul, Int.reduceToNat, Int.cast_ofNat_Int, Int.natCast_zero, Nat.add_zero, reduceCtorEq, L_i_Log_known, hs]
    exact hQ _ _ (Ends.ret rfl ⟨c', F', rfl, rfl, hc'⟩)
theorem does_i_House_stock (K : Codes P I) {H : Heap} {cs : List C} {h : House} {F : List Nat} {f : Bool} (hh : RHouse H cs h F) (hok : logOk h.log = true) : Does P I.i_House_stock [.agg cs, .c (.bool f)] H fun v H' => ∃ cs' F', v = .val (.agg cs') ∧ Step [] H H' F' ∧ RStock H' cs' (stockV h f) F' := by
  obtain ⟨c, rfl, hc⟩ := hh
  refine K.does K.i_House_stock rfl fun Q hQ => ?_
  simp only [go_sem, Nat.reduceEqDiff, Nat.reduceAdd, Nat.reduceMul, Nat.reduceLeDiff, Int.reduceEq, Int.reduceLT, Int.reduceLE, Int.reduceAdd, Int.reduceSub, Int.reduceNeg, Int.reduceMul, Int.reduceToNat, Int.cast_ofNat_Int, Int.natCast_zero, Nat.add_zero, reduceCtorEq, L_i_House_stock]
  refine Does.call (does_i_Log_known K (show RLog H [c, .int .i64 h.log.forced] h.log F from ⟨c, rfl, hc⟩) hok) ?_
  rintro _ _ ⟨c', F', rfl, rfl, hc'⟩
  simp only [go_sem, Nat.reduceEqDiff, Nat.reduceAdd, Nat.reduceMul, Nat.reduceLeDiff, Int.reduceEq, Int.reduceLT, Int.reduceLE, Int.reduceAdd, Int.reduceSub, Int.reduceNeg, Int.reduceMul, Int.reduceToNat, Int.cast_ofNat_Int, Int.natCast_zero, Nat.add_zero, reduceCtorEq]
  refine Does.call (does_i_StockOf K hc') ?_
  rintro _ H1 ⟨cs1, F1, rfl, s1, r1⟩
  obtain ⟨x0, x1, rfl⟩ := len2 r1.cells
  simp only [go_sem, Nat.reduceEqDiff, Nat.reduceAdd, Nat.reduceMul, Nat.reduceLeDiff, Int.reduceEq, Int.reduceLT, Int.reduceLE, Int.reduceAdd, Int.reduceSub, Int.reduceNeg, Int.reduceMul, Int.reduceToNat, Int.cast_ofNat_Int, Int.natCast_zero, Nat.add_zero, reduceCtorEq]
  exact hQ _ _ (Ends.ret rfl ⟨_, F1, rfl, s1, r1⟩)
theorem does_s_l11Stock (K : Codes P I) {H : Heap} {cs : List C} {h : House} {F : List Nat} {f : Bool} (hh : RHouse H cs h F) (hok : logOk h.log = true) : Does P I.s_l11Stock [.agg cs, .c (.bool f)] H fun v H' => ∃ cs' F', v = .val (.agg cs') ∧ Step [] H H' F' ∧ RStock H' cs' (stockV h f) F' := by
  obtain ⟨c, rfl, hc⟩ := hh
  refine K.does K.s_l11Stock rfl fun Q hQ => ?_
  obtain ⟨h1, h2, h3, h4⟩ := logOk_parts hok
  cases f with
  | false =>
    obtain ⟨c', F', hs, hc', _⟩ := slc_take hc (k := h.log.recs.length) (Nat.le_refl _)
    rw [List.take_length] at hc'
    simp only [go_sem, Nat.reduceEqDiff, Nat.reduceAdd, Nat.reduceMul, Nat.reduceLeDiff, Int.reduceEq, Int.reduceLT, Int.reduceLE, Int.reduceAdd, Int.reduceSub, Int.reduceNeg, Int.reduceMul, Int.reduceToNat, Int.cast_ofNat_Int, Int.natCast_zero, Nat.add_zero, reduceCtorEq, L_s_l11Stock, hc.len, hs]
    refine Does.call (does_s_l2Of K hc') ?_
    rintro _ H1 ⟨cs1, F1, rfl, s1, r1⟩
    obtain ⟨x0, x1, rfl⟩ := len2 r1.cells
    simp only [go_sem, Nat.reduceEqDiff, Nat.reduceAdd, Nat.reduceMul, Nat.reduceLeDiff, Int.reduceEq, Int.reduceLT, Int.reduceLE, Int.reduceAdd, Int.reduceSub, Int.reduceNeg, Int.reduceMul, Int.reduceToNat, Int.cast_ofNat_Int, Int.natCast_zero, Nat.add_zero, reduceCtorEq]
    exact hQ _ _ (Ends.ret rfl ⟨_, F1, rfl, s1, r1⟩)
  | true =>
    obtain ⟨c', F', hs, hc', _⟩ := slc_take hc (k := h.log.forced.toNat) (by omega)
    rw [show ((h.log.forced.toNat : Nat) : Int) = h.log.forced by omega] at hs
    simp only [go_sem, Nat.reduceEqDiff, Nat.reduceAdd, Nat.reduceMul, Nat.reduceLeDiff, Int.reduceEq, Int.reduceLT, Int.reduceLE, Int.reduceAdd, Int.reduceSub, Int.reduceNeg, Int.reduceMul, Int.reduceToNat, Int.cast_ofNat_Int, Int.natCast_zero, Nat.add_zero, reduceCtorEq, L_s_l11Stock, hc.len, hs]
    refine Does.call (does_s_l2Of K hc') ?_
    rintro _ H1 ⟨cs1, F1, rfl, s1, r1⟩
    obtain ⟨x0, x1, rfl⟩ := len2 r1.cells
    simp only [go_sem, Nat.reduceEqDiff, Nat.reduceAdd, Nat.reduceMul, Nat.reduceLeDiff, Int.reduceEq, Int.reduceLT, Int.reduceLE, Int.reduceAdd, Int.reduceSub, Int.reduceNeg, Int.reduceMul, Int.reduceToNat, Int.cast_ofNat_Int, Int.natCast_zero, Nat.add_zero, reduceCtorEq]
    exact hQ _ _ (Ends.ret rfl ⟨_, F1, rfl, s1, r1⟩)
theorem does_i_HouseStock (K : Codes P I) {H : Heap} {cs : List C} {h : House} {F : List Nat} {f : Bool} (hh : RHouse H cs h F) : Does P I.i_HouseStock [.agg cs, .c (.bool f)] H fun v H' => ∃ cs' F', v = .val (.agg cs') ∧ Step [] H H' F' ∧ RStock H' cs' (houseStockV h f) F' := by
  obtain ⟨x0, x1, x2, x3, x4, rfl⟩ := len5 hh.cells
  refine K.does K.i_HouseStock rfl fun Q hQ => ?_
  simp only [go_sem, Nat.reduceEqDiff, Nat.reduceAdd, Nat.reduceMul, Nat.reduceLeDiff, Int.reduceEq, Int.reduceLT, Int.reduceLE, Int.reduceAdd, Int.reduceSub, Int.reduceNeg, Int.reduceMul, Int.reduceToNat, Int.cast_ofNat_Int, Int.natCast_zero, Nat.add_zero, reduceCtorEq, L_i_HouseStock]
  refine Does.call (does_i_HouseOk K hh) ?_
  rintro _ H1 ⟨rfl, s1⟩
  replace s1 : Step [] H H1 [] := s1
  cases hok : houseOk h with
  | false =>
    simp only [go_sem, Nat.reduceEqDiff, Nat.reduceAdd, Nat.reduceMul, Nat.reduceLeDiff, Int.reduceEq, Int.reduceLT, Int.reduceLE, Int.reduceAdd, Int.reduceSub, Int.reduceNeg, Int.reduceMul, Int.reduceToNat, Int.cast_ofNat_Int, Int.natCast_zero, Nat.add_zero, reduceCtorEq]
    exact hQ _ _ (Ends.ret rfl ⟨_, [], rfl, s1, by simp only [houseStockV, hok]; exact rstock0⟩)
  | true =>
    simp only [go_sem, Nat.reduceEqDiff, Nat.reduceAdd, Nat.reduceMul, Nat.reduceLeDiff, Int.reduceEq, Int.reduceLT, Int.reduceLE, Int.reduceAdd, Int.reduceSub, Int.reduceNeg, Int.reduceMul, Int.reduceToNat, Int.cast_ofNat_Int, Int.natCast_zero, Nat.add_zero, reduceCtorEq]
    refine Does.call (does_i_House_stock K (s1.stay RHouse.good hh) (houseOk_parts hok).2.1) ?_
    rintro _ H2 ⟨cs2, F2, rfl, s2, r2⟩
    obtain ⟨y0, y1, rfl⟩ := len2 r2.cells
    simp only [go_sem, Nat.reduceEqDiff, Nat.reduceAdd, Nat.reduceMul, Nat.reduceLeDiff, Int.reduceEq, Int.reduceLT, Int.reduceLE, Int.reduceAdd, Int.reduceSub, Int.reduceNeg, Int.reduceMul, Int.reduceToNat, Int.cast_ofNat_Int, Int.natCast_zero, Nat.add_zero, reduceCtorEq]
    exact hQ _ _ (Ends.ret rfl ⟨_, F2, rfl, s1.with s2, by simp only [houseStockV, hok, if_true]; exact r2⟩)
theorem does_i_House_copied (K : Codes P I) {H : Heap} {cs : List C} {h : House} {F : List Nat} (hh : RHouse H cs h F) (hm : Small h.log) : Does P I.i_House_copied [.agg cs] H fun v H' => ∃ cs' F', v = .val (.agg cs') ∧ Step [] H H' F' ∧ RHouse H' cs' h F' := by
  obtain ⟨c, rfl, hc⟩ := hh
  refine K.does K.i_House_copied rfl fun Q hQ => ?_
  simp only [go_sem, Nat.reduceEqDiff, Nat.reduceAdd, Nat.reduceMul, Nat.reduceLeDiff, Int.reduceEq, Int.reduceLT, Int.reduceLE, Int.reduceAdd, Int.reduceSub, Int.reduceNeg, Int.reduceMul, Int.reduceToNat, Int.cast_ofNat_Int, Int.natCast_zero, Nat.add_zero, reduceCtorEq, L_i_House_copied]
  refine Does.call (does_i_Log_copied K (show RLog H [c, .int .i64 h.log.forced] h.log F from ⟨c, rfl, hc⟩) hm) ?_
  rintro _ H1 ⟨cs1, F1, rfl, s1, c1, rfl, h1⟩
  simp only [go_sem, Nat.reduceEqDiff, Nat.reduceAdd, Nat.reduceMul, Nat.reduceLeDiff, Int.reduceEq, Int.reduceLT, Int.reduceLE, Int.reduceAdd, Int.reduceSub, Int.reduceNeg, Int.reduceMul, Int.reduceToNat, Int.cast_ofNat_Int, Int.natCast_zero, Nat.add_zero, reduceCtorEq]
  exact hQ _ _ (Ends.ret rfl ⟨_, F1, rfl, s1, c1, rfl, h1⟩)
theorem does_s_l11Copy (K : Codes P I) {H : Heap} {cs : List C} {h : House} {F : List Nat} (hh : RHouse H cs h F) (hm : Small h.log) : Does P I.s_l11Copy [.agg cs] H fun v H' => ∃ cs' F', v = .val (.agg cs') ∧ Step [] H H' F' ∧ RHouse H' cs' h F' := by
  obtain ⟨c, rfl, hc⟩ := hh
  refine K.does K.s_l11Copy rfl fun Q hQ => ?_
  simp only [go_sem, Nat.reduceEqDiff, Nat.reduceAdd, Nat.reduceMul, Nat.reduceLeDiff, Int.reduceEq, Int.reduceLT, Int.reduceLE, Int.reduceAdd, Int.reduceSub, Int.reduceNeg, Int.reduceMul, Int.reduceToNat, Int.cast_ofNat_Int, Int.natCast_zero, Nat.add_zero, reduceCtorEq, L_s_l11Copy]
  refine Does.call (does_s_l1Copy K (show RLog H [c, .int .i64 h.log.forced] h.log F from ⟨c, rfl, hc⟩) hm) ?_
  rintro _ H1 ⟨cs1, F1, rfl, s1, c1, rfl, h1⟩
  simp only [go_sem, Nat.reduceEqDiff, Nat.reduceAdd, Nat.reduceMul, Nat.reduceLeDiff, Int.reduceEq, Int.reduceLT, Int.reduceLE, Int.reduceAdd, Int.reduceSub, Int.reduceNeg, Int.reduceMul, Int.reduceToNat, Int.cast_ofNat_Int, Int.natCast_zero, Nat.add_zero, reduceCtorEq]
  exact hQ _ _ (Ends.ret rfl ⟨_, F1, rfl, s1, c1, rfl, h1⟩)
theorem does_i_HouseForce (K : Codes P I) {H : Heap} {cs : List C} {h : House} {F : List Nat} (hh : RHouse H cs h F) : Does P I.i_HouseForce [.agg cs] H fun v H' => ∃ cs' F', v = .val (.agg cs') ∧ Step [] H H' F' ∧ RHouse H' cs' (houseForceV h) F' := by
  obtain ⟨x0, x1, x2, x3, x4, rfl⟩ := len5 hh.cells
  refine K.does K.i_HouseForce rfl fun Q hQ => ?_
  simp only [go_sem, Nat.reduceEqDiff, Nat.reduceAdd, Nat.reduceMul, Nat.reduceLeDiff, Int.reduceEq, Int.reduceLT, Int.reduceLE, Int.reduceAdd, Int.reduceSub, Int.reduceNeg, Int.reduceMul, Int.reduceToNat, Int.cast_ofNat_Int, Int.natCast_zero, Nat.add_zero, reduceCtorEq, L_i_HouseForce]
  refine Does.call (does_i_HouseOk K hh) ?_
  rintro _ H1 ⟨rfl, s1⟩
  replace s1 : Step [] H H1 [] := s1
  cases hok : houseOk h with
  | false =>
    simp only [go_sem, Nat.reduceEqDiff, Nat.reduceAdd, Nat.reduceMul, Nat.reduceLeDiff, Int.reduceEq, Int.reduceLT, Int.reduceLE, Int.reduceAdd, Int.reduceSub, Int.reduceNeg, Int.reduceMul, Int.reduceToNat, Int.cast_ofNat_Int, Int.natCast_zero, Nat.add_zero, reduceCtorEq]
    exact hQ _ _ (Ends.ret rfl ⟨_, [], rfl, s1, by simp only [houseForceV, hok]; exact rhouse0⟩)
  | true =>
    have hlok := (houseOk_parts hok).2.1
    simp only [go_sem, Nat.reduceEqDiff, Nat.reduceAdd, Nat.reduceMul, Nat.reduceLeDiff, Int.reduceEq, Int.reduceLT, Int.reduceLE, Int.reduceAdd, Int.reduceSub, Int.reduceNeg, Int.reduceMul, Int.reduceToNat, Int.cast_ofNat_Int, Int.natCast_zero, Nat.add_zero, reduceCtorEq]
    refine Does.call (does_i_House_copied K (s1.stay RHouse.good hh) (logOk_small hlok)) ?_
    rintro _ H2 ⟨cs2, F2, rfl, s2, c2, rfl, h2⟩
    replace s2 : Step [] H1 H2 F2 := s2
    cases hup : h.up with
    | true =>
      simp only [go_sem, Nat.reduceEqDiff, Nat.reduceAdd, Nat.reduceMul, Nat.reduceLeDiff, Int.reduceEq, Int.reduceLT, Int.reduceLE, Int.reduceAdd, Int.reduceSub, Int.reduceNeg, Int.reduceMul, Int.reduceToNat, Int.cast_ofNat_Int, Int.natCast_zero, Nat.add_zero, reduceCtorEq, hup]
      refine Does.call (does_i_LogForce K (show RLog H2 [c2, .int .i64 h.log.forced] h.log F2 from ⟨c2, rfl, h2⟩)) ?_
      rintro _ H3 ⟨cs3, F3, rfl, s3, c3, rfl, h3⟩
      rw [forceV_ok hlok] at h3
      simp only [go_sem, Nat.reduceEqDiff, Nat.reduceAdd, Nat.reduceMul, Nat.reduceLeDiff, Int.reduceEq, Int.reduceLT, Int.reduceLE, Int.reduceAdd, Int.reduceSub, Int.reduceNeg, Int.reduceMul, Int.reduceToNat, Int.cast_ofNat_Int, Int.natCast_zero, Nat.add_zero, reduceCtorEq, hup, forceV_ok hlok]
      exact hQ _ _ (Ends.ret rfl ⟨[.int .i64 h.id, .bool true, .int .i64 h.room, c3, .int .i64 (forceL h.log).forced], F3, rfl, ((s1.with s2).with s3).less (by simp), c3, by simp [houseForceV, hok, hup], by simpa [houseForceV, hok, hup] using h3⟩)
    | false =>
      simp only [go_sem, Nat.reduceEqDiff, Nat.reduceAdd, Nat.reduceMul, Nat.reduceLeDiff, Int.reduceEq, Int.reduceLT, Int.reduceLE, Int.reduceAdd, Int.reduceSub, Int.reduceNeg, Int.reduceMul, Int.reduceToNat, Int.cast_ofNat_Int, Int.natCast_zero, Nat.add_zero, reduceCtorEq, hup]
      exact hQ _ _ (Ends.ret rfl ⟨[.int .i64 h.id, .bool false, .int .i64 h.room, c2, .int .i64 h.log.forced], F2, rfl, s1.with s2, c2, by simp [houseForceV, hok, hup], by simpa [houseForceV, hok, hup] using h2⟩)
end Go.AX

/- To hear: the program and the reference do the same. Condition: the data lie in memory. -/
namespace Go.AX
variable {P : Program} {I : Ids}
set_option maxHeartbeats 1000000 in
theorem does_i_House_answerTo (K : Codes P I) {H : Heap} {cs ds : List C} {h : House} {w : Word} {F G : List Nat} (hh : RHouse H cs h F) (hw : RWord H ds w G) (hok : houseOk h = true) (ht : 1 ≤ w.trip ∧ w.trip ≤ 6) :
    Does P I.i_House_answerTo [.agg cs, .agg ds] H fun v H' => v = .val (int (houseAnswer h w)) ∧ Step [] H H' [] := by
  obtain ⟨rfl, rfl⟩ := hw
  have hlok := (houseOk_parts hok).2.1
  obtain ⟨r1, H1, hc1, cs1, F1, rfl, s1, h1⟩ := does_i_House_stock K (f := false) hh hlok
  have hok1 := stockV_ok hok false
  have hok2 := stockV_ok hok true
  obtain ⟨c1, rfl, h1'⟩ := h1
  have hlen1 := (stockOk_parts hok1).2.1
  have hlen2 := (stockOk_parts hok2).2.1
  have hg1 := holdAt_get hlen1 ht.1 ht.2
  have hg2 := holdAt_get hlen2 ht.1 ht.2
  obtain ⟨i, hi⟩ : ∃ i, (w.trip - 1).toNat = i := ⟨_, rfl⟩
  rw [hi] at hg1 hg2
  have hwr : IntKind.wrap .i64 (w.trip - 1) = (i : Int) := by rw [wrap_i64 (by omega) (by omega)]; omega
  have hl1 : (i : Int) < (stockV h false).holds.length := by omega
  have hl2 : (i : Int) < (stockV h true).holds.length := by omega
  obtain ⟨b, off, bs, ecs, f, st, A, B, ec, hb, hd, hsl, _, _, ⟨rfl, _⟩, hF, hbA, _⟩ := h1'.focus RHold.good s1.owned.1 hg1
  subst ec
  have lv1 := Heap.live_of hb hd
  have hbF : b ∈ F1 := by rw [hF]; simp [hbA]
  have hbn := s1.ge b hbF
  have ld1 := slab_sub hsl 1 1 (by simp)
  simp only [slabAt1, slabSkip1] at ld1
  obtain ⟨x0, x1, x2, x3, x4, rfl⟩ := len5 hh.cells
  refine K.does K.i_House_answerTo rfl fun Q hQ => ?_
  simp only [go_sem, Nat.reduceEqDiff, Nat.reduceAdd, Nat.reduceMul, Nat.reduceLeDiff, Int.reduceEq, Int.reduceLT, Int.reduceLE, Int.reduceAdd, Int.reduceSub, Int.reduceNeg, Int.reduceMul, Int.reduceToNat, Int.cast_ofNat_Int, Int.natCast_zero, Nat.add_zero, reduceCtorEq, L_i_House_answerTo]
  refine RU_code_regionZ (zOne b bs) (zOne_new hbn) ?_
  simp only [go_sem, Nat.reduceEqDiff, Nat.reduceAdd, Nat.reduceMul, Nat.reduceLeDiff, Int.reduceEq, Int.reduceLT, Int.reduceLE, Int.reduceAdd, Int.reduceSub, Int.reduceNeg, Int.reduceMul, Int.reduceToNat, Int.cast_ofNat_Int, Int.natCast_zero, Nat.add_zero, reduceCtorEq]
  refine RUc_intro hc1 ?_
  simp only [go_sem, Nat.reduceEqDiff, Nat.reduceAdd, Nat.reduceMul, Nat.reduceLeDiff, Int.reduceEq, Int.reduceLT, Int.reduceLE, Int.reduceAdd, Int.reduceSub, Int.reduceNeg, Int.reduceMul, Int.reduceToNat, Int.cast_ofNat_Int, Int.natCast_zero, Nat.add_zero, reduceCtorEq, RUh_zOne lv1, hwr, hl1, ld1]
  refine Does.call (does_i_House_stock K (f := true) (s1.stay RHouse.good hh) hlok) ?_
  rintro _ H2 ⟨cs2, F2, rfl, s2, c2, rfl, h2⟩
  replace s2 : Step [] H1 H2 F2 := s2
  have lv2 : H2.live b = some bs := live_keep s2 (live_lt lv1) (by simp) lv1
  obtain ⟨b2, o2, bs2, cs2', f2, rfl, e1, e2, ⟨rfl, _⟩, _, _⟩ := h2.get hg2
  have ld2 := slab_sub e2 1 1 (by simp)
  simp only [slabAt1, slabSkip1] at ld2
  have hs : Step [] H H2 [] := (s1.with s2).less (by simp)
  have hA : houseAnswer h w = answerK w.kind (holdAt (stockV h false) w.trip).state (holdAt (stockV h true) w.trip).state := rfl
  generalize (holdAt (stockV h false) w.trip).state = a at *
  generalize (holdAt (stockV h true) w.trip).state = f at *
  simp only [go_sem, Nat.reduceEqDiff, Nat.reduceAdd, Nat.reduceMul, Nat.reduceLeDiff, Int.reduceEq, Int.reduceLT, Int.reduceLE, Int.reduceAdd, Int.reduceSub, Int.reduceNeg, Int.reduceMul, Int.reduceToNat, Int.cast_ofNat_Int, Int.natCast_zero, Nat.add_zero, reduceCtorEq, RUh_zOne lv2, hwr, hl2, e1, ld2]
  by_cases k1 : w.kind = 1
  · by_cases a0 : a = 0
    · simp only [go_sem, Nat.reduceEqDiff, Nat.reduceAdd, Nat.reduceMul, Nat.reduceLeDiff, Int.reduceEq, Int.reduceLT, Int.reduceLE, Int.reduceAdd, Int.reduceSub, Int.reduceNeg, Int.reduceMul, Int.reduceToNat, Int.cast_ofNat_Int, Int.natCast_zero, Nat.add_zero, reduceCtorEq, k1, a0]
      exact hQ _ _ (Ends.ret rfl ⟨by rw [hA]; simp [tupOf, answerK, k1, a0], hs⟩)
    · by_cases f1 : f = 1
      · simp only [go_sem, Nat.reduceEqDiff, Nat.reduceAdd, Nat.reduceMul, Nat.reduceLeDiff, Int.reduceEq, Int.reduceLT, Int.reduceLE, Int.reduceAdd, Int.reduceSub, Int.reduceNeg, Int.reduceMul, Int.reduceToNat, Int.cast_ofNat_Int, Int.natCast_zero, Nat.add_zero, reduceCtorEq, k1, a0, f1]
        exact hQ _ _ (Ends.ret rfl ⟨by rw [hA]; simp [tupOf, answerK, k1, a0, f1], hs⟩)
      · by_cases f2 : f = 2
        · simp only [go_sem, Nat.reduceEqDiff, Nat.reduceAdd, Nat.reduceMul, Nat.reduceLeDiff, Int.reduceEq, Int.reduceLT, Int.reduceLE, Int.reduceAdd, Int.reduceSub, Int.reduceNeg, Int.reduceMul, Int.reduceToNat, Int.cast_ofNat_Int, Int.natCast_zero, Nat.add_zero, reduceCtorEq, k1, a0, f1, f2]
          exact hQ _ _ (Ends.ret rfl ⟨by rw [hA]; simp [tupOf, answerK, k1, a0, f2], hs⟩)
        · by_cases f3 : f = 3
          · simp only [go_sem, Nat.reduceEqDiff, Nat.reduceAdd, Nat.reduceMul, Nat.reduceLeDiff, Int.reduceEq, Int.reduceLT, Int.reduceLE, Int.reduceAdd, Int.reduceSub, Int.reduceNeg, Int.reduceMul, Int.reduceToNat, Int.cast_ofNat_Int, Int.natCast_zero, Nat.add_zero, reduceCtorEq, k1, a0, f1, f2, f3]
            exact hQ _ _ (Ends.ret rfl ⟨by rw [hA]; simp [tupOf, answerK, k1, a0, f3], hs⟩)
          · simp only [go_sem, Nat.reduceEqDiff, Nat.reduceAdd, Nat.reduceMul, Nat.reduceLeDiff, Int.reduceEq, Int.reduceLT, Int.reduceLE, Int.reduceAdd, Int.reduceSub, Int.reduceNeg, Int.reduceMul, Int.reduceToNat, Int.cast_ofNat_Int, Int.natCast_zero, Nat.add_zero, reduceCtorEq, k1, a0, f1, f2, f3]
            exact hQ _ _ (Ends.ret rfl ⟨by rw [hA]; simp [tupOf, answerK, k1, a0, f1, f2, f3], hs⟩)
  · by_cases k2 : w.kind = 2
    · by_cases f2 : f = 2
      · simp only [go_sem, Nat.reduceEqDiff, Nat.reduceAdd, Nat.reduceMul, Nat.reduceLeDiff, Int.reduceEq, Int.reduceLT, Int.reduceLE, Int.reduceAdd, Int.reduceSub, Int.reduceNeg, Int.reduceMul, Int.reduceToNat, Int.cast_ofNat_Int, Int.natCast_zero, Nat.add_zero, reduceCtorEq, k1, k2, f2]
        exact hQ _ _ (Ends.ret rfl ⟨by rw [hA]; simp [tupOf, answerK, k2, f2], hs⟩)
      · simp only [go_sem, Nat.reduceEqDiff, Nat.reduceAdd, Nat.reduceMul, Nat.reduceLeDiff, Int.reduceEq, Int.reduceLT, Int.reduceLE, Int.reduceAdd, Int.reduceSub, Int.reduceNeg, Int.reduceMul, Int.reduceToNat, Int.cast_ofNat_Int, Int.natCast_zero, Nat.add_zero, reduceCtorEq, k1, k2, f2]
        exact hQ _ _ (Ends.ret rfl ⟨by rw [hA]; simp [tupOf, answerK, k2, f2], hs⟩)
    · by_cases k3 : w.kind = 3
      · by_cases f3 : f = 3
        · simp only [go_sem, Nat.reduceEqDiff, Nat.reduceAdd, Nat.reduceMul, Nat.reduceLeDiff, Int.reduceEq, Int.reduceLT, Int.reduceLE, Int.reduceAdd, Int.reduceSub, Int.reduceNeg, Int.reduceMul, Int.reduceToNat, Int.cast_ofNat_Int, Int.natCast_zero, Nat.add_zero, reduceCtorEq, k1, k2, k3, f3]
          exact hQ _ _ (Ends.ret rfl ⟨by rw [hA]; simp [tupOf, answerK, k3, f3], hs⟩)
        · simp only [go_sem, Nat.reduceEqDiff, Nat.reduceAdd, Nat.reduceMul, Nat.reduceLeDiff, Int.reduceEq, Int.reduceLT, Int.reduceLE, Int.reduceAdd, Int.reduceSub, Int.reduceNeg, Int.reduceMul, Int.reduceToNat, Int.cast_ofNat_Int, Int.natCast_zero, Nat.add_zero, reduceCtorEq, k1, k2, k3, f3]
          exact hQ _ _ (Ends.ret rfl ⟨by rw [hA]; simp [tupOf, answerK, k3, f3], hs⟩)
      · simp only [go_sem, Nat.reduceEqDiff, Nat.reduceAdd, Nat.reduceMul, Nat.reduceLeDiff, Int.reduceEq, Int.reduceLT, Int.reduceLE, Int.reduceAdd, Int.reduceSub, Int.reduceNeg, Int.reduceMul, Int.reduceToNat, Int.cast_ofNat_Int, Int.natCast_zero, Nat.add_zero, reduceCtorEq, k1, k2, k3]
        exact hQ _ _ (Ends.ret rfl ⟨by rw [hA]; simp [tupOf, answerK, k1, k2, k3], hs⟩)
theorem may_recOfW {h : House} {w : Word} (hok : houseOk h = true) (hh : hearsB h w = true) : stockMay (stockV h false) (recOfW w) = mayB h w := by
  obtain ⟨_, g2, g3, _⟩ := hearsB_parts hh
  simp [stockMay, stockV_ok hok false, recOfW_ok g2 g3, mayB]
theorem rword0 {H : Heap} : RWord H [.int .i64 0, .int .i64 0, .int .i64 0, .int .i64 0] word0 [] := ⟨rfl, rfl⟩
set_option maxHeartbeats 2000000 in
theorem does_i_HouseHear (K : Codes P I) {H : Heap} {cs ds : List C} {h : House} {w : Word} {F G : List Nat} (hh : RHouse H cs h F) (hw : RWord H ds w G) :
    Does P I.i_HouseHear [.agg cs, .agg ds] H fun v H' => ∃ cs' ws F', v = .tup [.agg cs', .agg ws, .c (.bool (houseHearB h w))] ∧ Step [] H H' F' ∧ RHouse H' cs' (houseHearV h w) F' ∧ RWord H' ws (houseHearW h w) [] := by
  obtain ⟨x0, x1, x2, x3, x4, rfl⟩ := len5 hh.cells
  obtain ⟨rfl, rfl⟩ := hw
  refine K.does K.i_HouseHear rfl fun Q hQ => ?_
  simp only [go_sem, Nat.reduceEqDiff, Nat.reduceAdd, Nat.reduceMul, Nat.reduceLeDiff, Int.reduceEq, Int.reduceLT, Int.reduceLE, Int.reduceAdd, Int.reduceSub, Int.reduceNeg, Int.reduceMul, Int.reduceToNat, Int.cast_ofNat_Int, Int.natCast_zero, Nat.add_zero, reduceCtorEq, L_i_HouseHear]
  refine Does.call (does_i_HouseOk K hh) ?_
  rintro _ H1 ⟨rfl, s1⟩
  replace s1 : Step [] H H1 [] := s1
  cases hok : houseOk h with
  | false =>
    simp only [go_sem, Nat.reduceEqDiff, Nat.reduceAdd, Nat.reduceMul, Nat.reduceLeDiff, Int.reduceEq, Int.reduceLT, Int.reduceLE, Int.reduceAdd, Int.reduceSub, Int.reduceNeg, Int.reduceMul, Int.reduceToNat, Int.cast_ofNat_Int, Int.natCast_zero, Nat.add_zero, reduceCtorEq]
    exact hQ _ _ (Ends.ret rfl ⟨[.int .i64 0, .bool false, .int .i64 0, .nil, .int .i64 0], _, [], by simp [tupOf, houseHearB, hok]; rfl, s1, by simp only [houseHearV, hok]; exact rhouse0, by simp only [houseHearW, hok]; exact rword0⟩)
  | true =>
    have hlok := (houseOk_parts hok).2.1
    have eV : houseHearV h w = hearH h w := by simp [houseHearV, hok]
    have eW : houseHearW h w = hearW h w := by simp [houseHearW, hok]
    have eB : houseHearB h w = hearOk h w := by simp [houseHearB, hok]
    simp only [go_sem, Nat.reduceEqDiff, Nat.reduceAdd, Nat.reduceMul, Nat.reduceLeDiff, Int.reduceEq, Int.reduceLT, Int.reduceLE, Int.reduceAdd, Int.reduceSub, Int.reduceNeg, Int.reduceMul, Int.reduceToNat, Int.cast_ofNat_Int, Int.natCast_zero, Nat.add_zero, reduceCtorEq]
    refine Does.call (does_i_House_copied K (s1.stay RHouse.good hh) (logOk_small hlok)) ?_
    rintro _ H2 ⟨cs2, F2, rfl, s2, c2, rfl, h2⟩
    replace s2 : Step [] H1 H2 F2 := s2
    have t2 : Step [] H H2 F2 := s1.with s2
    have hc2 : RHouse H2 [.int .i64 h.id, .bool h.up, .int .i64 h.room, c2, .int .i64 h.log.forced] h F2 := ⟨c2, rfl, h2⟩
    cases hup : h.up with
    | false =>
      have n1 : hearsB h w = false := by simp [hearsB, hup]
      have n2 : hearH h w = h := hearH_same (by simp [n1])
      have n3 : hearOk h w = false := by simp [hearOk, n1]
      simp only [go_sem, Nat.reduceEqDiff, Nat.reduceAdd, Nat.reduceMul, Nat.reduceLeDiff, Int.reduceEq, Int.reduceLT, Int.reduceLE, Int.reduceAdd, Int.reduceSub, Int.reduceNeg, Int.reduceMul, Int.reduceToNat, Int.cast_ofNat_Int, Int.natCast_zero, Nat.add_zero, reduceCtorEq, hup]
      exact hQ _ _ (Ends.ret rfl ⟨[.int .i64 h.id, .bool false, .int .i64 h.room, c2, .int .i64 h.log.forced], _, F2, by simp [tupOf, eB, n3]; rfl, t2, by rw [eV, n2]; exact ⟨c2, by rw [hup], h2⟩, by rw [eW, hearW, if_neg (by simp [n3])]; exact rword0⟩)
    | true =>
      simp only [go_sem, Nat.reduceEqDiff, Nat.reduceAdd, Nat.reduceMul, Nat.reduceLeDiff, Int.reduceEq, Int.reduceLT, Int.reduceLE, Int.reduceAdd, Int.reduceSub, Int.reduceNeg, Int.reduceMul, Int.reduceToNat, Int.cast_ofNat_Int, Int.natCast_zero, Nat.add_zero, reduceCtorEq, hup]
      refine Does.test (does_i_WordOk K (show RWord H2 _ w [] from ⟨rfl, rfl⟩)) ?_
      cases hwok : wordOk w with
      | false =>
        have n1 : hearsB h w = false := by simp [hearsB, hwok]
        have n2 : hearH h w = h := hearH_same (by simp [n1])
        have n3 : hearOk h w = false := by simp [hearOk, n1]
        simp only [go_sem, Nat.reduceEqDiff, Nat.reduceAdd, Nat.reduceMul, Nat.reduceLeDiff, Int.reduceEq, Int.reduceLT, Int.reduceLE, Int.reduceAdd, Int.reduceSub, Int.reduceNeg, Int.reduceMul, Int.reduceToNat, Int.cast_ofNat_Int, Int.natCast_zero, Nat.add_zero, reduceCtorEq, hup]
        exact hQ _ _ (Ends.ret rfl ⟨[.int .i64 h.id, .bool true, .int .i64 h.room, c2, .int .i64 h.log.forced], _, F2, by simp [tupOf, eB, n3]; rfl, t2, by rw [eV, n2]; exact ⟨c2, by rw [hup], h2⟩, by rw [eW, hearW, if_neg (by simp [n3])]; exact rword0⟩)
      | true =>
        simp only [go_sem, Nat.reduceEqDiff, Nat.reduceAdd, Nat.reduceMul, Nat.reduceLeDiff, Int.reduceEq, Int.reduceLT, Int.reduceLE, Int.reduceAdd, Int.reduceSub, Int.reduceNeg, Int.reduceMul, Int.reduceToNat, Int.cast_ofNat_Int, Int.natCast_zero, Nat.add_zero, reduceCtorEq, hup]
        refine Does.test (does_i_Word_answer K (show RWord H2 _ w [] from ⟨rfl, rfl⟩)) ?_
        by_cases hk : 4 ≤ w.kind
        · have n1 : hearsB h w = false := by simp [hearsB, show ¬ w.kind < 4 by omega]
          have n2 : hearH h w = h := hearH_same (by simp [n1])
          have n3 : hearOk h w = false := by simp [hearOk, n1]
          simp only [go_sem, Nat.reduceEqDiff, Nat.reduceAdd, Nat.reduceMul, Nat.reduceLeDiff, Int.reduceEq, Int.reduceLT, Int.reduceLE, Int.reduceAdd, Int.reduceSub, Int.reduceNeg, Int.reduceMul, Int.reduceToNat, Int.cast_ofNat_Int, Int.natCast_zero, Nat.add_zero, reduceCtorEq, hk]
          exact hQ _ _ (Ends.ret rfl ⟨[.int .i64 h.id, .bool true, .int .i64 h.room, c2, .int .i64 h.log.forced], _, F2, by simp [tupOf, eB, n3]; rfl, t2, by rw [eV, n2]; exact ⟨c2, by rw [hup], h2⟩, by rw [eW, hearW, if_neg (by simp [n3])]; exact rword0⟩)
        · by_cases hid : w.house = h.id
          · have hears : hearsB h w = true := by simp [hearsB, hup, hwok, hid, show w.kind < 4 by omega]
            have hrok := recOfW_ok hwok (show w.kind < 4 by omega)
            have hmay := may_recOfW hok hears
            have hwp := wordOk_parts hwok
            by_cases k1 : w.kind = 1
            · have s3 := step_new (H := H2) (n := 1) (cs := [.int .i64 w.many])
              have hi := ints_new (H := H2) [w.many] rfl (by simp [lenTop])
              have hc3 := s3.stay RHouse.good hc2
              have t3 := t2.with s3
              have hr3 : RRec (H2 ++ [⟨.rw, 1, [.int .i64 w.many]⟩]) [.int .i64 1, .int .i64 w.trip, .sl H2.length 0 1] (recOfW w) [H2.length] := ⟨.sl H2.length 0 1, by simp [recOfW, k1], by simpa [recOfW, k1] using hi⟩
              simp only [go_sem, Nat.reduceEqDiff, Nat.reduceAdd, Nat.reduceMul, Nat.reduceLeDiff, Int.reduceEq, Int.reduceLT, Int.reduceLE, Int.reduceAdd, Int.reduceSub, Int.reduceNeg, Int.reduceMul, Int.reduceToNat, Int.cast_ofNat_Int, Int.natCast_zero, Nat.add_zero, reduceCtorEq, hk, hid, k1, hup, Nat.reduceDiv]
              refine Does.call (does_i_House_stock K (f := false) (by rw [← hup]; exact hc3) hlok) ?_
              rintro _ H4 ⟨cs4, F4, rfl, s4, h4⟩
              replace s4 : Step [] _ H4 F4 := s4
              obtain ⟨y0, y1, rfl⟩ := len2 h4.cells
              have hc4 := s4.stay RHouse.good (by rw [← hup]; exact hc3)
              have hr4 := s4.stay RRec.good hr3
              have t4 := t3.with s4
              simp only [go_sem, Nat.reduceEqDiff, Nat.reduceAdd, Nat.reduceMul, Nat.reduceLeDiff, Int.reduceEq, Int.reduceLT, Int.reduceLE, Int.reduceAdd, Int.reduceSub, Int.reduceNeg, Int.reduceMul, Int.reduceToNat, Int.cast_ofNat_Int, Int.natCast_zero, Nat.add_zero, reduceCtorEq, hup]
              refine Does.test (does_i_StockMay K h4 hr4) ?_
              cases hm : mayB h w with
              | true =>
                have hH : hearH h w = { h with log := addL' h.log (recOfW w) } := by unfold hearH; rw [if_pos hears, if_pos hm]
                have n3 : hearOk h w = false := by simp [hearOk, hm]
                obtain ⟨c4, e4, hc4'⟩ := hc4
                have e5 : c2 = c4 := by simpa using e4
                subst e5
                simp only [go_sem, Nat.reduceEqDiff, Nat.reduceAdd, Nat.reduceMul, Nat.reduceLeDiff, Int.reduceEq, Int.reduceLT, Int.reduceLE, Int.reduceAdd, Int.reduceSub, Int.reduceNeg, Int.reduceMul, Int.reduceToNat, Int.cast_ofNat_Int, Int.natCast_zero, Nat.add_zero, reduceCtorEq, hmay, hm, hup]
                refine Does.call (does_i_LogAdd K (show RLog H4 [c2, .int .i64 h.log.forced] h.log F2 from ⟨c2, rfl, hc4'⟩) hr4) ?_
                rintro _ H5 ⟨cs5, F5, rfl, s5, c5, rfl, h5⟩
                rw [addV_ok hlok hrok] at h5
                simp only [go_sem, Nat.reduceEqDiff, Nat.reduceAdd, Nat.reduceMul, Nat.reduceLeDiff, Int.reduceEq, Int.reduceLT, Int.reduceLE, Int.reduceAdd, Int.reduceSub, Int.reduceNeg, Int.reduceMul, Int.reduceToNat, Int.cast_ofNat_Int, Int.natCast_zero, Nat.add_zero, reduceCtorEq, hup, addV_ok hlok hrok]
                exact hQ _ _ (Ends.ret rfl ⟨[.int .i64 h.id, .bool true, .int .i64 h.room, c5, .int .i64 (addL h.log (recOfW w)).forced], _, F5, by simp [tupOf, eB, n3]; rfl, (t4.with s5).part (fun a => by simp only [List.count_append, List.count_nil, List.count_cons]; omega), by rw [eV, hH]; exact ⟨c5, by rw [← hup], h5⟩, by rw [eW, hearW, if_neg (by simp [n3])]; exact rword0⟩)
              | false =>
                have hH : hearH h w = h := hearH_same (by simp [hm])
                simp only [go_sem, Nat.reduceEqDiff, Nat.reduceAdd, Nat.reduceMul, Nat.reduceLeDiff, Int.reduceEq, Int.reduceLT, Int.reduceLE, Int.reduceAdd, Int.reduceSub, Int.reduceNeg, Int.reduceMul, Int.reduceToNat, Int.cast_ofNat_Int, Int.natCast_zero, Nat.add_zero, reduceCtorEq, hmay, hm, hup]
                refine Does.call (does_i_House_answerTo K (by rw [← hup]; exact hc4) (show RWord H4 _ w [] from ⟨by simp [k1, hid], rfl⟩) hok hwp.2.2.1) ?_
                rintro _ H5 ⟨rfl, s5⟩
                replace s5 : Step [] H4 H5 [] := s5
                have hc5 := s5.stay RHouse.good hc4
                have t5 : Step [] H H5 F2 := (t4.with s5).part (fun a => by simp only [List.count_append, List.count_nil, List.count_cons]; omega)
                by_cases ha : houseAnswer h w = 0
                · have n3 : hearOk h w = false := by simp [hearOk, ha]
                  simp only [go_sem, Nat.reduceEqDiff, Nat.reduceAdd, Nat.reduceMul, Nat.reduceLeDiff, Int.reduceEq, Int.reduceLT, Int.reduceLE, Int.reduceAdd, Int.reduceSub, Int.reduceNeg, Int.reduceMul, Int.reduceToNat, Int.cast_ofNat_Int, Int.natCast_zero, Nat.add_zero, reduceCtorEq, ha, hup]
                  exact hQ _ _ (Ends.ret rfl ⟨[.int .i64 h.id, .bool true, .int .i64 h.room, c2, .int .i64 h.log.forced], _, F2, by simp [tupOf, eB, n3]; rfl, t5, by rw [eV, hH, ← hup]; exact hc5, by rw [eW, hearW, if_neg (by simp [n3])]; exact rword0⟩)
                · have n3 : hearOk h w = true := by simp [hearOk, hears, hm, ha]
                  simp only [go_sem, Nat.reduceEqDiff, Nat.reduceAdd, Nat.reduceMul, Nat.reduceLeDiff, Int.reduceEq, Int.reduceLT, Int.reduceLE, Int.reduceAdd, Int.reduceSub, Int.reduceNeg, Int.reduceMul, Int.reduceToNat, Int.cast_ofNat_Int, Int.natCast_zero, Nat.add_zero, reduceCtorEq, ha, hup]
                  exact hQ _ _ (Ends.ret rfl ⟨[.int .i64 h.id, .bool true, .int .i64 h.room, c2, .int .i64 h.log.forced], _, F2, by simp [tupOf, eB, n3]; rfl, t5, by rw [eV, hH, ← hup]; exact hc5, by rw [eW, hearW, if_pos n3]; exact ⟨rfl, rfl⟩⟩)
            · have hr3 : RRec H2 [.int .i64 w.kind, .int .i64 w.trip, .nil] (recOfW w) [] := ⟨_, rfl, by simp only [recOfW, if_neg k1]; exact .nil⟩
              simp only [go_sem, Nat.reduceEqDiff, Nat.reduceAdd, Nat.reduceMul, Nat.reduceLeDiff, Int.reduceEq, Int.reduceLT, Int.reduceLE, Int.reduceAdd, Int.reduceSub, Int.reduceNeg, Int.reduceMul, Int.reduceToNat, Int.cast_ofNat_Int, Int.natCast_zero, Nat.add_zero, reduceCtorEq, hk, hid, k1, hup]
              refine Does.call (does_i_House_stock K (f := false) (by rw [← hup]; exact hc2) hlok) ?_
              rintro _ H4 ⟨cs4, F4, rfl, s4, h4⟩
              replace s4 : Step [] _ H4 F4 := s4
              obtain ⟨y0, y1, rfl⟩ := len2 h4.cells
              have hc4 := s4.stay RHouse.good (by rw [← hup]; exact hc2)
              have hr4 := s4.stay RRec.good hr3
              have t4 := t2.with s4
              simp only [go_sem, Nat.reduceEqDiff, Nat.reduceAdd, Nat.reduceMul, Nat.reduceLeDiff, Int.reduceEq, Int.reduceLT, Int.reduceLE, Int.reduceAdd, Int.reduceSub, Int.reduceNeg, Int.reduceMul, Int.reduceToNat, Int.cast_ofNat_Int, Int.natCast_zero, Nat.add_zero, reduceCtorEq, hup]
              refine Does.test (does_i_StockMay K h4 hr4) ?_
              cases hm : mayB h w with
              | true =>
                have hH : hearH h w = { h with log := addL' h.log (recOfW w) } := by unfold hearH; rw [if_pos hears, if_pos hm]
                have n3 : hearOk h w = false := by simp [hearOk, hm]
                obtain ⟨c4, e4, hc4'⟩ := hc4
                have e5 : c2 = c4 := by simpa using e4
                subst e5
                simp only [go_sem, Nat.reduceEqDiff, Nat.reduceAdd, Nat.reduceMul, Nat.reduceLeDiff, Int.reduceEq, Int.reduceLT, Int.reduceLE, Int.reduceAdd, Int.reduceSub, Int.reduceNeg, Int.reduceMul, Int.reduceToNat, Int.cast_ofNat_Int, Int.natCast_zero, Nat.add_zero, reduceCtorEq, hmay, hm, hup]
                refine Does.call (does_i_LogAdd K (show RLog H4 [c2, .int .i64 h.log.forced] h.log F2 from ⟨c2, rfl, hc4'⟩) hr4) ?_
                rintro _ H5 ⟨cs5, F5, rfl, s5, c5, rfl, h5⟩
                rw [addV_ok hlok hrok] at h5
                simp only [go_sem, Nat.reduceEqDiff, Nat.reduceAdd, Nat.reduceMul, Nat.reduceLeDiff, Int.reduceEq, Int.reduceLT, Int.reduceLE, Int.reduceAdd, Int.reduceSub, Int.reduceNeg, Int.reduceMul, Int.reduceToNat, Int.cast_ofNat_Int, Int.natCast_zero, Nat.add_zero, reduceCtorEq, hup, addV_ok hlok hrok]
                exact hQ _ _ (Ends.ret rfl ⟨[.int .i64 h.id, .bool true, .int .i64 h.room, c5, .int .i64 (addL h.log (recOfW w)).forced], _, F5, by simp [tupOf, eB, n3]; rfl, (t4.with s5).part (fun a => by simp only [List.count_append, List.count_nil, List.count_cons]; omega), by rw [eV, hH]; exact ⟨c5, by rw [← hup], h5⟩, by rw [eW, hearW, if_neg (by simp [n3])]; exact rword0⟩)
              | false =>
                have hH : hearH h w = h := hearH_same (by simp [hm])
                simp only [go_sem, Nat.reduceEqDiff, Nat.reduceAdd, Nat.reduceMul, Nat.reduceLeDiff, Int.reduceEq, Int.reduceLT, Int.reduceLE, Int.reduceAdd, Int.reduceSub, Int.reduceNeg, Int.reduceMul, Int.reduceToNat, Int.cast_ofNat_Int, Int.natCast_zero, Nat.add_zero, reduceCtorEq, hmay, hm, hup]
                refine Does.call (does_i_House_answerTo K (by rw [← hup]; exact hc4) (show RWord H4 _ w [] from ⟨by simp [k1, hid], rfl⟩) hok hwp.2.2.1) ?_
                rintro _ H5 ⟨rfl, s5⟩
                replace s5 : Step [] H4 H5 [] := s5
                have hc5 := s5.stay RHouse.good hc4
                have t5 : Step [] H H5 F2 := (t4.with s5).part (fun a => by simp only [List.count_append, List.count_nil, List.count_cons]; omega)
                by_cases ha : houseAnswer h w = 0
                · have n3 : hearOk h w = false := by simp [hearOk, ha]
                  simp only [go_sem, Nat.reduceEqDiff, Nat.reduceAdd, Nat.reduceMul, Nat.reduceLeDiff, Int.reduceEq, Int.reduceLT, Int.reduceLE, Int.reduceAdd, Int.reduceSub, Int.reduceNeg, Int.reduceMul, Int.reduceToNat, Int.cast_ofNat_Int, Int.natCast_zero, Nat.add_zero, reduceCtorEq, ha, hup]
                  exact hQ _ _ (Ends.ret rfl ⟨[.int .i64 h.id, .bool true, .int .i64 h.room, c2, .int .i64 h.log.forced], _, F2, by simp [tupOf, eB, n3]; rfl, t5, by rw [eV, hH, ← hup]; exact hc5, by rw [eW, hearW, if_neg (by simp [n3])]; exact rword0⟩)
                · have n3 : hearOk h w = true := by simp [hearOk, hears, hm, ha]
                  simp only [go_sem, Nat.reduceEqDiff, Nat.reduceAdd, Nat.reduceMul, Nat.reduceLeDiff, Int.reduceEq, Int.reduceLT, Int.reduceLE, Int.reduceAdd, Int.reduceSub, Int.reduceNeg, Int.reduceMul, Int.reduceToNat, Int.cast_ofNat_Int, Int.natCast_zero, Nat.add_zero, reduceCtorEq, ha, hup]
                  exact hQ _ _ (Ends.ret rfl ⟨[.int .i64 h.id, .bool true, .int .i64 h.room, c2, .int .i64 h.log.forced], _, F2, by simp [tupOf, eB, n3]; rfl, t5, by rw [eV, hH, ← hup]; exact hc5, by rw [eW, hearW, if_pos n3]; exact ⟨rfl, rfl⟩⟩)
          · have n1 : hearsB h w = false := by simp [hearsB, hid]
            have n2 : hearH h w = h := hearH_same (by simp [n1])
            have n3 : hearOk h w = false := by simp [hearOk, n1]
            simp only [go_sem, Nat.reduceEqDiff, Nat.reduceAdd, Nat.reduceMul, Nat.reduceLeDiff, Int.reduceEq, Int.reduceLT, Int.reduceLE, Int.reduceAdd, Int.reduceSub, Int.reduceNeg, Int.reduceMul, Int.reduceToNat, Int.cast_ofNat_Int, Int.natCast_zero, Nat.add_zero, reduceCtorEq, hk, hid]
            exact hQ _ _ (Ends.ret rfl ⟨[.int .i64 h.id, .bool true, .int .i64 h.room, c2, .int .i64 h.log.forced], _, F2, by simp [tupOf, eB, n3]; rfl, t2, by rw [eV, n2]; exact ⟨c2, by rw [hup], h2⟩, by rw [eW, hearW, if_neg (by simp [n3])]; exact rword0⟩)
end Go.AX

/- To hear: the reference. Condition: the data lie in memory. -/
namespace Go.AX
variable {P : Program} {I : Ids}
def answerF (kind f : Int) : Int := if kind = 1 ∧ (f = 1 ∨ f = 2) then 4 else if kind = 1 ∧ f = 3 then 5 else if kind = 2 ∧ f = 2 then 6 else if kind = 3 ∧ f = 3 then 7 else 0
theorem answerK_F {k a f : Int} (h : ¬ (k = 1 ∧ a = 0)) : answerK k a f = answerF k f := by simp only [answerK, answerF, if_neg h]
def answerW (h : House) (w : Word) (f : Int) : Word := if answerF w.kind f = 0 then word0 else ⟨answerF w.kind f, h.id, w.trip, 0⟩
theorem does_s_l11Answer (K : Codes P I) {H : Heap} {cs ds : List C} {h : House} {w : Word} {f : Int} {F G : List Nat} (hh : RHouse H cs h F) (hw : RWord H ds w G) :
    Does P I.s_l11Answer [.agg cs, .agg ds, int f] H fun v H' => ∃ ws, v = .tup [.agg ws, .c (.bool (decide (answerF w.kind f ≠ 0)))] ∧ RWord H ws (answerW h w f) [] ∧ H' = H := by
  obtain ⟨c, rfl, hc⟩ := hh
  obtain ⟨rfl, rfl⟩ := hw
  refine K.does K.s_l11Answer rfl fun Q hQ => ?_
  simp only [go_sem, Nat.reduceEqDiff, Nat.reduceAdd, Nat.reduceMul, Nat.reduceLeDiff, Int.reduceEq, Int.reduceLT, Int.reduceLE, Int.reduceAdd, Int.reduceSub, Int.reduceNeg, Int.reduceMul, Int.reduceToNat, Int.cast_ofNat_Int, Int.natCast_zero, Nat.add_zero, reduceCtorEq, L_s_l11Answer]
  by_cases k1 : w.kind = 1
  · by_cases f1 : f = 1
    · have hn : answerF w.kind f = 4 := by simp [answerF, k1, f1]
      simp only [go_sem, Nat.reduceEqDiff, Nat.reduceAdd, Nat.reduceMul, Nat.reduceLeDiff, Int.reduceEq, Int.reduceLT, Int.reduceLE, Int.reduceAdd, Int.reduceSub, Int.reduceNeg, Int.reduceMul, Int.reduceToNat, Int.cast_ofNat_Int, Int.natCast_zero, Nat.add_zero, reduceCtorEq, k1, f1]
      exact hQ _ _ (Ends.ret rfl ⟨[.int .i64 4, .int .i64 h.id, .int .i64 w.trip, .int .i64 0], by simp [tupOf, hn], by rw [answerW, hn]; exact ⟨rfl, rfl⟩, rfl⟩)
    · by_cases f2 : f = 2
      · have hn : answerF w.kind f = 4 := by simp [answerF, k1, f1, f2]
        simp only [go_sem, Nat.reduceEqDiff, Nat.reduceAdd, Nat.reduceMul, Nat.reduceLeDiff, Int.reduceEq, Int.reduceLT, Int.reduceLE, Int.reduceAdd, Int.reduceSub, Int.reduceNeg, Int.reduceMul, Int.reduceToNat, Int.cast_ofNat_Int, Int.natCast_zero, Nat.add_zero, reduceCtorEq, k1, f1, f2]
        exact hQ _ _ (Ends.ret rfl ⟨[.int .i64 4, .int .i64 h.id, .int .i64 w.trip, .int .i64 0], by simp [tupOf, hn], by rw [answerW, hn]; exact ⟨rfl, rfl⟩, rfl⟩)
      · by_cases f3 : f = 3
        · have hn : answerF w.kind f = 5 := by simp [answerF, k1, f1, f2, f3]
          simp only [go_sem, Nat.reduceEqDiff, Nat.reduceAdd, Nat.reduceMul, Nat.reduceLeDiff, Int.reduceEq, Int.reduceLT, Int.reduceLE, Int.reduceAdd, Int.reduceSub, Int.reduceNeg, Int.reduceMul, Int.reduceToNat, Int.cast_ofNat_Int, Int.natCast_zero, Nat.add_zero, reduceCtorEq, k1, f1, f2, f3]
          exact hQ _ _ (Ends.ret rfl ⟨[.int .i64 5, .int .i64 h.id, .int .i64 w.trip, .int .i64 0], by simp [tupOf, hn], by rw [answerW, hn]; exact ⟨rfl, rfl⟩, rfl⟩)
        · have hn : answerF w.kind f = 0 := by simp [answerF, k1, f1, f2, f3]
          simp only [go_sem, Nat.reduceEqDiff, Nat.reduceAdd, Nat.reduceMul, Nat.reduceLeDiff, Int.reduceEq, Int.reduceLT, Int.reduceLE, Int.reduceAdd, Int.reduceSub, Int.reduceNeg, Int.reduceMul, Int.reduceToNat, Int.cast_ofNat_Int, Int.natCast_zero, Nat.add_zero, reduceCtorEq, k1, f1, f2, f3]
          exact hQ _ _ (Ends.ret rfl ⟨[.int .i64 0, .int .i64 0, .int .i64 0, .int .i64 0], by simp [tupOf, hn], by rw [answerW, if_pos hn]; exact rword0, rfl⟩)
  · by_cases k2 : w.kind = 2
    · by_cases f2 : f = 2
      · have hn : answerF w.kind f = 6 := by simp [answerF, k1, k2, f2]
        simp only [go_sem, Nat.reduceEqDiff, Nat.reduceAdd, Nat.reduceMul, Nat.reduceLeDiff, Int.reduceEq, Int.reduceLT, Int.reduceLE, Int.reduceAdd, Int.reduceSub, Int.reduceNeg, Int.reduceMul, Int.reduceToNat, Int.cast_ofNat_Int, Int.natCast_zero, Nat.add_zero, reduceCtorEq, k1, k2, f2]
        exact hQ _ _ (Ends.ret rfl ⟨[.int .i64 6, .int .i64 h.id, .int .i64 w.trip, .int .i64 0], by simp [tupOf, hn], by rw [answerW, hn]; exact ⟨rfl, rfl⟩, rfl⟩)
      · have hn : answerF w.kind f = 0 := by simp [answerF, k1, k2, f2]
        simp only [go_sem, Nat.reduceEqDiff, Nat.reduceAdd, Nat.reduceMul, Nat.reduceLeDiff, Int.reduceEq, Int.reduceLT, Int.reduceLE, Int.reduceAdd, Int.reduceSub, Int.reduceNeg, Int.reduceMul, Int.reduceToNat, Int.cast_ofNat_Int, Int.natCast_zero, Nat.add_zero, reduceCtorEq, k1, k2, f2]
        exact hQ _ _ (Ends.ret rfl ⟨[.int .i64 0, .int .i64 0, .int .i64 0, .int .i64 0], by simp [tupOf, hn], by rw [answerW, if_pos hn]; exact rword0, rfl⟩)
    · by_cases k3 : w.kind = 3
      · by_cases f3 : f = 3
        · have hn : answerF w.kind f = 7 := by simp [answerF, k1, k2, k3, f3]
          simp only [go_sem, Nat.reduceEqDiff, Nat.reduceAdd, Nat.reduceMul, Nat.reduceLeDiff, Int.reduceEq, Int.reduceLT, Int.reduceLE, Int.reduceAdd, Int.reduceSub, Int.reduceNeg, Int.reduceMul, Int.reduceToNat, Int.cast_ofNat_Int, Int.natCast_zero, Nat.add_zero, reduceCtorEq, k1, k2, k3, f3]
          exact hQ _ _ (Ends.ret rfl ⟨[.int .i64 7, .int .i64 h.id, .int .i64 w.trip, .int .i64 0], by simp [tupOf, hn], by rw [answerW, hn]; exact ⟨rfl, rfl⟩, rfl⟩)
        · have hn : answerF w.kind f = 0 := by simp [answerF, k1, k2, k3, f3]
          simp only [go_sem, Nat.reduceEqDiff, Nat.reduceAdd, Nat.reduceMul, Nat.reduceLeDiff, Int.reduceEq, Int.reduceLT, Int.reduceLE, Int.reduceAdd, Int.reduceSub, Int.reduceNeg, Int.reduceMul, Int.reduceToNat, Int.cast_ofNat_Int, Int.natCast_zero, Nat.add_zero, reduceCtorEq, k1, k2, k3, f3]
          exact hQ _ _ (Ends.ret rfl ⟨[.int .i64 0, .int .i64 0, .int .i64 0, .int .i64 0], by simp [tupOf, hn], by rw [answerW, if_pos hn]; exact rword0, rfl⟩)
      · have hn : answerF w.kind f = 0 := by simp [answerF, k1, k2, k3]
        simp only [go_sem, Nat.reduceEqDiff, Nat.reduceAdd, Nat.reduceMul, Nat.reduceLeDiff, Int.reduceEq, Int.reduceLT, Int.reduceLE, Int.reduceAdd, Int.reduceSub, Int.reduceNeg, Int.reduceMul, Int.reduceToNat, Int.cast_ofNat_Int, Int.natCast_zero, Nat.add_zero, reduceCtorEq, k1, k2, k3]
        exact hQ _ _ (Ends.ret rfl ⟨[.int .i64 0, .int .i64 0, .int .i64 0, .int .i64 0], by simp [tupOf, hn], by rw [answerW, if_pos hn]; exact rword0, rfl⟩)
theorem does_s_l11Rec (K : Codes P I) {H : Heap} {ds : List C} {w : Word} {G : List Nat} (hw : RWord H ds w G) (hk : w.kind = 1 ∨ w.kind = 2 ∨ w.kind = 3) :
    Does P I.s_l11Rec [.agg ds] H fun v H' => ∃ cs' F', v = .val (.agg cs') ∧ Step [] H H' F' ∧ RRec H' cs' (recOfW w) F' := by
  obtain ⟨rfl, rfl⟩ := hw
  refine K.does K.s_l11Rec rfl fun Q hQ => ?_
  simp only [go_sem, Nat.reduceEqDiff, Nat.reduceAdd, Nat.reduceMul, Nat.reduceLeDiff, Int.reduceEq, Int.reduceLT, Int.reduceLE, Int.reduceAdd, Int.reduceSub, Int.reduceNeg, Int.reduceMul, Int.reduceToNat, Int.cast_ofNat_Int, Int.natCast_zero, Nat.add_zero, reduceCtorEq, L_s_l11Rec]
  by_cases k1 : w.kind = 1
  · have s3 := step_new (H := H) (n := 1) (cs := [.int .i64 w.many])
    have hi := ints_new (H := H) [w.many] rfl (by simp [lenTop])
    simp only [go_sem, Nat.reduceEqDiff, Nat.reduceAdd, Nat.reduceMul, Nat.reduceLeDiff, Int.reduceEq, Int.reduceLT, Int.reduceLE, Int.reduceAdd, Int.reduceSub, Int.reduceNeg, Int.reduceMul, Int.reduceToNat, Int.cast_ofNat_Int, Int.natCast_zero, Nat.add_zero, reduceCtorEq, k1, Nat.reduceDiv]
    exact hQ _ _ (Ends.ret rfl ⟨_, _, rfl, s3, .sl H.length 0 1, by simp [recOfW, k1], by simpa [recOfW, k1] using hi⟩)
  · by_cases k2 : w.kind = 2
    · simp only [go_sem, Nat.reduceEqDiff, Nat.reduceAdd, Nat.reduceMul, Nat.reduceLeDiff, Int.reduceEq, Int.reduceLT, Int.reduceLE, Int.reduceAdd, Int.reduceSub, Int.reduceNeg, Int.reduceMul, Int.reduceToNat, Int.cast_ofNat_Int, Int.natCast_zero, Nat.add_zero, reduceCtorEq, k1, k2]
      exact hQ _ _ (Ends.ret rfl ⟨_, _, rfl, Step.refl H, .emp true, by simp [recOfW, k2], by simp only [recOfW, if_neg k1]; exact .emp⟩)
    · have k3 : w.kind = 3 := by omega
      simp only [go_sem, Nat.reduceEqDiff, Nat.reduceAdd, Nat.reduceMul, Nat.reduceLeDiff, Int.reduceEq, Int.reduceLT, Int.reduceLE, Int.reduceAdd, Int.reduceSub, Int.reduceNeg, Int.reduceMul, Int.reduceToNat, Int.cast_ofNat_Int, Int.natCast_zero, Nat.add_zero, reduceCtorEq, k1, k2]
      exact hQ _ _ (Ends.ret rfl ⟨_, _, rfl, Step.refl H, .emp true, by simp [recOfW, k3], by simp only [recOfW, if_neg k1]; exact .emp⟩)
set_option maxHeartbeats 2000000 in
theorem does_s_l11Hear (K : Codes P I) {H : Heap} {cs ds : List C} {h : House} {w : Word} {F G : List Nat} (hh : RHouse H cs h F) (ho : Owned H F) (hw : RWord H ds w G) (hok : houseOk h = true) :
    Does P I.s_l11Hear [.agg cs, .agg ds] H fun v H' => ∃ cs' ws F', v = .tup [.agg cs', .agg ws, .c (.bool (hearOk h w))] ∧ Step F H H' F' ∧ RHouse H' cs' (hearH h w) F' ∧ RWord H' ws (hearW h w) [] := by
  obtain ⟨c, rfl, hc⟩ := hh
  obtain ⟨rfl, rfl⟩ := hw
  have hlok := (houseOk_parts hok).2.1
  refine K.does K.s_l11Hear rfl fun Q hQ => ?_
  simp only [go_sem, Nat.reduceEqDiff, Nat.reduceAdd, Nat.reduceMul, Nat.reduceLeDiff, Int.reduceEq, Int.reduceLT, Int.reduceLE, Int.reduceAdd, Int.reduceSub, Int.reduceNeg, Int.reduceMul, Int.reduceToNat, Int.cast_ofNat_Int, Int.natCast_zero, Nat.add_zero, reduceCtorEq, L_s_l11Hear]
  cases hup : h.up with
  | false =>
    have n1 : hearsB h w = false := by simp [hearsB, hup]
    have n2 : hearH h w = h := hearH_same (by simp [n1])
    have n3 : hearOk h w = false := by simp [hearOk, n1]
    simp only [go_sem, Nat.reduceEqDiff, Nat.reduceAdd, Nat.reduceMul, Nat.reduceLeDiff, Int.reduceEq, Int.reduceLT, Int.reduceLE, Int.reduceAdd, Int.reduceSub, Int.reduceNeg, Int.reduceMul, Int.reduceToNat, Int.cast_ofNat_Int, Int.natCast_zero, Nat.add_zero, reduceCtorEq, hup]
    exact hQ _ _ (Ends.ret rfl ⟨[.int .i64 h.id, .bool false, .int .i64 h.room, c, .int .i64 h.log.forced], _, F, by simp [tupOf, n3]; rfl, ho.step, by rw [n2]; exact ⟨c, by rw [hup], hc⟩, by rw [hearW, if_neg (by simp [n3])]; exact rword0⟩)
  | true =>
    simp only [go_sem, Nat.reduceEqDiff, Nat.reduceAdd, Nat.reduceMul, Nat.reduceLeDiff, Int.reduceEq, Int.reduceLT, Int.reduceLE, Int.reduceAdd, Int.reduceSub, Int.reduceNeg, Int.reduceMul, Int.reduceToNat, Int.cast_ofNat_Int, Int.natCast_zero, Nat.add_zero, reduceCtorEq, hup]
    refine Does.test (does_s_WordOk K (show RWord H _ w [] from ⟨rfl, rfl⟩)) ?_
    cases hwok : wordOk w with
    | false =>
      have n1 : hearsB h w = false := by simp [hearsB, hwok]
      have n2 : hearH h w = h := hearH_same (by simp [n1])
      have n3 : hearOk h w = false := by simp [hearOk, n1]
      simp only [go_sem, Nat.reduceEqDiff, Nat.reduceAdd, Nat.reduceMul, Nat.reduceLeDiff, Int.reduceEq, Int.reduceLT, Int.reduceLE, Int.reduceAdd, Int.reduceSub, Int.reduceNeg, Int.reduceMul, Int.reduceToNat, Int.cast_ofNat_Int, Int.natCast_zero, Nat.add_zero, reduceCtorEq, hup]
      exact hQ _ _ (Ends.ret rfl ⟨[.int .i64 h.id, .bool true, .int .i64 h.room, c, .int .i64 h.log.forced], _, F, by simp [tupOf, n3]; rfl, ho.step, by rw [n2]; exact ⟨c, by rw [hup], hc⟩, by rw [hearW, if_neg (by simp [n3])]; exact rword0⟩)
    | true =>
      by_cases hid : w.house = h.id
      · by_cases hk : 3 < w.kind
        · have n1 : hearsB h w = false := by simp [hearsB, show ¬ w.kind < 4 by omega]
          have n2 : hearH h w = h := hearH_same (by simp [n1])
          have n3 : hearOk h w = false := by simp [hearOk, n1]
          simp only [go_sem, Nat.reduceEqDiff, Nat.reduceAdd, Nat.reduceMul, Nat.reduceLeDiff, Int.reduceEq, Int.reduceLT, Int.reduceLE, Int.reduceAdd, Int.reduceSub, Int.reduceNeg, Int.reduceMul, Int.reduceToNat, Int.cast_ofNat_Int, Int.natCast_zero, Nat.add_zero, reduceCtorEq, hk, hid, hup]
          exact hQ _ _ (Ends.ret rfl ⟨[.int .i64 h.id, .bool true, .int .i64 h.room, c, .int .i64 h.log.forced], _, F, by simp [tupOf, n3]; rfl, ho.step, by rw [n2]; exact ⟨c, by rw [hup], hc⟩, by rw [hearW, if_neg (by simp [n3])]; exact rword0⟩)
        · have hears : hearsB h w = true := by simp [hearsB, hup, hwok, hid, show w.kind < 4 by omega]
          have hrok := recOfW_ok hwok (show w.kind < 4 by omega)
          have hwp := wordOk_parts hwok
          have ht := hwp.2.2.1
          have hok1 := stockV_ok hok false
          have hok2 := stockV_ok hok true
          have hlen1 := (stockOk_parts hok1).2.1
          have hlen2 := (stockOk_parts hok2).2.1
          have hg1 := holdAt_get hlen1 ht.1 ht.2
          have hg2 := holdAt_get hlen2 ht.1 ht.2
          obtain ⟨i, hi⟩ : ∃ i, (w.trip - 1).toNat = i := ⟨_, rfl⟩
          rw [hi] at hg1 hg2
          have hwr : IntKind.wrap .i64 (w.trip - 1) = (i : Int) := by rw [wrap_i64 (by omega) (by omega)]; omega
          have hl1 : (i : Int) < (stockV h false).holds.length := by omega
          have hl2 : (i : Int) < (stockV h true).holds.length := by omega
          have hh : RHouse H [.int .i64 h.id, .bool true, .int .i64 h.room, c, .int .i64 h.log.forced] h F := ⟨c, by rw [hup], hc⟩
          simp only [go_sem, Nat.reduceEqDiff, Nat.reduceAdd, Nat.reduceMul, Nat.reduceLeDiff, Int.reduceEq, Int.reduceLT, Int.reduceLE, Int.reduceAdd, Int.reduceSub, Int.reduceNeg, Int.reduceMul, Int.reduceToNat, Int.cast_ofNat_Int, Int.natCast_zero, Nat.add_zero, reduceCtorEq, hk, hid, hup]
          refine Does.call (does_s_l11Stock K (f := false) hh hlok) ?_
          rintro _ H1 ⟨cs1, F1, rfl, s1, h1⟩
          replace s1 : Step [] H H1 F1 := s1
          obtain ⟨c1, rfl, h1'⟩ := h1
          simp only [go_sem, Nat.reduceEqDiff, Nat.reduceAdd, Nat.reduceMul, Nat.reduceLeDiff, Int.reduceEq, Int.reduceLT, Int.reduceLE, Int.reduceAdd, Int.reduceSub, Int.reduceNeg, Int.reduceMul, Int.reduceToNat, Int.cast_ofNat_Int, Int.natCast_zero, Nat.add_zero, reduceCtorEq]
          refine Does.call (does_s_l11Rec K (show RWord H1 _ w [] from ⟨by simp [hid], rfl⟩) (by omega)) ?_
          rintro _ H2 ⟨cs2, F2, rfl, s2, hr⟩
          replace s2 : Step [] H1 H2 F2 := s2
          obtain ⟨y0, y1, y2, rfl⟩ := len3 hr.cells
          have t2 : Step [] H H2 F2 := (s1.with s2).part (fun a => by simp only [List.count_append, List.count_nil, List.count_cons]; omega)
          have h2' : Holds' H2 c1 (stockV h false).holds F1 := s2.keepSl RHold.good h1' (fun b _ => by simp)
          simp only [go_sem, Nat.reduceEqDiff, Nat.reduceAdd, Nat.reduceMul, Nat.reduceLeDiff, Int.reduceEq, Int.reduceLT, Int.reduceLE, Int.reduceAdd, Int.reduceSub, Int.reduceNeg, Int.reduceMul, Int.reduceToNat, Int.cast_ofNat_Int, Int.natCast_zero, Nat.add_zero, reduceCtorEq]
          refine Does.test (does_s_l2May K (show RStock H2 [.int .i64 (stockV h false).room, c1] (stockV h false) F1 from ⟨c1, rfl, h2'⟩) hr hok1 hrok) ?_
          cases hm : mayB h w with
          | true =>
            have hH : hearH h w = { h with log := addL' h.log (recOfW w) } := by unfold hearH; rw [if_pos hears, if_pos hm]
            have n3 : hearOk h w = false := by simp [hearOk, hm]
            have hm' : stockMayB (stockV h false) (recOfW w) = true := hm
            have u2 : Step F H H2 (F ++ F2) := ho.step.with t2
            simp only [go_sem, Nat.reduceEqDiff, Nat.reduceAdd, Nat.reduceMul, Nat.reduceLeDiff, Int.reduceEq, Int.reduceLT, Int.reduceLE, Int.reduceAdd, Int.reduceSub, Int.reduceNeg, Int.reduceMul, Int.reduceToNat, Int.cast_ofNat_Int, Int.natCast_zero, Nat.add_zero, reduceCtorEq, hm']
            refine Does.call (does_s_l1Add K (show RLog H2 [c, .int .i64 h.log.forced] h.log F from ⟨c, rfl, t2.keepSl RRec.good hc (fun b _ => by simp)⟩) hr u2.owned) ?_
            rintro _ H5 ⟨cs5, F5, rfl, s5, c5, rfl, h5⟩
            replace s5 : Step (F ++ F2) H2 H5 F5 := s5
            simp only [go_sem, Nat.reduceEqDiff, Nat.reduceAdd, Nat.reduceMul, Nat.reduceLeDiff, Int.reduceEq, Int.reduceLT, Int.reduceLE, Int.reduceAdd, Int.reduceSub, Int.reduceNeg, Int.reduceMul, Int.reduceToNat, Int.cast_ofNat_Int, Int.natCast_zero, Nat.add_zero, reduceCtorEq]
            exact hQ _ _ (Ends.ret rfl ⟨[.int .i64 h.id, .bool true, .int .i64 h.room, c5, .int .i64 (addL h.log (recOfW w)).forced], _, F5, by simp [tupOf, n3]; rfl, u2.trans s5, by rw [hH]; exact ⟨c5, by rw [← hup], h5⟩, by rw [hearW, if_neg (by simp [n3])]; exact rword0⟩)
          | false =>
            have hH : hearH h w = h := hearH_same (by simp [hm])
            have hm' : stockMayB (stockV h false) (recOfW w) = false := hm
            obtain ⟨b1, o1, bs1, cs1', f1, rfl, e1, e2, ⟨rfl, _⟩, _, _⟩ := h2'.get hg1
            have ld1 := slab_sub e2 1 1 (by simp)
            simp only [slabAt1, slabSkip1] at ld1
            simp only [go_sem, Nat.reduceEqDiff, Nat.reduceAdd, Nat.reduceMul, Nat.reduceLeDiff, Int.reduceEq, Int.reduceLT, Int.reduceLE, Int.reduceAdd, Int.reduceSub, Int.reduceNeg, Int.reduceMul, Int.reduceToNat, Int.cast_ofNat_Int, Int.natCast_zero, Nat.add_zero, reduceCtorEq, hm', hwr, hl1, e1, ld1]
            by_cases full : w.kind = 1 ∧ (holdAt (stockV h false) w.trip).state = 0
            · have ha : houseAnswer h w = 5 := by simp [houseAnswer, answerK, full]
              have n3 : hearOk h w = true := by simp [hearOk, hears, hm, ha]
              simp only [go_sem, Nat.reduceEqDiff, Nat.reduceAdd, Nat.reduceMul, Nat.reduceLeDiff, Int.reduceEq, Int.reduceLT, Int.reduceLE, Int.reduceAdd, Int.reduceSub, Int.reduceNeg, Int.reduceMul, Int.reduceToNat, Int.cast_ofNat_Int, Int.natCast_zero, Nat.add_zero, reduceCtorEq, full.1, full.2, ld1, e1, hl1, hwr]
              exact hQ _ _ (Ends.ret rfl ⟨[.int .i64 h.id, .bool true, .int .i64 h.room, c, .int .i64 h.log.forced], [.int .i64 5, .int .i64 h.id, .int .i64 w.trip, .int .i64 0], F, by simp [tupOf, n3], (ho.step.with t2).part (fun a => by simp only [List.count_append, List.count_nil, List.count_cons]; omega), by rw [hH]; exact t2.stay RHouse.good hh, by rw [hearW, if_pos n3, ha]; exact ⟨rfl, rfl⟩⟩)
            · have ha : houseAnswer h w = answerF w.kind (holdAt (stockV h true) w.trip).state := answerK_F full
              by_cases k1 : w.kind = 1
              · have a0 : ¬ (holdAt (stockV h false) w.trip).state = 0 := fun e => full ⟨k1, e⟩
                simp only [go_sem, Nat.reduceEqDiff, Nat.reduceAdd, Nat.reduceMul, Nat.reduceLeDiff, Int.reduceEq, Int.reduceLT, Int.reduceLE, Int.reduceAdd, Int.reduceSub, Int.reduceNeg, Int.reduceMul, Int.reduceToNat, Int.cast_ofNat_Int, Int.natCast_zero, Nat.add_zero, reduceCtorEq, k1, hwr, hl1, e1, ld1, a0]
                refine Does.call (does_s_l11Stock K (f := true) (t2.stay RHouse.good hh) hlok) ?_
                rintro _ H4 ⟨cs4, F4, rfl, s4, c4, rfl, h4⟩
                replace s4 : Step [] H2 H4 F4 := s4
                obtain ⟨b4, o4, bs4, cs4', f4, rfl, e3, e4, ⟨rfl, _⟩, _, _⟩ := h4.get hg2
                have ld4 := slab_sub e4 1 1 (by simp)
                simp only [slabAt1, slabSkip1] at ld4
                have t4 := t2.with s4
                have hh4 := t4.stay RHouse.good hh
                simp only [go_sem, Nat.reduceEqDiff, Nat.reduceAdd, Nat.reduceMul, Nat.reduceLeDiff, Int.reduceEq, Int.reduceLT, Int.reduceLE, Int.reduceAdd, Int.reduceSub, Int.reduceNeg, Int.reduceMul, Int.reduceToNat, Int.cast_ofNat_Int, Int.natCast_zero, Nat.add_zero, reduceCtorEq, hwr, hl2, e3, ld4]
                refine Does.call (does_s_l11Answer K hh4 (show RWord H4 _ w [] from ⟨by simp [hid, k1], rfl⟩)) ?_
                rintro _ _ ⟨ws, rfl, hws, rfl⟩
                have n3 : hearOk h w = decide (answerF w.kind (holdAt (stockV h true) w.trip).state ≠ 0) := by simp [hearOk, hears, hm, ha]
                obtain ⟨z0, z1, z2, z3, rfl⟩ := len4 hws.cells
                simp only [go_sem, Nat.reduceEqDiff, Nat.reduceAdd, Nat.reduceMul, Nat.reduceLeDiff, Int.reduceEq, Int.reduceLT, Int.reduceLE, Int.reduceAdd, Int.reduceSub, Int.reduceNeg, Int.reduceMul, Int.reduceToNat, Int.cast_ofNat_Int, Int.natCast_zero, Nat.add_zero, reduceCtorEq]
                exact hQ _ _ (Ends.ret rfl ⟨[.int .i64 h.id, .bool true, .int .i64 h.room, c, .int .i64 h.log.forced], [z0, z1, z2, z3], F, by simp [tupOf, n3], (ho.step.with t4).part (fun a => by simp only [List.count_append, List.count_nil, List.count_cons]; omega), by rw [hH]; exact hh4, by
                  have : hearW h w = answerW h w (holdAt (stockV h true) w.trip).state := by
                    unfold hearW answerW
                    rw [n3, ha]
                    by_cases q : answerF w.kind (holdAt (stockV h true) w.trip).state = 0 <;> simp [q]
                  rw [this]; exact hws⟩)
              · simp only [go_sem, Nat.reduceEqDiff, Nat.reduceAdd, Nat.reduceMul, Nat.reduceLeDiff, Int.reduceEq, Int.reduceLT, Int.reduceLE, Int.reduceAdd, Int.reduceSub, Int.reduceNeg, Int.reduceMul, Int.reduceToNat, Int.cast_ofNat_Int, Int.natCast_zero, Nat.add_zero, reduceCtorEq, k1, hwr, hl1, e1, ld1]
                refine Does.call (does_s_l11Stock K (f := true) (t2.stay RHouse.good hh) hlok) ?_
                rintro _ H4 ⟨cs4, F4, rfl, s4, c4, rfl, h4⟩
                replace s4 : Step [] H2 H4 F4 := s4
                obtain ⟨b4, o4, bs4, cs4', f4, rfl, e3, e4, ⟨rfl, _⟩, _, _⟩ := h4.get hg2
                have ld4 := slab_sub e4 1 1 (by simp)
                simp only [slabAt1, slabSkip1] at ld4
                have t4 := t2.with s4
                have hh4 := t4.stay RHouse.good hh
                simp only [go_sem, Nat.reduceEqDiff, Nat.reduceAdd, Nat.reduceMul, Nat.reduceLeDiff, Int.reduceEq, Int.reduceLT, Int.reduceLE, Int.reduceAdd, Int.reduceSub, Int.reduceNeg, Int.reduceMul, Int.reduceToNat, Int.cast_ofNat_Int, Int.natCast_zero, Nat.add_zero, reduceCtorEq, hwr, hl2, e3, ld4]
                refine Does.call (does_s_l11Answer K hh4 (show RWord H4 _ w [] from ⟨by simp [hid, k1], rfl⟩)) ?_
                rintro _ _ ⟨ws, rfl, hws, rfl⟩
                have n3 : hearOk h w = decide (answerF w.kind (holdAt (stockV h true) w.trip).state ≠ 0) := by simp [hearOk, hears, hm, ha]
                obtain ⟨z0, z1, z2, z3, rfl⟩ := len4 hws.cells
                simp only [go_sem, Nat.reduceEqDiff, Nat.reduceAdd, Nat.reduceMul, Nat.reduceLeDiff, Int.reduceEq, Int.reduceLT, Int.reduceLE, Int.reduceAdd, Int.reduceSub, Int.reduceNeg, Int.reduceMul, Int.reduceToNat, Int.cast_ofNat_Int, Int.natCast_zero, Nat.add_zero, reduceCtorEq]
                exact hQ _ _ (Ends.ret rfl ⟨[.int .i64 h.id, .bool true, .int .i64 h.room, c, .int .i64 h.log.forced], [z0, z1, z2, z3], F, by simp [tupOf, n3], (ho.step.with t4).part (fun a => by simp only [List.count_append, List.count_nil, List.count_cons]; omega), by rw [hH]; exact hh4, by
                  have : hearW h w = answerW h w (holdAt (stockV h true) w.trip).state := by
                    unfold hearW answerW
                    rw [n3, ha]
                    by_cases q : answerF w.kind (holdAt (stockV h true) w.trip).state = 0 <;> simp [q]
                  rw [this]; exact hws⟩)
      · have n1 : hearsB h w = false := by simp [hearsB, hid]
        have n2 : hearH h w = h := hearH_same (by simp [n1])
        have n3 : hearOk h w = false := by simp [hearOk, n1]
        simp only [go_sem, Nat.reduceEqDiff, Nat.reduceAdd, Nat.reduceMul, Nat.reduceLeDiff, Int.reduceEq, Int.reduceLT, Int.reduceLE, Int.reduceAdd, Int.reduceSub, Int.reduceNeg, Int.reduceMul, Int.reduceToNat, Int.cast_ofNat_Int, Int.natCast_zero, Nat.add_zero, reduceCtorEq, hid, hup]
        exact hQ _ _ (Ends.ret rfl ⟨[.int .i64 h.id, .bool true, .int .i64 h.room, c, .int .i64 h.log.forced], _, F, by simp [tupOf, n3]; rfl, ho.step, by rw [n2]; exact ⟨c, by rw [hup], hc⟩, by rw [hearW, if_neg (by simp [n3])]; exact rword0⟩)
theorem does_s_HouseHear (K : Codes P I) {H : Heap} {cs ds : List C} {h : House} {w : Word} {F G : List Nat} (hh : RHouse H cs h F) (hw : RWord H ds w G) :
    Does P I.s_HouseHear [.agg cs, .agg ds] H fun v H' => ∃ cs' ws F', v = .tup [.agg cs', .agg ws, .c (.bool (houseHearB h w))] ∧ Step [] H H' F' ∧ RHouse H' cs' (houseHearV h w) F' ∧ RWord H' ws (houseHearW h w) [] := by
  obtain ⟨x0, x1, x2, x3, x4, rfl⟩ := len5 hh.cells
  obtain ⟨rfl, rfl⟩ := hw
  refine K.does K.s_HouseHear rfl fun Q hQ => ?_
  simp only [go_sem, Nat.reduceEqDiff, Nat.reduceAdd, Nat.reduceMul, Nat.reduceLeDiff, Int.reduceEq, Int.reduceLT, Int.reduceLE, Int.reduceAdd, Int.reduceSub, Int.reduceNeg, Int.reduceMul, Int.reduceToNat, Int.cast_ofNat_Int, Int.natCast_zero, Nat.add_zero, reduceCtorEq, L_s_HouseHear]
  refine Does.call (does_s_HouseOk K hh) ?_
  rintro _ H1 ⟨rfl, s1⟩
  replace s1 : Step [] H H1 [] := s1
  cases hok : houseOk h with
  | false =>
    simp only [go_sem, Nat.reduceEqDiff, Nat.reduceAdd, Nat.reduceMul, Nat.reduceLeDiff, Int.reduceEq, Int.reduceLT, Int.reduceLE, Int.reduceAdd, Int.reduceSub, Int.reduceNeg, Int.reduceMul, Int.reduceToNat, Int.cast_ofNat_Int, Int.natCast_zero, Nat.add_zero, reduceCtorEq]
    exact hQ _ _ (Ends.ret rfl ⟨[.int .i64 0, .bool false, .int .i64 0, .nil, .int .i64 0], _, [], by simp [tupOf, houseHearB, hok]; rfl, s1, by simp only [houseHearV, hok]; exact rhouse0, by simp only [houseHearW, hok]; exact rword0⟩)
  | true =>
    have hlok := (houseOk_parts hok).2.1
    have eV : houseHearV h w = hearH h w := by simp [houseHearV, hok]
    have eW : houseHearW h w = hearW h w := by simp [houseHearW, hok]
    have eB : houseHearB h w = hearOk h w := by simp [houseHearB, hok]
    simp only [go_sem, Nat.reduceEqDiff, Nat.reduceAdd, Nat.reduceMul, Nat.reduceLeDiff, Int.reduceEq, Int.reduceLT, Int.reduceLE, Int.reduceAdd, Int.reduceSub, Int.reduceNeg, Int.reduceMul, Int.reduceToNat, Int.cast_ofNat_Int, Int.natCast_zero, Nat.add_zero, reduceCtorEq]
    refine Does.call (does_s_l11Copy K (s1.stay RHouse.good hh) (logOk_small hlok)) ?_
    rintro _ H2 ⟨cs2, F2, rfl, s2, h2⟩
    replace s2 : Step [] H1 H2 F2 := s2
    obtain ⟨y0, y1, y2, y3, y4, rfl⟩ := len5 h2.cells
    simp only [go_sem, Nat.reduceEqDiff, Nat.reduceAdd, Nat.reduceMul, Nat.reduceLeDiff, Int.reduceEq, Int.reduceLT, Int.reduceLE, Int.reduceAdd, Int.reduceSub, Int.reduceNeg, Int.reduceMul, Int.reduceToNat, Int.cast_ofNat_Int, Int.natCast_zero, Nat.add_zero, reduceCtorEq]
    refine Does.call (does_s_l11Hear K h2 s2.owned (show RWord H2 _ w [] from ⟨rfl, rfl⟩) hok) ?_
    rintro _ H3 ⟨cs3, ws, F3, rfl, s3, h3, hws⟩
    replace s3 : Step F2 H2 H3 F3 := s3
    obtain ⟨z0, z1, z2, z3, z4, rfl⟩ := len5 h3.cells
    obtain ⟨q0, q1, q2, q3, rfl⟩ := len4 hws.cells
    simp only [go_sem, Nat.reduceEqDiff, Nat.reduceAdd, Nat.reduceMul, Nat.reduceLeDiff, Int.reduceEq, Int.reduceLT, Int.reduceLE, Int.reduceAdd, Int.reduceSub, Int.reduceNeg, Int.reduceMul, Int.reduceToNat, Int.cast_ofNat_Int, Int.natCast_zero, Nat.add_zero, reduceCtorEq]
    exact hQ _ _ (Ends.ret rfl ⟨_, _, F3, by simp [tupOf, eB]; exact ⟨rfl, rfl⟩, (s1.with s2).trans s3, by rw [eV]; exact h3, by rw [eW]; exact hws⟩)
end Go.AX

/- The exact laws of trips hold. Condition: the arguments lie in memory. -/
namespace Go.AX
variable {P : Program} {I : Ids}
theorem cnt_trips {l : List Trip} (h : tripsOk l = true) : sumL cntTrip l ≤ 4194304 := by
  obtain ⟨h1, h2⟩ := tripsOk_parts h
  have := sumL_bound (f := cntTrip) (xs := l) (N := 4) fun t ht => by
    have := manyOk_len (h2 t ht).1
    simp only [cntTrip, sumL_one]; omega
  have : l.length * 4 ≤ 6 * 4 := Nat.mul_le_mul_right _ h1
  omega
theorem tripsDoV_ok (l : List Trip) (r : Rec) : tripsOk (tripsDoV l r) = true := by
  unfold tripsDoV; split
  · rename_i h
    simp only [tripsMay, Bool.and_eq_true] at h
    exact tripsOk_do h.1 h.2.1 h.2.2
  · rfl
theorem tripsD_ok (recs : List Rec) : tripsOk (tripsD recs) = true := by
  unfold tripsD
  cases h : tripsOf recs with
  | none => rfl
  | some l => exact tripsOf_ok h
end Go.AX

/- Draws: trips and records of a desk. Condition: the reader lies in memory, and drew less often than 2^39. -/
namespace Go.AX
variable {P : Program} {I : Ids}
end Go.AX

/- Draws: houses. Condition: the reader lies in memory, and drew less often than 2^39. -/
namespace Go.AX
variable {P : Program} {I : Ids}
theorem does_s_l2Copy (K : Codes P I) {H : Heap} {cs : List C} {s : Stock} {F : List Nat} (h : RStock H cs s F) (hm : s.holds.length ≤ 64) : Does P I.s_l2Copy [.agg cs] H fun v H' => ∃ cs' F', v = .val (.agg cs') ∧ Step [] H H' F' ∧ RStock H' cs' s F' := by
  obtain ⟨c, rfl, hc⟩ := h
  refine K.does K.s_l2Copy rfl fun Q hQ => ?_
  obtain ⟨cells, c1, H1, f, he, ha, hc1, s1⟩ := copy_flat RHold.good RHold.flat (by decide) hc (by unfold lenMax; omega)
  simp only [go_sem, Nat.reduceEqDiff, Nat.reduceAdd, Nat.reduceMul, Nat.reduceLeDiff, Int.reduceEq, Int.reduceLT, Int.reduceLE, Int.reduceAdd, Int.reduceSub, Int.reduceNeg, Int.reduceMul, Int.reduceToNat, Int.cast_ofNat_Int, Int.natCast_zero, Nat.add_zero, reduceCtorEq, L_s_l2Copy, he, ha]
  exact hQ _ _ (Ends.ret rfl ⟨_, f, rfl, s1, c1, rfl, hc1⟩)
theorem does_s_StockDo (K : Codes P I) {H : Heap} {cs ds : List C} {s : Stock} {r : Rec} {F G : List Nat} (h : RStock H cs s F) (hr : RRec H ds r G) : Does P I.s_StockDo [.agg cs, .agg ds] H fun v H' => ∃ cs' F', v = .tup [.agg cs', .c (.bool (stockMay s r))] ∧ Step [] H H' F' ∧ RStock H' cs' (stockDoV s r) F' := by
  obtain ⟨x0, x1, rfl⟩ := len2 h.cells
  obtain ⟨y0, y1, y2, rfl⟩ := len3 hr.cells
  refine K.does K.s_StockDo rfl fun Q hQ => ?_
  simp only [go_sem, Nat.reduceEqDiff, Nat.reduceAdd, Nat.reduceMul, Nat.reduceLeDiff, Int.reduceEq, Int.reduceLT, Int.reduceLE, Int.reduceAdd, Int.reduceSub, Int.reduceNeg, Int.reduceMul, Int.reduceToNat, Int.cast_ofNat_Int, Int.natCast_zero, Nat.add_zero, reduceCtorEq, L_s_StockDo]
  refine Does.test (does_s_StockMay K h hr) ?_
  cases hmay : stockMay s r with
  | false =>
    simp only [go_sem, Nat.reduceEqDiff, Nat.reduceAdd, Nat.reduceMul, Nat.reduceLeDiff, Int.reduceEq, Int.reduceLT, Int.reduceLE, Int.reduceAdd, Int.reduceSub, Int.reduceNeg, Int.reduceMul, Int.reduceToNat, Int.cast_ofNat_Int, Int.natCast_zero, Nat.add_zero, reduceCtorEq]
    exact hQ _ _ (Ends.ret rfl ⟨[.int .i64 0, .nil], [], by simp [tupOf, hmay], Step.refl H, by rw [stockDoV, if_neg (by simp [hmay])]; exact rstock0⟩)
  | true =>
    have hmay2 := hmay
    simp only [stockMay, Bool.and_eq_true] at hmay2
    obtain ⟨hok, hrk, hmb⟩ := hmay2
    have hlen := (stockOk_parts hok).2.1
    simp only [go_sem, Nat.reduceEqDiff, Nat.reduceAdd, Nat.reduceMul, Nat.reduceLeDiff, Int.reduceEq, Int.reduceLT, Int.reduceLE, Int.reduceAdd, Int.reduceSub, Int.reduceNeg, Int.reduceMul, Int.reduceToNat, Int.cast_ofNat_Int, Int.natCast_zero, Nat.add_zero, reduceCtorEq]
    refine Does.call (does_s_l2Copy K h (by omega)) ?_
    rintro _ H1 ⟨cs1, F1, rfl, s1, h1⟩
    simp only [go_sem, Nat.reduceEqDiff, Nat.reduceAdd, Nat.reduceMul, Nat.reduceLeDiff, Int.reduceEq, Int.reduceLT, Int.reduceLE, Int.reduceAdd, Int.reduceSub, Int.reduceNeg, Int.reduceMul, Int.reduceToNat, Int.cast_ofNat_Int, Int.natCast_zero, Nat.add_zero, reduceCtorEq]
    refine Does.call (does_s_l2Do K h1 s1.owned (s1.stay RRec.good hr) hok hrk hmb) ?_
    rintro _ H2 ⟨cs2, rfl, s2, h2⟩
    obtain ⟨z0, z1, rfl⟩ := len2 h2.cells
    simp only [go_sem, Nat.reduceEqDiff, Nat.reduceAdd, Nat.reduceMul, Nat.reduceLeDiff, Int.reduceEq, Int.reduceLT, Int.reduceLE, Int.reduceAdd, Int.reduceSub, Int.reduceNeg, Int.reduceMul, Int.reduceToNat, Int.cast_ofNat_Int, Int.natCast_zero, Nat.add_zero, reduceCtorEq]
    exact hQ _ _ (Ends.ret rfl ⟨[z0, z1], F1, by simp [tupOf, hmay], s1.trans s2, by rw [stockDoV, if_pos hmay]; exact h2⟩)
set_option maxHeartbeats 1000000 in
theorem draws_l71Recs (K : Codes P I) {H : Heap} {b q : Nat} (h : RdM H b q) (hq : q < 549755812000) :
    Does P I.s_l71Recs [.c (.ptr b 0)] H fun v H' => ∃ room c xs F, v = .tup [int room, .c c] ∧ Dr b (q + 100) H H' F ∧ Recs H' c xs F ∧ xs.length ≤ 14 ∧ ∀ r ∈ xs, r.many.length ≤ 3 := by
  have hb0 := h.lt
  refine K.does K.s_l71Recs rfl fun Q hQ => ?_
  simp only [go_sem, Nat.reduceEqDiff, Nat.reduceAdd, Nat.reduceMul, Nat.reduceLeDiff, Int.reduceEq, Int.reduceLT, Int.reduceLE, Int.reduceAdd, Int.reduceSub, Int.reduceNeg, Int.reduceMul, Int.reduceToNat, Int.cast_ofNat_Int, Int.natCast_zero, Nat.add_zero, reduceCtorEq, L_s_l71Recs]
  refine Does.call (draws_pick K h (by omega)) ?_
  rintro _ H1 ⟨k1, rfl, e1, s1, r1⟩
  replace s1 : Step [b] H H1 [b] := s1
  have d1 : Dr b (q + 1) H H1 [] := (Dr.zero h).pick s1 r1
  simp only [go_sem, Nat.reduceEqDiff, Nat.reduceAdd, Nat.reduceMul, Nat.reduceLeDiff, Int.reduceEq, Int.reduceLT, Int.reduceLE, Int.reduceAdd, Int.reduceSub, Int.reduceNeg, Int.reduceMul, Int.reduceToNat, Int.cast_ofNat_Int, Int.natCast_zero, Nat.add_zero, reduceCtorEq]
  refine Does.call (does_s_StockNew K) ?_
  rintro _ H2 ⟨cs2, F2, rfl, s2, h2⟩
  obtain ⟨y0, y1, rfl⟩ := len2 h2.cells
  have d2 := d1.new s2
  simp only [go_sem, Nat.reduceEqDiff, Nat.reduceAdd, Nat.reduceMul, Nat.reduceLeDiff, Int.reduceEq, Int.reduceLT, Int.reduceLE, Int.reduceAdd, Int.reduceSub, Int.reduceNeg, Int.reduceMul, Int.reduceToNat, Int.cast_ofNat_Int, Int.natCast_zero, Nat.add_zero, reduceCtorEq]
  refine Does.call (draws_pick K d2.rd (by omega)) ?_
  rintro _ H3 ⟨k3, rfl, e3, s3, r3⟩
  obtain ⟨n0, rfl, hn0⟩ := e3.nat (by decide)
  have d3 := d2.pick s3 r3
  have h3 := d2.keep RStock.good (show RStock H2 [y0, y1] (stockNewV k1) ([] ++ F2) from h2) s3
  simp only [go_sem, Nat.reduceEqDiff, Nat.reduceAdd, Nat.reduceMul, Nat.reduceLeDiff, Int.reduceEq, Int.reduceLT, Int.reduceLE, Int.reduceAdd, Int.reduceSub, Int.reduceNeg, Int.reduceMul, Int.reduceToNat, Int.cast_ofNat_Int, Int.natCast_zero, Nat.add_zero, reduceCtorEq]
  refine RU_loop (fun m t => m < 14 ∧ t.env 0 = .val (.c (.ptr b 0)) ∧ t.env 4 = .val (int k1) ∧ t.env 8 = .val (int m) ∧ ∃ co out Fo cs s Fs, t.env 5 = .val (.c co) ∧ t.env 6 = .box cs ∧ cs.length = 2 ∧ Dr b (q + 2 + 4 * (14 - m)) H t.H (Fo ++ Fs) ∧ Recs t.H co out Fo ∧ RStock t.H cs s Fs ∧ out.length + m ≤ 14 ∧ (∀ r ∈ out, r.many.length ≤ 3)) n0
    ⟨by omega, rfl, rfl, rfl, _, [], [], _, _, F2, rfl, rfl, rfl, d3.mono (by omega), .emp, h3, by simp; omega, by simp⟩ ?_
  rintro m t ⟨hm, g0, g4, g8, co, out, Fo, cs, s, Fs, g5, g6, hcs, d, ho, hs, hlen, hmany⟩ Q' hN hE hR
  obtain ⟨z0, z1, rfl⟩ := len2 hcs
  by_cases hc : (0 : Int) < m
  · have hw : IntKind.wrap .i64 ((m : Int) - 1) = ((m - 1 : Nat) : Int) := by rw [wrap_i64 (by omega) (by omega)]; omega
    simp only [go_sem, Nat.reduceEqDiff, Nat.reduceAdd, Nat.reduceMul, Nat.reduceLeDiff, Int.reduceEq, Int.reduceLT, Int.reduceLE, Int.reduceAdd, Int.reduceSub, Int.reduceNeg, Int.reduceMul, Int.reduceToNat, Int.cast_ofNat_Int, Int.natCast_zero, Nat.add_zero, reduceCtorEq, g0, g4, g5, g6, g8, hc]
    refine Does.call (draws_pick K d.rd (by omega)) ?_
    rintro _ H4 ⟨k4, rfl, e4, s4, r4⟩
    have d4 := d.pick s4 r4
    have ho4 := s4.keepSl RRec.good ho fun k hk => d.disj k (by simp [hk])
    have hs4 := s4.keep RStock.good hs fun k hk => d.disj k (by simp [hk])
    simp only [go_sem, Nat.reduceEqDiff, Nat.reduceAdd, Nat.reduceMul, Nat.reduceLeDiff, Int.reduceEq, Int.reduceLT, Int.reduceLE, Int.reduceAdd, Int.reduceSub, Int.reduceNeg, Int.reduceMul, Int.reduceToNat, Int.cast_ofNat_Int, Int.natCast_zero, Nat.add_zero, reduceCtorEq, g0, g4, g5, g6, g8]
    refine Does.call (draws_pick K d4.rd (by omega)) ?_
    rintro _ H5 ⟨k5, rfl, e5, s5, r5⟩
    have d5 := d4.pick s5 r5
    have ho5 := s5.keepSl RRec.good ho4 fun k hk => d4.disj k (by simp [hk])
    have hs5 := s5.keep RStock.good hs4 fun k hk => d4.disj k (by simp [hk])
    by_cases k1' : IntKind.wrap .i64 (1 + k4) = 1
    · simp only [go_sem, Nat.reduceEqDiff, Nat.reduceAdd, Nat.reduceMul, Nat.reduceLeDiff, Int.reduceEq, Int.reduceLT, Int.reduceLE, Int.reduceAdd, Int.reduceSub, Int.reduceNeg, Int.reduceMul, Int.reduceToNat, Int.cast_ofNat_Int, Int.natCast_zero, Nat.add_zero, reduceCtorEq, g0, g4, g5, g6, g8, k1']
      refine Does.call (draws_pick K d5.rd (by omega)) ?_
      rintro _ H6 ⟨k6, rfl, e6, s6, r6⟩
      have d6 := d5.pick s6 r6
      have ho6 := s6.keepSl RRec.good ho5 fun k hk => d5.disj k (by simp [hk])
      have hs6 := s6.keep RStock.good hs5 fun k hk => d5.disj k (by simp [hk])
      have hi := ints_new (H := H6) [IntKind.wrap .i64 (1 + k6)] rfl (by simp [lenTop])
      have s7 := step_new (H := H6) (n := 1) (cs := [.int .i64 (IntKind.wrap .i64 (1 + k6))])
      have d7 := d6.new s7
      have ho7 := s7.keepSl RRec.good ho6 fun b _ => by simp
      have hs7 := s7.stay RStock.good hs6
      have hx : RRec (H6 ++ [⟨.rw, 1, [.int .i64 (IntKind.wrap .i64 (1 + k6))]⟩]) [.int .i64 1, .int .i64 (IntKind.wrap .i64 (1 + k5)), .sl H6.length 0 1] ⟨1, IntKind.wrap .i64 (1 + k5), [IntKind.wrap .i64 (1 + k6)]⟩ [H6.length] := ⟨_, rfl, hi⟩
      simp only [go_sem, Nat.reduceEqDiff, Nat.reduceAdd, Nat.reduceMul, Nat.reduceLeDiff, Int.reduceEq, Int.reduceLT, Int.reduceLE, Int.reduceAdd, Int.reduceSub, Int.reduceNeg, Int.reduceMul, Int.reduceToNat, Int.cast_ofNat_Int, Int.natCast_zero, Nat.add_zero, reduceCtorEq, g0, g4, g5, g6, g8, k1', Nat.reduceDiv]
      refine Does.call (does_s_StockDo K hs7 hx) ?_
      rintro _ H9 ⟨c9, F9, rfl, s9, h9⟩
      have d9 := d7.new s9
      have ho9 := s9.keepSl RRec.good ho7 fun b _ => by simp
      have hx9 := s9.stay RRec.good hx
      obtain ⟨w0, w1, rfl⟩ := len2 h9.cells
      cases hmay : stockMay s ⟨1, IntKind.wrap .i64 (1 + k5), [IntKind.wrap .i64 (1 + k6)]⟩ with
      | true =>
        obtain ⟨c10, H10, F10, ha, ho10, s10⟩ := app_one RRec.good (by decide) ho9 hx9 rfl (d9.owned.part (fun a => by simp only [List.count_append, List.count_nil, List.count_cons]; omega)) (by simp [lenMax]; omega)
        have d9p := d9.part (G := F9 ++ (Fo ++ [H6.length])) (fun a => by simp only [List.count_append, List.count_nil, List.count_cons]; omega)
        have d10 := d9p.change hb0 s10
        have h10 := s10.keep RStock.good h9 fun k hk hc => d9p.owned.disj k hk hc
        simp only [go_sem, Nat.reduceEqDiff, Nat.reduceAdd, Nat.reduceMul, Nat.reduceLeDiff, Int.reduceEq, Int.reduceLT, Int.reduceLE, Int.reduceAdd, Int.reduceSub, Int.reduceNeg, Int.reduceMul, Int.reduceToNat, Int.cast_ofNat_Int, Int.natCast_zero, Nat.add_zero, reduceCtorEq, g0, g4, g5, g6, g8, hw, ha]
        refine hN (m - 1) _ (by omega) ⟨by omega, by simp [upd, g0], by simp [upd, g4], by simp [upd], c10, out ++ [⟨1, IntKind.wrap .i64 (1 + k5), [IntKind.wrap .i64 (1 + k6)]⟩], F10, [w0, w1], _, F9, by simp [upd], by simp [upd], rfl, (d10.part (fun a => by simp only [List.count_append, List.count_nil, List.count_cons]; omega)).mono (by omega), ho10, h10, by simp; omega, ?_⟩
        intro r hr
        simp only [List.mem_append, List.mem_cons, List.not_mem_nil, or_false] at hr
        rcases hr with hr | rfl
        · exact hmany r hr
        · simp
      | false =>
        simp only [go_sem, Nat.reduceEqDiff, Nat.reduceAdd, Nat.reduceMul, Nat.reduceLeDiff, Int.reduceEq, Int.reduceLT, Int.reduceLE, Int.reduceAdd, Int.reduceSub, Int.reduceNeg, Int.reduceMul, Int.reduceToNat, Int.cast_ofNat_Int, Int.natCast_zero, Nat.add_zero, reduceCtorEq, g0, g4, g5, g6, g8, hw]
        exact hN (m - 1) _ (by omega) ⟨by omega, by simp [upd, g0], by simp [upd, g4], by simp [upd], co, out, Fo, [z0, z1], s, Fs, by simp [upd, g5], by simp [upd, g6], rfl, (d9.part (fun a => by simp only [List.count_append, List.count_nil, List.count_cons]; omega)).mono (by omega), ho9, s9.stay RStock.good hs7, by omega, hmany⟩
    · simp only [go_sem, Nat.reduceEqDiff, Nat.reduceAdd, Nat.reduceMul, Nat.reduceLeDiff, Int.reduceEq, Int.reduceLT, Int.reduceLE, Int.reduceAdd, Int.reduceSub, Int.reduceNeg, Int.reduceMul, Int.reduceToNat, Int.cast_ofNat_Int, Int.natCast_zero, Nat.add_zero, reduceCtorEq, g0, g4, g5, g6, g8, k1']
      have hx : RRec H5 [.int .i64 (IntKind.wrap .i64 (1 + k4)), .int .i64 (IntKind.wrap .i64 (1 + k5)), .emp true] ⟨IntKind.wrap .i64 (1 + k4), IntKind.wrap .i64 (1 + k5), []⟩ [] := ⟨_, rfl, .emp⟩
      refine Does.call (does_s_StockDo K hs5 hx) ?_
      rintro _ H9 ⟨c9, F9, rfl, s9, h9⟩
      have d9 := d5.new s9
      have ho9 := s9.keepSl RRec.good ho5 fun b _ => by simp
      have hx9 := s9.stay RRec.good hx
      obtain ⟨w0, w1, rfl⟩ := len2 h9.cells
      cases hmay : stockMay s ⟨IntKind.wrap .i64 (1 + k4), IntKind.wrap .i64 (1 + k5), []⟩ with
      | true =>
        obtain ⟨c10, H10, F10, ha, ho10, s10⟩ := app_one RRec.good (by decide) ho9 hx9 rfl (d9.owned.part (fun a => by simp only [List.count_append, List.count_nil, List.count_cons]; omega)) (by simp [lenMax]; omega)
        have d9p := d9.part (G := F9 ++ (Fo ++ [])) (fun a => by simp only [List.count_append, List.count_nil, List.count_cons]; omega)
        have d10 := d9p.change hb0 s10
        have h10 := s10.keep RStock.good h9 fun k hk hc => d9p.owned.disj k hk hc
        simp only [go_sem, Nat.reduceEqDiff, Nat.reduceAdd, Nat.reduceMul, Nat.reduceLeDiff, Int.reduceEq, Int.reduceLT, Int.reduceLE, Int.reduceAdd, Int.reduceSub, Int.reduceNeg, Int.reduceMul, Int.reduceToNat, Int.cast_ofNat_Int, Int.natCast_zero, Nat.add_zero, reduceCtorEq, g0, g4, g5, g6, g8, hw, ha]
        refine hN (m - 1) _ (by omega) ⟨by omega, by simp [upd, g0], by simp [upd, g4], by simp [upd], c10, out ++ [⟨IntKind.wrap .i64 (1 + k4), IntKind.wrap .i64 (1 + k5), []⟩], F10, [w0, w1], _, F9, by simp [upd], by simp [upd], rfl, (d10.part (fun a => by simp only [List.count_append, List.count_nil, List.count_cons]; omega)).mono (by omega), ho10, h10, by simp; omega, ?_⟩
        intro r hr
        simp only [List.mem_append, List.mem_cons, List.not_mem_nil, or_false] at hr
        rcases hr with hr | rfl
        · exact hmany r hr
        · simp
      | false =>
        simp only [go_sem, Nat.reduceEqDiff, Nat.reduceAdd, Nat.reduceMul, Nat.reduceLeDiff, Int.reduceEq, Int.reduceLT, Int.reduceLE, Int.reduceAdd, Int.reduceSub, Int.reduceNeg, Int.reduceMul, Int.reduceToNat, Int.cast_ofNat_Int, Int.natCast_zero, Nat.add_zero, reduceCtorEq, g0, g4, g5, g6, g8, hw]
        exact hN (m - 1) _ (by omega) ⟨by omega, by simp [upd, g0], by simp [upd, g4], by simp [upd], co, out, Fo, [z0, z1], s, Fs, by simp [upd, g5], by simp [upd, g6], rfl, (d9.part (fun a => by simp only [List.count_append, List.count_nil, List.count_cons]; omega)).mono (by omega), ho9, s9.stay RStock.good hs5, by omega, hmany⟩
  · simp only [go_sem, Nat.reduceEqDiff, Nat.reduceAdd, Nat.reduceMul, Nat.reduceLeDiff, Int.reduceEq, Int.reduceLT, Int.reduceLE, Int.reduceAdd, Int.reduceSub, Int.reduceNeg, Int.reduceMul, Int.reduceToNat, Int.cast_ofNat_Int, Int.natCast_zero, Nat.add_zero, reduceCtorEq, g0, g4, g5, g6, g8, hc]
    refine hE _ _ ?_
    simp only [go_sem, Nat.reduceEqDiff, Nat.reduceAdd, Nat.reduceMul, Nat.reduceLeDiff, Int.reduceEq, Int.reduceLT, Int.reduceLE, Int.reduceAdd, Int.reduceSub, Int.reduceNeg, Int.reduceMul, Int.reduceToNat, Int.cast_ofNat_Int, Int.natCast_zero, Nat.add_zero, reduceCtorEq, g4, g5]
    exact hQ _ _ (Ends.ret rfl ⟨k1, co, out, Fo, rfl, (d.less (List.sublist_append_left _ _)).mono (by omega), ho, by omega, hmany⟩)
end Go.AX

/- Draws: houses and words. Condition: the reader lies in memory, and drew less often than 2^39. -/
namespace Go.AX
variable {P : Program} {I : Ids}
theorem draws_l71Word (K : Codes P I) {H : Heap} {b q : Nat} (h : RdM H b q) (hq : q < 549755813000) :
    Does P I.s_l71Word [.c (.ptr b 0)] H fun v H' => ∃ w : Word, v = .val (.agg [.int .i64 w.kind, .int .i64 w.house, .int .i64 w.trip, .int .i64 w.many]) ∧ Dr b (q + 10) H H' [] := by
  refine K.does K.s_l71Word rfl fun Q hQ => ?_
  simp only [go_sem, Nat.reduceEqDiff, Nat.reduceAdd, Nat.reduceMul, Nat.reduceLeDiff, Int.reduceEq, Int.reduceLT, Int.reduceLE, Int.reduceAdd, Int.reduceSub, Int.reduceNeg, Int.reduceMul, Int.reduceToNat, Int.cast_ofNat_Int, Int.natCast_zero, Nat.add_zero, reduceCtorEq, L_s_l71Word]
  refine Does.call (draws_pick K h (by omega)) ?_
  rintro _ H1 ⟨k1, rfl, e1, s1, r1⟩
  replace s1 : Step [b] H H1 [b] := s1
  simp only [go_sem, Nat.reduceEqDiff, Nat.reduceAdd, Nat.reduceMul, Nat.reduceLeDiff, Int.reduceEq, Int.reduceLT, Int.reduceLE, Int.reduceAdd, Int.reduceSub, Int.reduceNeg, Int.reduceMul, Int.reduceToNat, Int.cast_ofNat_Int, Int.natCast_zero, Nat.add_zero, reduceCtorEq]
  refine Does.call (draws_pick K r1 (by omega)) ?_
  rintro _ H2 ⟨k2, rfl, e2, s2, r2⟩
  replace s2 : Step [b] H1 H2 [b] := s2
  simp only [go_sem, Nat.reduceEqDiff, Nat.reduceAdd, Nat.reduceMul, Nat.reduceLeDiff, Int.reduceEq, Int.reduceLT, Int.reduceLE, Int.reduceAdd, Int.reduceSub, Int.reduceNeg, Int.reduceMul, Int.reduceToNat, Int.cast_ofNat_Int, Int.natCast_zero, Nat.add_zero, reduceCtorEq]
  refine Does.call (draws_pick K r2 (by omega)) ?_
  rintro _ H3 ⟨k3, rfl, e3, s3, r3⟩
  replace s3 : Step [b] H2 H3 [b] := s3
  have d3 : Dr b (q + 3) H H3 [] := (((Dr.zero h).pick s1 r1).pick s2 r2).pick s3 r3
  simp only [go_sem, Nat.reduceEqDiff, Nat.reduceAdd, Nat.reduceMul, Nat.reduceLeDiff, Int.reduceEq, Int.reduceLT, Int.reduceLE, Int.reduceAdd, Int.reduceSub, Int.reduceNeg, Int.reduceMul, Int.reduceToNat, Int.cast_ofNat_Int, Int.natCast_zero, Nat.add_zero, reduceCtorEq]
  refine RUo_join (fun s => s.env 0 = .val (.c (.ptr b 0)) ∧ s.env 2 = .box [.int .i64 0, .int .i64 0, .int .i64 0, .int .i64 0] ∧ ∃ a1 a2 a3 a4, s.env 3 = .box [.int .i64 a1, .int .i64 a2, .int .i64 a3, .int .i64 a4] ∧ Dr b (q + 5) H s.H []) (fun Q' hN hE hR => ?_) ?_
  · by_cases c : IntKind.wrap .i64 (1 + k1) = 1
    · simp only [go_sem, Nat.reduceEqDiff, Nat.reduceAdd, Nat.reduceMul, Nat.reduceLeDiff, Int.reduceEq, Int.reduceLT, Int.reduceLE, Int.reduceAdd, Int.reduceSub, Int.reduceNeg, Int.reduceMul, Int.reduceToNat, Int.cast_ofNat_Int, Int.natCast_zero, Nat.add_zero, reduceCtorEq, c]
      refine Does.call (draws_pick K d3.rd (by omega)) ?_
      rintro _ H4 ⟨k4, rfl, e4, s4, r4⟩
      simp only [go_sem, Nat.reduceEqDiff, Nat.reduceAdd, Nat.reduceMul, Nat.reduceLeDiff, Int.reduceEq, Int.reduceLT, Int.reduceLE, Int.reduceAdd, Int.reduceSub, Int.reduceNeg, Int.reduceMul, Int.reduceToNat, Int.cast_ofNat_Int, Int.natCast_zero, Nat.add_zero, reduceCtorEq, c]
      exact hN _ ⟨rfl, rfl, _, _, _, _, rfl, (d3.pick s4 r4).mono (by omega)⟩
    · simp only [go_sem, Nat.reduceEqDiff, Nat.reduceAdd, Nat.reduceMul, Nat.reduceLeDiff, Int.reduceEq, Int.reduceLT, Int.reduceLE, Int.reduceAdd, Int.reduceSub, Int.reduceNeg, Int.reduceMul, Int.reduceToNat, Int.cast_ofNat_Int, Int.natCast_zero, Nat.add_zero, reduceCtorEq, c]
      exact hN _ ⟨rfl, rfl, _, _, _, _, rfl, d3.mono (by omega)⟩
  · rintro s ⟨g0, g2, a1, a2, a3, a4, g3, d⟩
    simp only [go_sem, Nat.reduceEqDiff, Nat.reduceAdd, Nat.reduceMul, Nat.reduceLeDiff, Int.reduceEq, Int.reduceLT, Int.reduceLE, Int.reduceAdd, Int.reduceSub, Int.reduceNeg, Int.reduceMul, Int.reduceToNat, Int.cast_ofNat_Int, Int.natCast_zero, Nat.add_zero, reduceCtorEq, g0, g3]
    refine Does.call (draws_pick K d.rd (by omega)) ?_
    rintro _ H5 ⟨k5, rfl, e5, s5, r5⟩
    have d5 := d.pick s5 r5
    by_cases c0 : k5 = 0
    · simp only [go_sem, Nat.reduceEqDiff, Nat.reduceAdd, Nat.reduceMul, Nat.reduceLeDiff, Int.reduceEq, Int.reduceLT, Int.reduceLE, Int.reduceAdd, Int.reduceSub, Int.reduceNeg, Int.reduceMul, Int.reduceToNat, Int.cast_ofNat_Int, Int.natCast_zero, Nat.add_zero, reduceCtorEq, g0, g2, g3, c0]
      refine Does.call (draws_pick K d5.rd (by omega)) ?_
      rintro _ H6 ⟨k6, rfl, e6, s6, r6⟩
      simp only [go_sem, Nat.reduceEqDiff, Nat.reduceAdd, Nat.reduceMul, Nat.reduceLeDiff, Int.reduceEq, Int.reduceLT, Int.reduceLE, Int.reduceAdd, Int.reduceSub, Int.reduceNeg, Int.reduceMul, Int.reduceToNat, Int.cast_ofNat_Int, Int.natCast_zero, Nat.add_zero, reduceCtorEq, g0, g2, g3]
      exact hQ _ _ (Ends.ret rfl ⟨⟨k6, a2, a3, a4⟩, rfl, (d5.pick s6 r6).mono (by omega)⟩)
    · by_cases c1 : k5 = 1
      · simp only [go_sem, Nat.reduceEqDiff, Nat.reduceAdd, Nat.reduceMul, Nat.reduceLeDiff, Int.reduceEq, Int.reduceLT, Int.reduceLE, Int.reduceAdd, Int.reduceSub, Int.reduceNeg, Int.reduceMul, Int.reduceToNat, Int.cast_ofNat_Int, Int.natCast_zero, Nat.add_zero, reduceCtorEq, g0, g2, g3, c0, c1]
        refine Does.call (draws_pick K d5.rd (by omega)) ?_
        rintro _ H6 ⟨k6, rfl, e6, s6, r6⟩
        simp only [go_sem, Nat.reduceEqDiff, Nat.reduceAdd, Nat.reduceMul, Nat.reduceLeDiff, Int.reduceEq, Int.reduceLT, Int.reduceLE, Int.reduceAdd, Int.reduceSub, Int.reduceNeg, Int.reduceMul, Int.reduceToNat, Int.cast_ofNat_Int, Int.natCast_zero, Nat.add_zero, reduceCtorEq, g0, g2, g3]
        exact hQ _ _ (Ends.ret rfl ⟨⟨a1, k6, a3, a4⟩, rfl, (d5.pick s6 r6).mono (by omega)⟩)
      · by_cases c2 : k5 = 2
        · simp only [go_sem, Nat.reduceEqDiff, Nat.reduceAdd, Nat.reduceMul, Nat.reduceLeDiff, Int.reduceEq, Int.reduceLT, Int.reduceLE, Int.reduceAdd, Int.reduceSub, Int.reduceNeg, Int.reduceMul, Int.reduceToNat, Int.cast_ofNat_Int, Int.natCast_zero, Nat.add_zero, reduceCtorEq, g0, g2, g3, c0, c1, c2]
          refine Does.call (draws_pick K d5.rd (by omega)) ?_
          rintro _ H6 ⟨k6, rfl, e6, s6, r6⟩
          simp only [go_sem, Nat.reduceEqDiff, Nat.reduceAdd, Nat.reduceMul, Nat.reduceLeDiff, Int.reduceEq, Int.reduceLT, Int.reduceLE, Int.reduceAdd, Int.reduceSub, Int.reduceNeg, Int.reduceMul, Int.reduceToNat, Int.cast_ofNat_Int, Int.natCast_zero, Nat.add_zero, reduceCtorEq, g0, g2, g3]
          exact hQ _ _ (Ends.ret rfl ⟨⟨a1, a2, k6, a4⟩, rfl, (d5.pick s6 r6).mono (by omega)⟩)
        · by_cases c3 : k5 = 3
          · simp only [go_sem, Nat.reduceEqDiff, Nat.reduceAdd, Nat.reduceMul, Nat.reduceLeDiff, Int.reduceEq, Int.reduceLT, Int.reduceLE, Int.reduceAdd, Int.reduceSub, Int.reduceNeg, Int.reduceMul, Int.reduceToNat, Int.cast_ofNat_Int, Int.natCast_zero, Nat.add_zero, reduceCtorEq, g0, g2, g3, c0, c1, c2, c3]
            refine Does.call (draws_pick K d5.rd (by omega)) ?_
            rintro _ H6 ⟨k6, rfl, e6, s6, r6⟩
            simp only [go_sem, Nat.reduceEqDiff, Nat.reduceAdd, Nat.reduceMul, Nat.reduceLeDiff, Int.reduceEq, Int.reduceLT, Int.reduceLE, Int.reduceAdd, Int.reduceSub, Int.reduceNeg, Int.reduceMul, Int.reduceToNat, Int.cast_ofNat_Int, Int.natCast_zero, Nat.add_zero, reduceCtorEq, g0, g2, g3]
            exact hQ _ _ (Ends.ret rfl ⟨⟨a1, a2, a3, k6⟩, rfl, (d5.pick s6 r6).mono (by omega)⟩)
          · simp only [go_sem, Nat.reduceEqDiff, Nat.reduceAdd, Nat.reduceMul, Nat.reduceLeDiff, Int.reduceEq, Int.reduceLT, Int.reduceLE, Int.reduceAdd, Int.reduceSub, Int.reduceNeg, Int.reduceMul, Int.reduceToNat, Int.cast_ofNat_Int, Int.natCast_zero, Nat.add_zero, reduceCtorEq, g0, g2, g3, c0, c1, c2, c3]
            exact hQ _ _ (Ends.ret rfl ⟨⟨a1, a2, a3, a4⟩, rfl, d5.mono (by omega)⟩)
set_option maxHeartbeats 1000000 in
theorem draws_l71House (K : Codes P I) {H : Heap} {b q : Nat} (h : RdM H b q) (hq : q < 549755811000) :
    Does P I.s_l71House [.c (.ptr b 0)] H fun v H' => ∃ cs x F, v = .val (.agg cs) ∧ Dr b (q + 200) H H' F ∧ RHouse H' cs x F ∧ Small x.log := by
  have hb0 := h.lt
  refine K.does K.s_l71House rfl fun Q hQ => ?_
  simp only [go_sem, Nat.reduceEqDiff, Nat.reduceAdd, Nat.reduceMul, Nat.reduceLeDiff, Int.reduceEq, Int.reduceLT, Int.reduceLE, Int.reduceAdd, Int.reduceSub, Int.reduceNeg, Int.reduceMul, Int.reduceToNat, Int.cast_ofNat_Int, Int.natCast_zero, Nat.add_zero, reduceCtorEq, L_s_l71House]
  refine Does.call (draws_l71Recs K h (by omega)) ?_
  rintro _ H1 ⟨room, c, xs, F, rfl, d1, h1, hl, hm⟩
  replace d1 : Dr b _ H H1 F := d1
  have hsm : ∀ f, Small ⟨xs, f⟩ := fun f => ⟨by simp; omega, fun r hr => Nat.le_trans (hm r hr) (by omega)⟩
  simp only [go_sem, Nat.reduceEqDiff, Nat.reduceAdd, Nat.reduceMul, Nat.reduceLeDiff, Int.reduceEq, Int.reduceLT, Int.reduceLE, Int.reduceAdd, Int.reduceSub, Int.reduceNeg, Int.reduceMul, Int.reduceToNat, Int.cast_ofNat_Int, Int.natCast_zero, Nat.add_zero, reduceCtorEq]
  refine Does.call (draws_pick K d1.rd (by omega)) ?_
  rintro _ H2 ⟨k2, rfl, e2, s2, r2⟩
  replace s2 : Step [b] H1 H2 [b] := s2
  have d2 := d1.pick s2 r2
  have h2 := d1.keepSl RRec.good h1 s2
  simp only [go_sem, Nat.reduceEqDiff, Nat.reduceAdd, Nat.reduceMul, Nat.reduceLeDiff, Int.reduceEq, Int.reduceLT, Int.reduceLE, Int.reduceAdd, Int.reduceSub, Int.reduceNeg, Int.reduceMul, Int.reduceToNat, Int.cast_ofNat_Int, Int.natCast_zero, Nat.add_zero, reduceCtorEq]
  refine Does.call (draws_pick K d2.rd (by omega)) ?_
  rintro _ H3 ⟨k3, rfl, e3, s3, r3⟩
  replace s3 : Step [b] H2 H3 [b] := s3
  have d3 := d2.pick s3 r3
  have h3 := d2.keepSl RRec.good h2 s3
  simp only [go_sem, Nat.reduceEqDiff, Nat.reduceAdd, Nat.reduceMul, Nat.reduceLeDiff, Int.reduceEq, Int.reduceLT, Int.reduceLE, Int.reduceAdd, Int.reduceSub, Int.reduceNeg, Int.reduceMul, Int.reduceToNat, Int.cast_ofNat_Int, Int.natCast_zero, Nat.add_zero, reduceCtorEq, h3.len]
  refine Does.call (draws_pick K d3.rd (by omega)) ?_
  rintro _ H4 ⟨k4, rfl, e4, s4, r4⟩
  replace s4 : Step [b] H3 H4 [b] := s4
  have d4 := d3.pick s4 r4
  have h4 := d3.keepSl RRec.good h3 s4
  simp only [go_sem, Nat.reduceEqDiff, Nat.reduceAdd, Nat.reduceMul, Nat.reduceLeDiff, Int.reduceEq, Int.reduceLT, Int.reduceLE, Int.reduceAdd, Int.reduceSub, Int.reduceNeg, Int.reduceMul, Int.reduceToNat, Int.cast_ofNat_Int, Int.natCast_zero, Nat.add_zero, reduceCtorEq]
  refine RUo_join (fun s => s.env 0 = .val (.c (.ptr b 0)) ∧ s.env 2 = .box [.int .i64 0, .bool false, .int .i64 0, .nil, .int .i64 0] ∧ ∃ a1 a2 a3 a4, s.env 5 = .box [.int .i64 a1, .bool a2, .int .i64 a3, c, .int .i64 a4] ∧ Dr b (q + 110) H s.H F ∧ Recs s.H c xs F) (fun Q' hN hE hR => ?_) ?_
  · by_cases c0 : k4 = 0
    · simp only [go_sem, Nat.reduceEqDiff, Nat.reduceAdd, Nat.reduceMul, Nat.reduceLeDiff, Int.reduceEq, Int.reduceLT, Int.reduceLE, Int.reduceAdd, Int.reduceSub, Int.reduceNeg, Int.reduceMul, Int.reduceToNat, Int.cast_ofNat_Int, Int.natCast_zero, Nat.add_zero, reduceCtorEq, c0, h4.len]
      refine Does.call (draws_pick K d4.rd (by omega)) ?_
      rintro _ H5 ⟨k5, rfl, e5, s5, r5⟩
      simp only [go_sem, Nat.reduceEqDiff, Nat.reduceAdd, Nat.reduceMul, Nat.reduceLeDiff, Int.reduceEq, Int.reduceLT, Int.reduceLE, Int.reduceAdd, Int.reduceSub, Int.reduceNeg, Int.reduceMul, Int.reduceToNat, Int.cast_ofNat_Int, Int.natCast_zero, Nat.add_zero, reduceCtorEq, c0]
      exact hN _ ⟨rfl, rfl, _, _, _, _, rfl, (d4.pick s5 r5).mono (by omega), d4.keepSl RRec.good h4 s5⟩
    · simp only [go_sem, Nat.reduceEqDiff, Nat.reduceAdd, Nat.reduceMul, Nat.reduceLeDiff, Int.reduceEq, Int.reduceLT, Int.reduceLE, Int.reduceAdd, Int.reduceSub, Int.reduceNeg, Int.reduceMul, Int.reduceToNat, Int.cast_ofNat_Int, Int.natCast_zero, Nat.add_zero, reduceCtorEq, c0]
      exact hN _ ⟨rfl, rfl, _, _, _, _, rfl, d4.mono (by omega), h4⟩
  · rintro s ⟨g0, g2, a1, a2, a3, a4, g5, d, hr⟩
    simp only [go_sem, Nat.reduceEqDiff, Nat.reduceAdd, Nat.reduceMul, Nat.reduceLeDiff, Int.reduceEq, Int.reduceLT, Int.reduceLE, Int.reduceAdd, Int.reduceSub, Int.reduceNeg, Int.reduceMul, Int.reduceToNat, Int.cast_ofNat_Int, Int.natCast_zero, Nat.add_zero, reduceCtorEq, g0, g5]
    refine Does.call (draws_pick K d.rd (by omega)) ?_
    rintro _ H6 ⟨k6, rfl, e6, s6, r6⟩
    have d6 := d.pick s6 r6
    have h6 := d.keepSl RRec.good hr s6
    by_cases c0 : k6 = 0
    · simp only [go_sem, Nat.reduceEqDiff, Nat.reduceAdd, Nat.reduceMul, Nat.reduceLeDiff, Int.reduceEq, Int.reduceLT, Int.reduceLE, Int.reduceAdd, Int.reduceSub, Int.reduceNeg, Int.reduceMul, Int.reduceToNat, Int.cast_ofNat_Int, Int.natCast_zero, Nat.add_zero, reduceCtorEq, g0, g2, g5, c0]
      refine Does.call (draws_pick K d6.rd (by omega)) ?_
      rintro _ H7 ⟨k7, rfl, e7, s7, r7⟩
      obtain ⟨j, rfl, hj⟩ := e7.nat (by decide)
      have d7 := d6.pick s7 r7
      have h7 := d6.keepSl RRec.good h6 s7
      have s8 := step_new (H := H7) (n := 1) (cs := [.int .i64 0, .int .i64 4])
      obtain ⟨v, hv, _⟩ := slab2 (a := 0) (b := 4) hj
      simp only [go_sem, Nat.reduceEqDiff, Nat.reduceAdd, Nat.reduceMul, Nat.reduceLeDiff, Int.reduceEq, Int.reduceLT, Int.reduceLE, Int.reduceAdd, Int.reduceSub, Int.reduceNeg, Int.reduceMul, Int.reduceToNat, Int.cast_ofNat_Int, Int.natCast_zero, Nat.add_zero, reduceCtorEq, g0, g2, g5, hj, hv, Nat.reduceDiv]
      exact hQ _ _ (Ends.ret rfl ⟨_, ⟨v, a2, a3, ⟨xs, a4⟩⟩, F, rfl, ((d7.new s8).less (by simp)).mono (by omega), ⟨c, rfl, s8.keepSl RRec.good h7 (fun b _ => by simp)⟩, hsm a4⟩)
    · by_cases c1 : k6 = 1
      · simp only [go_sem, Nat.reduceEqDiff, Nat.reduceAdd, Nat.reduceMul, Nat.reduceLeDiff, Int.reduceEq, Int.reduceLT, Int.reduceLE, Int.reduceAdd, Int.reduceSub, Int.reduceNeg, Int.reduceMul, Int.reduceToNat, Int.cast_ofNat_Int, Int.natCast_zero, Nat.add_zero, reduceCtorEq, g0, g2, g5, c0, c1]
        refine Does.call (draws_l71Rec K d6.rd (by omega)) ?_
        rintro _ H7 ⟨cs7, x, F7, rfl, d7, h7, hm7⟩
        have d8 := d6.draw d7
        have h8 := d6.keepSl RRec.good h6 d7.step
        obtain ⟨c9, H9, F9, ha, h9, s9⟩ := app_one RRec.good (by decide) h8 h7 h7.cells d8.owned (by simp [lenMax]; omega)
        obtain ⟨z0, z1, z2, rfl⟩ := len3 h7.cells
        simp only [go_sem, Nat.reduceEqDiff, Nat.reduceAdd, Nat.reduceMul, Nat.reduceLeDiff, Int.reduceEq, Int.reduceLT, Int.reduceLE, Int.reduceAdd, Int.reduceSub, Int.reduceNeg, Int.reduceMul, Int.reduceToNat, Int.cast_ofNat_Int, Int.natCast_zero, Nat.add_zero, reduceCtorEq, g0, g2, g5, ha]
        refine hQ _ _ (Ends.ret rfl ⟨_, ⟨a1, a2, a3, ⟨xs ++ [x], a4⟩⟩, F9, rfl, (d8.change0 hb0 s9).mono (by omega), ⟨c9, rfl, h9⟩, by simp; omega, ?_⟩)
        intro r hr
        simp only [List.mem_append, List.mem_cons, List.not_mem_nil, or_false] at hr
        rcases hr with hr | rfl
        · exact Nat.le_trans (hm r hr) (by omega)
        · omega
      · by_cases c2 : k6 = 2
        · simp only [go_sem, Nat.reduceEqDiff, Nat.reduceAdd, Nat.reduceMul, Nat.reduceLeDiff, Int.reduceEq, Int.reduceLT, Int.reduceLE, Int.reduceAdd, Int.reduceSub, Int.reduceNeg, Int.reduceMul, Int.reduceToNat, Int.cast_ofNat_Int, Int.natCast_zero, Nat.add_zero, reduceCtorEq, g0, g2, g5, c0, c1, c2]
          refine Does.call (draws_pick K d6.rd (by omega)) ?_
          rintro _ H7 ⟨k7, rfl, e7, s7, r7⟩
          simp only [go_sem, Nat.reduceEqDiff, Nat.reduceAdd, Nat.reduceMul, Nat.reduceLeDiff, Int.reduceEq, Int.reduceLT, Int.reduceLE, Int.reduceAdd, Int.reduceSub, Int.reduceNeg, Int.reduceMul, Int.reduceToNat, Int.cast_ofNat_Int, Int.natCast_zero, Nat.add_zero, reduceCtorEq, g0, g2, g5]
          exact hQ _ _ (Ends.ret rfl ⟨_, ⟨a1, a2, k7, ⟨xs, a4⟩⟩, F, rfl, (d6.pick s7 r7).mono (by omega), ⟨c, rfl, d6.keepSl RRec.good h6 s7⟩, hsm a4⟩)
        · simp only [go_sem, Nat.reduceEqDiff, Nat.reduceAdd, Nat.reduceMul, Nat.reduceLeDiff, Int.reduceEq, Int.reduceLT, Int.reduceLE, Int.reduceAdd, Int.reduceSub, Int.reduceNeg, Int.reduceMul, Int.reduceToNat, Int.cast_ofNat_Int, Int.natCast_zero, Nat.add_zero, reduceCtorEq, g0, g2, g5, c0, c1, c2]
          exact hQ _ _ (Ends.ret rfl ⟨_, ⟨a1, a2, a3, ⟨xs, a4⟩⟩, F, rfl, d6.mono (by omega), ⟨c, rfl, h6⟩, hsm a4⟩)
theorem keepB5 {k1 k2 : Int} (h1 : Drawn 5 k1) (h2 : Drawn 6 k2) : ∃ v, IntKind.wrap .i64 (k1 - IntKind.wrap .i64 (IntKind.wrap .i64 (k2.tdiv 5) * 2)) = v ∧ -3 ≤ v ∧ v ≤ 6 :=
  keepB ⟨h1.1, fun _ => by have := h1.2.1 (by decide); omega, fun h => absurd h (by decide)⟩ h2
set_option maxHeartbeats 1000000 in
theorem draws_DrawHouseHear (K : Codes P I) {H : Heap} {c : C} {xs : List Int} {G : List Nat} (h : Bytes H c xs G) :
    Does P I.s_DrawHouseHear [.c c] H fun v H' => ∃ cs x F, ∃ w : Word, v = .tup [.agg cs, .agg [.int .i64 w.kind, .int .i64 w.house, .int .i64 w.trip, .int .i64 w.many]] ∧ Step [] H H' F ∧ RHouse H' cs x F ∧ Small x.log := by
  refine K.does K.s_DrawHouseHear rfl fun Q hQ => ?_
  simp only [go_sem, Nat.reduceEqDiff, Nat.reduceAdd, Nat.reduceMul, Nat.reduceLeDiff, Int.reduceEq, Int.reduceLT, Int.reduceLE, Int.reduceAdd, Int.reduceSub, Int.reduceNeg, Int.reduceMul, Int.reduceToNat, Int.cast_ofNat_Int, Int.natCast_zero, Nat.add_zero, reduceCtorEq, L_s_DrawHouseHear]
  refine Does.call (draws_open K h) ?_
  rintro _ H1 ⟨b, rfl, s1, r1⟩
  replace s1 : Step [] H H1 [b] := s1
  simp only [go_sem, Nat.reduceEqDiff, Nat.reduceAdd, Nat.reduceMul, Nat.reduceLeDiff, Int.reduceEq, Int.reduceLT, Int.reduceLE, Int.reduceAdd, Int.reduceSub, Int.reduceNeg, Int.reduceMul, Int.reduceToNat, Int.cast_ofNat_Int, Int.natCast_zero, Nat.add_zero, reduceCtorEq]
  refine Does.call (draws_l71House K r1 (by omega)) ?_
  rintro _ H2 ⟨cs, x, F, rfl, d2, hx, hs⟩
  replace d2 : Dr b _ H1 H2 F := d2
  obtain ⟨x0, x1, x2, x3, x4, rfl⟩ := len5 hx.cells
  have hx' := hx
  obtain ⟨cc, ex, hcc⟩ := hx'
  cases ex
  simp only [go_sem, Nat.reduceEqDiff, Nat.reduceAdd, Nat.reduceMul, Nat.reduceLeDiff, Int.reduceEq, Int.reduceLT, Int.reduceLE, Int.reduceAdd, Int.reduceSub, Int.reduceNeg, Int.reduceMul, Int.reduceToNat, Int.cast_ofNat_Int, Int.natCast_zero, Nat.add_zero, reduceCtorEq]
  refine Does.call (draws_pick K d2.rd (by omega)) ?_
  rintro _ H3 ⟨k3, rfl, e3, s3, r3⟩
  replace s3 : Step [b] H2 H3 [b] := s3
  have d3 := d2.pick s3 r3
  have hx3 := d2.keep RHouse.good hx s3
  simp only [go_sem, Nat.reduceEqDiff, Nat.reduceAdd, Nat.reduceMul, Nat.reduceLeDiff, Int.reduceEq, Int.reduceLT, Int.reduceLE, Int.reduceAdd, Int.reduceSub, Int.reduceNeg, Int.reduceMul, Int.reduceToNat, Int.cast_ofNat_Int, Int.natCast_zero, Nat.add_zero, reduceCtorEq]
  refine Does.call (draws_pick K d3.rd (by omega)) ?_
  rintro _ H4 ⟨k4, rfl, e4, s4, r4⟩
  replace s4 : Step [b] H3 H4 [b] := s4
  have d4 := d3.pick s4 r4
  have hx4 := d3.keep RHouse.good hx3 s4
  simp only [go_sem, Nat.reduceEqDiff, Nat.reduceAdd, Nat.reduceMul, Nat.reduceLeDiff, Int.reduceEq, Int.reduceLT, Int.reduceLE, Int.reduceAdd, Int.reduceSub, Int.reduceNeg, Int.reduceMul, Int.reduceToNat, Int.cast_ofNat_Int, Int.natCast_zero, Nat.add_zero, reduceCtorEq]
  refine RUo_join (fun s => s.env 4 = .val (.c (.ptr b 0)) ∧ s.env 2 = .box [.int .i64 0, .bool false, .int .i64 0, .nil, .int .i64 0] ∧ s.env 3 = .box [.int .i64 0, .int .i64 0, .int .i64 0, .int .i64 0] ∧ s.env 5 = .box [.int .i64 x.id, .bool x.up, .int .i64 x.room, x3, .int .i64 x.log.forced] ∧ ∃ a1 a2 a3 a4, s.env 6 = .box [.int .i64 a1, .int .i64 a2, .int .i64 a3, .int .i64 a4] ∧ Dr b 300 H1 s.H F ∧ RHouse s.H [.int .i64 x.id, .bool x.up, .int .i64 x.room, x3, .int .i64 x.log.forced] x F) (fun Q' hN hE hR => ?_) ?_
  · by_cases c0 : IntKind.wrap .i64 (1 + k3) = 1
    · simp only [go_sem, Nat.reduceEqDiff, Nat.reduceAdd, Nat.reduceMul, Nat.reduceLeDiff, Int.reduceEq, Int.reduceLT, Int.reduceLE, Int.reduceAdd, Int.reduceSub, Int.reduceNeg, Int.reduceMul, Int.reduceToNat, Int.cast_ofNat_Int, Int.natCast_zero, Nat.add_zero, reduceCtorEq, c0]
      refine Does.call (draws_pick K d4.rd (by omega)) ?_
      rintro _ H5 ⟨k5, rfl, e5, s5, r5⟩
      simp only [go_sem, Nat.reduceEqDiff, Nat.reduceAdd, Nat.reduceMul, Nat.reduceLeDiff, Int.reduceEq, Int.reduceLT, Int.reduceLE, Int.reduceAdd, Int.reduceSub, Int.reduceNeg, Int.reduceMul, Int.reduceToNat, Int.cast_ofNat_Int, Int.natCast_zero, Nat.add_zero, reduceCtorEq, c0]
      exact hN _ ⟨rfl, rfl, rfl, rfl, _, _, _, _, rfl, (d4.pick s5 r5).mono (by omega), d4.keep RHouse.good hx4 s5⟩
    · simp only [go_sem, Nat.reduceEqDiff, Nat.reduceAdd, Nat.reduceMul, Nat.reduceLeDiff, Int.reduceEq, Int.reduceLT, Int.reduceLE, Int.reduceAdd, Int.reduceSub, Int.reduceNeg, Int.reduceMul, Int.reduceToNat, Int.cast_ofNat_Int, Int.natCast_zero, Nat.add_zero, reduceCtorEq, c0]
      exact hN _ ⟨rfl, rfl, rfl, rfl, _, _, _, _, rfl, d4.mono (by omega), hx4⟩
  · rintro s ⟨g4, g2, g3, g5, a1, a2, a3, a4, g6, d, hr⟩
    simp only [go_sem, Nat.reduceEqDiff, Nat.reduceAdd, Nat.reduceMul, Nat.reduceLeDiff, Int.reduceEq, Int.reduceLT, Int.reduceLE, Int.reduceAdd, Int.reduceSub, Int.reduceNeg, Int.reduceMul, Int.reduceToNat, Int.cast_ofNat_Int, Int.natCast_zero, Nat.add_zero, reduceCtorEq, g4, g5, g6]
    refine Does.call (draws_pick K d.rd (by omega)) ?_
    rintro _ H6 ⟨k6, rfl, e6, s6, r6⟩
    have d6 := d.pick s6 r6
    have h6 := d.keep RHouse.good hr s6
    by_cases c0 : k6 = 0
    · simp only [go_sem, Nat.reduceEqDiff, Nat.reduceAdd, Nat.reduceMul, Nat.reduceLeDiff, Int.reduceEq, Int.reduceLT, Int.reduceLE, Int.reduceAdd, Int.reduceSub, Int.reduceNeg, Int.reduceMul, Int.reduceToNat, Int.cast_ofNat_Int, Int.natCast_zero, Nat.add_zero, reduceCtorEq, g2, g3, g4, g5, g6, c0]
      refine Does.call (draws_l71Word K d6.rd (by omega)) ?_
      rintro _ H7 ⟨w, rfl, d7⟩
      simp only [go_sem, Nat.reduceEqDiff, Nat.reduceAdd, Nat.reduceMul, Nat.reduceLeDiff, Int.reduceEq, Int.reduceLT, Int.reduceLE, Int.reduceAdd, Int.reduceSub, Int.reduceNeg, Int.reduceMul, Int.reduceToNat, Int.cast_ofNat_Int, Int.natCast_zero, Nat.add_zero, reduceCtorEq, g2, g3, g4, g5, g6]
      exact hQ _ _ (Ends.ret rfl ⟨_, x, F, w, rfl, ((d6.draw d7).part (fun a => by simp only [List.count_append, List.count_nil, List.count_cons]; omega)).out s1, d6.keep RHouse.good h6 d7.step, hs⟩)
    · simp only [go_sem, Nat.reduceEqDiff, Nat.reduceAdd, Nat.reduceMul, Nat.reduceLeDiff, Int.reduceEq, Int.reduceLT, Int.reduceLE, Int.reduceAdd, Int.reduceSub, Int.reduceNeg, Int.reduceMul, Int.reduceToNat, Int.cast_ofNat_Int, Int.natCast_zero, Nat.add_zero, reduceCtorEq, g2, g3, g4, g5, g6, c0]
      exact hQ _ _ (Ends.ret rfl ⟨_, x, F, ⟨a1, a2, a3, a4⟩, rfl, d6.out s1, h6, hs⟩)
end Go.AX

/- The laws of houses hold that do not hear. Condition: the bytes that draw lie in memory. -/
namespace Go.AX
variable {P : Program} {I : Ids}
theorem sameC2 {a b c d : Int} : sameC [.int .i64 a, .int .i64 b] [.int .i64 c, .int .i64 d] = some ((a == c) && ((b == d) && true)) := by simp [sameC]
/-! What holds of houses. -/
theorem rise_eq {h : House} (k : houseOk h = true) : houseRiseV h = { h with up := true } := by simp [houseRiseV, k]
theorem ok_up {h : House} (u : Bool) : houseOk { h with up := u } = houseOk h := rfl
theorem force_eq {h : House} (k : houseOk h = true) (u : h.up = true) : houseForceV h = { h with log := forceL h.log } := by simp [houseForceV, k, u]
theorem force_houseOk {h : House} (k : houseOk h = true) : houseOk { h with log := forceL h.log } = true := by
  obtain ⟨h1, h2, s, hs⟩ := houseOk_parts k
  exact houseOk_of h1 (force_ok h2) (s := s) hs
theorem fall_eq {h : House} (k : houseOk h = true) (n : Int) : houseFallV h n = { h with up := false, log := fallL h.log n } := by simp [houseFallV, k]
theorem fall_houseOk {h : House} (k : houseOk h = true) (n : Int) (u : Bool) : houseOk { h with up := u, log := fallL h.log n } = true := by
  obtain ⟨h1, h2, s, hs⟩ := houseOk_parts k
  obtain ⟨t, ht⟩ := stockOf_take hs (fallN h.log n)
  exact houseOk_of h1 (fall_ok h2 n) (s := t) ht
theorem stock_fall0 {h : House} (k : houseOk h = true) (u : Bool) : stockV { h with up := u, log := fallL h.log 0 } false = stockV h true := by
  have hN : fallN h.log 0 = h.log.forced.toNat := by unfold fallN; simp
  simp only [stockV, known, fallL, hN, if_true]
  simp
theorem stock_force {h : House} (k : houseOk h = true) (u : Bool) : stockV { h with up := u, log := forceL h.log } true = stockV h false := by
  simp [stockV, known, forceL]
theorem houseStock_eq {h : House} (k : houseOk h = true) (f : Bool) : houseStockV h f = stockV h f := by simp [houseStockV, k]
theorem stockOf_known {h : House} (k : houseOk h = true) (f : Bool) : stockOf h.room (known h.log f) = some (stockV h f) := by
  obtain ⟨h1, h2, s, hs⟩ := houseOk_parts k
  cases f with
  | false => rw [stockV_all hs]; exact hs
  | true =>
    obtain ⟨t, ht⟩ := stockOf_take hs h.log.forced.toNat
    simp [stockV, known, ht]

end Go.AX

/- The laws of what a house hears. Condition: the bytes that draw lie in memory. -/
namespace Go.AX
variable {P : Program} {I : Ids}
theorem sameC4 {a b c d a' b' c' d' : Int} : sameC [.int .i64 a, .int .i64 b, .int .i64 c, .int .i64 d] [.int .i64 a', .int .i64 b', .int .i64 c', .int .i64 d'] = some ((a == a') && ((b == b') && ((c == c') && ((d == d') && true)))) := by simp [sameC]
theorem Word.ext' {a b : Word} (h1 : a.kind = b.kind) (h2 : a.house = b.house) (h3 : a.trip = b.trip) (h4 : a.many = b.many) : a = b := by cases a; cases b; simp_all
/-! What holds of hearing. -/
theorem hear_deaf {h : House} {w : Word} (hk : houseOk h = true) (hn : hearsB h w = false) : houseHearV h w = h ∧ houseHearB h w = false := by
  refine ⟨by rw [houseHearV, if_pos hk, hearH_same (by simp [hn])], by simp [houseHearB, hearOk, hn]⟩
theorem holdDo_again {s : Stock} {r : Rec} (hl : s.holds.length = 6) (ht : 1 ≤ r.trip ∧ r.trip ≤ 6) (hm : stockMayB s r = true) : stockMayB (stockDoL s r) r = false := by
  have hg := holdAt_get hl ht.1 ht.2
  have e : holdAt (stockDoL s r) r.trip = holdDo (holdAt s r.trip) r := by
    have : (stockDoL s r).holds[(r.trip - 1).toNat]? = some (holdDo (holdAt s r.trip) r) := by
      simp only [stockDoL]; rw [List.getElem?_set_self (by rw [hl]; omega)]
    unfold holdAt
    unfold holdAt at this
    rw [this]; rfl
  unfold stockMayB at hm ⊢
  rw [e]
  unfold holdDo
  split at hm
  · rename_i k; simp only [Bool.and_eq_true, decide_eq_true_eq] at hm; simp [k, hm.1]
  · split at hm
    · rename_i k1 k2; simp [k1, k2]
    · split at hm
      · rename_i k1 k2 k3; simp [k1, k2, k3]
      · cases hm
theorem hear_twice {h : House} {w : Word} (hk : houseOk h = true) : houseHearV (houseHearV h w) w = houseHearV h w := by
  have e : houseHearV h w = hearH h w := by rw [houseHearV, if_pos hk]
  rw [e, houseHearV, if_pos (hearH_ok hk)]
  by_cases hc : hearsB h w = true ∧ mayB h w = true
  · have W := wrote hk hc.1 hc.2
    have hp := hearsB_parts hc.1
    have ht := (wordOk_parts hp.2.1).2.2.1
    refine hearH_same fun hm => ?_
    have := hm.2
    unfold mayB at this
    rw [W.all, holdDo_again (stockOk_parts (stockV_ok hk false)).2.1 ht W.may] at this
    cases this
  · rw [hearH_same hc, hearH_same hc]
end Go.AX

/- The laws of what a house hears, further. Condition: the bytes that draw lie in memory. -/
namespace Go.AX
variable {P : Program} {I : Ids}
theorem hear_not {h : House} {w : Word} (hk : houseOk h = true) (hm : mayB h w = false) : houseHearV h w = h := by rw [houseHearV, if_pos hk, hearH_same (by simp [hm])]
theorem hear_ans {h : House} {w : Word} (hk : houseOk h = true) (hh : hearsB h w = true) (hm : mayB h w = false) : houseHearB h w = decide (houseAnswer h w ≠ 0) ∧ (houseAnswer h w ≠ 0 → houseHearW h w = ⟨houseAnswer h w, h.id, w.trip, 0⟩) := by
  have e : hearOk h w = decide (houseAnswer h w ≠ 0) := by simp [hearOk, hh, hm]
  refine ⟨by simp [houseHearB, hk, e], fun hn => by rw [houseHearW, if_pos hk, hearW, if_pos (by simp [e, hn])]⟩
theorem rhouse_up {H : Heap} {i r f : Int} {u : Bool} {c : C} {h : House} {F : List Nat} (hl : RHouse H [.int .i64 i, .bool u, .int .i64 r, c, .int .i64 f] h F) (v : Bool) :
    RHouse H [.int .i64 i, .bool v, .int .i64 r, c, .int .i64 f] { h with up := v } F := by
  obtain ⟨c', e, hc⟩ := hl
  cases e
  exact ⟨c, rfl, hc⟩
def stockFreeV (s : Stock) : Int := if stockOk s = true then freeS s else -1
theorem hear_never {h : House} {w : Word} (hk : houseOk h = true) : houseOk (houseHearV h w) = true ∧ (houseHearV h w).log.forced = h.log.forced ∧
    ((houseHearV h w).log.recs = h.log.recs ∨ (houseHearV h w).log.recs = h.log.recs ++ [recOfW w] ∧ houseHearB h w = false) := by
  have e : houseHearV h w = hearH h w := by rw [houseHearV, if_pos hk]
  rw [e]
  refine ⟨hearH_ok hk, ?_⟩
  by_cases hc : hearsB h w = true ∧ mayB h w = true
  · have W := wrote hk hc.1 hc.2
    exact ⟨W.forced, .inr ⟨W.recs, by simp [houseHearB, hearOk, hc.2]⟩⟩
  · rw [hearH_same hc]; exact ⟨rfl, .inl rfl⟩
end Go.AX

/- The law holds of who finds no room. Condition: the bytes that draw lie in memory. -/
namespace Go.AX
variable {P : Program} {I : Ids}
theorem hadAll_nonneg : ∀ (hs : List Hold), (∀ h ∈ hs, holdOk h = true) → 0 ≤ hadAll hs
  | [], _ => by simp [hadAll]
  | h :: r, k => by
    have h1 := had_nonneg (k h (by simp))
    have h2 := hadAll_nonneg r fun x hx => k x (by simp [hx])
    simp only [hadAll]; omega
theorem freeS_bound {s : Stock} (h : stockOk s = true) : 0 ≤ freeS s ∧ freeS s ≤ 9 := by
  obtain ⟨p1, p2, p3, p4⟩ := stockOk_parts h
  refine ⟨p4, ?_⟩
  have := hadAll_nonneg s.holds p3
  unfold freeS; omega
theorem full_facts {h : House} {t : Int} (hk : houseOk h = true) (hup : h.up = true) (ht : 1 ≤ t ∧ t ≤ 6) (hf : freeS (stockV h false) + 1 ≤ 3) :
    houseHearV h ⟨1, h.id, t, freeS (stockV h false) + 1⟩ = h ∧
    ((holdAt (stockV h false) t).state = 0 → houseHearB h ⟨1, h.id, t, freeS (stockV h false) + 1⟩ = true ∧ houseHearW h ⟨1, h.id, t, freeS (stockV h false) + 1⟩ = ⟨5, h.id, t, 0⟩) ∧
    (houseHearB h ⟨1, h.id, t, freeS (stockV h false) + 1⟩ = false ∨ houseHearB h ⟨1, h.id, t, freeS (stockV h false) + 1⟩ = true ∧ (houseHearW h ⟨1, h.id, t, freeS (stockV h false) + 1⟩ = ⟨5, h.id, t, 0⟩ ∨ houseHearW h ⟨1, h.id, t, freeS (stockV h false) + 1⟩ = ⟨4, h.id, t, 0⟩)) := by
  have hb := freeS_bound (stockV_ok hk false)
  have hid := (houseOk_parts hk).1
  have hm : mayB h ⟨1, h.id, t, freeS (stockV h false) + 1⟩ = false := by
    simp only [mayB, stockMayB, recOfW, if_true, first, List.headD_cons, Bool.and_eq_false_iff, decide_eq_false_iff_not]
    right; omega
  have hh : hearsB h ⟨1, h.id, t, freeS (stockV h false) + 1⟩ = true := by
    simp only [hearsB, hup, wordOk, inB, Bool.and_eq_true, decide_eq_true_eq, if_true]
    refine ⟨trivial, ⟨⟨by omega, by omega⟩, hid, ht, by omega, hf⟩, by omega, trivial⟩
  obtain ⟨g1, g2⟩ := hear_ans hk hh hm
  have hA : houseAnswer h ⟨1, h.id, t, freeS (stockV h false) + 1⟩ = answerK 1 (holdAt (stockV h false) t).state (holdAt (stockV h true) t).state := rfl
  generalize houseHearB h ⟨1, h.id, t, freeS (stockV h false) + 1⟩ = B at *
  generalize houseHearW h ⟨1, h.id, t, freeS (stockV h false) + 1⟩ = W at *
  generalize (holdAt (stockV h true) t).state = f at *
  generalize (holdAt (stockV h false) t).state = a at *
  generalize houseAnswer h ⟨1, h.id, t, freeS (stockV h false) + 1⟩ = A at *
  refine ⟨hear_not hk hm, fun e => ?_, ?_⟩
  · have : A = 5 := by rw [hA, e]; rfl
    subst this
    exact ⟨by rw [g1]; rfl, g2 (by decide)⟩
  · have : A = 5 ∨ A = 4 ∨ A = 0 := by
      rw [hA]; unfold answerK
      (repeat' split) <;> simp_all
    rcases this with e | e | e
    · rw [e] at g1 g2; exact .inr ⟨by rw [g1]; rfl, .inl (g2 (by decide))⟩
    · rw [e] at g1 g2; exact .inr ⟨by rw [g1]; rfl, .inr (g2 (by decide))⟩
    · rw [e] at g1; exact .inl (by rw [g1]; rfl)
end Go.AX

/- The laws hold of what is told again, and of what is answered. Condition: the bytes that draw lie in memory. -/
namespace Go.AX
variable {P : Program} {I : Ids}
theorem holdAt_do {s : Stock} {r : Rec} (hl : s.holds.length = 6) (ht : 1 ≤ r.trip ∧ r.trip ≤ 6) : holdAt (stockDoL s r) r.trip = holdDo (holdAt s r.trip) r := by
  unfold holdAt stockDoL
  simp only
  rw [List.getElem?_set_self (by omega)]; rfl
/-- What is answered, told again, of what was written down and forced. -/
theorem again_facts {h : House} {w : Word} (hk : houseOk h = true) (hh : hearsB h w = true) (hm : mayB h w = true) :
    houseHearV (houseForceV (houseHearV h w)) w = houseForceV (houseHearV h w) ∧ houseHearB (houseForceV (houseHearV h w)) w = true ∧
    houseHearW (houseForceV (houseHearV h w)) w = ⟨if w.kind = 1 then 4 else if w.kind = 2 then 6 else 7, h.id, w.trip, 0⟩ := by
  have W := wrote hk hh hm
  have hp := hearsB_parts hh
  have hwp := wordOk_parts hp.2.1
  have ht := hwp.2.2.1
  have e : houseHearV h w = hearH h w := by rw [houseHearV, if_pos hk]
  rw [e]
  generalize hearH h w = x at *
  have hxup : x.up = true := by rw [W.up]; exact hp.1
  have hf : houseForceV x = { x with log := forceL x.log } := force_eq W.ok hxup
  rw [hf]
  have hok := force_houseOk W.ok
  obtain ⟨y, hy⟩ : ∃ y : House, y = { x with log := forceL x.log } := ⟨_, rfl⟩
  rw [← hy] at hok ⊢
  have yid : y.id = h.id := by rw [hy]; exact W.id
  have yup : y.up = true := by rw [hy]; exact hxup
  have s1 : stockV y false = stockV x false := by rw [hy]; simp [stockV, known, forceL]
  have s2 : stockV y true = stockV x false := by rw [hy]; exact stock_force W.ok x.up
  have hears : hearsB y w = true := by simp [hearsB, yup, hp.2.1, hp.2.2.1, yid, hp.2.2.2]
  have hlen := (stockOk_parts (stockV_ok hk false)).2.1
  have hmay : mayB y w = false := by
    unfold mayB; rw [s1, W.all]; exact holdDo_again hlen ht W.may
  have hA : houseAnswer y w = if w.kind = 1 then 4 else if w.kind = 2 then 6 else 7 := by
    unfold houseAnswer
    rw [s1, s2, W.all]
    have hd : holdAt (stockDoL (stockV h false) (recOfW w)) w.trip = holdDo (holdAt (stockV h false) w.trip) (recOfW w) := holdAt_do hlen ht
    rw [hd]
    unfold holdDo
    have hk3 : w.kind = 1 ∨ w.kind = 2 ∨ w.kind = 3 := by omega
    rcases hk3 with k | k | k <;> simp [recOfW, k, answerK]
  obtain ⟨g1, g2⟩ := hear_ans hok hears hmay
  have hn : houseAnswer y w ≠ 0 := by rw [hA]; (repeat' split) <;> decide
  refine ⟨hear_not hok hmay, by rw [g1]; simp [hn], ?_⟩
  rw [g2 hn, hA, yid]
end Go.AX

/- The law holds of what is undone. Condition: the bytes that draw lie in memory. -/
namespace Go.AX
variable {P : Program} {I : Ids}
theorem undo_facts {h : House} {t : Int} (hk : houseOk h = true) (hup : h.up = true) (ht : 1 ≤ t ∧ t ≤ 6) :
    ∃ y, houseForceV (houseHearV h ⟨3, h.id, t, 0⟩) = y ∧ houseOk y = true ∧ y.up = true ∧ y.id = h.id ∧ stockV y true = stockV y false ∧
      ((holdAt (stockV h false) t).state = 2 → (holdAt (stockV y true) t).state = 2) ∧ ((holdAt (stockV h false) t).state ≠ 2 → (holdAt (stockV y true) t).state = 3) := by
  have hid := (houseOk_parts hk).1
  have hsok := stockV_ok hk false
  have hlen := (stockOk_parts hsok).2.1
  have hh : hearsB h ⟨3, h.id, t, 0⟩ = true := by
    simp only [hearsB, hup, wordOk, inB, Bool.and_eq_true, decide_eq_true_eq]
    refine ⟨trivial, ⟨⟨by omega, by omega⟩, hid, ht, by simp⟩, by omega, trivial⟩
  have e : houseHearV h ⟨3, h.id, t, 0⟩ = hearH h ⟨3, h.id, t, 0⟩ := by rw [houseHearV, if_pos hk]
  rw [e]
  cases hm : mayB h ⟨3, h.id, t, 0⟩ with
  | true =>
    have W := wrote hk hh hm
    generalize hearH h ⟨3, h.id, t, 0⟩ = x at *
    have hxup : x.up = true := by rw [W.up]; exact hup
    rw [force_eq W.ok hxup]
    have hd : holdAt (stockDoL (stockV h false) (recOfW ⟨3, h.id, t, 0⟩)) t = holdDo (holdAt (stockV h false) t) (recOfW ⟨3, h.id, t, 0⟩) := holdAt_do hlen ht
    have hst : (holdAt (stockV { x with log := forceL x.log } true) t).state = 3 := by
      have : stockV { x with log := forceL x.log } true = stockV x false := stock_force W.ok x.up
      rw [this, W.all, hd]; simp [holdDo, recOfW]
    refine ⟨_, rfl, force_houseOk W.ok, hxup, W.id, ?_, fun e2 => ?_, fun _ => hst⟩
    · have h1 : stockV { x with log := forceL x.log } true = stockV x false := stock_force W.ok x.up
      rw [h1]; simp [stockV, known, forceL]
    · have := W.may
      simp [stockMayB, recOfW, e2] at this
  | false =>
    rw [hearH_same (by simp [hm]), force_eq hk hup]
    have h1 : stockV { h with log := forceL h.log } true = stockV h false := stock_force hk h.up
    refine ⟨_, rfl, force_houseOk hk, hup, rfl, ?_, fun e2 => by rw [h1]; exact e2, fun e2 => ?_⟩
    · rw [h1]; simp [stockV, known, forceL]
    · rw [h1]
      have hg := holdAt_get hlen ht.1 ht.2
      have ho := (stockOk_parts hsok).2.2.1 _ (List.mem_of_getElem? hg)
      simp [mayB, stockMayB, recOfW] at hm
      unfold holdOk at ho
      generalize (holdAt (stockV h false) t).state = a at *
      by_cases a3 : a = 3
      · exact a3
      · simp [hm.1, hm.2, e2, a3] at ho
theorem undone_facts {y : House} {t : Int} (hk : houseOk y = true) (hup : y.up = true) (ht : 1 ≤ t ∧ t ≤ 6) (hs : stockV y true = stockV y false) (h3 : (holdAt (stockV y true) t).state = 3) :
    houseHearV y ⟨1, y.id, t, 1⟩ = y ∧ houseHearW y ⟨1, y.id, t, 1⟩ = ⟨5, y.id, t, 0⟩ ∧ houseHearV y ⟨2, y.id, t, 0⟩ = y ∧ houseHearB y ⟨2, y.id, t, 0⟩ = false := by
  have hid := (houseOk_parts hk).1
  have h3' := h3
  rw [hs] at h3'
  have hh1 : hearsB y ⟨1, y.id, t, 1⟩ = true := by
    simp only [hearsB, hup, wordOk, inB, Bool.and_eq_true, decide_eq_true_eq, if_true]
    refine ⟨trivial, ⟨⟨by omega, by omega⟩, hid, ht, by omega, by omega⟩, by omega, trivial⟩
  have hh2 : hearsB y ⟨2, y.id, t, 0⟩ = true := by
    simp only [hearsB, hup, wordOk, inB, Bool.and_eq_true, decide_eq_true_eq]
    refine ⟨trivial, ⟨⟨by omega, by omega⟩, hid, ht, by simp⟩, by omega, trivial⟩
  have hm1 : mayB y ⟨1, y.id, t, 1⟩ = false := by simp [mayB, stockMayB, recOfW, h3']
  have hm2 : mayB y ⟨2, y.id, t, 0⟩ = false := by simp [mayB, stockMayB, recOfW, h3']
  have ha1 : houseAnswer y ⟨1, y.id, t, 1⟩ = 5 := by simp [houseAnswer, answerK, h3, h3']
  have ha2 : houseAnswer y ⟨2, y.id, t, 0⟩ = 0 := by simp [houseAnswer, answerK, h3]
  refine ⟨hear_not hk hm1, ?_, hear_not hk hm2, ?_⟩
  · rw [(hear_ans hk hh1 hm1).2 (by rw [ha1]; decide), ha1]
  · rw [(hear_ans hk hh2 hm2).1, ha2]; rfl
set_option maxHeartbeats 4000000 in
set_option maxRecDepth 8000 in
theorem does_FnHearUndo (K : Codes P I) {H : Heap} {a b : C} {xs ys : List Int} {F G : List Nat} (ha : Bytes H a xs F) (hb : Bytes H b ys G) : Does P I.w_FnHearUndo [.c a, .c b] H fun r _ => r = bool true := by
  refine K.does K.w_FnHearUndo rfl fun Q hQ => ?_
  by_cases h1 : (1048576 : Int) < xs.length
  · simp only [go_sem, Nat.reduceEqDiff, Nat.reduceAdd, Nat.reduceMul, Nat.reduceLeDiff, Int.reduceEq, Int.reduceLT, Int.reduceLE, Int.reduceAdd, Int.reduceSub, Int.reduceNeg, Int.reduceMul, Int.reduceToNat, Int.cast_ofNat_Int, Int.natCast_zero, Nat.add_zero, reduceCtorEq, L_w_FnHearUndo, ha.len, hb.len, h1]
    exact hQ _ _ (Ends.ret rfl rfl)
  by_cases h2 : (1048576 : Int) < ys.length
  · simp only [go_sem, Nat.reduceEqDiff, Nat.reduceAdd, Nat.reduceMul, Nat.reduceLeDiff, Int.reduceEq, Int.reduceLT, Int.reduceLE, Int.reduceAdd, Int.reduceSub, Int.reduceNeg, Int.reduceMul, Int.reduceToNat, Int.cast_ofNat_Int, Int.natCast_zero, Nat.add_zero, reduceCtorEq, L_w_FnHearUndo, ha.len, hb.len, h1, h2]
    exact hQ _ _ (Ends.ret rfl rfl)
  simp only [go_sem, Nat.reduceEqDiff, Nat.reduceAdd, Nat.reduceMul, Nat.reduceLeDiff, Int.reduceEq, Int.reduceLT, Int.reduceLE, Int.reduceAdd, Int.reduceSub, Int.reduceNeg, Int.reduceMul, Int.reduceToNat, Int.cast_ofNat_Int, Int.natCast_zero, Nat.add_zero, reduceCtorEq, L_w_FnHearUndo, ha.len, hb.len, h1, h2]
  refine Does.call (draws_DrawHouseHear K ha) ?_
  rintro _ H1 ⟨cs, h, F1, w, rfl, s1, hl, hs⟩
  obtain ⟨c1, rfl, hl1⟩ := hl
  have hl : RHouse H1 [.int .i64 h.id, .bool h.up, .int .i64 h.room, c1, .int .i64 h.log.forced] h F1 := ⟨c1, rfl, hl1⟩
  simp only [go_sem, Nat.reduceEqDiff, Nat.reduceAdd, Nat.reduceMul, Nat.reduceLeDiff, Int.reduceEq, Int.reduceLT, Int.reduceLE, Int.reduceAdd, Int.reduceSub, Int.reduceNeg, Int.reduceMul, Int.reduceToNat, Int.cast_ofNat_Int, Int.natCast_zero, Nat.add_zero, reduceCtorEq]
  refine Does.call (does_s_HouseHear K hl (show RWord _ _ w [] from ⟨rfl, rfl⟩)) ?_
  rintro _ H2 ⟨_, _, F2, rfl, s2, hx, ⟨rfl, _⟩⟩
  obtain ⟨hx_0, hx_1, hx_2, hx_3, hx_4, rfl⟩ := len5 hx.cells
  replace hl := Step.stay s2 RHouse.good hl
  simp only [go_sem, Nat.reduceEqDiff, Nat.reduceAdd, Nat.reduceMul, Nat.reduceLeDiff, Int.reduceEq, Int.reduceLT, Int.reduceLE, Int.reduceAdd, Int.reduceSub, Int.reduceNeg, Int.reduceMul, Int.reduceToNat, Int.cast_ofNat_Int, Int.natCast_zero, Nat.add_zero, reduceCtorEq]
  refine Does.call (does_i_HouseHear K hl (show RWord _ _ w [] from ⟨rfl, rfl⟩)) ?_
  rintro _ H3 ⟨_, _, F3, rfl, s3, hy, ⟨rfl, _⟩⟩
  obtain ⟨hy_0, hy_1, hy_2, hy_3, hy_4, rfl⟩ := len5 hy.cells
  replace hl := Step.stay s3 RHouse.good hl
  replace hx := Step.stay s3 RHouse.good hx
  simp only [go_sem, Nat.reduceEqDiff, Nat.reduceAdd, Nat.reduceMul, Nat.reduceLeDiff, Int.reduceEq, Int.reduceLT, Int.reduceLE, Int.reduceAdd, Int.reduceSub, Int.reduceNeg, Int.reduceMul, Int.reduceToNat, Int.cast_ofNat_Int, Int.natCast_zero, Nat.add_zero, reduceCtorEq, beq_self_eq_true]
  refine Does.test (does_w_lnHouse K hy hx) ?_
  simp only [go_sem, Nat.reduceEqDiff, Nat.reduceAdd, Nat.reduceMul, Nat.reduceLeDiff, Int.reduceEq, Int.reduceLT, Int.reduceLE, Int.reduceAdd, Int.reduceSub, Int.reduceNeg, Int.reduceMul, Int.reduceToNat, Int.cast_ofNat_Int, Int.natCast_zero, Nat.add_zero, reduceCtorEq, sameC4, beq_self_eq_true, Bool.and_self]
  refine Does.call (does_s_HouseOk K hl) ?_
  rintro _ H4 ⟨rfl, s4⟩
  replace hl := Step.stay s4 RHouse.good hl
  replace hx := Step.stay s4 RHouse.good hx
  replace hy := Step.stay s4 RHouse.good hy
  cases hok : houseOk h with
  | false =>
    simp only [go_sem, Nat.reduceEqDiff, Nat.reduceAdd, Nat.reduceMul, Nat.reduceLeDiff, Int.reduceEq, Int.reduceLT, Int.reduceLE, Int.reduceAdd, Int.reduceSub, Int.reduceNeg, Int.reduceMul, Int.reduceToNat, Int.cast_ofNat_Int, Int.natCast_zero, Nat.add_zero, reduceCtorEq, beq_self_eq_true]
    refine Does.test (does_w_lnHouse K hy hx) ?_
    simp only [go_sem, Nat.reduceEqDiff, Nat.reduceAdd, Nat.reduceMul, Nat.reduceLeDiff, Int.reduceEq, Int.reduceLT, Int.reduceLE, Int.reduceAdd, Int.reduceSub, Int.reduceNeg, Int.reduceMul, Int.reduceToNat, Int.cast_ofNat_Int, Int.natCast_zero, Nat.add_zero, reduceCtorEq, sameC4, beq_self_eq_true, Bool.and_self]
    exact hQ _ _ (Ends.ret rfl rfl)
  | true =>
    cases hup : h.up with
    | false =>
      simp only [go_sem, Nat.reduceEqDiff, Nat.reduceAdd, Nat.reduceMul, Nat.reduceLeDiff, Int.reduceEq, Int.reduceLT, Int.reduceLE, Int.reduceAdd, Int.reduceSub, Int.reduceNeg, Int.reduceMul, Int.reduceToNat, Int.cast_ofNat_Int, Int.natCast_zero, Nat.add_zero, reduceCtorEq, beq_self_eq_true, hup]
      refine Does.test (does_w_lnHouse K hy hx) ?_
      simp only [go_sem, Nat.reduceEqDiff, Nat.reduceAdd, Nat.reduceMul, Nat.reduceLeDiff, Int.reduceEq, Int.reduceLT, Int.reduceLE, Int.reduceAdd, Int.reduceSub, Int.reduceNeg, Int.reduceMul, Int.reduceToNat, Int.cast_ofNat_Int, Int.natCast_zero, Nat.add_zero, reduceCtorEq, sameC4, beq_self_eq_true, Bool.and_self]
      exact hQ _ _ (Ends.ret rfl rfl)
    | true =>
      rw [hup] at hl
      obtain ⟨t, hT⟩ : ∃ t : Int, t = IntKind.wrap .i64 (1 + Int.tmod (ys.length : Int) 6) := ⟨_, rfl⟩
      have ht : 1 ≤ t ∧ t ≤ 6 := by
        have e1 : Int.tmod (ys.length : Int) 6 = ((ys.length % 6 : Nat) : Int) := by rw [Int.tmod_eq_emod_of_nonneg (by omega)]; omega
        rw [hT, e1, wrap_i64 (by omega) (by omega)]; omega
      obtain ⟨y, y1, y2, y3, y4, y5, y6, y7⟩ := undo_facts hok hup ht
      have hlen1 := (stockOk_parts (stockV_ok y2 true)).2.1
      have hlen2 := (stockOk_parts (stockV_ok hok false)).2.1
      have hg1 := holdAt_get hlen1 ht.1 ht.2
      have hg2 := holdAt_get hlen2 ht.1 ht.2
      obtain ⟨i, hi⟩ : ∃ i, (t - 1).toNat = i := ⟨_, rfl⟩
      rw [hi] at hg1 hg2
      have hwr : IntKind.wrap .i64 (t - 1) = (i : Int) := by rw [wrap_i64 (by omega) (by omega)]; omega
      have hl1' : (i : Int) < (stockV y true).holds.length := by omega
      have hl2' : (i : Int) < (stockV h false).holds.length := by omega
      simp only [go_sem, Nat.reduceEqDiff, Nat.reduceAdd, Nat.reduceMul, Nat.reduceLeDiff, Int.reduceEq, Int.reduceLT, Int.reduceLE, Int.reduceAdd, Int.reduceSub, Int.reduceNeg, Int.reduceMul, Int.reduceToNat, Int.cast_ofNat_Int, Int.natCast_zero, Nat.add_zero, reduceCtorEq, hup, hb.len, ← hT]
      refine Does.call (does_i_HouseHear K hl (show RWord _ _ (⟨3, h.id, t, 0⟩ : Word) [] from ⟨rfl, rfl⟩)) ?_
      rintro _ H5 ⟨_, _, F5, rfl, s5, hu, ⟨rfl, _⟩⟩
      obtain ⟨hu_0, hu_1, hu_2, hu_3, hu_4, rfl⟩ := len5 hu.cells
      replace hl := Step.stay s5 RHouse.good hl
      replace hx := Step.stay s5 RHouse.good hx
      replace hy := Step.stay s5 RHouse.good hy
      simp only [go_sem, Nat.reduceEqDiff, Nat.reduceAdd, Nat.reduceMul, Nat.reduceLeDiff, Int.reduceEq, Int.reduceLT, Int.reduceLE, Int.reduceAdd, Int.reduceSub, Int.reduceNeg, Int.reduceMul, Int.reduceToNat, Int.cast_ofNat_Int, Int.natCast_zero, Nat.add_zero, reduceCtorEq]
      refine Does.call (does_i_HouseForce K hu) ?_
      rintro _ H6 ⟨c6, F6, rfl, s6, hv⟩
      replace hl := Step.stay s6 RHouse.good hl
      replace hx := Step.stay s6 RHouse.good hx
      replace hy := Step.stay s6 RHouse.good hy
      replace hu := Step.stay s6 RHouse.good hu
      obtain ⟨hv_0, hv_1, hv_2, hv_3, hv_4, rfl⟩ := len5 hv.cells
      rw [y1] at hv
      simp only [go_sem, Nat.reduceEqDiff, Nat.reduceAdd, Nat.reduceMul, Nat.reduceLeDiff, Int.reduceEq, Int.reduceLT, Int.reduceLE, Int.reduceAdd, Int.reduceSub, Int.reduceNeg, Int.reduceMul, Int.reduceToNat, Int.cast_ofNat_Int, Int.natCast_zero, Nat.add_zero, reduceCtorEq]
      refine Does.call (does_i_HouseStock K hv (f := true)) ?_
      rintro _ H7 ⟨c7, F7, rfl, s7, hst⟩
      replace hl := Step.stay s7 RHouse.good hl
      replace hx := Step.stay s7 RHouse.good hx
      replace hy := Step.stay s7 RHouse.good hy
      replace hu := Step.stay s7 RHouse.good hu
      replace hv := Step.stay s7 RHouse.good hv
      obtain ⟨hst_0, hst_1, rfl⟩ := len2 hst.cells
      rw [houseStock_eq y2] at hst
      obtain ⟨cst, est, hsl⟩ := id hst
      cases est
      obtain ⟨b1, o1, bs1, cs1, fs1, rfl, e1, e2, ⟨rfl, _⟩, _, _⟩ := hsl.get hg1
      have ld1 := slab_sub e2 1 1 (by simp)
      simp only [slabAt1, slabSkip1] at ld1
      simp only [go_sem, Nat.reduceEqDiff, Nat.reduceAdd, Nat.reduceMul, Nat.reduceLeDiff, Int.reduceEq, Int.reduceLT, Int.reduceLE, Int.reduceAdd, Int.reduceSub, Int.reduceNeg, Int.reduceMul, Int.reduceToNat, Int.cast_ofNat_Int, Int.natCast_zero, Nat.add_zero, reduceCtorEq, hwr, hl1', e1, ld1]
      refine Does.call (does_i_HouseStock K hl (f := false)) ?_
      rintro _ H8 ⟨c8, F8, rfl, s8, htt⟩
      replace hl := Step.stay s8 RHouse.good hl
      replace hx := Step.stay s8 RHouse.good hx
      replace hy := Step.stay s8 RHouse.good hy
      replace hu := Step.stay s8 RHouse.good hu
      replace hv := Step.stay s8 RHouse.good hv
      replace hst := Step.stay s8 RStock.good hst
      obtain ⟨htt_0, htt_1, rfl⟩ := len2 htt.cells
      rw [houseStock_eq hok] at htt
      obtain ⟨cst2, est2, hsl2⟩ := id htt
      cases est2
      obtain ⟨b2, o2, bs2, cs2, fs2, rfl, e3, e4, ⟨rfl, _⟩, _, _⟩ := hsl2.get hg2
      have ld2 := slab_sub e4 1 1 (by simp)
      simp only [slabAt1, slabSkip1] at ld2
      simp only [go_sem, Nat.reduceEqDiff, Nat.reduceAdd, Nat.reduceMul, Nat.reduceLeDiff, Int.reduceEq, Int.reduceLT, Int.reduceLE, Int.reduceAdd, Int.reduceSub, Int.reduceNeg, Int.reduceMul, Int.reduceToNat, Int.cast_ofNat_Int, Int.natCast_zero, Nat.add_zero, reduceCtorEq, hwr, hl2', e3, ld2]
      by_cases c2 : (holdAt (stockV h false) t).state = 2
      · have d2 := y6 c2
        simp only [go_sem, Nat.reduceEqDiff, Nat.reduceAdd, Nat.reduceMul, Nat.reduceLeDiff, Int.reduceEq, Int.reduceLT, Int.reduceLE, Int.reduceAdd, Int.reduceSub, Int.reduceNeg, Int.reduceMul, Int.reduceToNat, Int.cast_ofNat_Int, Int.natCast_zero, Nat.add_zero, reduceCtorEq, c2, d2]
        exact hQ _ _ (Ends.ret rfl rfl)
      · have d3 := y7 c2
        obtain ⟨z1, z2, z3, z4⟩ := undone_facts y2 y3 ht y5 d3
        rw [y4] at z1 z2 z3 z4
        simp only [go_sem, Nat.reduceEqDiff, Nat.reduceAdd, Nat.reduceMul, Nat.reduceLeDiff, Int.reduceEq, Int.reduceLT, Int.reduceLE, Int.reduceAdd, Int.reduceSub, Int.reduceNeg, Int.reduceMul, Int.reduceToNat, Int.cast_ofNat_Int, Int.natCast_zero, Nat.add_zero, reduceCtorEq, c2, d3]
        refine Does.call (does_i_HouseHear K hv (show RWord _ _ (⟨1, h.id, t, 1⟩ : Word) [] from ⟨rfl, rfl⟩)) ?_
        rintro _ H9 ⟨_, _, F9, rfl, s9, hz, ⟨rfl, _⟩⟩
        obtain ⟨hz_0, hz_1, hz_2, hz_3, hz_4, rfl⟩ := len5 hz.cells
        replace hl := Step.stay s9 RHouse.good hl
        replace hx := Step.stay s9 RHouse.good hx
        replace hy := Step.stay s9 RHouse.good hy
        replace hu := Step.stay s9 RHouse.good hu
        replace hv := Step.stay s9 RHouse.good hv
        replace hst := Step.stay s9 RStock.good hst
        replace htt := Step.stay s9 RStock.good htt
        rw [z1] at hz
        simp only [go_sem, Nat.reduceEqDiff, Nat.reduceAdd, Nat.reduceMul, Nat.reduceLeDiff, Int.reduceEq, Int.reduceLT, Int.reduceLE, Int.reduceAdd, Int.reduceSub, Int.reduceNeg, Int.reduceMul, Int.reduceToNat, Int.cast_ofNat_Int, Int.natCast_zero, Nat.add_zero, reduceCtorEq, c2, d3, z2]
        refine Does.call (does_i_HouseHear K hv (show RWord _ _ (⟨2, h.id, t, 0⟩ : Word) [] from ⟨rfl, rfl⟩)) ?_
        rintro _ H10 ⟨_, _, F10, rfl, s10, hw, ⟨rfl, _⟩⟩
        obtain ⟨hw_0, hw_1, hw_2, hw_3, hw_4, rfl⟩ := len5 hw.cells
        replace hl := Step.stay s10 RHouse.good hl
        replace hx := Step.stay s10 RHouse.good hx
        replace hy := Step.stay s10 RHouse.good hy
        replace hu := Step.stay s10 RHouse.good hu
        replace hv := Step.stay s10 RHouse.good hv
        replace hst := Step.stay s10 RStock.good hst
        replace htt := Step.stay s10 RStock.good htt
        replace hz := Step.stay s10 RHouse.good hz
        rw [z3] at hw
        simp only [go_sem, Nat.reduceEqDiff, Nat.reduceAdd, Nat.reduceMul, Nat.reduceLeDiff, Int.reduceEq, Int.reduceLT, Int.reduceLE, Int.reduceAdd, Int.reduceSub, Int.reduceNeg, Int.reduceMul, Int.reduceToNat, Int.cast_ofNat_Int, Int.natCast_zero, Nat.add_zero, reduceCtorEq, c2, d3, z2, z4]
        refine Does.test (does_w_lnHouse K hz hv) ?_
        simp only [go_sem, Nat.reduceEqDiff, Nat.reduceAdd, Nat.reduceMul, Nat.reduceLeDiff, Int.reduceEq, Int.reduceLT, Int.reduceLE, Int.reduceAdd, Int.reduceSub, Int.reduceNeg, Int.reduceMul, Int.reduceToNat, Int.cast_ofNat_Int, Int.natCast_zero, Nat.add_zero, reduceCtorEq]
        refine Does.test (does_w_lnHouse K hw hv) ?_
        simp only [go_sem, Nat.reduceEqDiff, Nat.reduceAdd, Nat.reduceMul, Nat.reduceLeDiff, Int.reduceEq, Int.reduceLT, Int.reduceLE, Int.reduceAdd, Int.reduceSub, Int.reduceNeg, Int.reduceMul, Int.reduceToNat, Int.cast_ofNat_Int, Int.natCast_zero, Nat.add_zero, reduceCtorEq]
        exact hQ _ _ (Ends.ret rfl rfl)
end Go.AX

/- From a call's contract to what a row asks. Condition: no block that was there may be written. -/
namespace Go.AX
open Go.RowKit
theorem law_calls {P : Program} {f : FuncId} {args : List V} {H : Heap} (hd : Does P f args H fun r _ => r = .val (.c (.bool true))) (hro : ∀ (b : Nat) (B : Blk), H[b]? = some B → B.st ≠ .rw) {ρ : Rho} {w : World} {xs : Array Value} (hH : HSim ρ H w)
    (hx : All2 (VRel H.length ρ) args xs.toList) : Calls P f xs w fun e w' => e = .returned (.bool true) ∧ Below w.heap.size w w' := by
  obtain ⟨r, H', hc, rfl⟩ := hd
  refine (hc.2 ρ w xs hH hx).mono ?_
  rintro e w' ⟨ρ', x, rfl, hr, _, _, hk⟩
  have hr : x = .bool true := hr
  subst hr
  exact ⟨rfl, hk.os, hk.tape, hk.output, hk.size, fun k hk' => hk.block k hk' fun ⟨b, B, hb, hw, _⟩ => hro b B hb hw⟩
theorem hsim_nil (ρ : Rho) (w : World) : HSim ρ [] w := ⟨fun b B h => by simp at h, fun b B h => by simp at h, fun b b' B B' h => by simp at h⟩
end Go.AX
namespace Go.AX
/-! The head's words. -/
def joined : List (List Nat) → List Nat
  | [] => []
  | [w] => w
  | w :: r => w ++ 32 :: joined r
theorem wordsSigns_cons {c : Char} (h : c ≠ Char.ofNat 32) (r : List Char) : wordsSigns (c :: r) = match wordsSigns r with | w :: ws => (c :: w) :: ws | [] => [[c]] := by
  exact wordsSigns.eq_3 c r h
theorem wordsSigns_word : ∀ (w : List Char) (r : List Char), (∀ c ∈ w, c ≠ Char.ofNat 32) → wordsSigns (w ++ Char.ofNat 32 :: r) = w :: wordsSigns r
  | [], r, _ => by rw [List.nil_append]; exact wordsSigns.eq_2 r
  | c :: w, r, h => by
    rw [List.cons_append, wordsSigns_cons (h c (by simp)), wordsSigns_word w r fun d hd => h d (by simp [hd])]
theorem wordsSigns_last : ∀ (w : List Char), (∀ c ∈ w, c ≠ Char.ofNat 32) → wordsSigns w = [w]
  | [], _ => by rw [wordsSigns]
  | c :: w, h => by rw [wordsSigns_cons (h c (by simp)), wordsSigns_last w fun d hd => h d (by simp [hd])]
theorem wordsSigns_joined : ∀ (ws : List (List Nat)), ws ≠ [] → (∀ w ∈ ws, ∀ n ∈ w, Char.ofNat n ≠ Char.ofNat 32) → wordsSigns ((joined ws).map Char.ofNat) = ws.map (·.map Char.ofNat)
  | [], h, _ => absurd rfl h
  | [w], _, h => by
    simp only [joined, List.map_cons, List.map_nil]
    exact wordsSigns_last _ fun c hc => by obtain ⟨n, hn, rfl⟩ := List.mem_map.1 hc; exact h w (by simp) n hn
  | w :: v :: r, _, h => by
    have ih := wordsSigns_joined (v :: r) (by simp) fun x hx => h x (by simp only [List.mem_cons] at hx ⊢; exact .inr hx)
    rw [joined, List.map_append, List.map_cons, wordsSigns_word _ _ fun c hc => by obtain ⟨n, hn, rfl⟩ := List.mem_map.1 hc; exact h w (by simp) n hn, ih]
    · rfl
    · simp
def noBlank (ws : List (List Nat)) : Bool := ws.all fun w => w.all fun n => Char.ofNat n != Char.ofNat 32
theorem noBlank_spec {ws : List (List Nat)} (h : noBlank ws = true) : ∀ w ∈ ws, ∀ n ∈ w, Char.ofNat n ≠ Char.ofNat 32 := fun w hw n hn => by
  simp only [noBlank, List.all_eq_true, bne_iff_ne] at h
  exact h w hw n hn
theorem head_words {P : Program} {ws : List (List Nat)} (h : P.initOrder = String.ofList ((joined ws).map Char.ofNat)) (hn : ws ≠ []) (hb : noBlank ws = true) : wordsSigns P.initOrder.toList = ws.map (·.map Char.ofNat) := by
  rw [h, String.toList_ofList]; exact wordsSigns_joined ws hn (noBlank_spec hb)
end Go.AX
namespace Go.AX
/-- A head that is a cut. -/
theorem make_cut {P : Program} {w : List Char} {r : List (List Char)} (h : behindMainWord (wordsSigns P.initOrder.toList) = w :: r) (h1 : (w == "gc".toList || w == "spec".toList) = false) (h2 : (w == "cut".toList) = true) : P.make = some .cut := by
  unfold Program.make
  rw [h]
  simp only [h1, h2, Bool.true_or, if_true, Bool.false_eq_true, if_false]
theorem enters_cut {P : Program} {w : List Char} {r : List (List Char)} (h : behindMainWord (wordsSigns P.initOrder.toList) = w :: r) (hs : ((stripLifts liftWords (w :: r)).2.head? == some "cut".toList) = true) (hn : (stripLifts liftWords (w :: r)).1 = [])
    (h1 : P.laysLater = false) (h2 : P.bearsReflect = false) (h3 : P.doorFits [] = true) : P.mayEnter = true := by
  unfold Program.mayEnter
  rw [h]
  simp only [hs, hn, h1, h2, h3]
  simp
theorem lifts_cut {P : Program} {w : List Char} {r : List (List Char)} (h : behindMainWord (wordsSigns P.initOrder.toList) = w :: r) (hc : (w == "carried".toList) = false) (hn : (stripLifts liftWords (w :: r)).1 = []) : P.liftsFinal = false := by
  unfold Program.liftsFinal Program.headLifts
  simp only [h, hn]
  have : ((w :: r).head? == some "carried".toList) = false := by simpa using hc
  rw [this]
  simp
end Go.AX
namespace Go.AX
theorem both {a b : Bool} (h : a = true) (k : b = true) : (a && b) = true := by rw [h, k]; rfl
theorem facts_of {P : Program} {f : FuncId} {fn : Func} {s : ChangeSpec} {c : OpenClaim}
    (k0 : c.wf (OpenSpec.ofChange s) = true)
    (k1 : laidOutB P = true)
    (k2 : mapsRowed P = true)
    (k3 : fn.params.all (P.readableRec ·) = true)
    (k4 : namedTie P c.named s.vars = true)
    (k5 : (c.stops == []) = true)
    (k6 : (P.stops == []) = true)
    (k7 : (c.knobs == []) = true)
    (k8 : (P.stopKnobs == []) = true)
    (k9 : (c.inPlace == P.inPlace f) = true)
    (k10 : (c.unfollowed == P.unfollowed f) = true)
    (k11 : (c.recurses == P.recurses f) = true)
    (k12 : (c.named == P.varsNamed f) = true)
    (k13 : (c.maps == (fn.params.toList ++ s.plain.varTypes P).any (P.mapsRec ·)) = true)
    (k14 : (c.ifaces == (fn.params.toList ++ s.plain.varTypes P).any (P.ifacesRec ·)) = true)
    (k15 : (c.mapsOut == P.mapsAmong fn.resultTypes.toList) = true)
    (k16 : (c.loops == (fn.params.toList ++ s.plain.varTypes P).any (P.loopsFrom ·)) = true)
    (k17 : (c.wideKeys == (fn.params.toList ++ s.plain.varTypes P ++ fn.resultTypes.toList).any (P.wideKeysFrom ·)) = true)
    (k18 : s.vars.all (P.varReadable ·) = true)
    (k19 : fn.resultTypes.all (fun t => P.readableRec t && decide (t < P.types.size)) = true)
    (k20 : (c.ifacesOut == fn.resultTypes.toList.any (P.ifacesRec ·)) = true)
    (k21 : (c.loopsOut == fn.resultTypes.toList.any (P.loopsFrom ·)) = true)
    (k22 : (c.plainKeys == P.plainKeys) = true)
    (k23 : c.shortTexts.isNone = true)
    (k24 : P.stopsHeard = true)
    (k25 : P.mayEnter = true)
    (k26 : (c.lifted == P.liftsFinal) = true)
    (k27 : (P.make == some c.make) = true)
    (k28a : c.kinds = []) (k28b : c.domain.isEmpty = true)
    (k29 : (c.pinned == c.pinnedBy) = true)
    (k30 : (c.veiled == (fn.params.toList ++ s.plain.varTypes P ++ fn.resultTypes.toList).any (P.veiledRec ·)) = true)
    (k31 : c.veiledFits P fn.params.toList (fn.params.toList ++ s.plain.varTypes P ++ fn.resultTypes.toList) = true)
    : joinedFacts P f fn s c = true := by
  have k28 : (c.kinds == (if c.domain.isEmpty then [] else fn.params.toList.map fun t => match P.underlying t with | some (.int k) => some k | _ => none)) = true := by rw [k28a, if_pos k28b]; rfl
  unfold joinedFacts
  exact (both (both (both (both (both (both (both (both (both (both (both (both (both (both (both (both (both (both (both (both (both (both (both (both (both (both (both (both (both (both (both k0 k1) k2) k3) k4) k5) k6) k7) k8) k9) k10) k11) k12) k13) k14) k15) k16) k17) k18) k19) k20) k21) k22) k23) k24) k25) k26) k27) k28) k29) k30) k31)
end Go.AX
