/- What the law needs of the program: the contracts of its functions, each with its condition at its theorem. -/
import Derived.Test.YtncphlcbbffecaaLHouseStockM0
import Derived.Below
import GoSem.ClaimWrapper
import GoSem.ClaimJoined
import Derived.JoinedOf
import Derived.ChangeArms
import Derived.WideShapes
import Derived.SizedLaws
set_option linter.unusedVariables false
set_option linter.unusedSimpArgs false
/- What records do to stocks: the program and the reference do the same. Condition: the data lie in memory. -/
namespace Go.AX
variable {P : Program} {I : Ids}
theorem RHold.cells {H : Heap} {cs : List C} {x : Hold} {F : List Nat} (h : RHold H cs x F) : cs.length = 2 := by rw [h.1]; rfl
theorem stock_at {s : Stock} {r : Rec} (hs : stockOk s = true) (hr : recOk r = true) : ∃ i, (r.trip - 1).toNat = i ∧ r.trip = (i : Nat) + 1 ∧ i < s.holds.length ∧ s.holds[i]? = some (holdAt s r.trip) ∧ IntKind.wrap .i64 (r.trip - 1) = (i : Int) ∧ (i : Int) < s.holds.length := by
  obtain ⟨_, hlen, _, _⟩ := stockOk_parts hs
  have ht := recOk_trip hr
  refine ⟨(r.trip - 1).toNat, rfl, by omega, by omega, holdAt_get hlen ht.1 ht.2, ?_, by omega⟩
  rw [wrap_i64 (by omega) (by omega)]; omega
theorem does_i_StockMay (K : Codes P I) {H : Heap} {cs ds : List C} {s : Stock} {r : Rec} {F G : List Nat} (h : RStock H cs s F) (hr : RRec H ds r G) : Does P I.i_StockMay [.agg cs, .agg ds] H fun v H' => v = bool (stockMay s r) ∧ H' = H := by
  have h0 := h
  have hr0 := hr
  obtain ⟨c, rfl, hc⟩ := h
  obtain ⟨cm, rfl, hm⟩ := hr
  refine K.does K.i_StockMay rfl fun Q hQ => ?_
  simp only [go_sem, Nat.reduceEqDiff, Nat.reduceAdd, Nat.reduceMul, Nat.reduceLeDiff, Int.reduceEq, Int.reduceLT, Int.reduceLE, Int.reduceAdd, Int.reduceSub, Int.reduceNeg, Int.reduceMul, Int.reduceToNat, Int.cast_ofNat_Int, Int.natCast_zero, Nat.add_zero, reduceCtorEq, L_i_StockMay]
  refine Does.test (does_i_StockOk K h0) ?_
  cases hok : stockOk s with
  | false =>
    simp only [go_sem, Nat.reduceEqDiff, Nat.reduceAdd, Nat.reduceMul, Nat.reduceLeDiff, Int.reduceEq, Int.reduceLT, Int.reduceLE, Int.reduceAdd, Int.reduceSub, Int.reduceNeg, Int.reduceMul, Int.reduceToNat, Int.cast_ofNat_Int, Int.natCast_zero, Nat.add_zero, reduceCtorEq]
    exact hQ _ _ (Ends.ret rfl ⟨by simp [tupOf, stockMay, hok], rfl⟩)
  | true =>
    simp only [go_sem, Nat.reduceEqDiff, Nat.reduceAdd, Nat.reduceMul, Nat.reduceLeDiff, Int.reduceEq, Int.reduceLT, Int.reduceLE, Int.reduceAdd, Int.reduceSub, Int.reduceNeg, Int.reduceMul, Int.reduceToNat, Int.cast_ofNat_Int, Int.natCast_zero, Nat.add_zero, reduceCtorEq]
    refine Does.test (does_i_RecOk K hr0) ?_
    cases hrk : recOk r with
    | false =>
      simp only [go_sem, Nat.reduceEqDiff, Nat.reduceAdd, Nat.reduceMul, Nat.reduceLeDiff, Int.reduceEq, Int.reduceLT, Int.reduceLE, Int.reduceAdd, Int.reduceSub, Int.reduceNeg, Int.reduceMul, Int.reduceToNat, Int.cast_ofNat_Int, Int.natCast_zero, Nat.add_zero, reduceCtorEq]
      exact hQ _ _ (Ends.ret rfl ⟨by simp [tupOf, stockMay, hrk], rfl⟩)
    | true =>
      obtain ⟨hroom, hlen, hall, hfree⟩ := stockOk_parts hok
      obtain ⟨i, q1, q2, q3, q4, q5, q6⟩ := stock_at hok hrk
      obtain ⟨b1, o1, bs1, cs1, f1, rfl, e1, e2, ⟨rfl, _⟩, _, _⟩ := hc.get q4
      have ld1 := slab_sub e2 1 1 (by simp)
      simp only [slabAt1, slabSkip1] at ld1
      by_cases k1 : r.kind = 1
      · obtain ⟨n, hn, _, _⟩ := recOk_hold hrk k1
        rw [hn] at hm
        obtain ⟨b2, o2, bs2, cs2, f2, rfl, g1, g2, ⟨rfl, _⟩, _⟩ := hm.get0
        simp only [Nat.zero_mul, Nat.add_zero] at g2
        simp only [go_sem, Nat.reduceEqDiff, Nat.reduceAdd, Nat.reduceMul, Nat.reduceLeDiff, Int.reduceEq, Int.reduceLT, Int.reduceLE, Int.reduceAdd, Int.reduceSub, Int.reduceNeg, Int.reduceMul, Int.reduceToNat, Int.cast_ofNat_Int, Int.natCast_zero, Nat.add_zero, reduceCtorEq, q5, q6, e1, ld1, k1]
        refine RU_code_regionZ (zOne b2 bs2) (zOne_holds g1) ?_
        by_cases s0 : (holdAt s r.trip).state = 0
        · simp only [go_sem, Nat.reduceEqDiff, Nat.reduceAdd, Nat.reduceMul, Nat.reduceLeDiff, Int.reduceEq, Int.reduceLT, Int.reduceLE, Int.reduceAdd, Int.reduceSub, Int.reduceNeg, Int.reduceMul, Int.reduceToNat, Int.cast_ofNat_Int, Int.natCast_zero, Nat.add_zero, reduceCtorEq, q5, q6, e1, ld1, k1, s0, g1, g2, Int.natCast_one, Int.ofNat_one, Nat.zero_mul, RUh_zOne g1]
          refine Does.test (does_i_Stock_free K h0 hroom hlen hall) ?_
          simp only [go_sem, Nat.reduceEqDiff, Nat.reduceAdd, Nat.reduceMul, Nat.reduceLeDiff, Int.reduceEq, Int.reduceLT, Int.reduceLE, Int.reduceAdd, Int.reduceSub, Int.reduceNeg, Int.reduceMul, Int.reduceToNat, Int.cast_ofNat_Int, Int.natCast_zero, Nat.add_zero, reduceCtorEq, RUh_zOne g1]
          exact hQ _ _ (Ends.ret rfl ⟨by simp [tupOf, stockMay, hok, hrk, stockMayB, k1, s0, first, hn], rfl⟩)
        · simp only [go_sem, Nat.reduceEqDiff, Nat.reduceAdd, Nat.reduceMul, Nat.reduceLeDiff, Int.reduceEq, Int.reduceLT, Int.reduceLE, Int.reduceAdd, Int.reduceSub, Int.reduceNeg, Int.reduceMul, Int.reduceToNat, Int.cast_ofNat_Int, Int.natCast_zero, Nat.add_zero, reduceCtorEq, q5, q6, e1, ld1, k1, s0, RUh_zOne g1]
          exact hQ _ _ (Ends.ret rfl ⟨by simp [tupOf, stockMay, hok, hrk, stockMayB, k1, s0], rfl⟩)
      · by_cases k2 : r.kind = 2
        · simp only [go_sem, Nat.reduceEqDiff, Nat.reduceAdd, Nat.reduceMul, Nat.reduceLeDiff, Int.reduceEq, Int.reduceLT, Int.reduceLE, Int.reduceAdd, Int.reduceSub, Int.reduceNeg, Int.reduceMul, Int.reduceToNat, Int.cast_ofNat_Int, Int.natCast_zero, Nat.add_zero, reduceCtorEq, q5, q6, e1, ld1, k1, k2]
          exact hQ _ _ (Ends.ret rfl ⟨by simp [tupOf, stockMay, hok, hrk, stockMayB, k2], rfl⟩)
        · by_cases k3 : r.kind = 3
          · by_cases s1 : (holdAt s r.trip).state = 1
            · simp only [go_sem, Nat.reduceEqDiff, Nat.reduceAdd, Nat.reduceMul, Nat.reduceLeDiff, Int.reduceEq, Int.reduceLT, Int.reduceLE, Int.reduceAdd, Int.reduceSub, Int.reduceNeg, Int.reduceMul, Int.reduceToNat, Int.cast_ofNat_Int, Int.natCast_zero, Nat.add_zero, reduceCtorEq, q5, q6, e1, ld1, k1, k2, k3, s1]
              exact hQ _ _ (Ends.ret rfl ⟨by simp [tupOf, stockMay, hok, hrk, stockMayB, k3, s1], rfl⟩)
            · simp only [go_sem, Nat.reduceEqDiff, Nat.reduceAdd, Nat.reduceMul, Nat.reduceLeDiff, Int.reduceEq, Int.reduceLT, Int.reduceLE, Int.reduceAdd, Int.reduceSub, Int.reduceNeg, Int.reduceMul, Int.reduceToNat, Int.cast_ofNat_Int, Int.natCast_zero, Nat.add_zero, reduceCtorEq, q5, q6, e1, ld1, k1, k2, k3, s1]
              exact hQ _ _ (Ends.ret rfl ⟨by simp [tupOf, stockMay, hok, hrk, stockMayB, k3, s1], rfl⟩)
          · simp only [go_sem, Nat.reduceEqDiff, Nat.reduceAdd, Nat.reduceMul, Nat.reduceLeDiff, Int.reduceEq, Int.reduceLT, Int.reduceLE, Int.reduceAdd, Int.reduceSub, Int.reduceNeg, Int.reduceMul, Int.reduceToNat, Int.cast_ofNat_Int, Int.natCast_zero, Nat.add_zero, reduceCtorEq, q5, q6, e1, ld1, k1, k2, k3]
            exact hQ _ _ (Ends.ret rfl ⟨by simp [tupOf, stockMay, hok, hrk, stockMayB, k1, k2, k3], rfl⟩)
theorem does_s_l2May (K : Codes P I) {H : Heap} {cs ds : List C} {s : Stock} {r : Rec} {F G : List Nat} (h : RStock H cs s F) (hr : RRec H ds r G) (hok : stockOk s = true) (hrk : recOk r = true) : Does P I.s_l2May [.agg cs, .agg ds] H fun v H' => v = bool (stockMayB s r) ∧ H' = H := by
  have h0 := h
  obtain ⟨c, rfl, hc⟩ := h
  obtain ⟨cm, rfl, hm⟩ := hr
  refine K.does K.s_l2May rfl fun Q hQ => ?_
  obtain ⟨hroom, hlen, hall, hfree⟩ := stockOk_parts hok
  obtain ⟨i, q1, q2, q3, q4, q5, q6⟩ := stock_at hok hrk
  obtain ⟨b1, o1, bs1, cs1, f1, rfl, e1, e2, ⟨rfl, _⟩, _, _⟩ := hc.get q4
  have ld1 := slab_sub e2 1 1 (by simp)
  simp only [slabAt1, slabSkip1] at ld1
  by_cases k1 : r.kind = 1
  · obtain ⟨n, hn, _, _⟩ := recOk_hold hrk k1
    rw [hn] at hm
    obtain ⟨b2, o2, bs2, cs2, f2, rfl, g1, g2, ⟨rfl, _⟩, _⟩ := hm.get0
    simp only [Nat.zero_mul, Nat.add_zero] at g2
    simp only [go_sem, Nat.reduceEqDiff, Nat.reduceAdd, Nat.reduceMul, Nat.reduceLeDiff, Int.reduceEq, Int.reduceLT, Int.reduceLE, Int.reduceAdd, Int.reduceSub, Int.reduceNeg, Int.reduceMul, Int.reduceToNat, Int.cast_ofNat_Int, Int.natCast_zero, Nat.add_zero, reduceCtorEq, L_s_l2May, q5, q6, e1, ld1, k1]
    refine RU_code_regionZ (zOne b2 bs2) (zOne_holds g1) ?_
    by_cases s0 : (holdAt s r.trip).state = 0
    · simp only [go_sem, Nat.reduceEqDiff, Nat.reduceAdd, Nat.reduceMul, Nat.reduceLeDiff, Int.reduceEq, Int.reduceLT, Int.reduceLE, Int.reduceAdd, Int.reduceSub, Int.reduceNeg, Int.reduceMul, Int.reduceToNat, Int.cast_ofNat_Int, Int.natCast_zero, Nat.add_zero, reduceCtorEq, q5, q6, e1, ld1, k1, s0, g1, g2, Int.natCast_one, Int.ofNat_one, Nat.zero_mul, RUh_zOne g1]
      refine Does.test (does_s_l2Free K h0 hroom hlen hall) ?_
      simp only [go_sem, Nat.reduceEqDiff, Nat.reduceAdd, Nat.reduceMul, Nat.reduceLeDiff, Int.reduceEq, Int.reduceLT, Int.reduceLE, Int.reduceAdd, Int.reduceSub, Int.reduceNeg, Int.reduceMul, Int.reduceToNat, Int.cast_ofNat_Int, Int.natCast_zero, Nat.add_zero, reduceCtorEq, RUh_zOne g1]
      exact hQ _ _ (Ends.ret rfl ⟨by simp [tupOf, stockMayB, k1, s0, first, hn], rfl⟩)
    · simp only [go_sem, Nat.reduceEqDiff, Nat.reduceAdd, Nat.reduceMul, Nat.reduceLeDiff, Int.reduceEq, Int.reduceLT, Int.reduceLE, Int.reduceAdd, Int.reduceSub, Int.reduceNeg, Int.reduceMul, Int.reduceToNat, Int.cast_ofNat_Int, Int.natCast_zero, Nat.add_zero, reduceCtorEq, q5, q6, e1, ld1, k1, s0, RUh_zOne g1]
      exact hQ _ _ (Ends.ret rfl ⟨by simp [tupOf, stockMayB, k1, s0], rfl⟩)
  · by_cases k2 : r.kind = 2
    · simp only [go_sem, Nat.reduceEqDiff, Nat.reduceAdd, Nat.reduceMul, Nat.reduceLeDiff, Int.reduceEq, Int.reduceLT, Int.reduceLE, Int.reduceAdd, Int.reduceSub, Int.reduceNeg, Int.reduceMul, Int.reduceToNat, Int.cast_ofNat_Int, Int.natCast_zero, Nat.add_zero, reduceCtorEq, L_s_l2May, q5, q6, e1, ld1, k1, k2]
      exact hQ _ _ (Ends.ret rfl ⟨by simp [tupOf, stockMayB, k2], rfl⟩)
    · by_cases k3 : r.kind = 3
      · by_cases s1 : (holdAt s r.trip).state = 1
        · simp only [go_sem, Nat.reduceEqDiff, Nat.reduceAdd, Nat.reduceMul, Nat.reduceLeDiff, Int.reduceEq, Int.reduceLT, Int.reduceLE, Int.reduceAdd, Int.reduceSub, Int.reduceNeg, Int.reduceMul, Int.reduceToNat, Int.cast_ofNat_Int, Int.natCast_zero, Nat.add_zero, reduceCtorEq, L_s_l2May, q5, q6, e1, ld1, k1, k2, k3, s1]
          exact hQ _ _ (Ends.ret rfl ⟨by simp [tupOf, stockMayB, k3, s1], rfl⟩)
        · simp only [go_sem, Nat.reduceEqDiff, Nat.reduceAdd, Nat.reduceMul, Nat.reduceLeDiff, Int.reduceEq, Int.reduceLT, Int.reduceLE, Int.reduceAdd, Int.reduceSub, Int.reduceNeg, Int.reduceMul, Int.reduceToNat, Int.cast_ofNat_Int, Int.natCast_zero, Nat.add_zero, reduceCtorEq, L_s_l2May, q5, q6, e1, ld1, k1, k2, k3, s1]
          exact hQ _ _ (Ends.ret rfl ⟨by simp [tupOf, stockMayB, k3, s1], rfl⟩)
      · simp only [go_sem, Nat.reduceEqDiff, Nat.reduceAdd, Nat.reduceMul, Nat.reduceLeDiff, Int.reduceEq, Int.reduceLT, Int.reduceLE, Int.reduceAdd, Int.reduceSub, Int.reduceNeg, Int.reduceMul, Int.reduceToNat, Int.cast_ofNat_Int, Int.natCast_zero, Nat.add_zero, reduceCtorEq, L_s_l2May, q5, q6, e1, ld1, k1, k2, k3]
        exact hQ _ _ (Ends.ret rfl ⟨by simp [tupOf, stockMayB, k1, k2, k3], rfl⟩)
theorem does_s_StockMay (K : Codes P I) {H : Heap} {cs ds : List C} {s : Stock} {r : Rec} {F G : List Nat} (h : RStock H cs s F) (hr : RRec H ds r G) : Does P I.s_StockMay [.agg cs, .agg ds] H fun v H' => v = bool (stockMay s r) ∧ H' = H := by
  obtain ⟨x0, x1, rfl⟩ := len2 h.cells
  obtain ⟨y0, y1, y2, rfl⟩ := len3 hr.cells
  refine K.does K.s_StockMay rfl fun Q hQ => ?_
  simp only [go_sem, Nat.reduceEqDiff, Nat.reduceAdd, Nat.reduceMul, Nat.reduceLeDiff, Int.reduceEq, Int.reduceLT, Int.reduceLE, Int.reduceAdd, Int.reduceSub, Int.reduceNeg, Int.reduceMul, Int.reduceToNat, Int.cast_ofNat_Int, Int.natCast_zero, Nat.add_zero, reduceCtorEq, L_s_StockMay]
  refine Does.test (does_s_StockOk K h) ?_
  cases hok : stockOk s with
  | false =>
    simp only [go_sem, Nat.reduceEqDiff, Nat.reduceAdd, Nat.reduceMul, Nat.reduceLeDiff, Int.reduceEq, Int.reduceLT, Int.reduceLE, Int.reduceAdd, Int.reduceSub, Int.reduceNeg, Int.reduceMul, Int.reduceToNat, Int.cast_ofNat_Int, Int.natCast_zero, Nat.add_zero, reduceCtorEq]
    exact hQ _ _ (Ends.ret rfl ⟨by simp [tupOf, stockMay, hok], rfl⟩)
  | true =>
    simp only [go_sem, Nat.reduceEqDiff, Nat.reduceAdd, Nat.reduceMul, Nat.reduceLeDiff, Int.reduceEq, Int.reduceLT, Int.reduceLE, Int.reduceAdd, Int.reduceSub, Int.reduceNeg, Int.reduceMul, Int.reduceToNat, Int.cast_ofNat_Int, Int.natCast_zero, Nat.add_zero, reduceCtorEq]
    refine Does.test (does_s_RecOk K hr) ?_
    cases hrk : recOk r with
    | false =>
      simp only [go_sem, Nat.reduceEqDiff, Nat.reduceAdd, Nat.reduceMul, Nat.reduceLeDiff, Int.reduceEq, Int.reduceLT, Int.reduceLE, Int.reduceAdd, Int.reduceSub, Int.reduceNeg, Int.reduceMul, Int.reduceToNat, Int.cast_ofNat_Int, Int.natCast_zero, Nat.add_zero, reduceCtorEq]
      exact hQ _ _ (Ends.ret rfl ⟨by simp [tupOf, stockMay, hrk], rfl⟩)
    | true =>
      simp only [go_sem, Nat.reduceEqDiff, Nat.reduceAdd, Nat.reduceMul, Nat.reduceLeDiff, Int.reduceEq, Int.reduceLT, Int.reduceLE, Int.reduceAdd, Int.reduceSub, Int.reduceNeg, Int.reduceMul, Int.reduceToNat, Int.cast_ofNat_Int, Int.natCast_zero, Nat.add_zero, reduceCtorEq]
      refine Does.test (does_s_l2May K h hr hok hrk) ?_
      simp only [go_sem, Nat.reduceEqDiff, Nat.reduceAdd, Nat.reduceMul, Nat.reduceLeDiff, Int.reduceEq, Int.reduceLT, Int.reduceLE, Int.reduceAdd, Int.reduceSub, Int.reduceNeg, Int.reduceMul, Int.reduceToNat, Int.cast_ofNat_Int, Int.natCast_zero, Nat.add_zero, reduceCtorEq]
      exact hQ _ _ (Ends.ret rfl ⟨by simp [tupOf, stockMay, hok, hrk], rfl⟩)
def stockDoV (s : Stock) (r : Rec) : Stock := if stockMay s r = true then stockDoL s r else stock0
theorem rstock0 {H : Heap} : RStock H [.int .i64 0, .nil] stock0 [] := ⟨.nil, rfl, .nil⟩
theorem may_kinds {s : Stock} {r : Rec} (h : stockMayB s r = true) (k1 : r.kind ≠ 1) (k2 : r.kind ≠ 2) : r.kind = 3 := by
  unfold stockMayB at h
  rw [if_neg k1, if_neg k2] at h
  split at h
  · assumption
  · cases h
theorem stockDoL_set {s : Stock} {r : Rec} {i : Nat} (h : (r.trip - 1).toNat = i) : stockDoL s r = ⟨s.room, s.holds.set i (holdDo (holdAt s r.trip) r)⟩ := by unfold stockDoL; rw [h]
set_option maxHeartbeats 1000000 in
theorem does_i_StockDo (K : Codes P I) {H : Heap} {cs ds : List C} {s : Stock} {r : Rec} {F G : List Nat} (h : RStock H cs s F) (hr : RRec H ds r G) : Does P I.i_StockDo [.agg cs, .agg ds] H fun v H' => ∃ cs' F', v = .tup [.agg cs', .c (.bool (stockMay s r))] ∧ Step [] H H' F' ∧ RStock H' cs' (stockDoV s r) F' := by
  have h0 := h
  have hr0 := hr
  obtain ⟨c, rfl, hc⟩ := h
  obtain ⟨cm, rfl, hm⟩ := hr
  refine K.does K.i_StockDo rfl fun Q hQ => ?_
  simp only [go_sem, Nat.reduceEqDiff, Nat.reduceAdd, Nat.reduceMul, Nat.reduceLeDiff, Int.reduceEq, Int.reduceLT, Int.reduceLE, Int.reduceAdd, Int.reduceSub, Int.reduceNeg, Int.reduceMul, Int.reduceToNat, Int.cast_ofNat_Int, Int.natCast_zero, Nat.add_zero, reduceCtorEq, L_i_StockDo]
  refine Does.test (does_i_StockMay K h0 hr0) ?_
  cases hmay : stockMay s r with
  | false =>
    simp only [go_sem, Nat.reduceEqDiff, Nat.reduceAdd, Nat.reduceMul, Nat.reduceLeDiff, Int.reduceEq, Int.reduceLT, Int.reduceLE, Int.reduceAdd, Int.reduceSub, Int.reduceNeg, Int.reduceMul, Int.reduceToNat, Int.cast_ofNat_Int, Int.natCast_zero, Nat.add_zero, reduceCtorEq]
    exact hQ _ _ (Ends.ret rfl ⟨[.int .i64 0, .nil], [], by simp [tupOf, hmay], Step.refl H, by rw [stockDoV, if_neg (by simp [hmay])]; exact rstock0⟩)
  | true =>
    have hV : stockDoV s r = stockDoL s r := by rw [stockDoV, if_pos hmay]
    have hmay2 := hmay
    simp only [stockMay, Bool.and_eq_true] at hmay2
    obtain ⟨hok, hrk, hmb⟩ := hmay2
    obtain ⟨hroom, hlen, hall, hfree⟩ := stockOk_parts hok
    obtain ⟨i, q1, q2, q3, q4, q5, q6⟩ := stock_at hok hrk
    have hS := stockDoL_set (s := s) q1
    simp only [go_sem, Nat.reduceEqDiff, Nat.reduceAdd, Nat.reduceMul, Nat.reduceLeDiff, Int.reduceEq, Int.reduceLT, Int.reduceLE, Int.reduceAdd, Int.reduceSub, Int.reduceNeg, Int.reduceMul, Int.reduceToNat, Int.cast_ofNat_Int, Int.natCast_zero, Nat.add_zero, reduceCtorEq]
    refine Does.call (does_g_Clone_Hold K hc (by unfold lenMax; omega)) ?_
    rintro _ H1 ⟨c1, F1, rfl, s1, h1⟩
    replace s1 : Step [] H H1 F1 := s1
    have hm1 := s1.keepSl RInt.good hm fun b _ => by simp
    by_cases k1 : r.kind = 1
    · obtain ⟨n, hn, _, _⟩ := recOk_hold hrk k1
      rw [hn] at hm1
      obtain ⟨b2, o2, bs2, cs2, f2, rfl, g1, g2, ⟨rfl, _⟩, _⟩ := hm1.get0
      simp only [Nat.zero_mul, Nat.add_zero] at g2
      obtain ⟨b, off, bs, H2, e1, e2, e3, e4, e5, e6⟩ := hold_set h1 s1.owned q4 ⟨n, 1⟩
      subst e1
      simp only [go_sem, Nat.reduceEqDiff, Nat.reduceAdd, Nat.reduceMul, Nat.reduceLeDiff, Int.reduceEq, Int.reduceLT, Int.reduceLE, Int.reduceAdd, Int.reduceSub, Int.reduceNeg, Int.reduceMul, Int.reduceToNat, Int.cast_ofNat_Int, Int.natCast_zero, Nat.add_zero, reduceCtorEq, q5, q6, k1, g1, g2, Int.natCast_one, Int.ofNat_one, Nat.zero_mul, e2, e3, e4]
      exact hQ _ _ (Ends.ret rfl ⟨[.int .i64 s.room, .sl b off s.holds.length], F1, by simp [tupOf, hmay], s1.trans e6, by rw [hV, hS]; exact ⟨_, rfl, by simpa [holdDo, k1, first, hn] using e5⟩⟩)
    · by_cases k2 : r.kind = 2
      · obtain ⟨b, off, bs, H2, e1, e2, e3, e4, e5, e6⟩ := hold_st h1 s1.owned q4 2
        subst e1
        simp only [go_sem, Nat.reduceEqDiff, Nat.reduceAdd, Nat.reduceMul, Nat.reduceLeDiff, Int.reduceEq, Int.reduceLT, Int.reduceLE, Int.reduceAdd, Int.reduceSub, Int.reduceNeg, Int.reduceMul, Int.reduceToNat, Int.cast_ofNat_Int, Int.natCast_zero, Nat.add_zero, reduceCtorEq, q5, q6, k1, k2, e2, e3, e4]
        exact hQ _ _ (Ends.ret rfl ⟨[.int .i64 s.room, .sl b off s.holds.length], F1, by simp [tupOf, hmay], s1.trans e6, by rw [hV, hS]; exact ⟨_, rfl, by simpa [holdDo, k2] using e5⟩⟩)
      · have k3 := may_kinds hmb k1 k2
        obtain ⟨b, off, bs, H2, e1, e2, e3, e4, e5, e6⟩ := hold_st h1 s1.owned q4 3
        subst e1
        simp only [go_sem, Nat.reduceEqDiff, Nat.reduceAdd, Nat.reduceMul, Nat.reduceLeDiff, Int.reduceEq, Int.reduceLT, Int.reduceLE, Int.reduceAdd, Int.reduceSub, Int.reduceNeg, Int.reduceMul, Int.reduceToNat, Int.cast_ofNat_Int, Int.natCast_zero, Nat.add_zero, reduceCtorEq, q5, q6, k1, k2, k3, e2, e3, e4]
        exact hQ _ _ (Ends.ret rfl ⟨[.int .i64 s.room, .sl b off s.holds.length], F1, by simp [tupOf, hmay], s1.trans e6, by rw [hV, hS]; exact ⟨_, rfl, by simpa [holdDo, k3] using e5⟩⟩)
set_option maxHeartbeats 1000000 in
theorem does_s_l2Do (K : Codes P I) {H : Heap} {cs ds : List C} {s : Stock} {r : Rec} {F G : List Nat} (h : RStock H cs s F) (ho : Owned H F) (hr : RRec H ds r G) (hok : stockOk s = true) (hrk : recOk r = true) (hmb : stockMayB s r = true) :
    Does P I.s_l2Do [.agg cs, .agg ds] H fun v H' => ∃ cs', v = .val (.agg cs') ∧ Step F H H' F ∧ RStock H' cs' (stockDoL s r) F := by
  obtain ⟨c, rfl, hc⟩ := h
  obtain ⟨cm, rfl, hm⟩ := hr
  refine K.does K.s_l2Do rfl fun Q hQ => ?_
  obtain ⟨hroom, hlen, hall, hfree⟩ := stockOk_parts hok
  obtain ⟨i, q1, q2, q3, q4, q5, q6⟩ := stock_at hok hrk
  have hS := stockDoL_set (s := s) q1
  obtain ⟨b, off, bs, H2, e1, e2, e3, e4, e5, e6⟩ := hold_set hc ho q4 (holdDo (holdAt s r.trip) r)
  obtain ⟨b3, o3, bs3, cs3, f3, e7, e8, e9, ⟨rfl, _⟩, _, _⟩ := hc.get q4
  rw [e1] at e7
  cases e7
  subst e1
  by_cases k1 : r.kind = 1
  · obtain ⟨n, hn, _, _⟩ := recOk_hold hrk k1
    rw [hn] at hm
    obtain ⟨b2, o2, bs2, cs2, f2, rfl, g1, g2, ⟨rfl, _⟩, _⟩ := hm.get0
    simp only [Nat.zero_mul, Nat.add_zero] at g2
    simp only [holdDo, k1, if_true, first, hn, List.headD_cons] at e4
    simp only [go_sem, Nat.reduceEqDiff, Nat.reduceAdd, Nat.reduceMul, Nat.reduceLeDiff, Int.reduceEq, Int.reduceLT, Int.reduceLE, Int.reduceAdd, Int.reduceSub, Int.reduceNeg, Int.reduceMul, Int.reduceToNat, Int.cast_ofNat_Int, Int.natCast_zero, Nat.add_zero, reduceCtorEq, L_s_l2Do, q5, q6, k1, e8, e9, g1, g2, Int.natCast_one, Int.ofNat_one, Nat.zero_mul, e2, e3, e4]
    exact hQ _ _ (Ends.ret rfl ⟨_, rfl, e6, by rw [hS]; exact ⟨_, rfl, e5⟩⟩)
  · by_cases k2 : r.kind = 2
    · simp only [holdDo, k2, Int.reduceEq, if_true, if_false] at e4
      simp only [go_sem, Nat.reduceEqDiff, Nat.reduceAdd, Nat.reduceMul, Nat.reduceLeDiff, Int.reduceEq, Int.reduceLT, Int.reduceLE, Int.reduceAdd, Int.reduceSub, Int.reduceNeg, Int.reduceMul, Int.reduceToNat, Int.cast_ofNat_Int, Int.natCast_zero, Nat.add_zero, reduceCtorEq, L_s_l2Do, q5, q6, k1, k2, e8, e9, e2, e3, e4]
      exact hQ _ _ (Ends.ret rfl ⟨_, rfl, e6, by rw [hS]; exact ⟨_, rfl, e5⟩⟩)
    · have k3 := may_kinds hmb k1 k2
      simp only [holdDo, k3, Int.reduceEq, if_true, if_false] at e4
      simp only [go_sem, Nat.reduceEqDiff, Nat.reduceAdd, Nat.reduceMul, Nat.reduceLeDiff, Int.reduceEq, Int.reduceLT, Int.reduceLE, Int.reduceAdd, Int.reduceSub, Int.reduceNeg, Int.reduceMul, Int.reduceToNat, Int.cast_ofNat_Int, Int.natCast_zero, Nat.add_zero, reduceCtorEq, L_s_l2Do, q5, q6, k1, k2, k3, e8, e9, e2, e3, e4]
      exact hQ _ _ (Ends.ret rfl ⟨_, rfl, e6, by rw [hS]; exact ⟨_, rfl, e5⟩⟩)
theorem rstockN {H : Heap} {room : Int} : RStock (H ++ [⟨.rw, 2, rep 6 [.int .i64 0, .int .i64 0]⟩]) [.int .i64 room, .sl H.length 0 6] (stockN room) [H.length] := ⟨_, rfl, show SlR 2 RHold _ _ (List.replicate 6 (⟨0, 0⟩ : Hold)) _ from sl_make (z := [.int .i64 0, .int .i64 0]) rfl (fun _ => ⟨rfl, rfl⟩) (by unfold lenTop; omega)⟩
theorem does_i_StockNew (K : Codes P I) {H : Heap} {room : Int} : Does P I.i_StockNew [int room] H fun v H' => ∃ cs F, v = .tup [.agg cs, .c (.bool (inB room 0 9))] ∧ Step [] H H' F ∧ RStock H' cs (stockNewV room) F := by
  refine K.does K.i_StockNew rfl fun Q hQ => ?_
  have hle : (6 : Int) ≤ ((lenMax : Nat) : Int) := by unfold lenMax; omega
  simp only [go_sem, Nat.reduceEqDiff, Nat.reduceAdd, Nat.reduceMul, Nat.reduceLeDiff, Int.reduceEq, Int.reduceLT, Int.reduceLE, Int.reduceAdd, Int.reduceSub, Int.reduceNeg, Int.reduceMul, Int.reduceToNat, Int.cast_ofNat_Int, Int.natCast_zero, Nat.add_zero, reduceCtorEq, L_i_StockNew]
  refine Does.test (does_i_in K) ?_
  cases hr : inB room 0 9 with
  | false =>
    simp only [go_sem, Nat.reduceEqDiff, Nat.reduceAdd, Nat.reduceMul, Nat.reduceLeDiff, Int.reduceEq, Int.reduceLT, Int.reduceLE, Int.reduceAdd, Int.reduceSub, Int.reduceNeg, Int.reduceMul, Int.reduceToNat, Int.cast_ofNat_Int, Int.natCast_zero, Nat.add_zero, reduceCtorEq]
    exact hQ _ _ (Ends.ret rfl ⟨_, [], by simp [tupOf, hr]; rfl, Step.refl H, by rw [stockNewV, if_neg (by simp [hr])]; exact rstock0⟩)
  | true =>
    simp only [go_sem, Nat.reduceEqDiff, Nat.reduceAdd, Nat.reduceMul, Nat.reduceLeDiff, Int.reduceEq, Int.reduceLT, Int.reduceLE, Int.reduceAdd, Int.reduceSub, Int.reduceNeg, Int.reduceMul, Int.reduceToNat, Int.cast_ofNat_Int, Int.natCast_zero, Nat.add_zero, reduceCtorEq, hle]
    exact hQ _ _ (Ends.ret rfl ⟨_, _, by simp [tupOf, hr]; rfl, step_new, by rw [stockNewV, if_pos hr]; exact rstockN⟩)
theorem does_s_StockNew (K : Codes P I) {H : Heap} {room : Int} : Does P I.s_StockNew [int room] H fun v H' => ∃ cs F, v = .tup [.agg cs, .c (.bool (inB room 0 9))] ∧ Step [] H H' F ∧ RStock H' cs (stockNewV room) F := by
  refine K.does K.s_StockNew rfl fun Q hQ => ?_
  have hle : (6 : Int) ≤ ((lenMax : Nat) : Int) := by unfold lenMax; omega
  simp only [go_sem, Nat.reduceEqDiff, Nat.reduceAdd, Nat.reduceMul, Nat.reduceLeDiff, Int.reduceEq, Int.reduceLT, Int.reduceLE, Int.reduceAdd, Int.reduceSub, Int.reduceNeg, Int.reduceMul, Int.reduceToNat, Int.cast_ofNat_Int, Int.natCast_zero, Nat.add_zero, reduceCtorEq, L_s_StockNew]
  refine Does.test (does_s_l6In K) ?_
  cases hr : inB room 0 9 with
  | false =>
    simp only [go_sem, Nat.reduceEqDiff, Nat.reduceAdd, Nat.reduceMul, Nat.reduceLeDiff, Int.reduceEq, Int.reduceLT, Int.reduceLE, Int.reduceAdd, Int.reduceSub, Int.reduceNeg, Int.reduceMul, Int.reduceToNat, Int.cast_ofNat_Int, Int.natCast_zero, Nat.add_zero, reduceCtorEq]
    exact hQ _ _ (Ends.ret rfl ⟨_, [], by simp [tupOf, hr]; rfl, Step.refl H, by rw [stockNewV, if_neg (by simp [hr])]; exact rstock0⟩)
  | true =>
    simp only [go_sem, Nat.reduceEqDiff, Nat.reduceAdd, Nat.reduceMul, Nat.reduceLeDiff, Int.reduceEq, Int.reduceLT, Int.reduceLE, Int.reduceAdd, Int.reduceSub, Int.reduceNeg, Int.reduceMul, Int.reduceToNat, Int.cast_ofNat_Int, Int.natCast_zero, Nat.add_zero, reduceCtorEq, hle]
    exact hQ _ _ (Ends.ret rfl ⟨_, _, by simp [tupOf, hr]; rfl, step_new, by rw [stockNewV, if_pos hr]; exact rstockN⟩)

theorem stockOf_next {room : Int} {recs : List Rec} {i : Nat} {s : Stock} {x : Rec} (h : stockOf room (recs.take i) = some s) (hx : recs[i]? = some x) (hg : (recOk x && stockMayB s x) = true) : stockOf room (recs.take (i + 1)) = some (stockDoL s x) := by
  rw [take_snoc hx, stockOf_snoc, h]; simp only [stockStep, Option.bind_some, hg, if_true]
theorem stockOf_fail {room : Int} {recs : List Rec} {i : Nat} {s : Stock} {x : Rec} (h : stockOf room (recs.take i) = some s) (hx : recs[i]? = some x) (hg : (recOk x && stockMayB s x) = false) : stockOf room recs = none := by
  cases ho : stockOf room recs with
  | none => rfl
  | some s' =>
    obtain ⟨t, ht⟩ := stockOf_take ho (i + 1)
    rw [take_snoc hx, stockOf_snoc, h] at ht
    simp only [stockStep, Option.bind_some, hg] at ht
    cases ht
def stockD (room : Int) (recs : List Rec) : Stock := (stockOf room recs).getD stock0
theorem stockOf_room {room : Int} {recs : List Rec} (h : inB room 0 9 = false) : stockOf room recs = none := by
  unfold stockOf; rw [if_neg (by simp [h])]; exact foldl_stock_none recs
theorem stockOf_zero {room : Int} {recs : List Rec} (h : inB room 0 9 = true) : stockOf room (recs.take 0) = some (stockN room) := by
  unfold stockOf; rw [if_pos h]; rfl
theorem does_s_l2Of (K : Codes P I) {H : Heap} {c : C} {room : Int} {recs : List Rec} {F : List Nat} (h : Recs H c recs F) :
    Does P I.s_l2Of [int room, .c c] H fun v H' => ∃ cs F', v = .tup [.agg cs, .c (.bool (stockOf room recs).isSome)] ∧ Step [] H H' F' ∧ RStock H' cs (stockD room recs) F' := by
  refine K.does K.s_l2Of rfl fun Q hQ => ?_
  have htop := h.top
  simp only [go_sem, Nat.reduceEqDiff, Nat.reduceAdd, Nat.reduceMul, Nat.reduceLeDiff, Int.reduceEq, Int.reduceLT, Int.reduceLE, Int.reduceAdd, Int.reduceSub, Int.reduceNeg, Int.reduceMul, Int.reduceToNat, Int.cast_ofNat_Int, Int.natCast_zero, Nat.add_zero, reduceCtorEq, L_s_l2Of]
  refine Does.call (does_s_StockNew K) ?_
  rintro _ H1 ⟨cs, F1, rfl, s1, h1⟩
  obtain ⟨x0, x1, rfl⟩ := len2 h1.cells
  cases hroom : inB room 0 9 with
  | false =>
    simp only [go_sem, Nat.reduceEqDiff, Nat.reduceAdd, Nat.reduceMul, Nat.reduceLeDiff, Int.reduceEq, Int.reduceLT, Int.reduceLE, Int.reduceAdd, Int.reduceSub, Int.reduceNeg, Int.reduceMul, Int.reduceToNat, Int.cast_ofNat_Int, Int.natCast_zero, Nat.add_zero, reduceCtorEq]
    exact hQ _ _ (Ends.ret rfl ⟨[.int .i64 0, .nil], [], by simp [tupOf, stockOf_room hroom], s1.less (by simp), by simp only [stockD, stockOf_room hroom, Option.getD_none]; exact rstock0⟩)
  | true =>
    rw [stockNewV, if_pos hroom] at h1
    simp only [go_sem, Nat.reduceEqDiff, Nat.reduceAdd, Nat.reduceMul, Nat.reduceLeDiff, Int.reduceEq, Int.reduceLT, Int.reduceLE, Int.reduceAdd, Int.reduceSub, Int.reduceNeg, Int.reduceMul, Int.reduceToNat, Int.cast_ofNat_Int, Int.natCast_zero, Nat.add_zero, reduceCtorEq]
    refine RU_loop (fun m t => ∃ i : Nat, m = recs.length - i ∧ i ≤ recs.length ∧ t.env 1 = .val (.c c) ∧ t.env 4 = .box [.int .i64 0, .nil] ∧ t.env 8 = .val (int i) ∧ ∃ s cs F', stockOf room (recs.take i) = some s ∧ t.env 6 = .box cs ∧ cs.length = 2 ∧ Step [] H t.H F' ∧ RStock t.H cs s F') recs.length
      ⟨0, by simp, by simp, rfl, rfl, rfl, _, _, _, stockOf_zero hroom, rfl, rfl, s1, h1⟩ ?_
    rintro m t ⟨i, rfl, hi, g1, g4, g8, s, cs, F', hs0, g6, hcs, hs, hr⟩ Q' hN hE hR
    obtain ⟨y0, y1, rfl⟩ := len2 hcs
    have h2 := hs.keepSl RRec.good h fun b _ => by simp
    by_cases hlt : (i : Int) < recs.length
    · obtain ⟨x, hx⟩ := get_lt hlt
      obtain ⟨b1, o1, bs1, cs1, f1, rfl, e1, e2, hrx, hcl, _⟩ := h2.get hx
      obtain ⟨z0, z1, z2, rfl⟩ := len3 hcl
      simp only [go_sem, Nat.reduceEqDiff, Nat.reduceAdd, Nat.reduceMul, Nat.reduceLeDiff, Int.reduceEq, Int.reduceLT, Int.reduceLE, Int.reduceAdd, Int.reduceSub, Int.reduceNeg, Int.reduceMul, Int.reduceToNat, Int.cast_ofNat_Int, Int.natCast_zero, Nat.add_zero, reduceCtorEq, g1, g4, g6, g8, hlt, e1, e2]
      refine Does.test (does_s_RecOk K hrx) ?_
      cases hrk : recOk x with
      | false =>
        have hn := stockOf_fail hs0 hx (by simp [hrk])
        simp only [go_sem, Nat.reduceEqDiff, Nat.reduceAdd, Nat.reduceMul, Nat.reduceLeDiff, Int.reduceEq, Int.reduceLT, Int.reduceLE, Int.reduceAdd, Int.reduceSub, Int.reduceNeg, Int.reduceMul, Int.reduceToNat, Int.cast_ofNat_Int, Int.natCast_zero, Nat.add_zero, reduceCtorEq, g4]
        exact hR _ (hQ _ _ (Ends.ret rfl ⟨[.int .i64 0, .nil], [], by simp [tupOf, hn], hs.less (by simp), by simp only [stockD, hn, Option.getD_none]; exact rstock0⟩))
      | true =>
        simp only [go_sem, Nat.reduceEqDiff, Nat.reduceAdd, Nat.reduceMul, Nat.reduceLeDiff, Int.reduceEq, Int.reduceLT, Int.reduceLE, Int.reduceAdd, Int.reduceSub, Int.reduceNeg, Int.reduceMul, Int.reduceToNat, Int.cast_ofNat_Int, Int.natCast_zero, Nat.add_zero, reduceCtorEq, g1, g4, g6, g8, hlt, e1, e2]
        refine Does.test (does_s_l2May K hr hrx (stockOf_ok hs0) hrk) ?_
        cases hmb : stockMayB s x with
        | false =>
          have hn := stockOf_fail hs0 hx (by simp [hmb])
          simp only [go_sem, Nat.reduceEqDiff, Nat.reduceAdd, Nat.reduceMul, Nat.reduceLeDiff, Int.reduceEq, Int.reduceLT, Int.reduceLE, Int.reduceAdd, Int.reduceSub, Int.reduceNeg, Int.reduceMul, Int.reduceToNat, Int.cast_ofNat_Int, Int.natCast_zero, Nat.add_zero, reduceCtorEq, g4]
          exact hR _ (hQ _ _ (Ends.ret rfl ⟨[.int .i64 0, .nil], [], by simp [tupOf, hn], hs.less (by simp), by simp only [stockD, hn, Option.getD_none]; exact rstock0⟩))
        | true =>
          simp only [go_sem, Nat.reduceEqDiff, Nat.reduceAdd, Nat.reduceMul, Nat.reduceLeDiff, Int.reduceEq, Int.reduceLT, Int.reduceLE, Int.reduceAdd, Int.reduceSub, Int.reduceNeg, Int.reduceMul, Int.reduceToNat, Int.cast_ofNat_Int, Int.natCast_zero, Nat.add_zero, reduceCtorEq, g1, g4, g6, g8, hlt, e1, e2]
          refine Does.call (does_s_l2Do K hr hs.owned hrx (stockOf_ok hs0) hrk hmb) ?_
          rintro _ H3 ⟨cs3, rfl, s3, h3⟩
          obtain ⟨w0, w1, rfl⟩ := len2 h3.cells
          simp only [go_sem, Nat.reduceEqDiff, Nat.reduceAdd, Nat.reduceMul, Nat.reduceLeDiff, Int.reduceEq, Int.reduceLT, Int.reduceLE, Int.reduceAdd, Int.reduceSub, Int.reduceNeg, Int.reduceMul, Int.reduceToNat, Int.cast_ofNat_Int, Int.natCast_zero, Nat.add_zero, reduceCtorEq, g1, g4, g6, g8, wrap_succ (show i ≤ lenTop by omega)]
          exact hN _ _ (by omega) ⟨i + 1, rfl, by omega, by simp [upd, g1], by simp [upd, g4], by simp [upd], _, _, F', stockOf_next hs0 hx (by simp [hrk, hmb]), by simp [upd], rfl, hs.trans s3, h3⟩
    · simp only [go_sem, Nat.reduceEqDiff, Nat.reduceAdd, Nat.reduceMul, Nat.reduceLeDiff, Int.reduceEq, Int.reduceLT, Int.reduceLE, Int.reduceAdd, Int.reduceSub, Int.reduceNeg, Int.reduceMul, Int.reduceToNat, Int.cast_ofNat_Int, Int.natCast_zero, Nat.add_zero, reduceCtorEq, g1, g8, hlt, h2.len]
      refine hE _ _ ?_
      rw [List.take_of_length_le (by omega)] at hs0
      simp only [go_sem, Nat.reduceEqDiff, Nat.reduceAdd, Nat.reduceMul, Nat.reduceLeDiff, Int.reduceEq, Int.reduceLT, Int.reduceLE, Int.reduceAdd, Int.reduceSub, Int.reduceNeg, Int.reduceMul, Int.reduceToNat, Int.cast_ofNat_Int, Int.natCast_zero, Nat.add_zero, reduceCtorEq, g4, g6]
      exact hQ _ _ (Ends.ret rfl ⟨_, F', by simp [tupOf, hs0]; rfl, hs, by simp only [stockD, hs0, Option.getD_some]; exact hr⟩)
theorem does_i_StockOf (K : Codes P I) {H : Heap} {c : C} {room : Int} {recs : List Rec} {F : List Nat} (h : Recs H c recs F) :
    Does P I.i_StockOf [int room, .c c] H fun v H' => ∃ cs F', v = .tup [.agg cs, .c (.bool (stockOf room recs).isSome)] ∧ Step [] H H' F' ∧ RStock H' cs (stockD room recs) F' := by
  refine K.does K.i_StockOf rfl fun Q hQ => ?_
  have htop := h.top
  simp only [go_sem, Nat.reduceEqDiff, Nat.reduceAdd, Nat.reduceMul, Nat.reduceLeDiff, Int.reduceEq, Int.reduceLT, Int.reduceLE, Int.reduceAdd, Int.reduceSub, Int.reduceNeg, Int.reduceMul, Int.reduceToNat, Int.cast_ofNat_Int, Int.natCast_zero, Nat.add_zero, reduceCtorEq, L_i_StockOf]
  refine Does.call (does_i_StockNew K) ?_
  rintro _ H1 ⟨cs, F1, rfl, s1, h1⟩
  obtain ⟨x0, x1, rfl⟩ := len2 h1.cells
  simp only [go_sem, Nat.reduceEqDiff, Nat.reduceAdd, Nat.reduceMul, Nat.reduceLeDiff, Int.reduceEq, Int.reduceLT, Int.reduceLE, Int.reduceAdd, Int.reduceSub, Int.reduceNeg, Int.reduceMul, Int.reduceToNat, Int.cast_ofNat_Int, Int.natCast_zero, Nat.add_zero, reduceCtorEq]
  refine RU_loop (fun m t => ∃ i : Nat, m = recs.length + 1 - i ∧ i ≤ recs.length ∧ t.env 1 = .val (.c c) ∧ t.env 4 = .box [.int .i64 0, .nil] ∧ t.env 8 = .val (int i) ∧ ((∃ s cs F', stockOf room (recs.take i) = some s ∧ t.env 7 = bool true ∧ t.env 6 = .box cs ∧ cs.length = 2 ∧ Step [] H t.H F' ∧ RStock t.H cs s F') ∨ (∃ cs F', stockOf room recs = none ∧ t.env 7 = bool false ∧ t.env 6 = .box cs ∧ cs.length = 2 ∧ Step [] H t.H F' ∧ RStock t.H cs stock0 F'))) (recs.length + 1)
    ⟨0, by simp, by simp, rfl, rfl, rfl, by
      cases hroom : inB room 0 9 with
      | true => rw [stockNewV, if_pos hroom] at h1; exact .inl ⟨_, _, _, stockOf_zero hroom, by simp [upd, hroom], rfl, rfl, s1, h1⟩
      | false => rw [stockNewV, if_neg (by simp [hroom])] at h1; exact .inr ⟨_, _, stockOf_room hroom, by simp [upd, hroom], rfl, rfl, s1, h1⟩⟩ ?_
  rintro m t ⟨i, rfl, hi, g1, g4, g8, hc⟩ Q' hN hE hR
  rcases hc with ⟨s, cs, F', hs0, g7, g6, hcs, hs, hr⟩ | ⟨cs, F', hn, g7, g6, hcs, hs, hr⟩
  · obtain ⟨y0, y1, rfl⟩ := len2 hcs
    have h2 := hs.keepSl RRec.good h fun b _ => by simp
    by_cases hlt : (i : Int) < recs.length
    · obtain ⟨x, hx⟩ := get_lt hlt
      obtain ⟨b1, o1, bs1, cs1, f1, rfl, e1, e2, hrx, hcl, _⟩ := h2.get hx
      obtain ⟨z0, z1, z2, rfl⟩ := len3 hcl
      simp only [go_sem, Nat.reduceEqDiff, Nat.reduceAdd, Nat.reduceMul, Nat.reduceLeDiff, Int.reduceEq, Int.reduceLT, Int.reduceLE, Int.reduceAdd, Int.reduceSub, Int.reduceNeg, Int.reduceMul, Int.reduceToNat, Int.cast_ofNat_Int, Int.natCast_zero, Nat.add_zero, reduceCtorEq, g1, g4, g6, g7, g8, hlt, e1, e2, h2.len]
      refine Does.call (does_i_StockDo K hr hrx) ?_
      rintro _ H3 ⟨cs3, F3, rfl, s3, h3⟩
      obtain ⟨w0, w1, rfl⟩ := len2 h3.cells
      have hok := stockOf_ok hs0
      have hmay : stockMay s x = (recOk x && stockMayB s x) := by simp [stockMay, hok]
      have t3 : Step [] H H3 F3 := (hs.with s3).less (by simp)
      simp only [go_sem, Nat.reduceEqDiff, Nat.reduceAdd, Nat.reduceMul, Nat.reduceLeDiff, Int.reduceEq, Int.reduceLT, Int.reduceLE, Int.reduceAdd, Int.reduceSub, Int.reduceNeg, Int.reduceMul, Int.reduceToNat, Int.cast_ofNat_Int, Int.natCast_zero, Nat.add_zero, reduceCtorEq, g1, g4, g6, g7, g8, wrap_succ (show i ≤ lenTop by omega)]
      cases hg : (recOk x && stockMayB s x) with
      | true =>
        rw [stockDoV, if_pos (by rw [hmay, hg])] at h3
        exact hN _ _ (by omega) ⟨i + 1, rfl, by omega, by simp [upd, g1], by simp [upd, g4], by simp [upd], .inl ⟨_, _, F3, stockOf_next hs0 hx hg, by simp [upd, hmay, hg], by simp [upd], rfl, t3, h3⟩⟩
      | false =>
        rw [stockDoV, if_neg (by rw [hmay, hg]; simp)] at h3
        exact hN _ _ (by omega) ⟨i + 1, rfl, by omega, by simp [upd, g1], by simp [upd, g4], by simp [upd], .inr ⟨_, F3, stockOf_fail hs0 hx hg, by simp [upd, hmay, hg], by simp [upd], rfl, t3, h3⟩⟩
    · simp only [go_sem, Nat.reduceEqDiff, Nat.reduceAdd, Nat.reduceMul, Nat.reduceLeDiff, Int.reduceEq, Int.reduceLT, Int.reduceLE, Int.reduceAdd, Int.reduceSub, Int.reduceNeg, Int.reduceMul, Int.reduceToNat, Int.cast_ofNat_Int, Int.natCast_zero, Nat.add_zero, reduceCtorEq, g1, g7, g8, hlt, h2.len]
      refine hE _ _ ?_
      rw [List.take_of_length_le (by omega)] at hs0
      simp only [go_sem, Nat.reduceEqDiff, Nat.reduceAdd, Nat.reduceMul, Nat.reduceLeDiff, Int.reduceEq, Int.reduceLT, Int.reduceLE, Int.reduceAdd, Int.reduceSub, Int.reduceNeg, Int.reduceMul, Int.reduceToNat, Int.cast_ofNat_Int, Int.natCast_zero, Nat.add_zero, reduceCtorEq, g4, g6, g7]
      exact hQ _ _ (Ends.ret rfl ⟨_, F', by simp [tupOf, hs0]; rfl, hs, by simp only [stockD, hs0, Option.getD_some]; exact hr⟩)
  · obtain ⟨y0, y1, rfl⟩ := len2 hcs
    simp only [go_sem, Nat.reduceEqDiff, Nat.reduceAdd, Nat.reduceMul, Nat.reduceLeDiff, Int.reduceEq, Int.reduceLT, Int.reduceLE, Int.reduceAdd, Int.reduceSub, Int.reduceNeg, Int.reduceMul, Int.reduceToNat, Int.cast_ofNat_Int, Int.natCast_zero, Nat.add_zero, reduceCtorEq, g1, g7, g8]
    refine hE _ _ ?_
    simp only [go_sem, Nat.reduceEqDiff, Nat.reduceAdd, Nat.reduceMul, Nat.reduceLeDiff, Int.reduceEq, Int.reduceLT, Int.reduceLE, Int.reduceAdd, Int.reduceSub, Int.reduceNeg, Int.reduceMul, Int.reduceToNat, Int.cast_ofNat_Int, Int.natCast_zero, Nat.add_zero, reduceCtorEq, g4, g6, g7]
    exact hQ _ _ (Ends.ret rfl ⟨_, F', by simp [tupOf, hn]; rfl, hs, by simp only [stockD, hn, Option.getD_none]; exact hr⟩)
end Go.AX

/- Houses: the program and the reference do the same. Condition: the data lie in memory. -/
namespace Go.AX
variable {P : Program} {I : Ids}
theorem rhouse0 {H : Heap} : RHouse H [.int .i64 0, .bool false, .int .i64 0, .nil, .int .i64 0] house0 [] := ⟨.nil, rfl, .nil⟩
theorem does_i_HouseOk (K : Codes P I) {H : Heap} {cs : List C} {h : House} {F : List Nat} (hh : RHouse H cs h F) : Does P I.i_HouseOk [.agg cs] H fun v H' => v = bool (houseOk h) ∧ Step [] H H' [] := by
  obtain ⟨c, rfl, hc⟩ := hh
  refine K.does K.i_HouseOk rfl fun Q hQ => ?_
  simp only [go_sem, Nat.reduceEqDiff, Nat.reduceAdd, Nat.reduceMul, Nat.reduceLeDiff, Int.reduceEq, Int.reduceLT, Int.reduceLE, Int.reduceAdd, Int.reduceSub, Int.reduceNeg, Int.reduceMul, Int.reduceToNat, Int.cast_ofNat_Int, Int.natCast_zero, Nat.add_zero, reduceCtorEq, L_i_HouseOk]
  refine Does.test (does_i_isHouse K) ?_
  cases h1 : inB h.id 1 3 with
  | false =>
    simp only [go_sem, Nat.reduceEqDiff, Nat.reduceAdd, Nat.reduceMul, Nat.reduceLeDiff, Int.reduceEq, Int.reduceLT, Int.reduceLE, Int.reduceAdd, Int.reduceSub, Int.reduceNeg, Int.reduceMul, Int.reduceToNat, Int.cast_ofNat_Int, Int.natCast_zero, Nat.add_zero, reduceCtorEq]
    exact hQ _ _ (Ends.ret rfl ⟨by simp [tupOf, houseOk, h1], Step.refl H⟩)
  | true =>
    simp only [go_sem, Nat.reduceEqDiff, Nat.reduceAdd, Nat.reduceMul, Nat.reduceLeDiff, Int.reduceEq, Int.reduceLT, Int.reduceLE, Int.reduceAdd, Int.reduceSub, Int.reduceNeg, Int.reduceMul, Int.reduceToNat, Int.cast_ofNat_Int, Int.natCast_zero, Nat.add_zero, reduceCtorEq]
    refine Does.test (does_i_LogOk K (show RLog H [c, .int .i64 h.log.forced] h.log F from ⟨c, rfl, hc⟩)) ?_
    cases h2 : logOk h.log with
    | false =>
      simp only [go_sem, Nat.reduceEqDiff, Nat.reduceAdd, Nat.reduceMul, Nat.reduceLeDiff, Int.reduceEq, Int.reduceLT, Int.reduceLE, Int.reduceAdd, Int.reduceSub, Int.reduceNeg, Int.reduceMul, Int.reduceToNat, Int.cast_ofNat_Int, Int.natCast_zero, Nat.add_zero, reduceCtorEq]
      exact hQ _ _ (Ends.ret rfl ⟨by simp [tupOf, houseOk, h2], Step.refl H⟩)
    | true =>
      simp only [go_sem, Nat.reduceEqDiff, Nat.reduceAdd, Nat.reduceMul, Nat.reduceLeDiff, Int.reduceEq, Int.reduceLT, Int.reduceLE, Int.reduceAdd, Int.reduceSub, Int.reduceNeg, Int.reduceMul, Int.reduceToNat, Int.cast_ofNat_Int, Int.natCast_zero, Nat.add_zero, reduceCtorEq]
      refine Does.call (does_i_StockOf K hc) ?_
      rintro _ H1 ⟨cs, F1, rfl, s1, r1⟩
      obtain ⟨x0, x1, rfl⟩ := len2 r1.cells
      simp only [go_sem, Nat.reduceEqDiff, Nat.reduceAdd, Nat.reduceMul, Nat.reduceLeDiff, Int.reduceEq, Int.reduceLT, Int.reduceLE, Int.reduceAdd, Int.reduceSub, Int.reduceNeg, Int.reduceMul, Int.reduceToNat, Int.cast_ofNat_Int, Int.natCast_zero, Nat.add_zero, reduceCtorEq]
      exact hQ _ _ (Ends.ret rfl ⟨by simp [tupOf, houseOk, h1, h2], s1.less (by simp)⟩)
theorem does_s_HouseOk (K : Codes P I) {H : Heap} {cs : List C} {h : House} {F : List Nat} (hh : RHouse H cs h F) : Does P I.s_HouseOk [.agg cs] H fun v H' => v = bool (houseOk h) ∧ Step [] H H' [] := by
  obtain ⟨c, rfl, hc⟩ := hh
  refine K.does K.s_HouseOk rfl fun Q hQ => ?_
  simp only [go_sem, Nat.reduceEqDiff, Nat.reduceAdd, Nat.reduceMul, Nat.reduceLeDiff, Int.reduceEq, Int.reduceLT, Int.reduceLE, Int.reduceAdd, Int.reduceSub, Int.reduceNeg, Int.reduceMul, Int.reduceToNat, Int.cast_ofNat_Int, Int.natCast_zero, Nat.add_zero, reduceCtorEq, L_s_HouseOk]
  refine Does.call (does_s_l2Of K hc) ?_
  rintro _ H1 ⟨cs, F1, rfl, s1, r1⟩
  replace s1 : Step [] H H1 F1 := s1
  have s1' : Step [] H H1 [] := s1.less (by simp)
  obtain ⟨x0, x1, rfl⟩ := len2 r1.cells
  simp only [go_sem, Nat.reduceEqDiff, Nat.reduceAdd, Nat.reduceMul, Nat.reduceLeDiff, Int.reduceEq, Int.reduceLT, Int.reduceLE, Int.reduceAdd, Int.reduceSub, Int.reduceNeg, Int.reduceMul, Int.reduceToNat, Int.cast_ofNat_Int, Int.natCast_zero, Nat.add_zero, reduceCtorEq]
  refine Does.test (does_s_l6In K) ?_
  cases h1 : inB h.id 1 3 with
  | false =>
    simp only [go_sem, Nat.reduceEqDiff, Nat.reduceAdd, Nat.reduceMul, Nat.reduceLeDiff, Int.reduceEq, Int.reduceLT, Int.reduceLE, Int.reduceAdd, Int.reduceSub, Int.reduceNeg, Int.reduceMul, Int.reduceToNat, Int.cast_ofNat_Int, Int.natCast_zero, Nat.add_zero, reduceCtorEq]
    exact hQ _ _ (Ends.ret rfl ⟨by simp [tupOf, houseOk, h1], s1'⟩)
  | true =>
    simp only [go_sem, Nat.reduceEqDiff, Nat.reduceAdd, Nat.reduceMul, Nat.reduceLeDiff, Int.reduceEq, Int.reduceLT, Int.reduceLE, Int.reduceAdd, Int.reduceSub, Int.reduceNeg, Int.reduceMul, Int.reduceToNat, Int.cast_ofNat_Int, Int.natCast_zero, Nat.add_zero, reduceCtorEq]
    refine Does.test (does_s_LogOk K (show RLog H1 [c, .int .i64 h.log.forced] h.log F from ⟨c, rfl, s1.keepSl RRec.good hc fun b _ => by simp⟩)) ?_
    cases h2 : logOk h.log with
    | false =>
      simp only [go_sem, Nat.reduceEqDiff, Nat.reduceAdd, Nat.reduceMul, Nat.reduceLeDiff, Int.reduceEq, Int.reduceLT, Int.reduceLE, Int.reduceAdd, Int.reduceSub, Int.reduceNeg, Int.reduceMul, Int.reduceToNat, Int.cast_ofNat_Int, Int.natCast_zero, Nat.add_zero, reduceCtorEq]
      exact hQ _ _ (Ends.ret rfl ⟨by simp [tupOf, houseOk, h2], s1'⟩)
    | true =>
      simp only [go_sem, Nat.reduceEqDiff, Nat.reduceAdd, Nat.reduceMul, Nat.reduceLeDiff, Int.reduceEq, Int.reduceLT, Int.reduceLE, Int.reduceAdd, Int.reduceSub, Int.reduceNeg, Int.reduceMul, Int.reduceToNat, Int.cast_ofNat_Int, Int.natCast_zero, Nat.add_zero, reduceCtorEq]
      exact hQ _ _ (Ends.ret rfl ⟨by simp [tupOf, houseOk, h1, h2], s1'⟩)
theorem does_i_Log_known (K : Codes P I) {H : Heap} {cs : List C} {l : Log} {F : List Nat} {f : Bool} (h : RLog H cs l F) (hok : logOk l = true) : Does P I.i_Log_known [.agg cs, .c (.bool f)] H fun v H' => ∃ c' F', v = .val (.c c') ∧ H' = H ∧ Recs H' c' (known l f) F' := by
  obtain ⟨c, rfl, hc⟩ := h
  refine K.does K.i_Log_known rfl fun Q hQ => ?_
  obtain ⟨h1, h2, h3, h4⟩ := logOk_parts hok
  cases f with
  | false =>
    simp only [go_sem, Nat.reduceEqDiff, Nat.reduceAdd, Nat.reduceMul, Nat.reduceLeDiff, Int.reduceEq, Int.reduceLT, Int.reduceLE, Int.reduceAdd, Int.reduceSub, Int.reduceNeg, Int.reduceMul, Int.reduceToNat, Int.cast_ofNat_Int, Int.natCast_zero, Nat.add_zero, reduceCtorEq, L_i_Log_known]
    exact hQ _ _ (Ends.ret rfl ⟨c, F, rfl, rfl, hc⟩)
  | true =>
    obtain ⟨c', F', hs, hc', _⟩ := slc_take hc (k := l.forced.toNat) (by omega)
    rw [show ((l.forced.toNat : Nat) : Int) = l.forced by omega] at hs
    simp only [go_sem, Nat.reduceEqDiff, Nat.reduceAdd, Nat.reduceMul, Nat.reduceLeDiff, Int.reduceEq, Int.reduceLT, Int.reduceLE, Int.reduceAdd, Int.reduceSub, Int.reduceNeg, Int.reduceMul, Int.reduceToNat, Int.cast_ofNat_Int, Int.natCast_zero, Nat.add_zero, reduceCtorEq, L_i_Log_known, hs]
    exact hQ _ _ (Ends.ret rfl ⟨c', F', rfl, rfl, hc'⟩)
theorem does_i_House_stock (K : Codes P I) {H : Heap} {cs : List C} {h : House} {F : List Nat} {f : Bool} (hh : RHouse H cs h F) (hok : logOk h.log = true) : Does P I.i_House_stock [.agg cs, .c (.bool f)] H fun v H' => ∃ cs' F', v = .val (.agg cs') ∧ Step [] H H' F' ∧ RStock H' cs' (stockV h f) F' := by
  obtain ⟨c, rfl, hc⟩ := hh
  refine K.does K.i_House_stock rfl fun Q hQ => ?_
  simp only [go_sem, Nat.reduceEqDiff, Nat.reduceAdd, Nat.reduceMul, Nat.reduceLeDiff, Int.reduceEq, Int.reduceLT, Int.reduceLE, Int.reduceAdd, Int.reduceSub, Int.reduceNeg, Int.reduceMul, Int.reduceToNat, Int.cast_ofNat_Int, Int.natCast_zero, Nat.add_zero, reduceCtorEq, L_i_House_stock]
  refine Does.call (does_i_Log_known K (show RLog H [c, .int .i64 h.log.forced] h.log F from ⟨c, rfl, hc⟩) hok) ?_
  rintro _ _ ⟨c', F', rfl, rfl, hc'⟩
  simp only [go_sem, Nat.reduceEqDiff, Nat.reduceAdd, Nat.reduceMul, Nat.reduceLeDiff, Int.reduceEq, Int.reduceLT, Int.reduceLE, Int.reduceAdd, Int.reduceSub, Int.reduceNeg, Int.reduceMul, Int.reduceToNat, Int.cast_ofNat_Int, Int.natCast_zero, Nat.add_zero, reduceCtorEq]
  refine Does.call (does_i_StockOf K hc') ?_
  rintro _ H1 ⟨cs1, F1, rfl, s1, r1⟩
  obtain ⟨x0, x1, rfl⟩ := len2 r1.cells
  simp only [go_sem, Nat.reduceEqDiff, Nat.reduceAdd, Nat.reduceMul, Nat.reduceLeDiff, Int.reduceEq, Int.reduceLT, Int.reduceLE, Int.reduceAdd, Int.reduceSub, Int.reduceNeg, Int.reduceMul, Int.reduceToNat, Int.cast_ofNat_Int, Int.natCast_zero, Nat.add_zero, reduceCtorEq]
  exact hQ _ _ (Ends.ret rfl ⟨_, F1, rfl, s1, r1⟩)
theorem does_s_l11Stock (K : Codes P I) {H : Heap} {cs : List C} {h : House} {F : List Nat} {f : Bool} (hh : RHouse H cs h F) (hok : logOk h.log = true) : Does P I.s_l11Stock [.agg cs, .c (.bool f)] H fun v H' => ∃ cs' F', v = .val (.agg cs') ∧ Step [] H H' F' ∧ RStock H' cs' (stockV h f) F' := by
  obtain ⟨c, rfl, hc⟩ := hh
  refine K.does K.s_l11Stock rfl fun Q hQ => ?_
  obtain ⟨h1, h2, h3, h4⟩ := logOk_parts hok
  cases f with
  | false =>
    obtain ⟨c', F', hs, hc', _⟩ := slc_take hc (k := h.log.recs.length) (Nat.le_refl _)
    rw [List.take_length] at hc'
    simp only [go_sem, Nat.reduceEqDiff, Nat.reduceAdd, Nat.reduceMul, Nat.reduceLeDiff, Int.reduceEq, Int.reduceLT, Int.reduceLE, Int.reduceAdd, Int.reduceSub, Int.reduceNeg, Int.reduceMul, Int.reduceToNat, Int.cast_ofNat_Int, Int.natCast_zero, Nat.add_zero, reduceCtorEq, L_s_l11Stock, hc.len, hs]
    refine Does.call (does_s_l2Of K hc') ?_
    rintro _ H1 ⟨cs1, F1, rfl, s1, r1⟩
    obtain ⟨x0, x1, rfl⟩ := len2 r1.cells
    simp only [go_sem, Nat.reduceEqDiff, Nat.reduceAdd, Nat.reduceMul, Nat.reduceLeDiff, Int.reduceEq, Int.reduceLT, Int.reduceLE, Int.reduceAdd, Int.reduceSub, Int.reduceNeg, Int.reduceMul, Int.reduceToNat, Int.cast_ofNat_Int, Int.natCast_zero, Nat.add_zero, reduceCtorEq]
    exact hQ _ _ (Ends.ret rfl ⟨_, F1, rfl, s1, r1⟩)
  | true =>
    obtain ⟨c', F', hs, hc', _⟩ := slc_take hc (k := h.log.forced.toNat) (by omega)
    rw [show ((h.log.forced.toNat : Nat) : Int) = h.log.forced by omega] at hs
    simp only [go_sem, Nat.reduceEqDiff, Nat.reduceAdd, Nat.reduceMul, Nat.reduceLeDiff, Int.reduceEq, Int.reduceLT, Int.reduceLE, Int.reduceAdd, Int.reduceSub, Int.reduceNeg, Int.reduceMul, Int.reduceToNat, Int.cast_ofNat_Int, Int.natCast_zero, Nat.add_zero, reduceCtorEq, L_s_l11Stock, hc.len, hs]
    refine Does.call (does_s_l2Of K hc') ?_
    rintro _ H1 ⟨cs1, F1, rfl, s1, r1⟩
    obtain ⟨x0, x1, rfl⟩ := len2 r1.cells
    simp only [go_sem, Nat.reduceEqDiff, Nat.reduceAdd, Nat.reduceMul, Nat.reduceLeDiff, Int.reduceEq, Int.reduceLT, Int.reduceLE, Int.reduceAdd, Int.reduceSub, Int.reduceNeg, Int.reduceMul, Int.reduceToNat, Int.cast_ofNat_Int, Int.natCast_zero, Nat.add_zero, reduceCtorEq]
    exact hQ _ _ (Ends.ret rfl ⟨_, F1, rfl, s1, r1⟩)
theorem does_i_HouseStock (K : Codes P I) {H : Heap} {cs : List C} {h : House} {F : List Nat} {f : Bool} (hh : RHouse H cs h F) : Does P I.i_HouseStock [.agg cs, .c (.bool f)] H fun v H' => ∃ cs' F', v = .val (.agg cs') ∧ Step [] H H' F' ∧ RStock H' cs' (houseStockV h f) F' := by
  obtain ⟨x0, x1, x2, x3, x4, rfl⟩ := len5 hh.cells
  refine K.does K.i_HouseStock rfl fun Q hQ => ?_
  simp only [go_sem, Nat.reduceEqDiff, Nat.reduceAdd, Nat.reduceMul, Nat.reduceLeDiff, Int.reduceEq, Int.reduceLT, Int.reduceLE, Int.reduceAdd, Int.reduceSub, Int.reduceNeg, Int.reduceMul, Int.reduceToNat, Int.cast_ofNat_Int, Int.natCast_zero, Nat.add_zero, reduceCtorEq, L_i_HouseStock]
  refine Does.call (does_i_HouseOk K hh) ?_
  rintro _ H1 ⟨rfl, s1⟩
  replace s1 : Step [] H H1 [] := s1
  cases hok : houseOk h with
  | false =>
    simp only [go_sem, Nat.reduceEqDiff, Nat.reduceAdd, Nat.reduceMul, Nat.reduceLeDiff, Int.reduceEq, Int.reduceLT, Int.reduceLE, Int.reduceAdd, Int.reduceSub, Int.reduceNeg, Int.reduceMul, Int.reduceToNat, Int.cast_ofNat_Int, Int.natCast_zero, Nat.add_zero, reduceCtorEq]
    exact hQ _ _ (Ends.ret rfl ⟨_, [], rfl, s1, by simp only [houseStockV, hok]; exact rstock0⟩)
  | true =>
    simp only [go_sem, Nat.reduceEqDiff, Nat.reduceAdd, Nat.reduceMul, Nat.reduceLeDiff, Int.reduceEq, Int.reduceLT, Int.reduceLE, Int.reduceAdd, Int.reduceSub, Int.reduceNeg, Int.reduceMul, Int.reduceToNat, Int.cast_ofNat_Int, Int.natCast_zero, Nat.add_zero, reduceCtorEq]
    refine Does.call (does_i_House_stock K (s1.stay RHouse.good hh) (houseOk_parts hok).2.1) ?_
    rintro _ H2 ⟨cs2, F2, rfl, s2, r2⟩
    obtain ⟨y0, y1, rfl⟩ := len2 r2.cells
    simp only [go_sem, Nat.reduceEqDiff, Nat.reduceAdd, Nat.reduceMul, Nat.reduceLeDiff, Int.reduceEq, Int.reduceLT, Int.reduceLE, Int.reduceAdd, Int.reduceSub, Int.reduceNeg, Int.reduceMul, Int.reduceToNat, Int.cast_ofNat_Int, Int.natCast_zero, Nat.add_zero, reduceCtorEq]
    exact hQ _ _ (Ends.ret rfl ⟨_, F2, rfl, s1.with s2, by simp only [houseStockV, hok, if_true]; exact r2⟩)
theorem does_s_HouseStock (K : Codes P I) {H : Heap} {cs : List C} {h : House} {F : List Nat} {f : Bool} (hh : RHouse H cs h F) : Does P I.s_HouseStock [.agg cs, .c (.bool f)] H fun v H' => ∃ cs' F', v = .val (.agg cs') ∧ Step [] H H' F' ∧ RStock H' cs' (houseStockV h f) F' := by
  obtain ⟨x0, x1, x2, x3, x4, rfl⟩ := len5 hh.cells
  refine K.does K.s_HouseStock rfl fun Q hQ => ?_
  simp only [go_sem, Nat.reduceEqDiff, Nat.reduceAdd, Nat.reduceMul, Nat.reduceLeDiff, Int.reduceEq, Int.reduceLT, Int.reduceLE, Int.reduceAdd, Int.reduceSub, Int.reduceNeg, Int.reduceMul, Int.reduceToNat, Int.cast_ofNat_Int, Int.natCast_zero, Nat.add_zero, reduceCtorEq, L_s_HouseStock]
  refine Does.call (does_s_HouseOk K hh) ?_
  rintro _ H1 ⟨rfl, s1⟩
  replace s1 : Step [] H H1 [] := s1
  cases hok : houseOk h with
  | false =>
    simp only [go_sem, Nat.reduceEqDiff, Nat.reduceAdd, Nat.reduceMul, Nat.reduceLeDiff, Int.reduceEq, Int.reduceLT, Int.reduceLE, Int.reduceAdd, Int.reduceSub, Int.reduceNeg, Int.reduceMul, Int.reduceToNat, Int.cast_ofNat_Int, Int.natCast_zero, Nat.add_zero, reduceCtorEq]
    exact hQ _ _ (Ends.ret rfl ⟨_, [], rfl, s1, by simp only [houseStockV, hok]; exact rstock0⟩)
  | true =>
    simp only [go_sem, Nat.reduceEqDiff, Nat.reduceAdd, Nat.reduceMul, Nat.reduceLeDiff, Int.reduceEq, Int.reduceLT, Int.reduceLE, Int.reduceAdd, Int.reduceSub, Int.reduceNeg, Int.reduceMul, Int.reduceToNat, Int.cast_ofNat_Int, Int.natCast_zero, Nat.add_zero, reduceCtorEq]
    refine Does.call (does_s_l11Stock K (s1.stay RHouse.good hh) (houseOk_parts hok).2.1) ?_
    rintro _ H2 ⟨cs2, F2, rfl, s2, r2⟩
    obtain ⟨y0, y1, rfl⟩ := len2 r2.cells
    simp only [go_sem, Nat.reduceEqDiff, Nat.reduceAdd, Nat.reduceMul, Nat.reduceLeDiff, Int.reduceEq, Int.reduceLT, Int.reduceLE, Int.reduceAdd, Int.reduceSub, Int.reduceNeg, Int.reduceMul, Int.reduceToNat, Int.cast_ofNat_Int, Int.natCast_zero, Nat.add_zero, reduceCtorEq]
    exact hQ _ _ (Ends.ret rfl ⟨_, F2, rfl, s1.with s2, by simp only [houseStockV, hok, if_true]; exact r2⟩)
theorem does_i_House_copied (K : Codes P I) {H : Heap} {cs : List C} {h : House} {F : List Nat} (hh : RHouse H cs h F) (hm : Small h.log) : Does P I.i_House_copied [.agg cs] H fun v H' => ∃ cs' F', v = .val (.agg cs') ∧ Step [] H H' F' ∧ RHouse H' cs' h F' := by
  obtain ⟨c, rfl, hc⟩ := hh
  refine K.does K.i_House_copied rfl fun Q hQ => ?_
  simp only [go_sem, Nat.reduceEqDiff, Nat.reduceAdd, Nat.reduceMul, Nat.reduceLeDiff, Int.reduceEq, Int.reduceLT, Int.reduceLE, Int.reduceAdd, Int.reduceSub, Int.reduceNeg, Int.reduceMul, Int.reduceToNat, Int.cast_ofNat_Int, Int.natCast_zero, Nat.add_zero, reduceCtorEq, L_i_House_copied]
  refine Does.call (does_i_Log_copied K (show RLog H [c, .int .i64 h.log.forced] h.log F from ⟨c, rfl, hc⟩) hm) ?_
  rintro _ H1 ⟨cs1, F1, rfl, s1, c1, rfl, h1⟩
  simp only [go_sem, Nat.reduceEqDiff, Nat.reduceAdd, Nat.reduceMul, Nat.reduceLeDiff, Int.reduceEq, Int.reduceLT, Int.reduceLE, Int.reduceAdd, Int.reduceSub, Int.reduceNeg, Int.reduceMul, Int.reduceToNat, Int.cast_ofNat_Int, Int.natCast_zero, Nat.add_zero, reduceCtorEq]
  exact hQ _ _ (Ends.ret rfl ⟨_, F1, rfl, s1, c1, rfl, h1⟩)
theorem does_i_HouseForce (K : Codes P I) {H : Heap} {cs : List C} {h : House} {F : List Nat} (hh : RHouse H cs h F) : Does P I.i_HouseForce [.agg cs] H fun v H' => ∃ cs' F', v = .val (.agg cs') ∧ Step [] H H' F' ∧ RHouse H' cs' (houseForceV h) F' := by
  obtain ⟨x0, x1, x2, x3, x4, rfl⟩ := len5 hh.cells
  refine K.does K.i_HouseForce rfl fun Q hQ => ?_
  simp only [go_sem, Nat.reduceEqDiff, Nat.reduceAdd, Nat.reduceMul, Nat.reduceLeDiff, Int.reduceEq, Int.reduceLT, Int.reduceLE, Int.reduceAdd, Int.reduceSub, Int.reduceNeg, Int.reduceMul, Int.reduceToNat, Int.cast_ofNat_Int, Int.natCast_zero, Nat.add_zero, reduceCtorEq, L_i_HouseForce]
  refine Does.call (does_i_HouseOk K hh) ?_
  rintro _ H1 ⟨rfl, s1⟩
  replace s1 : Step [] H H1 [] := s1
  cases hok : houseOk h with
  | false =>
    simp only [go_sem, Nat.reduceEqDiff, Nat.reduceAdd, Nat.reduceMul, Nat.reduceLeDiff, Int.reduceEq, Int.reduceLT, Int.reduceLE, Int.reduceAdd, Int.reduceSub, Int.reduceNeg, Int.reduceMul, Int.reduceToNat, Int.cast_ofNat_Int, Int.natCast_zero, Nat.add_zero, reduceCtorEq]
    exact hQ _ _ (Ends.ret rfl ⟨_, [], rfl, s1, by simp only [houseForceV, hok]; exact rhouse0⟩)
  | true =>
    have hlok := (houseOk_parts hok).2.1
    simp only [go_sem, Nat.reduceEqDiff, Nat.reduceAdd, Nat.reduceMul, Nat.reduceLeDiff, Int.reduceEq, Int.reduceLT, Int.reduceLE, Int.reduceAdd, Int.reduceSub, Int.reduceNeg, Int.reduceMul, Int.reduceToNat, Int.cast_ofNat_Int, Int.natCast_zero, Nat.add_zero, reduceCtorEq]
    refine Does.call (does_i_House_copied K (s1.stay RHouse.good hh) (logOk_small hlok)) ?_
    rintro _ H2 ⟨cs2, F2, rfl, s2, c2, rfl, h2⟩
    replace s2 : Step [] H1 H2 F2 := s2
    cases hup : h.up with
    | true =>
      simp only [go_sem, Nat.reduceEqDiff, Nat.reduceAdd, Nat.reduceMul, Nat.reduceLeDiff, Int.reduceEq, Int.reduceLT, Int.reduceLE, Int.reduceAdd, Int.reduceSub, Int.reduceNeg, Int.reduceMul, Int.reduceToNat, Int.cast_ofNat_Int, Int.natCast_zero, Nat.add_zero, reduceCtorEq, hup]
      refine Does.call (does_i_LogForce K (show RLog H2 [c2, .int .i64 h.log.forced] h.log F2 from ⟨c2, rfl, h2⟩)) ?_
      rintro _ H3 ⟨cs3, F3, rfl, s3, c3, rfl, h3⟩
      rw [forceV_ok hlok] at h3
      simp only [go_sem, Nat.reduceEqDiff, Nat.reduceAdd, Nat.reduceMul, Nat.reduceLeDiff, Int.reduceEq, Int.reduceLT, Int.reduceLE, Int.reduceAdd, Int.reduceSub, Int.reduceNeg, Int.reduceMul, Int.reduceToNat, Int.cast_ofNat_Int, Int.natCast_zero, Nat.add_zero, reduceCtorEq, hup, forceV_ok hlok]
      exact hQ _ _ (Ends.ret rfl ⟨[.int .i64 h.id, .bool true, .int .i64 h.room, c3, .int .i64 (forceL h.log).forced], F3, rfl, ((s1.with s2).with s3).less (by simp), c3, by simp [houseForceV, hok, hup], by simpa [houseForceV, hok, hup] using h3⟩)
    | false =>
      simp only [go_sem, Nat.reduceEqDiff, Nat.reduceAdd, Nat.reduceMul, Nat.reduceLeDiff, Int.reduceEq, Int.reduceLT, Int.reduceLE, Int.reduceAdd, Int.reduceSub, Int.reduceNeg, Int.reduceMul, Int.reduceToNat, Int.cast_ofNat_Int, Int.natCast_zero, Nat.add_zero, reduceCtorEq, hup]
      exact hQ _ _ (Ends.ret rfl ⟨[.int .i64 h.id, .bool false, .int .i64 h.room, c2, .int .i64 h.log.forced], F2, rfl, s1.with s2, c2, by simp [houseForceV, hok, hup], by simpa [houseForceV, hok, hup] using h2⟩)
end Go.AX

/- The exact laws of trips hold. Condition: the arguments lie in memory. -/
namespace Go.AX
variable {P : Program} {I : Ids}
theorem cnt_trips {l : List Trip} (h : tripsOk l = true) : sumL cntTrip l ≤ 4194304 := by
  obtain ⟨h1, h2⟩ := tripsOk_parts h
  have := sumL_bound (f := cntTrip) (xs := l) (N := 4) fun t ht => by
    have := manyOk_len (h2 t ht).1
    simp only [cntTrip, sumL_one]; omega
  have : l.length * 4 ≤ 6 * 4 := Nat.mul_le_mul_right _ h1
  omega
theorem tripsDoV_ok (l : List Trip) (r : Rec) : tripsOk (tripsDoV l r) = true := by
  unfold tripsDoV; split
  · rename_i h
    simp only [tripsMay, Bool.and_eq_true] at h
    exact tripsOk_do h.1 h.2.1 h.2.2
  · rfl
theorem tripsD_ok (recs : List Rec) : tripsOk (tripsD recs) = true := by
  unfold tripsD
  cases h : tripsOf recs with
  | none => rfl
  | some l => exact tripsOf_ok h
end Go.AX

/- Draws: trips and records of a desk. Condition: the reader lies in memory, and drew less often than 2^39. -/
namespace Go.AX
variable {P : Program} {I : Ids}
end Go.AX

/- Draws: houses. Condition: the reader lies in memory, and drew less often than 2^39. -/
namespace Go.AX
variable {P : Program} {I : Ids}
theorem does_s_l2Copy (K : Codes P I) {H : Heap} {cs : List C} {s : Stock} {F : List Nat} (h : RStock H cs s F) (hm : s.holds.length ≤ 64) : Does P I.s_l2Copy [.agg cs] H fun v H' => ∃ cs' F', v = .val (.agg cs') ∧ Step [] H H' F' ∧ RStock H' cs' s F' := by
  obtain ⟨c, rfl, hc⟩ := h
  refine K.does K.s_l2Copy rfl fun Q hQ => ?_
  obtain ⟨cells, c1, H1, f, he, ha, hc1, s1⟩ := copy_flat RHold.good RHold.flat (by decide) hc (by unfold lenMax; omega)
  simp only [go_sem, Nat.reduceEqDiff, Nat.reduceAdd, Nat.reduceMul, Nat.reduceLeDiff, Int.reduceEq, Int.reduceLT, Int.reduceLE, Int.reduceAdd, Int.reduceSub, Int.reduceNeg, Int.reduceMul, Int.reduceToNat, Int.cast_ofNat_Int, Int.natCast_zero, Nat.add_zero, reduceCtorEq, L_s_l2Copy, he, ha]
  exact hQ _ _ (Ends.ret rfl ⟨_, f, rfl, s1, c1, rfl, hc1⟩)
theorem does_s_StockDo (K : Codes P I) {H : Heap} {cs ds : List C} {s : Stock} {r : Rec} {F G : List Nat} (h : RStock H cs s F) (hr : RRec H ds r G) : Does P I.s_StockDo [.agg cs, .agg ds] H fun v H' => ∃ cs' F', v = .tup [.agg cs', .c (.bool (stockMay s r))] ∧ Step [] H H' F' ∧ RStock H' cs' (stockDoV s r) F' := by
  obtain ⟨x0, x1, rfl⟩ := len2 h.cells
  obtain ⟨y0, y1, y2, rfl⟩ := len3 hr.cells
  refine K.does K.s_StockDo rfl fun Q hQ => ?_
  simp only [go_sem, Nat.reduceEqDiff, Nat.reduceAdd, Nat.reduceMul, Nat.reduceLeDiff, Int.reduceEq, Int.reduceLT, Int.reduceLE, Int.reduceAdd, Int.reduceSub, Int.reduceNeg, Int.reduceMul, Int.reduceToNat, Int.cast_ofNat_Int, Int.natCast_zero, Nat.add_zero, reduceCtorEq, L_s_StockDo]
  refine Does.test (does_s_StockMay K h hr) ?_
  cases hmay : stockMay s r with
  | false =>
    simp only [go_sem, Nat.reduceEqDiff, Nat.reduceAdd, Nat.reduceMul, Nat.reduceLeDiff, Int.reduceEq, Int.reduceLT, Int.reduceLE, Int.reduceAdd, Int.reduceSub, Int.reduceNeg, Int.reduceMul, Int.reduceToNat, Int.cast_ofNat_Int, Int.natCast_zero, Nat.add_zero, reduceCtorEq]
    exact hQ _ _ (Ends.ret rfl ⟨[.int .i64 0, .nil], [], by simp [tupOf, hmay], Step.refl H, by rw [stockDoV, if_neg (by simp [hmay])]; exact rstock0⟩)
  | true =>
    have hmay2 := hmay
    simp only [stockMay, Bool.and_eq_true] at hmay2
    obtain ⟨hok, hrk, hmb⟩ := hmay2
    have hlen := (stockOk_parts hok).2.1
    simp only [go_sem, Nat.reduceEqDiff, Nat.reduceAdd, Nat.reduceMul, Nat.reduceLeDiff, Int.reduceEq, Int.reduceLT, Int.reduceLE, Int.reduceAdd, Int.reduceSub, Int.reduceNeg, Int.reduceMul, Int.reduceToNat, Int.cast_ofNat_Int, Int.natCast_zero, Nat.add_zero, reduceCtorEq]
    refine Does.call (does_s_l2Copy K h (by omega)) ?_
    rintro _ H1 ⟨cs1, F1, rfl, s1, h1⟩
    simp only [go_sem, Nat.reduceEqDiff, Nat.reduceAdd, Nat.reduceMul, Nat.reduceLeDiff, Int.reduceEq, Int.reduceLT, Int.reduceLE, Int.reduceAdd, Int.reduceSub, Int.reduceNeg, Int.reduceMul, Int.reduceToNat, Int.cast_ofNat_Int, Int.natCast_zero, Nat.add_zero, reduceCtorEq]
    refine Does.call (does_s_l2Do K h1 s1.owned (s1.stay RRec.good hr) hok hrk hmb) ?_
    rintro _ H2 ⟨cs2, rfl, s2, h2⟩
    obtain ⟨z0, z1, rfl⟩ := len2 h2.cells
    simp only [go_sem, Nat.reduceEqDiff, Nat.reduceAdd, Nat.reduceMul, Nat.reduceLeDiff, Int.reduceEq, Int.reduceLT, Int.reduceLE, Int.reduceAdd, Int.reduceSub, Int.reduceNeg, Int.reduceMul, Int.reduceToNat, Int.cast_ofNat_Int, Int.natCast_zero, Nat.add_zero, reduceCtorEq]
    exact hQ _ _ (Ends.ret rfl ⟨[z0, z1], F1, by simp [tupOf, hmay], s1.trans s2, by rw [stockDoV, if_pos hmay]; exact h2⟩)
set_option maxHeartbeats 1000000 in
theorem draws_l71Recs (K : Codes P I) {H : Heap} {b q : Nat} (h : RdM H b q) (hq : q < 549755812000) :
    Does P I.s_l71Recs [.c (.ptr b 0)] H fun v H' => ∃ room c xs F, v = .tup [int room, .c c] ∧ Dr b (q + 100) H H' F ∧ Recs H' c xs F ∧ xs.length ≤ 14 ∧ ∀ r ∈ xs, r.many.length ≤ 3 := by
  have hb0 := h.lt
  refine K.does K.s_l71Recs rfl fun Q hQ => ?_
  simp only [go_sem, Nat.reduceEqDiff, Nat.reduceAdd, Nat.reduceMul, Nat.reduceLeDiff, Int.reduceEq, Int.reduceLT, Int.reduceLE, Int.reduceAdd, Int.reduceSub, Int.reduceNeg, Int.reduceMul, Int.reduceToNat, Int.cast_ofNat_Int, Int.natCast_zero, Nat.add_zero, reduceCtorEq, L_s_l71Recs]
  refine Does.call (draws_pick K h (by omega)) ?_
  rintro _ H1 ⟨k1, rfl, e1, s1, r1⟩
  replace s1 : Step [b] H H1 [b] := s1
  have d1 : Dr b (q + 1) H H1 [] := (Dr.zero h).pick s1 r1
  simp only [go_sem, Nat.reduceEqDiff, Nat.reduceAdd, Nat.reduceMul, Nat.reduceLeDiff, Int.reduceEq, Int.reduceLT, Int.reduceLE, Int.reduceAdd, Int.reduceSub, Int.reduceNeg, Int.reduceMul, Int.reduceToNat, Int.cast_ofNat_Int, Int.natCast_zero, Nat.add_zero, reduceCtorEq]
  refine Does.call (does_s_StockNew K) ?_
  rintro _ H2 ⟨cs2, F2, rfl, s2, h2⟩
  obtain ⟨y0, y1, rfl⟩ := len2 h2.cells
  have d2 := d1.new s2
  simp only [go_sem, Nat.reduceEqDiff, Nat.reduceAdd, Nat.reduceMul, Nat.reduceLeDiff, Int.reduceEq, Int.reduceLT, Int.reduceLE, Int.reduceAdd, Int.reduceSub, Int.reduceNeg, Int.reduceMul, Int.reduceToNat, Int.cast_ofNat_Int, Int.natCast_zero, Nat.add_zero, reduceCtorEq]
  refine Does.call (draws_pick K d2.rd (by omega)) ?_
  rintro _ H3 ⟨k3, rfl, e3, s3, r3⟩
  obtain ⟨n0, rfl, hn0⟩ := e3.nat (by decide)
  have d3 := d2.pick s3 r3
  have h3 := d2.keep RStock.good (show RStock H2 [y0, y1] (stockNewV k1) ([] ++ F2) from h2) s3
  simp only [go_sem, Nat.reduceEqDiff, Nat.reduceAdd, Nat.reduceMul, Nat.reduceLeDiff, Int.reduceEq, Int.reduceLT, Int.reduceLE, Int.reduceAdd, Int.reduceSub, Int.reduceNeg, Int.reduceMul, Int.reduceToNat, Int.cast_ofNat_Int, Int.natCast_zero, Nat.add_zero, reduceCtorEq]
  refine RU_loop (fun m t => m < 14 ∧ t.env 0 = .val (.c (.ptr b 0)) ∧ t.env 4 = .val (int k1) ∧ t.env 8 = .val (int m) ∧ ∃ co out Fo cs s Fs, t.env 5 = .val (.c co) ∧ t.env 6 = .box cs ∧ cs.length = 2 ∧ Dr b (q + 2 + 4 * (14 - m)) H t.H (Fo ++ Fs) ∧ Recs t.H co out Fo ∧ RStock t.H cs s Fs ∧ out.length + m ≤ 14 ∧ (∀ r ∈ out, r.many.length ≤ 3)) n0
    ⟨by omega, rfl, rfl, rfl, _, [], [], _, _, F2, rfl, rfl, rfl, d3.mono (by omega), .emp, h3, by simp; omega, by simp⟩ ?_
  rintro m t ⟨hm, g0, g4, g8, co, out, Fo, cs, s, Fs, g5, g6, hcs, d, ho, hs, hlen, hmany⟩ Q' hN hE hR
  obtain ⟨z0, z1, rfl⟩ := len2 hcs
  by_cases hc : (0 : Int) < m
  · have hw : IntKind.wrap .i64 ((m : Int) - 1) = ((m - 1 : Nat) : Int) := by rw [wrap_i64 (by omega) (by omega)]; omega
    simp only [go_sem, Nat.reduceEqDiff, Nat.reduceAdd, Nat.reduceMul, Nat.reduceLeDiff, Int.reduceEq, Int.reduceLT, Int.reduceLE, Int.reduceAdd, Int.reduceSub, Int.reduceNeg, Int.reduceMul, Int.reduceToNat, Int.cast_ofNat_Int, Int.natCast_zero, Nat.add_zero, reduceCtorEq, g0, g4, g5, g6, g8, hc]
    refine Does.call (draws_pick K d.rd (by omega)) ?_
    rintro _ H4 ⟨k4, rfl, e4, s4, r4⟩
    have d4 := d.pick s4 r4
    have ho4 := s4.keepSl RRec.good ho fun k hk => d.disj k (by simp [hk])
    have hs4 := s4.keep RStock.good hs fun k hk => d.disj k (by simp [hk])
    simp only [go_sem, Nat.reduceEqDiff, Nat.reduceAdd, Nat.reduceMul, Nat.reduceLeDiff, Int.reduceEq, Int.reduceLT, Int.reduceLE, Int.reduceAdd, Int.reduceSub, Int.reduceNeg, Int.reduceMul, Int.reduceToNat, Int.cast_ofNat_Int, Int.natCast_zero, Nat.add_zero, reduceCtorEq, g0, g4, g5, g6, g8]
    refine Does.call (draws_pick K d4.rd (by omega)) ?_
    rintro _ H5 ⟨k5, rfl, e5, s5, r5⟩
    have d5 := d4.pick s5 r5
    have ho5 := s5.keepSl RRec.good ho4 fun k hk => d4.disj k (by simp [hk])
    have hs5 := s5.keep RStock.good hs4 fun k hk => d4.disj k (by simp [hk])
    by_cases k1' : IntKind.wrap .i64 (1 + k4) = 1
    · simp only [go_sem, Nat.reduceEqDiff, Nat.reduceAdd, Nat.reduceMul, Nat.reduceLeDiff, Int.reduceEq, Int.reduceLT, Int.reduceLE, Int.reduceAdd, Int.reduceSub, Int.reduceNeg, Int.reduceMul, Int.reduceToNat, Int.cast_ofNat_Int, Int.natCast_zero, Nat.add_zero, reduceCtorEq, g0, g4, g5, g6, g8, k1']
      refine Does.call (draws_pick K d5.rd (by omega)) ?_
      rintro _ H6 ⟨k6, rfl, e6, s6, r6⟩
      have d6 := d5.pick s6 r6
      have ho6 := s6.keepSl RRec.good ho5 fun k hk => d5.disj k (by simp [hk])
      have hs6 := s6.keep RStock.good hs5 fun k hk => d5.disj k (by simp [hk])
      have hi := ints_new (H := H6) [IntKind.wrap .i64 (1 + k6)] rfl (by simp [lenTop])
      have s7 := step_new (H := H6) (n := 1) (cs := [.int .i64 (IntKind.wrap .i64 (1 + k6))])
      have d7 := d6.new s7
      have ho7 := s7.keepSl RRec.good ho6 fun b _ => by simp
      have hs7 := s7.stay RStock.good hs6
      have hx : RRec (H6 ++ [⟨.rw, 1, [.int .i64 (IntKind.wrap .i64 (1 + k6))]⟩]) [.int .i64 1, .int .i64 (IntKind.wrap .i64 (1 + k5)), .sl H6.length 0 1] ⟨1, IntKind.wrap .i64 (1 + k5), [IntKind.wrap .i64 (1 + k6)]⟩ [H6.length] := ⟨_, rfl, hi⟩
      simp only [go_sem, Nat.reduceEqDiff, Nat.reduceAdd, Nat.reduceMul, Nat.reduceLeDiff, Int.reduceEq, Int.reduceLT, Int.reduceLE, Int.reduceAdd, Int.reduceSub, Int.reduceNeg, Int.reduceMul, Int.reduceToNat, Int.cast_ofNat_Int, Int.natCast_zero, Nat.add_zero, reduceCtorEq, g0, g4, g5, g6, g8, k1', Nat.reduceDiv]
      refine Does.call (does_s_StockDo K hs7 hx) ?_
      rintro _ H9 ⟨c9, F9, rfl, s9, h9⟩
      have d9 := d7.new s9
      have ho9 := s9.keepSl RRec.good ho7 fun b _ => by simp
      have hx9 := s9.stay RRec.good hx
      obtain ⟨w0, w1, rfl⟩ := len2 h9.cells
      cases hmay : stockMay s ⟨1, IntKind.wrap .i64 (1 + k5), [IntKind.wrap .i64 (1 + k6)]⟩ with
      | true =>
        obtain ⟨c10, H10, F10, ha, ho10, s10⟩ := app_one RRec.good (by decide) ho9 hx9 rfl (d9.owned.part (fun a => by simp only [List.count_append, List.count_nil, List.count_cons]; omega)) (by simp [lenMax]; omega)
        have d9p := d9.part (G := F9 ++ (Fo ++ [H6.length])) (fun a => by simp only [List.count_append, List.count_nil, List.count_cons]; omega)
        have d10 := d9p.change hb0 s10
        have h10 := s10.keep RStock.good h9 fun k hk hc => d9p.owned.disj k hk hc
        simp only [go_sem, Nat.reduceEqDiff, Nat.reduceAdd, Nat.reduceMul, Nat.reduceLeDiff, Int.reduceEq, Int.reduceLT, Int.reduceLE, Int.reduceAdd, Int.reduceSub, Int.reduceNeg, Int.reduceMul, Int.reduceToNat, Int.cast_ofNat_Int, Int.natCast_zero, Nat.add_zero, reduceCtorEq, g0, g4, g5, g6, g8, hw, ha]
        refine hN (m - 1) _ (by omega) ⟨by omega, by simp [upd, g0], by simp [upd, g4], by simp [upd], c10, out ++ [⟨1, IntKind.wrap .i64 (1 + k5), [IntKind.wrap .i64 (1 + k6)]⟩], F10, [w0, w1], _, F9, by simp [upd], by simp [upd], rfl, (d10.part (fun a => by simp only [List.count_append, List.count_nil, List.count_cons]; omega)).mono (by omega), ho10, h10, by simp; omega, ?_⟩
        intro r hr
        simp only [List.mem_append, List.mem_cons, List.not_mem_nil, or_false] at hr
        rcases hr with hr | rfl
        · exact hmany r hr
        · simp
      | false =>
        simp only [go_sem, Nat.reduceEqDiff, Nat.reduceAdd, Nat.reduceMul, Nat.reduceLeDiff, Int.reduceEq, Int.reduceLT, Int.reduceLE, Int.reduceAdd, Int.reduceSub, Int.reduceNeg, Int.reduceMul, Int.reduceToNat, Int.cast_ofNat_Int, Int.natCast_zero, Nat.add_zero, reduceCtorEq, g0, g4, g5, g6, g8, hw]
        exact hN (m - 1) _ (by omega) ⟨by omega, by simp [upd, g0], by simp [upd, g4], by simp [upd], co, out, Fo, [z0, z1], s, Fs, by simp [upd, g5], by simp [upd, g6], rfl, (d9.part (fun a => by simp only [List.count_append, List.count_nil, List.count_cons]; omega)).mono (by omega), ho9, s9.stay RStock.good hs7, by omega, hmany⟩
    · simp only [go_sem, Nat.reduceEqDiff, Nat.reduceAdd, Nat.reduceMul, Nat.reduceLeDiff, Int.reduceEq, Int.reduceLT, Int.reduceLE, Int.reduceAdd, Int.reduceSub, Int.reduceNeg, Int.reduceMul, Int.reduceToNat, Int.cast_ofNat_Int, Int.natCast_zero, Nat.add_zero, reduceCtorEq, g0, g4, g5, g6, g8, k1']
      have hx : RRec H5 [.int .i64 (IntKind.wrap .i64 (1 + k4)), .int .i64 (IntKind.wrap .i64 (1 + k5)), .emp true] ⟨IntKind.wrap .i64 (1 + k4), IntKind.wrap .i64 (1 + k5), []⟩ [] := ⟨_, rfl, .emp⟩
      refine Does.call (does_s_StockDo K hs5 hx) ?_
      rintro _ H9 ⟨c9, F9, rfl, s9, h9⟩
      have d9 := d5.new s9
      have ho9 := s9.keepSl RRec.good ho5 fun b _ => by simp
      have hx9 := s9.stay RRec.good hx
      obtain ⟨w0, w1, rfl⟩ := len2 h9.cells
      cases hmay : stockMay s ⟨IntKind.wrap .i64 (1 + k4), IntKind.wrap .i64 (1 + k5), []⟩ with
      | true =>
        obtain ⟨c10, H10, F10, ha, ho10, s10⟩ := app_one RRec.good (by decide) ho9 hx9 rfl (d9.owned.part (fun a => by simp only [List.count_append, List.count_nil, List.count_cons]; omega)) (by simp [lenMax]; omega)
        have d9p := d9.part (G := F9 ++ (Fo ++ [])) (fun a => by simp only [List.count_append, List.count_nil, List.count_cons]; omega)
        have d10 := d9p.change hb0 s10
        have h10 := s10.keep RStock.good h9 fun k hk hc => d9p.owned.disj k hk hc
        simp only [go_sem, Nat.reduceEqDiff, Nat.reduceAdd, Nat.reduceMul, Nat.reduceLeDiff, Int.reduceEq, Int.reduceLT, Int.reduceLE, Int.reduceAdd, Int.reduceSub, Int.reduceNeg, Int.reduceMul, Int.reduceToNat, Int.cast_ofNat_Int, Int.natCast_zero, Nat.add_zero, reduceCtorEq, g0, g4, g5, g6, g8, hw, ha]
        refine hN (m - 1) _ (by omega) ⟨by omega, by simp [upd, g0], by simp [upd, g4], by simp [upd], c10, out ++ [⟨IntKind.wrap .i64 (1 + k4), IntKind.wrap .i64 (1 + k5), []⟩], F10, [w0, w1], _, F9, by simp [upd], by simp [upd], rfl, (d10.part (fun a => by simp only [List.count_append, List.count_nil, List.count_cons]; omega)).mono (by omega), ho10, h10, by simp; omega, ?_⟩
        intro r hr
        simp only [List.mem_append, List.mem_cons, List.not_mem_nil, or_false] at hr
        rcases hr with hr | rfl
        · exact hmany r hr
        · simp
      | false =>
        simp only [go_sem, Nat.reduceEqDiff, Nat.reduceAdd, Nat.reduceMul, Nat.reduceLeDiff, Int.reduceEq, Int.reduceLT, Int.reduceLE, Int.reduceAdd, Int.reduceSub, Int.reduceNeg, Int.reduceMul, Int.reduceToNat, Int.cast_ofNat_Int, Int.natCast_zero, Nat.add_zero, reduceCtorEq, g0, g4, g5, g6, g8, hw]
        exact hN (m - 1) _ (by omega) ⟨by omega, by simp [upd, g0], by simp [upd, g4], by simp [upd], co, out, Fo, [z0, z1], s, Fs, by simp [upd, g5], by simp [upd, g6], rfl, (d9.part (fun a => by simp only [List.count_append, List.count_nil, List.count_cons]; omega)).mono (by omega), ho9, s9.stay RStock.good hs5, by omega, hmany⟩
  · simp only [go_sem, Nat.reduceEqDiff, Nat.reduceAdd, Nat.reduceMul, Nat.reduceLeDiff, Int.reduceEq, Int.reduceLT, Int.reduceLE, Int.reduceAdd, Int.reduceSub, Int.reduceNeg, Int.reduceMul, Int.reduceToNat, Int.cast_ofNat_Int, Int.natCast_zero, Nat.add_zero, reduceCtorEq, g0, g4, g5, g6, g8, hc]
    refine hE _ _ ?_
    simp only [go_sem, Nat.reduceEqDiff, Nat.reduceAdd, Nat.reduceMul, Nat.reduceLeDiff, Int.reduceEq, Int.reduceLT, Int.reduceLE, Int.reduceAdd, Int.reduceSub, Int.reduceNeg, Int.reduceMul, Int.reduceToNat, Int.cast_ofNat_Int, Int.natCast_zero, Nat.add_zero, reduceCtorEq, g4, g5]
    exact hQ _ _ (Ends.ret rfl ⟨k1, co, out, Fo, rfl, (d.less (List.sublist_append_left _ _)).mono (by omega), ho, by omega, hmany⟩)
end Go.AX

/- Draws: houses and words. Condition: the reader lies in memory, and drew less often than 2^39. -/
namespace Go.AX
variable {P : Program} {I : Ids}
set_option maxHeartbeats 1000000 in
theorem draws_l71House (K : Codes P I) {H : Heap} {b q : Nat} (h : RdM H b q) (hq : q < 549755811000) :
    Does P I.s_l71House [.c (.ptr b 0)] H fun v H' => ∃ cs x F, v = .val (.agg cs) ∧ Dr b (q + 200) H H' F ∧ RHouse H' cs x F ∧ Small x.log := by
  have hb0 := h.lt
  refine K.does K.s_l71House rfl fun Q hQ => ?_
  simp only [go_sem, Nat.reduceEqDiff, Nat.reduceAdd, Nat.reduceMul, Nat.reduceLeDiff, Int.reduceEq, Int.reduceLT, Int.reduceLE, Int.reduceAdd, Int.reduceSub, Int.reduceNeg, Int.reduceMul, Int.reduceToNat, Int.cast_ofNat_Int, Int.natCast_zero, Nat.add_zero, reduceCtorEq, L_s_l71House]
  refine Does.call (draws_l71Recs K h (by omega)) ?_
  rintro _ H1 ⟨room, c, xs, F, rfl, d1, h1, hl, hm⟩
  replace d1 : Dr b _ H H1 F := d1
  have hsm : ∀ f, Small ⟨xs, f⟩ := fun f => ⟨by simp; omega, fun r hr => Nat.le_trans (hm r hr) (by omega)⟩
  simp only [go_sem, Nat.reduceEqDiff, Nat.reduceAdd, Nat.reduceMul, Nat.reduceLeDiff, Int.reduceEq, Int.reduceLT, Int.reduceLE, Int.reduceAdd, Int.reduceSub, Int.reduceNeg, Int.reduceMul, Int.reduceToNat, Int.cast_ofNat_Int, Int.natCast_zero, Nat.add_zero, reduceCtorEq]
  refine Does.call (draws_pick K d1.rd (by omega)) ?_
  rintro _ H2 ⟨k2, rfl, e2, s2, r2⟩
  replace s2 : Step [b] H1 H2 [b] := s2
  have d2 := d1.pick s2 r2
  have h2 := d1.keepSl RRec.good h1 s2
  simp only [go_sem, Nat.reduceEqDiff, Nat.reduceAdd, Nat.reduceMul, Nat.reduceLeDiff, Int.reduceEq, Int.reduceLT, Int.reduceLE, Int.reduceAdd, Int.reduceSub, Int.reduceNeg, Int.reduceMul, Int.reduceToNat, Int.cast_ofNat_Int, Int.natCast_zero, Nat.add_zero, reduceCtorEq]
  refine Does.call (draws_pick K d2.rd (by omega)) ?_
  rintro _ H3 ⟨k3, rfl, e3, s3, r3⟩
  replace s3 : Step [b] H2 H3 [b] := s3
  have d3 := d2.pick s3 r3
  have h3 := d2.keepSl RRec.good h2 s3
  simp only [go_sem, Nat.reduceEqDiff, Nat.reduceAdd, Nat.reduceMul, Nat.reduceLeDiff, Int.reduceEq, Int.reduceLT, Int.reduceLE, Int.reduceAdd, Int.reduceSub, Int.reduceNeg, Int.reduceMul, Int.reduceToNat, Int.cast_ofNat_Int, Int.natCast_zero, Nat.add_zero, reduceCtorEq, h3.len]
  refine Does.call (draws_pick K d3.rd (by omega)) ?_
  rintro _ H4 ⟨k4, rfl, e4, s4, r4⟩
  replace s4 : Step [b] H3 H4 [b] := s4
  have d4 := d3.pick s4 r4
  have h4 := d3.keepSl RRec.good h3 s4
  simp only [go_sem, Nat.reduceEqDiff, Nat.reduceAdd, Nat.reduceMul, Nat.reduceLeDiff, Int.reduceEq, Int.reduceLT, Int.reduceLE, Int.reduceAdd, Int.reduceSub, Int.reduceNeg, Int.reduceMul, Int.reduceToNat, Int.cast_ofNat_Int, Int.natCast_zero, Nat.add_zero, reduceCtorEq]
  refine RUo_join (fun s => s.env 0 = .val (.c (.ptr b 0)) ∧ s.env 2 = .box [.int .i64 0, .bool false, .int .i64 0, .nil, .int .i64 0] ∧ ∃ a1 a2 a3 a4, s.env 5 = .box [.int .i64 a1, .bool a2, .int .i64 a3, c, .int .i64 a4] ∧ Dr b (q + 110) H s.H F ∧ Recs s.H c xs F) (fun Q' hN hE hR => ?_) ?_
  · by_cases c0 : k4 = 0
    · simp only [go_sem, Nat.reduceEqDiff, Nat.reduceAdd, Nat.reduceMul, Nat.reduceLeDiff, Int.reduceEq, Int.reduceLT, Int.reduceLE, Int.reduceAdd, Int.reduceSub, Int.reduceNeg, Int.reduceMul, Int.reduceToNat, Int.cast_ofNat_Int, Int.natCast_zero, Nat.add_zero, reduceCtorEq, c0, h4.len]
      refine Does.call (draws_pick K d4.rd (by omega)) ?_
      rintro _ H5 ⟨k5, rfl, e5, s5, r5⟩
      simp only [go_sem, Nat.reduceEqDiff, Nat.reduceAdd, Nat.reduceMul, Nat.reduceLeDiff, Int.reduceEq, Int.reduceLT, Int.reduceLE, Int.reduceAdd, Int.reduceSub, Int.reduceNeg, Int.reduceMul, Int.reduceToNat, Int.cast_ofNat_Int, Int.natCast_zero, Nat.add_zero, reduceCtorEq, c0]
      exact hN _ ⟨rfl, rfl, _, _, _, _, rfl, (d4.pick s5 r5).mono (by omega), d4.keepSl RRec.good h4 s5⟩
    · simp only [go_sem, Nat.reduceEqDiff, Nat.reduceAdd, Nat.reduceMul, Nat.reduceLeDiff, Int.reduceEq, Int.reduceLT, Int.reduceLE, Int.reduceAdd, Int.reduceSub, Int.reduceNeg, Int.reduceMul, Int.reduceToNat, Int.cast_ofNat_Int, Int.natCast_zero, Nat.add_zero, reduceCtorEq, c0]
      exact hN _ ⟨rfl, rfl, _, _, _, _, rfl, d4.mono (by omega), h4⟩
  · rintro s ⟨g0, g2, a1, a2, a3, a4, g5, d, hr⟩
    simp only [go_sem, Nat.reduceEqDiff, Nat.reduceAdd, Nat.reduceMul, Nat.reduceLeDiff, Int.reduceEq, Int.reduceLT, Int.reduceLE, Int.reduceAdd, Int.reduceSub, Int.reduceNeg, Int.reduceMul, Int.reduceToNat, Int.cast_ofNat_Int, Int.natCast_zero, Nat.add_zero, reduceCtorEq, g0, g5]
    refine Does.call (draws_pick K d.rd (by omega)) ?_
    rintro _ H6 ⟨k6, rfl, e6, s6, r6⟩
    have d6 := d.pick s6 r6
    have h6 := d.keepSl RRec.good hr s6
    by_cases c0 : k6 = 0
    · simp only [go_sem, Nat.reduceEqDiff, Nat.reduceAdd, Nat.reduceMul, Nat.reduceLeDiff, Int.reduceEq, Int.reduceLT, Int.reduceLE, Int.reduceAdd, Int.reduceSub, Int.reduceNeg, Int.reduceMul, Int.reduceToNat, Int.cast_ofNat_Int, Int.natCast_zero, Nat.add_zero, reduceCtorEq, g0, g2, g5, c0]
      refine Does.call (draws_pick K d6.rd (by omega)) ?_
      rintro _ H7 ⟨k7, rfl, e7, s7, r7⟩
      obtain ⟨j, rfl, hj⟩ := e7.nat (by decide)
      have d7 := d6.pick s7 r7
      have h7 := d6.keepSl RRec.good h6 s7
      have s8 := step_new (H := H7) (n := 1) (cs := [.int .i64 0, .int .i64 4])
      obtain ⟨v, hv, _⟩ := slab2 (a := 0) (b := 4) hj
      simp only [go_sem, Nat.reduceEqDiff, Nat.reduceAdd, Nat.reduceMul, Nat.reduceLeDiff, Int.reduceEq, Int.reduceLT, Int.reduceLE, Int.reduceAdd, Int.reduceSub, Int.reduceNeg, Int.reduceMul, Int.reduceToNat, Int.cast_ofNat_Int, Int.natCast_zero, Nat.add_zero, reduceCtorEq, g0, g2, g5, hj, hv, Nat.reduceDiv]
      exact hQ _ _ (Ends.ret rfl ⟨_, ⟨v, a2, a3, ⟨xs, a4⟩⟩, F, rfl, ((d7.new s8).less (by simp)).mono (by omega), ⟨c, rfl, s8.keepSl RRec.good h7 (fun b _ => by simp)⟩, hsm a4⟩)
    · by_cases c1 : k6 = 1
      · simp only [go_sem, Nat.reduceEqDiff, Nat.reduceAdd, Nat.reduceMul, Nat.reduceLeDiff, Int.reduceEq, Int.reduceLT, Int.reduceLE, Int.reduceAdd, Int.reduceSub, Int.reduceNeg, Int.reduceMul, Int.reduceToNat, Int.cast_ofNat_Int, Int.natCast_zero, Nat.add_zero, reduceCtorEq, g0, g2, g5, c0, c1]
        refine Does.call (draws_l71Rec K d6.rd (by omega)) ?_
        rintro _ H7 ⟨cs7, x, F7, rfl, d7, h7, hm7⟩
        have d8 := d6.draw d7
        have h8 := d6.keepSl RRec.good h6 d7.step
        obtain ⟨c9, H9, F9, ha, h9, s9⟩ := app_one RRec.good (by decide) h8 h7 h7.cells d8.owned (by simp [lenMax]; omega)
        obtain ⟨z0, z1, z2, rfl⟩ := len3 h7.cells
        simp only [go_sem, Nat.reduceEqDiff, Nat.reduceAdd, Nat.reduceMul, Nat.reduceLeDiff, Int.reduceEq, Int.reduceLT, Int.reduceLE, Int.reduceAdd, Int.reduceSub, Int.reduceNeg, Int.reduceMul, Int.reduceToNat, Int.cast_ofNat_Int, Int.natCast_zero, Nat.add_zero, reduceCtorEq, g0, g2, g5, ha]
        refine hQ _ _ (Ends.ret rfl ⟨_, ⟨a1, a2, a3, ⟨xs ++ [x], a4⟩⟩, F9, rfl, (d8.change0 hb0 s9).mono (by omega), ⟨c9, rfl, h9⟩, by simp; omega, ?_⟩)
        intro r hr
        simp only [List.mem_append, List.mem_cons, List.not_mem_nil, or_false] at hr
        rcases hr with hr | rfl
        · exact Nat.le_trans (hm r hr) (by omega)
        · omega
      · by_cases c2 : k6 = 2
        · simp only [go_sem, Nat.reduceEqDiff, Nat.reduceAdd, Nat.reduceMul, Nat.reduceLeDiff, Int.reduceEq, Int.reduceLT, Int.reduceLE, Int.reduceAdd, Int.reduceSub, Int.reduceNeg, Int.reduceMul, Int.reduceToNat, Int.cast_ofNat_Int, Int.natCast_zero, Nat.add_zero, reduceCtorEq, g0, g2, g5, c0, c1, c2]
          refine Does.call (draws_pick K d6.rd (by omega)) ?_
          rintro _ H7 ⟨k7, rfl, e7, s7, r7⟩
          simp only [go_sem, Nat.reduceEqDiff, Nat.reduceAdd, Nat.reduceMul, Nat.reduceLeDiff, Int.reduceEq, Int.reduceLT, Int.reduceLE, Int.reduceAdd, Int.reduceSub, Int.reduceNeg, Int.reduceMul, Int.reduceToNat, Int.cast_ofNat_Int, Int.natCast_zero, Nat.add_zero, reduceCtorEq, g0, g2, g5]
          exact hQ _ _ (Ends.ret rfl ⟨_, ⟨a1, a2, k7, ⟨xs, a4⟩⟩, F, rfl, (d6.pick s7 r7).mono (by omega), ⟨c, rfl, d6.keepSl RRec.good h6 s7⟩, hsm a4⟩)
        · simp only [go_sem, Nat.reduceEqDiff, Nat.reduceAdd, Nat.reduceMul, Nat.reduceLeDiff, Int.reduceEq, Int.reduceLT, Int.reduceLE, Int.reduceAdd, Int.reduceSub, Int.reduceNeg, Int.reduceMul, Int.reduceToNat, Int.cast_ofNat_Int, Int.natCast_zero, Nat.add_zero, reduceCtorEq, g0, g2, g5, c0, c1, c2]
          exact hQ _ _ (Ends.ret rfl ⟨_, ⟨a1, a2, a3, ⟨xs, a4⟩⟩, F, rfl, d6.mono (by omega), ⟨c, rfl, h6⟩, hsm a4⟩)
theorem keepB5 {k1 k2 : Int} (h1 : Drawn 5 k1) (h2 : Drawn 6 k2) : ∃ v, IntKind.wrap .i64 (k1 - IntKind.wrap .i64 (IntKind.wrap .i64 (k2.tdiv 5) * 2)) = v ∧ -3 ≤ v ∧ v ≤ 6 :=
  keepB ⟨h1.1, fun _ => by have := h1.2.1 (by decide); omega, fun h => absurd h (by decide)⟩ h2
theorem draws_DrawHouseStock (K : Codes P I) {H : Heap} {c : C} {xs : List Int} {G : List Nat} (h : Bytes H c xs G) :
    Does P I.s_DrawHouseStock [.c c] H fun v H' => ∃ cs x F f, v = .tup [.agg cs, .c (.bool f)] ∧ Step [] H H' F ∧ RHouse H' cs x F ∧ Small x.log := by
  refine K.does K.s_DrawHouseStock rfl fun Q hQ => ?_
  simp only [go_sem, Nat.reduceEqDiff, Nat.reduceAdd, Nat.reduceMul, Nat.reduceLeDiff, Int.reduceEq, Int.reduceLT, Int.reduceLE, Int.reduceAdd, Int.reduceSub, Int.reduceNeg, Int.reduceMul, Int.reduceToNat, Int.cast_ofNat_Int, Int.natCast_zero, Nat.add_zero, reduceCtorEq, L_s_DrawHouseStock]
  refine Does.call (draws_open K h) ?_
  rintro _ H1 ⟨b, rfl, s1, r1⟩
  simp only [go_sem, Nat.reduceEqDiff, Nat.reduceAdd, Nat.reduceMul, Nat.reduceLeDiff, Int.reduceEq, Int.reduceLT, Int.reduceLE, Int.reduceAdd, Int.reduceSub, Int.reduceNeg, Int.reduceMul, Int.reduceToNat, Int.cast_ofNat_Int, Int.natCast_zero, Nat.add_zero, reduceCtorEq]
  refine Does.call (draws_l71House K r1 (by omega)) ?_
  rintro _ H2 ⟨cs, x, F, rfl, d2, hx, hs⟩
  obtain ⟨x0, x1, x2, x3, x4, rfl⟩ := len5 hx.cells
  simp only [go_sem, Nat.reduceEqDiff, Nat.reduceAdd, Nat.reduceMul, Nat.reduceLeDiff, Int.reduceEq, Int.reduceLT, Int.reduceLE, Int.reduceAdd, Int.reduceSub, Int.reduceNeg, Int.reduceMul, Int.reduceToNat, Int.cast_ofNat_Int, Int.natCast_zero, Nat.add_zero, reduceCtorEq]
  refine Does.call (draws_pick K d2.rd (by omega)) ?_
  rintro _ H3 ⟨k3, rfl, e3, s3, r3⟩
  simp only [go_sem, Nat.reduceEqDiff, Nat.reduceAdd, Nat.reduceMul, Nat.reduceLeDiff, Int.reduceEq, Int.reduceLT, Int.reduceLE, Int.reduceAdd, Int.reduceSub, Int.reduceNeg, Int.reduceMul, Int.reduceToNat, Int.cast_ofNat_Int, Int.natCast_zero, Nat.add_zero, reduceCtorEq]
  exact hQ _ _ (Ends.ret rfl ⟨_, x, F, decide (k3 = 0), rfl, (d2.pick s3 r3).out s1, d2.keep RHouse.good hx s3, hs⟩)
end Go.AX

/- The laws of houses hold that do not hear. Condition: the bytes that draw lie in memory. -/
namespace Go.AX
variable {P : Program} {I : Ids}
theorem sameC2 {a b c d : Int} : sameC [.int .i64 a, .int .i64 b] [.int .i64 c, .int .i64 d] = some ((a == c) && ((b == d) && true)) := by simp [sameC]
theorem does_w_lnStock (K : Codes P I) {H : Heap} {a b : List C} {x y : Stock} {F G : List Nat} (ha : RStock H a x F) (hb : RStock H b y G) : Does P I.w_lnStock [.agg a, .agg b] H fun r H' => r = bool (decide (x = y)) ∧ H' = H := by
  obtain ⟨c, rfl, ha⟩ := ha
  obtain ⟨d, rfl, hb⟩ := hb
  refine K.does K.w_lnStock rfl fun Q hQ => ?_
  have htop := ha.top
  by_cases hr : x.room = y.room
  · by_cases hl : (x.holds.length : Int) = y.holds.length
    · simp only [go_sem, Nat.reduceEqDiff, Nat.reduceAdd, Nat.reduceMul, Nat.reduceLeDiff, Int.reduceEq, Int.reduceLT, Int.reduceLE, Int.reduceAdd, Int.reduceSub, Int.reduceNeg, Int.reduceMul, Int.reduceToNat, Int.cast_ofNat_Int, Int.natCast_zero, Nat.add_zero, reduceCtorEq, L_w_lnStock, hr, ha.len, hb.len, hl]
      refine RU_loop (fun m s => ∃ i : Nat, m = x.holds.length - i ∧ i ≤ x.holds.length ∧ s.H = H ∧ s.env 2 = .box [.int .i64 y.room, c] ∧ s.env 3 = .box [.int .i64 y.room, d] ∧ s.env 5 = .val (int i) ∧ x.holds.take i = y.holds.take i) x.holds.length ⟨0, by simp, by simp, rfl, rfl, rfl, rfl, rfl⟩ ?_
      rintro m s ⟨i, rfl, hi, hH, g2, g3, g5, ht⟩ Q' hN hE hR
      by_cases hlt : (i : Int) < x.holds.length
      · obtain ⟨u, hu⟩ := get_lt hlt
        obtain ⟨v, hv⟩ : ∃ v, y.holds[i]? = some v := get_lt (by omega)
        have hlt' : (i : Int) < y.holds.length := by omega
        obtain ⟨b1, o1, bs1, cs1, f1, rfl, e1, e2, ⟨rfl, _⟩, _⟩ := ha.get hu
        obtain ⟨b2, o2, bs2, cs2, f2, rfl, g1, g2', ⟨rfl, _⟩, _⟩ := hb.get hv
        by_cases h1 : u.many = v.many
        · by_cases h2 : u.state = v.state
          · simp only [go_sem, Nat.reduceEqDiff, Nat.reduceAdd, Nat.reduceMul, Nat.reduceLeDiff, Int.reduceEq, Int.reduceLT, Int.reduceLE, Int.reduceAdd, Int.reduceSub, Int.reduceNeg, Int.reduceMul, Int.reduceToNat, Int.cast_ofNat_Int, Int.natCast_zero, Nat.add_zero, reduceCtorEq, g2, g3, g5, hlt, hlt', hH, e1, e2, g1, g2', sameC2, h1, h2, Bool.and_self, wrap_succ (show i ≤ lenTop by omega)]
            refine hN _ _ (by omega) ⟨i + 1, rfl, by omega, by simp [hH], by simp [upd, g2], by simp [upd, g3], by simp [upd], ?_⟩
            rw [take_snoc hu, take_snoc hv, ht, show u = v from Hold.ext h1 h2]
          · simp only [go_sem, Nat.reduceEqDiff, Nat.reduceAdd, Nat.reduceMul, Nat.reduceLeDiff, Int.reduceEq, Int.reduceLT, Int.reduceLE, Int.reduceAdd, Int.reduceSub, Int.reduceNeg, Int.reduceMul, Int.reduceToNat, Int.cast_ofNat_Int, Int.natCast_zero, Nat.add_zero, reduceCtorEq, g2, g3, g5, hlt, hlt', hH, e1, e2, g1, g2', sameC2, h1, h2, Bool.and_true, Bool.true_and, Bool.and_false]
            refine hR _ (hQ _ _ (Ends.ret rfl ⟨?_, by simp [hH]⟩))
            have : x ≠ y := fun e => by subst e; rw [hu] at hv; simp at hv; exact h2 (by rw [hv])
            simp [tupOf, this]
        · simp only [go_sem, Nat.reduceEqDiff, Nat.reduceAdd, Nat.reduceMul, Nat.reduceLeDiff, Int.reduceEq, Int.reduceLT, Int.reduceLE, Int.reduceAdd, Int.reduceSub, Int.reduceNeg, Int.reduceMul, Int.reduceToNat, Int.cast_ofNat_Int, Int.natCast_zero, Nat.add_zero, reduceCtorEq, g2, g3, g5, hlt, hlt', hH, e1, e2, g1, g2', sameC2, h1, Bool.false_and]
          refine hR _ (hQ _ _ (Ends.ret rfl ⟨?_, by simp [hH]⟩))
          have : x ≠ y := fun e => by subst e; rw [hu] at hv; simp at hv; exact h1 (by rw [hv])
          simp [tupOf, this]
      · simp only [go_sem, Nat.reduceEqDiff, Nat.reduceAdd, Nat.reduceMul, Nat.reduceLeDiff, Int.reduceEq, Int.reduceLT, Int.reduceLE, Int.reduceAdd, Int.reduceSub, Int.reduceNeg, Int.reduceMul, Int.reduceToNat, Int.cast_ofNat_Int, Int.natCast_zero, Nat.add_zero, reduceCtorEq, g2, g5, hlt, hH, ha.len]
        refine hE _ _ ?_
        simp only [go_sem, Nat.reduceEqDiff, Nat.reduceAdd, Nat.reduceMul, Nat.reduceLeDiff, Int.reduceEq, Int.reduceLT, Int.reduceLE, Int.reduceAdd, Int.reduceSub, Int.reduceNeg, Int.reduceMul, Int.reduceToNat, Int.cast_ofNat_Int, Int.natCast_zero, Nat.add_zero, reduceCtorEq]
        refine hQ _ _ (Ends.ret rfl ⟨?_, rfl⟩)
        have : x = y := by
          rw [List.take_of_length_le (by omega), List.take_of_length_le (by omega)] at ht; exact Stock.ext hr ht
        simp [tupOf, this]
    · simp only [go_sem, Nat.reduceEqDiff, Nat.reduceAdd, Nat.reduceMul, Nat.reduceLeDiff, Int.reduceEq, Int.reduceLT, Int.reduceLE, Int.reduceAdd, Int.reduceSub, Int.reduceNeg, Int.reduceMul, Int.reduceToNat, Int.cast_ofNat_Int, Int.natCast_zero, Nat.add_zero, reduceCtorEq, L_w_lnStock, hr, ha.len, hb.len, hl]
      refine hQ _ _ (Ends.ret rfl ⟨?_, rfl⟩)
      have : x ≠ y := fun e => hl (by rw [e])
      simp [tupOf, this]
  · simp only [go_sem, Nat.reduceEqDiff, Nat.reduceAdd, Nat.reduceMul, Nat.reduceLeDiff, Int.reduceEq, Int.reduceLT, Int.reduceLE, Int.reduceAdd, Int.reduceSub, Int.reduceNeg, Int.reduceMul, Int.reduceToNat, Int.cast_ofNat_Int, Int.natCast_zero, Nat.add_zero, reduceCtorEq, L_w_lnStock, hr]
    refine hQ _ _ (Ends.ret rfl ⟨?_, rfl⟩)
    have : x ≠ y := fun e => hr (by rw [e])
    simp [tupOf, this]
/-! What holds of houses. -/
theorem rise_eq {h : House} (k : houseOk h = true) : houseRiseV h = { h with up := true } := by simp [houseRiseV, k]
theorem ok_up {h : House} (u : Bool) : houseOk { h with up := u } = houseOk h := rfl
theorem force_eq {h : House} (k : houseOk h = true) (u : h.up = true) : houseForceV h = { h with log := forceL h.log } := by simp [houseForceV, k, u]
theorem force_houseOk {h : House} (k : houseOk h = true) : houseOk { h with log := forceL h.log } = true := by
  obtain ⟨h1, h2, s, hs⟩ := houseOk_parts k
  exact houseOk_of h1 (force_ok h2) (s := s) hs
theorem fall_eq {h : House} (k : houseOk h = true) (n : Int) : houseFallV h n = { h with up := false, log := fallL h.log n } := by simp [houseFallV, k]
theorem fall_houseOk {h : House} (k : houseOk h = true) (n : Int) (u : Bool) : houseOk { h with up := u, log := fallL h.log n } = true := by
  obtain ⟨h1, h2, s, hs⟩ := houseOk_parts k
  obtain ⟨t, ht⟩ := stockOf_take hs (fallN h.log n)
  exact houseOk_of h1 (fall_ok h2 n) (s := t) ht
theorem stock_fall0 {h : House} (k : houseOk h = true) (u : Bool) : stockV { h with up := u, log := fallL h.log 0 } false = stockV h true := by
  have hN : fallN h.log 0 = h.log.forced.toNat := by unfold fallN; simp
  simp only [stockV, known, fallL, hN, if_true]
  simp
theorem stock_force {h : House} (k : houseOk h = true) (u : Bool) : stockV { h with up := u, log := forceL h.log } true = stockV h false := by
  simp [stockV, known, forceL]
theorem houseStock_eq {h : House} (k : houseOk h = true) (f : Bool) : houseStockV h f = stockV h f := by simp [houseStockV, k]
theorem stockOf_known {h : House} (k : houseOk h = true) (f : Bool) : stockOf h.room (known h.log f) = some (stockV h f) := by
  obtain ⟨h1, h2, s, hs⟩ := houseOk_parts k
  cases f with
  | false => rw [stockV_all hs]; exact hs
  | true =>
    obtain ⟨t, ht⟩ := stockOf_take hs h.log.forced.toNat
    simp [stockV, known, ht]

theorem does_FnHouseStock (K : Codes P I) {H : Heap} {a : C} {xs : List Int} {F : List Nat} (ha : Bytes H a xs F) : Does P I.w_FnHouseStock [.c a] H fun r _ => r = bool true := by
  refine K.does K.w_FnHouseStock rfl fun Q hQ => ?_
  by_cases h1 : (1048576 : Int) < xs.length
  · simp only [go_sem, Nat.reduceEqDiff, Nat.reduceAdd, Nat.reduceMul, Nat.reduceLeDiff, Int.reduceEq, Int.reduceLT, Int.reduceLE, Int.reduceAdd, Int.reduceSub, Int.reduceNeg, Int.reduceMul, Int.reduceToNat, Int.cast_ofNat_Int, Int.natCast_zero, Nat.add_zero, reduceCtorEq, L_w_FnHouseStock, ha.len, h1]
    exact hQ _ _ (Ends.ret rfl rfl)
  simp only [go_sem, Nat.reduceEqDiff, Nat.reduceAdd, Nat.reduceMul, Nat.reduceLeDiff, Int.reduceEq, Int.reduceLT, Int.reduceLE, Int.reduceAdd, Int.reduceSub, Int.reduceNeg, Int.reduceMul, Int.reduceToNat, Int.cast_ofNat_Int, Int.natCast_zero, Nat.add_zero, reduceCtorEq, L_w_FnHouseStock, ha.len, h1]
  refine Does.call (draws_DrawHouseStock K ha) ?_
  rintro _ H1 ⟨cs, ⟨id, up, room, log⟩, F1, f, rfl, s1, hl, hs⟩
  obtain ⟨c1, rfl, hl1⟩ := hl
  have hl : RHouse H1 [.int .i64 id, .bool up, .int .i64 room, c1, .int .i64 log.forced] ⟨id, up, room, log⟩ F1 := ⟨c1, rfl, hl1⟩
  replace hl1 : Recs H1 c1 log.recs F1 := hl1
  simp only [go_sem, Nat.reduceEqDiff, Nat.reduceAdd, Nat.reduceMul, Nat.reduceLeDiff, Int.reduceEq, Int.reduceLT, Int.reduceLE, Int.reduceAdd, Int.reduceSub, Int.reduceNeg, Int.reduceMul, Int.reduceToNat, Int.cast_ofNat_Int, Int.natCast_zero, Nat.add_zero, reduceCtorEq]
  refine Does.call (does_i_HouseStock K hl) ?_
  rintro _ H2 ⟨c2, F2, rfl, s2, hx⟩
  replace hl := Step.stay s2 RHouse.good hl
  replace hl1 := Step.keepSl s2 RRec.good hl1 (fun b _ => by simp)
  obtain ⟨hx_0, hx_1, rfl⟩ := len2 hx.cells
  simp only [go_sem, Nat.reduceEqDiff, Nat.reduceAdd, Nat.reduceMul, Nat.reduceLeDiff, Int.reduceEq, Int.reduceLT, Int.reduceLE, Int.reduceAdd, Int.reduceSub, Int.reduceNeg, Int.reduceMul, Int.reduceToNat, Int.cast_ofNat_Int, Int.natCast_zero, Nat.add_zero, reduceCtorEq]
  refine Does.call (does_s_HouseStock K hl) ?_
  rintro _ H3 ⟨c3, F3, rfl, s3, hy⟩
  replace hl := Step.stay s3 RHouse.good hl
  replace hl1 := Step.keepSl s3 RRec.good hl1 (fun b _ => by simp)
  replace hx := Step.stay s3 RStock.good hx
  obtain ⟨hy_0, hy_1, rfl⟩ := len2 hy.cells
  simp only [go_sem, Nat.reduceEqDiff, Nat.reduceAdd, Nat.reduceMul, Nat.reduceLeDiff, Int.reduceEq, Int.reduceLT, Int.reduceLE, Int.reduceAdd, Int.reduceSub, Int.reduceNeg, Int.reduceMul, Int.reduceToNat, Int.cast_ofNat_Int, Int.natCast_zero, Nat.add_zero, reduceCtorEq]
  refine Does.test (does_w_lnStock K hx hy) ?_
  simp only [go_sem, Nat.reduceEqDiff, Nat.reduceAdd, Nat.reduceMul, Nat.reduceLeDiff, Int.reduceEq, Int.reduceLT, Int.reduceLE, Int.reduceAdd, Int.reduceSub, Int.reduceNeg, Int.reduceMul, Int.reduceToNat, Int.cast_ofNat_Int, Int.natCast_zero, Nat.add_zero, reduceCtorEq]
  refine Does.call (does_s_HouseOk K hl) ?_
  rintro _ H4 ⟨rfl, s4⟩
  replace hl := Step.stay s4 RHouse.good hl
  replace hl1 := Step.keepSl s4 RRec.good hl1 (fun b _ => by simp)
  replace hx := Step.stay s4 RStock.good hx
  replace hy := Step.stay s4 RStock.good hy
  cases hok : houseOk ⟨id, up, room, log⟩ with
  | false =>
    simp only [go_sem, Nat.reduceEqDiff, Nat.reduceAdd, Nat.reduceMul, Nat.reduceLeDiff, Int.reduceEq, Int.reduceLT, Int.reduceLE, Int.reduceAdd, Int.reduceSub, Int.reduceNeg, Int.reduceMul, Int.reduceToNat, Int.cast_ofNat_Int, Int.natCast_zero, Nat.add_zero, reduceCtorEq]
    refine Does.call (does_s_HouseStock K hl) ?_
    rintro _ H5 ⟨c5, F5, rfl, s5, hz⟩
    replace hl := Step.stay s5 RHouse.good hl
    replace hl1 := Step.keepSl s5 RRec.good hl1 (fun b _ => by simp)
    replace hx := Step.stay s5 RStock.good hx
    replace hy := Step.stay s5 RStock.good hy
    obtain ⟨hz_0, hz_1, rfl⟩ := len2 hz.cells
    simp only [go_sem, Nat.reduceEqDiff, Nat.reduceAdd, Nat.reduceMul, Nat.reduceLeDiff, Int.reduceEq, Int.reduceLT, Int.reduceLE, Int.reduceAdd, Int.reduceSub, Int.reduceNeg, Int.reduceMul, Int.reduceToNat, Int.cast_ofNat_Int, Int.natCast_zero, Nat.add_zero, reduceCtorEq]
    refine Does.test (does_w_lnStock K hx hz) ?_
    simp only [go_sem, Nat.reduceEqDiff, Nat.reduceAdd, Nat.reduceMul, Nat.reduceLeDiff, Int.reduceEq, Int.reduceLT, Int.reduceLE, Int.reduceAdd, Int.reduceSub, Int.reduceNeg, Int.reduceMul, Int.reduceToNat, Int.cast_ofNat_Int, Int.natCast_zero, Nat.add_zero, reduceCtorEq]
    exact hQ _ _ (Ends.ret rfl rfl)
  | true =>
    have hlok : logOk log = true := (houseOk_parts hok).2.1
    obtain ⟨p1, p2, p3, p4⟩ := logOk_parts hlok
    rw [houseStock_eq hok] at hx
    have hok2 : houseOk ⟨id, true, room, log⟩ = true := hok
    have hok3 : houseOk ⟨id, true, room, forceL log⟩ = true := force_houseOk hok2
    have e : houseForceV ⟨id, true, room, log⟩ = ⟨id, true, room, forceL log⟩ := force_eq hok2 rfl
    have e5 : houseStockV ⟨id, true, room, forceL log⟩ true = houseStockV ⟨id, up, room, log⟩ false := by
      rw [houseStock_eq hok3, houseStock_eq hok]; exact stock_force hok true
    have hst := stockOf_known hok
    have hsok := stockV_ok hok
    cases f with
    | false =>
      obtain ⟨cq, Fq, hq, hcq, _⟩ := slc_take hl1 (k := log.recs.length) (Nat.le_refl _)
      rw [List.take_length] at hcq
      replace hcq : Recs H4 cq (known log false) Fq := hcq
      simp only [go_sem, Nat.reduceEqDiff, Nat.reduceAdd, Nat.reduceMul, Nat.reduceLeDiff, Int.reduceEq, Int.reduceLT, Int.reduceLE, Int.reduceAdd, Int.reduceSub, Int.reduceNeg, Int.reduceMul, Int.reduceToNat, Int.cast_ofNat_Int, Int.natCast_zero, Nat.add_zero, reduceCtorEq, hl1.len, hq]
      refine Does.call (does_i_StockOf K hcq) ?_
      rintro _ H6 ⟨c6, F6, rfl, s6, hu⟩
      replace hl := Step.stay s6 RHouse.good hl
      replace hl1 := Step.keepSl s6 RRec.good hl1 (fun b _ => by simp)
      replace hx := Step.stay s6 RStock.good hx
      replace hy := Step.stay s6 RStock.good hy
      obtain ⟨u0, u1, rfl⟩ := len2 hu.cells
      have eu : stockD room (known log false) = stockV ⟨id, up, room, log⟩ false := by
        have := hst false; simp only at this; simp [stockD, this]
      have ei : (stockOf room (known log false)).isSome = true := by have := hst false; simp only at this; simp [this]
      rw [eu] at hu
      have hup : RHouse H6 [.int .i64 id, .bool true, .int .i64 room, c1, .int .i64 log.forced] ⟨id, true, room, log⟩ F1 := ⟨c1, rfl, hl1⟩
      simp only [go_sem, Nat.reduceEqDiff, Nat.reduceAdd, Nat.reduceMul, Nat.reduceLeDiff, Int.reduceEq, Int.reduceLT, Int.reduceLE, Int.reduceAdd, Int.reduceSub, Int.reduceNeg, Int.reduceMul, Int.reduceToNat, Int.cast_ofNat_Int, Int.natCast_zero, Nat.add_zero, reduceCtorEq]
      refine Does.call (does_i_HouseForce K hup) ?_
      rintro _ H7 ⟨c7, F7, rfl, s7, hz⟩
      replace hl := Step.stay s7 RHouse.good hl
      replace hl1 := Step.keepSl s7 RRec.good hl1 (fun b _ => by simp)
      replace hx := Step.stay s7 RStock.good hx
      replace hy := Step.stay s7 RStock.good hy
      replace hu := Step.stay s7 RStock.good hu
      replace hup := Step.stay s7 RHouse.good hup
      obtain ⟨hz_0, hz_1, hz_2, hz_3, hz_4, rfl⟩ := len5 hz.cells
      rw [e] at hz
      simp only [go_sem, Nat.reduceEqDiff, Nat.reduceAdd, Nat.reduceMul, Nat.reduceLeDiff, Int.reduceEq, Int.reduceLT, Int.reduceLE, Int.reduceAdd, Int.reduceSub, Int.reduceNeg, Int.reduceMul, Int.reduceToNat, Int.cast_ofNat_Int, Int.natCast_zero, Nat.add_zero, reduceCtorEq, ei]
      refine Does.test (does_w_lnStock K hu hx) ?_
      simp only [go_sem, Nat.reduceEqDiff, Nat.reduceAdd, Nat.reduceMul, Nat.reduceLeDiff, Int.reduceEq, Int.reduceLT, Int.reduceLE, Int.reduceAdd, Int.reduceSub, Int.reduceNeg, Int.reduceMul, Int.reduceToNat, Int.cast_ofNat_Int, Int.natCast_zero, Nat.add_zero, reduceCtorEq]
      refine Does.test (does_i_StockOk K hx) ?_
      simp only [go_sem, Nat.reduceEqDiff, Nat.reduceAdd, Nat.reduceMul, Nat.reduceLeDiff, Int.reduceEq, Int.reduceLT, Int.reduceLE, Int.reduceAdd, Int.reduceSub, Int.reduceNeg, Int.reduceMul, Int.reduceToNat, Int.cast_ofNat_Int, Int.natCast_zero, Nat.add_zero, reduceCtorEq, hsok]
      refine Does.call (does_i_HouseStock K hz) ?_
      rintro _ H8 ⟨c8, F8, rfl, s8, hs1⟩
      replace hl := Step.stay s8 RHouse.good hl
      replace hl1 := Step.keepSl s8 RRec.good hl1 (fun b _ => by simp)
      replace hx := Step.stay s8 RStock.good hx
      replace hy := Step.stay s8 RStock.good hy
      replace hu := Step.stay s8 RStock.good hu
      replace hup := Step.stay s8 RHouse.good hup
      replace hz := Step.stay s8 RHouse.good hz
      obtain ⟨hs1_0, hs1_1, rfl⟩ := len2 hs1.cells
      rw [e5] at hs1
      simp only [go_sem, Nat.reduceEqDiff, Nat.reduceAdd, Nat.reduceMul, Nat.reduceLeDiff, Int.reduceEq, Int.reduceLT, Int.reduceLE, Int.reduceAdd, Int.reduceSub, Int.reduceNeg, Int.reduceMul, Int.reduceToNat, Int.cast_ofNat_Int, Int.natCast_zero, Nat.add_zero, reduceCtorEq]
      refine Does.call (does_i_HouseStock K hl) ?_
      rintro _ H9 ⟨c9, F9, rfl, s9, hs2⟩
      replace hl := Step.stay s9 RHouse.good hl
      replace hl1 := Step.keepSl s9 RRec.good hl1 (fun b _ => by simp)
      replace hx := Step.stay s9 RStock.good hx
      replace hy := Step.stay s9 RStock.good hy
      replace hu := Step.stay s9 RStock.good hu
      replace hup := Step.stay s9 RHouse.good hup
      replace hz := Step.stay s9 RHouse.good hz
      replace hs1 := Step.stay s9 RStock.good hs1
      obtain ⟨hs2_0, hs2_1, rfl⟩ := len2 hs2.cells
      simp only [go_sem, Nat.reduceEqDiff, Nat.reduceAdd, Nat.reduceMul, Nat.reduceLeDiff, Int.reduceEq, Int.reduceLT, Int.reduceLE, Int.reduceAdd, Int.reduceSub, Int.reduceNeg, Int.reduceMul, Int.reduceToNat, Int.cast_ofNat_Int, Int.natCast_zero, Nat.add_zero, reduceCtorEq]
      refine Does.test (does_w_lnStock K hs1 hs2) ?_
      simp only [go_sem, Nat.reduceEqDiff, Nat.reduceAdd, Nat.reduceMul, Nat.reduceLeDiff, Int.reduceEq, Int.reduceLT, Int.reduceLE, Int.reduceAdd, Int.reduceSub, Int.reduceNeg, Int.reduceMul, Int.reduceToNat, Int.cast_ofNat_Int, Int.natCast_zero, Nat.add_zero, reduceCtorEq]
      exact hQ _ _ (Ends.ret rfl rfl)
    | true =>
      obtain ⟨cq, Fq, hq, hcq, _⟩ := slc_take hl1 (k := log.forced.toNat) (by omega)
      rw [show ((log.forced.toNat : Nat) : Int) = log.forced by omega] at hq
      replace hcq : Recs H4 cq (known log true) Fq := hcq
      simp only [go_sem, Nat.reduceEqDiff, Nat.reduceAdd, Nat.reduceMul, Nat.reduceLeDiff, Int.reduceEq, Int.reduceLT, Int.reduceLE, Int.reduceAdd, Int.reduceSub, Int.reduceNeg, Int.reduceMul, Int.reduceToNat, Int.cast_ofNat_Int, Int.natCast_zero, Nat.add_zero, reduceCtorEq, hl1.len, hq]
      refine Does.call (does_i_StockOf K hcq) ?_
      rintro _ H6 ⟨c6, F6, rfl, s6, hu⟩
      replace hl := Step.stay s6 RHouse.good hl
      replace hl1 := Step.keepSl s6 RRec.good hl1 (fun b _ => by simp)
      replace hx := Step.stay s6 RStock.good hx
      replace hy := Step.stay s6 RStock.good hy
      obtain ⟨u0, u1, rfl⟩ := len2 hu.cells
      have eu : stockD room (known log true) = stockV ⟨id, up, room, log⟩ true := by
        have := hst true; simp only at this; simp [stockD, this]
      have ei : (stockOf room (known log true)).isSome = true := by have := hst true; simp only at this; simp [this]
      rw [eu] at hu
      have hup : RHouse H6 [.int .i64 id, .bool true, .int .i64 room, c1, .int .i64 log.forced] ⟨id, true, room, log⟩ F1 := ⟨c1, rfl, hl1⟩
      simp only [go_sem, Nat.reduceEqDiff, Nat.reduceAdd, Nat.reduceMul, Nat.reduceLeDiff, Int.reduceEq, Int.reduceLT, Int.reduceLE, Int.reduceAdd, Int.reduceSub, Int.reduceNeg, Int.reduceMul, Int.reduceToNat, Int.cast_ofNat_Int, Int.natCast_zero, Nat.add_zero, reduceCtorEq]
      refine Does.call (does_i_HouseForce K hup) ?_
      rintro _ H7 ⟨c7, F7, rfl, s7, hz⟩
      replace hl := Step.stay s7 RHouse.good hl
      replace hl1 := Step.keepSl s7 RRec.good hl1 (fun b _ => by simp)
      replace hx := Step.stay s7 RStock.good hx
      replace hy := Step.stay s7 RStock.good hy
      replace hu := Step.stay s7 RStock.good hu
      replace hup := Step.stay s7 RHouse.good hup
      obtain ⟨hz_0, hz_1, hz_2, hz_3, hz_4, rfl⟩ := len5 hz.cells
      rw [e] at hz
      simp only [go_sem, Nat.reduceEqDiff, Nat.reduceAdd, Nat.reduceMul, Nat.reduceLeDiff, Int.reduceEq, Int.reduceLT, Int.reduceLE, Int.reduceAdd, Int.reduceSub, Int.reduceNeg, Int.reduceMul, Int.reduceToNat, Int.cast_ofNat_Int, Int.natCast_zero, Nat.add_zero, reduceCtorEq, ei]
      refine Does.test (does_w_lnStock K hu hx) ?_
      simp only [go_sem, Nat.reduceEqDiff, Nat.reduceAdd, Nat.reduceMul, Nat.reduceLeDiff, Int.reduceEq, Int.reduceLT, Int.reduceLE, Int.reduceAdd, Int.reduceSub, Int.reduceNeg, Int.reduceMul, Int.reduceToNat, Int.cast_ofNat_Int, Int.natCast_zero, Nat.add_zero, reduceCtorEq]
      refine Does.test (does_i_StockOk K hx) ?_
      simp only [go_sem, Nat.reduceEqDiff, Nat.reduceAdd, Nat.reduceMul, Nat.reduceLeDiff, Int.reduceEq, Int.reduceLT, Int.reduceLE, Int.reduceAdd, Int.reduceSub, Int.reduceNeg, Int.reduceMul, Int.reduceToNat, Int.cast_ofNat_Int, Int.natCast_zero, Nat.add_zero, reduceCtorEq, hsok]
      refine Does.call (does_i_HouseStock K hz) ?_
      rintro _ H8 ⟨c8, F8, rfl, s8, hs1⟩
      replace hl := Step.stay s8 RHouse.good hl
      replace hl1 := Step.keepSl s8 RRec.good hl1 (fun b _ => by simp)
      replace hx := Step.stay s8 RStock.good hx
      replace hy := Step.stay s8 RStock.good hy
      replace hu := Step.stay s8 RStock.good hu
      replace hup := Step.stay s8 RHouse.good hup
      replace hz := Step.stay s8 RHouse.good hz
      obtain ⟨hs1_0, hs1_1, rfl⟩ := len2 hs1.cells
      rw [e5] at hs1
      simp only [go_sem, Nat.reduceEqDiff, Nat.reduceAdd, Nat.reduceMul, Nat.reduceLeDiff, Int.reduceEq, Int.reduceLT, Int.reduceLE, Int.reduceAdd, Int.reduceSub, Int.reduceNeg, Int.reduceMul, Int.reduceToNat, Int.cast_ofNat_Int, Int.natCast_zero, Nat.add_zero, reduceCtorEq]
      refine Does.call (does_i_HouseStock K hl) ?_
      rintro _ H9 ⟨c9, F9, rfl, s9, hs2⟩
      replace hl := Step.stay s9 RHouse.good hl
      replace hl1 := Step.keepSl s9 RRec.good hl1 (fun b _ => by simp)
      replace hx := Step.stay s9 RStock.good hx
      replace hy := Step.stay s9 RStock.good hy
      replace hu := Step.stay s9 RStock.good hu
      replace hup := Step.stay s9 RHouse.good hup
      replace hz := Step.stay s9 RHouse.good hz
      replace hs1 := Step.stay s9 RStock.good hs1
      obtain ⟨hs2_0, hs2_1, rfl⟩ := len2 hs2.cells
      simp only [go_sem, Nat.reduceEqDiff, Nat.reduceAdd, Nat.reduceMul, Nat.reduceLeDiff, Int.reduceEq, Int.reduceLT, Int.reduceLE, Int.reduceAdd, Int.reduceSub, Int.reduceNeg, Int.reduceMul, Int.reduceToNat, Int.cast_ofNat_Int, Int.natCast_zero, Nat.add_zero, reduceCtorEq]
      refine Does.test (does_w_lnStock K hs1 hs2) ?_
      simp only [go_sem, Nat.reduceEqDiff, Nat.reduceAdd, Nat.reduceMul, Nat.reduceLeDiff, Int.reduceEq, Int.reduceLT, Int.reduceLE, Int.reduceAdd, Int.reduceSub, Int.reduceNeg, Int.reduceMul, Int.reduceToNat, Int.cast_ofNat_Int, Int.natCast_zero, Nat.add_zero, reduceCtorEq]
      exact hQ _ _ (Ends.ret rfl rfl)
end Go.AX

/- From a call's contract to what a row asks. Condition: no block that was there may be written. -/
namespace Go.AX
open Go.RowKit
theorem law_calls {P : Program} {f : FuncId} {args : List V} {H : Heap} (hd : Does P f args H fun r _ => r = .val (.c (.bool true))) (hro : ∀ (b : Nat) (B : Blk), H[b]? = some B → B.st ≠ .rw) {ρ : Rho} {w : World} {xs : Array Value} (hH : HSim ρ H w)
    (hx : All2 (VRel H.length ρ) args xs.toList) : Calls P f xs w fun e w' => e = .returned (.bool true) ∧ Below w.heap.size w w' := by
  obtain ⟨r, H', hc, rfl⟩ := hd
  refine (hc.2 ρ w xs hH hx).mono ?_
  rintro e w' ⟨ρ', x, rfl, hr, _, _, hk⟩
  have hr : x = .bool true := hr
  subst hr
  exact ⟨rfl, hk.os, hk.tape, hk.output, hk.size, fun k hk' => hk.block k hk' fun ⟨b, B, hb, hw, _⟩ => hro b B hb hw⟩
theorem hsim_nil (ρ : Rho) (w : World) : HSim ρ [] w := ⟨fun b B h => by simp at h, fun b B h => by simp at h, fun b b' B B' h => by simp at h⟩
end Go.AX
namespace Go.AX
/-! The head's words. -/
def joined : List (List Nat) → List Nat
  | [] => []
  | [w] => w
  | w :: r => w ++ 32 :: joined r
theorem wordsSigns_cons {c : Char} (h : c ≠ Char.ofNat 32) (r : List Char) : wordsSigns (c :: r) = match wordsSigns r with | w :: ws => (c :: w) :: ws | [] => [[c]] := by
  exact wordsSigns.eq_3 c r h
theorem wordsSigns_word : ∀ (w : List Char) (r : List Char), (∀ c ∈ w, c ≠ Char.ofNat 32) → wordsSigns (w ++ Char.ofNat 32 :: r) = w :: wordsSigns r
  | [], r, _ => by rw [List.nil_append]; exact wordsSigns.eq_2 r
  | c :: w, r, h => by
    rw [List.cons_append, wordsSigns_cons (h c (by simp)), wordsSigns_word w r fun d hd => h d (by simp [hd])]
theorem wordsSigns_last : ∀ (w : List Char), (∀ c ∈ w, c ≠ Char.ofNat 32) → wordsSigns w = [w]
  | [], _ => by rw [wordsSigns]
  | c :: w, h => by rw [wordsSigns_cons (h c (by simp)), wordsSigns_last w fun d hd => h d (by simp [hd])]
theorem wordsSigns_joined : ∀ (ws : List (List Nat)), ws ≠ [] → (∀ w ∈ ws, ∀ n ∈ w, Char.ofNat n ≠ Char.ofNat 32) → wordsSigns ((joined ws).map Char.ofNat) = ws.map (·.map Char.ofNat)
  | [], h, _ => absurd rfl h
  | [w], _, h => by
    simp only [joined, List.map_cons, List.map_nil]
    exact wordsSigns_last _ fun c hc => by obtain ⟨n, hn, rfl⟩ := List.mem_map.1 hc; exact h w (by simp) n hn
  | w :: v :: r, _, h => by
    have ih := wordsSigns_joined (v :: r) (by simp) fun x hx => h x (by simp only [List.mem_cons] at hx ⊢; exact .inr hx)
    rw [joined, List.map_append, List.map_cons, wordsSigns_word _ _ fun c hc => by obtain ⟨n, hn, rfl⟩ := List.mem_map.1 hc; exact h w (by simp) n hn, ih]
    · rfl
    · simp
def noBlank (ws : List (List Nat)) : Bool := ws.all fun w => w.all fun n => Char.ofNat n != Char.ofNat 32
theorem noBlank_spec {ws : List (List Nat)} (h : noBlank ws = true) : ∀ w ∈ ws, ∀ n ∈ w, Char.ofNat n ≠ Char.ofNat 32 := fun w hw n hn => by
  simp only [noBlank, List.all_eq_true, bne_iff_ne] at h
  exact h w hw n hn
theorem head_words {P : Program} {ws : List (List Nat)} (h : P.initOrder = String.ofList ((joined ws).map Char.ofNat)) (hn : ws ≠ []) (hb : noBlank ws = true) : wordsSigns P.initOrder.toList = ws.map (·.map Char.ofNat) := by
  rw [h, String.toList_ofList]; exact wordsSigns_joined ws hn (noBlank_spec hb)
end Go.AX
namespace Go.AX
/-- A head that is a cut. -/
theorem make_cut {P : Program} {w : List Char} {r : List (List Char)} (h : behindMainWord (wordsSigns P.initOrder.toList) = w :: r) (h1 : (w == "gc".toList || w == "spec".toList) = false) (h2 : (w == "cut".toList) = true) : P.make = some .cut := by
  unfold Program.make
  rw [h]
  simp only [h1, h2, Bool.true_or, if_true, Bool.false_eq_true, if_false]
theorem enters_cut {P : Program} {w : List Char} {r : List (List Char)} (h : behindMainWord (wordsSigns P.initOrder.toList) = w :: r) (hs : ((stripLifts liftWords (w :: r)).2.head? == some "cut".toList) = true) (hn : (stripLifts liftWords (w :: r)).1 = [])
    (h1 : P.laysLater = false) (h2 : P.bearsReflect = false) (h3 : P.doorFits [] = true) : P.mayEnter = true := by
  unfold Program.mayEnter
  rw [h]
  simp only [hs, hn, h1, h2, h3]
  simp
theorem lifts_cut {P : Program} {w : List Char} {r : List (List Char)} (h : behindMainWord (wordsSigns P.initOrder.toList) = w :: r) (hc : (w == "carried".toList) = false) (hn : (stripLifts liftWords (w :: r)).1 = []) : P.liftsFinal = false := by
  unfold Program.liftsFinal Program.headLifts
  simp only [h, hn]
  have : ((w :: r).head? == some "carried".toList) = false := by simpa using hc
  rw [this]
  simp
end Go.AX
namespace Go.AX
theorem both {a b : Bool} (h : a = true) (k : b = true) : (a && b) = true := by rw [h, k]; rfl
theorem facts_of {P : Program} {f : FuncId} {fn : Func} {s : ChangeSpec} {c : OpenClaim}
    (k0 : c.wf (OpenSpec.ofChange s) = true)
    (k1 : laidOutB P = true)
    (k2 : mapsRowed P = true)
    (k3 : fn.params.all (P.readableRec ·) = true)
    (k4 : namedTie P c.named s.vars = true)
    (k5 : (c.stops == []) = true)
    (k6 : (P.stops == []) = true)
    (k7 : (c.knobs == []) = true)
    (k8 : (P.stopKnobs == []) = true)
    (k9 : (c.inPlace == P.inPlace f) = true)
    (k10 : (c.unfollowed == P.unfollowed f) = true)
    (k11 : (c.recurses == P.recurses f) = true)
    (k12 : (c.named == P.varsNamed f) = true)
    (k13 : (c.maps == (fn.params.toList ++ s.plain.varTypes P).any (P.mapsRec ·)) = true)
    (k14 : (c.ifaces == (fn.params.toList ++ s.plain.varTypes P).any (P.ifacesRec ·)) = true)
    (k15 : (c.mapsOut == P.mapsAmong fn.resultTypes.toList) = true)
    (k16 : (c.loops == (fn.params.toList ++ s.plain.varTypes P).any (P.loopsFrom ·)) = true)
    (k17 : (c.wideKeys == (fn.params.toList ++ s.plain.varTypes P ++ fn.resultTypes.toList).any (P.wideKeysFrom ·)) = true)
    (k18 : s.vars.all (P.varReadable ·) = true)
    (k19 : fn.resultTypes.all (fun t => P.readableRec t && decide (t < P.types.size)) = true)
    (k20 : (c.ifacesOut == fn.resultTypes.toList.any (P.ifacesRec ·)) = true)
    (k21 : (c.loopsOut == fn.resultTypes.toList.any (P.loopsFrom ·)) = true)
    (k22 : (c.plainKeys == P.plainKeys) = true)
    (k23 : c.shortTexts.isNone = true)
    (k24 : P.stopsHeard = true)
    (k25 : P.mayEnter = true)
    (k26 : (c.lifted == P.liftsFinal) = true)
    (k27 : (P.make == some c.make) = true)
    (k28a : c.kinds = []) (k28b : c.domain.isEmpty = true)
    (k29 : (c.pinned == c.pinnedBy) = true)
    (k30 : (c.veiled == (fn.params.toList ++ s.plain.varTypes P ++ fn.resultTypes.toList).any (P.veiledRec ·)) = true)
    (k31 : c.veiledFits P fn.params.toList (fn.params.toList ++ s.plain.varTypes P ++ fn.resultTypes.toList) = true)
    : joinedFacts P f fn s c = true := by
  have k28 : (c.kinds == (if c.domain.isEmpty then [] else fn.params.toList.map fun t => match P.underlying t with | some (.int k) => some k | _ => none)) = true := by rw [k28a, if_pos k28b]; rfl
  unfold joinedFacts
  exact (both (both (both (both (both (both (both (both (both (both (both (both (both (both (both (both (both (both (both (both (both (both (both (both (both (both (both (both (both (both (both k0 k1) k2) k3) k4) k5) k6) k7) k8) k9) k10) k11) k12) k13) k14) k15) k16) k17) k18) k19) k20) k21) k22) k23) k24) k25) k26) k27) k28) k29) k30) k31)
end Go.AX

/- How a law's arguments lie in memory: what a row's arguments are, told as the abstract machine's data, all of it only read. No condition. -/
namespace Go.AX
section
variable {H : Type} {enc : TypeId × Value → H} {P : Program} {W : World}

/-- All blocks are only read. -/
def RoH (K : Heap) : Prop := ∀ (b : Nat) (B : Blk), K[b]? = some B → B.st = .ro
/-- More blocks behind. -/
def ExtH (ρ : Rho) (K : Heap) (ρ' : Rho) (K' : Heap) : Prop := (∃ E, K' = K ++ E) ∧ ∀ b, b < K.length → ρ' b = ρ b
theorem ExtH.refl (ρ : Rho) (K : Heap) : ExtH ρ K ρ K := ⟨⟨[], by simp⟩, fun _ _ => rfl⟩
theorem ExtH.len {ρ ρ' : Rho} {K K' : Heap} (h : ExtH ρ K ρ' K') : K.length ≤ K'.length := by obtain ⟨⟨E, rfl⟩, _⟩ := h; simp
theorem ExtH.trans {ρ ρ1 ρ2 : Rho} {K K1 K2 : Heap} (h : ExtH ρ K ρ1 K1) (g : ExtH ρ1 K1 ρ2 K2) : ExtH ρ K ρ2 K2 := by
  have hl := h.len
  obtain ⟨⟨E, rfl⟩, h2⟩ := h
  obtain ⟨⟨E', rfl⟩, g2⟩ := g
  exact ⟨⟨E ++ E', by simp⟩, fun b hb => (g2 b (by simp; omega)).trans (h2 b hb)⟩
theorem ExtH.get {ρ ρ' : Rho} {K K' : Heap} (h : ExtH ρ K ρ' K') {b : Nat} (hb : b < K.length) : K'[b]? = K[b]? := by
  obtain ⟨⟨E, rfl⟩, _⟩ := h
  exact List.getElem?_append_left hb
theorem ExtH.crel {ρ ρ' : Rho} {K K' : Heap} (h : ExtH ρ K ρ' K') {c : C} {v : Value} (hc : CRel K.length ρ c v) : CRel K'.length ρ' c v := CRel.mono h.len h.2 hc
theorem ExtH.vrel {ρ ρ' : Rho} {K K' : Heap} (h : ExtH ρ K ρ' K') {c : V} {v : Value} (hc : VRel K.length ρ c v) : VRel K'.length ρ' c v := VRel.mono h.len h.2 hc
theorem ExtH.all {ρ ρ' : Rho} {K K' : Heap} (h : ExtH ρ K ρ' K') {cs : List C} {vs : List Value} (hc : All2 (CRel K.length ρ) cs vs) : All2 (CRel K'.length ρ') cs vs := hc.mono fun _ _ => h.crel
theorem ExtH.rep {ρ ρ' : Rho} {K K' : Heap} (h : ExtH ρ K ρ' K') {α : Type} {R : RepS α} (hR : Good R) {cs : List C} {x : α} {F : List Nat} (hr : R K cs x F) : R K' cs x F :=
  hR.frame _ _ _ _ _ hr fun b hb => h.get (hR.lt _ _ _ _ hr b hb)
theorem ExtH.repSl {ρ ρ' : Rho} {K K' : Heap} (h : ExtH ρ K ρ' K') {α : Type} {R : RepS α} (hR : Good R) {n : Nat} {c : C} {xs : List α} {F : List Nat} (hr : SlR n R K c xs F) : SlR n R K' c xs F :=
  hr.frame hR fun b hb => h.get (hr.lt hR b hb)
/-- One block more, whose cells stand in memory. -/
theorem ext_push {ρ : Rho} {K : Heap} (hs : HSim ρ K W) (hro : RoH K) (p : Pl) {n : Nat} {cs : List C} {vs : List Value} (hp : p.sz = n) {arr : Array Value} {t : TypeId} {fr : Nat × Nat} (hb : W.heap[p.blk]? = some (.cells arr t fr))
    (hc : ∀ i v, vs[i]? = some v → arr[p.off + i]? = some v) (ha : All2 (CRel K.length ρ) cs vs) :
    ∃ ρ', ExtH ρ K ρ' (K ++ [⟨.ro, n, cs⟩]) ∧ HSim ρ' (K ++ [⟨.ro, n, cs⟩]) W ∧ RoH (K ++ [⟨.ro, n, cs⟩]) ∧ ρ' K.length = p := by
  have he : ExtH ρ K (fun b => if b = K.length then p else ρ b) (K ++ [⟨.ro, n, cs⟩]) := ⟨⟨_, rfl⟩, fun b hb => if_neg (by omega)⟩
  have hro' : RoH (K ++ [⟨.ro, n, cs⟩]) := fun b B hB => by
    rw [List.getElem?_append] at hB
    split at hB
    · exact hro b B hB
    · have : B = ⟨.ro, n, cs⟩ := by
        have := List.mem_of_getElem? hB
        simpa using this
      rw [this]
  refine ⟨fun b => if b = K.length then p else ρ b, he, ⟨fun b B hB hd => ?_, fun b B hB hd => ?_, fun b b' B B' hB _ hw => absurd (hro' b B hB) (by rw [hw]; decide)⟩, hro', if_pos rfl⟩
  · by_cases e : b = K.length
    · subst e
      simp at hB; subst hB
      refine ⟨arr, t, fr, by simpa using hb, fun i c hi => ?_, fun h => by cases h⟩
      obtain ⟨v, hv, hr⟩ := ha.get hi
      exact ⟨v, by simpa using hc i v hv, he.crel hr⟩
    · have hlt : b < K.length := by
        have := (List.getElem?_eq_some_iff.1 hB).1
        simp at this; omega
      rw [List.getElem?_append_left hlt] at hB
      obtain ⟨arr', t', fr', h1, h2, h3⟩ := hs.blk b B hB hd
      simp only [if_neg e]
      exact ⟨arr', t', fr', h1, fun i c hi => by obtain ⟨v, hv, hr⟩ := h2 i c hi; exact ⟨v, hv, he.crel hr⟩, fun h => absurd (hro b B hB) (by rw [h]; decide)⟩
  · by_cases e : b = K.length
    · subst e
      simp at hB; subst hB
      simpa using hp
    · have hlt : b < K.length := by
        have := (List.getElem?_eq_some_iff.1 hB).1
        simp at this; omega
      rw [List.getElem?_append_left hlt] at hB
      simp only [if_neg e]
      exact hs.sz b B hB hd

/-- What is read of a type, told as data. -/
def Opens (enc : TypeId × Value → H) (P : Program) (W : World) (t : TypeId) (n : Nat) {α : Type} (R : RepS α) : Prop :=
  ∀ (fuel : Nat) (cs : List Value) (x : DataW H × List MemPlace), DataW.trod enc P W 0 (fun _ => true) true fuel t cs = some x → (∀ k ∈ x.1.weights P t, k ≤ reachBytes) →
    ∀ (ρ : Rho) (K : Heap), HSim ρ K W → RoH K → ∃ ρ' K' acs y F, ExtH ρ K ρ' K' ∧ HSim ρ' K' W ∧ RoH K' ∧ acs.length = n ∧ All2 (CRel K'.length ρ') acs cs ∧ R K' acs y F

theorem opens_int {t : TypeId} (ht : P.underlying t = some (.int .i64)) : Opens enc P W t 1 RInt := fun fuel cs x h _ ρ K hs hro => by
  obtain ⟨n, rfl, _, _⟩ := DataW.trod_int ht h
  exact ⟨ρ, K, [.int .i64 n], n, [], ExtH.refl _ _, hs, hro, rfl, .cons rfl .nil, rfl, rfl⟩
theorem opens_byte {t : TypeId} (ht : P.underlying t = some (.int .u8)) : Opens enc P W t 1 RByte := fun fuel cs x h _ ρ K hs hro => by
  obtain ⟨n, rfl, _, hw⟩ := DataW.trod_int ht h
  refine ⟨ρ, K, [.int .u8 n], n, [], ExtH.refl _ _, hs, hro, rfl, .cons rfl .nil, rfl, ?_, rfl⟩
  simp [Lit.wf, IntKind.min, IntKind.max, IntKind.signed, IntKind.bits] at hw
  omega
def RBool : RepS Bool := fun _ cs x F => cs = [.bool x] ∧ F = []
theorem opens_bool {t : TypeId} (ht : P.underlying t = some .bool) : Opens enc P W t 1 RBool := fun fuel cs x h _ ρ K hs hro => by
  obtain ⟨n, rfl, _⟩ := DataW.trod_bool ht h
  exact ⟨ρ, K, [.bool n], n, [], ExtH.refl _ _, hs, hro, rfl, .cons rfl .nil, rfl, rfl⟩

theorem weightsAll_mem {e : TypeId} : ∀ {l : List (DataW H)} {d : DataW H}, d ∈ l → ∀ k ∈ d.weights P e, k ∈ DataW.weightsAll P e l
  | a :: l, d, h, k, hk => by
    simp only [DataW.weightsAll, List.mem_append]
    rcases List.mem_cons.1 h with rfl | h
    · exact .inl hk
    · exact .inr (weightsAll_mem h k hk)

/-- Elements, one behind the other. -/
theorem opens_many {e : TypeId} {n : Nat} {α : Type} {R : RepS α} (hR : Good R) (ho : Opens enc P W e n R) (fuel : Nat) (V : Nat → List Value) :
    ∀ (m : Nat), (∀ i, i < m → ∃ x, DataW.trod enc P W 0 (fun _ => true) true fuel e (V i) = some x ∧ ∀ k ∈ x.1.weights P e, k ≤ reachBytes) →
    ∀ (ρ : Rho) (K : Heap), HSim ρ K W → RoH K → ∃ ρ' K' css ys fs, ExtH ρ K ρ' K' ∧ HSim ρ' K' W ∧ RoH K' ∧ All3 n (R K') css ys fs ∧ css.length = m ∧ All2 (CRel K'.length ρ') css.flatten ((List.range m).flatMap V)
  | 0, _, ρ, K, hs, hro => ⟨ρ, K, [], [], [], ExtH.refl _ _, hs, hro, .nil, rfl, .nil⟩
  | m + 1, h, ρ, K, hs, hro => by
    obtain ⟨ρ1, K1, css, ys, fs, h1, h2, h3, h4, h5, h6⟩ := opens_many hR ho fuel V m (fun i hi => h i (by omega)) ρ K hs hro
    obtain ⟨x, hx, hw⟩ := h m (by omega)
    obtain ⟨ρ2, K2, acs, y, F, g1, g2, g3, g4, g5, g6⟩ := ho fuel (V m) x hx hw ρ1 K1 h2 h3
    refine ⟨ρ2, K2, css ++ [acs], ys ++ [y], fs ++ [F], h1.trans g1, g2, g3, (h4.mono fun c z f _ hr => g1.rep hR hr).app (.cons g4 g6 .nil), by simp [h5], ?_⟩
    rw [List.range_succ, List.flatMap_append, List.flatten_append]
    refine (g1.all h6).append ?_
    simpa using g5

theorem mapM_range_get {β : Type} {f : Nat → Option β} {n : Nat} {l : List β} (h : (List.range n).mapM f = some l) : l.length = n ∧ ∀ i, i < n → f i = l[i]? := by
  refine ⟨by simpa using mapM_some_length h, fun i hi => by simpa using mapM_some_get h i i (by simp [hi])⟩

theorem cells_at {a : Addr} {n : Nat} {vs : List Value} (hn : 0 < n) (h : W.cells? 0 a n = some vs) : a.spot = none ∧ ∃ arr t fr, W.heap[a.block]? = some (.cells arr t fr) := by
  obtain ⟨_, h2, h3⟩ := World.cells?_some h
  have h4 := h3 0 hn
  obtain ⟨v, hv⟩ : ∃ v, vs[0]? = some v := ⟨vs[0]'(by omega), by simp⟩
  rw [hv] at h4
  simp only [Addr.add, if_true, World.cell?] at h4
  split at h4
  · rename_i c t fr hb
    refine ⟨?_, c, t, fr, hb⟩
    cases hs : a.spot with
    | none => rfl
    | some z => rw [hs] at h4; simp at h4
  · cases h4
theorem flat_get {V : Nat → List Value} {n : Nat} {g : Nat → Option Value} (hn : 0 < n) : ∀ (len : Nat), (∀ i, i < len → (V i).length = n ∧ ∀ r, r < n → (V i)[r]? = g (i * n + r)) → ((List.range len).flatMap V).length = len * n ∧ ∀ j, j < len * n → ((List.range len).flatMap V)[j]? = g j
  | 0, _ => ⟨by simp, fun j hj => by omega⟩
  | len + 1, h => by
    obtain ⟨h1, h2⟩ := flat_get hn len fun i hi => h i (by omega)
    obtain ⟨h3, h4⟩ := h len (by omega)
    rw [List.range_succ, List.flatMap_append]
    refine ⟨by simp [h1, h3, Nat.succ_mul], fun j hj => ?_⟩
    rw [List.getElem?_append, h1]
    split
    · rename_i hlt; exact h2 j hlt
    · rename_i hge
      rw [Nat.succ_mul] at hj
      have := h4 (j - len * n) (by omega)
      rw [show len * n + (j - len * n) = j by omega] at this
      simpa using this

/-- A slice. -/
theorem opens_slice {t e : TypeId} {n : Nat} {α : Type} {R : RepS α} (hR : Good R) (ht : P.underlying t = some (.slice e)) (hn : P.cellsOf e = n) (h0 : 0 < n) (hb : 0 < P.bytesOf e) (ho : Opens enc P W e n R) : Opens enc P W t 1 (SlS n R) := by
  intro fuel cs x h hw ρ K hs hro
  rcases DataW.trod_slice ht h with ⟨rfl, _⟩ | ⟨a, len, cap, elems, rest, m, _, rfl, rfl, _, hl, hm, hlen, hel, hsp, _⟩
  · exact ⟨ρ, K, [.nil], [], [], ExtH.refl _ _, hs, hro, rfl, .cons rfl .nil, .nil, rfl, .nil⟩
  obtain ⟨hrl, hre⟩ := hsp rfl
  rw [hn] at hel hre
  have hwt : (elems.length + rest.length) * P.bytesOf e ≤ reachBytes := hw _ (by simp [DataW.weights, ht])
  have htop : len ≤ lenTop := by
    have h1 : elems.length + rest.length ≤ (elems.length + rest.length) * P.bytesOf e := Nat.le_mul_of_pos_right _ hb
    have h2 : reachBytes ≤ lenTop := by decide
    omega
  have hget : ∀ i, i < cap → ∃ vs y, W.cells? 0 (a.add (i * n)) n = some vs ∧ DataW.trod enc P W 0 (fun _ => true) true m e vs = some y ∧ (i < len → ∀ k ∈ y.1.weights P e, k ≤ reachBytes) := by
    intro i hi
    by_cases hlt : i < len
    · have h1 := hel i hlt
      rw [List.getElem?_eq_getElem (by omega), Option.bind_eq_some_iff] at h1
      obtain ⟨vs, h2, h3⟩ := h1
      refine ⟨vs, _, h2, h3, fun _ k hk => hw k ?_⟩
      simp only [DataW.weights, ht, List.mem_cons, List.mem_append]
      exact .inr (.inl (weightsAll_mem (List.mem_map_of_mem (List.getElem_mem _)) k hk))
    · have h1 := hre (i - len) (by omega)
      rw [show len + (i - len) = i by omega, List.getElem?_eq_getElem (by omega), Option.bind_eq_some_iff] at h1
      obtain ⟨vs, h2, h3⟩ := h1
      exact ⟨vs, _, h2, h3, fun hc => absurd hc hlt⟩
  by_cases hc : cap = 0
  · subst hc
    obtain rfl : len = 0 := by omega
    exact ⟨ρ, K, [.emp true], [], [], ExtH.refl _ _, hs, hro, rfl, .cons ⟨a, 0, rfl, fun _ => rfl⟩ .nil, .emp true, rfl, .emp⟩
  obtain ⟨vs0, y0, hv0, _, _⟩ := hget 0 (by omega)
  rw [Nat.zero_mul, show a.add 0 = a from rfl] at hv0
  obtain ⟨hspot, arr, tt, fr, hblk⟩ := cells_at h0 hv0
  obtain ⟨ab, ao, as⟩ := a
  simp only at hspot hblk
  subst hspot
  have hcell : ∀ j, W.cell? ((⟨ab, ao, none⟩ : Addr).add j) = arr[ao + j]? := fun j => by
    unfold Addr.add
    split
    · rename_i hj; subst hj; simp [World.cell?, hblk]
    · simp [World.cell?, hblk]
  have hV : ∀ i, i < len → ((W.cells? 0 ((⟨ab, ao, none⟩ : Addr).add (i * n)) n).getD []).length = n ∧ ∀ r, r < n → ((W.cells? 0 ((⟨ab, ao, none⟩ : Addr).add (i * n)) n).getD [])[r]? = arr[ao + (i * n + r)]? := by
    intro i hi
    obtain ⟨vs, y, h1, _, _⟩ := hget i (by omega)
    obtain ⟨_, h2, h3⟩ := World.cells?_some h1
    rw [h1]
    refine ⟨h2, fun r hr => ?_⟩
    have h4 := h3 r hr
    rw [show ((⟨ab, ao, none⟩ : Addr).add (i * n)).add r = (⟨ab, ao, none⟩ : Addr).add (i * n + r) by
      unfold Addr.add; split <;> split <;> split <;> simp_all <;> omega, hcell] at h4
    simpa using h4.symm
  obtain ⟨ρ1, K1, css, ys, fs, h1, h2, h3, h4, h5, h6⟩ := opens_many hR ho m (fun i => (W.cells? 0 ((⟨ab, ao, none⟩ : Addr).add (i * n)) n).getD []) len (fun i hi => by
    obtain ⟨vs, y, g1, g2, g3⟩ := hget i (by omega)
    exact ⟨y, by rw [g1]; exact g2, g3 hi⟩) ρ K hs hro
  obtain ⟨f1, f2⟩ := flat_get (g := fun j => arr[ao + j]?) h0 len hV
  obtain ⟨ρ2, k1, k2, k3, k4⟩ := ext_push h2 h3 ⟨ab, ao, cap * n, n⟩ (n := n) rfl hblk (fun i v hv => by
    have hi := (List.getElem?_eq_some_iff.1 hv).1
    rw [f1] at hi
    rw [← f2 i hi]; exact hv) h6
  have hyl : ys.length = len := by rw [← h5, h4.len.1]
  refine ⟨ρ2, _, [.sl K1.length 0 len], ys, K1.length :: fs.flatten, h1.trans k1, k2, k3, rfl, .cons ⟨by simp, cap, ?_, hl, ?_⟩ .nil, _, rfl, .inr ⟨K1.length, [], [], css, fs, .ro, ?_, rfl, by simp, by decide, h4.mono fun c z f _ hr => k1.rep hR hr, by omega⟩⟩
  · rw [k4]; simp
  · rw [k4]; simp
  · rw [hyl]; rfl
end
/-! The structs. -/
section
variable {H : Type} {enc : TypeId × Value → H} {P : Program} {W : World}
theorem weightsEach_mem {ts : List TypeId} {ds : List (DataW H)} {j : Nat} {t : TypeId} {d : DataW H} (ht : ts[j]? = some t) (hd : ds[j]? = some d) {N : Nat} (h : ∀ k ∈ DataW.weightsEach P ts ds, k ≤ N) : ∀ k ∈ d.weights P t, k ≤ N := fun k hk => h k (DataW.weights_mem_each ht hd k hk)
/-- Fields, one behind the other. -/
def OpensF (enc : TypeId × Value → H) (P : Program) (W : World) (fs : List Field) (off n : Nat) {α : Type} (R : RepS α) : Prop :=
  ∀ (m : Nat) (xs : List (DataW H × List MemPlace)) (cs : List Value), xs.length = fs.length →
    (∀ (i : Nat) (f : Field), fs[i]? = some f → DataW.trod enc P W 0 (fun _ => true) true m f.type ((cs.drop f.offset).take (P.cellsOf f.type)) = xs[i]?) →
    (∀ k ∈ DataW.weightsEach P (fs.map (·.type)) (xs.map (·.1)), k ≤ reachBytes) →
    ∀ (ρ : Rho) (K : Heap), HSim ρ K W → RoH K → ∃ ρ' K' acs y F, ExtH ρ K ρ' K' ∧ HSim ρ' K' W ∧ RoH K' ∧ acs.length = n ∧ All2 (CRel K'.length ρ') acs ((cs.drop off).take n) ∧ R K' acs y F
def RUnit : RepS Unit := fun _ cs _ F => cs = [] ∧ F = []
def RPair {α β : Type} (R : RepS α) (R' : RepS β) : RepS (α × β) := fun K cs x F => ∃ c1 c2 F1 F2, cs = c1 ++ c2 ∧ F = F1 ++ F2 ∧ R K c1 x.1 F1 ∧ R' K c2 x.2 F2
theorem opensF_nil {off : Nat} : OpensF enc P W [] off 0 RUnit := fun m xs cs _ _ _ ρ K hs hro => ⟨ρ, K, [], (), [], ExtH.refl _ _, hs, hro, rfl, by simpa using All2.nil, rfl, rfl⟩
theorem opensF_cons {f : Field} {fs : List Field} {off n1 n2 : Nat} {α β : Type} {R : RepS α} {R' : RepS β} (hR : Good R) (h1 : f.offset = off) (h2 : P.cellsOf f.type = n1) (ho : Opens enc P W f.type n1 R) (hr : OpensF enc P W fs (off + n1) n2 R') :
    OpensF enc P W (f :: fs) off (n1 + n2) (RPair R R') := by
  intro m xs cs hl hx hw ρ K hs hro
  match xs, hl with
  | x :: xs, hl =>
    have g0 := hx 0 f rfl
    simp only [List.getElem?_cons_zero] at g0
    rw [h1, h2] at g0
    simp only [List.map_cons, DataW.weightsEach, List.mem_append] at hw
    obtain ⟨ρ1, K1, a1, y1, F1, e1, s1, r1, l1, c1, q1⟩ := ho m _ x g0 (fun k hk => hw k (.inl hk)) ρ K hs hro
    obtain ⟨ρ2, K2, a2, y2, F2, e2, s2, r2, l2, c2, q2⟩ := hr m xs cs (by simpa using hl) (fun i f' hf => hx (i + 1) f' (by simpa using hf)) (fun k hk => hw k (.inr hk)) ρ1 K1 s1 r1
    refine ⟨ρ2, K2, a1 ++ a2, (y1, y2), F1 ++ F2, e1.trans e2, s2, r2, by simp [l1, l2], ?_, a1, a2, F1, F2, rfl, rfl, e2.rep hR q1, q2⟩
    rw [List.take_add, List.drop_drop]
    exact (e2.all c1).append c2
theorem opens_struct {t : TypeId} {fs : Array Field} {n : Nat} {α : Type} {R : RepS α} (ht : P.underlying t = some (.struct fs)) (hn : P.cellsOf t = n) (ho : OpensF enc P W fs.toList 0 n R) : Opens enc P W t n R := by
  intro fuel cs x h hw ρ K hs hro
  obtain ⟨xs, m, _, rfl, hl, hxl, hx⟩ := DataW.trod_struct ht h
  have hw' : ∀ k ∈ DataW.weightsEach P (fs.toList.map (·.type)) (xs.map (·.1)), k ≤ reachBytes := fun k hk => hw k (by simpa only [DataW.weights, ht] using hk)
  obtain ⟨ρ1, K1, a1, y1, F1, e1, s1, r1, l1, c1, q1⟩ := ho m xs cs (by simpa using hxl) (fun i f hf => hx i f (by simpa using hf)) hw' ρ K hs hro
  refine ⟨ρ1, K1, a1, y1, F1, e1, s1, r1, l1, ?_, q1⟩
  rw [List.drop_zero, List.take_of_length_le (by omega)] at c1
  exact c1
theorem Opens.map {t : TypeId} {n : Nat} {α β : Type} {R : RepS α} {R' : RepS β} (h : Opens enc P W t n R) (hm : ∀ K cs x F, R K cs x F → ∃ y F', R' K cs y F') : Opens enc P W t n R' := by
  intro fuel cs x hx hw ρ K hs hro
  obtain ⟨ρ1, K1, a1, y1, F1, e1, s1, r1, l1, c1, q1⟩ := h fuel cs x hx hw ρ K hs hro
  obtain ⟨y, F', hq⟩ := hm _ _ _ _ q1
  exact ⟨ρ1, K1, a1, y, F', e1, s1, r1, l1, c1, hq⟩
theorem RBool.good : Good RBool := ⟨fun _ _ _ _ _ h _ => h, fun _ _ _ _ h => by simp [h.2]⟩
theorem good_ints : Good (SlS 1 RInt) := SlR.good RInt.good
theorem good_recs : Good (SlS 3 RRec) := SlR.good RRec.good
theorem good_words : Good (SlS 4 RWord) := SlR.good RWord.good
theorem good_houses : Good (SlS 5 RHouse) := SlR.good RHouse.good

/-! An argument. -/
theorem open_cell {t : TypeId} {v : Value} {d : DataW H} {ps : List MemPlace} {α : Type} {R : RepS α} (ho : Opens enc P W t 1 R) (hv : v.cells.toList = [v]) (hd : DataW.Trod enc P W 0 (fun _ => true) true t v d ps) (hw : ∀ k ∈ d.weights P t, k ≤ reachBytes)
    (ρ : Rho) (K : Heap) (hs : HSim ρ K W) (hro : RoH K) : ∃ ρ' K' c y F, ExtH ρ K ρ' K' ∧ HSim ρ' K' W ∧ RoH K' ∧ VRel K'.length ρ' (.c c) v ∧ R K' [c] y F := by
  obtain ⟨fuel, hf⟩ := hd
  obtain ⟨ρ1, K1, a1, y1, F1, e1, s1, r1, l1, c1, q1⟩ := ho fuel _ _ hf hw ρ K hs hro
  rw [hv] at c1
  match a1, l1, c1 with
  | [c], _, .cons h _ => exact ⟨ρ1, K1, c, y1, F1, e1, s1, r1, h, q1⟩
theorem open_agg {t : TypeId} {v : Value} {d : DataW H} {ps : List MemPlace} {n : Nat} {α : Type} {R : RepS α} (ho : Opens enc P W t n R) {arr : Array Value} (hv : v = .agg arr) (hd : DataW.Trod enc P W 0 (fun _ => true) true t v d ps) (hw : ∀ k ∈ d.weights P t, k ≤ reachBytes)
    (ρ : Rho) (K : Heap) (hs : HSim ρ K W) (hro : RoH K) : ∃ ρ' K' cs y F, ExtH ρ K ρ' K' ∧ HSim ρ' K' W ∧ RoH K' ∧ VRel K'.length ρ' (.agg cs) v ∧ R K' cs y F := by
  subst hv
  obtain ⟨fuel, hf⟩ := hd
  obtain ⟨ρ1, K1, a1, y1, F1, e1, s1, r1, l1, c1, q1⟩ := ho fuel _ _ hf hw ρ K hs hro
  exact ⟨ρ1, K1, a1, y1, F1, e1, s1, r1, ⟨arr, rfl, c1⟩, q1⟩

theorem rrec_of {K : Heap} {cs : List C} {x : Int × Int × List Int × Unit} {F : List Nat} (h : RPair RInt (RPair RInt (RPair (SlS 1 RInt) RUnit)) K cs x F) : ∃ y F', RRec K cs y F' := by
  obtain ⟨c1, c2, F1, F2, rfl, rfl, ⟨rfl, rfl⟩, c3, c4, F3, F4, rfl, rfl, ⟨rfl, rfl⟩, c5, c6, F5, F6, rfl, rfl, ⟨c, rfl, h⟩, rfl, rfl⟩ := h
  exact ⟨⟨x.1, x.2.1, x.2.2.1⟩, F5, c, rfl, h⟩
theorem rlog_of {K : Heap} {cs : List C} {x : List Rec × Int × Unit} {F : List Nat} (h : RPair (SlS 3 RRec) (RPair RInt RUnit) K cs x F) : ∃ y F', RLog K cs y F' := by
  obtain ⟨c1, c2, F1, F2, rfl, rfl, ⟨c, rfl, h⟩, c3, c4, F3, F4, rfl, rfl, ⟨rfl, rfl⟩, rfl, rfl⟩ := h
  exact ⟨⟨x.1, x.2.1⟩, F1, c, rfl, h⟩
theorem rword_of {K : Heap} {cs : List C} {x : Int × Int × Int × Int × Unit} {F : List Nat} (h : RPair RInt (RPair RInt (RPair RInt (RPair RInt RUnit))) K cs x F) : ∃ y F', RWord K cs y F' := by
  obtain ⟨c1, c2, F1, F2, rfl, rfl, ⟨rfl, rfl⟩, c3, c4, F3, F4, rfl, rfl, ⟨rfl, rfl⟩, c5, c6, F5, F6, rfl, rfl, ⟨rfl, rfl⟩, c7, c8, F7, F8, rfl, rfl, ⟨rfl, rfl⟩, rfl, rfl⟩ := h
  exact ⟨⟨x.1, x.2.1, x.2.2.1, x.2.2.2.1⟩, [], rfl, rfl⟩
theorem rtrip_of {K : Heap} {cs : List C} {x : List Int × Int × Unit} {F : List Nat} (h : RPair (SlS 1 RInt) (RPair RInt RUnit) K cs x F) : ∃ y F', RTrip K cs y F' := by
  obtain ⟨c1, c2, F1, F2, rfl, rfl, ⟨c, rfl, h⟩, c3, c4, F3, F4, rfl, rfl, ⟨rfl, rfl⟩, rfl, rfl⟩ := h
  exact ⟨⟨x.1, x.2.1⟩, F1, c, rfl, h⟩
theorem rhouse_of {K : Heap} {cs : List C} {x : Int × Bool × Int × Log × Unit} {F : List Nat} (h : RPair RInt (RPair RBool (RPair RInt (RPair RLog RUnit))) K cs x F) : ∃ y F', RHouse K cs y F' := by
  obtain ⟨c1, c2, F1, F2, rfl, rfl, ⟨rfl, rfl⟩, c3, c4, F3, F4, rfl, rfl, ⟨rfl, rfl⟩, c5, c6, F5, F6, rfl, rfl, ⟨rfl, rfl⟩, c7, c8, F7, F8, rfl, rfl, ⟨c, rfl, h⟩, rfl, rfl⟩ := h
  exact ⟨⟨x.1, x.2.1, x.2.2.1, x.2.2.2.1⟩, F7, c, rfl, h⟩
theorem rdesk_of {K : Heap} {cs : List C} {x : Bool × Log × List Word × Unit} {F : List Nat} (h : RPair RBool (RPair RLog (RPair (SlS 4 RWord) RUnit)) K cs x F) : ∃ y F', RDesk K cs y F' := by
  obtain ⟨c1, c2, F1, F2, rfl, rfl, ⟨rfl, rfl⟩, c3, c4, F3, F4, rfl, rfl, ⟨c, rfl, h⟩, c5, c6, F5, F6, rfl, rfl, ⟨d, rfl, g⟩, rfl, rfl⟩ := h
  exact ⟨⟨x.1, x.2.1, x.2.2.1⟩, _, c, d, F3, F5, rfl, rfl, h, g⟩
theorem rwld_of {K : Heap} {cs : List C} {x : Desk × List House × List Word × Unit} {F : List Nat} (h : RPair RDesk (RPair (SlS 5 RHouse) (RPair (SlS 4 RWord) RUnit)) K cs x F) : ∃ y F', RWld K cs y F' := by
  obtain ⟨c1, c2, F1, F2, rfl, rfl, h0, c3, c4, F3, F4, rfl, rfl, ⟨c, rfl, h⟩, c5, c6, F5, F6, rfl, rfl, ⟨d, rfl, g⟩, rfl, rfl⟩ := h
  exact ⟨⟨x.1, x.2.1, x.2.2.1⟩, _, c1, c, d, F1, F3, F5, rfl, rfl, h0, h, g⟩
end
end Go.AX
namespace Go.AX
theorem SlS.cell {α : Type} {n : Nat} {R : RepS α} {K : Heap} {c : C} {xs : List α} {F : List Nat} (h : SlS n R K [c] xs F) : SlR n R K c xs F := by
  obtain ⟨d, e, h⟩ := h
  simp only [List.cons.injEq, and_true] at e
  subst e; exact h
theorem RInt.cell {K : Heap} {c : C} {x : Int} {F : List Nat} (h : RInt K [c] x F) : c = .int .i64 x := by
  have := h.1
  simpa using this
theorem RBool.cell {K : Heap} {c : C} {x : Bool} {F : List Nat} (h : RBool K [c] x F) : c = .bool x := by
  have := h.1
  simpa using this
end Go.AX
