/- What the law needs of the program: the contracts of its functions, each with its condition at its theorem. -/
import Derived.Test.YtncphlcbbffecaaLExactWorldOkM0
import Derived.Below
import GoSem.ClaimWrapper
import GoSem.ClaimJoined
import Derived.JoinedOf
import Derived.ChangeArms
import Derived.WideShapes
import Derived.SizedLaws
set_option linter.unusedVariables false
set_option linter.unusedSimpArgs false
/- Trips: the program and the reference do the same. Condition: the lists lie in memory. -/
namespace Go.AX
variable {P : Program} {I : Ids}
theorem does_i_TripsOk_1 (K : Codes P I) {H : Heap} {cs : List C} {t : Trip} {F : List Nat} (h : RTrip H cs t F) : Tests P I.i_TripsOk_1 H (.agg cs) (!tripOk t) := by
  obtain ⟨c, rfl, hc⟩ := h
  refine K.does K.i_TripsOk_1 rfl fun Q hQ => ?_
  simp only [go_sem, Nat.reduceEqDiff, Nat.reduceAdd, Nat.reduceMul, Nat.reduceLeDiff, Int.reduceEq, Int.reduceLT, Int.reduceLE, Int.reduceAdd, Int.reduceSub, Int.reduceNeg, Int.reduceMul, Int.reduceToNat, Int.cast_ofNat_Int, Int.natCast_zero, Nat.add_zero, reduceCtorEq, L_i_TripsOk_1]
  refine Does.test (does_i_wantedOk K hc) ?_
  cases hm : manyOk t.many with
  | false =>
    simp only [go_sem, Nat.reduceEqDiff, Nat.reduceAdd, Nat.reduceMul, Nat.reduceLeDiff, Int.reduceEq, Int.reduceLT, Int.reduceLE, Int.reduceAdd, Int.reduceSub, Int.reduceNeg, Int.reduceMul, Int.reduceToNat, Int.cast_ofNat_Int, Int.natCast_zero, Nat.add_zero, reduceCtorEq]
    exact hQ _ _ (Ends.ret rfl ⟨by simp [tupOf, tripOk, hm], rfl⟩)
  | true =>
    simp only [go_sem, Nat.reduceEqDiff, Nat.reduceAdd, Nat.reduceMul, Nat.reduceLeDiff, Int.reduceEq, Int.reduceLT, Int.reduceLE, Int.reduceAdd, Int.reduceSub, Int.reduceNeg, Int.reduceMul, Int.reduceToNat, Int.cast_ofNat_Int, Int.natCast_zero, Nat.add_zero, reduceCtorEq]
    refine Does.test (does_i_in K) ?_
    simp only [go_sem, Nat.reduceEqDiff, Nat.reduceAdd, Nat.reduceMul, Nat.reduceLeDiff, Int.reduceEq, Int.reduceLT, Int.reduceLE, Int.reduceAdd, Int.reduceSub, Int.reduceNeg, Int.reduceMul, Int.reduceToNat, Int.cast_ofNat_Int, Int.natCast_zero, Nat.add_zero, reduceCtorEq]
    exact hQ _ _ (Ends.ret rfl ⟨by simp [tupOf, tripOk, hm], rfl⟩)
theorem any_not' {α : Type} (t : α → Bool) (l : List α) : (l.any fun x => !t x) = !l.all t := by
  induction l with
  | nil => rfl
  | cons x r ih => simp only [List.any_cons, List.all_cons, ih]; cases t x <;> simp
theorem does_i_TripsOk (K : Codes P I) {H : Heap} {c : C} {l : List Trip} {F : List Nat} (h : Trips H c l F) : Does P I.i_TripsOk [.c c] H fun v H' => v = bool (tripsOk l) ∧ H' = H := by
  refine K.does K.i_TripsOk rfl fun Q hQ => ?_
  by_cases hl : (l.length : Int) ≤ 6
  · have hl' : l.length ≤ 6 := by omega
    simp only [go_sem, Nat.reduceEqDiff, Nat.reduceAdd, Nat.reduceMul, Nat.reduceLeDiff, Int.reduceEq, Int.reduceLT, Int.reduceLE, Int.reduceAdd, Int.reduceSub, Int.reduceNeg, Int.reduceMul, Int.reduceToNat, Int.cast_ofNat_Int, Int.natCast_zero, Nat.add_zero, reduceCtorEq, L_i_TripsOk, h.len, hl]
    refine Does.test (does_g_ContainsFunc_Trip K h (fun t => !tripOk t) fun cs x f' _ hr _ => does_i_TripsOk_1 K hr) ?_
    simp only [go_sem, Nat.reduceEqDiff, Nat.reduceAdd, Nat.reduceMul, Nat.reduceLeDiff, Int.reduceEq, Int.reduceLT, Int.reduceLE, Int.reduceAdd, Int.reduceSub, Int.reduceNeg, Int.reduceMul, Int.reduceToNat, Int.cast_ofNat_Int, Int.natCast_zero, Nat.add_zero, reduceCtorEq, any_not']
    exact hQ _ _ (Ends.ret rfl ⟨by simp [tupOf, tripsOk, hl'], rfl⟩)
  · have hl' : ¬ l.length ≤ 6 := by omega
    simp only [go_sem, Nat.reduceEqDiff, Nat.reduceAdd, Nat.reduceMul, Nat.reduceLeDiff, Int.reduceEq, Int.reduceLT, Int.reduceLE, Int.reduceAdd, Int.reduceSub, Int.reduceNeg, Int.reduceMul, Int.reduceToNat, Int.cast_ofNat_Int, Int.natCast_zero, Nat.add_zero, reduceCtorEq, L_i_TripsOk, h.len, hl]
    exact hQ _ _ (Ends.ret rfl ⟨by simp [tupOf, tripsOk, hl'], rfl⟩)
theorem stateOf_get {l : List Trip} {t : Int} (h : inB t 1 l.length = true) : ∃ i x, t = (i : Nat) + 1 ∧ (t - 1).toNat = i ∧ i < l.length ∧ l[i]? = some x ∧ stateOf l t = x.state := by
  have h0 := h
  simp only [inB, Bool.and_eq_true, decide_eq_true_eq] at h
  have hlt : (t - 1).toNat < l.length := by omega
  refine ⟨(t - 1).toNat, l[(t - 1).toNat]'hlt, by omega, rfl, hlt, List.getElem?_eq_getElem hlt, ?_⟩
  unfold stateOf; rw [if_pos h0, List.getElem?_eq_getElem hlt]; rfl
theorem does_i_stateOf (K : Codes P I) {H : Heap} {c : C} {l : List Trip} {F : List Nat} {t : Int} (h : Trips H c l F) : Does P I.i_stateOf [.c c, int t] H fun v H' => v = .val (int (stateOf l t)) ∧ H' = H := by
  refine K.does K.i_stateOf rfl fun Q hQ => ?_
  simp only [go_sem, Nat.reduceEqDiff, Nat.reduceAdd, Nat.reduceMul, Nat.reduceLeDiff, Int.reduceEq, Int.reduceLT, Int.reduceLE, Int.reduceAdd, Int.reduceSub, Int.reduceNeg, Int.reduceMul, Int.reduceToNat, Int.cast_ofNat_Int, Int.natCast_zero, Nat.add_zero, reduceCtorEq, L_i_stateOf, h.len]
  refine Does.test (does_i_in K) ?_
  cases hb : inB t 1 l.length with
  | false =>
    simp only [go_sem, Nat.reduceEqDiff, Nat.reduceAdd, Nat.reduceMul, Nat.reduceLeDiff, Int.reduceEq, Int.reduceLT, Int.reduceLE, Int.reduceAdd, Int.reduceSub, Int.reduceNeg, Int.reduceMul, Int.reduceToNat, Int.cast_ofNat_Int, Int.natCast_zero, Nat.add_zero, reduceCtorEq]
    exact hQ _ _ (Ends.ret rfl ⟨by simp [tupOf, stateOf, hb], rfl⟩)
  | true =>
    obtain ⟨i, x, rfl, ht, hi, hx, hst⟩ := stateOf_get hb
    have htop := h.top
    have hw : IntKind.wrap .i64 ((i : Int) + 1 - 1) = (i : Int) := by rw [wrap_i64 (by omega) (by unfold lenTop at htop; omega)]; omega
    obtain ⟨b1, o1, bs1, cs1, f1, rfl, e1, e2, ⟨cm, rfl, hm⟩, _, _⟩ := h.get hx
    have ld1 := slab_sub e2 1 1 (by simp)
    simp only [slabAt1, slabSkip1] at ld1
    have hlt : (i : Int) < l.length := by omega
    simp only [go_sem, Nat.reduceEqDiff, Nat.reduceAdd, Nat.reduceMul, Nat.reduceLeDiff, Int.reduceEq, Int.reduceLT, Int.reduceLE, Int.reduceAdd, Int.reduceSub, Int.reduceNeg, Int.reduceMul, Int.reduceToNat, Int.cast_ofNat_Int, Int.natCast_zero, Nat.add_zero, reduceCtorEq, hw, hlt, e1, ld1]
    exact hQ _ _ (Ends.ret rfl ⟨by simp [tupOf, hst], rfl⟩)
theorem does_i_TripsMay (K : Codes P I) {H : Heap} {c : C} {ds : List C} {l : List Trip} {r : Rec} {F G : List Nat} (h : Trips H c l F) (hr : RRec H ds r G) : Does P I.i_TripsMay [.c c, .agg ds] H fun v H' => v = bool (tripsMay l r) ∧ H' = H := by
  have hr0 := hr
  obtain ⟨cm, rfl, hm⟩ := hr
  refine K.does K.i_TripsMay rfl fun Q hQ => ?_
  have htop := h.top
  simp only [go_sem, Nat.reduceEqDiff, Nat.reduceAdd, Nat.reduceMul, Nat.reduceLeDiff, Int.reduceEq, Int.reduceLT, Int.reduceLE, Int.reduceAdd, Int.reduceSub, Int.reduceNeg, Int.reduceMul, Int.reduceToNat, Int.cast_ofNat_Int, Int.natCast_zero, Nat.add_zero, reduceCtorEq, L_i_TripsMay]
  refine Does.test (does_i_TripsOk K h) ?_
  cases hl : tripsOk l with
  | false =>
    simp only [go_sem, Nat.reduceEqDiff, Nat.reduceAdd, Nat.reduceMul, Nat.reduceLeDiff, Int.reduceEq, Int.reduceLT, Int.reduceLE, Int.reduceAdd, Int.reduceSub, Int.reduceNeg, Int.reduceMul, Int.reduceToNat, Int.cast_ofNat_Int, Int.natCast_zero, Nat.add_zero, reduceCtorEq]
    exact hQ _ _ (Ends.ret rfl ⟨by simp [tupOf, tripsMay, hl], rfl⟩)
  | true =>
    simp only [go_sem, Nat.reduceEqDiff, Nat.reduceAdd, Nat.reduceMul, Nat.reduceLeDiff, Int.reduceEq, Int.reduceLT, Int.reduceLE, Int.reduceAdd, Int.reduceSub, Int.reduceNeg, Int.reduceMul, Int.reduceToNat, Int.cast_ofNat_Int, Int.natCast_zero, Nat.add_zero, reduceCtorEq]
    refine Does.test (does_i_RecOk K hr0) ?_
    cases hrk : recOk r with
    | false =>
      simp only [go_sem, Nat.reduceEqDiff, Nat.reduceAdd, Nat.reduceMul, Nat.reduceLeDiff, Int.reduceEq, Int.reduceLT, Int.reduceLE, Int.reduceAdd, Int.reduceSub, Int.reduceNeg, Int.reduceMul, Int.reduceToNat, Int.cast_ofNat_Int, Int.natCast_zero, Nat.add_zero, reduceCtorEq]
      exact hQ _ _ (Ends.ret rfl ⟨by simp [tupOf, tripsMay, hrk], rfl⟩)
    | true =>
      simp only [go_sem, Nat.reduceEqDiff, Nat.reduceAdd, Nat.reduceMul, Nat.reduceLeDiff, Int.reduceEq, Int.reduceLT, Int.reduceLE, Int.reduceAdd, Int.reduceSub, Int.reduceNeg, Int.reduceMul, Int.reduceToNat, Int.cast_ofNat_Int, Int.natCast_zero, Nat.add_zero, reduceCtorEq]
      refine Does.test (does_i_stateOf K h) ?_
      have hw : IntKind.wrap .i64 ((l.length : Int) + 1) = (l.length : Int) + 1 := wrap_i64 (by omega) (by unfold lenTop at htop; omega)
      by_cases k4 : r.kind = 4
      · simp only [go_sem, Nat.reduceEqDiff, Nat.reduceAdd, Nat.reduceMul, Nat.reduceLeDiff, Int.reduceEq, Int.reduceLT, Int.reduceLE, Int.reduceAdd, Int.reduceSub, Int.reduceNeg, Int.reduceMul, Int.reduceToNat, Int.cast_ofNat_Int, Int.natCast_zero, Nat.add_zero, reduceCtorEq, k4, h.len, hw]
        exact hQ _ _ (Ends.ret rfl ⟨by simp [tupOf, tripsMay, hl, hrk, tripMayB, k4], rfl⟩)
      · by_cases k5 : r.kind = 5
        · simp only [go_sem, Nat.reduceEqDiff, Nat.reduceAdd, Nat.reduceMul, Nat.reduceLeDiff, Int.reduceEq, Int.reduceLT, Int.reduceLE, Int.reduceAdd, Int.reduceSub, Int.reduceNeg, Int.reduceMul, Int.reduceToNat, Int.cast_ofNat_Int, Int.natCast_zero, Nat.add_zero, reduceCtorEq, k4, k5]
          exact hQ _ _ (Ends.ret rfl ⟨by simp [tupOf, tripsMay, hl, hrk, tripMayB, k5], rfl⟩)
        · by_cases k6 : r.kind = 6
          · simp only [go_sem, Nat.reduceEqDiff, Nat.reduceAdd, Nat.reduceMul, Nat.reduceLeDiff, Int.reduceEq, Int.reduceLT, Int.reduceLE, Int.reduceAdd, Int.reduceSub, Int.reduceNeg, Int.reduceMul, Int.reduceToNat, Int.cast_ofNat_Int, Int.natCast_zero, Nat.add_zero, reduceCtorEq, k4, k5, k6]
            exact hQ _ _ (Ends.ret rfl ⟨by simp [tupOf, tripsMay, hl, hrk, tripMayB, k6], rfl⟩)
          · by_cases k7 : r.kind = 7
            · by_cases s2 : stateOf l r.trip = 2
              · simp only [go_sem, Nat.reduceEqDiff, Nat.reduceAdd, Nat.reduceMul, Nat.reduceLeDiff, Int.reduceEq, Int.reduceLT, Int.reduceLE, Int.reduceAdd, Int.reduceSub, Int.reduceNeg, Int.reduceMul, Int.reduceToNat, Int.cast_ofNat_Int, Int.natCast_zero, Nat.add_zero, reduceCtorEq, k4, k5, k6, k7, s2]
                exact hQ _ _ (Ends.ret rfl ⟨by simp [tupOf, tripsMay, hl, hrk, tripMayB, k7, s2], rfl⟩)
              · simp only [go_sem, Nat.reduceEqDiff, Nat.reduceAdd, Nat.reduceMul, Nat.reduceLeDiff, Int.reduceEq, Int.reduceLT, Int.reduceLE, Int.reduceAdd, Int.reduceSub, Int.reduceNeg, Int.reduceMul, Int.reduceToNat, Int.cast_ofNat_Int, Int.natCast_zero, Nat.add_zero, reduceCtorEq, k4, k5, k6, k7, s2]
                exact hQ _ _ (Ends.ret rfl ⟨by simp [tupOf, tripsMay, hl, hrk, tripMayB, k7, s2], rfl⟩)
            · simp only [go_sem, Nat.reduceEqDiff, Nat.reduceAdd, Nat.reduceMul, Nat.reduceLeDiff, Int.reduceEq, Int.reduceLT, Int.reduceLE, Int.reduceAdd, Int.reduceSub, Int.reduceNeg, Int.reduceMul, Int.reduceToNat, Int.cast_ofNat_Int, Int.natCast_zero, Nat.add_zero, reduceCtorEq, k4, k5, k6, k7]
              exact hQ _ _ (Ends.ret rfl ⟨by simp [tupOf, tripsMay, hl, hrk, tripMayB, k4, k5, k6, k7], rfl⟩)
theorem stateOf_out {l : List Trip} {t : Int} (h : (l.length : Int) < t) : stateOf l t = 0 := by
  unfold stateOf; rw [if_neg]; simp only [inB, Bool.and_eq_true, decide_eq_true_eq]; omega
theorem does_s_l12May (K : Codes P I) {H : Heap} {c : C} {ds : List C} {l : List Trip} {r : Rec} {F G : List Nat} (h : Trips H c l F) (hr : RRec H ds r G) (hrk : recOk r = true) : Does P I.s_l12May [.c c, .agg ds] H fun v H' => v = bool (tripMayB l r) ∧ H' = H := by
  obtain ⟨cm, rfl, hm⟩ := hr
  refine K.does K.s_l12May rfl fun Q hQ => ?_
  have htop := h.top
  have htr := recOk_trip hrk
  have hw : IntKind.wrap .i64 ((l.length : Int) + 1) = (l.length : Int) + 1 := wrap_i64 (by omega) (by unfold lenTop at htop; omega)
  by_cases k4 : r.kind = 4
  · simp only [go_sem, Nat.reduceEqDiff, Nat.reduceAdd, Nat.reduceMul, Nat.reduceLeDiff, Int.reduceEq, Int.reduceLT, Int.reduceLE, Int.reduceAdd, Int.reduceSub, Int.reduceNeg, Int.reduceMul, Int.reduceToNat, Int.cast_ofNat_Int, Int.natCast_zero, Nat.add_zero, reduceCtorEq, L_s_l12May, k4, h.len, hw]
    exact hQ _ _ (Ends.ret rfl ⟨by simp [tupOf, tripMayB, k4], rfl⟩)
  · by_cases hgt : (l.length : Int) < r.trip
    · simp only [go_sem, Nat.reduceEqDiff, Nat.reduceAdd, Nat.reduceMul, Nat.reduceLeDiff, Int.reduceEq, Int.reduceLT, Int.reduceLE, Int.reduceAdd, Int.reduceSub, Int.reduceNeg, Int.reduceMul, Int.reduceToNat, Int.cast_ofNat_Int, Int.natCast_zero, Nat.add_zero, reduceCtorEq, L_s_l12May, k4, h.len, hgt]
      exact hQ _ _ (Ends.ret rfl ⟨by simp [tupOf, tripMayB, k4, stateOf_out hgt], rfl⟩)
    · obtain ⟨i, x, hti, ht, hi, hx, hst⟩ := stateOf_get (l := l) (t := r.trip) (by simp only [inB, Bool.and_eq_true, decide_eq_true_eq]; omega)
      have hw2 : IntKind.wrap .i64 (r.trip - 1) = (i : Int) := by rw [wrap_i64 (by omega) (by omega)]; omega
      obtain ⟨b1, o1, bs1, cs1, f1, rfl, e1, e2, ⟨cm, rfl, hm⟩, _, _⟩ := h.get hx
      have ld1 := slab_sub e2 1 1 (by simp)
      simp only [slabAt1, slabSkip1] at ld1
      have hlt : (i : Int) < l.length := by omega
      by_cases k5 : r.kind = 5
      · simp only [go_sem, Nat.reduceEqDiff, Nat.reduceAdd, Nat.reduceMul, Nat.reduceLeDiff, Int.reduceEq, Int.reduceLT, Int.reduceLE, Int.reduceAdd, Int.reduceSub, Int.reduceNeg, Int.reduceMul, Int.reduceToNat, Int.cast_ofNat_Int, Int.natCast_zero, Nat.add_zero, reduceCtorEq, L_s_l12May, k4, k5, hgt, hw2, hlt, e1, ld1]
        exact hQ _ _ (Ends.ret rfl ⟨by simp [tupOf, tripMayB, k5, hst], rfl⟩)
      · by_cases k6 : r.kind = 6
        · simp only [go_sem, Nat.reduceEqDiff, Nat.reduceAdd, Nat.reduceMul, Nat.reduceLeDiff, Int.reduceEq, Int.reduceLT, Int.reduceLE, Int.reduceAdd, Int.reduceSub, Int.reduceNeg, Int.reduceMul, Int.reduceToNat, Int.cast_ofNat_Int, Int.natCast_zero, Nat.add_zero, reduceCtorEq, L_s_l12May, k4, k5, k6, hgt, hw2, hlt, e1, ld1]
          exact hQ _ _ (Ends.ret rfl ⟨by simp [tupOf, tripMayB, k6, hst], rfl⟩)
        · by_cases k7 : r.kind = 7
          · by_cases s2 : x.state = 2
            · simp only [go_sem, Nat.reduceEqDiff, Nat.reduceAdd, Nat.reduceMul, Nat.reduceLeDiff, Int.reduceEq, Int.reduceLT, Int.reduceLE, Int.reduceAdd, Int.reduceSub, Int.reduceNeg, Int.reduceMul, Int.reduceToNat, Int.cast_ofNat_Int, Int.natCast_zero, Nat.add_zero, reduceCtorEq, L_s_l12May, k4, k5, k6, k7, hgt, hw2, hlt, e1, ld1, s2]
              exact hQ _ _ (Ends.ret rfl ⟨by simp [tupOf, tripMayB, k7, hst, s2], rfl⟩)
            · simp only [go_sem, Nat.reduceEqDiff, Nat.reduceAdd, Nat.reduceMul, Nat.reduceLeDiff, Int.reduceEq, Int.reduceLT, Int.reduceLE, Int.reduceAdd, Int.reduceSub, Int.reduceNeg, Int.reduceMul, Int.reduceToNat, Int.cast_ofNat_Int, Int.natCast_zero, Nat.add_zero, reduceCtorEq, L_s_l12May, k4, k5, k6, k7, hgt, hw2, hlt, e1, ld1, s2]
              exact hQ _ _ (Ends.ret rfl ⟨by simp [tupOf, tripMayB, k7, hst, s2], rfl⟩)
          · simp only [go_sem, Nat.reduceEqDiff, Nat.reduceAdd, Nat.reduceMul, Nat.reduceLeDiff, Int.reduceEq, Int.reduceLT, Int.reduceLE, Int.reduceAdd, Int.reduceSub, Int.reduceNeg, Int.reduceMul, Int.reduceToNat, Int.cast_ofNat_Int, Int.natCast_zero, Nat.add_zero, reduceCtorEq, L_s_l12May, k4, k5, k6, k7, hgt, hw2, hlt, e1, ld1]
            exact hQ _ _ (Ends.ret rfl ⟨by simp [tupOf, tripMayB, k4, k5, k6, k7], rfl⟩)
theorem modify_set {α : Type} {l : List α} {i : Nat} {x : α} {f : α → α} (h : l[i]? = some x) : l.modify i f = l.set i (f x) := by
  apply List.ext_getElem?
  intro j
  rw [List.getElem?_modify, List.getElem?_set]
  have hi := (List.getElem?_eq_some_iff.1 h).1
  by_cases e : i = j
  · subst e; rw [h]; simp [hi]
  · simp [e]
/-- To write a trip's state. -/
theorem trip_put {H : Heap} {c : C} {l : List Trip} {F : List Nat} (h : Trips H c l F) (ho : Owned H F) {i : Nat} {x : Trip} (hi : l[i]? = some x) (v : Int) :
    ∃ b off bs cells H', c = .sl b off l.length ∧ H.own b = some (2, bs) ∧ H.live b = some bs ∧ slab bs (off + i * 2 + 1) 1 = some [.int .i64 x.state] ∧ off + i * 2 + 1 + 1 ≤ bs.length ∧ H.wr b (splice bs (off + i * 2 + 1) [.int .i64 v]) = H' ∧ Trips H' c (l.set i ⟨x.many, v⟩) F ∧ Step F H H' F ∧ cells = bs := by
  obtain ⟨b, off, bs, H', e1, e2, e3, e4, e5, e6⟩ := sl_put RTrip.good h ho hi 1 [.int .i64 v] (by simp) ⟨x.many, v⟩ (fun H' cs f hr hl => by
    obtain ⟨cm, rfl, hm⟩ := hr
    exact ⟨cm, by simp [splice], hm⟩)
  obtain ⟨b1, o1, bs1, cs1, f1, q1, q2, q3, ⟨cm, rfl, hm⟩, _, _⟩ := h.get hi
  rw [e1] at q1
  cases q1
  have hlive : H.live b = some bs := by
    unfold Heap.own at e2
    unfold Heap.live
    split at e2
    · rename_i heq; rw [heq]; simp only [Option.some.injEq, Prod.mk.injEq] at e2; rw [e2.2]
    · cases e2
  have hb : bs1 = bs := by rw [q2] at hlive; simpa using hlive
  subst hb
  have ld1 := slab_sub q3 1 1 (by simp)
  simp only [slabAt1, slabSkip1] at ld1
  exact ⟨b, off, bs1, bs1, H', e1, e2, hlive, ld1, e3, e4, e5, e6, rfl⟩
theorem tripMay_at {l : List Trip} {r : Rec} (hm : tripMayB l r = true) (k4 : r.kind ≠ 4) : ∃ i x, r.trip = (i : Nat) + 1 ∧ (r.trip - 1).toNat = i ∧ i < l.length ∧ l[i]? = some x ∧ stateOf l r.trip = x.state ∧ (r.kind = 5 ∨ r.kind = 6 → x.state = 1) ∧ (r.kind ≠ 5 → r.kind ≠ 6 → r.kind = 7 ∧ (x.state = 2 ∨ x.state = 3)) := by
  unfold tripMayB at hm
  rw [if_neg k4] at hm
  have hne : stateOf l r.trip ≠ 0 := by
    intro e; rw [e] at hm
    (repeat' split at hm) <;> simp at hm
  have hb : inB r.trip 1 l.length = true := by
    unfold stateOf at hne; split at hne
    · assumption
    · exact absurd rfl hne
  obtain ⟨i, x, h1, h2, h3, h4, h5⟩ := stateOf_get hb
  refine ⟨i, x, h1, h2, h3, h4, h5, fun hk => ?_, fun h6 h7 => ?_⟩
  · rw [if_pos hk] at hm; rw [← h5]; simpa using hm
  · rw [if_neg (by simp [h6, h7])] at hm
    split at hm
    · rename_i hk; exact ⟨hk, by rw [← h5]; simpa using hm⟩
    · cases hm
theorem tripsDoL_set {l : List Trip} {r : Rec} {i : Nat} {x : Trip} (k4 : r.kind ≠ 4) (h2 : (r.trip - 1).toNat = i) (hx : l[i]? = some x) : tripsDoL l r = l.set i (tripStep x r) := by
  unfold tripsDoL; rw [if_neg k4, h2]; exact modify_set hx
set_option maxHeartbeats 1000000 in
theorem does_i_TripsDo (K : Codes P I) {H : Heap} {c : C} {ds : List C} {l : List Trip} {r : Rec} {F G : List Nat} (h : Trips H c l F) (hr : RRec H ds r G) :
    Does P I.i_TripsDo [.c c, .agg ds] H fun v H' => ∃ c' F', v = .tup [.c c', .c (.bool (tripsMay l r))] ∧ Step [] H H' F' ∧ Trips H' c' (tripsDoV l r) F' := by
  have hr0 := hr
  obtain ⟨cm, rfl, hm⟩ := hr
  refine K.does K.i_TripsDo rfl fun Q hQ => ?_
  have htop := h.top
  simp only [go_sem, Nat.reduceEqDiff, Nat.reduceAdd, Nat.reduceMul, Nat.reduceLeDiff, Int.reduceEq, Int.reduceLT, Int.reduceLE, Int.reduceAdd, Int.reduceSub, Int.reduceNeg, Int.reduceMul, Int.reduceToNat, Int.cast_ofNat_Int, Int.natCast_zero, Nat.add_zero, reduceCtorEq, L_i_TripsDo]
  refine Does.test (does_i_TripsMay K h hr0) ?_
  cases hmay : tripsMay l r with
  | false =>
    simp only [go_sem, Nat.reduceEqDiff, Nat.reduceAdd, Nat.reduceMul, Nat.reduceLeDiff, Int.reduceEq, Int.reduceLT, Int.reduceLE, Int.reduceAdd, Int.reduceSub, Int.reduceNeg, Int.reduceMul, Int.reduceToNat, Int.cast_ofNat_Int, Int.natCast_zero, Nat.add_zero, reduceCtorEq]
    exact hQ _ _ (Ends.ret rfl ⟨.nil, [], by simp [tupOf, hmay], Step.refl H, by rw [tripsDoV, if_neg (by simp [hmay])]; exact .nil⟩)
  | true =>
    have hmay2 := hmay
    simp only [tripsMay, Bool.and_eq_true] at hmay2
    obtain ⟨hok, hrk, hmb⟩ := hmay2
    have hV : tripsDoV l r = tripsDoL l r := by rw [tripsDoV, if_pos hmay]
    obtain ⟨hl6, hall⟩ := tripsOk_parts hok
    have htr := recOk_trip hrk
    simp only [go_sem, Nat.reduceEqDiff, Nat.reduceAdd, Nat.reduceMul, Nat.reduceLeDiff, Int.reduceEq, Int.reduceLT, Int.reduceLE, Int.reduceAdd, Int.reduceSub, Int.reduceNeg, Int.reduceMul, Int.reduceToNat, Int.cast_ofNat_Int, Int.natCast_zero, Nat.add_zero, reduceCtorEq, h.len]
    refine RU_loop (fun m s => ∃ i : Nat, m = l.length - i ∧ i ≤ l.length ∧ s.env 14 = .val (.c c) ∧ s.env 15 = .val (int l.length) ∧ s.env 16 = .val (int i) ∧ s.env 3 = .box [.int .i64 r.kind, .int .i64 r.trip, cm] ∧ ∃ c' F', s.env 6 = .val (.c c') ∧ Step [] H s.H F' ∧ Trips s.H c' (l.take i) F') l.length
      ⟨0, by simp, by simp, rfl, rfl, rfl, rfl, .nil, [], rfl, Step.refl H, .nil⟩ ?_
    rintro m s ⟨i, rfl, hi, g14, g15, g16, g3, c', F', g6, hs, ht⟩ Q' hN hE hR
    have h1 := hs.keepSl RTrip.good h fun b _ => by simp
    by_cases hlt : (i : Int) < l.length
    · obtain ⟨x, hx⟩ := get_lt hlt
      obtain ⟨b1, o1, bs1, cs1, f1, rfl, e1, e2, ⟨cx, rfl, hmx⟩, _, _⟩ := h1.get hx
      have hmx3 := manyOk_len (hall x (List.mem_of_getElem? hx)).1
      simp only [go_sem, Nat.reduceEqDiff, Nat.reduceAdd, Nat.reduceMul, Nat.reduceLeDiff, Int.reduceEq, Int.reduceLT, Int.reduceLE, Int.reduceAdd, Int.reduceSub, Int.reduceNeg, Int.reduceMul, Int.reduceToNat, Int.cast_ofNat_Int, Int.natCast_zero, Nat.add_zero, reduceCtorEq, g14, g15, g16, g3, g6, hlt, e1, e2]
      refine Does.call (does_g_Clone_int K hmx (by unfold lenMax; omega)) ?_
      rintro _ H1 ⟨c1, f, rfl, s1, hc1⟩
      have t1 := hs.with s1
      obtain ⟨c2, H2, F2, ha, ht2, s2⟩ := app_one RTrip.good (by decide) (s1.keepSl RTrip.good ht fun b _ => by simp) (show RTrip H1 [c1, .int .i64 x.state] x f from ⟨c1, rfl, hc1⟩) rfl t1.owned (by simp [lenMax]; omega)
      simp only [go_sem, Nat.reduceEqDiff, Nat.reduceAdd, Nat.reduceMul, Nat.reduceLeDiff, Int.reduceEq, Int.reduceLT, Int.reduceLE, Int.reduceAdd, Int.reduceSub, Int.reduceNeg, Int.reduceMul, Int.reduceToNat, Int.cast_ofNat_Int, Int.natCast_zero, Nat.add_zero, reduceCtorEq, g14, g15, g16, g3, g6, hlt, ha, wrap_succ (show i ≤ lenTop by omega)]
      refine hN _ _ (by omega) ⟨i + 1, rfl, by omega, by simp [upd, g14], by simp [upd, g15], by simp [upd], by simp [upd, g3], c2, F2, by simp [upd], t1.trans s2, ?_⟩
      rw [take_snoc hx]; exact ht2
    · simp only [go_sem, Nat.reduceEqDiff, Nat.reduceAdd, Nat.reduceMul, Nat.reduceLeDiff, Int.reduceEq, Int.reduceLT, Int.reduceLE, Int.reduceAdd, Int.reduceSub, Int.reduceNeg, Int.reduceMul, Int.reduceToNat, Int.cast_ofNat_Int, Int.natCast_zero, Nat.add_zero, reduceCtorEq, g14, g15, g16, hlt]
      refine hE _ _ ?_
      rw [List.take_of_length_le (by omega)] at ht
      have hm1 := hs.keepSl RInt.good hm fun b _ => by simp
      by_cases k4 : r.kind = 4
      · have hm3 := manyOk_len (recOk_begin hrk k4)
        simp only [go_sem, Nat.reduceEqDiff, Nat.reduceAdd, Nat.reduceMul, Nat.reduceLeDiff, Int.reduceEq, Int.reduceLT, Int.reduceLE, Int.reduceAdd, Int.reduceSub, Int.reduceNeg, Int.reduceMul, Int.reduceToNat, Int.cast_ofNat_Int, Int.natCast_zero, Nat.add_zero, reduceCtorEq, g3, g6, k4]
        refine Does.call (does_g_Clone_int K hm1 (by unfold lenMax; omega)) ?_
        rintro _ H1 ⟨c1, f, rfl, s1, hc1⟩
        have t1 := hs.with s1
        obtain ⟨c2, H2, F2, ha, ht2, s2⟩ := app_one RTrip.good (by decide) (s1.keepSl RTrip.good ht fun b _ => by simp) (show RTrip H1 [c1, .int .i64 1] ⟨r.many, 1⟩ f from ⟨c1, rfl, hc1⟩) rfl t1.owned (by simp [lenMax]; omega)
        simp only [go_sem, Nat.reduceEqDiff, Nat.reduceAdd, Nat.reduceMul, Nat.reduceLeDiff, Int.reduceEq, Int.reduceLT, Int.reduceLE, Int.reduceAdd, Int.reduceSub, Int.reduceNeg, Int.reduceMul, Int.reduceToNat, Int.cast_ofNat_Int, Int.natCast_zero, Nat.add_zero, reduceCtorEq, g3, g6, ha]
        exact hQ _ _ (Ends.ret rfl ⟨c2, F2, by simp [tupOf, hmay], t1.trans s2, by rw [hV, tripsDoL, if_pos k4]; exact ht2⟩)
      · obtain ⟨j, x, q1, q2, q3, q4, q5, q6, q7⟩ := tripMay_at hmb k4
        have hw : IntKind.wrap .i64 (r.trip - 1) = (j : Int) := by rw [wrap_i64 (by omega) (by omega)]; omega
        have hjl : (j : Int) < l.length := by omega
        have hS := tripsDoL_set k4 q2 q4
        by_cases k5 : r.kind = 5
        · obtain ⟨b, off, bs, _, H2, e1, e2, e3, e4, e5, e6, e7, e8, _⟩ := trip_put ht hs.owned q4 2
          subst e1
          simp only [go_sem, Nat.reduceEqDiff, Nat.reduceAdd, Nat.reduceMul, Nat.reduceLeDiff, Int.reduceEq, Int.reduceLT, Int.reduceLE, Int.reduceAdd, Int.reduceSub, Int.reduceNeg, Int.reduceMul, Int.reduceToNat, Int.cast_ofNat_Int, Int.natCast_zero, Nat.add_zero, reduceCtorEq, g3, g6, k4, k5, hw, hjl, e2, e5, e6]
          exact hQ _ _ (Ends.ret rfl ⟨.sl b off l.length, F', by simp [tupOf, hmay], hs.trans e8, by rw [hV, hS]; simpa [tripStep, k5] using e7⟩)
        · by_cases k6 : r.kind = 6
          · obtain ⟨b, off, bs, _, H2, e1, e2, e3, e4, e5, e6, e7, e8, _⟩ := trip_put ht hs.owned q4 3
            subst e1
            simp only [go_sem, Nat.reduceEqDiff, Nat.reduceAdd, Nat.reduceMul, Nat.reduceLeDiff, Int.reduceEq, Int.reduceLT, Int.reduceLE, Int.reduceAdd, Int.reduceSub, Int.reduceNeg, Int.reduceMul, Int.reduceToNat, Int.cast_ofNat_Int, Int.natCast_zero, Nat.add_zero, reduceCtorEq, g3, g6, k4, k5, k6, hw, hjl, e2, e5, e6]
            exact hQ _ _ (Ends.ret rfl ⟨.sl b off l.length, F', by simp [tupOf, hmay], hs.trans e8, by rw [hV, hS]; simpa [tripStep, k6] using e7⟩)
          · by_cases x2 : x.state = 2
            · obtain ⟨b, off, bs, _, H2, e1, e2, e3, e4, e5, e6, e7, e8, _⟩ := trip_put ht hs.owned q4 4
              subst e1
              simp only [go_sem, Nat.reduceEqDiff, Nat.reduceAdd, Nat.reduceMul, Nat.reduceLeDiff, Int.reduceEq, Int.reduceLT, Int.reduceLE, Int.reduceAdd, Int.reduceSub, Int.reduceNeg, Int.reduceMul, Int.reduceToNat, Int.cast_ofNat_Int, Int.natCast_zero, Nat.add_zero, reduceCtorEq, g3, g6, k4, k5, k6, hw, hjl, e2, e3, e4, e5, e6, x2]
              exact hQ _ _ (Ends.ret rfl ⟨.sl b off l.length, F', by simp [tupOf, hmay], hs.trans e8, by rw [hV, hS]; simpa [tripStep, k5, k6, x2] using e7⟩)
            · obtain ⟨b, off, bs, _, H2, e1, e2, e3, e4, e5, e6, e7, e8, _⟩ := trip_put ht hs.owned q4 5
              subst e1
              simp only [go_sem, Nat.reduceEqDiff, Nat.reduceAdd, Nat.reduceMul, Nat.reduceLeDiff, Int.reduceEq, Int.reduceLT, Int.reduceLE, Int.reduceAdd, Int.reduceSub, Int.reduceNeg, Int.reduceMul, Int.reduceToNat, Int.cast_ofNat_Int, Int.natCast_zero, Nat.add_zero, reduceCtorEq, g3, g6, k4, k5, k6, hw, hjl, e2, e3, e4, e5, e6, x2]
              exact hQ _ _ (Ends.ret rfl ⟨.sl b off l.length, F', by simp [tupOf, hmay], hs.trans e8, by rw [hV, hS]; simpa [tripStep, k5, k6, x2] using e7⟩)
end Go.AX

/- What desks compute, in plain Lean. No condition: definitions, and what holds of them. -/
namespace Go.AX
def tripsD (recs : List Rec) : List Trip := (tripsOf recs).getD []
def tripsV (d : Desk) (forced : Bool) : List Trip := tripsD (known d.log forced)
/-- What was told: answers in form, of trips that there are, each once. -/
def toldOk (n : Nat) (told : List Word) : Bool := told.all (fun w => wordOk w && (decide (4 ≤ w.kind) && decide (w.trip ≤ n))) && decide told.Nodup
def deskOk (d : Desk) : Bool := (d.up || decide (d.told = [])) && (logOk d.log && ((tripsOf d.log.recs).isSome && toldOk (tripsD d.log.recs).length d.told))
def desk00 : Desk := ⟨false, log0, []⟩
def deskTripsV (d : Desk) (forced : Bool) : List Trip := if deskOk d = true then tripsV d forced else []
def deskMay (d : Desk) (r : Rec) : Bool := d.up && tripMayB (tripsV d false) r
def deskWrite (d : Desk) (r : Rec) : Desk := if deskMay d r = true then { d with log := addL' d.log r } else d
def deskWrote (d : Desk) (r : Rec) : Bool := deskMay d r && decide (d.log.recs.length < 40)
def beginRec (d : Desk) (many : List Int) : Rec := ⟨4, (tripsV d false).length + 1, many⟩
def deskBeginGo (d : Desk) (many : List Int) : Bool := deskOk d && recOk (beginRec d many)
def deskBeginV (d : Desk) (many : List Int) : Desk := if deskBeginGo d many = true then deskWrite d (beginRec d many) else desk00
def deskBeginB (d : Desk) (many : List Int) : Bool := deskBeginGo d many && deskWrote d (beginRec d many)
def giveRec (trip : Int) : Rec := ⟨6, trip, []⟩
def deskGiveGo (d : Desk) (trip : Int) : Bool := deskOk d && inB trip 1 6
def deskGiveV (d : Desk) (trip : Int) : Desk := if deskGiveGo d trip = true then deskWrite d (giveRec trip) else desk00
def deskGiveB (d : Desk) (trip : Int) : Bool := deskGiveGo d trip && deskWrote d (giveRec trip)
def toldB (told : List Word) (kind house trip : Int) : Bool := decide ((⟨kind, house, trip, 0⟩ : Word) ∈ told)
/-- Was such an answer told of any house of which a trip wants any; of all of them? From the house i on. -/
def anyT (told : List Word) (kind trip : Int) : List Int → Nat → Bool
  | [], _ => false
  | n :: r, i => (decide (n ≠ 0) && toldB told kind (i + 1) trip) || anyT told kind trip r (i + 1)
def allT (told : List Word) (kind trip : Int) : List Int → Nat → Bool
  | [], _ => true
  | n :: r, i => (decide (n = 0) || toldB told kind (i + 1) trip) && allT told kind trip r (i + 1)
def decideK (d : Desk) (trip : Int) (t : Trip) : Int :=
  let sure := decide (stateOf (tripsV d true) trip = t.state)
  if t.state = 1 ∧ anyT d.told 5 trip t.many 0 = true then 6
  else if t.state = 1 ∧ allT d.told 4 trip t.many 0 = true then 5
  else if t.state = 2 ∧ sure = true ∧ allT d.told 6 trip t.many 0 = true then 7
  else if t.state = 3 ∧ sure = true ∧ allT d.told 7 trip t.many 0 = true then 7 else 0
def tripAt (l : List Trip) (t : Int) : Trip := l[(t - 1).toNat]?.getD ⟨[], 0⟩
def decideD (d : Desk) (trip : Int) : Desk := if decideK d trip (tripAt (tripsV d false) trip) = 0 then d else deskWrite d ⟨decideK d trip (tripAt (tripsV d false) trip), trip, []⟩
def deskHearsB (d : Desk) (w : Word) : Bool := d.up && (wordOk w && (decide (4 ≤ w.kind) && decide (w.trip ≤ (tripsV d false).length)))
def tellD (d : Desk) (w : Word) : Desk := if w ∈ d.told then d else { d with told := d.told ++ [w] }
def hearD (d : Desk) (w : Word) : Desk := if deskHearsB d w = true then decideD (tellD d w) w.trip else d
def deskHearV (d : Desk) (w : Word) : Desk := if deskOk d = true then hearD d w else desk00
def wordsOfTrip (told : List Word) (trip : Int) (state : Int) : List Int → Nat → List Word
  | [], _ => []
  | n :: r, h => (if n = 0 ∨ 3 < state ∨ toldB told (state + (if state = 1 then 3 else 4)) (h + 1) trip = true then [] else [⟨state, h + 1, trip, if state = 1 then n else 0⟩]) ++ wordsOfTrip told trip state r (h + 1)
def wordsOf (told : List Word) : List Trip → Nat → List Word
  | [], _ => []
  | t :: r, i => wordsOfTrip told (i + 1) t.state t.many 0 ++ wordsOf told r (i + 1)
def wordsD (d : Desk) : List Word := if d.up = true then wordsOf d.told (tripsV d true) 0 else []
def deskWordsV (d : Desk) : List Word := if deskOk d = true then wordsD d else []
def deskForceV (d : Desk) : Desk := if deskOk d = true then if d.up = true then { d with log := forceL d.log } else d else desk00
def deskFallV (d : Desk) (keep : Int) : Desk := if deskOk d = true then ⟨false, fallL d.log keep, []⟩ else desk00
def deskRiseV (d : Desk) : Desk := if deskOk d = true then { d with up := true } else desk00

theorem deskOk_parts {d : Desk} (h : deskOk d = true) : (d.up = false → d.told = []) ∧ logOk d.log = true ∧ (∃ l, tripsOf d.log.recs = some l) ∧ toldOk (tripsD d.log.recs).length d.told = true := by
  simp only [deskOk, Bool.and_eq_true, Bool.or_eq_true, decide_eq_true_eq] at h
  obtain ⟨h1, h2, h3, h4⟩ := h
  refine ⟨fun hu => ?_, h2, Option.isSome_iff_exists.1 h3, h4⟩
  rcases h1 with h1 | h1
  · rw [hu] at h1; cases h1
  · exact h1
theorem tripsV_some {d : Desk} (h : deskOk d = true) (f : Bool) : tripsOf (known d.log f) = some (tripsV d f) := by
  obtain ⟨_, _, ⟨l, hl⟩, _⟩ := deskOk_parts h
  cases f with
  | false => simp [tripsV, tripsD, known, hl]
  | true =>
    obtain ⟨t, ht⟩ := tripsOf_take hl d.log.forced.toNat
    simp [tripsV, tripsD, known, ht]
theorem tripsV_ok {d : Desk} (h : deskOk d = true) (f : Bool) : tripsOk (tripsV d f) = true := tripsOf_ok (tripsV_some h f)
end Go.AX

/- Trips behind records: the program and the reference do the same. Condition: the lists lie in memory. -/
namespace Go.AX
variable {P : Program} {I : Ids}
/-- One block stays as it is. -/
def zOne (b : Nat) (cs : List C) : Zs := fun c => if c = b then some (0, cs) else none
theorem zOne_new {H : Heap} {b : Nat} {cs : List C} (h : H.length ≤ b) : Holds (zOne b cs) H := fun c ds hc hl => by
  unfold zOne at hc; split at hc
  · omega
  · cases hc
theorem zOne_holds {H : Heap} {b : Nat} {cs : List C} (h : H.live b = some cs) : Holds (zOne b cs) H := fun c ds hc _ => by
  unfold zOne at hc; split at hc
  · rename_i e; subst e; cases hc; exact ⟨h, fun q => absurd rfl q⟩
  · cases hc
theorem RUh_zOne {k : List Fr} {Q : AExit → S → Prop} {os : List AO} {E : Nat → AV} {A : Nat → Option (Nat × Nat)} {U : Nat → Bool} {H : Heap} {b : Nat} {cs : List C} (h : H.live b = some cs) : RUh P true ⟨E, A, U, H⟩ (zOne b cs) os k Q = RU P (.ops (zOne b cs) os :: k) .normal ⟨E, A, U, H⟩ Q :=
  propext ⟨fun g => g.2, fun g => ⟨fun _ => zOne_holds h, g⟩⟩
attribute [go_sem] loadZ sliceZ sliceV
@[go_sem] theorem zOne_at {b : Nat} {cs : List C} : zOne b cs b = some (0, cs) := if_pos rfl
/-- One block stays as it is, and its elements' cells are so many. -/
def zSl (b n : Nat) (cs : List C) : Zs := fun c => if c = b then some (n, cs) else none
theorem zSl_holds {H : Heap} {b n : Nat} {cs : List C} (h : H.live b = some cs) (hs : H.szv b = some n) : Holds (zSl b n cs) H := fun c ds hc _ => by
  unfold zSl at hc; split at hc
  · rename_i e; subst e; cases hc; exact ⟨h, fun _ => hs⟩
  · cases hc
theorem RUh_zSl {k : List Fr} {Q : AExit → S → Prop} {os : List AO} {E : Nat → AV} {A : Nat → Option (Nat × Nat)} {U : Nat → Bool} {H : Heap} {b n : Nat} {cs : List C} (h : H.live b = some cs) (hs : H.szv b = some n) : RUh P true ⟨E, A, U, H⟩ (zSl b n cs) os k Q = RU P (.ops (zSl b n cs) os :: k) .normal ⟨E, A, U, H⟩ Q :=
  propext ⟨fun g => g.2, fun g => ⟨fun _ => zSl_holds h hs, g⟩⟩
@[go_sem] theorem zSl_at {b n : Nat} {cs : List C} : zSl b n cs b = some (n, cs) := if_pos rfl
theorem live_keep {H H' : Heap} {F F' : List Nat} {b : Nat} {cs : List C} (s : Step F H H' F') (hb : b < H.length) (hn : b ∉ F) (h : H.live b = some cs) : H'.live b = some cs := by
  unfold Heap.live at *; rw [s.old b hb hn]; exact h
theorem live_lt {H : Heap} {b : Nat} {cs : List C} (h : H.live b = some cs) : b < H.length := by
  unfold Heap.live at h
  split at h
  · cases h
  · rename_i heq; exact (List.getElem?_eq_some_iff.1 heq).1
  · cases h
theorem does_s_l12Do (K : Codes P I) {H : Heap} {c : C} {ds : List C} {l : List Trip} {r : Rec} {F G : List Nat} (h : Trips H c l F) (ho : Owned H F) (hr : RRec H ds r G) (hok : tripsOk l = true) (hrk : recOk r = true) (hmb : tripMayB l r = true) :
    Does P I.s_l12Do [.c c, .agg ds] H fun v H' => ∃ c' F', v = .val (.c c') ∧ Step F H H' F' ∧ Trips H' c' (tripsDoL l r) F' := by
  obtain ⟨cm, rfl, hm⟩ := hr
  refine K.does K.s_l12Do rfl fun Q hQ => ?_
  obtain ⟨hl6, hall⟩ := tripsOk_parts hok
  have htr := recOk_trip hrk
  by_cases k4 : r.kind = 4
  · have hm3 := manyOk_len (recOk_begin hrk k4)
    obtain ⟨cells, c1, H1, f, he, ha, hc1, s1⟩ := copy_flat RInt.good RInt.flat (by decide) hm (by unfold lenMax; omega)
    have t1 := ho.step.with s1
    obtain ⟨c2, H2, F2, ha2, hr2, s2⟩ := app_one RTrip.good (by decide) (s1.keepSl RTrip.good h fun b _ => by simp) (show RTrip H1 [c1, .int .i64 1] ⟨r.many, 1⟩ f from ⟨c1, rfl, hc1⟩) rfl t1.owned (by simp [lenMax]; omega)
    simp only [go_sem, Nat.reduceEqDiff, Nat.reduceAdd, Nat.reduceMul, Nat.reduceLeDiff, Int.reduceEq, Int.reduceLT, Int.reduceLE, Int.reduceAdd, Int.reduceSub, Int.reduceNeg, Int.reduceMul, Int.reduceToNat, Int.cast_ofNat_Int, Int.natCast_zero, Nat.add_zero, reduceCtorEq, L_s_l12Do, k4, he, ha, ha2]
    exact hQ _ _ (Ends.ret rfl ⟨c2, F2, rfl, t1.trans s2, by rw [tripsDoL, if_pos k4]; exact hr2⟩)
  · obtain ⟨j, x, q1, q2, q3, q4, q5, q6, q7⟩ := tripMay_at hmb k4
    have hw : IntKind.wrap .i64 (r.trip - 1) = (j : Int) := by rw [wrap_i64 (by omega) (by omega)]; omega
    have hjl : (j : Int) < l.length := by omega
    have hS := tripsDoL_set k4 q2 q4
    by_cases k5 : r.kind = 5
    · obtain ⟨b, off, bs, _, H2, e1, e2, e3, e4, e5, e6, e7, e8, _⟩ := trip_put h ho q4 2
      subst e1
      simp only [go_sem, Nat.reduceEqDiff, Nat.reduceAdd, Nat.reduceMul, Nat.reduceLeDiff, Int.reduceEq, Int.reduceLT, Int.reduceLE, Int.reduceAdd, Int.reduceSub, Int.reduceNeg, Int.reduceMul, Int.reduceToNat, Int.cast_ofNat_Int, Int.natCast_zero, Nat.add_zero, reduceCtorEq, L_s_l12Do, k4, k5, hw, hjl, e2, e5, e6]
      exact hQ _ _ (Ends.ret rfl ⟨.sl b off l.length, F, rfl, e8, by rw [hS]; simpa [tripStep, k5] using e7⟩)
    · by_cases k6 : r.kind = 6
      · obtain ⟨b, off, bs, _, H2, e1, e2, e3, e4, e5, e6, e7, e8, _⟩ := trip_put h ho q4 3
        subst e1
        simp only [go_sem, Nat.reduceEqDiff, Nat.reduceAdd, Nat.reduceMul, Nat.reduceLeDiff, Int.reduceEq, Int.reduceLT, Int.reduceLE, Int.reduceAdd, Int.reduceSub, Int.reduceNeg, Int.reduceMul, Int.reduceToNat, Int.cast_ofNat_Int, Int.natCast_zero, Nat.add_zero, reduceCtorEq, L_s_l12Do, k4, k5, k6, hw, hjl, e2, e5, e6]
        exact hQ _ _ (Ends.ret rfl ⟨.sl b off l.length, F, rfl, e8, by rw [hS]; simpa [tripStep, k6] using e7⟩)
      · obtain ⟨k7, hx23⟩ := q7 k5 k6
        obtain ⟨b, off, bs, _, H2, e1, e2, e3, e4, e5, e6, e7, e8, _⟩ := trip_put h ho q4 (x.state + 2)
        have hw2 : IntKind.wrap .i64 (x.state + 2) = x.state + 2 := wrap_i64 (by omega) (by omega)
        subst e1
        simp only [go_sem, Nat.reduceEqDiff, Nat.reduceAdd, Nat.reduceMul, Nat.reduceLeDiff, Int.reduceEq, Int.reduceLT, Int.reduceLE, Int.reduceAdd, Int.reduceSub, Int.reduceNeg, Int.reduceMul, Int.reduceToNat, Int.cast_ofNat_Int, Int.natCast_zero, Nat.add_zero, reduceCtorEq, L_s_l12Do, k4, k5, k6, k7, hw, hjl, e2, e3, e4, e5, e6, hw2]
        refine hQ _ _ (Ends.ret rfl ⟨.sl b off l.length, F, rfl, e8, ?_⟩)
        rw [hS]
        rcases hx23 with hx | hx
        · simpa [tripStep, k5, k6, hx] using e7
        · simpa [tripStep, k5, k6, hx] using e7
theorem tripsOf_next {recs : List Rec} {i : Nat} {l : List Trip} {x : Rec} (h : tripsOf (recs.take i) = some l) (hx : recs[i]? = some x) (hg : (recOk x && tripMayB l x) = true) : tripsOf (recs.take (i + 1)) = some (tripsDoL l x) := by
  rw [take_snoc hx, tripsOf_snoc, h]; simp only [tripsStep, Option.bind_some, hg, if_true]
theorem tripsOf_fail {recs : List Rec} {i : Nat} {l : List Trip} {x : Rec} (h : tripsOf (recs.take i) = some l) (hx : recs[i]? = some x) (hg : (recOk x && tripMayB l x) = false) : tripsOf recs = none := by
  cases ho : tripsOf recs with
  | none => rfl
  | some s =>
    obtain ⟨t, ht⟩ := tripsOf_take ho (i + 1)
    rw [take_snoc hx, tripsOf_snoc, h] at ht
    simp only [tripsStep, Option.bind_some, hg] at ht
    cases ht
theorem does_s_l12Of (K : Codes P I) {H : Heap} {c : C} {recs : List Rec} {F : List Nat} (h : Recs H c recs F) :
    Does P I.s_l12Of [.c c] H fun v H' => ∃ c' F', v = .tup [.c c', .c (.bool (tripsOf recs).isSome)] ∧ Step [] H H' F' ∧ Trips H' c' (tripsD recs) F' := by
  refine K.does K.s_l12Of rfl fun Q hQ => ?_
  have htop := h.top
  simp only [go_sem, Nat.reduceEqDiff, Nat.reduceAdd, Nat.reduceMul, Nat.reduceLeDiff, Int.reduceEq, Int.reduceLT, Int.reduceLE, Int.reduceAdd, Int.reduceSub, Int.reduceNeg, Int.reduceMul, Int.reduceToNat, Int.cast_ofNat_Int, Int.natCast_zero, Nat.add_zero, reduceCtorEq, L_s_l12Of]
  refine RU_loop (fun m s => ∃ i : Nat, m = recs.length - i ∧ i ≤ recs.length ∧ s.env 0 = .val (.c c) ∧ s.env 5 = .val (int i) ∧ ∃ l c' F', tripsOf (recs.take i) = some l ∧ s.env 4 = .val (.c c') ∧ Step [] H s.H F' ∧ Trips s.H c' l F') recs.length
    ⟨0, by simp, by simp, rfl, rfl, [], .emp true, [], rfl, rfl, Step.refl H, .emp⟩ ?_
  rintro m s ⟨i, rfl, hi, g0, g5, l, c', F', hl, g4, hs, hr⟩ Q' hN hE hR
  have h1 := hs.keepSl RRec.good h fun b _ => by simp
  by_cases hlt : (i : Int) < recs.length
  · obtain ⟨x, hx⟩ := get_lt hlt
    obtain ⟨b1, o1, bs1, cs1, f1, rfl, e1, e2, hrx, hcl, _⟩ := h1.get hx
    obtain ⟨y0, y1, y2, rfl⟩ := len3 hcl
    simp only [go_sem, Nat.reduceEqDiff, Nat.reduceAdd, Nat.reduceMul, Nat.reduceLeDiff, Int.reduceEq, Int.reduceLT, Int.reduceLE, Int.reduceAdd, Int.reduceSub, Int.reduceNeg, Int.reduceMul, Int.reduceToNat, Int.cast_ofNat_Int, Int.natCast_zero, Nat.add_zero, reduceCtorEq, g0, g4, g5, hlt, e1, e2]
    refine Does.test (does_s_RecOk K hrx) ?_
    cases hrk : recOk x with
    | false =>
      have hn := tripsOf_fail hl hx (by simp [hrk])
      simp only [go_sem, Nat.reduceEqDiff, Nat.reduceAdd, Nat.reduceMul, Nat.reduceLeDiff, Int.reduceEq, Int.reduceLT, Int.reduceLE, Int.reduceAdd, Int.reduceSub, Int.reduceNeg, Int.reduceMul, Int.reduceToNat, Int.cast_ofNat_Int, Int.natCast_zero, Nat.add_zero, reduceCtorEq]
      exact hR _ (hQ _ _ (Ends.ret rfl ⟨.emp true, [], by simp [tupOf, hn], hs.less (by simp), by simp only [tripsD, hn, Option.getD_none]; exact .emp⟩))
    | true =>
      simp only [go_sem, Nat.reduceEqDiff, Nat.reduceAdd, Nat.reduceMul, Nat.reduceLeDiff, Int.reduceEq, Int.reduceLT, Int.reduceLE, Int.reduceAdd, Int.reduceSub, Int.reduceNeg, Int.reduceMul, Int.reduceToNat, Int.cast_ofNat_Int, Int.natCast_zero, Nat.add_zero, reduceCtorEq, g0, g4, g5, hlt, e1, e2]
      refine Does.test (does_s_l12May K hr hrx hrk) ?_
      cases hmb : tripMayB l x with
      | false =>
        have hn := tripsOf_fail hl hx (by simp [hmb])
        simp only [go_sem, Nat.reduceEqDiff, Nat.reduceAdd, Nat.reduceMul, Nat.reduceLeDiff, Int.reduceEq, Int.reduceLT, Int.reduceLE, Int.reduceAdd, Int.reduceSub, Int.reduceNeg, Int.reduceMul, Int.reduceToNat, Int.cast_ofNat_Int, Int.natCast_zero, Nat.add_zero, reduceCtorEq]
        exact hR _ (hQ _ _ (Ends.ret rfl ⟨.emp true, [], by simp [tupOf, hn], hs.less (by simp), by simp only [tripsD, hn, Option.getD_none]; exact .emp⟩))
      | true =>
        simp only [go_sem, Nat.reduceEqDiff, Nat.reduceAdd, Nat.reduceMul, Nat.reduceLeDiff, Int.reduceEq, Int.reduceLT, Int.reduceLE, Int.reduceAdd, Int.reduceSub, Int.reduceNeg, Int.reduceMul, Int.reduceToNat, Int.cast_ofNat_Int, Int.natCast_zero, Nat.add_zero, reduceCtorEq, g0, g4, g5, hlt, e1, e2]
        refine Does.call (does_s_l12Do K hr hs.owned hrx (tripsOf_ok hl) hrk hmb) ?_
        rintro _ H1 ⟨c2, F2, rfl, s2, h2⟩
        simp only [go_sem, Nat.reduceEqDiff, Nat.reduceAdd, Nat.reduceMul, Nat.reduceLeDiff, Int.reduceEq, Int.reduceLT, Int.reduceLE, Int.reduceAdd, Int.reduceSub, Int.reduceNeg, Int.reduceMul, Int.reduceToNat, Int.cast_ofNat_Int, Int.natCast_zero, Nat.add_zero, reduceCtorEq, g0, g4, g5, wrap_succ (show i ≤ lenTop by omega)]
        exact hN _ _ (by omega) ⟨i + 1, rfl, by omega, by simp [upd, g0], by simp [upd], _, c2, F2, tripsOf_next hl hx (by simp [hrk, hmb]), by simp [upd], hs.trans s2, h2⟩
  · simp only [go_sem, Nat.reduceEqDiff, Nat.reduceAdd, Nat.reduceMul, Nat.reduceLeDiff, Int.reduceEq, Int.reduceLT, Int.reduceLE, Int.reduceAdd, Int.reduceSub, Int.reduceNeg, Int.reduceMul, Int.reduceToNat, Int.cast_ofNat_Int, Int.natCast_zero, Nat.add_zero, reduceCtorEq, g0, g5, hlt, h1.len]
    refine hE _ _ ?_
    rw [List.take_of_length_le (by omega)] at hl
    simp only [go_sem, Nat.reduceEqDiff, Nat.reduceAdd, Nat.reduceMul, Nat.reduceLeDiff, Int.reduceEq, Int.reduceLT, Int.reduceLE, Int.reduceAdd, Int.reduceSub, Int.reduceNeg, Int.reduceMul, Int.reduceToNat, Int.cast_ofNat_Int, Int.natCast_zero, Nat.add_zero, reduceCtorEq, g4]
    exact hQ _ _ (Ends.ret rfl ⟨c', F', by simp [tupOf, hl], hs, by simp only [tripsD, hl, Option.getD_some]; exact hr⟩)
theorem does_i_TripsOf (K : Codes P I) {H : Heap} {c : C} {recs : List Rec} {F : List Nat} (h : Recs H c recs F) :
    Does P I.i_TripsOf [.c c] H fun v H' => ∃ c' F', v = .tup [.c c', .c (.bool (tripsOf recs).isSome)] ∧ Step [] H H' F' ∧ Trips H' c' (tripsD recs) F' := by
  refine K.does K.i_TripsOf rfl fun Q hQ => ?_
  have htop := h.top
  simp only [go_sem, Nat.reduceEqDiff, Nat.reduceAdd, Nat.reduceMul, Nat.reduceLeDiff, Int.reduceEq, Int.reduceLT, Int.reduceLE, Int.reduceAdd, Int.reduceSub, Int.reduceNeg, Int.reduceMul, Int.reduceToNat, Int.cast_ofNat_Int, Int.natCast_zero, Nat.add_zero, reduceCtorEq, L_i_TripsOf]
  refine RU_loop (fun m s => ∃ i : Nat, m = recs.length + 1 - i ∧ i ≤ recs.length ∧ s.env 0 = .val (.c c) ∧ s.env 6 = .val (int i) ∧ ((∃ l c' F', tripsOf (recs.take i) = some l ∧ s.env 4 = .val (.c c') ∧ s.env 5 = bool true ∧ Step [] H s.H F' ∧ Trips s.H c' l F') ∨ (tripsOf recs = none ∧ s.env 5 = bool false ∧ ∃ c' F', s.env 4 = .val (.c c') ∧ Step [] H s.H F' ∧ Trips s.H c' [] F'))) (recs.length + 1)
    ⟨0, by simp, by simp, rfl, rfl, .inl ⟨[], .nil, [], rfl, rfl, rfl, Step.refl H, .nil⟩⟩ ?_
  rintro m s ⟨i, rfl, hi, g0, g6, hc⟩ Q' hN hE hR
  rcases hc with ⟨l, c', F', hl, g4, g5, hs, hr⟩ | ⟨hn, g5, c', F', g4, hs, hr⟩
  · have h1 := hs.keepSl RRec.good h fun b _ => by simp
    by_cases hlt : (i : Int) < recs.length
    · obtain ⟨x, hx⟩ := get_lt hlt
      obtain ⟨b1, o1, bs1, cs1, f1, rfl, e1, e2, hrx, hcl, _⟩ := h1.get hx
      obtain ⟨y0, y1, y2, rfl⟩ := len3 hcl
      simp only [go_sem, Nat.reduceEqDiff, Nat.reduceAdd, Nat.reduceMul, Nat.reduceLeDiff, Int.reduceEq, Int.reduceLT, Int.reduceLE, Int.reduceAdd, Int.reduceSub, Int.reduceNeg, Int.reduceMul, Int.reduceToNat, Int.cast_ofNat_Int, Int.natCast_zero, Nat.add_zero, reduceCtorEq, g0, g4, g5, g6, hlt, e1, e2]
      refine Does.call (does_i_TripsDo K hr hrx) ?_
      rintro _ H1 ⟨c2, F2, rfl, s2, h2⟩
      have hok := tripsOf_ok hl
      have hmay : tripsMay l x = (recOk x && tripMayB l x) := by simp [tripsMay, hok]
      have t2 : Step [] H H1 F2 := (hs.with s2).less (by simp)
      simp only [go_sem, Nat.reduceEqDiff, Nat.reduceAdd, Nat.reduceMul, Nat.reduceLeDiff, Int.reduceEq, Int.reduceLT, Int.reduceLE, Int.reduceAdd, Int.reduceSub, Int.reduceNeg, Int.reduceMul, Int.reduceToNat, Int.cast_ofNat_Int, Int.natCast_zero, Nat.add_zero, reduceCtorEq, g0, g4, g5, g6, wrap_succ (show i ≤ lenTop by omega)]
      cases hg : (recOk x && tripMayB l x) with
      | true =>
        refine hN _ _ (by omega) ⟨i + 1, rfl, by omega, by simp [upd, g0], by simp [upd], .inl ⟨_, c2, F2, tripsOf_next hl hx hg, by simp [upd], by simp [upd, hmay, hg], t2, ?_⟩⟩
        rw [tripsDoV, if_pos (by rw [hmay, hg])] at h2; exact h2
      | false =>
        refine hN _ _ (by omega) ⟨i + 1, rfl, by omega, by simp [upd, g0], by simp [upd], .inr ⟨tripsOf_fail hl hx hg, by simp [upd, hmay, hg], c2, F2, by simp [upd], t2, ?_⟩⟩
        rw [tripsDoV, if_neg (by rw [hmay, hg]; simp)] at h2; exact h2
    · simp only [go_sem, Nat.reduceEqDiff, Nat.reduceAdd, Nat.reduceMul, Nat.reduceLeDiff, Int.reduceEq, Int.reduceLT, Int.reduceLE, Int.reduceAdd, Int.reduceSub, Int.reduceNeg, Int.reduceMul, Int.reduceToNat, Int.cast_ofNat_Int, Int.natCast_zero, Nat.add_zero, reduceCtorEq, g0, g4, g5, g6, hlt, h1.len]
      refine hE _ _ ?_
      rw [List.take_of_length_le (by omega)] at hl
      simp only [go_sem, Nat.reduceEqDiff, Nat.reduceAdd, Nat.reduceMul, Nat.reduceLeDiff, Int.reduceEq, Int.reduceLT, Int.reduceLE, Int.reduceAdd, Int.reduceSub, Int.reduceNeg, Int.reduceMul, Int.reduceToNat, Int.cast_ofNat_Int, Int.natCast_zero, Nat.add_zero, reduceCtorEq, g4, g5]
      exact hQ _ _ (Ends.ret rfl ⟨c', F', by simp [tupOf, hl], hs, by simp only [tripsD, hl, Option.getD_some]; exact hr⟩)
  · simp only [go_sem, Nat.reduceEqDiff, Nat.reduceAdd, Nat.reduceMul, Nat.reduceLeDiff, Int.reduceEq, Int.reduceLT, Int.reduceLE, Int.reduceAdd, Int.reduceSub, Int.reduceNeg, Int.reduceMul, Int.reduceToNat, Int.cast_ofNat_Int, Int.natCast_zero, Nat.add_zero, reduceCtorEq, g0, g4, g5, g6]
    refine hE _ _ ?_
    simp only [go_sem, Nat.reduceEqDiff, Nat.reduceAdd, Nat.reduceMul, Nat.reduceLeDiff, Int.reduceEq, Int.reduceLT, Int.reduceLE, Int.reduceAdd, Int.reduceSub, Int.reduceNeg, Int.reduceMul, Int.reduceToNat, Int.cast_ofNat_Int, Int.natCast_zero, Nat.add_zero, reduceCtorEq, g4, g5]
    exact hQ _ _ (Ends.ret rfl ⟨c', F', by simp [tupOf, hn], hs, by simp only [tripsD, hn, Option.getD_none]; exact hr⟩)
end Go.AX

/- Stocks and words: the program and the reference do the same. Condition: the data lie in memory. -/
namespace Go.AX
variable {P : Program} {I : Ids}
theorem own_live {H : Heap} {b n : Nat} {bs : List C} (h : H.own b = some (n, bs)) : H.live b = some bs := by
  unfold Heap.own at h
  unfold Heap.live
  split at h
  · rename_i heq; rw [heq]; simp only [Option.some.injEq, Prod.mk.injEq] at h; rw [h.2]
  · cases h
/-- To write a hold whole. -/
theorem hold_set {H : Heap} {c : C} {l : List Hold} {F : List Nat} (h : Holds' H c l F) (ho : Owned H F) {i : Nat} {x : Hold} (hi : l[i]? = some x) (y : Hold) :
    ∃ b off bs H', c = .sl b off l.length ∧ H.own b = some (2, bs) ∧ off + i * 2 + 2 ≤ bs.length ∧ H.wr b (splice bs (off + i * 2) [.int .i64 y.many, .int .i64 y.state]) = H' ∧ Holds' H' c (l.set i y) F ∧ Step F H H' F := by
  obtain ⟨b, off, bs, H', e1, e2, e3, e4, e5, e6⟩ := sl_put RHold.good h ho hi 0 [.int .i64 y.many, .int .i64 y.state] (by simp) y (fun H' cs f hr hl => by
    obtain ⟨rfl, rfl⟩ := hr
    exact ⟨by simp [splice], rfl⟩)
  exact ⟨b, off, bs, H', e1, e2, by simpa using e3, by simpa using e4, e5, e6⟩
/-- To write a hold's state. -/
theorem hold_st {H : Heap} {c : C} {l : List Hold} {F : List Nat} (h : Holds' H c l F) (ho : Owned H F) {i : Nat} {x : Hold} (hi : l[i]? = some x) (v : Int) :
    ∃ b off bs H', c = .sl b off l.length ∧ H.own b = some (2, bs) ∧ off + i * 2 + 1 + 1 ≤ bs.length ∧ H.wr b (splice bs (off + i * 2 + 1) [.int .i64 v]) = H' ∧ Holds' H' c (l.set i ⟨x.many, v⟩) F ∧ Step F H H' F := by
  obtain ⟨b, off, bs, H', e1, e2, e3, e4, e5, e6⟩ := sl_put RHold.good h ho hi 1 [.int .i64 v] (by simp) ⟨x.many, v⟩ (fun H' cs f hr hl => by
    obtain ⟨rfl, rfl⟩ := hr
    exact ⟨by simp [splice], rfl⟩)
  exact ⟨b, off, bs, H', e1, e2, e3, e4, e5, e6⟩
theorem hadAll_snoc {hs : List Hold} {h : Hold} : hadAll (hs ++ [h]) = hadAll hs + had h := by
  induction hs with
  | nil => simp [hadAll]
  | cons x r ih => simp only [List.cons_append, hadAll, ih]; omega
theorem had_bound {h : Hold} (hk : holdOk h = true) : 0 ≤ had h ∧ had h ≤ 3 := by
  unfold had holdOk at *
  (repeat' split at hk) <;> (try split) <;> simp_all [inB] <;> omega
theorem hadAll_bound {hs : List Hold} (h : ∀ x ∈ hs, holdOk x = true) : 0 ≤ hadAll hs ∧ hadAll hs ≤ 3 * hs.length := by
  induction hs with
  | nil => simp [hadAll]
  | cons x r ih =>
    have h1 := ih fun y hy => h y (by simp [hy])
    have h2 := had_bound (h x (by simp))
    simp only [hadAll, List.length_cons]; omega
theorem does_i_Hold_ok (K : Codes P I) {H : Heap} {a b : Int} : Does P I.i_Hold_ok [.agg [.int .i64 a, .int .i64 b]] H fun v H' => v = bool (holdOk ⟨a, b⟩) ∧ H' = H := by
  refine K.does K.i_Hold_ok rfl fun Q hQ => ?_
  by_cases h0 : b = 0
  · simp only [go_sem, Nat.reduceEqDiff, Nat.reduceAdd, Nat.reduceMul, Nat.reduceLeDiff, Int.reduceEq, Int.reduceLT, Int.reduceLE, Int.reduceAdd, Int.reduceSub, Int.reduceNeg, Int.reduceMul, Int.reduceToNat, Int.cast_ofNat_Int, Int.natCast_zero, Nat.add_zero, reduceCtorEq, L_i_Hold_ok, h0]
    exact hQ _ _ (Ends.ret rfl ⟨by simp [tupOf, holdOk, h0], rfl⟩)
  · by_cases h1 : b = 1
    · simp only [go_sem, Nat.reduceEqDiff, Nat.reduceAdd, Nat.reduceMul, Nat.reduceLeDiff, Int.reduceEq, Int.reduceLT, Int.reduceLE, Int.reduceAdd, Int.reduceSub, Int.reduceNeg, Int.reduceMul, Int.reduceToNat, Int.cast_ofNat_Int, Int.natCast_zero, Nat.add_zero, reduceCtorEq, L_i_Hold_ok, h0, h1]
      refine Does.test (does_i_in K) ?_
      simp only [go_sem, Nat.reduceEqDiff, Nat.reduceAdd, Nat.reduceMul, Nat.reduceLeDiff, Int.reduceEq, Int.reduceLT, Int.reduceLE, Int.reduceAdd, Int.reduceSub, Int.reduceNeg, Int.reduceMul, Int.reduceToNat, Int.cast_ofNat_Int, Int.natCast_zero, Nat.add_zero, reduceCtorEq]
      exact hQ _ _ (Ends.ret rfl ⟨by simp [tupOf, holdOk, h1], rfl⟩)
    · by_cases h2 : b = 2
      · simp only [go_sem, Nat.reduceEqDiff, Nat.reduceAdd, Nat.reduceMul, Nat.reduceLeDiff, Int.reduceEq, Int.reduceLT, Int.reduceLE, Int.reduceAdd, Int.reduceSub, Int.reduceNeg, Int.reduceMul, Int.reduceToNat, Int.cast_ofNat_Int, Int.natCast_zero, Nat.add_zero, reduceCtorEq, L_i_Hold_ok, h0, h1, h2]
        refine Does.test (does_i_in K) ?_
        simp only [go_sem, Nat.reduceEqDiff, Nat.reduceAdd, Nat.reduceMul, Nat.reduceLeDiff, Int.reduceEq, Int.reduceLT, Int.reduceLE, Int.reduceAdd, Int.reduceSub, Int.reduceNeg, Int.reduceMul, Int.reduceToNat, Int.cast_ofNat_Int, Int.natCast_zero, Nat.add_zero, reduceCtorEq]
        exact hQ _ _ (Ends.ret rfl ⟨by simp [tupOf, holdOk, h2], rfl⟩)
      · by_cases h3 : b = 3
        · simp only [go_sem, Nat.reduceEqDiff, Nat.reduceAdd, Nat.reduceMul, Nat.reduceLeDiff, Int.reduceEq, Int.reduceLT, Int.reduceLE, Int.reduceAdd, Int.reduceSub, Int.reduceNeg, Int.reduceMul, Int.reduceToNat, Int.cast_ofNat_Int, Int.natCast_zero, Nat.add_zero, reduceCtorEq, L_i_Hold_ok, h0, h1, h2, h3]
          refine Does.test (does_i_in K) ?_
          simp only [go_sem, Nat.reduceEqDiff, Nat.reduceAdd, Nat.reduceMul, Nat.reduceLeDiff, Int.reduceEq, Int.reduceLT, Int.reduceLE, Int.reduceAdd, Int.reduceSub, Int.reduceNeg, Int.reduceMul, Int.reduceToNat, Int.cast_ofNat_Int, Int.natCast_zero, Nat.add_zero, reduceCtorEq]
          exact hQ _ _ (Ends.ret rfl ⟨by simp [tupOf, holdOk, h3], rfl⟩)
        · simp only [go_sem, Nat.reduceEqDiff, Nat.reduceAdd, Nat.reduceMul, Nat.reduceLeDiff, Int.reduceEq, Int.reduceLT, Int.reduceLE, Int.reduceAdd, Int.reduceSub, Int.reduceNeg, Int.reduceMul, Int.reduceToNat, Int.cast_ofNat_Int, Int.natCast_zero, Nat.add_zero, reduceCtorEq, L_i_Hold_ok, h0, h1, h2, h3]
          exact hQ _ _ (Ends.ret rfl ⟨by simp [tupOf, holdOk, h0, h1, h2, h3], rfl⟩)
theorem does_i_StockOk_1 (K : Codes P I) {H : Heap} {cs : List C} {h : Hold} {F : List Nat} (hr : RHold H cs h F) : Tests P I.i_StockOk_1 H (.agg cs) (!holdOk h) := by
  obtain ⟨rfl, rfl⟩ := hr
  refine K.does K.i_StockOk_1 rfl fun Q hQ => ?_
  simp only [go_sem, Nat.reduceEqDiff, Nat.reduceAdd, Nat.reduceMul, Nat.reduceLeDiff, Int.reduceEq, Int.reduceLT, Int.reduceLE, Int.reduceAdd, Int.reduceSub, Int.reduceNeg, Int.reduceMul, Int.reduceToNat, Int.cast_ofNat_Int, Int.natCast_zero, Nat.add_zero, reduceCtorEq, L_i_StockOk_1]
  refine Does.test (does_i_Hold_ok K) ?_
  simp only [go_sem, Nat.reduceEqDiff, Nat.reduceAdd, Nat.reduceMul, Nat.reduceLeDiff, Int.reduceEq, Int.reduceLT, Int.reduceLE, Int.reduceAdd, Int.reduceSub, Int.reduceNeg, Int.reduceMul, Int.reduceToNat, Int.cast_ofNat_Int, Int.natCast_zero, Nat.add_zero, reduceCtorEq]
  exact hQ _ _ (Ends.ret rfl ⟨rfl, rfl⟩)
theorem does_i_Stock_free (K : Codes P I) {H : Heap} {cs : List C} {s : Stock} {F : List Nat} (h : RStock H cs s F) (hroom : 0 ≤ s.room ∧ s.room ≤ 9) (hlen : s.holds.length = 6) (hall : ∀ x ∈ s.holds, holdOk x = true) : Does P I.i_Stock_free [.agg cs] H fun v H' => v = .val (int (freeS s)) ∧ H' = H := by
  obtain ⟨c, rfl, hc⟩ := h
  refine K.does K.i_Stock_free rfl fun Q hQ => ?_
  simp only [go_sem, Nat.reduceEqDiff, Nat.reduceAdd, Nat.reduceMul, Nat.reduceLeDiff, Int.reduceEq, Int.reduceLT, Int.reduceLE, Int.reduceAdd, Int.reduceSub, Int.reduceNeg, Int.reduceMul, Int.reduceToNat, Int.cast_ofNat_Int, Int.natCast_zero, Nat.add_zero, reduceCtorEq, L_i_Stock_free, hc.len]
  refine RU_loop (fun m t => ∃ i : Nat, m = 6 - i ∧ i ≤ 6 ∧ t.H = H ∧ t.env 9 = .val (.c c) ∧ t.env 10 = .val (int s.holds.length) ∧ t.env 11 = .val (int i) ∧ t.env 3 = .val (int (s.room - hadAll (s.holds.take i)))) 6 ⟨0, rfl, by omega, rfl, rfl, rfl, rfl, by simp [upd, hadAll]⟩ ?_
  rintro m t ⟨i, rfl, hi, hH, g9, g10, g11, g3⟩ Q' hN hE hR
  by_cases hlt : (i : Int) < s.holds.length
  · obtain ⟨x, hx⟩ := get_lt hlt
    obtain ⟨b1, o1, bs1, cs1, f1, rfl, e1, e2, ⟨rfl, _⟩, _, _⟩ := hc.get hx
    have hb := hadAll_bound (hs := s.holds.take (i + 1)) fun y hy => hall y (List.mem_of_mem_take hy)
    have hbl : (s.holds.take (i + 1)).length ≤ 6 := by simp; omega
    have hsn : hadAll (s.holds.take (i + 1)) = hadAll (s.holds.take i) + had x := by rw [take_snoc hx, hadAll_snoc]
    have hwi := wrap_succ (show i ≤ lenTop by unfold lenTop; omega)
    by_cases s1 : x.state = 1
    · have hh : had x = x.many := by simp [had, s1]
      have hw : IntKind.wrap .i64 (s.room - hadAll (s.holds.take i) - x.many) = s.room - hadAll (s.holds.take i) - x.many := wrap_i64 (by omega) (by omega)
      simp only [go_sem, Nat.reduceEqDiff, Nat.reduceAdd, Nat.reduceMul, Nat.reduceLeDiff, Int.reduceEq, Int.reduceLT, Int.reduceLE, Int.reduceAdd, Int.reduceSub, Int.reduceNeg, Int.reduceMul, Int.reduceToNat, Int.cast_ofNat_Int, Int.natCast_zero, Nat.add_zero, reduceCtorEq, g3, g9, g10, g11, hlt, hH, e1, e2, s1, hw, hwi]
      exact hN _ _ (by omega) ⟨i + 1, rfl, by omega, by simp [hH], by simp [upd, g9], by simp [upd, g10], by simp [upd], by simp [upd, hsn, hh]; omega⟩
    · by_cases s2 : x.state = 2
      · have hh : had x = x.many := by simp [had, s2]
        have hw : IntKind.wrap .i64 (s.room - hadAll (s.holds.take i) - x.many) = s.room - hadAll (s.holds.take i) - x.many := wrap_i64 (by omega) (by omega)
        simp only [go_sem, Nat.reduceEqDiff, Nat.reduceAdd, Nat.reduceMul, Nat.reduceLeDiff, Int.reduceEq, Int.reduceLT, Int.reduceLE, Int.reduceAdd, Int.reduceSub, Int.reduceNeg, Int.reduceMul, Int.reduceToNat, Int.cast_ofNat_Int, Int.natCast_zero, Nat.add_zero, reduceCtorEq, g3, g9, g10, g11, hlt, hH, e1, e2, s1, s2, hw, hwi]
        exact hN _ _ (by omega) ⟨i + 1, rfl, by omega, by simp [hH], by simp [upd, g9], by simp [upd, g10], by simp [upd], by simp [upd, hsn, hh]; omega⟩
      · have hh : had x = 0 := by simp [had, s1, s2]
        simp only [go_sem, Nat.reduceEqDiff, Nat.reduceAdd, Nat.reduceMul, Nat.reduceLeDiff, Int.reduceEq, Int.reduceLT, Int.reduceLE, Int.reduceAdd, Int.reduceSub, Int.reduceNeg, Int.reduceMul, Int.reduceToNat, Int.cast_ofNat_Int, Int.natCast_zero, Nat.add_zero, reduceCtorEq, g3, g9, g10, g11, hlt, hH, e1, e2, s1, s2, hwi]
        exact hN _ _ (by omega) ⟨i + 1, rfl, by omega, by simp [hH], by simp [upd, g9], by simp [upd, g10], by simp [upd], by simp [upd, g3, hsn, hh]⟩
  · simp only [go_sem, Nat.reduceEqDiff, Nat.reduceAdd, Nat.reduceMul, Nat.reduceLeDiff, Int.reduceEq, Int.reduceLT, Int.reduceLE, Int.reduceAdd, Int.reduceSub, Int.reduceNeg, Int.reduceMul, Int.reduceToNat, Int.cast_ofNat_Int, Int.natCast_zero, Nat.add_zero, reduceCtorEq, g10, g11, hlt, hH]
    refine hE _ _ ?_
    rw [List.take_of_length_le (by omega)] at g3
    simp only [go_sem, Nat.reduceEqDiff, Nat.reduceAdd, Nat.reduceMul, Nat.reduceLeDiff, Int.reduceEq, Int.reduceLT, Int.reduceLE, Int.reduceAdd, Int.reduceSub, Int.reduceNeg, Int.reduceMul, Int.reduceToNat, Int.cast_ofNat_Int, Int.natCast_zero, Nat.add_zero, reduceCtorEq, g3]
    exact hQ _ _ (Ends.ret rfl ⟨rfl, rfl⟩)
theorem does_s_l2Free (K : Codes P I) {H : Heap} {cs : List C} {s : Stock} {F : List Nat} (h : RStock H cs s F) (hroom : 0 ≤ s.room ∧ s.room ≤ 9) (hlen : s.holds.length = 6) (hall : ∀ x ∈ s.holds, holdOk x = true) : Does P I.s_l2Free [.agg cs] H fun v H' => v = .val (int (freeS s)) ∧ H' = H := by
  obtain ⟨c, rfl, hc⟩ := h
  refine K.does K.s_l2Free rfl fun Q hQ => ?_
  simp only [go_sem, Nat.reduceEqDiff, Nat.reduceAdd, Nat.reduceMul, Nat.reduceLeDiff, Int.reduceEq, Int.reduceLT, Int.reduceLE, Int.reduceAdd, Int.reduceSub, Int.reduceNeg, Int.reduceMul, Int.reduceToNat, Int.cast_ofNat_Int, Int.natCast_zero, Nat.add_zero, reduceCtorEq, L_s_l2Free]
  refine RU_loop (fun m t => ∃ i : Nat, m = 6 - i ∧ i ≤ 6 ∧ t.H = H ∧ t.env 1 = .box [.int .i64 s.room, c] ∧ t.env 4 = .val (int i) ∧ t.env 3 = .val (int (s.room - hadAll (s.holds.take i)))) 6 ⟨0, rfl, by omega, rfl, rfl, rfl, by simp [upd, hadAll]⟩ ?_
  rintro m t ⟨i, rfl, hi, hH, g1, g4, g3⟩ Q' hN hE hR
  by_cases hlt : (i : Int) < s.holds.length
  · obtain ⟨x, hx⟩ := get_lt hlt
    obtain ⟨b1, o1, bs1, cs1, f1, rfl, e1, e2, ⟨rfl, _⟩, _, _⟩ := hc.get hx
    have hb := hadAll_bound (hs := s.holds.take (i + 1)) fun y hy => hall y (List.mem_of_mem_take hy)
    have hbl : (s.holds.take (i + 1)).length ≤ 6 := by simp; omega
    have hsn : hadAll (s.holds.take (i + 1)) = hadAll (s.holds.take i) + had x := by rw [take_snoc hx, hadAll_snoc]
    have hwi := wrap_succ (show i ≤ lenTop by unfold lenTop; omega)
    have ld0 := slab_sub0 e2 1 (by simp)
    have ld1 := slab_sub e2 1 1 (by simp)
    simp only [slabAt1, slabSkip1] at ld0 ld1
    by_cases s1 : x.state = 1
    · have hh : had x = x.many := by simp [had, s1]
      have hw : IntKind.wrap .i64 (s.room - hadAll (s.holds.take i) - x.many) = s.room - hadAll (s.holds.take i) - x.many := wrap_i64 (by omega) (by omega)
      simp only [go_sem, Nat.reduceEqDiff, Nat.reduceAdd, Nat.reduceMul, Nat.reduceLeDiff, Int.reduceEq, Int.reduceLT, Int.reduceLE, Int.reduceAdd, Int.reduceSub, Int.reduceNeg, Int.reduceMul, Int.reduceToNat, Int.cast_ofNat_Int, Int.natCast_zero, Nat.add_zero, reduceCtorEq, g1, g3, g4, hlt, hH, e1, ld0, ld1, s1, hw, hwi]
      exact hN _ _ (by omega) ⟨i + 1, rfl, by omega, by simp [hH], by simp [upd, g1], by simp [upd], by simp [upd, hsn, hh]; omega⟩
    · by_cases s2 : x.state = 2
      · have hh : had x = x.many := by simp [had, s2]
        have hw : IntKind.wrap .i64 (s.room - hadAll (s.holds.take i) - x.many) = s.room - hadAll (s.holds.take i) - x.many := wrap_i64 (by omega) (by omega)
        simp only [go_sem, Nat.reduceEqDiff, Nat.reduceAdd, Nat.reduceMul, Nat.reduceLeDiff, Int.reduceEq, Int.reduceLT, Int.reduceLE, Int.reduceAdd, Int.reduceSub, Int.reduceNeg, Int.reduceMul, Int.reduceToNat, Int.cast_ofNat_Int, Int.natCast_zero, Nat.add_zero, reduceCtorEq, g1, g3, g4, hlt, hH, e1, ld0, ld1, s1, s2, hw, hwi]
        exact hN _ _ (by omega) ⟨i + 1, rfl, by omega, by simp [hH], by simp [upd, g1], by simp [upd], by simp [upd, hsn, hh]; omega⟩
      · have hh : had x = 0 := by simp [had, s1, s2]
        simp only [go_sem, Nat.reduceEqDiff, Nat.reduceAdd, Nat.reduceMul, Nat.reduceLeDiff, Int.reduceEq, Int.reduceLT, Int.reduceLE, Int.reduceAdd, Int.reduceSub, Int.reduceNeg, Int.reduceMul, Int.reduceToNat, Int.cast_ofNat_Int, Int.natCast_zero, Nat.add_zero, reduceCtorEq, g1, g3, g4, hlt, hH, e1, ld0, ld1, s1, s2, hwi]
        exact hN _ _ (by omega) ⟨i + 1, rfl, by omega, by simp [hH], by simp [upd, g1], by simp [upd], by simp [upd, g3, hsn, hh]⟩
  · simp only [go_sem, Nat.reduceEqDiff, Nat.reduceAdd, Nat.reduceMul, Nat.reduceLeDiff, Int.reduceEq, Int.reduceLT, Int.reduceLE, Int.reduceAdd, Int.reduceSub, Int.reduceNeg, Int.reduceMul, Int.reduceToNat, Int.cast_ofNat_Int, Int.natCast_zero, Nat.add_zero, reduceCtorEq, g1, g4, hlt, hH, hc.len]
    refine hE _ _ ?_
    rw [List.take_of_length_le (by omega)] at g3
    simp only [go_sem, Nat.reduceEqDiff, Nat.reduceAdd, Nat.reduceMul, Nat.reduceLeDiff, Int.reduceEq, Int.reduceLT, Int.reduceLE, Int.reduceAdd, Int.reduceSub, Int.reduceNeg, Int.reduceMul, Int.reduceToNat, Int.cast_ofNat_Int, Int.natCast_zero, Nat.add_zero, reduceCtorEq, g3]
    exact hQ _ _ (Ends.ret rfl ⟨rfl, rfl⟩)
theorem does_i_StockOk (K : Codes P I) {H : Heap} {cs : List C} {s : Stock} {F : List Nat} (h : RStock H cs s F) : Does P I.i_StockOk [.agg cs] H fun v H' => v = bool (stockOk s) ∧ H' = H := by
  have h0 := h
  obtain ⟨c, rfl, hc⟩ := h
  refine K.does K.i_StockOk rfl fun Q hQ => ?_
  simp only [go_sem, Nat.reduceEqDiff, Nat.reduceAdd, Nat.reduceMul, Nat.reduceLeDiff, Int.reduceEq, Int.reduceLT, Int.reduceLE, Int.reduceAdd, Int.reduceSub, Int.reduceNeg, Int.reduceMul, Int.reduceToNat, Int.cast_ofNat_Int, Int.natCast_zero, Nat.add_zero, reduceCtorEq, L_i_StockOk]
  refine Does.test (does_i_in K) ?_
  cases hroom : inB s.room 0 9 with
  | false =>
    simp only [go_sem, Nat.reduceEqDiff, Nat.reduceAdd, Nat.reduceMul, Nat.reduceLeDiff, Int.reduceEq, Int.reduceLT, Int.reduceLE, Int.reduceAdd, Int.reduceSub, Int.reduceNeg, Int.reduceMul, Int.reduceToNat, Int.cast_ofNat_Int, Int.natCast_zero, Nat.add_zero, reduceCtorEq]
    exact hQ _ _ (Ends.ret rfl ⟨by simp [tupOf, stockOk, hroom], rfl⟩)
  | true =>
    by_cases hlen : (s.holds.length : Int) = 6
    · have hlen' : s.holds.length = 6 := by omega
      simp only [go_sem, Nat.reduceEqDiff, Nat.reduceAdd, Nat.reduceMul, Nat.reduceLeDiff, Int.reduceEq, Int.reduceLT, Int.reduceLE, Int.reduceAdd, Int.reduceSub, Int.reduceNeg, Int.reduceMul, Int.reduceToNat, Int.cast_ofNat_Int, Int.natCast_zero, Nat.add_zero, reduceCtorEq, hc.len, hlen]
      refine Does.test (does_g_ContainsFunc_Hold K hc (fun h => !holdOk h) fun cs x f' _ hr _ => does_i_StockOk_1 K hr) ?_
      cases hall : s.holds.all holdOk with
      | false =>
        simp only [go_sem, Nat.reduceEqDiff, Nat.reduceAdd, Nat.reduceMul, Nat.reduceLeDiff, Int.reduceEq, Int.reduceLT, Int.reduceLE, Int.reduceAdd, Int.reduceSub, Int.reduceNeg, Int.reduceMul, Int.reduceToNat, Int.cast_ofNat_Int, Int.natCast_zero, Nat.add_zero, reduceCtorEq, any_not', hall]
        exact hQ _ _ (Ends.ret rfl ⟨by simp [tupOf, stockOk, hall], rfl⟩)
      | true =>
        simp only [go_sem, Nat.reduceEqDiff, Nat.reduceAdd, Nat.reduceMul, Nat.reduceLeDiff, Int.reduceEq, Int.reduceLT, Int.reduceLE, Int.reduceAdd, Int.reduceSub, Int.reduceNeg, Int.reduceMul, Int.reduceToNat, Int.cast_ofNat_Int, Int.natCast_zero, Nat.add_zero, reduceCtorEq, any_not', hall]
        refine Does.test (does_i_Stock_free K h0 (by simpa [inB] using hroom) hlen' (List.all_eq_true.1 hall)) ?_
        simp only [go_sem, Nat.reduceEqDiff, Nat.reduceAdd, Nat.reduceMul, Nat.reduceLeDiff, Int.reduceEq, Int.reduceLT, Int.reduceLE, Int.reduceAdd, Int.reduceSub, Int.reduceNeg, Int.reduceMul, Int.reduceToNat, Int.cast_ofNat_Int, Int.natCast_zero, Nat.add_zero, reduceCtorEq]
        exact hQ _ _ (Ends.ret rfl ⟨by simp [tupOf, stockOk, hroom, hlen', hall], rfl⟩)
    · have hlen' : ¬ s.holds.length = 6 := by omega
      simp only [go_sem, Nat.reduceEqDiff, Nat.reduceAdd, Nat.reduceMul, Nat.reduceLeDiff, Int.reduceEq, Int.reduceLT, Int.reduceLE, Int.reduceAdd, Int.reduceSub, Int.reduceNeg, Int.reduceMul, Int.reduceToNat, Int.cast_ofNat_Int, Int.natCast_zero, Nat.add_zero, reduceCtorEq, hc.len, hlen]
      exact hQ _ _ (Ends.ret rfl ⟨by simp [tupOf, stockOk, hlen'], rfl⟩)
end Go.AX

/- What records do to stocks: the program and the reference do the same. Condition: the data lie in memory. -/
namespace Go.AX
variable {P : Program} {I : Ids}
theorem RHold.cells {H : Heap} {cs : List C} {x : Hold} {F : List Nat} (h : RHold H cs x F) : cs.length = 2 := by rw [h.1]; rfl
theorem stock_at {s : Stock} {r : Rec} (hs : stockOk s = true) (hr : recOk r = true) : ∃ i, (r.trip - 1).toNat = i ∧ r.trip = (i : Nat) + 1 ∧ i < s.holds.length ∧ s.holds[i]? = some (holdAt s r.trip) ∧ IntKind.wrap .i64 (r.trip - 1) = (i : Int) ∧ (i : Int) < s.holds.length := by
  obtain ⟨_, hlen, _, _⟩ := stockOk_parts hs
  have ht := recOk_trip hr
  refine ⟨(r.trip - 1).toNat, rfl, by omega, by omega, holdAt_get hlen ht.1 ht.2, ?_, by omega⟩
  rw [wrap_i64 (by omega) (by omega)]; omega
theorem does_i_StockMay (K : Codes P I) {H : Heap} {cs ds : List C} {s : Stock} {r : Rec} {F G : List Nat} (h : RStock H cs s F) (hr : RRec H ds r G) : Does P I.i_StockMay [.agg cs, .agg ds] H fun v H' => v = bool (stockMay s r) ∧ H' = H := by
  have h0 := h
  have hr0 := hr
  obtain ⟨c, rfl, hc⟩ := h
  obtain ⟨cm, rfl, hm⟩ := hr
  refine K.does K.i_StockMay rfl fun Q hQ => ?_
  simp only [go_sem, Nat.reduceEqDiff, Nat.reduceAdd, Nat.reduceMul, Nat.reduceLeDiff, Int.reduceEq, Int.reduceLT, Int.reduceLE, Int.reduceAdd, Int.reduceSub, Int.reduceNeg, Int.reduceMul, Int.reduceToNat, Int.cast_ofNat_Int, Int.natCast_zero, Nat.add_zero, reduceCtorEq, L_i_StockMay]
  refine Does.test (does_i_StockOk K h0) ?_
  cases hok : stockOk s with
  | false =>
    simp only [go_sem, Nat.reduceEqDiff, Nat.reduceAdd, Nat.reduceMul, Nat.reduceLeDiff, Int.reduceEq, Int.reduceLT, Int.reduceLE, Int.reduceAdd, Int.reduceSub, Int.reduceNeg, Int.reduceMul, Int.reduceToNat, Int.cast_ofNat_Int, Int.natCast_zero, Nat.add_zero, reduceCtorEq]
    exact hQ _ _ (Ends.ret rfl ⟨by simp [tupOf, stockMay, hok], rfl⟩)
  | true =>
    simp only [go_sem, Nat.reduceEqDiff, Nat.reduceAdd, Nat.reduceMul, Nat.reduceLeDiff, Int.reduceEq, Int.reduceLT, Int.reduceLE, Int.reduceAdd, Int.reduceSub, Int.reduceNeg, Int.reduceMul, Int.reduceToNat, Int.cast_ofNat_Int, Int.natCast_zero, Nat.add_zero, reduceCtorEq]
    refine Does.test (does_i_RecOk K hr0) ?_
    cases hrk : recOk r with
    | false =>
      simp only [go_sem, Nat.reduceEqDiff, Nat.reduceAdd, Nat.reduceMul, Nat.reduceLeDiff, Int.reduceEq, Int.reduceLT, Int.reduceLE, Int.reduceAdd, Int.reduceSub, Int.reduceNeg, Int.reduceMul, Int.reduceToNat, Int.cast_ofNat_Int, Int.natCast_zero, Nat.add_zero, reduceCtorEq]
      exact hQ _ _ (Ends.ret rfl ⟨by simp [tupOf, stockMay, hrk], rfl⟩)
    | true =>
      obtain ⟨hroom, hlen, hall, hfree⟩ := stockOk_parts hok
      obtain ⟨i, q1, q2, q3, q4, q5, q6⟩ := stock_at hok hrk
      obtain ⟨b1, o1, bs1, cs1, f1, rfl, e1, e2, ⟨rfl, _⟩, _, _⟩ := hc.get q4
      have ld1 := slab_sub e2 1 1 (by simp)
      simp only [slabAt1, slabSkip1] at ld1
      by_cases k1 : r.kind = 1
      · obtain ⟨n, hn, _, _⟩ := recOk_hold hrk k1
        rw [hn] at hm
        obtain ⟨b2, o2, bs2, cs2, f2, rfl, g1, g2, ⟨rfl, _⟩, _⟩ := hm.get0
        simp only [Nat.zero_mul, Nat.add_zero] at g2
        simp only [go_sem, Nat.reduceEqDiff, Nat.reduceAdd, Nat.reduceMul, Nat.reduceLeDiff, Int.reduceEq, Int.reduceLT, Int.reduceLE, Int.reduceAdd, Int.reduceSub, Int.reduceNeg, Int.reduceMul, Int.reduceToNat, Int.cast_ofNat_Int, Int.natCast_zero, Nat.add_zero, reduceCtorEq, q5, q6, e1, ld1, k1]
        refine RU_code_regionZ (zOne b2 bs2) (zOne_holds g1) ?_
        by_cases s0 : (holdAt s r.trip).state = 0
        · simp only [go_sem, Nat.reduceEqDiff, Nat.reduceAdd, Nat.reduceMul, Nat.reduceLeDiff, Int.reduceEq, Int.reduceLT, Int.reduceLE, Int.reduceAdd, Int.reduceSub, Int.reduceNeg, Int.reduceMul, Int.reduceToNat, Int.cast_ofNat_Int, Int.natCast_zero, Nat.add_zero, reduceCtorEq, q5, q6, e1, ld1, k1, s0, g1, g2, Int.natCast_one, Int.ofNat_one, Nat.zero_mul, RUh_zOne g1]
          refine Does.test (does_i_Stock_free K h0 hroom hlen hall) ?_
          simp only [go_sem, Nat.reduceEqDiff, Nat.reduceAdd, Nat.reduceMul, Nat.reduceLeDiff, Int.reduceEq, Int.reduceLT, Int.reduceLE, Int.reduceAdd, Int.reduceSub, Int.reduceNeg, Int.reduceMul, Int.reduceToNat, Int.cast_ofNat_Int, Int.natCast_zero, Nat.add_zero, reduceCtorEq, RUh_zOne g1]
          exact hQ _ _ (Ends.ret rfl ⟨by simp [tupOf, stockMay, hok, hrk, stockMayB, k1, s0, first, hn], rfl⟩)
        · simp only [go_sem, Nat.reduceEqDiff, Nat.reduceAdd, Nat.reduceMul, Nat.reduceLeDiff, Int.reduceEq, Int.reduceLT, Int.reduceLE, Int.reduceAdd, Int.reduceSub, Int.reduceNeg, Int.reduceMul, Int.reduceToNat, Int.cast_ofNat_Int, Int.natCast_zero, Nat.add_zero, reduceCtorEq, q5, q6, e1, ld1, k1, s0, RUh_zOne g1]
          exact hQ _ _ (Ends.ret rfl ⟨by simp [tupOf, stockMay, hok, hrk, stockMayB, k1, s0], rfl⟩)
      · by_cases k2 : r.kind = 2
        · simp only [go_sem, Nat.reduceEqDiff, Nat.reduceAdd, Nat.reduceMul, Nat.reduceLeDiff, Int.reduceEq, Int.reduceLT, Int.reduceLE, Int.reduceAdd, Int.reduceSub, Int.reduceNeg, Int.reduceMul, Int.reduceToNat, Int.cast_ofNat_Int, Int.natCast_zero, Nat.add_zero, reduceCtorEq, q5, q6, e1, ld1, k1, k2]
          exact hQ _ _ (Ends.ret rfl ⟨by simp [tupOf, stockMay, hok, hrk, stockMayB, k2], rfl⟩)
        · by_cases k3 : r.kind = 3
          · by_cases s1 : (holdAt s r.trip).state = 1
            · simp only [go_sem, Nat.reduceEqDiff, Nat.reduceAdd, Nat.reduceMul, Nat.reduceLeDiff, Int.reduceEq, Int.reduceLT, Int.reduceLE, Int.reduceAdd, Int.reduceSub, Int.reduceNeg, Int.reduceMul, Int.reduceToNat, Int.cast_ofNat_Int, Int.natCast_zero, Nat.add_zero, reduceCtorEq, q5, q6, e1, ld1, k1, k2, k3, s1]
              exact hQ _ _ (Ends.ret rfl ⟨by simp [tupOf, stockMay, hok, hrk, stockMayB, k3, s1], rfl⟩)
            · simp only [go_sem, Nat.reduceEqDiff, Nat.reduceAdd, Nat.reduceMul, Nat.reduceLeDiff, Int.reduceEq, Int.reduceLT, Int.reduceLE, Int.reduceAdd, Int.reduceSub, Int.reduceNeg, Int.reduceMul, Int.reduceToNat, Int.cast_ofNat_Int, Int.natCast_zero, Nat.add_zero, reduceCtorEq, q5, q6, e1, ld1, k1, k2, k3, s1]
              exact hQ _ _ (Ends.ret rfl ⟨by simp [tupOf, stockMay, hok, hrk, stockMayB, k3, s1], rfl⟩)
          · simp only [go_sem, Nat.reduceEqDiff, Nat.reduceAdd, Nat.reduceMul, Nat.reduceLeDiff, Int.reduceEq, Int.reduceLT, Int.reduceLE, Int.reduceAdd, Int.reduceSub, Int.reduceNeg, Int.reduceMul, Int.reduceToNat, Int.cast_ofNat_Int, Int.natCast_zero, Nat.add_zero, reduceCtorEq, q5, q6, e1, ld1, k1, k2, k3]
            exact hQ _ _ (Ends.ret rfl ⟨by simp [tupOf, stockMay, hok, hrk, stockMayB, k1, k2, k3], rfl⟩)
theorem does_s_l2May (K : Codes P I) {H : Heap} {cs ds : List C} {s : Stock} {r : Rec} {F G : List Nat} (h : RStock H cs s F) (hr : RRec H ds r G) (hok : stockOk s = true) (hrk : recOk r = true) : Does P I.s_l2May [.agg cs, .agg ds] H fun v H' => v = bool (stockMayB s r) ∧ H' = H := by
  have h0 := h
  obtain ⟨c, rfl, hc⟩ := h
  obtain ⟨cm, rfl, hm⟩ := hr
  refine K.does K.s_l2May rfl fun Q hQ => ?_
  obtain ⟨hroom, hlen, hall, hfree⟩ := stockOk_parts hok
  obtain ⟨i, q1, q2, q3, q4, q5, q6⟩ := stock_at hok hrk
  obtain ⟨b1, o1, bs1, cs1, f1, rfl, e1, e2, ⟨rfl, _⟩, _, _⟩ := hc.get q4
  have ld1 := slab_sub e2 1 1 (by simp)
  simp only [slabAt1, slabSkip1] at ld1
  by_cases k1 : r.kind = 1
  · obtain ⟨n, hn, _, _⟩ := recOk_hold hrk k1
    rw [hn] at hm
    obtain ⟨b2, o2, bs2, cs2, f2, rfl, g1, g2, ⟨rfl, _⟩, _⟩ := hm.get0
    simp only [Nat.zero_mul, Nat.add_zero] at g2
    simp only [go_sem, Nat.reduceEqDiff, Nat.reduceAdd, Nat.reduceMul, Nat.reduceLeDiff, Int.reduceEq, Int.reduceLT, Int.reduceLE, Int.reduceAdd, Int.reduceSub, Int.reduceNeg, Int.reduceMul, Int.reduceToNat, Int.cast_ofNat_Int, Int.natCast_zero, Nat.add_zero, reduceCtorEq, L_s_l2May, q5, q6, e1, ld1, k1]
    refine RU_code_regionZ (zOne b2 bs2) (zOne_holds g1) ?_
    by_cases s0 : (holdAt s r.trip).state = 0
    · simp only [go_sem, Nat.reduceEqDiff, Nat.reduceAdd, Nat.reduceMul, Nat.reduceLeDiff, Int.reduceEq, Int.reduceLT, Int.reduceLE, Int.reduceAdd, Int.reduceSub, Int.reduceNeg, Int.reduceMul, Int.reduceToNat, Int.cast_ofNat_Int, Int.natCast_zero, Nat.add_zero, reduceCtorEq, q5, q6, e1, ld1, k1, s0, g1, g2, Int.natCast_one, Int.ofNat_one, Nat.zero_mul, RUh_zOne g1]
      refine Does.test (does_s_l2Free K h0 hroom hlen hall) ?_
      simp only [go_sem, Nat.reduceEqDiff, Nat.reduceAdd, Nat.reduceMul, Nat.reduceLeDiff, Int.reduceEq, Int.reduceLT, Int.reduceLE, Int.reduceAdd, Int.reduceSub, Int.reduceNeg, Int.reduceMul, Int.reduceToNat, Int.cast_ofNat_Int, Int.natCast_zero, Nat.add_zero, reduceCtorEq, RUh_zOne g1]
      exact hQ _ _ (Ends.ret rfl ⟨by simp [tupOf, stockMayB, k1, s0, first, hn], rfl⟩)
    · simp only [go_sem, Nat.reduceEqDiff, Nat.reduceAdd, Nat.reduceMul, Nat.reduceLeDiff, Int.reduceEq, Int.reduceLT, Int.reduceLE, Int.reduceAdd, Int.reduceSub, Int.reduceNeg, Int.reduceMul, Int.reduceToNat, Int.cast_ofNat_Int, Int.natCast_zero, Nat.add_zero, reduceCtorEq, q5, q6, e1, ld1, k1, s0, RUh_zOne g1]
      exact hQ _ _ (Ends.ret rfl ⟨by simp [tupOf, stockMayB, k1, s0], rfl⟩)
  · by_cases k2 : r.kind = 2
    · simp only [go_sem, Nat.reduceEqDiff, Nat.reduceAdd, Nat.reduceMul, Nat.reduceLeDiff, Int.reduceEq, Int.reduceLT, Int.reduceLE, Int.reduceAdd, Int.reduceSub, Int.reduceNeg, Int.reduceMul, Int.reduceToNat, Int.cast_ofNat_Int, Int.natCast_zero, Nat.add_zero, reduceCtorEq, L_s_l2May, q5, q6, e1, ld1, k1, k2]
      exact hQ _ _ (Ends.ret rfl ⟨by simp [tupOf, stockMayB, k2], rfl⟩)
    · by_cases k3 : r.kind = 3
      · by_cases s1 : (holdAt s r.trip).state = 1
        · simp only [go_sem, Nat.reduceEqDiff, Nat.reduceAdd, Nat.reduceMul, Nat.reduceLeDiff, Int.reduceEq, Int.reduceLT, Int.reduceLE, Int.reduceAdd, Int.reduceSub, Int.reduceNeg, Int.reduceMul, Int.reduceToNat, Int.cast_ofNat_Int, Int.natCast_zero, Nat.add_zero, reduceCtorEq, L_s_l2May, q5, q6, e1, ld1, k1, k2, k3, s1]
          exact hQ _ _ (Ends.ret rfl ⟨by simp [tupOf, stockMayB, k3, s1], rfl⟩)
        · simp only [go_sem, Nat.reduceEqDiff, Nat.reduceAdd, Nat.reduceMul, Nat.reduceLeDiff, Int.reduceEq, Int.reduceLT, Int.reduceLE, Int.reduceAdd, Int.reduceSub, Int.reduceNeg, Int.reduceMul, Int.reduceToNat, Int.cast_ofNat_Int, Int.natCast_zero, Nat.add_zero, reduceCtorEq, L_s_l2May, q5, q6, e1, ld1, k1, k2, k3, s1]
          exact hQ _ _ (Ends.ret rfl ⟨by simp [tupOf, stockMayB, k3, s1], rfl⟩)
      · simp only [go_sem, Nat.reduceEqDiff, Nat.reduceAdd, Nat.reduceMul, Nat.reduceLeDiff, Int.reduceEq, Int.reduceLT, Int.reduceLE, Int.reduceAdd, Int.reduceSub, Int.reduceNeg, Int.reduceMul, Int.reduceToNat, Int.cast_ofNat_Int, Int.natCast_zero, Nat.add_zero, reduceCtorEq, L_s_l2May, q5, q6, e1, ld1, k1, k2, k3]
        exact hQ _ _ (Ends.ret rfl ⟨by simp [tupOf, stockMayB, k1, k2, k3], rfl⟩)
def stockDoV (s : Stock) (r : Rec) : Stock := if stockMay s r = true then stockDoL s r else stock0
theorem rstock0 {H : Heap} : RStock H [.int .i64 0, .nil] stock0 [] := ⟨.nil, rfl, .nil⟩
theorem may_kinds {s : Stock} {r : Rec} (h : stockMayB s r = true) (k1 : r.kind ≠ 1) (k2 : r.kind ≠ 2) : r.kind = 3 := by
  unfold stockMayB at h
  rw [if_neg k1, if_neg k2] at h
  split at h
  · assumption
  · cases h
theorem stockDoL_set {s : Stock} {r : Rec} {i : Nat} (h : (r.trip - 1).toNat = i) : stockDoL s r = ⟨s.room, s.holds.set i (holdDo (holdAt s r.trip) r)⟩ := by unfold stockDoL; rw [h]
set_option maxHeartbeats 1000000 in
theorem does_i_StockDo (K : Codes P I) {H : Heap} {cs ds : List C} {s : Stock} {r : Rec} {F G : List Nat} (h : RStock H cs s F) (hr : RRec H ds r G) : Does P I.i_StockDo [.agg cs, .agg ds] H fun v H' => ∃ cs' F', v = .tup [.agg cs', .c (.bool (stockMay s r))] ∧ Step [] H H' F' ∧ RStock H' cs' (stockDoV s r) F' := by
  have h0 := h
  have hr0 := hr
  obtain ⟨c, rfl, hc⟩ := h
  obtain ⟨cm, rfl, hm⟩ := hr
  refine K.does K.i_StockDo rfl fun Q hQ => ?_
  simp only [go_sem, Nat.reduceEqDiff, Nat.reduceAdd, Nat.reduceMul, Nat.reduceLeDiff, Int.reduceEq, Int.reduceLT, Int.reduceLE, Int.reduceAdd, Int.reduceSub, Int.reduceNeg, Int.reduceMul, Int.reduceToNat, Int.cast_ofNat_Int, Int.natCast_zero, Nat.add_zero, reduceCtorEq, L_i_StockDo]
  refine Does.test (does_i_StockMay K h0 hr0) ?_
  cases hmay : stockMay s r with
  | false =>
    simp only [go_sem, Nat.reduceEqDiff, Nat.reduceAdd, Nat.reduceMul, Nat.reduceLeDiff, Int.reduceEq, Int.reduceLT, Int.reduceLE, Int.reduceAdd, Int.reduceSub, Int.reduceNeg, Int.reduceMul, Int.reduceToNat, Int.cast_ofNat_Int, Int.natCast_zero, Nat.add_zero, reduceCtorEq]
    exact hQ _ _ (Ends.ret rfl ⟨[.int .i64 0, .nil], [], by simp [tupOf, hmay], Step.refl H, by rw [stockDoV, if_neg (by simp [hmay])]; exact rstock0⟩)
  | true =>
    have hV : stockDoV s r = stockDoL s r := by rw [stockDoV, if_pos hmay]
    have hmay2 := hmay
    simp only [stockMay, Bool.and_eq_true] at hmay2
    obtain ⟨hok, hrk, hmb⟩ := hmay2
    obtain ⟨hroom, hlen, hall, hfree⟩ := stockOk_parts hok
    obtain ⟨i, q1, q2, q3, q4, q5, q6⟩ := stock_at hok hrk
    have hS := stockDoL_set (s := s) q1
    simp only [go_sem, Nat.reduceEqDiff, Nat.reduceAdd, Nat.reduceMul, Nat.reduceLeDiff, Int.reduceEq, Int.reduceLT, Int.reduceLE, Int.reduceAdd, Int.reduceSub, Int.reduceNeg, Int.reduceMul, Int.reduceToNat, Int.cast_ofNat_Int, Int.natCast_zero, Nat.add_zero, reduceCtorEq]
    refine Does.call (does_g_Clone_Hold K hc (by unfold lenMax; omega)) ?_
    rintro _ H1 ⟨c1, F1, rfl, s1, h1⟩
    replace s1 : Step [] H H1 F1 := s1
    have hm1 := s1.keepSl RInt.good hm fun b _ => by simp
    by_cases k1 : r.kind = 1
    · obtain ⟨n, hn, _, _⟩ := recOk_hold hrk k1
      rw [hn] at hm1
      obtain ⟨b2, o2, bs2, cs2, f2, rfl, g1, g2, ⟨rfl, _⟩, _⟩ := hm1.get0
      simp only [Nat.zero_mul, Nat.add_zero] at g2
      obtain ⟨b, off, bs, H2, e1, e2, e3, e4, e5, e6⟩ := hold_set h1 s1.owned q4 ⟨n, 1⟩
      subst e1
      simp only [go_sem, Nat.reduceEqDiff, Nat.reduceAdd, Nat.reduceMul, Nat.reduceLeDiff, Int.reduceEq, Int.reduceLT, Int.reduceLE, Int.reduceAdd, Int.reduceSub, Int.reduceNeg, Int.reduceMul, Int.reduceToNat, Int.cast_ofNat_Int, Int.natCast_zero, Nat.add_zero, reduceCtorEq, q5, q6, k1, g1, g2, Int.natCast_one, Int.ofNat_one, Nat.zero_mul, e2, e3, e4]
      exact hQ _ _ (Ends.ret rfl ⟨[.int .i64 s.room, .sl b off s.holds.length], F1, by simp [tupOf, hmay], s1.trans e6, by rw [hV, hS]; exact ⟨_, rfl, by simpa [holdDo, k1, first, hn] using e5⟩⟩)
    · by_cases k2 : r.kind = 2
      · obtain ⟨b, off, bs, H2, e1, e2, e3, e4, e5, e6⟩ := hold_st h1 s1.owned q4 2
        subst e1
        simp only [go_sem, Nat.reduceEqDiff, Nat.reduceAdd, Nat.reduceMul, Nat.reduceLeDiff, Int.reduceEq, Int.reduceLT, Int.reduceLE, Int.reduceAdd, Int.reduceSub, Int.reduceNeg, Int.reduceMul, Int.reduceToNat, Int.cast_ofNat_Int, Int.natCast_zero, Nat.add_zero, reduceCtorEq, q5, q6, k1, k2, e2, e3, e4]
        exact hQ _ _ (Ends.ret rfl ⟨[.int .i64 s.room, .sl b off s.holds.length], F1, by simp [tupOf, hmay], s1.trans e6, by rw [hV, hS]; exact ⟨_, rfl, by simpa [holdDo, k2] using e5⟩⟩)
      · have k3 := may_kinds hmb k1 k2
        obtain ⟨b, off, bs, H2, e1, e2, e3, e4, e5, e6⟩ := hold_st h1 s1.owned q4 3
        subst e1
        simp only [go_sem, Nat.reduceEqDiff, Nat.reduceAdd, Nat.reduceMul, Nat.reduceLeDiff, Int.reduceEq, Int.reduceLT, Int.reduceLE, Int.reduceAdd, Int.reduceSub, Int.reduceNeg, Int.reduceMul, Int.reduceToNat, Int.cast_ofNat_Int, Int.natCast_zero, Nat.add_zero, reduceCtorEq, q5, q6, k1, k2, k3, e2, e3, e4]
        exact hQ _ _ (Ends.ret rfl ⟨[.int .i64 s.room, .sl b off s.holds.length], F1, by simp [tupOf, hmay], s1.trans e6, by rw [hV, hS]; exact ⟨_, rfl, by simpa [holdDo, k3] using e5⟩⟩)
set_option maxHeartbeats 1000000 in
theorem does_s_l2Do (K : Codes P I) {H : Heap} {cs ds : List C} {s : Stock} {r : Rec} {F G : List Nat} (h : RStock H cs s F) (ho : Owned H F) (hr : RRec H ds r G) (hok : stockOk s = true) (hrk : recOk r = true) (hmb : stockMayB s r = true) :
    Does P I.s_l2Do [.agg cs, .agg ds] H fun v H' => ∃ cs', v = .val (.agg cs') ∧ Step F H H' F ∧ RStock H' cs' (stockDoL s r) F := by
  obtain ⟨c, rfl, hc⟩ := h
  obtain ⟨cm, rfl, hm⟩ := hr
  refine K.does K.s_l2Do rfl fun Q hQ => ?_
  obtain ⟨hroom, hlen, hall, hfree⟩ := stockOk_parts hok
  obtain ⟨i, q1, q2, q3, q4, q5, q6⟩ := stock_at hok hrk
  have hS := stockDoL_set (s := s) q1
  obtain ⟨b, off, bs, H2, e1, e2, e3, e4, e5, e6⟩ := hold_set hc ho q4 (holdDo (holdAt s r.trip) r)
  obtain ⟨b3, o3, bs3, cs3, f3, e7, e8, e9, ⟨rfl, _⟩, _, _⟩ := hc.get q4
  rw [e1] at e7
  cases e7
  subst e1
  by_cases k1 : r.kind = 1
  · obtain ⟨n, hn, _, _⟩ := recOk_hold hrk k1
    rw [hn] at hm
    obtain ⟨b2, o2, bs2, cs2, f2, rfl, g1, g2, ⟨rfl, _⟩, _⟩ := hm.get0
    simp only [Nat.zero_mul, Nat.add_zero] at g2
    simp only [holdDo, k1, if_true, first, hn, List.headD_cons] at e4
    simp only [go_sem, Nat.reduceEqDiff, Nat.reduceAdd, Nat.reduceMul, Nat.reduceLeDiff, Int.reduceEq, Int.reduceLT, Int.reduceLE, Int.reduceAdd, Int.reduceSub, Int.reduceNeg, Int.reduceMul, Int.reduceToNat, Int.cast_ofNat_Int, Int.natCast_zero, Nat.add_zero, reduceCtorEq, L_s_l2Do, q5, q6, k1, e8, e9, g1, g2, Int.natCast_one, Int.ofNat_one, Nat.zero_mul, e2, e3, e4]
    exact hQ _ _ (Ends.ret rfl ⟨_, rfl, e6, by rw [hS]; exact ⟨_, rfl, e5⟩⟩)
  · by_cases k2 : r.kind = 2
    · simp only [holdDo, k2, Int.reduceEq, if_true, if_false] at e4
      simp only [go_sem, Nat.reduceEqDiff, Nat.reduceAdd, Nat.reduceMul, Nat.reduceLeDiff, Int.reduceEq, Int.reduceLT, Int.reduceLE, Int.reduceAdd, Int.reduceSub, Int.reduceNeg, Int.reduceMul, Int.reduceToNat, Int.cast_ofNat_Int, Int.natCast_zero, Nat.add_zero, reduceCtorEq, L_s_l2Do, q5, q6, k1, k2, e8, e9, e2, e3, e4]
      exact hQ _ _ (Ends.ret rfl ⟨_, rfl, e6, by rw [hS]; exact ⟨_, rfl, e5⟩⟩)
    · have k3 := may_kinds hmb k1 k2
      simp only [holdDo, k3, Int.reduceEq, if_true, if_false] at e4
      simp only [go_sem, Nat.reduceEqDiff, Nat.reduceAdd, Nat.reduceMul, Nat.reduceLeDiff, Int.reduceEq, Int.reduceLT, Int.reduceLE, Int.reduceAdd, Int.reduceSub, Int.reduceNeg, Int.reduceMul, Int.reduceToNat, Int.cast_ofNat_Int, Int.natCast_zero, Nat.add_zero, reduceCtorEq, L_s_l2Do, q5, q6, k1, k2, k3, e8, e9, e2, e3, e4]
      exact hQ _ _ (Ends.ret rfl ⟨_, rfl, e6, by rw [hS]; exact ⟨_, rfl, e5⟩⟩)
theorem rstockN {H : Heap} {room : Int} : RStock (H ++ [⟨.rw, 2, rep 6 [.int .i64 0, .int .i64 0]⟩]) [.int .i64 room, .sl H.length 0 6] (stockN room) [H.length] := ⟨_, rfl, show SlR 2 RHold _ _ (List.replicate 6 (⟨0, 0⟩ : Hold)) _ from sl_make (z := [.int .i64 0, .int .i64 0]) rfl (fun _ => ⟨rfl, rfl⟩) (by unfold lenTop; omega)⟩
theorem does_i_StockNew (K : Codes P I) {H : Heap} {room : Int} : Does P I.i_StockNew [int room] H fun v H' => ∃ cs F, v = .tup [.agg cs, .c (.bool (inB room 0 9))] ∧ Step [] H H' F ∧ RStock H' cs (stockNewV room) F := by
  refine K.does K.i_StockNew rfl fun Q hQ => ?_
  have hle : (6 : Int) ≤ ((lenMax : Nat) : Int) := by unfold lenMax; omega
  simp only [go_sem, Nat.reduceEqDiff, Nat.reduceAdd, Nat.reduceMul, Nat.reduceLeDiff, Int.reduceEq, Int.reduceLT, Int.reduceLE, Int.reduceAdd, Int.reduceSub, Int.reduceNeg, Int.reduceMul, Int.reduceToNat, Int.cast_ofNat_Int, Int.natCast_zero, Nat.add_zero, reduceCtorEq, L_i_StockNew]
  refine Does.test (does_i_in K) ?_
  cases hr : inB room 0 9 with
  | false =>
    simp only [go_sem, Nat.reduceEqDiff, Nat.reduceAdd, Nat.reduceMul, Nat.reduceLeDiff, Int.reduceEq, Int.reduceLT, Int.reduceLE, Int.reduceAdd, Int.reduceSub, Int.reduceNeg, Int.reduceMul, Int.reduceToNat, Int.cast_ofNat_Int, Int.natCast_zero, Nat.add_zero, reduceCtorEq]
    exact hQ _ _ (Ends.ret rfl ⟨_, [], by simp [tupOf, hr]; rfl, Step.refl H, by rw [stockNewV, if_neg (by simp [hr])]; exact rstock0⟩)
  | true =>
    simp only [go_sem, Nat.reduceEqDiff, Nat.reduceAdd, Nat.reduceMul, Nat.reduceLeDiff, Int.reduceEq, Int.reduceLT, Int.reduceLE, Int.reduceAdd, Int.reduceSub, Int.reduceNeg, Int.reduceMul, Int.reduceToNat, Int.cast_ofNat_Int, Int.natCast_zero, Nat.add_zero, reduceCtorEq, hle]
    exact hQ _ _ (Ends.ret rfl ⟨_, _, by simp [tupOf, hr]; rfl, step_new, by rw [stockNewV, if_pos hr]; exact rstockN⟩)
theorem does_s_StockNew (K : Codes P I) {H : Heap} {room : Int} : Does P I.s_StockNew [int room] H fun v H' => ∃ cs F, v = .tup [.agg cs, .c (.bool (inB room 0 9))] ∧ Step [] H H' F ∧ RStock H' cs (stockNewV room) F := by
  refine K.does K.s_StockNew rfl fun Q hQ => ?_
  have hle : (6 : Int) ≤ ((lenMax : Nat) : Int) := by unfold lenMax; omega
  simp only [go_sem, Nat.reduceEqDiff, Nat.reduceAdd, Nat.reduceMul, Nat.reduceLeDiff, Int.reduceEq, Int.reduceLT, Int.reduceLE, Int.reduceAdd, Int.reduceSub, Int.reduceNeg, Int.reduceMul, Int.reduceToNat, Int.cast_ofNat_Int, Int.natCast_zero, Nat.add_zero, reduceCtorEq, L_s_StockNew]
  refine Does.test (does_s_l6In K) ?_
  cases hr : inB room 0 9 with
  | false =>
    simp only [go_sem, Nat.reduceEqDiff, Nat.reduceAdd, Nat.reduceMul, Nat.reduceLeDiff, Int.reduceEq, Int.reduceLT, Int.reduceLE, Int.reduceAdd, Int.reduceSub, Int.reduceNeg, Int.reduceMul, Int.reduceToNat, Int.cast_ofNat_Int, Int.natCast_zero, Nat.add_zero, reduceCtorEq]
    exact hQ _ _ (Ends.ret rfl ⟨_, [], by simp [tupOf, hr]; rfl, Step.refl H, by rw [stockNewV, if_neg (by simp [hr])]; exact rstock0⟩)
  | true =>
    simp only [go_sem, Nat.reduceEqDiff, Nat.reduceAdd, Nat.reduceMul, Nat.reduceLeDiff, Int.reduceEq, Int.reduceLT, Int.reduceLE, Int.reduceAdd, Int.reduceSub, Int.reduceNeg, Int.reduceMul, Int.reduceToNat, Int.cast_ofNat_Int, Int.natCast_zero, Nat.add_zero, reduceCtorEq, hle]
    exact hQ _ _ (Ends.ret rfl ⟨_, _, by simp [tupOf, hr]; rfl, step_new, by rw [stockNewV, if_pos hr]; exact rstockN⟩)

theorem stockOf_next {room : Int} {recs : List Rec} {i : Nat} {s : Stock} {x : Rec} (h : stockOf room (recs.take i) = some s) (hx : recs[i]? = some x) (hg : (recOk x && stockMayB s x) = true) : stockOf room (recs.take (i + 1)) = some (stockDoL s x) := by
  rw [take_snoc hx, stockOf_snoc, h]; simp only [stockStep, Option.bind_some, hg, if_true]
theorem stockOf_fail {room : Int} {recs : List Rec} {i : Nat} {s : Stock} {x : Rec} (h : stockOf room (recs.take i) = some s) (hx : recs[i]? = some x) (hg : (recOk x && stockMayB s x) = false) : stockOf room recs = none := by
  cases ho : stockOf room recs with
  | none => rfl
  | some s' =>
    obtain ⟨t, ht⟩ := stockOf_take ho (i + 1)
    rw [take_snoc hx, stockOf_snoc, h] at ht
    simp only [stockStep, Option.bind_some, hg] at ht
    cases ht
def stockD (room : Int) (recs : List Rec) : Stock := (stockOf room recs).getD stock0
theorem stockOf_room {room : Int} {recs : List Rec} (h : inB room 0 9 = false) : stockOf room recs = none := by
  unfold stockOf; rw [if_neg (by simp [h])]; exact foldl_stock_none recs
theorem stockOf_zero {room : Int} {recs : List Rec} (h : inB room 0 9 = true) : stockOf room (recs.take 0) = some (stockN room) := by
  unfold stockOf; rw [if_pos h]; rfl
theorem does_s_l2Of (K : Codes P I) {H : Heap} {c : C} {room : Int} {recs : List Rec} {F : List Nat} (h : Recs H c recs F) :
    Does P I.s_l2Of [int room, .c c] H fun v H' => ∃ cs F', v = .tup [.agg cs, .c (.bool (stockOf room recs).isSome)] ∧ Step [] H H' F' ∧ RStock H' cs (stockD room recs) F' := by
  refine K.does K.s_l2Of rfl fun Q hQ => ?_
  have htop := h.top
  simp only [go_sem, Nat.reduceEqDiff, Nat.reduceAdd, Nat.reduceMul, Nat.reduceLeDiff, Int.reduceEq, Int.reduceLT, Int.reduceLE, Int.reduceAdd, Int.reduceSub, Int.reduceNeg, Int.reduceMul, Int.reduceToNat, Int.cast_ofNat_Int, Int.natCast_zero, Nat.add_zero, reduceCtorEq, L_s_l2Of]
  refine Does.call (does_s_StockNew K) ?_
  rintro _ H1 ⟨cs, F1, rfl, s1, h1⟩
  obtain ⟨x0, x1, rfl⟩ := len2 h1.cells
  cases hroom : inB room 0 9 with
  | false =>
    simp only [go_sem, Nat.reduceEqDiff, Nat.reduceAdd, Nat.reduceMul, Nat.reduceLeDiff, Int.reduceEq, Int.reduceLT, Int.reduceLE, Int.reduceAdd, Int.reduceSub, Int.reduceNeg, Int.reduceMul, Int.reduceToNat, Int.cast_ofNat_Int, Int.natCast_zero, Nat.add_zero, reduceCtorEq]
    exact hQ _ _ (Ends.ret rfl ⟨[.int .i64 0, .nil], [], by simp [tupOf, stockOf_room hroom], s1.less (by simp), by simp only [stockD, stockOf_room hroom, Option.getD_none]; exact rstock0⟩)
  | true =>
    rw [stockNewV, if_pos hroom] at h1
    simp only [go_sem, Nat.reduceEqDiff, Nat.reduceAdd, Nat.reduceMul, Nat.reduceLeDiff, Int.reduceEq, Int.reduceLT, Int.reduceLE, Int.reduceAdd, Int.reduceSub, Int.reduceNeg, Int.reduceMul, Int.reduceToNat, Int.cast_ofNat_Int, Int.natCast_zero, Nat.add_zero, reduceCtorEq]
    refine RU_loop (fun m t => ∃ i : Nat, m = recs.length - i ∧ i ≤ recs.length ∧ t.env 1 = .val (.c c) ∧ t.env 4 = .box [.int .i64 0, .nil] ∧ t.env 8 = .val (int i) ∧ ∃ s cs F', stockOf room (recs.take i) = some s ∧ t.env 6 = .box cs ∧ cs.length = 2 ∧ Step [] H t.H F' ∧ RStock t.H cs s F') recs.length
      ⟨0, by simp, by simp, rfl, rfl, rfl, _, _, _, stockOf_zero hroom, rfl, rfl, s1, h1⟩ ?_
    rintro m t ⟨i, rfl, hi, g1, g4, g8, s, cs, F', hs0, g6, hcs, hs, hr⟩ Q' hN hE hR
    obtain ⟨y0, y1, rfl⟩ := len2 hcs
    have h2 := hs.keepSl RRec.good h fun b _ => by simp
    by_cases hlt : (i : Int) < recs.length
    · obtain ⟨x, hx⟩ := get_lt hlt
      obtain ⟨b1, o1, bs1, cs1, f1, rfl, e1, e2, hrx, hcl, _⟩ := h2.get hx
      obtain ⟨z0, z1, z2, rfl⟩ := len3 hcl
      simp only [go_sem, Nat.reduceEqDiff, Nat.reduceAdd, Nat.reduceMul, Nat.reduceLeDiff, Int.reduceEq, Int.reduceLT, Int.reduceLE, Int.reduceAdd, Int.reduceSub, Int.reduceNeg, Int.reduceMul, Int.reduceToNat, Int.cast_ofNat_Int, Int.natCast_zero, Nat.add_zero, reduceCtorEq, g1, g4, g6, g8, hlt, e1, e2]
      refine Does.test (does_s_RecOk K hrx) ?_
      cases hrk : recOk x with
      | false =>
        have hn := stockOf_fail hs0 hx (by simp [hrk])
        simp only [go_sem, Nat.reduceEqDiff, Nat.reduceAdd, Nat.reduceMul, Nat.reduceLeDiff, Int.reduceEq, Int.reduceLT, Int.reduceLE, Int.reduceAdd, Int.reduceSub, Int.reduceNeg, Int.reduceMul, Int.reduceToNat, Int.cast_ofNat_Int, Int.natCast_zero, Nat.add_zero, reduceCtorEq, g4]
        exact hR _ (hQ _ _ (Ends.ret rfl ⟨[.int .i64 0, .nil], [], by simp [tupOf, hn], hs.less (by simp), by simp only [stockD, hn, Option.getD_none]; exact rstock0⟩))
      | true =>
        simp only [go_sem, Nat.reduceEqDiff, Nat.reduceAdd, Nat.reduceMul, Nat.reduceLeDiff, Int.reduceEq, Int.reduceLT, Int.reduceLE, Int.reduceAdd, Int.reduceSub, Int.reduceNeg, Int.reduceMul, Int.reduceToNat, Int.cast_ofNat_Int, Int.natCast_zero, Nat.add_zero, reduceCtorEq, g1, g4, g6, g8, hlt, e1, e2]
        refine Does.test (does_s_l2May K hr hrx (stockOf_ok hs0) hrk) ?_
        cases hmb : stockMayB s x with
        | false =>
          have hn := stockOf_fail hs0 hx (by simp [hmb])
          simp only [go_sem, Nat.reduceEqDiff, Nat.reduceAdd, Nat.reduceMul, Nat.reduceLeDiff, Int.reduceEq, Int.reduceLT, Int.reduceLE, Int.reduceAdd, Int.reduceSub, Int.reduceNeg, Int.reduceMul, Int.reduceToNat, Int.cast_ofNat_Int, Int.natCast_zero, Nat.add_zero, reduceCtorEq, g4]
          exact hR _ (hQ _ _ (Ends.ret rfl ⟨[.int .i64 0, .nil], [], by simp [tupOf, hn], hs.less (by simp), by simp only [stockD, hn, Option.getD_none]; exact rstock0⟩))
        | true =>
          simp only [go_sem, Nat.reduceEqDiff, Nat.reduceAdd, Nat.reduceMul, Nat.reduceLeDiff, Int.reduceEq, Int.reduceLT, Int.reduceLE, Int.reduceAdd, Int.reduceSub, Int.reduceNeg, Int.reduceMul, Int.reduceToNat, Int.cast_ofNat_Int, Int.natCast_zero, Nat.add_zero, reduceCtorEq, g1, g4, g6, g8, hlt, e1, e2]
          refine Does.call (does_s_l2Do K hr hs.owned hrx (stockOf_ok hs0) hrk hmb) ?_
          rintro _ H3 ⟨cs3, rfl, s3, h3⟩
          obtain ⟨w0, w1, rfl⟩ := len2 h3.cells
          simp only [go_sem, Nat.reduceEqDiff, Nat.reduceAdd, Nat.reduceMul, Nat.reduceLeDiff, Int.reduceEq, Int.reduceLT, Int.reduceLE, Int.reduceAdd, Int.reduceSub, Int.reduceNeg, Int.reduceMul, Int.reduceToNat, Int.cast_ofNat_Int, Int.natCast_zero, Nat.add_zero, reduceCtorEq, g1, g4, g6, g8, wrap_succ (show i ≤ lenTop by omega)]
          exact hN _ _ (by omega) ⟨i + 1, rfl, by omega, by simp [upd, g1], by simp [upd, g4], by simp [upd], _, _, F', stockOf_next hs0 hx (by simp [hrk, hmb]), by simp [upd], rfl, hs.trans s3, h3⟩
    · simp only [go_sem, Nat.reduceEqDiff, Nat.reduceAdd, Nat.reduceMul, Nat.reduceLeDiff, Int.reduceEq, Int.reduceLT, Int.reduceLE, Int.reduceAdd, Int.reduceSub, Int.reduceNeg, Int.reduceMul, Int.reduceToNat, Int.cast_ofNat_Int, Int.natCast_zero, Nat.add_zero, reduceCtorEq, g1, g8, hlt, h2.len]
      refine hE _ _ ?_
      rw [List.take_of_length_le (by omega)] at hs0
      simp only [go_sem, Nat.reduceEqDiff, Nat.reduceAdd, Nat.reduceMul, Nat.reduceLeDiff, Int.reduceEq, Int.reduceLT, Int.reduceLE, Int.reduceAdd, Int.reduceSub, Int.reduceNeg, Int.reduceMul, Int.reduceToNat, Int.cast_ofNat_Int, Int.natCast_zero, Nat.add_zero, reduceCtorEq, g4, g6]
      exact hQ _ _ (Ends.ret rfl ⟨_, F', by simp [tupOf, hs0]; rfl, hs, by simp only [stockD, hs0, Option.getD_some]; exact hr⟩)
theorem does_i_StockOf (K : Codes P I) {H : Heap} {c : C} {room : Int} {recs : List Rec} {F : List Nat} (h : Recs H c recs F) :
    Does P I.i_StockOf [int room, .c c] H fun v H' => ∃ cs F', v = .tup [.agg cs, .c (.bool (stockOf room recs).isSome)] ∧ Step [] H H' F' ∧ RStock H' cs (stockD room recs) F' := by
  refine K.does K.i_StockOf rfl fun Q hQ => ?_
  have htop := h.top
  simp only [go_sem, Nat.reduceEqDiff, Nat.reduceAdd, Nat.reduceMul, Nat.reduceLeDiff, Int.reduceEq, Int.reduceLT, Int.reduceLE, Int.reduceAdd, Int.reduceSub, Int.reduceNeg, Int.reduceMul, Int.reduceToNat, Int.cast_ofNat_Int, Int.natCast_zero, Nat.add_zero, reduceCtorEq, L_i_StockOf]
  refine Does.call (does_i_StockNew K) ?_
  rintro _ H1 ⟨cs, F1, rfl, s1, h1⟩
  obtain ⟨x0, x1, rfl⟩ := len2 h1.cells
  simp only [go_sem, Nat.reduceEqDiff, Nat.reduceAdd, Nat.reduceMul, Nat.reduceLeDiff, Int.reduceEq, Int.reduceLT, Int.reduceLE, Int.reduceAdd, Int.reduceSub, Int.reduceNeg, Int.reduceMul, Int.reduceToNat, Int.cast_ofNat_Int, Int.natCast_zero, Nat.add_zero, reduceCtorEq]
  refine RU_loop (fun m t => ∃ i : Nat, m = recs.length + 1 - i ∧ i ≤ recs.length ∧ t.env 1 = .val (.c c) ∧ t.env 4 = .box [.int .i64 0, .nil] ∧ t.env 8 = .val (int i) ∧ ((∃ s cs F', stockOf room (recs.take i) = some s ∧ t.env 7 = bool true ∧ t.env 6 = .box cs ∧ cs.length = 2 ∧ Step [] H t.H F' ∧ RStock t.H cs s F') ∨ (∃ cs F', stockOf room recs = none ∧ t.env 7 = bool false ∧ t.env 6 = .box cs ∧ cs.length = 2 ∧ Step [] H t.H F' ∧ RStock t.H cs stock0 F'))) (recs.length + 1)
    ⟨0, by simp, by simp, rfl, rfl, rfl, by
      cases hroom : inB room 0 9 with
      | true => rw [stockNewV, if_pos hroom] at h1; exact .inl ⟨_, _, _, stockOf_zero hroom, by simp [upd, hroom], rfl, rfl, s1, h1⟩
      | false => rw [stockNewV, if_neg (by simp [hroom])] at h1; exact .inr ⟨_, _, stockOf_room hroom, by simp [upd, hroom], rfl, rfl, s1, h1⟩⟩ ?_
  rintro m t ⟨i, rfl, hi, g1, g4, g8, hc⟩ Q' hN hE hR
  rcases hc with ⟨s, cs, F', hs0, g7, g6, hcs, hs, hr⟩ | ⟨cs, F', hn, g7, g6, hcs, hs, hr⟩
  · obtain ⟨y0, y1, rfl⟩ := len2 hcs
    have h2 := hs.keepSl RRec.good h fun b _ => by simp
    by_cases hlt : (i : Int) < recs.length
    · obtain ⟨x, hx⟩ := get_lt hlt
      obtain ⟨b1, o1, bs1, cs1, f1, rfl, e1, e2, hrx, hcl, _⟩ := h2.get hx
      obtain ⟨z0, z1, z2, rfl⟩ := len3 hcl
      simp only [go_sem, Nat.reduceEqDiff, Nat.reduceAdd, Nat.reduceMul, Nat.reduceLeDiff, Int.reduceEq, Int.reduceLT, Int.reduceLE, Int.reduceAdd, Int.reduceSub, Int.reduceNeg, Int.reduceMul, Int.reduceToNat, Int.cast_ofNat_Int, Int.natCast_zero, Nat.add_zero, reduceCtorEq, g1, g4, g6, g7, g8, hlt, e1, e2, h2.len]
      refine Does.call (does_i_StockDo K hr hrx) ?_
      rintro _ H3 ⟨cs3, F3, rfl, s3, h3⟩
      obtain ⟨w0, w1, rfl⟩ := len2 h3.cells
      have hok := stockOf_ok hs0
      have hmay : stockMay s x = (recOk x && stockMayB s x) := by simp [stockMay, hok]
      have t3 : Step [] H H3 F3 := (hs.with s3).less (by simp)
      simp only [go_sem, Nat.reduceEqDiff, Nat.reduceAdd, Nat.reduceMul, Nat.reduceLeDiff, Int.reduceEq, Int.reduceLT, Int.reduceLE, Int.reduceAdd, Int.reduceSub, Int.reduceNeg, Int.reduceMul, Int.reduceToNat, Int.cast_ofNat_Int, Int.natCast_zero, Nat.add_zero, reduceCtorEq, g1, g4, g6, g7, g8, wrap_succ (show i ≤ lenTop by omega)]
      cases hg : (recOk x && stockMayB s x) with
      | true =>
        rw [stockDoV, if_pos (by rw [hmay, hg])] at h3
        exact hN _ _ (by omega) ⟨i + 1, rfl, by omega, by simp [upd, g1], by simp [upd, g4], by simp [upd], .inl ⟨_, _, F3, stockOf_next hs0 hx hg, by simp [upd, hmay, hg], by simp [upd], rfl, t3, h3⟩⟩
      | false =>
        rw [stockDoV, if_neg (by rw [hmay, hg]; simp)] at h3
        exact hN _ _ (by omega) ⟨i + 1, rfl, by omega, by simp [upd, g1], by simp [upd, g4], by simp [upd], .inr ⟨_, F3, stockOf_fail hs0 hx hg, by simp [upd, hmay, hg], by simp [upd], rfl, t3, h3⟩⟩
    · simp only [go_sem, Nat.reduceEqDiff, Nat.reduceAdd, Nat.reduceMul, Nat.reduceLeDiff, Int.reduceEq, Int.reduceLT, Int.reduceLE, Int.reduceAdd, Int.reduceSub, Int.reduceNeg, Int.reduceMul, Int.reduceToNat, Int.cast_ofNat_Int, Int.natCast_zero, Nat.add_zero, reduceCtorEq, g1, g7, g8, hlt, h2.len]
      refine hE _ _ ?_
      rw [List.take_of_length_le (by omega)] at hs0
      simp only [go_sem, Nat.reduceEqDiff, Nat.reduceAdd, Nat.reduceMul, Nat.reduceLeDiff, Int.reduceEq, Int.reduceLT, Int.reduceLE, Int.reduceAdd, Int.reduceSub, Int.reduceNeg, Int.reduceMul, Int.reduceToNat, Int.cast_ofNat_Int, Int.natCast_zero, Nat.add_zero, reduceCtorEq, g4, g6, g7]
      exact hQ _ _ (Ends.ret rfl ⟨_, F', by simp [tupOf, hs0]; rfl, hs, by simp only [stockD, hs0, Option.getD_some]; exact hr⟩)
  · obtain ⟨y0, y1, rfl⟩ := len2 hcs
    simp only [go_sem, Nat.reduceEqDiff, Nat.reduceAdd, Nat.reduceMul, Nat.reduceLeDiff, Int.reduceEq, Int.reduceLT, Int.reduceLE, Int.reduceAdd, Int.reduceSub, Int.reduceNeg, Int.reduceMul, Int.reduceToNat, Int.cast_ofNat_Int, Int.natCast_zero, Nat.add_zero, reduceCtorEq, g1, g7, g8]
    refine hE _ _ ?_
    simp only [go_sem, Nat.reduceEqDiff, Nat.reduceAdd, Nat.reduceMul, Nat.reduceLeDiff, Int.reduceEq, Int.reduceLT, Int.reduceLE, Int.reduceAdd, Int.reduceSub, Int.reduceNeg, Int.reduceMul, Int.reduceToNat, Int.cast_ofNat_Int, Int.natCast_zero, Nat.add_zero, reduceCtorEq, g4, g6, g7]
    exact hQ _ _ (Ends.ret rfl ⟨_, F', by simp [tupOf, hn]; rfl, hs, by simp only [stockD, hn, Option.getD_none]; exact hr⟩)
theorem does_i_WordOk (K : Codes P I) {H : Heap} {cs : List C} {w : Word} {F : List Nat} (h : RWord H cs w F) : Does P I.i_WordOk [.agg cs] H fun v H' => v = bool (wordOk w) ∧ H' = H := by
  obtain ⟨rfl, rfl⟩ := h
  refine K.does K.i_WordOk rfl fun Q hQ => ?_
  by_cases k1 : w.kind = 1
  · simp only [go_sem, Nat.reduceEqDiff, Nat.reduceAdd, Nat.reduceMul, Nat.reduceLeDiff, Int.reduceEq, Int.reduceLT, Int.reduceLE, Int.reduceAdd, Int.reduceSub, Int.reduceNeg, Int.reduceMul, Int.reduceToNat, Int.cast_ofNat_Int, Int.natCast_zero, Nat.add_zero, reduceCtorEq, L_i_WordOk, k1]
    refine Does.test (does_i_in K) ?_
    simp only [go_sem, Nat.reduceEqDiff, Nat.reduceAdd, Nat.reduceMul, Nat.reduceLeDiff, Int.reduceEq, Int.reduceLT, Int.reduceLE, Int.reduceAdd, Int.reduceSub, Int.reduceNeg, Int.reduceMul, Int.reduceToNat, Int.cast_ofNat_Int, Int.natCast_zero, Nat.add_zero, reduceCtorEq, k1]
    refine Does.test (does_i_in K) ?_
    cases hk : inB 1 1 7 with
    | false =>
      simp only [go_sem, Nat.reduceEqDiff, Nat.reduceAdd, Nat.reduceMul, Nat.reduceLeDiff, Int.reduceEq, Int.reduceLT, Int.reduceLE, Int.reduceAdd, Int.reduceSub, Int.reduceNeg, Int.reduceMul, Int.reduceToNat, Int.cast_ofNat_Int, Int.natCast_zero, Nat.add_zero, reduceCtorEq]
      exact hQ _ _ (Ends.ret rfl ⟨by simp [tupOf, wordOk, hk, k1], rfl⟩)
    | true =>
      simp only [go_sem, Nat.reduceEqDiff, Nat.reduceAdd, Nat.reduceMul, Nat.reduceLeDiff, Int.reduceEq, Int.reduceLT, Int.reduceLE, Int.reduceAdd, Int.reduceSub, Int.reduceNeg, Int.reduceMul, Int.reduceToNat, Int.cast_ofNat_Int, Int.natCast_zero, Nat.add_zero, reduceCtorEq]
      refine Does.test (does_i_isHouse K) ?_
      cases hh : inB w.house 1 3 with
      | false =>
        simp only [go_sem, Nat.reduceEqDiff, Nat.reduceAdd, Nat.reduceMul, Nat.reduceLeDiff, Int.reduceEq, Int.reduceLT, Int.reduceLE, Int.reduceAdd, Int.reduceSub, Int.reduceNeg, Int.reduceMul, Int.reduceToNat, Int.cast_ofNat_Int, Int.natCast_zero, Nat.add_zero, reduceCtorEq]
        exact hQ _ _ (Ends.ret rfl ⟨by simp [tupOf, wordOk, hh], rfl⟩)
      | true =>
        simp only [go_sem, Nat.reduceEqDiff, Nat.reduceAdd, Nat.reduceMul, Nat.reduceLeDiff, Int.reduceEq, Int.reduceLT, Int.reduceLE, Int.reduceAdd, Int.reduceSub, Int.reduceNeg, Int.reduceMul, Int.reduceToNat, Int.cast_ofNat_Int, Int.natCast_zero, Nat.add_zero, reduceCtorEq]
        refine Does.test (does_i_isTrip K) ?_
        cases ht : inB w.trip 1 6 with
        | false =>
          simp only [go_sem, Nat.reduceEqDiff, Nat.reduceAdd, Nat.reduceMul, Nat.reduceLeDiff, Int.reduceEq, Int.reduceLT, Int.reduceLE, Int.reduceAdd, Int.reduceSub, Int.reduceNeg, Int.reduceMul, Int.reduceToNat, Int.cast_ofNat_Int, Int.natCast_zero, Nat.add_zero, reduceCtorEq]
          exact hQ _ _ (Ends.ret rfl ⟨by simp [tupOf, wordOk, ht], rfl⟩)
        | true =>
          simp only [go_sem, Nat.reduceEqDiff, Nat.reduceAdd, Nat.reduceMul, Nat.reduceLeDiff, Int.reduceEq, Int.reduceLT, Int.reduceLE, Int.reduceAdd, Int.reduceSub, Int.reduceNeg, Int.reduceMul, Int.reduceToNat, Int.cast_ofNat_Int, Int.natCast_zero, Nat.add_zero, reduceCtorEq]
          exact hQ _ _ (Ends.ret rfl ⟨by simp [tupOf, wordOk, hk, hh, ht, k1], rfl⟩)
  · simp only [go_sem, Nat.reduceEqDiff, Nat.reduceAdd, Nat.reduceMul, Nat.reduceLeDiff, Int.reduceEq, Int.reduceLT, Int.reduceLE, Int.reduceAdd, Int.reduceSub, Int.reduceNeg, Int.reduceMul, Int.reduceToNat, Int.cast_ofNat_Int, Int.natCast_zero, Nat.add_zero, reduceCtorEq, L_i_WordOk, k1]
    refine Does.test (does_i_in K) ?_
    cases hk : inB w.kind 1 7 with
    | false =>
      simp only [go_sem, Nat.reduceEqDiff, Nat.reduceAdd, Nat.reduceMul, Nat.reduceLeDiff, Int.reduceEq, Int.reduceLT, Int.reduceLE, Int.reduceAdd, Int.reduceSub, Int.reduceNeg, Int.reduceMul, Int.reduceToNat, Int.cast_ofNat_Int, Int.natCast_zero, Nat.add_zero, reduceCtorEq]
      exact hQ _ _ (Ends.ret rfl ⟨by simp [tupOf, wordOk, hk, k1], rfl⟩)
    | true =>
      simp only [go_sem, Nat.reduceEqDiff, Nat.reduceAdd, Nat.reduceMul, Nat.reduceLeDiff, Int.reduceEq, Int.reduceLT, Int.reduceLE, Int.reduceAdd, Int.reduceSub, Int.reduceNeg, Int.reduceMul, Int.reduceToNat, Int.cast_ofNat_Int, Int.natCast_zero, Nat.add_zero, reduceCtorEq]
      refine Does.test (does_i_isHouse K) ?_
      cases hh : inB w.house 1 3 with
      | false =>
        simp only [go_sem, Nat.reduceEqDiff, Nat.reduceAdd, Nat.reduceMul, Nat.reduceLeDiff, Int.reduceEq, Int.reduceLT, Int.reduceLE, Int.reduceAdd, Int.reduceSub, Int.reduceNeg, Int.reduceMul, Int.reduceToNat, Int.cast_ofNat_Int, Int.natCast_zero, Nat.add_zero, reduceCtorEq]
        exact hQ _ _ (Ends.ret rfl ⟨by simp [tupOf, wordOk, hh], rfl⟩)
      | true =>
        simp only [go_sem, Nat.reduceEqDiff, Nat.reduceAdd, Nat.reduceMul, Nat.reduceLeDiff, Int.reduceEq, Int.reduceLT, Int.reduceLE, Int.reduceAdd, Int.reduceSub, Int.reduceNeg, Int.reduceMul, Int.reduceToNat, Int.cast_ofNat_Int, Int.natCast_zero, Nat.add_zero, reduceCtorEq]
        refine Does.test (does_i_isTrip K) ?_
        cases ht : inB w.trip 1 6 with
        | false =>
          simp only [go_sem, Nat.reduceEqDiff, Nat.reduceAdd, Nat.reduceMul, Nat.reduceLeDiff, Int.reduceEq, Int.reduceLT, Int.reduceLE, Int.reduceAdd, Int.reduceSub, Int.reduceNeg, Int.reduceMul, Int.reduceToNat, Int.cast_ofNat_Int, Int.natCast_zero, Nat.add_zero, reduceCtorEq]
          exact hQ _ _ (Ends.ret rfl ⟨by simp [tupOf, wordOk, ht], rfl⟩)
        | true =>
          simp only [go_sem, Nat.reduceEqDiff, Nat.reduceAdd, Nat.reduceMul, Nat.reduceLeDiff, Int.reduceEq, Int.reduceLT, Int.reduceLE, Int.reduceAdd, Int.reduceSub, Int.reduceNeg, Int.reduceMul, Int.reduceToNat, Int.cast_ofNat_Int, Int.natCast_zero, Nat.add_zero, reduceCtorEq]
          exact hQ _ _ (Ends.ret rfl ⟨by simp [tupOf, wordOk, hk, hh, ht, k1], rfl⟩)
theorem does_s_WordOk (K : Codes P I) {H : Heap} {cs : List C} {w : Word} {F : List Nat} (h : RWord H cs w F) : Does P I.s_WordOk [.agg cs] H fun v H' => v = bool (wordOk w) ∧ H' = H := by
  obtain ⟨rfl, rfl⟩ := h
  refine K.does K.s_WordOk rfl fun Q hQ => ?_
  simp only [go_sem, Nat.reduceEqDiff, Nat.reduceAdd, Nat.reduceMul, Nat.reduceLeDiff, Int.reduceEq, Int.reduceLT, Int.reduceLE, Int.reduceAdd, Int.reduceSub, Int.reduceNeg, Int.reduceMul, Int.reduceToNat, Int.cast_ofNat_Int, Int.natCast_zero, Nat.add_zero, reduceCtorEq, L_s_WordOk]
  refine Does.test (does_s_l6In K) ?_
  cases hh : inB w.house 1 3 with
  | false =>
    simp only [go_sem, Nat.reduceEqDiff, Nat.reduceAdd, Nat.reduceMul, Nat.reduceLeDiff, Int.reduceEq, Int.reduceLT, Int.reduceLE, Int.reduceAdd, Int.reduceSub, Int.reduceNeg, Int.reduceMul, Int.reduceToNat, Int.cast_ofNat_Int, Int.natCast_zero, Nat.add_zero, reduceCtorEq]
    exact hQ _ _ (Ends.ret rfl ⟨by simp [tupOf, wordOk, hh], rfl⟩)
  | true =>
    simp only [go_sem, Nat.reduceEqDiff, Nat.reduceAdd, Nat.reduceMul, Nat.reduceLeDiff, Int.reduceEq, Int.reduceLT, Int.reduceLE, Int.reduceAdd, Int.reduceSub, Int.reduceNeg, Int.reduceMul, Int.reduceToNat, Int.cast_ofNat_Int, Int.natCast_zero, Nat.add_zero, reduceCtorEq]
    refine Does.test (does_s_l6In K) ?_
    cases ht : inB w.trip 1 6 with
    | false =>
      simp only [go_sem, Nat.reduceEqDiff, Nat.reduceAdd, Nat.reduceMul, Nat.reduceLeDiff, Int.reduceEq, Int.reduceLT, Int.reduceLE, Int.reduceAdd, Int.reduceSub, Int.reduceNeg, Int.reduceMul, Int.reduceToNat, Int.cast_ofNat_Int, Int.natCast_zero, Nat.add_zero, reduceCtorEq]
      exact hQ _ _ (Ends.ret rfl ⟨by simp [tupOf, wordOk, ht], rfl⟩)
    | true =>
      simp only [go_sem, Nat.reduceEqDiff, Nat.reduceAdd, Nat.reduceMul, Nat.reduceLeDiff, Int.reduceEq, Int.reduceLT, Int.reduceLE, Int.reduceAdd, Int.reduceSub, Int.reduceNeg, Int.reduceMul, Int.reduceToNat, Int.cast_ofNat_Int, Int.natCast_zero, Nat.add_zero, reduceCtorEq]
      refine Does.test (does_s_l6In K) ?_
      cases hk : inB w.kind 1 7 with
      | false =>
        simp only [go_sem, Nat.reduceEqDiff, Nat.reduceAdd, Nat.reduceMul, Nat.reduceLeDiff, Int.reduceEq, Int.reduceLT, Int.reduceLE, Int.reduceAdd, Int.reduceSub, Int.reduceNeg, Int.reduceMul, Int.reduceToNat, Int.cast_ofNat_Int, Int.natCast_zero, Nat.add_zero, reduceCtorEq]
        exact hQ _ _ (Ends.ret rfl ⟨by simp [tupOf, wordOk, hk], rfl⟩)
      | true =>
        by_cases k1 : w.kind = 1
        · simp only [go_sem, Nat.reduceEqDiff, Nat.reduceAdd, Nat.reduceMul, Nat.reduceLeDiff, Int.reduceEq, Int.reduceLT, Int.reduceLE, Int.reduceAdd, Int.reduceSub, Int.reduceNeg, Int.reduceMul, Int.reduceToNat, Int.cast_ofNat_Int, Int.natCast_zero, Nat.add_zero, reduceCtorEq, k1]
          refine Does.test (does_s_l6In K) ?_
          rw [k1] at hk
          simp only [go_sem, Nat.reduceEqDiff, Nat.reduceAdd, Nat.reduceMul, Nat.reduceLeDiff, Int.reduceEq, Int.reduceLT, Int.reduceLE, Int.reduceAdd, Int.reduceSub, Int.reduceNeg, Int.reduceMul, Int.reduceToNat, Int.cast_ofNat_Int, Int.natCast_zero, Nat.add_zero, reduceCtorEq]
          exact hQ _ _ (Ends.ret rfl ⟨by simp [tupOf, wordOk, hk, hh, ht, k1], rfl⟩)
        · simp only [go_sem, Nat.reduceEqDiff, Nat.reduceAdd, Nat.reduceMul, Nat.reduceLeDiff, Int.reduceEq, Int.reduceLT, Int.reduceLE, Int.reduceAdd, Int.reduceSub, Int.reduceNeg, Int.reduceMul, Int.reduceToNat, Int.cast_ofNat_Int, Int.natCast_zero, Nat.add_zero, reduceCtorEq, k1]
          exact hQ _ _ (Ends.ret rfl ⟨by simp [tupOf, wordOk, hk, hh, ht, k1], rfl⟩)
theorem does_i_Word_answer (K : Codes P I) {H : Heap} {cs : List C} {w : Word} {F : List Nat} (h : RWord H cs w F) : Does P I.i_Word_answer [.agg cs] H fun v H' => v = bool (decide (4 ≤ w.kind)) ∧ H' = H := by
  obtain ⟨rfl, rfl⟩ := h
  refine K.does K.i_Word_answer rfl fun Q hQ => ?_
  simp only [go_sem, Nat.reduceEqDiff, Nat.reduceAdd, Nat.reduceMul, Nat.reduceLeDiff, Int.reduceEq, Int.reduceLT, Int.reduceLE, Int.reduceAdd, Int.reduceSub, Int.reduceNeg, Int.reduceMul, Int.reduceToNat, Int.cast_ofNat_Int, Int.natCast_zero, Nat.add_zero, reduceCtorEq, L_i_Word_answer]
  exact hQ _ _ (Ends.ret rfl ⟨rfl, rfl⟩)
end Go.AX

/- Houses: the program and the reference do the same. Condition: the data lie in memory. -/
namespace Go.AX
variable {P : Program} {I : Ids}
theorem rhouse0 {H : Heap} : RHouse H [.int .i64 0, .bool false, .int .i64 0, .nil, .int .i64 0] house0 [] := ⟨.nil, rfl, .nil⟩
theorem does_i_HouseOk (K : Codes P I) {H : Heap} {cs : List C} {h : House} {F : List Nat} (hh : RHouse H cs h F) : Does P I.i_HouseOk [.agg cs] H fun v H' => v = bool (houseOk h) ∧ Step [] H H' [] := by
  obtain ⟨c, rfl, hc⟩ := hh
  refine K.does K.i_HouseOk rfl fun Q hQ => ?_
  simp only [go_sem, Nat.reduceEqDiff, Nat.reduceAdd, Nat.reduceMul, Nat.reduceLeDiff, Int.reduceEq, Int.reduceLT, Int.reduceLE, Int.reduceAdd, Int.reduceSub, Int.reduceNeg, Int.reduceMul, Int.reduceToNat, Int.cast_ofNat_Int, Int.natCast_zero, Nat.add_zero, reduceCtorEq, L_i_HouseOk]
  refine Does.test (does_i_isHouse K) ?_
  cases h1 : inB h.id 1 3 with
  | false =>
    simp only [go_sem, Nat.reduceEqDiff, Nat.reduceAdd, Nat.reduceMul, Nat.reduceLeDiff, Int.reduceEq, Int.reduceLT, Int.reduceLE, Int.reduceAdd, Int.reduceSub, Int.reduceNeg, Int.reduceMul, Int.reduceToNat, Int.cast_ofNat_Int, Int.natCast_zero, Nat.add_zero, reduceCtorEq]
    exact hQ _ _ (Ends.ret rfl ⟨by simp [tupOf, houseOk, h1], Step.refl H⟩)
  | true =>
    simp only [go_sem, Nat.reduceEqDiff, Nat.reduceAdd, Nat.reduceMul, Nat.reduceLeDiff, Int.reduceEq, Int.reduceLT, Int.reduceLE, Int.reduceAdd, Int.reduceSub, Int.reduceNeg, Int.reduceMul, Int.reduceToNat, Int.cast_ofNat_Int, Int.natCast_zero, Nat.add_zero, reduceCtorEq]
    refine Does.test (does_i_LogOk K (show RLog H [c, .int .i64 h.log.forced] h.log F from ⟨c, rfl, hc⟩)) ?_
    cases h2 : logOk h.log with
    | false =>
      simp only [go_sem, Nat.reduceEqDiff, Nat.reduceAdd, Nat.reduceMul, Nat.reduceLeDiff, Int.reduceEq, Int.reduceLT, Int.reduceLE, Int.reduceAdd, Int.reduceSub, Int.reduceNeg, Int.reduceMul, Int.reduceToNat, Int.cast_ofNat_Int, Int.natCast_zero, Nat.add_zero, reduceCtorEq]
      exact hQ _ _ (Ends.ret rfl ⟨by simp [tupOf, houseOk, h2], Step.refl H⟩)
    | true =>
      simp only [go_sem, Nat.reduceEqDiff, Nat.reduceAdd, Nat.reduceMul, Nat.reduceLeDiff, Int.reduceEq, Int.reduceLT, Int.reduceLE, Int.reduceAdd, Int.reduceSub, Int.reduceNeg, Int.reduceMul, Int.reduceToNat, Int.cast_ofNat_Int, Int.natCast_zero, Nat.add_zero, reduceCtorEq]
      refine Does.call (does_i_StockOf K hc) ?_
      rintro _ H1 ⟨cs, F1, rfl, s1, r1⟩
      obtain ⟨x0, x1, rfl⟩ := len2 r1.cells
      simp only [go_sem, Nat.reduceEqDiff, Nat.reduceAdd, Nat.reduceMul, Nat.reduceLeDiff, Int.reduceEq, Int.reduceLT, Int.reduceLE, Int.reduceAdd, Int.reduceSub, Int.reduceNeg, Int.reduceMul, Int.reduceToNat, Int.cast_ofNat_Int, Int.natCast_zero, Nat.add_zero, reduceCtorEq]
      exact hQ _ _ (Ends.ret rfl ⟨by simp [tupOf, houseOk, h1, h2], s1.less (by simp)⟩)
theorem does_s_HouseOk (K : Codes P I) {H : Heap} {cs : List C} {h : House} {F : List Nat} (hh : RHouse H cs h F) : Does P I.s_HouseOk [.agg cs] H fun v H' => v = bool (houseOk h) ∧ Step [] H H' [] := by
  obtain ⟨c, rfl, hc⟩ := hh
  refine K.does K.s_HouseOk rfl fun Q hQ => ?_
  simp only [go_sem, Nat.reduceEqDiff, Nat.reduceAdd, Nat.reduceMul, Nat.reduceLeDiff, Int.reduceEq, Int.reduceLT, Int.reduceLE, Int.reduceAdd, Int.reduceSub, Int.reduceNeg, Int.reduceMul, Int.reduceToNat, Int.cast_ofNat_Int, Int.natCast_zero, Nat.add_zero, reduceCtorEq, L_s_HouseOk]
  refine Does.call (does_s_l2Of K hc) ?_
  rintro _ H1 ⟨cs, F1, rfl, s1, r1⟩
  replace s1 : Step [] H H1 F1 := s1
  have s1' : Step [] H H1 [] := s1.less (by simp)
  obtain ⟨x0, x1, rfl⟩ := len2 r1.cells
  simp only [go_sem, Nat.reduceEqDiff, Nat.reduceAdd, Nat.reduceMul, Nat.reduceLeDiff, Int.reduceEq, Int.reduceLT, Int.reduceLE, Int.reduceAdd, Int.reduceSub, Int.reduceNeg, Int.reduceMul, Int.reduceToNat, Int.cast_ofNat_Int, Int.natCast_zero, Nat.add_zero, reduceCtorEq]
  refine Does.test (does_s_l6In K) ?_
  cases h1 : inB h.id 1 3 with
  | false =>
    simp only [go_sem, Nat.reduceEqDiff, Nat.reduceAdd, Nat.reduceMul, Nat.reduceLeDiff, Int.reduceEq, Int.reduceLT, Int.reduceLE, Int.reduceAdd, Int.reduceSub, Int.reduceNeg, Int.reduceMul, Int.reduceToNat, Int.cast_ofNat_Int, Int.natCast_zero, Nat.add_zero, reduceCtorEq]
    exact hQ _ _ (Ends.ret rfl ⟨by simp [tupOf, houseOk, h1], s1'⟩)
  | true =>
    simp only [go_sem, Nat.reduceEqDiff, Nat.reduceAdd, Nat.reduceMul, Nat.reduceLeDiff, Int.reduceEq, Int.reduceLT, Int.reduceLE, Int.reduceAdd, Int.reduceSub, Int.reduceNeg, Int.reduceMul, Int.reduceToNat, Int.cast_ofNat_Int, Int.natCast_zero, Nat.add_zero, reduceCtorEq]
    refine Does.test (does_s_LogOk K (show RLog H1 [c, .int .i64 h.log.forced] h.log F from ⟨c, rfl, s1.keepSl RRec.good hc fun b _ => by simp⟩)) ?_
    cases h2 : logOk h.log with
    | false =>
      simp only [go_sem, Nat.reduceEqDiff, Nat.reduceAdd, Nat.reduceMul, Nat.reduceLeDiff, Int.reduceEq, Int.reduceLT, Int.reduceLE, Int.reduceAdd, Int.reduceSub, Int.reduceNeg, Int.reduceMul, Int.reduceToNat, Int.cast_ofNat_Int, Int.natCast_zero, Nat.add_zero, reduceCtorEq]
      exact hQ _ _ (Ends.ret rfl ⟨by simp [tupOf, houseOk, h2], s1'⟩)
    | true =>
      simp only [go_sem, Nat.reduceEqDiff, Nat.reduceAdd, Nat.reduceMul, Nat.reduceLeDiff, Int.reduceEq, Int.reduceLT, Int.reduceLE, Int.reduceAdd, Int.reduceSub, Int.reduceNeg, Int.reduceMul, Int.reduceToNat, Int.cast_ofNat_Int, Int.natCast_zero, Nat.add_zero, reduceCtorEq]
      exact hQ _ _ (Ends.ret rfl ⟨by simp [tupOf, houseOk, h1, h2], s1'⟩)
end Go.AX

/- A new world: the program and the reference do the same. Condition: the data lie in memory. -/
namespace Go.AX
variable {P : Program} {I : Ids}
def world0 : Wld := ⟨desk00, [], []⟩
def housesN (rooms : List Int) (i : Nat) : List House := (rooms.take i).zipIdx.map fun p => houseNewV (p.2 + 1 : Nat) p.1
def okN (rooms : List Int) (i : Nat) : Bool := (rooms.take i).zipIdx.all fun p => houseNewOk (p.2 + 1 : Nat) p.1
def worldNewOk (rooms : List Int) : Bool := okN rooms rooms.length && decide (rooms.length = 3)
def worldNewV (rooms : List Int) : Wld := if worldNewOk rooms = true then ⟨desk0, housesN rooms rooms.length, []⟩ else world0
theorem houses_snoc {rooms : List Int} {i : Nat} {r : Int} (h : rooms[i]? = some r) : housesN rooms (i + 1) = housesN rooms i ++ [houseNewV (i + 1 : Nat) r] := by
  have hi : i < rooms.length := (List.getElem?_eq_some_iff.1 h).1
  unfold housesN
  rw [take_snoc h, List.zipIdx_append, List.map_append]
  simp [Nat.min_eq_left (Nat.le_of_lt hi)]
theorem okN_snoc {rooms : List Int} {i : Nat} {r : Int} (h : rooms[i]? = some r) : okN rooms (i + 1) = (okN rooms i && houseNewOk (i + 1 : Nat) r) := by
  have hi : i < rooms.length := (List.getElem?_eq_some_iff.1 h).1
  unfold okN
  rw [take_snoc h, List.zipIdx_append, List.all_append]
  simp [Nat.min_eq_left (Nat.le_of_lt hi)]
theorem okN_mono {rooms : List Int} {i j : Nat} (hij : i ≤ j) (h : okN rooms i = false) : okN rooms j = false := by
  induction j with
  | zero => rw [show i = 0 by omega] at h; exact h
  | succ j ih =>
    by_cases e : i = j + 1
    · rw [← e]; exact h
    · have := ih (by omega)
      by_cases hj : j < rooms.length
      · rw [okN_snoc (List.getElem?_eq_getElem hj), this]; rfl
      · unfold okN at *
        rw [List.take_of_length_le (by omega)] at this ⊢
        exact this
theorem worldNot {rooms : List Int} {i : Nat} {r : Int} (h : rooms[i]? = some r) (hk : houseNewOk (i + 1 : Nat) r = false) : worldNewOk rooms = false := by
  have hi : i < rooms.length := (List.getElem?_eq_some_iff.1 h).1
  have : okN rooms rooms.length = false := okN_mono (i := i + 1) (by omega) (by rw [okN_snoc h, hk, Bool.and_false])
  unfold worldNewOk; rw [this]; rfl
theorem rwld0 {H : Heap} : RWld H [.bool false, .nil, .int .i64 0, .nil, .nil, .nil] world0 [] := ⟨[.bool false, .nil, .int .i64 0, .nil], .nil, .nil, [], [], [], rfl, rfl, ⟨.nil, .nil, [], [], rfl, rfl, .nil, .nil⟩, .nil, .nil⟩
theorem houseNew_big {i : Nat} {r : Int} (h : 3 ≤ i) : houseNewOk (i + 1 : Nat) r = false := by
  have : inB ((i + 1 : Nat) : Int) 1 3 = false := by simp [inB]; omega
  unfold houseNewOk; rw [this]; rfl
end Go.AX

/- The exact laws of houses (but to hear) hold. Condition: the arguments lie in memory. -/
namespace Go.AX
variable {P : Program} {I : Ids}
theorem houseRise_small (h : House) : Small (houseRiseV h).log := by
  unfold houseRiseV; split
  · rename_i k; exact logOk_small (houseOk_parts k).2.1
  · exact small_log0
theorem houseForce_small (h : House) : Small (houseForceV h).log := by
  unfold houseForceV; split
  · rename_i k
    have := (houseOk_parts k).2.1
    split
    · exact logOk_small (force_ok this)
    · exact logOk_small this
  · exact small_log0
theorem houseFall_small (h : House) (n : Int) : Small (houseFallV h n).log := by
  unfold houseFallV; split
  · rename_i k; exact logOk_small (fall_ok (houseOk_parts k).2.1 n)
  · exact small_log0
end Go.AX

/- The exact law of new worlds holds. Condition: the arguments lie in memory. -/
namespace Go.AX
variable {P : Program} {I : Ids}
theorem does_w_eqWorld (K : Codes P I) {H : Heap} {a b : List C} {x y : Wld} {F G : List Nat} (ha : RWld H a x F) (hb : RWld H b y G) : Does P I.w_eqWorld [.agg a, .agg b] H fun r H' => r = .val (.c (.bool (decide (x = y)))) ∧ H' = H := by
  obtain ⟨ds, c, d, F1, F2, F3, rfl, _, ha1, ha2, ha3⟩ := ha
  obtain ⟨es, c', d', G1, G2, G3, rfl, _, hb1, hb2, hb3⟩ := hb
  obtain ⟨a0, a1, a2, a3, rfl⟩ := len4 ha1.cells
  obtain ⟨b0, b1, b2, b3, rfl⟩ := len4 hb1.cells
  refine K.does K.w_eqWorld rfl fun Q hQ => ?_
  simp only [go_sem, Nat.reduceEqDiff, Nat.reduceAdd, Nat.reduceMul, Nat.reduceLeDiff, Int.reduceEq, Int.reduceLT, Int.reduceLE, Int.reduceAdd, Int.reduceSub, Int.reduceNeg, Int.reduceMul, Int.reduceToNat, Int.cast_ofNat_Int, Int.natCast_zero, Nat.add_zero, reduceCtorEq, L_w_eqWorld, List.cons_append, List.nil_append]
  refine Does.test (does_w_eqDesk K ha1 hb1) ?_
  by_cases h0 : x.desk = y.desk
  · simp only [go_sem, Nat.reduceEqDiff, Nat.reduceAdd, Nat.reduceMul, Nat.reduceLeDiff, Int.reduceEq, Int.reduceLT, Int.reduceLE, Int.reduceAdd, Int.reduceSub, Int.reduceNeg, Int.reduceMul, Int.reduceToNat, Int.cast_ofNat_Int, Int.natCast_zero, Nat.add_zero, reduceCtorEq, h0]
    refine Does.test (does_w_eqHouseS K ha2 hb2) ?_
    by_cases h1 : x.houses = y.houses
    · simp only [go_sem, Nat.reduceEqDiff, Nat.reduceAdd, Nat.reduceMul, Nat.reduceLeDiff, Int.reduceEq, Int.reduceLT, Int.reduceLE, Int.reduceAdd, Int.reduceSub, Int.reduceNeg, Int.reduceMul, Int.reduceToNat, Int.cast_ofNat_Int, Int.natCast_zero, Nat.add_zero, reduceCtorEq, h0, h1]
      refine Does.test (does_w_eqWordS K ha3 hb3) ?_
      by_cases h2 : x.nets = y.nets
      · simp only [go_sem, Nat.reduceEqDiff, Nat.reduceAdd, Nat.reduceMul, Nat.reduceLeDiff, Int.reduceEq, Int.reduceLT, Int.reduceLE, Int.reduceAdd, Int.reduceSub, Int.reduceNeg, Int.reduceMul, Int.reduceToNat, Int.cast_ofNat_Int, Int.natCast_zero, Nat.add_zero, reduceCtorEq, h0, h1, h2]
        refine hQ _ _ (Ends.ret rfl ⟨?_, rfl⟩)
        simp [tupOf, Wld.ext_iff, h0, h1, h2]
      · simp only [go_sem, Nat.reduceEqDiff, Nat.reduceAdd, Nat.reduceMul, Nat.reduceLeDiff, Int.reduceEq, Int.reduceLT, Int.reduceLE, Int.reduceAdd, Int.reduceSub, Int.reduceNeg, Int.reduceMul, Int.reduceToNat, Int.cast_ofNat_Int, Int.natCast_zero, Nat.add_zero, reduceCtorEq, h0, h1, h2]
        refine hQ _ _ (Ends.ret rfl ⟨?_, rfl⟩)
        simp [tupOf, Wld.ext_iff, h0, h1, h2]
    · simp only [go_sem, Nat.reduceEqDiff, Nat.reduceAdd, Nat.reduceMul, Nat.reduceLeDiff, Int.reduceEq, Int.reduceLT, Int.reduceLE, Int.reduceAdd, Int.reduceSub, Int.reduceNeg, Int.reduceMul, Int.reduceToNat, Int.cast_ofNat_Int, Int.natCast_zero, Nat.add_zero, reduceCtorEq, h0, h1]
      refine hQ _ _ (Ends.ret rfl ⟨?_, rfl⟩)
      simp [tupOf, Wld.ext_iff, h0, h1]
  · simp only [go_sem, Nat.reduceEqDiff, Nat.reduceAdd, Nat.reduceMul, Nat.reduceLeDiff, Int.reduceEq, Int.reduceLT, Int.reduceLE, Int.reduceAdd, Int.reduceSub, Int.reduceNeg, Int.reduceMul, Int.reduceToNat, Int.cast_ofNat_Int, Int.natCast_zero, Nat.add_zero, reduceCtorEq, h0]
    refine hQ _ _ (Ends.ret rfl ⟨?_, rfl⟩)
    simp [tupOf, Wld.ext_iff, h0]
theorem houseNew_recs (id room : Int) : (houseNewV id room).log.recs = [] := by
  unfold houseNewV; split <;> rfl
theorem houses_cnt : ∀ (l : List House), (∀ h ∈ l, h.log.recs = []) → sumL cntHouse l = 4 * l.length
  | [], _ => rfl
  | h :: r, k => by
    have h1 := houses_cnt r fun x hx => k x (by simp [hx])
    have h2 : cntHouse h = 4 := by unfold cntHouse; rw [k h (by simp)]; rfl
    simp only [sumL, List.map_cons, List.sum_cons, List.length_cons] at h1 ⊢; omega
theorem cnt_world {w : Wld} (h : cntWld w ≤ 4194304) : cntWld w ≤ 4194304 := h
theorem worldNew_small (rooms : List Int) : cntWld (worldNewV rooms) ≤ 4194304 := by
  unfold worldNewV
  split
  · rename_i hg
    have hl : rooms.length = 3 := by
      simp only [worldNewOk, Bool.and_eq_true, decide_eq_true_eq] at hg; exact hg.2
    have h1 := houses_cnt (housesN rooms rooms.length) (fun h hh => by
      simp only [housesN, List.mem_map] at hh
      obtain ⟨p, _, rfl⟩ := hh
      exact houseNew_recs _ _)
    have h2 : (housesN rooms rooms.length).length = 3 := by simp [housesN, hl]
    have h3 : cntWld ⟨desk0, housesN rooms rooms.length, []⟩ = 0 + 0 + (sumL cntHouse (housesN rooms rooms.length) + 0) := rfl
    rw [h3, h1, h2]; decide
  · decide
end Go.AX

/- To hear: the program and the reference do the same. Condition: the data lie in memory. -/
namespace Go.AX
variable {P : Program} {I : Ids}
theorem may_recOfW {h : House} {w : Word} (hok : houseOk h = true) (hh : hearsB h w = true) : stockMay (stockV h false) (recOfW w) = mayB h w := by
  obtain ⟨_, g2, g3, _⟩ := hearsB_parts hh
  simp [stockMay, stockV_ok hok false, recOfW_ok g2 g3, mayB]
theorem rword0 {H : Heap} : RWord H [.int .i64 0, .int .i64 0, .int .i64 0, .int .i64 0] word0 [] := ⟨rfl, rfl⟩
end Go.AX

/- To hear: the reference. Condition: the data lie in memory. -/
namespace Go.AX
variable {P : Program} {I : Ids}
def answerF (kind f : Int) : Int := if kind = 1 ∧ (f = 1 ∨ f = 2) then 4 else if kind = 1 ∧ f = 3 then 5 else if kind = 2 ∧ f = 2 then 6 else if kind = 3 ∧ f = 3 then 7 else 0
theorem answerK_F {k a f : Int} (h : ¬ (k = 1 ∧ a = 0)) : answerK k a f = answerF k f := by simp only [answerK, answerF, if_neg h]
def answerW (h : House) (w : Word) (f : Int) : Word := if answerF w.kind f = 0 then word0 else ⟨answerF w.kind f, h.id, w.trip, 0⟩
end Go.AX

/- The exact laws of trips hold. Condition: the arguments lie in memory. -/
namespace Go.AX
variable {P : Program} {I : Ids}
theorem cnt_trips {l : List Trip} (h : tripsOk l = true) : sumL cntTrip l ≤ 4194304 := by
  obtain ⟨h1, h2⟩ := tripsOk_parts h
  have := sumL_bound (f := cntTrip) (xs := l) (N := 4) fun t ht => by
    have := manyOk_len (h2 t ht).1
    simp only [cntTrip, sumL_one]; omega
  have : l.length * 4 ≤ 6 * 4 := Nat.mul_le_mul_right _ h1
  omega
theorem tripsDoV_ok (l : List Trip) (r : Rec) : tripsOk (tripsDoV l r) = true := by
  unfold tripsDoV; split
  · rename_i h
    simp only [tripsMay, Bool.and_eq_true] at h
    exact tripsOk_do h.1 h.2.1 h.2.2
  · rfl
theorem tripsD_ok (recs : List Rec) : tripsOk (tripsD recs) = true := by
  unfold tripsD
  cases h : tripsOf recs with
  | none => rfl
  | some l => exact tripsOf_ok h
end Go.AX

/- Draws: trips and records of a desk. Condition: the reader lies in memory, and drew less often than 2^39. -/
namespace Go.AX
variable {P : Program} {I : Ids}
end Go.AX

/- Draws: houses. Condition: the reader lies in memory, and drew less often than 2^39. -/
namespace Go.AX
variable {P : Program} {I : Ids}
end Go.AX

/- Draws: houses and words. Condition: the reader lies in memory, and drew less often than 2^39. -/
namespace Go.AX
variable {P : Program} {I : Ids}
theorem keepB5 {k1 k2 : Int} (h1 : Drawn 5 k1) (h2 : Drawn 6 k2) : ∃ v, IntKind.wrap .i64 (k1 - IntKind.wrap .i64 (IntKind.wrap .i64 (k2.tdiv 5) * 2)) = v ∧ -3 ≤ v ∧ v ≤ 6 :=
  keepB ⟨h1.1, fun _ => by have := h1.2.1 (by decide); omega, fun h => absurd h (by decide)⟩ h2
end Go.AX

/- The laws of houses hold that do not hear. Condition: the bytes that draw lie in memory. -/
namespace Go.AX
variable {P : Program} {I : Ids}
theorem sameC2 {a b c d : Int} : sameC [.int .i64 a, .int .i64 b] [.int .i64 c, .int .i64 d] = some ((a == c) && ((b == d) && true)) := by simp [sameC]
/-! What holds of houses. -/
theorem rise_eq {h : House} (k : houseOk h = true) : houseRiseV h = { h with up := true } := by simp [houseRiseV, k]
theorem ok_up {h : House} (u : Bool) : houseOk { h with up := u } = houseOk h := rfl
theorem force_eq {h : House} (k : houseOk h = true) (u : h.up = true) : houseForceV h = { h with log := forceL h.log } := by simp [houseForceV, k, u]
theorem force_houseOk {h : House} (k : houseOk h = true) : houseOk { h with log := forceL h.log } = true := by
  obtain ⟨h1, h2, s, hs⟩ := houseOk_parts k
  exact houseOk_of h1 (force_ok h2) (s := s) hs
theorem fall_eq {h : House} (k : houseOk h = true) (n : Int) : houseFallV h n = { h with up := false, log := fallL h.log n } := by simp [houseFallV, k]
theorem fall_houseOk {h : House} (k : houseOk h = true) (n : Int) (u : Bool) : houseOk { h with up := u, log := fallL h.log n } = true := by
  obtain ⟨h1, h2, s, hs⟩ := houseOk_parts k
  obtain ⟨t, ht⟩ := stockOf_take hs (fallN h.log n)
  exact houseOk_of h1 (fall_ok h2 n) (s := t) ht
theorem stock_fall0 {h : House} (k : houseOk h = true) (u : Bool) : stockV { h with up := u, log := fallL h.log 0 } false = stockV h true := by
  have hN : fallN h.log 0 = h.log.forced.toNat := by unfold fallN; simp
  simp only [stockV, known, fallL, hN, if_true]
  simp
theorem stock_force {h : House} (k : houseOk h = true) (u : Bool) : stockV { h with up := u, log := forceL h.log } true = stockV h false := by
  simp [stockV, known, forceL]
theorem houseStock_eq {h : House} (k : houseOk h = true) (f : Bool) : houseStockV h f = stockV h f := by simp [houseStockV, k]
theorem stockOf_known {h : House} (k : houseOk h = true) (f : Bool) : stockOf h.room (known h.log f) = some (stockV h f) := by
  obtain ⟨h1, h2, s, hs⟩ := houseOk_parts k
  cases f with
  | false => rw [stockV_all hs]; exact hs
  | true =>
    obtain ⟨t, ht⟩ := stockOf_take hs h.log.forced.toNat
    simp [stockV, known, ht]

end Go.AX

/- The laws of what a house hears. Condition: the bytes that draw lie in memory. -/
namespace Go.AX
variable {P : Program} {I : Ids}
theorem sameC4 {a b c d a' b' c' d' : Int} : sameC [.int .i64 a, .int .i64 b, .int .i64 c, .int .i64 d] [.int .i64 a', .int .i64 b', .int .i64 c', .int .i64 d'] = some ((a == a') && ((b == b') && ((c == c') && ((d == d') && true)))) := by simp [sameC]
theorem Word.ext' {a b : Word} (h1 : a.kind = b.kind) (h2 : a.house = b.house) (h3 : a.trip = b.trip) (h4 : a.many = b.many) : a = b := by cases a; cases b; simp_all
/-! What holds of hearing. -/
theorem hear_deaf {h : House} {w : Word} (hk : houseOk h = true) (hn : hearsB h w = false) : houseHearV h w = h ∧ houseHearB h w = false := by
  refine ⟨by rw [houseHearV, if_pos hk, hearH_same (by simp [hn])], by simp [houseHearB, hearOk, hn]⟩
theorem holdDo_again {s : Stock} {r : Rec} (hl : s.holds.length = 6) (ht : 1 ≤ r.trip ∧ r.trip ≤ 6) (hm : stockMayB s r = true) : stockMayB (stockDoL s r) r = false := by
  have hg := holdAt_get hl ht.1 ht.2
  have e : holdAt (stockDoL s r) r.trip = holdDo (holdAt s r.trip) r := by
    have : (stockDoL s r).holds[(r.trip - 1).toNat]? = some (holdDo (holdAt s r.trip) r) := by
      simp only [stockDoL]; rw [List.getElem?_set_self (by rw [hl]; omega)]
    unfold holdAt
    unfold holdAt at this
    rw [this]; rfl
  unfold stockMayB at hm ⊢
  rw [e]
  unfold holdDo
  split at hm
  · rename_i k; simp only [Bool.and_eq_true, decide_eq_true_eq] at hm; simp [k, hm.1]
  · split at hm
    · rename_i k1 k2; simp [k1, k2]
    · split at hm
      · rename_i k1 k2 k3; simp [k1, k2, k3]
      · cases hm
theorem hear_twice {h : House} {w : Word} (hk : houseOk h = true) : houseHearV (houseHearV h w) w = houseHearV h w := by
  have e : houseHearV h w = hearH h w := by rw [houseHearV, if_pos hk]
  rw [e, houseHearV, if_pos (hearH_ok hk)]
  by_cases hc : hearsB h w = true ∧ mayB h w = true
  · have W := wrote hk hc.1 hc.2
    have hp := hearsB_parts hc.1
    have ht := (wordOk_parts hp.2.1).2.2.1
    refine hearH_same fun hm => ?_
    have := hm.2
    unfold mayB at this
    rw [W.all, holdDo_again (stockOk_parts (stockV_ok hk false)).2.1 ht W.may] at this
    cases this
  · rw [hearH_same hc, hearH_same hc]
end Go.AX

/- Words among words; desks that are ok: the program and the reference do the same. Condition: the data lie in memory. -/
namespace Go.AX
variable {P : Program} {I : Ids}
theorem sameW {w v : Word} : sameC [.int .i64 w.kind, .int .i64 w.house, .int .i64 w.trip, .int .i64 w.many] [.int .i64 v.kind, .int .i64 v.house, .int .i64 v.trip, .int .i64 v.many] = some (decide (w = v)) := by
  rw [sameC4]
  congr 1
  rw [Bool.eq_iff_iff]
  simp [Word.ext_iff]
theorem mem_take_snoc {w v : Word} {xs : List Word} {i : Nat} (h : xs[i]? = some v) : w ∈ xs.take (i + 1) ↔ w ∈ xs.take i ∨ w = v := by
  rw [take_snoc h]; simp
theorem does_g_Index_Word (K : Codes P I) {H : Heap} {c : C} {ds : List C} {xs : List Word} {w : Word} {F G : List Nat} (h : Words H c xs F) (hw : RWord H ds w G) :
    Does P I.g_Index_Word [.c c, .agg ds] H fun v H' => ∃ n : Int, v = .val (int n) ∧ (0 ≤ n ↔ w ∈ xs) ∧ H' = H := by
  obtain ⟨rfl, rfl⟩ := hw
  have htop := h.top
  refine K.does K.g_Index_Word rfl fun Q hQ => ?_
  simp only [go_sem, Nat.reduceEqDiff, Nat.reduceAdd, Nat.reduceMul, Nat.reduceLeDiff, Int.reduceEq, Int.reduceLT, Int.reduceLE, Int.reduceAdd, Int.reduceSub, Int.reduceNeg, Int.reduceMul, Int.reduceToNat, Int.cast_ofNat_Int, Int.natCast_zero, Nat.add_zero, reduceCtorEq, L_g_Index_Word, h.len]
  refine RU_loop (fun m s => ∃ i : Nat, m = xs.length - i ∧ i ≤ xs.length ∧ s.H = H ∧ s.env 0 = .val (.c c) ∧ s.env 3 = .box [.int .i64 w.kind, .int .i64 w.house, .int .i64 w.trip, .int .i64 w.many] ∧ s.env 7 = .val (int xs.length) ∧ s.env 8 = .val (int i) ∧ w ∉ xs.take i) xs.length ⟨0, by simp, by simp, rfl, rfl, rfl, rfl, rfl, by simp⟩ ?_
  rintro m s ⟨i, rfl, hi, hH, g0, g3, g7, g8, hm⟩ Q' hN hE hR
  by_cases hlt : (i : Int) < xs.length
  · obtain ⟨v, hv⟩ := get_lt hlt
    obtain ⟨b1, o1, bs1, cs1, f1, rfl, e1, e2, ⟨rfl, _⟩, _⟩ := h.get hv
    by_cases e : w = v
    · subst e
      simp only [go_sem, Nat.reduceEqDiff, Nat.reduceAdd, Nat.reduceMul, Nat.reduceLeDiff, Int.reduceEq, Int.reduceLT, Int.reduceLE, Int.reduceAdd, Int.reduceSub, Int.reduceNeg, Int.reduceMul, Int.reduceToNat, Int.cast_ofNat_Int, Int.natCast_zero, Nat.add_zero, reduceCtorEq, g0, g3, g7, g8, hlt, hH, e1, e2, sameW]
      refine hR _ ?_
      exact hQ _ _ (Ends.ret rfl ⟨(i : Int), rfl, ⟨fun _ => List.mem_of_getElem? hv, fun _ => by omega⟩, by simp [hH]⟩)
    · simp only [go_sem, Nat.reduceEqDiff, Nat.reduceAdd, Nat.reduceMul, Nat.reduceLeDiff, Int.reduceEq, Int.reduceLT, Int.reduceLE, Int.reduceAdd, Int.reduceSub, Int.reduceNeg, Int.reduceMul, Int.reduceToNat, Int.cast_ofNat_Int, Int.natCast_zero, Nat.add_zero, reduceCtorEq, g0, g3, g7, g8, hlt, hH, e1, e2, sameW, e, wrap_succ (show i ≤ lenTop by omega)]
      refine hN _ _ (by omega) ⟨i + 1, rfl, by omega, by simp [hH], by simp [upd, g0], by simp [upd, g3], by simp [upd, g7], by simp [upd], ?_⟩
      rw [mem_take_snoc hv]; simp [hm, e]
  · simp only [go_sem, Nat.reduceEqDiff, Nat.reduceAdd, Nat.reduceMul, Nat.reduceLeDiff, Int.reduceEq, Int.reduceLT, Int.reduceLE, Int.reduceAdd, Int.reduceSub, Int.reduceNeg, Int.reduceMul, Int.reduceToNat, Int.cast_ofNat_Int, Int.natCast_zero, Nat.add_zero, reduceCtorEq, g7, g8, hlt]
    refine hE _ _ ?_
    simp only [go_sem, Nat.reduceEqDiff, Nat.reduceAdd, Nat.reduceMul, Nat.reduceLeDiff, Int.reduceEq, Int.reduceLT, Int.reduceLE, Int.reduceAdd, Int.reduceSub, Int.reduceNeg, Int.reduceMul, Int.reduceToNat, Int.cast_ofNat_Int, Int.natCast_zero, Nat.add_zero, reduceCtorEq, hH]
    rw [List.take_of_length_le (by omega)] at hm
    exact hQ _ _ (Ends.ret rfl ⟨-1, rfl, ⟨fun q => absurd q (by decide), fun q => absurd q hm⟩, rfl⟩)
theorem does_g_Contains_Word (K : Codes P I) {H : Heap} {c : C} {ds : List C} {xs : List Word} {w : Word} {F G : List Nat} (h : Words H c xs F) (hw : RWord H ds w G) :
    Does P I.g_Contains_Word [.c c, .agg ds] H fun v H' => v = bool (decide (w ∈ xs)) ∧ H' = H := by
  obtain ⟨rfl, rfl⟩ := hw
  refine K.does K.g_Contains_Word rfl fun Q hQ => ?_
  simp only [go_sem, Nat.reduceEqDiff, Nat.reduceAdd, Nat.reduceMul, Nat.reduceLeDiff, Int.reduceEq, Int.reduceLT, Int.reduceLE, Int.reduceAdd, Int.reduceSub, Int.reduceNeg, Int.reduceMul, Int.reduceToNat, Int.cast_ofNat_Int, Int.natCast_zero, Nat.add_zero, reduceCtorEq, L_g_Contains_Word]
  refine Does.call (does_g_Index_Word K h (show RWord H _ w [] from ⟨rfl, rfl⟩)) ?_
  rintro _ _ ⟨n, rfl, hn, rfl⟩
  simp only [go_sem, Nat.reduceEqDiff, Nat.reduceAdd, Nat.reduceMul, Nat.reduceLeDiff, Int.reduceEq, Int.reduceLT, Int.reduceLE, Int.reduceAdd, Int.reduceSub, Int.reduceNeg, Int.reduceMul, Int.reduceToNat, Int.cast_ofNat_Int, Int.natCast_zero, Nat.add_zero, reduceCtorEq]
  exact hQ _ _ (Ends.ret rfl ⟨by simp [tupOf, hn], rfl⟩)
theorem does_s_l13Told (K : Codes P I) {H : Heap} {c : C} {ds : List C} {xs : List Word} {w : Word} {F G : List Nat} (h : Words H c xs F) (hw : RWord H ds w G) :
    Does P I.s_l13Told [.c c, .agg ds] H fun v H' => v = bool (decide (w ∈ xs)) ∧ H' = H := by
  obtain ⟨rfl, rfl⟩ := hw
  have htop := h.top
  refine K.does K.s_l13Told rfl fun Q hQ => ?_
  simp only [go_sem, Nat.reduceEqDiff, Nat.reduceAdd, Nat.reduceMul, Nat.reduceLeDiff, Int.reduceEq, Int.reduceLT, Int.reduceLE, Int.reduceAdd, Int.reduceSub, Int.reduceNeg, Int.reduceMul, Int.reduceToNat, Int.cast_ofNat_Int, Int.natCast_zero, Nat.add_zero, reduceCtorEq, L_s_l13Told, h.len]
  refine RU_loop (fun m s => ∃ i : Nat, m = xs.length - i ∧ i ≤ xs.length ∧ s.H = H ∧ s.env 0 = .val (.c c) ∧ s.env 3 = .box [.int .i64 w.kind, .int .i64 w.house, .int .i64 w.trip, .int .i64 w.many] ∧ s.env 5 = .val (int i) ∧ w ∉ xs.take i) xs.length ⟨0, by simp, by simp, rfl, rfl, rfl, rfl, by simp⟩ ?_
  rintro m s ⟨i, rfl, hi, hH, g0, g3, g5, hm⟩ Q' hN hE hR
  by_cases hlt : (i : Int) < xs.length
  · obtain ⟨v, hv⟩ := get_lt hlt
    obtain ⟨b1, o1, bs1, cs1, f1, rfl, e1, e2, ⟨rfl, _⟩, _⟩ := h.get hv
    by_cases e : v = w
    · subst e
      have hin : v ∈ xs := List.mem_of_getElem? hv
      simp only [go_sem, Nat.reduceEqDiff, Nat.reduceAdd, Nat.reduceMul, Nat.reduceLeDiff, Int.reduceEq, Int.reduceLT, Int.reduceLE, Int.reduceAdd, Int.reduceSub, Int.reduceNeg, Int.reduceMul, Int.reduceToNat, Int.cast_ofNat_Int, Int.natCast_zero, Nat.add_zero, reduceCtorEq, g0, g3, g5, hlt, hH, h.len, e1, e2, sameW]
      refine hR _ ?_
      exact hQ _ _ (Ends.ret rfl ⟨by simp [tupOf, hin], by simp [hH]⟩)
    · simp only [go_sem, Nat.reduceEqDiff, Nat.reduceAdd, Nat.reduceMul, Nat.reduceLeDiff, Int.reduceEq, Int.reduceLT, Int.reduceLE, Int.reduceAdd, Int.reduceSub, Int.reduceNeg, Int.reduceMul, Int.reduceToNat, Int.cast_ofNat_Int, Int.natCast_zero, Nat.add_zero, reduceCtorEq, g0, g3, g5, hlt, hH, h.len, e1, e2, sameW, e, wrap_succ (show i ≤ lenTop by omega)]
      refine hN _ _ (by omega) ⟨i + 1, rfl, by omega, by simp [hH], by simp [upd, g0], by simp [upd, g3], by simp [upd], ?_⟩
      rw [mem_take_snoc hv]; simp [hm, Ne.symm e]
  · simp only [go_sem, Nat.reduceEqDiff, Nat.reduceAdd, Nat.reduceMul, Nat.reduceLeDiff, Int.reduceEq, Int.reduceLT, Int.reduceLE, Int.reduceAdd, Int.reduceSub, Int.reduceNeg, Int.reduceMul, Int.reduceToNat, Int.cast_ofNat_Int, Int.natCast_zero, Nat.add_zero, reduceCtorEq, g0, g5, hlt, h.len]
    refine hE _ _ ?_
    simp only [go_sem, Nat.reduceEqDiff, Nat.reduceAdd, Nat.reduceMul, Nat.reduceLeDiff, Int.reduceEq, Int.reduceLT, Int.reduceLE, Int.reduceAdd, Int.reduceSub, Int.reduceNeg, Int.reduceMul, Int.reduceToNat, Int.cast_ofNat_Int, Int.natCast_zero, Nat.add_zero, reduceCtorEq, hH]
    rw [List.take_of_length_le (by omega)] at hm
    exact hQ _ _ (Ends.ret rfl ⟨by simp [tupOf, hm], rfl⟩)
end Go.AX

/- Desks that are ok: the program and the reference do the same. Condition: the data lie in memory. -/
namespace Go.AX
variable {P : Program} {I : Ids}
theorem told_parts {n : Nat} {xs : List Word} (h : toldOk n xs = true) : (∀ w ∈ xs, wordOk w = true ∧ 4 ≤ w.kind ∧ w.trip ≤ n) ∧ xs.Nodup := by
  simpa only [toldOk, Bool.and_eq_true, List.all_eq_true, decide_eq_true_eq] using h
theorem told_of {n : Nat} {xs : List Word} (h1 : ∀ w ∈ xs, wordOk w = true ∧ 4 ≤ w.kind ∧ w.trip ≤ n) (h2 : xs.Nodup) : toldOk n xs = true := by
  simp only [toldOk, Bool.and_eq_true, List.all_eq_true, decide_eq_true_eq]
  exact ⟨h1, h2⟩
theorem told_snoc {n : Nat} {xs : List Word} {v : Word} {i : Nat} (h : xs[i]? = some v) (hi : toldOk n (xs.take i) = true) (h1 : wordOk v = true) (h2 : 4 ≤ v.kind) (h3 : v.trip ≤ n) (h4 : v ∉ xs.take i) : toldOk n (xs.take (i + 1)) = true := by
  obtain ⟨g1, g2⟩ := told_parts hi
  refine told_of (fun w hw => ?_) ?_
  · rcases (mem_take_snoc h).1 hw with hw | rfl
    · exact g1 w hw
    · exact ⟨h1, h2, h3⟩
  · rw [take_snoc h, List.nodup_append]
    refine ⟨g2, by simp, fun a ha b hb e => ?_⟩
    simp only [List.mem_singleton] at hb
    subst hb; subst e; exact h4 ha
theorem told_bad {n : Nat} {xs : List Word} {v : Word} {i : Nat} (h : xs[i]? = some v) (hc : ¬ (wordOk v = true ∧ 4 ≤ v.kind ∧ v.trip ≤ n ∧ v ∉ xs.take i)) : toldOk n xs = false := by
  cases ht : toldOk n xs with
  | false => rfl
  | true =>
    obtain ⟨g1, g2⟩ := told_parts ht
    obtain ⟨k1, k2, k3⟩ := g1 v (List.mem_of_getElem? h)
    refine absurd ⟨k1, k2, k3, fun hm => ?_⟩ hc
    have hs : (xs.take (i + 1)).Nodup := g2.sublist (List.take_sublist _ _)
    rw [take_snoc h, List.nodup_append] at hs
    exact hs.2.2 v hm v (by simp) rfl
theorem desk_bad {d : Desk} (h : toldOk (tripsD d.log.recs).length d.told = false) : deskOk d = false := by simp [deskOk, h]
set_option maxHeartbeats 2000000 in
theorem does_i_DeskOk (K : Codes P I) {H : Heap} {cs : List C} {d : Desk} {F : List Nat} (hd : RDesk H cs d F) : Does P I.i_DeskOk [.agg cs] H fun v H' => v = bool (deskOk d) ∧ Step [] H H' [] := by
  obtain ⟨c, t, F1, F2, rfl, rfl, hr, ht⟩ := hd
  have htop := ht.top
  refine K.does K.i_DeskOk rfl fun Q hQ => ?_
  simp only [go_sem, Nat.reduceEqDiff, Nat.reduceAdd, Nat.reduceMul, Nat.reduceLeDiff, Int.reduceEq, Int.reduceLT, Int.reduceLE, Int.reduceAdd, Int.reduceSub, Int.reduceNeg, Int.reduceMul, Int.reduceToNat, Int.cast_ofNat_Int, Int.natCast_zero, Nat.add_zero, reduceCtorEq, L_i_DeskOk]
  refine Does.test (does_i_LogOk K (show RLog H [c, .int .i64 d.log.forced] d.log F1 from ⟨c, rfl, hr⟩)) ?_
  cases hlok : logOk d.log with
  | false =>
    simp only [go_sem, Nat.reduceEqDiff, Nat.reduceAdd, Nat.reduceMul, Nat.reduceLeDiff, Int.reduceEq, Int.reduceLT, Int.reduceLE, Int.reduceAdd, Int.reduceSub, Int.reduceNeg, Int.reduceMul, Int.reduceToNat, Int.cast_ofNat_Int, Int.natCast_zero, Nat.add_zero, reduceCtorEq]
    exact hQ _ _ (Ends.ret rfl ⟨by simp [tupOf, deskOk, hlok], Step.refl H⟩)
  | true =>
    cases hup : d.up with
    | false =>
      by_cases hz : d.told = []
      · have hg : ¬ (0 : Int) < d.told.length := by rw [hz]; simp
        simp only [go_sem, Nat.reduceEqDiff, Nat.reduceAdd, Nat.reduceMul, Nat.reduceLeDiff, Int.reduceEq, Int.reduceLT, Int.reduceLE, Int.reduceAdd, Int.reduceSub, Int.reduceNeg, Int.reduceMul, Int.reduceToNat, Int.cast_ofNat_Int, Int.natCast_zero, Nat.add_zero, reduceCtorEq, hup, ht.len, hg]
        refine Does.call (does_i_TripsOf K hr) ?_
        rintro _ H1 ⟨ct, Ft, rfl, s1, hct⟩
        replace s1 : Step [] H H1 Ft := s1
        have s1' : Step [] H H1 [] := s1.less (List.nil_sublist _)
        have ht1 : Words H1 t d.told F2 := s1.keepSl RWord.good ht (fun b _ => by simp)
        simp only [go_sem, Nat.reduceEqDiff, Nat.reduceAdd, Nat.reduceMul, Nat.reduceLeDiff, Int.reduceEq, Int.reduceLT, Int.reduceLE, Int.reduceAdd, Int.reduceSub, Int.reduceNeg, Int.reduceMul, Int.reduceToNat, Int.cast_ofNat_Int, Int.natCast_zero, Nat.add_zero, reduceCtorEq, hup, ht1.len]
        refine RU_loop (fun m s => ∃ i : Nat, m = d.told.length - i ∧ i ≤ d.told.length ∧ s.H = H1 ∧ s.env 1 = .box [.bool false, c, .int .i64 d.log.forced, t] ∧ s.env 3 = .val (.c ct) ∧ s.env 4 = bool (tripsOf d.log.recs).isSome ∧ s.env 30 = .val (.c t) ∧ s.env 31 = .val (int d.told.length) ∧ s.env 32 = .val (int i) ∧ toldOk (tripsD d.log.recs).length (d.told.take i) = true) d.told.length
          ⟨0, by simp, by simp, rfl, rfl, rfl, rfl, rfl, rfl, rfl, by simp [toldOk]⟩ ?_
        rintro m s ⟨i, rfl, hi, hH, g1, g3, g6, g30, g31, g32, hok⟩ Q' hN hE hR
        by_cases hlt : (i : Int) < d.told.length
        · obtain ⟨v, hv⟩ := get_lt hlt
          obtain ⟨b1, o1, bs1, cs1, f1, rfl, e1, e2, ⟨rfl, _⟩, _⟩ := ht1.get hv
          obtain ⟨cq, Fq, hq, hcq, _⟩ := slc_take ht1 (k := i) hi
          have hlt' : (i : Int) < d.told.length := hlt
          simp only [go_sem, Nat.reduceEqDiff, Nat.reduceAdd, Nat.reduceMul, Nat.reduceLeDiff, Int.reduceEq, Int.reduceLT, Int.reduceLE, Int.reduceAdd, Int.reduceSub, Int.reduceNeg, Int.reduceMul, Int.reduceToNat, Int.cast_ofNat_Int, Int.natCast_zero, Nat.add_zero, reduceCtorEq, g1, g3, g6, g30, g31, g32, hlt, hH, e1, e2]
          refine Does.test (does_i_WordOk K (show RWord H1 _ v [] from ⟨rfl, rfl⟩)) ?_
          cases hw : wordOk v with
          | false =>
            simp only [go_sem, Nat.reduceEqDiff, Nat.reduceAdd, Nat.reduceMul, Nat.reduceLeDiff, Int.reduceEq, Int.reduceLT, Int.reduceLE, Int.reduceAdd, Int.reduceSub, Int.reduceNeg, Int.reduceMul, Int.reduceToNat, Int.cast_ofNat_Int, Int.natCast_zero, Nat.add_zero, reduceCtorEq, g1, g3, g6, g30, g31, g32, hlt, hlt', hH, e1, e2, hq, hct.len, hw]
            refine hR _ ?_
            exact hQ _ _ (Ends.ret rfl ⟨by simp [tupOf, desk_bad (told_bad hv (by simp [hw]))], by simp only [hH]; exact s1'⟩)
          | true =>
            simp only [go_sem, Nat.reduceEqDiff, Nat.reduceAdd, Nat.reduceMul, Nat.reduceLeDiff, Int.reduceEq, Int.reduceLT, Int.reduceLE, Int.reduceAdd, Int.reduceSub, Int.reduceNeg, Int.reduceMul, Int.reduceToNat, Int.cast_ofNat_Int, Int.natCast_zero, Nat.add_zero, reduceCtorEq]
            refine Does.test (does_i_Word_answer K (show RWord H1 _ v [] from ⟨rfl, rfl⟩)) ?_
            by_cases hk : 4 ≤ v.kind
            · by_cases hn : ((tripsD d.log.recs).length : Int) < v.trip
              · simp only [go_sem, Nat.reduceEqDiff, Nat.reduceAdd, Nat.reduceMul, Nat.reduceLeDiff, Int.reduceEq, Int.reduceLT, Int.reduceLE, Int.reduceAdd, Int.reduceSub, Int.reduceNeg, Int.reduceMul, Int.reduceToNat, Int.cast_ofNat_Int, Int.natCast_zero, Nat.add_zero, reduceCtorEq, g1, g3, g6, g30, g31, g32, hlt, hlt', hH, e1, e2, hq, hct.len, hk, hn]
                refine hR _ ?_
                exact hQ _ _ (Ends.ret rfl ⟨by simp [tupOf, desk_bad (told_bad hv (by simp [show ¬ v.trip ≤ ((tripsD d.log.recs).length : Int) by omega]))], by simp only [hH]; exact s1'⟩)
              · simp only [go_sem, Nat.reduceEqDiff, Nat.reduceAdd, Nat.reduceMul, Nat.reduceLeDiff, Int.reduceEq, Int.reduceLT, Int.reduceLE, Int.reduceAdd, Int.reduceSub, Int.reduceNeg, Int.reduceMul, Int.reduceToNat, Int.cast_ofNat_Int, Int.natCast_zero, Nat.add_zero, reduceCtorEq, g1, g3, g6, g30, g31, g32, hlt, hH, e1, e2, hk, hn, hct.len, hq]
                refine Does.test (does_g_Contains_Word K hcq (show RWord H1 _ v [] from ⟨rfl, rfl⟩)) ?_
                by_cases hm : v ∈ d.told.take i
                · simp only [go_sem, Nat.reduceEqDiff, Nat.reduceAdd, Nat.reduceMul, Nat.reduceLeDiff, Int.reduceEq, Int.reduceLT, Int.reduceLE, Int.reduceAdd, Int.reduceSub, Int.reduceNeg, Int.reduceMul, Int.reduceToNat, Int.cast_ofNat_Int, Int.natCast_zero, Nat.add_zero, reduceCtorEq, g1, g3, g6, g30, g31, g32, hlt, hlt', hH, e1, e2, hq, hct.len, hm]
                  refine hR _ ?_
                  exact hQ _ _ (Ends.ret rfl ⟨by simp [tupOf, desk_bad (told_bad hv (by simp [hm]))], by simp only [hH]; exact s1'⟩)
                · simp only [go_sem, Nat.reduceEqDiff, Nat.reduceAdd, Nat.reduceMul, Nat.reduceLeDiff, Int.reduceEq, Int.reduceLT, Int.reduceLE, Int.reduceAdd, Int.reduceSub, Int.reduceNeg, Int.reduceMul, Int.reduceToNat, Int.cast_ofNat_Int, Int.natCast_zero, Nat.add_zero, reduceCtorEq, g1, g3, g6, g30, g31, g32, hm, hH, wrap_succ (show i ≤ lenTop by omega)]
                  refine hN _ _ (by omega) ⟨i + 1, rfl, by omega, by simp [hH], by simp [upd, g1], by simp [upd, g3], by simp [upd, g6], by simp [upd, g30], by simp [upd, g31], by simp [upd], told_snoc hv hok hw hk (by omega) hm⟩
            · simp only [go_sem, Nat.reduceEqDiff, Nat.reduceAdd, Nat.reduceMul, Nat.reduceLeDiff, Int.reduceEq, Int.reduceLT, Int.reduceLE, Int.reduceAdd, Int.reduceSub, Int.reduceNeg, Int.reduceMul, Int.reduceToNat, Int.cast_ofNat_Int, Int.natCast_zero, Nat.add_zero, reduceCtorEq, g1, g3, g6, g30, g31, g32, hlt, hlt', hH, e1, e2, hq, hct.len, hk]
              refine hR _ ?_
              exact hQ _ _ (Ends.ret rfl ⟨by simp [tupOf, desk_bad (told_bad hv (by simp [hk]))], by simp only [hH]; exact s1'⟩)
        · simp only [go_sem, Nat.reduceEqDiff, Nat.reduceAdd, Nat.reduceMul, Nat.reduceLeDiff, Int.reduceEq, Int.reduceLT, Int.reduceLE, Int.reduceAdd, Int.reduceSub, Int.reduceNeg, Int.reduceMul, Int.reduceToNat, Int.cast_ofNat_Int, Int.natCast_zero, Nat.add_zero, reduceCtorEq, g1, g3, g6, g30, g31, g32, hlt]
          refine hE _ _ ?_
          simp only [go_sem, Nat.reduceEqDiff, Nat.reduceAdd, Nat.reduceMul, Nat.reduceLeDiff, Int.reduceEq, Int.reduceLT, Int.reduceLE, Int.reduceAdd, Int.reduceSub, Int.reduceNeg, Int.reduceMul, Int.reduceToNat, Int.cast_ofNat_Int, Int.natCast_zero, Nat.add_zero, reduceCtorEq, g6, hH]
          rw [List.take_of_length_le (by omega)] at hok
          exact hQ _ _ (Ends.ret rfl ⟨by simp [tupOf, deskOk, hlok, hok, hz, toldOk], s1'⟩)
      · have hg : (0 : Int) < d.told.length := by have := List.length_pos_iff.2 hz; omega
        simp only [go_sem, Nat.reduceEqDiff, Nat.reduceAdd, Nat.reduceMul, Nat.reduceLeDiff, Int.reduceEq, Int.reduceLT, Int.reduceLE, Int.reduceAdd, Int.reduceSub, Int.reduceNeg, Int.reduceMul, Int.reduceToNat, Int.cast_ofNat_Int, Int.natCast_zero, Nat.add_zero, reduceCtorEq, hup, ht.len, hg]
        exact hQ _ _ (Ends.ret rfl ⟨by simp [tupOf, deskOk, hup, hz], Step.refl H⟩)
    | true =>
      simp only [go_sem, Nat.reduceEqDiff, Nat.reduceAdd, Nat.reduceMul, Nat.reduceLeDiff, Int.reduceEq, Int.reduceLT, Int.reduceLE, Int.reduceAdd, Int.reduceSub, Int.reduceNeg, Int.reduceMul, Int.reduceToNat, Int.cast_ofNat_Int, Int.natCast_zero, Nat.add_zero, reduceCtorEq, hup]
      refine Does.call (does_i_TripsOf K hr) ?_
      rintro _ H1 ⟨ct, Ft, rfl, s1, hct⟩
      replace s1 : Step [] H H1 Ft := s1
      have s1' : Step [] H H1 [] := s1.less (List.nil_sublist _)
      have ht1 : Words H1 t d.told F2 := s1.keepSl RWord.good ht (fun b _ => by simp)
      simp only [go_sem, Nat.reduceEqDiff, Nat.reduceAdd, Nat.reduceMul, Nat.reduceLeDiff, Int.reduceEq, Int.reduceLT, Int.reduceLE, Int.reduceAdd, Int.reduceSub, Int.reduceNeg, Int.reduceMul, Int.reduceToNat, Int.cast_ofNat_Int, Int.natCast_zero, Nat.add_zero, reduceCtorEq, hup, ht1.len]
      refine RU_loop (fun m s => ∃ i : Nat, m = d.told.length - i ∧ i ≤ d.told.length ∧ s.H = H1 ∧ s.env 1 = .box [.bool true, c, .int .i64 d.log.forced, t] ∧ s.env 3 = .val (.c ct) ∧ s.env 4 = bool (tripsOf d.log.recs).isSome ∧ s.env 30 = .val (.c t) ∧ s.env 31 = .val (int d.told.length) ∧ s.env 32 = .val (int i) ∧ toldOk (tripsD d.log.recs).length (d.told.take i) = true) d.told.length
        ⟨0, by simp, by simp, rfl, rfl, rfl, rfl, rfl, rfl, rfl, by simp [toldOk]⟩ ?_
      rintro m s ⟨i, rfl, hi, hH, g1, g3, g6, g30, g31, g32, hok⟩ Q' hN hE hR
      by_cases hlt : (i : Int) < d.told.length
      · obtain ⟨v, hv⟩ := get_lt hlt
        obtain ⟨b1, o1, bs1, cs1, f1, rfl, e1, e2, ⟨rfl, _⟩, _⟩ := ht1.get hv
        obtain ⟨cq, Fq, hq, hcq, _⟩ := slc_take ht1 (k := i) hi
        have hlt' : (i : Int) < d.told.length := hlt
        simp only [go_sem, Nat.reduceEqDiff, Nat.reduceAdd, Nat.reduceMul, Nat.reduceLeDiff, Int.reduceEq, Int.reduceLT, Int.reduceLE, Int.reduceAdd, Int.reduceSub, Int.reduceNeg, Int.reduceMul, Int.reduceToNat, Int.cast_ofNat_Int, Int.natCast_zero, Nat.add_zero, reduceCtorEq, g1, g3, g6, g30, g31, g32, hlt, hH, e1, e2]
        refine Does.test (does_i_WordOk K (show RWord H1 _ v [] from ⟨rfl, rfl⟩)) ?_
        cases hw : wordOk v with
        | false =>
          simp only [go_sem, Nat.reduceEqDiff, Nat.reduceAdd, Nat.reduceMul, Nat.reduceLeDiff, Int.reduceEq, Int.reduceLT, Int.reduceLE, Int.reduceAdd, Int.reduceSub, Int.reduceNeg, Int.reduceMul, Int.reduceToNat, Int.cast_ofNat_Int, Int.natCast_zero, Nat.add_zero, reduceCtorEq, g1, g3, g6, g30, g31, g32, hlt, hlt', hH, e1, e2, hq, hct.len, hw]
          refine hR _ ?_
          exact hQ _ _ (Ends.ret rfl ⟨by simp [tupOf, desk_bad (told_bad hv (by simp [hw]))], by simp only [hH]; exact s1'⟩)
        | true =>
          simp only [go_sem, Nat.reduceEqDiff, Nat.reduceAdd, Nat.reduceMul, Nat.reduceLeDiff, Int.reduceEq, Int.reduceLT, Int.reduceLE, Int.reduceAdd, Int.reduceSub, Int.reduceNeg, Int.reduceMul, Int.reduceToNat, Int.cast_ofNat_Int, Int.natCast_zero, Nat.add_zero, reduceCtorEq]
          refine Does.test (does_i_Word_answer K (show RWord H1 _ v [] from ⟨rfl, rfl⟩)) ?_
          by_cases hk : 4 ≤ v.kind
          · by_cases hn : ((tripsD d.log.recs).length : Int) < v.trip
            · simp only [go_sem, Nat.reduceEqDiff, Nat.reduceAdd, Nat.reduceMul, Nat.reduceLeDiff, Int.reduceEq, Int.reduceLT, Int.reduceLE, Int.reduceAdd, Int.reduceSub, Int.reduceNeg, Int.reduceMul, Int.reduceToNat, Int.cast_ofNat_Int, Int.natCast_zero, Nat.add_zero, reduceCtorEq, g1, g3, g6, g30, g31, g32, hlt, hlt', hH, e1, e2, hq, hct.len, hk, hn]
              refine hR _ ?_
              exact hQ _ _ (Ends.ret rfl ⟨by simp [tupOf, desk_bad (told_bad hv (by simp [show ¬ v.trip ≤ ((tripsD d.log.recs).length : Int) by omega]))], by simp only [hH]; exact s1'⟩)
            · simp only [go_sem, Nat.reduceEqDiff, Nat.reduceAdd, Nat.reduceMul, Nat.reduceLeDiff, Int.reduceEq, Int.reduceLT, Int.reduceLE, Int.reduceAdd, Int.reduceSub, Int.reduceNeg, Int.reduceMul, Int.reduceToNat, Int.cast_ofNat_Int, Int.natCast_zero, Nat.add_zero, reduceCtorEq, g1, g3, g6, g30, g31, g32, hlt, hH, e1, e2, hk, hn, hct.len, hq]
              refine Does.test (does_g_Contains_Word K hcq (show RWord H1 _ v [] from ⟨rfl, rfl⟩)) ?_
              by_cases hm : v ∈ d.told.take i
              · simp only [go_sem, Nat.reduceEqDiff, Nat.reduceAdd, Nat.reduceMul, Nat.reduceLeDiff, Int.reduceEq, Int.reduceLT, Int.reduceLE, Int.reduceAdd, Int.reduceSub, Int.reduceNeg, Int.reduceMul, Int.reduceToNat, Int.cast_ofNat_Int, Int.natCast_zero, Nat.add_zero, reduceCtorEq, g1, g3, g6, g30, g31, g32, hlt, hlt', hH, e1, e2, hq, hct.len, hm]
                refine hR _ ?_
                exact hQ _ _ (Ends.ret rfl ⟨by simp [tupOf, desk_bad (told_bad hv (by simp [hm]))], by simp only [hH]; exact s1'⟩)
              · simp only [go_sem, Nat.reduceEqDiff, Nat.reduceAdd, Nat.reduceMul, Nat.reduceLeDiff, Int.reduceEq, Int.reduceLT, Int.reduceLE, Int.reduceAdd, Int.reduceSub, Int.reduceNeg, Int.reduceMul, Int.reduceToNat, Int.cast_ofNat_Int, Int.natCast_zero, Nat.add_zero, reduceCtorEq, g1, g3, g6, g30, g31, g32, hm, hH, wrap_succ (show i ≤ lenTop by omega)]
                refine hN _ _ (by omega) ⟨i + 1, rfl, by omega, by simp [hH], by simp [upd, g1], by simp [upd, g3], by simp [upd, g6], by simp [upd, g30], by simp [upd, g31], by simp [upd], told_snoc hv hok hw hk (by omega) hm⟩
          · simp only [go_sem, Nat.reduceEqDiff, Nat.reduceAdd, Nat.reduceMul, Nat.reduceLeDiff, Int.reduceEq, Int.reduceLT, Int.reduceLE, Int.reduceAdd, Int.reduceSub, Int.reduceNeg, Int.reduceMul, Int.reduceToNat, Int.cast_ofNat_Int, Int.natCast_zero, Nat.add_zero, reduceCtorEq, g1, g3, g6, g30, g31, g32, hlt, hlt', hH, e1, e2, hq, hct.len, hk]
            refine hR _ ?_
            exact hQ _ _ (Ends.ret rfl ⟨by simp [tupOf, desk_bad (told_bad hv (by simp [hk]))], by simp only [hH]; exact s1'⟩)
      · simp only [go_sem, Nat.reduceEqDiff, Nat.reduceAdd, Nat.reduceMul, Nat.reduceLeDiff, Int.reduceEq, Int.reduceLT, Int.reduceLE, Int.reduceAdd, Int.reduceSub, Int.reduceNeg, Int.reduceMul, Int.reduceToNat, Int.cast_ofNat_Int, Int.natCast_zero, Nat.add_zero, reduceCtorEq, g1, g3, g6, g30, g31, g32, hlt]
        refine hE _ _ ?_
        simp only [go_sem, Nat.reduceEqDiff, Nat.reduceAdd, Nat.reduceMul, Nat.reduceLeDiff, Int.reduceEq, Int.reduceLT, Int.reduceLE, Int.reduceAdd, Int.reduceSub, Int.reduceNeg, Int.reduceMul, Int.reduceToNat, Int.cast_ofNat_Int, Int.natCast_zero, Nat.add_zero, reduceCtorEq, g6, hH]
        rw [List.take_of_length_le (by omega)] at hok
        exact hQ _ _ (Ends.ret rfl ⟨by simp [tupOf, deskOk, hlok, hok, hup], s1'⟩)
end Go.AX

/- Desks that are ok: the reference. Condition: the data lie in memory. -/
namespace Go.AX
variable {P : Program} {I : Ids}
set_option maxHeartbeats 2000000 in
theorem does_s_DeskOk (K : Codes P I) {H : Heap} {cs : List C} {d : Desk} {F : List Nat} (hd : RDesk H cs d F) : Does P I.s_DeskOk [.agg cs] H fun v H' => v = bool (deskOk d) ∧ Step [] H H' [] := by
  obtain ⟨c, t, F1, F2, rfl, rfl, hr, ht⟩ := hd
  have htop := ht.top
  refine K.does K.s_DeskOk rfl fun Q hQ => ?_
  simp only [go_sem, Nat.reduceEqDiff, Nat.reduceAdd, Nat.reduceMul, Nat.reduceLeDiff, Int.reduceEq, Int.reduceLT, Int.reduceLE, Int.reduceAdd, Int.reduceSub, Int.reduceNeg, Int.reduceMul, Int.reduceToNat, Int.cast_ofNat_Int, Int.natCast_zero, Nat.add_zero, reduceCtorEq, L_s_DeskOk]
  refine Does.call (does_s_l12Of K hr) ?_
  rintro _ H1 ⟨ct, Ft, rfl, s1, hct⟩
  replace s1 : Step [] H H1 Ft := s1
  have s1' : Step [] H H1 [] := s1.less (List.nil_sublist _)
  have ht1 : Words H1 t d.told F2 := s1.keepSl RWord.good ht (fun b _ => by simp)
  have hr1 : Recs H1 c d.log.recs F1 := s1.keepSl RRec.good hr (fun b _ => by simp)
  simp only [go_sem, Nat.reduceEqDiff, Nat.reduceAdd, Nat.reduceMul, Nat.reduceLeDiff, Int.reduceEq, Int.reduceLT, Int.reduceLE, Int.reduceAdd, Int.reduceSub, Int.reduceNeg, Int.reduceMul, Int.reduceToNat, Int.cast_ofNat_Int, Int.natCast_zero, Nat.add_zero, reduceCtorEq]
  refine Does.test (does_s_LogOk K (show RLog H1 [c, .int .i64 d.log.forced] d.log F1 from ⟨c, rfl, hr1⟩)) ?_
  cases hlok : logOk d.log with
  | false =>
    simp only [go_sem, Nat.reduceEqDiff, Nat.reduceAdd, Nat.reduceMul, Nat.reduceLeDiff, Int.reduceEq, Int.reduceLT, Int.reduceLE, Int.reduceAdd, Int.reduceSub, Int.reduceNeg, Int.reduceMul, Int.reduceToNat, Int.cast_ofNat_Int, Int.natCast_zero, Nat.add_zero, reduceCtorEq]
    exact hQ _ _ (Ends.ret rfl ⟨by simp [tupOf, deskOk, hlok], s1'⟩)
  | true =>
    cases hsm : (tripsOf d.log.recs).isSome with
    | false =>
      simp only [go_sem, Nat.reduceEqDiff, Nat.reduceAdd, Nat.reduceMul, Nat.reduceLeDiff, Int.reduceEq, Int.reduceLT, Int.reduceLE, Int.reduceAdd, Int.reduceSub, Int.reduceNeg, Int.reduceMul, Int.reduceToNat, Int.cast_ofNat_Int, Int.natCast_zero, Nat.add_zero, reduceCtorEq]
      exact hQ _ _ (Ends.ret rfl ⟨by simp [tupOf, deskOk, hsm], s1'⟩)
    | true =>
      simp only [go_sem, Nat.reduceEqDiff, Nat.reduceAdd, Nat.reduceMul, Nat.reduceLeDiff, Int.reduceEq, Int.reduceLT, Int.reduceLE, Int.reduceAdd, Int.reduceSub, Int.reduceNeg, Int.reduceMul, Int.reduceToNat, Int.cast_ofNat_Int, Int.natCast_zero, Nat.add_zero, reduceCtorEq]
      refine RU_loop (fun m s => ∃ i : Nat, m = d.told.length - i ∧ i ≤ d.told.length ∧ s.H = H1 ∧ s.env 1 = .box [.bool d.up, c, .int .i64 d.log.forced, t] ∧ s.env 3 = .val (.c ct) ∧ s.env 5 = .val (int i) ∧ toldOk (tripsD d.log.recs).length (d.told.take i) = true) d.told.length
        ⟨0, by simp, by simp, rfl, rfl, rfl, rfl, by simp [toldOk]⟩ ?_
      rintro m s ⟨i, rfl, hi, hH, g1, g3, g5, hok⟩ Q' hN hE hR
      by_cases hlt : (i : Int) < d.told.length
      · obtain ⟨v, hv⟩ := get_lt hlt
        obtain ⟨b1, o1, bs1, cs1, f1, rfl, e1, e2, ⟨rfl, _⟩, _⟩ := ht1.get hv
        obtain ⟨cq, Fq, hq, hcq, _⟩ := slc_take ht1 (k := i) hi
        simp only [go_sem, Nat.reduceEqDiff, Nat.reduceAdd, Nat.reduceMul, Nat.reduceLeDiff, Int.reduceEq, Int.reduceLT, Int.reduceLE, Int.reduceAdd, Int.reduceSub, Int.reduceNeg, Int.reduceMul, Int.reduceToNat, Int.cast_ofNat_Int, Int.natCast_zero, Nat.add_zero, reduceCtorEq, g1, g3, g5, ht1.len, hlt, hH, e1, e2]
        refine Does.test (does_s_WordOk K (show RWord H1 _ v [] from ⟨rfl, rfl⟩)) ?_
        cases hw : wordOk v with
        | false =>
          simp only [go_sem, Nat.reduceEqDiff, Nat.reduceAdd, Nat.reduceMul, Nat.reduceLeDiff, Int.reduceEq, Int.reduceLT, Int.reduceLE, Int.reduceAdd, Int.reduceSub, Int.reduceNeg, Int.reduceMul, Int.reduceToNat, Int.cast_ofNat_Int, Int.natCast_zero, Nat.add_zero, reduceCtorEq, g1, g3, g5, hlt, hH, e1, e2, hq, hct.len, ht1.len, hw]
          refine hR _ ?_
          exact hQ _ _ (Ends.ret rfl ⟨by simp [tupOf, desk_bad (told_bad hv (by simp [hw]))], by simp only [hH]; exact s1'⟩)
        | true =>
          by_cases hk : v.kind < 4
          · simp only [go_sem, Nat.reduceEqDiff, Nat.reduceAdd, Nat.reduceMul, Nat.reduceLeDiff, Int.reduceEq, Int.reduceLT, Int.reduceLE, Int.reduceAdd, Int.reduceSub, Int.reduceNeg, Int.reduceMul, Int.reduceToNat, Int.cast_ofNat_Int, Int.natCast_zero, Nat.add_zero, reduceCtorEq, g1, g3, g5, hlt, hH, e1, e2, hq, hct.len, ht1.len, hk]
            refine hR _ ?_
            exact hQ _ _ (Ends.ret rfl ⟨by simp [tupOf, desk_bad (told_bad hv (by simp [show ¬ 4 ≤ v.kind by omega]))], by simp only [hH]; exact s1'⟩)
          · by_cases hn : ((tripsD d.log.recs).length : Int) < v.trip
            · simp only [go_sem, Nat.reduceEqDiff, Nat.reduceAdd, Nat.reduceMul, Nat.reduceLeDiff, Int.reduceEq, Int.reduceLT, Int.reduceLE, Int.reduceAdd, Int.reduceSub, Int.reduceNeg, Int.reduceMul, Int.reduceToNat, Int.cast_ofNat_Int, Int.natCast_zero, Nat.add_zero, reduceCtorEq, g1, g3, g5, hlt, hH, e1, e2, hq, hct.len, ht1.len, hk, hn]
              refine hR _ ?_
              exact hQ _ _ (Ends.ret rfl ⟨by simp [tupOf, desk_bad (told_bad hv (by simp [show ¬ v.trip ≤ ((tripsD d.log.recs).length : Int) by omega]))], by simp only [hH]; exact s1'⟩)
            · simp only [go_sem, Nat.reduceEqDiff, Nat.reduceAdd, Nat.reduceMul, Nat.reduceLeDiff, Int.reduceEq, Int.reduceLT, Int.reduceLE, Int.reduceAdd, Int.reduceSub, Int.reduceNeg, Int.reduceMul, Int.reduceToNat, Int.cast_ofNat_Int, Int.natCast_zero, Nat.add_zero, reduceCtorEq, g1, g3, g5, hlt, hH, e1, e2, hk, hn, hct.len, ht1.len, hq]
              refine Does.test (does_s_l13Told K hcq (show RWord H1 _ v [] from ⟨rfl, rfl⟩)) ?_
              by_cases hm : v ∈ d.told.take i
              · simp only [go_sem, Nat.reduceEqDiff, Nat.reduceAdd, Nat.reduceMul, Nat.reduceLeDiff, Int.reduceEq, Int.reduceLT, Int.reduceLE, Int.reduceAdd, Int.reduceSub, Int.reduceNeg, Int.reduceMul, Int.reduceToNat, Int.cast_ofNat_Int, Int.natCast_zero, Nat.add_zero, reduceCtorEq, g1, g3, g5, hlt, hH, e1, e2, hq, hct.len, ht1.len, hm]
                refine hR _ ?_
                exact hQ _ _ (Ends.ret rfl ⟨by simp [tupOf, desk_bad (told_bad hv (by simp [hm]))], by simp only [hH]; exact s1'⟩)
              · simp only [go_sem, Nat.reduceEqDiff, Nat.reduceAdd, Nat.reduceMul, Nat.reduceLeDiff, Int.reduceEq, Int.reduceLT, Int.reduceLE, Int.reduceAdd, Int.reduceSub, Int.reduceNeg, Int.reduceMul, Int.reduceToNat, Int.cast_ofNat_Int, Int.natCast_zero, Nat.add_zero, reduceCtorEq, g1, g3, g5, hm, hH, wrap_succ (show i ≤ lenTop by omega)]
                refine hN _ _ (by omega) ⟨i + 1, rfl, by omega, by simp [hH], by simp [upd, g1], by simp [upd, g3], by simp [upd], told_snoc hv hok hw (by omega) (by omega) hm⟩
      · simp only [go_sem, Nat.reduceEqDiff, Nat.reduceAdd, Nat.reduceMul, Nat.reduceLeDiff, Int.reduceEq, Int.reduceLT, Int.reduceLE, Int.reduceAdd, Int.reduceSub, Int.reduceNeg, Int.reduceMul, Int.reduceToNat, Int.cast_ofNat_Int, Int.natCast_zero, Nat.add_zero, reduceCtorEq, g1, g3, g5, ht1.len, hlt]
        refine hE _ _ ?_
        rw [List.take_of_length_le (by omega)] at hok
        cases hup : d.up with
        | true =>
          simp only [go_sem, Nat.reduceEqDiff, Nat.reduceAdd, Nat.reduceMul, Nat.reduceLeDiff, Int.reduceEq, Int.reduceLT, Int.reduceLE, Int.reduceAdd, Int.reduceSub, Int.reduceNeg, Int.reduceMul, Int.reduceToNat, Int.cast_ofNat_Int, Int.natCast_zero, Nat.add_zero, reduceCtorEq, g1, hH, hup]
          exact hQ _ _ (Ends.ret rfl ⟨by simp [tupOf, deskOk, hlok, hok, hsm, hup], s1'⟩)
        | false =>
          by_cases hz : d.told = []
          · have hg : (d.told.length : Int) = 0 := by rw [hz]; simp
            simp only [go_sem, Nat.reduceEqDiff, Nat.reduceAdd, Nat.reduceMul, Nat.reduceLeDiff, Int.reduceEq, Int.reduceLT, Int.reduceLE, Int.reduceAdd, Int.reduceSub, Int.reduceNeg, Int.reduceMul, Int.reduceToNat, Int.cast_ofNat_Int, Int.natCast_zero, Nat.add_zero, reduceCtorEq, g1, hH, hup, ht1.len, hg]
            exact hQ _ _ (Ends.ret rfl ⟨by simp [tupOf, deskOk, hlok, hsm, hup, hz, toldOk], s1'⟩)
          · have hg : ¬ (d.told.length : Int) = 0 := fun e => hz (List.length_eq_zero_iff.1 (by omega))
            simp only [go_sem, Nat.reduceEqDiff, Nat.reduceAdd, Nat.reduceMul, Nat.reduceLeDiff, Int.reduceEq, Int.reduceLT, Int.reduceLE, Int.reduceAdd, Int.reduceSub, Int.reduceNeg, Int.reduceMul, Int.reduceToNat, Int.cast_ofNat_Int, Int.natCast_zero, Nat.add_zero, reduceCtorEq, g1, hH, hup, ht1.len, hg]
            exact hQ _ _ (Ends.ret rfl ⟨by simp [tupOf, deskOk, hup, hz], s1'⟩)
end Go.AX

/- Worlds that are ok: the program and the reference do the same. Condition: the data lie in memory. -/
namespace Go.AX
variable {P : Program} {I : Ids}
def housesOk (l : List House) : Bool := l.zipIdx.all fun p => houseOk p.1 && decide (p.1.id = ((p.2 + 1 : Nat) : Int))
def worldOk (w : Wld) : Bool := deskOk w.desk && (decide (w.houses.length = 3) && (decide (w.nets.length ≤ 14) && (housesOk w.houses && w.nets.all wordOk)))
theorem housesOk_iff {l : List House} : housesOk l = true ↔ ∀ (i : Nat) (h : House), l[i]? = some h → houseOk h = true ∧ h.id = ((i + 1 : Nat) : Int) := by
  simp only [housesOk, List.all_eq_true, Bool.and_eq_true, decide_eq_true_eq]
  exact ⟨fun g i h hi => g (h, i) (List.mem_zipIdx_iff_getElem?.2 hi), fun g p hp => g p.2 p.1 (List.mem_zipIdx_iff_getElem?.1 hp)⟩
theorem housesOk_bad {l : List House} {i : Nat} {h : House} (hi : l[i]? = some h) (hb : ¬ (houseOk h = true ∧ h.id = ((i + 1 : Nat) : Int))) : housesOk l = false := by
  cases hc : housesOk l with
  | false => rfl
  | true => exact absurd (housesOk_iff.1 hc i h hi) hb
theorem RWld.parts {H : Heap} {cs : List C} {w : Wld} {F : List Nat} (h : RWld H cs w F) : ∃ y0 y1 y2 y3 c n F1 F2 F3, cs = [y0, y1, y2, y3, c, n] ∧ F = F1 ++ (F2 ++ F3) ∧ RDesk H [y0, y1, y2, y3] w.desk F1 ∧ Houses H c w.houses F2 ∧ Words H n w.nets F3 := by
  obtain ⟨ds, c, n, F1, F2, F3, rfl, rfl, hd, hh, hn⟩ := h
  obtain ⟨y0, y1, y2, y3, rfl⟩ := len4 hd.cells
  exact ⟨y0, y1, y2, y3, c, n, F1, F2, F3, rfl, rfl, hd, hh, hn⟩
theorem RWld.of {H : Heap} {y0 y1 y2 y3 c n : C} {w : Wld} {F1 F2 F3 : List Nat} (hd : RDesk H [y0, y1, y2, y3] w.desk F1) (hh : Houses H c w.houses F2) (hn : Words H n w.nets F3) : RWld H [y0, y1, y2, y3, c, n] w (F1 ++ (F2 ++ F3)) :=
  ⟨[y0, y1, y2, y3], c, n, F1, F2, F3, rfl, rfl, hd, hh, hn⟩
theorem does_i_WorldOk_1 (K : Codes P I) {H : Heap} {cs : List C} {w : Word} {F : List Nat} (h : RWord H cs w F) : Tests P I.i_WorldOk_1 H (.agg cs) (!wordOk w) := by
  obtain ⟨rfl, rfl⟩ := h
  refine K.does K.i_WorldOk_1 rfl fun Q hQ => ?_
  simp only [go_sem, Nat.reduceEqDiff, Nat.reduceAdd, Nat.reduceMul, Nat.reduceLeDiff, Int.reduceEq, Int.reduceLT, Int.reduceLE, Int.reduceAdd, Int.reduceSub, Int.reduceNeg, Int.reduceMul, Int.reduceToNat, Int.cast_ofNat_Int, Int.natCast_zero, Nat.add_zero, reduceCtorEq, L_i_WorldOk_1]
  refine Does.test (does_i_WordOk K (show RWord H _ w [] from ⟨rfl, rfl⟩)) ?_
  simp only [go_sem, Nat.reduceEqDiff, Nat.reduceAdd, Nat.reduceMul, Nat.reduceLeDiff, Int.reduceEq, Int.reduceLT, Int.reduceLE, Int.reduceAdd, Int.reduceSub, Int.reduceNeg, Int.reduceMul, Int.reduceToNat, Int.cast_ofNat_Int, Int.natCast_zero, Nat.add_zero, reduceCtorEq]
  exact hQ _ _ (Ends.ret rfl ⟨rfl, rfl⟩)
set_option maxHeartbeats 2000000 in
theorem does_i_WorldOk (K : Codes P I) {H : Heap} {cs : List C} {w : Wld} {F : List Nat} (hw : RWld H cs w F) : Does P I.i_WorldOk [.agg cs] H fun v H' => v = bool (worldOk w) ∧ Step [] H H' [] := by
  obtain ⟨y0, y1, y2, y3, c, n, F1, F2, F3, rfl, rfl, hd, hh, hn⟩ := hw.parts
  refine K.does K.i_WorldOk rfl fun Q hQ => ?_
  simp only [go_sem, Nat.reduceEqDiff, Nat.reduceAdd, Nat.reduceMul, Nat.reduceLeDiff, Int.reduceEq, Int.reduceLT, Int.reduceLE, Int.reduceAdd, Int.reduceSub, Int.reduceNeg, Int.reduceMul, Int.reduceToNat, Int.cast_ofNat_Int, Int.natCast_zero, Nat.add_zero, reduceCtorEq, L_i_WorldOk]
  refine Does.call (does_i_DeskOk K hd) ?_
  rintro _ H1 ⟨rfl, s1⟩
  replace s1 : Step [] H H1 [] := s1
  have hh1 : Houses H1 c w.houses F2 := s1.keepSl RHouse.good hh (fun b _ => by simp)
  have hn1 : Words H1 n w.nets F3 := s1.keepSl RWord.good hn (fun b _ => by simp)
  cases hok : deskOk w.desk with
  | false =>
    simp only [go_sem, Nat.reduceEqDiff, Nat.reduceAdd, Nat.reduceMul, Nat.reduceLeDiff, Int.reduceEq, Int.reduceLT, Int.reduceLE, Int.reduceAdd, Int.reduceSub, Int.reduceNeg, Int.reduceMul, Int.reduceToNat, Int.cast_ofNat_Int, Int.natCast_zero, Nat.add_zero, reduceCtorEq]
    exact hQ _ _ (Ends.ret rfl ⟨by simp [tupOf, worldOk, hok], s1⟩)
  | true =>
    by_cases hl : (w.houses.length : Int) = 3
    · by_cases hm : (14 : Int) < w.nets.length
      · have hm' : ¬ w.nets.length ≤ 14 := by omega
        simp only [go_sem, Nat.reduceEqDiff, Nat.reduceAdd, Nat.reduceMul, Nat.reduceLeDiff, Int.reduceEq, Int.reduceLT, Int.reduceLE, Int.reduceAdd, Int.reduceSub, Int.reduceNeg, Int.reduceMul, Int.reduceToNat, Int.cast_ofNat_Int, Int.natCast_zero, Nat.add_zero, reduceCtorEq, hh1.len, hn1.len, hl, hm]
        exact hQ _ _ (Ends.ret rfl ⟨by simp [tupOf, worldOk, hm'], s1⟩)
      · have hl3 : w.houses.length = 3 := by omega
        have hm' : w.nets.length ≤ 14 := by omega
        simp only [go_sem, Nat.reduceEqDiff, Nat.reduceAdd, Nat.reduceMul, Nat.reduceLeDiff, Int.reduceEq, Int.reduceLT, Int.reduceLE, Int.reduceAdd, Int.reduceSub, Int.reduceNeg, Int.reduceMul, Int.reduceToNat, Int.cast_ofNat_Int, Int.natCast_zero, Nat.add_zero, reduceCtorEq, hh1.len, hn1.len, hl, hm]
        refine RU_loop (fun m s => ∃ i : Nat, m = 3 - i ∧ i ≤ 3 ∧ s.env 1 = .box [y0, y1, y2, y3, c, n] ∧ s.env 22 = .val (.c c) ∧ s.env 23 = .val (int 3) ∧ s.env 24 = .val (int i) ∧ Step [] H s.H [] ∧ Houses s.H c w.houses F2 ∧ Words s.H n w.nets F3 ∧ ∀ j, j < i → ∀ h, w.houses[j]? = some h → houseOk h = true ∧ h.id = ((j + 1 : Nat) : Int)) 3
          ⟨0, by simp, by simp, rfl, rfl, rfl, rfl, s1, hh1, hn1, fun j hj => absurd hj (by simp)⟩ ?_
        rintro m s ⟨i, rfl, hi, g1, g22, g23, g24, st, hh2, hn2, hall⟩ Q' hN hE hR
        by_cases hlt : (i : Int) < 3
        · obtain ⟨h, hx⟩ : ∃ h, w.houses[i]? = some h := get_lt (by omega)
          obtain ⟨b1, o1, bs1, cs1, f1, rfl, e1, e2, ⟨cc, rfl, hrr⟩, _⟩ := hh2.get hx
          have hlt' : (i : Int) < w.houses.length := by omega
          have hw := wrap_succ (show i ≤ lenTop by simp [lenTop]; omega)
          simp only [go_sem, Nat.reduceEqDiff, Nat.reduceAdd, Nat.reduceMul, Nat.reduceLeDiff, Int.reduceEq, Int.reduceLT, Int.reduceLE, Int.reduceAdd, Int.reduceSub, Int.reduceNeg, Int.reduceMul, Int.reduceToNat, Int.cast_ofNat_Int, Int.natCast_zero, Nat.add_zero, reduceCtorEq, g1, g22, g23, g24, hlt, hlt', e1, e2, hw]
          refine Does.call (does_i_HouseOk K (show RHouse s.H _ h f1 from ⟨cc, rfl, hrr⟩)) ?_
          rintro _ H2 ⟨rfl, s2⟩
          replace s2 : Step [] s.H H2 [] := s2
          have st2 : Step [] H H2 [] := st.with s2
          cases hk : houseOk h with
          | false =>
            have hb := housesOk_bad hx (by simp [hk])
            simp only [go_sem, Nat.reduceEqDiff, Nat.reduceAdd, Nat.reduceMul, Nat.reduceLeDiff, Int.reduceEq, Int.reduceLT, Int.reduceLE, Int.reduceAdd, Int.reduceSub, Int.reduceNeg, Int.reduceMul, Int.reduceToNat, Int.cast_ofNat_Int, Int.natCast_zero, Nat.add_zero, reduceCtorEq, g1]
            exact hR _ (hQ _ _ (Ends.ret rfl ⟨by simp [tupOf, worldOk, hb], st2⟩))
          | true =>
            by_cases hid : h.id = ((i + 1 : Nat) : Int)
            · simp only [go_sem, Nat.reduceEqDiff, Nat.reduceAdd, Nat.reduceMul, Nat.reduceLeDiff, Int.reduceEq, Int.reduceLT, Int.reduceLE, Int.reduceAdd, Int.reduceSub, Int.reduceNeg, Int.reduceMul, Int.reduceToNat, Int.cast_ofNat_Int, Int.natCast_zero, Nat.add_zero, reduceCtorEq, g1, g22, g23, g24, hw, hid]
              refine hN _ _ (by omega) ⟨i + 1, rfl, by omega, by simp [upd, g1], by simp [upd, g22], by simp [upd, g23], by simp [upd], st2, s2.keepSl RHouse.good hh2 (fun b _ => by simp), s2.keepSl RWord.good hn2 (fun b _ => by simp), fun j hj x hxj => ?_⟩
              by_cases e : j = i
              · subst e; rw [hx] at hxj; cases hxj; exact ⟨hk, hid⟩
              · exact hall j (by omega) x hxj
            · have hb := housesOk_bad hx (fun q => hid q.2)
              simp only [go_sem, Nat.reduceEqDiff, Nat.reduceAdd, Nat.reduceMul, Nat.reduceLeDiff, Int.reduceEq, Int.reduceLT, Int.reduceLE, Int.reduceAdd, Int.reduceSub, Int.reduceNeg, Int.reduceMul, Int.reduceToNat, Int.cast_ofNat_Int, Int.natCast_zero, Nat.add_zero, reduceCtorEq, g1, g22, g23, g24, hw, hid]
              exact hR _ (hQ _ _ (Ends.ret rfl ⟨by simp [tupOf, worldOk, hb], st2⟩))
        · have hho : housesOk w.houses = true := housesOk_iff.2 fun j x hx => hall j (by have := (List.getElem?_eq_some_iff.1 hx).1; omega) x hx
          simp only [go_sem, Nat.reduceEqDiff, Nat.reduceAdd, Nat.reduceMul, Nat.reduceLeDiff, Int.reduceEq, Int.reduceLT, Int.reduceLE, Int.reduceAdd, Int.reduceSub, Int.reduceNeg, Int.reduceMul, Int.reduceToNat, Int.cast_ofNat_Int, Int.natCast_zero, Nat.add_zero, reduceCtorEq, g1, g22, g23, g24, hlt]
          refine hE _ _ ?_
          simp only [go_sem, Nat.reduceEqDiff, Nat.reduceAdd, Nat.reduceMul, Nat.reduceLeDiff, Int.reduceEq, Int.reduceLT, Int.reduceLE, Int.reduceAdd, Int.reduceSub, Int.reduceNeg, Int.reduceMul, Int.reduceToNat, Int.cast_ofNat_Int, Int.natCast_zero, Nat.add_zero, reduceCtorEq, g1]
          refine Does.test (does_g_ContainsFunc_Word K hn2 (fun x => !wordOk x) fun cs x f' _ hr _ => does_i_WorldOk_1 K hr) ?_
          simp only [go_sem, Nat.reduceEqDiff, Nat.reduceAdd, Nat.reduceMul, Nat.reduceLeDiff, Int.reduceEq, Int.reduceLT, Int.reduceLE, Int.reduceAdd, Int.reduceSub, Int.reduceNeg, Int.reduceMul, Int.reduceToNat, Int.cast_ofNat_Int, Int.natCast_zero, Nat.add_zero, reduceCtorEq, any_not']
          exact hQ _ _ (Ends.ret rfl ⟨by simp [tupOf, worldOk, hok, hl3, hm', hho], st⟩)
    · have hl3 : ¬ w.houses.length = 3 := by omega
      simp only [go_sem, Nat.reduceEqDiff, Nat.reduceAdd, Nat.reduceMul, Nat.reduceLeDiff, Int.reduceEq, Int.reduceLT, Int.reduceLE, Int.reduceAdd, Int.reduceSub, Int.reduceNeg, Int.reduceMul, Int.reduceToNat, Int.cast_ofNat_Int, Int.natCast_zero, Nat.add_zero, reduceCtorEq, hh1.len, hn1.len, hl]
      exact hQ _ _ (Ends.ret rfl ⟨by simp [tupOf, worldOk, hl3], s1⟩)
set_option maxHeartbeats 2000000 in
theorem does_s_WorldOk (K : Codes P I) {H : Heap} {cs : List C} {w : Wld} {F : List Nat} (hw : RWld H cs w F) : Does P I.s_WorldOk [.agg cs] H fun v H' => v = bool (worldOk w) ∧ Step [] H H' [] := by
  obtain ⟨y0, y1, y2, y3, c, n, F1, F2, F3, rfl, rfl, hd, hh, hn⟩ := hw.parts
  refine K.does K.s_WorldOk rfl fun Q hQ => ?_
  simp only [go_sem, Nat.reduceEqDiff, Nat.reduceAdd, Nat.reduceMul, Nat.reduceLeDiff, Int.reduceEq, Int.reduceLT, Int.reduceLE, Int.reduceAdd, Int.reduceSub, Int.reduceNeg, Int.reduceMul, Int.reduceToNat, Int.cast_ofNat_Int, Int.natCast_zero, Nat.add_zero, reduceCtorEq, L_s_WorldOk]
  refine Does.call (does_s_DeskOk K hd) ?_
  rintro _ H1 ⟨rfl, s1⟩
  replace s1 : Step [] H H1 [] := s1
  have hh1 : Houses H1 c w.houses F2 := s1.keepSl RHouse.good hh (fun b _ => by simp)
  have hn1 : Words H1 n w.nets F3 := s1.keepSl RWord.good hn (fun b _ => by simp)
  cases hok : deskOk w.desk with
  | false =>
    simp only [go_sem, Nat.reduceEqDiff, Nat.reduceAdd, Nat.reduceMul, Nat.reduceLeDiff, Int.reduceEq, Int.reduceLT, Int.reduceLE, Int.reduceAdd, Int.reduceSub, Int.reduceNeg, Int.reduceMul, Int.reduceToNat, Int.cast_ofNat_Int, Int.natCast_zero, Nat.add_zero, reduceCtorEq]
    exact hQ _ _ (Ends.ret rfl ⟨by simp [tupOf, worldOk, hok], s1⟩)
  | true =>
    by_cases hl : (w.houses.length : Int) = 3
    · by_cases hm : (14 : Int) < w.nets.length
      · have hm' : ¬ w.nets.length ≤ 14 := by omega
        simp only [go_sem, Nat.reduceEqDiff, Nat.reduceAdd, Nat.reduceMul, Nat.reduceLeDiff, Int.reduceEq, Int.reduceLT, Int.reduceLE, Int.reduceAdd, Int.reduceSub, Int.reduceNeg, Int.reduceMul, Int.reduceToNat, Int.cast_ofNat_Int, Int.natCast_zero, Nat.add_zero, reduceCtorEq, hh1.len, hn1.len, hl, hm]
        exact hQ _ _ (Ends.ret rfl ⟨by simp [tupOf, worldOk, hm'], s1⟩)
      · have hl3 : w.houses.length = 3 := by omega
        have hm' : w.nets.length ≤ 14 := by omega
        simp only [go_sem, Nat.reduceEqDiff, Nat.reduceAdd, Nat.reduceMul, Nat.reduceLeDiff, Int.reduceEq, Int.reduceLT, Int.reduceLE, Int.reduceAdd, Int.reduceSub, Int.reduceNeg, Int.reduceMul, Int.reduceToNat, Int.cast_ofNat_Int, Int.natCast_zero, Nat.add_zero, reduceCtorEq, hh1.len, hn1.len, hl, hm]
        refine RU_loop (fun m s => ∃ i : Nat, m = 3 - i ∧ i ≤ 3 ∧ s.env 1 = .box [y0, y1, y2, y3, c, n] ∧ s.env 3 = .val (int i) ∧ Step [] H s.H [] ∧ Houses s.H c w.houses F2 ∧ Words s.H n w.nets F3 ∧ ∀ j, j < i → ∀ h, w.houses[j]? = some h → houseOk h = true ∧ h.id = ((j + 1 : Nat) : Int)) 3
          ⟨0, by simp, by simp, rfl, rfl, s1, hh1, hn1, fun j hj => absurd hj (by simp)⟩ ?_
        rintro m s ⟨i, rfl, hi, g1, g3, st, hh2, hn2, hall⟩ Q' hN hE hR
        have hln := hh2.len
        by_cases hlt : (i : Int) < 3
        · obtain ⟨h, hx⟩ : ∃ h, w.houses[i]? = some h := get_lt (by omega)
          obtain ⟨b1, o1, bs1, cs1, f1, rfl, e1, e2, ⟨cc, rfl, hrr⟩, _⟩ := hh2.get hx
          have hlt' : (i : Int) < w.houses.length := by omega
          have hw := wrap_succ (show i ≤ lenTop by simp [lenTop]; omega)
          have ld0 := slab_sub0 e2 1 (by simp)
          simp only [slabAt1, slabSkip1] at ld0
          simp only [go_sem, Nat.reduceEqDiff, Nat.reduceAdd, Nat.reduceMul, Nat.reduceLeDiff, Int.reduceEq, Int.reduceLT, Int.reduceLE, Int.reduceAdd, Int.reduceSub, Int.reduceNeg, Int.reduceMul, Int.reduceToNat, Int.cast_ofNat_Int, Int.natCast_zero, Nat.add_zero, reduceCtorEq, g1, g3, hlt, hlt', hln, hl, e1, e2, hw]
          refine Does.call (does_s_HouseOk K (show RHouse s.H _ h f1 from ⟨cc, rfl, hrr⟩)) ?_
          rintro _ H2 ⟨rfl, s2⟩
          replace s2 : Step [] s.H H2 [] := s2
          have st2 : Step [] H H2 [] := st.with s2
          have e1' := live_keep s2 (live_lt e1) (by simp) e1
          cases hk : houseOk h with
          | false =>
            have hb := housesOk_bad hx (by simp [hk])
            simp only [go_sem, Nat.reduceEqDiff, Nat.reduceAdd, Nat.reduceMul, Nat.reduceLeDiff, Int.reduceEq, Int.reduceLT, Int.reduceLE, Int.reduceAdd, Int.reduceSub, Int.reduceNeg, Int.reduceMul, Int.reduceToNat, Int.cast_ofNat_Int, Int.natCast_zero, Nat.add_zero, reduceCtorEq, g1]
            exact hR _ (hQ _ _ (Ends.ret rfl ⟨by simp [tupOf, worldOk, hb], st2⟩))
          | true =>
            by_cases hid : h.id = ((i + 1 : Nat) : Int)
            · simp only [go_sem, Nat.reduceEqDiff, Nat.reduceAdd, Nat.reduceMul, Nat.reduceLeDiff, Int.reduceEq, Int.reduceLT, Int.reduceLE, Int.reduceAdd, Int.reduceSub, Int.reduceNeg, Int.reduceMul, Int.reduceToNat, Int.cast_ofNat_Int, Int.natCast_zero, Nat.add_zero, reduceCtorEq, g1, g3, hlt', hw, hid, e1', ld0]
              refine hN _ _ (by omega) ⟨i + 1, rfl, by omega, by simp [upd, g1], by simp [upd], st2, s2.keepSl RHouse.good hh2 (fun b _ => by simp), s2.keepSl RWord.good hn2 (fun b _ => by simp), fun j hj x hxj => ?_⟩
              by_cases e : j = i
              · subst e; rw [hx] at hxj; cases hxj; exact ⟨hk, hid⟩
              · exact hall j (by omega) x hxj
            · have hb := housesOk_bad hx (fun q => hid q.2)
              simp only [go_sem, Nat.reduceEqDiff, Nat.reduceAdd, Nat.reduceMul, Nat.reduceLeDiff, Int.reduceEq, Int.reduceLT, Int.reduceLE, Int.reduceAdd, Int.reduceSub, Int.reduceNeg, Int.reduceMul, Int.reduceToNat, Int.cast_ofNat_Int, Int.natCast_zero, Nat.add_zero, reduceCtorEq, g1, g3, hlt', hw, hid, e1', ld0]
              exact hR _ (hQ _ _ (Ends.ret rfl ⟨by simp [tupOf, worldOk, hb], st2⟩))
        · have hho : housesOk w.houses = true := housesOk_iff.2 fun j x hx => hall j (by have := (List.getElem?_eq_some_iff.1 hx).1; omega) x hx
          simp only [go_sem, Nat.reduceEqDiff, Nat.reduceAdd, Nat.reduceMul, Nat.reduceLeDiff, Int.reduceEq, Int.reduceLT, Int.reduceLE, Int.reduceAdd, Int.reduceSub, Int.reduceNeg, Int.reduceMul, Int.reduceToNat, Int.cast_ofNat_Int, Int.natCast_zero, Nat.add_zero, reduceCtorEq, g1, g3, hlt, hln, hl]
          refine hE _ _ ?_
          simp only [go_sem, Nat.reduceEqDiff, Nat.reduceAdd, Nat.reduceMul, Nat.reduceLeDiff, Int.reduceEq, Int.reduceLT, Int.reduceLE, Int.reduceAdd, Int.reduceSub, Int.reduceNeg, Int.reduceMul, Int.reduceToNat, Int.cast_ofNat_Int, Int.natCast_zero, Nat.add_zero, reduceCtorEq, g1]
          refine RU_loop (fun m s' => ∃ i : Nat, m = w.nets.length - i ∧ i ≤ w.nets.length ∧ s'.H = s.H ∧ s'.env 1 = .box [y0, y1, y2, y3, c, n] ∧ s'.env 4 = .val (int i) ∧ (w.nets.take i).all wordOk = true) w.nets.length
            ⟨0, by simp, by simp, rfl, by simp [upd, g1], rfl, rfl⟩ ?_
          rintro m s' ⟨j, rfl, hj, hH, q1, q4, ha⟩ Q2 hN2 hE2 hR2
          by_cases hlj : (j : Int) < w.nets.length
          · obtain ⟨x, hx⟩ := get_lt hlj
            obtain ⟨b1, o1, bs1, cs1, f1, rfl, e1, e2, ⟨rfl, _⟩, _⟩ := hn2.get hx
            have hw := wrap_succ (show j ≤ lenTop by simp [lenTop]; omega)
            simp only [go_sem, Nat.reduceEqDiff, Nat.reduceAdd, Nat.reduceMul, Nat.reduceLeDiff, Int.reduceEq, Int.reduceLT, Int.reduceLE, Int.reduceAdd, Int.reduceSub, Int.reduceNeg, Int.reduceMul, Int.reduceToNat, Int.cast_ofNat_Int, Int.natCast_zero, Nat.add_zero, reduceCtorEq, q1, q4, hlj, hn2.len, hH, e1, e2, hw]
            refine Does.test (does_s_WordOk K (show RWord s.H _ x [] from ⟨rfl, rfl⟩)) ?_
            cases hwo : wordOk x with
            | false =>
              have hb : w.nets.all wordOk = false := all_false hx hwo
              simp only [go_sem, Nat.reduceEqDiff, Nat.reduceAdd, Nat.reduceMul, Nat.reduceLeDiff, Int.reduceEq, Int.reduceLT, Int.reduceLE, Int.reduceAdd, Int.reduceSub, Int.reduceNeg, Int.reduceMul, Int.reduceToNat, Int.cast_ofNat_Int, Int.natCast_zero, Nat.add_zero, reduceCtorEq]
              exact hR2 _ (hQ _ _ (Ends.ret rfl ⟨by simp [tupOf, worldOk, hb], by simp only [hH]; exact st⟩))
            | true =>
              simp only [go_sem, Nat.reduceEqDiff, Nat.reduceAdd, Nat.reduceMul, Nat.reduceLeDiff, Int.reduceEq, Int.reduceLT, Int.reduceLE, Int.reduceAdd, Int.reduceSub, Int.reduceNeg, Int.reduceMul, Int.reduceToNat, Int.cast_ofNat_Int, Int.natCast_zero, Nat.add_zero, reduceCtorEq, q4, hw]
              exact hN2 _ _ (by omega) ⟨j + 1, rfl, by omega, by simp [hH], by simp [upd, q1], by simp [upd], take_all hx ha hwo⟩
          · rw [List.take_of_length_le (by omega)] at ha
            simp only [go_sem, Nat.reduceEqDiff, Nat.reduceAdd, Nat.reduceMul, Nat.reduceLeDiff, Int.reduceEq, Int.reduceLT, Int.reduceLE, Int.reduceAdd, Int.reduceSub, Int.reduceNeg, Int.reduceMul, Int.reduceToNat, Int.cast_ofNat_Int, Int.natCast_zero, Nat.add_zero, reduceCtorEq, q1, q4, hlj, hn2.len]
            refine hE2 _ _ ?_
            simp only [go_sem, Nat.reduceEqDiff, Nat.reduceAdd, Nat.reduceMul, Nat.reduceLeDiff, Int.reduceEq, Int.reduceLT, Int.reduceLE, Int.reduceAdd, Int.reduceSub, Int.reduceNeg, Int.reduceMul, Int.reduceToNat, Int.cast_ofNat_Int, Int.natCast_zero, Nat.add_zero, reduceCtorEq, hH]
            exact hQ _ _ (Ends.ret rfl ⟨by simp [tupOf, worldOk, hok, hl3, hm', hho, ha], st⟩)
    · have hl3 : ¬ w.houses.length = 3 := by omega
      simp only [go_sem, Nat.reduceEqDiff, Nat.reduceAdd, Nat.reduceMul, Nat.reduceLeDiff, Int.reduceEq, Int.reduceLT, Int.reduceLE, Int.reduceAdd, Int.reduceSub, Int.reduceNeg, Int.reduceMul, Int.reduceToNat, Int.cast_ofNat_Int, Int.natCast_zero, Nat.add_zero, reduceCtorEq, hh1.len, hn1.len, hl]
      exact hQ _ _ (Ends.ret rfl ⟨by simp [tupOf, worldOk, hl3], s1⟩)
end Go.AX

/- The exact law holds of worlds that are ok. Condition: the arguments lie in memory. -/
namespace Go.AX
variable {P : Program} {I : Ids}
set_option maxHeartbeats 2000000 in
theorem does_FnExactWorldOk (K : Codes P I) {H : Heap} {a0 : List C} {x0 : Wld} {A0 : List Nat} (ha0 : RWld H a0 x0 A0) : Does P I.w_FnExactWorldOk [.agg a0] H fun r _ => r = bool true := by
  obtain ⟨a0_0, a0_1, a0_2, a0_3, a0_4, a0_5, rfl⟩ := len6 ha0.cells
  have alt0 : ∀ b ∈ A0, b < H.length := RWld.good.lt _ _ _ _ ha0
  refine K.does K.w_FnExactWorldOk rfl fun Q hQ => ?_
  simp only [go_sem, Nat.reduceEqDiff, Nat.reduceAdd, Nat.reduceMul, Nat.reduceLeDiff, Int.reduceEq, Int.reduceLT, Int.reduceLE, Int.reduceAdd, Int.reduceSub, Int.reduceNeg, Int.reduceMul, Int.reduceToNat, Int.cast_ofNat_Int, Int.natCast_zero, Nat.add_zero, reduceCtorEq, L_w_FnExactWorldOk]
  refine Does.test (does_w_szWorld K ha0 (by omega) (by omega)) ?_
  by_cases z0 : 1048576 < ((wWld x0 : Nat) : Int)
  · have e0 : szV (1048576) (wWld x0) = -1 := szV_neg z0
    simp only [go_sem, Nat.reduceEqDiff, Nat.reduceAdd, Nat.reduceMul, Nat.reduceLeDiff, Int.reduceEq, Int.reduceLT, Int.reduceLE, Int.reduceAdd, Int.reduceSub, Int.reduceNeg, Int.reduceMul, Int.reduceToNat, Int.cast_ofNat_Int, Int.natCast_zero, Nat.add_zero, reduceCtorEq, e0]
    exact hQ _ _ (Ends.ret rfl rfl)
  have e0 : szV (1048576) (wWld x0) = 1048576 - ((wWld x0 : Nat) : Int) := szV_pos z0
  have n0 : ¬ 1048576 - ((wWld x0 : Nat) : Int) < 0 := by omega
  have y0 : wWld x0 ≤ 1048576 := by omega
  simp only [go_sem, Nat.reduceEqDiff, Nat.reduceAdd, Nat.reduceMul, Nat.reduceLeDiff, Int.reduceEq, Int.reduceLT, Int.reduceLE, Int.reduceAdd, Int.reduceSub, Int.reduceNeg, Int.reduceMul, Int.reduceToNat, Int.cast_ofNat_Int, Int.natCast_zero, Nat.add_zero, reduceCtorEq, e0, n0]
  refine Does.call (does_w_toWorld K ha0 (by omega)) ?_
  rintro _ H1 ⟨c1, F1, rfl, s1, htt1⟩
  replace s1 : Step [] H H1 F1 := s1
  have le1 : List.length H ≤ List.length H1 := s1.len
  have ge1 := s1.ge
  have lt1 := s1.lt
  replace ha0 := Step.stay s1 RWld.good ha0
  obtain ⟨htt1_0, htt1_1, htt1_2, htt1_3, htt1_4, htt1_5, rfl⟩ := len6 htt1.cells
  simp only [go_sem, Nat.reduceEqDiff, Nat.reduceAdd, Nat.reduceMul, Nat.reduceLeDiff, Int.reduceEq, Int.reduceLT, Int.reduceLE, Int.reduceAdd, Int.reduceSub, Int.reduceNeg, Int.reduceMul, Int.reduceToNat, Int.cast_ofNat_Int, Int.natCast_zero, Nat.add_zero, reduceCtorEq, e0, n0]
  refine Does.call (does_s_WorldOk K htt1) ?_
  rintro _ H2 ⟨rfl, s2⟩
  replace s2 : Step [] H1 H2 ([] : List Nat) := s2
  have le2 : List.length H1 ≤ List.length H2 := s2.len
  have ge2 := s2.ge
  have lt2 := s2.lt
  replace ha0 := Step.stay s2 RWld.good ha0
  replace htt1 := Step.stay s2 RWld.good htt1
  simp only [go_sem, Nat.reduceEqDiff, Nat.reduceAdd, Nat.reduceMul, Nat.reduceLeDiff, Int.reduceEq, Int.reduceLT, Int.reduceLE, Int.reduceAdd, Int.reduceSub, Int.reduceNeg, Int.reduceMul, Int.reduceToNat, Int.cast_ofNat_Int, Int.natCast_zero, Nat.add_zero, reduceCtorEq, e0, n0]
  refine Does.call (does_w_toWorld K ha0 (by omega)) ?_
  rintro _ H3 ⟨c3, F3, rfl, s3, htx0⟩
  replace s3 : Step [] H2 H3 F3 := s3
  have le3 : List.length H2 ≤ List.length H3 := s3.len
  have ge3 := s3.ge
  have lt3 := s3.lt
  replace ha0 := Step.stay s3 RWld.good ha0
  replace htt1 := Step.stay s3 RWld.good htt1
  obtain ⟨htx0_0, htx0_1, htx0_2, htx0_3, htx0_4, htx0_5, rfl⟩ := len6 htx0.cells
  have ox0 := s3.owned
  simp only [go_sem, Nat.reduceEqDiff, Nat.reduceAdd, Nat.reduceMul, Nat.reduceLeDiff, Int.reduceEq, Int.reduceLT, Int.reduceLE, Int.reduceAdd, Int.reduceSub, Int.reduceNeg, Int.reduceMul, Int.reduceToNat, Int.cast_ofNat_Int, Int.natCast_zero, Nat.add_zero, reduceCtorEq, e0, n0]
  refine Does.call (does_i_WorldOk K htx0) ?_
  rintro _ H4 ⟨rfl, s4⟩
  replace s4 : Step [] H3 H4 ([] : List Nat) := s4
  have le4 : List.length H3 ≤ List.length H4 := s4.len
  have ge4 := s4.ge
  have lt4 := s4.lt
  replace ha0 := Step.stay s4 RWld.good ha0
  replace htt1 := Step.stay s4 RWld.good htt1
  replace htx0 := Step.stay s4 RWld.good htx0
  replace ox0 := ox0.stay s4
  simp only [go_sem, Nat.reduceEqDiff, Nat.reduceAdd, Nat.reduceMul, Nat.reduceLeDiff, Int.reduceEq, Int.reduceLT, Int.reduceLE, Int.reduceAdd, Int.reduceSub, Int.reduceNeg, Int.reduceMul, Int.reduceToNat, Int.cast_ofNat_Int, Int.natCast_zero, Nat.add_zero, reduceCtorEq, e0, n0]
  refine Does.call (does_w_toWorld K ha0 (by omega)) ?_
  rintro _ H5 ⟨c5, F5, rfl, s5, htt2⟩
  replace s5 : Step [] H4 H5 F5 := s5
  have le5 : List.length H4 ≤ List.length H5 := s5.len
  have ge5 := s5.ge
  have lt5 := s5.lt
  replace ha0 := Step.stay s5 RWld.good ha0
  replace htt1 := Step.stay s5 RWld.good htt1
  replace htx0 := Step.stay s5 RWld.good htx0
  replace ox0 := ox0.stay s5
  obtain ⟨htt2_0, htt2_1, htt2_2, htt2_3, htt2_4, htt2_5, rfl⟩ := len6 htt2.cells
  simp only [go_sem, Nat.reduceEqDiff, Nat.reduceAdd, Nat.reduceMul, Nat.reduceLeDiff, Int.reduceEq, Int.reduceLT, Int.reduceLE, Int.reduceAdd, Int.reduceSub, Int.reduceNeg, Int.reduceMul, Int.reduceToNat, Int.cast_ofNat_Int, Int.natCast_zero, Nat.add_zero, reduceCtorEq, e0, n0]
  refine Does.test (does_w_eqWorld K htx0 htt2) ?_
  simp only [go_sem, Nat.reduceEqDiff, Nat.reduceAdd, Nat.reduceMul, Nat.reduceLeDiff, Int.reduceEq, Int.reduceLT, Int.reduceLE, Int.reduceAdd, Int.reduceSub, Int.reduceNeg, Int.reduceMul, Int.reduceToNat, Int.cast_ofNat_Int, Int.natCast_zero, Nat.add_zero, reduceCtorEq, e0, n0]
  exact hQ _ _ (Ends.ret rfl rfl)

end Go.AX

/- From a call's contract to what a row asks. Condition: no block that was there may be written. -/
namespace Go.AX
open Go.RowKit
theorem law_calls {P : Program} {f : FuncId} {args : List V} {H : Heap} (hd : Does P f args H fun r _ => r = .val (.c (.bool true))) (hro : ∀ (b : Nat) (B : Blk), H[b]? = some B → B.st ≠ .rw) {ρ : Rho} {w : World} {xs : Array Value} (hH : HSim ρ H w)
    (hx : All2 (VRel H.length ρ) args xs.toList) : Calls P f xs w fun e w' => e = .returned (.bool true) ∧ Below w.heap.size w w' := by
  obtain ⟨r, H', hc, rfl⟩ := hd
  refine (hc.2 ρ w xs hH hx).mono ?_
  rintro e w' ⟨ρ', x, rfl, hr, _, _, hk⟩
  have hr : x = .bool true := hr
  subst hr
  exact ⟨rfl, hk.os, hk.tape, hk.output, hk.size, fun k hk' => hk.block k hk' fun ⟨b, B, hb, hw, _⟩ => hro b B hb hw⟩
theorem hsim_nil (ρ : Rho) (w : World) : HSim ρ [] w := ⟨fun b B h => by simp at h, fun b B h => by simp at h, fun b b' B B' h => by simp at h⟩
end Go.AX
namespace Go.AX
/-! The head's words. -/
def joined : List (List Nat) → List Nat
  | [] => []
  | [w] => w
  | w :: r => w ++ 32 :: joined r
theorem wordsSigns_cons {c : Char} (h : c ≠ Char.ofNat 32) (r : List Char) : wordsSigns (c :: r) = match wordsSigns r with | w :: ws => (c :: w) :: ws | [] => [[c]] := by
  exact wordsSigns.eq_3 c r h
theorem wordsSigns_word : ∀ (w : List Char) (r : List Char), (∀ c ∈ w, c ≠ Char.ofNat 32) → wordsSigns (w ++ Char.ofNat 32 :: r) = w :: wordsSigns r
  | [], r, _ => by rw [List.nil_append]; exact wordsSigns.eq_2 r
  | c :: w, r, h => by
    rw [List.cons_append, wordsSigns_cons (h c (by simp)), wordsSigns_word w r fun d hd => h d (by simp [hd])]
theorem wordsSigns_last : ∀ (w : List Char), (∀ c ∈ w, c ≠ Char.ofNat 32) → wordsSigns w = [w]
  | [], _ => by rw [wordsSigns]
  | c :: w, h => by rw [wordsSigns_cons (h c (by simp)), wordsSigns_last w fun d hd => h d (by simp [hd])]
theorem wordsSigns_joined : ∀ (ws : List (List Nat)), ws ≠ [] → (∀ w ∈ ws, ∀ n ∈ w, Char.ofNat n ≠ Char.ofNat 32) → wordsSigns ((joined ws).map Char.ofNat) = ws.map (·.map Char.ofNat)
  | [], h, _ => absurd rfl h
  | [w], _, h => by
    simp only [joined, List.map_cons, List.map_nil]
    exact wordsSigns_last _ fun c hc => by obtain ⟨n, hn, rfl⟩ := List.mem_map.1 hc; exact h w (by simp) n hn
  | w :: v :: r, _, h => by
    have ih := wordsSigns_joined (v :: r) (by simp) fun x hx => h x (by simp only [List.mem_cons] at hx ⊢; exact .inr hx)
    rw [joined, List.map_append, List.map_cons, wordsSigns_word _ _ fun c hc => by obtain ⟨n, hn, rfl⟩ := List.mem_map.1 hc; exact h w (by simp) n hn, ih]
    · rfl
    · simp
def noBlank (ws : List (List Nat)) : Bool := ws.all fun w => w.all fun n => Char.ofNat n != Char.ofNat 32
theorem noBlank_spec {ws : List (List Nat)} (h : noBlank ws = true) : ∀ w ∈ ws, ∀ n ∈ w, Char.ofNat n ≠ Char.ofNat 32 := fun w hw n hn => by
  simp only [noBlank, List.all_eq_true, bne_iff_ne] at h
  exact h w hw n hn
theorem head_words {P : Program} {ws : List (List Nat)} (h : P.initOrder = String.ofList ((joined ws).map Char.ofNat)) (hn : ws ≠ []) (hb : noBlank ws = true) : wordsSigns P.initOrder.toList = ws.map (·.map Char.ofNat) := by
  rw [h, String.toList_ofList]; exact wordsSigns_joined ws hn (noBlank_spec hb)
end Go.AX
namespace Go.AX
/-- A head that is a cut. -/
theorem make_cut {P : Program} {w : List Char} {r : List (List Char)} (h : behindMainWord (wordsSigns P.initOrder.toList) = w :: r) (h1 : (w == "gc".toList || w == "spec".toList) = false) (h2 : (w == "cut".toList) = true) : P.make = some .cut := by
  unfold Program.make
  rw [h]
  simp only [h1, h2, Bool.true_or, if_true, Bool.false_eq_true, if_false]
theorem enters_cut {P : Program} {w : List Char} {r : List (List Char)} (h : behindMainWord (wordsSigns P.initOrder.toList) = w :: r) (hs : ((stripLifts liftWords (w :: r)).2.head? == some "cut".toList) = true) (hn : (stripLifts liftWords (w :: r)).1 = [])
    (h1 : P.laysLater = false) (h2 : P.bearsReflect = false) (h3 : P.doorFits [] = true) : P.mayEnter = true := by
  unfold Program.mayEnter
  rw [h]
  simp only [hs, hn, h1, h2, h3]
  simp
theorem lifts_cut {P : Program} {w : List Char} {r : List (List Char)} (h : behindMainWord (wordsSigns P.initOrder.toList) = w :: r) (hc : (w == "carried".toList) = false) (hn : (stripLifts liftWords (w :: r)).1 = []) : P.liftsFinal = false := by
  unfold Program.liftsFinal Program.headLifts
  simp only [h, hn]
  have : ((w :: r).head? == some "carried".toList) = false := by simpa using hc
  rw [this]
  simp
end Go.AX
namespace Go.AX
theorem both {a b : Bool} (h : a = true) (k : b = true) : (a && b) = true := by rw [h, k]; rfl
theorem facts_of {P : Program} {f : FuncId} {fn : Func} {s : ChangeSpec} {c : OpenClaim}
    (k0 : c.wf (OpenSpec.ofChange s) = true)
    (k1 : laidOutB P = true)
    (k2 : mapsRowed P = true)
    (k3 : fn.params.all (P.readableRec ·) = true)
    (k4 : namedTie P c.named s.vars = true)
    (k5 : (c.stops == []) = true)
    (k6 : (P.stops == []) = true)
    (k7 : (c.knobs == []) = true)
    (k8 : (P.stopKnobs == []) = true)
    (k9 : (c.inPlace == P.inPlace f) = true)
    (k10 : (c.unfollowed == P.unfollowed f) = true)
    (k11 : (c.recurses == P.recurses f) = true)
    (k12 : (c.named == P.varsNamed f) = true)
    (k13 : (c.maps == (fn.params.toList ++ s.plain.varTypes P).any (P.mapsRec ·)) = true)
    (k14 : (c.ifaces == (fn.params.toList ++ s.plain.varTypes P).any (P.ifacesRec ·)) = true)
    (k15 : (c.mapsOut == P.mapsAmong fn.resultTypes.toList) = true)
    (k16 : (c.loops == (fn.params.toList ++ s.plain.varTypes P).any (P.loopsFrom ·)) = true)
    (k17 : (c.wideKeys == (fn.params.toList ++ s.plain.varTypes P ++ fn.resultTypes.toList).any (P.wideKeysFrom ·)) = true)
    (k18 : s.vars.all (P.varReadable ·) = true)
    (k19 : fn.resultTypes.all (fun t => P.readableRec t && decide (t < P.types.size)) = true)
    (k20 : (c.ifacesOut == fn.resultTypes.toList.any (P.ifacesRec ·)) = true)
    (k21 : (c.loopsOut == fn.resultTypes.toList.any (P.loopsFrom ·)) = true)
    (k22 : (c.plainKeys == P.plainKeys) = true)
    (k23 : c.shortTexts.isNone = true)
    (k24 : P.stopsHeard = true)
    (k25 : P.mayEnter = true)
    (k26 : (c.lifted == P.liftsFinal) = true)
    (k27 : (P.make == some c.make) = true)
    (k28a : c.kinds = []) (k28b : c.domain.isEmpty = true)
    (k29 : (c.pinned == c.pinnedBy) = true)
    (k30 : (c.veiled == (fn.params.toList ++ s.plain.varTypes P ++ fn.resultTypes.toList).any (P.veiledRec ·)) = true)
    (k31 : c.veiledFits P fn.params.toList (fn.params.toList ++ s.plain.varTypes P ++ fn.resultTypes.toList) = true)
    : joinedFacts P f fn s c = true := by
  have k28 : (c.kinds == (if c.domain.isEmpty then [] else fn.params.toList.map fun t => match P.underlying t with | some (.int k) => some k | _ => none)) = true := by rw [k28a, if_pos k28b]; rfl
  unfold joinedFacts
  exact (both (both (both (both (both (both (both (both (both (both (both (both (both (both (both (both (both (both (both (both (both (both (both (both (both (both (both (both (both (both (both k0 k1) k2) k3) k4) k5) k6) k7) k8) k9) k10) k11) k12) k13) k14) k15) k16) k17) k18) k19) k20) k21) k22) k23) k24) k25) k26) k27) k28) k29) k30) k31)
end Go.AX

/- How a law's arguments lie in memory: what a row's arguments are, told as the abstract machine's data, all of it only read. No condition. -/
namespace Go.AX
section
variable {H : Type} {enc : TypeId × Value → H} {P : Program} {W : World}

/-- All blocks are only read. -/
def RoH (K : Heap) : Prop := ∀ (b : Nat) (B : Blk), K[b]? = some B → B.st = .ro
/-- More blocks behind. -/
def ExtH (ρ : Rho) (K : Heap) (ρ' : Rho) (K' : Heap) : Prop := (∃ E, K' = K ++ E) ∧ ∀ b, b < K.length → ρ' b = ρ b
theorem ExtH.refl (ρ : Rho) (K : Heap) : ExtH ρ K ρ K := ⟨⟨[], by simp⟩, fun _ _ => rfl⟩
theorem ExtH.len {ρ ρ' : Rho} {K K' : Heap} (h : ExtH ρ K ρ' K') : K.length ≤ K'.length := by obtain ⟨⟨E, rfl⟩, _⟩ := h; simp
theorem ExtH.trans {ρ ρ1 ρ2 : Rho} {K K1 K2 : Heap} (h : ExtH ρ K ρ1 K1) (g : ExtH ρ1 K1 ρ2 K2) : ExtH ρ K ρ2 K2 := by
  have hl := h.len
  obtain ⟨⟨E, rfl⟩, h2⟩ := h
  obtain ⟨⟨E', rfl⟩, g2⟩ := g
  exact ⟨⟨E ++ E', by simp⟩, fun b hb => (g2 b (by simp; omega)).trans (h2 b hb)⟩
theorem ExtH.get {ρ ρ' : Rho} {K K' : Heap} (h : ExtH ρ K ρ' K') {b : Nat} (hb : b < K.length) : K'[b]? = K[b]? := by
  obtain ⟨⟨E, rfl⟩, _⟩ := h
  exact List.getElem?_append_left hb
theorem ExtH.crel {ρ ρ' : Rho} {K K' : Heap} (h : ExtH ρ K ρ' K') {c : C} {v : Value} (hc : CRel K.length ρ c v) : CRel K'.length ρ' c v := CRel.mono h.len h.2 hc
theorem ExtH.vrel {ρ ρ' : Rho} {K K' : Heap} (h : ExtH ρ K ρ' K') {c : V} {v : Value} (hc : VRel K.length ρ c v) : VRel K'.length ρ' c v := VRel.mono h.len h.2 hc
theorem ExtH.all {ρ ρ' : Rho} {K K' : Heap} (h : ExtH ρ K ρ' K') {cs : List C} {vs : List Value} (hc : All2 (CRel K.length ρ) cs vs) : All2 (CRel K'.length ρ') cs vs := hc.mono fun _ _ => h.crel
theorem ExtH.rep {ρ ρ' : Rho} {K K' : Heap} (h : ExtH ρ K ρ' K') {α : Type} {R : RepS α} (hR : Good R) {cs : List C} {x : α} {F : List Nat} (hr : R K cs x F) : R K' cs x F :=
  hR.frame _ _ _ _ _ hr fun b hb => h.get (hR.lt _ _ _ _ hr b hb)
theorem ExtH.repSl {ρ ρ' : Rho} {K K' : Heap} (h : ExtH ρ K ρ' K') {α : Type} {R : RepS α} (hR : Good R) {n : Nat} {c : C} {xs : List α} {F : List Nat} (hr : SlR n R K c xs F) : SlR n R K' c xs F :=
  hr.frame hR fun b hb => h.get (hr.lt hR b hb)
/-- One block more, whose cells stand in memory. -/
theorem ext_push {ρ : Rho} {K : Heap} (hs : HSim ρ K W) (hro : RoH K) (p : Pl) {n : Nat} {cs : List C} {vs : List Value} (hp : p.sz = n) {arr : Array Value} {t : TypeId} {fr : Nat × Nat} (hb : W.heap[p.blk]? = some (.cells arr t fr))
    (hc : ∀ i v, vs[i]? = some v → arr[p.off + i]? = some v) (ha : All2 (CRel K.length ρ) cs vs) :
    ∃ ρ', ExtH ρ K ρ' (K ++ [⟨.ro, n, cs⟩]) ∧ HSim ρ' (K ++ [⟨.ro, n, cs⟩]) W ∧ RoH (K ++ [⟨.ro, n, cs⟩]) ∧ ρ' K.length = p := by
  have he : ExtH ρ K (fun b => if b = K.length then p else ρ b) (K ++ [⟨.ro, n, cs⟩]) := ⟨⟨_, rfl⟩, fun b hb => if_neg (by omega)⟩
  have hro' : RoH (K ++ [⟨.ro, n, cs⟩]) := fun b B hB => by
    rw [List.getElem?_append] at hB
    split at hB
    · exact hro b B hB
    · have : B = ⟨.ro, n, cs⟩ := by
        have := List.mem_of_getElem? hB
        simpa using this
      rw [this]
  refine ⟨fun b => if b = K.length then p else ρ b, he, ⟨fun b B hB hd => ?_, fun b B hB hd => ?_, fun b b' B B' hB _ hw => absurd (hro' b B hB) (by rw [hw]; decide)⟩, hro', if_pos rfl⟩
  · by_cases e : b = K.length
    · subst e
      simp at hB; subst hB
      refine ⟨arr, t, fr, by simpa using hb, fun i c hi => ?_, fun h => by cases h⟩
      obtain ⟨v, hv, hr⟩ := ha.get hi
      exact ⟨v, by simpa using hc i v hv, he.crel hr⟩
    · have hlt : b < K.length := by
        have := (List.getElem?_eq_some_iff.1 hB).1
        simp at this; omega
      rw [List.getElem?_append_left hlt] at hB
      obtain ⟨arr', t', fr', h1, h2, h3⟩ := hs.blk b B hB hd
      simp only [if_neg e]
      exact ⟨arr', t', fr', h1, fun i c hi => by obtain ⟨v, hv, hr⟩ := h2 i c hi; exact ⟨v, hv, he.crel hr⟩, fun h => absurd (hro b B hB) (by rw [h]; decide)⟩
  · by_cases e : b = K.length
    · subst e
      simp at hB; subst hB
      simpa using hp
    · have hlt : b < K.length := by
        have := (List.getElem?_eq_some_iff.1 hB).1
        simp at this; omega
      rw [List.getElem?_append_left hlt] at hB
      simp only [if_neg e]
      exact hs.sz b B hB hd

/-- What is read of a type, told as data. -/
def Opens (enc : TypeId × Value → H) (P : Program) (W : World) (t : TypeId) (n : Nat) {α : Type} (R : RepS α) : Prop :=
  ∀ (fuel : Nat) (cs : List Value) (x : DataW H × List MemPlace), DataW.trod enc P W 0 (fun _ => true) true fuel t cs = some x → (∀ k ∈ x.1.weights P t, k ≤ reachBytes) →
    ∀ (ρ : Rho) (K : Heap), HSim ρ K W → RoH K → ∃ ρ' K' acs y F, ExtH ρ K ρ' K' ∧ HSim ρ' K' W ∧ RoH K' ∧ acs.length = n ∧ All2 (CRel K'.length ρ') acs cs ∧ R K' acs y F

theorem opens_int {t : TypeId} (ht : P.underlying t = some (.int .i64)) : Opens enc P W t 1 RInt := fun fuel cs x h _ ρ K hs hro => by
  obtain ⟨n, rfl, _, _⟩ := DataW.trod_int ht h
  exact ⟨ρ, K, [.int .i64 n], n, [], ExtH.refl _ _, hs, hro, rfl, .cons rfl .nil, rfl, rfl⟩
theorem opens_byte {t : TypeId} (ht : P.underlying t = some (.int .u8)) : Opens enc P W t 1 RByte := fun fuel cs x h _ ρ K hs hro => by
  obtain ⟨n, rfl, _, hw⟩ := DataW.trod_int ht h
  refine ⟨ρ, K, [.int .u8 n], n, [], ExtH.refl _ _, hs, hro, rfl, .cons rfl .nil, rfl, ?_, rfl⟩
  simp [Lit.wf, IntKind.min, IntKind.max, IntKind.signed, IntKind.bits] at hw
  omega
def RBool : RepS Bool := fun _ cs x F => cs = [.bool x] ∧ F = []
theorem opens_bool {t : TypeId} (ht : P.underlying t = some .bool) : Opens enc P W t 1 RBool := fun fuel cs x h _ ρ K hs hro => by
  obtain ⟨n, rfl, _⟩ := DataW.trod_bool ht h
  exact ⟨ρ, K, [.bool n], n, [], ExtH.refl _ _, hs, hro, rfl, .cons rfl .nil, rfl, rfl⟩

theorem weightsAll_mem {e : TypeId} : ∀ {l : List (DataW H)} {d : DataW H}, d ∈ l → ∀ k ∈ d.weights P e, k ∈ DataW.weightsAll P e l
  | a :: l, d, h, k, hk => by
    simp only [DataW.weightsAll, List.mem_append]
    rcases List.mem_cons.1 h with rfl | h
    · exact .inl hk
    · exact .inr (weightsAll_mem h k hk)

/-- Elements, one behind the other. -/
theorem opens_many {e : TypeId} {n : Nat} {α : Type} {R : RepS α} (hR : Good R) (ho : Opens enc P W e n R) (fuel : Nat) (V : Nat → List Value) :
    ∀ (m : Nat), (∀ i, i < m → ∃ x, DataW.trod enc P W 0 (fun _ => true) true fuel e (V i) = some x ∧ ∀ k ∈ x.1.weights P e, k ≤ reachBytes) →
    ∀ (ρ : Rho) (K : Heap), HSim ρ K W → RoH K → ∃ ρ' K' css ys fs, ExtH ρ K ρ' K' ∧ HSim ρ' K' W ∧ RoH K' ∧ All3 n (R K') css ys fs ∧ css.length = m ∧ All2 (CRel K'.length ρ') css.flatten ((List.range m).flatMap V)
  | 0, _, ρ, K, hs, hro => ⟨ρ, K, [], [], [], ExtH.refl _ _, hs, hro, .nil, rfl, .nil⟩
  | m + 1, h, ρ, K, hs, hro => by
    obtain ⟨ρ1, K1, css, ys, fs, h1, h2, h3, h4, h5, h6⟩ := opens_many hR ho fuel V m (fun i hi => h i (by omega)) ρ K hs hro
    obtain ⟨x, hx, hw⟩ := h m (by omega)
    obtain ⟨ρ2, K2, acs, y, F, g1, g2, g3, g4, g5, g6⟩ := ho fuel (V m) x hx hw ρ1 K1 h2 h3
    refine ⟨ρ2, K2, css ++ [acs], ys ++ [y], fs ++ [F], h1.trans g1, g2, g3, (h4.mono fun c z f _ hr => g1.rep hR hr).app (.cons g4 g6 .nil), by simp [h5], ?_⟩
    rw [List.range_succ, List.flatMap_append, List.flatten_append]
    refine (g1.all h6).append ?_
    simpa using g5

theorem mapM_range_get {β : Type} {f : Nat → Option β} {n : Nat} {l : List β} (h : (List.range n).mapM f = some l) : l.length = n ∧ ∀ i, i < n → f i = l[i]? := by
  refine ⟨by simpa using mapM_some_length h, fun i hi => by simpa using mapM_some_get h i i (by simp [hi])⟩

theorem cells_at {a : Addr} {n : Nat} {vs : List Value} (hn : 0 < n) (h : W.cells? 0 a n = some vs) : a.spot = none ∧ ∃ arr t fr, W.heap[a.block]? = some (.cells arr t fr) := by
  obtain ⟨_, h2, h3⟩ := World.cells?_some h
  have h4 := h3 0 hn
  obtain ⟨v, hv⟩ : ∃ v, vs[0]? = some v := ⟨vs[0]'(by omega), by simp⟩
  rw [hv] at h4
  simp only [Addr.add, if_true, World.cell?] at h4
  split at h4
  · rename_i c t fr hb
    refine ⟨?_, c, t, fr, hb⟩
    cases hs : a.spot with
    | none => rfl
    | some z => rw [hs] at h4; simp at h4
  · cases h4
theorem flat_get {V : Nat → List Value} {n : Nat} {g : Nat → Option Value} (hn : 0 < n) : ∀ (len : Nat), (∀ i, i < len → (V i).length = n ∧ ∀ r, r < n → (V i)[r]? = g (i * n + r)) → ((List.range len).flatMap V).length = len * n ∧ ∀ j, j < len * n → ((List.range len).flatMap V)[j]? = g j
  | 0, _ => ⟨by simp, fun j hj => by omega⟩
  | len + 1, h => by
    obtain ⟨h1, h2⟩ := flat_get hn len fun i hi => h i (by omega)
    obtain ⟨h3, h4⟩ := h len (by omega)
    rw [List.range_succ, List.flatMap_append]
    refine ⟨by simp [h1, h3, Nat.succ_mul], fun j hj => ?_⟩
    rw [List.getElem?_append, h1]
    split
    · rename_i hlt; exact h2 j hlt
    · rename_i hge
      rw [Nat.succ_mul] at hj
      have := h4 (j - len * n) (by omega)
      rw [show len * n + (j - len * n) = j by omega] at this
      simpa using this

/-- A slice. -/
theorem opens_slice {t e : TypeId} {n : Nat} {α : Type} {R : RepS α} (hR : Good R) (ht : P.underlying t = some (.slice e)) (hn : P.cellsOf e = n) (h0 : 0 < n) (hb : 0 < P.bytesOf e) (ho : Opens enc P W e n R) : Opens enc P W t 1 (SlS n R) := by
  intro fuel cs x h hw ρ K hs hro
  rcases DataW.trod_slice ht h with ⟨rfl, _⟩ | ⟨a, len, cap, elems, rest, m, _, rfl, rfl, _, hl, hm, hlen, hel, hsp, _⟩
  · exact ⟨ρ, K, [.nil], [], [], ExtH.refl _ _, hs, hro, rfl, .cons rfl .nil, .nil, rfl, .nil⟩
  obtain ⟨hrl, hre⟩ := hsp rfl
  rw [hn] at hel hre
  have hwt : (elems.length + rest.length) * P.bytesOf e ≤ reachBytes := hw _ (by simp [DataW.weights, ht])
  have htop : len ≤ lenTop := by
    have h1 : elems.length + rest.length ≤ (elems.length + rest.length) * P.bytesOf e := Nat.le_mul_of_pos_right _ hb
    have h2 : reachBytes ≤ lenTop := by decide
    omega
  have hget : ∀ i, i < cap → ∃ vs y, W.cells? 0 (a.add (i * n)) n = some vs ∧ DataW.trod enc P W 0 (fun _ => true) true m e vs = some y ∧ (i < len → ∀ k ∈ y.1.weights P e, k ≤ reachBytes) := by
    intro i hi
    by_cases hlt : i < len
    · have h1 := hel i hlt
      rw [List.getElem?_eq_getElem (by omega), Option.bind_eq_some_iff] at h1
      obtain ⟨vs, h2, h3⟩ := h1
      refine ⟨vs, _, h2, h3, fun _ k hk => hw k ?_⟩
      simp only [DataW.weights, ht, List.mem_cons, List.mem_append]
      exact .inr (.inl (weightsAll_mem (List.mem_map_of_mem (List.getElem_mem _)) k hk))
    · have h1 := hre (i - len) (by omega)
      rw [show len + (i - len) = i by omega, List.getElem?_eq_getElem (by omega), Option.bind_eq_some_iff] at h1
      obtain ⟨vs, h2, h3⟩ := h1
      exact ⟨vs, _, h2, h3, fun hc => absurd hc hlt⟩
  by_cases hc : cap = 0
  · subst hc
    obtain rfl : len = 0 := by omega
    exact ⟨ρ, K, [.emp true], [], [], ExtH.refl _ _, hs, hro, rfl, .cons ⟨a, 0, rfl, fun _ => rfl⟩ .nil, .emp true, rfl, .emp⟩
  obtain ⟨vs0, y0, hv0, _, _⟩ := hget 0 (by omega)
  rw [Nat.zero_mul, show a.add 0 = a from rfl] at hv0
  obtain ⟨hspot, arr, tt, fr, hblk⟩ := cells_at h0 hv0
  obtain ⟨ab, ao, as⟩ := a
  simp only at hspot hblk
  subst hspot
  have hcell : ∀ j, W.cell? ((⟨ab, ao, none⟩ : Addr).add j) = arr[ao + j]? := fun j => by
    unfold Addr.add
    split
    · rename_i hj; subst hj; simp [World.cell?, hblk]
    · simp [World.cell?, hblk]
  have hV : ∀ i, i < len → ((W.cells? 0 ((⟨ab, ao, none⟩ : Addr).add (i * n)) n).getD []).length = n ∧ ∀ r, r < n → ((W.cells? 0 ((⟨ab, ao, none⟩ : Addr).add (i * n)) n).getD [])[r]? = arr[ao + (i * n + r)]? := by
    intro i hi
    obtain ⟨vs, y, h1, _, _⟩ := hget i (by omega)
    obtain ⟨_, h2, h3⟩ := World.cells?_some h1
    rw [h1]
    refine ⟨h2, fun r hr => ?_⟩
    have h4 := h3 r hr
    rw [show ((⟨ab, ao, none⟩ : Addr).add (i * n)).add r = (⟨ab, ao, none⟩ : Addr).add (i * n + r) by
      unfold Addr.add; split <;> split <;> split <;> simp_all <;> omega, hcell] at h4
    simpa using h4.symm
  obtain ⟨ρ1, K1, css, ys, fs, h1, h2, h3, h4, h5, h6⟩ := opens_many hR ho m (fun i => (W.cells? 0 ((⟨ab, ao, none⟩ : Addr).add (i * n)) n).getD []) len (fun i hi => by
    obtain ⟨vs, y, g1, g2, g3⟩ := hget i (by omega)
    exact ⟨y, by rw [g1]; exact g2, g3 hi⟩) ρ K hs hro
  obtain ⟨f1, f2⟩ := flat_get (g := fun j => arr[ao + j]?) h0 len hV
  obtain ⟨ρ2, k1, k2, k3, k4⟩ := ext_push h2 h3 ⟨ab, ao, cap * n, n⟩ (n := n) rfl hblk (fun i v hv => by
    have hi := (List.getElem?_eq_some_iff.1 hv).1
    rw [f1] at hi
    rw [← f2 i hi]; exact hv) h6
  have hyl : ys.length = len := by rw [← h5, h4.len.1]
  refine ⟨ρ2, _, [.sl K1.length 0 len], ys, K1.length :: fs.flatten, h1.trans k1, k2, k3, rfl, .cons ⟨by simp, cap, ?_, hl, ?_⟩ .nil, _, rfl, .inr ⟨K1.length, [], [], css, fs, .ro, ?_, rfl, by simp, by decide, h4.mono fun c z f _ hr => k1.rep hR hr, by omega⟩⟩
  · rw [k4]; simp
  · rw [k4]; simp
  · rw [hyl]; rfl
end
/-! The structs. -/
section
variable {H : Type} {enc : TypeId × Value → H} {P : Program} {W : World}
theorem weightsEach_mem {ts : List TypeId} {ds : List (DataW H)} {j : Nat} {t : TypeId} {d : DataW H} (ht : ts[j]? = some t) (hd : ds[j]? = some d) {N : Nat} (h : ∀ k ∈ DataW.weightsEach P ts ds, k ≤ N) : ∀ k ∈ d.weights P t, k ≤ N := fun k hk => h k (DataW.weights_mem_each ht hd k hk)
/-- Fields, one behind the other. -/
def OpensF (enc : TypeId × Value → H) (P : Program) (W : World) (fs : List Field) (off n : Nat) {α : Type} (R : RepS α) : Prop :=
  ∀ (m : Nat) (xs : List (DataW H × List MemPlace)) (cs : List Value), xs.length = fs.length →
    (∀ (i : Nat) (f : Field), fs[i]? = some f → DataW.trod enc P W 0 (fun _ => true) true m f.type ((cs.drop f.offset).take (P.cellsOf f.type)) = xs[i]?) →
    (∀ k ∈ DataW.weightsEach P (fs.map (·.type)) (xs.map (·.1)), k ≤ reachBytes) →
    ∀ (ρ : Rho) (K : Heap), HSim ρ K W → RoH K → ∃ ρ' K' acs y F, ExtH ρ K ρ' K' ∧ HSim ρ' K' W ∧ RoH K' ∧ acs.length = n ∧ All2 (CRel K'.length ρ') acs ((cs.drop off).take n) ∧ R K' acs y F
def RUnit : RepS Unit := fun _ cs _ F => cs = [] ∧ F = []
def RPair {α β : Type} (R : RepS α) (R' : RepS β) : RepS (α × β) := fun K cs x F => ∃ c1 c2 F1 F2, cs = c1 ++ c2 ∧ F = F1 ++ F2 ∧ R K c1 x.1 F1 ∧ R' K c2 x.2 F2
theorem opensF_nil {off : Nat} : OpensF enc P W [] off 0 RUnit := fun m xs cs _ _ _ ρ K hs hro => ⟨ρ, K, [], (), [], ExtH.refl _ _, hs, hro, rfl, by simpa using All2.nil, rfl, rfl⟩
theorem opensF_cons {f : Field} {fs : List Field} {off n1 n2 : Nat} {α β : Type} {R : RepS α} {R' : RepS β} (hR : Good R) (h1 : f.offset = off) (h2 : P.cellsOf f.type = n1) (ho : Opens enc P W f.type n1 R) (hr : OpensF enc P W fs (off + n1) n2 R') :
    OpensF enc P W (f :: fs) off (n1 + n2) (RPair R R') := by
  intro m xs cs hl hx hw ρ K hs hro
  match xs, hl with
  | x :: xs, hl =>
    have g0 := hx 0 f rfl
    simp only [List.getElem?_cons_zero] at g0
    rw [h1, h2] at g0
    simp only [List.map_cons, DataW.weightsEach, List.mem_append] at hw
    obtain ⟨ρ1, K1, a1, y1, F1, e1, s1, r1, l1, c1, q1⟩ := ho m _ x g0 (fun k hk => hw k (.inl hk)) ρ K hs hro
    obtain ⟨ρ2, K2, a2, y2, F2, e2, s2, r2, l2, c2, q2⟩ := hr m xs cs (by simpa using hl) (fun i f' hf => hx (i + 1) f' (by simpa using hf)) (fun k hk => hw k (.inr hk)) ρ1 K1 s1 r1
    refine ⟨ρ2, K2, a1 ++ a2, (y1, y2), F1 ++ F2, e1.trans e2, s2, r2, by simp [l1, l2], ?_, a1, a2, F1, F2, rfl, rfl, e2.rep hR q1, q2⟩
    rw [List.take_add, List.drop_drop]
    exact (e2.all c1).append c2
theorem opens_struct {t : TypeId} {fs : Array Field} {n : Nat} {α : Type} {R : RepS α} (ht : P.underlying t = some (.struct fs)) (hn : P.cellsOf t = n) (ho : OpensF enc P W fs.toList 0 n R) : Opens enc P W t n R := by
  intro fuel cs x h hw ρ K hs hro
  obtain ⟨xs, m, _, rfl, hl, hxl, hx⟩ := DataW.trod_struct ht h
  have hw' : ∀ k ∈ DataW.weightsEach P (fs.toList.map (·.type)) (xs.map (·.1)), k ≤ reachBytes := fun k hk => hw k (by simpa only [DataW.weights, ht] using hk)
  obtain ⟨ρ1, K1, a1, y1, F1, e1, s1, r1, l1, c1, q1⟩ := ho m xs cs (by simpa using hxl) (fun i f hf => hx i f (by simpa using hf)) hw' ρ K hs hro
  refine ⟨ρ1, K1, a1, y1, F1, e1, s1, r1, l1, ?_, q1⟩
  rw [List.drop_zero, List.take_of_length_le (by omega)] at c1
  exact c1
theorem Opens.map {t : TypeId} {n : Nat} {α β : Type} {R : RepS α} {R' : RepS β} (h : Opens enc P W t n R) (hm : ∀ K cs x F, R K cs x F → ∃ y F', R' K cs y F') : Opens enc P W t n R' := by
  intro fuel cs x hx hw ρ K hs hro
  obtain ⟨ρ1, K1, a1, y1, F1, e1, s1, r1, l1, c1, q1⟩ := h fuel cs x hx hw ρ K hs hro
  obtain ⟨y, F', hq⟩ := hm _ _ _ _ q1
  exact ⟨ρ1, K1, a1, y, F', e1, s1, r1, l1, c1, hq⟩
theorem RBool.good : Good RBool := ⟨fun _ _ _ _ _ h _ => h, fun _ _ _ _ h => by simp [h.2]⟩
theorem good_ints : Good (SlS 1 RInt) := SlR.good RInt.good
theorem good_recs : Good (SlS 3 RRec) := SlR.good RRec.good
theorem good_words : Good (SlS 4 RWord) := SlR.good RWord.good
theorem good_houses : Good (SlS 5 RHouse) := SlR.good RHouse.good

/-! An argument. -/
theorem open_cell {t : TypeId} {v : Value} {d : DataW H} {ps : List MemPlace} {α : Type} {R : RepS α} (ho : Opens enc P W t 1 R) (hv : v.cells.toList = [v]) (hd : DataW.Trod enc P W 0 (fun _ => true) true t v d ps) (hw : ∀ k ∈ d.weights P t, k ≤ reachBytes)
    (ρ : Rho) (K : Heap) (hs : HSim ρ K W) (hro : RoH K) : ∃ ρ' K' c y F, ExtH ρ K ρ' K' ∧ HSim ρ' K' W ∧ RoH K' ∧ VRel K'.length ρ' (.c c) v ∧ R K' [c] y F := by
  obtain ⟨fuel, hf⟩ := hd
  obtain ⟨ρ1, K1, a1, y1, F1, e1, s1, r1, l1, c1, q1⟩ := ho fuel _ _ hf hw ρ K hs hro
  rw [hv] at c1
  match a1, l1, c1 with
  | [c], _, .cons h _ => exact ⟨ρ1, K1, c, y1, F1, e1, s1, r1, h, q1⟩
theorem open_agg {t : TypeId} {v : Value} {d : DataW H} {ps : List MemPlace} {n : Nat} {α : Type} {R : RepS α} (ho : Opens enc P W t n R) {arr : Array Value} (hv : v = .agg arr) (hd : DataW.Trod enc P W 0 (fun _ => true) true t v d ps) (hw : ∀ k ∈ d.weights P t, k ≤ reachBytes)
    (ρ : Rho) (K : Heap) (hs : HSim ρ K W) (hro : RoH K) : ∃ ρ' K' cs y F, ExtH ρ K ρ' K' ∧ HSim ρ' K' W ∧ RoH K' ∧ VRel K'.length ρ' (.agg cs) v ∧ R K' cs y F := by
  subst hv
  obtain ⟨fuel, hf⟩ := hd
  obtain ⟨ρ1, K1, a1, y1, F1, e1, s1, r1, l1, c1, q1⟩ := ho fuel _ _ hf hw ρ K hs hro
  exact ⟨ρ1, K1, a1, y1, F1, e1, s1, r1, ⟨arr, rfl, c1⟩, q1⟩

theorem rrec_of {K : Heap} {cs : List C} {x : Int × Int × List Int × Unit} {F : List Nat} (h : RPair RInt (RPair RInt (RPair (SlS 1 RInt) RUnit)) K cs x F) : ∃ y F', RRec K cs y F' := by
  obtain ⟨c1, c2, F1, F2, rfl, rfl, ⟨rfl, rfl⟩, c3, c4, F3, F4, rfl, rfl, ⟨rfl, rfl⟩, c5, c6, F5, F6, rfl, rfl, ⟨c, rfl, h⟩, rfl, rfl⟩ := h
  exact ⟨⟨x.1, x.2.1, x.2.2.1⟩, F5, c, rfl, h⟩
theorem rlog_of {K : Heap} {cs : List C} {x : List Rec × Int × Unit} {F : List Nat} (h : RPair (SlS 3 RRec) (RPair RInt RUnit) K cs x F) : ∃ y F', RLog K cs y F' := by
  obtain ⟨c1, c2, F1, F2, rfl, rfl, ⟨c, rfl, h⟩, c3, c4, F3, F4, rfl, rfl, ⟨rfl, rfl⟩, rfl, rfl⟩ := h
  exact ⟨⟨x.1, x.2.1⟩, F1, c, rfl, h⟩
theorem rword_of {K : Heap} {cs : List C} {x : Int × Int × Int × Int × Unit} {F : List Nat} (h : RPair RInt (RPair RInt (RPair RInt (RPair RInt RUnit))) K cs x F) : ∃ y F', RWord K cs y F' := by
  obtain ⟨c1, c2, F1, F2, rfl, rfl, ⟨rfl, rfl⟩, c3, c4, F3, F4, rfl, rfl, ⟨rfl, rfl⟩, c5, c6, F5, F6, rfl, rfl, ⟨rfl, rfl⟩, c7, c8, F7, F8, rfl, rfl, ⟨rfl, rfl⟩, rfl, rfl⟩ := h
  exact ⟨⟨x.1, x.2.1, x.2.2.1, x.2.2.2.1⟩, [], rfl, rfl⟩
theorem rtrip_of {K : Heap} {cs : List C} {x : List Int × Int × Unit} {F : List Nat} (h : RPair (SlS 1 RInt) (RPair RInt RUnit) K cs x F) : ∃ y F', RTrip K cs y F' := by
  obtain ⟨c1, c2, F1, F2, rfl, rfl, ⟨c, rfl, h⟩, c3, c4, F3, F4, rfl, rfl, ⟨rfl, rfl⟩, rfl, rfl⟩ := h
  exact ⟨⟨x.1, x.2.1⟩, F1, c, rfl, h⟩
theorem rhouse_of {K : Heap} {cs : List C} {x : Int × Bool × Int × Log × Unit} {F : List Nat} (h : RPair RInt (RPair RBool (RPair RInt (RPair RLog RUnit))) K cs x F) : ∃ y F', RHouse K cs y F' := by
  obtain ⟨c1, c2, F1, F2, rfl, rfl, ⟨rfl, rfl⟩, c3, c4, F3, F4, rfl, rfl, ⟨rfl, rfl⟩, c5, c6, F5, F6, rfl, rfl, ⟨rfl, rfl⟩, c7, c8, F7, F8, rfl, rfl, ⟨c, rfl, h⟩, rfl, rfl⟩ := h
  exact ⟨⟨x.1, x.2.1, x.2.2.1, x.2.2.2.1⟩, F7, c, rfl, h⟩
theorem rdesk_of {K : Heap} {cs : List C} {x : Bool × Log × List Word × Unit} {F : List Nat} (h : RPair RBool (RPair RLog (RPair (SlS 4 RWord) RUnit)) K cs x F) : ∃ y F', RDesk K cs y F' := by
  obtain ⟨c1, c2, F1, F2, rfl, rfl, ⟨rfl, rfl⟩, c3, c4, F3, F4, rfl, rfl, ⟨c, rfl, h⟩, c5, c6, F5, F6, rfl, rfl, ⟨d, rfl, g⟩, rfl, rfl⟩ := h
  exact ⟨⟨x.1, x.2.1, x.2.2.1⟩, _, c, d, F3, F5, rfl, rfl, h, g⟩
theorem rwld_of {K : Heap} {cs : List C} {x : Desk × List House × List Word × Unit} {F : List Nat} (h : RPair RDesk (RPair (SlS 5 RHouse) (RPair (SlS 4 RWord) RUnit)) K cs x F) : ∃ y F', RWld K cs y F' := by
  obtain ⟨c1, c2, F1, F2, rfl, rfl, h0, c3, c4, F3, F4, rfl, rfl, ⟨c, rfl, h⟩, c5, c6, F5, F6, rfl, rfl, ⟨d, rfl, g⟩, rfl, rfl⟩ := h
  exact ⟨⟨x.1, x.2.1, x.2.2.1⟩, _, c1, c, d, F1, F3, F5, rfl, rfl, h0, h, g⟩
end
end Go.AX
namespace Go.AX
theorem SlS.cell {α : Type} {n : Nat} {R : RepS α} {K : Heap} {c : C} {xs : List α} {F : List Nat} (h : SlS n R K [c] xs F) : SlR n R K c xs F := by
  obtain ⟨d, e, h⟩ := h
  simp only [List.cons.injEq, and_true] at e
  subst e; exact h
theorem RInt.cell {K : Heap} {c : C} {x : Int} {F : List Nat} (h : RInt K [c] x F) : c = .int .i64 x := by
  have := h.1
  simpa using this
theorem RBool.cell {K : Heap} {c : C} {x : Bool} {F : List Nat} (h : RBool K [c] x F) : c = .bool x := by
  have := h.1
  simpa using this
end Go.AX
