/- What the laws' looking functions return over what was numbered through. Condition: the data lie in memory. -/
import Derived.Test.YtjpgpepbnglhlaaLExactDeskNewAX22
set_option linter.unusedSimpArgs false
set_option linter.unusedVariables false
namespace Go.AX
variable {P : Program} {I : Ids}

theorem does_w_heldIntS (K : Codes P I) {H : Heap} {a : C} {xs : List Int} {F : List Nat} {k : Int} (ha : Ints H a (mkL (fun _ k => k) one xs k) F) (h0 : 0 ≤ k) (hk : k + sumL one xs ≤ lenTop) :
    Does P I.w_heldIntS [.c a, .c (.int .i64 k)] H fun r H' => r = .val (.c (.int .i64 (k + sumL one xs))) ∧ H' = H := by
  refine K.does K.w_heldIntS rfl fun Q hQ => ?_
  simp only [go_sem, L_w_heldIntS, Nat.reduceEqDiff, Nat.reduceAdd, Nat.reduceLeDiff, Int.reduceEq, reduceCtorEq]
  refine RU_loop (fun m s => ∃ i : Nat, m = xs.length - i ∧ i ≤ xs.length ∧ s.env 0 = .val (.c a) ∧ s.env 1 = .val (.c (.int .i64 (k + sumL one (xs.take i)))) ∧ s.env 5 = .val (.c (.int .i64 i)) ∧ s.H = H)
    xs.length ⟨0, by simp, by simp, rfl, by simp [upd, sumL], rfl, rfl⟩ ?_
  rintro m s ⟨i, rfl, hi, g0, g1, g5, hH⟩ Q' hN hE hR
  have htop := ha.top
  rw [mkL_len] at htop
  by_cases hlt : (i : Int) < xs.length
  · obtain ⟨x, hx⟩ := get_lt hlt
    obtain ⟨b, o, bs, cs, f, ea, hlv, e, hc, _, _⟩ := ha.get (mkL_get hx)
    rw [mkL_len] at ea
    subst ea
    obtain ⟨rfl, hf0⟩ := hc
    have hsum := sumL_take (cnt := one) hx
    have hle := sumL_le (cnt := one) (xs := xs) (i + 1)
    have hcx : (one x : Int) = 1 := by rfl
    generalize hk1 : k + (sumL one (xs.take i) : Int) = k1 at *
    have ld0 := e
    have hw1 : IntKind.wrap .i64 (k1 + 1) = k1 + 1 := by rw [wrap_i64 (by omega) (by unfold lenTop at hk; omega)]
    simp only [go_sem, Nat.reduceEqDiff, Nat.reduceAdd, Nat.reduceLeDiff, Int.reduceEq, reduceCtorEq, g0, g1, g5, hlt, hH, lenC, hlv, wrap_succ (show i ≤ lenTop by omega), ld0, hw1]
    refine hN _ _ (by omega) ⟨i + 1, rfl, by omega, by simp [upd, g0], ?_, by simp [upd], rfl⟩
    simp [upd, hsum, ← hk1]; try omega
  · simp only [go_sem, Nat.reduceEqDiff, Nat.reduceAdd, Nat.reduceLeDiff, Int.reduceEq, reduceCtorEq, g0, g5, hlt, ha.len, mkL_len, hH]
    refine hE _ _ ?_
    have hil : i = xs.length := by omega
    subst hil
    rw [List.take_length] at g1
    simp only [go_sem, Nat.reduceEqDiff, Nat.reduceAdd, Nat.reduceLeDiff, Int.reduceEq, reduceCtorEq, g1]
    exact hQ _ _ (Ends.ret rfl ⟨rfl, rfl⟩)

theorem does_w_heldRecS (K : Codes P I) {H : Heap} {a : C} {xs : List Rec} {F : List Nat} {k : Int} (ha : Recs H a (mkL mkRec cntRec xs k) F) (h0 : 0 ≤ k) (hk : k + sumL cntRec xs ≤ lenTop) :
    Does P I.w_heldRecS [.c a, .c (.int .i64 k)] H fun r H' => r = .val (.c (.int .i64 (k + sumL cntRec xs))) ∧ H' = H := by
  refine K.does K.w_heldRecS rfl fun Q hQ => ?_
  simp only [go_sem, L_w_heldRecS, Nat.reduceEqDiff, Nat.reduceAdd, Nat.reduceLeDiff, Int.reduceEq, reduceCtorEq]
  refine RU_loop (fun m s => ∃ i : Nat, m = xs.length - i ∧ i ≤ xs.length ∧ s.env 0 = .val (.c a) ∧ s.env 1 = .val (.c (.int .i64 (k + sumL cntRec (xs.take i)))) ∧ s.env 5 = .val (.c (.int .i64 i)) ∧ s.H = H)
    xs.length ⟨0, by simp, by simp, rfl, by simp [upd, sumL], rfl, rfl⟩ ?_
  rintro m s ⟨i, rfl, hi, g0, g1, g5, hH⟩ Q' hN hE hR
  have htop := ha.top
  rw [mkL_len] at htop
  by_cases hlt : (i : Int) < xs.length
  · obtain ⟨x, hx⟩ := get_lt hlt
    obtain ⟨b, o, bs, cs, f, ea, hlv, e, hc, _, _⟩ := ha.get (mkL_get hx)
    rw [mkL_len] at ea
    subst ea
    obtain ⟨c, rfl, hc⟩ := hc
    have hsum := sumL_take (cnt := cntRec) hx
    have hle := sumL_le (cnt := cntRec) (xs := xs) (i + 1)
    have hcx : (cntRec x : Int) = 2 + (sumL one x.many : Int) := by simp [cntRec]
    generalize hk1 : k + (sumL cntRec (xs.take i) : Int) = k1 at *
    have ld0 := slab_sub e 0 1 (by simp)
    simp only [go_sem, mkRec] at ld0
    have ld1 := slab_sub e 1 1 (by simp)
    simp only [go_sem, mkRec] at ld1
    have ld2 := slab_sub e 2 1 (by simp)
    simp only [go_sem, mkRec] at ld2
    have hw1 : IntKind.wrap .i64 (k1 + 1) = k1 + 1 := by rw [wrap_i64 (by omega) (by unfold lenTop at hk; omega)]
    have hw2 : IntKind.wrap .i64 (k1 + 1 + 1) = k1 + 2 := by rw [wrap_i64 (by omega) (by unfold lenTop at hk; omega)]; omega
    simp only [go_sem, Nat.reduceEqDiff, Nat.reduceAdd, Nat.reduceLeDiff, Int.reduceEq, reduceCtorEq, g0, g1, g5, hlt, hH, lenC, hlv, wrap_succ (show i ≤ lenTop by omega), ld0, ld1, ld2, hw1, hw2]
    refine Does.call (does_w_heldIntS K hc (by omega) (by omega)) ?_
    rintro _ _ ⟨rfl, rfl⟩
    have hneg : ¬ (k1 + 2 + (sumL one x.many : Int) < 0) := by omega
    simp only [go_sem, Nat.reduceEqDiff, Nat.reduceAdd, Nat.reduceLeDiff, Int.reduceEq, reduceCtorEq, g0, g1, g5, hlt, hH, lenC, hlv, wrap_succ (show i ≤ lenTop by omega), ld0, ld1, ld2, hw1, hw2, hneg]
    refine hN _ _ (by omega) ⟨i + 1, rfl, by omega, by simp [upd, g0], ?_, by simp [upd], by simp [hH]⟩
    simp [upd, hsum, ← hk1]; try omega
  · simp only [go_sem, Nat.reduceEqDiff, Nat.reduceAdd, Nat.reduceLeDiff, Int.reduceEq, reduceCtorEq, g0, g5, hlt, ha.len, mkL_len, hH]
    refine hE _ _ ?_
    have hil : i = xs.length := by omega
    subst hil
    rw [List.take_length] at g1
    simp only [go_sem, Nat.reduceEqDiff, Nat.reduceAdd, Nat.reduceLeDiff, Int.reduceEq, reduceCtorEq, g1]
    exact hQ _ _ (Ends.ret rfl ⟨rfl, rfl⟩)

theorem does_w_heldWordS (K : Codes P I) {H : Heap} {a : C} {xs : List Word} {F : List Nat} {k : Int} (ha : Words H a (mkL mkWord four xs k) F) (h0 : 0 ≤ k) (hk : k + sumL four xs ≤ lenTop) :
    Does P I.w_heldWordS [.c a, .c (.int .i64 k)] H fun r H' => r = .val (.c (.int .i64 (k + sumL four xs))) ∧ H' = H := by
  refine K.does K.w_heldWordS rfl fun Q hQ => ?_
  simp only [go_sem, L_w_heldWordS, Nat.reduceEqDiff, Nat.reduceAdd, Nat.reduceLeDiff, Int.reduceEq, reduceCtorEq]
  refine RU_loop (fun m s => ∃ i : Nat, m = xs.length - i ∧ i ≤ xs.length ∧ s.env 0 = .val (.c a) ∧ s.env 1 = .val (.c (.int .i64 (k + sumL four (xs.take i)))) ∧ s.env 5 = .val (.c (.int .i64 i)) ∧ s.H = H)
    xs.length ⟨0, by simp, by simp, rfl, by simp [upd, sumL], rfl, rfl⟩ ?_
  rintro m s ⟨i, rfl, hi, g0, g1, g5, hH⟩ Q' hN hE hR
  have htop := ha.top
  rw [mkL_len] at htop
  by_cases hlt : (i : Int) < xs.length
  · obtain ⟨x, hx⟩ := get_lt hlt
    obtain ⟨b, o, bs, cs, f, ea, hlv, e, hc, _, _⟩ := ha.get (mkL_get hx)
    rw [mkL_len] at ea
    subst ea
    obtain ⟨rfl, hf0⟩ := hc
    have hsum := sumL_take (cnt := four) hx
    have hle := sumL_le (cnt := four) (xs := xs) (i + 1)
    have hcx : (four x : Int) = 4 := by rfl
    generalize hk1 : k + (sumL four (xs.take i) : Int) = k1 at *
    have ld0 := slab_sub e 0 1 (by simp)
    simp only [go_sem, mkWord] at ld0
    have ld1 := slab_sub e 1 1 (by simp)
    simp only [go_sem, mkWord] at ld1
    have ld2 := slab_sub e 2 1 (by simp)
    simp only [go_sem, mkWord] at ld2
    have ld3 := slab_sub e 3 1 (by simp)
    simp only [go_sem, mkWord] at ld3
    have hw1 : IntKind.wrap .i64 (k1 + 1) = k1 + 1 := by rw [wrap_i64 (by omega) (by unfold lenTop at hk; omega)]
    have hw2 : IntKind.wrap .i64 (k1 + 1 + 1) = k1 + 2 := by rw [wrap_i64 (by omega) (by unfold lenTop at hk; omega)]; omega
    have hw3 : IntKind.wrap .i64 (k1 + 2 + 1) = k1 + 3 := by rw [wrap_i64 (by omega) (by unfold lenTop at hk; omega)]; omega
    have hw4 : IntKind.wrap .i64 (k1 + 3 + 1) = k1 + 4 := by rw [wrap_i64 (by omega) (by unfold lenTop at hk; omega)]; omega
    simp only [go_sem, Nat.reduceEqDiff, Nat.reduceAdd, Nat.reduceLeDiff, Int.reduceEq, reduceCtorEq, g0, g1, g5, hlt, hH, lenC, hlv, wrap_succ (show i ≤ lenTop by omega), ld0, ld1, ld2, ld3, hw1, hw2, hw3, hw4]
    refine hN _ _ (by omega) ⟨i + 1, rfl, by omega, by simp [upd, g0], ?_, by simp [upd], rfl⟩
    simp [upd, hsum, ← hk1]; try omega
  · simp only [go_sem, Nat.reduceEqDiff, Nat.reduceAdd, Nat.reduceLeDiff, Int.reduceEq, reduceCtorEq, g0, g5, hlt, ha.len, mkL_len, hH]
    refine hE _ _ ?_
    have hil : i = xs.length := by omega
    subst hil
    rw [List.take_length] at g1
    simp only [go_sem, Nat.reduceEqDiff, Nat.reduceAdd, Nat.reduceLeDiff, Int.reduceEq, reduceCtorEq, g1]
    exact hQ _ _ (Ends.ret rfl ⟨rfl, rfl⟩)

theorem does_w_heldLog (K : Codes P I) {H : Heap} {a : List C} {x : Log} {F : List Nat} {k : Int} (ha : RLog H a (mkLog x k) F) (h0 : 0 ≤ k) (hk : k + sumL cntRec x.recs ≤ lenTop) :
    Does P I.w_heldLog [.agg a, .c (.int .i64 k)] H fun r H' => r = .val (.c (.int .i64 (k + sumL cntRec x.recs))) ∧ H' = H := by
  obtain ⟨c, rfl, hc⟩ := ha
  refine K.does K.w_heldLog rfl fun Q hQ => ?_
  simp only [go_sem, L_w_heldLog, Nat.reduceEqDiff, Nat.reduceAdd, Nat.reduceLeDiff, Int.reduceEq, reduceCtorEq]
  refine Does.call (does_w_heldRecS K hc (by omega) (by omega)) ?_
  rintro _ _ ⟨rfl, rfl⟩
  have hn0 : ¬ (k + (sumL cntRec x.recs : Int) < 0) := by omega
  simp only [go_sem, Nat.reduceEqDiff, Nat.reduceAdd, Nat.reduceLeDiff, Int.reduceEq, reduceCtorEq, hn0]
  exact hQ _ _ (Ends.ret rfl ⟨by simp [tupOf], rfl⟩)

theorem does_w_heldDesk (K : Codes P I) {H : Heap} {a : List C} {x : Desk} {F : List Nat} {k : Int} (ha : RDesk H a (mkDesk x k) F) (h0 : 0 ≤ k) (hk : k + (sumL cntRec x.log.recs + sumL four x.told) ≤ lenTop) :
    Does P I.w_heldDesk [.agg a, .c (.int .i64 k)] H fun r H' => r = .val (.c (.int .i64 (k + (sumL cntRec x.log.recs + sumL four x.told)))) ∧ H' = H := by
  obtain ⟨c, d, F1, F2, rfl, rfl, hc, hd⟩ := ha
  refine K.does K.w_heldDesk rfl fun Q hQ => ?_
  simp only [go_sem, L_w_heldDesk, Nat.reduceEqDiff, Nat.reduceAdd, Nat.reduceLeDiff, Int.reduceEq, reduceCtorEq]
  refine Does.call (does_w_heldLog K (x := x.log) ⟨c, rfl, hc⟩ (by omega) (by omega)) ?_
  rintro _ _ ⟨rfl, rfl⟩
  have hn0 : ¬ (k + (sumL cntRec x.log.recs : Int) < 0) := by omega
  simp only [go_sem, Nat.reduceEqDiff, Nat.reduceAdd, Nat.reduceLeDiff, Int.reduceEq, reduceCtorEq, hn0]
  refine Does.call (does_w_heldWordS K (xs := x.told) hd (by omega) (by omega)) ?_
  rintro _ _ ⟨rfl, rfl⟩
  have hn1 : ¬ (k + (sumL cntRec x.log.recs : Int) + (sumL four x.told : Int) < 0) := by omega
  simp only [go_sem, Nat.reduceEqDiff, Nat.reduceAdd, Nat.reduceLeDiff, Int.reduceEq, reduceCtorEq, hn0, hn1]
  exact hQ _ _ (Ends.ret rfl ⟨by simp [tupOf]; try omega, rfl⟩)

end Go.AX
