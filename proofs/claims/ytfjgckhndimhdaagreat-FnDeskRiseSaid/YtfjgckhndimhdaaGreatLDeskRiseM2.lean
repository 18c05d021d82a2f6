/- What the law needs of the program: the contracts of its functions, each with its condition at its theorem. -/
import Derived.Test.YtfjgckhndimhdaaGreatLDeskRiseM1
set_option linter.unusedVariables false
set_option linter.unusedSimpArgs false
/- What a desk was told: the reference. Condition: the data lie in memory. -/
namespace Go.AX
variable {P : Program} {I : Ids}
theorem does_s_l13Any (K : Codes P I) {H : Heap} {cs : List C} {d : Desk} {F G : List Nat} {k t : Int} {c : C} {many : List Int} (hd : RDesk H cs d F) (hm : Ints H c many G) (hnn : ∀ n ∈ many, 0 ≤ n) : Does P I.s_l13Any [.agg cs, int t, .c c, int k] H fun v H' => v = bool (anyT d.told k t many 0) ∧ H' = H := by
  obtain ⟨cr, ct, F1, F2, rfl, rfl, hr, ht⟩ := hd
  have htop := hm.top
  refine K.does K.s_l13Any rfl fun Q hQ => ?_
  simp only [go_sem, Nat.reduceEqDiff, Nat.reduceAdd, Nat.reduceMul, Nat.reduceLeDiff, Int.reduceEq, Int.reduceLT, Int.reduceLE, Int.reduceAdd, Int.reduceSub, Int.reduceNeg, Int.reduceMul, Int.reduceToNat, Int.cast_ofNat_Int, Int.natCast_zero, Nat.add_zero, reduceCtorEq, L_s_l13Any]
  refine RU_loop (fun m s => ∃ i : Nat, m = many.length - i ∧ i ≤ many.length ∧ s.H = H ∧ s.env 1 = .val (int t) ∧ s.env 2 = .val (.c c) ∧ s.env 3 = .val (int k) ∧ s.env 4 = .box [.bool d.up, cr, .int .i64 d.log.forced, ct] ∧ s.env 9 = .val (int i) ∧ anyT d.told k t (many.take i) 0 = false) many.length
    ⟨0, by simp, by simp, rfl, rfl, rfl, rfl, rfl, rfl, rfl⟩ ?_
  rintro m s ⟨i, rfl, hi, hH, g1, g2, g3, g4, g9, ha⟩ Q' hN hE hR
  by_cases hlt : (i : Int) < many.length
  · obtain ⟨n, hn⟩ := get_lt hlt
    obtain ⟨b1, o1, bs1, cs1, f1, rfl, e1, e2, ⟨rfl, _⟩, _⟩ := hm.get hn
    have hw := wrap_succ (show i ≤ lenTop by omega)
    have ta := anyT_take (told := d.told) (k := k) (t := t) hn
    have hp : n ≠ 0 → 0 < n := fun e => by have := hnn n (List.mem_of_getElem? hn); omega
    by_cases hz : n = 0
    · subst hz
      simp only [go_sem, Nat.reduceEqDiff, Nat.reduceAdd, Nat.reduceMul, Nat.reduceLeDiff, Int.reduceEq, Int.reduceLT, Int.reduceLE, Int.reduceAdd, Int.reduceSub, Int.reduceNeg, Int.reduceMul, Int.reduceToNat, Int.cast_ofNat_Int, Int.natCast_zero, Nat.add_zero, reduceCtorEq, g1, g2, g3, g4, g9, hlt, hH, hm.len, e1, e2, hw]
      exact hN _ _ (by omega) ⟨i + 1, rfl, by omega, by simp [hH], by simp [upd, g1], by simp [upd, g2], by simp [upd, g3], by simp [upd, g4], by simp [upd], by rw [ta, ha]; simp⟩
    · have hz' := hp hz
      simp only [go_sem, Nat.reduceEqDiff, Nat.reduceAdd, Nat.reduceMul, Nat.reduceLeDiff, Int.reduceEq, Int.reduceLT, Int.reduceLE, Int.reduceAdd, Int.reduceSub, Int.reduceNeg, Int.reduceMul, Int.reduceToNat, Int.cast_ofNat_Int, Int.natCast_zero, Nat.add_zero, reduceCtorEq, g1, g2, g3, g4, g9, hlt, hH, hm.len, e1, e2, hw, hz']
      refine Does.test (does_s_l13Told K ht (show RWord H _ ⟨k, (i + 1 : Nat), t, 0⟩ [] from ⟨rfl, rfl⟩)) ?_
      rw [show decide ((⟨k, (i + 1 : Nat), t, 0⟩ : Word) ∈ d.told) = toldB d.told k ((i + 1 : Nat) : Int) t from rfl]
      cases ct : toldB d.told k ((i + 1 : Nat) : Int) t with
      | true =>
        simp only [go_sem, Nat.reduceEqDiff, Nat.reduceAdd, Nat.reduceMul, Nat.reduceLeDiff, Int.reduceEq, Int.reduceLT, Int.reduceLE, Int.reduceAdd, Int.reduceSub, Int.reduceNeg, Int.reduceMul, Int.reduceToNat, Int.cast_ofNat_Int, Int.natCast_zero, Nat.add_zero, reduceCtorEq, ct]
        refine hR _ ?_
        have hv : anyT d.told k t many 0 = true := anyT_of (i := i + 1) (by rw [ta, ha, ct]; simp [hz])
        exact hQ _ _ (Ends.ret rfl ⟨by simp [tupOf, hv], by simp [hH]⟩)
      | false =>
        simp only [go_sem, Nat.reduceEqDiff, Nat.reduceAdd, Nat.reduceMul, Nat.reduceLeDiff, Int.reduceEq, Int.reduceLT, Int.reduceLE, Int.reduceAdd, Int.reduceSub, Int.reduceNeg, Int.reduceMul, Int.reduceToNat, Int.cast_ofNat_Int, Int.natCast_zero, Nat.add_zero, reduceCtorEq, g9, hw, ct]
        exact hN _ _ (by omega) ⟨i + 1, rfl, by omega, by simp [hH], by simp [upd, g1], by simp [upd, g2], by simp [upd, g3], by simp [upd, g4], by simp [upd], by rw [ta, ha, ct]; simp [hz]⟩
  · simp only [go_sem, Nat.reduceEqDiff, Nat.reduceAdd, Nat.reduceMul, Nat.reduceLeDiff, Int.reduceEq, Int.reduceLT, Int.reduceLE, Int.reduceAdd, Int.reduceSub, Int.reduceNeg, Int.reduceMul, Int.reduceToNat, Int.cast_ofNat_Int, Int.natCast_zero, Nat.add_zero, reduceCtorEq, g1, g2, g3, g4, g9, hm.len, hlt]
    refine hE _ _ ?_
    simp only [go_sem, Nat.reduceEqDiff, Nat.reduceAdd, Nat.reduceMul, Nat.reduceLeDiff, Int.reduceEq, Int.reduceLT, Int.reduceLE, Int.reduceAdd, Int.reduceSub, Int.reduceNeg, Int.reduceMul, Int.reduceToNat, Int.cast_ofNat_Int, Int.natCast_zero, Nat.add_zero, reduceCtorEq, hH]
    rw [List.take_of_length_le (by omega)] at ha
    exact hQ _ _ (Ends.ret rfl ⟨by simp [tupOf, ha], rfl⟩)
theorem does_s_l13All (K : Codes P I) {H : Heap} {cs : List C} {d : Desk} {F G : List Nat} {k t : Int} {c : C} {many : List Int} (hd : RDesk H cs d F) (hm : Ints H c many G) (hnn : ∀ n ∈ many, 0 ≤ n) : Does P I.s_l13All [.agg cs, int t, .c c, int k] H fun v H' => v = bool (allT d.told k t many 0) ∧ H' = H := by
  obtain ⟨cr, ct, F1, F2, rfl, rfl, hr, ht⟩ := hd
  have htop := hm.top
  refine K.does K.s_l13All rfl fun Q hQ => ?_
  simp only [go_sem, Nat.reduceEqDiff, Nat.reduceAdd, Nat.reduceMul, Nat.reduceLeDiff, Int.reduceEq, Int.reduceLT, Int.reduceLE, Int.reduceAdd, Int.reduceSub, Int.reduceNeg, Int.reduceMul, Int.reduceToNat, Int.cast_ofNat_Int, Int.natCast_zero, Nat.add_zero, reduceCtorEq, L_s_l13All]
  refine RU_loop (fun m s => ∃ i : Nat, m = many.length - i ∧ i ≤ many.length ∧ s.H = H ∧ s.env 1 = .val (int t) ∧ s.env 2 = .val (.c c) ∧ s.env 3 = .val (int k) ∧ s.env 4 = .box [.bool d.up, cr, .int .i64 d.log.forced, ct] ∧ s.env 9 = .val (int i) ∧ allT d.told k t (many.take i) 0 = true) many.length
    ⟨0, by simp, by simp, rfl, rfl, rfl, rfl, rfl, rfl, rfl⟩ ?_
  rintro m s ⟨i, rfl, hi, hH, g1, g2, g3, g4, g9, ha⟩ Q' hN hE hR
  by_cases hlt : (i : Int) < many.length
  · obtain ⟨n, hn⟩ := get_lt hlt
    obtain ⟨b1, o1, bs1, cs1, f1, rfl, e1, e2, ⟨rfl, _⟩, _⟩ := hm.get hn
    have hw := wrap_succ (show i ≤ lenTop by omega)
    have ta := allT_take (told := d.told) (k := k) (t := t) hn
    have hp : n ≠ 0 → 0 < n := fun e => by have := hnn n (List.mem_of_getElem? hn); omega
    by_cases hz : n = 0
    · subst hz
      simp only [go_sem, Nat.reduceEqDiff, Nat.reduceAdd, Nat.reduceMul, Nat.reduceLeDiff, Int.reduceEq, Int.reduceLT, Int.reduceLE, Int.reduceAdd, Int.reduceSub, Int.reduceNeg, Int.reduceMul, Int.reduceToNat, Int.cast_ofNat_Int, Int.natCast_zero, Nat.add_zero, reduceCtorEq, g1, g2, g3, g4, g9, hlt, hH, hm.len, e1, e2, hw]
      exact hN _ _ (by omega) ⟨i + 1, rfl, by omega, by simp [hH], by simp [upd, g1], by simp [upd, g2], by simp [upd, g3], by simp [upd, g4], by simp [upd], by rw [ta, ha]; simp⟩
    · have hz' := hp hz
      simp only [go_sem, Nat.reduceEqDiff, Nat.reduceAdd, Nat.reduceMul, Nat.reduceLeDiff, Int.reduceEq, Int.reduceLT, Int.reduceLE, Int.reduceAdd, Int.reduceSub, Int.reduceNeg, Int.reduceMul, Int.reduceToNat, Int.cast_ofNat_Int, Int.natCast_zero, Nat.add_zero, reduceCtorEq, g1, g2, g3, g4, g9, hlt, hH, hm.len, e1, e2, hw, hz']
      refine Does.test (does_s_l13Told K ht (show RWord H _ ⟨k, (i + 1 : Nat), t, 0⟩ [] from ⟨rfl, rfl⟩)) ?_
      rw [show decide ((⟨k, (i + 1 : Nat), t, 0⟩ : Word) ∈ d.told) = toldB d.told k ((i + 1 : Nat) : Int) t from rfl]
      cases ct : toldB d.told k ((i + 1 : Nat) : Int) t with
      | false =>
        simp only [go_sem, Nat.reduceEqDiff, Nat.reduceAdd, Nat.reduceMul, Nat.reduceLeDiff, Int.reduceEq, Int.reduceLT, Int.reduceLE, Int.reduceAdd, Int.reduceSub, Int.reduceNeg, Int.reduceMul, Int.reduceToNat, Int.cast_ofNat_Int, Int.natCast_zero, Nat.add_zero, reduceCtorEq, ct]
        refine hR _ ?_
        have hv : allT d.told k t many 0 = false := allT_not (i := i + 1) (by rw [ta, ha, ct]; simp [hz])
        exact hQ _ _ (Ends.ret rfl ⟨by simp [tupOf, hv], by simp [hH]⟩)
      | true =>
        simp only [go_sem, Nat.reduceEqDiff, Nat.reduceAdd, Nat.reduceMul, Nat.reduceLeDiff, Int.reduceEq, Int.reduceLT, Int.reduceLE, Int.reduceAdd, Int.reduceSub, Int.reduceNeg, Int.reduceMul, Int.reduceToNat, Int.cast_ofNat_Int, Int.natCast_zero, Nat.add_zero, reduceCtorEq, g9, hw, ct]
        exact hN _ _ (by omega) ⟨i + 1, rfl, by omega, by simp [hH], by simp [upd, g1], by simp [upd, g2], by simp [upd, g3], by simp [upd, g4], by simp [upd], by rw [ta, ha, ct]; simp [hz]⟩
  · simp only [go_sem, Nat.reduceEqDiff, Nat.reduceAdd, Nat.reduceMul, Nat.reduceLeDiff, Int.reduceEq, Int.reduceLT, Int.reduceLE, Int.reduceAdd, Int.reduceSub, Int.reduceNeg, Int.reduceMul, Int.reduceToNat, Int.cast_ofNat_Int, Int.natCast_zero, Nat.add_zero, reduceCtorEq, g1, g2, g3, g4, g9, hm.len, hlt]
    refine hE _ _ ?_
    simp only [go_sem, Nat.reduceEqDiff, Nat.reduceAdd, Nat.reduceMul, Nat.reduceLeDiff, Int.reduceEq, Int.reduceLT, Int.reduceLE, Int.reduceAdd, Int.reduceSub, Int.reduceNeg, Int.reduceMul, Int.reduceToNat, Int.cast_ofNat_Int, Int.natCast_zero, Nat.add_zero, reduceCtorEq, hH]
    rw [List.take_of_length_le (by omega)] at ha
    exact hQ _ _ (Ends.ret rfl ⟨by simp [tupOf, ha], rfl⟩)
end Go.AX

/- A desk decides, and hears: the reference. Condition: the data lie in memory. -/
namespace Go.AX
variable {P : Program} {I : Ids}
set_option maxHeartbeats 4000000 in
set_option maxRecDepth 8000 in
theorem does_s_l13Decide (K : Codes P I) {H : Heap} {cs : List C} {d : Desk} {F : List Nat} {trip : Int} (hd : RDesk H cs d F) (ho : Owned H F) (hok : deskOk d = true) (h1 : 1 ≤ trip) (h6 : trip ≤ 6) (h2 : trip ≤ (tripsV d false).length) :
    Does P I.s_l13Decide [.agg cs, int trip] H fun v H' => ∃ cs' F', v = .val (.agg cs') ∧ Step F H H' F' ∧ RDesk H' cs' (decideD d trip) F' := by
  obtain ⟨x0, x1, x2, x3, rfl⟩ := len4 hd.cells
  have hlok := (deskOk_parts hok).2.1
  obtain ⟨i, hti, hi, hg, hmo, hst⟩ := tripAt_get hok h1 h2
  have hw : IntKind.wrap .i64 (trip - 1) = (i : Int) := by rw [wrap_i64 (by omega) (by omega)]; omega
  have hi' : (i : Int) < (tripsV d false).length := by omega
  refine K.does K.s_l13Decide rfl fun Q hQ => ?_
  simp only [go_sem, Nat.reduceEqDiff, Nat.reduceAdd, Nat.reduceMul, Nat.reduceLeDiff, Int.reduceEq, Int.reduceLT, Int.reduceLE, Int.reduceAdd, Int.reduceSub, Int.reduceNeg, Int.reduceMul, Int.reduceToNat, Int.cast_ofNat_Int, Int.natCast_zero, Nat.add_zero, reduceCtorEq, L_s_l13Decide]
  refine Does.call (does_s_l13Trips K (f := false) hd hlok) ?_
  rintro _ H1 ⟨c1, G1, rfl, s1, ht1⟩
  replace s1 : Step [] H H1 G1 := s1
  have hd1 := s1.stay RDesk.good hd
  have b1 : Step F H H1 F := (ho.step.with s1).part (fun a => by simp only [List.count_append, List.count_nil, List.count_cons]; omega)
  generalize hx : tripAt (tripsV d false) trip = x at *
  obtain ⟨tb, to, tbs, tcs, tf, rfl, e1, e2, ⟨cm, rfl, hm⟩, _⟩ := ht1.get hg
  simp only [go_sem, Nat.reduceEqDiff, Nat.reduceAdd, Nat.reduceMul, Nat.reduceLeDiff, Int.reduceEq, Int.reduceLT, Int.reduceLE, Int.reduceAdd, Int.reduceSub, Int.reduceNeg, Int.reduceMul, Int.reduceToNat, Int.cast_ofNat_Int, Int.natCast_zero, Nat.add_zero, reduceCtorEq, hw, hi', e1, e2]
  refine Does.call (does_s_l13Trips K (f := true) hd1 hlok) ?_
  rintro _ H2 ⟨c2, G2, rfl, s2, ht2⟩
  replace s2 : Step [] H1 H2 G2 := s2
  have hd2 := s2.stay RDesk.good hd1
  have hm2 : Ints H2 cm x.many tf := s2.keepSl RInt.good hm (fun b _ => by simp)
  have b2 : Step F H H2 F := (b1.with s2).part (fun a => by simp only [List.count_append, List.count_nil, List.count_cons]; omega)
  have hnn := manyOk_nonneg hmo
  by_cases hf : trip ≤ (tripsV d true).length
  · have hj' : (i : Int) < (tripsV d true).length := by omega
    obtain ⟨y, hy⟩ := get_lt hj'
    have hso : stateOf (tripsV d true) trip = y.state := by
      have hin : inB trip 1 (tripsV d true).length = true := by simp [inB, h1, hf]
      unfold stateOf
      rw [if_pos hin, show (trip - 1).toNat = i by omega, hy]; rfl
    obtain ⟨ub, uo, ubs, ucs, uf, rfl, u1, u2, ⟨um, rfl, hum⟩, _⟩ := ht2.get hy
    have lu := slab_sub u2 1 1 (by simp)
    simp only [slabAt1, slabSkip1] at lu
    simp only [go_sem, Nat.reduceEqDiff, Nat.reduceAdd, Nat.reduceMul, Nat.reduceLeDiff, Int.reduceEq, Int.reduceLT, Int.reduceLE, Int.reduceAdd, Int.reduceSub, Int.reduceNeg, Int.reduceMul, Int.reduceToNat, Int.cast_ofNat_Int, Int.natCast_zero, Nat.add_zero, reduceCtorEq, hw, hf, hj', u1, u2, lu]
    by_cases hs : stateOf (tripsV d true) trip = x.state
    · have hs0 := hs
      rw [hso] at hs0
      simp only [go_sem, Nat.reduceEqDiff, Nat.reduceAdd, Nat.reduceMul, Nat.reduceLeDiff, Int.reduceEq, Int.reduceLT, Int.reduceLE, Int.reduceAdd, Int.reduceSub, Int.reduceNeg, Int.reduceMul, Int.reduceToNat, Int.cast_ofNat_Int, Int.natCast_zero, Nat.add_zero, reduceCtorEq, hs0]
      by_cases c1 : x.state = 1
      · simp only [go_sem, Nat.reduceEqDiff, Nat.reduceAdd, Nat.reduceMul, Nat.reduceLeDiff, Int.reduceEq, Int.reduceLT, Int.reduceLE, Int.reduceAdd, Int.reduceSub, Int.reduceNeg, Int.reduceMul, Int.reduceToNat, Int.cast_ofNat_Int, Int.natCast_zero, Nat.add_zero, reduceCtorEq, c1, hs0]
        refine Does.test (does_s_l13Any K hd2 hm2 hnn) ?_
        cases hf : anyT d.told 5 trip x.many 0 with
        | true =>
          have hk : decideK d trip x = 6 := by simp [decideK, c1, hf]
          simp only [go_sem, Nat.reduceEqDiff, Nat.reduceAdd, Nat.reduceMul, Nat.reduceLeDiff, Int.reduceEq, Int.reduceLT, Int.reduceLE, Int.reduceAdd, Int.reduceSub, Int.reduceNeg, Int.reduceMul, Int.reduceToNat, Int.cast_ofNat_Int, Int.natCast_zero, Nat.add_zero, reduceCtorEq, c1, hf]
          refine Does.call (does_s_l13Write K hd2 (show RRec _ [.int .i64 6, .int .i64 trip, .emp true] ⟨6, trip, []⟩ [] from ⟨.emp true, rfl, .emp⟩) (by rw [List.append_nil]; exact b2.owned) hok (endRec_ok (by decide) ⟨h1, h6⟩)) ?_
          rintro _ H3 ⟨cs3, F3, rfl, s3, h3⟩
          rw [List.append_nil] at s3
          obtain ⟨z0, z1, z2, z3, rfl⟩ := len4 h3.cells
          simp only [go_sem, Nat.reduceEqDiff, Nat.reduceAdd, Nat.reduceMul, Nat.reduceLeDiff, Int.reduceEq, Int.reduceLT, Int.reduceLE, Int.reduceAdd, Int.reduceSub, Int.reduceNeg, Int.reduceMul, Int.reduceToNat, Int.cast_ofNat_Int, Int.natCast_zero, Nat.add_zero, reduceCtorEq]
          exact hQ _ _ (Ends.ret rfl ⟨_, F3, rfl, b2.trans s3, by rw [decideD, hx, hk, if_neg (by decide)]; exact h3⟩)
        | false =>
          simp only [go_sem, Nat.reduceEqDiff, Nat.reduceAdd, Nat.reduceMul, Nat.reduceLeDiff, Int.reduceEq, Int.reduceLT, Int.reduceLE, Int.reduceAdd, Int.reduceSub, Int.reduceNeg, Int.reduceMul, Int.reduceToNat, Int.cast_ofNat_Int, Int.natCast_zero, Nat.add_zero, reduceCtorEq, c1, hs0]
          refine Does.test (does_s_l13All K hd2 hm2 hnn) ?_
          cases hh : allT d.told 4 trip x.many 0 with
          | true =>
            have hk : decideK d trip x = 5 := by simp [decideK, c1, hf, hh]
            simp only [go_sem, Nat.reduceEqDiff, Nat.reduceAdd, Nat.reduceMul, Nat.reduceLeDiff, Int.reduceEq, Int.reduceLT, Int.reduceLE, Int.reduceAdd, Int.reduceSub, Int.reduceNeg, Int.reduceMul, Int.reduceToNat, Int.cast_ofNat_Int, Int.natCast_zero, Nat.add_zero, reduceCtorEq, c1, hf, hh]
            refine Does.call (does_s_l13Write K hd2 (show RRec _ [.int .i64 5, .int .i64 trip, .emp true] ⟨5, trip, []⟩ [] from ⟨.emp true, rfl, .emp⟩) (by rw [List.append_nil]; exact b2.owned) hok (endRec_ok (by decide) ⟨h1, h6⟩)) ?_
            rintro _ H3 ⟨cs3, F3, rfl, s3, h3⟩
            rw [List.append_nil] at s3
            obtain ⟨z0, z1, z2, z3, rfl⟩ := len4 h3.cells
            simp only [go_sem, Nat.reduceEqDiff, Nat.reduceAdd, Nat.reduceMul, Nat.reduceLeDiff, Int.reduceEq, Int.reduceLT, Int.reduceLE, Int.reduceAdd, Int.reduceSub, Int.reduceNeg, Int.reduceMul, Int.reduceToNat, Int.cast_ofNat_Int, Int.natCast_zero, Nat.add_zero, reduceCtorEq]
            exact hQ _ _ (Ends.ret rfl ⟨_, F3, rfl, b2.trans s3, by rw [decideD, hx, hk, if_neg (by decide)]; exact h3⟩)
          | false =>
            have hk : decideK d trip x = 0 := by simp [decideK, c1, hf, hh]
            simp only [go_sem, Nat.reduceEqDiff, Nat.reduceAdd, Nat.reduceMul, Nat.reduceLeDiff, Int.reduceEq, Int.reduceLT, Int.reduceLE, Int.reduceAdd, Int.reduceSub, Int.reduceNeg, Int.reduceMul, Int.reduceToNat, Int.cast_ofNat_Int, Int.natCast_zero, Nat.add_zero, reduceCtorEq, c1, hf, hh]
            exact hQ _ _ (Ends.ret rfl ⟨_, F, rfl, b2, by rw [decideD, hx, hk, if_pos rfl]; exact hd2⟩)
      · by_cases c2 : x.state = 2
        · have hs2 : stateOf (tripsV d true) trip = 2 := hs.trans c2
          simp only [go_sem, Nat.reduceEqDiff, Nat.reduceAdd, Nat.reduceMul, Nat.reduceLeDiff, Int.reduceEq, Int.reduceLT, Int.reduceLE, Int.reduceAdd, Int.reduceSub, Int.reduceNeg, Int.reduceMul, Int.reduceToNat, Int.cast_ofNat_Int, Int.natCast_zero, Nat.add_zero, reduceCtorEq, c2, hs0]
          refine Does.test (does_s_l13All K hd2 hm2 hnn) ?_
          cases hh : allT d.told 6 trip x.many 0 with
          | true =>
            have hk : decideK d trip x = 7 := by simp [decideK, c2, hs2, hh]
            simp only [go_sem, Nat.reduceEqDiff, Nat.reduceAdd, Nat.reduceMul, Nat.reduceLeDiff, Int.reduceEq, Int.reduceLT, Int.reduceLE, Int.reduceAdd, Int.reduceSub, Int.reduceNeg, Int.reduceMul, Int.reduceToNat, Int.cast_ofNat_Int, Int.natCast_zero, Nat.add_zero, reduceCtorEq, c2, hs2, hh]
            refine Does.call (does_s_l13Write K hd2 (show RRec _ [.int .i64 7, .int .i64 trip, .emp true] ⟨7, trip, []⟩ [] from ⟨.emp true, rfl, .emp⟩) (by rw [List.append_nil]; exact b2.owned) hok (endRec_ok (by decide) ⟨h1, h6⟩)) ?_
            rintro _ H3 ⟨cs3, F3, rfl, s3, h3⟩
            rw [List.append_nil] at s3
            obtain ⟨z0, z1, z2, z3, rfl⟩ := len4 h3.cells
            simp only [go_sem, Nat.reduceEqDiff, Nat.reduceAdd, Nat.reduceMul, Nat.reduceLeDiff, Int.reduceEq, Int.reduceLT, Int.reduceLE, Int.reduceAdd, Int.reduceSub, Int.reduceNeg, Int.reduceMul, Int.reduceToNat, Int.cast_ofNat_Int, Int.natCast_zero, Nat.add_zero, reduceCtorEq]
            exact hQ _ _ (Ends.ret rfl ⟨_, F3, rfl, b2.trans s3, by rw [decideD, hx, hk, if_neg (by decide)]; exact h3⟩)
          | false =>
            have hk : decideK d trip x = 0 := by simp [decideK, c2, hs2, hh]
            simp only [go_sem, Nat.reduceEqDiff, Nat.reduceAdd, Nat.reduceMul, Nat.reduceLeDiff, Int.reduceEq, Int.reduceLT, Int.reduceLE, Int.reduceAdd, Int.reduceSub, Int.reduceNeg, Int.reduceMul, Int.reduceToNat, Int.cast_ofNat_Int, Int.natCast_zero, Nat.add_zero, reduceCtorEq, c2, hs2, hh]
            exact hQ _ _ (Ends.ret rfl ⟨_, F, rfl, b2, by rw [decideD, hx, hk, if_pos rfl]; exact hd2⟩)
        · by_cases c3 : x.state = 3
          · have hs3 : stateOf (tripsV d true) trip = 3 := hs.trans c3
            simp only [go_sem, Nat.reduceEqDiff, Nat.reduceAdd, Nat.reduceMul, Nat.reduceLeDiff, Int.reduceEq, Int.reduceLT, Int.reduceLE, Int.reduceAdd, Int.reduceSub, Int.reduceNeg, Int.reduceMul, Int.reduceToNat, Int.cast_ofNat_Int, Int.natCast_zero, Nat.add_zero, reduceCtorEq, c3, hs0]
            refine Does.test (does_s_l13All K hd2 hm2 hnn) ?_
            cases hh : allT d.told 7 trip x.many 0 with
            | true =>
              have hk : decideK d trip x = 7 := by simp [decideK, c3, hs3, hh]
              simp only [go_sem, Nat.reduceEqDiff, Nat.reduceAdd, Nat.reduceMul, Nat.reduceLeDiff, Int.reduceEq, Int.reduceLT, Int.reduceLE, Int.reduceAdd, Int.reduceSub, Int.reduceNeg, Int.reduceMul, Int.reduceToNat, Int.cast_ofNat_Int, Int.natCast_zero, Nat.add_zero, reduceCtorEq, c3, hs3, hh]
              refine Does.call (does_s_l13Write K hd2 (show RRec _ [.int .i64 7, .int .i64 trip, .emp true] ⟨7, trip, []⟩ [] from ⟨.emp true, rfl, .emp⟩) (by rw [List.append_nil]; exact b2.owned) hok (endRec_ok (by decide) ⟨h1, h6⟩)) ?_
              rintro _ H3 ⟨cs3, F3, rfl, s3, h3⟩
              rw [List.append_nil] at s3
              obtain ⟨z0, z1, z2, z3, rfl⟩ := len4 h3.cells
              simp only [go_sem, Nat.reduceEqDiff, Nat.reduceAdd, Nat.reduceMul, Nat.reduceLeDiff, Int.reduceEq, Int.reduceLT, Int.reduceLE, Int.reduceAdd, Int.reduceSub, Int.reduceNeg, Int.reduceMul, Int.reduceToNat, Int.cast_ofNat_Int, Int.natCast_zero, Nat.add_zero, reduceCtorEq]
              exact hQ _ _ (Ends.ret rfl ⟨_, F3, rfl, b2.trans s3, by rw [decideD, hx, hk, if_neg (by decide)]; exact h3⟩)
            | false =>
              have hk : decideK d trip x = 0 := by simp [decideK, c3, hs3, hh]
              simp only [go_sem, Nat.reduceEqDiff, Nat.reduceAdd, Nat.reduceMul, Nat.reduceLeDiff, Int.reduceEq, Int.reduceLT, Int.reduceLE, Int.reduceAdd, Int.reduceSub, Int.reduceNeg, Int.reduceMul, Int.reduceToNat, Int.cast_ofNat_Int, Int.natCast_zero, Nat.add_zero, reduceCtorEq, c3, hs3, hh]
              exact hQ _ _ (Ends.ret rfl ⟨_, F, rfl, b2, by rw [decideD, hx, hk, if_pos rfl]; exact hd2⟩)
          · have hk : decideK d trip x = 0 := by simp [decideK, c1, c2, c3]
            simp only [go_sem, Nat.reduceEqDiff, Nat.reduceAdd, Nat.reduceMul, Nat.reduceLeDiff, Int.reduceEq, Int.reduceLT, Int.reduceLE, Int.reduceAdd, Int.reduceSub, Int.reduceNeg, Int.reduceMul, Int.reduceToNat, Int.cast_ofNat_Int, Int.natCast_zero, Nat.add_zero, reduceCtorEq, c1, c2, c3]
            exact hQ _ _ (Ends.ret rfl ⟨_, F, rfl, b2, by rw [decideD, hx, hk, if_pos rfl]; exact hd2⟩)
    · have hs0 := hs
      rw [hso] at hs0
      simp only [go_sem, Nat.reduceEqDiff, Nat.reduceAdd, Nat.reduceMul, Nat.reduceLeDiff, Int.reduceEq, Int.reduceLT, Int.reduceLE, Int.reduceAdd, Int.reduceSub, Int.reduceNeg, Int.reduceMul, Int.reduceToNat, Int.cast_ofNat_Int, Int.natCast_zero, Nat.add_zero, reduceCtorEq, hs0]
      by_cases c1 : x.state = 1
      · simp only [go_sem, Nat.reduceEqDiff, Nat.reduceAdd, Nat.reduceMul, Nat.reduceLeDiff, Int.reduceEq, Int.reduceLT, Int.reduceLE, Int.reduceAdd, Int.reduceSub, Int.reduceNeg, Int.reduceMul, Int.reduceToNat, Int.cast_ofNat_Int, Int.natCast_zero, Nat.add_zero, reduceCtorEq, c1, hs0]
        refine Does.test (does_s_l13Any K hd2 hm2 hnn) ?_
        cases hf : anyT d.told 5 trip x.many 0 with
        | true =>
          have hk : decideK d trip x = 6 := by simp [decideK, c1, hf]
          simp only [go_sem, Nat.reduceEqDiff, Nat.reduceAdd, Nat.reduceMul, Nat.reduceLeDiff, Int.reduceEq, Int.reduceLT, Int.reduceLE, Int.reduceAdd, Int.reduceSub, Int.reduceNeg, Int.reduceMul, Int.reduceToNat, Int.cast_ofNat_Int, Int.natCast_zero, Nat.add_zero, reduceCtorEq, c1, hf]
          refine Does.call (does_s_l13Write K hd2 (show RRec _ [.int .i64 6, .int .i64 trip, .emp true] ⟨6, trip, []⟩ [] from ⟨.emp true, rfl, .emp⟩) (by rw [List.append_nil]; exact b2.owned) hok (endRec_ok (by decide) ⟨h1, h6⟩)) ?_
          rintro _ H3 ⟨cs3, F3, rfl, s3, h3⟩
          rw [List.append_nil] at s3
          obtain ⟨z0, z1, z2, z3, rfl⟩ := len4 h3.cells
          simp only [go_sem, Nat.reduceEqDiff, Nat.reduceAdd, Nat.reduceMul, Nat.reduceLeDiff, Int.reduceEq, Int.reduceLT, Int.reduceLE, Int.reduceAdd, Int.reduceSub, Int.reduceNeg, Int.reduceMul, Int.reduceToNat, Int.cast_ofNat_Int, Int.natCast_zero, Nat.add_zero, reduceCtorEq]
          exact hQ _ _ (Ends.ret rfl ⟨_, F3, rfl, b2.trans s3, by rw [decideD, hx, hk, if_neg (by decide)]; exact h3⟩)
        | false =>
          simp only [go_sem, Nat.reduceEqDiff, Nat.reduceAdd, Nat.reduceMul, Nat.reduceLeDiff, Int.reduceEq, Int.reduceLT, Int.reduceLE, Int.reduceAdd, Int.reduceSub, Int.reduceNeg, Int.reduceMul, Int.reduceToNat, Int.cast_ofNat_Int, Int.natCast_zero, Nat.add_zero, reduceCtorEq, c1, hs0]
          refine Does.test (does_s_l13All K hd2 hm2 hnn) ?_
          cases hh : allT d.told 4 trip x.many 0 with
          | true =>
            have hk : decideK d trip x = 5 := by simp [decideK, c1, hf, hh]
            simp only [go_sem, Nat.reduceEqDiff, Nat.reduceAdd, Nat.reduceMul, Nat.reduceLeDiff, Int.reduceEq, Int.reduceLT, Int.reduceLE, Int.reduceAdd, Int.reduceSub, Int.reduceNeg, Int.reduceMul, Int.reduceToNat, Int.cast_ofNat_Int, Int.natCast_zero, Nat.add_zero, reduceCtorEq, c1, hf, hh]
            refine Does.call (does_s_l13Write K hd2 (show RRec _ [.int .i64 5, .int .i64 trip, .emp true] ⟨5, trip, []⟩ [] from ⟨.emp true, rfl, .emp⟩) (by rw [List.append_nil]; exact b2.owned) hok (endRec_ok (by decide) ⟨h1, h6⟩)) ?_
            rintro _ H3 ⟨cs3, F3, rfl, s3, h3⟩
            rw [List.append_nil] at s3
            obtain ⟨z0, z1, z2, z3, rfl⟩ := len4 h3.cells
            simp only [go_sem, Nat.reduceEqDiff, Nat.reduceAdd, Nat.reduceMul, Nat.reduceLeDiff, Int.reduceEq, Int.reduceLT, Int.reduceLE, Int.reduceAdd, Int.reduceSub, Int.reduceNeg, Int.reduceMul, Int.reduceToNat, Int.cast_ofNat_Int, Int.natCast_zero, Nat.add_zero, reduceCtorEq]
            exact hQ _ _ (Ends.ret rfl ⟨_, F3, rfl, b2.trans s3, by rw [decideD, hx, hk, if_neg (by decide)]; exact h3⟩)
          | false =>
            have hk : decideK d trip x = 0 := by simp [decideK, c1, hf, hh]
            simp only [go_sem, Nat.reduceEqDiff, Nat.reduceAdd, Nat.reduceMul, Nat.reduceLeDiff, Int.reduceEq, Int.reduceLT, Int.reduceLE, Int.reduceAdd, Int.reduceSub, Int.reduceNeg, Int.reduceMul, Int.reduceToNat, Int.cast_ofNat_Int, Int.natCast_zero, Nat.add_zero, reduceCtorEq, c1, hf, hh]
            exact hQ _ _ (Ends.ret rfl ⟨_, F, rfl, b2, by rw [decideD, hx, hk, if_pos rfl]; exact hd2⟩)
      · by_cases c2 : x.state = 2
        · have hs2 : ¬ stateOf (tripsV d true) trip = 2 := fun e => hs (e.trans c2.symm)
          have hk : decideK d trip x = 0 := by simp [decideK, c2, hs2, hs0]
          simp only [go_sem, Nat.reduceEqDiff, Nat.reduceAdd, Nat.reduceMul, Nat.reduceLeDiff, Int.reduceEq, Int.reduceLT, Int.reduceLE, Int.reduceAdd, Int.reduceSub, Int.reduceNeg, Int.reduceMul, Int.reduceToNat, Int.cast_ofNat_Int, Int.natCast_zero, Nat.add_zero, reduceCtorEq, c2, hs2, hs0]
          exact hQ _ _ (Ends.ret rfl ⟨_, F, rfl, b2, by rw [decideD, hx, hk, if_pos rfl]; exact hd2⟩)
        · by_cases c3 : x.state = 3
          · have hs3 : ¬ stateOf (tripsV d true) trip = 3 := fun e => hs (e.trans c3.symm)
            have hk : decideK d trip x = 0 := by simp [decideK, c3, hs3, hs0]
            simp only [go_sem, Nat.reduceEqDiff, Nat.reduceAdd, Nat.reduceMul, Nat.reduceLeDiff, Int.reduceEq, Int.reduceLT, Int.reduceLE, Int.reduceAdd, Int.reduceSub, Int.reduceNeg, Int.reduceMul, Int.reduceToNat, Int.cast_ofNat_Int, Int.natCast_zero, Nat.add_zero, reduceCtorEq, c3, hs3, hs0]
            exact hQ _ _ (Ends.ret rfl ⟨_, F, rfl, b2, by rw [decideD, hx, hk, if_pos rfl]; exact hd2⟩)
          · have hk : decideK d trip x = 0 := by simp [decideK, c1, c2, c3]
            simp only [go_sem, Nat.reduceEqDiff, Nat.reduceAdd, Nat.reduceMul, Nat.reduceLeDiff, Int.reduceEq, Int.reduceLT, Int.reduceLE, Int.reduceAdd, Int.reduceSub, Int.reduceNeg, Int.reduceMul, Int.reduceToNat, Int.cast_ofNat_Int, Int.natCast_zero, Nat.add_zero, reduceCtorEq, c1, c2, c3]
            exact hQ _ _ (Ends.ret rfl ⟨_, F, rfl, b2, by rw [decideD, hx, hk, if_pos rfl]; exact hd2⟩)
  · have hs : ¬ stateOf (tripsV d true) trip = x.state := by rw [stateOf_out (by omega)]; omega
    simp only [go_sem, Nat.reduceEqDiff, Nat.reduceAdd, Nat.reduceMul, Nat.reduceLeDiff, Int.reduceEq, Int.reduceLT, Int.reduceLE, Int.reduceAdd, Int.reduceSub, Int.reduceNeg, Int.reduceMul, Int.reduceToNat, Int.cast_ofNat_Int, Int.natCast_zero, Nat.add_zero, reduceCtorEq, ht2.len, hf]
    by_cases c1 : x.state = 1
    · simp only [go_sem, Nat.reduceEqDiff, Nat.reduceAdd, Nat.reduceMul, Nat.reduceLeDiff, Int.reduceEq, Int.reduceLT, Int.reduceLE, Int.reduceAdd, Int.reduceSub, Int.reduceNeg, Int.reduceMul, Int.reduceToNat, Int.cast_ofNat_Int, Int.natCast_zero, Nat.add_zero, reduceCtorEq, c1, hf]
      refine Does.test (does_s_l13Any K hd2 hm2 hnn) ?_
      cases hf : anyT d.told 5 trip x.many 0 with
      | true =>
        have hk : decideK d trip x = 6 := by simp [decideK, c1, hf]
        simp only [go_sem, Nat.reduceEqDiff, Nat.reduceAdd, Nat.reduceMul, Nat.reduceLeDiff, Int.reduceEq, Int.reduceLT, Int.reduceLE, Int.reduceAdd, Int.reduceSub, Int.reduceNeg, Int.reduceMul, Int.reduceToNat, Int.cast_ofNat_Int, Int.natCast_zero, Nat.add_zero, reduceCtorEq, c1, hf]
        refine Does.call (does_s_l13Write K hd2 (show RRec _ [.int .i64 6, .int .i64 trip, .emp true] ⟨6, trip, []⟩ [] from ⟨.emp true, rfl, .emp⟩) (by rw [List.append_nil]; exact b2.owned) hok (endRec_ok (by decide) ⟨h1, h6⟩)) ?_
        rintro _ H3 ⟨cs3, F3, rfl, s3, h3⟩
        rw [List.append_nil] at s3
        obtain ⟨z0, z1, z2, z3, rfl⟩ := len4 h3.cells
        simp only [go_sem, Nat.reduceEqDiff, Nat.reduceAdd, Nat.reduceMul, Nat.reduceLeDiff, Int.reduceEq, Int.reduceLT, Int.reduceLE, Int.reduceAdd, Int.reduceSub, Int.reduceNeg, Int.reduceMul, Int.reduceToNat, Int.cast_ofNat_Int, Int.natCast_zero, Nat.add_zero, reduceCtorEq]
        exact hQ _ _ (Ends.ret rfl ⟨_, F3, rfl, b2.trans s3, by rw [decideD, hx, hk, if_neg (by decide)]; exact h3⟩)
      | false =>
        simp only [go_sem, Nat.reduceEqDiff, Nat.reduceAdd, Nat.reduceMul, Nat.reduceLeDiff, Int.reduceEq, Int.reduceLT, Int.reduceLE, Int.reduceAdd, Int.reduceSub, Int.reduceNeg, Int.reduceMul, Int.reduceToNat, Int.cast_ofNat_Int, Int.natCast_zero, Nat.add_zero, reduceCtorEq, c1, hf]
        refine Does.test (does_s_l13All K hd2 hm2 hnn) ?_
        cases hh : allT d.told 4 trip x.many 0 with
        | true =>
          have hk : decideK d trip x = 5 := by simp [decideK, c1, hf, hh]
          simp only [go_sem, Nat.reduceEqDiff, Nat.reduceAdd, Nat.reduceMul, Nat.reduceLeDiff, Int.reduceEq, Int.reduceLT, Int.reduceLE, Int.reduceAdd, Int.reduceSub, Int.reduceNeg, Int.reduceMul, Int.reduceToNat, Int.cast_ofNat_Int, Int.natCast_zero, Nat.add_zero, reduceCtorEq, c1, hf, hh]
          refine Does.call (does_s_l13Write K hd2 (show RRec _ [.int .i64 5, .int .i64 trip, .emp true] ⟨5, trip, []⟩ [] from ⟨.emp true, rfl, .emp⟩) (by rw [List.append_nil]; exact b2.owned) hok (endRec_ok (by decide) ⟨h1, h6⟩)) ?_
          rintro _ H3 ⟨cs3, F3, rfl, s3, h3⟩
          rw [List.append_nil] at s3
          obtain ⟨z0, z1, z2, z3, rfl⟩ := len4 h3.cells
          simp only [go_sem, Nat.reduceEqDiff, Nat.reduceAdd, Nat.reduceMul, Nat.reduceLeDiff, Int.reduceEq, Int.reduceLT, Int.reduceLE, Int.reduceAdd, Int.reduceSub, Int.reduceNeg, Int.reduceMul, Int.reduceToNat, Int.cast_ofNat_Int, Int.natCast_zero, Nat.add_zero, reduceCtorEq]
          exact hQ _ _ (Ends.ret rfl ⟨_, F3, rfl, b2.trans s3, by rw [decideD, hx, hk, if_neg (by decide)]; exact h3⟩)
        | false =>
          have hk : decideK d trip x = 0 := by simp [decideK, c1, hf, hh]
          simp only [go_sem, Nat.reduceEqDiff, Nat.reduceAdd, Nat.reduceMul, Nat.reduceLeDiff, Int.reduceEq, Int.reduceLT, Int.reduceLE, Int.reduceAdd, Int.reduceSub, Int.reduceNeg, Int.reduceMul, Int.reduceToNat, Int.cast_ofNat_Int, Int.natCast_zero, Nat.add_zero, reduceCtorEq, c1, hf, hh]
          exact hQ _ _ (Ends.ret rfl ⟨_, F, rfl, b2, by rw [decideD, hx, hk, if_pos rfl]; exact hd2⟩)
    · by_cases c2 : x.state = 2
      · have hs2 : ¬ stateOf (tripsV d true) trip = 2 := fun e => hs (e.trans c2.symm)
        have hk : decideK d trip x = 0 := by simp [decideK, c2, hs2, hf]
        simp only [go_sem, Nat.reduceEqDiff, Nat.reduceAdd, Nat.reduceMul, Nat.reduceLeDiff, Int.reduceEq, Int.reduceLT, Int.reduceLE, Int.reduceAdd, Int.reduceSub, Int.reduceNeg, Int.reduceMul, Int.reduceToNat, Int.cast_ofNat_Int, Int.natCast_zero, Nat.add_zero, reduceCtorEq, c2, hs2, hf]
        exact hQ _ _ (Ends.ret rfl ⟨_, F, rfl, b2, by rw [decideD, hx, hk, if_pos rfl]; exact hd2⟩)
      · by_cases c3 : x.state = 3
        · have hs3 : ¬ stateOf (tripsV d true) trip = 3 := fun e => hs (e.trans c3.symm)
          have hk : decideK d trip x = 0 := by simp [decideK, c3, hs3, hf]
          simp only [go_sem, Nat.reduceEqDiff, Nat.reduceAdd, Nat.reduceMul, Nat.reduceLeDiff, Int.reduceEq, Int.reduceLT, Int.reduceLE, Int.reduceAdd, Int.reduceSub, Int.reduceNeg, Int.reduceMul, Int.reduceToNat, Int.cast_ofNat_Int, Int.natCast_zero, Nat.add_zero, reduceCtorEq, c3, hs3, hf]
          exact hQ _ _ (Ends.ret rfl ⟨_, F, rfl, b2, by rw [decideD, hx, hk, if_pos rfl]; exact hd2⟩)
        · have hk : decideK d trip x = 0 := by simp [decideK, c1, c2, c3]
          simp only [go_sem, Nat.reduceEqDiff, Nat.reduceAdd, Nat.reduceMul, Nat.reduceLeDiff, Int.reduceEq, Int.reduceLT, Int.reduceLE, Int.reduceAdd, Int.reduceSub, Int.reduceNeg, Int.reduceMul, Int.reduceToNat, Int.cast_ofNat_Int, Int.natCast_zero, Nat.add_zero, reduceCtorEq, c1, c2, c3]
          exact hQ _ _ (Ends.ret rfl ⟨_, F, rfl, b2, by rw [decideD, hx, hk, if_pos rfl]; exact hd2⟩)
set_option maxHeartbeats 4000000 in
set_option maxRecDepth 8000 in
theorem does_s_l13Hear (K : Codes P I) {H : Heap} {cs ds : List C} {d : Desk} {w : Word} {F G : List Nat} (hd : RDesk H cs d F) (hw : RWord H ds w G) (ho : Owned H F) (hok : deskOk d = true) :
    Does P I.s_l13Hear [.agg cs, .agg ds] H fun v H' => ∃ cs' F', v = .val (.agg cs') ∧ Step F H H' F' ∧ RDesk H' cs' (hearD d w) F' := by
  obtain ⟨rfl, rfl⟩ := hw
  have hd0 := hd
  obtain ⟨c, t, F1, F2, rfl, rfl, hl, ht⟩ := hd
  have hlok := (deskOk_parts hok).2.1
  refine K.does K.s_l13Hear rfl fun Q hQ => ?_
  simp only [go_sem, Nat.reduceEqDiff, Nat.reduceAdd, Nat.reduceMul, Nat.reduceLeDiff, Int.reduceEq, Int.reduceLT, Int.reduceLE, Int.reduceAdd, Int.reduceSub, Int.reduceNeg, Int.reduceMul, Int.reduceToNat, Int.cast_ofNat_Int, Int.natCast_zero, Nat.add_zero, reduceCtorEq, L_s_l13Hear]
  cases hup : d.up with
  | false =>
    rw [hup] at hd0
    have hg : deskHearsB d w = false := by simp [deskHearsB, hup]
    simp only [go_sem, Nat.reduceEqDiff, Nat.reduceAdd, Nat.reduceMul, Nat.reduceLeDiff, Int.reduceEq, Int.reduceLT, Int.reduceLE, Int.reduceAdd, Int.reduceSub, Int.reduceNeg, Int.reduceMul, Int.reduceToNat, Int.cast_ofNat_Int, Int.natCast_zero, Nat.add_zero, reduceCtorEq, hup]
    exact hQ _ _ (Ends.ret rfl ⟨_, F1 ++ F2, rfl, ho.step, by rw [hearD, if_neg (by simp [hg])]; exact hd0⟩)
  | true =>
    rw [hup] at hd0
    simp only [go_sem, Nat.reduceEqDiff, Nat.reduceAdd, Nat.reduceMul, Nat.reduceLeDiff, Int.reduceEq, Int.reduceLT, Int.reduceLE, Int.reduceAdd, Int.reduceSub, Int.reduceNeg, Int.reduceMul, Int.reduceToNat, Int.cast_ofNat_Int, Int.natCast_zero, Nat.add_zero, reduceCtorEq, hup]
    refine Does.test (does_s_WordOk K (show RWord H _ w [] from ⟨rfl, rfl⟩)) ?_
    cases hwo : wordOk w with
    | false =>
      have hg : deskHearsB d w = false := by simp [deskHearsB, hwo]
      simp only [go_sem, Nat.reduceEqDiff, Nat.reduceAdd, Nat.reduceMul, Nat.reduceLeDiff, Int.reduceEq, Int.reduceLT, Int.reduceLE, Int.reduceAdd, Int.reduceSub, Int.reduceNeg, Int.reduceMul, Int.reduceToNat, Int.cast_ofNat_Int, Int.natCast_zero, Nat.add_zero, reduceCtorEq, hup]
      exact hQ _ _ (Ends.ret rfl ⟨_, F1 ++ F2, rfl, ho.step, by rw [hearD, if_neg (by simp [hg])]; exact hd0⟩)
    | true =>
      by_cases hk : w.kind < 4
      · have hk' : ¬ 4 ≤ w.kind := by omega
        have hg : deskHearsB d w = false := by simp [deskHearsB, hk']
        simp only [go_sem, Nat.reduceEqDiff, Nat.reduceAdd, Nat.reduceMul, Nat.reduceLeDiff, Int.reduceEq, Int.reduceLT, Int.reduceLE, Int.reduceAdd, Int.reduceSub, Int.reduceNeg, Int.reduceMul, Int.reduceToNat, Int.cast_ofNat_Int, Int.natCast_zero, Nat.add_zero, reduceCtorEq, hup, hk]
        exact hQ _ _ (Ends.ret rfl ⟨_, F1 ++ F2, rfl, ho.step, by rw [hearD, if_neg (by simp [hg])]; exact hd0⟩)
      · have hk' : 4 ≤ w.kind := by omega
        simp only [go_sem, Nat.reduceEqDiff, Nat.reduceAdd, Nat.reduceMul, Nat.reduceLeDiff, Int.reduceEq, Int.reduceLT, Int.reduceLE, Int.reduceAdd, Int.reduceSub, Int.reduceNeg, Int.reduceMul, Int.reduceToNat, Int.cast_ofNat_Int, Int.natCast_zero, Nat.add_zero, reduceCtorEq, hup, hk]
        refine Does.call (does_s_l13Trips K (f := false) hd0 hlok) ?_
        rintro _ H1 ⟨c1, G1, rfl, s1, ht1⟩
        replace s1 : Step [] H H1 G1 := s1
        have hd1 := s1.stay RDesk.good hd0
        have hl1 : Recs H1 c d.log.recs F1 := s1.keepSl RRec.good hl (fun b _ => by simp)
        have hw1 : Words H1 t d.told F2 := s1.keepSl RWord.good ht (fun b _ => by simp)
        have b1 : Step (F1 ++ F2) H H1 (F1 ++ F2) := (ho.step.with s1).part (fun a => by simp only [List.count_append, List.count_nil, List.count_cons]; omega)
        by_cases hn : ((tripsV d false).length : Int) < w.trip
        · have hn' : ¬ w.trip ≤ ((tripsV d false).length : Int) := by omega
          have hg : deskHearsB d w = false := by simp [deskHearsB, hn']
          simp only [go_sem, Nat.reduceEqDiff, Nat.reduceAdd, Nat.reduceMul, Nat.reduceLeDiff, Int.reduceEq, Int.reduceLT, Int.reduceLE, Int.reduceAdd, Int.reduceSub, Int.reduceNeg, Int.reduceMul, Int.reduceToNat, Int.cast_ofNat_Int, Int.natCast_zero, Nat.add_zero, reduceCtorEq, ht1.len, hn]
          exact hQ _ _ (Ends.ret rfl ⟨_, F1 ++ F2, rfl, b1, by rw [hearD, if_neg (by simp [hg])]; exact hd1⟩)
        · have hg : deskHearsB d w = true := by simp [deskHearsB, hup, hwo, hk']; omega
          obtain ⟨_, _, ⟨p1, p6⟩, _⟩ := wordOk_parts hwo
          simp only [go_sem, Nat.reduceEqDiff, Nat.reduceAdd, Nat.reduceMul, Nat.reduceLeDiff, Int.reduceEq, Int.reduceLT, Int.reduceLE, Int.reduceAdd, Int.reduceSub, Int.reduceNeg, Int.reduceMul, Int.reduceToNat, Int.cast_ofNat_Int, Int.natCast_zero, Nat.add_zero, reduceCtorEq, ht1.len, hn]
          refine Does.test (does_s_l13Told K hw1 (show RWord H1 _ w [] from ⟨rfl, rfl⟩)) ?_
          by_cases hm : w ∈ d.told
          · have htl : tellD d w = d := by rw [tellD, if_pos hm]
            simp only [go_sem, Nat.reduceEqDiff, Nat.reduceAdd, Nat.reduceMul, Nat.reduceLeDiff, Int.reduceEq, Int.reduceLT, Int.reduceLE, Int.reduceAdd, Int.reduceSub, Int.reduceNeg, Int.reduceMul, Int.reduceToNat, Int.cast_ofNat_Int, Int.natCast_zero, Nat.add_zero, reduceCtorEq, hm]
            refine Does.call (does_s_l13Decide K hd1 b1.owned hok p1 p6 (by omega)) ?_
            rintro _ H2 ⟨cs2, F', rfl, s2, h2⟩
            obtain ⟨z0, z1, z2, z3, rfl⟩ := len4 h2.cells
            simp only [go_sem, Nat.reduceEqDiff, Nat.reduceAdd, Nat.reduceMul, Nat.reduceLeDiff, Int.reduceEq, Int.reduceLT, Int.reduceLE, Int.reduceAdd, Int.reduceSub, Int.reduceNeg, Int.reduceMul, Int.reduceToNat, Int.cast_ofNat_Int, Int.natCast_zero, Nat.add_zero, reduceCtorEq]
            exact hQ _ _ (Ends.ret rfl ⟨_, F', rfl, b1.trans s2, by rw [hearD, if_pos hg, htl]; exact h2⟩)
          · have own : Owned H1 (F1 ++ F2) := b1.owned
            have hl72 := desk_told hok
            obtain ⟨c2, H2, G2, ha, h2, s2⟩ := app_one RWord.good (f := []) (by decide) hw1 (show RWord H1 _ w [] from ⟨rfl, rfl⟩) rfl (by simpa using own.right) (by simp [lenMax]; omega)
            rw [List.append_nil] at s2
            have hl2 : Recs H2 c d.log.recs F1 := s2.keepSl RRec.good hl1 (fun k hk => own.disj k hk)
            have b2 : Step (F1 ++ F2) H H2 (F1 ++ G2) := b1.beside s2 rfl
            have hd3 : RDesk H2 [.bool true, c, .int .i64 d.log.forced, c2] (tellD d w) (F1 ++ G2) := by
              rw [tellD, if_neg hm]
              exact ⟨c, c2, F1, G2, by simp [hup], rfl, hl2, h2⟩
            simp only [go_sem, Nat.reduceEqDiff, Nat.reduceAdd, Nat.reduceMul, Nat.reduceLeDiff, Int.reduceEq, Int.reduceLT, Int.reduceLE, Int.reduceAdd, Int.reduceSub, Int.reduceNeg, Int.reduceMul, Int.reduceToNat, Int.cast_ofNat_Int, Int.natCast_zero, Nat.add_zero, reduceCtorEq, hm, ha]
            refine Does.call (does_s_l13Decide K hd3 b2.owned (tell_ok hok hg) p1 p6 (by rw [tell_trips]; omega)) ?_
            rintro _ H4 ⟨cs4, F', rfl, s4, h4⟩
            obtain ⟨z0, z1, z2, z3, rfl⟩ := len4 h4.cells
            simp only [go_sem, Nat.reduceEqDiff, Nat.reduceAdd, Nat.reduceMul, Nat.reduceLeDiff, Int.reduceEq, Int.reduceLT, Int.reduceLE, Int.reduceAdd, Int.reduceSub, Int.reduceNeg, Int.reduceMul, Int.reduceToNat, Int.cast_ofNat_Int, Int.natCast_zero, Nat.add_zero, reduceCtorEq]
            exact hQ _ _ (Ends.ret rfl ⟨_, F', rfl, b2.trans s4, by rw [hearD, if_pos hg]; exact h4⟩)
end Go.AX

/- What happens in a world: the reference. Condition: the data lie in memory. -/
namespace Go.AX
variable {P : Program} {I : Ids}
theorem mem_nets {w : Wld} (h : WInv w) {i : Nat} {x : Word} (hx : w.nets[i]? = some x) : wordOk x = true := h.nets x (List.mem_of_getElem? hx)
theorem does_s_l21Put (K : Codes P I) {H : Heap} {cs ds : List C} {w : Wld} {x : Word} {F G : List Nat} (hw : RWld H cs w F) (hx : RWord H ds x G) (ho : Owned H F) (wi : WInv w) (xo : wordOk x = true) : Does P I.s_l21Put [.agg cs, .agg ds] H fun v H' => WAns F H v H' := by
  obtain ⟨rfl, rfl⟩ := hx
  obtain ⟨y0, y1, y2, y3, c, n, F1, F2, F3, rfl, rfl, hd, hh, hn⟩ := hw.parts
  refine K.does K.s_l21Put rfl fun Q hQ => ?_
  by_cases hl : (w.nets.length : Int) < 14
  · have own : Owned H F3 := ho.part (fun a => by simp only [List.count_append, List.count_nil, List.count_cons]; omega)
    obtain ⟨c2, H2, G2, ha, h2, s2⟩ := app_one RWord.good (f := []) (by decide) hn (show RWord H _ x [] from ⟨rfl, rfl⟩) rfl (by simpa using own) (by simp [lenMax]; omega)
    rw [List.append_nil] at s2
    obtain ⟨t2, hd2, hh2⟩ := wld_nets hd hh ho s2
    simp only [go_sem, Nat.reduceEqDiff, Nat.reduceAdd, Nat.reduceMul, Nat.reduceLeDiff, Int.reduceEq, Int.reduceLT, Int.reduceLE, Int.reduceAdd, Int.reduceSub, Int.reduceNeg, Int.reduceMul, Int.reduceToNat, Int.cast_ofNat_Int, Int.natCast_zero, Nat.add_zero, reduceCtorEq, L_s_l21Put, hn.len, hl, ha]
    exact hQ _ _ (Ends.ret rfl ⟨_, ⟨w.desk, w.houses, w.nets ++ [x]⟩, _, rfl, t2, RWld.of hd2 hh2 h2, wi.newNets (by simp; omega) fun y hy => by
      rcases List.mem_append.1 hy with hy | hy
      · exact wi.nets y hy
      · rw [List.mem_singleton] at hy; subst hy; exact xo⟩)
  · simp only [go_sem, Nat.reduceEqDiff, Nat.reduceAdd, Nat.reduceMul, Nat.reduceLeDiff, Int.reduceEq, Int.reduceLT, Int.reduceLE, Int.reduceAdd, Int.reduceSub, Int.reduceNeg, Int.reduceMul, Int.reduceToNat, Int.cast_ofNat_Int, Int.natCast_zero, Nat.add_zero, reduceCtorEq, L_s_l21Put, hn.len, hl]
    exact hQ _ _ (Ends.ret rfl ⟨_, w, _, rfl, ho.step, hw, wi⟩)
theorem does_s_l21Take (K : Codes P I) {H : Heap} {cs : List C} {w : Wld} {i : Nat} {F : List Nat} (hw : RWld H cs w F) (ho : Owned H F) (wi : WInv w) (hi : i < w.nets.length) : Does P I.s_l21Take [.agg cs, int i] H fun v H' => WAns F H v H' := by
  obtain ⟨y0, y1, y2, y3, c, n, F1, F2, F3, rfl, rfl, hd, hh, hn⟩ := hw.parts
  have hroom := wi.room
  have hwr : IntKind.wrap .i64 ((i : Int) + 1) = ((i + 1 : Nat) : Int) := wrap_succ (by simp [lenTop]; omega)
  obtain ⟨c1, G1, hc1, hn1, _⟩ := slc_take hn (k := i) (by omega)
  obtain ⟨cells, c2, H2, F4, he, ha, hm2, s2⟩ := copy_flat RWord.good RWord.flat (by decide) hn1 (by simp [lenMax]; omega)
  have hn2 : Words H2 n w.nets F3 := s2.keepSl RWord.good hn (fun b _ => by simp)
  have own2 : Owned H2 F4 := s2.owned
  have hsub : ∀ x ∈ w.nets.take i ++ w.nets.drop (i + 1), wordOk x = true := fun x hx => by
    rcases List.mem_append.1 hx with hx | hx
    · exact wi.nets x (List.mem_of_mem_take hx)
    · exact wi.nets x (List.mem_of_mem_drop hx)
  obtain ⟨x, hx⟩ : ∃ x, w.nets[i]? = some x := ⟨w.nets[i]'hi, by simp⟩
  obtain ⟨b, off, bs, xcs, xf, rfl, e1, _⟩ := hn.get hx
  have hsz : H.szv b = some 4 := by
    rcases hn with ⟨_, hnil, _⟩ | ⟨b', pre, post, css, fs, st, hc, _, hb, hs, _⟩
    · rw [hnil] at hi; simp at hi
    · cases hc; exact Heap.szv_of hb hs
  have hblt := live_lt e1
  have e1' : H2.live b = some bs := live_keep s2 hblt (by simp) e1
  have hsz' : H2.szv b = some 4 := by unfold Heap.szv at *; rw [s2.old b hblt (by simp)]; exact hsz
  refine K.does K.s_l21Take rfl fun Q hQ => ?_
  simp only [go_sem, Nat.reduceEqDiff, Nat.reduceAdd, Nat.reduceMul, Nat.reduceLeDiff, Int.reduceEq, Int.reduceLT, Int.reduceLE, Int.reduceAdd, Int.reduceSub, Int.reduceNeg, Int.reduceMul, Int.reduceToNat, Int.cast_ofNat_Int, Int.natCast_zero, Nat.add_zero, reduceCtorEq, L_s_l21Take]
  refine RU_code_regionZ (zSl b 4 bs) (zSl_holds e1 hsz) ?_
  have fin : ∀ {cN : C} {H4 : Heap} {F5 : List Nat}, Step F4 H2 H4 F5 → Words H4 cN (w.nets.take i ++ w.nets.drop (i + 1)) F5 → WAns (F1 ++ (F2 ++ F3)) H (.val (.agg [y0, y1, y2, y3, c, cN])) H4 := fun {cN H4 F5} s4 h4 => by
    have s5 : Step F3 H H4 F5 := ((((ho.part (fun a => by simp only [List.count_append, List.count_nil, List.count_cons]; omega) : Owned H F3).step.with s2).part (fun a => by simp only [List.count_append, List.count_nil, List.count_cons]; omega) : Step F3 H H2 F4).trans s4)
    obtain ⟨t2, hd2, hh2⟩ := wld_nets hd hh ho s5
    exact ⟨_, ⟨w.desk, w.houses, w.nets.take i ++ w.nets.drop (i + 1)⟩, _, rfl, t2, RWld.of hd2 hh2 h4, wi.newNets (by simp only [List.length_append, List.length_take, List.length_drop]; omega) hsub⟩
  by_cases hlast : i + 1 < w.nets.length
  · obtain ⟨c3, G3, hc3, hn3, _⟩ := slc_drop hn2 (k := i + 1) hlast
    obtain ⟨css, gs, he3, hall3⟩ := hn3.all
    obtain ⟨c4, H4, F5, ha4, h4, s4⟩ := app_flat RWord.good RWord.flat (by decide) hm2 own2 hall3 (by simp [lenMax]; omega)
    have hz := slcZ_of (bs := bs) hc3 hsz' (by decide)
    have e4 : H4.live b = some bs := live_keep s4 (live_lt e1') (fun hc => by have := s2.ge b hc; omega) e1'
    have hsz4 : H4.szv b = some 4 := by unfold Heap.szv at *; rw [s4.old b (live_lt e1') (fun hc => by have := s2.ge b hc; omega)]; exact hsz'
    simp only [go_sem, Nat.reduceEqDiff, Nat.reduceAdd, Nat.reduceMul, Nat.reduceLeDiff, Int.reduceEq, Int.reduceLT, Int.reduceLE, Int.reduceAdd, Int.reduceSub, Int.reduceNeg, Int.reduceMul, Int.reduceToNat, Int.cast_ofNat_Int, Int.natCast_zero, Nat.add_zero, reduceCtorEq, hc1, he, ha, hwr, hz, he3, ha4, RUh_zSl e1' hsz', RUh_zSl e4 hsz4]
    exact hQ _ _ (Ends.ret rfl (fin s4 h4))
  · have hl : i + 1 = w.nets.length := by omega
    have hdr : w.nets.drop (i + 1) = [] := List.drop_of_length_le (by omega)
    have hz : slcZ (zSl b 4 bs) 4 (.sl b off w.nets.length) ((i + 1 : Nat) : Int) none = some (.emp false) := by
      have h1 : (0 : Int) ≤ ((i + 1 : Nat) : Int) ∧ ((i + 1 : Nat) : Int) ≤ (w.nets.length : Int) ∧ (w.nets.length : Int) ≤ (w.nets.length : Int) := by omega
      have h2 : ¬ ((i + 1 : Nat) : Int) = 0 := by omega
      have h3 : ¬ ((i + 1 : Nat) : Int).toNat < w.nets.length := by simp; omega
      simp only [slcZ, Option.getD_none, if_pos h1, if_neg h2, if_neg h3]
    have ha4 : appC H2 4 c2 [] = some (c2, H2) := by
      rcases hm2 with ⟨hc, _, _⟩ | ⟨b', pre, post, css, fs, st, rfl, rfl, hb, hs, ha, _⟩
      · rcases hc with rfl | rfl <;> rfl
      · have hw : st = .rw := own2.st (by simp) hb
        subst hw
        simp only [appC, Heap.own_of hb]
        rw [slab_mid' rfl ha.flat]
        rfl
    have he3 : H2.elems 4 (.emp false) = some [] := rfl
    simp only [go_sem, Nat.reduceEqDiff, Nat.reduceAdd, Nat.reduceMul, Nat.reduceLeDiff, Int.reduceEq, Int.reduceLT, Int.reduceLE, Int.reduceAdd, Int.reduceSub, Int.reduceNeg, Int.reduceMul, Int.reduceToNat, Int.cast_ofNat_Int, Int.natCast_zero, Nat.add_zero, reduceCtorEq, hc1, he, ha, hwr, hz, he3, ha4, RUh_zSl e1' hsz']
    exact hQ _ _ (Ends.ret rfl (fin own2.step (by rw [hdr, List.append_nil]; exact hm2)))
theorem hearW_ok {h : House} {w : Word} (hk : houseOk h = true) (hw : wordOk w = true) (ho : hearOk h w = true) : wordOk (hearW h w) = true := by
  obtain ⟨hid, _⟩ := houseOk_parts hk
  obtain ⟨_, _, ht, _⟩ := wordOk_parts hw
  unfold hearW; rw [if_pos ho]
  simp only [hearOk, Bool.and_eq_true, decide_eq_true_eq] at ho
  obtain ⟨_, _, hne⟩ := ho
  have ha : 4 ≤ houseAnswer h w ∧ houseAnswer h w ≤ 7 := by
    revert hne
    unfold houseAnswer answerK
    (repeat' split) <;> omega
  simp only [wordOk, inB]
  have h1 : ¬ houseAnswer h w = 1 := by omega
  simp [h1, ha.2, hid, ht]; omega
set_option maxHeartbeats 2000000 in
set_option maxRecDepth 8000 in
theorem does_s_l21Hear (K : Codes P I) {H : Heap} {cs ds : List C} {w : Wld} {x : Word} {F G : List Nat} (hw : RWld H cs w F) (hx : RWord H ds x G) (ho : Owned H F) (wi : WInv w) (xo : wordOk x = true) :
    Does P I.s_l21Hear [.agg cs, .agg ds] H fun v H' => ∃ cs' ws w' a F' ok, v = .tup [.agg cs', .agg ws, .c (.bool ok)] ∧ Step F H H' F' ∧ RWld H' cs' w' F' ∧ WInv w' ∧ RWord H' ws a [] ∧ (ok = true → wordOk a = true) := by
  obtain ⟨rfl, rfl⟩ := hx
  obtain ⟨y0, y1, y2, y3, c, n, F1, F2, F3, rfl, rfl, hd, hh, hn⟩ := hw.parts
  obtain ⟨_, ⟨p1, p3⟩, _⟩ := wordOk_parts xo
  refine K.does K.s_l21Hear rfl fun Q hQ => ?_
  by_cases h4 : 4 ≤ x.kind
  · simp only [go_sem, Nat.reduceEqDiff, Nat.reduceAdd, Nat.reduceMul, Nat.reduceLeDiff, Int.reduceEq, Int.reduceLT, Int.reduceLE, Int.reduceAdd, Int.reduceSub, Int.reduceNeg, Int.reduceMul, Int.reduceToNat, Int.cast_ofNat_Int, Int.natCast_zero, Nat.add_zero, reduceCtorEq, L_s_l21Hear, h4]
    refine Does.call (does_s_l13Hear K hd (show RWord H _ x [] from ⟨rfl, rfl⟩) (ho.part (fun a => by simp only [List.count_append, List.count_nil, List.count_cons]; omega) : Owned H F1) wi.desk) ?_
    rintro _ H1 ⟨cs1, G1, rfl, s1, hd1⟩
    obtain ⟨z0, z1, z2, z3, rfl⟩ := len4 hd1.cells
    obtain ⟨t1, hh1, hn1⟩ := wld_desk hh hn ho s1
    simp only [go_sem, Nat.reduceEqDiff, Nat.reduceAdd, Nat.reduceMul, Nat.reduceLeDiff, Int.reduceEq, Int.reduceLT, Int.reduceLE, Int.reduceAdd, Int.reduceSub, Int.reduceNeg, Int.reduceMul, Int.reduceToNat, Int.cast_ofNat_Int, Int.natCast_zero, Nat.add_zero, reduceCtorEq]
    exact hQ _ _ (Ends.ret rfl ⟨_, _, ⟨hearD w.desk x, w.houses, w.nets⟩, word0, _, false, rfl, t1, RWld.of hd1 hh1 hn1, wi.newDesk (hear_ok wi.desk), ⟨rfl, rfl⟩, by simp⟩)
  · obtain ⟨i, hi⟩ : ∃ i : Nat, x.house = i + 1 := ⟨(x.house - 1).toNat, by omega⟩
    have hi3 : i < 3 := by omega
    have hlen := wi.len
    obtain ⟨h, hx⟩ : ∃ h, w.houses[i]? = some h := ⟨w.houses[i]'(by omega), by simp⟩
    obtain ⟨hk, hid⟩ := wi.house i h hx
    have hlt : (i : Int) < w.houses.length := by omega
    have hwr : IntKind.wrap .i64 (x.house - 1) = (i : Int) := by rw [wrap_i64 (by omega) (by omega)]; omega
    obtain ⟨b, off, bs, hcs, f, A, B, rfl, hb, hsl, hl, hr, hof, put⟩ := sl_set RHouse.good hh (ho.part (fun a => by simp only [List.count_append, List.count_nil, List.count_cons]; omega) : Owned H F2) hx
    obtain ⟨z0, z1, z2, z3, z4, rfl⟩ := len5 hl
    have lv := Heap.live_of hb (by decide)
    simp only [go_sem, Nat.reduceEqDiff, Nat.reduceAdd, Nat.reduceMul, Nat.reduceLeDiff, Int.reduceEq, Int.reduceLT, Int.reduceLE, Int.reduceAdd, Int.reduceSub, Int.reduceNeg, Int.reduceMul, Int.reduceToNat, Int.cast_ofNat_Int, Int.natCast_zero, Nat.add_zero, reduceCtorEq, L_s_l21Hear, h4, hwr, hlt, lv, hsl]
    refine Does.call (does_s_l11Hear K hr hof (show RWord H _ x [] from ⟨rfl, rfl⟩) hk) ?_
    rintro _ H1 ⟨cs1, ws1, G1, rfl, s1, hr1, rfl, _⟩
    obtain ⟨v0, v1, v2, v3, v4, rfl⟩ := len5 hr1.cells
    obtain ⟨H2, lv1, own1, le1, wr1, hh2, s2⟩ := put H1 G1 (hearH h x) 0 [v0, v1, v2, v3, v4] s1 (by simp) (by rw [show splice [z0, z1, z2, z3, z4] 0 [v0, v1, v2, v3, v4] = [v0, v1, v2, v3, v4] from rfl]; exact hr1)
    obtain ⟨t2, hd2, hn2⟩ := wld_houses hd hn ho s2
    simp only [Nat.add_zero, List.length_cons, List.length_nil] at le1 wr1
    simp only [go_sem, Nat.reduceEqDiff, Nat.reduceAdd, Nat.reduceMul, Nat.reduceLeDiff, Int.reduceEq, Int.reduceLT, Int.reduceLE, Int.reduceAdd, Int.reduceSub, Int.reduceNeg, Int.reduceMul, Int.reduceToNat, Int.cast_ofNat_Int, Int.natCast_zero, Nat.add_zero, reduceCtorEq, hwr, hlt, own1, le1, wr1]
    exact hQ _ _ (Ends.ret rfl ⟨_, _, ⟨w.desk, w.houses.set i (hearH h x), w.nets⟩, hearW h x, _, hearOk h x, rfl, t2, RWld.of hd2 hh2 hn2, wi.newHouse hi3 (hearH_ok hk) (by rw [hearH_id]; exact hid), ⟨rfl, rfl⟩, hearW_ok hk xo⟩)
set_option maxHeartbeats 2000000 in
set_option maxRecDepth 8000 in
theorem does_s_l21Net (K : Codes P I) {H : Heap} {cs : List C} {w : Wld} {k A B : Int} {cm : C} {F : List Nat} (hw : RWld H cs w F) (ho : Owned H F) (wi : WInv w) :
    Does P I.s_l21Net [.agg cs, .agg [.int .i64 k, .int .i64 A, .int .i64 B, cm]] H fun v H' => WAns F H v H' := by
  obtain ⟨y0, y1, y2, y3, c, n, F1, F2, F3, rfl, rfl, hd, hh, hn⟩ := hw.parts
  have hroom := wi.room
  have hwl : IntKind.wrap .i64 ((w.nets.length : Int) - 1) = (w.nets.length : Int) - 1 := wrap_i64 (by omega) (by omega)
  refine K.does K.s_l21Net rfl fun Q hQ => ?_
  simp only [go_sem, Nat.reduceEqDiff, Nat.reduceAdd, Nat.reduceMul, Nat.reduceLeDiff, Int.reduceEq, Int.reduceLT, Int.reduceLE, Int.reduceAdd, Int.reduceSub, Int.reduceNeg, Int.reduceMul, Int.reduceToNat, Int.cast_ofNat_Int, Int.natCast_zero, Nat.add_zero, reduceCtorEq, L_s_l21Net, hn.len, hwl]
  refine Does.test (does_s_l6In K) ?_
  cases hin : inB A 0 ((w.nets.length : Int) - 1) with
  | false =>
    simp only [go_sem, Nat.reduceEqDiff, Nat.reduceAdd, Nat.reduceMul, Nat.reduceLeDiff, Int.reduceEq, Int.reduceLT, Int.reduceLE, Int.reduceAdd, Int.reduceSub, Int.reduceNeg, Int.reduceMul, Int.reduceToNat, Int.cast_ofNat_Int, Int.natCast_zero, Nat.add_zero, reduceCtorEq]
    exact hQ _ _ (Ends.ret rfl ⟨_, w, _, rfl, ho.step, hw, wi⟩)
  | true =>
    simp only [inB, Bool.and_eq_true, decide_eq_true_eq] at hin
    obtain ⟨i, rfl⟩ : ∃ i : Nat, A = i := ⟨A.toNat, by omega⟩
    have hlt : (i : Int) < w.nets.length := by omega
    have hltn : i < w.nets.length := by omega
    obtain ⟨x, hx⟩ := get_lt hlt
    have xo := mem_nets wi hx
    obtain ⟨b1, o1, bs1, cs1, f1, rfl, e1, e2, ⟨rfl, _⟩, _⟩ := hn.get hx
    by_cases k5 : k = 5
    · simp only [go_sem, Nat.reduceEqDiff, Nat.reduceAdd, Nat.reduceMul, Nat.reduceLeDiff, Int.reduceEq, Int.reduceLT, Int.reduceLE, Int.reduceAdd, Int.reduceSub, Int.reduceNeg, Int.reduceMul, Int.reduceToNat, Int.cast_ofNat_Int, Int.natCast_zero, Nat.add_zero, reduceCtorEq, hlt, e1, e2, k5]
      refine Does.call (does_s_l21Take K hw ho wi hltn) ?_
      rintro _ H1 ⟨cs1, w1, G1, rfl, s1, hw1, wi1⟩
      obtain ⟨z0, z1, z2, z3, z4, z5, Z1, Z2, Z3, rfl, rfl, _, _, _⟩ := hw1.parts
      simp only [go_sem, Nat.reduceEqDiff, Nat.reduceAdd, Nat.reduceMul, Nat.reduceLeDiff, Int.reduceEq, Int.reduceLT, Int.reduceLE, Int.reduceAdd, Int.reduceSub, Int.reduceNeg, Int.reduceMul, Int.reduceToNat, Int.cast_ofNat_Int, Int.natCast_zero, Nat.add_zero, reduceCtorEq]
      exact hQ _ _ (Ends.ret rfl ⟨_, w1, _, rfl, s1, hw1, wi1⟩)
    · by_cases k6 : k = 6
      · simp only [go_sem, Nat.reduceEqDiff, Nat.reduceAdd, Nat.reduceMul, Nat.reduceLeDiff, Int.reduceEq, Int.reduceLT, Int.reduceLE, Int.reduceAdd, Int.reduceSub, Int.reduceNeg, Int.reduceMul, Int.reduceToNat, Int.cast_ofNat_Int, Int.natCast_zero, Nat.add_zero, reduceCtorEq, hlt, e1, e2, k6]
        refine Does.call (does_s_l21Put K hw (show RWord H _ x [] from ⟨rfl, rfl⟩) ho wi xo) ?_
        rintro _ H1 ⟨cs1, w1, G1, rfl, s1, hw1, wi1⟩
        obtain ⟨z0, z1, z2, z3, z4, z5, Z1, Z2, Z3, rfl, rfl, _, _, _⟩ := hw1.parts
        simp only [go_sem, Nat.reduceEqDiff, Nat.reduceAdd, Nat.reduceMul, Nat.reduceLeDiff, Int.reduceEq, Int.reduceLT, Int.reduceLE, Int.reduceAdd, Int.reduceSub, Int.reduceNeg, Int.reduceMul, Int.reduceToNat, Int.cast_ofNat_Int, Int.natCast_zero, Nat.add_zero, reduceCtorEq]
        exact hQ _ _ (Ends.ret rfl ⟨_, w1, _, rfl, s1, hw1, wi1⟩)
      · simp only [go_sem, Nat.reduceEqDiff, Nat.reduceAdd, Nat.reduceMul, Nat.reduceLeDiff, Int.reduceEq, Int.reduceLT, Int.reduceLE, Int.reduceAdd, Int.reduceSub, Int.reduceNeg, Int.reduceMul, Int.reduceToNat, Int.cast_ofNat_Int, Int.natCast_zero, Nat.add_zero, reduceCtorEq, hlt, e1, e2, k5, k6]
        refine Does.call (does_s_l21Take K hw ho wi hltn) ?_
        rintro _ H1 ⟨cs1, w1, G1, rfl, s1, hw1, wi1⟩
        obtain ⟨z0, z1, z2, z3, z4, z5, Z1, Z2, Z3, rfl, rfl, _, _, _⟩ := hw1.parts
        simp only [go_sem, Nat.reduceEqDiff, Nat.reduceAdd, Nat.reduceMul, Nat.reduceLeDiff, Int.reduceEq, Int.reduceLT, Int.reduceLE, Int.reduceAdd, Int.reduceSub, Int.reduceNeg, Int.reduceMul, Int.reduceToNat, Int.cast_ofNat_Int, Int.natCast_zero, Nat.add_zero, reduceCtorEq]
        refine Does.call (does_s_l21Hear K hw1 (show RWord H1 _ x [] from ⟨rfl, rfl⟩) s1.owned wi1 xo) ?_
        rintro _ H2 ⟨cs2, ws2, w2, a, G2, ok, rfl, s2, hw2, wi2, ⟨rfl, _⟩, hao⟩
        obtain ⟨u0, u1, u2, u3, u4, u5, U1, U2, U3, rfl, rfl, _, _, _⟩ := hw2.parts
        cases ok with
        | false =>
          simp only [go_sem, Nat.reduceEqDiff, Nat.reduceAdd, Nat.reduceMul, Nat.reduceLeDiff, Int.reduceEq, Int.reduceLT, Int.reduceLE, Int.reduceAdd, Int.reduceSub, Int.reduceNeg, Int.reduceMul, Int.reduceToNat, Int.cast_ofNat_Int, Int.natCast_zero, Nat.add_zero, reduceCtorEq]
          exact hQ _ _ (Ends.ret rfl ⟨_, w2, _, rfl, s1.trans s2, hw2, wi2⟩)
        | true =>
          simp only [go_sem, Nat.reduceEqDiff, Nat.reduceAdd, Nat.reduceMul, Nat.reduceLeDiff, Int.reduceEq, Int.reduceLT, Int.reduceLE, Int.reduceAdd, Int.reduceSub, Int.reduceNeg, Int.reduceMul, Int.reduceToNat, Int.cast_ofNat_Int, Int.natCast_zero, Nat.add_zero, reduceCtorEq]
          refine Does.call (does_s_l21Put K hw2 (show RWord H2 _ a [] from ⟨rfl, rfl⟩) s2.owned wi2 (hao rfl)) ?_
          rintro _ H3 ⟨cs3, w3, G3, rfl, s3, hw3, wi3⟩
          obtain ⟨v0, v1, v2, v3, v4, v5, V1, V2, V3, rfl, rfl, _, _, _⟩ := hw3.parts
          simp only [go_sem, Nat.reduceEqDiff, Nat.reduceAdd, Nat.reduceMul, Nat.reduceLeDiff, Int.reduceEq, Int.reduceLT, Int.reduceLE, Int.reduceAdd, Int.reduceSub, Int.reduceNeg, Int.reduceMul, Int.reduceToNat, Int.cast_ofNat_Int, Int.natCast_zero, Nat.add_zero, reduceCtorEq]
          exact hQ _ _ (Ends.ret rfl ⟨_, w3, _, rfl, (s1.trans s2).trans s3, hw3, wi3⟩)
end Go.AX

/- What happens at desks and houses of a world: the reference. Condition: the data lie in memory. -/
namespace Go.AX
variable {P : Program} {I : Ids}
theorem wld_desk2 {H H2 H3 : Heap} {F Fd G F2 F3 : List Nat} {c n : C} {w : Wld} (b : Step F H H2 ((F2 ++ F3) ++ Fd)) (hh : Houses H2 c w.houses F2) (hn : Words H2 n w.nets F3) (s : Step Fd H2 H3 G) : Step F H H3 (G ++ (F2 ++ F3)) ∧ Houses H3 c w.houses F2 ∧ Words H3 n w.nets F3 := by
  have dis := b.owned.disj
  exact ⟨(b.beside s rfl).part fun a => by simp only [List.count_append]; omega, s.keepSl RHouse.good hh fun k hk => dis k (by simp [hk]), s.keepSl RWord.good hn fun k hk => dis k (by simp [hk])⟩
theorem wordsOfTrip_ok {told : List Word} {trip state : Int} (ht : 1 ≤ trip ∧ trip ≤ 6) (hs : 1 ≤ state) : ∀ (ms : List Int) (h : Nat), h + ms.length ≤ 3 → (∀ n ∈ ms, 0 ≤ n ∧ n ≤ 3) → ∀ x ∈ wordsOfTrip told trip state ms h, wordOk x = true
  | [], _, _, _, x, hx => by simp [wordsOfTrip] at hx
  | n :: r, h, hl, hm, x, hx => by
    simp only [wordsOfTrip, List.mem_append] at hx
    simp only [List.length_cons] at hl
    rcases hx with hx | hx
    · by_cases hc : n = 0 ∨ 3 < state ∨ toldB told (state + (if state = 1 then 3 else 4)) (h + 1) trip = true
      · rw [if_pos hc] at hx; simp at hx
      · rw [if_neg hc, List.mem_singleton] at hx
        subst hx
        have h1 := hm n (by simp)
        have h2 : n ≠ 0 ∧ state ≤ 3 := ⟨fun e => hc (.inl e), Int.not_lt.1 fun e => hc (.inr (.inl e))⟩
        by_cases e : state = 1
        · simp [wordOk, inB, e, ht]; omega
        · simp [wordOk, inB, e, ht]; omega
    · exact wordsOfTrip_ok ht hs r (h + 1) (by omega) (fun k hk => hm k (by simp [hk])) x hx
theorem manyOk_range {ms : List Int} (h : manyOk ms = true) : ms.length = 3 ∧ ∀ n ∈ ms, 0 ≤ n ∧ n ≤ 3 := by
  simp only [manyOk, inB, Bool.and_eq_true, decide_eq_true_eq, List.all_eq_true] at h
  exact ⟨h.1, h.2.1⟩
theorem wordsOf_ok {told : List Word} : ∀ (l : List Trip) (s : Nat), s + l.length ≤ 6 → (∀ t ∈ l, manyOk t.many = true ∧ 1 ≤ t.state ∧ t.state ≤ 5) → ∀ x ∈ wordsOf told l s, wordOk x = true
  | [], _, _, _, x, hx => by simp [wordsOf] at hx
  | t :: r, s, hl, h, x, hx => by
    simp only [wordsOf, List.mem_append] at hx
    simp only [List.length_cons] at hl
    rcases hx with hx | hx
    · obtain ⟨h1, h2, _⟩ := h t (by simp)
      obtain ⟨h3, h4⟩ := manyOk_range h1
      exact wordsOfTrip_ok (by omega) h2 t.many 0 (by omega) h4 x hx
    · exact wordsOf_ok r (s + 1) (by omega) (fun u hu => h u (by simp [hu])) x hx
theorem wordsD_ok {d : Desk} (h : deskOk d = true) : ∀ x ∈ wordsD d, wordOk x = true := by
  obtain ⟨h1, h2⟩ := tripsOk_parts (tripsV_ok h true)
  unfold wordsD; split
  · exact wordsOf_ok _ 0 (by omega) h2
  · simp
set_option maxHeartbeats 2000000 in
set_option maxRecDepth 8000 in
theorem does_s_l21Desk (K : Codes P I) {H : Heap} {cs : List C} {w : Wld} {k A B : Int} {cm : C} {many : List Int} {F G : List Nat} (hw : RWld H cs w F) (ho : Owned H F) (wi : WInv w) (hm : Ints H cm many G) (hml : many.length ≤ lenMax) :
    Does P I.s_l21Desk [.agg cs, .agg [.int .i64 k, .int .i64 A, .int .i64 B, cm]] H fun v H' => WAns F H v H' := by
  obtain ⟨y0, y1, y2, y3, c, n, F1, F2, F3, rfl, rfl, hd, hh, hn⟩ := hw.parts
  have hok := wi.desk
  have hlok := (deskOk_parts hok).2.1
  refine K.does K.s_l21Desk rfl fun Q hQ => ?_
  by_cases k1 : k = 1
  · simp only [go_sem, Nat.reduceEqDiff, Nat.reduceAdd, Nat.reduceMul, Nat.reduceLeDiff, Int.reduceEq, Int.reduceLT, Int.reduceLE, Int.reduceAdd, Int.reduceSub, Int.reduceNeg, Int.reduceMul, Int.reduceToNat, Int.cast_ofNat_Int, Int.natCast_zero, Nat.add_zero, reduceCtorEq, L_s_l21Desk, k1]
    refine Does.call (does_s_l13Trips K (f := false) hd hlok) ?_
    rintro _ H1 ⟨ct, Gt, rfl, s1, htr⟩
    replace s1 : Step [] H H1 Gt := s1
    have hlen : (tripsV w.desk false).length ≤ 6 := by have := tripsV_ok hok false; simp only [tripsOk, Bool.and_eq_true, decide_eq_true_eq] at this; exact this.1
    have hwl := wrap_succ (show (tripsV w.desk false).length ≤ lenTop by simp [lenTop]; omega)
    obtain ⟨cells, c2, H2, Gm, he, ha, hm2, s2⟩ := copy_flat RInt.good RInt.flat (by decide) (s1.keepSl RInt.good hm (fun b _ => by simp)) hml
    have t2 : Step [] H H2 Gm := (s1.with s2).part (fun a => by simp only [List.count_append, List.count_nil, List.count_cons]; omega)
    have hw2 := t2.stay RWld.good hw
    have hd2 := t2.stay RDesk.good hd
    have hh2 : Houses H2 c w.houses F2 := t2.keepSl RHouse.good hh (fun b _ => by simp)
    have hn2 : Words H2 n w.nets F3 := t2.keepSl RWord.good hn (fun b _ => by simp)
    have b2 : Step (F1 ++ (F2 ++ F3)) H H2 ((F2 ++ F3) ++ (F1 ++ Gm)) := (ho.step.with t2).part (fun a => by simp only [List.count_append, List.count_nil, List.count_cons]; omega)
    have hr2 : RRec H2 [.int .i64 4, .int .i64 ((tripsV w.desk false).length + 1 : Nat), c2] (beginRec w.desk many) Gm := ⟨c2, by simp [beginRec], hm2⟩
    simp only [go_sem, Nat.reduceEqDiff, Nat.reduceAdd, Nat.reduceMul, Nat.reduceLeDiff, Int.reduceEq, Int.reduceLT, Int.reduceLE, Int.reduceAdd, Int.reduceSub, Int.reduceNeg, Int.reduceMul, Int.reduceToNat, Int.cast_ofNat_Int, Int.natCast_zero, Nat.add_zero, reduceCtorEq, htr.len, hwl, he, ha]
    refine Does.test (does_s_RecOk K hr2) ?_
    cases hrk : recOk (beginRec w.desk many) with
    | false =>
      simp only [go_sem, Nat.reduceEqDiff, Nat.reduceAdd, Nat.reduceMul, Nat.reduceLeDiff, Int.reduceEq, Int.reduceLT, Int.reduceLE, Int.reduceAdd, Int.reduceSub, Int.reduceNeg, Int.reduceMul, Int.reduceToNat, Int.cast_ofNat_Int, Int.natCast_zero, Nat.add_zero, reduceCtorEq, hrk]
      exact hQ _ _ (Ends.ret rfl ⟨_, w, F1 ++ (F2 ++ F3), rfl, b2.part (fun a => by simp only [List.count_append, List.count_nil, List.count_cons]; omega), hw2, wi⟩)
    | true =>
      simp only [go_sem, Nat.reduceEqDiff, Nat.reduceAdd, Nat.reduceMul, Nat.reduceLeDiff, Int.reduceEq, Int.reduceLT, Int.reduceLE, Int.reduceAdd, Int.reduceSub, Int.reduceNeg, Int.reduceMul, Int.reduceToNat, Int.cast_ofNat_Int, Int.natCast_zero, Nat.add_zero, reduceCtorEq]
      refine Does.call (does_s_l13Write K hd2 hr2 (b2.owned.part (fun a => by simp only [List.count_append, List.count_nil, List.count_cons]; omega)) hok hrk) ?_
      rintro _ H3 ⟨cs3, G3, rfl, s3, hd3⟩
      obtain ⟨z0, z1, z2, z3, rfl⟩ := len4 hd3.cells
      obtain ⟨t3, hh3, hn3⟩ := wld_desk2 b2 hh2 hn2 s3
      simp only [go_sem, Nat.reduceEqDiff, Nat.reduceAdd, Nat.reduceMul, Nat.reduceLeDiff, Int.reduceEq, Int.reduceLT, Int.reduceLE, Int.reduceAdd, Int.reduceSub, Int.reduceNeg, Int.reduceMul, Int.reduceToNat, Int.cast_ofNat_Int, Int.natCast_zero, Nat.add_zero, reduceCtorEq]
      exact hQ _ _ (Ends.ret rfl ⟨_, ⟨deskWrite w.desk (beginRec w.desk many), w.houses, w.nets⟩, _, rfl, t3, RWld.of hd3 hh3 hn3, wi.newDesk (deskWrite_ok hok hrk)⟩)
  · by_cases k2 : k = 2
    · simp only [go_sem, Nat.reduceEqDiff, Nat.reduceAdd, Nat.reduceMul, Nat.reduceLeDiff, Int.reduceEq, Int.reduceLT, Int.reduceLE, Int.reduceAdd, Int.reduceSub, Int.reduceNeg, Int.reduceMul, Int.reduceToNat, Int.cast_ofNat_Int, Int.natCast_zero, Nat.add_zero, reduceCtorEq, L_s_l21Desk, k1, k2]
      refine Does.test (does_s_l6In K) ?_
      cases hin : inB A 1 6 with
      | false =>
        simp only [go_sem, Nat.reduceEqDiff, Nat.reduceAdd, Nat.reduceMul, Nat.reduceLeDiff, Int.reduceEq, Int.reduceLT, Int.reduceLE, Int.reduceAdd, Int.reduceSub, Int.reduceNeg, Int.reduceMul, Int.reduceToNat, Int.cast_ofNat_Int, Int.natCast_zero, Nat.add_zero, reduceCtorEq, hin]
        exact hQ _ _ (Ends.ret rfl ⟨_, w, F1 ++ (F2 ++ F3), rfl, ho.step, hw, wi⟩)
      | true =>
        simp only [go_sem, Nat.reduceEqDiff, Nat.reduceAdd, Nat.reduceMul, Nat.reduceLeDiff, Int.reduceEq, Int.reduceLT, Int.reduceLE, Int.reduceAdd, Int.reduceSub, Int.reduceNeg, Int.reduceMul, Int.reduceToNat, Int.cast_ofNat_Int, Int.natCast_zero, Nat.add_zero, reduceCtorEq]
        refine Does.call (does_s_l13Write K hd (show RRec H [.int .i64 6, .int .i64 A, .emp true] (giveRec A) [] from ⟨.emp true, rfl, .emp⟩) (by rw [List.append_nil]; exact (ho.part (fun a => by simp only [List.count_append, List.count_nil, List.count_cons]; omega) : Owned H F1)) hok (give_ok hin)) ?_
        rintro _ H3 ⟨cs3, G3, rfl, s3, hd3⟩
        rw [List.append_nil] at s3
        obtain ⟨z0, z1, z2, z3, rfl⟩ := len4 hd3.cells
        obtain ⟨t3, hh3, hn3⟩ := wld_desk hh hn ho s3
        simp only [go_sem, Nat.reduceEqDiff, Nat.reduceAdd, Nat.reduceMul, Nat.reduceLeDiff, Int.reduceEq, Int.reduceLT, Int.reduceLE, Int.reduceAdd, Int.reduceSub, Int.reduceNeg, Int.reduceMul, Int.reduceToNat, Int.cast_ofNat_Int, Int.natCast_zero, Nat.add_zero, reduceCtorEq]
        exact hQ _ _ (Ends.ret rfl ⟨_, ⟨deskWrite w.desk (giveRec A), w.houses, w.nets⟩, _, rfl, t3, RWld.of hd3 hh3 hn3, wi.newDesk (deskWrite_ok hok (give_ok hin))⟩)
    · by_cases k3 : k = 3
      · simp only [go_sem, Nat.reduceEqDiff, Nat.reduceAdd, Nat.reduceMul, Nat.reduceLeDiff, Int.reduceEq, Int.reduceLT, Int.reduceLE, Int.reduceAdd, Int.reduceSub, Int.reduceNeg, Int.reduceMul, Int.reduceToNat, Int.cast_ofNat_Int, Int.natCast_zero, Nat.add_zero, reduceCtorEq, L_s_l21Desk, k1, k2, k3]
        refine Does.call (does_s_l13Words K hd hok) ?_
        rintro _ H1 ⟨c1, G1, rfl, s1, h1⟩
        replace s1 : Step [] H H1 G1 := s1
        have hl18 := wordsD_len w.desk hok
        have hwl : IntKind.wrap .i64 (((wordsD w.desk).length : Int) - 1) = ((wordsD w.desk).length : Int) - 1 := wrap_i64 (by omega) (by omega)
        have b1 : Step (F1 ++ (F2 ++ F3)) H H1 (F1 ++ (F2 ++ F3)) := (ho.step.with s1).part (fun a => by simp only [List.count_append, List.count_nil, List.count_cons]; omega)
        have hw1 := s1.stay RWld.good hw
        simp only [go_sem, Nat.reduceEqDiff, Nat.reduceAdd, Nat.reduceMul, Nat.reduceLeDiff, Int.reduceEq, Int.reduceLT, Int.reduceLE, Int.reduceAdd, Int.reduceSub, Int.reduceNeg, Int.reduceMul, Int.reduceToNat, Int.cast_ofNat_Int, Int.natCast_zero, Nat.add_zero, reduceCtorEq, h1.len, hwl]
        refine Does.test (does_s_l6In K) ?_
        cases hin : inB A 0 (((wordsD w.desk).length : Int) - 1) with
        | false =>
          simp only [go_sem, Nat.reduceEqDiff, Nat.reduceAdd, Nat.reduceMul, Nat.reduceLeDiff, Int.reduceEq, Int.reduceLT, Int.reduceLE, Int.reduceAdd, Int.reduceSub, Int.reduceNeg, Int.reduceMul, Int.reduceToNat, Int.cast_ofNat_Int, Int.natCast_zero, Nat.add_zero, reduceCtorEq, hin]
          exact hQ _ _ (Ends.ret rfl ⟨_, w, F1 ++ (F2 ++ F3), rfl, b1, hw1, wi⟩)
        | true =>
          simp only [inB, Bool.and_eq_true, decide_eq_true_eq] at hin
          obtain ⟨i, rfl⟩ : ∃ i : Nat, A = i := ⟨A.toNat, by omega⟩
          have hlt : (i : Int) < (wordsD w.desk).length := by omega
          obtain ⟨x, hx⟩ := get_lt hlt
          have xo : wordOk x = true := wordsD_ok hok x (List.mem_of_getElem? hx)
          obtain ⟨b1', o1, bs1, cs1, f1, rfl, e1, e2, ⟨rfl, _⟩, _⟩ := h1.get hx
          simp only [go_sem, Nat.reduceEqDiff, Nat.reduceAdd, Nat.reduceMul, Nat.reduceLeDiff, Int.reduceEq, Int.reduceLT, Int.reduceLE, Int.reduceAdd, Int.reduceSub, Int.reduceNeg, Int.reduceMul, Int.reduceToNat, Int.cast_ofNat_Int, Int.natCast_zero, Nat.add_zero, reduceCtorEq, hlt, e1, e2]
          refine Does.call (does_s_l21Put K hw1 (show RWord H1 _ x [] from ⟨rfl, rfl⟩) b1.owned wi xo) ?_
          rintro _ H2 ⟨cs2, w2, G2, rfl, s2, hw2, wi2⟩
          obtain ⟨z0, z1, z2, z3, z4, z5, Z1, Z2, Z3, rfl, rfl, _, _, _⟩ := hw2.parts
          simp only [go_sem, Nat.reduceEqDiff, Nat.reduceAdd, Nat.reduceMul, Nat.reduceLeDiff, Int.reduceEq, Int.reduceLT, Int.reduceLE, Int.reduceAdd, Int.reduceSub, Int.reduceNeg, Int.reduceMul, Int.reduceToNat, Int.cast_ofNat_Int, Int.natCast_zero, Nat.add_zero, reduceCtorEq]
          exact hQ _ _ (Ends.ret rfl ⟨_, w2, _, rfl, b1.trans s2, hw2, wi2⟩)
      · simp only [go_sem, Nat.reduceEqDiff, Nat.reduceAdd, Nat.reduceMul, Nat.reduceLeDiff, Int.reduceEq, Int.reduceLT, Int.reduceLE, Int.reduceAdd, Int.reduceSub, Int.reduceNeg, Int.reduceMul, Int.reduceToNat, Int.cast_ofNat_Int, Int.natCast_zero, Nat.add_zero, reduceCtorEq, L_s_l21Desk, k1, k2, k3]
        exact hQ _ _ (Ends.ret rfl ⟨_, w, F1 ++ (F2 ++ F3), rfl, ho.step, hw, wi⟩)
set_option maxHeartbeats 2000000 in
set_option maxRecDepth 8000 in
theorem does_s_l21Force (K : Codes P I) {H : Heap} {cs : List C} {w : Wld} {who : Int} {F : List Nat} (hw : RWld H cs w F) (ho : Owned H F) (wi : WInv w) : Does P I.s_l21Force [.agg cs, int who] H fun v H' => WAns F H v H' := by
  obtain ⟨y0, y1, y2, y3, c, n, F1, F2, F3, rfl, rfl, hd, hh, hn⟩ := hw.parts
  obtain ⟨rc, tc, D1, D2, hcs, rfl, hrec, htold⟩ := hd
  cases hcs
  refine K.does K.s_l21Force rfl fun Q hQ => ?_
  by_cases w0 : who = 0
  · subst w0
    cases hup : w.desk.up with
    | false =>
      rw [hup] at hw
      simp only [go_sem, Nat.reduceEqDiff, Nat.reduceAdd, Nat.reduceMul, Nat.reduceLeDiff, Int.reduceEq, Int.reduceLT, Int.reduceLE, Int.reduceAdd, Int.reduceSub, Int.reduceNeg, Int.reduceMul, Int.reduceToNat, Int.cast_ofNat_Int, Int.natCast_zero, Nat.add_zero, reduceCtorEq, L_s_l21Force, hup]
      refine Does.test (does_s_l6In K) ?_
      rw [show inB 0 1 3 = false by decide]
      simp only [go_sem, Nat.reduceEqDiff, Nat.reduceAdd, Nat.reduceMul, Nat.reduceLeDiff, Int.reduceEq, Int.reduceLT, Int.reduceLE, Int.reduceAdd, Int.reduceSub, Int.reduceNeg, Int.reduceMul, Int.reduceToNat, Int.cast_ofNat_Int, Int.natCast_zero, Nat.add_zero, reduceCtorEq]
      exact hQ _ _ (Ends.ret rfl ⟨_, w, _, rfl, ho.step, hw, wi⟩)
    | true =>
      simp only [go_sem, Nat.reduceEqDiff, Nat.reduceAdd, Nat.reduceMul, Nat.reduceLeDiff, Int.reduceEq, Int.reduceLT, Int.reduceLE, Int.reduceAdd, Int.reduceSub, Int.reduceNeg, Int.reduceMul, Int.reduceToNat, Int.cast_ofNat_Int, Int.natCast_zero, Nat.add_zero, reduceCtorEq, L_s_l21Force, hup, hrec.len]
      refine Does.test (does_s_l6In K) ?_
      rw [show inB 0 1 3 = false by decide]
      simp only [go_sem, Nat.reduceEqDiff, Nat.reduceAdd, Nat.reduceMul, Nat.reduceLeDiff, Int.reduceEq, Int.reduceLT, Int.reduceLE, Int.reduceAdd, Int.reduceSub, Int.reduceNeg, Int.reduceMul, Int.reduceToNat, Int.cast_ofNat_Int, Int.natCast_zero, Nat.add_zero, reduceCtorEq]
      exact hQ _ _ (Ends.ret rfl ⟨_, ⟨{ w.desk with log := forceL w.desk.log }, w.houses, w.nets⟩, _, rfl, ho.step, RWld.of ⟨y1, y3, D1, D2, by simp [forceL, hup], rfl, hrec, htold⟩ hh hn, wi.newDesk (deskForce_ok wi.desk)⟩)
  · simp only [go_sem, Nat.reduceEqDiff, Nat.reduceAdd, Nat.reduceMul, Nat.reduceLeDiff, Int.reduceEq, Int.reduceLT, Int.reduceLE, Int.reduceAdd, Int.reduceSub, Int.reduceNeg, Int.reduceMul, Int.reduceToNat, Int.cast_ofNat_Int, Int.natCast_zero, Nat.add_zero, reduceCtorEq, L_s_l21Force, w0]
    refine Does.test (does_s_l6In K) ?_
    cases hin : inB who 1 3 with
    | false =>
      simp only [go_sem, Nat.reduceEqDiff, Nat.reduceAdd, Nat.reduceMul, Nat.reduceLeDiff, Int.reduceEq, Int.reduceLT, Int.reduceLE, Int.reduceAdd, Int.reduceSub, Int.reduceNeg, Int.reduceMul, Int.reduceToNat, Int.cast_ofNat_Int, Int.natCast_zero, Nat.add_zero, reduceCtorEq]
      exact hQ _ _ (Ends.ret rfl ⟨_, w, _, rfl, ho.step, hw, wi⟩)
    | true =>
      simp only [inB, Bool.and_eq_true, decide_eq_true_eq] at hin
      obtain ⟨i, rfl⟩ : ∃ i : Nat, who = i + 1 := ⟨(who - 1).toNat, by omega⟩
      have hi3 : i < 3 := by omega
      have hlen := wi.len
      obtain ⟨h, hx⟩ : ∃ h, w.houses[i]? = some h := ⟨w.houses[i]'(by omega), by simp⟩
      obtain ⟨hk, hid⟩ := wi.house i h hx
      have hlt : (i : Int) < w.houses.length := by omega
      have hwr : IntKind.wrap .i64 ((i : Int) + 1 - 1) = (i : Int) := by rw [wrap_i64 (by omega) (by omega)]; omega
      obtain ⟨b, off, bs, hcs, f, A, B, rfl, hb, hsl, hl, ⟨cc, rfl, hrr⟩, hof, put⟩ := sl_set RHouse.good hh (ho.part (fun a => by simp only [List.count_append, List.count_nil, List.count_cons]; omega) : Owned H F2) hx
      have lv := Heap.live_of hb (by decide)
      have ld1 : slab bs (off + i * 5 + 1) 1 = some [.bool h.up] := (slab_sub hsl 1 1 (by simp)).trans rfl
      have ld3 : slab bs (off + i * 5 + 3) 1 = some [cc] := (slab_sub hsl 3 1 (by simp)).trans rfl
      cases hup : h.up with
      | false =>
        rw [hup] at ld1
        simp only [go_sem, Nat.reduceEqDiff, Nat.reduceAdd, Nat.reduceMul, Nat.reduceLeDiff, Int.reduceEq, Int.reduceLT, Int.reduceLE, Int.reduceAdd, Int.reduceSub, Int.reduceNeg, Int.reduceMul, Int.reduceToNat, Int.cast_ofNat_Int, Int.natCast_zero, Nat.add_zero, reduceCtorEq, hwr, hlt, lv, ld1]
        exact hQ _ _ (Ends.ret rfl ⟨_, w, _, rfl, ho.step, hw, wi⟩)
      | true =>
        obtain ⟨H2, _, own1, le1, wr1, hh2, s2⟩ := put H f { h with log := forceL h.log } 4 [.int .i64 h.log.recs.length] hof.step (by simp) ⟨cc, by simp [splice, forceL], hrr⟩
        obtain ⟨t2, hd2, hn2⟩ := wld_houses (w := w) ⟨y1, y3, D1, D2, rfl, rfl, hrec, htold⟩ hn ho s2
        rw [hup] at ld1
        simp only [List.length_cons, List.length_nil] at le1
        have le1' : off + i * 5 + 3 + 1 + 1 ≤ bs.length := by omega
        have wr1' : H.wr b (splice bs (off + i * 5 + 3 + 1) [.int .i64 h.log.recs.length]) = H2 := wr1
        simp only [go_sem, Nat.reduceEqDiff, Nat.reduceAdd, Nat.reduceMul, Nat.reduceLeDiff, Int.reduceEq, Int.reduceLT, Int.reduceLE, Int.reduceAdd, Int.reduceSub, Int.reduceNeg, Int.reduceMul, Int.reduceToNat, Int.cast_ofNat_Int, Int.natCast_zero, Nat.add_zero, reduceCtorEq, hwr, hlt, lv, ld1, ld3, hrr.len, own1, le1', wr1']
        exact hQ _ _ (Ends.ret rfl ⟨_, ⟨w.desk, w.houses.set i { h with log := forceL h.log }, w.nets⟩, _, rfl, t2, RWld.of hd2 hh2 hn2, wi.newHouse hi3 (houseForce_ok hk) hid⟩)
set_option maxHeartbeats 4000000 in
set_option maxRecDepth 8000 in
theorem does_s_l21Node (K : Codes P I) {H : Heap} {cs : List C} {w : Wld} {k A B : Int} {cm : C} {F : List Nat} (hw : RWld H cs w F) (ho : Owned H F) (wi : WInv w) :
    Does P I.s_l21Node [.agg cs, .agg [.int .i64 k, .int .i64 A, .int .i64 B, cm]] H fun v H' => WAns F H v H' := by
  obtain ⟨y0, y1, y2, y3, c, n, F1, F2, F3, rfl, rfl, hd, hh, hn⟩ := hw.parts
  refine K.does K.s_l21Node rfl fun Q hQ => ?_
  simp only [go_sem, Nat.reduceEqDiff, Nat.reduceAdd, Nat.reduceMul, Nat.reduceLeDiff, Int.reduceEq, Int.reduceLT, Int.reduceLE, Int.reduceAdd, Int.reduceSub, Int.reduceNeg, Int.reduceMul, Int.reduceToNat, Int.cast_ofNat_Int, Int.natCast_zero, Nat.add_zero, reduceCtorEq, L_s_l21Node]
  refine Does.test (does_s_l6In K) ?_
  cases hin : inB A 0 3 with
  | false =>
    simp only [go_sem, Nat.reduceEqDiff, Nat.reduceAdd, Nat.reduceMul, Nat.reduceLeDiff, Int.reduceEq, Int.reduceLT, Int.reduceLE, Int.reduceAdd, Int.reduceSub, Int.reduceNeg, Int.reduceMul, Int.reduceToNat, Int.cast_ofNat_Int, Int.natCast_zero, Nat.add_zero, reduceCtorEq]
    exact hQ _ _ (Ends.ret rfl ⟨_, w, _, rfl, ho.step, hw, wi⟩)
  | true =>
    simp only [inB, Bool.and_eq_true, decide_eq_true_eq] at hin
    by_cases k7 : k = 7
    · simp only [go_sem, Nat.reduceEqDiff, Nat.reduceAdd, Nat.reduceMul, Nat.reduceLeDiff, Int.reduceEq, Int.reduceLT, Int.reduceLE, Int.reduceAdd, Int.reduceSub, Int.reduceNeg, Int.reduceMul, Int.reduceToNat, Int.cast_ofNat_Int, Int.natCast_zero, Nat.add_zero, reduceCtorEq, k7]
      refine Does.call (does_s_l21Force K hw ho wi) ?_
      rintro _ H1 ⟨cs1, w1, G1, rfl, s1, hw1, wi1⟩
      obtain ⟨z0, z1, z2, z3, z4, z5, Z1, Z2, Z3, rfl, rfl, _, _, _⟩ := hw1.parts
      simp only [go_sem, Nat.reduceEqDiff, Nat.reduceAdd, Nat.reduceMul, Nat.reduceLeDiff, Int.reduceEq, Int.reduceLT, Int.reduceLE, Int.reduceAdd, Int.reduceSub, Int.reduceNeg, Int.reduceMul, Int.reduceToNat, Int.cast_ofNat_Int, Int.natCast_zero, Nat.add_zero, reduceCtorEq]
      exact hQ _ _ (Ends.ret rfl ⟨_, w1, _, rfl, s1, hw1, wi1⟩)
    · by_cases k8 : k = 8
      · by_cases a0 : A = 0
        · simp only [go_sem, Nat.reduceEqDiff, Nat.reduceAdd, Nat.reduceMul, Nat.reduceLeDiff, Int.reduceEq, Int.reduceLT, Int.reduceLE, Int.reduceAdd, Int.reduceSub, Int.reduceNeg, Int.reduceMul, Int.reduceToNat, Int.cast_ofNat_Int, Int.natCast_zero, Nat.add_zero, reduceCtorEq, k7, k8, a0]
          refine Does.call (does_s_l13Fall K (keep := B) hd (deskOk_parts wi.desk).2.1) ?_
          rintro _ H1 ⟨cs1, G1, rfl, rfl, hsub, hd1⟩
          obtain ⟨z0, z1, z2, z3, rfl⟩ := len4 hd1.cells
          have s1 : Step F1 H1 H1 G1 := (ho.part (fun a => by simp only [List.count_append, List.count_nil, List.count_cons]; omega) : Owned H1 F1).step.less hsub
          obtain ⟨t1, hh1, hn1⟩ := wld_desk hh hn ho s1
          simp only [go_sem, Nat.reduceEqDiff, Nat.reduceAdd, Nat.reduceMul, Nat.reduceLeDiff, Int.reduceEq, Int.reduceLT, Int.reduceLE, Int.reduceAdd, Int.reduceSub, Int.reduceNeg, Int.reduceMul, Int.reduceToNat, Int.cast_ofNat_Int, Int.natCast_zero, Nat.add_zero, reduceCtorEq]
          exact hQ _ _ (Ends.ret rfl ⟨_, ⟨⟨false, fallL w.desk.log B, []⟩, w.houses, w.nets⟩, _, rfl, t1, RWld.of hd1 hh1 hn1, wi.newDesk (deskFall_ok wi.desk)⟩)
        · obtain ⟨i, rfl⟩ : ∃ i : Nat, A = i + 1 := ⟨(A - 1).toNat, by omega⟩
          have hi3 : i < 3 := by omega
          have hlen := wi.len
          obtain ⟨h, hx⟩ : ∃ h, w.houses[i]? = some h := ⟨w.houses[i]'(by omega), by simp⟩
          obtain ⟨hk, hid⟩ := wi.house i h hx
          have hlt : (i : Int) < w.houses.length := by omega
          have hwr : IntKind.wrap .i64 ((i : Int) + 1 - 1) = (i : Int) := by rw [wrap_i64 (by omega) (by omega)]; omega
          have hne : ¬ (i : Int) + 1 = 0 := by omega
          obtain ⟨b, off, bs, hcs, f, A1, B1, rfl, hb, hsl, hl, ⟨cc, rfl, hrr⟩, hof, put⟩ := sl_set RHouse.good hh (ho.part (fun a => by simp only [List.count_append, List.count_nil, List.count_cons]; omega) : Owned H F2) hx
          obtain ⟨H2, _, own1, le1, wr1, hh2, s2⟩ := put H f { h with up := false } 1 [.bool false] hof.step (by simp) ⟨cc, by simp [splice], hrr⟩
          simp only [List.length_cons, List.length_nil] at le1
          have hx2 : (w.houses.set i { h with up := false })[i]? = some { h with up := false } := by rw [List.getElem?_set_self (by omega)]
          have hlt2 : (i : Int) < (w.houses.set i { h with up := false }).length := by rw [List.length_set]; exact hlt
          obtain ⟨b', off', bs2, hcs2, f2, A2, B2, ec, hb2, hsl2, hl2, ⟨cc2, rfl, hrr2⟩, hof2, put2⟩ := sl_set RHouse.good hh2 s2.owned hx2
          rw [List.length_set] at ec
          cases ec
          have lv2 := Heap.live_of hb2 (by decide)
          have ld3 : slab bs2 (off + i * 5 + 3) 2 = some [cc2, .int .i64 h.log.forced] := (slab_sub hsl2 3 2 (by simp)).trans rfl
          have hlok := (houseOk_parts hk).2.1
          simp only [go_sem, Nat.reduceEqDiff, Nat.reduceAdd, Nat.reduceMul, Nat.reduceLeDiff, Int.reduceEq, Int.reduceLT, Int.reduceLE, Int.reduceAdd, Int.reduceSub, Int.reduceNeg, Int.reduceMul, Int.reduceToNat, Int.cast_ofNat_Int, Int.natCast_zero, Nat.add_zero, reduceCtorEq, k7, k8, hne, hwr, hlt, own1, le1, wr1, lv2, ld3]
          refine Does.call (does_s_l1Fall K (keep := B) (show RLog H2 [cc2, .int .i64 h.log.forced] h.log f2 from ⟨cc2, rfl, hrr2⟩) hlok) ?_
          rintro _ H3 ⟨cs3, f3, rfl, rfl, hsub, c3, rfl, hr3⟩
          rw [fallV_ok hlok] at hr3
          obtain ⟨H4, _, own4, le4, wr4, hh4, s4⟩ := put2 H3 f3 { h with up := false, log := fallL h.log B } 3 [c3, .int .i64 (fallL h.log B).forced] (hof2.step.less hsub) (by simp) ⟨c3, by simp [splice], hr3⟩
          simp only [List.length_cons, List.length_nil] at le4
          rw [List.set_set] at hh4
          obtain ⟨t4, hd4, hn4⟩ := wld_houses hd hn ho (s2.trans s4)
          simp only [go_sem, Nat.reduceEqDiff, Nat.reduceAdd, Nat.reduceMul, Nat.reduceLeDiff, Int.reduceEq, Int.reduceLT, Int.reduceLE, Int.reduceAdd, Int.reduceSub, Int.reduceNeg, Int.reduceMul, Int.reduceToNat, Int.cast_ofNat_Int, Int.natCast_zero, Nat.add_zero, reduceCtorEq, fallV_ok hlok, hwr, hlt, own4, le4, wr4]
          exact hQ _ _ (Ends.ret rfl ⟨_, ⟨w.desk, w.houses.set i { h with up := false, log := fallL h.log B }, w.nets⟩, _, rfl, t4, RWld.of hd4 hh4 hn4, wi.newHouse hi3 (houseFall_ok hk) hid⟩)
      · by_cases k9 : k = 9
        · by_cases a0 : A = 0
          · obtain ⟨rc, tc, D1, D2, hcs, rfl, hrec, htold⟩ := hd
            cases hcs
            simp only [go_sem, Nat.reduceEqDiff, Nat.reduceAdd, Nat.reduceMul, Nat.reduceLeDiff, Int.reduceEq, Int.reduceLT, Int.reduceLE, Int.reduceAdd, Int.reduceSub, Int.reduceNeg, Int.reduceMul, Int.reduceToNat, Int.cast_ofNat_Int, Int.natCast_zero, Nat.add_zero, reduceCtorEq, k7, k8, k9, a0]
            exact hQ _ _ (Ends.ret rfl ⟨_, ⟨{ w.desk with up := true }, w.houses, w.nets⟩, _, rfl, ho.step, RWld.of ⟨y1, y3, D1, D2, rfl, rfl, hrec, htold⟩ hh hn, wi.newDesk (deskRise_ok wi.desk)⟩)
          · obtain ⟨i, rfl⟩ : ∃ i : Nat, A = i + 1 := ⟨(A - 1).toNat, by omega⟩
            have hi3 : i < 3 := by omega
            have hlen := wi.len
            obtain ⟨h, hx⟩ : ∃ h, w.houses[i]? = some h := ⟨w.houses[i]'(by omega), by simp⟩
            obtain ⟨hk, hid⟩ := wi.house i h hx
            have hlt : (i : Int) < w.houses.length := by omega
            have hwr : IntKind.wrap .i64 ((i : Int) + 1 - 1) = (i : Int) := by rw [wrap_i64 (by omega) (by omega)]; omega
            have hne : ¬ (i : Int) + 1 = 0 := by omega
            obtain ⟨b, off, bs, hcs, f, A1, B1, rfl, hb, hsl, hl, ⟨cc, rfl, hrr⟩, hof, put⟩ := sl_set RHouse.good hh (ho.part (fun a => by simp only [List.count_append, List.count_nil, List.count_cons]; omega) : Owned H F2) hx
            obtain ⟨H2, _, own1, le1, wr1, hh2, s2⟩ := put H f { h with up := true } 1 [.bool true] hof.step (by simp) ⟨cc, by simp [splice], hrr⟩
            simp only [List.length_cons, List.length_nil] at le1
            obtain ⟨t4, hd4, hn4⟩ := wld_houses hd hn ho s2
            simp only [go_sem, Nat.reduceEqDiff, Nat.reduceAdd, Nat.reduceMul, Nat.reduceLeDiff, Int.reduceEq, Int.reduceLT, Int.reduceLE, Int.reduceAdd, Int.reduceSub, Int.reduceNeg, Int.reduceMul, Int.reduceToNat, Int.cast_ofNat_Int, Int.natCast_zero, Nat.add_zero, reduceCtorEq, k7, k8, k9, hne, hwr, hlt, own1, le1, wr1]
            exact hQ _ _ (Ends.ret rfl ⟨_, ⟨w.desk, w.houses.set i { h with up := true }, w.nets⟩, _, rfl, t4, RWld.of hd4 hh2 hn4, wi.newHouse hi3 (houseRise_ok hk) hid⟩)
        · simp only [go_sem, Nat.reduceEqDiff, Nat.reduceAdd, Nat.reduceMul, Nat.reduceLeDiff, Int.reduceEq, Int.reduceLT, Int.reduceLE, Int.reduceAdd, Int.reduceSub, Int.reduceNeg, Int.reduceMul, Int.reduceToNat, Int.cast_ofNat_Int, Int.natCast_zero, Nat.add_zero, reduceCtorEq, k7, k8, k9]
          exact hQ _ _ (Ends.ret rfl ⟨_, w, _, rfl, ho.step, hw, wi⟩)
set_option maxHeartbeats 4000000 in
theorem does_s_l21Do (K : Codes P I) {H : Heap} {cs : List C} {w : Wld} {k A B : Int} {cm : C} {many : List Int} {F G : List Nat} (hw : RWld H cs w F) (ho : Owned H F) (wi : WInv w) (hm : Ints H cm many G) (hml : many.length ≤ lenMax) :
    Does P I.s_l21Do [.agg cs, .agg [.int .i64 k, .int .i64 A, .int .i64 B, cm]] H fun v H' => WAns F H v H' := by
  obtain ⟨y0, y1, y2, y3, c, n, F1, F2, F3, rfl, rfl, hd, hh, hn⟩ := hw.parts
  refine K.does K.s_l21Do rfl fun Q hQ => ?_
  by_cases k1 : k = 1
  · simp only [go_sem, Nat.reduceEqDiff, Nat.reduceAdd, Nat.reduceMul, Nat.reduceLeDiff, Int.reduceEq, Int.reduceLT, Int.reduceLE, Int.reduceAdd, Int.reduceSub, Int.reduceNeg, Int.reduceMul, Int.reduceToNat, Int.cast_ofNat_Int, Int.natCast_zero, Nat.add_zero, reduceCtorEq, L_s_l21Do, k1]
    refine Does.call (does_s_l21Desk K hw ho wi hm hml) ?_
    rintro _ H1 ⟨cs1, w1, G1, rfl, s1, hw1, wi1⟩
    obtain ⟨z0, z1, z2, z3, z4, z5, Z1, Z2, Z3, rfl, rfl, _, _, _⟩ := hw1.parts
    simp only [go_sem, Nat.reduceEqDiff, Nat.reduceAdd, Nat.reduceMul, Nat.reduceLeDiff, Int.reduceEq, Int.reduceLT, Int.reduceLE, Int.reduceAdd, Int.reduceSub, Int.reduceNeg, Int.reduceMul, Int.reduceToNat, Int.cast_ofNat_Int, Int.natCast_zero, Nat.add_zero, reduceCtorEq]
    exact hQ _ _ (Ends.ret rfl ⟨_, w1, _, rfl, s1, hw1, wi1⟩)
  by_cases k2 : k = 2
  · simp only [go_sem, Nat.reduceEqDiff, Nat.reduceAdd, Nat.reduceMul, Nat.reduceLeDiff, Int.reduceEq, Int.reduceLT, Int.reduceLE, Int.reduceAdd, Int.reduceSub, Int.reduceNeg, Int.reduceMul, Int.reduceToNat, Int.cast_ofNat_Int, Int.natCast_zero, Nat.add_zero, reduceCtorEq, L_s_l21Do, k2]
    refine Does.call (does_s_l21Desk K hw ho wi hm hml) ?_
    rintro _ H1 ⟨cs1, w1, G1, rfl, s1, hw1, wi1⟩
    obtain ⟨z0, z1, z2, z3, z4, z5, Z1, Z2, Z3, rfl, rfl, _, _, _⟩ := hw1.parts
    simp only [go_sem, Nat.reduceEqDiff, Nat.reduceAdd, Nat.reduceMul, Nat.reduceLeDiff, Int.reduceEq, Int.reduceLT, Int.reduceLE, Int.reduceAdd, Int.reduceSub, Int.reduceNeg, Int.reduceMul, Int.reduceToNat, Int.cast_ofNat_Int, Int.natCast_zero, Nat.add_zero, reduceCtorEq]
    exact hQ _ _ (Ends.ret rfl ⟨_, w1, _, rfl, s1, hw1, wi1⟩)
  by_cases k3 : k = 3
  · simp only [go_sem, Nat.reduceEqDiff, Nat.reduceAdd, Nat.reduceMul, Nat.reduceLeDiff, Int.reduceEq, Int.reduceLT, Int.reduceLE, Int.reduceAdd, Int.reduceSub, Int.reduceNeg, Int.reduceMul, Int.reduceToNat, Int.cast_ofNat_Int, Int.natCast_zero, Nat.add_zero, reduceCtorEq, L_s_l21Do, k3]
    refine Does.call (does_s_l21Desk K hw ho wi hm hml) ?_
    rintro _ H1 ⟨cs1, w1, G1, rfl, s1, hw1, wi1⟩
    obtain ⟨z0, z1, z2, z3, z4, z5, Z1, Z2, Z3, rfl, rfl, _, _, _⟩ := hw1.parts
    simp only [go_sem, Nat.reduceEqDiff, Nat.reduceAdd, Nat.reduceMul, Nat.reduceLeDiff, Int.reduceEq, Int.reduceLT, Int.reduceLE, Int.reduceAdd, Int.reduceSub, Int.reduceNeg, Int.reduceMul, Int.reduceToNat, Int.cast_ofNat_Int, Int.natCast_zero, Nat.add_zero, reduceCtorEq]
    exact hQ _ _ (Ends.ret rfl ⟨_, w1, _, rfl, s1, hw1, wi1⟩)
  by_cases k4 : k = 4
  · simp only [go_sem, Nat.reduceEqDiff, Nat.reduceAdd, Nat.reduceMul, Nat.reduceLeDiff, Int.reduceEq, Int.reduceLT, Int.reduceLE, Int.reduceAdd, Int.reduceSub, Int.reduceNeg, Int.reduceMul, Int.reduceToNat, Int.cast_ofNat_Int, Int.natCast_zero, Nat.add_zero, reduceCtorEq, L_s_l21Do, k4]
    refine Does.call (does_s_l21Net K hw ho wi) ?_
    rintro _ H1 ⟨cs1, w1, G1, rfl, s1, hw1, wi1⟩
    obtain ⟨z0, z1, z2, z3, z4, z5, Z1, Z2, Z3, rfl, rfl, _, _, _⟩ := hw1.parts
    simp only [go_sem, Nat.reduceEqDiff, Nat.reduceAdd, Nat.reduceMul, Nat.reduceLeDiff, Int.reduceEq, Int.reduceLT, Int.reduceLE, Int.reduceAdd, Int.reduceSub, Int.reduceNeg, Int.reduceMul, Int.reduceToNat, Int.cast_ofNat_Int, Int.natCast_zero, Nat.add_zero, reduceCtorEq]
    exact hQ _ _ (Ends.ret rfl ⟨_, w1, _, rfl, s1, hw1, wi1⟩)
  by_cases k5 : k = 5
  · simp only [go_sem, Nat.reduceEqDiff, Nat.reduceAdd, Nat.reduceMul, Nat.reduceLeDiff, Int.reduceEq, Int.reduceLT, Int.reduceLE, Int.reduceAdd, Int.reduceSub, Int.reduceNeg, Int.reduceMul, Int.reduceToNat, Int.cast_ofNat_Int, Int.natCast_zero, Nat.add_zero, reduceCtorEq, L_s_l21Do, k5]
    refine Does.call (does_s_l21Net K hw ho wi) ?_
    rintro _ H1 ⟨cs1, w1, G1, rfl, s1, hw1, wi1⟩
    obtain ⟨z0, z1, z2, z3, z4, z5, Z1, Z2, Z3, rfl, rfl, _, _, _⟩ := hw1.parts
    simp only [go_sem, Nat.reduceEqDiff, Nat.reduceAdd, Nat.reduceMul, Nat.reduceLeDiff, Int.reduceEq, Int.reduceLT, Int.reduceLE, Int.reduceAdd, Int.reduceSub, Int.reduceNeg, Int.reduceMul, Int.reduceToNat, Int.cast_ofNat_Int, Int.natCast_zero, Nat.add_zero, reduceCtorEq]
    exact hQ _ _ (Ends.ret rfl ⟨_, w1, _, rfl, s1, hw1, wi1⟩)
  by_cases k6 : k = 6
  · simp only [go_sem, Nat.reduceEqDiff, Nat.reduceAdd, Nat.reduceMul, Nat.reduceLeDiff, Int.reduceEq, Int.reduceLT, Int.reduceLE, Int.reduceAdd, Int.reduceSub, Int.reduceNeg, Int.reduceMul, Int.reduceToNat, Int.cast_ofNat_Int, Int.natCast_zero, Nat.add_zero, reduceCtorEq, L_s_l21Do, k6]
    refine Does.call (does_s_l21Net K hw ho wi) ?_
    rintro _ H1 ⟨cs1, w1, G1, rfl, s1, hw1, wi1⟩
    obtain ⟨z0, z1, z2, z3, z4, z5, Z1, Z2, Z3, rfl, rfl, _, _, _⟩ := hw1.parts
    simp only [go_sem, Nat.reduceEqDiff, Nat.reduceAdd, Nat.reduceMul, Nat.reduceLeDiff, Int.reduceEq, Int.reduceLT, Int.reduceLE, Int.reduceAdd, Int.reduceSub, Int.reduceNeg, Int.reduceMul, Int.reduceToNat, Int.cast_ofNat_Int, Int.natCast_zero, Nat.add_zero, reduceCtorEq]
    exact hQ _ _ (Ends.ret rfl ⟨_, w1, _, rfl, s1, hw1, wi1⟩)
  by_cases k7 : k = 7
  · simp only [go_sem, Nat.reduceEqDiff, Nat.reduceAdd, Nat.reduceMul, Nat.reduceLeDiff, Int.reduceEq, Int.reduceLT, Int.reduceLE, Int.reduceAdd, Int.reduceSub, Int.reduceNeg, Int.reduceMul, Int.reduceToNat, Int.cast_ofNat_Int, Int.natCast_zero, Nat.add_zero, reduceCtorEq, L_s_l21Do, k7]
    refine Does.call (does_s_l21Node K hw ho wi) ?_
    rintro _ H1 ⟨cs1, w1, G1, rfl, s1, hw1, wi1⟩
    obtain ⟨z0, z1, z2, z3, z4, z5, Z1, Z2, Z3, rfl, rfl, _, _, _⟩ := hw1.parts
    simp only [go_sem, Nat.reduceEqDiff, Nat.reduceAdd, Nat.reduceMul, Nat.reduceLeDiff, Int.reduceEq, Int.reduceLT, Int.reduceLE, Int.reduceAdd, Int.reduceSub, Int.reduceNeg, Int.reduceMul, Int.reduceToNat, Int.cast_ofNat_Int, Int.natCast_zero, Nat.add_zero, reduceCtorEq]
    exact hQ _ _ (Ends.ret rfl ⟨_, w1, _, rfl, s1, hw1, wi1⟩)
  by_cases k8 : k = 8
  · simp only [go_sem, Nat.reduceEqDiff, Nat.reduceAdd, Nat.reduceMul, Nat.reduceLeDiff, Int.reduceEq, Int.reduceLT, Int.reduceLE, Int.reduceAdd, Int.reduceSub, Int.reduceNeg, Int.reduceMul, Int.reduceToNat, Int.cast_ofNat_Int, Int.natCast_zero, Nat.add_zero, reduceCtorEq, L_s_l21Do, k8]
    refine Does.call (does_s_l21Node K hw ho wi) ?_
    rintro _ H1 ⟨cs1, w1, G1, rfl, s1, hw1, wi1⟩
    obtain ⟨z0, z1, z2, z3, z4, z5, Z1, Z2, Z3, rfl, rfl, _, _, _⟩ := hw1.parts
    simp only [go_sem, Nat.reduceEqDiff, Nat.reduceAdd, Nat.reduceMul, Nat.reduceLeDiff, Int.reduceEq, Int.reduceLT, Int.reduceLE, Int.reduceAdd, Int.reduceSub, Int.reduceNeg, Int.reduceMul, Int.reduceToNat, Int.cast_ofNat_Int, Int.natCast_zero, Nat.add_zero, reduceCtorEq]
    exact hQ _ _ (Ends.ret rfl ⟨_, w1, _, rfl, s1, hw1, wi1⟩)
  by_cases k9 : k = 9
  · simp only [go_sem, Nat.reduceEqDiff, Nat.reduceAdd, Nat.reduceMul, Nat.reduceLeDiff, Int.reduceEq, Int.reduceLT, Int.reduceLE, Int.reduceAdd, Int.reduceSub, Int.reduceNeg, Int.reduceMul, Int.reduceToNat, Int.cast_ofNat_Int, Int.natCast_zero, Nat.add_zero, reduceCtorEq, L_s_l21Do, k9]
    refine Does.call (does_s_l21Node K hw ho wi) ?_
    rintro _ H1 ⟨cs1, w1, G1, rfl, s1, hw1, wi1⟩
    obtain ⟨z0, z1, z2, z3, z4, z5, Z1, Z2, Z3, rfl, rfl, _, _, _⟩ := hw1.parts
    simp only [go_sem, Nat.reduceEqDiff, Nat.reduceAdd, Nat.reduceMul, Nat.reduceLeDiff, Int.reduceEq, Int.reduceLT, Int.reduceLE, Int.reduceAdd, Int.reduceSub, Int.reduceNeg, Int.reduceMul, Int.reduceToNat, Int.cast_ofNat_Int, Int.natCast_zero, Nat.add_zero, reduceCtorEq]
    exact hQ _ _ (Ends.ret rfl ⟨_, w1, _, rfl, s1, hw1, wi1⟩)
  · simp only [go_sem, Nat.reduceEqDiff, Nat.reduceAdd, Nat.reduceMul, Nat.reduceLeDiff, Int.reduceEq, Int.reduceLT, Int.reduceLE, Int.reduceAdd, Int.reduceSub, Int.reduceNeg, Int.reduceMul, Int.reduceToNat, Int.cast_ofNat_Int, Int.natCast_zero, Nat.add_zero, reduceCtorEq, L_s_l21Do, k1, k2, k3, k4, k5, k6, k7, k8, k9]
    exact hQ _ _ (Ends.ret rfl ⟨_, w, _, rfl, ho.step, hw, wi⟩)
end Go.AX

/- The laws of what a house hears, further. Condition: the bytes that draw lie in memory. -/
namespace Go.AX
variable {P : Program} {I : Ids}
theorem hear_not {h : House} {w : Word} (hk : houseOk h = true) (hm : mayB h w = false) : houseHearV h w = h := by rw [houseHearV, if_pos hk, hearH_same (by simp [hm])]
theorem hear_ans {h : House} {w : Word} (hk : houseOk h = true) (hh : hearsB h w = true) (hm : mayB h w = false) : houseHearB h w = decide (houseAnswer h w ≠ 0) ∧ (houseAnswer h w ≠ 0 → houseHearW h w = ⟨houseAnswer h w, h.id, w.trip, 0⟩) := by
  have e : hearOk h w = decide (houseAnswer h w ≠ 0) := by simp [hearOk, hh, hm]
  refine ⟨by simp [houseHearB, hk, e], fun hn => by rw [houseHearW, if_pos hk, hearW, if_pos (by simp [e, hn])]⟩
theorem rhouse_up {H : Heap} {i r f : Int} {u : Bool} {c : C} {h : House} {F : List Nat} (hl : RHouse H [.int .i64 i, .bool u, .int .i64 r, c, .int .i64 f] h F) (v : Bool) :
    RHouse H [.int .i64 i, .bool v, .int .i64 r, c, .int .i64 f] { h with up := v } F := by
  obtain ⟨c', e, hc⟩ := hl
  cases e
  exact ⟨c, rfl, hc⟩
def stockFreeV (s : Stock) : Int := if stockOk s = true then freeS s else -1
theorem hear_never {h : House} {w : Word} (hk : houseOk h = true) : houseOk (houseHearV h w) = true ∧ (houseHearV h w).log.forced = h.log.forced ∧
    ((houseHearV h w).log.recs = h.log.recs ∨ (houseHearV h w).log.recs = h.log.recs ++ [recOfW w] ∧ houseHearB h w = false) := by
  have e : houseHearV h w = hearH h w := by rw [houseHearV, if_pos hk]
  rw [e]
  refine ⟨hearH_ok hk, ?_⟩
  by_cases hc : hearsB h w = true ∧ mayB h w = true
  · have W := wrote hk hc.1 hc.2
    exact ⟨W.forced, .inr ⟨W.recs, by simp [houseHearB, hearOk, hc.2]⟩⟩
  · rw [hearH_same hc]; exact ⟨rfl, .inl rfl⟩
end Go.AX

/- A world begins without a trip. Condition: the bytes of which is drawn lie in memory. -/
namespace Go.AX
variable {P : Program} {I : Ids}
theorem draws_l72Rooms (K : Codes P I) {H : Heap} {b q : Nat} (h : RdM H b q) (hq : q < 549755813000) :
    Does P I.s_l72Rooms [.c (.ptr b 0)] H fun v H' => ∃ c xs F, v = .val (.c c) ∧ Dr b (q + 3) H H' F ∧ Ints H' c xs F ∧ xs.length = 3 ∧ ∀ r ∈ xs, 0 ≤ r ∧ r ≤ 9 := by
  refine K.does K.s_l72Rooms rfl fun Q hQ => ?_
  simp only [go_sem, Nat.reduceEqDiff, Nat.reduceAdd, Nat.reduceMul, Nat.reduceLeDiff, Int.reduceEq, Int.reduceLT, Int.reduceLE, Int.reduceAdd, Int.reduceSub, Int.reduceNeg, Int.reduceMul, Int.reduceToNat, Int.cast_ofNat_Int, Int.natCast_zero, Nat.add_zero, reduceCtorEq, L_s_l72Rooms]
  refine Does.call (draws_pick K h (by omega)) ?_
  rintro _ H1 ⟨k1, rfl, e1, s1, r1⟩
  replace s1 : Step [b] H H1 [b] := s1
  simp only [go_sem, Nat.reduceEqDiff, Nat.reduceAdd, Nat.reduceMul, Nat.reduceLeDiff, Int.reduceEq, Int.reduceLT, Int.reduceLE, Int.reduceAdd, Int.reduceSub, Int.reduceNeg, Int.reduceMul, Int.reduceToNat, Int.cast_ofNat_Int, Int.natCast_zero, Nat.add_zero, reduceCtorEq]
  refine Does.call (draws_pick K r1 (by omega)) ?_
  rintro _ H2 ⟨k2, rfl, e2, s2, r2⟩
  replace s2 : Step [b] H1 H2 [b] := s2
  simp only [go_sem, Nat.reduceEqDiff, Nat.reduceAdd, Nat.reduceMul, Nat.reduceLeDiff, Int.reduceEq, Int.reduceLT, Int.reduceLE, Int.reduceAdd, Int.reduceSub, Int.reduceNeg, Int.reduceMul, Int.reduceToNat, Int.cast_ofNat_Int, Int.natCast_zero, Nat.add_zero, reduceCtorEq]
  refine Does.call (draws_pick K r2 (by omega)) ?_
  rintro _ H3 ⟨k3, rfl, e3, s3, r3⟩
  replace s3 : Step [b] H2 H3 [b] := s3
  have d3 : Dr b (q + 3) H H3 [] := (((Dr.zero h).pick s1 r1).pick s2 r2).pick s3 r3
  have hi := ints_new (H := H3) [k1, k2, IntKind.wrap .i64 (1 + k3)] rfl (by simp [lenTop])
  have d4 : Dr b (q + 3) H (H3 ++ [⟨.rw, 1, [.int .i64 k1, .int .i64 k2, .int .i64 (IntKind.wrap .i64 (1 + k3))]⟩]) [H3.length] := d3.new step_new
  simp only [go_sem, Nat.reduceEqDiff, Nat.reduceAdd, Nat.reduceMul, Nat.reduceLeDiff, Int.reduceEq, Int.reduceLT, Int.reduceLE, Int.reduceAdd, Int.reduceSub, Int.reduceNeg, Int.reduceMul, Int.reduceToNat, Int.cast_ofNat_Int, Int.natCast_zero, Nat.add_zero, reduceCtorEq, Nat.reduceDiv]
  have h1 := e1.2.1 (by decide)
  have h2 := e2.2.1 (by decide)
  have h3 := e3.2.1 (by decide)
  have h30 := e3.1
  have hw : IntKind.wrap .i64 (1 + k3) = 1 + k3 := wrap_i64 (by omega) (by omega)
  refine hQ _ _ (Ends.ret rfl ⟨_, _, _, rfl, d4, hi, rfl, fun r hr => ?_⟩)
  simp only [List.mem_cons, List.not_mem_nil, or_false] at hr
  have := e1.1
  have := e2.1
  rcases hr with rfl | rfl | rfl <;> omega
theorem houseNew_room {id room : Int} (h : houseNewOk id room = true) : houseOk (houseNewV id room) = true ∧ (houseNewV id room).id = id ∧ stockFreeV (houseStockV (houseNewV id room) false) = room := by
  have e : houseNewV id room = ⟨id, true, room, log0⟩ := by rw [houseNewV, if_pos h]
  simp only [houseNewOk, Bool.and_eq_true] at h
  have hs : stockOf room [] = some (stockN room) := by simp [stockOf, h.2]
  have hid := h.1
  simp only [inB, Bool.and_eq_true, decide_eq_true_eq] at hid
  have hk : houseOk ⟨id, true, room, log0⟩ = true := houseOk_of hid rfl hs
  rw [e]
  refine ⟨hk, rfl, ?_⟩
  rw [houseStockV, if_pos hk, stockV_all (h := ⟨id, true, room, log0⟩) hs, stockFreeV, if_pos (stockOf_ok hs)]
  simp [freeS, stockN, hadAll, had, List.replicate]
theorem worldNew_parts {rooms : List Int} (h : worldNewOk rooms = true) : rooms.length = 3 ∧ worldNewV rooms = ⟨desk0, housesN rooms rooms.length, []⟩ ∧ (housesN rooms rooms.length).length = 3 ∧ ∀ i r, rooms[i]? = some r → houseNewOk (i + 1 : Nat) r = true ∧ (housesN rooms rooms.length)[i]? = some (houseNewV (i + 1 : Nat) r) := by
  have hv : worldNewV rooms = ⟨desk0, housesN rooms rooms.length, []⟩ := by rw [worldNewV, if_pos h]
  simp only [worldNewOk, Bool.and_eq_true, decide_eq_true_eq] at h
  refine ⟨h.2, hv, by simp [housesN, h.2], fun i r hr => ⟨?_, by simp [housesN, hr]⟩⟩
  have hi : i < rooms.length := (List.getElem?_eq_some_iff.1 hr).1
  cases hk : houseNewOk (i + 1 : Nat) r with
  | true => rfl
  | false =>
    have : okN rooms rooms.length = false := okN_mono (i := i + 1) (by omega) (by rw [okN_snoc hr, hk, Bool.and_false])
    rw [this] at h; cases h.1
theorem worldNew_worldOk {rooms : List Int} (h : worldNewOk rooms = true) : worldOk (worldNewV rooms) = true := by
  obtain ⟨h1, h2, h3, h4⟩ := worldNew_parts h
  have h5 : housesOk (housesN rooms rooms.length) = true := housesOk_iff.2 fun i x hx => by
    obtain ⟨r, hr⟩ : ∃ r, rooms[i]? = some r := get_lt (by have := (List.getElem?_eq_some_iff.1 hx).1; omega)
    obtain ⟨g1, g2⟩ := h4 i r hr
    rw [g2] at hx
    cases hx
    obtain ⟨k1, k2, _⟩ := houseNew_room g1
    exact ⟨k1, k2⟩
  have h6 : deskOk desk0 = true := by decide
  rw [h2]
  simp [worldOk, h3, h5, h6]
end Go.AX

/- The holds of a trip in a world: the program and the reference do the same. Condition: the data lie in memory. -/
namespace Go.AX
variable {P : Program} {I : Ids}
def holdsW (l : List House) (t : Int) : List Hold := l.map fun h => holdAt (stockV h false) t
def worldHoldsV (w : Wld) (t : Int) : List Hold := if (worldOk w && inB t 1 6) = true then holdsW w.houses t else []
theorem worldOk_parts {w : Wld} (h : worldOk w = true) : deskOk w.desk = true ∧ w.houses.length = 3 ∧ w.nets.length ≤ 14 ∧ (∀ (i : Nat) (h : House), w.houses[i]? = some h → houseOk h = true ∧ h.id = ((i + 1 : Nat) : Int)) ∧ w.nets.all wordOk = true := by
  simp only [worldOk, Bool.and_eq_true, decide_eq_true_eq] at h
  exact ⟨h.1, h.2.1, h.2.2.1, housesOk_iff.1 h.2.2.2.1, h.2.2.2.2⟩
end Go.AX

/- Draws of what happens in a world. Condition: the reader lies in memory, and drew less often than 2^39. -/
namespace Go.AX
variable {P : Program} {I : Ids}
set_option maxHeartbeats 4000000 in
set_option maxRecDepth 8000 in
theorem draws_l72Event (K : Codes P I) {H : Heap} {b q : Nat} {cs : List C} {w : Wld} {F : List Nat} (h : RdM H b q) (hq : q < 549755812000) (hw : RWld H cs w F) (wi : WInv w) :
    Does P I.s_l72Event [.c (.ptr b 0), .agg cs] H fun v H' => ∃ k A B cm many G, v = .val (.agg [.int .i64 k, .int .i64 A, .int .i64 B, cm]) ∧ Dr b (q + 6) H H' G ∧ Ints H' cm many G ∧ many.length ≤ 3 := by
  obtain ⟨y0, y1, y2, y3, c, n, F1, F2, F3, rfl, rfl, hd, hh, hn⟩ := hw.parts
  have hok := wi.desk
  refine K.does K.s_l72Event rfl fun Q hQ => ?_
  simp only [go_sem, Nat.reduceEqDiff, Nat.reduceAdd, Nat.reduceMul, Nat.reduceLeDiff, Int.reduceEq, Int.reduceLT, Int.reduceLE, Int.reduceAdd, Int.reduceSub, Int.reduceNeg, Int.reduceMul, Int.reduceToNat, Int.cast_ofNat_Int, Int.natCast_zero, Nat.add_zero, reduceCtorEq, L_s_l72Event, hn.len]
  refine Does.call (does_s_l13Trips K (f := false) hd (deskOk_parts hok).2.1) ?_
  rintro _ H1 ⟨ct, G1, rfl, s1, htr⟩
  replace s1 : Step [] H H1 G1 := s1
  simp only [go_sem, Nat.reduceEqDiff, Nat.reduceAdd, Nat.reduceMul, Nat.reduceLeDiff, Int.reduceEq, Int.reduceLT, Int.reduceLE, Int.reduceAdd, Int.reduceSub, Int.reduceNeg, Int.reduceMul, Int.reduceToNat, Int.cast_ofNat_Int, Int.natCast_zero, Nat.add_zero, reduceCtorEq, htr.len]
  refine Does.call (does_s_l13Words K (s1.stay RDesk.good hd) hok) ?_
  rintro _ H2 ⟨cw, G2, rfl, s2, hwd⟩
  replace s2 : Step [] H1 H2 G2 := s2
  have d : Dr b q H H2 [] := (((Dr.zero h).new s1).new s2).less (List.nil_sublist _)
  by_cases hl : (0 : Int) < w.nets.length
  · simp only [go_sem, Nat.reduceEqDiff, Nat.reduceAdd, Nat.reduceMul, Nat.reduceLeDiff, Int.reduceEq, Int.reduceLT, Int.reduceLE, Int.reduceAdd, Int.reduceSub, Int.reduceNeg, Int.reduceMul, Int.reduceToNat, Int.cast_ofNat_Int, Int.natCast_zero, Nat.add_zero, reduceCtorEq, hwd.len, hl]
    refine Does.call (draws_pick K d.rd (by omega)) ?_
    rintro _ H3 ⟨k5, rfl, e5, s5, r5⟩
    replace d := d.pick s5 r5
    by_cases c5 : k5 < 2
    · simp only [go_sem, Nat.reduceEqDiff, Nat.reduceAdd, Nat.reduceMul, Nat.reduceLeDiff, Int.reduceEq, Int.reduceLT, Int.reduceLE, Int.reduceAdd, Int.reduceSub, Int.reduceNeg, Int.reduceMul, Int.reduceToNat, Int.cast_ofNat_Int, Int.natCast_zero, Nat.add_zero, reduceCtorEq, c5]
      refine Does.call (draws_pick K d.rd (by omega)) ?_
      rintro _ H4 ⟨k6, rfl, e6, s6, r6⟩
      simp only [go_sem, Nat.reduceEqDiff, Nat.reduceAdd, Nat.reduceMul, Nat.reduceLeDiff, Int.reduceEq, Int.reduceLT, Int.reduceLE, Int.reduceAdd, Int.reduceSub, Int.reduceNeg, Int.reduceMul, Int.reduceToNat, Int.cast_ofNat_Int, Int.natCast_zero, Nat.add_zero, reduceCtorEq]
      exact hQ _ _ (Ends.ret rfl ⟨4, _, 0, .nil, [], [], rfl, (d.pick s6 r6).mono (by omega), .nil, by simp⟩)
    · simp only [go_sem, Nat.reduceEqDiff, Nat.reduceAdd, Nat.reduceMul, Nat.reduceLeDiff, Int.reduceEq, Int.reduceLT, Int.reduceLE, Int.reduceAdd, Int.reduceSub, Int.reduceNeg, Int.reduceMul, Int.reduceToNat, Int.cast_ofNat_Int, Int.natCast_zero, Nat.add_zero, reduceCtorEq, c5]
      refine Does.call (draws_pick K d.rd (by omega)) ?_
      rintro _ H7 ⟨z, rfl, e7, s7, r7⟩
      have dd := d.pick s7 r7
      by_cases c0 : z = 0
      · simp only [go_sem, Nat.reduceEqDiff, Nat.reduceAdd, Nat.reduceMul, Nat.reduceLeDiff, Int.reduceEq, Int.reduceLT, Int.reduceLE, Int.reduceAdd, Int.reduceSub, Int.reduceNeg, Int.reduceMul, Int.reduceToNat, Int.cast_ofNat_Int, Int.natCast_zero, Nat.add_zero, reduceCtorEq, c0]
        refine Does.call (draws_pick K dd.rd (by omega)) ?_
        rintro _ H8 ⟨j1, rfl, e8, s8, r8⟩
        have d8 := dd.pick s8 r8
        simp only [go_sem, Nat.reduceEqDiff, Nat.reduceAdd, Nat.reduceMul, Nat.reduceLeDiff, Int.reduceEq, Int.reduceLT, Int.reduceLE, Int.reduceAdd, Int.reduceSub, Int.reduceNeg, Int.reduceMul, Int.reduceToNat, Int.cast_ofNat_Int, Int.natCast_zero, Nat.add_zero, reduceCtorEq]
        refine Does.call (draws_pick K d8.rd (by omega)) ?_
        rintro _ H9 ⟨j2, rfl, e9, s9, r9⟩
        have d9 := d8.pick s9 r9
        simp only [go_sem, Nat.reduceEqDiff, Nat.reduceAdd, Nat.reduceMul, Nat.reduceLeDiff, Int.reduceEq, Int.reduceLT, Int.reduceLE, Int.reduceAdd, Int.reduceSub, Int.reduceNeg, Int.reduceMul, Int.reduceToNat, Int.cast_ofNat_Int, Int.natCast_zero, Nat.add_zero, reduceCtorEq]
        refine Does.call (draws_pick K d9.rd (by omega)) ?_
        rintro _ H10 ⟨j3, rfl, e10, s10, r10⟩
        have d10 := d9.pick s10 r10
        have hi := ints_new (H := H10) [j1, j2, IntKind.wrap .i64 (1 + j3)] rfl (by simp [lenTop])
        have d11 : Dr b _ H (H10 ++ [⟨.rw, 1, [.int .i64 j1, .int .i64 j2, .int .i64 (IntKind.wrap .i64 (1 + j3))]⟩]) [H10.length] := d10.new step_new
        simp only [go_sem, Nat.reduceEqDiff, Nat.reduceAdd, Nat.reduceMul, Nat.reduceLeDiff, Int.reduceEq, Int.reduceLT, Int.reduceLE, Int.reduceAdd, Int.reduceSub, Int.reduceNeg, Int.reduceMul, Int.reduceToNat, Int.cast_ofNat_Int, Int.natCast_zero, Nat.add_zero, reduceCtorEq, Nat.reduceDiv]
        exact hQ _ _ (Ends.ret rfl ⟨1, 0, 0, _, _, _, rfl, d11.mono (by omega), hi, by simp⟩)
      by_cases c1 : z = 1
      · simp only [go_sem, Nat.reduceEqDiff, Nat.reduceAdd, Nat.reduceMul, Nat.reduceLeDiff, Int.reduceEq, Int.reduceLT, Int.reduceLE, Int.reduceAdd, Int.reduceSub, Int.reduceNeg, Int.reduceMul, Int.reduceToNat, Int.cast_ofNat_Int, Int.natCast_zero, Nat.add_zero, reduceCtorEq, c1]
        refine Does.call (draws_pick K dd.rd (by omega)) ?_
        rintro _ H8 ⟨j1, rfl, e8, s8, r8⟩
        have d8 := dd.pick s8 r8
        simp only [go_sem, Nat.reduceEqDiff, Nat.reduceAdd, Nat.reduceMul, Nat.reduceLeDiff, Int.reduceEq, Int.reduceLT, Int.reduceLE, Int.reduceAdd, Int.reduceSub, Int.reduceNeg, Int.reduceMul, Int.reduceToNat, Int.cast_ofNat_Int, Int.natCast_zero, Nat.add_zero, reduceCtorEq]
        refine Does.call (draws_pick K d8.rd (by omega)) ?_
        rintro _ H9 ⟨j2, rfl, e9, s9, r9⟩
        have d9 := d8.pick s9 r9
        simp only [go_sem, Nat.reduceEqDiff, Nat.reduceAdd, Nat.reduceMul, Nat.reduceLeDiff, Int.reduceEq, Int.reduceLT, Int.reduceLE, Int.reduceAdd, Int.reduceSub, Int.reduceNeg, Int.reduceMul, Int.reduceToNat, Int.cast_ofNat_Int, Int.natCast_zero, Nat.add_zero, reduceCtorEq]
        refine Does.call (draws_pick K d9.rd (by omega)) ?_
        rintro _ H10 ⟨j3, rfl, e10, s10, r10⟩
        have d10 := d9.pick s10 r10
        have hi := ints_new (H := H10) [j1, j2, IntKind.wrap .i64 (1 + j3)] rfl (by simp [lenTop])
        have d11 : Dr b _ H (H10 ++ [⟨.rw, 1, [.int .i64 j1, .int .i64 j2, .int .i64 (IntKind.wrap .i64 (1 + j3))]⟩]) [H10.length] := d10.new step_new
        simp only [go_sem, Nat.reduceEqDiff, Nat.reduceAdd, Nat.reduceMul, Nat.reduceLeDiff, Int.reduceEq, Int.reduceLT, Int.reduceLE, Int.reduceAdd, Int.reduceSub, Int.reduceNeg, Int.reduceMul, Int.reduceToNat, Int.cast_ofNat_Int, Int.natCast_zero, Nat.add_zero, reduceCtorEq, Nat.reduceDiv]
        exact hQ _ _ (Ends.ret rfl ⟨1, 0, 0, _, _, _, rfl, d11.mono (by omega), hi, by simp⟩)
      by_cases c2 : z = 2
      · simp only [go_sem, Nat.reduceEqDiff, Nat.reduceAdd, Nat.reduceMul, Nat.reduceLeDiff, Int.reduceEq, Int.reduceLT, Int.reduceLE, Int.reduceAdd, Int.reduceSub, Int.reduceNeg, Int.reduceMul, Int.reduceToNat, Int.cast_ofNat_Int, Int.natCast_zero, Nat.add_zero, reduceCtorEq, c2]
        refine Does.call (draws_pick K dd.rd (by omega)) ?_
        rintro _ H8 ⟨k8, rfl, e8, s8, r8⟩
        simp only [go_sem, Nat.reduceEqDiff, Nat.reduceAdd, Nat.reduceMul, Nat.reduceLeDiff, Int.reduceEq, Int.reduceLT, Int.reduceLE, Int.reduceAdd, Int.reduceSub, Int.reduceNeg, Int.reduceMul, Int.reduceToNat, Int.cast_ofNat_Int, Int.natCast_zero, Nat.add_zero, reduceCtorEq]
        exact hQ _ _ (Ends.ret rfl ⟨2, _, 0, .nil, [], [], rfl, (dd.pick s8 r8).mono (by omega), .nil, by simp⟩)
      by_cases c3 : z = 3
      · simp only [go_sem, Nat.reduceEqDiff, Nat.reduceAdd, Nat.reduceMul, Nat.reduceLeDiff, Int.reduceEq, Int.reduceLT, Int.reduceLE, Int.reduceAdd, Int.reduceSub, Int.reduceNeg, Int.reduceMul, Int.reduceToNat, Int.cast_ofNat_Int, Int.natCast_zero, Nat.add_zero, reduceCtorEq, c3]
        refine Does.call (draws_pick K dd.rd (by omega)) ?_
        rintro _ H8 ⟨k8, rfl, e8, s8, r8⟩
        simp only [go_sem, Nat.reduceEqDiff, Nat.reduceAdd, Nat.reduceMul, Nat.reduceLeDiff, Int.reduceEq, Int.reduceLT, Int.reduceLE, Int.reduceAdd, Int.reduceSub, Int.reduceNeg, Int.reduceMul, Int.reduceToNat, Int.cast_ofNat_Int, Int.natCast_zero, Nat.add_zero, reduceCtorEq]
        exact hQ _ _ (Ends.ret rfl ⟨3, _, 0, .nil, [], [], rfl, (dd.pick s8 r8).mono (by omega), .nil, by simp⟩)
      by_cases c4 : z = 4
      · simp only [go_sem, Nat.reduceEqDiff, Nat.reduceAdd, Nat.reduceMul, Nat.reduceLeDiff, Int.reduceEq, Int.reduceLT, Int.reduceLE, Int.reduceAdd, Int.reduceSub, Int.reduceNeg, Int.reduceMul, Int.reduceToNat, Int.cast_ofNat_Int, Int.natCast_zero, Nat.add_zero, reduceCtorEq, c4]
        refine Does.call (draws_pick K dd.rd (by omega)) ?_
        rintro _ H8 ⟨k8, rfl, e8, s8, r8⟩
        simp only [go_sem, Nat.reduceEqDiff, Nat.reduceAdd, Nat.reduceMul, Nat.reduceLeDiff, Int.reduceEq, Int.reduceLT, Int.reduceLE, Int.reduceAdd, Int.reduceSub, Int.reduceNeg, Int.reduceMul, Int.reduceToNat, Int.cast_ofNat_Int, Int.natCast_zero, Nat.add_zero, reduceCtorEq]
        exact hQ _ _ (Ends.ret rfl ⟨3, _, 0, .nil, [], [], rfl, (dd.pick s8 r8).mono (by omega), .nil, by simp⟩)
      by_cases c5 : z = 5
      · simp only [go_sem, Nat.reduceEqDiff, Nat.reduceAdd, Nat.reduceMul, Nat.reduceLeDiff, Int.reduceEq, Int.reduceLT, Int.reduceLE, Int.reduceAdd, Int.reduceSub, Int.reduceNeg, Int.reduceMul, Int.reduceToNat, Int.cast_ofNat_Int, Int.natCast_zero, Nat.add_zero, reduceCtorEq, c5]
        refine Does.call (draws_pick K dd.rd (by omega)) ?_
        rintro _ H8 ⟨k8, rfl, e8, s8, r8⟩
        simp only [go_sem, Nat.reduceEqDiff, Nat.reduceAdd, Nat.reduceMul, Nat.reduceLeDiff, Int.reduceEq, Int.reduceLT, Int.reduceLE, Int.reduceAdd, Int.reduceSub, Int.reduceNeg, Int.reduceMul, Int.reduceToNat, Int.cast_ofNat_Int, Int.natCast_zero, Nat.add_zero, reduceCtorEq]
        exact hQ _ _ (Ends.ret rfl ⟨3, _, 0, .nil, [], [], rfl, (dd.pick s8 r8).mono (by omega), .nil, by simp⟩)
      by_cases c6 : z = 6
      · simp only [go_sem, Nat.reduceEqDiff, Nat.reduceAdd, Nat.reduceMul, Nat.reduceLeDiff, Int.reduceEq, Int.reduceLT, Int.reduceLE, Int.reduceAdd, Int.reduceSub, Int.reduceNeg, Int.reduceMul, Int.reduceToNat, Int.cast_ofNat_Int, Int.natCast_zero, Nat.add_zero, reduceCtorEq, c6]
        refine Does.call (draws_pick K dd.rd (by omega)) ?_
        rintro _ H8 ⟨k8, rfl, e8, s8, r8⟩
        simp only [go_sem, Nat.reduceEqDiff, Nat.reduceAdd, Nat.reduceMul, Nat.reduceLeDiff, Int.reduceEq, Int.reduceLT, Int.reduceLE, Int.reduceAdd, Int.reduceSub, Int.reduceNeg, Int.reduceMul, Int.reduceToNat, Int.cast_ofNat_Int, Int.natCast_zero, Nat.add_zero, reduceCtorEq]
        exact hQ _ _ (Ends.ret rfl ⟨3, _, 0, .nil, [], [], rfl, (dd.pick s8 r8).mono (by omega), .nil, by simp⟩)
      by_cases c7 : z = 7
      · simp only [go_sem, Nat.reduceEqDiff, Nat.reduceAdd, Nat.reduceMul, Nat.reduceLeDiff, Int.reduceEq, Int.reduceLT, Int.reduceLE, Int.reduceAdd, Int.reduceSub, Int.reduceNeg, Int.reduceMul, Int.reduceToNat, Int.cast_ofNat_Int, Int.natCast_zero, Nat.add_zero, reduceCtorEq, c7]
        refine Does.call (draws_pick K dd.rd (by omega)) ?_
        rintro _ H8 ⟨k8, rfl, e8, s8, r8⟩
        simp only [go_sem, Nat.reduceEqDiff, Nat.reduceAdd, Nat.reduceMul, Nat.reduceLeDiff, Int.reduceEq, Int.reduceLT, Int.reduceLE, Int.reduceAdd, Int.reduceSub, Int.reduceNeg, Int.reduceMul, Int.reduceToNat, Int.cast_ofNat_Int, Int.natCast_zero, Nat.add_zero, reduceCtorEq]
        exact hQ _ _ (Ends.ret rfl ⟨3, _, 0, .nil, [], [], rfl, (dd.pick s8 r8).mono (by omega), .nil, by simp⟩)
      by_cases c8 : z = 8
      · simp only [go_sem, Nat.reduceEqDiff, Nat.reduceAdd, Nat.reduceMul, Nat.reduceLeDiff, Int.reduceEq, Int.reduceLT, Int.reduceLE, Int.reduceAdd, Int.reduceSub, Int.reduceNeg, Int.reduceMul, Int.reduceToNat, Int.cast_ofNat_Int, Int.natCast_zero, Nat.add_zero, reduceCtorEq, c8]
        refine Does.call (draws_pick K dd.rd (by omega)) ?_
        rintro _ H8 ⟨k8, rfl, e8, s8, r8⟩
        simp only [go_sem, Nat.reduceEqDiff, Nat.reduceAdd, Nat.reduceMul, Nat.reduceLeDiff, Int.reduceEq, Int.reduceLT, Int.reduceLE, Int.reduceAdd, Int.reduceSub, Int.reduceNeg, Int.reduceMul, Int.reduceToNat, Int.cast_ofNat_Int, Int.natCast_zero, Nat.add_zero, reduceCtorEq]
        exact hQ _ _ (Ends.ret rfl ⟨5, _, 0, .nil, [], [], rfl, (dd.pick s8 r8).mono (by omega), .nil, by simp⟩)
      by_cases c9 : z = 9
      · simp only [go_sem, Nat.reduceEqDiff, Nat.reduceAdd, Nat.reduceMul, Nat.reduceLeDiff, Int.reduceEq, Int.reduceLT, Int.reduceLE, Int.reduceAdd, Int.reduceSub, Int.reduceNeg, Int.reduceMul, Int.reduceToNat, Int.cast_ofNat_Int, Int.natCast_zero, Nat.add_zero, reduceCtorEq, c9]
        refine Does.call (draws_pick K dd.rd (by omega)) ?_
        rintro _ H8 ⟨k8, rfl, e8, s8, r8⟩
        simp only [go_sem, Nat.reduceEqDiff, Nat.reduceAdd, Nat.reduceMul, Nat.reduceLeDiff, Int.reduceEq, Int.reduceLT, Int.reduceLE, Int.reduceAdd, Int.reduceSub, Int.reduceNeg, Int.reduceMul, Int.reduceToNat, Int.cast_ofNat_Int, Int.natCast_zero, Nat.add_zero, reduceCtorEq]
        exact hQ _ _ (Ends.ret rfl ⟨6, _, 0, .nil, [], [], rfl, (dd.pick s8 r8).mono (by omega), .nil, by simp⟩)
      by_cases c10 : z = 10
      · simp only [go_sem, Nat.reduceEqDiff, Nat.reduceAdd, Nat.reduceMul, Nat.reduceLeDiff, Int.reduceEq, Int.reduceLT, Int.reduceLE, Int.reduceAdd, Int.reduceSub, Int.reduceNeg, Int.reduceMul, Int.reduceToNat, Int.cast_ofNat_Int, Int.natCast_zero, Nat.add_zero, reduceCtorEq, c10]
        refine Does.call (draws_pick K dd.rd (by omega)) ?_
        rintro _ H8 ⟨k8, rfl, e8, s8, r8⟩
        simp only [go_sem, Nat.reduceEqDiff, Nat.reduceAdd, Nat.reduceMul, Nat.reduceLeDiff, Int.reduceEq, Int.reduceLT, Int.reduceLE, Int.reduceAdd, Int.reduceSub, Int.reduceNeg, Int.reduceMul, Int.reduceToNat, Int.cast_ofNat_Int, Int.natCast_zero, Nat.add_zero, reduceCtorEq]
        exact hQ _ _ (Ends.ret rfl ⟨7, _, 0, .nil, [], [], rfl, (dd.pick s8 r8).mono (by omega), .nil, by simp⟩)
      by_cases c11 : z = 11
      · simp only [go_sem, Nat.reduceEqDiff, Nat.reduceAdd, Nat.reduceMul, Nat.reduceLeDiff, Int.reduceEq, Int.reduceLT, Int.reduceLE, Int.reduceAdd, Int.reduceSub, Int.reduceNeg, Int.reduceMul, Int.reduceToNat, Int.cast_ofNat_Int, Int.natCast_zero, Nat.add_zero, reduceCtorEq, c11]
        refine Does.call (draws_pick K dd.rd (by omega)) ?_
        rintro _ H8 ⟨k8, rfl, e8, s8, r8⟩
        simp only [go_sem, Nat.reduceEqDiff, Nat.reduceAdd, Nat.reduceMul, Nat.reduceLeDiff, Int.reduceEq, Int.reduceLT, Int.reduceLE, Int.reduceAdd, Int.reduceSub, Int.reduceNeg, Int.reduceMul, Int.reduceToNat, Int.cast_ofNat_Int, Int.natCast_zero, Nat.add_zero, reduceCtorEq]
        exact hQ _ _ (Ends.ret rfl ⟨7, _, 0, .nil, [], [], rfl, (dd.pick s8 r8).mono (by omega), .nil, by simp⟩)
      by_cases c12 : z = 12
      · simp only [go_sem, Nat.reduceEqDiff, Nat.reduceAdd, Nat.reduceMul, Nat.reduceLeDiff, Int.reduceEq, Int.reduceLT, Int.reduceLE, Int.reduceAdd, Int.reduceSub, Int.reduceNeg, Int.reduceMul, Int.reduceToNat, Int.cast_ofNat_Int, Int.natCast_zero, Nat.add_zero, reduceCtorEq, c12]
        refine Does.call (draws_pick K dd.rd (by omega)) ?_
        rintro _ H8 ⟨k8, rfl, e8, s8, r8⟩
        simp only [go_sem, Nat.reduceEqDiff, Nat.reduceAdd, Nat.reduceMul, Nat.reduceLeDiff, Int.reduceEq, Int.reduceLT, Int.reduceLE, Int.reduceAdd, Int.reduceSub, Int.reduceNeg, Int.reduceMul, Int.reduceToNat, Int.cast_ofNat_Int, Int.natCast_zero, Nat.add_zero, reduceCtorEq]
        exact hQ _ _ (Ends.ret rfl ⟨7, _, 0, .nil, [], [], rfl, (dd.pick s8 r8).mono (by omega), .nil, by simp⟩)
      by_cases c13 : z = 13
      · simp only [go_sem, Nat.reduceEqDiff, Nat.reduceAdd, Nat.reduceMul, Nat.reduceLeDiff, Int.reduceEq, Int.reduceLT, Int.reduceLE, Int.reduceAdd, Int.reduceSub, Int.reduceNeg, Int.reduceMul, Int.reduceToNat, Int.cast_ofNat_Int, Int.natCast_zero, Nat.add_zero, reduceCtorEq, c13]
        exact hQ _ _ (Ends.ret rfl ⟨7, 0, 0, .nil, [], [], rfl, dd.mono (by omega), .nil, by simp⟩)
      by_cases c14 : z = 14
      · simp only [go_sem, Nat.reduceEqDiff, Nat.reduceAdd, Nat.reduceMul, Nat.reduceLeDiff, Int.reduceEq, Int.reduceLT, Int.reduceLE, Int.reduceAdd, Int.reduceSub, Int.reduceNeg, Int.reduceMul, Int.reduceToNat, Int.cast_ofNat_Int, Int.natCast_zero, Nat.add_zero, reduceCtorEq, c14]
        exact hQ _ _ (Ends.ret rfl ⟨7, 0, 0, .nil, [], [], rfl, dd.mono (by omega), .nil, by simp⟩)
      by_cases c15 : z = 15
      · simp only [go_sem, Nat.reduceEqDiff, Nat.reduceAdd, Nat.reduceMul, Nat.reduceLeDiff, Int.reduceEq, Int.reduceLT, Int.reduceLE, Int.reduceAdd, Int.reduceSub, Int.reduceNeg, Int.reduceMul, Int.reduceToNat, Int.cast_ofNat_Int, Int.natCast_zero, Nat.add_zero, reduceCtorEq, c15]
        refine Does.call (draws_pick K dd.rd (by omega)) ?_
        rintro _ H8 ⟨k8, rfl, e8, s8, r8⟩
        have d8 := dd.pick s8 r8
        simp only [go_sem, Nat.reduceEqDiff, Nat.reduceAdd, Nat.reduceMul, Nat.reduceLeDiff, Int.reduceEq, Int.reduceLT, Int.reduceLE, Int.reduceAdd, Int.reduceSub, Int.reduceNeg, Int.reduceMul, Int.reduceToNat, Int.cast_ofNat_Int, Int.natCast_zero, Nat.add_zero, reduceCtorEq]
        refine Does.call (draws_pick K d8.rd (by omega)) ?_
        rintro _ H9 ⟨k9, rfl, e9, s9, r9⟩
        simp only [go_sem, Nat.reduceEqDiff, Nat.reduceAdd, Nat.reduceMul, Nat.reduceLeDiff, Int.reduceEq, Int.reduceLT, Int.reduceLE, Int.reduceAdd, Int.reduceSub, Int.reduceNeg, Int.reduceMul, Int.reduceToNat, Int.cast_ofNat_Int, Int.natCast_zero, Nat.add_zero, reduceCtorEq]
        exact hQ _ _ (Ends.ret rfl ⟨8, _, _, .nil, [], [], rfl, (d8.pick s9 r9).mono (by omega), .nil, by simp⟩)
      by_cases c16 : z = 16
      · simp only [go_sem, Nat.reduceEqDiff, Nat.reduceAdd, Nat.reduceMul, Nat.reduceLeDiff, Int.reduceEq, Int.reduceLT, Int.reduceLE, Int.reduceAdd, Int.reduceSub, Int.reduceNeg, Int.reduceMul, Int.reduceToNat, Int.cast_ofNat_Int, Int.natCast_zero, Nat.add_zero, reduceCtorEq, c16]
        refine Does.call (draws_pick K dd.rd (by omega)) ?_
        rintro _ H8 ⟨k8, rfl, e8, s8, r8⟩
        simp only [go_sem, Nat.reduceEqDiff, Nat.reduceAdd, Nat.reduceMul, Nat.reduceLeDiff, Int.reduceEq, Int.reduceLT, Int.reduceLE, Int.reduceAdd, Int.reduceSub, Int.reduceNeg, Int.reduceMul, Int.reduceToNat, Int.cast_ofNat_Int, Int.natCast_zero, Nat.add_zero, reduceCtorEq]
        exact hQ _ _ (Ends.ret rfl ⟨9, _, 0, .nil, [], [], rfl, (dd.pick s8 r8).mono (by omega), .nil, by simp⟩)
      by_cases c17 : z = 17
      · simp only [go_sem, Nat.reduceEqDiff, Nat.reduceAdd, Nat.reduceMul, Nat.reduceLeDiff, Int.reduceEq, Int.reduceLT, Int.reduceLE, Int.reduceAdd, Int.reduceSub, Int.reduceNeg, Int.reduceMul, Int.reduceToNat, Int.cast_ofNat_Int, Int.natCast_zero, Nat.add_zero, reduceCtorEq, c17]
        refine Does.call (draws_pick K dd.rd (by omega)) ?_
        rintro _ H8 ⟨k8, rfl, e8, s8, r8⟩
        simp only [go_sem, Nat.reduceEqDiff, Nat.reduceAdd, Nat.reduceMul, Nat.reduceLeDiff, Int.reduceEq, Int.reduceLT, Int.reduceLE, Int.reduceAdd, Int.reduceSub, Int.reduceNeg, Int.reduceMul, Int.reduceToNat, Int.cast_ofNat_Int, Int.natCast_zero, Nat.add_zero, reduceCtorEq]
        exact hQ _ _ (Ends.ret rfl ⟨9, _, 0, .nil, [], [], rfl, (dd.pick s8 r8).mono (by omega), .nil, by simp⟩)
      · simp only [go_sem, Nat.reduceEqDiff, Nat.reduceAdd, Nat.reduceMul, Nat.reduceLeDiff, Int.reduceEq, Int.reduceLT, Int.reduceLE, Int.reduceAdd, Int.reduceSub, Int.reduceNeg, Int.reduceMul, Int.reduceToNat, Int.cast_ofNat_Int, Int.natCast_zero, Nat.add_zero, reduceCtorEq, c0, c1, c2, c3, c4, c5, c6, c7, c8, c9, c10, c11, c12, c13, c14, c15, c16, c17]
        refine Does.call (draws_pick K dd.rd (by omega)) ?_
        rintro _ H8 ⟨k8, rfl, e8, s8, r8⟩
        simp only [go_sem, Nat.reduceEqDiff, Nat.reduceAdd, Nat.reduceMul, Nat.reduceLeDiff, Int.reduceEq, Int.reduceLT, Int.reduceLE, Int.reduceAdd, Int.reduceSub, Int.reduceNeg, Int.reduceMul, Int.reduceToNat, Int.cast_ofNat_Int, Int.natCast_zero, Nat.add_zero, reduceCtorEq]
        exact hQ _ _ (Ends.ret rfl ⟨7, _, 0, .nil, [], [], rfl, (dd.pick s8 r8).mono (by omega), .nil, by simp⟩)
  · simp only [go_sem, Nat.reduceEqDiff, Nat.reduceAdd, Nat.reduceMul, Nat.reduceLeDiff, Int.reduceEq, Int.reduceLT, Int.reduceLE, Int.reduceAdd, Int.reduceSub, Int.reduceNeg, Int.reduceMul, Int.reduceToNat, Int.cast_ofNat_Int, Int.natCast_zero, Nat.add_zero, reduceCtorEq, hwd.len, hl]
    refine Does.call (draws_pick K d.rd (by omega)) ?_
    rintro _ H7 ⟨z, rfl, e7, s7, r7⟩
    have dd := d.pick s7 r7
    by_cases c0 : z = 0
    · simp only [go_sem, Nat.reduceEqDiff, Nat.reduceAdd, Nat.reduceMul, Nat.reduceLeDiff, Int.reduceEq, Int.reduceLT, Int.reduceLE, Int.reduceAdd, Int.reduceSub, Int.reduceNeg, Int.reduceMul, Int.reduceToNat, Int.cast_ofNat_Int, Int.natCast_zero, Nat.add_zero, reduceCtorEq, c0]
      refine Does.call (draws_pick K dd.rd (by omega)) ?_
      rintro _ H8 ⟨j1, rfl, e8, s8, r8⟩
      have d8 := dd.pick s8 r8
      simp only [go_sem, Nat.reduceEqDiff, Nat.reduceAdd, Nat.reduceMul, Nat.reduceLeDiff, Int.reduceEq, Int.reduceLT, Int.reduceLE, Int.reduceAdd, Int.reduceSub, Int.reduceNeg, Int.reduceMul, Int.reduceToNat, Int.cast_ofNat_Int, Int.natCast_zero, Nat.add_zero, reduceCtorEq]
      refine Does.call (draws_pick K d8.rd (by omega)) ?_
      rintro _ H9 ⟨j2, rfl, e9, s9, r9⟩
      have d9 := d8.pick s9 r9
      simp only [go_sem, Nat.reduceEqDiff, Nat.reduceAdd, Nat.reduceMul, Nat.reduceLeDiff, Int.reduceEq, Int.reduceLT, Int.reduceLE, Int.reduceAdd, Int.reduceSub, Int.reduceNeg, Int.reduceMul, Int.reduceToNat, Int.cast_ofNat_Int, Int.natCast_zero, Nat.add_zero, reduceCtorEq]
      refine Does.call (draws_pick K d9.rd (by omega)) ?_
      rintro _ H10 ⟨j3, rfl, e10, s10, r10⟩
      have d10 := d9.pick s10 r10
      have hi := ints_new (H := H10) [j1, j2, IntKind.wrap .i64 (1 + j3)] rfl (by simp [lenTop])
      have d11 : Dr b _ H (H10 ++ [⟨.rw, 1, [.int .i64 j1, .int .i64 j2, .int .i64 (IntKind.wrap .i64 (1 + j3))]⟩]) [H10.length] := d10.new step_new
      simp only [go_sem, Nat.reduceEqDiff, Nat.reduceAdd, Nat.reduceMul, Nat.reduceLeDiff, Int.reduceEq, Int.reduceLT, Int.reduceLE, Int.reduceAdd, Int.reduceSub, Int.reduceNeg, Int.reduceMul, Int.reduceToNat, Int.cast_ofNat_Int, Int.natCast_zero, Nat.add_zero, reduceCtorEq, Nat.reduceDiv]
      exact hQ _ _ (Ends.ret rfl ⟨1, 0, 0, _, _, _, rfl, d11.mono (by omega), hi, by simp⟩)
    by_cases c1 : z = 1
    · simp only [go_sem, Nat.reduceEqDiff, Nat.reduceAdd, Nat.reduceMul, Nat.reduceLeDiff, Int.reduceEq, Int.reduceLT, Int.reduceLE, Int.reduceAdd, Int.reduceSub, Int.reduceNeg, Int.reduceMul, Int.reduceToNat, Int.cast_ofNat_Int, Int.natCast_zero, Nat.add_zero, reduceCtorEq, c1]
      refine Does.call (draws_pick K dd.rd (by omega)) ?_
      rintro _ H8 ⟨j1, rfl, e8, s8, r8⟩
      have d8 := dd.pick s8 r8
      simp only [go_sem, Nat.reduceEqDiff, Nat.reduceAdd, Nat.reduceMul, Nat.reduceLeDiff, Int.reduceEq, Int.reduceLT, Int.reduceLE, Int.reduceAdd, Int.reduceSub, Int.reduceNeg, Int.reduceMul, Int.reduceToNat, Int.cast_ofNat_Int, Int.natCast_zero, Nat.add_zero, reduceCtorEq]
      refine Does.call (draws_pick K d8.rd (by omega)) ?_
      rintro _ H9 ⟨j2, rfl, e9, s9, r9⟩
      have d9 := d8.pick s9 r9
      simp only [go_sem, Nat.reduceEqDiff, Nat.reduceAdd, Nat.reduceMul, Nat.reduceLeDiff, Int.reduceEq, Int.reduceLT, Int.reduceLE, Int.reduceAdd, Int.reduceSub, Int.reduceNeg, Int.reduceMul, Int.reduceToNat, Int.cast_ofNat_Int, Int.natCast_zero, Nat.add_zero, reduceCtorEq]
      refine Does.call (draws_pick K d9.rd (by omega)) ?_
      rintro _ H10 ⟨j3, rfl, e10, s10, r10⟩
      have d10 := d9.pick s10 r10
      have hi := ints_new (H := H10) [j1, j2, IntKind.wrap .i64 (1 + j3)] rfl (by simp [lenTop])
      have d11 : Dr b _ H (H10 ++ [⟨.rw, 1, [.int .i64 j1, .int .i64 j2, .int .i64 (IntKind.wrap .i64 (1 + j3))]⟩]) [H10.length] := d10.new step_new
      simp only [go_sem, Nat.reduceEqDiff, Nat.reduceAdd, Nat.reduceMul, Nat.reduceLeDiff, Int.reduceEq, Int.reduceLT, Int.reduceLE, Int.reduceAdd, Int.reduceSub, Int.reduceNeg, Int.reduceMul, Int.reduceToNat, Int.cast_ofNat_Int, Int.natCast_zero, Nat.add_zero, reduceCtorEq, Nat.reduceDiv]
      exact hQ _ _ (Ends.ret rfl ⟨1, 0, 0, _, _, _, rfl, d11.mono (by omega), hi, by simp⟩)
    by_cases c2 : z = 2
    · simp only [go_sem, Nat.reduceEqDiff, Nat.reduceAdd, Nat.reduceMul, Nat.reduceLeDiff, Int.reduceEq, Int.reduceLT, Int.reduceLE, Int.reduceAdd, Int.reduceSub, Int.reduceNeg, Int.reduceMul, Int.reduceToNat, Int.cast_ofNat_Int, Int.natCast_zero, Nat.add_zero, reduceCtorEq, c2]
      refine Does.call (draws_pick K dd.rd (by omega)) ?_
      rintro _ H8 ⟨k8, rfl, e8, s8, r8⟩
      simp only [go_sem, Nat.reduceEqDiff, Nat.reduceAdd, Nat.reduceMul, Nat.reduceLeDiff, Int.reduceEq, Int.reduceLT, Int.reduceLE, Int.reduceAdd, Int.reduceSub, Int.reduceNeg, Int.reduceMul, Int.reduceToNat, Int.cast_ofNat_Int, Int.natCast_zero, Nat.add_zero, reduceCtorEq]
      exact hQ _ _ (Ends.ret rfl ⟨2, _, 0, .nil, [], [], rfl, (dd.pick s8 r8).mono (by omega), .nil, by simp⟩)
    by_cases c3 : z = 3
    · simp only [go_sem, Nat.reduceEqDiff, Nat.reduceAdd, Nat.reduceMul, Nat.reduceLeDiff, Int.reduceEq, Int.reduceLT, Int.reduceLE, Int.reduceAdd, Int.reduceSub, Int.reduceNeg, Int.reduceMul, Int.reduceToNat, Int.cast_ofNat_Int, Int.natCast_zero, Nat.add_zero, reduceCtorEq, c3]
      refine Does.call (draws_pick K dd.rd (by omega)) ?_
      rintro _ H8 ⟨k8, rfl, e8, s8, r8⟩
      simp only [go_sem, Nat.reduceEqDiff, Nat.reduceAdd, Nat.reduceMul, Nat.reduceLeDiff, Int.reduceEq, Int.reduceLT, Int.reduceLE, Int.reduceAdd, Int.reduceSub, Int.reduceNeg, Int.reduceMul, Int.reduceToNat, Int.cast_ofNat_Int, Int.natCast_zero, Nat.add_zero, reduceCtorEq]
      exact hQ _ _ (Ends.ret rfl ⟨3, _, 0, .nil, [], [], rfl, (dd.pick s8 r8).mono (by omega), .nil, by simp⟩)
    by_cases c4 : z = 4
    · simp only [go_sem, Nat.reduceEqDiff, Nat.reduceAdd, Nat.reduceMul, Nat.reduceLeDiff, Int.reduceEq, Int.reduceLT, Int.reduceLE, Int.reduceAdd, Int.reduceSub, Int.reduceNeg, Int.reduceMul, Int.reduceToNat, Int.cast_ofNat_Int, Int.natCast_zero, Nat.add_zero, reduceCtorEq, c4]
      refine Does.call (draws_pick K dd.rd (by omega)) ?_
      rintro _ H8 ⟨k8, rfl, e8, s8, r8⟩
      simp only [go_sem, Nat.reduceEqDiff, Nat.reduceAdd, Nat.reduceMul, Nat.reduceLeDiff, Int.reduceEq, Int.reduceLT, Int.reduceLE, Int.reduceAdd, Int.reduceSub, Int.reduceNeg, Int.reduceMul, Int.reduceToNat, Int.cast_ofNat_Int, Int.natCast_zero, Nat.add_zero, reduceCtorEq]
      exact hQ _ _ (Ends.ret rfl ⟨3, _, 0, .nil, [], [], rfl, (dd.pick s8 r8).mono (by omega), .nil, by simp⟩)
    by_cases c5 : z = 5
    · simp only [go_sem, Nat.reduceEqDiff, Nat.reduceAdd, Nat.reduceMul, Nat.reduceLeDiff, Int.reduceEq, Int.reduceLT, Int.reduceLE, Int.reduceAdd, Int.reduceSub, Int.reduceNeg, Int.reduceMul, Int.reduceToNat, Int.cast_ofNat_Int, Int.natCast_zero, Nat.add_zero, reduceCtorEq, c5]
      refine Does.call (draws_pick K dd.rd (by omega)) ?_
      rintro _ H8 ⟨k8, rfl, e8, s8, r8⟩
      simp only [go_sem, Nat.reduceEqDiff, Nat.reduceAdd, Nat.reduceMul, Nat.reduceLeDiff, Int.reduceEq, Int.reduceLT, Int.reduceLE, Int.reduceAdd, Int.reduceSub, Int.reduceNeg, Int.reduceMul, Int.reduceToNat, Int.cast_ofNat_Int, Int.natCast_zero, Nat.add_zero, reduceCtorEq]
      exact hQ _ _ (Ends.ret rfl ⟨3, _, 0, .nil, [], [], rfl, (dd.pick s8 r8).mono (by omega), .nil, by simp⟩)
    by_cases c6 : z = 6
    · simp only [go_sem, Nat.reduceEqDiff, Nat.reduceAdd, Nat.reduceMul, Nat.reduceLeDiff, Int.reduceEq, Int.reduceLT, Int.reduceLE, Int.reduceAdd, Int.reduceSub, Int.reduceNeg, Int.reduceMul, Int.reduceToNat, Int.cast_ofNat_Int, Int.natCast_zero, Nat.add_zero, reduceCtorEq, c6]
      refine Does.call (draws_pick K dd.rd (by omega)) ?_
      rintro _ H8 ⟨k8, rfl, e8, s8, r8⟩
      simp only [go_sem, Nat.reduceEqDiff, Nat.reduceAdd, Nat.reduceMul, Nat.reduceLeDiff, Int.reduceEq, Int.reduceLT, Int.reduceLE, Int.reduceAdd, Int.reduceSub, Int.reduceNeg, Int.reduceMul, Int.reduceToNat, Int.cast_ofNat_Int, Int.natCast_zero, Nat.add_zero, reduceCtorEq]
      exact hQ _ _ (Ends.ret rfl ⟨3, _, 0, .nil, [], [], rfl, (dd.pick s8 r8).mono (by omega), .nil, by simp⟩)
    by_cases c7 : z = 7
    · simp only [go_sem, Nat.reduceEqDiff, Nat.reduceAdd, Nat.reduceMul, Nat.reduceLeDiff, Int.reduceEq, Int.reduceLT, Int.reduceLE, Int.reduceAdd, Int.reduceSub, Int.reduceNeg, Int.reduceMul, Int.reduceToNat, Int.cast_ofNat_Int, Int.natCast_zero, Nat.add_zero, reduceCtorEq, c7]
      refine Does.call (draws_pick K dd.rd (by omega)) ?_
      rintro _ H8 ⟨k8, rfl, e8, s8, r8⟩
      simp only [go_sem, Nat.reduceEqDiff, Nat.reduceAdd, Nat.reduceMul, Nat.reduceLeDiff, Int.reduceEq, Int.reduceLT, Int.reduceLE, Int.reduceAdd, Int.reduceSub, Int.reduceNeg, Int.reduceMul, Int.reduceToNat, Int.cast_ofNat_Int, Int.natCast_zero, Nat.add_zero, reduceCtorEq]
      exact hQ _ _ (Ends.ret rfl ⟨3, _, 0, .nil, [], [], rfl, (dd.pick s8 r8).mono (by omega), .nil, by simp⟩)
    by_cases c8 : z = 8
    · simp only [go_sem, Nat.reduceEqDiff, Nat.reduceAdd, Nat.reduceMul, Nat.reduceLeDiff, Int.reduceEq, Int.reduceLT, Int.reduceLE, Int.reduceAdd, Int.reduceSub, Int.reduceNeg, Int.reduceMul, Int.reduceToNat, Int.cast_ofNat_Int, Int.natCast_zero, Nat.add_zero, reduceCtorEq, c8]
      refine Does.call (draws_pick K dd.rd (by omega)) ?_
      rintro _ H8 ⟨k8, rfl, e8, s8, r8⟩
      simp only [go_sem, Nat.reduceEqDiff, Nat.reduceAdd, Nat.reduceMul, Nat.reduceLeDiff, Int.reduceEq, Int.reduceLT, Int.reduceLE, Int.reduceAdd, Int.reduceSub, Int.reduceNeg, Int.reduceMul, Int.reduceToNat, Int.cast_ofNat_Int, Int.natCast_zero, Nat.add_zero, reduceCtorEq]
      exact hQ _ _ (Ends.ret rfl ⟨5, _, 0, .nil, [], [], rfl, (dd.pick s8 r8).mono (by omega), .nil, by simp⟩)
    by_cases c9 : z = 9
    · simp only [go_sem, Nat.reduceEqDiff, Nat.reduceAdd, Nat.reduceMul, Nat.reduceLeDiff, Int.reduceEq, Int.reduceLT, Int.reduceLE, Int.reduceAdd, Int.reduceSub, Int.reduceNeg, Int.reduceMul, Int.reduceToNat, Int.cast_ofNat_Int, Int.natCast_zero, Nat.add_zero, reduceCtorEq, c9]
      refine Does.call (draws_pick K dd.rd (by omega)) ?_
      rintro _ H8 ⟨k8, rfl, e8, s8, r8⟩
      simp only [go_sem, Nat.reduceEqDiff, Nat.reduceAdd, Nat.reduceMul, Nat.reduceLeDiff, Int.reduceEq, Int.reduceLT, Int.reduceLE, Int.reduceAdd, Int.reduceSub, Int.reduceNeg, Int.reduceMul, Int.reduceToNat, Int.cast_ofNat_Int, Int.natCast_zero, Nat.add_zero, reduceCtorEq]
      exact hQ _ _ (Ends.ret rfl ⟨6, _, 0, .nil, [], [], rfl, (dd.pick s8 r8).mono (by omega), .nil, by simp⟩)
    by_cases c10 : z = 10
    · simp only [go_sem, Nat.reduceEqDiff, Nat.reduceAdd, Nat.reduceMul, Nat.reduceLeDiff, Int.reduceEq, Int.reduceLT, Int.reduceLE, Int.reduceAdd, Int.reduceSub, Int.reduceNeg, Int.reduceMul, Int.reduceToNat, Int.cast_ofNat_Int, Int.natCast_zero, Nat.add_zero, reduceCtorEq, c10]
      refine Does.call (draws_pick K dd.rd (by omega)) ?_
      rintro _ H8 ⟨k8, rfl, e8, s8, r8⟩
      simp only [go_sem, Nat.reduceEqDiff, Nat.reduceAdd, Nat.reduceMul, Nat.reduceLeDiff, Int.reduceEq, Int.reduceLT, Int.reduceLE, Int.reduceAdd, Int.reduceSub, Int.reduceNeg, Int.reduceMul, Int.reduceToNat, Int.cast_ofNat_Int, Int.natCast_zero, Nat.add_zero, reduceCtorEq]
      exact hQ _ _ (Ends.ret rfl ⟨7, _, 0, .nil, [], [], rfl, (dd.pick s8 r8).mono (by omega), .nil, by simp⟩)
    by_cases c11 : z = 11
    · simp only [go_sem, Nat.reduceEqDiff, Nat.reduceAdd, Nat.reduceMul, Nat.reduceLeDiff, Int.reduceEq, Int.reduceLT, Int.reduceLE, Int.reduceAdd, Int.reduceSub, Int.reduceNeg, Int.reduceMul, Int.reduceToNat, Int.cast_ofNat_Int, Int.natCast_zero, Nat.add_zero, reduceCtorEq, c11]
      refine Does.call (draws_pick K dd.rd (by omega)) ?_
      rintro _ H8 ⟨k8, rfl, e8, s8, r8⟩
      simp only [go_sem, Nat.reduceEqDiff, Nat.reduceAdd, Nat.reduceMul, Nat.reduceLeDiff, Int.reduceEq, Int.reduceLT, Int.reduceLE, Int.reduceAdd, Int.reduceSub, Int.reduceNeg, Int.reduceMul, Int.reduceToNat, Int.cast_ofNat_Int, Int.natCast_zero, Nat.add_zero, reduceCtorEq]
      exact hQ _ _ (Ends.ret rfl ⟨7, _, 0, .nil, [], [], rfl, (dd.pick s8 r8).mono (by omega), .nil, by simp⟩)
    by_cases c12 : z = 12
    · simp only [go_sem, Nat.reduceEqDiff, Nat.reduceAdd, Nat.reduceMul, Nat.reduceLeDiff, Int.reduceEq, Int.reduceLT, Int.reduceLE, Int.reduceAdd, Int.reduceSub, Int.reduceNeg, Int.reduceMul, Int.reduceToNat, Int.cast_ofNat_Int, Int.natCast_zero, Nat.add_zero, reduceCtorEq, c12]
      refine Does.call (draws_pick K dd.rd (by omega)) ?_
      rintro _ H8 ⟨k8, rfl, e8, s8, r8⟩
      simp only [go_sem, Nat.reduceEqDiff, Nat.reduceAdd, Nat.reduceMul, Nat.reduceLeDiff, Int.reduceEq, Int.reduceLT, Int.reduceLE, Int.reduceAdd, Int.reduceSub, Int.reduceNeg, Int.reduceMul, Int.reduceToNat, Int.cast_ofNat_Int, Int.natCast_zero, Nat.add_zero, reduceCtorEq]
      exact hQ _ _ (Ends.ret rfl ⟨7, _, 0, .nil, [], [], rfl, (dd.pick s8 r8).mono (by omega), .nil, by simp⟩)
    by_cases c13 : z = 13
    · simp only [go_sem, Nat.reduceEqDiff, Nat.reduceAdd, Nat.reduceMul, Nat.reduceLeDiff, Int.reduceEq, Int.reduceLT, Int.reduceLE, Int.reduceAdd, Int.reduceSub, Int.reduceNeg, Int.reduceMul, Int.reduceToNat, Int.cast_ofNat_Int, Int.natCast_zero, Nat.add_zero, reduceCtorEq, c13]
      exact hQ _ _ (Ends.ret rfl ⟨7, 0, 0, .nil, [], [], rfl, dd.mono (by omega), .nil, by simp⟩)
    by_cases c14 : z = 14
    · simp only [go_sem, Nat.reduceEqDiff, Nat.reduceAdd, Nat.reduceMul, Nat.reduceLeDiff, Int.reduceEq, Int.reduceLT, Int.reduceLE, Int.reduceAdd, Int.reduceSub, Int.reduceNeg, Int.reduceMul, Int.reduceToNat, Int.cast_ofNat_Int, Int.natCast_zero, Nat.add_zero, reduceCtorEq, c14]
      exact hQ _ _ (Ends.ret rfl ⟨7, 0, 0, .nil, [], [], rfl, dd.mono (by omega), .nil, by simp⟩)
    by_cases c15 : z = 15
    · simp only [go_sem, Nat.reduceEqDiff, Nat.reduceAdd, Nat.reduceMul, Nat.reduceLeDiff, Int.reduceEq, Int.reduceLT, Int.reduceLE, Int.reduceAdd, Int.reduceSub, Int.reduceNeg, Int.reduceMul, Int.reduceToNat, Int.cast_ofNat_Int, Int.natCast_zero, Nat.add_zero, reduceCtorEq, c15]
      refine Does.call (draws_pick K dd.rd (by omega)) ?_
      rintro _ H8 ⟨k8, rfl, e8, s8, r8⟩
      have d8 := dd.pick s8 r8
      simp only [go_sem, Nat.reduceEqDiff, Nat.reduceAdd, Nat.reduceMul, Nat.reduceLeDiff, Int.reduceEq, Int.reduceLT, Int.reduceLE, Int.reduceAdd, Int.reduceSub, Int.reduceNeg, Int.reduceMul, Int.reduceToNat, Int.cast_ofNat_Int, Int.natCast_zero, Nat.add_zero, reduceCtorEq]
      refine Does.call (draws_pick K d8.rd (by omega)) ?_
      rintro _ H9 ⟨k9, rfl, e9, s9, r9⟩
      simp only [go_sem, Nat.reduceEqDiff, Nat.reduceAdd, Nat.reduceMul, Nat.reduceLeDiff, Int.reduceEq, Int.reduceLT, Int.reduceLE, Int.reduceAdd, Int.reduceSub, Int.reduceNeg, Int.reduceMul, Int.reduceToNat, Int.cast_ofNat_Int, Int.natCast_zero, Nat.add_zero, reduceCtorEq]
      exact hQ _ _ (Ends.ret rfl ⟨8, _, _, .nil, [], [], rfl, (d8.pick s9 r9).mono (by omega), .nil, by simp⟩)
    by_cases c16 : z = 16
    · simp only [go_sem, Nat.reduceEqDiff, Nat.reduceAdd, Nat.reduceMul, Nat.reduceLeDiff, Int.reduceEq, Int.reduceLT, Int.reduceLE, Int.reduceAdd, Int.reduceSub, Int.reduceNeg, Int.reduceMul, Int.reduceToNat, Int.cast_ofNat_Int, Int.natCast_zero, Nat.add_zero, reduceCtorEq, c16]
      refine Does.call (draws_pick K dd.rd (by omega)) ?_
      rintro _ H8 ⟨k8, rfl, e8, s8, r8⟩
      simp only [go_sem, Nat.reduceEqDiff, Nat.reduceAdd, Nat.reduceMul, Nat.reduceLeDiff, Int.reduceEq, Int.reduceLT, Int.reduceLE, Int.reduceAdd, Int.reduceSub, Int.reduceNeg, Int.reduceMul, Int.reduceToNat, Int.cast_ofNat_Int, Int.natCast_zero, Nat.add_zero, reduceCtorEq]
      exact hQ _ _ (Ends.ret rfl ⟨9, _, 0, .nil, [], [], rfl, (dd.pick s8 r8).mono (by omega), .nil, by simp⟩)
    by_cases c17 : z = 17
    · simp only [go_sem, Nat.reduceEqDiff, Nat.reduceAdd, Nat.reduceMul, Nat.reduceLeDiff, Int.reduceEq, Int.reduceLT, Int.reduceLE, Int.reduceAdd, Int.reduceSub, Int.reduceNeg, Int.reduceMul, Int.reduceToNat, Int.cast_ofNat_Int, Int.natCast_zero, Nat.add_zero, reduceCtorEq, c17]
      refine Does.call (draws_pick K dd.rd (by omega)) ?_
      rintro _ H8 ⟨k8, rfl, e8, s8, r8⟩
      simp only [go_sem, Nat.reduceEqDiff, Nat.reduceAdd, Nat.reduceMul, Nat.reduceLeDiff, Int.reduceEq, Int.reduceLT, Int.reduceLE, Int.reduceAdd, Int.reduceSub, Int.reduceNeg, Int.reduceMul, Int.reduceToNat, Int.cast_ofNat_Int, Int.natCast_zero, Nat.add_zero, reduceCtorEq]
      exact hQ _ _ (Ends.ret rfl ⟨9, _, 0, .nil, [], [], rfl, (dd.pick s8 r8).mono (by omega), .nil, by simp⟩)
    · simp only [go_sem, Nat.reduceEqDiff, Nat.reduceAdd, Nat.reduceMul, Nat.reduceLeDiff, Int.reduceEq, Int.reduceLT, Int.reduceLE, Int.reduceAdd, Int.reduceSub, Int.reduceNeg, Int.reduceMul, Int.reduceToNat, Int.cast_ofNat_Int, Int.natCast_zero, Nat.add_zero, reduceCtorEq, c0, c1, c2, c3, c4, c5, c6, c7, c8, c9, c10, c11, c12, c13, c14, c15, c16, c17]
      refine Does.call (draws_pick K dd.rd (by omega)) ?_
      rintro _ H8 ⟨k8, rfl, e8, s8, r8⟩
      simp only [go_sem, Nat.reduceEqDiff, Nat.reduceAdd, Nat.reduceMul, Nat.reduceLeDiff, Int.reduceEq, Int.reduceLT, Int.reduceLE, Int.reduceAdd, Int.reduceSub, Int.reduceNeg, Int.reduceMul, Int.reduceToNat, Int.cast_ofNat_Int, Int.natCast_zero, Nat.add_zero, reduceCtorEq]
      exact hQ _ _ (Ends.ret rfl ⟨7, _, 0, .nil, [], [], rfl, (dd.pick s8 r8).mono (by omega), .nil, by simp⟩)
/-! Plays. -/
def RRaw : RepS (List C) := fun _ cs x F => cs = x ∧ F = []
theorem RRaw.good : Good RRaw := ⟨fun _ _ _ _ _ h _ => h, fun _ _ _ _ h => by simp [h.2]⟩
theorem rooms_ok {xs : List Int} (h : xs.length = 3) (hr : ∀ r ∈ xs, 0 ≤ r ∧ r ≤ 9) : worldNewOk xs = true := by
  match xs, h with
  | [a, b, c], _ =>
    have h1 := hr a (by simp)
    have h2 := hr b (by simp)
    have h3 := hr c (by simp)
    simp [worldNewOk, okN, houseNewOk, inB, h1, h2, h3]
theorem worldNew_inv {rooms : List Int} (h : worldNewOk rooms = true) : WInv (worldNewV rooms) := by
  obtain ⟨h1, h2, h3, h4, h5⟩ := worldOk_parts (worldNew_worldOk h)
  exact ⟨h1, h2, h4, h3, fun x hx => List.all_eq_true.1 h5 x hx⟩
end Go.AX

/- Draws of plays. Condition: the reader lies in memory, and drew less often than 2^39. -/
namespace Go.AX
variable {P : Program} {I : Ids}
set_option maxHeartbeats 4000000 in
set_option maxRecDepth 8000 in
theorem draws_l72Play (K : Codes P I) {H : Heap} {b q : Nat} (h : RdM H b q) (hq : q < 549755811000) :
    Does P I.s_l72Play [.c (.ptr b 0)] H fun v H' => ∃ a ev cs w F, v = .tup [.c a, .c ev, .agg cs] ∧ Dr b (q + 500) H H' F ∧ RWld H' cs w F ∧ WInv w := by
  have hb0 := h.lt
  refine K.does K.s_l72Play rfl fun Q hQ => ?_
  simp only [go_sem, Nat.reduceEqDiff, Nat.reduceAdd, Nat.reduceMul, Nat.reduceLeDiff, Int.reduceEq, Int.reduceLT, Int.reduceLE, Int.reduceAdd, Int.reduceSub, Int.reduceNeg, Int.reduceMul, Int.reduceToNat, Int.cast_ofNat_Int, Int.natCast_zero, Nat.add_zero, reduceCtorEq, L_s_l72Play]
  refine Does.call (draws_l72Rooms K h (by omega)) ?_
  rintro _ H1 ⟨a, rooms, R, rfl, d1, hi, hl3, hrr⟩
  have hok := rooms_ok hl3 hrr
  replace d1 : Dr b (q + 3) H H1 R := d1
  simp only [go_sem, Nat.reduceEqDiff, Nat.reduceAdd, Nat.reduceMul, Nat.reduceLeDiff, Int.reduceEq, Int.reduceLT, Int.reduceLE, Int.reduceAdd, Int.reduceSub, Int.reduceNeg, Int.reduceMul, Int.reduceToNat, Int.cast_ofNat_Int, Int.natCast_zero, Nat.add_zero, reduceCtorEq]
  refine Does.call (does_s_WorldNew K hi) ?_
  rintro _ H2 ⟨cs2, F2, rfl, s2, hw2⟩
  replace s2 : Step [] H1 H2 F2 := s2
  have d2 : Dr b _ H H2 F2 := (d1.new s2).part (fun a => by simp only [List.count_append, List.count_nil, List.count_cons]; omega)
  have wi2 := worldNew_inv hok
  obtain ⟨y0, y1, y2, y3, y4, y5, Y1, Y2, Y3, rfl, _, _, _, _⟩ := hw2.parts
  simp only [go_sem, Nat.reduceEqDiff, Nat.reduceAdd, Nat.reduceMul, Nat.reduceLeDiff, Int.reduceEq, Int.reduceLT, Int.reduceLE, Int.reduceAdd, Int.reduceSub, Int.reduceNeg, Int.reduceMul, Int.reduceToNat, Int.cast_ofNat_Int, Int.natCast_zero, Nat.add_zero, reduceCtorEq]
  refine Does.call (draws_pick K d2.rd (by omega)) ?_
  rintro _ H3 ⟨k3, rfl, e3, s3, r3⟩
  replace s3 : Step [b] H2 H3 [b] := s3
  have d3 := d2.pick s3 r3
  have hw3 := d2.keep RWld.good hw2 s3
  simp only [go_sem, Nat.reduceEqDiff, Nat.reduceAdd, Nat.reduceMul, Nat.reduceLeDiff, Int.reduceEq, Int.reduceLT, Int.reduceLE, Int.reduceAdd, Int.reduceSub, Int.reduceNeg, Int.reduceMul, Int.reduceToNat, Int.cast_ofNat_Int, Int.natCast_zero, Nat.add_zero, reduceCtorEq]
  refine RUo_join (fun s => s.env 0 = .val (.c (.ptr b 0)) ∧ s.env 4 = .box [.bool false, .nil, .int .i64 0, .nil, .nil, .nil] ∧ s.env 5 = .val (.c a) ∧ ∃ cs F w ev E evs, s.env 6 = .box cs ∧ s.env 8 = .val (.c ev) ∧ Dr b (q + 4) H s.H (F ++ E) ∧ RWld s.H cs w F ∧ WInv w ∧ SlR 4 RRaw s.H ev evs E ∧ evs.length ≤ 2) (fun Q' hN hE hR => ?_) ?_
  · by_cases c : 0 < k3
    · have t1 := step_new (H := H3) (n := 1) (cs := [.int .i64 1, .int .i64 1, .int .i64 1])
      have hmi := ints_new (H := H3) [1, 1, 1] rfl (by simp [lenTop])
      have t2 := step_new (H := H3 ++ [⟨.rw, 1, [.int .i64 1, .int .i64 1, .int .i64 1]⟩]) (n := 4) (cs := [.int .i64 1, .int .i64 0, .int .i64 0, .sl H3.length 0 3, .int .i64 7, .int .i64 0, .int .i64 0, .nil])
      generalize hX : [H3.length] ++ [(H3 ++ [(⟨.rw, 1, [.int .i64 1, .int .i64 1, .int .i64 1]⟩ : Blk)]).length] = X at *
      have dd5 : Dr b (q + 4) H _ (F2 ++ ([] ++ X)) := (((d3.new t1).new t2).part (by rw [← hX]; intro a; simp only [List.count_append, List.count_nil, List.count_cons]; omega))
      have hw5 := t2.stay RWld.good (t1.stay RWld.good hw3)
      have hmi5 := t2.keepSl RInt.good hmi (fun b _ => by simp)
      simp only [go_sem, Nat.reduceEqDiff, Nat.reduceAdd, Nat.reduceMul, Nat.reduceLeDiff, Int.reduceEq, Int.reduceLT, Int.reduceLE, Int.reduceAdd, Int.reduceSub, Int.reduceNeg, Int.reduceMul, Int.reduceToNat, Int.cast_ofNat_Int, Int.natCast_zero, Nat.add_zero, reduceCtorEq, c, Nat.reduceDiv]
      refine RU_loop (fun m s => ∃ i : Nat, m = 2 - i ∧ i ≤ 2 ∧ s.env 0 = .val (.c (.ptr b 0)) ∧ s.env 4 = .box [.bool false, .nil, .int .i64 0, .nil, .nil, .nil] ∧ s.env 5 = .val (.c a) ∧ s.env 27 = .val (.c (.sl (H3 ++ [(⟨.rw, 1, [.int .i64 1, .int .i64 1, .int .i64 1]⟩ : Blk)]).length 0 2)) ∧ s.env 28 = .val (int 2) ∧ s.env 29 = .val (int i) ∧ ∃ cs F w ev E evs, s.env 6 = .box cs ∧ s.env 8 = .val (.c ev) ∧ Dr b (q + 4) H s.H (F ++ (E ++ X)) ∧ RWld s.H cs w F ∧ WInv w ∧ SlR 4 RRaw s.H ev evs E ∧ evs.length ≤ i ∧ Ints s.H (.sl H3.length 0 3) [1, 1, 1] [H3.length] ∧ s.H.live (H3 ++ [(⟨.rw, 1, [.int .i64 1, .int .i64 1, .int .i64 1]⟩ : Blk)]).length = some [.int .i64 1, .int .i64 0, .int .i64 0, .sl H3.length 0 3, .int .i64 7, .int .i64 0, .int .i64 0, .nil]) 2
        ⟨0, by simp, by simp, rfl, rfl, rfl, rfl, rfl, rfl, _, F2, _, .emp true, [], [], rfl, rfl, dd5, hw5, wi2, .emp, by simp, hmi5, live_new⟩ ?_
      rintro m s ⟨i, rfl, hi2, g0, g4, g5, g27, g28, g29, cs, F, w, ev, E, evs, g6, g8, dd, hw, wi, hev, hel, hmm, hlv⟩ Q2 hN2 hE2 hR2
      obtain ⟨u0, u1, u2, u3, u4, u5, U1, U2, U3, rfl, _, _, _, _⟩ := hw.parts
      by_cases hlt : (i : Int) < 2
      · obtain ⟨k, A, B, cm, many, Gm, hsl, hm, hgm, hml⟩ : ∃ k A B cm many Gm, slab [C.int .i64 1, .int .i64 0, .int .i64 0, .sl H3.length 0 3, .int .i64 7, .int .i64 0, .int .i64 0, .nil] (0 + i * 4) 4 = some [.int .i64 k, .int .i64 A, .int .i64 B, cm] ∧ Ints s.H cm many Gm ∧ (∀ x ∈ Gm, x ∈ X) ∧ many.length ≤ 3 := by
          have : i = 0 ∨ i = 1 := by omega
          rcases this with rfl | rfl
          · exact ⟨1, 0, 0, _, _, _, rfl, hmm, fun x hx => by rw [← hX]; simp at hx; simp [hx], by simp⟩
          · exact ⟨7, 0, 0, .nil, [], [], rfl, .nil, by simp, by simp⟩
        have hwi := wrap_succ (show i ≤ lenTop by simp [lenTop]; omega)
        have own : Owned s.H (F ++ (E ++ X)) := dd.owned
        obtain ⟨ev3, H3', E3, ha, hev3, s3'⟩ := app_one RRaw.good (f := []) (by decide) hev (show RRaw s.H [.int .i64 k, .int .i64 A, .int .i64 B, cm] [.int .i64 k, .int .i64 A, .int .i64 B, cm] [] from ⟨rfl, rfl⟩) rfl (by rw [List.append_nil]; exact own.part (fun a => by simp only [List.count_append, List.count_nil, List.count_cons]; omega)) (by simp [lenMax]; omega)
        rw [List.append_nil] at s3'
        have dd3 : Dr b _ H H3' ((F ++ X) ++ E3) := (dd.part (fun a => by simp only [List.count_append, List.count_nil, List.count_cons]; omega) : Dr b _ H s.H ((F ++ X) ++ E)).change hb0 s3'
        have own2 : Owned s.H ((F ++ X) ++ E) := own.part (fun a => by simp only [List.count_append, List.count_nil, List.count_cons]; omega)
        have hw3' := s3'.keep RWld.good hw (fun x hx => own2.disj x (by simp [hx]))
        have hm3' : Ints H3' cm many Gm := s3'.keepSl RInt.good hm (fun x hx => own2.disj x (by simp [hgm x hx]))
        simp only [go_sem, Nat.reduceEqDiff, Nat.reduceAdd, Nat.reduceMul, Nat.reduceLeDiff, Int.reduceEq, Int.reduceLT, Int.reduceLE, Int.reduceAdd, Int.reduceSub, Int.reduceNeg, Int.reduceMul, Int.reduceToNat, Int.cast_ofNat_Int, Int.natCast_zero, Nat.add_zero, reduceCtorEq, g0, g5, g6, g8, g27, g28, g29, hlt, hlv, hsl, ha]
        refine Does.call (does_s_l21Do K hw3' (dd3.owned.part (fun a => by simp only [List.count_append, List.count_nil, List.count_cons]; omega) : Owned H3' F) wi hm3' (show many.length ≤ lenMax by simp [lenMax]; omega)) ?_
        rintro _ H4' ⟨cs4, w4, F4, rfl, s4', hw4, wi4⟩
        replace s4' : Step F H3' H4' F4 := s4'
        have dd4 : Dr b _ H H4' ((E3 ++ X) ++ F4) := (dd3.part (fun a => by simp only [List.count_append, List.count_nil, List.count_cons]; omega) : Dr b _ H H3' ((E3 ++ X) ++ F)).change hb0 s4'
        have own3 : Owned H3' ((E3 ++ X) ++ F) := dd3.owned.part (fun a => by simp only [List.count_append, List.count_nil, List.count_cons]; omega)
        have hev4 := s4'.keepSl RRaw.good hev3 (fun x hx => own3.disj x (by simp [hx]))
        obtain ⟨z0, z1, z2, z3, z4, z5, Z1, Z2, Z3, hz, _, _, _, _⟩ := hw4.parts
        have disX : ∀ x ∈ X, x ∉ E ∧ x ∉ F := fun x hx => ⟨own2.disj x (by simp [hx]), own3.disj x (by simp [hx])⟩
        have x1 : H3.length ∈ X := by rw [← hX]; simp
        have x2 : (H3 ++ [(⟨.rw, 1, [.int .i64 1, .int .i64 1, .int .i64 1]⟩ : Blk)]).length ∈ X := by rw [← hX]; simp
        have hmm4 := s4'.keepSl RInt.good (s3'.keepSl RInt.good hmm (fun x hx => by simp at hx; subst hx; exact (disX _ x1).1)) (fun x hx => by simp at hx; subst hx; exact (disX _ x1).2)
        have hlv3 := live_keep s3' (live_lt hlv) (disX _ x2).1 hlv
        have hlv4 := live_keep s4' (live_lt hlv3) (disX _ x2).2 hlv3
        subst hz
        simp only [go_sem, Nat.reduceEqDiff, Nat.reduceAdd, Nat.reduceMul, Nat.reduceLeDiff, Int.reduceEq, Int.reduceLT, Int.reduceLE, Int.reduceAdd, Int.reduceSub, Int.reduceNeg, Int.reduceMul, Int.reduceToNat, Int.cast_ofNat_Int, Int.natCast_zero, Nat.add_zero, reduceCtorEq, g0, g5, g6, g27, g28, g29, hwi]
        exact hN2 _ _ (by omega) ⟨i + 1, rfl, by omega, by simp [upd, g0], by simp [upd, g4], by simp [upd, g5], by simp [upd, g27], by simp [upd, g28], by simp [upd], _, F4, w4, ev3, E3, _, by simp [upd], by simp [upd], dd4.part (fun a => by simp only [List.count_append, List.count_nil, List.count_cons]; omega), hw4, wi4, hev4, by simp; omega, hmm4, hlv4⟩
      · simp only [go_sem, Nat.reduceEqDiff, Nat.reduceAdd, Nat.reduceMul, Nat.reduceLeDiff, Int.reduceEq, Int.reduceLT, Int.reduceLE, Int.reduceAdd, Int.reduceSub, Int.reduceNeg, Int.reduceMul, Int.reduceToNat, Int.cast_ofNat_Int, Int.natCast_zero, Nat.add_zero, reduceCtorEq, g0, g5, g6, g8, g27, g28, g29, hlt]
        refine hE2 _ _ ?_
        simp only [go_sem, Nat.reduceEqDiff, Nat.reduceAdd, Nat.reduceMul, Nat.reduceLeDiff, Int.reduceEq, Int.reduceLT, Int.reduceLE, Int.reduceAdd, Int.reduceSub, Int.reduceNeg, Int.reduceMul, Int.reduceToNat, Int.cast_ofNat_Int, Int.natCast_zero, Nat.add_zero, reduceCtorEq, g0, g5, g6, g8]
        exact hN _ ⟨by simp [upd, g0], by simp [upd, g4], by simp [upd, g5], _, F, w, ev, E, evs, by simp [upd, g6], by simp [upd, g8], dd.part (fun a => by simp only [List.count_append, List.count_nil, List.count_cons]; omega), hw, wi, hev, by omega⟩
    · simp only [go_sem, Nat.reduceEqDiff, Nat.reduceAdd, Nat.reduceMul, Nat.reduceLeDiff, Int.reduceEq, Int.reduceLT, Int.reduceLE, Int.reduceAdd, Int.reduceSub, Int.reduceNeg, Int.reduceMul, Int.reduceToNat, Int.cast_ofNat_Int, Int.natCast_zero, Nat.add_zero, reduceCtorEq, c]
      exact hN _ ⟨rfl, rfl, rfl, _, F2, _, .emp true, [], [], rfl, rfl, by simpa using d3, hw3, wi2, .emp, by simp⟩
  · rintro s ⟨g0, g4, g5, cs, F, w, ev, E, evs, g6, g8, d, hw, wi, hev, hel⟩
    simp only [go_sem, Nat.reduceEqDiff, Nat.reduceAdd, Nat.reduceMul, Nat.reduceLeDiff, Int.reduceEq, Int.reduceLT, Int.reduceLE, Int.reduceAdd, Int.reduceSub, Int.reduceNeg, Int.reduceMul, Int.reduceToNat, Int.cast_ofNat_Int, Int.natCast_zero, Nat.add_zero, reduceCtorEq, g0]
    refine Does.call (draws_pick K d.rd (by omega)) ?_
    rintro _ H4 ⟨k4, rfl, e4, s4, r4⟩
    replace s4 : Step [b] s.H H4 [b] := s4
    obtain ⟨j, rfl, hj⟩ := e4.nat (by decide)
    have d4 := d.pick s4 r4
    have dis := d.disj
    have hw4 := s4.keep RWld.good hw (fun x hx => dis x (by simp [hx]))
    have hev4 := s4.keepSl RRaw.good hev (fun x hx => dis x (by simp [hx]))
    simp only [go_sem, Nat.reduceEqDiff, Nat.reduceAdd, Nat.reduceMul, Nat.reduceLeDiff, Int.reduceEq, Int.reduceLT, Int.reduceLE, Int.reduceAdd, Int.reduceSub, Int.reduceNeg, Int.reduceMul, Int.reduceToNat, Int.cast_ofNat_Int, Int.natCast_zero, Nat.add_zero, reduceCtorEq, g0, g5, g6, g8]
    refine RU_loop (fun m s => ∃ n : Nat, m = n ∧ n ≤ j ∧ s.env 0 = .val (.c (.ptr b 0)) ∧ s.env 4 = .box [.bool false, .nil, .int .i64 0, .nil, .nil, .nil] ∧ s.env 5 = .val (.c a) ∧ s.env 11 = .val (int n) ∧ ∃ cs F w ev E evs, s.env 6 = .box cs ∧ s.env 8 = .val (.c ev) ∧ Dr b (q + 5 + 6 * (j - n)) H s.H (F ++ E) ∧ RWld s.H cs w F ∧ WInv w ∧ SlR 4 RRaw s.H ev evs E ∧ evs.length ≤ 2 + (j - n)) j
      ⟨j, rfl, Nat.le_refl _, by simp [upd, g0], by simp [upd, g4], by simp [upd, g5], rfl, cs, F, w, ev, E, evs, by simp [upd, g6], by simp [upd, g8], by simpa using d4, hw4, wi, hev4, by omega⟩ ?_
    clear hw hev d4 hw4 hev4 g6 g8 wi hel d dis
    rintro n s' ⟨_, rfl, hn, q0, q4, q5, q11, cs, F, w, ev, E, evs, q6, q8, d, hw, wi, hev, hel⟩ Q2 hN2 hE2 hR2
    obtain ⟨u0, u1, u2, u3, u4, u5, U1, U2, U3, rfl, _, _, _, _⟩ := hw.parts
    by_cases hlt : (0 : Int) < n
    · simp only [go_sem, Nat.reduceEqDiff, Nat.reduceAdd, Nat.reduceMul, Nat.reduceLeDiff, Int.reduceEq, Int.reduceLT, Int.reduceLE, Int.reduceAdd, Int.reduceSub, Int.reduceNeg, Int.reduceMul, Int.reduceToNat, Int.cast_ofNat_Int, Int.natCast_zero, Nat.add_zero, reduceCtorEq, q0, q5, q6, q8, q11, hlt]
      refine Does.call (draws_l72Event K d.rd (by omega) hw wi) ?_
      rintro _ H5 ⟨k, A, B, cm, many, X, rfl, de, hm, hml⟩
      replace de : Dr b _ s'.H H5 X := de
      have dis := d.disj
      replace hw := de.step.keep RWld.good hw (fun x hx => dis x (by simp [hx]))
      replace hev := de.step.keepSl RRaw.good hev (fun x hx => dis x (by simp [hx]))
      have dd : Dr b (q + 5 + 6 * (j - n) + 6) H H5 (F ++ (E ++ X)) := (d.draw de).part (fun a => by simp only [List.count_append, List.count_nil, List.count_cons]; omega)
      obtain ⟨Gm, hGm⟩ : ∃ Gm, Gm = X := ⟨X, rfl⟩
      have hgm : ∀ x ∈ Gm, x ∈ X := fun x hx => hGm ▸ hx
      rw [← hGm] at hm
      have hwn : IntKind.wrap .i64 ((n : Int) - 1) = ((n - 1 : Nat) : Int) := by rw [wrap_i64 (by omega) (by omega)]; omega
      have own : Owned H5 (F ++ (E ++ X)) := dd.owned
      obtain ⟨ev3, H3', E3, ha, hev3, s3'⟩ := app_one RRaw.good (f := []) (by decide) hev (show RRaw H5 [.int .i64 k, .int .i64 A, .int .i64 B, cm] [.int .i64 k, .int .i64 A, .int .i64 B, cm] [] from ⟨rfl, rfl⟩) rfl (by rw [List.append_nil]; exact own.part (fun a => by simp only [List.count_append, List.count_nil, List.count_cons]; omega)) (by simp [lenMax]; omega)
      rw [List.append_nil] at s3'
      have dd3 : Dr b _ H H3' ((F ++ X) ++ E3) := (dd.part (fun a => by simp only [List.count_append, List.count_nil, List.count_cons]; omega) : Dr b _ H H5 ((F ++ X) ++ E)).change hb0 s3'
      have own2 : Owned H5 ((F ++ X) ++ E) := own.part (fun a => by simp only [List.count_append, List.count_nil, List.count_cons]; omega)
      have hw3' := s3'.keep RWld.good hw (fun x hx => own2.disj x (by simp [hx]))
      have hm3' : Ints H3' cm many Gm := s3'.keepSl RInt.good hm (fun x hx => own2.disj x (by simp [hgm x hx]))
      simp only [go_sem, Nat.reduceEqDiff, Nat.reduceAdd, Nat.reduceMul, Nat.reduceLeDiff, Int.reduceEq, Int.reduceLT, Int.reduceLE, Int.reduceAdd, Int.reduceSub, Int.reduceNeg, Int.reduceMul, Int.reduceToNat, Int.cast_ofNat_Int, Int.natCast_zero, Nat.add_zero, reduceCtorEq, q0, q5, q6, q8, q11, ha]
      refine Does.call (does_s_l21Do K hw3' (dd3.owned.part (fun a => by simp only [List.count_append, List.count_nil, List.count_cons]; omega) : Owned H3' F) wi hm3' (show many.length ≤ lenMax by simp [lenMax]; omega)) ?_
      rintro _ H4' ⟨cs4, w4, F4, rfl, s4', hw4, wi4⟩
      replace s4' : Step F H3' H4' F4 := s4'
      have dd4 : Dr b _ H H4' ((E3 ++ X) ++ F4) := (dd3.part (fun a => by simp only [List.count_append, List.count_nil, List.count_cons]; omega) : Dr b _ H H3' ((E3 ++ X) ++ F)).change hb0 s4'
      have own3 : Owned H3' ((E3 ++ X) ++ F) := dd3.owned.part (fun a => by simp only [List.count_append, List.count_nil, List.count_cons]; omega)
      have hev4 := s4'.keepSl RRaw.good hev3 (fun x hx => own3.disj x (by simp [hx]))
      obtain ⟨z0, z1, z2, z3, z4, z5, Z1, Z2, Z3, hz, _, _, _, _⟩ := hw4.parts
      subst hz
      simp only [go_sem, Nat.reduceEqDiff, Nat.reduceAdd, Nat.reduceMul, Nat.reduceLeDiff, Int.reduceEq, Int.reduceLT, Int.reduceLE, Int.reduceAdd, Int.reduceSub, Int.reduceNeg, Int.reduceMul, Int.reduceToNat, Int.cast_ofNat_Int, Int.natCast_zero, Nat.add_zero, reduceCtorEq, q0, q5, q6, q11, hwn]
      exact hN2 _ _ (show n - 1 < n by omega) ⟨n - 1, rfl, by omega, by simp [upd, q0], by simp [upd, q4], by simp [upd, q5], by simp [upd], _, F4, w4, ev3, E3, _, by simp [upd], by simp [upd], (dd4.part (fun a => by simp only [List.count_append, List.count_nil, List.count_cons]; omega)).mono (by omega), hw4, wi4, hev4, by simp; omega⟩
    · simp only [go_sem, Nat.reduceEqDiff, Nat.reduceAdd, Nat.reduceMul, Nat.reduceLeDiff, Int.reduceEq, Int.reduceLT, Int.reduceLE, Int.reduceAdd, Int.reduceSub, Int.reduceNeg, Int.reduceMul, Int.reduceToNat, Int.cast_ofNat_Int, Int.natCast_zero, Nat.add_zero, reduceCtorEq, q0, q5, q6, q8, q11, hlt]
      refine hE2 _ _ ?_
      simp only [go_sem, Nat.reduceEqDiff, Nat.reduceAdd, Nat.reduceMul, Nat.reduceLeDiff, Int.reduceEq, Int.reduceLT, Int.reduceLE, Int.reduceAdd, Int.reduceSub, Int.reduceNeg, Int.reduceMul, Int.reduceToNat, Int.cast_ofNat_Int, Int.natCast_zero, Nat.add_zero, reduceCtorEq, q4, q5, q6, q8]
      exact hQ _ _ (Ends.ret rfl ⟨a, ev, _, w, F, rfl, (d.part (fun a => by simp only [List.count_append, List.count_nil, List.count_cons]; omega)).mono (by omega), hw, wi⟩)
end Go.AX

/- Draws of desks. Condition: the bytes of which is drawn lie in memory. -/
namespace Go.AX
variable {P : Program} {I : Ids}
set_option maxHeartbeats 2000000 in
set_option maxRecDepth 8000 in
theorem draws_l72Desk (K : Codes P I) {H : Heap} {b q : Nat} (h : RdM H b q) (hq : q < 549755810000) :
    Does P I.s_l72Desk [.c (.ptr b 0)] H fun v H' => ∃ ds z0 z1 z2 z3 z4 z5 d F, v = .tup [.agg ds, .agg [z0, z1, z2, z3, z4, z5]] ∧ Dr b (q + 600) H H' F ∧ RDesk H' ds d F := by
  have hb0 := h.lt
  refine K.does K.s_l72Desk rfl fun Q hQ => ?_
  simp only [go_sem, Nat.reduceEqDiff, Nat.reduceAdd, Nat.reduceMul, Nat.reduceLeDiff, Int.reduceEq, Int.reduceLT, Int.reduceLE, Int.reduceAdd, Int.reduceSub, Int.reduceNeg, Int.reduceMul, Int.reduceToNat, Int.cast_ofNat_Int, Int.natCast_zero, Nat.add_zero, reduceCtorEq, L_s_l72Desk]
  refine Does.call (draws_l72Play K h (by omega)) ?_
  rintro _ H1 ⟨a, ev, cs, w, F, rfl, d1, hw, wi⟩
  replace d1 : Dr b _ H H1 F := d1
  obtain ⟨y0, y1, y2, y3, c, n, F1, F2, F3, rfl, rfl, hd, _, _⟩ := hw.parts
  obtain ⟨rc, tc, D1, D2, hcs, rfl, hrec, htold⟩ := hd
  cases hcs
  replace d1 : Dr b _ H H1 (D1 ++ D2) := d1.part (fun a => by simp only [List.count_append, List.count_nil, List.count_cons]; omega)
  have hlok := (deskOk_parts wi.desk).2.1
  obtain ⟨_, h40, _, _⟩ := logOk_parts hlok
  have h72 := desk_told wi.desk
  simp only [go_sem, Nat.reduceEqDiff, Nat.reduceAdd, Nat.reduceMul, Nat.reduceLeDiff, Int.reduceEq, Int.reduceLT, Int.reduceLE, Int.reduceAdd, Int.reduceSub, Int.reduceNeg, Int.reduceMul, Int.reduceToNat, Int.cast_ofNat_Int, Int.natCast_zero, Nat.add_zero, reduceCtorEq]
  refine Does.call (draws_pick K d1.rd (by omega)) ?_
  rintro _ H2 ⟨k2, rfl, e2, s2, r2⟩
  replace s2 : Step [b] H1 H2 [b] := s2
  have d2 := d1.pick s2 r2
  have dis := d1.disj
  have hrec2 : Recs H2 y1 w.desk.log.recs D1 := s2.keepSl RRec.good hrec (fun x hx => dis x (by simp [hx]))
  have htold2 : Words H2 y3 w.desk.told D2 := s2.keepSl RWord.good htold (fun x hx => dis x (by simp [hx]))
  by_cases c0 : k2 = 0
  · simp only [go_sem, Nat.reduceEqDiff, Nat.reduceAdd, Nat.reduceMul, Nat.reduceLeDiff, Int.reduceEq, Int.reduceLT, Int.reduceLE, Int.reduceAdd, Int.reduceSub, Int.reduceNeg, Int.reduceMul, Int.reduceToNat, Int.cast_ofNat_Int, Int.natCast_zero, Nat.add_zero, reduceCtorEq, c0]
    refine Does.call (draws_l71Rec K d2.rd (by omega)) ?_
    rintro _ H3 ⟨cs3, x, F3', rfl, d3, hx, hm⟩
    replace d3 : Dr b _ H2 H3 F3' := d3
    have dis2 := d2.disj
    have hrec3 := d3.step.keepSl RRec.good hrec2 (fun x hx => dis2 x (by simp [hx]))
    have htold3 := d3.step.keepSl RWord.good htold2 (fun x hx => dis2 x (by simp [hx]))
    have dd : Dr b _ H H3 (D2 ++ (D1 ++ F3')) := (d2.draw d3).part (fun a => by simp only [List.count_append, List.count_nil, List.count_cons]; omega)
    obtain ⟨c4, H4, F4, ha, hr4, s4⟩ := app_one RRec.good (by decide) hrec3 hx hx.cells (dd.owned.part (fun a => by simp only [List.count_append, List.count_nil, List.count_cons]; omega)) (by simp [lenMax]; omega)
    have d4 := dd.change hb0 s4
    have htold4 := s4.keepSl RWord.good htold3 (fun x hx => dd.owned.disj x hx)
    obtain ⟨x0, x1, x2, rfl⟩ := len3 hx.cells
    simp only [go_sem, Nat.reduceEqDiff, Nat.reduceAdd, Nat.reduceMul, Nat.reduceLeDiff, Int.reduceEq, Int.reduceLT, Int.reduceLE, Int.reduceAdd, Int.reduceSub, Int.reduceNeg, Int.reduceMul, Int.reduceToNat, Int.cast_ofNat_Int, Int.natCast_zero, Nat.add_zero, reduceCtorEq, ha]
    exact hQ _ _ (Ends.ret rfl ⟨_, _, _, _, _, _, _, ⟨w.desk.up, ⟨w.desk.log.recs ++ [x], w.desk.log.forced⟩, w.desk.told⟩, F4 ++ D2, rfl, (d4.part (fun a => by simp only [List.count_append, List.count_nil, List.count_cons]; omega)).mono (by omega), ⟨c4, y3, F4, D2, rfl, rfl, hr4, htold4⟩⟩)
  · by_cases c1 : k2 = 1
    · simp only [go_sem, Nat.reduceEqDiff, Nat.reduceAdd, Nat.reduceMul, Nat.reduceLeDiff, Int.reduceEq, Int.reduceLT, Int.reduceLE, Int.reduceAdd, Int.reduceSub, Int.reduceNeg, Int.reduceMul, Int.reduceToNat, Int.cast_ofNat_Int, Int.natCast_zero, Nat.add_zero, reduceCtorEq, c0, c1]
      refine Does.call (draws_l71Word K d2.rd (by omega)) ?_
      rintro _ H3 ⟨x, rfl, d3⟩
      replace d3 : Dr b _ H2 H3 [] := d3
      have dis2 := d2.disj
      have hrec3 := d3.step.keepSl RRec.good hrec2 (fun x hx => dis2 x (by simp [hx]))
      have htold3 := d3.step.keepSl RWord.good htold2 (fun x hx => dis2 x (by simp [hx]))
      have dd : Dr b _ H H3 (D1 ++ D2) := (d2.draw d3).part (fun a => by simp only [List.count_append, List.count_nil, List.count_cons]; omega)
      obtain ⟨c4, H4, F4, ha, hr4, s4⟩ := app_one RWord.good (f := []) (by decide) htold3 (show RWord H3 _ x [] from ⟨rfl, rfl⟩) rfl (by rw [List.append_nil]; exact dd.owned.part (fun a => by simp only [List.count_append, List.count_nil, List.count_cons]; omega)) (by simp [lenMax]; omega)
      rw [List.append_nil] at s4
      have d4 := dd.change hb0 s4
      have hrec4 := s4.keepSl RRec.good hrec3 (fun x hx => dd.owned.disj x hx)
      simp only [go_sem, Nat.reduceEqDiff, Nat.reduceAdd, Nat.reduceMul, Nat.reduceLeDiff, Int.reduceEq, Int.reduceLT, Int.reduceLE, Int.reduceAdd, Int.reduceSub, Int.reduceNeg, Int.reduceMul, Int.reduceToNat, Int.cast_ofNat_Int, Int.natCast_zero, Nat.add_zero, reduceCtorEq, ha]
      exact hQ _ _ (Ends.ret rfl ⟨_, _, _, _, _, _, _, ⟨w.desk.up, w.desk.log, w.desk.told ++ [x]⟩, D1 ++ F4, rfl, d4.mono (by omega), ⟨y1, c4, D1, F4, rfl, rfl, hrec4, hr4⟩⟩)
    · by_cases c2 : k2 = 2
      · simp only [go_sem, Nat.reduceEqDiff, Nat.reduceAdd, Nat.reduceMul, Nat.reduceLeDiff, Int.reduceEq, Int.reduceLT, Int.reduceLE, Int.reduceAdd, Int.reduceSub, Int.reduceNeg, Int.reduceMul, Int.reduceToNat, Int.cast_ofNat_Int, Int.natCast_zero, Nat.add_zero, reduceCtorEq, c0, c1, c2]
        exact hQ _ _ (Ends.ret rfl ⟨_, _, _, _, _, _, _, ⟨!w.desk.up, w.desk.log, w.desk.told⟩, D1 ++ D2, rfl, d2.mono (by omega), ⟨y1, y3, D1, D2, rfl, rfl, hrec2, htold2⟩⟩)
      · by_cases c3 : k2 = 3
        · simp only [go_sem, Nat.reduceEqDiff, Nat.reduceAdd, Nat.reduceMul, Nat.reduceLeDiff, Int.reduceEq, Int.reduceLT, Int.reduceLE, Int.reduceAdd, Int.reduceSub, Int.reduceNeg, Int.reduceMul, Int.reduceToNat, Int.cast_ofNat_Int, Int.natCast_zero, Nat.add_zero, reduceCtorEq, c0, c1, c2, c3]
          exact hQ _ _ (Ends.ret rfl ⟨_, _, _, _, _, _, _, ⟨w.desk.up, ⟨w.desk.log.recs, IntKind.wrap .i64 (w.desk.log.forced + 1)⟩, w.desk.told⟩, D1 ++ D2, rfl, d2.mono (by omega), ⟨y1, y3, D1, D2, rfl, rfl, hrec2, htold2⟩⟩)
        · simp only [go_sem, Nat.reduceEqDiff, Nat.reduceAdd, Nat.reduceMul, Nat.reduceLeDiff, Int.reduceEq, Int.reduceLT, Int.reduceLE, Int.reduceAdd, Int.reduceSub, Int.reduceNeg, Int.reduceMul, Int.reduceToNat, Int.cast_ofNat_Int, Int.natCast_zero, Nat.add_zero, reduceCtorEq, c0, c1, c2, c3]
          exact hQ _ _ (Ends.ret rfl ⟨_, _, _, _, _, _, _, w.desk, D1 ++ D2, rfl, d2.mono (by omega), ⟨y1, y3, D1, D2, rfl, rfl, hrec2, htold2⟩⟩)
theorem draws_DrawDeskOk (K : Codes P I) {H : Heap} {c : C} {xs : List Int} {G : List Nat} (h : Bytes H c xs G) :
    Does P I.s_DrawDeskOk [.c c] H fun v H' => ∃ ds d F, v = .val (.agg ds) ∧ Step [] H H' F ∧ RDesk H' ds d F := by
  refine K.does K.s_DrawDeskOk rfl fun Q hQ => ?_
  simp only [go_sem, Nat.reduceEqDiff, Nat.reduceAdd, Nat.reduceMul, Nat.reduceLeDiff, Int.reduceEq, Int.reduceLT, Int.reduceLE, Int.reduceAdd, Int.reduceSub, Int.reduceNeg, Int.reduceMul, Int.reduceToNat, Int.cast_ofNat_Int, Int.natCast_zero, Nat.add_zero, reduceCtorEq, L_s_DrawDeskOk]
  refine Does.call (draws_open K h) ?_
  rintro _ H1 ⟨b, rfl, s1, r1⟩
  simp only [go_sem, Nat.reduceEqDiff, Nat.reduceAdd, Nat.reduceMul, Nat.reduceLeDiff, Int.reduceEq, Int.reduceLT, Int.reduceLE, Int.reduceAdd, Int.reduceSub, Int.reduceNeg, Int.reduceMul, Int.reduceToNat, Int.cast_ofNat_Int, Int.natCast_zero, Nat.add_zero, reduceCtorEq]
  refine Does.call (draws_l72Desk K r1 (by omega)) ?_
  rintro _ H2 ⟨ds, z0, z1, z2, z3, z4, z5, d, F, rfl, d2, hd⟩
  obtain ⟨x0, x1, x2, x3, rfl⟩ := len4 hd.cells
  simp only [go_sem, Nat.reduceEqDiff, Nat.reduceAdd, Nat.reduceMul, Nat.reduceLeDiff, Int.reduceEq, Int.reduceLT, Int.reduceLE, Int.reduceAdd, Int.reduceSub, Int.reduceNeg, Int.reduceMul, Int.reduceToNat, Int.cast_ofNat_Int, Int.natCast_zero, Nat.add_zero, reduceCtorEq]
  exact hQ _ _ (Ends.ret rfl ⟨_, d, F, rfl, d2.out s1, hd⟩)
theorem draws_DrawDeskRise (K : Codes P I) {H : Heap} {c : C} {xs : List Int} {G : List Nat} (h : Bytes H c xs G) :
    Does P I.s_DrawDeskRise [.c c] H fun v H' => ∃ ds d F, v = .val (.agg ds) ∧ Step [] H H' F ∧ RDesk H' ds d F := by
  refine K.does K.s_DrawDeskRise rfl fun Q hQ => ?_
  simp only [go_sem, Nat.reduceEqDiff, Nat.reduceAdd, Nat.reduceMul, Nat.reduceLeDiff, Int.reduceEq, Int.reduceLT, Int.reduceLE, Int.reduceAdd, Int.reduceSub, Int.reduceNeg, Int.reduceMul, Int.reduceToNat, Int.cast_ofNat_Int, Int.natCast_zero, Nat.add_zero, reduceCtorEq, L_s_DrawDeskRise]
  refine Does.call (draws_DrawDeskOk K h) ?_
  rintro _ H1 ⟨ds, d, F, rfl, s1, hd⟩
  obtain ⟨x0, x1, x2, x3, rfl⟩ := len4 hd.cells
  simp only [go_sem, Nat.reduceEqDiff, Nat.reduceAdd, Nat.reduceMul, Nat.reduceLeDiff, Int.reduceEq, Int.reduceLT, Int.reduceLE, Int.reduceAdd, Int.reduceSub, Int.reduceNeg, Int.reduceMul, Int.reduceToNat, Int.cast_ofNat_Int, Int.natCast_zero, Nat.add_zero, reduceCtorEq]
  exact hQ _ _ (Ends.ret rfl ⟨_, d, F, rfl, s1, hd⟩)
end Go.AX

/- What holds of desks. No condition: plain Lean. -/
namespace Go.AX
/-- Each trip is there still, and is as far as it was, or farther. -/
def Farther (p l : List Trip) : Prop := ∀ (i : Nat) (x : Trip), p[i]? = some x → ∃ y : Trip, l[i]? = some y ∧ y.many = x.many ∧ x.state ≤ y.state
theorem Farther.refl (p : List Trip) : Farther p p := fun i x h => ⟨x, h, rfl, Int.le_refl _⟩
theorem Farther.trans {p q l : List Trip} (h1 : Farther p q) (h2 : Farther q l) : Farther p l := fun i x h => by
  obtain ⟨y, hy, m1, s1⟩ := h1 i x h
  obtain ⟨z, hz, m2, s2⟩ := h2 i y hy
  exact ⟨z, hz, m2.trans m1, Int.le_trans s1 s2⟩
theorem stateOf_at {l : List Trip} {t : Int} {x : Trip} {i : Nat} (hx : l[i]? = some x) (ht : t = (i : Int) + 1) : stateOf l t = x.state := by
  have hi : i < l.length := (List.getElem?_eq_some_iff.1 hx).1
  have hin : inB t 1 l.length = true := by simp [inB]; omega
  unfold stateOf
  rw [if_pos hin, show (t - 1).toNat = i by omega, hx]; rfl
theorem farther_do {p : List Trip} {r : Rec} (hr : recOk r = true) (hm : tripMayB p r = true) : Farther p (tripsDoL p r) := fun i x hx => by
  have hi : i < p.length := (List.getElem?_eq_some_iff.1 hx).1
  have ht := recOk_trip hr
  unfold tripsDoL
  split
  · exact ⟨x, by rw [List.getElem?_append_left hi]; exact hx, rfl, Int.le_refl _⟩
  · rename_i h4
    by_cases e : (r.trip - 1).toNat = i
    · have hs := stateOf_at hx (t := r.trip) (by omega)
      refine ⟨tripStep x r, by rw [List.getElem?_modify, hx]; simp [e], rfl, ?_⟩
      unfold tripMayB at hm
      rw [if_neg h4] at hm
      unfold tripStep
      simp only
      split at hm
      · simp only [decide_eq_true_eq] at hm
        rw [hs] at hm
        (repeat' split) <;> omega
      · split at hm
        · rename_i h56 h7
          simp only [Bool.or_eq_true, decide_eq_true_eq] at hm
          rw [hs] at hm
          rw [if_neg (by omega), if_neg (by omega)]
          split <;> omega
        · cases hm
    · exact ⟨x, by rw [List.getElem?_modify, hx]; show some (if (r.trip - 1).toNat = i then tripStep x r else x) = some x; rw [if_neg e], rfl, Int.le_refl _⟩
theorem farther_fold : ∀ (rs : List Rec) (p : List Trip) {l : List Trip}, rs.foldl tripsStep (some p) = some l → Farther p l
  | [], p, l, h => by cases h; exact Farther.refl p
  | r :: rs, p, l, h => by
    rw [List.foldl_cons] at h
    cases hs : tripsStep (some p) r with
    | none => rw [hs, foldl_trips_none] at h; cases h
    | some q =>
      rw [hs] at h
      simp only [tripsStep, Option.bind_some] at hs
      split at hs
      · rename_i hc
        rw [Bool.and_eq_true] at hc
        cases hs
        exact (farther_do hc.1 hc.2).trans (farther_fold rs _ h)
      · cases hs
theorem farther_take {recs : List Rec} {l p : List Trip} {k : Nat} (h : tripsOf recs = some l) (hp : tripsOf (recs.take k) = some p) : Farther p l := by
  have : tripsOf recs = (recs.drop k).foldl tripsStep (tripsOf (recs.take k)) := by
    unfold tripsOf; rw [← List.foldl_append, List.take_append_drop]
  rw [hp, h] at this
  exact farther_fold _ _ this.symm
theorem desk_farther {d : Desk} (h : deskOk d = true) (f : Bool) : Farther (tripsV d f) (tripsV d false) := by
  cases f with
  | false => exact Farther.refl _
  | true =>
    have h1 := tripsV_some h true
    have h2 := tripsV_some h false
    simp only [known, if_true] at h1
    simp only [known] at h2
    exact farther_take (k := d.log.forced.toNat) (by simpa using h2) h1
/-! A trip that is given up. -/
theorem give_may {d : Desk} {t : Int} : deskMay d (giveRec t) = (d.up && decide (stateOf (tripsV d false) t = 1)) := by
  unfold deskMay tripMayB giveRec; simp
theorem give_not {d : Desk} {t : Int} (h : deskWrote d (giveRec t) = false) : deskWrite d (giveRec t) = d := by
  unfold deskWrite; split
  · rename_i hm
    simp only [deskWrote, hm, Bool.true_and, decide_eq_false_iff_not] at h
    unfold addL' addL
    rw [if_pos (by omega)]
  · rfl
theorem give_done {d : Desk} {t : Int} (hok : deskOk d = true) (h1 : 1 ≤ t) (h6 : t ≤ 6) (h : deskWrote d (giveRec t) = true) : d.up = true ∧ stateOf (tripsV d false) t = 1 ∧ tripsV (deskWrite d (giveRec t)) false = (tripsV d false).modify (t - 1).toNat (tripStep · (giveRec t)) := by
  simp only [deskWrote, Bool.and_eq_true, decide_eq_true_eq] at h
  obtain ⟨hm, hl⟩ := h
  have hm' := hm
  rw [give_may, Bool.and_eq_true, decide_eq_true_eq] at hm'
  refine ⟨hm'.1, hm'.2, ?_⟩
  obtain ⟨l, hl1, hv, _⟩ := deskOk_facts hok
  have hr : recOk (giveRec t) = true := give_ok (by simp [inB, h1, h6])
  have hmb : tripMayB l (giveRec t) = true := by
    simp only [deskMay, Bool.and_eq_true] at hm
    rw [← hv]; exact hm.2
  have hw : deskWrite d (giveRec t) = { d with log := ⟨d.log.recs ++ [giveRec t], d.log.forced⟩ } := by
    unfold deskWrite; rw [if_pos hm]
    unfold addL' addL; rw [if_neg (by omega)]
  have hs : tripsOf (d.log.recs ++ [giveRec t]) = some (tripsDoL l (giveRec t)) := by
    rw [tripsOf_snoc, hl1]; simp [tripsStep, hr, hmb]
  rw [hw, hv]
  show (tripsOf (d.log.recs ++ [giveRec t])).getD [] = _
  rw [hs]
  rfl
/-! Desks that force. -/
theorem force_trips {d : Desk} : tripsV { d with log := forceL d.log } true = tripsV d false := by
  simp [tripsV, known, forceL]
end Go.AX

/- Draws of trips, and the laws of them. Condition: the bytes that draw lie in memory. -/
namespace Go.AX
variable {P : Program} {I : Ids}
end Go.AX

/- The laws of trips hold. Condition: the bytes that draw lie in memory. -/
namespace Go.AX
variable {P : Program} {I : Ids}
theorem does_w_lnTrips (K : Codes P I) {H : Heap} {a b : C} {xs ys : List Trip} {F G : List Nat} (ha : Trips H a xs F) (hb : Trips H b ys G) : Does P I.w_lnTrips [.c a, .c b] H fun r H' => r = bool (decide (xs = ys)) ∧ H' = H := by
  refine K.does K.w_lnTrips rfl fun Q hQ => ?_
  have htop := ha.top
  by_cases hl : (xs.length : Int) = ys.length
  · simp only [go_sem, Nat.reduceEqDiff, Nat.reduceAdd, Nat.reduceMul, Nat.reduceLeDiff, Int.reduceEq, Int.reduceLT, Int.reduceLE, Int.reduceAdd, Int.reduceSub, Int.reduceNeg, Int.reduceMul, Int.reduceToNat, Int.cast_ofNat_Int, Int.natCast_zero, Nat.add_zero, reduceCtorEq, L_w_lnTrips, ha.len, hb.len, hl]
    refine RU_loop (fun m s => ∃ i : Nat, m = xs.length - i ∧ i ≤ xs.length ∧ s.H = H ∧ s.env 0 = .val (.c a) ∧ s.env 1 = .val (.c b) ∧ s.env 5 = .val (int i) ∧ xs.take i = ys.take i) xs.length ⟨0, by simp, by simp, rfl, rfl, rfl, rfl, rfl⟩ ?_
    rintro m s ⟨i, rfl, hi, hH, h0, h1, h5, ht⟩ Q' hN hE hR
    by_cases hlt : (i : Int) < xs.length
    · obtain ⟨x, hx⟩ := get_lt hlt
      obtain ⟨y, hy⟩ : ∃ y, ys[i]? = some y := get_lt (by omega)
      have hlt' : (i : Int) < ys.length := by omega
      obtain ⟨b1, o1, bs1, cs1, f1, rfl, e1, e2, ⟨c1, rfl, k1⟩, _, _⟩ := ha.get hx
      obtain ⟨b2, o2, bs2, cs2, f2, rfl, g1, g2, ⟨c2, rfl, k2⟩, _, _⟩ := hb.get hy
      have l0 := slab_sub0 e2 1 (by simp)
      have l1 := slab_sub e2 1 1 (by simp)
      have m0 := slab_sub0 g2 1 (by simp)
      have m1 := slab_sub g2 1 1 (by simp)
      simp only [slabAt1, slabSkip1] at l0 l1 m0 m1
      by_cases hs : x.state = y.state
      · simp only [go_sem, Nat.reduceEqDiff, Nat.reduceAdd, Nat.reduceMul, Nat.reduceLeDiff, Int.reduceEq, Int.reduceLT, Int.reduceLE, Int.reduceAdd, Int.reduceSub, Int.reduceNeg, Int.reduceMul, Int.reduceToNat, Int.cast_ofNat_Int, Int.natCast_zero, Nat.add_zero, reduceCtorEq, h0, h1, h5, hlt, hlt', hH, e1, l0, l1, g1, m0, m1, hs]
        refine Does.test (does_w_lnInts K k1 k2) ?_
        by_cases hm : x.many = y.many
        · simp only [go_sem, Nat.reduceEqDiff, Nat.reduceAdd, Nat.reduceMul, Nat.reduceLeDiff, Int.reduceEq, Int.reduceLT, Int.reduceLE, Int.reduceAdd, Int.reduceSub, Int.reduceNeg, Int.reduceMul, Int.reduceToNat, Int.cast_ofNat_Int, Int.natCast_zero, Nat.add_zero, reduceCtorEq, h0, h1, h5, hm, wrap_succ (show i ≤ lenTop by omega)]
          refine hN _ _ (by omega) ⟨i + 1, rfl, by omega, by simp [hH], by simp [upd, h0], by simp [upd, h1], by simp [upd], ?_⟩
          rw [take_snoc hx, take_snoc hy, ht, show x = y from Trip.ext hm hs]
        · simp only [go_sem, Nat.reduceEqDiff, Nat.reduceAdd, Nat.reduceMul, Nat.reduceLeDiff, Int.reduceEq, Int.reduceLT, Int.reduceLE, Int.reduceAdd, Int.reduceSub, Int.reduceNeg, Int.reduceMul, Int.reduceToNat, Int.cast_ofNat_Int, Int.natCast_zero, Nat.add_zero, reduceCtorEq, hm]
          refine hR _ (hQ _ _ (Ends.ret rfl ⟨?_, by simp [hH]⟩))
          have : xs ≠ ys := fun e => by subst e; rw [hx] at hy; simp at hy; exact hm (by rw [hy])
          simp [tupOf, this]
      · simp only [go_sem, Nat.reduceEqDiff, Nat.reduceAdd, Nat.reduceMul, Nat.reduceLeDiff, Int.reduceEq, Int.reduceLT, Int.reduceLE, Int.reduceAdd, Int.reduceSub, Int.reduceNeg, Int.reduceMul, Int.reduceToNat, Int.cast_ofNat_Int, Int.natCast_zero, Nat.add_zero, reduceCtorEq, h0, h1, h5, hlt, hlt', hH, e1, l0, l1, g1, m0, m1, hs]
        refine hR _ (hQ _ _ (Ends.ret rfl ⟨?_, by simp [hH]⟩))
        have : xs ≠ ys := fun e => by subst e; rw [hx] at hy; simp at hy; exact hs (by rw [hy])
        simp [tupOf, this]
    · simp only [go_sem, Nat.reduceEqDiff, Nat.reduceAdd, Nat.reduceMul, Nat.reduceLeDiff, Int.reduceEq, Int.reduceLT, Int.reduceLE, Int.reduceAdd, Int.reduceSub, Int.reduceNeg, Int.reduceMul, Int.reduceToNat, Int.cast_ofNat_Int, Int.natCast_zero, Nat.add_zero, reduceCtorEq, h0, h5, hlt, hH, ha.len]
      refine hE _ _ ?_
      simp only [go_sem, Nat.reduceEqDiff, Nat.reduceAdd, Nat.reduceMul, Nat.reduceLeDiff, Int.reduceEq, Int.reduceLT, Int.reduceLE, Int.reduceAdd, Int.reduceSub, Int.reduceNeg, Int.reduceMul, Int.reduceToNat, Int.cast_ofNat_Int, Int.natCast_zero, Nat.add_zero, reduceCtorEq]
      refine hQ _ _ (Ends.ret rfl ⟨?_, rfl⟩)
      have : xs = ys := by
        rw [List.take_of_length_le (by omega), List.take_of_length_le (by omega)] at ht; exact ht
      simp [tupOf, this]
  · simp only [go_sem, Nat.reduceEqDiff, Nat.reduceAdd, Nat.reduceMul, Nat.reduceLeDiff, Int.reduceEq, Int.reduceLT, Int.reduceLE, Int.reduceAdd, Int.reduceSub, Int.reduceNeg, Int.reduceMul, Int.reduceToNat, Int.cast_ofNat_Int, Int.natCast_zero, Nat.add_zero, reduceCtorEq, L_w_lnTrips, ha.len, hb.len, hl]
    refine hQ _ _ (Ends.ret rfl ⟨?_, rfl⟩)
    have : xs ≠ ys := fun e => hl (by rw [e])
    simp [tupOf, this]
/-- What a trip is behind its record. -/
theorem once {l : List Trip} {r : Rec} (hmay : tripsMay l r = true) : ∃ i y, r.trip = (i : Nat) + 1 ∧ i < (tripsDoL l r).length ∧ (tripsDoL l r)[i]? = some y ∧ tripsOk (tripsDoL l r) = true ∧ (∀ k, recOk ⟨k, r.trip, []⟩ = true → tripsMay (tripsDoL l r) ⟨k, r.trip, []⟩ = (if k = 5 ∨ k = 6 then decide (y.state = 1) else if k = 7 then decide (y.state = 2) || decide (y.state = 3) else false)) ∧ tripsMay (tripsDoL l r) r = false := by
  simp only [tripsMay, Bool.and_eq_true] at hmay
  obtain ⟨hok, hrk, hmb⟩ := hmay
  have hok2 := tripsOk_do hok hrk hmb
  have htr := recOk_trip hrk
  have key : ∃ i y, r.trip = (i : Nat) + 1 ∧ i < (tripsDoL l r).length ∧ (tripsDoL l r)[i]? = some y ∧ (r.kind = 4 → r.trip = l.length + 1 ∧ (tripsDoL l r).length = l.length + 1) ∧ (r.kind ≠ 4 → y.state ≠ 1 ∧ (r.kind = 7 → y.state ≠ 2 ∧ y.state ≠ 3)) := by
    by_cases k4 : r.kind = 4
    · have ht : r.trip = l.length + 1 := by simpa [tripMayB, k4] using hmb
      refine ⟨l.length, ⟨r.many, 1⟩, ht, ?_, ?_, fun _ => ⟨ht, ?_⟩, fun h => absurd k4 h⟩ <;> simp [tripsDoL, k4]
    · obtain ⟨i, x, h1, h2, h3, h4, h5, h6, h7⟩ := tripMay_at hmb k4
      rw [tripsDoL_set k4 h2 h4]
      refine ⟨i, tripStep x r, h1, by simpa using h3, by simp [h3], fun h => absurd h k4, fun _ => ?_⟩
      simp only [tripStep]
      by_cases k5 : r.kind = 5
      · simp [k5]
      · by_cases k6 : r.kind = 6
        · simp [k6]
        · obtain ⟨k7, hx⟩ := h7 k5 k6
          rcases hx with hx | hx <;> simp [k7, hx]
  obtain ⟨i, y, h1, h2, h3, h4, h5⟩ := key
  have hst : stateOf (tripsDoL l r) r.trip = y.state := by
    obtain ⟨j, z, g1, g2, g3, g4, g5⟩ := stateOf_get (l := tripsDoL l r) (t := r.trip) (by simp only [inB, Bool.and_eq_true, decide_eq_true_eq]; omega)
    obtain rfl : j = i := by omega
    rw [h3] at g4; simp at g4; rw [g5, g4]
  refine ⟨i, y, h1, h2, h3, hok2, fun k hk => ?_, ?_⟩
  · simp only [tripsMay, hok2, hk, Bool.true_and, tripMayB, hst]
    by_cases k4 : k = 4
    · subst k4; simp [recOk, manyOk] at hk
    · rw [if_neg k4]
  · simp only [tripsMay, hok2, hrk, Bool.true_and, tripMayB, hst]
    by_cases k4 : r.kind = 4
    · obtain ⟨g1, g2⟩ := h4 k4
      rw [if_pos k4]; simp; omega
    · obtain ⟨g1, g2⟩ := h5 k4
      rw [if_neg k4]
      split
      · simpa using g1
      · split
        · rename_i k7; have := g2 k7; simp [this]
        · rfl
theorem recOk_plain {k t : Int} (hk : 5 ≤ k ∧ k ≤ 7) (ht : 1 ≤ t ∧ t ≤ 6) : recOk ⟨k, t, []⟩ = true := by
  simp only [recOk, inB]
  have h1 : k ≠ 1 := by omega
  have h4 : k ≠ 4 := by omega
  simp [h1, h4, ht]; omega
theorem rrec_nil {H : Heap} {k t : Int} : RRec H [.int .i64 k, .int .i64 t, .nil] ⟨k, t, []⟩ [] := ⟨.nil, rfl, .nil⟩
/-- What stays of the trips behind a record that is no beginning. -/
theorem step_get {l : List Trip} {r : Rec} (hmay : tripsMay l r = true) (k4 : r.kind ≠ 4) {i : Nat} {x : Trip} (hx : l[i]? = some x) : ∃ y, (tripsDoL l r)[i]? = some y ∧ y.many = x.many ∧ ((i : Int) ≠ r.trip - 1 → y.state = x.state) := by
  simp only [tripsMay, Bool.and_eq_true] at hmay
  obtain ⟨hok, hrk, hmb⟩ := hmay
  obtain ⟨j, z, h1, h2, h3, h4, h5, h6, h7⟩ := tripMay_at hmb k4
  rw [tripsDoL_set k4 h2 h4, List.getElem?_set]
  by_cases e : j = i
  · subst e
    rw [if_pos rfl, if_pos h3]
    rw [hx] at h4; simp at h4; subst h4
    exact ⟨_, rfl, rfl, fun hc => absurd (by omega) hc⟩
  · rw [if_neg e]; exact ⟨x, hx, rfl, fun _ => rfl⟩
end Go.AX

/- The laws of desks that force, of their logs, and of their trips. Condition: the bytes of which is drawn lie in memory. -/
namespace Go.AX
variable {P : Program} {I : Ids}
theorem rem_nat (a b : Nat) (h : 0 < b) : (a : Int).tmod (b : Int) = ((a % b : Nat) : Int) ∧ a % b < b := ⟨rfl, Nat.mod_lt _ h⟩
end Go.AX

/- What a desk has to say: the program. Condition: the data lie in memory. -/
namespace Go.AX
variable {P : Program} {I : Ids}
section
variable {k : List Fr} {s : S} {Q : AExit → S → Prop} {Z : Zs} {hw : Bool} {os : List AO}
@[go_sem] theorem RUm_mkm {d : Nat} : RUm P hw (some s) (.mkm d) Z os k Q = RUs P hw (stepf (.mkm d) s) Z os k Q := RUm_step rfl
@[go_sem] theorem RUm_mpi {m : Nat} {n : Int} {x : AOp} : RUm P hw (some s) (.mpi m n x) Z os k Q = RUs P hw (stepf (.mpi m n x) s) Z os k Q := RUm_step rfl
@[go_sem] theorem RUm_mpg {d m : Nat} {n : AOp} {z : List C} : RUm P hw (some s) (.mpg d m n z) Z os k Q = RUs P hw (stepf (.mpg d m n z) s) Z os k Q := RUm_step rfl
end
def sayM : List (Int × List C) := [(1, [.int .i64 1, .int .i64 4]), (2, [.int .i64 2, .int .i64 6]), (3, [.int .i64 3, .int .i64 7])]
theorem sayM_is {k : Int} (h : 1 ≤ k) : (k ≤ 3 ∧ sayM.lookup k = some [.int .i64 k, .int .i64 (k + (if k = 1 then 3 else 4))]) ∨ (3 < k ∧ sayM.lookup k = none) := by
  by_cases h1 : k = 1
  · subst h1; exact .inl ⟨by decide, rfl⟩
  by_cases h2 : k = 2
  · subst h2; exact .inl ⟨by decide, rfl⟩
  by_cases h3 : k = 3
  · subst h3; exact .inl ⟨by decide, rfl⟩
  · have e1 : (k == 1) = false := beq_eq_false_iff_ne.2 h1
    have e2 : (k == 2) = false := beq_eq_false_iff_ne.2 h2
    have e3 : (k == 3) = false := beq_eq_false_iff_ne.2 h3
    exact .inr ⟨by omega, by simp [sayM, List.lookup, e1, e2, e3]⟩
set_option maxHeartbeats 4000000 in
set_option maxRecDepth 8000 in
theorem does_i_Desk_words (K : Codes P I) {H : Heap} {cs : List C} {d : Desk} {F : List Nat} (hd : RDesk H cs d F) (hok : deskOk d = true) : Does P I.i_Desk_words [.agg cs] H fun v H' => ∃ c' F', v = .val (.c c') ∧ Step [] H H' F' ∧ Words H' c' (wordsD d) F' := by
  have hd0 := hd
  have alt : ∀ b ∈ F, b < H.length := RDesk.good.lt _ _ _ _ hd
  obtain ⟨c, t, F1, F2, rfl, hF, hr, ht⟩ := hd
  have hlok := (deskOk_parts hok).2.1
  refine K.does K.i_Desk_words rfl fun Q hQ => ?_
  simp only [go_sem, Nat.reduceEqDiff, Nat.reduceAdd, Nat.reduceMul, Nat.reduceLeDiff, Int.reduceEq, Int.reduceLT, Int.reduceLE, Int.reduceAdd, Int.reduceSub, Int.reduceNeg, Int.reduceMul, Int.reduceToNat, Int.cast_ofNat_Int, Int.natCast_zero, Nat.add_zero, reduceCtorEq, L_i_Desk_words]
  cases hup : d.up with
  | false =>
    simp only [go_sem, Nat.reduceEqDiff, Nat.reduceAdd, Nat.reduceMul, Nat.reduceLeDiff, Int.reduceEq, Int.reduceLT, Int.reduceLE, Int.reduceAdd, Int.reduceSub, Int.reduceNeg, Int.reduceMul, Int.reduceToNat, Int.cast_ofNat_Int, Int.natCast_zero, Nat.add_zero, reduceCtorEq, hup]
    exact hQ _ _ (Ends.ret rfl ⟨.nil, [], rfl, Step.refl H, by simp only [wordsD, hup]; exact .nil⟩)
  | true =>
    have hv : wordsD d = wordsOf d.told (tripsV d true) 0 := by simp [wordsD, hup]
    rw [hup] at hd0
    simp only [go_sem, Nat.reduceEqDiff, Nat.reduceAdd, Nat.reduceMul, Nat.reduceLeDiff, Int.reduceEq, Int.reduceLT, Int.reduceLE, Int.reduceAdd, Int.reduceSub, Int.reduceNeg, Int.reduceMul, Int.reduceToNat, Int.cast_ofNat_Int, Int.natCast_zero, Nat.add_zero, reduceCtorEq, hup, List.all_nil, List.all_cons, ne_eq, not_false_eq_true, decide_true, decide_not, decide_false, Bool.not_false, Bool.and_true, Bool.and_self, List.nil_append, List.cons_append]
    refine Does.call (does_i_Desk_trips K (f := true) hd0 hlok) ?_
    rintro _ H1 ⟨ct, Ft, rfl, s1, htr⟩
    replace s1 : Step [] H H1 Ft := s1
    have hd1 := s1.stay RDesk.good hd0
    obtain ⟨hl6, hall⟩ := tripsOk_parts (tripsV_ok hok true)
    generalize htv : tripsV d true = l at *
    simp only [go_sem, Nat.reduceEqDiff, Nat.reduceAdd, Nat.reduceMul, Nat.reduceLeDiff, Int.reduceEq, Int.reduceLT, Int.reduceLE, Int.reduceAdd, Int.reduceSub, Int.reduceNeg, Int.reduceMul, Int.reduceToNat, Int.cast_ofNat_Int, Int.natCast_zero, Nat.add_zero, reduceCtorEq, htr.len]
    refine RU_loop (fun m s => ∃ i : Nat, m = l.length - i ∧ i ≤ l.length ∧ s.env 1 = .box [.bool true, c, .int .i64 d.log.forced, t] ∧ s.env 3 = .mp sayM ∧ s.env 21 = .val (.c ct) ∧ s.env 22 = .val (int l.length) ∧ s.env 23 = .val (int i) ∧ ∃ o F', s.env 4 = .val (.c o) ∧ Step [] H s.H (Ft ++ F') ∧ Trips s.H ct l Ft ∧ RDesk s.H [.bool true, c, .int .i64 d.log.forced, t] d F ∧ Words s.H o (wordsOf d.told (l.take i) 0) F') l.length
      ⟨0, by simp, by simp, rfl, rfl, rfl, rfl, rfl, .nil, [], rfl, by simpa using s1, htr, hd1, .nil⟩ ?_
    rintro m s ⟨i, rfl, hi, g1, g3, g21, g22, g23, o, F', g4, st, htr2, htd, ho⟩ Q' hN hE hR
    by_cases hlt : (i : Int) < l.length
    · obtain ⟨x, hx⟩ := get_lt hlt
      have hxa := hall x (List.mem_of_getElem? hx)
      have hm3 := manyOk_len hxa.1
      have hwi := wrap_succ (show i ≤ lenTop by simp [lenTop]; omega)
      obtain ⟨tb, to, tbs, tcs, tf, rfl, e1, e2, ⟨cm, rfl, hm⟩, _, htf⟩ := htr2.get hx
      have hm3' : (x.many.length : Int) = 3 := by omega
      rcases sayM_is hxa.2.1 with ⟨h3, hlk⟩ | ⟨hbig, hlk⟩
      · simp only [go_sem, Nat.reduceEqDiff, Nat.reduceAdd, Nat.reduceMul, Nat.reduceLeDiff, Int.reduceEq, Int.reduceLT, Int.reduceLE, Int.reduceAdd, Int.reduceSub, Int.reduceNeg, Int.reduceMul, Int.reduceToNat, Int.cast_ofNat_Int, Int.natCast_zero, Nat.add_zero, reduceCtorEq, g1, g3, g4, g21, g22, g23, hlt, e1, e2, hlk, hm.len, hm3']
        refine RU_loop (fun m s' => ∃ j : Nat, m = 3 - j ∧ j ≤ 3 ∧ s'.env 1 = .box [.bool true, c, .int .i64 d.log.forced, t] ∧ s'.env 3 = .mp sayM ∧ s'.env 5 = .val (int i) ∧ s'.env 7 = .box [.int .i64 x.state, .int .i64 (x.state + (if x.state = 1 then 3 else 4))] ∧ s'.env 8 = bool true ∧ s'.env 21 = .val (.c (.sl tb to l.length)) ∧ s'.env 22 = .val (int l.length) ∧ s'.env 23 = .val (int i) ∧ s'.env 36 = .val (.c cm) ∧ s'.env 37 = .val (int 3) ∧ s'.env 38 = .val (int j) ∧ ∃ o F', s'.env 4 = .val (.c o) ∧ Step [] H s'.H (Ft ++ F') ∧ Trips s'.H (.sl tb to l.length) l Ft ∧ Ints s'.H cm x.many tf ∧ RDesk s'.H [.bool true, c, .int .i64 d.log.forced, t] d F ∧ Words s'.H o (wordsOf d.told (l.take i) 0 ++ wordsOfTrip d.told ((i : Int) + 1) x.state (x.many.take j) 0) F') 3
          ⟨0, by simp, by simp, by simp [upd, g1], by simp [upd, g3], rfl, rfl, rfl, by simp [upd, g21], by simp [upd, g22], by simp [upd, g23], rfl, rfl, rfl, o, F', by simp [upd, g4], st, htr2, hm, htd, by simpa [wordsOfTrip] using ho⟩ ?_
        rintro m s' ⟨j, rfl, hj, q1, q3, q5, q7, q8, q21, q22, q23, q36, q37, q38, o', F3, q4, st', htr3, hm', htd3, ho3⟩ Q2 hN2 hE2 hR2
        clear ho o g4 htr2 htd st e1 e2 hm F'
        by_cases hjt : (j : Int) < 3
        · obtain ⟨n, hn⟩ : ∃ n, x.many[j]? = some n := get_lt (by omega)
          have hwj := wrap_succ (show j ≤ lenTop by simp [lenTop]; omega)
          have hjm : (j : Int) < x.many.length := by omega
          obtain ⟨mb, mo, mbs, mcs, mf, rfl, u1, u2, ⟨rfl, _⟩, _⟩ := hm'.get hn
          by_cases hz : n = 0
          · have hsay : sayW d.told ((i : Int) + 1) x.state n j = [] := by simp [sayW, hz]
            simp only [go_sem, Nat.reduceEqDiff, Nat.reduceAdd, Nat.reduceMul, Nat.reduceLeDiff, Int.reduceEq, Int.reduceLT, Int.reduceLE, Int.reduceAdd, Int.reduceSub, Int.reduceNeg, Int.reduceMul, Int.reduceToNat, Int.cast_ofNat_Int, Int.natCast_zero, Nat.add_zero, reduceCtorEq, q1, q3, q4, q5, q7, q8, q21, q22, q23, q36, q37, q38, hjt, hjm, u1, u2, hwj, hz]
            exact hN2 _ _ (by omega) ⟨j + 1, rfl, by omega, by simp [upd, q1], by simp [upd, q3], by simp [upd, q5], by simp [upd, q7], by simp [upd, q8], by simp [upd, q21], by simp [upd, q22], by simp [upd, q23], by simp [upd, q36], by simp [upd, q37], by simp [upd], o', F3, by simp [upd, q4], st', htr3, hm', htd3, by rw [wordsOfTrip_take hn, hsay, List.append_nil]; exact ho3⟩
          · simp only [go_sem, Nat.reduceEqDiff, Nat.reduceAdd, Nat.reduceMul, Nat.reduceLeDiff, Int.reduceEq, Int.reduceLT, Int.reduceLE, Int.reduceAdd, Int.reduceSub, Int.reduceNeg, Int.reduceMul, Int.reduceToNat, Int.cast_ofNat_Int, Int.natCast_zero, Nat.add_zero, reduceCtorEq, q1, q3, q4, q5, q7, q8, q21, q22, q23, q36, q37, q38, hjt, hjm, u1, u2, hwj, hwi, hz]
            refine Does.test (does_i_Desk_told K htd3) ?_
            cases htold : toldB d.told (x.state + (if x.state = 1 then 3 else 4)) ((j + 1 : Nat) : Int) ((i + 1 : Nat) : Int) with
            | true =>
              have hsay : sayW d.told ((i : Int) + 1) x.state n j = [] := by
                have : toldB d.told (x.state + (if x.state = 1 then 3 else 4)) ((j : Int) + 1) ((i : Int) + 1) = true := by simpa using htold
                simp [sayW, this]
              simp only [go_sem, Nat.reduceEqDiff, Nat.reduceAdd, Nat.reduceMul, Nat.reduceLeDiff, Int.reduceEq, Int.reduceLT, Int.reduceLE, Int.reduceAdd, Int.reduceSub, Int.reduceNeg, Int.reduceMul, Int.reduceToNat, Int.cast_ofNat_Int, Int.natCast_zero, Nat.add_zero, reduceCtorEq, q1, q3, q4, q5, q7, q8, q38, hwj]
              exact hN2 _ _ (by omega) ⟨j + 1, rfl, by omega, by simp [upd, q1], by simp [upd, q3], by simp [upd, q5], by simp [upd, q7], by simp [upd, q8], by simp [upd, q21], by simp [upd, q22], by simp [upd, q23], by simp [upd, q36], by simp [upd, q37], by simp [upd], o', F3, by simp [upd, q4], st', htr3, hm', htd3, by rw [wordsOfTrip_take hn, hsay, List.append_nil]; exact ho3⟩
            | false =>
              have hsay : sayW d.told ((i : Int) + 1) x.state n j = [⟨x.state, ((j + 1 : Nat) : Int), ((i + 1 : Nat) : Int), if x.state = 1 then n else 0⟩] := by
                have : toldB d.told (x.state + (if x.state = 1 then 3 else 4)) ((j : Int) + 1) ((i : Int) + 1) = false := by simpa using htold
                have hb : ¬ 3 < x.state := by omega
                simp [sayW, this, hz, hb]
              have hlen : (wordsOf d.told (l.take i) 0 ++ wordsOfTrip d.told ((i : Int) + 1) x.state (x.many.take j) 0).length ≤ 30 := by
                have h1 := wordsOf_len d.told (l.take i) 0 fun t ht => manyOk_len (hall t (List.mem_of_mem_take ht)).1
                have h2 := wordsOfTrip_len d.told ((i : Int) + 1) x.state (x.many.take j) 0
                simp only [List.length_take, List.length_append] at h1 h2 ⊢; omega
              have own : Owned _ (Ft ++ F3) := st'.owned
              by_cases h1 : x.state = 1
              · obtain ⟨o5, H5, F5, ha, ho5, s5⟩ := app_one RWord.good (f := []) (by decide) ho3 (show RWord _ _ ⟨x.state, ((j + 1 : Nat) : Int), ((i + 1 : Nat) : Int), n⟩ [] from ⟨rfl, rfl⟩) rfl (by simpa using own.right) (Nat.lt_of_le_of_lt hlen (by simp [lenMax]))
                rw [List.append_nil] at s5
                have st5 : Step [] H H5 (Ft ++ F5) := st'.beside s5 rfl
                have htr5 := s5.keepSl RTrip.good htr3 (fun k hk => own.disj k hk)
                have hm5 := s5.keepSl RInt.good hm' (fun k hk => own.disj k (htf k hk))
                have htd5 := s5.keep RDesk.good htd3 (fun k hk hc => by have := alt k hk; have := st'.ge k (by simp [hc]); omega)
                replace ha : appC _ 4 o' [.int .i64 x.state, .int .i64 ((j + 1 : Nat) : Int), .int .i64 ((i + 1 : Nat) : Int), .int .i64 n] = some (o5, H5) := ha
                rw [h1] at ha
                simp only [go_sem, Nat.reduceEqDiff, Nat.reduceAdd, Nat.reduceMul, Nat.reduceLeDiff, Int.reduceEq, Int.reduceLT, Int.reduceLE, Int.reduceAdd, Int.reduceSub, Int.reduceNeg, Int.reduceMul, Int.reduceToNat, Int.cast_ofNat_Int, Int.natCast_zero, Nat.add_zero, reduceCtorEq, q1, q3, q4, q5, q7, q8, q38, hwj, hwi, h1, ha]
                exact hN2 _ _ (by omega) ⟨j + 1, rfl, by omega, by simp [upd, q1], by simp [upd, q3], by simp [upd, q5], by simp [upd, q7], by simp [upd, q8], by simp [upd, q21], by simp [upd, q22], by simp [upd, q23], by simp [upd, q36], by simp [upd, q37], by simp [upd], o5, F5, by simp [upd], st5, htr5, hm5, htd5, by rw [wordsOfTrip_take hn, hsay, ← List.append_assoc, if_pos h1]; exact ho5⟩
              · obtain ⟨o5, H5, F5, ha, ho5, s5⟩ := app_one RWord.good (f := []) (by decide) ho3 (show RWord _ _ ⟨x.state, ((j + 1 : Nat) : Int), ((i + 1 : Nat) : Int), 0⟩ [] from ⟨rfl, rfl⟩) rfl (by simpa using own.right) (Nat.lt_of_le_of_lt hlen (by simp [lenMax]))
                rw [List.append_nil] at s5
                have st5 : Step [] H H5 (Ft ++ F5) := st'.beside s5 rfl
                have htr5 := s5.keepSl RTrip.good htr3 (fun k hk => own.disj k hk)
                have hm5 := s5.keepSl RInt.good hm' (fun k hk => own.disj k (htf k hk))
                have htd5 := s5.keep RDesk.good htd3 (fun k hk hc => by have := alt k hk; have := st'.ge k (by simp [hc]); omega)
                replace ha : appC _ 4 o' [.int .i64 x.state, .int .i64 ((j + 1 : Nat) : Int), .int .i64 ((i + 1 : Nat) : Int), .int .i64 0] = some (o5, H5) := ha
                skip
                simp only [go_sem, Nat.reduceEqDiff, Nat.reduceAdd, Nat.reduceMul, Nat.reduceLeDiff, Int.reduceEq, Int.reduceLT, Int.reduceLE, Int.reduceAdd, Int.reduceSub, Int.reduceNeg, Int.reduceMul, Int.reduceToNat, Int.cast_ofNat_Int, Int.natCast_zero, Nat.add_zero, reduceCtorEq, q1, q3, q4, q5, q7, q8, q38, hwj, hwi, h1, ha]
                exact hN2 _ _ (by omega) ⟨j + 1, rfl, by omega, by simp [upd, q1], by simp [upd, q3], by simp [upd, q5], by simp [upd, q7], by simp [upd, q8], by simp [upd, q21], by simp [upd, q22], by simp [upd, q23], by simp [upd, q36], by simp [upd, q37], by simp [upd], o5, F5, by simp [upd], st5, htr5, hm5, htd5, by rw [wordsOfTrip_take hn, hsay, ← List.append_assoc, if_neg h1]; exact ho5⟩
        · have hj3 : j = x.many.length := by omega
          rw [hj3, List.take_length] at ho3
          simp only [go_sem, Nat.reduceEqDiff, Nat.reduceAdd, Nat.reduceMul, Nat.reduceLeDiff, Int.reduceEq, Int.reduceLT, Int.reduceLE, Int.reduceAdd, Int.reduceSub, Int.reduceNeg, Int.reduceMul, Int.reduceToNat, Int.cast_ofNat_Int, Int.natCast_zero, Nat.add_zero, reduceCtorEq, q1, q3, q4, q5, q38, q37, hjt]
          refine hE2 _ _ ?_
          simp only [go_sem, Nat.reduceEqDiff, Nat.reduceAdd, Nat.reduceMul, Nat.reduceLeDiff, Int.reduceEq, Int.reduceLT, Int.reduceLE, Int.reduceAdd, Int.reduceSub, Int.reduceNeg, Int.reduceMul, Int.reduceToNat, Int.cast_ofNat_Int, Int.natCast_zero, Nat.add_zero, reduceCtorEq, q23, hwi]
          exact hN _ _ (by omega) ⟨i + 1, rfl, by omega, by simp [upd, q1], by simp [upd, q3], by simp [upd, q21], by simp [upd, q22], by simp [upd], o', F3, by simp [upd, q4], st', htr3, htd3, by rw [wordsOf_take hx]; exact ho3⟩
      · simp only [go_sem, Nat.reduceEqDiff, Nat.reduceAdd, Nat.reduceMul, Nat.reduceLeDiff, Int.reduceEq, Int.reduceLT, Int.reduceLE, Int.reduceAdd, Int.reduceSub, Int.reduceNeg, Int.reduceMul, Int.reduceToNat, Int.cast_ofNat_Int, Int.natCast_zero, Nat.add_zero, reduceCtorEq, g1, g3, g4, g21, g22, g23, hlt, e1, e2, hlk, hm.len, hm3']
        refine RU_loop (fun m s' => ∃ j : Nat, m = 3 - j ∧ j ≤ 3 ∧ s'.env 1 = .box [.bool true, c, .int .i64 d.log.forced, t] ∧ s'.env 3 = .mp sayM ∧ s'.env 5 = .val (int i) ∧ s'.env 7 = .box [.int .i64 0, .int .i64 0] ∧ s'.env 8 = bool false ∧ s'.env 21 = .val (.c (.sl tb to l.length)) ∧ s'.env 22 = .val (int l.length) ∧ s'.env 23 = .val (int i) ∧ s'.env 36 = .val (.c cm) ∧ s'.env 37 = .val (int 3) ∧ s'.env 38 = .val (int j) ∧ ∃ o F', s'.env 4 = .val (.c o) ∧ Step [] H s'.H (Ft ++ F') ∧ Trips s'.H (.sl tb to l.length) l Ft ∧ Ints s'.H cm x.many tf ∧ RDesk s'.H [.bool true, c, .int .i64 d.log.forced, t] d F ∧ Words s'.H o (wordsOf d.told (l.take i) 0 ++ wordsOfTrip d.told ((i : Int) + 1) x.state (x.many.take j) 0) F') 3
          ⟨0, by simp, by simp, by simp [upd, g1], by simp [upd, g3], rfl, rfl, rfl, by simp [upd, g21], by simp [upd, g22], by simp [upd, g23], rfl, rfl, rfl, o, F', by simp [upd, g4], st, htr2, hm, htd, by simpa [wordsOfTrip] using ho⟩ ?_
        rintro m s' ⟨j, rfl, hj, q1, q3, q5, q7, q8, q21, q22, q23, q36, q37, q38, o', F3, q4, st', htr3, hm', htd3, ho3⟩ Q2 hN2 hE2 hR2
        clear ho o g4 htr2 htd st e1 e2 hm F'
        by_cases hjt : (j : Int) < 3
        · obtain ⟨n, hn⟩ : ∃ n, x.many[j]? = some n := get_lt (by omega)
          have hwj := wrap_succ (show j ≤ lenTop by simp [lenTop]; omega)
          have hjm : (j : Int) < x.many.length := by omega
          obtain ⟨mb, mo, mbs, mcs, mf, rfl, u1, u2, ⟨rfl, _⟩, _⟩ := hm'.get hn
          have hsay : sayW d.told ((i : Int) + 1) x.state n j = [] := by simp [sayW, hbig]
          simp only [go_sem, Nat.reduceEqDiff, Nat.reduceAdd, Nat.reduceMul, Nat.reduceLeDiff, Int.reduceEq, Int.reduceLT, Int.reduceLE, Int.reduceAdd, Int.reduceSub, Int.reduceNeg, Int.reduceMul, Int.reduceToNat, Int.cast_ofNat_Int, Int.natCast_zero, Nat.add_zero, reduceCtorEq, q1, q3, q4, q5, q7, q8, q21, q22, q23, q36, q37, q38, hjt, hjm, u1, u2, hwj]
          exact hN2 _ _ (by omega) ⟨j + 1, rfl, by omega, by simp [upd, q1], by simp [upd, q3], by simp [upd, q5], by simp [upd, q7], by simp [upd, q8], by simp [upd, q21], by simp [upd, q22], by simp [upd, q23], by simp [upd, q36], by simp [upd, q37], by simp [upd], o', F3, by simp [upd, q4], st', htr3, hm', htd3, by rw [wordsOfTrip_take hn, hsay, List.append_nil]; exact ho3⟩
        · have hj3 : j = x.many.length := by omega
          rw [hj3, List.take_length] at ho3
          simp only [go_sem, Nat.reduceEqDiff, Nat.reduceAdd, Nat.reduceMul, Nat.reduceLeDiff, Int.reduceEq, Int.reduceLT, Int.reduceLE, Int.reduceAdd, Int.reduceSub, Int.reduceNeg, Int.reduceMul, Int.reduceToNat, Int.cast_ofNat_Int, Int.natCast_zero, Nat.add_zero, reduceCtorEq, q1, q3, q4, q5, q38, q37, hjt]
          refine hE2 _ _ ?_
          simp only [go_sem, Nat.reduceEqDiff, Nat.reduceAdd, Nat.reduceMul, Nat.reduceLeDiff, Int.reduceEq, Int.reduceLT, Int.reduceLE, Int.reduceAdd, Int.reduceSub, Int.reduceNeg, Int.reduceMul, Int.reduceToNat, Int.cast_ofNat_Int, Int.natCast_zero, Nat.add_zero, reduceCtorEq, q23, hwi]
          exact hN _ _ (by omega) ⟨i + 1, rfl, by omega, by simp [upd, q1], by simp [upd, q3], by simp [upd, q21], by simp [upd, q22], by simp [upd], o', F3, by simp [upd, q4], st', htr3, htd3, by rw [wordsOf_take hx]; exact ho3⟩
    · have hil : i = l.length := by omega
      rw [hil, List.take_length] at ho
      simp only [go_sem, Nat.reduceEqDiff, Nat.reduceAdd, Nat.reduceMul, Nat.reduceLeDiff, Int.reduceEq, Int.reduceLT, Int.reduceLE, Int.reduceAdd, Int.reduceSub, Int.reduceNeg, Int.reduceMul, Int.reduceToNat, Int.cast_ofNat_Int, Int.natCast_zero, Nat.add_zero, reduceCtorEq, g4, g22, g23, hlt]
      refine hE _ _ ?_
      simp only [go_sem, Nat.reduceEqDiff, Nat.reduceAdd, Nat.reduceMul, Nat.reduceLeDiff, Int.reduceEq, Int.reduceLT, Int.reduceLE, Int.reduceAdd, Int.reduceSub, Int.reduceNeg, Int.reduceMul, Int.reduceToNat, Int.cast_ofNat_Int, Int.natCast_zero, Nat.add_zero, reduceCtorEq, g4]
      exact hQ _ _ (Ends.ret rfl ⟨o, F', rfl, st.less (List.sublist_append_right _ _), by rw [hv]; exact ho⟩)
theorem does_i_DeskWords (K : Codes P I) {H : Heap} {cs : List C} {d : Desk} {F : List Nat} (hd : RDesk H cs d F) : Does P I.i_DeskWords [.agg cs] H fun v H' => ∃ c' F', v = .val (.c c') ∧ Step [] H H' F' ∧ Words H' c' (deskWordsV d) F' := by
  obtain ⟨x0, x1, x2, x3, rfl⟩ := len4 hd.cells
  refine K.does K.i_DeskWords rfl fun Q hQ => ?_
  simp only [go_sem, Nat.reduceEqDiff, Nat.reduceAdd, Nat.reduceMul, Nat.reduceLeDiff, Int.reduceEq, Int.reduceLT, Int.reduceLE, Int.reduceAdd, Int.reduceSub, Int.reduceNeg, Int.reduceMul, Int.reduceToNat, Int.cast_ofNat_Int, Int.natCast_zero, Nat.add_zero, reduceCtorEq, L_i_DeskWords]
  refine Does.call (does_i_DeskOk K hd) ?_
  rintro _ H1 ⟨rfl, s1⟩
  replace s1 : Step [] H H1 [] := s1
  cases hok : deskOk d with
  | false =>
    simp only [go_sem, Nat.reduceEqDiff, Nat.reduceAdd, Nat.reduceMul, Nat.reduceLeDiff, Int.reduceEq, Int.reduceLT, Int.reduceLE, Int.reduceAdd, Int.reduceSub, Int.reduceNeg, Int.reduceMul, Int.reduceToNat, Int.cast_ofNat_Int, Int.natCast_zero, Nat.add_zero, reduceCtorEq]
    exact hQ _ _ (Ends.ret rfl ⟨.nil, [], rfl, s1, by simp only [deskWordsV, hok]; exact .nil⟩)
  | true =>
    simp only [go_sem, Nat.reduceEqDiff, Nat.reduceAdd, Nat.reduceMul, Nat.reduceLeDiff, Int.reduceEq, Int.reduceLT, Int.reduceLE, Int.reduceAdd, Int.reduceSub, Int.reduceNeg, Int.reduceMul, Int.reduceToNat, Int.cast_ofNat_Int, Int.natCast_zero, Nat.add_zero, reduceCtorEq]
    refine Does.call (does_i_Desk_words K (s1.stay RDesk.good hd) hok) ?_
    rintro _ H2 ⟨c2, F2, rfl, s2, h2⟩
    replace s2 : Step [] H1 H2 F2 := s2
    simp only [go_sem, Nat.reduceEqDiff, Nat.reduceAdd, Nat.reduceMul, Nat.reduceLeDiff, Int.reduceEq, Int.reduceLT, Int.reduceLE, Int.reduceAdd, Int.reduceSub, Int.reduceNeg, Int.reduceMul, Int.reduceToNat, Int.cast_ofNat_Int, Int.natCast_zero, Nat.add_zero, reduceCtorEq]
    exact hQ _ _ (Ends.ret rfl ⟨c2, F2, rfl, s1.with s2, by rw [deskWordsV, if_pos hok]; exact h2⟩)
end Go.AX

/- A desk that falls has what was forced, and was told nothing. Condition: the bytes of which is drawn lie in memory. -/
namespace Go.AX
variable {P : Program} {I : Ids}
theorem Farther.le {p l : List Trip} (h : Farther p l) : p.length ≤ l.length := by
  rcases Nat.eq_zero_or_pos p.length with h0 | h0
  · omega
  · obtain ⟨y, hy, _⟩ := h (p.length - 1) (p[p.length - 1]'(by omega)) (by simp)
    have := (List.getElem?_eq_some_iff.1 hy).1
    omega
theorem fall_facts {d : Desk} (h : deskOk d = true) (k : Int) : d.log.forced.toNat ≤ fallN d.log k ∧ tripsV ⟨true, fallL d.log k, []⟩ true = tripsD (d.log.recs.take (fallN d.log k)) ∧ tripsV ⟨true, fallL d.log k, []⟩ false = tripsD (d.log.recs.take (fallN d.log k)) ∧ tripsV ⟨false, fallL d.log k, []⟩ false = tripsD (d.log.recs.take (fallN d.log k)) := by
  obtain ⟨g1, g2, g3, g4⟩ := logOk_parts (deskOk_parts h).2.1
  have hn := fallN_le (deskOk_parts h).2.1 k
  refine ⟨?_, ?_, rfl, rfl⟩
  · unfold fallN; split <;> omega
  · show tripsD ((d.log.recs.take (fallN d.log k)).take ((fallN d.log k : Nat) : Int).toNat) = _
    rw [Int.toNat_natCast, List.take_take, Nat.min_self]
theorem fall_zero {l : Log} : fallN l 0 = l.forced.toNat := by unfold fallN; simp
theorem fall_more {d : Desk} (h : deskOk d = true) (k : Int) : (tripsV d true).length ≤ (tripsV ⟨true, fallL d.log k, []⟩ true).length := by
  obtain ⟨h1, h2, _⟩ := fall_facts h k
  rw [h2]
  obtain ⟨l, hl, _, _⟩ := deskOk_facts h
  obtain ⟨t, ht⟩ := tripsOf_take hl (fallN d.log k)
  have hs := tripsV_some h true
  simp only [known, if_true] at hs
  have e : (d.log.recs.take (fallN d.log k)).take d.log.forced.toNat = d.log.recs.take d.log.forced.toNat := by rw [List.take_take, Nat.min_eq_left h1]
  have hf := farther_take (k := d.log.forced.toNat) ht (by rw [e]; exact hs)
  have : tripsD (d.log.recs.take (fallN d.log k)) = t := by simp [tripsD, ht]
  rw [this]; exact hf.le
end Go.AX

/- Risen a desk asks anew. Condition: the bytes of which is drawn lie in memory. -/
namespace Go.AX
variable {P : Program} {I : Ids}
theorem toldB_nil (k h t : Int) : toldB [] k h t = false := by simp [toldB]
theorem say_big {told : List Word} {trip st n : Int} {j : Nat} (h : 3 < st) : sayW told trip st n j = [] := by simp [sayW, h]
theorem say_zero {told : List Word} {trip st : Int} {j : Nat} : sayW told trip st 0 j = [] := by simp [sayW]
theorem say_one {trip st n : Int} {j : Nat} (h : ¬ 3 < st) (hn : n ≠ 0) : (sayW [] trip st n j).length = 1 := by simp [sayW, h, hn, toldB_nil]
set_option maxHeartbeats 4000000 in
set_option maxRecDepth 8000 in
theorem does_FnDeskRise (K : Codes P I) {H : Heap} {c c' : C} {xs ys : List Int} {G G' : List Nat} (h : Bytes H c xs G) (h' : Bytes H c' ys G') : Does P I.w_FnDeskRise [.c c, .c c'] H fun r _ => r = bool true := by
  refine K.does K.w_FnDeskRise rfl fun Q hQ => ?_
  by_cases hl : (1048576 : Int) < xs.length
  · simp only [go_sem, Nat.reduceEqDiff, Nat.reduceAdd, Nat.reduceMul, Nat.reduceLeDiff, Int.reduceEq, Int.reduceLT, Int.reduceLE, Int.reduceAdd, Int.reduceSub, Int.reduceNeg, Int.reduceMul, Int.reduceToNat, Int.cast_ofNat_Int, Int.natCast_zero, Nat.add_zero, reduceCtorEq, L_w_FnDeskRise, h.len, hl]
    exact hQ _ _ (Ends.ret rfl rfl)
  by_cases hl' : (1048576 : Int) < ys.length
  · simp only [go_sem, Nat.reduceEqDiff, Nat.reduceAdd, Nat.reduceMul, Nat.reduceLeDiff, Int.reduceEq, Int.reduceLT, Int.reduceLE, Int.reduceAdd, Int.reduceSub, Int.reduceNeg, Int.reduceMul, Int.reduceToNat, Int.cast_ofNat_Int, Int.natCast_zero, Nat.add_zero, reduceCtorEq, L_w_FnDeskRise, h.len, h'.len, hl, hl']
    exact hQ _ _ (Ends.ret rfl rfl)
  simp only [go_sem, Nat.reduceEqDiff, Nat.reduceAdd, Nat.reduceMul, Nat.reduceLeDiff, Int.reduceEq, Int.reduceLT, Int.reduceLE, Int.reduceAdd, Int.reduceSub, Int.reduceNeg, Int.reduceMul, Int.reduceToNat, Int.cast_ofNat_Int, Int.natCast_zero, Nat.add_zero, reduceCtorEq, L_w_FnDeskRise, h.len, h'.len, hl, hl']
  refine Does.call (draws_DrawDeskRise K h) ?_
  rintro _ H1 ⟨ds, d, F1, rfl, s1, hd1⟩
  replace s1 : Step [] H H1 F1 := s1
  obtain ⟨rc, tc, D1, D2, rfl, _, _, _⟩ := id hd1
  simp only [go_sem, Nat.reduceEqDiff, Nat.reduceAdd, Nat.reduceMul, Nat.reduceLeDiff, Int.reduceEq, Int.reduceLT, Int.reduceLE, Int.reduceAdd, Int.reduceSub, Int.reduceNeg, Int.reduceMul, Int.reduceToNat, Int.cast_ofNat_Int, Int.natCast_zero, Nat.add_zero, reduceCtorEq]
  refine Does.call (does_i_DeskRise K hd1) ?_
  rintro _ H2 ⟨xc, F2, rfl, s2, hx2⟩
  replace s2 : Step [] H1 H2 F2 := s2
  have hd2 := s2.stay RDesk.good hd1
  obtain ⟨xr, xt, X1, X2, rfl, _, _, _⟩ := id hx2
  simp only [go_sem, Nat.reduceEqDiff, Nat.reduceAdd, Nat.reduceMul, Nat.reduceLeDiff, Int.reduceEq, Int.reduceLT, Int.reduceLE, Int.reduceAdd, Int.reduceSub, Int.reduceNeg, Int.reduceMul, Int.reduceToNat, Int.cast_ofNat_Int, Int.natCast_zero, Nat.add_zero, reduceCtorEq]
  refine Does.call (does_s_DeskRise K hd2) ?_
  rintro _ H3 ⟨wc, F3, rfl, s3, hw3⟩
  replace s3 : Step [] H2 H3 F3 := s3
  have hd3 := s3.stay RDesk.good hd2
  have hx3 := s3.stay RDesk.good hx2
  obtain ⟨w0, w1, w2, w3, rfl⟩ := len4 hw3.cells
  simp only [go_sem, Nat.reduceEqDiff, Nat.reduceAdd, Nat.reduceMul, Nat.reduceLeDiff, Int.reduceEq, Int.reduceLT, Int.reduceLE, Int.reduceAdd, Int.reduceSub, Int.reduceNeg, Int.reduceMul, Int.reduceToNat, Int.cast_ofNat_Int, Int.natCast_zero, Nat.add_zero, reduceCtorEq]
  refine Does.test (does_w_lnDesk K hx3 hw3) ?_
  simp only [go_sem, Nat.reduceEqDiff, Nat.reduceAdd, Nat.reduceMul, Nat.reduceLeDiff, Int.reduceEq, Int.reduceLT, Int.reduceLE, Int.reduceAdd, Int.reduceSub, Int.reduceNeg, Int.reduceMul, Int.reduceToNat, Int.cast_ofNat_Int, Int.natCast_zero, Nat.add_zero, reduceCtorEq]
  refine Does.call (does_s_DeskOk K hd3) ?_
  rintro _ H4 ⟨rfl, s4⟩
  replace s4 : Step [] H3 H4 [] := s4
  have hd4 := s4.stay RDesk.good hd3
  have hx4 := s4.stay RDesk.good hx3
  have hy4 : Bytes H4 c' ys G' := s4.keepSl RByte.good (s3.keepSl RByte.good (s2.keepSl RByte.good (s1.keepSl RByte.good h' (fun b _ => by simp)) (fun b _ => by simp)) (fun b _ => by simp)) (fun b _ => by simp)
  cases hok : deskOk d with
  | false =>
    simp only [go_sem, Nat.reduceEqDiff, Nat.reduceAdd, Nat.reduceMul, Nat.reduceLeDiff, Int.reduceEq, Int.reduceLT, Int.reduceLE, Int.reduceAdd, Int.reduceSub, Int.reduceNeg, Int.reduceMul, Int.reduceToNat, Int.cast_ofNat_Int, Int.natCast_zero, Nat.add_zero, reduceCtorEq]
    refine Does.call (does_s_DeskRise K hd4) ?_
    rintro _ H5 ⟨wc5, F5, rfl, s5, hw5⟩
    replace s5 : Step [] H4 H5 F5 := s5
    obtain ⟨v0, v1, v2, v3, rfl⟩ := len4 hw5.cells
    simp only [go_sem, Nat.reduceEqDiff, Nat.reduceAdd, Nat.reduceMul, Nat.reduceLeDiff, Int.reduceEq, Int.reduceLT, Int.reduceLE, Int.reduceAdd, Int.reduceSub, Int.reduceNeg, Int.reduceMul, Int.reduceToNat, Int.cast_ofNat_Int, Int.natCast_zero, Nat.add_zero, reduceCtorEq]
    refine Does.test (does_w_lnDesk K (s5.stay RDesk.good hx4) hw5) ?_
    simp only [go_sem, Nat.reduceEqDiff, Nat.reduceAdd, Nat.reduceMul, Nat.reduceLeDiff, Int.reduceEq, Int.reduceLT, Int.reduceLE, Int.reduceAdd, Int.reduceSub, Int.reduceNeg, Int.reduceMul, Int.reduceToNat, Int.cast_ofNat_Int, Int.natCast_zero, Nat.add_zero, reduceCtorEq]
    exact hQ _ _ (Ends.ret rfl rfl)
  | true =>
    obtain ⟨kp, hkp⟩ : ∃ kp : Int, (ys.length : Int).tmod 4 = kp := ⟨_, rfl⟩
    have ex : deskRiseV d = { d with up := true } := by rw [deskRiseV, if_pos hok]
    have q1 : (deskRiseV d).up = true := by rw [ex]
    have q2 : (deskRiseV d).log = d.log := by rw [ex]
    have q3 : (deskRiseV d).told = d.told := by rw [ex]
    have ef : deskFallV d kp = ⟨false, fallL d.log kp, []⟩ := by rw [deskFallV, if_pos hok]
    have hfo : deskOk ⟨false, fallL d.log kp, []⟩ = true := deskFall_ok hok
    have ey : deskRiseV (deskFallV d kp) = ⟨true, fallL d.log kp, []⟩ := by rw [ef, deskRiseV, if_pos hfo]
    have hyo : deskOk ⟨true, fallL d.log kp, []⟩ = true := deskRise_ok hfo
    obtain ⟨_, f2, f3, _⟩ := fall_facts hok kp
    have vb : deskTripsV ⟨true, fallL d.log kp, []⟩ true = tripsV ⟨true, fallL d.log kp, []⟩ true := by rw [deskTripsV, if_pos hyo]
    have vc : deskTripsV ⟨true, fallL d.log kp, []⟩ false = tripsV ⟨true, fallL d.log kp, []⟩ true := by rw [deskTripsV, if_pos hyo, f3, f2]
    have vw : deskWordsV ⟨true, fallL d.log kp, []⟩ = wordsOf [] (tripsV ⟨true, fallL d.log kp, []⟩ true) 0 := by rw [deskWordsV, if_pos hyo]; rfl
    have hlv := wordsD_len ⟨true, fallL d.log kp, []⟩ hyo
    have htok := tripsV_ok hyo true
    simp only [go_sem, Nat.reduceEqDiff, Nat.reduceAdd, Nat.reduceMul, Nat.reduceLeDiff, Int.reduceEq, Int.reduceLT, Int.reduceLE, Int.reduceAdd, Int.reduceSub, Int.reduceNeg, Int.reduceMul, Int.reduceToNat, Int.cast_ofNat_Int, Int.natCast_zero, Nat.add_zero, reduceCtorEq, hy4.len, hkp]
    refine Does.call (does_i_DeskFall K (keep := kp) hd4) ?_
    rintro _ H5 ⟨fc, F5, rfl, s5, hf5⟩
    replace s5 : Step [] H4 H5 F5 := s5
    have hd5 := s5.stay RDesk.good hd4
    have hx5 := s5.stay RDesk.good hx4
    obtain ⟨u0, u1, u2, u3, rfl⟩ := len4 hf5.cells
    simp only [go_sem, Nat.reduceEqDiff, Nat.reduceAdd, Nat.reduceMul, Nat.reduceLeDiff, Int.reduceEq, Int.reduceLT, Int.reduceLE, Int.reduceAdd, Int.reduceSub, Int.reduceNeg, Int.reduceMul, Int.reduceToNat, Int.cast_ofNat_Int, Int.natCast_zero, Nat.add_zero, reduceCtorEq]
    refine Does.call (does_i_DeskRise K hf5) ?_
    rintro _ H6 ⟨yc, F6, rfl, s6, hy6⟩
    replace s6 : Step [] H5 H6 F6 := s6
    have hd6 := s6.stay RDesk.good hd5
    have hx6 := s6.stay RDesk.good hx5
    rw [ey] at hy6
    obtain ⟨y0, y1, y2, y3, rfl⟩ := len4 hy6.cells
    simp only [go_sem, Nat.reduceEqDiff, Nat.reduceAdd, Nat.reduceMul, Nat.reduceLeDiff, Int.reduceEq, Int.reduceLT, Int.reduceLE, Int.reduceAdd, Int.reduceSub, Int.reduceNeg, Int.reduceMul, Int.reduceToNat, Int.cast_ofNat_Int, Int.natCast_zero, Nat.add_zero, reduceCtorEq]
    refine Does.call (does_i_DeskTrips K (f := true) hy6) ?_
    rintro _ H7 ⟨c7, F7, rfl, s7, h7⟩
    replace s7 : Step [] H6 H7 F7 := s7
    have hd7 := s7.stay RDesk.good hd6
    have hx7 := s7.stay RDesk.good hx6
    have hy7 := s7.stay RDesk.good hy6
    rw [vb] at h7
    have hwd : wordsD ⟨true, fallL d.log kp, []⟩ = wordsOf [] (tripsV ⟨true, fallL d.log kp, []⟩ true) 0 := rfl
    rw [hwd] at hlv
    obtain ⟨hl6, hall⟩ := tripsOk_parts htok
    generalize htv : tripsV ⟨true, fallL d.log kp, []⟩ true = l at *
    have hln := h7.len
    simp only [go_sem, Nat.reduceEqDiff, Nat.reduceAdd, Nat.reduceMul, Nat.reduceLeDiff, Int.reduceEq, Int.reduceLT, Int.reduceLE, Int.reduceAdd, Int.reduceSub, Int.reduceNeg, Int.reduceMul, Int.reduceToNat, Int.cast_ofNat_Int, Int.natCast_zero, Nat.add_zero, reduceCtorEq]
    refine RU_loop (fun m s => ∃ i : Nat, m = l.length - i ∧ i ≤ l.length ∧ s.H = H7 ∧ s.env 5 = .box [.bool d.up, rc, .int .i64 d.log.forced, tc] ∧ s.env 6 = .box [.bool (deskRiseV d).up, xr, .int .i64 (deskRiseV d).log.forced, xt] ∧ s.env 7 = .box [y0, y1, y2, y3] ∧ s.env 8 = .val (.c c7) ∧ s.env 9 = .val (int (wordsOf [] (l.take i) 0).length) ∧ s.env 10 = .val (int i)) l.length
      ⟨0, by simp, by simp, rfl, rfl, rfl, rfl, rfl, rfl, rfl⟩ ?_
    rintro m s ⟨i, rfl, hi, hH, g5, g6, g7, g8, g9, g10⟩ Q' hN hE hR
    by_cases hlt : (i : Int) < l.length
    · obtain ⟨x, hx⟩ := get_lt hlt
      have hxa := hall x (List.mem_of_getElem? hx)
      have hm3 := manyOk_len hxa.1
      have hwi := wrap_succ (show i ≤ lenTop by simp [lenTop]; omega)
      obtain ⟨tb, to, tbs, tcs, tf, rfl, e1, e2, ⟨cm, rfl, hm⟩, _, _⟩ := h7.get hx
      have ld0 := slab_sub0 e2 1 (by simp)
      have ld1 := slab_sub e2 1 1 (by simp)
      simp only [slabAt1, slabSkip1] at ld0 ld1
      simp only [go_sem, Nat.reduceEqDiff, Nat.reduceAdd, Nat.reduceMul, Nat.reduceLeDiff, Int.reduceEq, Int.reduceLT, Int.reduceLE, Int.reduceAdd, Int.reduceSub, Int.reduceNeg, Int.reduceMul, Int.reduceToNat, Int.cast_ofNat_Int, Int.natCast_zero, Nat.add_zero, reduceCtorEq, g5, g6, g7, g8, g9, g10, hln, hlt]
      refine RU_loop (fun m s' => ∃ j : Nat, m = 3 - j ∧ j ≤ 3 ∧ s'.H = H7 ∧ s'.env 5 = .box [.bool d.up, rc, .int .i64 d.log.forced, tc] ∧ s'.env 6 = .box [.bool (deskRiseV d).up, xr, .int .i64 (deskRiseV d).log.forced, xt] ∧ s'.env 7 = .box [y0, y1, y2, y3] ∧ s'.env 8 = .val (.c (.sl tb to l.length)) ∧ s'.env 9 = .val (int (wordsOf [] (l.take i) 0 ++ wordsOfTrip [] ((i : Int) + 1) x.state (x.many.take j) 0).length) ∧ s'.env 10 = .val (int i) ∧ s'.env 11 = .val (int j)) 3
        ⟨0, by simp, by simp, by simp [hH], by simp [upd, g5], by simp [upd, g6], by simp [upd, g7], by simp [upd, g8], by simp [upd, g9, wordsOfTrip], by simp [upd, g10], rfl⟩ ?_
      rintro m s' ⟨j, rfl, hj, hH', q5, q6, q7, q8, q9, q10, q11⟩ Q2 hN2 hE2 hR2
      by_cases hjt : (j : Int) < 3
      · obtain ⟨n, hn⟩ : ∃ n, x.many[j]? = some n := get_lt (by omega)
        have hn0 := manyOk_nonneg hxa.1 n (List.mem_of_getElem? hn)
        have hwj := wrap_succ (show j ≤ lenTop by simp [lenTop]; omega)
        have hjm : (j : Int) < x.many.length := by omega
        obtain ⟨mb, mo, mbs, mcs, mf, rfl, u1, u2, ⟨rfl, _⟩, _⟩ := hm.get hn
        have hstep := wordsOfTrip_take (told := []) (trip := (i : Int) + 1) (state := x.state) hn
        by_cases hbig : 3 < x.state
        · have hle : ¬ x.state ≤ 3 := by omega
          simp only [go_sem, Nat.reduceEqDiff, Nat.reduceAdd, Nat.reduceMul, Nat.reduceLeDiff, Int.reduceEq, Int.reduceLT, Int.reduceLE, Int.reduceAdd, Int.reduceSub, Int.reduceNeg, Int.reduceMul, Int.reduceToNat, Int.cast_ofNat_Int, Int.natCast_zero, Nat.add_zero, reduceCtorEq, q5, q6, q7, q8, q9, q10, q11, hjt, hlt, hH', e1, ld1, hle, hwj]
          exact hN2 _ _ (by omega) ⟨j + 1, rfl, by omega, by simp [hH'], by simp [upd, q5], by simp [upd, q6], by simp [upd, q7], by simp [upd, q8], by rw [hstep, say_big hbig, List.append_nil]; simp [upd, q9], by simp [upd, q10], by simp [upd]⟩
        · have hle : x.state ≤ 3 := by omega
          by_cases hz : n = 0
          · subst hz
            simp only [go_sem, Nat.reduceEqDiff, Nat.reduceAdd, Nat.reduceMul, Nat.reduceLeDiff, Int.reduceEq, Int.reduceLT, Int.reduceLE, Int.reduceAdd, Int.reduceSub, Int.reduceNeg, Int.reduceMul, Int.reduceToNat, Int.cast_ofNat_Int, Int.natCast_zero, Nat.add_zero, reduceCtorEq, q5, q6, q7, q8, q9, q10, q11, hjt, hlt, hjm, hH', e1, ld1, ld0, u1, u2, hle, hwj]
            exact hN2 _ _ (by omega) ⟨j + 1, rfl, by omega, by simp [hH'], by simp [upd, q5], by simp [upd, q6], by simp [upd, q7], by simp [upd, q8], by rw [hstep, say_zero, List.append_nil]; simp [upd, q9], by simp [upd, q10], by simp [upd]⟩
          · have hp : 0 < n := by omega
            have hlen : (wordsOf [] (l.take i) 0 ++ wordsOfTrip [] ((i : Int) + 1) x.state (x.many.take j) 0).length ≤ 30 := by
              have h1 := wordsOf_len [] (l.take i) 0 fun t ht => manyOk_len (hall t (List.mem_of_mem_take ht)).1
              have h2 := wordsOfTrip_len [] ((i : Int) + 1) x.state (x.many.take j) 0
              simp only [List.length_take, List.length_append] at h1 h2 ⊢; omega
            have hwk := wrap_succ (Nat.le_trans hlen (show 30 ≤ lenTop by simp [lenTop]))
            have hadd : (wordsOf [] (l.take i) 0 ++ wordsOfTrip [] ((i : Int) + 1) x.state (x.many.take (j + 1)) 0).length = (wordsOf [] (l.take i) 0 ++ wordsOfTrip [] ((i : Int) + 1) x.state (x.many.take j) 0).length + 1 := by
              rw [hstep, ← List.append_assoc, List.length_append, say_one hbig hz]
            simp only [go_sem, Nat.reduceEqDiff, Nat.reduceAdd, Nat.reduceMul, Nat.reduceLeDiff, Int.reduceEq, Int.reduceLT, Int.reduceLE, Int.reduceAdd, Int.reduceSub, Int.reduceNeg, Int.reduceMul, Int.reduceToNat, Int.cast_ofNat_Int, Int.natCast_zero, Nat.add_zero, reduceCtorEq, q5, q6, q7, q8, q9, q10, q11, hjt, hlt, hjm, hH', e1, ld1, ld0, u1, u2, hle, hp, hwj, hwk]
            exact hN2 _ _ (by omega) ⟨j + 1, rfl, by omega, by simp [hH'], by simp [upd, q5], by simp [upd, q6], by simp [upd, q7], by simp [upd, q8], by rw [hadd]; rfl, by simp [upd, q10], by simp [upd]⟩
      · have hj3 : j = x.many.length := by omega
        rw [hj3, List.take_length] at q9
        simp only [go_sem, Nat.reduceEqDiff, Nat.reduceAdd, Nat.reduceMul, Nat.reduceLeDiff, Int.reduceEq, Int.reduceLT, Int.reduceLE, Int.reduceAdd, Int.reduceSub, Int.reduceNeg, Int.reduceMul, Int.reduceToNat, Int.cast_ofNat_Int, Int.natCast_zero, Nat.add_zero, reduceCtorEq, q5, q6, q7, q8, q9, q10, q11, hjt]
        refine hE2 _ _ ?_
        simp only [go_sem, Nat.reduceEqDiff, Nat.reduceAdd, Nat.reduceMul, Nat.reduceLeDiff, Int.reduceEq, Int.reduceLT, Int.reduceLE, Int.reduceAdd, Int.reduceSub, Int.reduceNeg, Int.reduceMul, Int.reduceToNat, Int.cast_ofNat_Int, Int.natCast_zero, Nat.add_zero, reduceCtorEq, q10, hwi]
        exact hN _ _ (by omega) ⟨i + 1, rfl, by omega, by simp [hH'], by simp [upd, q5], by simp [upd, q6], by simp [upd, q7], by simp [upd, q8], by rw [wordsOf_take hx]; simp only [upd, q9]; rfl, by simp [upd]⟩
    · have hil : i = l.length := by omega
      rw [hil, List.take_length] at g9
      simp only [go_sem, Nat.reduceEqDiff, Nat.reduceAdd, Nat.reduceMul, Nat.reduceLeDiff, Int.reduceEq, Int.reduceLT, Int.reduceLE, Int.reduceAdd, Int.reduceSub, Int.reduceNeg, Int.reduceMul, Int.reduceToNat, Int.cast_ofNat_Int, Int.natCast_zero, Nat.add_zero, reduceCtorEq, g5, g6, g7, g8, g9, g10, hln, hlt]
      refine hE _ _ ?_
      simp only [go_sem, Nat.reduceEqDiff, Nat.reduceAdd, Nat.reduceMul, Nat.reduceLeDiff, Int.reduceEq, Int.reduceLT, Int.reduceLE, Int.reduceAdd, Int.reduceSub, Int.reduceNeg, Int.reduceMul, Int.reduceToNat, Int.cast_ofNat_Int, Int.natCast_zero, Nat.add_zero, reduceCtorEq, g7, hH]
      refine Does.call (does_i_DeskWords K hy7) ?_
      rintro _ H8 ⟨c8, F8, rfl, s8, h8⟩
      replace s8 : Step [] H7 H8 F8 := s8
      have hd8 := s8.stay RDesk.good hd7
      have hx8 := s8.stay RDesk.good hx7
      have hy8 := s8.stay RDesk.good hy7
      have h78 := s8.keepSl RTrip.good h7 (fun b _ => by simp)
      rw [vw] at h8
      obtain ⟨xr', xt', X5, X6, ec, _, hxr, hxt⟩ := id hx8
      cases ec
      obtain ⟨rc', tc', D5, D6, ec, _, hdr, hdt⟩ := id hd8
      cases ec
      simp only [go_sem, Nat.reduceEqDiff, Nat.reduceAdd, Nat.reduceMul, Nat.reduceLeDiff, Int.reduceEq, Int.reduceLT, Int.reduceLE, Int.reduceAdd, Int.reduceSub, Int.reduceNeg, Int.reduceMul, Int.reduceToNat, Int.cast_ofNat_Int, Int.natCast_zero, Nat.add_zero, reduceCtorEq, h8.len, g5, g6, g9, q1]
      refine Does.test (does_w_lnLog K (show RLog H8 [xr, .int .i64 (deskRiseV d).log.forced] (deskRiseV d).log X5 from ⟨xr, rfl, hxr⟩) (show RLog H8 [rc, .int .i64 d.log.forced] d.log D5 from ⟨rc, rfl, hdr⟩)) ?_
      simp only [go_sem, Nat.reduceEqDiff, Nat.reduceAdd, Nat.reduceMul, Nat.reduceLeDiff, Int.reduceEq, Int.reduceLT, Int.reduceLE, Int.reduceAdd, Int.reduceSub, Int.reduceNeg, Int.reduceMul, Int.reduceToNat, Int.cast_ofNat_Int, Int.natCast_zero, Nat.add_zero, reduceCtorEq, q2, g5, g6]
      refine Does.test (does_w_lnWords K hxt hdt) ?_
      simp only [go_sem, Nat.reduceEqDiff, Nat.reduceAdd, Nat.reduceMul, Nat.reduceLeDiff, Int.reduceEq, Int.reduceLT, Int.reduceLE, Int.reduceAdd, Int.reduceSub, Int.reduceNeg, Int.reduceMul, Int.reduceToNat, Int.cast_ofNat_Int, Int.natCast_zero, Nat.add_zero, reduceCtorEq, q3, g7, g8]
      refine Does.call (does_i_DeskTrips K (f := false) hy8) ?_
      rintro _ H9 ⟨c9, F9, rfl, s9, h9⟩
      replace s9 : Step [] H8 H9 F9 := s9
      rw [vc] at h9
      simp only [go_sem, Nat.reduceEqDiff, Nat.reduceAdd, Nat.reduceMul, Nat.reduceLeDiff, Int.reduceEq, Int.reduceLT, Int.reduceLE, Int.reduceAdd, Int.reduceSub, Int.reduceNeg, Int.reduceMul, Int.reduceToNat, Int.cast_ofNat_Int, Int.natCast_zero, Nat.add_zero, reduceCtorEq, g8]
      refine Does.test (does_w_lnTrips K (s9.keepSl RTrip.good h78 (fun b _ => by simp)) h9) ?_
      simp only [go_sem, Nat.reduceEqDiff, Nat.reduceAdd, Nat.reduceMul, Nat.reduceLeDiff, Int.reduceEq, Int.reduceLT, Int.reduceLE, Int.reduceAdd, Int.reduceSub, Int.reduceNeg, Int.reduceMul, Int.reduceToNat, Int.cast_ofNat_Int, Int.natCast_zero, Nat.add_zero, reduceCtorEq]
      exact hQ _ _ (Ends.ret rfl rfl)
end Go.AX
