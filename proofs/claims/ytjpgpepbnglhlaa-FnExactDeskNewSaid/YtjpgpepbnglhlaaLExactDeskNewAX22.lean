/- What the laws' numbering functions do: they write numbers through all cells. Condition: the blocks are one's own. -/
import Derived.Test.YtjpgpepbnglhlaaLExactDeskNewAX21
set_option linter.unusedSimpArgs false
set_option linter.unusedVariables false
namespace Go.AX
variable {P : Program} {I : Ids}

theorem does_w_markIntS (K : Codes P I) {H : Heap} {a : C} {xs : List Int} {F : List Nat} {k : Int} (ha : Ints H a xs F) (ho : Owned H F) (h0 : 0 ≤ k) (hk : k + sumL one xs ≤ lenTop) :
    Does P I.w_markIntS [.c a, .c (.int .i64 k)] H fun r H' => r = .val (.c (.int .i64 (k + sumL one xs))) ∧ Step F H H' F ∧ Ints H' a (mkL (fun _ k => k) one xs k) F := by
  refine K.does K.w_markIntS rfl fun Q hQ => ?_
  simp only [go_sem, L_w_markIntS, Nat.reduceEqDiff, Nat.reduceAdd, Nat.reduceLeDiff, Int.reduceEq, reduceCtorEq]
  refine RU_loop (fun m s => ∃ i : Nat, m = xs.length - i ∧ i ≤ xs.length ∧ s.env 0 = .val (.c a) ∧ s.env 1 = .val (.c (.int .i64 (k + sumL one (xs.take i)))) ∧ s.env 5 = .val (.c (.int .i64 i)) ∧ Step F H s.H F ∧ Ints s.H a (mkTo (fun _ k => k) one xs k i) F)
    xs.length ⟨0, by simp, by simp, rfl, by simp [upd, sumL], rfl, ho.step, by rw [mkTo_zero]; exact ha⟩ ?_
  rintro m s ⟨i, rfl, hi, g0, g1, g5, hs, hr⟩ Q' hN hE hR
  have htop := ha.top
  by_cases hlt : (i : Int) < xs.length
  · obtain ⟨x, hx⟩ := get_lt hlt
    obtain ⟨b, o, bs, cs, f, st, A, B, ea, hb, _, e, _, _, hc, hF, hbA, hput⟩ := hr.focus RInt.good ho.1 (mkTo_get hx)
    rw [mkTo_len] at ea
    subst ea
    have hbF : b ∈ F := by rw [hF]; simp [hbA]
    have hst := hs.owned.st hbF hb
    subst hst
    obtain ⟨rfl, hf0⟩ := hc
    have hsum := sumL_take (cnt := one) hx
    have hle := sumL_le (cnt := one) (xs := xs) (i + 1)
    have hne := focus_ne ho.1 hF hbA
    have hof := hs.owned.mid hF
    have hm := mkTo_set (m := (fun _ k => k)) (cnt := one) (k := k) hx
    have hcx : (one x : Int) = 1 := by rfl
    generalize hk1 : k + (sumL one (xs.take i) : Int) = k1 at g1 hm
    have hb0 := hb
    obtain ⟨H1, bs1, w1, hb1, e1, own1, le1, oth1, len1, eq1, sp1⟩ := store_in hb e 0 [.int .i64 (k1)] (by simp)
    simp only [List.length_cons, List.length_nil, Nat.reduceAdd] at le1
    simp only [Nat.add_zero] at w1 le1
    simp only [go_sem] at e1 eq1
    have q1 := eq1
    have hw1 : IntKind.wrap .i64 (k1 + 1) = k1 + 1 := by rw [wrap_i64 (by omega) (by unfold lenTop at hk; omega)]
    simp only [go_sem, Nat.reduceEqDiff, Nat.reduceAdd, Nat.reduceLeDiff, Int.reduceEq, reduceCtorEq, g0, g1, g5, hlt, lenC, wrap_succ (show i ≤ lenTop by omega), own1, le1, w1, hw1]
    have hall : ∀ k, k < s.H.length → k ≠ b → k ∉ f → H1[k]? = s.H[k]? := fun k hk hkb hkf => by
      rw [oth1 k hkb]
    obtain ⟨hS, hoth⟩ := elem_step hs.owned hF hbA ⟨_, hb1, rfl⟩ (fun k hk => by have hkb := hne k hk; rw [oth1 k hkb]; exact hof.2 k hk) hall (by omega)
    refine hN _ _ (by omega) ⟨i + 1, rfl, by omega, by simp [upd, g0], ?_, by simp [upd], hs.trans hS, ?_⟩
    · simp [upd, hsum, ← hk1]; try omega
    · rw [← hm, hF]
      refine hput _ _ _ f ?_ (hb1.trans (congrArg (fun z => some (Blk.mk .rw 1 z)) q1)) hoth ⟨rfl, hf0⟩
      simp
  · simp only [go_sem, Nat.reduceEqDiff, Nat.reduceAdd, Nat.reduceLeDiff, Int.reduceEq, reduceCtorEq, g0, g5, hlt, hr.len, mkTo_len]
    refine hE _ _ ?_
    have hil : i = xs.length := by omega
    subst hil
    rw [mkTo_all (Nat.le_refl _)] at hr
    rw [List.take_length] at g1
    simp only [go_sem, Nat.reduceEqDiff, Nat.reduceAdd, Nat.reduceLeDiff, Int.reduceEq, reduceCtorEq, g1]
    exact hQ _ _ (Ends.ret rfl ⟨rfl, hs, hr⟩)

theorem does_w_markRecS (K : Codes P I) {H : Heap} {a : C} {xs : List Rec} {F : List Nat} {k : Int} (ha : Recs H a xs F) (ho : Owned H F) (h0 : 0 ≤ k) (hk : k + sumL cntRec xs ≤ lenTop) :
    Does P I.w_markRecS [.c a, .c (.int .i64 k)] H fun r H' => r = .val (.c (.int .i64 (k + sumL cntRec xs))) ∧ Step F H H' F ∧ Recs H' a (mkL mkRec cntRec xs k) F := by
  refine K.does K.w_markRecS rfl fun Q hQ => ?_
  simp only [go_sem, L_w_markRecS, Nat.reduceEqDiff, Nat.reduceAdd, Nat.reduceLeDiff, Int.reduceEq, reduceCtorEq]
  refine RU_loop (fun m s => ∃ i : Nat, m = xs.length - i ∧ i ≤ xs.length ∧ s.env 0 = .val (.c a) ∧ s.env 1 = .val (.c (.int .i64 (k + sumL cntRec (xs.take i)))) ∧ s.env 5 = .val (.c (.int .i64 i)) ∧ Step F H s.H F ∧ Recs s.H a (mkTo mkRec cntRec xs k i) F)
    xs.length ⟨0, by simp, by simp, rfl, by simp [upd, sumL], rfl, ho.step, by rw [mkTo_zero]; exact ha⟩ ?_
  rintro m s ⟨i, rfl, hi, g0, g1, g5, hs, hr⟩ Q' hN hE hR
  have htop := ha.top
  by_cases hlt : (i : Int) < xs.length
  · obtain ⟨x, hx⟩ := get_lt hlt
    obtain ⟨b, o, bs, cs, f, st, A, B, ea, hb, _, e, _, _, hc, hF, hbA, hput⟩ := hr.focus RRec.good ho.1 (mkTo_get hx)
    rw [mkTo_len] at ea
    subst ea
    have hbF : b ∈ F := by rw [hF]; simp [hbA]
    have hst := hs.owned.st hbF hb
    subst hst
    obtain ⟨c, rfl, hc⟩ := hc
    have hsum := sumL_take (cnt := cntRec) hx
    have hle := sumL_le (cnt := cntRec) (xs := xs) (i + 1)
    have hne := focus_ne ho.1 hF hbA
    have hof := hs.owned.mid hF
    have hm := mkTo_set (m := mkRec) (cnt := cntRec) (k := k) hx
    have hcx : (cntRec x : Int) = 2 + (sumL one x.many : Int) := by simp [cntRec]
    generalize hk1 : k + (sumL cntRec (xs.take i) : Int) = k1 at g1 hm
    have hb0 := hb
    obtain ⟨H1, bs1, w1, hb1, e1, own1, le1, oth1, len1, eq1, sp1⟩ := store_in hb e 0 [.int .i64 (k1)] (by simp)
    simp only [List.length_cons, List.length_nil, Nat.reduceAdd] at le1
    simp only [go_sem] at e1 eq1
    have q1 := eq1
    have hw1 : IntKind.wrap .i64 (k1 + 1) = k1 + 1 := by rw [wrap_i64 (by omega) (by unfold lenTop at hk; omega)]
    obtain ⟨H2, bs2, w2, hb2, e2, own2, le2, oth2, len2, eq2, sp2⟩ := store_in hb1 e1 1 [.int .i64 (k1 + 1)] (by simp)
    simp only [List.length_cons, List.length_nil, Nat.reduceAdd] at le2
    simp only [go_sem] at e2 eq2
    have q2 := (eq2).trans (sp1 _ (by simp))
    have hw2 : IntKind.wrap .i64 (k1 + 1 + 1) = k1 + 2 := by rw [wrap_i64 (by omega) (by unfold lenTop at hk; omega)]; omega
    have ld2 := slab_sub e2 2 1 (by simp)
    have lv2 := Heap.live_of hb2 (by simp)
    simp only [go_sem, Nat.reduceEqDiff, Nat.reduceAdd, Nat.reduceLeDiff, Int.reduceEq, reduceCtorEq, g0, g1, g5, hlt, lenC, wrap_succ (show i ≤ lenTop by omega), own1, le1, w1, hw1, own2, le2, w2, hw2, ld2, lv2]
    have hc1 : Ints H2 c x.many f := hc.frame RInt.good fun k hk => by have hkb := hne k hk; rw [oth2 k hkb, oth1 k hkb]
    have hof1 : Owned H2 f := hof.frame fun k hk => by have hkb := hne k hk; rw [oth2 k hkb, oth1 k hkb]
    refine Does.call (does_w_markIntS K hc1 hof1 (by omega) (by omega)) ?_
    rintro _ HC ⟨rfl, sc, hc2⟩
    replace sc : Step f H2 HC f := sc
    have hbC : HC[b]? = some ⟨.rw, 3, _⟩ := (sc.old b (get_len hb2) fun h => hne b h rfl).trans hb2
    simp only [go_sem, Nat.reduceEqDiff, Nat.reduceAdd, Nat.reduceLeDiff, Int.reduceEq, reduceCtorEq, lenC, wrap_succ (show i ≤ lenTop by omega), g0, g5, g1, hlt]
    have hall : ∀ k, k < s.H.length → k ≠ b → k ∉ f → HC[k]? = s.H[k]? := fun k hk hkb hkf => by
      rw [sc.old k (by omega) hkf, oth2 k hkb, oth1 k hkb]
    obtain ⟨hS, hoth⟩ := elem_step hs.owned hF hbA ⟨_, hbC, rfl⟩ (sc.own) hall (by have := sc.len; omega)
    refine hN _ _ (by omega) ⟨i + 1, rfl, by omega, by simp [upd, g0], ?_, by simp [upd], hs.trans hS, ?_⟩
    · simp [upd, hsum, ← hk1]; try omega
    · rw [← hm, hF]
      refine hput _ _ _ f ?_ (hbC.trans (congrArg (fun z => some (Blk.mk .rw 3 z)) q2)) hoth ⟨c, rfl, hc2⟩
      simp
  · simp only [go_sem, Nat.reduceEqDiff, Nat.reduceAdd, Nat.reduceLeDiff, Int.reduceEq, reduceCtorEq, g0, g5, hlt, hr.len, mkTo_len]
    refine hE _ _ ?_
    have hil : i = xs.length := by omega
    subst hil
    rw [mkTo_all (Nat.le_refl _)] at hr
    rw [List.take_length] at g1
    simp only [go_sem, Nat.reduceEqDiff, Nat.reduceAdd, Nat.reduceLeDiff, Int.reduceEq, reduceCtorEq, g1]
    exact hQ _ _ (Ends.ret rfl ⟨rfl, hs, hr⟩)

theorem does_w_markWordS (K : Codes P I) {H : Heap} {a : C} {xs : List Word} {F : List Nat} {k : Int} (ha : Words H a xs F) (ho : Owned H F) (h0 : 0 ≤ k) (hk : k + sumL four xs ≤ lenTop) :
    Does P I.w_markWordS [.c a, .c (.int .i64 k)] H fun r H' => r = .val (.c (.int .i64 (k + sumL four xs))) ∧ Step F H H' F ∧ Words H' a (mkL mkWord four xs k) F := by
  refine K.does K.w_markWordS rfl fun Q hQ => ?_
  simp only [go_sem, L_w_markWordS, Nat.reduceEqDiff, Nat.reduceAdd, Nat.reduceLeDiff, Int.reduceEq, reduceCtorEq]
  refine RU_loop (fun m s => ∃ i : Nat, m = xs.length - i ∧ i ≤ xs.length ∧ s.env 0 = .val (.c a) ∧ s.env 1 = .val (.c (.int .i64 (k + sumL four (xs.take i)))) ∧ s.env 5 = .val (.c (.int .i64 i)) ∧ Step F H s.H F ∧ Words s.H a (mkTo mkWord four xs k i) F)
    xs.length ⟨0, by simp, by simp, rfl, by simp [upd, sumL], rfl, ho.step, by rw [mkTo_zero]; exact ha⟩ ?_
  rintro m s ⟨i, rfl, hi, g0, g1, g5, hs, hr⟩ Q' hN hE hR
  have htop := ha.top
  by_cases hlt : (i : Int) < xs.length
  · obtain ⟨x, hx⟩ := get_lt hlt
    obtain ⟨b, o, bs, cs, f, st, A, B, ea, hb, _, e, _, _, hc, hF, hbA, hput⟩ := hr.focus RWord.good ho.1 (mkTo_get hx)
    rw [mkTo_len] at ea
    subst ea
    have hbF : b ∈ F := by rw [hF]; simp [hbA]
    have hst := hs.owned.st hbF hb
    subst hst
    obtain ⟨rfl, hf0⟩ := hc
    have hsum := sumL_take (cnt := four) hx
    have hle := sumL_le (cnt := four) (xs := xs) (i + 1)
    have hne := focus_ne ho.1 hF hbA
    have hof := hs.owned.mid hF
    have hm := mkTo_set (m := mkWord) (cnt := four) (k := k) hx
    have hcx : (four x : Int) = 4 := by rfl
    generalize hk1 : k + (sumL four (xs.take i) : Int) = k1 at g1 hm
    have hb0 := hb
    obtain ⟨H1, bs1, w1, hb1, e1, own1, le1, oth1, len1, eq1, sp1⟩ := store_in hb e 0 [.int .i64 (k1)] (by simp)
    simp only [List.length_cons, List.length_nil, Nat.reduceAdd] at le1
    simp only [go_sem] at e1 eq1
    have q1 := eq1
    have hw1 : IntKind.wrap .i64 (k1 + 1) = k1 + 1 := by rw [wrap_i64 (by omega) (by unfold lenTop at hk; omega)]
    obtain ⟨H2, bs2, w2, hb2, e2, own2, le2, oth2, len2, eq2, sp2⟩ := store_in hb1 e1 1 [.int .i64 (k1 + 1)] (by simp)
    simp only [List.length_cons, List.length_nil, Nat.reduceAdd] at le2
    simp only [go_sem] at e2 eq2
    have q2 := (eq2).trans (sp1 _ (by simp))
    have hw2 : IntKind.wrap .i64 (k1 + 1 + 1) = k1 + 2 := by rw [wrap_i64 (by omega) (by unfold lenTop at hk; omega)]; omega
    obtain ⟨H3, bs3, w3, hb3, e3, own3, le3, oth3, len3, eq3, sp3⟩ := store_in hb2 e2 2 [.int .i64 (k1 + 2)] (by simp)
    simp only [List.length_cons, List.length_nil, Nat.reduceAdd] at le3
    simp only [go_sem] at e3 eq3
    have q3 := ((eq3).trans (sp2 _ (by simp))).trans (sp1 _ (by simp))
    have hw3 : IntKind.wrap .i64 (k1 + 2 + 1) = k1 + 3 := by rw [wrap_i64 (by omega) (by unfold lenTop at hk; omega)]; omega
    obtain ⟨H4, bs4, w4, hb4, e4, own4, le4, oth4, len4, eq4, sp4⟩ := store_in hb3 e3 3 [.int .i64 (k1 + 3)] (by simp)
    simp only [List.length_cons, List.length_nil, Nat.reduceAdd] at le4
    simp only [go_sem] at e4 eq4
    have q4 := (((eq4).trans (sp3 _ (by simp))).trans (sp2 _ (by simp))).trans (sp1 _ (by simp))
    have hw4 : IntKind.wrap .i64 (k1 + 3 + 1) = k1 + 4 := by rw [wrap_i64 (by omega) (by unfold lenTop at hk; omega)]; omega
    simp only [go_sem, Nat.reduceEqDiff, Nat.reduceAdd, Nat.reduceLeDiff, Int.reduceEq, reduceCtorEq, g0, g1, g5, hlt, lenC, wrap_succ (show i ≤ lenTop by omega), own1, le1, w1, hw1, own2, le2, w2, hw2, own3, le3, w3, hw3, own4, le4, w4, hw4]
    have hall : ∀ k, k < s.H.length → k ≠ b → k ∉ f → H4[k]? = s.H[k]? := fun k hk hkb hkf => by
      rw [oth4 k hkb, oth3 k hkb, oth2 k hkb, oth1 k hkb]
    obtain ⟨hS, hoth⟩ := elem_step hs.owned hF hbA ⟨_, hb4, rfl⟩ (fun k hk => by have hkb := hne k hk; rw [oth4 k hkb, oth3 k hkb, oth2 k hkb, oth1 k hkb]; exact hof.2 k hk) hall (by omega)
    refine hN _ _ (by omega) ⟨i + 1, rfl, by omega, by simp [upd, g0], ?_, by simp [upd], hs.trans hS, ?_⟩
    · simp [upd, hsum, ← hk1]; try omega
    · rw [← hm, hF]
      refine hput _ _ _ f ?_ (hb4.trans (congrArg (fun z => some (Blk.mk .rw 4 z)) q4)) hoth ⟨rfl, hf0⟩
      simp
  · simp only [go_sem, Nat.reduceEqDiff, Nat.reduceAdd, Nat.reduceLeDiff, Int.reduceEq, reduceCtorEq, g0, g5, hlt, hr.len, mkTo_len]
    refine hE _ _ ?_
    have hil : i = xs.length := by omega
    subst hil
    rw [mkTo_all (Nat.le_refl _)] at hr
    rw [List.take_length] at g1
    simp only [go_sem, Nat.reduceEqDiff, Nat.reduceAdd, Nat.reduceLeDiff, Int.reduceEq, reduceCtorEq, g1]
    exact hQ _ _ (Ends.ret rfl ⟨rfl, hs, hr⟩)

theorem Step.right {F G G1 : List Nat} {H H' : Heap} (ho : Owned H (F ++ G)) (h : Step G H H' G1) : Step (F ++ G) H H' (F ++ G1) := ho.step.beside h rfl
theorem Step.left {F G F1 : List Nat} {H H' : Heap} (ho : Owned H (F ++ G)) (h : Step F H H' F1) : Step (F ++ G) H H' (F1 ++ G) :=
  (Step.perm (ho.step.perm List.perm_append_comm |>.beside h rfl) List.perm_append_comm)
theorem does_w_markLog (K : Codes P I) {H : Heap} {a : List C} {x : Log} {F : List Nat} {k : Int} (ha : RLog H a x F) (ho : Owned H F) (h0 : 0 ≤ k) (hk : k + sumL cntRec x.recs ≤ lenTop) :
    Does P I.w_markLog [.agg a, .c (.int .i64 k)] H fun r H' => r = .val (.c (.int .i64 (k + sumL cntRec x.recs))) ∧ Step F H H' F ∧ RLog H' a (mkLog x k) F := by
  obtain ⟨c, rfl, hc⟩ := ha
  refine K.does K.w_markLog rfl fun Q hQ => ?_
  simp only [go_sem, L_w_markLog, Nat.reduceEqDiff, Nat.reduceAdd, Nat.reduceLeDiff, Int.reduceEq, reduceCtorEq]
  refine Does.call (does_w_markRecS K hc ho h0 hk) ?_
  rintro _ H1 ⟨rfl, s1, hc1⟩
  simp only [go_sem, Nat.reduceEqDiff, Nat.reduceAdd, Nat.reduceLeDiff, Int.reduceEq, reduceCtorEq]
  exact hQ _ _ (Ends.ret rfl ⟨rfl, s1, c, rfl, hc1⟩)
theorem does_w_markDesk (K : Codes P I) {H : Heap} {a : List C} {x : Desk} {F : List Nat} {k : Int} (ha : RDesk H a x F) (ho : Owned H F) (h0 : 0 ≤ k) (hk : k + (sumL cntRec x.log.recs + sumL four x.told) ≤ lenTop) :
    Does P I.w_markDesk [.agg a, .c (.int .i64 k)] H fun r H' => r = .val (.c (.int .i64 (k + (sumL cntRec x.log.recs + sumL four x.told)))) ∧ Step F H H' F ∧ RDesk H' a (mkDesk x k) F := by
  obtain ⟨c, d, F1, F2, rfl, rfl, hc, hd⟩ := ha
  refine K.does K.w_markDesk rfl fun Q hQ => ?_
  simp only [go_sem, L_w_markDesk, Nat.reduceEqDiff, Nat.reduceAdd, Nat.reduceLeDiff, Int.reduceEq, reduceCtorEq]
  refine Does.call (does_w_markLog K ⟨c, rfl, hc⟩ ho.left h0 (by omega)) ?_
  rintro _ H1 ⟨rfl, s1, c1, e1, hc1⟩
  replace s1 : Step F1 H H1 F1 := s1
  simp only [List.cons.injEq, and_true] at e1
  obtain ⟨rfl, _⟩ := e1
  have t1 := s1.left ho
  simp only [go_sem, Nat.reduceEqDiff, Nat.reduceAdd, Nat.reduceLeDiff, Int.reduceEq, reduceCtorEq]
  refine Does.call (does_w_markWordS K (s1.keepSl RWord.good hd fun b hb hc => ho.disj b hc hb) t1.owned.right (by omega) (by omega)) ?_
  rintro _ H2 ⟨rfl, s2, hd2⟩
  replace s2 : Step F2 H1 H2 F2 := s2
  simp only [go_sem, Nat.reduceEqDiff, Nat.reduceAdd, Nat.reduceLeDiff, Int.reduceEq, reduceCtorEq]
  exact hQ _ _ (Ends.ret rfl ⟨by simp [tupOf, Int.add_assoc], t1.trans (s2.right t1.owned), c, d, F1, F2, rfl, rfl, s2.keepSl RRec.good hc1 fun b hb hc => ho.disj b hb hc, hd2⟩)
def cntWld (x : Wld) : Nat := (sumL cntRec x.desk.log.recs + sumL four x.desk.told) + (sumL cntHouse x.houses + sumL four x.nets)
def mkWld (x : Wld) (k : Int) : Wld := ⟨mkDesk x.desk k, mkL mkHouse cntHouse x.houses (k + (sumL cntRec x.desk.log.recs + sumL four x.desk.told)), mkL mkWord four x.nets (k + (sumL cntRec x.desk.log.recs + sumL four x.desk.told) + sumL cntHouse x.houses)⟩
end Go.AX
