/- What the laws' comparing functions return: whether two data are the same. Condition: the data lie in memory. -/
import Derived.Test.YtjpgpepbnglhlaaLExactDeskNewAX19
set_option linter.unusedSimpArgs false
set_option linter.unusedVariables false
namespace Go.AX
variable {P : Program} {I : Ids}

theorem does_w_eqIntS (K : Codes P I) {H : Heap} {a b : C} {xs ys : List Int} {F G : List Nat} (ha : Ints H a xs F) (hb : Ints H b ys G) : Does P I.w_eqIntS [.c a, .c b] H fun r H' => r = .val (.c (.bool (decide (xs = ys)))) ∧ H' = H := by
  refine K.does K.w_eqIntS rfl fun Q hQ => ?_
  by_cases hl : (xs.length : Int) = ys.length
  · simp only [go_sem, L_w_eqIntS, Nat.reduceEqDiff, Nat.reduceAdd, Nat.reduceLeDiff, reduceCtorEq, ha.len, hb.len, hl]
    refine RU_loop (fun m s => ∃ i : Nat, m = xs.length - i ∧ i ≤ xs.length ∧ s.H = H ∧ s.env 0 = .val (.c a) ∧ s.env 1 = .val (.c b) ∧ s.env 5 = .val (.c (.int .i64 i)) ∧ xs.take i = ys.take i) xs.length ⟨0, by simp, by simp, rfl, rfl, rfl, rfl, rfl⟩ ?_
    rintro m s ⟨i, rfl, hi, hH, h0, h1, h5, ht⟩ Q' hN hE hR
    by_cases hlt : (i : Int) < xs.length
    · obtain ⟨x, hx⟩ := get_lt hlt
      obtain ⟨y, hy⟩ : ∃ y, ys[i]? = some y := get_lt (by omega)
      have hlt' : (i : Int) < ys.length := by omega
      have htop := ha.top
      obtain ⟨b1, o1, bs1, cs1, f1, rfl, e1, e2, ⟨rfl, _⟩, _⟩ := ha.get hx
      obtain ⟨b2, o2, bs2, cs2, f2, rfl, g1, g2, ⟨rfl, _⟩, _⟩ := hb.get hy
      by_cases hxy : x = y
      · subst hxy
        simp only [go_sem, Nat.reduceEqDiff, Nat.reduceAdd, Nat.reduceLeDiff, reduceCtorEq, h0, h1, h5, hlt, hlt', hH, e1, e2, g1, g2, lenC, wrap_succ (show i ≤ lenTop by omega)]
        refine hN _ _ (by omega) ⟨i + 1, rfl, by omega, rfl, ?_, ?_, ?_, ?_⟩
        · simp [upd, h0]
        · simp [upd, h1]
        · simp [upd]
        · rw [take_snoc hx, take_snoc hy, ht]
      · simp only [go_sem, Nat.reduceEqDiff, Nat.reduceAdd, Nat.reduceLeDiff, reduceCtorEq, h0, h1, h5, hlt, hlt', hH, e1, e2, g1, g2, lenC, wrap_succ (show i ≤ lenTop by omega), hxy]
        refine hR _ (hQ _ _ (Ends.ret rfl ?_))
        have : xs ≠ ys := fun e => by subst e; rw [hx] at hy; simp at hy; exact hxy hy
        simp [tupOf, this]
    · simp only [go_sem, Nat.reduceEqDiff, Nat.reduceAdd, Nat.reduceLeDiff, reduceCtorEq, h0, h5, hlt, hH, ha.len]
      refine hE _ _ ?_
      simp only [go_sem, Nat.reduceEqDiff, Nat.reduceAdd, Nat.reduceLeDiff, reduceCtorEq]
      refine hQ _ _ (Ends.ret rfl ?_)
      have : xs = ys := by
        rw [List.take_of_length_le (by omega), List.take_of_length_le (by omega)] at ht; exact ht
      simp [tupOf, this]
  · simp only [go_sem, L_w_eqIntS, Nat.reduceEqDiff, Nat.reduceAdd, Nat.reduceLeDiff, reduceCtorEq, ha.len, hb.len, hl]
    refine hQ _ _ (Ends.ret rfl ?_)
    have : xs ≠ ys := fun e => hl (by rw [e])
    simp [tupOf, this]

theorem does_w_eqRec (K : Codes P I) {H : Heap} {a b : List C} {x y : Rec} {F G : List Nat} (ha : RRec H a x F) (hb : RRec H b y G) : Does P I.w_eqRec [.agg a, .agg b] H fun r H' => r = .val (.c (.bool (decide (x = y)))) ∧ H' = H := by
  obtain ⟨c, rfl, ha⟩ := ha
  obtain ⟨d, rfl, hb⟩ := hb
  refine K.does K.w_eqRec rfl fun Q hQ => ?_
  by_cases h0 : x.kind = y.kind
  · by_cases h1 : x.trip = y.trip
    · simp only [go_sem, L_w_eqRec, Nat.reduceEqDiff, Nat.reduceAdd, Nat.reduceLeDiff, reduceCtorEq, h0, h1]
      refine Does.call (does_w_eqIntS K ha hb) ?_
      rintro _ _ ⟨rfl, rfl⟩
      by_cases h2 : x.many = y.many
      · simp only [go_sem, Nat.reduceEqDiff, Nat.reduceAdd, Nat.reduceLeDiff, reduceCtorEq, h0, h1, h2]
        refine hQ _ _ (Ends.ret rfl ⟨?_, rfl⟩)
        simp [tupOf, Rec.ext_iff, h0, h1, h2]
      · simp only [go_sem, Nat.reduceEqDiff, Nat.reduceAdd, Nat.reduceLeDiff, reduceCtorEq, h0, h1, h2]
        refine hQ _ _ (Ends.ret rfl ⟨?_, rfl⟩)
        simp [tupOf, Rec.ext_iff, h0, h1, h2]
    · simp only [go_sem, L_w_eqRec, Nat.reduceEqDiff, Nat.reduceAdd, Nat.reduceLeDiff, reduceCtorEq, h0, h1]
      refine hQ _ _ (Ends.ret rfl ⟨?_, rfl⟩)
      simp [tupOf, Rec.ext_iff, h0, h1]
  · simp only [go_sem, L_w_eqRec, Nat.reduceEqDiff, Nat.reduceAdd, Nat.reduceLeDiff, reduceCtorEq, h0]
    refine hQ _ _ (Ends.ret rfl ⟨?_, rfl⟩)
    simp [tupOf, Rec.ext_iff, h0]

theorem does_w_eqRecS (K : Codes P I) {H : Heap} {a b : C} {xs ys : List Rec} {F G : List Nat} (ha : Recs H a xs F) (hb : Recs H b ys G) : Does P I.w_eqRecS [.c a, .c b] H fun r H' => r = .val (.c (.bool (decide (xs = ys)))) ∧ H' = H := by
  refine K.does K.w_eqRecS rfl fun Q hQ => ?_
  by_cases hl : (xs.length : Int) = ys.length
  · simp only [go_sem, L_w_eqRecS, Nat.reduceEqDiff, Nat.reduceAdd, Nat.reduceLeDiff, reduceCtorEq, ha.len, hb.len, hl]
    refine RU_loop (fun m s => ∃ i : Nat, m = xs.length - i ∧ i ≤ xs.length ∧ s.H = H ∧ s.env 0 = .val (.c a) ∧ s.env 1 = .val (.c b) ∧ s.env 5 = .val (.c (.int .i64 i)) ∧ xs.take i = ys.take i) xs.length ⟨0, by simp, by simp, rfl, rfl, rfl, rfl, rfl⟩ ?_
    rintro m s ⟨i, rfl, hi, hH, h0, h1, h5, ht⟩ Q' hN hE hR
    by_cases hlt : (i : Int) < xs.length
    · obtain ⟨x, hx⟩ := get_lt hlt
      obtain ⟨y, hy⟩ : ∃ y, ys[i]? = some y := get_lt (by omega)
      have hlt' : (i : Int) < ys.length := by omega
      have htop := ha.top
      obtain ⟨b1, o1, bs1, cs1, f1, rfl, e1, e2, k1, _⟩ := ha.get hx
      obtain ⟨b2, o2, bs2, cs2, f2, rfl, g1, g2, k2, _⟩ := hb.get hy
      simp only [go_sem, Nat.reduceEqDiff, Nat.reduceAdd, Nat.reduceLeDiff, reduceCtorEq, h0, h1, h5, hlt, hlt', hH, e1, e2, g1, g2, lenC, wrap_succ (show i ≤ lenTop by omega)]
      refine Does.call (does_w_eqRec K (by simpa [hH] using k1) (by simpa [hH] using k2)) ?_
      rintro _ _ ⟨rfl, rfl⟩
      by_cases hxy : x = y
      · simp only [go_sem, Nat.reduceEqDiff, Nat.reduceAdd, Nat.reduceLeDiff, reduceCtorEq, h0, h1, h5, hlt, hlt', hH, e1, e2, g1, g2, lenC, wrap_succ (show i ≤ lenTop by omega), hxy]
        refine hN _ _ (by omega) ⟨i + 1, rfl, by omega, by simp [hH], ?_, ?_, ?_, ?_⟩
        · simp [upd, h0]
        · simp [upd, h1]
        · simp [upd]
        · rw [take_snoc hx, take_snoc hy, ht, hxy]
      · simp only [go_sem, Nat.reduceEqDiff, Nat.reduceAdd, Nat.reduceLeDiff, reduceCtorEq, h0, h1, h5, hlt, hlt', hH, e1, e2, g1, g2, lenC, wrap_succ (show i ≤ lenTop by omega), hxy]
        refine hR _ (hQ _ _ (Ends.ret rfl ?_))
        have : xs ≠ ys := fun e => by subst e; rw [hx] at hy; simp at hy; exact hxy hy
        simp [tupOf, this, hH]
    · simp only [go_sem, Nat.reduceEqDiff, Nat.reduceAdd, Nat.reduceLeDiff, reduceCtorEq, h0, h5, hlt, hH, ha.len]
      refine hE _ _ ?_
      simp only [go_sem, Nat.reduceEqDiff, Nat.reduceAdd, Nat.reduceLeDiff, reduceCtorEq]
      refine hQ _ _ (Ends.ret rfl ?_)
      have : xs = ys := by
        rw [List.take_of_length_le (by omega), List.take_of_length_le (by omega)] at ht; exact ht
      simp [tupOf, this]
  · simp only [go_sem, L_w_eqRecS, Nat.reduceEqDiff, Nat.reduceAdd, Nat.reduceLeDiff, reduceCtorEq, ha.len, hb.len, hl]
    refine hQ _ _ (Ends.ret rfl ?_)
    have : xs ≠ ys := fun e => hl (by rw [e])
    simp [tupOf, this]

theorem does_w_eqLog (K : Codes P I) {H : Heap} {a b : List C} {x y : Log} {F G : List Nat} (ha : RLog H a x F) (hb : RLog H b y G) : Does P I.w_eqLog [.agg a, .agg b] H fun r H' => r = .val (.c (.bool (decide (x = y)))) ∧ H' = H := by
  obtain ⟨c, rfl, ha⟩ := ha
  obtain ⟨d, rfl, hb⟩ := hb
  refine K.does K.w_eqLog rfl fun Q hQ => ?_
  simp only [go_sem, L_w_eqLog, Nat.reduceEqDiff, Nat.reduceAdd, Nat.reduceLeDiff, reduceCtorEq]
  refine Does.call (does_w_eqRecS K ha hb) ?_
  rintro _ _ ⟨rfl, rfl⟩
  by_cases h0 : x.recs = y.recs
  · by_cases h1 : x.forced = y.forced
    · simp only [go_sem, Nat.reduceEqDiff, Nat.reduceAdd, Nat.reduceLeDiff, reduceCtorEq, h0, h1]
      refine hQ _ _ (Ends.ret rfl ⟨?_, rfl⟩)
      simp [tupOf, Log.ext_iff, h0, h1]
    · simp only [go_sem, Nat.reduceEqDiff, Nat.reduceAdd, Nat.reduceLeDiff, reduceCtorEq, h0, h1]
      refine hQ _ _ (Ends.ret rfl ⟨?_, rfl⟩)
      simp [tupOf, Log.ext_iff, h0, h1]
  · simp only [go_sem, Nat.reduceEqDiff, Nat.reduceAdd, Nat.reduceLeDiff, reduceCtorEq, h0]
    refine hQ _ _ (Ends.ret rfl ⟨?_, rfl⟩)
    simp [tupOf, Log.ext_iff, h0]

theorem does_w_eqWord (K : Codes P I) {H : Heap} {a b : List C} {x y : Word} {F G : List Nat} (ha : RWord H a x F) (hb : RWord H b y G) : Does P I.w_eqWord [.agg a, .agg b] H fun r H' => r = .val (.c (.bool (decide (x = y)))) ∧ H' = H := by
  obtain ⟨rfl, _⟩ := ha
  obtain ⟨rfl, _⟩ := hb
  refine K.does K.w_eqWord rfl fun Q hQ => ?_
  by_cases h0 : x.kind = y.kind
  · by_cases h1 : x.house = y.house
    · by_cases h2 : x.trip = y.trip
      · by_cases h3 : x.many = y.many
        · simp only [go_sem, L_w_eqWord, Nat.reduceEqDiff, Nat.reduceAdd, Nat.reduceLeDiff, reduceCtorEq, h0, h1, h2, h3]
          refine hQ _ _ (Ends.ret rfl ⟨?_, rfl⟩)
          simp [tupOf, Word.ext_iff, h0, h1, h2, h3]
        · simp only [go_sem, L_w_eqWord, Nat.reduceEqDiff, Nat.reduceAdd, Nat.reduceLeDiff, reduceCtorEq, h0, h1, h2, h3]
          refine hQ _ _ (Ends.ret rfl ⟨?_, rfl⟩)
          simp [tupOf, Word.ext_iff, h0, h1, h2, h3]
      · simp only [go_sem, L_w_eqWord, Nat.reduceEqDiff, Nat.reduceAdd, Nat.reduceLeDiff, reduceCtorEq, h0, h1, h2]
        refine hQ _ _ (Ends.ret rfl ⟨?_, rfl⟩)
        simp [tupOf, Word.ext_iff, h0, h1, h2]
    · simp only [go_sem, L_w_eqWord, Nat.reduceEqDiff, Nat.reduceAdd, Nat.reduceLeDiff, reduceCtorEq, h0, h1]
      refine hQ _ _ (Ends.ret rfl ⟨?_, rfl⟩)
      simp [tupOf, Word.ext_iff, h0, h1]
  · simp only [go_sem, L_w_eqWord, Nat.reduceEqDiff, Nat.reduceAdd, Nat.reduceLeDiff, reduceCtorEq, h0]
    refine hQ _ _ (Ends.ret rfl ⟨?_, rfl⟩)
    simp [tupOf, Word.ext_iff, h0]

theorem does_w_eqWordS (K : Codes P I) {H : Heap} {a b : C} {xs ys : List Word} {F G : List Nat} (ha : Words H a xs F) (hb : Words H b ys G) : Does P I.w_eqWordS [.c a, .c b] H fun r H' => r = .val (.c (.bool (decide (xs = ys)))) ∧ H' = H := by
  refine K.does K.w_eqWordS rfl fun Q hQ => ?_
  by_cases hl : (xs.length : Int) = ys.length
  · simp only [go_sem, L_w_eqWordS, Nat.reduceEqDiff, Nat.reduceAdd, Nat.reduceLeDiff, reduceCtorEq, ha.len, hb.len, hl]
    refine RU_loop (fun m s => ∃ i : Nat, m = xs.length - i ∧ i ≤ xs.length ∧ s.H = H ∧ s.env 0 = .val (.c a) ∧ s.env 1 = .val (.c b) ∧ s.env 5 = .val (.c (.int .i64 i)) ∧ xs.take i = ys.take i) xs.length ⟨0, by simp, by simp, rfl, rfl, rfl, rfl, rfl⟩ ?_
    rintro m s ⟨i, rfl, hi, hH, h0, h1, h5, ht⟩ Q' hN hE hR
    by_cases hlt : (i : Int) < xs.length
    · obtain ⟨x, hx⟩ := get_lt hlt
      obtain ⟨y, hy⟩ : ∃ y, ys[i]? = some y := get_lt (by omega)
      have hlt' : (i : Int) < ys.length := by omega
      have htop := ha.top
      obtain ⟨b1, o1, bs1, cs1, f1, rfl, e1, e2, k1, _⟩ := ha.get hx
      obtain ⟨b2, o2, bs2, cs2, f2, rfl, g1, g2, k2, _⟩ := hb.get hy
      simp only [go_sem, Nat.reduceEqDiff, Nat.reduceAdd, Nat.reduceLeDiff, reduceCtorEq, h0, h1, h5, hlt, hlt', hH, e1, e2, g1, g2, lenC, wrap_succ (show i ≤ lenTop by omega)]
      refine Does.call (does_w_eqWord K (by simpa [hH] using k1) (by simpa [hH] using k2)) ?_
      rintro _ _ ⟨rfl, rfl⟩
      by_cases hxy : x = y
      · simp only [go_sem, Nat.reduceEqDiff, Nat.reduceAdd, Nat.reduceLeDiff, reduceCtorEq, h0, h1, h5, hlt, hlt', hH, e1, e2, g1, g2, lenC, wrap_succ (show i ≤ lenTop by omega), hxy]
        refine hN _ _ (by omega) ⟨i + 1, rfl, by omega, by simp [hH], ?_, ?_, ?_, ?_⟩
        · simp [upd, h0]
        · simp [upd, h1]
        · simp [upd]
        · rw [take_snoc hx, take_snoc hy, ht, hxy]
      · simp only [go_sem, Nat.reduceEqDiff, Nat.reduceAdd, Nat.reduceLeDiff, reduceCtorEq, h0, h1, h5, hlt, hlt', hH, e1, e2, g1, g2, lenC, wrap_succ (show i ≤ lenTop by omega), hxy]
        refine hR _ (hQ _ _ (Ends.ret rfl ?_))
        have : xs ≠ ys := fun e => by subst e; rw [hx] at hy; simp at hy; exact hxy hy
        simp [tupOf, this, hH]
    · simp only [go_sem, Nat.reduceEqDiff, Nat.reduceAdd, Nat.reduceLeDiff, reduceCtorEq, h0, h5, hlt, hH, ha.len]
      refine hE _ _ ?_
      simp only [go_sem, Nat.reduceEqDiff, Nat.reduceAdd, Nat.reduceLeDiff, reduceCtorEq]
      refine hQ _ _ (Ends.ret rfl ?_)
      have : xs = ys := by
        rw [List.take_of_length_le (by omega), List.take_of_length_le (by omega)] at ht; exact ht
      simp [tupOf, this]
  · simp only [go_sem, L_w_eqWordS, Nat.reduceEqDiff, Nat.reduceAdd, Nat.reduceLeDiff, reduceCtorEq, ha.len, hb.len, hl]
    refine hQ _ _ (Ends.ret rfl ?_)
    have : xs ≠ ys := fun e => hl (by rw [e])
    simp [tupOf, this]

theorem does_w_eqDesk (K : Codes P I) {H : Heap} {a b : List C} {x y : Desk} {F G : List Nat} (ha : RDesk H a x F) (hb : RDesk H b y G) : Does P I.w_eqDesk [.agg a, .agg b] H fun r H' => r = .val (.c (.bool (decide (x = y)))) ∧ H' = H := by
  obtain ⟨c, d, F1, F2, rfl, _, ha, ha'⟩ := ha
  obtain ⟨c', d', G1, G2, rfl, _, hb, hb'⟩ := hb
  refine K.does K.w_eqDesk rfl fun Q hQ => ?_
  by_cases h0 : x.up = y.up
  · simp only [go_sem, L_w_eqDesk, Nat.reduceEqDiff, Nat.reduceAdd, Nat.reduceLeDiff, reduceCtorEq, h0]
    refine Does.call (does_w_eqLog K ⟨c, rfl, ha⟩ ⟨_, rfl, hb⟩) ?_
    rintro _ _ ⟨rfl, rfl⟩
    by_cases h1 : x.log = y.log
    · simp only [go_sem, Nat.reduceEqDiff, Nat.reduceAdd, Nat.reduceLeDiff, reduceCtorEq, h0, h1]
      refine Does.call (does_w_eqWordS K ha' hb') ?_
      rintro _ _ ⟨rfl, rfl⟩
      by_cases h2 : x.told = y.told
      · simp only [go_sem, Nat.reduceEqDiff, Nat.reduceAdd, Nat.reduceLeDiff, reduceCtorEq, h0, h1, h2]
        refine hQ _ _ (Ends.ret rfl ⟨?_, rfl⟩)
        simp [tupOf, Desk.ext_iff, h0, h1, h2]
      · simp only [go_sem, Nat.reduceEqDiff, Nat.reduceAdd, Nat.reduceLeDiff, reduceCtorEq, h0, h1, h2]
        refine hQ _ _ (Ends.ret rfl ⟨?_, rfl⟩)
        simp [tupOf, Desk.ext_iff, h0, h1, h2]
    · simp only [go_sem, Nat.reduceEqDiff, Nat.reduceAdd, Nat.reduceLeDiff, reduceCtorEq, h0, h1]
      refine hQ _ _ (Ends.ret rfl ⟨?_, rfl⟩)
      simp [tupOf, Desk.ext_iff, h0, h1]
  · simp only [go_sem, L_w_eqDesk, Nat.reduceEqDiff, Nat.reduceAdd, Nat.reduceLeDiff, reduceCtorEq, h0]
    refine hQ _ _ (Ends.ret rfl ⟨?_, rfl⟩)
    simp [tupOf, Desk.ext_iff, h0]

end Go.AX
