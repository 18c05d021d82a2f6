/- What the law needs of the program: the contracts of its functions, each with its condition at its theorem. -/
import Derived.Test.YtncphlcbbffecaaGreatLExactWorldHoldsM0
set_option linter.unusedVariables false
set_option linter.unusedSimpArgs false
/- What the laws' sizes and copies of arguments return. Condition: the arguments lie in memory, and are no greater than 2^20 in all where they are copied. -/
namespace Go.AX
variable {P : Program} {I : Ids}
theorem RWord.cells {H : Heap} {cs : List C} {x : Word} {F : List Nat} (h : RWord H cs x F) : cs.length = 4 := by rw [h.1]; rfl
theorem szV_neg {left : Int} {w : Nat} (h : left < w) : szV left w = -1 := if_pos h
theorem szV_pos {left : Int} {w : Nat} (h : ¬ left < w) : szV left w = left - w := if_neg h
/-- Behind a slice that was made. -/
theorem RUs_mks {α : Type} {n : Nat} {R : RepS α} {hw : Bool} {l : Nat} {z : List C} {x0 : α} {E : Nat → AV} {d : Nat} {A : Nat → Option (Nat × Nat)} {U : Nat → Bool} {H : Heap} {Z : Zs} {os : List AO} {k : List Fr} {Q : AExit → S → Prop}
    (hz : z.length = n) (hR : ∀ H, R H z x0 []) (hl : l ≤ lenTop)
    (h : ∀ c H1 F, SlR n R H1 c (List.replicate l x0) F → Step [] H H1 F → RUh P hw { env := upd E d (.val (.c c)), adr := A, used := U, H := H1 } Z os k Q) :
    RUs P hw (if (l : Int) = 0 then some { env := upd E d (.val (.c (.emp true))), adr := A, used := U, H := H } else some { env := upd E d (.val (.c (.sl H.length 0 l))), adr := A, used := U, H := H ++ [⟨.rw, n, rep l z⟩] }) Z os k Q := by
  by_cases c : (l : Int) = 0
  · rw [if_pos c]
    refine ⟨_, rfl, h (.emp true) H [] ?_ (Step.refl H)⟩
    obtain rfl : l = 0 := by omega
    exact .emp
  · rw [if_neg c]
    exact ⟨_, rfl, h _ _ _ (sl_make hz hR hl) step_new⟩

theorem does_w_szIntS (K : Codes P I) {H : Heap} {a : C} {xs : List Int} {F : List Nat} {left : Int} (ha : Ints H a xs F) (h0 : 0 ≤ left) (hl : left ≤ 1048576) : Does P I.w_szIntS [.c a, int left] H fun r H' => r = .val (int (szV left xs.length)) ∧ H' = H := by
  refine K.does K.w_szIntS rfl fun Q hQ => ?_
  have htop := ha.top
  have hw : IntKind.wrap .i64 (left - (xs.length : Int)) = left - xs.length := wrap_i64 (by unfold lenTop at htop; omega) (by omega)
  by_cases h : left < xs.length
  · have hn : left - (xs.length : Int) < 0 := by omega
    simp only [go_sem, Nat.reduceEqDiff, Nat.reduceAdd, Nat.reduceMul, Nat.reduceLeDiff, Int.reduceEq, Int.reduceLT, Int.reduceLE, Int.reduceAdd, Int.reduceSub, Int.reduceNeg, Int.reduceMul, Int.reduceToNat, Int.cast_ofNat_Int, Int.natCast_zero, Nat.add_zero, reduceCtorEq, L_w_szIntS, ha.len, hw, hn]
    exact hQ _ _ (Ends.ret rfl ⟨by simp [tupOf, szV_neg h], rfl⟩)
  · have hn : ¬ left - (xs.length : Int) < 0 := by omega
    simp only [go_sem, Nat.reduceEqDiff, Nat.reduceAdd, Nat.reduceMul, Nat.reduceLeDiff, Int.reduceEq, Int.reduceLT, Int.reduceLE, Int.reduceAdd, Int.reduceSub, Int.reduceNeg, Int.reduceMul, Int.reduceToNat, Int.cast_ofNat_Int, Int.natCast_zero, Nat.add_zero, reduceCtorEq, L_w_szIntS, ha.len, hw, hn]
    exact hQ _ _ (Ends.ret rfl ⟨by simp [tupOf, szV_pos h], rfl⟩)
theorem does_w_szWordS (K : Codes P I) {H : Heap} {a : C} {xs : List Word} {F : List Nat} {left : Int} (ha : Words H a xs F) (h0 : 0 ≤ left) (hl : left ≤ 1048576) : Does P I.w_szWordS [.c a, int left] H fun r H' => r = .val (int (szV left xs.length)) ∧ H' = H := by
  refine K.does K.w_szWordS rfl fun Q hQ => ?_
  have htop := ha.top
  have hw : IntKind.wrap .i64 (left - (xs.length : Int)) = left - xs.length := wrap_i64 (by unfold lenTop at htop; omega) (by omega)
  by_cases h : left < xs.length
  · have hn : left - (xs.length : Int) < 0 := by omega
    simp only [go_sem, Nat.reduceEqDiff, Nat.reduceAdd, Nat.reduceMul, Nat.reduceLeDiff, Int.reduceEq, Int.reduceLT, Int.reduceLE, Int.reduceAdd, Int.reduceSub, Int.reduceNeg, Int.reduceMul, Int.reduceToNat, Int.cast_ofNat_Int, Int.natCast_zero, Nat.add_zero, reduceCtorEq, L_w_szWordS, ha.len, hw, hn]
    exact hQ _ _ (Ends.ret rfl ⟨by simp [tupOf, szV_neg h], rfl⟩)
  · have hn : ¬ left - (xs.length : Int) < 0 := by omega
    simp only [go_sem, Nat.reduceEqDiff, Nat.reduceAdd, Nat.reduceMul, Nat.reduceLeDiff, Int.reduceEq, Int.reduceLT, Int.reduceLE, Int.reduceAdd, Int.reduceSub, Int.reduceNeg, Int.reduceMul, Int.reduceToNat, Int.cast_ofNat_Int, Int.natCast_zero, Nat.add_zero, reduceCtorEq, L_w_szWordS, ha.len, hw, hn]
    exact hQ _ _ (Ends.ret rfl ⟨by simp [tupOf, szV_pos h], rfl⟩)
theorem does_w_szRec (K : Codes P I) {H : Heap} {a : List C} {x : Rec} {F : List Nat} {left : Int} (ha : RRec H a x F) (h0 : 0 ≤ left) (hl : left ≤ 1048576) : Does P I.w_szRec [.agg a, int left] H fun r H' => r = .val (int (szV left (wRec x))) ∧ H' = H := by
  obtain ⟨c, rfl, hc⟩ := ha
  refine K.does K.w_szRec rfl fun Q hQ => ?_
  simp only [go_sem, Nat.reduceEqDiff, Nat.reduceAdd, Nat.reduceMul, Nat.reduceLeDiff, Int.reduceEq, Int.reduceLT, Int.reduceLE, Int.reduceAdd, Int.reduceSub, Int.reduceNeg, Int.reduceMul, Int.reduceToNat, Int.cast_ofNat_Int, Int.natCast_zero, Nat.add_zero, reduceCtorEq, L_w_szRec]
  refine Does.call (does_w_szIntS K hc h0 hl) ?_
  rintro _ _ ⟨rfl, rfl⟩
  by_cases g0 : left < (x.many.length : Nat)
  · have e0 : szV left (x.many.length) = -1 := szV_neg g0
    simp only [go_sem, Nat.reduceEqDiff, Nat.reduceAdd, Nat.reduceMul, Nat.reduceLeDiff, Int.reduceEq, Int.reduceLT, Int.reduceLE, Int.reduceAdd, Int.reduceSub, Int.reduceNeg, Int.reduceMul, Int.reduceToNat, Int.cast_ofNat_Int, Int.natCast_zero, Nat.add_zero, reduceCtorEq, e0]
    exact hQ _ _ (Ends.ret rfl ⟨by rw [szV_neg (show left < (wRec x : Nat) by unfold wRec; omega)]; rfl, rfl⟩)
  have e0 : szV left (x.many.length) = left - (x.many.length : Nat) := szV_pos g0
  have n0 : ¬ left - ((x.many.length : Nat) : Int) < 0 := by omega
  simp only [go_sem, Nat.reduceEqDiff, Nat.reduceAdd, Nat.reduceMul, Nat.reduceLeDiff, Int.reduceEq, Int.reduceLT, Int.reduceLE, Int.reduceAdd, Int.reduceSub, Int.reduceNeg, Int.reduceMul, Int.reduceToNat, Int.cast_ofNat_Int, Int.natCast_zero, Nat.add_zero, reduceCtorEq, e0, n0]
  exact hQ _ _ (Ends.ret rfl ⟨by rw [szV_pos (show ¬ left < (wRec x : Nat) by unfold wRec; omega)]; simp [tupOf, wRec]; try omega, rfl⟩)
theorem does_w_szRecS (K : Codes P I) {H : Heap} {a : C} {xs : List Rec} {F : List Nat} {left : Int} (ha : Recs H a xs F) (h0 : 0 ≤ left) (hl : left ≤ 1048576) : Does P I.w_szRecS [.c a, int left] H fun r H' => r = .val (int (szV left (wRecs xs))) ∧ H' = H := by
  refine K.does K.w_szRecS rfl fun Q hQ => ?_
  have htop := ha.top
  have hw : IntKind.wrap .i64 (left - (xs.length : Int)) = left - xs.length := wrap_i64 (by unfold lenTop at htop; omega) (by omega)
  have hsum : wRecs xs = xs.length + sumL wRec xs := rfl
  by_cases h : left < xs.length
  · have hn : left - (xs.length : Int) < 0 := by omega
    simp only [go_sem, Nat.reduceEqDiff, Nat.reduceAdd, Nat.reduceMul, Nat.reduceLeDiff, Int.reduceEq, Int.reduceLT, Int.reduceLE, Int.reduceAdd, Int.reduceSub, Int.reduceNeg, Int.reduceMul, Int.reduceToNat, Int.cast_ofNat_Int, Int.natCast_zero, Nat.add_zero, reduceCtorEq, L_w_szRecS, ha.len, hw, hn]
    exact hQ _ _ (Ends.ret rfl ⟨by rw [szV_neg (show left < (wRecs xs : Nat) by omega)]; rfl, rfl⟩)
  have hn : ¬ left - (xs.length : Int) < 0 := by omega
  simp only [go_sem, Nat.reduceEqDiff, Nat.reduceAdd, Nat.reduceMul, Nat.reduceLeDiff, Int.reduceEq, Int.reduceLT, Int.reduceLE, Int.reduceAdd, Int.reduceSub, Int.reduceNeg, Int.reduceMul, Int.reduceToNat, Int.cast_ofNat_Int, Int.natCast_zero, Nat.add_zero, reduceCtorEq, L_w_szRecS, ha.len, hw, hn]
  refine RU_loop (fun m s => ∃ i : Nat, m = xs.length - i ∧ i ≤ xs.length ∧ s.H = H ∧ s.env 0 = .val (.c a) ∧ s.env 1 = .val (int (left - xs.length - (sumL wRec (xs.take i) : Nat))) ∧ s.env 5 = .val (int i) ∧ 0 ≤ left - xs.length - (sumL wRec (xs.take i) : Nat)) xs.length ⟨0, by simp, by simp, rfl, rfl, by simp [upd, sumL], rfl, by simp [sumL]; omega⟩ ?_
  rintro m s ⟨i, rfl, hi, hH, g0, g1, g5, hp⟩ Q' hN hE hR
  have hle := sumL_le (cnt := wRec) (xs := xs) i
  by_cases hlt : (i : Int) < xs.length
  · obtain ⟨x, hx⟩ := get_lt hlt
    obtain ⟨b1, o1, bs1, cs1, f1, rfl, e1, e2, hr, hcl, _⟩ := ha.get hx
    have hsx := sumL_take (cnt := wRec) hx
    have hle2 := sumL_le (cnt := wRec) (xs := xs) (i + 1)
    simp only [go_sem, Nat.reduceEqDiff, Nat.reduceAdd, Nat.reduceMul, Nat.reduceLeDiff, Int.reduceEq, Int.reduceLT, Int.reduceLE, Int.reduceAdd, Int.reduceSub, Int.reduceNeg, Int.reduceMul, Int.reduceToNat, Int.cast_ofNat_Int, Int.natCast_zero, Nat.add_zero, reduceCtorEq, g0, g1, g5, hlt, hH, e1, e2]
    refine Does.call (does_w_szRec K (by simpa [hH] using hr) hp (by omega)) ?_
    rintro _ _ ⟨rfl, rfl⟩
    by_cases g : left - xs.length - (sumL wRec (xs.take i) : Nat) < (wRec x : Nat)
    · have e : szV (left - xs.length - (sumL wRec (xs.take i) : Nat)) (wRec x) = -1 := szV_neg g
      simp only [go_sem, Nat.reduceEqDiff, Nat.reduceAdd, Nat.reduceMul, Nat.reduceLeDiff, Int.reduceEq, Int.reduceLT, Int.reduceLE, Int.reduceAdd, Int.reduceSub, Int.reduceNeg, Int.reduceMul, Int.reduceToNat, Int.cast_ofNat_Int, Int.natCast_zero, Nat.add_zero, reduceCtorEq, e]
      exact hR _ (hQ _ _ (Ends.ret rfl ⟨by rw [szV_neg (show left < (wRecs xs : Nat) by omega)]; rfl, by simp [hH]⟩))
    · have e : szV (left - xs.length - (sumL wRec (xs.take i) : Nat)) (wRec x) = left - xs.length - (sumL wRec (xs.take i) : Nat) - (wRec x : Nat) := szV_pos g
      have n : ¬ left - xs.length - (sumL wRec (xs.take i) : Nat) - ((wRec x : Nat) : Int) < 0 := by omega
      simp only [go_sem, Nat.reduceEqDiff, Nat.reduceAdd, Nat.reduceMul, Nat.reduceLeDiff, Int.reduceEq, Int.reduceLT, Int.reduceLE, Int.reduceAdd, Int.reduceSub, Int.reduceNeg, Int.reduceMul, Int.reduceToNat, Int.cast_ofNat_Int, Int.natCast_zero, Nat.add_zero, reduceCtorEq, e, n, g0, g5, wrap_succ (show i ≤ lenTop by omega)]
      exact hN _ _ (by omega) ⟨i + 1, rfl, by omega, by simp [hH], by simp [upd, g0], by simp [upd, hsx]; omega, by simp [upd], by omega⟩
  · obtain rfl : i = xs.length := by omega
    simp only [go_sem, Nat.reduceEqDiff, Nat.reduceAdd, Nat.reduceMul, Nat.reduceLeDiff, Int.reduceEq, Int.reduceLT, Int.reduceLE, Int.reduceAdd, Int.reduceSub, Int.reduceNeg, Int.reduceMul, Int.reduceToNat, Int.cast_ofNat_Int, Int.natCast_zero, Nat.add_zero, reduceCtorEq, g0, g5, hlt, hH, ha.len]
    refine hE _ _ ?_
    rw [List.take_length] at g1 hp
    simp only [go_sem, Nat.reduceEqDiff, Nat.reduceAdd, Nat.reduceMul, Nat.reduceLeDiff, Int.reduceEq, Int.reduceLT, Int.reduceLE, Int.reduceAdd, Int.reduceSub, Int.reduceNeg, Int.reduceMul, Int.reduceToNat, Int.cast_ofNat_Int, Int.natCast_zero, Nat.add_zero, reduceCtorEq, g1]
    refine hQ _ _ (Ends.ret rfl ⟨?_, rfl⟩)
    rw [szV_pos (show ¬ left < (wRecs xs : Nat) by omega)]
    simp [tupOf, hsum]; omega
theorem does_w_szLog (K : Codes P I) {H : Heap} {a : List C} {x : Log} {F : List Nat} {left : Int} (ha : RLog H a x F) (h0 : 0 ≤ left) (hl : left ≤ 1048576) : Does P I.w_szLog [.agg a, int left] H fun r H' => r = .val (int (szV left (wLog x))) ∧ H' = H := by
  obtain ⟨c, rfl, hc⟩ := ha
  refine K.does K.w_szLog rfl fun Q hQ => ?_
  simp only [go_sem, Nat.reduceEqDiff, Nat.reduceAdd, Nat.reduceMul, Nat.reduceLeDiff, Int.reduceEq, Int.reduceLT, Int.reduceLE, Int.reduceAdd, Int.reduceSub, Int.reduceNeg, Int.reduceMul, Int.reduceToNat, Int.cast_ofNat_Int, Int.natCast_zero, Nat.add_zero, reduceCtorEq, L_w_szLog]
  refine Does.call (does_w_szRecS K hc h0 hl) ?_
  rintro _ _ ⟨rfl, rfl⟩
  by_cases g0 : left < (wRecs x.recs : Nat)
  · have e0 : szV left (wRecs x.recs) = -1 := szV_neg g0
    simp only [go_sem, Nat.reduceEqDiff, Nat.reduceAdd, Nat.reduceMul, Nat.reduceLeDiff, Int.reduceEq, Int.reduceLT, Int.reduceLE, Int.reduceAdd, Int.reduceSub, Int.reduceNeg, Int.reduceMul, Int.reduceToNat, Int.cast_ofNat_Int, Int.natCast_zero, Nat.add_zero, reduceCtorEq, e0]
    exact hQ _ _ (Ends.ret rfl ⟨by rw [szV_neg (show left < (wLog x : Nat) by unfold wLog; omega)]; rfl, rfl⟩)
  have e0 : szV left (wRecs x.recs) = left - (wRecs x.recs : Nat) := szV_pos g0
  have n0 : ¬ left - ((wRecs x.recs : Nat) : Int) < 0 := by omega
  simp only [go_sem, Nat.reduceEqDiff, Nat.reduceAdd, Nat.reduceMul, Nat.reduceLeDiff, Int.reduceEq, Int.reduceLT, Int.reduceLE, Int.reduceAdd, Int.reduceSub, Int.reduceNeg, Int.reduceMul, Int.reduceToNat, Int.cast_ofNat_Int, Int.natCast_zero, Nat.add_zero, reduceCtorEq, e0, n0]
  exact hQ _ _ (Ends.ret rfl ⟨by rw [szV_pos (show ¬ left < (wLog x : Nat) by unfold wLog; omega)]; simp [tupOf, wLog]; try omega, rfl⟩)
theorem does_w_szHouse (K : Codes P I) {H : Heap} {a : List C} {x : House} {F : List Nat} {left : Int} (ha : RHouse H a x F) (h0 : 0 ≤ left) (hl : left ≤ 1048576) : Does P I.w_szHouse [.agg a, int left] H fun r H' => r = .val (int (szV left (wHouse x))) ∧ H' = H := by
  obtain ⟨c, rfl, hc⟩ := ha
  refine K.does K.w_szHouse rfl fun Q hQ => ?_
  simp only [go_sem, Nat.reduceEqDiff, Nat.reduceAdd, Nat.reduceMul, Nat.reduceLeDiff, Int.reduceEq, Int.reduceLT, Int.reduceLE, Int.reduceAdd, Int.reduceSub, Int.reduceNeg, Int.reduceMul, Int.reduceToNat, Int.cast_ofNat_Int, Int.natCast_zero, Nat.add_zero, reduceCtorEq, L_w_szHouse]
  refine Does.call (does_w_szLog K (show RLog H [c, .int .i64 x.log.forced] x.log F from ⟨c, rfl, hc⟩) h0 hl) ?_
  rintro _ _ ⟨rfl, rfl⟩
  by_cases g0 : left < (wLog x.log : Nat)
  · have e0 : szV left (wLog x.log) = -1 := szV_neg g0
    simp only [go_sem, Nat.reduceEqDiff, Nat.reduceAdd, Nat.reduceMul, Nat.reduceLeDiff, Int.reduceEq, Int.reduceLT, Int.reduceLE, Int.reduceAdd, Int.reduceSub, Int.reduceNeg, Int.reduceMul, Int.reduceToNat, Int.cast_ofNat_Int, Int.natCast_zero, Nat.add_zero, reduceCtorEq, e0]
    exact hQ _ _ (Ends.ret rfl ⟨by rw [szV_neg (show left < (wHouse x : Nat) by unfold wHouse; omega)]; rfl, rfl⟩)
  have e0 : szV left (wLog x.log) = left - (wLog x.log : Nat) := szV_pos g0
  have n0 : ¬ left - ((wLog x.log : Nat) : Int) < 0 := by omega
  simp only [go_sem, Nat.reduceEqDiff, Nat.reduceAdd, Nat.reduceMul, Nat.reduceLeDiff, Int.reduceEq, Int.reduceLT, Int.reduceLE, Int.reduceAdd, Int.reduceSub, Int.reduceNeg, Int.reduceMul, Int.reduceToNat, Int.cast_ofNat_Int, Int.natCast_zero, Nat.add_zero, reduceCtorEq, e0, n0]
  exact hQ _ _ (Ends.ret rfl ⟨by rw [szV_pos (show ¬ left < (wHouse x : Nat) by unfold wHouse; omega)]; simp [tupOf, wHouse]; try omega, rfl⟩)
theorem does_w_szHouseS (K : Codes P I) {H : Heap} {a : C} {xs : List House} {F : List Nat} {left : Int} (ha : Houses H a xs F) (h0 : 0 ≤ left) (hl : left ≤ 1048576) : Does P I.w_szHouseS [.c a, int left] H fun r H' => r = .val (int (szV left (wHouses xs))) ∧ H' = H := by
  refine K.does K.w_szHouseS rfl fun Q hQ => ?_
  have htop := ha.top
  have hw : IntKind.wrap .i64 (left - (xs.length : Int)) = left - xs.length := wrap_i64 (by unfold lenTop at htop; omega) (by omega)
  have hsum : wHouses xs = xs.length + sumL wHouse xs := rfl
  by_cases h : left < xs.length
  · have hn : left - (xs.length : Int) < 0 := by omega
    simp only [go_sem, Nat.reduceEqDiff, Nat.reduceAdd, Nat.reduceMul, Nat.reduceLeDiff, Int.reduceEq, Int.reduceLT, Int.reduceLE, Int.reduceAdd, Int.reduceSub, Int.reduceNeg, Int.reduceMul, Int.reduceToNat, Int.cast_ofNat_Int, Int.natCast_zero, Nat.add_zero, reduceCtorEq, L_w_szHouseS, ha.len, hw, hn]
    exact hQ _ _ (Ends.ret rfl ⟨by rw [szV_neg (show left < (wHouses xs : Nat) by omega)]; rfl, rfl⟩)
  have hn : ¬ left - (xs.length : Int) < 0 := by omega
  simp only [go_sem, Nat.reduceEqDiff, Nat.reduceAdd, Nat.reduceMul, Nat.reduceLeDiff, Int.reduceEq, Int.reduceLT, Int.reduceLE, Int.reduceAdd, Int.reduceSub, Int.reduceNeg, Int.reduceMul, Int.reduceToNat, Int.cast_ofNat_Int, Int.natCast_zero, Nat.add_zero, reduceCtorEq, L_w_szHouseS, ha.len, hw, hn]
  refine RU_loop (fun m s => ∃ i : Nat, m = xs.length - i ∧ i ≤ xs.length ∧ s.H = H ∧ s.env 0 = .val (.c a) ∧ s.env 1 = .val (int (left - xs.length - (sumL wHouse (xs.take i) : Nat))) ∧ s.env 5 = .val (int i) ∧ 0 ≤ left - xs.length - (sumL wHouse (xs.take i) : Nat)) xs.length ⟨0, by simp, by simp, rfl, rfl, by simp [upd, sumL], rfl, by simp [sumL]; omega⟩ ?_
  rintro m s ⟨i, rfl, hi, hH, g0, g1, g5, hp⟩ Q' hN hE hR
  have hle := sumL_le (cnt := wHouse) (xs := xs) i
  by_cases hlt : (i : Int) < xs.length
  · obtain ⟨x, hx⟩ := get_lt hlt
    obtain ⟨b1, o1, bs1, cs1, f1, rfl, e1, e2, hr, hcl, _⟩ := ha.get hx
    have hsx := sumL_take (cnt := wHouse) hx
    have hle2 := sumL_le (cnt := wHouse) (xs := xs) (i + 1)
    simp only [go_sem, Nat.reduceEqDiff, Nat.reduceAdd, Nat.reduceMul, Nat.reduceLeDiff, Int.reduceEq, Int.reduceLT, Int.reduceLE, Int.reduceAdd, Int.reduceSub, Int.reduceNeg, Int.reduceMul, Int.reduceToNat, Int.cast_ofNat_Int, Int.natCast_zero, Nat.add_zero, reduceCtorEq, g0, g1, g5, hlt, hH, e1, e2]
    refine Does.call (does_w_szHouse K (by simpa [hH] using hr) hp (by omega)) ?_
    rintro _ _ ⟨rfl, rfl⟩
    by_cases g : left - xs.length - (sumL wHouse (xs.take i) : Nat) < (wHouse x : Nat)
    · have e : szV (left - xs.length - (sumL wHouse (xs.take i) : Nat)) (wHouse x) = -1 := szV_neg g
      simp only [go_sem, Nat.reduceEqDiff, Nat.reduceAdd, Nat.reduceMul, Nat.reduceLeDiff, Int.reduceEq, Int.reduceLT, Int.reduceLE, Int.reduceAdd, Int.reduceSub, Int.reduceNeg, Int.reduceMul, Int.reduceToNat, Int.cast_ofNat_Int, Int.natCast_zero, Nat.add_zero, reduceCtorEq, e]
      exact hR _ (hQ _ _ (Ends.ret rfl ⟨by rw [szV_neg (show left < (wHouses xs : Nat) by omega)]; rfl, by simp [hH]⟩))
    · have e : szV (left - xs.length - (sumL wHouse (xs.take i) : Nat)) (wHouse x) = left - xs.length - (sumL wHouse (xs.take i) : Nat) - (wHouse x : Nat) := szV_pos g
      have n : ¬ left - xs.length - (sumL wHouse (xs.take i) : Nat) - ((wHouse x : Nat) : Int) < 0 := by omega
      simp only [go_sem, Nat.reduceEqDiff, Nat.reduceAdd, Nat.reduceMul, Nat.reduceLeDiff, Int.reduceEq, Int.reduceLT, Int.reduceLE, Int.reduceAdd, Int.reduceSub, Int.reduceNeg, Int.reduceMul, Int.reduceToNat, Int.cast_ofNat_Int, Int.natCast_zero, Nat.add_zero, reduceCtorEq, e, n, g0, g5, wrap_succ (show i ≤ lenTop by omega)]
      exact hN _ _ (by omega) ⟨i + 1, rfl, by omega, by simp [hH], by simp [upd, g0], by simp [upd, hsx]; omega, by simp [upd], by omega⟩
  · obtain rfl : i = xs.length := by omega
    simp only [go_sem, Nat.reduceEqDiff, Nat.reduceAdd, Nat.reduceMul, Nat.reduceLeDiff, Int.reduceEq, Int.reduceLT, Int.reduceLE, Int.reduceAdd, Int.reduceSub, Int.reduceNeg, Int.reduceMul, Int.reduceToNat, Int.cast_ofNat_Int, Int.natCast_zero, Nat.add_zero, reduceCtorEq, g0, g5, hlt, hH, ha.len]
    refine hE _ _ ?_
    rw [List.take_length] at g1 hp
    simp only [go_sem, Nat.reduceEqDiff, Nat.reduceAdd, Nat.reduceMul, Nat.reduceLeDiff, Int.reduceEq, Int.reduceLT, Int.reduceLE, Int.reduceAdd, Int.reduceSub, Int.reduceNeg, Int.reduceMul, Int.reduceToNat, Int.cast_ofNat_Int, Int.natCast_zero, Nat.add_zero, reduceCtorEq, g1]
    refine hQ _ _ (Ends.ret rfl ⟨?_, rfl⟩)
    rw [szV_pos (show ¬ left < (wHouses xs : Nat) by omega)]
    simp [tupOf, hsum]; omega
theorem does_w_szDesk (K : Codes P I) {H : Heap} {a : List C} {x : Desk} {F : List Nat} {left : Int} (ha : RDesk H a x F) (h0 : 0 ≤ left) (hl : left ≤ 1048576) : Does P I.w_szDesk [.agg a, int left] H fun r H' => r = .val (int (szV left (wDesk x))) ∧ H' = H := by
  obtain ⟨c, d, F1, F2, rfl, rfl, hc, hd⟩ := ha
  refine K.does K.w_szDesk rfl fun Q hQ => ?_
  simp only [go_sem, Nat.reduceEqDiff, Nat.reduceAdd, Nat.reduceMul, Nat.reduceLeDiff, Int.reduceEq, Int.reduceLT, Int.reduceLE, Int.reduceAdd, Int.reduceSub, Int.reduceNeg, Int.reduceMul, Int.reduceToNat, Int.cast_ofNat_Int, Int.natCast_zero, Nat.add_zero, reduceCtorEq, L_w_szDesk]
  refine Does.call (does_w_szLog K (show RLog H [c, .int .i64 x.log.forced] x.log F1 from ⟨c, rfl, hc⟩) h0 hl) ?_
  rintro _ _ ⟨rfl, rfl⟩
  by_cases g0 : left < (wLog x.log : Nat)
  · have e0 : szV left (wLog x.log) = -1 := szV_neg g0
    simp only [go_sem, Nat.reduceEqDiff, Nat.reduceAdd, Nat.reduceMul, Nat.reduceLeDiff, Int.reduceEq, Int.reduceLT, Int.reduceLE, Int.reduceAdd, Int.reduceSub, Int.reduceNeg, Int.reduceMul, Int.reduceToNat, Int.cast_ofNat_Int, Int.natCast_zero, Nat.add_zero, reduceCtorEq, e0]
    exact hQ _ _ (Ends.ret rfl ⟨by rw [szV_neg (show left < (wDesk x : Nat) by unfold wDesk; omega)]; rfl, rfl⟩)
  have e0 : szV left (wLog x.log) = left - (wLog x.log : Nat) := szV_pos g0
  have n0 : ¬ left - ((wLog x.log : Nat) : Int) < 0 := by omega
  simp only [go_sem, Nat.reduceEqDiff, Nat.reduceAdd, Nat.reduceMul, Nat.reduceLeDiff, Int.reduceEq, Int.reduceLT, Int.reduceLE, Int.reduceAdd, Int.reduceSub, Int.reduceNeg, Int.reduceMul, Int.reduceToNat, Int.cast_ofNat_Int, Int.natCast_zero, Nat.add_zero, reduceCtorEq, e0, n0]
  refine Does.call (does_w_szWordS K hd (by omega) (by omega)) ?_
  rintro _ _ ⟨rfl, rfl⟩
  by_cases g1 : (left - ((wLog x.log : Nat) : Int)) < (x.told.length : Nat)
  · have e1 : szV (left - ((wLog x.log : Nat) : Int)) (x.told.length) = -1 := szV_neg g1
    simp only [go_sem, Nat.reduceEqDiff, Nat.reduceAdd, Nat.reduceMul, Nat.reduceLeDiff, Int.reduceEq, Int.reduceLT, Int.reduceLE, Int.reduceAdd, Int.reduceSub, Int.reduceNeg, Int.reduceMul, Int.reduceToNat, Int.cast_ofNat_Int, Int.natCast_zero, Nat.add_zero, reduceCtorEq, e0, e1]
    exact hQ _ _ (Ends.ret rfl ⟨by rw [szV_neg (show left < (wDesk x : Nat) by unfold wDesk; omega)]; rfl, rfl⟩)
  have e1 : szV (left - ((wLog x.log : Nat) : Int)) (x.told.length) = (left - ((wLog x.log : Nat) : Int)) - (x.told.length : Nat) := szV_pos g1
  have n1 : ¬ (left - ((wLog x.log : Nat) : Int)) - ((x.told.length : Nat) : Int) < 0 := by omega
  simp only [go_sem, Nat.reduceEqDiff, Nat.reduceAdd, Nat.reduceMul, Nat.reduceLeDiff, Int.reduceEq, Int.reduceLT, Int.reduceLE, Int.reduceAdd, Int.reduceSub, Int.reduceNeg, Int.reduceMul, Int.reduceToNat, Int.cast_ofNat_Int, Int.natCast_zero, Nat.add_zero, reduceCtorEq, e0, n0, e1, n1]
  exact hQ _ _ (Ends.ret rfl ⟨by rw [szV_pos (show ¬ left < (wDesk x : Nat) by unfold wDesk; omega)]; simp [tupOf, wDesk]; try omega, rfl⟩)
theorem does_w_szWorld (K : Codes P I) {H : Heap} {a : List C} {x : Wld} {F : List Nat} {left : Int} (ha : RWld H a x F) (h0 : 0 ≤ left) (hl : left ≤ 1048576) : Does P I.w_szWorld [.agg a, int left] H fun r H' => r = .val (int (szV left (wWld x))) ∧ H' = H := by
  obtain ⟨ds, c, d, F1, F2, F3, rfl, rfl, h1, hc, hd⟩ := ha
  refine K.does K.w_szWorld rfl fun Q hQ => ?_
  obtain ⟨e0, e1, e2, e3, rfl⟩ := len4 h1.cells
  simp only [go_sem, Nat.reduceEqDiff, Nat.reduceAdd, Nat.reduceMul, Nat.reduceLeDiff, Int.reduceEq, Int.reduceLT, Int.reduceLE, Int.reduceAdd, Int.reduceSub, Int.reduceNeg, Int.reduceMul, Int.reduceToNat, Int.cast_ofNat_Int, Int.natCast_zero, Nat.add_zero, reduceCtorEq, L_w_szWorld]
  refine Does.call (does_w_szDesk K h1 h0 hl) ?_
  rintro _ _ ⟨rfl, rfl⟩
  by_cases g0 : left < (wDesk x.desk : Nat)
  · have e0 : szV left (wDesk x.desk) = -1 := szV_neg g0
    simp only [go_sem, Nat.reduceEqDiff, Nat.reduceAdd, Nat.reduceMul, Nat.reduceLeDiff, Int.reduceEq, Int.reduceLT, Int.reduceLE, Int.reduceAdd, Int.reduceSub, Int.reduceNeg, Int.reduceMul, Int.reduceToNat, Int.cast_ofNat_Int, Int.natCast_zero, Nat.add_zero, reduceCtorEq, e0]
    exact hQ _ _ (Ends.ret rfl ⟨by rw [szV_neg (show left < (wWld x : Nat) by unfold wWld; omega)]; rfl, rfl⟩)
  have e0 : szV left (wDesk x.desk) = left - (wDesk x.desk : Nat) := szV_pos g0
  have n0 : ¬ left - ((wDesk x.desk : Nat) : Int) < 0 := by omega
  simp only [go_sem, Nat.reduceEqDiff, Nat.reduceAdd, Nat.reduceMul, Nat.reduceLeDiff, Int.reduceEq, Int.reduceLT, Int.reduceLE, Int.reduceAdd, Int.reduceSub, Int.reduceNeg, Int.reduceMul, Int.reduceToNat, Int.cast_ofNat_Int, Int.natCast_zero, Nat.add_zero, reduceCtorEq, e0, n0]
  refine Does.call (does_w_szHouseS K hc (by omega) (by omega)) ?_
  rintro _ _ ⟨rfl, rfl⟩
  by_cases g1 : (left - ((wDesk x.desk : Nat) : Int)) < (wHouses x.houses : Nat)
  · have e1 : szV (left - ((wDesk x.desk : Nat) : Int)) (wHouses x.houses) = -1 := szV_neg g1
    simp only [go_sem, Nat.reduceEqDiff, Nat.reduceAdd, Nat.reduceMul, Nat.reduceLeDiff, Int.reduceEq, Int.reduceLT, Int.reduceLE, Int.reduceAdd, Int.reduceSub, Int.reduceNeg, Int.reduceMul, Int.reduceToNat, Int.cast_ofNat_Int, Int.natCast_zero, Nat.add_zero, reduceCtorEq, e0, e1]
    exact hQ _ _ (Ends.ret rfl ⟨by rw [szV_neg (show left < (wWld x : Nat) by unfold wWld; omega)]; rfl, rfl⟩)
  have e1 : szV (left - ((wDesk x.desk : Nat) : Int)) (wHouses x.houses) = (left - ((wDesk x.desk : Nat) : Int)) - (wHouses x.houses : Nat) := szV_pos g1
  have n1 : ¬ (left - ((wDesk x.desk : Nat) : Int)) - ((wHouses x.houses : Nat) : Int) < 0 := by omega
  simp only [go_sem, Nat.reduceEqDiff, Nat.reduceAdd, Nat.reduceMul, Nat.reduceLeDiff, Int.reduceEq, Int.reduceLT, Int.reduceLE, Int.reduceAdd, Int.reduceSub, Int.reduceNeg, Int.reduceMul, Int.reduceToNat, Int.cast_ofNat_Int, Int.natCast_zero, Nat.add_zero, reduceCtorEq, e0, n0, e1, n1]
  refine Does.call (does_w_szWordS K hd (by omega) (by omega)) ?_
  rintro _ _ ⟨rfl, rfl⟩
  by_cases g2 : ((left - ((wDesk x.desk : Nat) : Int)) - ((wHouses x.houses : Nat) : Int)) < (x.nets.length : Nat)
  · have e2 : szV ((left - ((wDesk x.desk : Nat) : Int)) - ((wHouses x.houses : Nat) : Int)) (x.nets.length) = -1 := szV_neg g2
    simp only [go_sem, Nat.reduceEqDiff, Nat.reduceAdd, Nat.reduceMul, Nat.reduceLeDiff, Int.reduceEq, Int.reduceLT, Int.reduceLE, Int.reduceAdd, Int.reduceSub, Int.reduceNeg, Int.reduceMul, Int.reduceToNat, Int.cast_ofNat_Int, Int.natCast_zero, Nat.add_zero, reduceCtorEq, e0, e1, e2]
    exact hQ _ _ (Ends.ret rfl ⟨by rw [szV_neg (show left < (wWld x : Nat) by unfold wWld; omega)]; rfl, rfl⟩)
  have e2 : szV ((left - ((wDesk x.desk : Nat) : Int)) - ((wHouses x.houses : Nat) : Int)) (x.nets.length) = ((left - ((wDesk x.desk : Nat) : Int)) - ((wHouses x.houses : Nat) : Int)) - (x.nets.length : Nat) := szV_pos g2
  have n2 : ¬ ((left - ((wDesk x.desk : Nat) : Int)) - ((wHouses x.houses : Nat) : Int)) - ((x.nets.length : Nat) : Int) < 0 := by omega
  simp only [go_sem, Nat.reduceEqDiff, Nat.reduceAdd, Nat.reduceMul, Nat.reduceLeDiff, Int.reduceEq, Int.reduceLT, Int.reduceLE, Int.reduceAdd, Int.reduceSub, Int.reduceNeg, Int.reduceMul, Int.reduceToNat, Int.cast_ofNat_Int, Int.natCast_zero, Nat.add_zero, reduceCtorEq, e0, n0, e1, n1, e2, n2]
  exact hQ _ _ (Ends.ret rfl ⟨by rw [szV_pos (show ¬ left < (wWld x : Nat) by unfold wWld; omega)]; simp [tupOf, wWld]; try omega, rfl⟩)
theorem does_w_toIntS (K : Codes P I) {H : Heap} {a : C} {xs : List Int} {F : List Nat} (ha : Ints H a xs F) (hm : xs.length ≤ 1048576) : Does P I.w_toIntS [.c a] H fun r H' => ∃ c F', r = .val (.c c) ∧ Step [] H H' F' ∧ Ints H' c xs F' := by
  refine K.does K.w_toIntS rfl fun Q hQ => ?_
  have hle : (xs.length : Int) ≤ ((lenMax : Nat) : Int) := by unfold lenMax; omega
  simp only [go_sem, Nat.reduceEqDiff, Nat.reduceAdd, Nat.reduceMul, Nat.reduceLeDiff, Int.reduceEq, Int.reduceLT, Int.reduceLE, Int.reduceAdd, Int.reduceSub, Int.reduceNeg, Int.reduceMul, Int.reduceToNat, Int.cast_ofNat_Int, Int.natCast_zero, Nat.add_zero, reduceCtorEq, L_w_toIntS, ha.len, hle]
  refine RUs_mks (R := RInt) (x0 := (0 : Int)) rfl (fun _ => ⟨rfl, rfl⟩) (by unfold lenTop; omega) fun c0 H0 F0 hc0 s0 => ?_
  simp only [go_sem, Nat.reduceEqDiff, Nat.reduceAdd, Nat.reduceMul, Nat.reduceLeDiff, Int.reduceEq, Int.reduceLT, Int.reduceLE, Int.reduceAdd, Int.reduceSub, Int.reduceNeg, Int.reduceMul, Int.reduceToNat, Int.cast_ofNat_Int, Int.natCast_zero, Nat.add_zero, reduceCtorEq]
  refine RU_loop (fun m s => ∃ i : Nat, m = xs.length - i ∧ i ≤ xs.length ∧ s.env 0 = .val (.c a) ∧ s.env 4 = .val (int i) ∧ ∃ c F', s.env 3 = .val (.c c) ∧ Step [] H s.H F' ∧ Ints s.H c (fillTo xs (0 : Int) i) F') xs.length ⟨0, by simp, by simp, rfl, rfl, c0, F0, rfl, s0, by rw [fillTo_zero]; exact hc0⟩ ?_
  rintro m s ⟨i, rfl, hi, g0, g4, c, F', g3, hs, hr⟩ Q' hN hE hR
  have ha1 := hs.keepSl RInt.good ha fun b _ => by simp
  by_cases hlt : (i : Int) < xs.length
  · obtain ⟨x, hx⟩ := get_lt hlt
    obtain ⟨b1, o1, bs1, cs1, f1, rfl, e1, e2, hrx, hcl, _⟩ := ha1.get hx
    have hlt' : (i : Int) < ((fillTo xs (0 : Int) i).length : Int) := by rw [fillTo_len]; exact hlt
    obtain ⟨b2, o2, bs2, H2, F2, ec, eo, el, ew, hr2, s2⟩ := sl_fill RInt.good hr (fillTo_get (z := (0 : Int)) (by omega)) hrx hcl (by rw [hrx.2, List.append_nil]; exact hs.owned)
    obtain ⟨rfl, hf1⟩ := hrx
    subst ec
    simp only [go_sem, Nat.reduceEqDiff, Nat.reduceAdd, Nat.reduceMul, Nat.reduceLeDiff, Int.reduceEq, Int.reduceLT, Int.reduceLE, Int.reduceAdd, Int.reduceSub, Int.reduceNeg, Int.reduceMul, Int.reduceToNat, Int.cast_ofNat_Int, Int.natCast_zero, Nat.add_zero, reduceCtorEq, g0, g3, g4, hlt, hlt', e1, e2, eo, el, ew, wrap_succ (show i ≤ lenTop by unfold lenTop; omega)]
    exact hN _ _ (by omega) ⟨i + 1, rfl, by omega, by simp [upd, g0], by simp [upd], .sl b2 o2 (fillTo xs (0 : Int) i).length, F2, by simp [upd, g3], hs.trans (by rw [hf1, List.append_nil] at s2; exact s2), by rw [fillTo_set hx] at hr2; exact hr2⟩
  · simp only [go_sem, Nat.reduceEqDiff, Nat.reduceAdd, Nat.reduceMul, Nat.reduceLeDiff, Int.reduceEq, Int.reduceLT, Int.reduceLE, Int.reduceAdd, Int.reduceSub, Int.reduceNeg, Int.reduceMul, Int.reduceToNat, Int.cast_ofNat_Int, Int.natCast_zero, Nat.add_zero, reduceCtorEq, g0, g4, hlt, ha1.len]
    refine hE _ _ ?_
    rw [fillTo_all (by omega)] at hr
    simp only [go_sem, Nat.reduceEqDiff, Nat.reduceAdd, Nat.reduceMul, Nat.reduceLeDiff, Int.reduceEq, Int.reduceLT, Int.reduceLE, Int.reduceAdd, Int.reduceSub, Int.reduceNeg, Int.reduceMul, Int.reduceToNat, Int.cast_ofNat_Int, Int.natCast_zero, Nat.add_zero, reduceCtorEq, g3]
    exact hQ _ _ (Ends.ret rfl ⟨c, F', rfl, hs, hr⟩)
theorem does_w_toWord (K : Codes P I) {H : Heap} {a : List C} {x : Word} {F : List Nat} (ha : RWord H a x F) : Does P I.w_toWord [.agg a] H fun r H' => ∃ cs F', r = .val (.agg cs) ∧ Step [] H H' F' ∧ RWord H' cs x F' := by
  obtain ⟨rfl, rfl⟩ := ha
  refine K.does K.w_toWord rfl fun Q hQ => ?_
  simp only [go_sem, Nat.reduceEqDiff, Nat.reduceAdd, Nat.reduceMul, Nat.reduceLeDiff, Int.reduceEq, Int.reduceLT, Int.reduceLE, Int.reduceAdd, Int.reduceSub, Int.reduceNeg, Int.reduceMul, Int.reduceToNat, Int.cast_ofNat_Int, Int.natCast_zero, Nat.add_zero, reduceCtorEq, L_w_toWord]
  exact hQ _ _ (Ends.ret rfl ⟨_, [], rfl, Step.refl H, rfl, rfl⟩)
theorem does_w_toRec (K : Codes P I) {H : Heap} {a : List C} {x : Rec} {F : List Nat} (ha : RRec H a x F) (hm : wRec x ≤ 1048576) : Does P I.w_toRec [.agg a] H fun r H' => ∃ cs F', r = .val (.agg cs) ∧ Step [] H H' F' ∧ RRec H' cs x F' := by
  obtain ⟨c, rfl, hc⟩ := ha
  refine K.does K.w_toRec rfl fun Q hQ => ?_
  simp only [go_sem, Nat.reduceEqDiff, Nat.reduceAdd, Nat.reduceMul, Nat.reduceLeDiff, Int.reduceEq, Int.reduceLT, Int.reduceLE, Int.reduceAdd, Int.reduceSub, Int.reduceNeg, Int.reduceMul, Int.reduceToNat, Int.cast_ofNat_Int, Int.natCast_zero, Nat.add_zero, reduceCtorEq, L_w_toRec]
  refine Does.call (does_w_toIntS K hc hm) ?_
  rintro _ H1 ⟨c1, F1, rfl, s1, h1⟩
  simp only [go_sem, Nat.reduceEqDiff, Nat.reduceAdd, Nat.reduceMul, Nat.reduceLeDiff, Int.reduceEq, Int.reduceLT, Int.reduceLE, Int.reduceAdd, Int.reduceSub, Int.reduceNeg, Int.reduceMul, Int.reduceToNat, Int.cast_ofNat_Int, Int.natCast_zero, Nat.add_zero, reduceCtorEq]
  exact hQ _ _ (Ends.ret rfl ⟨_, F1, rfl, s1, c1, rfl, h1⟩)
theorem does_w_toRecS (K : Codes P I) {H : Heap} {a : C} {xs : List Rec} {F : List Nat} (ha : Recs H a xs F) (hm : wRecs xs ≤ 1048576) : Does P I.w_toRecS [.c a] H fun r H' => ∃ c F', r = .val (.c c) ∧ Step [] H H' F' ∧ Recs H' c xs F' := by
  refine K.does K.w_toRecS rfl fun Q hQ => ?_
  have hsum : wRecs xs = xs.length + sumL wRec xs := rfl
  have hle : (xs.length : Int) ≤ ((lenMax : Nat) : Int) := by unfold lenMax; omega
  simp only [go_sem, Nat.reduceEqDiff, Nat.reduceAdd, Nat.reduceMul, Nat.reduceLeDiff, Int.reduceEq, Int.reduceLT, Int.reduceLE, Int.reduceAdd, Int.reduceSub, Int.reduceNeg, Int.reduceMul, Int.reduceToNat, Int.cast_ofNat_Int, Int.natCast_zero, Nat.add_zero, reduceCtorEq, L_w_toRecS, ha.len, hle]
  refine RUs_mks (R := RRec) (x0 := (⟨0, 0, []⟩ : Rec)) rfl (fun _ => rrec_lit) (by unfold lenTop; omega) fun c0 H0 F0 hc0 s0 => ?_
  simp only [go_sem, Nat.reduceEqDiff, Nat.reduceAdd, Nat.reduceMul, Nat.reduceLeDiff, Int.reduceEq, Int.reduceLT, Int.reduceLE, Int.reduceAdd, Int.reduceSub, Int.reduceNeg, Int.reduceMul, Int.reduceToNat, Int.cast_ofNat_Int, Int.natCast_zero, Nat.add_zero, reduceCtorEq]
  refine RU_loop (fun m s => ∃ i : Nat, m = xs.length - i ∧ i ≤ xs.length ∧ s.env 0 = .val (.c a) ∧ s.env 4 = .val (int i) ∧ ∃ c F', s.env 3 = .val (.c c) ∧ Step [] H s.H F' ∧ Recs s.H c (fillTo xs (⟨0, 0, []⟩ : Rec) i) F') xs.length ⟨0, by simp, by simp, rfl, rfl, c0, F0, rfl, s0, by rw [fillTo_zero]; exact hc0⟩ ?_
  rintro m s ⟨i, rfl, hi, g0, g4, c, F', g3, hs, hr⟩ Q' hN hE hR
  have ha1 := hs.keepSl RRec.good ha fun b _ => by simp
  by_cases hlt : (i : Int) < xs.length
  · obtain ⟨x, hx⟩ := get_lt hlt
    obtain ⟨b1, o1, bs1, cs1, f1, rfl, e1, e2, hrx, hcl, _⟩ := ha1.get hx
    have hlt' : (i : Int) < ((fillTo xs (⟨0, 0, []⟩ : Rec) i).length : Int) := by rw [fillTo_len]; exact hlt
    obtain ⟨k0, k1, k2, rfl⟩ := len3 hcl
    simp only [go_sem, Nat.reduceEqDiff, Nat.reduceAdd, Nat.reduceMul, Nat.reduceLeDiff, Int.reduceEq, Int.reduceLT, Int.reduceLE, Int.reduceAdd, Int.reduceSub, Int.reduceNeg, Int.reduceMul, Int.reduceToNat, Int.cast_ofNat_Int, Int.natCast_zero, Nat.add_zero, reduceCtorEq, g0, g3, g4, hlt, e1, e2]
    have hmem := sumL_mem (f := wRec) (List.mem_of_getElem? hx)
    refine Does.call (does_w_toRec K hrx (by omega)) ?_
    rintro _ H1 ⟨cx, f, rfl, s1, hx1⟩
    have t1 := hs.with s1
    obtain ⟨b2, o2, bs2, H2, F2, ec, eo, el, ew, hr2, s2⟩ := sl_fill RRec.good (s1.keepSl RRec.good hr fun b _ => by simp) (fillTo_get (z := (⟨0, 0, []⟩ : Rec)) (by omega)) hx1 hx1.cells t1.owned
    obtain ⟨j0, j1, j2, rfl⟩ := len3 hx1.cells
    subst ec
    simp only [go_sem, Nat.reduceEqDiff, Nat.reduceAdd, Nat.reduceMul, Nat.reduceLeDiff, Int.reduceEq, Int.reduceLT, Int.reduceLE, Int.reduceAdd, Int.reduceSub, Int.reduceNeg, Int.reduceMul, Int.reduceToNat, Int.cast_ofNat_Int, Int.natCast_zero, Nat.add_zero, reduceCtorEq, g0, g3, g4, hlt, hlt', eo, el, ew, wrap_succ (show i ≤ lenTop by unfold lenTop; omega)]
    exact hN _ _ (by omega) ⟨i + 1, rfl, by omega, by simp [upd, g0], by simp [upd], .sl b2 o2 (fillTo xs (⟨0, 0, []⟩ : Rec) i).length, F2, by simp [upd, g3], t1.trans s2, by rw [fillTo_set hx] at hr2; exact hr2⟩
  · simp only [go_sem, Nat.reduceEqDiff, Nat.reduceAdd, Nat.reduceMul, Nat.reduceLeDiff, Int.reduceEq, Int.reduceLT, Int.reduceLE, Int.reduceAdd, Int.reduceSub, Int.reduceNeg, Int.reduceMul, Int.reduceToNat, Int.cast_ofNat_Int, Int.natCast_zero, Nat.add_zero, reduceCtorEq, g0, g4, hlt, ha1.len]
    refine hE _ _ ?_
    rw [fillTo_all (by omega)] at hr
    simp only [go_sem, Nat.reduceEqDiff, Nat.reduceAdd, Nat.reduceMul, Nat.reduceLeDiff, Int.reduceEq, Int.reduceLT, Int.reduceLE, Int.reduceAdd, Int.reduceSub, Int.reduceNeg, Int.reduceMul, Int.reduceToNat, Int.cast_ofNat_Int, Int.natCast_zero, Nat.add_zero, reduceCtorEq, g3]
    exact hQ _ _ (Ends.ret rfl ⟨c, F', rfl, hs, hr⟩)
theorem does_w_toLog (K : Codes P I) {H : Heap} {a : List C} {x : Log} {F : List Nat} (ha : RLog H a x F) (hm : wLog x ≤ 1048576) : Does P I.w_toLog [.agg a] H fun r H' => ∃ cs F', r = .val (.agg cs) ∧ Step [] H H' F' ∧ RLog H' cs x F' := by
  obtain ⟨c, rfl, hc⟩ := ha
  refine K.does K.w_toLog rfl fun Q hQ => ?_
  simp only [go_sem, Nat.reduceEqDiff, Nat.reduceAdd, Nat.reduceMul, Nat.reduceLeDiff, Int.reduceEq, Int.reduceLT, Int.reduceLE, Int.reduceAdd, Int.reduceSub, Int.reduceNeg, Int.reduceMul, Int.reduceToNat, Int.cast_ofNat_Int, Int.natCast_zero, Nat.add_zero, reduceCtorEq, L_w_toLog]
  refine Does.call (does_w_toRecS K hc hm) ?_
  rintro _ H1 ⟨c1, F1, rfl, s1, h1⟩
  simp only [go_sem, Nat.reduceEqDiff, Nat.reduceAdd, Nat.reduceMul, Nat.reduceLeDiff, Int.reduceEq, Int.reduceLT, Int.reduceLE, Int.reduceAdd, Int.reduceSub, Int.reduceNeg, Int.reduceMul, Int.reduceToNat, Int.cast_ofNat_Int, Int.natCast_zero, Nat.add_zero, reduceCtorEq]
  exact hQ _ _ (Ends.ret rfl ⟨_, F1, rfl, s1, c1, rfl, h1⟩)
theorem does_w_toHouse (K : Codes P I) {H : Heap} {a : List C} {x : House} {F : List Nat} (ha : RHouse H a x F) (hm : wHouse x ≤ 1048576) : Does P I.w_toHouse [.agg a] H fun r H' => ∃ cs F', r = .val (.agg cs) ∧ Step [] H H' F' ∧ RHouse H' cs x F' := by
  obtain ⟨c, rfl, hc⟩ := ha
  refine K.does K.w_toHouse rfl fun Q hQ => ?_
  simp only [go_sem, Nat.reduceEqDiff, Nat.reduceAdd, Nat.reduceMul, Nat.reduceLeDiff, Int.reduceEq, Int.reduceLT, Int.reduceLE, Int.reduceAdd, Int.reduceSub, Int.reduceNeg, Int.reduceMul, Int.reduceToNat, Int.cast_ofNat_Int, Int.natCast_zero, Nat.add_zero, reduceCtorEq, L_w_toHouse]
  refine Does.call (does_w_toLog K (show RLog H [c, .int .i64 x.log.forced] x.log F from ⟨c, rfl, hc⟩) hm) ?_
  rintro _ H1 ⟨c1, F1, rfl, s1, c2, rfl, h1⟩
  simp only [go_sem, Nat.reduceEqDiff, Nat.reduceAdd, Nat.reduceMul, Nat.reduceLeDiff, Int.reduceEq, Int.reduceLT, Int.reduceLE, Int.reduceAdd, Int.reduceSub, Int.reduceNeg, Int.reduceMul, Int.reduceToNat, Int.cast_ofNat_Int, Int.natCast_zero, Nat.add_zero, reduceCtorEq]
  exact hQ _ _ (Ends.ret rfl ⟨_, F1, rfl, s1, c2, rfl, h1⟩)
theorem does_w_toHouseS (K : Codes P I) {H : Heap} {a : C} {xs : List House} {F : List Nat} (ha : Houses H a xs F) (hm : wHouses xs ≤ 1048576) : Does P I.w_toHouseS [.c a] H fun r H' => ∃ c F', r = .val (.c c) ∧ Step [] H H' F' ∧ Houses H' c xs F' := by
  refine K.does K.w_toHouseS rfl fun Q hQ => ?_
  have hsum : wHouses xs = xs.length + sumL wHouse xs := rfl
  have hle : (xs.length : Int) ≤ ((lenMax : Nat) : Int) := by unfold lenMax; omega
  simp only [go_sem, Nat.reduceEqDiff, Nat.reduceAdd, Nat.reduceMul, Nat.reduceLeDiff, Int.reduceEq, Int.reduceLT, Int.reduceLE, Int.reduceAdd, Int.reduceSub, Int.reduceNeg, Int.reduceMul, Int.reduceToNat, Int.cast_ofNat_Int, Int.natCast_zero, Nat.add_zero, reduceCtorEq, L_w_toHouseS, ha.len, hle]
  refine RUs_mks (R := RHouse) (x0 := (⟨0, false, 0, ⟨[], 0⟩⟩ : House)) rfl (fun _ => ⟨.nil, rfl, .nil⟩) (by unfold lenTop; omega) fun c0 H0 F0 hc0 s0 => ?_
  simp only [go_sem, Nat.reduceEqDiff, Nat.reduceAdd, Nat.reduceMul, Nat.reduceLeDiff, Int.reduceEq, Int.reduceLT, Int.reduceLE, Int.reduceAdd, Int.reduceSub, Int.reduceNeg, Int.reduceMul, Int.reduceToNat, Int.cast_ofNat_Int, Int.natCast_zero, Nat.add_zero, reduceCtorEq]
  refine RU_loop (fun m s => ∃ i : Nat, m = xs.length - i ∧ i ≤ xs.length ∧ s.env 0 = .val (.c a) ∧ s.env 4 = .val (int i) ∧ ∃ c F', s.env 3 = .val (.c c) ∧ Step [] H s.H F' ∧ Houses s.H c (fillTo xs (⟨0, false, 0, ⟨[], 0⟩⟩ : House) i) F') xs.length ⟨0, by simp, by simp, rfl, rfl, c0, F0, rfl, s0, by rw [fillTo_zero]; exact hc0⟩ ?_
  rintro m s ⟨i, rfl, hi, g0, g4, c, F', g3, hs, hr⟩ Q' hN hE hR
  have ha1 := hs.keepSl RHouse.good ha fun b _ => by simp
  by_cases hlt : (i : Int) < xs.length
  · obtain ⟨x, hx⟩ := get_lt hlt
    obtain ⟨b1, o1, bs1, cs1, f1, rfl, e1, e2, hrx, hcl, _⟩ := ha1.get hx
    have hlt' : (i : Int) < ((fillTo xs (⟨0, false, 0, ⟨[], 0⟩⟩ : House) i).length : Int) := by rw [fillTo_len]; exact hlt
    obtain ⟨k0, k1, k2, k3, k4, rfl⟩ := len5 hcl
    simp only [go_sem, Nat.reduceEqDiff, Nat.reduceAdd, Nat.reduceMul, Nat.reduceLeDiff, Int.reduceEq, Int.reduceLT, Int.reduceLE, Int.reduceAdd, Int.reduceSub, Int.reduceNeg, Int.reduceMul, Int.reduceToNat, Int.cast_ofNat_Int, Int.natCast_zero, Nat.add_zero, reduceCtorEq, g0, g3, g4, hlt, e1, e2]
    have hmem := sumL_mem (f := wHouse) (List.mem_of_getElem? hx)
    refine Does.call (does_w_toHouse K hrx (by omega)) ?_
    rintro _ H1 ⟨cx, f, rfl, s1, hx1⟩
    have t1 := hs.with s1
    obtain ⟨b2, o2, bs2, H2, F2, ec, eo, el, ew, hr2, s2⟩ := sl_fill RHouse.good (s1.keepSl RHouse.good hr fun b _ => by simp) (fillTo_get (z := (⟨0, false, 0, ⟨[], 0⟩⟩ : House)) (by omega)) hx1 hx1.cells t1.owned
    obtain ⟨j0, j1, j2, j3, j4, rfl⟩ := len5 hx1.cells
    subst ec
    simp only [go_sem, Nat.reduceEqDiff, Nat.reduceAdd, Nat.reduceMul, Nat.reduceLeDiff, Int.reduceEq, Int.reduceLT, Int.reduceLE, Int.reduceAdd, Int.reduceSub, Int.reduceNeg, Int.reduceMul, Int.reduceToNat, Int.cast_ofNat_Int, Int.natCast_zero, Nat.add_zero, reduceCtorEq, g0, g3, g4, hlt, hlt', eo, el, ew, wrap_succ (show i ≤ lenTop by unfold lenTop; omega)]
    exact hN _ _ (by omega) ⟨i + 1, rfl, by omega, by simp [upd, g0], by simp [upd], .sl b2 o2 (fillTo xs (⟨0, false, 0, ⟨[], 0⟩⟩ : House) i).length, F2, by simp [upd, g3], t1.trans s2, by rw [fillTo_set hx] at hr2; exact hr2⟩
  · simp only [go_sem, Nat.reduceEqDiff, Nat.reduceAdd, Nat.reduceMul, Nat.reduceLeDiff, Int.reduceEq, Int.reduceLT, Int.reduceLE, Int.reduceAdd, Int.reduceSub, Int.reduceNeg, Int.reduceMul, Int.reduceToNat, Int.cast_ofNat_Int, Int.natCast_zero, Nat.add_zero, reduceCtorEq, g0, g4, hlt, ha1.len]
    refine hE _ _ ?_
    rw [fillTo_all (by omega)] at hr
    simp only [go_sem, Nat.reduceEqDiff, Nat.reduceAdd, Nat.reduceMul, Nat.reduceLeDiff, Int.reduceEq, Int.reduceLT, Int.reduceLE, Int.reduceAdd, Int.reduceSub, Int.reduceNeg, Int.reduceMul, Int.reduceToNat, Int.cast_ofNat_Int, Int.natCast_zero, Nat.add_zero, reduceCtorEq, g3]
    exact hQ _ _ (Ends.ret rfl ⟨c, F', rfl, hs, hr⟩)
theorem does_w_toWordS (K : Codes P I) {H : Heap} {a : C} {xs : List Word} {F : List Nat} (ha : Words H a xs F) (hm : xs.length ≤ 1048576) : Does P I.w_toWordS [.c a] H fun r H' => ∃ c F', r = .val (.c c) ∧ Step [] H H' F' ∧ Words H' c xs F' := by
  refine K.does K.w_toWordS rfl fun Q hQ => ?_
  have hle : (xs.length : Int) ≤ ((lenMax : Nat) : Int) := by unfold lenMax; omega
  simp only [go_sem, Nat.reduceEqDiff, Nat.reduceAdd, Nat.reduceMul, Nat.reduceLeDiff, Int.reduceEq, Int.reduceLT, Int.reduceLE, Int.reduceAdd, Int.reduceSub, Int.reduceNeg, Int.reduceMul, Int.reduceToNat, Int.cast_ofNat_Int, Int.natCast_zero, Nat.add_zero, reduceCtorEq, L_w_toWordS, ha.len, hle]
  refine RUs_mks (R := RWord) (x0 := (⟨0, 0, 0, 0⟩ : Word)) rfl (fun _ => ⟨rfl, rfl⟩) (by unfold lenTop; omega) fun c0 H0 F0 hc0 s0 => ?_
  simp only [go_sem, Nat.reduceEqDiff, Nat.reduceAdd, Nat.reduceMul, Nat.reduceLeDiff, Int.reduceEq, Int.reduceLT, Int.reduceLE, Int.reduceAdd, Int.reduceSub, Int.reduceNeg, Int.reduceMul, Int.reduceToNat, Int.cast_ofNat_Int, Int.natCast_zero, Nat.add_zero, reduceCtorEq]
  refine RU_loop (fun m s => ∃ i : Nat, m = xs.length - i ∧ i ≤ xs.length ∧ s.env 0 = .val (.c a) ∧ s.env 4 = .val (int i) ∧ ∃ c F', s.env 3 = .val (.c c) ∧ Step [] H s.H F' ∧ Words s.H c (fillTo xs (⟨0, 0, 0, 0⟩ : Word) i) F') xs.length ⟨0, by simp, by simp, rfl, rfl, c0, F0, rfl, s0, by rw [fillTo_zero]; exact hc0⟩ ?_
  rintro m s ⟨i, rfl, hi, g0, g4, c, F', g3, hs, hr⟩ Q' hN hE hR
  have ha1 := hs.keepSl RWord.good ha fun b _ => by simp
  by_cases hlt : (i : Int) < xs.length
  · obtain ⟨x, hx⟩ := get_lt hlt
    obtain ⟨b1, o1, bs1, cs1, f1, rfl, e1, e2, hrx, hcl, _⟩ := ha1.get hx
    have hlt' : (i : Int) < ((fillTo xs (⟨0, 0, 0, 0⟩ : Word) i).length : Int) := by rw [fillTo_len]; exact hlt
    obtain ⟨k0, k1, k2, k3, rfl⟩ := len4 hcl
    simp only [go_sem, Nat.reduceEqDiff, Nat.reduceAdd, Nat.reduceMul, Nat.reduceLeDiff, Int.reduceEq, Int.reduceLT, Int.reduceLE, Int.reduceAdd, Int.reduceSub, Int.reduceNeg, Int.reduceMul, Int.reduceToNat, Int.cast_ofNat_Int, Int.natCast_zero, Nat.add_zero, reduceCtorEq, g0, g3, g4, hlt, e1, e2]
    refine Does.call (does_w_toWord K hrx) ?_
    rintro _ H1 ⟨cx, f, rfl, s1, hx1⟩
    have t1 := hs.with s1
    obtain ⟨b2, o2, bs2, H2, F2, ec, eo, el, ew, hr2, s2⟩ := sl_fill RWord.good (s1.keepSl RWord.good hr fun b _ => by simp) (fillTo_get (z := (⟨0, 0, 0, 0⟩ : Word)) (by omega)) hx1 hx1.cells t1.owned
    obtain ⟨j0, j1, j2, j3, rfl⟩ := len4 hx1.cells
    subst ec
    simp only [go_sem, Nat.reduceEqDiff, Nat.reduceAdd, Nat.reduceMul, Nat.reduceLeDiff, Int.reduceEq, Int.reduceLT, Int.reduceLE, Int.reduceAdd, Int.reduceSub, Int.reduceNeg, Int.reduceMul, Int.reduceToNat, Int.cast_ofNat_Int, Int.natCast_zero, Nat.add_zero, reduceCtorEq, g0, g3, g4, hlt, hlt', eo, el, ew, wrap_succ (show i ≤ lenTop by unfold lenTop; omega)]
    exact hN _ _ (by omega) ⟨i + 1, rfl, by omega, by simp [upd, g0], by simp [upd], .sl b2 o2 (fillTo xs (⟨0, 0, 0, 0⟩ : Word) i).length, F2, by simp [upd, g3], t1.trans s2, by rw [fillTo_set hx] at hr2; exact hr2⟩
  · simp only [go_sem, Nat.reduceEqDiff, Nat.reduceAdd, Nat.reduceMul, Nat.reduceLeDiff, Int.reduceEq, Int.reduceLT, Int.reduceLE, Int.reduceAdd, Int.reduceSub, Int.reduceNeg, Int.reduceMul, Int.reduceToNat, Int.cast_ofNat_Int, Int.natCast_zero, Nat.add_zero, reduceCtorEq, g0, g4, hlt, ha1.len]
    refine hE _ _ ?_
    rw [fillTo_all (by omega)] at hr
    simp only [go_sem, Nat.reduceEqDiff, Nat.reduceAdd, Nat.reduceMul, Nat.reduceLeDiff, Int.reduceEq, Int.reduceLT, Int.reduceLE, Int.reduceAdd, Int.reduceSub, Int.reduceNeg, Int.reduceMul, Int.reduceToNat, Int.cast_ofNat_Int, Int.natCast_zero, Nat.add_zero, reduceCtorEq, g3]
    exact hQ _ _ (Ends.ret rfl ⟨c, F', rfl, hs, hr⟩)
theorem does_w_toDesk (K : Codes P I) {H : Heap} {a : List C} {x : Desk} {F : List Nat} (ha : RDesk H a x F) (hm : wDesk x ≤ 1048576) : Does P I.w_toDesk [.agg a] H fun r H' => ∃ cs F', r = .val (.agg cs) ∧ Step [] H H' F' ∧ RDesk H' cs x F' := by
  obtain ⟨c, d, F1, F2, rfl, rfl, hc, hd⟩ := ha
  refine K.does K.w_toDesk rfl fun Q hQ => ?_
  simp only [go_sem, Nat.reduceEqDiff, Nat.reduceAdd, Nat.reduceMul, Nat.reduceLeDiff, Int.reduceEq, Int.reduceLT, Int.reduceLE, Int.reduceAdd, Int.reduceSub, Int.reduceNeg, Int.reduceMul, Int.reduceToNat, Int.cast_ofNat_Int, Int.natCast_zero, Nat.add_zero, reduceCtorEq, L_w_toDesk]
  have hm2 : wLog x.log + x.told.length ≤ 1048576 := hm
  refine Does.call (does_w_toLog K (show RLog H [c, .int .i64 x.log.forced] x.log F1 from ⟨c, rfl, hc⟩) (by omega)) ?_
  rintro _ H1 ⟨c1, G1, rfl, s1, c2, rfl, h1⟩
  replace s1 : Step [] H H1 G1 := s1
  simp only [go_sem, Nat.reduceEqDiff, Nat.reduceAdd, Nat.reduceMul, Nat.reduceLeDiff, Int.reduceEq, Int.reduceLT, Int.reduceLE, Int.reduceAdd, Int.reduceSub, Int.reduceNeg, Int.reduceMul, Int.reduceToNat, Int.cast_ofNat_Int, Int.natCast_zero, Nat.add_zero, reduceCtorEq]
  refine Does.call (does_w_toWordS K (s1.keepSl RWord.good hd fun b _ => by simp) (by omega)) ?_
  rintro _ H2 ⟨d1, G2, rfl, s2, h2⟩
  replace s2 : Step [] H1 H2 G2 := s2
  simp only [go_sem, Nat.reduceEqDiff, Nat.reduceAdd, Nat.reduceMul, Nat.reduceLeDiff, Int.reduceEq, Int.reduceLT, Int.reduceLE, Int.reduceAdd, Int.reduceSub, Int.reduceNeg, Int.reduceMul, Int.reduceToNat, Int.cast_ofNat_Int, Int.natCast_zero, Nat.add_zero, reduceCtorEq]
  exact hQ _ _ (Ends.ret rfl ⟨_, _, rfl, s1.with s2, c2, d1, G1, G2, rfl, rfl, s2.keepSl RRec.good h1 (fun b _ => by simp), h2⟩)
theorem does_w_toWorld (K : Codes P I) {H : Heap} {a : List C} {x : Wld} {F : List Nat} (ha : RWld H a x F) (hm : wWld x ≤ 1048576) : Does P I.w_toWorld [.agg a] H fun r H' => ∃ cs F', r = .val (.agg cs) ∧ Step [] H H' F' ∧ RWld H' cs x F' := by
  obtain ⟨ds, c, d, F1, F2, F3, rfl, rfl, h1, hc, hd⟩ := ha
  refine K.does K.w_toWorld rfl fun Q hQ => ?_
  obtain ⟨e0, e1, e2, e3, rfl⟩ := len4 h1.cells
  simp only [go_sem, Nat.reduceEqDiff, Nat.reduceAdd, Nat.reduceMul, Nat.reduceLeDiff, Int.reduceEq, Int.reduceLT, Int.reduceLE, Int.reduceAdd, Int.reduceSub, Int.reduceNeg, Int.reduceMul, Int.reduceToNat, Int.cast_ofNat_Int, Int.natCast_zero, Nat.add_zero, reduceCtorEq, L_w_toWorld]
  have hm2 : wDesk x.desk + (wHouses x.houses + x.nets.length) ≤ 1048576 := hm
  refine Does.call (does_w_toDesk K h1 (by omega)) ?_
  rintro _ H1 ⟨ds1, G1, rfl, s1, r1⟩
  replace s1 : Step [] H H1 G1 := s1
  obtain ⟨u0, u1, u2, u3, rfl⟩ := len4 r1.cells
  simp only [go_sem, Nat.reduceEqDiff, Nat.reduceAdd, Nat.reduceMul, Nat.reduceLeDiff, Int.reduceEq, Int.reduceLT, Int.reduceLE, Int.reduceAdd, Int.reduceSub, Int.reduceNeg, Int.reduceMul, Int.reduceToNat, Int.cast_ofNat_Int, Int.natCast_zero, Nat.add_zero, reduceCtorEq]
  refine Does.call (does_w_toHouseS K (s1.keepSl RHouse.good hc fun b _ => by simp) (by omega)) ?_
  rintro _ H2 ⟨c1, G2, rfl, s2, r2⟩
  replace s2 : Step [] H1 H2 G2 := s2
  simp only [go_sem, Nat.reduceEqDiff, Nat.reduceAdd, Nat.reduceMul, Nat.reduceLeDiff, Int.reduceEq, Int.reduceLT, Int.reduceLE, Int.reduceAdd, Int.reduceSub, Int.reduceNeg, Int.reduceMul, Int.reduceToNat, Int.cast_ofNat_Int, Int.natCast_zero, Nat.add_zero, reduceCtorEq]
  refine Does.call (does_w_toWordS K ((s1.with s2).keepSl RWord.good hd fun b _ => by simp) (by omega)) ?_
  rintro _ H3 ⟨d1, G3, rfl, s3, r3⟩
  replace s3 : Step [] H2 H3 G3 := s3
  simp only [go_sem, Nat.reduceEqDiff, Nat.reduceAdd, Nat.reduceMul, Nat.reduceLeDiff, Int.reduceEq, Int.reduceLT, Int.reduceLE, Int.reduceAdd, Int.reduceSub, Int.reduceNeg, Int.reduceMul, Int.reduceToNat, Int.cast_ofNat_Int, Int.natCast_zero, Nat.add_zero, reduceCtorEq]
  exact hQ _ _ (Ends.ret rfl ⟨_, _, rfl, (s1.with s2).with s3, [u0, u1, u2, u3], c1, d1, G1, G2, G3, rfl, by simp, s3.stay RDesk.good (s2.stay RDesk.good r1), s3.keepSl RHouse.good r2 (fun b _ => by simp), r3⟩)
end Go.AX

/- The exact laws of logs hold. Condition: the arguments lie in memory. -/
namespace Go.AX
variable {P : Program} {I : Ids}
attribute [go_sem] bne_self_eq_false
theorem sumL_bound {α : Type} {f : α → Nat} {xs : List α} {N : Nat} (h : ∀ x ∈ xs, f x ≤ N) : sumL f xs ≤ xs.length * N := by
  induction xs with
  | nil => simp [sumL]
  | cons x r ih =>
    have h1 := ih fun y hy => h y (by simp [hy])
    have h2 := h x (by simp)
    rw [sumL_cons, List.length_cons, Nat.succ_mul]; omega
theorem cnt_small {l : Log} (h : Small l) : sumL cntRec l.recs ≤ 4194304 := by
  have h1 := sumL_bound (f := cntRec) (xs := l.recs) (N := 66) fun r hr => by
    have := h.2 r hr
    simp only [cntRec, sumL_one]; omega
  have := h.1
  have : l.recs.length * 66 ≤ 64 * 66 := Nat.mul_le_mul_right _ h.1
  omega
theorem small_log0 : Small log0 := ⟨by simp [log0], by simp [log0]⟩
theorem force_small (l : Log) : Small (forceV l) := by
  unfold forceV; split
  · rename_i h; exact logOk_small (force_ok h)
  · exact small_log0
theorem fall_small (l : Log) (k : Int) : Small (fallV l k) := by
  by_cases h : logOk l = true
  · rw [fallV_ok h]; exact logOk_small (fall_ok h k)
  · unfold fallV; rw [if_neg h]; exact small_log0
theorem add_small (l : Log) (r : Rec) : Small (addV l r) := by
  unfold addV
  split
  · split
    · rename_i h1 h2; exact logOk_small (addL_ok h1 h2)
    · exact small_log0
  · exact small_log0
end Go.AX

/- Trips: the program and the reference do the same. Condition: the lists lie in memory. -/
namespace Go.AX
variable {P : Program} {I : Ids}
theorem does_i_TripsOk_1 (K : Codes P I) {H : Heap} {cs : List C} {t : Trip} {F : List Nat} (h : RTrip H cs t F) : Tests P I.i_TripsOk_1 H (.agg cs) (!tripOk t) := by
  obtain ⟨c, rfl, hc⟩ := h
  refine K.does K.i_TripsOk_1 rfl fun Q hQ => ?_
  simp only [go_sem, Nat.reduceEqDiff, Nat.reduceAdd, Nat.reduceMul, Nat.reduceLeDiff, Int.reduceEq, Int.reduceLT, Int.reduceLE, Int.reduceAdd, Int.reduceSub, Int.reduceNeg, Int.reduceMul, Int.reduceToNat, Int.cast_ofNat_Int, Int.natCast_zero, Nat.add_zero, reduceCtorEq, L_i_TripsOk_1]
  refine Does.test (does_i_wantedOk K hc) ?_
  cases hm : manyOk t.many with
  | false =>
    simp only [go_sem, Nat.reduceEqDiff, Nat.reduceAdd, Nat.reduceMul, Nat.reduceLeDiff, Int.reduceEq, Int.reduceLT, Int.reduceLE, Int.reduceAdd, Int.reduceSub, Int.reduceNeg, Int.reduceMul, Int.reduceToNat, Int.cast_ofNat_Int, Int.natCast_zero, Nat.add_zero, reduceCtorEq]
    exact hQ _ _ (Ends.ret rfl ⟨by simp [tupOf, tripOk, hm], rfl⟩)
  | true =>
    simp only [go_sem, Nat.reduceEqDiff, Nat.reduceAdd, Nat.reduceMul, Nat.reduceLeDiff, Int.reduceEq, Int.reduceLT, Int.reduceLE, Int.reduceAdd, Int.reduceSub, Int.reduceNeg, Int.reduceMul, Int.reduceToNat, Int.cast_ofNat_Int, Int.natCast_zero, Nat.add_zero, reduceCtorEq]
    refine Does.test (does_i_in K) ?_
    simp only [go_sem, Nat.reduceEqDiff, Nat.reduceAdd, Nat.reduceMul, Nat.reduceLeDiff, Int.reduceEq, Int.reduceLT, Int.reduceLE, Int.reduceAdd, Int.reduceSub, Int.reduceNeg, Int.reduceMul, Int.reduceToNat, Int.cast_ofNat_Int, Int.natCast_zero, Nat.add_zero, reduceCtorEq]
    exact hQ _ _ (Ends.ret rfl ⟨by simp [tupOf, tripOk, hm], rfl⟩)
theorem any_not' {α : Type} (t : α → Bool) (l : List α) : (l.any fun x => !t x) = !l.all t := by
  induction l with
  | nil => rfl
  | cons x r ih => simp only [List.any_cons, List.all_cons, ih]; cases t x <;> simp
theorem does_i_TripsOk (K : Codes P I) {H : Heap} {c : C} {l : List Trip} {F : List Nat} (h : Trips H c l F) : Does P I.i_TripsOk [.c c] H fun v H' => v = bool (tripsOk l) ∧ H' = H := by
  refine K.does K.i_TripsOk rfl fun Q hQ => ?_
  by_cases hl : (l.length : Int) ≤ 6
  · have hl' : l.length ≤ 6 := by omega
    simp only [go_sem, Nat.reduceEqDiff, Nat.reduceAdd, Nat.reduceMul, Nat.reduceLeDiff, Int.reduceEq, Int.reduceLT, Int.reduceLE, Int.reduceAdd, Int.reduceSub, Int.reduceNeg, Int.reduceMul, Int.reduceToNat, Int.cast_ofNat_Int, Int.natCast_zero, Nat.add_zero, reduceCtorEq, L_i_TripsOk, h.len, hl]
    refine Does.test (does_g_ContainsFunc_Trip K h (fun t => !tripOk t) fun cs x f' _ hr _ => does_i_TripsOk_1 K hr) ?_
    simp only [go_sem, Nat.reduceEqDiff, Nat.reduceAdd, Nat.reduceMul, Nat.reduceLeDiff, Int.reduceEq, Int.reduceLT, Int.reduceLE, Int.reduceAdd, Int.reduceSub, Int.reduceNeg, Int.reduceMul, Int.reduceToNat, Int.cast_ofNat_Int, Int.natCast_zero, Nat.add_zero, reduceCtorEq, any_not']
    exact hQ _ _ (Ends.ret rfl ⟨by simp [tupOf, tripsOk, hl'], rfl⟩)
  · have hl' : ¬ l.length ≤ 6 := by omega
    simp only [go_sem, Nat.reduceEqDiff, Nat.reduceAdd, Nat.reduceMul, Nat.reduceLeDiff, Int.reduceEq, Int.reduceLT, Int.reduceLE, Int.reduceAdd, Int.reduceSub, Int.reduceNeg, Int.reduceMul, Int.reduceToNat, Int.cast_ofNat_Int, Int.natCast_zero, Nat.add_zero, reduceCtorEq, L_i_TripsOk, h.len, hl]
    exact hQ _ _ (Ends.ret rfl ⟨by simp [tupOf, tripsOk, hl'], rfl⟩)
theorem stateOf_get {l : List Trip} {t : Int} (h : inB t 1 l.length = true) : ∃ i x, t = (i : Nat) + 1 ∧ (t - 1).toNat = i ∧ i < l.length ∧ l[i]? = some x ∧ stateOf l t = x.state := by
  have h0 := h
  simp only [inB, Bool.and_eq_true, decide_eq_true_eq] at h
  have hlt : (t - 1).toNat < l.length := by omega
  refine ⟨(t - 1).toNat, l[(t - 1).toNat]'hlt, by omega, rfl, hlt, List.getElem?_eq_getElem hlt, ?_⟩
  unfold stateOf; rw [if_pos h0, List.getElem?_eq_getElem hlt]; rfl
theorem does_i_stateOf (K : Codes P I) {H : Heap} {c : C} {l : List Trip} {F : List Nat} {t : Int} (h : Trips H c l F) : Does P I.i_stateOf [.c c, int t] H fun v H' => v = .val (int (stateOf l t)) ∧ H' = H := by
  refine K.does K.i_stateOf rfl fun Q hQ => ?_
  simp only [go_sem, Nat.reduceEqDiff, Nat.reduceAdd, Nat.reduceMul, Nat.reduceLeDiff, Int.reduceEq, Int.reduceLT, Int.reduceLE, Int.reduceAdd, Int.reduceSub, Int.reduceNeg, Int.reduceMul, Int.reduceToNat, Int.cast_ofNat_Int, Int.natCast_zero, Nat.add_zero, reduceCtorEq, L_i_stateOf, h.len]
  refine Does.test (does_i_in K) ?_
  cases hb : inB t 1 l.length with
  | false =>
    simp only [go_sem, Nat.reduceEqDiff, Nat.reduceAdd, Nat.reduceMul, Nat.reduceLeDiff, Int.reduceEq, Int.reduceLT, Int.reduceLE, Int.reduceAdd, Int.reduceSub, Int.reduceNeg, Int.reduceMul, Int.reduceToNat, Int.cast_ofNat_Int, Int.natCast_zero, Nat.add_zero, reduceCtorEq]
    exact hQ _ _ (Ends.ret rfl ⟨by simp [tupOf, stateOf, hb], rfl⟩)
  | true =>
    obtain ⟨i, x, rfl, ht, hi, hx, hst⟩ := stateOf_get hb
    have htop := h.top
    have hw : IntKind.wrap .i64 ((i : Int) + 1 - 1) = (i : Int) := by rw [wrap_i64 (by omega) (by unfold lenTop at htop; omega)]; omega
    obtain ⟨b1, o1, bs1, cs1, f1, rfl, e1, e2, ⟨cm, rfl, hm⟩, _, _⟩ := h.get hx
    have ld1 := slab_sub e2 1 1 (by simp)
    simp only [slabAt1, slabSkip1] at ld1
    have hlt : (i : Int) < l.length := by omega
    simp only [go_sem, Nat.reduceEqDiff, Nat.reduceAdd, Nat.reduceMul, Nat.reduceLeDiff, Int.reduceEq, Int.reduceLT, Int.reduceLE, Int.reduceAdd, Int.reduceSub, Int.reduceNeg, Int.reduceMul, Int.reduceToNat, Int.cast_ofNat_Int, Int.natCast_zero, Nat.add_zero, reduceCtorEq, hw, hlt, e1, ld1]
    exact hQ _ _ (Ends.ret rfl ⟨by simp [tupOf, hst], rfl⟩)
theorem does_i_TripsMay (K : Codes P I) {H : Heap} {c : C} {ds : List C} {l : List Trip} {r : Rec} {F G : List Nat} (h : Trips H c l F) (hr : RRec H ds r G) : Does P I.i_TripsMay [.c c, .agg ds] H fun v H' => v = bool (tripsMay l r) ∧ H' = H := by
  have hr0 := hr
  obtain ⟨cm, rfl, hm⟩ := hr
  refine K.does K.i_TripsMay rfl fun Q hQ => ?_
  have htop := h.top
  simp only [go_sem, Nat.reduceEqDiff, Nat.reduceAdd, Nat.reduceMul, Nat.reduceLeDiff, Int.reduceEq, Int.reduceLT, Int.reduceLE, Int.reduceAdd, Int.reduceSub, Int.reduceNeg, Int.reduceMul, Int.reduceToNat, Int.cast_ofNat_Int, Int.natCast_zero, Nat.add_zero, reduceCtorEq, L_i_TripsMay]
  refine Does.test (does_i_TripsOk K h) ?_
  cases hl : tripsOk l with
  | false =>
    simp only [go_sem, Nat.reduceEqDiff, Nat.reduceAdd, Nat.reduceMul, Nat.reduceLeDiff, Int.reduceEq, Int.reduceLT, Int.reduceLE, Int.reduceAdd, Int.reduceSub, Int.reduceNeg, Int.reduceMul, Int.reduceToNat, Int.cast_ofNat_Int, Int.natCast_zero, Nat.add_zero, reduceCtorEq]
    exact hQ _ _ (Ends.ret rfl ⟨by simp [tupOf, tripsMay, hl], rfl⟩)
  | true =>
    simp only [go_sem, Nat.reduceEqDiff, Nat.reduceAdd, Nat.reduceMul, Nat.reduceLeDiff, Int.reduceEq, Int.reduceLT, Int.reduceLE, Int.reduceAdd, Int.reduceSub, Int.reduceNeg, Int.reduceMul, Int.reduceToNat, Int.cast_ofNat_Int, Int.natCast_zero, Nat.add_zero, reduceCtorEq]
    refine Does.test (does_i_RecOk K hr0) ?_
    cases hrk : recOk r with
    | false =>
      simp only [go_sem, Nat.reduceEqDiff, Nat.reduceAdd, Nat.reduceMul, Nat.reduceLeDiff, Int.reduceEq, Int.reduceLT, Int.reduceLE, Int.reduceAdd, Int.reduceSub, Int.reduceNeg, Int.reduceMul, Int.reduceToNat, Int.cast_ofNat_Int, Int.natCast_zero, Nat.add_zero, reduceCtorEq]
      exact hQ _ _ (Ends.ret rfl ⟨by simp [tupOf, tripsMay, hrk], rfl⟩)
    | true =>
      simp only [go_sem, Nat.reduceEqDiff, Nat.reduceAdd, Nat.reduceMul, Nat.reduceLeDiff, Int.reduceEq, Int.reduceLT, Int.reduceLE, Int.reduceAdd, Int.reduceSub, Int.reduceNeg, Int.reduceMul, Int.reduceToNat, Int.cast_ofNat_Int, Int.natCast_zero, Nat.add_zero, reduceCtorEq]
      refine Does.test (does_i_stateOf K h) ?_
      have hw : IntKind.wrap .i64 ((l.length : Int) + 1) = (l.length : Int) + 1 := wrap_i64 (by omega) (by unfold lenTop at htop; omega)
      by_cases k4 : r.kind = 4
      · simp only [go_sem, Nat.reduceEqDiff, Nat.reduceAdd, Nat.reduceMul, Nat.reduceLeDiff, Int.reduceEq, Int.reduceLT, Int.reduceLE, Int.reduceAdd, Int.reduceSub, Int.reduceNeg, Int.reduceMul, Int.reduceToNat, Int.cast_ofNat_Int, Int.natCast_zero, Nat.add_zero, reduceCtorEq, k4, h.len, hw]
        exact hQ _ _ (Ends.ret rfl ⟨by simp [tupOf, tripsMay, hl, hrk, tripMayB, k4], rfl⟩)
      · by_cases k5 : r.kind = 5
        · simp only [go_sem, Nat.reduceEqDiff, Nat.reduceAdd, Nat.reduceMul, Nat.reduceLeDiff, Int.reduceEq, Int.reduceLT, Int.reduceLE, Int.reduceAdd, Int.reduceSub, Int.reduceNeg, Int.reduceMul, Int.reduceToNat, Int.cast_ofNat_Int, Int.natCast_zero, Nat.add_zero, reduceCtorEq, k4, k5]
          exact hQ _ _ (Ends.ret rfl ⟨by simp [tupOf, tripsMay, hl, hrk, tripMayB, k5], rfl⟩)
        · by_cases k6 : r.kind = 6
          · simp only [go_sem, Nat.reduceEqDiff, Nat.reduceAdd, Nat.reduceMul, Nat.reduceLeDiff, Int.reduceEq, Int.reduceLT, Int.reduceLE, Int.reduceAdd, Int.reduceSub, Int.reduceNeg, Int.reduceMul, Int.reduceToNat, Int.cast_ofNat_Int, Int.natCast_zero, Nat.add_zero, reduceCtorEq, k4, k5, k6]
            exact hQ _ _ (Ends.ret rfl ⟨by simp [tupOf, tripsMay, hl, hrk, tripMayB, k6], rfl⟩)
          · by_cases k7 : r.kind = 7
            · by_cases s2 : stateOf l r.trip = 2
              · simp only [go_sem, Nat.reduceEqDiff, Nat.reduceAdd, Nat.reduceMul, Nat.reduceLeDiff, Int.reduceEq, Int.reduceLT, Int.reduceLE, Int.reduceAdd, Int.reduceSub, Int.reduceNeg, Int.reduceMul, Int.reduceToNat, Int.cast_ofNat_Int, Int.natCast_zero, Nat.add_zero, reduceCtorEq, k4, k5, k6, k7, s2]
                exact hQ _ _ (Ends.ret rfl ⟨by simp [tupOf, tripsMay, hl, hrk, tripMayB, k7, s2], rfl⟩)
              · simp only [go_sem, Nat.reduceEqDiff, Nat.reduceAdd, Nat.reduceMul, Nat.reduceLeDiff, Int.reduceEq, Int.reduceLT, Int.reduceLE, Int.reduceAdd, Int.reduceSub, Int.reduceNeg, Int.reduceMul, Int.reduceToNat, Int.cast_ofNat_Int, Int.natCast_zero, Nat.add_zero, reduceCtorEq, k4, k5, k6, k7, s2]
                exact hQ _ _ (Ends.ret rfl ⟨by simp [tupOf, tripsMay, hl, hrk, tripMayB, k7, s2], rfl⟩)
            · simp only [go_sem, Nat.reduceEqDiff, Nat.reduceAdd, Nat.reduceMul, Nat.reduceLeDiff, Int.reduceEq, Int.reduceLT, Int.reduceLE, Int.reduceAdd, Int.reduceSub, Int.reduceNeg, Int.reduceMul, Int.reduceToNat, Int.cast_ofNat_Int, Int.natCast_zero, Nat.add_zero, reduceCtorEq, k4, k5, k6, k7]
              exact hQ _ _ (Ends.ret rfl ⟨by simp [tupOf, tripsMay, hl, hrk, tripMayB, k4, k5, k6, k7], rfl⟩)
theorem stateOf_out {l : List Trip} {t : Int} (h : (l.length : Int) < t) : stateOf l t = 0 := by
  unfold stateOf; rw [if_neg]; simp only [inB, Bool.and_eq_true, decide_eq_true_eq]; omega
theorem does_s_l12May (K : Codes P I) {H : Heap} {c : C} {ds : List C} {l : List Trip} {r : Rec} {F G : List Nat} (h : Trips H c l F) (hr : RRec H ds r G) (hrk : recOk r = true) : Does P I.s_l12May [.c c, .agg ds] H fun v H' => v = bool (tripMayB l r) ∧ H' = H := by
  obtain ⟨cm, rfl, hm⟩ := hr
  refine K.does K.s_l12May rfl fun Q hQ => ?_
  have htop := h.top
  have htr := recOk_trip hrk
  have hw : IntKind.wrap .i64 ((l.length : Int) + 1) = (l.length : Int) + 1 := wrap_i64 (by omega) (by unfold lenTop at htop; omega)
  by_cases k4 : r.kind = 4
  · simp only [go_sem, Nat.reduceEqDiff, Nat.reduceAdd, Nat.reduceMul, Nat.reduceLeDiff, Int.reduceEq, Int.reduceLT, Int.reduceLE, Int.reduceAdd, Int.reduceSub, Int.reduceNeg, Int.reduceMul, Int.reduceToNat, Int.cast_ofNat_Int, Int.natCast_zero, Nat.add_zero, reduceCtorEq, L_s_l12May, k4, h.len, hw]
    exact hQ _ _ (Ends.ret rfl ⟨by simp [tupOf, tripMayB, k4], rfl⟩)
  · by_cases hgt : (l.length : Int) < r.trip
    · simp only [go_sem, Nat.reduceEqDiff, Nat.reduceAdd, Nat.reduceMul, Nat.reduceLeDiff, Int.reduceEq, Int.reduceLT, Int.reduceLE, Int.reduceAdd, Int.reduceSub, Int.reduceNeg, Int.reduceMul, Int.reduceToNat, Int.cast_ofNat_Int, Int.natCast_zero, Nat.add_zero, reduceCtorEq, L_s_l12May, k4, h.len, hgt]
      exact hQ _ _ (Ends.ret rfl ⟨by simp [tupOf, tripMayB, k4, stateOf_out hgt], rfl⟩)
    · obtain ⟨i, x, hti, ht, hi, hx, hst⟩ := stateOf_get (l := l) (t := r.trip) (by simp only [inB, Bool.and_eq_true, decide_eq_true_eq]; omega)
      have hw2 : IntKind.wrap .i64 (r.trip - 1) = (i : Int) := by rw [wrap_i64 (by omega) (by omega)]; omega
      obtain ⟨b1, o1, bs1, cs1, f1, rfl, e1, e2, ⟨cm, rfl, hm⟩, _, _⟩ := h.get hx
      have ld1 := slab_sub e2 1 1 (by simp)
      simp only [slabAt1, slabSkip1] at ld1
      have hlt : (i : Int) < l.length := by omega
      by_cases k5 : r.kind = 5
      · simp only [go_sem, Nat.reduceEqDiff, Nat.reduceAdd, Nat.reduceMul, Nat.reduceLeDiff, Int.reduceEq, Int.reduceLT, Int.reduceLE, Int.reduceAdd, Int.reduceSub, Int.reduceNeg, Int.reduceMul, Int.reduceToNat, Int.cast_ofNat_Int, Int.natCast_zero, Nat.add_zero, reduceCtorEq, L_s_l12May, k4, k5, hgt, hw2, hlt, e1, ld1]
        exact hQ _ _ (Ends.ret rfl ⟨by simp [tupOf, tripMayB, k5, hst], rfl⟩)
      · by_cases k6 : r.kind = 6
        · simp only [go_sem, Nat.reduceEqDiff, Nat.reduceAdd, Nat.reduceMul, Nat.reduceLeDiff, Int.reduceEq, Int.reduceLT, Int.reduceLE, Int.reduceAdd, Int.reduceSub, Int.reduceNeg, Int.reduceMul, Int.reduceToNat, Int.cast_ofNat_Int, Int.natCast_zero, Nat.add_zero, reduceCtorEq, L_s_l12May, k4, k5, k6, hgt, hw2, hlt, e1, ld1]
          exact hQ _ _ (Ends.ret rfl ⟨by simp [tupOf, tripMayB, k6, hst], rfl⟩)
        · by_cases k7 : r.kind = 7
          · by_cases s2 : x.state = 2
            · simp only [go_sem, Nat.reduceEqDiff, Nat.reduceAdd, Nat.reduceMul, Nat.reduceLeDiff, Int.reduceEq, Int.reduceLT, Int.reduceLE, Int.reduceAdd, Int.reduceSub, Int.reduceNeg, Int.reduceMul, Int.reduceToNat, Int.cast_ofNat_Int, Int.natCast_zero, Nat.add_zero, reduceCtorEq, L_s_l12May, k4, k5, k6, k7, hgt, hw2, hlt, e1, ld1, s2]
              exact hQ _ _ (Ends.ret rfl ⟨by simp [tupOf, tripMayB, k7, hst, s2], rfl⟩)
            · simp only [go_sem, Nat.reduceEqDiff, Nat.reduceAdd, Nat.reduceMul, Nat.reduceLeDiff, Int.reduceEq, Int.reduceLT, Int.reduceLE, Int.reduceAdd, Int.reduceSub, Int.reduceNeg, Int.reduceMul, Int.reduceToNat, Int.cast_ofNat_Int, Int.natCast_zero, Nat.add_zero, reduceCtorEq, L_s_l12May, k4, k5, k6, k7, hgt, hw2, hlt, e1, ld1, s2]
              exact hQ _ _ (Ends.ret rfl ⟨by simp [tupOf, tripMayB, k7, hst, s2], rfl⟩)
          · simp only [go_sem, Nat.reduceEqDiff, Nat.reduceAdd, Nat.reduceMul, Nat.reduceLeDiff, Int.reduceEq, Int.reduceLT, Int.reduceLE, Int.reduceAdd, Int.reduceSub, Int.reduceNeg, Int.reduceMul, Int.reduceToNat, Int.cast_ofNat_Int, Int.natCast_zero, Nat.add_zero, reduceCtorEq, L_s_l12May, k4, k5, k6, k7, hgt, hw2, hlt, e1, ld1]
            exact hQ _ _ (Ends.ret rfl ⟨by simp [tupOf, tripMayB, k4, k5, k6, k7], rfl⟩)
theorem modify_set {α : Type} {l : List α} {i : Nat} {x : α} {f : α → α} (h : l[i]? = some x) : l.modify i f = l.set i (f x) := by
  apply List.ext_getElem?
  intro j
  rw [List.getElem?_modify, List.getElem?_set]
  have hi := (List.getElem?_eq_some_iff.1 h).1
  by_cases e : i = j
  · subst e; rw [h]; simp [hi]
  · simp [e]
/-- To write a trip's state. -/
theorem trip_put {H : Heap} {c : C} {l : List Trip} {F : List Nat} (h : Trips H c l F) (ho : Owned H F) {i : Nat} {x : Trip} (hi : l[i]? = some x) (v : Int) :
    ∃ b off bs cells H', c = .sl b off l.length ∧ H.own b = some (2, bs) ∧ H.live b = some bs ∧ slab bs (off + i * 2 + 1) 1 = some [.int .i64 x.state] ∧ off + i * 2 + 1 + 1 ≤ bs.length ∧ H.wr b (splice bs (off + i * 2 + 1) [.int .i64 v]) = H' ∧ Trips H' c (l.set i ⟨x.many, v⟩) F ∧ Step F H H' F ∧ cells = bs := by
  obtain ⟨b, off, bs, H', e1, e2, e3, e4, e5, e6⟩ := sl_put RTrip.good h ho hi 1 [.int .i64 v] (by simp) ⟨x.many, v⟩ (fun H' cs f hr hl => by
    obtain ⟨cm, rfl, hm⟩ := hr
    exact ⟨cm, by simp [splice], hm⟩)
  obtain ⟨b1, o1, bs1, cs1, f1, q1, q2, q3, ⟨cm, rfl, hm⟩, _, _⟩ := h.get hi
  rw [e1] at q1
  cases q1
  have hlive : H.live b = some bs := by
    unfold Heap.own at e2
    unfold Heap.live
    split at e2
    · rename_i heq; rw [heq]; simp only [Option.some.injEq, Prod.mk.injEq] at e2; rw [e2.2]
    · cases e2
  have hb : bs1 = bs := by rw [q2] at hlive; simpa using hlive
  subst hb
  have ld1 := slab_sub q3 1 1 (by simp)
  simp only [slabAt1, slabSkip1] at ld1
  exact ⟨b, off, bs1, bs1, H', e1, e2, hlive, ld1, e3, e4, e5, e6, rfl⟩
theorem tripMay_at {l : List Trip} {r : Rec} (hm : tripMayB l r = true) (k4 : r.kind ≠ 4) : ∃ i x, r.trip = (i : Nat) + 1 ∧ (r.trip - 1).toNat = i ∧ i < l.length ∧ l[i]? = some x ∧ stateOf l r.trip = x.state ∧ (r.kind = 5 ∨ r.kind = 6 → x.state = 1) ∧ (r.kind ≠ 5 → r.kind ≠ 6 → r.kind = 7 ∧ (x.state = 2 ∨ x.state = 3)) := by
  unfold tripMayB at hm
  rw [if_neg k4] at hm
  have hne : stateOf l r.trip ≠ 0 := by
    intro e; rw [e] at hm
    (repeat' split at hm) <;> simp at hm
  have hb : inB r.trip 1 l.length = true := by
    unfold stateOf at hne; split at hne
    · assumption
    · exact absurd rfl hne
  obtain ⟨i, x, h1, h2, h3, h4, h5⟩ := stateOf_get hb
  refine ⟨i, x, h1, h2, h3, h4, h5, fun hk => ?_, fun h6 h7 => ?_⟩
  · rw [if_pos hk] at hm; rw [← h5]; simpa using hm
  · rw [if_neg (by simp [h6, h7])] at hm
    split at hm
    · rename_i hk; exact ⟨hk, by rw [← h5]; simpa using hm⟩
    · cases hm
theorem tripsDoL_set {l : List Trip} {r : Rec} {i : Nat} {x : Trip} (k4 : r.kind ≠ 4) (h2 : (r.trip - 1).toNat = i) (hx : l[i]? = some x) : tripsDoL l r = l.set i (tripStep x r) := by
  unfold tripsDoL; rw [if_neg k4, h2]; exact modify_set hx
set_option maxHeartbeats 1000000 in
theorem does_i_TripsDo (K : Codes P I) {H : Heap} {c : C} {ds : List C} {l : List Trip} {r : Rec} {F G : List Nat} (h : Trips H c l F) (hr : RRec H ds r G) :
    Does P I.i_TripsDo [.c c, .agg ds] H fun v H' => ∃ c' F', v = .tup [.c c', .c (.bool (tripsMay l r))] ∧ Step [] H H' F' ∧ Trips H' c' (tripsDoV l r) F' := by
  have hr0 := hr
  obtain ⟨cm, rfl, hm⟩ := hr
  refine K.does K.i_TripsDo rfl fun Q hQ => ?_
  have htop := h.top
  simp only [go_sem, Nat.reduceEqDiff, Nat.reduceAdd, Nat.reduceMul, Nat.reduceLeDiff, Int.reduceEq, Int.reduceLT, Int.reduceLE, Int.reduceAdd, Int.reduceSub, Int.reduceNeg, Int.reduceMul, Int.reduceToNat, Int.cast_ofNat_Int, Int.natCast_zero, Nat.add_zero, reduceCtorEq, L_i_TripsDo]
  refine Does.test (does_i_TripsMay K h hr0) ?_
  cases hmay : tripsMay l r with
  | false =>
    simp only [go_sem, Nat.reduceEqDiff, Nat.reduceAdd, Nat.reduceMul, Nat.reduceLeDiff, Int.reduceEq, Int.reduceLT, Int.reduceLE, Int.reduceAdd, Int.reduceSub, Int.reduceNeg, Int.reduceMul, Int.reduceToNat, Int.cast_ofNat_Int, Int.natCast_zero, Nat.add_zero, reduceCtorEq]
    exact hQ _ _ (Ends.ret rfl ⟨.nil, [], by simp [tupOf, hmay], Step.refl H, by rw [tripsDoV, if_neg (by simp [hmay])]; exact .nil⟩)
  | true =>
    have hmay2 := hmay
    simp only [tripsMay, Bool.and_eq_true] at hmay2
    obtain ⟨hok, hrk, hmb⟩ := hmay2
    have hV : tripsDoV l r = tripsDoL l r := by rw [tripsDoV, if_pos hmay]
    obtain ⟨hl6, hall⟩ := tripsOk_parts hok
    have htr := recOk_trip hrk
    simp only [go_sem, Nat.reduceEqDiff, Nat.reduceAdd, Nat.reduceMul, Nat.reduceLeDiff, Int.reduceEq, Int.reduceLT, Int.reduceLE, Int.reduceAdd, Int.reduceSub, Int.reduceNeg, Int.reduceMul, Int.reduceToNat, Int.cast_ofNat_Int, Int.natCast_zero, Nat.add_zero, reduceCtorEq, h.len]
    refine RU_loop (fun m s => ∃ i : Nat, m = l.length - i ∧ i ≤ l.length ∧ s.env 14 = .val (.c c) ∧ s.env 15 = .val (int l.length) ∧ s.env 16 = .val (int i) ∧ s.env 3 = .box [.int .i64 r.kind, .int .i64 r.trip, cm] ∧ ∃ c' F', s.env 6 = .val (.c c') ∧ Step [] H s.H F' ∧ Trips s.H c' (l.take i) F') l.length
      ⟨0, by simp, by simp, rfl, rfl, rfl, rfl, .nil, [], rfl, Step.refl H, .nil⟩ ?_
    rintro m s ⟨i, rfl, hi, g14, g15, g16, g3, c', F', g6, hs, ht⟩ Q' hN hE hR
    have h1 := hs.keepSl RTrip.good h fun b _ => by simp
    by_cases hlt : (i : Int) < l.length
    · obtain ⟨x, hx⟩ := get_lt hlt
      obtain ⟨b1, o1, bs1, cs1, f1, rfl, e1, e2, ⟨cx, rfl, hmx⟩, _, _⟩ := h1.get hx
      have hmx3 := manyOk_len (hall x (List.mem_of_getElem? hx)).1
      simp only [go_sem, Nat.reduceEqDiff, Nat.reduceAdd, Nat.reduceMul, Nat.reduceLeDiff, Int.reduceEq, Int.reduceLT, Int.reduceLE, Int.reduceAdd, Int.reduceSub, Int.reduceNeg, Int.reduceMul, Int.reduceToNat, Int.cast_ofNat_Int, Int.natCast_zero, Nat.add_zero, reduceCtorEq, g14, g15, g16, g3, g6, hlt, e1, e2]
      refine Does.call (does_g_Clone_int K hmx (by unfold lenMax; omega)) ?_
      rintro _ H1 ⟨c1, f, rfl, s1, hc1⟩
      have t1 := hs.with s1
      obtain ⟨c2, H2, F2, ha, ht2, s2⟩ := app_one RTrip.good (by decide) (s1.keepSl RTrip.good ht fun b _ => by simp) (show RTrip H1 [c1, .int .i64 x.state] x f from ⟨c1, rfl, hc1⟩) rfl t1.owned (by simp [lenMax]; omega)
      simp only [go_sem, Nat.reduceEqDiff, Nat.reduceAdd, Nat.reduceMul, Nat.reduceLeDiff, Int.reduceEq, Int.reduceLT, Int.reduceLE, Int.reduceAdd, Int.reduceSub, Int.reduceNeg, Int.reduceMul, Int.reduceToNat, Int.cast_ofNat_Int, Int.natCast_zero, Nat.add_zero, reduceCtorEq, g14, g15, g16, g3, g6, hlt, ha, wrap_succ (show i ≤ lenTop by omega)]
      refine hN _ _ (by omega) ⟨i + 1, rfl, by omega, by simp [upd, g14], by simp [upd, g15], by simp [upd], by simp [upd, g3], c2, F2, by simp [upd], t1.trans s2, ?_⟩
      rw [take_snoc hx]; exact ht2
    · simp only [go_sem, Nat.reduceEqDiff, Nat.reduceAdd, Nat.reduceMul, Nat.reduceLeDiff, Int.reduceEq, Int.reduceLT, Int.reduceLE, Int.reduceAdd, Int.reduceSub, Int.reduceNeg, Int.reduceMul, Int.reduceToNat, Int.cast_ofNat_Int, Int.natCast_zero, Nat.add_zero, reduceCtorEq, g14, g15, g16, hlt]
      refine hE _ _ ?_
      rw [List.take_of_length_le (by omega)] at ht
      have hm1 := hs.keepSl RInt.good hm fun b _ => by simp
      by_cases k4 : r.kind = 4
      · have hm3 := manyOk_len (recOk_begin hrk k4)
        simp only [go_sem, Nat.reduceEqDiff, Nat.reduceAdd, Nat.reduceMul, Nat.reduceLeDiff, Int.reduceEq, Int.reduceLT, Int.reduceLE, Int.reduceAdd, Int.reduceSub, Int.reduceNeg, Int.reduceMul, Int.reduceToNat, Int.cast_ofNat_Int, Int.natCast_zero, Nat.add_zero, reduceCtorEq, g3, g6, k4]
        refine Does.call (does_g_Clone_int K hm1 (by unfold lenMax; omega)) ?_
        rintro _ H1 ⟨c1, f, rfl, s1, hc1⟩
        have t1 := hs.with s1
        obtain ⟨c2, H2, F2, ha, ht2, s2⟩ := app_one RTrip.good (by decide) (s1.keepSl RTrip.good ht fun b _ => by simp) (show RTrip H1 [c1, .int .i64 1] ⟨r.many, 1⟩ f from ⟨c1, rfl, hc1⟩) rfl t1.owned (by simp [lenMax]; omega)
        simp only [go_sem, Nat.reduceEqDiff, Nat.reduceAdd, Nat.reduceMul, Nat.reduceLeDiff, Int.reduceEq, Int.reduceLT, Int.reduceLE, Int.reduceAdd, Int.reduceSub, Int.reduceNeg, Int.reduceMul, Int.reduceToNat, Int.cast_ofNat_Int, Int.natCast_zero, Nat.add_zero, reduceCtorEq, g3, g6, ha]
        exact hQ _ _ (Ends.ret rfl ⟨c2, F2, by simp [tupOf, hmay], t1.trans s2, by rw [hV, tripsDoL, if_pos k4]; exact ht2⟩)
      · obtain ⟨j, x, q1, q2, q3, q4, q5, q6, q7⟩ := tripMay_at hmb k4
        have hw : IntKind.wrap .i64 (r.trip - 1) = (j : Int) := by rw [wrap_i64 (by omega) (by omega)]; omega
        have hjl : (j : Int) < l.length := by omega
        have hS := tripsDoL_set k4 q2 q4
        by_cases k5 : r.kind = 5
        · obtain ⟨b, off, bs, _, H2, e1, e2, e3, e4, e5, e6, e7, e8, _⟩ := trip_put ht hs.owned q4 2
          subst e1
          simp only [go_sem, Nat.reduceEqDiff, Nat.reduceAdd, Nat.reduceMul, Nat.reduceLeDiff, Int.reduceEq, Int.reduceLT, Int.reduceLE, Int.reduceAdd, Int.reduceSub, Int.reduceNeg, Int.reduceMul, Int.reduceToNat, Int.cast_ofNat_Int, Int.natCast_zero, Nat.add_zero, reduceCtorEq, g3, g6, k4, k5, hw, hjl, e2, e5, e6]
          exact hQ _ _ (Ends.ret rfl ⟨.sl b off l.length, F', by simp [tupOf, hmay], hs.trans e8, by rw [hV, hS]; simpa [tripStep, k5] using e7⟩)
        · by_cases k6 : r.kind = 6
          · obtain ⟨b, off, bs, _, H2, e1, e2, e3, e4, e5, e6, e7, e8, _⟩ := trip_put ht hs.owned q4 3
            subst e1
            simp only [go_sem, Nat.reduceEqDiff, Nat.reduceAdd, Nat.reduceMul, Nat.reduceLeDiff, Int.reduceEq, Int.reduceLT, Int.reduceLE, Int.reduceAdd, Int.reduceSub, Int.reduceNeg, Int.reduceMul, Int.reduceToNat, Int.cast_ofNat_Int, Int.natCast_zero, Nat.add_zero, reduceCtorEq, g3, g6, k4, k5, k6, hw, hjl, e2, e5, e6]
            exact hQ _ _ (Ends.ret rfl ⟨.sl b off l.length, F', by simp [tupOf, hmay], hs.trans e8, by rw [hV, hS]; simpa [tripStep, k6] using e7⟩)
          · by_cases x2 : x.state = 2
            · obtain ⟨b, off, bs, _, H2, e1, e2, e3, e4, e5, e6, e7, e8, _⟩ := trip_put ht hs.owned q4 4
              subst e1
              simp only [go_sem, Nat.reduceEqDiff, Nat.reduceAdd, Nat.reduceMul, Nat.reduceLeDiff, Int.reduceEq, Int.reduceLT, Int.reduceLE, Int.reduceAdd, Int.reduceSub, Int.reduceNeg, Int.reduceMul, Int.reduceToNat, Int.cast_ofNat_Int, Int.natCast_zero, Nat.add_zero, reduceCtorEq, g3, g6, k4, k5, k6, hw, hjl, e2, e3, e4, e5, e6, x2]
              exact hQ _ _ (Ends.ret rfl ⟨.sl b off l.length, F', by simp [tupOf, hmay], hs.trans e8, by rw [hV, hS]; simpa [tripStep, k5, k6, x2] using e7⟩)
            · obtain ⟨b, off, bs, _, H2, e1, e2, e3, e4, e5, e6, e7, e8, _⟩ := trip_put ht hs.owned q4 5
              subst e1
              simp only [go_sem, Nat.reduceEqDiff, Nat.reduceAdd, Nat.reduceMul, Nat.reduceLeDiff, Int.reduceEq, Int.reduceLT, Int.reduceLE, Int.reduceAdd, Int.reduceSub, Int.reduceNeg, Int.reduceMul, Int.reduceToNat, Int.cast_ofNat_Int, Int.natCast_zero, Nat.add_zero, reduceCtorEq, g3, g6, k4, k5, k6, hw, hjl, e2, e3, e4, e5, e6, x2]
              exact hQ _ _ (Ends.ret rfl ⟨.sl b off l.length, F', by simp [tupOf, hmay], hs.trans e8, by rw [hV, hS]; simpa [tripStep, k5, k6, x2] using e7⟩)
end Go.AX

/- What desks compute, in plain Lean. No condition: definitions, and what holds of them. -/
namespace Go.AX
def tripsD (recs : List Rec) : List Trip := (tripsOf recs).getD []
def tripsV (d : Desk) (forced : Bool) : List Trip := tripsD (known d.log forced)
/-- What was told: answers in form, of trips that there are, each once. -/
def toldOk (n : Nat) (told : List Word) : Bool := told.all (fun w => wordOk w && (decide (4 ≤ w.kind) && decide (w.trip ≤ n))) && decide told.Nodup
def deskOk (d : Desk) : Bool := (d.up || decide (d.told = [])) && (logOk d.log && ((tripsOf d.log.recs).isSome && toldOk (tripsD d.log.recs).length d.told))
def desk00 : Desk := ⟨false, log0, []⟩
def deskTripsV (d : Desk) (forced : Bool) : List Trip := if deskOk d = true then tripsV d forced else []
def deskMay (d : Desk) (r : Rec) : Bool := d.up && tripMayB (tripsV d false) r
def deskWrite (d : Desk) (r : Rec) : Desk := if deskMay d r = true then { d with log := addL' d.log r } else d
def deskWrote (d : Desk) (r : Rec) : Bool := deskMay d r && decide (d.log.recs.length < 40)
def beginRec (d : Desk) (many : List Int) : Rec := ⟨4, (tripsV d false).length + 1, many⟩
def deskBeginGo (d : Desk) (many : List Int) : Bool := deskOk d && recOk (beginRec d many)
def deskBeginV (d : Desk) (many : List Int) : Desk := if deskBeginGo d many = true then deskWrite d (beginRec d many) else desk00
def deskBeginB (d : Desk) (many : List Int) : Bool := deskBeginGo d many && deskWrote d (beginRec d many)
def giveRec (trip : Int) : Rec := ⟨6, trip, []⟩
def deskGiveGo (d : Desk) (trip : Int) : Bool := deskOk d && inB trip 1 6
def deskGiveV (d : Desk) (trip : Int) : Desk := if deskGiveGo d trip = true then deskWrite d (giveRec trip) else desk00
def deskGiveB (d : Desk) (trip : Int) : Bool := deskGiveGo d trip && deskWrote d (giveRec trip)
def toldB (told : List Word) (kind house trip : Int) : Bool := decide ((⟨kind, house, trip, 0⟩ : Word) ∈ told)
/-- Was such an answer told of any house of which a trip wants any; of all of them? From the house i on. -/
def anyT (told : List Word) (kind trip : Int) : List Int → Nat → Bool
  | [], _ => false
  | n :: r, i => (decide (n ≠ 0) && toldB told kind (i + 1) trip) || anyT told kind trip r (i + 1)
def allT (told : List Word) (kind trip : Int) : List Int → Nat → Bool
  | [], _ => true
  | n :: r, i => (decide (n = 0) || toldB told kind (i + 1) trip) && allT told kind trip r (i + 1)
def decideK (d : Desk) (trip : Int) (t : Trip) : Int :=
  let sure := decide (stateOf (tripsV d true) trip = t.state)
  if t.state = 1 ∧ anyT d.told 5 trip t.many 0 = true then 6
  else if t.state = 1 ∧ allT d.told 4 trip t.many 0 = true then 5
  else if t.state = 2 ∧ sure = true ∧ allT d.told 6 trip t.many 0 = true then 7
  else if t.state = 3 ∧ sure = true ∧ allT d.told 7 trip t.many 0 = true then 7 else 0
def tripAt (l : List Trip) (t : Int) : Trip := l[(t - 1).toNat]?.getD ⟨[], 0⟩
def decideD (d : Desk) (trip : Int) : Desk := if decideK d trip (tripAt (tripsV d false) trip) = 0 then d else deskWrite d ⟨decideK d trip (tripAt (tripsV d false) trip), trip, []⟩
def deskHearsB (d : Desk) (w : Word) : Bool := d.up && (wordOk w && (decide (4 ≤ w.kind) && decide (w.trip ≤ (tripsV d false).length)))
def tellD (d : Desk) (w : Word) : Desk := if w ∈ d.told then d else { d with told := d.told ++ [w] }
def hearD (d : Desk) (w : Word) : Desk := if deskHearsB d w = true then decideD (tellD d w) w.trip else d
def deskHearV (d : Desk) (w : Word) : Desk := if deskOk d = true then hearD d w else desk00
def wordsOfTrip (told : List Word) (trip : Int) (state : Int) : List Int → Nat → List Word
  | [], _ => []
  | n :: r, h => (if n = 0 ∨ 3 < state ∨ toldB told (state + (if state = 1 then 3 else 4)) (h + 1) trip = true then [] else [⟨state, h + 1, trip, if state = 1 then n else 0⟩]) ++ wordsOfTrip told trip state r (h + 1)
def wordsOf (told : List Word) : List Trip → Nat → List Word
  | [], _ => []
  | t :: r, i => wordsOfTrip told (i + 1) t.state t.many 0 ++ wordsOf told r (i + 1)
def wordsD (d : Desk) : List Word := if d.up = true then wordsOf d.told (tripsV d true) 0 else []
def deskWordsV (d : Desk) : List Word := if deskOk d = true then wordsD d else []
def deskForceV (d : Desk) : Desk := if deskOk d = true then if d.up = true then { d with log := forceL d.log } else d else desk00
def deskFallV (d : Desk) (keep : Int) : Desk := if deskOk d = true then ⟨false, fallL d.log keep, []⟩ else desk00
def deskRiseV (d : Desk) : Desk := if deskOk d = true then { d with up := true } else desk00

theorem deskOk_parts {d : Desk} (h : deskOk d = true) : (d.up = false → d.told = []) ∧ logOk d.log = true ∧ (∃ l, tripsOf d.log.recs = some l) ∧ toldOk (tripsD d.log.recs).length d.told = true := by
  simp only [deskOk, Bool.and_eq_true, Bool.or_eq_true, decide_eq_true_eq] at h
  obtain ⟨h1, h2, h3, h4⟩ := h
  refine ⟨fun hu => ?_, h2, Option.isSome_iff_exists.1 h3, h4⟩
  rcases h1 with h1 | h1
  · rw [hu] at h1; cases h1
  · exact h1
theorem tripsV_some {d : Desk} (h : deskOk d = true) (f : Bool) : tripsOf (known d.log f) = some (tripsV d f) := by
  obtain ⟨_, _, ⟨l, hl⟩, _⟩ := deskOk_parts h
  cases f with
  | false => simp [tripsV, tripsD, known, hl]
  | true =>
    obtain ⟨t, ht⟩ := tripsOf_take hl d.log.forced.toNat
    simp [tripsV, tripsD, known, ht]
theorem tripsV_ok {d : Desk} (h : deskOk d = true) (f : Bool) : tripsOk (tripsV d f) = true := tripsOf_ok (tripsV_some h f)
end Go.AX

/- Trips behind records: the program and the reference do the same. Condition: the lists lie in memory. -/
namespace Go.AX
variable {P : Program} {I : Ids}
/-- One block stays as it is. -/
def zOne (b : Nat) (cs : List C) : Zs := fun c => if c = b then some (0, cs) else none
theorem zOne_new {H : Heap} {b : Nat} {cs : List C} (h : H.length ≤ b) : Holds (zOne b cs) H := fun c ds hc hl => by
  unfold zOne at hc; split at hc
  · omega
  · cases hc
theorem zOne_holds {H : Heap} {b : Nat} {cs : List C} (h : H.live b = some cs) : Holds (zOne b cs) H := fun c ds hc _ => by
  unfold zOne at hc; split at hc
  · rename_i e; subst e; cases hc; exact ⟨h, fun q => absurd rfl q⟩
  · cases hc
theorem RUh_zOne {k : List Fr} {Q : AExit → S → Prop} {os : List AO} {E : Nat → AV} {A : Nat → Option (Nat × Nat)} {U : Nat → Bool} {H : Heap} {b : Nat} {cs : List C} (h : H.live b = some cs) : RUh P true ⟨E, A, U, H⟩ (zOne b cs) os k Q = RU P (.ops (zOne b cs) os :: k) .normal ⟨E, A, U, H⟩ Q :=
  propext ⟨fun g => g.2, fun g => ⟨fun _ => zOne_holds h, g⟩⟩
attribute [go_sem] loadZ sliceZ sliceV
@[go_sem] theorem zOne_at {b : Nat} {cs : List C} : zOne b cs b = some (0, cs) := if_pos rfl
/-- One block stays as it is, and its elements' cells are so many. -/
def zSl (b n : Nat) (cs : List C) : Zs := fun c => if c = b then some (n, cs) else none
theorem zSl_holds {H : Heap} {b n : Nat} {cs : List C} (h : H.live b = some cs) (hs : H.szv b = some n) : Holds (zSl b n cs) H := fun c ds hc _ => by
  unfold zSl at hc; split at hc
  · rename_i e; subst e; cases hc; exact ⟨h, fun _ => hs⟩
  · cases hc
theorem RUh_zSl {k : List Fr} {Q : AExit → S → Prop} {os : List AO} {E : Nat → AV} {A : Nat → Option (Nat × Nat)} {U : Nat → Bool} {H : Heap} {b n : Nat} {cs : List C} (h : H.live b = some cs) (hs : H.szv b = some n) : RUh P true ⟨E, A, U, H⟩ (zSl b n cs) os k Q = RU P (.ops (zSl b n cs) os :: k) .normal ⟨E, A, U, H⟩ Q :=
  propext ⟨fun g => g.2, fun g => ⟨fun _ => zSl_holds h hs, g⟩⟩
@[go_sem] theorem zSl_at {b n : Nat} {cs : List C} : zSl b n cs b = some (n, cs) := if_pos rfl
theorem live_keep {H H' : Heap} {F F' : List Nat} {b : Nat} {cs : List C} (s : Step F H H' F') (hb : b < H.length) (hn : b ∉ F) (h : H.live b = some cs) : H'.live b = some cs := by
  unfold Heap.live at *; rw [s.old b hb hn]; exact h
theorem live_lt {H : Heap} {b : Nat} {cs : List C} (h : H.live b = some cs) : b < H.length := by
  unfold Heap.live at h
  split at h
  · cases h
  · rename_i heq; exact (List.getElem?_eq_some_iff.1 heq).1
  · cases h
theorem does_s_l12Do (K : Codes P I) {H : Heap} {c : C} {ds : List C} {l : List Trip} {r : Rec} {F G : List Nat} (h : Trips H c l F) (ho : Owned H F) (hr : RRec H ds r G) (hok : tripsOk l = true) (hrk : recOk r = true) (hmb : tripMayB l r = true) :
    Does P I.s_l12Do [.c c, .agg ds] H fun v H' => ∃ c' F', v = .val (.c c') ∧ Step F H H' F' ∧ Trips H' c' (tripsDoL l r) F' := by
  obtain ⟨cm, rfl, hm⟩ := hr
  refine K.does K.s_l12Do rfl fun Q hQ => ?_
  obtain ⟨hl6, hall⟩ := tripsOk_parts hok
  have htr := recOk_trip hrk
  by_cases k4 : r.kind = 4
  · have hm3 := manyOk_len (recOk_begin hrk k4)
    obtain ⟨cells, c1, H1, f, he, ha, hc1, s1⟩ := copy_flat RInt.good RInt.flat (by decide) hm (by unfold lenMax; omega)
    have t1 := ho.step.with s1
    obtain ⟨c2, H2, F2, ha2, hr2, s2⟩ := app_one RTrip.good (by decide) (s1.keepSl RTrip.good h fun b _ => by simp) (show RTrip H1 [c1, .int .i64 1] ⟨r.many, 1⟩ f from ⟨c1, rfl, hc1⟩) rfl t1.owned (by simp [lenMax]; omega)
    simp only [go_sem, Nat.reduceEqDiff, Nat.reduceAdd, Nat.reduceMul, Nat.reduceLeDiff, Int.reduceEq, Int.reduceLT, Int.reduceLE, Int.reduceAdd, Int.reduceSub, Int.reduceNeg, Int.reduceMul, Int.reduceToNat, Int.cast_ofNat_Int, Int.natCast_zero, Nat.add_zero, reduceCtorEq, L_s_l12Do, k4, he, ha, ha2]
    exact hQ _ _ (Ends.ret rfl ⟨c2, F2, rfl, t1.trans s2, by rw [tripsDoL, if_pos k4]; exact hr2⟩)
  · obtain ⟨j, x, q1, q2, q3, q4, q5, q6, q7⟩ := tripMay_at hmb k4
    have hw : IntKind.wrap .i64 (r.trip - 1) = (j : Int) := by rw [wrap_i64 (by omega) (by omega)]; omega
    have hjl : (j : Int) < l.length := by omega
    have hS := tripsDoL_set k4 q2 q4
    by_cases k5 : r.kind = 5
    · obtain ⟨b, off, bs, _, H2, e1, e2, e3, e4, e5, e6, e7, e8, _⟩ := trip_put h ho q4 2
      subst e1
      simp only [go_sem, Nat.reduceEqDiff, Nat.reduceAdd, Nat.reduceMul, Nat.reduceLeDiff, Int.reduceEq, Int.reduceLT, Int.reduceLE, Int.reduceAdd, Int.reduceSub, Int.reduceNeg, Int.reduceMul, Int.reduceToNat, Int.cast_ofNat_Int, Int.natCast_zero, Nat.add_zero, reduceCtorEq, L_s_l12Do, k4, k5, hw, hjl, e2, e5, e6]
      exact hQ _ _ (Ends.ret rfl ⟨.sl b off l.length, F, rfl, e8, by rw [hS]; simpa [tripStep, k5] using e7⟩)
    · by_cases k6 : r.kind = 6
      · obtain ⟨b, off, bs, _, H2, e1, e2, e3, e4, e5, e6, e7, e8, _⟩ := trip_put h ho q4 3
        subst e1
        simp only [go_sem, Nat.reduceEqDiff, Nat.reduceAdd, Nat.reduceMul, Nat.reduceLeDiff, Int.reduceEq, Int.reduceLT, Int.reduceLE, Int.reduceAdd, Int.reduceSub, Int.reduceNeg, Int.reduceMul, Int.reduceToNat, Int.cast_ofNat_Int, Int.natCast_zero, Nat.add_zero, reduceCtorEq, L_s_l12Do, k4, k5, k6, hw, hjl, e2, e5, e6]
        exact hQ _ _ (Ends.ret rfl ⟨.sl b off l.length, F, rfl, e8, by rw [hS]; simpa [tripStep, k6] using e7⟩)
      · obtain ⟨k7, hx23⟩ := q7 k5 k6
        obtain ⟨b, off, bs, _, H2, e1, e2, e3, e4, e5, e6, e7, e8, _⟩ := trip_put h ho q4 (x.state + 2)
        have hw2 : IntKind.wrap .i64 (x.state + 2) = x.state + 2 := wrap_i64 (by omega) (by omega)
        subst e1
        simp only [go_sem, Nat.reduceEqDiff, Nat.reduceAdd, Nat.reduceMul, Nat.reduceLeDiff, Int.reduceEq, Int.reduceLT, Int.reduceLE, Int.reduceAdd, Int.reduceSub, Int.reduceNeg, Int.reduceMul, Int.reduceToNat, Int.cast_ofNat_Int, Int.natCast_zero, Nat.add_zero, reduceCtorEq, L_s_l12Do, k4, k5, k6, k7, hw, hjl, e2, e3, e4, e5, e6, hw2]
        refine hQ _ _ (Ends.ret rfl ⟨.sl b off l.length, F, rfl, e8, ?_⟩)
        rw [hS]
        rcases hx23 with hx | hx
        · simpa [tripStep, k5, k6, hx] using e7
        · simpa [tripStep, k5, k6, hx] using e7
theorem tripsOf_next {recs : List Rec} {i : Nat} {l : List Trip} {x : Rec} (h : tripsOf (recs.take i) = some l) (hx : recs[i]? = some x) (hg : (recOk x && tripMayB l x) = true) : tripsOf (recs.take (i + 1)) = some (tripsDoL l x) := by
  rw [take_snoc hx, tripsOf_snoc, h]; simp only [tripsStep, Option.bind_some, hg, if_true]
theorem tripsOf_fail {recs : List Rec} {i : Nat} {l : List Trip} {x : Rec} (h : tripsOf (recs.take i) = some l) (hx : recs[i]? = some x) (hg : (recOk x && tripMayB l x) = false) : tripsOf recs = none := by
  cases ho : tripsOf recs with
  | none => rfl
  | some s =>
    obtain ⟨t, ht⟩ := tripsOf_take ho (i + 1)
    rw [take_snoc hx, tripsOf_snoc, h] at ht
    simp only [tripsStep, Option.bind_some, hg] at ht
    cases ht
theorem does_s_l12Of (K : Codes P I) {H : Heap} {c : C} {recs : List Rec} {F : List Nat} (h : Recs H c recs F) :
    Does P I.s_l12Of [.c c] H fun v H' => ∃ c' F', v = .tup [.c c', .c (.bool (tripsOf recs).isSome)] ∧ Step [] H H' F' ∧ Trips H' c' (tripsD recs) F' := by
  refine K.does K.s_l12Of rfl fun Q hQ => ?_
  have htop := h.top
  simp only [go_sem, Nat.reduceEqDiff, Nat.reduceAdd, Nat.reduceMul, Nat.reduceLeDiff, Int.reduceEq, Int.reduceLT, Int.reduceLE, Int.reduceAdd, Int.reduceSub, Int.reduceNeg, Int.reduceMul, Int.reduceToNat, Int.cast_ofNat_Int, Int.natCast_zero, Nat.add_zero, reduceCtorEq, L_s_l12Of]
  refine RU_loop (fun m s => ∃ i : Nat, m = recs.length - i ∧ i ≤ recs.length ∧ s.env 0 = .val (.c c) ∧ s.env 5 = .val (int i) ∧ ∃ l c' F', tripsOf (recs.take i) = some l ∧ s.env 4 = .val (.c c') ∧ Step [] H s.H F' ∧ Trips s.H c' l F') recs.length
    ⟨0, by simp, by simp, rfl, rfl, [], .emp true, [], rfl, rfl, Step.refl H, .emp⟩ ?_
  rintro m s ⟨i, rfl, hi, g0, g5, l, c', F', hl, g4, hs, hr⟩ Q' hN hE hR
  have h1 := hs.keepSl RRec.good h fun b _ => by simp
  by_cases hlt : (i : Int) < recs.length
  · obtain ⟨x, hx⟩ := get_lt hlt
    obtain ⟨b1, o1, bs1, cs1, f1, rfl, e1, e2, hrx, hcl, _⟩ := h1.get hx
    obtain ⟨y0, y1, y2, rfl⟩ := len3 hcl
    simp only [go_sem, Nat.reduceEqDiff, Nat.reduceAdd, Nat.reduceMul, Nat.reduceLeDiff, Int.reduceEq, Int.reduceLT, Int.reduceLE, Int.reduceAdd, Int.reduceSub, Int.reduceNeg, Int.reduceMul, Int.reduceToNat, Int.cast_ofNat_Int, Int.natCast_zero, Nat.add_zero, reduceCtorEq, g0, g4, g5, hlt, e1, e2]
    refine Does.test (does_s_RecOk K hrx) ?_
    cases hrk : recOk x with
    | false =>
      have hn := tripsOf_fail hl hx (by simp [hrk])
      simp only [go_sem, Nat.reduceEqDiff, Nat.reduceAdd, Nat.reduceMul, Nat.reduceLeDiff, Int.reduceEq, Int.reduceLT, Int.reduceLE, Int.reduceAdd, Int.reduceSub, Int.reduceNeg, Int.reduceMul, Int.reduceToNat, Int.cast_ofNat_Int, Int.natCast_zero, Nat.add_zero, reduceCtorEq]
      exact hR _ (hQ _ _ (Ends.ret rfl ⟨.emp true, [], by simp [tupOf, hn], hs.less (by simp), by simp only [tripsD, hn, Option.getD_none]; exact .emp⟩))
    | true =>
      simp only [go_sem, Nat.reduceEqDiff, Nat.reduceAdd, Nat.reduceMul, Nat.reduceLeDiff, Int.reduceEq, Int.reduceLT, Int.reduceLE, Int.reduceAdd, Int.reduceSub, Int.reduceNeg, Int.reduceMul, Int.reduceToNat, Int.cast_ofNat_Int, Int.natCast_zero, Nat.add_zero, reduceCtorEq, g0, g4, g5, hlt, e1, e2]
      refine Does.test (does_s_l12May K hr hrx hrk) ?_
      cases hmb : tripMayB l x with
      | false =>
        have hn := tripsOf_fail hl hx (by simp [hmb])
        simp only [go_sem, Nat.reduceEqDiff, Nat.reduceAdd, Nat.reduceMul, Nat.reduceLeDiff, Int.reduceEq, Int.reduceLT, Int.reduceLE, Int.reduceAdd, Int.reduceSub, Int.reduceNeg, Int.reduceMul, Int.reduceToNat, Int.cast_ofNat_Int, Int.natCast_zero, Nat.add_zero, reduceCtorEq]
        exact hR _ (hQ _ _ (Ends.ret rfl ⟨.emp true, [], by simp [tupOf, hn], hs.less (by simp), by simp only [tripsD, hn, Option.getD_none]; exact .emp⟩))
      | true =>
        simp only [go_sem, Nat.reduceEqDiff, Nat.reduceAdd, Nat.reduceMul, Nat.reduceLeDiff, Int.reduceEq, Int.reduceLT, Int.reduceLE, Int.reduceAdd, Int.reduceSub, Int.reduceNeg, Int.reduceMul, Int.reduceToNat, Int.cast_ofNat_Int, Int.natCast_zero, Nat.add_zero, reduceCtorEq, g0, g4, g5, hlt, e1, e2]
        refine Does.call (does_s_l12Do K hr hs.owned hrx (tripsOf_ok hl) hrk hmb) ?_
        rintro _ H1 ⟨c2, F2, rfl, s2, h2⟩
        simp only [go_sem, Nat.reduceEqDiff, Nat.reduceAdd, Nat.reduceMul, Nat.reduceLeDiff, Int.reduceEq, Int.reduceLT, Int.reduceLE, Int.reduceAdd, Int.reduceSub, Int.reduceNeg, Int.reduceMul, Int.reduceToNat, Int.cast_ofNat_Int, Int.natCast_zero, Nat.add_zero, reduceCtorEq, g0, g4, g5, wrap_succ (show i ≤ lenTop by omega)]
        exact hN _ _ (by omega) ⟨i + 1, rfl, by omega, by simp [upd, g0], by simp [upd], _, c2, F2, tripsOf_next hl hx (by simp [hrk, hmb]), by simp [upd], hs.trans s2, h2⟩
  · simp only [go_sem, Nat.reduceEqDiff, Nat.reduceAdd, Nat.reduceMul, Nat.reduceLeDiff, Int.reduceEq, Int.reduceLT, Int.reduceLE, Int.reduceAdd, Int.reduceSub, Int.reduceNeg, Int.reduceMul, Int.reduceToNat, Int.cast_ofNat_Int, Int.natCast_zero, Nat.add_zero, reduceCtorEq, g0, g5, hlt, h1.len]
    refine hE _ _ ?_
    rw [List.take_of_length_le (by omega)] at hl
    simp only [go_sem, Nat.reduceEqDiff, Nat.reduceAdd, Nat.reduceMul, Nat.reduceLeDiff, Int.reduceEq, Int.reduceLT, Int.reduceLE, Int.reduceAdd, Int.reduceSub, Int.reduceNeg, Int.reduceMul, Int.reduceToNat, Int.cast_ofNat_Int, Int.natCast_zero, Nat.add_zero, reduceCtorEq, g4]
    exact hQ _ _ (Ends.ret rfl ⟨c', F', by simp [tupOf, hl], hs, by simp only [tripsD, hl, Option.getD_some]; exact hr⟩)
theorem does_i_TripsOf (K : Codes P I) {H : Heap} {c : C} {recs : List Rec} {F : List Nat} (h : Recs H c recs F) :
    Does P I.i_TripsOf [.c c] H fun v H' => ∃ c' F', v = .tup [.c c', .c (.bool (tripsOf recs).isSome)] ∧ Step [] H H' F' ∧ Trips H' c' (tripsD recs) F' := by
  refine K.does K.i_TripsOf rfl fun Q hQ => ?_
  have htop := h.top
  simp only [go_sem, Nat.reduceEqDiff, Nat.reduceAdd, Nat.reduceMul, Nat.reduceLeDiff, Int.reduceEq, Int.reduceLT, Int.reduceLE, Int.reduceAdd, Int.reduceSub, Int.reduceNeg, Int.reduceMul, Int.reduceToNat, Int.cast_ofNat_Int, Int.natCast_zero, Nat.add_zero, reduceCtorEq, L_i_TripsOf]
  refine RU_loop (fun m s => ∃ i : Nat, m = recs.length + 1 - i ∧ i ≤ recs.length ∧ s.env 0 = .val (.c c) ∧ s.env 6 = .val (int i) ∧ ((∃ l c' F', tripsOf (recs.take i) = some l ∧ s.env 4 = .val (.c c') ∧ s.env 5 = bool true ∧ Step [] H s.H F' ∧ Trips s.H c' l F') ∨ (tripsOf recs = none ∧ s.env 5 = bool false ∧ ∃ c' F', s.env 4 = .val (.c c') ∧ Step [] H s.H F' ∧ Trips s.H c' [] F'))) (recs.length + 1)
    ⟨0, by simp, by simp, rfl, rfl, .inl ⟨[], .nil, [], rfl, rfl, rfl, Step.refl H, .nil⟩⟩ ?_
  rintro m s ⟨i, rfl, hi, g0, g6, hc⟩ Q' hN hE hR
  rcases hc with ⟨l, c', F', hl, g4, g5, hs, hr⟩ | ⟨hn, g5, c', F', g4, hs, hr⟩
  · have h1 := hs.keepSl RRec.good h fun b _ => by simp
    by_cases hlt : (i : Int) < recs.length
    · obtain ⟨x, hx⟩ := get_lt hlt
      obtain ⟨b1, o1, bs1, cs1, f1, rfl, e1, e2, hrx, hcl, _⟩ := h1.get hx
      obtain ⟨y0, y1, y2, rfl⟩ := len3 hcl
      simp only [go_sem, Nat.reduceEqDiff, Nat.reduceAdd, Nat.reduceMul, Nat.reduceLeDiff, Int.reduceEq, Int.reduceLT, Int.reduceLE, Int.reduceAdd, Int.reduceSub, Int.reduceNeg, Int.reduceMul, Int.reduceToNat, Int.cast_ofNat_Int, Int.natCast_zero, Nat.add_zero, reduceCtorEq, g0, g4, g5, g6, hlt, e1, e2]
      refine Does.call (does_i_TripsDo K hr hrx) ?_
      rintro _ H1 ⟨c2, F2, rfl, s2, h2⟩
      have hok := tripsOf_ok hl
      have hmay : tripsMay l x = (recOk x && tripMayB l x) := by simp [tripsMay, hok]
      have t2 : Step [] H H1 F2 := (hs.with s2).less (by simp)
      simp only [go_sem, Nat.reduceEqDiff, Nat.reduceAdd, Nat.reduceMul, Nat.reduceLeDiff, Int.reduceEq, Int.reduceLT, Int.reduceLE, Int.reduceAdd, Int.reduceSub, Int.reduceNeg, Int.reduceMul, Int.reduceToNat, Int.cast_ofNat_Int, Int.natCast_zero, Nat.add_zero, reduceCtorEq, g0, g4, g5, g6, wrap_succ (show i ≤ lenTop by omega)]
      cases hg : (recOk x && tripMayB l x) with
      | true =>
        refine hN _ _ (by omega) ⟨i + 1, rfl, by omega, by simp [upd, g0], by simp [upd], .inl ⟨_, c2, F2, tripsOf_next hl hx hg, by simp [upd], by simp [upd, hmay, hg], t2, ?_⟩⟩
        rw [tripsDoV, if_pos (by rw [hmay, hg])] at h2; exact h2
      | false =>
        refine hN _ _ (by omega) ⟨i + 1, rfl, by omega, by simp [upd, g0], by simp [upd], .inr ⟨tripsOf_fail hl hx hg, by simp [upd, hmay, hg], c2, F2, by simp [upd], t2, ?_⟩⟩
        rw [tripsDoV, if_neg (by rw [hmay, hg]; simp)] at h2; exact h2
    · simp only [go_sem, Nat.reduceEqDiff, Nat.reduceAdd, Nat.reduceMul, Nat.reduceLeDiff, Int.reduceEq, Int.reduceLT, Int.reduceLE, Int.reduceAdd, Int.reduceSub, Int.reduceNeg, Int.reduceMul, Int.reduceToNat, Int.cast_ofNat_Int, Int.natCast_zero, Nat.add_zero, reduceCtorEq, g0, g4, g5, g6, hlt, h1.len]
      refine hE _ _ ?_
      rw [List.take_of_length_le (by omega)] at hl
      simp only [go_sem, Nat.reduceEqDiff, Nat.reduceAdd, Nat.reduceMul, Nat.reduceLeDiff, Int.reduceEq, Int.reduceLT, Int.reduceLE, Int.reduceAdd, Int.reduceSub, Int.reduceNeg, Int.reduceMul, Int.reduceToNat, Int.cast_ofNat_Int, Int.natCast_zero, Nat.add_zero, reduceCtorEq, g4, g5]
      exact hQ _ _ (Ends.ret rfl ⟨c', F', by simp [tupOf, hl], hs, by simp only [tripsD, hl, Option.getD_some]; exact hr⟩)
  · simp only [go_sem, Nat.reduceEqDiff, Nat.reduceAdd, Nat.reduceMul, Nat.reduceLeDiff, Int.reduceEq, Int.reduceLT, Int.reduceLE, Int.reduceAdd, Int.reduceSub, Int.reduceNeg, Int.reduceMul, Int.reduceToNat, Int.cast_ofNat_Int, Int.natCast_zero, Nat.add_zero, reduceCtorEq, g0, g4, g5, g6]
    refine hE _ _ ?_
    simp only [go_sem, Nat.reduceEqDiff, Nat.reduceAdd, Nat.reduceMul, Nat.reduceLeDiff, Int.reduceEq, Int.reduceLT, Int.reduceLE, Int.reduceAdd, Int.reduceSub, Int.reduceNeg, Int.reduceMul, Int.reduceToNat, Int.cast_ofNat_Int, Int.natCast_zero, Nat.add_zero, reduceCtorEq, g4, g5]
    exact hQ _ _ (Ends.ret rfl ⟨c', F', by simp [tupOf, hn], hs, by simp only [tripsD, hn, Option.getD_none]; exact hr⟩)
end Go.AX

/- Stocks and words: the program and the reference do the same. Condition: the data lie in memory. -/
namespace Go.AX
variable {P : Program} {I : Ids}
theorem own_live {H : Heap} {b n : Nat} {bs : List C} (h : H.own b = some (n, bs)) : H.live b = some bs := by
  unfold Heap.own at h
  unfold Heap.live
  split at h
  · rename_i heq; rw [heq]; simp only [Option.some.injEq, Prod.mk.injEq] at h; rw [h.2]
  · cases h
/-- To write a hold whole. -/
theorem hold_set {H : Heap} {c : C} {l : List Hold} {F : List Nat} (h : Holds' H c l F) (ho : Owned H F) {i : Nat} {x : Hold} (hi : l[i]? = some x) (y : Hold) :
    ∃ b off bs H', c = .sl b off l.length ∧ H.own b = some (2, bs) ∧ off + i * 2 + 2 ≤ bs.length ∧ H.wr b (splice bs (off + i * 2) [.int .i64 y.many, .int .i64 y.state]) = H' ∧ Holds' H' c (l.set i y) F ∧ Step F H H' F := by
  obtain ⟨b, off, bs, H', e1, e2, e3, e4, e5, e6⟩ := sl_put RHold.good h ho hi 0 [.int .i64 y.many, .int .i64 y.state] (by simp) y (fun H' cs f hr hl => by
    obtain ⟨rfl, rfl⟩ := hr
    exact ⟨by simp [splice], rfl⟩)
  exact ⟨b, off, bs, H', e1, e2, by simpa using e3, by simpa using e4, e5, e6⟩
/-- To write a hold's state. -/
theorem hold_st {H : Heap} {c : C} {l : List Hold} {F : List Nat} (h : Holds' H c l F) (ho : Owned H F) {i : Nat} {x : Hold} (hi : l[i]? = some x) (v : Int) :
    ∃ b off bs H', c = .sl b off l.length ∧ H.own b = some (2, bs) ∧ off + i * 2 + 1 + 1 ≤ bs.length ∧ H.wr b (splice bs (off + i * 2 + 1) [.int .i64 v]) = H' ∧ Holds' H' c (l.set i ⟨x.many, v⟩) F ∧ Step F H H' F := by
  obtain ⟨b, off, bs, H', e1, e2, e3, e4, e5, e6⟩ := sl_put RHold.good h ho hi 1 [.int .i64 v] (by simp) ⟨x.many, v⟩ (fun H' cs f hr hl => by
    obtain ⟨rfl, rfl⟩ := hr
    exact ⟨by simp [splice], rfl⟩)
  exact ⟨b, off, bs, H', e1, e2, e3, e4, e5, e6⟩
theorem hadAll_snoc {hs : List Hold} {h : Hold} : hadAll (hs ++ [h]) = hadAll hs + had h := by
  induction hs with
  | nil => simp [hadAll]
  | cons x r ih => simp only [List.cons_append, hadAll, ih]; omega
theorem had_bound {h : Hold} (hk : holdOk h = true) : 0 ≤ had h ∧ had h ≤ 3 := by
  unfold had holdOk at *
  (repeat' split at hk) <;> (try split) <;> simp_all [inB] <;> omega
theorem hadAll_bound {hs : List Hold} (h : ∀ x ∈ hs, holdOk x = true) : 0 ≤ hadAll hs ∧ hadAll hs ≤ 3 * hs.length := by
  induction hs with
  | nil => simp [hadAll]
  | cons x r ih =>
    have h1 := ih fun y hy => h y (by simp [hy])
    have h2 := had_bound (h x (by simp))
    simp only [hadAll, List.length_cons]; omega
theorem does_i_Hold_ok (K : Codes P I) {H : Heap} {a b : Int} : Does P I.i_Hold_ok [.agg [.int .i64 a, .int .i64 b]] H fun v H' => v = bool (holdOk ⟨a, b⟩) ∧ H' = H := by
  refine K.does K.i_Hold_ok rfl fun Q hQ => ?_
  by_cases h0 : b = 0
  · simp only [go_sem, Nat.reduceEqDiff, Nat.reduceAdd, Nat.reduceMul, Nat.reduceLeDiff, Int.reduceEq, Int.reduceLT, Int.reduceLE, Int.reduceAdd, Int.reduceSub, Int.reduceNeg, Int.reduceMul, Int.reduceToNat, Int.cast_ofNat_Int, Int.natCast_zero, Nat.add_zero, reduceCtorEq, L_i_Hold_ok, h0]
    exact hQ _ _ (Ends.ret rfl ⟨by simp [tupOf, holdOk, h0], rfl⟩)
  · by_cases h1 : b = 1
    · simp only [go_sem, Nat.reduceEqDiff, Nat.reduceAdd, Nat.reduceMul, Nat.reduceLeDiff, Int.reduceEq, Int.reduceLT, Int.reduceLE, Int.reduceAdd, Int.reduceSub, Int.reduceNeg, Int.reduceMul, Int.reduceToNat, Int.cast_ofNat_Int, Int.natCast_zero, Nat.add_zero, reduceCtorEq, L_i_Hold_ok, h0, h1]
      refine Does.test (does_i_in K) ?_
      simp only [go_sem, Nat.reduceEqDiff, Nat.reduceAdd, Nat.reduceMul, Nat.reduceLeDiff, Int.reduceEq, Int.reduceLT, Int.reduceLE, Int.reduceAdd, Int.reduceSub, Int.reduceNeg, Int.reduceMul, Int.reduceToNat, Int.cast_ofNat_Int, Int.natCast_zero, Nat.add_zero, reduceCtorEq]
      exact hQ _ _ (Ends.ret rfl ⟨by simp [tupOf, holdOk, h1], rfl⟩)
    · by_cases h2 : b = 2
      · simp only [go_sem, Nat.reduceEqDiff, Nat.reduceAdd, Nat.reduceMul, Nat.reduceLeDiff, Int.reduceEq, Int.reduceLT, Int.reduceLE, Int.reduceAdd, Int.reduceSub, Int.reduceNeg, Int.reduceMul, Int.reduceToNat, Int.cast_ofNat_Int, Int.natCast_zero, Nat.add_zero, reduceCtorEq, L_i_Hold_ok, h0, h1, h2]
        refine Does.test (does_i_in K) ?_
        simp only [go_sem, Nat.reduceEqDiff, Nat.reduceAdd, Nat.reduceMul, Nat.reduceLeDiff, Int.reduceEq, Int.reduceLT, Int.reduceLE, Int.reduceAdd, Int.reduceSub, Int.reduceNeg, Int.reduceMul, Int.reduceToNat, Int.cast_ofNat_Int, Int.natCast_zero, Nat.add_zero, reduceCtorEq]
        exact hQ _ _ (Ends.ret rfl ⟨by simp [tupOf, holdOk, h2], rfl⟩)
      · by_cases h3 : b = 3
        · simp only [go_sem, Nat.reduceEqDiff, Nat.reduceAdd, Nat.reduceMul, Nat.reduceLeDiff, Int.reduceEq, Int.reduceLT, Int.reduceLE, Int.reduceAdd, Int.reduceSub, Int.reduceNeg, Int.reduceMul, Int.reduceToNat, Int.cast_ofNat_Int, Int.natCast_zero, Nat.add_zero, reduceCtorEq, L_i_Hold_ok, h0, h1, h2, h3]
          refine Does.test (does_i_in K) ?_
          simp only [go_sem, Nat.reduceEqDiff, Nat.reduceAdd, Nat.reduceMul, Nat.reduceLeDiff, Int.reduceEq, Int.reduceLT, Int.reduceLE, Int.reduceAdd, Int.reduceSub, Int.reduceNeg, Int.reduceMul, Int.reduceToNat, Int.cast_ofNat_Int, Int.natCast_zero, Nat.add_zero, reduceCtorEq]
          exact hQ _ _ (Ends.ret rfl ⟨by simp [tupOf, holdOk, h3], rfl⟩)
        · simp only [go_sem, Nat.reduceEqDiff, Nat.reduceAdd, Nat.reduceMul, Nat.reduceLeDiff, Int.reduceEq, Int.reduceLT, Int.reduceLE, Int.reduceAdd, Int.reduceSub, Int.reduceNeg, Int.reduceMul, Int.reduceToNat, Int.cast_ofNat_Int, Int.natCast_zero, Nat.add_zero, reduceCtorEq, L_i_Hold_ok, h0, h1, h2, h3]
          exact hQ _ _ (Ends.ret rfl ⟨by simp [tupOf, holdOk, h0, h1, h2, h3], rfl⟩)
theorem does_i_StockOk_1 (K : Codes P I) {H : Heap} {cs : List C} {h : Hold} {F : List Nat} (hr : RHold H cs h F) : Tests P I.i_StockOk_1 H (.agg cs) (!holdOk h) := by
  obtain ⟨rfl, rfl⟩ := hr
  refine K.does K.i_StockOk_1 rfl fun Q hQ => ?_
  simp only [go_sem, Nat.reduceEqDiff, Nat.reduceAdd, Nat.reduceMul, Nat.reduceLeDiff, Int.reduceEq, Int.reduceLT, Int.reduceLE, Int.reduceAdd, Int.reduceSub, Int.reduceNeg, Int.reduceMul, Int.reduceToNat, Int.cast_ofNat_Int, Int.natCast_zero, Nat.add_zero, reduceCtorEq, L_i_StockOk_1]
  refine Does.test (does_i_Hold_ok K) ?_
  simp only [go_sem, Nat.reduceEqDiff, Nat.reduceAdd, Nat.reduceMul, Nat.reduceLeDiff, Int.reduceEq, Int.reduceLT, Int.reduceLE, Int.reduceAdd, Int.reduceSub, Int.reduceNeg, Int.reduceMul, Int.reduceToNat, Int.cast_ofNat_Int, Int.natCast_zero, Nat.add_zero, reduceCtorEq]
  exact hQ _ _ (Ends.ret rfl ⟨rfl, rfl⟩)
theorem does_i_Stock_free (K : Codes P I) {H : Heap} {cs : List C} {s : Stock} {F : List Nat} (h : RStock H cs s F) (hroom : 0 ≤ s.room ∧ s.room ≤ 9) (hlen : s.holds.length = 6) (hall : ∀ x ∈ s.holds, holdOk x = true) : Does P I.i_Stock_free [.agg cs] H fun v H' => v = .val (int (freeS s)) ∧ H' = H := by
  obtain ⟨c, rfl, hc⟩ := h
  refine K.does K.i_Stock_free rfl fun Q hQ => ?_
  simp only [go_sem, Nat.reduceEqDiff, Nat.reduceAdd, Nat.reduceMul, Nat.reduceLeDiff, Int.reduceEq, Int.reduceLT, Int.reduceLE, Int.reduceAdd, Int.reduceSub, Int.reduceNeg, Int.reduceMul, Int.reduceToNat, Int.cast_ofNat_Int, Int.natCast_zero, Nat.add_zero, reduceCtorEq, L_i_Stock_free, hc.len]
  refine RU_loop (fun m t => ∃ i : Nat, m = 6 - i ∧ i ≤ 6 ∧ t.H = H ∧ t.env 9 = .val (.c c) ∧ t.env 10 = .val (int s.holds.length) ∧ t.env 11 = .val (int i) ∧ t.env 3 = .val (int (s.room - hadAll (s.holds.take i)))) 6 ⟨0, rfl, by omega, rfl, rfl, rfl, rfl, by simp [upd, hadAll]⟩ ?_
  rintro m t ⟨i, rfl, hi, hH, g9, g10, g11, g3⟩ Q' hN hE hR
  by_cases hlt : (i : Int) < s.holds.length
  · obtain ⟨x, hx⟩ := get_lt hlt
    obtain ⟨b1, o1, bs1, cs1, f1, rfl, e1, e2, ⟨rfl, _⟩, _, _⟩ := hc.get hx
    have hb := hadAll_bound (hs := s.holds.take (i + 1)) fun y hy => hall y (List.mem_of_mem_take hy)
    have hbl : (s.holds.take (i + 1)).length ≤ 6 := by simp; omega
    have hsn : hadAll (s.holds.take (i + 1)) = hadAll (s.holds.take i) + had x := by rw [take_snoc hx, hadAll_snoc]
    have hwi := wrap_succ (show i ≤ lenTop by unfold lenTop; omega)
    by_cases s1 : x.state = 1
    · have hh : had x = x.many := by simp [had, s1]
      have hw : IntKind.wrap .i64 (s.room - hadAll (s.holds.take i) - x.many) = s.room - hadAll (s.holds.take i) - x.many := wrap_i64 (by omega) (by omega)
      simp only [go_sem, Nat.reduceEqDiff, Nat.reduceAdd, Nat.reduceMul, Nat.reduceLeDiff, Int.reduceEq, Int.reduceLT, Int.reduceLE, Int.reduceAdd, Int.reduceSub, Int.reduceNeg, Int.reduceMul, Int.reduceToNat, Int.cast_ofNat_Int, Int.natCast_zero, Nat.add_zero, reduceCtorEq, g3, g9, g10, g11, hlt, hH, e1, e2, s1, hw, hwi]
      exact hN _ _ (by omega) ⟨i + 1, rfl, by omega, by simp [hH], by simp [upd, g9], by simp [upd, g10], by simp [upd], by simp [upd, hsn, hh]; omega⟩
    · by_cases s2 : x.state = 2
      · have hh : had x = x.many := by simp [had, s2]
        have hw : IntKind.wrap .i64 (s.room - hadAll (s.holds.take i) - x.many) = s.room - hadAll (s.holds.take i) - x.many := wrap_i64 (by omega) (by omega)
        simp only [go_sem, Nat.reduceEqDiff, Nat.reduceAdd, Nat.reduceMul, Nat.reduceLeDiff, Int.reduceEq, Int.reduceLT, Int.reduceLE, Int.reduceAdd, Int.reduceSub, Int.reduceNeg, Int.reduceMul, Int.reduceToNat, Int.cast_ofNat_Int, Int.natCast_zero, Nat.add_zero, reduceCtorEq, g3, g9, g10, g11, hlt, hH, e1, e2, s1, s2, hw, hwi]
        exact hN _ _ (by omega) ⟨i + 1, rfl, by omega, by simp [hH], by simp [upd, g9], by simp [upd, g10], by simp [upd], by simp [upd, hsn, hh]; omega⟩
      · have hh : had x = 0 := by simp [had, s1, s2]
        simp only [go_sem, Nat.reduceEqDiff, Nat.reduceAdd, Nat.reduceMul, Nat.reduceLeDiff, Int.reduceEq, Int.reduceLT, Int.reduceLE, Int.reduceAdd, Int.reduceSub, Int.reduceNeg, Int.reduceMul, Int.reduceToNat, Int.cast_ofNat_Int, Int.natCast_zero, Nat.add_zero, reduceCtorEq, g3, g9, g10, g11, hlt, hH, e1, e2, s1, s2, hwi]
        exact hN _ _ (by omega) ⟨i + 1, rfl, by omega, by simp [hH], by simp [upd, g9], by simp [upd, g10], by simp [upd], by simp [upd, g3, hsn, hh]⟩
  · simp only [go_sem, Nat.reduceEqDiff, Nat.reduceAdd, Nat.reduceMul, Nat.reduceLeDiff, Int.reduceEq, Int.reduceLT, Int.reduceLE, Int.reduceAdd, Int.reduceSub, Int.reduceNeg, Int.reduceMul, Int.reduceToNat, Int.cast_ofNat_Int, Int.natCast_zero, Nat.add_zero, reduceCtorEq, g10, g11, hlt, hH]
    refine hE _ _ ?_
    rw [List.take_of_length_le (by omega)] at g3
    simp only [go_sem, Nat.reduceEqDiff, Nat.reduceAdd, Nat.reduceMul, Nat.reduceLeDiff, Int.reduceEq, Int.reduceLT, Int.reduceLE, Int.reduceAdd, Int.reduceSub, Int.reduceNeg, Int.reduceMul, Int.reduceToNat, Int.cast_ofNat_Int, Int.natCast_zero, Nat.add_zero, reduceCtorEq, g3]
    exact hQ _ _ (Ends.ret rfl ⟨rfl, rfl⟩)
theorem does_s_l2Free (K : Codes P I) {H : Heap} {cs : List C} {s : Stock} {F : List Nat} (h : RStock H cs s F) (hroom : 0 ≤ s.room ∧ s.room ≤ 9) (hlen : s.holds.length = 6) (hall : ∀ x ∈ s.holds, holdOk x = true) : Does P I.s_l2Free [.agg cs] H fun v H' => v = .val (int (freeS s)) ∧ H' = H := by
  obtain ⟨c, rfl, hc⟩ := h
  refine K.does K.s_l2Free rfl fun Q hQ => ?_
  simp only [go_sem, Nat.reduceEqDiff, Nat.reduceAdd, Nat.reduceMul, Nat.reduceLeDiff, Int.reduceEq, Int.reduceLT, Int.reduceLE, Int.reduceAdd, Int.reduceSub, Int.reduceNeg, Int.reduceMul, Int.reduceToNat, Int.cast_ofNat_Int, Int.natCast_zero, Nat.add_zero, reduceCtorEq, L_s_l2Free]
  refine RU_loop (fun m t => ∃ i : Nat, m = 6 - i ∧ i ≤ 6 ∧ t.H = H ∧ t.env 1 = .box [.int .i64 s.room, c] ∧ t.env 4 = .val (int i) ∧ t.env 3 = .val (int (s.room - hadAll (s.holds.take i)))) 6 ⟨0, rfl, by omega, rfl, rfl, rfl, by simp [upd, hadAll]⟩ ?_
  rintro m t ⟨i, rfl, hi, hH, g1, g4, g3⟩ Q' hN hE hR
  by_cases hlt : (i : Int) < s.holds.length
  · obtain ⟨x, hx⟩ := get_lt hlt
    obtain ⟨b1, o1, bs1, cs1, f1, rfl, e1, e2, ⟨rfl, _⟩, _, _⟩ := hc.get hx
    have hb := hadAll_bound (hs := s.holds.take (i + 1)) fun y hy => hall y (List.mem_of_mem_take hy)
    have hbl : (s.holds.take (i + 1)).length ≤ 6 := by simp; omega
    have hsn : hadAll (s.holds.take (i + 1)) = hadAll (s.holds.take i) + had x := by rw [take_snoc hx, hadAll_snoc]
    have hwi := wrap_succ (show i ≤ lenTop by unfold lenTop; omega)
    have ld0 := slab_sub0 e2 1 (by simp)
    have ld1 := slab_sub e2 1 1 (by simp)
    simp only [slabAt1, slabSkip1] at ld0 ld1
    by_cases s1 : x.state = 1
    · have hh : had x = x.many := by simp [had, s1]
      have hw : IntKind.wrap .i64 (s.room - hadAll (s.holds.take i) - x.many) = s.room - hadAll (s.holds.take i) - x.many := wrap_i64 (by omega) (by omega)
      simp only [go_sem, Nat.reduceEqDiff, Nat.reduceAdd, Nat.reduceMul, Nat.reduceLeDiff, Int.reduceEq, Int.reduceLT, Int.reduceLE, Int.reduceAdd, Int.reduceSub, Int.reduceNeg, Int.reduceMul, Int.reduceToNat, Int.cast_ofNat_Int, Int.natCast_zero, Nat.add_zero, reduceCtorEq, g1, g3, g4, hlt, hH, e1, ld0, ld1, s1, hw, hwi]
      exact hN _ _ (by omega) ⟨i + 1, rfl, by omega, by simp [hH], by simp [upd, g1], by simp [upd], by simp [upd, hsn, hh]; omega⟩
    · by_cases s2 : x.state = 2
      · have hh : had x = x.many := by simp [had, s2]
        have hw : IntKind.wrap .i64 (s.room - hadAll (s.holds.take i) - x.many) = s.room - hadAll (s.holds.take i) - x.many := wrap_i64 (by omega) (by omega)
        simp only [go_sem, Nat.reduceEqDiff, Nat.reduceAdd, Nat.reduceMul, Nat.reduceLeDiff, Int.reduceEq, Int.reduceLT, Int.reduceLE, Int.reduceAdd, Int.reduceSub, Int.reduceNeg, Int.reduceMul, Int.reduceToNat, Int.cast_ofNat_Int, Int.natCast_zero, Nat.add_zero, reduceCtorEq, g1, g3, g4, hlt, hH, e1, ld0, ld1, s1, s2, hw, hwi]
        exact hN _ _ (by omega) ⟨i + 1, rfl, by omega, by simp [hH], by simp [upd, g1], by simp [upd], by simp [upd, hsn, hh]; omega⟩
      · have hh : had x = 0 := by simp [had, s1, s2]
        simp only [go_sem, Nat.reduceEqDiff, Nat.reduceAdd, Nat.reduceMul, Nat.reduceLeDiff, Int.reduceEq, Int.reduceLT, Int.reduceLE, Int.reduceAdd, Int.reduceSub, Int.reduceNeg, Int.reduceMul, Int.reduceToNat, Int.cast_ofNat_Int, Int.natCast_zero, Nat.add_zero, reduceCtorEq, g1, g3, g4, hlt, hH, e1, ld0, ld1, s1, s2, hwi]
        exact hN _ _ (by omega) ⟨i + 1, rfl, by omega, by simp [hH], by simp [upd, g1], by simp [upd], by simp [upd, g3, hsn, hh]⟩
  · simp only [go_sem, Nat.reduceEqDiff, Nat.reduceAdd, Nat.reduceMul, Nat.reduceLeDiff, Int.reduceEq, Int.reduceLT, Int.reduceLE, Int.reduceAdd, Int.reduceSub, Int.reduceNeg, Int.reduceMul, Int.reduceToNat, Int.cast_ofNat_Int, Int.natCast_zero, Nat.add_zero, reduceCtorEq, g1, g4, hlt, hH, hc.len]
    refine hE _ _ ?_
    rw [List.take_of_length_le (by omega)] at g3
    simp only [go_sem, Nat.reduceEqDiff, Nat.reduceAdd, Nat.reduceMul, Nat.reduceLeDiff, Int.reduceEq, Int.reduceLT, Int.reduceLE, Int.reduceAdd, Int.reduceSub, Int.reduceNeg, Int.reduceMul, Int.reduceToNat, Int.cast_ofNat_Int, Int.natCast_zero, Nat.add_zero, reduceCtorEq, g3]
    exact hQ _ _ (Ends.ret rfl ⟨rfl, rfl⟩)
theorem does_i_StockOk (K : Codes P I) {H : Heap} {cs : List C} {s : Stock} {F : List Nat} (h : RStock H cs s F) : Does P I.i_StockOk [.agg cs] H fun v H' => v = bool (stockOk s) ∧ H' = H := by
  have h0 := h
  obtain ⟨c, rfl, hc⟩ := h
  refine K.does K.i_StockOk rfl fun Q hQ => ?_
  simp only [go_sem, Nat.reduceEqDiff, Nat.reduceAdd, Nat.reduceMul, Nat.reduceLeDiff, Int.reduceEq, Int.reduceLT, Int.reduceLE, Int.reduceAdd, Int.reduceSub, Int.reduceNeg, Int.reduceMul, Int.reduceToNat, Int.cast_ofNat_Int, Int.natCast_zero, Nat.add_zero, reduceCtorEq, L_i_StockOk]
  refine Does.test (does_i_in K) ?_
  cases hroom : inB s.room 0 9 with
  | false =>
    simp only [go_sem, Nat.reduceEqDiff, Nat.reduceAdd, Nat.reduceMul, Nat.reduceLeDiff, Int.reduceEq, Int.reduceLT, Int.reduceLE, Int.reduceAdd, Int.reduceSub, Int.reduceNeg, Int.reduceMul, Int.reduceToNat, Int.cast_ofNat_Int, Int.natCast_zero, Nat.add_zero, reduceCtorEq]
    exact hQ _ _ (Ends.ret rfl ⟨by simp [tupOf, stockOk, hroom], rfl⟩)
  | true =>
    by_cases hlen : (s.holds.length : Int) = 6
    · have hlen' : s.holds.length = 6 := by omega
      simp only [go_sem, Nat.reduceEqDiff, Nat.reduceAdd, Nat.reduceMul, Nat.reduceLeDiff, Int.reduceEq, Int.reduceLT, Int.reduceLE, Int.reduceAdd, Int.reduceSub, Int.reduceNeg, Int.reduceMul, Int.reduceToNat, Int.cast_ofNat_Int, Int.natCast_zero, Nat.add_zero, reduceCtorEq, hc.len, hlen]
      refine Does.test (does_g_ContainsFunc_Hold K hc (fun h => !holdOk h) fun cs x f' _ hr _ => does_i_StockOk_1 K hr) ?_
      cases hall : s.holds.all holdOk with
      | false =>
        simp only [go_sem, Nat.reduceEqDiff, Nat.reduceAdd, Nat.reduceMul, Nat.reduceLeDiff, Int.reduceEq, Int.reduceLT, Int.reduceLE, Int.reduceAdd, Int.reduceSub, Int.reduceNeg, Int.reduceMul, Int.reduceToNat, Int.cast_ofNat_Int, Int.natCast_zero, Nat.add_zero, reduceCtorEq, any_not', hall]
        exact hQ _ _ (Ends.ret rfl ⟨by simp [tupOf, stockOk, hall], rfl⟩)
      | true =>
        simp only [go_sem, Nat.reduceEqDiff, Nat.reduceAdd, Nat.reduceMul, Nat.reduceLeDiff, Int.reduceEq, Int.reduceLT, Int.reduceLE, Int.reduceAdd, Int.reduceSub, Int.reduceNeg, Int.reduceMul, Int.reduceToNat, Int.cast_ofNat_Int, Int.natCast_zero, Nat.add_zero, reduceCtorEq, any_not', hall]
        refine Does.test (does_i_Stock_free K h0 (by simpa [inB] using hroom) hlen' (List.all_eq_true.1 hall)) ?_
        simp only [go_sem, Nat.reduceEqDiff, Nat.reduceAdd, Nat.reduceMul, Nat.reduceLeDiff, Int.reduceEq, Int.reduceLT, Int.reduceLE, Int.reduceAdd, Int.reduceSub, Int.reduceNeg, Int.reduceMul, Int.reduceToNat, Int.cast_ofNat_Int, Int.natCast_zero, Nat.add_zero, reduceCtorEq]
        exact hQ _ _ (Ends.ret rfl ⟨by simp [tupOf, stockOk, hroom, hlen', hall], rfl⟩)
    · have hlen' : ¬ s.holds.length = 6 := by omega
      simp only [go_sem, Nat.reduceEqDiff, Nat.reduceAdd, Nat.reduceMul, Nat.reduceLeDiff, Int.reduceEq, Int.reduceLT, Int.reduceLE, Int.reduceAdd, Int.reduceSub, Int.reduceNeg, Int.reduceMul, Int.reduceToNat, Int.cast_ofNat_Int, Int.natCast_zero, Nat.add_zero, reduceCtorEq, hc.len, hlen]
      exact hQ _ _ (Ends.ret rfl ⟨by simp [tupOf, stockOk, hlen'], rfl⟩)
end Go.AX

/- What records do to stocks: the program and the reference do the same. Condition: the data lie in memory. -/
namespace Go.AX
variable {P : Program} {I : Ids}
theorem RHold.cells {H : Heap} {cs : List C} {x : Hold} {F : List Nat} (h : RHold H cs x F) : cs.length = 2 := by rw [h.1]; rfl
theorem stock_at {s : Stock} {r : Rec} (hs : stockOk s = true) (hr : recOk r = true) : ∃ i, (r.trip - 1).toNat = i ∧ r.trip = (i : Nat) + 1 ∧ i < s.holds.length ∧ s.holds[i]? = some (holdAt s r.trip) ∧ IntKind.wrap .i64 (r.trip - 1) = (i : Int) ∧ (i : Int) < s.holds.length := by
  obtain ⟨_, hlen, _, _⟩ := stockOk_parts hs
  have ht := recOk_trip hr
  refine ⟨(r.trip - 1).toNat, rfl, by omega, by omega, holdAt_get hlen ht.1 ht.2, ?_, by omega⟩
  rw [wrap_i64 (by omega) (by omega)]; omega
theorem does_i_StockMay (K : Codes P I) {H : Heap} {cs ds : List C} {s : Stock} {r : Rec} {F G : List Nat} (h : RStock H cs s F) (hr : RRec H ds r G) : Does P I.i_StockMay [.agg cs, .agg ds] H fun v H' => v = bool (stockMay s r) ∧ H' = H := by
  have h0 := h
  have hr0 := hr
  obtain ⟨c, rfl, hc⟩ := h
  obtain ⟨cm, rfl, hm⟩ := hr
  refine K.does K.i_StockMay rfl fun Q hQ => ?_
  simp only [go_sem, Nat.reduceEqDiff, Nat.reduceAdd, Nat.reduceMul, Nat.reduceLeDiff, Int.reduceEq, Int.reduceLT, Int.reduceLE, Int.reduceAdd, Int.reduceSub, Int.reduceNeg, Int.reduceMul, Int.reduceToNat, Int.cast_ofNat_Int, Int.natCast_zero, Nat.add_zero, reduceCtorEq, L_i_StockMay]
  refine Does.test (does_i_StockOk K h0) ?_
  cases hok : stockOk s with
  | false =>
    simp only [go_sem, Nat.reduceEqDiff, Nat.reduceAdd, Nat.reduceMul, Nat.reduceLeDiff, Int.reduceEq, Int.reduceLT, Int.reduceLE, Int.reduceAdd, Int.reduceSub, Int.reduceNeg, Int.reduceMul, Int.reduceToNat, Int.cast_ofNat_Int, Int.natCast_zero, Nat.add_zero, reduceCtorEq]
    exact hQ _ _ (Ends.ret rfl ⟨by simp [tupOf, stockMay, hok], rfl⟩)
  | true =>
    simp only [go_sem, Nat.reduceEqDiff, Nat.reduceAdd, Nat.reduceMul, Nat.reduceLeDiff, Int.reduceEq, Int.reduceLT, Int.reduceLE, Int.reduceAdd, Int.reduceSub, Int.reduceNeg, Int.reduceMul, Int.reduceToNat, Int.cast_ofNat_Int, Int.natCast_zero, Nat.add_zero, reduceCtorEq]
    refine Does.test (does_i_RecOk K hr0) ?_
    cases hrk : recOk r with
    | false =>
      simp only [go_sem, Nat.reduceEqDiff, Nat.reduceAdd, Nat.reduceMul, Nat.reduceLeDiff, Int.reduceEq, Int.reduceLT, Int.reduceLE, Int.reduceAdd, Int.reduceSub, Int.reduceNeg, Int.reduceMul, Int.reduceToNat, Int.cast_ofNat_Int, Int.natCast_zero, Nat.add_zero, reduceCtorEq]
      exact hQ _ _ (Ends.ret rfl ⟨by simp [tupOf, stockMay, hrk], rfl⟩)
    | true =>
      obtain ⟨hroom, hlen, hall, hfree⟩ := stockOk_parts hok
      obtain ⟨i, q1, q2, q3, q4, q5, q6⟩ := stock_at hok hrk
      obtain ⟨b1, o1, bs1, cs1, f1, rfl, e1, e2, ⟨rfl, _⟩, _, _⟩ := hc.get q4
      have ld1 := slab_sub e2 1 1 (by simp)
      simp only [slabAt1, slabSkip1] at ld1
      by_cases k1 : r.kind = 1
      · obtain ⟨n, hn, _, _⟩ := recOk_hold hrk k1
        rw [hn] at hm
        obtain ⟨b2, o2, bs2, cs2, f2, rfl, g1, g2, ⟨rfl, _⟩, _⟩ := hm.get0
        simp only [Nat.zero_mul, Nat.add_zero] at g2
        simp only [go_sem, Nat.reduceEqDiff, Nat.reduceAdd, Nat.reduceMul, Nat.reduceLeDiff, Int.reduceEq, Int.reduceLT, Int.reduceLE, Int.reduceAdd, Int.reduceSub, Int.reduceNeg, Int.reduceMul, Int.reduceToNat, Int.cast_ofNat_Int, Int.natCast_zero, Nat.add_zero, reduceCtorEq, q5, q6, e1, ld1, k1]
        refine RU_code_regionZ (zOne b2 bs2) (zOne_holds g1) ?_
        by_cases s0 : (holdAt s r.trip).state = 0
        · simp only [go_sem, Nat.reduceEqDiff, Nat.reduceAdd, Nat.reduceMul, Nat.reduceLeDiff, Int.reduceEq, Int.reduceLT, Int.reduceLE, Int.reduceAdd, Int.reduceSub, Int.reduceNeg, Int.reduceMul, Int.reduceToNat, Int.cast_ofNat_Int, Int.natCast_zero, Nat.add_zero, reduceCtorEq, q5, q6, e1, ld1, k1, s0, g1, g2, Int.natCast_one, Int.ofNat_one, Nat.zero_mul, RUh_zOne g1]
          refine Does.test (does_i_Stock_free K h0 hroom hlen hall) ?_
          simp only [go_sem, Nat.reduceEqDiff, Nat.reduceAdd, Nat.reduceMul, Nat.reduceLeDiff, Int.reduceEq, Int.reduceLT, Int.reduceLE, Int.reduceAdd, Int.reduceSub, Int.reduceNeg, Int.reduceMul, Int.reduceToNat, Int.cast_ofNat_Int, Int.natCast_zero, Nat.add_zero, reduceCtorEq, RUh_zOne g1]
          exact hQ _ _ (Ends.ret rfl ⟨by simp [tupOf, stockMay, hok, hrk, stockMayB, k1, s0, first, hn], rfl⟩)
        · simp only [go_sem, Nat.reduceEqDiff, Nat.reduceAdd, Nat.reduceMul, Nat.reduceLeDiff, Int.reduceEq, Int.reduceLT, Int.reduceLE, Int.reduceAdd, Int.reduceSub, Int.reduceNeg, Int.reduceMul, Int.reduceToNat, Int.cast_ofNat_Int, Int.natCast_zero, Nat.add_zero, reduceCtorEq, q5, q6, e1, ld1, k1, s0, RUh_zOne g1]
          exact hQ _ _ (Ends.ret rfl ⟨by simp [tupOf, stockMay, hok, hrk, stockMayB, k1, s0], rfl⟩)
      · by_cases k2 : r.kind = 2
        · simp only [go_sem, Nat.reduceEqDiff, Nat.reduceAdd, Nat.reduceMul, Nat.reduceLeDiff, Int.reduceEq, Int.reduceLT, Int.reduceLE, Int.reduceAdd, Int.reduceSub, Int.reduceNeg, Int.reduceMul, Int.reduceToNat, Int.cast_ofNat_Int, Int.natCast_zero, Nat.add_zero, reduceCtorEq, q5, q6, e1, ld1, k1, k2]
          exact hQ _ _ (Ends.ret rfl ⟨by simp [tupOf, stockMay, hok, hrk, stockMayB, k2], rfl⟩)
        · by_cases k3 : r.kind = 3
          · by_cases s1 : (holdAt s r.trip).state = 1
            · simp only [go_sem, Nat.reduceEqDiff, Nat.reduceAdd, Nat.reduceMul, Nat.reduceLeDiff, Int.reduceEq, Int.reduceLT, Int.reduceLE, Int.reduceAdd, Int.reduceSub, Int.reduceNeg, Int.reduceMul, Int.reduceToNat, Int.cast_ofNat_Int, Int.natCast_zero, Nat.add_zero, reduceCtorEq, q5, q6, e1, ld1, k1, k2, k3, s1]
              exact hQ _ _ (Ends.ret rfl ⟨by simp [tupOf, stockMay, hok, hrk, stockMayB, k3, s1], rfl⟩)
            · simp only [go_sem, Nat.reduceEqDiff, Nat.reduceAdd, Nat.reduceMul, Nat.reduceLeDiff, Int.reduceEq, Int.reduceLT, Int.reduceLE, Int.reduceAdd, Int.reduceSub, Int.reduceNeg, Int.reduceMul, Int.reduceToNat, Int.cast_ofNat_Int, Int.natCast_zero, Nat.add_zero, reduceCtorEq, q5, q6, e1, ld1, k1, k2, k3, s1]
              exact hQ _ _ (Ends.ret rfl ⟨by simp [tupOf, stockMay, hok, hrk, stockMayB, k3, s1], rfl⟩)
          · simp only [go_sem, Nat.reduceEqDiff, Nat.reduceAdd, Nat.reduceMul, Nat.reduceLeDiff, Int.reduceEq, Int.reduceLT, Int.reduceLE, Int.reduceAdd, Int.reduceSub, Int.reduceNeg, Int.reduceMul, Int.reduceToNat, Int.cast_ofNat_Int, Int.natCast_zero, Nat.add_zero, reduceCtorEq, q5, q6, e1, ld1, k1, k2, k3]
            exact hQ _ _ (Ends.ret rfl ⟨by simp [tupOf, stockMay, hok, hrk, stockMayB, k1, k2, k3], rfl⟩)
theorem does_s_l2May (K : Codes P I) {H : Heap} {cs ds : List C} {s : Stock} {r : Rec} {F G : List Nat} (h : RStock H cs s F) (hr : RRec H ds r G) (hok : stockOk s = true) (hrk : recOk r = true) : Does P I.s_l2May [.agg cs, .agg ds] H fun v H' => v = bool (stockMayB s r) ∧ H' = H := by
  have h0 := h
  obtain ⟨c, rfl, hc⟩ := h
  obtain ⟨cm, rfl, hm⟩ := hr
  refine K.does K.s_l2May rfl fun Q hQ => ?_
  obtain ⟨hroom, hlen, hall, hfree⟩ := stockOk_parts hok
  obtain ⟨i, q1, q2, q3, q4, q5, q6⟩ := stock_at hok hrk
  obtain ⟨b1, o1, bs1, cs1, f1, rfl, e1, e2, ⟨rfl, _⟩, _, _⟩ := hc.get q4
  have ld1 := slab_sub e2 1 1 (by simp)
  simp only [slabAt1, slabSkip1] at ld1
  by_cases k1 : r.kind = 1
  · obtain ⟨n, hn, _, _⟩ := recOk_hold hrk k1
    rw [hn] at hm
    obtain ⟨b2, o2, bs2, cs2, f2, rfl, g1, g2, ⟨rfl, _⟩, _⟩ := hm.get0
    simp only [Nat.zero_mul, Nat.add_zero] at g2
    simp only [go_sem, Nat.reduceEqDiff, Nat.reduceAdd, Nat.reduceMul, Nat.reduceLeDiff, Int.reduceEq, Int.reduceLT, Int.reduceLE, Int.reduceAdd, Int.reduceSub, Int.reduceNeg, Int.reduceMul, Int.reduceToNat, Int.cast_ofNat_Int, Int.natCast_zero, Nat.add_zero, reduceCtorEq, L_s_l2May, q5, q6, e1, ld1, k1]
    refine RU_code_regionZ (zOne b2 bs2) (zOne_holds g1) ?_
    by_cases s0 : (holdAt s r.trip).state = 0
    · simp only [go_sem, Nat.reduceEqDiff, Nat.reduceAdd, Nat.reduceMul, Nat.reduceLeDiff, Int.reduceEq, Int.reduceLT, Int.reduceLE, Int.reduceAdd, Int.reduceSub, Int.reduceNeg, Int.reduceMul, Int.reduceToNat, Int.cast_ofNat_Int, Int.natCast_zero, Nat.add_zero, reduceCtorEq, q5, q6, e1, ld1, k1, s0, g1, g2, Int.natCast_one, Int.ofNat_one, Nat.zero_mul, RUh_zOne g1]
      refine Does.test (does_s_l2Free K h0 hroom hlen hall) ?_
      simp only [go_sem, Nat.reduceEqDiff, Nat.reduceAdd, Nat.reduceMul, Nat.reduceLeDiff, Int.reduceEq, Int.reduceLT, Int.reduceLE, Int.reduceAdd, Int.reduceSub, Int.reduceNeg, Int.reduceMul, Int.reduceToNat, Int.cast_ofNat_Int, Int.natCast_zero, Nat.add_zero, reduceCtorEq, RUh_zOne g1]
      exact hQ _ _ (Ends.ret rfl ⟨by simp [tupOf, stockMayB, k1, s0, first, hn], rfl⟩)
    · simp only [go_sem, Nat.reduceEqDiff, Nat.reduceAdd, Nat.reduceMul, Nat.reduceLeDiff, Int.reduceEq, Int.reduceLT, Int.reduceLE, Int.reduceAdd, Int.reduceSub, Int.reduceNeg, Int.reduceMul, Int.reduceToNat, Int.cast_ofNat_Int, Int.natCast_zero, Nat.add_zero, reduceCtorEq, q5, q6, e1, ld1, k1, s0, RUh_zOne g1]
      exact hQ _ _ (Ends.ret rfl ⟨by simp [tupOf, stockMayB, k1, s0], rfl⟩)
  · by_cases k2 : r.kind = 2
    · simp only [go_sem, Nat.reduceEqDiff, Nat.reduceAdd, Nat.reduceMul, Nat.reduceLeDiff, Int.reduceEq, Int.reduceLT, Int.reduceLE, Int.reduceAdd, Int.reduceSub, Int.reduceNeg, Int.reduceMul, Int.reduceToNat, Int.cast_ofNat_Int, Int.natCast_zero, Nat.add_zero, reduceCtorEq, L_s_l2May, q5, q6, e1, ld1, k1, k2]
      exact hQ _ _ (Ends.ret rfl ⟨by simp [tupOf, stockMayB, k2], rfl⟩)
    · by_cases k3 : r.kind = 3
      · by_cases s1 : (holdAt s r.trip).state = 1
        · simp only [go_sem, Nat.reduceEqDiff, Nat.reduceAdd, Nat.reduceMul, Nat.reduceLeDiff, Int.reduceEq, Int.reduceLT, Int.reduceLE, Int.reduceAdd, Int.reduceSub, Int.reduceNeg, Int.reduceMul, Int.reduceToNat, Int.cast_ofNat_Int, Int.natCast_zero, Nat.add_zero, reduceCtorEq, L_s_l2May, q5, q6, e1, ld1, k1, k2, k3, s1]
          exact hQ _ _ (Ends.ret rfl ⟨by simp [tupOf, stockMayB, k3, s1], rfl⟩)
        · simp only [go_sem, Nat.reduceEqDiff, Nat.reduceAdd, Nat.reduceMul, Nat.reduceLeDiff, Int.reduceEq, Int.reduceLT, Int.reduceLE, Int.reduceAdd, Int.reduceSub, Int.reduceNeg, Int.reduceMul, Int.reduceToNat, Int.cast_ofNat_Int, Int.natCast_zero, Nat.add_zero, reduceCtorEq, L_s_l2May, q5, q6, e1, ld1, k1, k2, k3, s1]
          exact hQ _ _ (Ends.ret rfl ⟨by simp [tupOf, stockMayB, k3, s1], rfl⟩)
      · simp only [go_sem, Nat.reduceEqDiff, Nat.reduceAdd, Nat.reduceMul, Nat.reduceLeDiff, Int.reduceEq, Int.reduceLT, Int.reduceLE, Int.reduceAdd, Int.reduceSub, Int.reduceNeg, Int.reduceMul, Int.reduceToNat, Int.cast_ofNat_Int, Int.natCast_zero, Nat.add_zero, reduceCtorEq, L_s_l2May, q5, q6, e1, ld1, k1, k2, k3]
        exact hQ _ _ (Ends.ret rfl ⟨by simp [tupOf, stockMayB, k1, k2, k3], rfl⟩)
def stockDoV (s : Stock) (r : Rec) : Stock := if stockMay s r = true then stockDoL s r else stock0
theorem rstock0 {H : Heap} : RStock H [.int .i64 0, .nil] stock0 [] := ⟨.nil, rfl, .nil⟩
theorem may_kinds {s : Stock} {r : Rec} (h : stockMayB s r = true) (k1 : r.kind ≠ 1) (k2 : r.kind ≠ 2) : r.kind = 3 := by
  unfold stockMayB at h
  rw [if_neg k1, if_neg k2] at h
  split at h
  · assumption
  · cases h
theorem stockDoL_set {s : Stock} {r : Rec} {i : Nat} (h : (r.trip - 1).toNat = i) : stockDoL s r = ⟨s.room, s.holds.set i (holdDo (holdAt s r.trip) r)⟩ := by unfold stockDoL; rw [h]
set_option maxHeartbeats 1000000 in
theorem does_i_StockDo (K : Codes P I) {H : Heap} {cs ds : List C} {s : Stock} {r : Rec} {F G : List Nat} (h : RStock H cs s F) (hr : RRec H ds r G) : Does P I.i_StockDo [.agg cs, .agg ds] H fun v H' => ∃ cs' F', v = .tup [.agg cs', .c (.bool (stockMay s r))] ∧ Step [] H H' F' ∧ RStock H' cs' (stockDoV s r) F' := by
  have h0 := h
  have hr0 := hr
  obtain ⟨c, rfl, hc⟩ := h
  obtain ⟨cm, rfl, hm⟩ := hr
  refine K.does K.i_StockDo rfl fun Q hQ => ?_
  simp only [go_sem, Nat.reduceEqDiff, Nat.reduceAdd, Nat.reduceMul, Nat.reduceLeDiff, Int.reduceEq, Int.reduceLT, Int.reduceLE, Int.reduceAdd, Int.reduceSub, Int.reduceNeg, Int.reduceMul, Int.reduceToNat, Int.cast_ofNat_Int, Int.natCast_zero, Nat.add_zero, reduceCtorEq, L_i_StockDo]
  refine Does.test (does_i_StockMay K h0 hr0) ?_
  cases hmay : stockMay s r with
  | false =>
    simp only [go_sem, Nat.reduceEqDiff, Nat.reduceAdd, Nat.reduceMul, Nat.reduceLeDiff, Int.reduceEq, Int.reduceLT, Int.reduceLE, Int.reduceAdd, Int.reduceSub, Int.reduceNeg, Int.reduceMul, Int.reduceToNat, Int.cast_ofNat_Int, Int.natCast_zero, Nat.add_zero, reduceCtorEq]
    exact hQ _ _ (Ends.ret rfl ⟨[.int .i64 0, .nil], [], by simp [tupOf, hmay], Step.refl H, by rw [stockDoV, if_neg (by simp [hmay])]; exact rstock0⟩)
  | true =>
    have hV : stockDoV s r = stockDoL s r := by rw [stockDoV, if_pos hmay]
    have hmay2 := hmay
    simp only [stockMay, Bool.and_eq_true] at hmay2
    obtain ⟨hok, hrk, hmb⟩ := hmay2
    obtain ⟨hroom, hlen, hall, hfree⟩ := stockOk_parts hok
    obtain ⟨i, q1, q2, q3, q4, q5, q6⟩ := stock_at hok hrk
    have hS := stockDoL_set (s := s) q1
    simp only [go_sem, Nat.reduceEqDiff, Nat.reduceAdd, Nat.reduceMul, Nat.reduceLeDiff, Int.reduceEq, Int.reduceLT, Int.reduceLE, Int.reduceAdd, Int.reduceSub, Int.reduceNeg, Int.reduceMul, Int.reduceToNat, Int.cast_ofNat_Int, Int.natCast_zero, Nat.add_zero, reduceCtorEq]
    refine Does.call (does_g_Clone_Hold K hc (by unfold lenMax; omega)) ?_
    rintro _ H1 ⟨c1, F1, rfl, s1, h1⟩
    replace s1 : Step [] H H1 F1 := s1
    have hm1 := s1.keepSl RInt.good hm fun b _ => by simp
    by_cases k1 : r.kind = 1
    · obtain ⟨n, hn, _, _⟩ := recOk_hold hrk k1
      rw [hn] at hm1
      obtain ⟨b2, o2, bs2, cs2, f2, rfl, g1, g2, ⟨rfl, _⟩, _⟩ := hm1.get0
      simp only [Nat.zero_mul, Nat.add_zero] at g2
      obtain ⟨b, off, bs, H2, e1, e2, e3, e4, e5, e6⟩ := hold_set h1 s1.owned q4 ⟨n, 1⟩
      subst e1
      simp only [go_sem, Nat.reduceEqDiff, Nat.reduceAdd, Nat.reduceMul, Nat.reduceLeDiff, Int.reduceEq, Int.reduceLT, Int.reduceLE, Int.reduceAdd, Int.reduceSub, Int.reduceNeg, Int.reduceMul, Int.reduceToNat, Int.cast_ofNat_Int, Int.natCast_zero, Nat.add_zero, reduceCtorEq, q5, q6, k1, g1, g2, Int.natCast_one, Int.ofNat_one, Nat.zero_mul, e2, e3, e4]
      exact hQ _ _ (Ends.ret rfl ⟨[.int .i64 s.room, .sl b off s.holds.length], F1, by simp [tupOf, hmay], s1.trans e6, by rw [hV, hS]; exact ⟨_, rfl, by simpa [holdDo, k1, first, hn] using e5⟩⟩)
    · by_cases k2 : r.kind = 2
      · obtain ⟨b, off, bs, H2, e1, e2, e3, e4, e5, e6⟩ := hold_st h1 s1.owned q4 2
        subst e1
        simp only [go_sem, Nat.reduceEqDiff, Nat.reduceAdd, Nat.reduceMul, Nat.reduceLeDiff, Int.reduceEq, Int.reduceLT, Int.reduceLE, Int.reduceAdd, Int.reduceSub, Int.reduceNeg, Int.reduceMul, Int.reduceToNat, Int.cast_ofNat_Int, Int.natCast_zero, Nat.add_zero, reduceCtorEq, q5, q6, k1, k2, e2, e3, e4]
        exact hQ _ _ (Ends.ret rfl ⟨[.int .i64 s.room, .sl b off s.holds.length], F1, by simp [tupOf, hmay], s1.trans e6, by rw [hV, hS]; exact ⟨_, rfl, by simpa [holdDo, k2] using e5⟩⟩)
      · have k3 := may_kinds hmb k1 k2
        obtain ⟨b, off, bs, H2, e1, e2, e3, e4, e5, e6⟩ := hold_st h1 s1.owned q4 3
        subst e1
        simp only [go_sem, Nat.reduceEqDiff, Nat.reduceAdd, Nat.reduceMul, Nat.reduceLeDiff, Int.reduceEq, Int.reduceLT, Int.reduceLE, Int.reduceAdd, Int.reduceSub, Int.reduceNeg, Int.reduceMul, Int.reduceToNat, Int.cast_ofNat_Int, Int.natCast_zero, Nat.add_zero, reduceCtorEq, q5, q6, k1, k2, k3, e2, e3, e4]
        exact hQ _ _ (Ends.ret rfl ⟨[.int .i64 s.room, .sl b off s.holds.length], F1, by simp [tupOf, hmay], s1.trans e6, by rw [hV, hS]; exact ⟨_, rfl, by simpa [holdDo, k3] using e5⟩⟩)
set_option maxHeartbeats 1000000 in
theorem does_s_l2Do (K : Codes P I) {H : Heap} {cs ds : List C} {s : Stock} {r : Rec} {F G : List Nat} (h : RStock H cs s F) (ho : Owned H F) (hr : RRec H ds r G) (hok : stockOk s = true) (hrk : recOk r = true) (hmb : stockMayB s r = true) :
    Does P I.s_l2Do [.agg cs, .agg ds] H fun v H' => ∃ cs', v = .val (.agg cs') ∧ Step F H H' F ∧ RStock H' cs' (stockDoL s r) F := by
  obtain ⟨c, rfl, hc⟩ := h
  obtain ⟨cm, rfl, hm⟩ := hr
  refine K.does K.s_l2Do rfl fun Q hQ => ?_
  obtain ⟨hroom, hlen, hall, hfree⟩ := stockOk_parts hok
  obtain ⟨i, q1, q2, q3, q4, q5, q6⟩ := stock_at hok hrk
  have hS := stockDoL_set (s := s) q1
  obtain ⟨b, off, bs, H2, e1, e2, e3, e4, e5, e6⟩ := hold_set hc ho q4 (holdDo (holdAt s r.trip) r)
  obtain ⟨b3, o3, bs3, cs3, f3, e7, e8, e9, ⟨rfl, _⟩, _, _⟩ := hc.get q4
  rw [e1] at e7
  cases e7
  subst e1
  by_cases k1 : r.kind = 1
  · obtain ⟨n, hn, _, _⟩ := recOk_hold hrk k1
    rw [hn] at hm
    obtain ⟨b2, o2, bs2, cs2, f2, rfl, g1, g2, ⟨rfl, _⟩, _⟩ := hm.get0
    simp only [Nat.zero_mul, Nat.add_zero] at g2
    simp only [holdDo, k1, if_true, first, hn, List.headD_cons] at e4
    simp only [go_sem, Nat.reduceEqDiff, Nat.reduceAdd, Nat.reduceMul, Nat.reduceLeDiff, Int.reduceEq, Int.reduceLT, Int.reduceLE, Int.reduceAdd, Int.reduceSub, Int.reduceNeg, Int.reduceMul, Int.reduceToNat, Int.cast_ofNat_Int, Int.natCast_zero, Nat.add_zero, reduceCtorEq, L_s_l2Do, q5, q6, k1, e8, e9, g1, g2, Int.natCast_one, Int.ofNat_one, Nat.zero_mul, e2, e3, e4]
    exact hQ _ _ (Ends.ret rfl ⟨_, rfl, e6, by rw [hS]; exact ⟨_, rfl, e5⟩⟩)
  · by_cases k2 : r.kind = 2
    · simp only [holdDo, k2, Int.reduceEq, if_true, if_false] at e4
      simp only [go_sem, Nat.reduceEqDiff, Nat.reduceAdd, Nat.reduceMul, Nat.reduceLeDiff, Int.reduceEq, Int.reduceLT, Int.reduceLE, Int.reduceAdd, Int.reduceSub, Int.reduceNeg, Int.reduceMul, Int.reduceToNat, Int.cast_ofNat_Int, Int.natCast_zero, Nat.add_zero, reduceCtorEq, L_s_l2Do, q5, q6, k1, k2, e8, e9, e2, e3, e4]
      exact hQ _ _ (Ends.ret rfl ⟨_, rfl, e6, by rw [hS]; exact ⟨_, rfl, e5⟩⟩)
    · have k3 := may_kinds hmb k1 k2
      simp only [holdDo, k3, Int.reduceEq, if_true, if_false] at e4
      simp only [go_sem, Nat.reduceEqDiff, Nat.reduceAdd, Nat.reduceMul, Nat.reduceLeDiff, Int.reduceEq, Int.reduceLT, Int.reduceLE, Int.reduceAdd, Int.reduceSub, Int.reduceNeg, Int.reduceMul, Int.reduceToNat, Int.cast_ofNat_Int, Int.natCast_zero, Nat.add_zero, reduceCtorEq, L_s_l2Do, q5, q6, k1, k2, k3, e8, e9, e2, e3, e4]
      exact hQ _ _ (Ends.ret rfl ⟨_, rfl, e6, by rw [hS]; exact ⟨_, rfl, e5⟩⟩)
theorem rstockN {H : Heap} {room : Int} : RStock (H ++ [⟨.rw, 2, rep 6 [.int .i64 0, .int .i64 0]⟩]) [.int .i64 room, .sl H.length 0 6] (stockN room) [H.length] := ⟨_, rfl, show SlR 2 RHold _ _ (List.replicate 6 (⟨0, 0⟩ : Hold)) _ from sl_make (z := [.int .i64 0, .int .i64 0]) rfl (fun _ => ⟨rfl, rfl⟩) (by unfold lenTop; omega)⟩
theorem does_i_StockNew (K : Codes P I) {H : Heap} {room : Int} : Does P I.i_StockNew [int room] H fun v H' => ∃ cs F, v = .tup [.agg cs, .c (.bool (inB room 0 9))] ∧ Step [] H H' F ∧ RStock H' cs (stockNewV room) F := by
  refine K.does K.i_StockNew rfl fun Q hQ => ?_
  have hle : (6 : Int) ≤ ((lenMax : Nat) : Int) := by unfold lenMax; omega
  simp only [go_sem, Nat.reduceEqDiff, Nat.reduceAdd, Nat.reduceMul, Nat.reduceLeDiff, Int.reduceEq, Int.reduceLT, Int.reduceLE, Int.reduceAdd, Int.reduceSub, Int.reduceNeg, Int.reduceMul, Int.reduceToNat, Int.cast_ofNat_Int, Int.natCast_zero, Nat.add_zero, reduceCtorEq, L_i_StockNew]
  refine Does.test (does_i_in K) ?_
  cases hr : inB room 0 9 with
  | false =>
    simp only [go_sem, Nat.reduceEqDiff, Nat.reduceAdd, Nat.reduceMul, Nat.reduceLeDiff, Int.reduceEq, Int.reduceLT, Int.reduceLE, Int.reduceAdd, Int.reduceSub, Int.reduceNeg, Int.reduceMul, Int.reduceToNat, Int.cast_ofNat_Int, Int.natCast_zero, Nat.add_zero, reduceCtorEq]
    exact hQ _ _ (Ends.ret rfl ⟨_, [], by simp [tupOf, hr]; rfl, Step.refl H, by rw [stockNewV, if_neg (by simp [hr])]; exact rstock0⟩)
  | true =>
    simp only [go_sem, Nat.reduceEqDiff, Nat.reduceAdd, Nat.reduceMul, Nat.reduceLeDiff, Int.reduceEq, Int.reduceLT, Int.reduceLE, Int.reduceAdd, Int.reduceSub, Int.reduceNeg, Int.reduceMul, Int.reduceToNat, Int.cast_ofNat_Int, Int.natCast_zero, Nat.add_zero, reduceCtorEq, hle]
    exact hQ _ _ (Ends.ret rfl ⟨_, _, by simp [tupOf, hr]; rfl, step_new, by rw [stockNewV, if_pos hr]; exact rstockN⟩)
theorem does_s_StockNew (K : Codes P I) {H : Heap} {room : Int} : Does P I.s_StockNew [int room] H fun v H' => ∃ cs F, v = .tup [.agg cs, .c (.bool (inB room 0 9))] ∧ Step [] H H' F ∧ RStock H' cs (stockNewV room) F := by
  refine K.does K.s_StockNew rfl fun Q hQ => ?_
  have hle : (6 : Int) ≤ ((lenMax : Nat) : Int) := by unfold lenMax; omega
  simp only [go_sem, Nat.reduceEqDiff, Nat.reduceAdd, Nat.reduceMul, Nat.reduceLeDiff, Int.reduceEq, Int.reduceLT, Int.reduceLE, Int.reduceAdd, Int.reduceSub, Int.reduceNeg, Int.reduceMul, Int.reduceToNat, Int.cast_ofNat_Int, Int.natCast_zero, Nat.add_zero, reduceCtorEq, L_s_StockNew]
  refine Does.test (does_s_l6In K) ?_
  cases hr : inB room 0 9 with
  | false =>
    simp only [go_sem, Nat.reduceEqDiff, Nat.reduceAdd, Nat.reduceMul, Nat.reduceLeDiff, Int.reduceEq, Int.reduceLT, Int.reduceLE, Int.reduceAdd, Int.reduceSub, Int.reduceNeg, Int.reduceMul, Int.reduceToNat, Int.cast_ofNat_Int, Int.natCast_zero, Nat.add_zero, reduceCtorEq]
    exact hQ _ _ (Ends.ret rfl ⟨_, [], by simp [tupOf, hr]; rfl, Step.refl H, by rw [stockNewV, if_neg (by simp [hr])]; exact rstock0⟩)
  | true =>
    simp only [go_sem, Nat.reduceEqDiff, Nat.reduceAdd, Nat.reduceMul, Nat.reduceLeDiff, Int.reduceEq, Int.reduceLT, Int.reduceLE, Int.reduceAdd, Int.reduceSub, Int.reduceNeg, Int.reduceMul, Int.reduceToNat, Int.cast_ofNat_Int, Int.natCast_zero, Nat.add_zero, reduceCtorEq, hle]
    exact hQ _ _ (Ends.ret rfl ⟨_, _, by simp [tupOf, hr]; rfl, step_new, by rw [stockNewV, if_pos hr]; exact rstockN⟩)

theorem stockOf_next {room : Int} {recs : List Rec} {i : Nat} {s : Stock} {x : Rec} (h : stockOf room (recs.take i) = some s) (hx : recs[i]? = some x) (hg : (recOk x && stockMayB s x) = true) : stockOf room (recs.take (i + 1)) = some (stockDoL s x) := by
  rw [take_snoc hx, stockOf_snoc, h]; simp only [stockStep, Option.bind_some, hg, if_true]
theorem stockOf_fail {room : Int} {recs : List Rec} {i : Nat} {s : Stock} {x : Rec} (h : stockOf room (recs.take i) = some s) (hx : recs[i]? = some x) (hg : (recOk x && stockMayB s x) = false) : stockOf room recs = none := by
  cases ho : stockOf room recs with
  | none => rfl
  | some s' =>
    obtain ⟨t, ht⟩ := stockOf_take ho (i + 1)
    rw [take_snoc hx, stockOf_snoc, h] at ht
    simp only [stockStep, Option.bind_some, hg] at ht
    cases ht
def stockD (room : Int) (recs : List Rec) : Stock := (stockOf room recs).getD stock0
theorem stockOf_room {room : Int} {recs : List Rec} (h : inB room 0 9 = false) : stockOf room recs = none := by
  unfold stockOf; rw [if_neg (by simp [h])]; exact foldl_stock_none recs
theorem stockOf_zero {room : Int} {recs : List Rec} (h : inB room 0 9 = true) : stockOf room (recs.take 0) = some (stockN room) := by
  unfold stockOf; rw [if_pos h]; rfl
theorem does_s_l2Of (K : Codes P I) {H : Heap} {c : C} {room : Int} {recs : List Rec} {F : List Nat} (h : Recs H c recs F) :
    Does P I.s_l2Of [int room, .c c] H fun v H' => ∃ cs F', v = .tup [.agg cs, .c (.bool (stockOf room recs).isSome)] ∧ Step [] H H' F' ∧ RStock H' cs (stockD room recs) F' := by
  refine K.does K.s_l2Of rfl fun Q hQ => ?_
  have htop := h.top
  simp only [go_sem, Nat.reduceEqDiff, Nat.reduceAdd, Nat.reduceMul, Nat.reduceLeDiff, Int.reduceEq, Int.reduceLT, Int.reduceLE, Int.reduceAdd, Int.reduceSub, Int.reduceNeg, Int.reduceMul, Int.reduceToNat, Int.cast_ofNat_Int, Int.natCast_zero, Nat.add_zero, reduceCtorEq, L_s_l2Of]
  refine Does.call (does_s_StockNew K) ?_
  rintro _ H1 ⟨cs, F1, rfl, s1, h1⟩
  obtain ⟨x0, x1, rfl⟩ := len2 h1.cells
  cases hroom : inB room 0 9 with
  | false =>
    simp only [go_sem, Nat.reduceEqDiff, Nat.reduceAdd, Nat.reduceMul, Nat.reduceLeDiff, Int.reduceEq, Int.reduceLT, Int.reduceLE, Int.reduceAdd, Int.reduceSub, Int.reduceNeg, Int.reduceMul, Int.reduceToNat, Int.cast_ofNat_Int, Int.natCast_zero, Nat.add_zero, reduceCtorEq]
    exact hQ _ _ (Ends.ret rfl ⟨[.int .i64 0, .nil], [], by simp [tupOf, stockOf_room hroom], s1.less (by simp), by simp only [stockD, stockOf_room hroom, Option.getD_none]; exact rstock0⟩)
  | true =>
    rw [stockNewV, if_pos hroom] at h1
    simp only [go_sem, Nat.reduceEqDiff, Nat.reduceAdd, Nat.reduceMul, Nat.reduceLeDiff, Int.reduceEq, Int.reduceLT, Int.reduceLE, Int.reduceAdd, Int.reduceSub, Int.reduceNeg, Int.reduceMul, Int.reduceToNat, Int.cast_ofNat_Int, Int.natCast_zero, Nat.add_zero, reduceCtorEq]
    refine RU_loop (fun m t => ∃ i : Nat, m = recs.length - i ∧ i ≤ recs.length ∧ t.env 1 = .val (.c c) ∧ t.env 4 = .box [.int .i64 0, .nil] ∧ t.env 8 = .val (int i) ∧ ∃ s cs F', stockOf room (recs.take i) = some s ∧ t.env 6 = .box cs ∧ cs.length = 2 ∧ Step [] H t.H F' ∧ RStock t.H cs s F') recs.length
      ⟨0, by simp, by simp, rfl, rfl, rfl, _, _, _, stockOf_zero hroom, rfl, rfl, s1, h1⟩ ?_
    rintro m t ⟨i, rfl, hi, g1, g4, g8, s, cs, F', hs0, g6, hcs, hs, hr⟩ Q' hN hE hR
    obtain ⟨y0, y1, rfl⟩ := len2 hcs
    have h2 := hs.keepSl RRec.good h fun b _ => by simp
    by_cases hlt : (i : Int) < recs.length
    · obtain ⟨x, hx⟩ := get_lt hlt
      obtain ⟨b1, o1, bs1, cs1, f1, rfl, e1, e2, hrx, hcl, _⟩ := h2.get hx
      obtain ⟨z0, z1, z2, rfl⟩ := len3 hcl
      simp only [go_sem, Nat.reduceEqDiff, Nat.reduceAdd, Nat.reduceMul, Nat.reduceLeDiff, Int.reduceEq, Int.reduceLT, Int.reduceLE, Int.reduceAdd, Int.reduceSub, Int.reduceNeg, Int.reduceMul, Int.reduceToNat, Int.cast_ofNat_Int, Int.natCast_zero, Nat.add_zero, reduceCtorEq, g1, g4, g6, g8, hlt, e1, e2]
      refine Does.test (does_s_RecOk K hrx) ?_
      cases hrk : recOk x with
      | false =>
        have hn := stockOf_fail hs0 hx (by simp [hrk])
        simp only [go_sem, Nat.reduceEqDiff, Nat.reduceAdd, Nat.reduceMul, Nat.reduceLeDiff, Int.reduceEq, Int.reduceLT, Int.reduceLE, Int.reduceAdd, Int.reduceSub, Int.reduceNeg, Int.reduceMul, Int.reduceToNat, Int.cast_ofNat_Int, Int.natCast_zero, Nat.add_zero, reduceCtorEq, g4]
        exact hR _ (hQ _ _ (Ends.ret rfl ⟨[.int .i64 0, .nil], [], by simp [tupOf, hn], hs.less (by simp), by simp only [stockD, hn, Option.getD_none]; exact rstock0⟩))
      | true =>
        simp only [go_sem, Nat.reduceEqDiff, Nat.reduceAdd, Nat.reduceMul, Nat.reduceLeDiff, Int.reduceEq, Int.reduceLT, Int.reduceLE, Int.reduceAdd, Int.reduceSub, Int.reduceNeg, Int.reduceMul, Int.reduceToNat, Int.cast_ofNat_Int, Int.natCast_zero, Nat.add_zero, reduceCtorEq, g1, g4, g6, g8, hlt, e1, e2]
        refine Does.test (does_s_l2May K hr hrx (stockOf_ok hs0) hrk) ?_
        cases hmb : stockMayB s x with
        | false =>
          have hn := stockOf_fail hs0 hx (by simp [hmb])
          simp only [go_sem, Nat.reduceEqDiff, Nat.reduceAdd, Nat.reduceMul, Nat.reduceLeDiff, Int.reduceEq, Int.reduceLT, Int.reduceLE, Int.reduceAdd, Int.reduceSub, Int.reduceNeg, Int.reduceMul, Int.reduceToNat, Int.cast_ofNat_Int, Int.natCast_zero, Nat.add_zero, reduceCtorEq, g4]
          exact hR _ (hQ _ _ (Ends.ret rfl ⟨[.int .i64 0, .nil], [], by simp [tupOf, hn], hs.less (by simp), by simp only [stockD, hn, Option.getD_none]; exact rstock0⟩))
        | true =>
          simp only [go_sem, Nat.reduceEqDiff, Nat.reduceAdd, Nat.reduceMul, Nat.reduceLeDiff, Int.reduceEq, Int.reduceLT, Int.reduceLE, Int.reduceAdd, Int.reduceSub, Int.reduceNeg, Int.reduceMul, Int.reduceToNat, Int.cast_ofNat_Int, Int.natCast_zero, Nat.add_zero, reduceCtorEq, g1, g4, g6, g8, hlt, e1, e2]
          refine Does.call (does_s_l2Do K hr hs.owned hrx (stockOf_ok hs0) hrk hmb) ?_
          rintro _ H3 ⟨cs3, rfl, s3, h3⟩
          obtain ⟨w0, w1, rfl⟩ := len2 h3.cells
          simp only [go_sem, Nat.reduceEqDiff, Nat.reduceAdd, Nat.reduceMul, Nat.reduceLeDiff, Int.reduceEq, Int.reduceLT, Int.reduceLE, Int.reduceAdd, Int.reduceSub, Int.reduceNeg, Int.reduceMul, Int.reduceToNat, Int.cast_ofNat_Int, Int.natCast_zero, Nat.add_zero, reduceCtorEq, g1, g4, g6, g8, wrap_succ (show i ≤ lenTop by omega)]
          exact hN _ _ (by omega) ⟨i + 1, rfl, by omega, by simp [upd, g1], by simp [upd, g4], by simp [upd], _, _, F', stockOf_next hs0 hx (by simp [hrk, hmb]), by simp [upd], rfl, hs.trans s3, h3⟩
    · simp only [go_sem, Nat.reduceEqDiff, Nat.reduceAdd, Nat.reduceMul, Nat.reduceLeDiff, Int.reduceEq, Int.reduceLT, Int.reduceLE, Int.reduceAdd, Int.reduceSub, Int.reduceNeg, Int.reduceMul, Int.reduceToNat, Int.cast_ofNat_Int, Int.natCast_zero, Nat.add_zero, reduceCtorEq, g1, g8, hlt, h2.len]
      refine hE _ _ ?_
      rw [List.take_of_length_le (by omega)] at hs0
      simp only [go_sem, Nat.reduceEqDiff, Nat.reduceAdd, Nat.reduceMul, Nat.reduceLeDiff, Int.reduceEq, Int.reduceLT, Int.reduceLE, Int.reduceAdd, Int.reduceSub, Int.reduceNeg, Int.reduceMul, Int.reduceToNat, Int.cast_ofNat_Int, Int.natCast_zero, Nat.add_zero, reduceCtorEq, g4, g6]
      exact hQ _ _ (Ends.ret rfl ⟨_, F', by simp [tupOf, hs0]; rfl, hs, by simp only [stockD, hs0, Option.getD_some]; exact hr⟩)
theorem does_i_StockOf (K : Codes P I) {H : Heap} {c : C} {room : Int} {recs : List Rec} {F : List Nat} (h : Recs H c recs F) :
    Does P I.i_StockOf [int room, .c c] H fun v H' => ∃ cs F', v = .tup [.agg cs, .c (.bool (stockOf room recs).isSome)] ∧ Step [] H H' F' ∧ RStock H' cs (stockD room recs) F' := by
  refine K.does K.i_StockOf rfl fun Q hQ => ?_
  have htop := h.top
  simp only [go_sem, Nat.reduceEqDiff, Nat.reduceAdd, Nat.reduceMul, Nat.reduceLeDiff, Int.reduceEq, Int.reduceLT, Int.reduceLE, Int.reduceAdd, Int.reduceSub, Int.reduceNeg, Int.reduceMul, Int.reduceToNat, Int.cast_ofNat_Int, Int.natCast_zero, Nat.add_zero, reduceCtorEq, L_i_StockOf]
  refine Does.call (does_i_StockNew K) ?_
  rintro _ H1 ⟨cs, F1, rfl, s1, h1⟩
  obtain ⟨x0, x1, rfl⟩ := len2 h1.cells
  simp only [go_sem, Nat.reduceEqDiff, Nat.reduceAdd, Nat.reduceMul, Nat.reduceLeDiff, Int.reduceEq, Int.reduceLT, Int.reduceLE, Int.reduceAdd, Int.reduceSub, Int.reduceNeg, Int.reduceMul, Int.reduceToNat, Int.cast_ofNat_Int, Int.natCast_zero, Nat.add_zero, reduceCtorEq]
  refine RU_loop (fun m t => ∃ i : Nat, m = recs.length + 1 - i ∧ i ≤ recs.length ∧ t.env 1 = .val (.c c) ∧ t.env 4 = .box [.int .i64 0, .nil] ∧ t.env 8 = .val (int i) ∧ ((∃ s cs F', stockOf room (recs.take i) = some s ∧ t.env 7 = bool true ∧ t.env 6 = .box cs ∧ cs.length = 2 ∧ Step [] H t.H F' ∧ RStock t.H cs s F') ∨ (∃ cs F', stockOf room recs = none ∧ t.env 7 = bool false ∧ t.env 6 = .box cs ∧ cs.length = 2 ∧ Step [] H t.H F' ∧ RStock t.H cs stock0 F'))) (recs.length + 1)
    ⟨0, by simp, by simp, rfl, rfl, rfl, by
      cases hroom : inB room 0 9 with
      | true => rw [stockNewV, if_pos hroom] at h1; exact .inl ⟨_, _, _, stockOf_zero hroom, by simp [upd, hroom], rfl, rfl, s1, h1⟩
      | false => rw [stockNewV, if_neg (by simp [hroom])] at h1; exact .inr ⟨_, _, stockOf_room hroom, by simp [upd, hroom], rfl, rfl, s1, h1⟩⟩ ?_
  rintro m t ⟨i, rfl, hi, g1, g4, g8, hc⟩ Q' hN hE hR
  rcases hc with ⟨s, cs, F', hs0, g7, g6, hcs, hs, hr⟩ | ⟨cs, F', hn, g7, g6, hcs, hs, hr⟩
  · obtain ⟨y0, y1, rfl⟩ := len2 hcs
    have h2 := hs.keepSl RRec.good h fun b _ => by simp
    by_cases hlt : (i : Int) < recs.length
    · obtain ⟨x, hx⟩ := get_lt hlt
      obtain ⟨b1, o1, bs1, cs1, f1, rfl, e1, e2, hrx, hcl, _⟩ := h2.get hx
      obtain ⟨z0, z1, z2, rfl⟩ := len3 hcl
      simp only [go_sem, Nat.reduceEqDiff, Nat.reduceAdd, Nat.reduceMul, Nat.reduceLeDiff, Int.reduceEq, Int.reduceLT, Int.reduceLE, Int.reduceAdd, Int.reduceSub, Int.reduceNeg, Int.reduceMul, Int.reduceToNat, Int.cast_ofNat_Int, Int.natCast_zero, Nat.add_zero, reduceCtorEq, g1, g4, g6, g7, g8, hlt, e1, e2, h2.len]
      refine Does.call (does_i_StockDo K hr hrx) ?_
      rintro _ H3 ⟨cs3, F3, rfl, s3, h3⟩
      obtain ⟨w0, w1, rfl⟩ := len2 h3.cells
      have hok := stockOf_ok hs0
      have hmay : stockMay s x = (recOk x && stockMayB s x) := by simp [stockMay, hok]
      have t3 : Step [] H H3 F3 := (hs.with s3).less (by simp)
      simp only [go_sem, Nat.reduceEqDiff, Nat.reduceAdd, Nat.reduceMul, Nat.reduceLeDiff, Int.reduceEq, Int.reduceLT, Int.reduceLE, Int.reduceAdd, Int.reduceSub, Int.reduceNeg, Int.reduceMul, Int.reduceToNat, Int.cast_ofNat_Int, Int.natCast_zero, Nat.add_zero, reduceCtorEq, g1, g4, g6, g7, g8, wrap_succ (show i ≤ lenTop by omega)]
      cases hg : (recOk x && stockMayB s x) with
      | true =>
        rw [stockDoV, if_pos (by rw [hmay, hg])] at h3
        exact hN _ _ (by omega) ⟨i + 1, rfl, by omega, by simp [upd, g1], by simp [upd, g4], by simp [upd], .inl ⟨_, _, F3, stockOf_next hs0 hx hg, by simp [upd, hmay, hg], by simp [upd], rfl, t3, h3⟩⟩
      | false =>
        rw [stockDoV, if_neg (by rw [hmay, hg]; simp)] at h3
        exact hN _ _ (by omega) ⟨i + 1, rfl, by omega, by simp [upd, g1], by simp [upd, g4], by simp [upd], .inr ⟨_, F3, stockOf_fail hs0 hx hg, by simp [upd, hmay, hg], by simp [upd], rfl, t3, h3⟩⟩
    · simp only [go_sem, Nat.reduceEqDiff, Nat.reduceAdd, Nat.reduceMul, Nat.reduceLeDiff, Int.reduceEq, Int.reduceLT, Int.reduceLE, Int.reduceAdd, Int.reduceSub, Int.reduceNeg, Int.reduceMul, Int.reduceToNat, Int.cast_ofNat_Int, Int.natCast_zero, Nat.add_zero, reduceCtorEq, g1, g7, g8, hlt, h2.len]
      refine hE _ _ ?_
      rw [List.take_of_length_le (by omega)] at hs0
      simp only [go_sem, Nat.reduceEqDiff, Nat.reduceAdd, Nat.reduceMul, Nat.reduceLeDiff, Int.reduceEq, Int.reduceLT, Int.reduceLE, Int.reduceAdd, Int.reduceSub, Int.reduceNeg, Int.reduceMul, Int.reduceToNat, Int.cast_ofNat_Int, Int.natCast_zero, Nat.add_zero, reduceCtorEq, g4, g6, g7]
      exact hQ _ _ (Ends.ret rfl ⟨_, F', by simp [tupOf, hs0]; rfl, hs, by simp only [stockD, hs0, Option.getD_some]; exact hr⟩)
  · obtain ⟨y0, y1, rfl⟩ := len2 hcs
    simp only [go_sem, Nat.reduceEqDiff, Nat.reduceAdd, Nat.reduceMul, Nat.reduceLeDiff, Int.reduceEq, Int.reduceLT, Int.reduceLE, Int.reduceAdd, Int.reduceSub, Int.reduceNeg, Int.reduceMul, Int.reduceToNat, Int.cast_ofNat_Int, Int.natCast_zero, Nat.add_zero, reduceCtorEq, g1, g7, g8]
    refine hE _ _ ?_
    simp only [go_sem, Nat.reduceEqDiff, Nat.reduceAdd, Nat.reduceMul, Nat.reduceLeDiff, Int.reduceEq, Int.reduceLT, Int.reduceLE, Int.reduceAdd, Int.reduceSub, Int.reduceNeg, Int.reduceMul, Int.reduceToNat, Int.cast_ofNat_Int, Int.natCast_zero, Nat.add_zero, reduceCtorEq, g4, g6, g7]
    exact hQ _ _ (Ends.ret rfl ⟨_, F', by simp [tupOf, hn]; rfl, hs, by simp only [stockD, hn, Option.getD_none]; exact hr⟩)
theorem does_i_WordOk (K : Codes P I) {H : Heap} {cs : List C} {w : Word} {F : List Nat} (h : RWord H cs w F) : Does P I.i_WordOk [.agg cs] H fun v H' => v = bool (wordOk w) ∧ H' = H := by
  obtain ⟨rfl, rfl⟩ := h
  refine K.does K.i_WordOk rfl fun Q hQ => ?_
  by_cases k1 : w.kind = 1
  · simp only [go_sem, Nat.reduceEqDiff, Nat.reduceAdd, Nat.reduceMul, Nat.reduceLeDiff, Int.reduceEq, Int.reduceLT, Int.reduceLE, Int.reduceAdd, Int.reduceSub, Int.reduceNeg, Int.reduceMul, Int.reduceToNat, Int.cast_ofNat_Int, Int.natCast_zero, Nat.add_zero, reduceCtorEq, L_i_WordOk, k1]
    refine Does.test (does_i_in K) ?_
    simp only [go_sem, Nat.reduceEqDiff, Nat.reduceAdd, Nat.reduceMul, Nat.reduceLeDiff, Int.reduceEq, Int.reduceLT, Int.reduceLE, Int.reduceAdd, Int.reduceSub, Int.reduceNeg, Int.reduceMul, Int.reduceToNat, Int.cast_ofNat_Int, Int.natCast_zero, Nat.add_zero, reduceCtorEq, k1]
    refine Does.test (does_i_in K) ?_
    cases hk : inB 1 1 7 with
    | false =>
      simp only [go_sem, Nat.reduceEqDiff, Nat.reduceAdd, Nat.reduceMul, Nat.reduceLeDiff, Int.reduceEq, Int.reduceLT, Int.reduceLE, Int.reduceAdd, Int.reduceSub, Int.reduceNeg, Int.reduceMul, Int.reduceToNat, Int.cast_ofNat_Int, Int.natCast_zero, Nat.add_zero, reduceCtorEq]
      exact hQ _ _ (Ends.ret rfl ⟨by simp [tupOf, wordOk, hk, k1], rfl⟩)
    | true =>
      simp only [go_sem, Nat.reduceEqDiff, Nat.reduceAdd, Nat.reduceMul, Nat.reduceLeDiff, Int.reduceEq, Int.reduceLT, Int.reduceLE, Int.reduceAdd, Int.reduceSub, Int.reduceNeg, Int.reduceMul, Int.reduceToNat, Int.cast_ofNat_Int, Int.natCast_zero, Nat.add_zero, reduceCtorEq]
      refine Does.test (does_i_isHouse K) ?_
      cases hh : inB w.house 1 3 with
      | false =>
        simp only [go_sem, Nat.reduceEqDiff, Nat.reduceAdd, Nat.reduceMul, Nat.reduceLeDiff, Int.reduceEq, Int.reduceLT, Int.reduceLE, Int.reduceAdd, Int.reduceSub, Int.reduceNeg, Int.reduceMul, Int.reduceToNat, Int.cast_ofNat_Int, Int.natCast_zero, Nat.add_zero, reduceCtorEq]
        exact hQ _ _ (Ends.ret rfl ⟨by simp [tupOf, wordOk, hh], rfl⟩)
      | true =>
        simp only [go_sem, Nat.reduceEqDiff, Nat.reduceAdd, Nat.reduceMul, Nat.reduceLeDiff, Int.reduceEq, Int.reduceLT, Int.reduceLE, Int.reduceAdd, Int.reduceSub, Int.reduceNeg, Int.reduceMul, Int.reduceToNat, Int.cast_ofNat_Int, Int.natCast_zero, Nat.add_zero, reduceCtorEq]
        refine Does.test (does_i_isTrip K) ?_
        cases ht : inB w.trip 1 6 with
        | false =>
          simp only [go_sem, Nat.reduceEqDiff, Nat.reduceAdd, Nat.reduceMul, Nat.reduceLeDiff, Int.reduceEq, Int.reduceLT, Int.reduceLE, Int.reduceAdd, Int.reduceSub, Int.reduceNeg, Int.reduceMul, Int.reduceToNat, Int.cast_ofNat_Int, Int.natCast_zero, Nat.add_zero, reduceCtorEq]
          exact hQ _ _ (Ends.ret rfl ⟨by simp [tupOf, wordOk, ht], rfl⟩)
        | true =>
          simp only [go_sem, Nat.reduceEqDiff, Nat.reduceAdd, Nat.reduceMul, Nat.reduceLeDiff, Int.reduceEq, Int.reduceLT, Int.reduceLE, Int.reduceAdd, Int.reduceSub, Int.reduceNeg, Int.reduceMul, Int.reduceToNat, Int.cast_ofNat_Int, Int.natCast_zero, Nat.add_zero, reduceCtorEq]
          exact hQ _ _ (Ends.ret rfl ⟨by simp [tupOf, wordOk, hk, hh, ht, k1], rfl⟩)
  · simp only [go_sem, Nat.reduceEqDiff, Nat.reduceAdd, Nat.reduceMul, Nat.reduceLeDiff, Int.reduceEq, Int.reduceLT, Int.reduceLE, Int.reduceAdd, Int.reduceSub, Int.reduceNeg, Int.reduceMul, Int.reduceToNat, Int.cast_ofNat_Int, Int.natCast_zero, Nat.add_zero, reduceCtorEq, L_i_WordOk, k1]
    refine Does.test (does_i_in K) ?_
    cases hk : inB w.kind 1 7 with
    | false =>
      simp only [go_sem, Nat.reduceEqDiff, Nat.reduceAdd, Nat.reduceMul, Nat.reduceLeDiff, Int.reduceEq, Int.reduceLT, Int.reduceLE, Int.reduceAdd, Int.reduceSub, Int.reduceNeg, Int.reduceMul, Int.reduceToNat, Int.cast_ofNat_Int, Int.natCast_zero, Nat.add_zero, reduceCtorEq]
      exact hQ _ _ (Ends.ret rfl ⟨by simp [tupOf, wordOk, hk, k1], rfl⟩)
    | true =>
      simp only [go_sem, Nat.reduceEqDiff, Nat.reduceAdd, Nat.reduceMul, Nat.reduceLeDiff, Int.reduceEq, Int.reduceLT, Int.reduceLE, Int.reduceAdd, Int.reduceSub, Int.reduceNeg, Int.reduceMul, Int.reduceToNat, Int.cast_ofNat_Int, Int.natCast_zero, Nat.add_zero, reduceCtorEq]
      refine Does.test (does_i_isHouse K) ?_
      cases hh : inB w.house 1 3 with
      | false =>
        simp only [go_sem, Nat.reduceEqDiff, Nat.reduceAdd, Nat.reduceMul, Nat.reduceLeDiff, Int.reduceEq, Int.reduceLT, Int.reduceLE, Int.reduceAdd, Int.reduceSub, Int.reduceNeg, Int.reduceMul, Int.reduceToNat, Int.cast_ofNat_Int, Int.natCast_zero, Nat.add_zero, reduceCtorEq]
        exact hQ _ _ (Ends.ret rfl ⟨by simp [tupOf, wordOk, hh], rfl⟩)
      | true =>
        simp only [go_sem, Nat.reduceEqDiff, Nat.reduceAdd, Nat.reduceMul, Nat.reduceLeDiff, Int.reduceEq, Int.reduceLT, Int.reduceLE, Int.reduceAdd, Int.reduceSub, Int.reduceNeg, Int.reduceMul, Int.reduceToNat, Int.cast_ofNat_Int, Int.natCast_zero, Nat.add_zero, reduceCtorEq]
        refine Does.test (does_i_isTrip K) ?_
        cases ht : inB w.trip 1 6 with
        | false =>
          simp only [go_sem, Nat.reduceEqDiff, Nat.reduceAdd, Nat.reduceMul, Nat.reduceLeDiff, Int.reduceEq, Int.reduceLT, Int.reduceLE, Int.reduceAdd, Int.reduceSub, Int.reduceNeg, Int.reduceMul, Int.reduceToNat, Int.cast_ofNat_Int, Int.natCast_zero, Nat.add_zero, reduceCtorEq]
          exact hQ _ _ (Ends.ret rfl ⟨by simp [tupOf, wordOk, ht], rfl⟩)
        | true =>
          simp only [go_sem, Nat.reduceEqDiff, Nat.reduceAdd, Nat.reduceMul, Nat.reduceLeDiff, Int.reduceEq, Int.reduceLT, Int.reduceLE, Int.reduceAdd, Int.reduceSub, Int.reduceNeg, Int.reduceMul, Int.reduceToNat, Int.cast_ofNat_Int, Int.natCast_zero, Nat.add_zero, reduceCtorEq]
          exact hQ _ _ (Ends.ret rfl ⟨by simp [tupOf, wordOk, hk, hh, ht, k1], rfl⟩)
theorem does_s_WordOk (K : Codes P I) {H : Heap} {cs : List C} {w : Word} {F : List Nat} (h : RWord H cs w F) : Does P I.s_WordOk [.agg cs] H fun v H' => v = bool (wordOk w) ∧ H' = H := by
  obtain ⟨rfl, rfl⟩ := h
  refine K.does K.s_WordOk rfl fun Q hQ => ?_
  simp only [go_sem, Nat.reduceEqDiff, Nat.reduceAdd, Nat.reduceMul, Nat.reduceLeDiff, Int.reduceEq, Int.reduceLT, Int.reduceLE, Int.reduceAdd, Int.reduceSub, Int.reduceNeg, Int.reduceMul, Int.reduceToNat, Int.cast_ofNat_Int, Int.natCast_zero, Nat.add_zero, reduceCtorEq, L_s_WordOk]
  refine Does.test (does_s_l6In K) ?_
  cases hh : inB w.house 1 3 with
  | false =>
    simp only [go_sem, Nat.reduceEqDiff, Nat.reduceAdd, Nat.reduceMul, Nat.reduceLeDiff, Int.reduceEq, Int.reduceLT, Int.reduceLE, Int.reduceAdd, Int.reduceSub, Int.reduceNeg, Int.reduceMul, Int.reduceToNat, Int.cast_ofNat_Int, Int.natCast_zero, Nat.add_zero, reduceCtorEq]
    exact hQ _ _ (Ends.ret rfl ⟨by simp [tupOf, wordOk, hh], rfl⟩)
  | true =>
    simp only [go_sem, Nat.reduceEqDiff, Nat.reduceAdd, Nat.reduceMul, Nat.reduceLeDiff, Int.reduceEq, Int.reduceLT, Int.reduceLE, Int.reduceAdd, Int.reduceSub, Int.reduceNeg, Int.reduceMul, Int.reduceToNat, Int.cast_ofNat_Int, Int.natCast_zero, Nat.add_zero, reduceCtorEq]
    refine Does.test (does_s_l6In K) ?_
    cases ht : inB w.trip 1 6 with
    | false =>
      simp only [go_sem, Nat.reduceEqDiff, Nat.reduceAdd, Nat.reduceMul, Nat.reduceLeDiff, Int.reduceEq, Int.reduceLT, Int.reduceLE, Int.reduceAdd, Int.reduceSub, Int.reduceNeg, Int.reduceMul, Int.reduceToNat, Int.cast_ofNat_Int, Int.natCast_zero, Nat.add_zero, reduceCtorEq]
      exact hQ _ _ (Ends.ret rfl ⟨by simp [tupOf, wordOk, ht], rfl⟩)
    | true =>
      simp only [go_sem, Nat.reduceEqDiff, Nat.reduceAdd, Nat.reduceMul, Nat.reduceLeDiff, Int.reduceEq, Int.reduceLT, Int.reduceLE, Int.reduceAdd, Int.reduceSub, Int.reduceNeg, Int.reduceMul, Int.reduceToNat, Int.cast_ofNat_Int, Int.natCast_zero, Nat.add_zero, reduceCtorEq]
      refine Does.test (does_s_l6In K) ?_
      cases hk : inB w.kind 1 7 with
      | false =>
        simp only [go_sem, Nat.reduceEqDiff, Nat.reduceAdd, Nat.reduceMul, Nat.reduceLeDiff, Int.reduceEq, Int.reduceLT, Int.reduceLE, Int.reduceAdd, Int.reduceSub, Int.reduceNeg, Int.reduceMul, Int.reduceToNat, Int.cast_ofNat_Int, Int.natCast_zero, Nat.add_zero, reduceCtorEq]
        exact hQ _ _ (Ends.ret rfl ⟨by simp [tupOf, wordOk, hk], rfl⟩)
      | true =>
        by_cases k1 : w.kind = 1
        · simp only [go_sem, Nat.reduceEqDiff, Nat.reduceAdd, Nat.reduceMul, Nat.reduceLeDiff, Int.reduceEq, Int.reduceLT, Int.reduceLE, Int.reduceAdd, Int.reduceSub, Int.reduceNeg, Int.reduceMul, Int.reduceToNat, Int.cast_ofNat_Int, Int.natCast_zero, Nat.add_zero, reduceCtorEq, k1]
          refine Does.test (does_s_l6In K) ?_
          rw [k1] at hk
          simp only [go_sem, Nat.reduceEqDiff, Nat.reduceAdd, Nat.reduceMul, Nat.reduceLeDiff, Int.reduceEq, Int.reduceLT, Int.reduceLE, Int.reduceAdd, Int.reduceSub, Int.reduceNeg, Int.reduceMul, Int.reduceToNat, Int.cast_ofNat_Int, Int.natCast_zero, Nat.add_zero, reduceCtorEq]
          exact hQ _ _ (Ends.ret rfl ⟨by simp [tupOf, wordOk, hk, hh, ht, k1], rfl⟩)
        · simp only [go_sem, Nat.reduceEqDiff, Nat.reduceAdd, Nat.reduceMul, Nat.reduceLeDiff, Int.reduceEq, Int.reduceLT, Int.reduceLE, Int.reduceAdd, Int.reduceSub, Int.reduceNeg, Int.reduceMul, Int.reduceToNat, Int.cast_ofNat_Int, Int.natCast_zero, Nat.add_zero, reduceCtorEq, k1]
          exact hQ _ _ (Ends.ret rfl ⟨by simp [tupOf, wordOk, hk, hh, ht, k1], rfl⟩)
theorem does_i_Word_answer (K : Codes P I) {H : Heap} {cs : List C} {w : Word} {F : List Nat} (h : RWord H cs w F) : Does P I.i_Word_answer [.agg cs] H fun v H' => v = bool (decide (4 ≤ w.kind)) ∧ H' = H := by
  obtain ⟨rfl, rfl⟩ := h
  refine K.does K.i_Word_answer rfl fun Q hQ => ?_
  simp only [go_sem, Nat.reduceEqDiff, Nat.reduceAdd, Nat.reduceMul, Nat.reduceLeDiff, Int.reduceEq, Int.reduceLT, Int.reduceLE, Int.reduceAdd, Int.reduceSub, Int.reduceNeg, Int.reduceMul, Int.reduceToNat, Int.cast_ofNat_Int, Int.natCast_zero, Nat.add_zero, reduceCtorEq, L_i_Word_answer]
  exact hQ _ _ (Ends.ret rfl ⟨rfl, rfl⟩)
end Go.AX

/- Houses: the program and the reference do the same. Condition: the data lie in memory. -/
namespace Go.AX
variable {P : Program} {I : Ids}
theorem rhouse0 {H : Heap} : RHouse H [.int .i64 0, .bool false, .int .i64 0, .nil, .int .i64 0] house0 [] := ⟨.nil, rfl, .nil⟩
theorem does_i_HouseOk (K : Codes P I) {H : Heap} {cs : List C} {h : House} {F : List Nat} (hh : RHouse H cs h F) : Does P I.i_HouseOk [.agg cs] H fun v H' => v = bool (houseOk h) ∧ Step [] H H' [] := by
  obtain ⟨c, rfl, hc⟩ := hh
  refine K.does K.i_HouseOk rfl fun Q hQ => ?_
  simp only [go_sem, Nat.reduceEqDiff, Nat.reduceAdd, Nat.reduceMul, Nat.reduceLeDiff, Int.reduceEq, Int.reduceLT, Int.reduceLE, Int.reduceAdd, Int.reduceSub, Int.reduceNeg, Int.reduceMul, Int.reduceToNat, Int.cast_ofNat_Int, Int.natCast_zero, Nat.add_zero, reduceCtorEq, L_i_HouseOk]
  refine Does.test (does_i_isHouse K) ?_
  cases h1 : inB h.id 1 3 with
  | false =>
    simp only [go_sem, Nat.reduceEqDiff, Nat.reduceAdd, Nat.reduceMul, Nat.reduceLeDiff, Int.reduceEq, Int.reduceLT, Int.reduceLE, Int.reduceAdd, Int.reduceSub, Int.reduceNeg, Int.reduceMul, Int.reduceToNat, Int.cast_ofNat_Int, Int.natCast_zero, Nat.add_zero, reduceCtorEq]
    exact hQ _ _ (Ends.ret rfl ⟨by simp [tupOf, houseOk, h1], Step.refl H⟩)
  | true =>
    simp only [go_sem, Nat.reduceEqDiff, Nat.reduceAdd, Nat.reduceMul, Nat.reduceLeDiff, Int.reduceEq, Int.reduceLT, Int.reduceLE, Int.reduceAdd, Int.reduceSub, Int.reduceNeg, Int.reduceMul, Int.reduceToNat, Int.cast_ofNat_Int, Int.natCast_zero, Nat.add_zero, reduceCtorEq]
    refine Does.test (does_i_LogOk K (show RLog H [c, .int .i64 h.log.forced] h.log F from ⟨c, rfl, hc⟩)) ?_
    cases h2 : logOk h.log with
    | false =>
      simp only [go_sem, Nat.reduceEqDiff, Nat.reduceAdd, Nat.reduceMul, Nat.reduceLeDiff, Int.reduceEq, Int.reduceLT, Int.reduceLE, Int.reduceAdd, Int.reduceSub, Int.reduceNeg, Int.reduceMul, Int.reduceToNat, Int.cast_ofNat_Int, Int.natCast_zero, Nat.add_zero, reduceCtorEq]
      exact hQ _ _ (Ends.ret rfl ⟨by simp [tupOf, houseOk, h2], Step.refl H⟩)
    | true =>
      simp only [go_sem, Nat.reduceEqDiff, Nat.reduceAdd, Nat.reduceMul, Nat.reduceLeDiff, Int.reduceEq, Int.reduceLT, Int.reduceLE, Int.reduceAdd, Int.reduceSub, Int.reduceNeg, Int.reduceMul, Int.reduceToNat, Int.cast_ofNat_Int, Int.natCast_zero, Nat.add_zero, reduceCtorEq]
      refine Does.call (does_i_StockOf K hc) ?_
      rintro _ H1 ⟨cs, F1, rfl, s1, r1⟩
      obtain ⟨x0, x1, rfl⟩ := len2 r1.cells
      simp only [go_sem, Nat.reduceEqDiff, Nat.reduceAdd, Nat.reduceMul, Nat.reduceLeDiff, Int.reduceEq, Int.reduceLT, Int.reduceLE, Int.reduceAdd, Int.reduceSub, Int.reduceNeg, Int.reduceMul, Int.reduceToNat, Int.cast_ofNat_Int, Int.natCast_zero, Nat.add_zero, reduceCtorEq]
      exact hQ _ _ (Ends.ret rfl ⟨by simp [tupOf, houseOk, h1, h2], s1.less (by simp)⟩)
theorem does_s_HouseOk (K : Codes P I) {H : Heap} {cs : List C} {h : House} {F : List Nat} (hh : RHouse H cs h F) : Does P I.s_HouseOk [.agg cs] H fun v H' => v = bool (houseOk h) ∧ Step [] H H' [] := by
  obtain ⟨c, rfl, hc⟩ := hh
  refine K.does K.s_HouseOk rfl fun Q hQ => ?_
  simp only [go_sem, Nat.reduceEqDiff, Nat.reduceAdd, Nat.reduceMul, Nat.reduceLeDiff, Int.reduceEq, Int.reduceLT, Int.reduceLE, Int.reduceAdd, Int.reduceSub, Int.reduceNeg, Int.reduceMul, Int.reduceToNat, Int.cast_ofNat_Int, Int.natCast_zero, Nat.add_zero, reduceCtorEq, L_s_HouseOk]
  refine Does.call (does_s_l2Of K hc) ?_
  rintro _ H1 ⟨cs, F1, rfl, s1, r1⟩
  replace s1 : Step [] H H1 F1 := s1
  have s1' : Step [] H H1 [] := s1.less (by simp)
  obtain ⟨x0, x1, rfl⟩ := len2 r1.cells
  simp only [go_sem, Nat.reduceEqDiff, Nat.reduceAdd, Nat.reduceMul, Nat.reduceLeDiff, Int.reduceEq, Int.reduceLT, Int.reduceLE, Int.reduceAdd, Int.reduceSub, Int.reduceNeg, Int.reduceMul, Int.reduceToNat, Int.cast_ofNat_Int, Int.natCast_zero, Nat.add_zero, reduceCtorEq]
  refine Does.test (does_s_l6In K) ?_
  cases h1 : inB h.id 1 3 with
  | false =>
    simp only [go_sem, Nat.reduceEqDiff, Nat.reduceAdd, Nat.reduceMul, Nat.reduceLeDiff, Int.reduceEq, Int.reduceLT, Int.reduceLE, Int.reduceAdd, Int.reduceSub, Int.reduceNeg, Int.reduceMul, Int.reduceToNat, Int.cast_ofNat_Int, Int.natCast_zero, Nat.add_zero, reduceCtorEq]
    exact hQ _ _ (Ends.ret rfl ⟨by simp [tupOf, houseOk, h1], s1'⟩)
  | true =>
    simp only [go_sem, Nat.reduceEqDiff, Nat.reduceAdd, Nat.reduceMul, Nat.reduceLeDiff, Int.reduceEq, Int.reduceLT, Int.reduceLE, Int.reduceAdd, Int.reduceSub, Int.reduceNeg, Int.reduceMul, Int.reduceToNat, Int.cast_ofNat_Int, Int.natCast_zero, Nat.add_zero, reduceCtorEq]
    refine Does.test (does_s_LogOk K (show RLog H1 [c, .int .i64 h.log.forced] h.log F from ⟨c, rfl, s1.keepSl RRec.good hc fun b _ => by simp⟩)) ?_
    cases h2 : logOk h.log with
    | false =>
      simp only [go_sem, Nat.reduceEqDiff, Nat.reduceAdd, Nat.reduceMul, Nat.reduceLeDiff, Int.reduceEq, Int.reduceLT, Int.reduceLE, Int.reduceAdd, Int.reduceSub, Int.reduceNeg, Int.reduceMul, Int.reduceToNat, Int.cast_ofNat_Int, Int.natCast_zero, Nat.add_zero, reduceCtorEq]
      exact hQ _ _ (Ends.ret rfl ⟨by simp [tupOf, houseOk, h2], s1'⟩)
    | true =>
      simp only [go_sem, Nat.reduceEqDiff, Nat.reduceAdd, Nat.reduceMul, Nat.reduceLeDiff, Int.reduceEq, Int.reduceLT, Int.reduceLE, Int.reduceAdd, Int.reduceSub, Int.reduceNeg, Int.reduceMul, Int.reduceToNat, Int.cast_ofNat_Int, Int.natCast_zero, Nat.add_zero, reduceCtorEq]
      exact hQ _ _ (Ends.ret rfl ⟨by simp [tupOf, houseOk, h1, h2], s1'⟩)
theorem does_i_Log_known (K : Codes P I) {H : Heap} {cs : List C} {l : Log} {F : List Nat} {f : Bool} (h : RLog H cs l F) (hok : logOk l = true) : Does P I.i_Log_known [.agg cs, .c (.bool f)] H fun v H' => ∃ c' F', v = .val (.c c') ∧ H' = H ∧ Recs H' c' (known l f) F' := by
  obtain ⟨c, rfl, hc⟩ := h
  refine K.does K.i_Log_known rfl fun Q hQ => ?_
  obtain ⟨h1, h2, h3, h4⟩ := logOk_parts hok
  cases f with
  | false =>
    simp only [go_sem, Nat.reduceEqDiff, Nat.reduceAdd, Nat.reduceMul, Nat.reduceLeDiff, Int.reduceEq, Int.reduceLT, Int.reduceLE, Int.reduceAdd, Int.reduceSub, Int.reduceNeg, Int.reduceMul, Int.reduceToNat, Int.cast_ofNat_Int, Int.natCast_zero, Nat.add_zero, reduceCtorEq, L_i_Log_known]
    exact hQ _ _ (Ends.ret rfl ⟨c, F, rfl, rfl, hc⟩)
  | true =>
    obtain ⟨c', F', hs, hc', _⟩ := slc_take hc (k := l.forced.toNat) (by omega)
    rw [show ((l.forced.toNat : Nat) : Int) = l.forced by omega] at hs
    simp only [go_sem, Nat.reduceEqDiff, Nat.reduceAdd, Nat.reduceMul, Nat.reduceLeDiff, Int.reduceEq, Int.reduceLT, Int.reduceLE, Int.reduceAdd, Int.reduceSub, Int.reduceNeg, Int.reduceMul, Int.reduceToNat, Int.cast_ofNat_Int, Int.natCast_zero, Nat.add_zero, reduceCtorEq, L_i_Log_known, hs]
    exact hQ _ _ (Ends.ret rfl ⟨c', F', rfl, rfl, hc'⟩)
theorem does_i_House_stock (K : Codes P I) {H : Heap} {cs : List C} {h : House} {F : List Nat} {f : Bool} (hh : RHouse H cs h F) (hok : logOk h.log = true) : Does P I.i_House_stock [.agg cs, .c (.bool f)] H fun v H' => ∃ cs' F', v = .val (.agg cs') ∧ Step [] H H' F' ∧ RStock H' cs' (stockV h f) F' := by
  obtain ⟨c, rfl, hc⟩ := hh
  refine K.does K.i_House_stock rfl fun Q hQ => ?_
  simp only [go_sem, Nat.reduceEqDiff, Nat.reduceAdd, Nat.reduceMul, Nat.reduceLeDiff, Int.reduceEq, Int.reduceLT, Int.reduceLE, Int.reduceAdd, Int.reduceSub, Int.reduceNeg, Int.reduceMul, Int.reduceToNat, Int.cast_ofNat_Int, Int.natCast_zero, Nat.add_zero, reduceCtorEq, L_i_House_stock]
  refine Does.call (does_i_Log_known K (show RLog H [c, .int .i64 h.log.forced] h.log F from ⟨c, rfl, hc⟩) hok) ?_
  rintro _ _ ⟨c', F', rfl, rfl, hc'⟩
  simp only [go_sem, Nat.reduceEqDiff, Nat.reduceAdd, Nat.reduceMul, Nat.reduceLeDiff, Int.reduceEq, Int.reduceLT, Int.reduceLE, Int.reduceAdd, Int.reduceSub, Int.reduceNeg, Int.reduceMul, Int.reduceToNat, Int.cast_ofNat_Int, Int.natCast_zero, Nat.add_zero, reduceCtorEq]
  refine Does.call (does_i_StockOf K hc') ?_
  rintro _ H1 ⟨cs1, F1, rfl, s1, r1⟩
  obtain ⟨x0, x1, rfl⟩ := len2 r1.cells
  simp only [go_sem, Nat.reduceEqDiff, Nat.reduceAdd, Nat.reduceMul, Nat.reduceLeDiff, Int.reduceEq, Int.reduceLT, Int.reduceLE, Int.reduceAdd, Int.reduceSub, Int.reduceNeg, Int.reduceMul, Int.reduceToNat, Int.cast_ofNat_Int, Int.natCast_zero, Nat.add_zero, reduceCtorEq]
  exact hQ _ _ (Ends.ret rfl ⟨_, F1, rfl, s1, r1⟩)
theorem does_s_l11Stock (K : Codes P I) {H : Heap} {cs : List C} {h : House} {F : List Nat} {f : Bool} (hh : RHouse H cs h F) (hok : logOk h.log = true) : Does P I.s_l11Stock [.agg cs, .c (.bool f)] H fun v H' => ∃ cs' F', v = .val (.agg cs') ∧ Step [] H H' F' ∧ RStock H' cs' (stockV h f) F' := by
  obtain ⟨c, rfl, hc⟩ := hh
  refine K.does K.s_l11Stock rfl fun Q hQ => ?_
  obtain ⟨h1, h2, h3, h4⟩ := logOk_parts hok
  cases f with
  | false =>
    obtain ⟨c', F', hs, hc', _⟩ := slc_take hc (k := h.log.recs.length) (Nat.le_refl _)
    rw [List.take_length] at hc'
    simp only [go_sem, Nat.reduceEqDiff, Nat.reduceAdd, Nat.reduceMul, Nat.reduceLeDiff, Int.reduceEq, Int.reduceLT, Int.reduceLE, Int.reduceAdd, Int.reduceSub, Int.reduceNeg, Int.reduceMul, Int.reduceToNat, Int.cast_ofNat_Int, Int.natCast_zero, Nat.add_zero, reduceCtorEq, L_s_l11Stock, hc.len, hs]
    refine Does.call (does_s_l2Of K hc') ?_
    rintro _ H1 ⟨cs1, F1, rfl, s1, r1⟩
    obtain ⟨x0, x1, rfl⟩ := len2 r1.cells
    simp only [go_sem, Nat.reduceEqDiff, Nat.reduceAdd, Nat.reduceMul, Nat.reduceLeDiff, Int.reduceEq, Int.reduceLT, Int.reduceLE, Int.reduceAdd, Int.reduceSub, Int.reduceNeg, Int.reduceMul, Int.reduceToNat, Int.cast_ofNat_Int, Int.natCast_zero, Nat.add_zero, reduceCtorEq]
    exact hQ _ _ (Ends.ret rfl ⟨_, F1, rfl, s1, r1⟩)
  | true =>
    obtain ⟨c', F', hs, hc', _⟩ := slc_take hc (k := h.log.forced.toNat) (by omega)
    rw [show ((h.log.forced.toNat : Nat) : Int) = h.log.forced by omega] at hs
    simp only [go_sem, Nat.reduceEqDiff, Nat.reduceAdd, Nat.reduceMul, Nat.reduceLeDiff, Int.reduceEq, Int.reduceLT, Int.reduceLE, Int.reduceAdd, Int.reduceSub, Int.reduceNeg, Int.reduceMul, Int.reduceToNat, Int.cast_ofNat_Int, Int.natCast_zero, Nat.add_zero, reduceCtorEq, L_s_l11Stock, hc.len, hs]
    refine Does.call (does_s_l2Of K hc') ?_
    rintro _ H1 ⟨cs1, F1, rfl, s1, r1⟩
    obtain ⟨x0, x1, rfl⟩ := len2 r1.cells
    simp only [go_sem, Nat.reduceEqDiff, Nat.reduceAdd, Nat.reduceMul, Nat.reduceLeDiff, Int.reduceEq, Int.reduceLT, Int.reduceLE, Int.reduceAdd, Int.reduceSub, Int.reduceNeg, Int.reduceMul, Int.reduceToNat, Int.cast_ofNat_Int, Int.natCast_zero, Nat.add_zero, reduceCtorEq]
    exact hQ _ _ (Ends.ret rfl ⟨_, F1, rfl, s1, r1⟩)
end Go.AX

/- A new world: the program and the reference do the same. Condition: the data lie in memory. -/
namespace Go.AX
variable {P : Program} {I : Ids}
def world0 : Wld := ⟨desk00, [], []⟩
def housesN (rooms : List Int) (i : Nat) : List House := (rooms.take i).zipIdx.map fun p => houseNewV (p.2 + 1 : Nat) p.1
def okN (rooms : List Int) (i : Nat) : Bool := (rooms.take i).zipIdx.all fun p => houseNewOk (p.2 + 1 : Nat) p.1
def worldNewOk (rooms : List Int) : Bool := okN rooms rooms.length && decide (rooms.length = 3)
def worldNewV (rooms : List Int) : Wld := if worldNewOk rooms = true then ⟨desk0, housesN rooms rooms.length, []⟩ else world0
theorem houses_snoc {rooms : List Int} {i : Nat} {r : Int} (h : rooms[i]? = some r) : housesN rooms (i + 1) = housesN rooms i ++ [houseNewV (i + 1 : Nat) r] := by
  have hi : i < rooms.length := (List.getElem?_eq_some_iff.1 h).1
  unfold housesN
  rw [take_snoc h, List.zipIdx_append, List.map_append]
  simp [Nat.min_eq_left (Nat.le_of_lt hi)]
theorem okN_snoc {rooms : List Int} {i : Nat} {r : Int} (h : rooms[i]? = some r) : okN rooms (i + 1) = (okN rooms i && houseNewOk (i + 1 : Nat) r) := by
  have hi : i < rooms.length := (List.getElem?_eq_some_iff.1 h).1
  unfold okN
  rw [take_snoc h, List.zipIdx_append, List.all_append]
  simp [Nat.min_eq_left (Nat.le_of_lt hi)]
theorem okN_mono {rooms : List Int} {i j : Nat} (hij : i ≤ j) (h : okN rooms i = false) : okN rooms j = false := by
  induction j with
  | zero => rw [show i = 0 by omega] at h; exact h
  | succ j ih =>
    by_cases e : i = j + 1
    · rw [← e]; exact h
    · have := ih (by omega)
      by_cases hj : j < rooms.length
      · rw [okN_snoc (List.getElem?_eq_getElem hj), this]; rfl
      · unfold okN at *
        rw [List.take_of_length_le (by omega)] at this ⊢
        exact this
theorem worldNot {rooms : List Int} {i : Nat} {r : Int} (h : rooms[i]? = some r) (hk : houseNewOk (i + 1 : Nat) r = false) : worldNewOk rooms = false := by
  have hi : i < rooms.length := (List.getElem?_eq_some_iff.1 h).1
  have : okN rooms rooms.length = false := okN_mono (i := i + 1) (by omega) (by rw [okN_snoc h, hk, Bool.and_false])
  unfold worldNewOk; rw [this]; rfl
theorem rwld0 {H : Heap} : RWld H [.bool false, .nil, .int .i64 0, .nil, .nil, .nil] world0 [] := ⟨[.bool false, .nil, .int .i64 0, .nil], .nil, .nil, [], [], [], rfl, rfl, ⟨.nil, .nil, [], [], rfl, rfl, .nil, .nil⟩, .nil, .nil⟩
theorem houseNew_big {i : Nat} {r : Int} (h : 3 ≤ i) : houseNewOk (i + 1 : Nat) r = false := by
  have : inB ((i + 1 : Nat) : Int) 1 3 = false := by simp [inB]; omega
  unfold houseNewOk; rw [this]; rfl
end Go.AX

/- The exact laws of houses (but to hear) hold. Condition: the arguments lie in memory. -/
namespace Go.AX
variable {P : Program} {I : Ids}
theorem houseRise_small (h : House) : Small (houseRiseV h).log := by
  unfold houseRiseV; split
  · rename_i k; exact logOk_small (houseOk_parts k).2.1
  · exact small_log0
theorem houseForce_small (h : House) : Small (houseForceV h).log := by
  unfold houseForceV; split
  · rename_i k
    have := (houseOk_parts k).2.1
    split
    · exact logOk_small (force_ok this)
    · exact logOk_small this
  · exact small_log0
theorem houseFall_small (h : House) (n : Int) : Small (houseFallV h n).log := by
  unfold houseFallV; split
  · rename_i k; exact logOk_small (fall_ok (houseOk_parts k).2.1 n)
  · exact small_log0
end Go.AX

/- The exact law of new worlds holds. Condition: the arguments lie in memory. -/
namespace Go.AX
variable {P : Program} {I : Ids}
theorem does_w_eqWorld (K : Codes P I) {H : Heap} {a b : List C} {x y : Wld} {F G : List Nat} (ha : RWld H a x F) (hb : RWld H b y G) : Does P I.w_eqWorld [.agg a, .agg b] H fun r H' => r = .val (.c (.bool (decide (x = y)))) ∧ H' = H := by
  obtain ⟨ds, c, d, F1, F2, F3, rfl, _, ha1, ha2, ha3⟩ := ha
  obtain ⟨es, c', d', G1, G2, G3, rfl, _, hb1, hb2, hb3⟩ := hb
  obtain ⟨a0, a1, a2, a3, rfl⟩ := len4 ha1.cells
  obtain ⟨b0, b1, b2, b3, rfl⟩ := len4 hb1.cells
  refine K.does K.w_eqWorld rfl fun Q hQ => ?_
  simp only [go_sem, Nat.reduceEqDiff, Nat.reduceAdd, Nat.reduceMul, Nat.reduceLeDiff, Int.reduceEq, Int.reduceLT, Int.reduceLE, Int.reduceAdd, Int.reduceSub, Int.reduceNeg, Int.reduceMul, Int.reduceToNat, Int.cast_ofNat_Int, Int.natCast_zero, Nat.add_zero, reduceCtorEq, L_w_eqWorld, List.cons_append, List.nil_append]
  refine Does.test (does_w_eqDesk K ha1 hb1) ?_
  by_cases h0 : x.desk = y.desk
  · simp only [go_sem, Nat.reduceEqDiff, Nat.reduceAdd, Nat.reduceMul, Nat.reduceLeDiff, Int.reduceEq, Int.reduceLT, Int.reduceLE, Int.reduceAdd, Int.reduceSub, Int.reduceNeg, Int.reduceMul, Int.reduceToNat, Int.cast_ofNat_Int, Int.natCast_zero, Nat.add_zero, reduceCtorEq, h0]
    refine Does.test (does_w_eqHouseS K ha2 hb2) ?_
    by_cases h1 : x.houses = y.houses
    · simp only [go_sem, Nat.reduceEqDiff, Nat.reduceAdd, Nat.reduceMul, Nat.reduceLeDiff, Int.reduceEq, Int.reduceLT, Int.reduceLE, Int.reduceAdd, Int.reduceSub, Int.reduceNeg, Int.reduceMul, Int.reduceToNat, Int.cast_ofNat_Int, Int.natCast_zero, Nat.add_zero, reduceCtorEq, h0, h1]
      refine Does.test (does_w_eqWordS K ha3 hb3) ?_
      by_cases h2 : x.nets = y.nets
      · simp only [go_sem, Nat.reduceEqDiff, Nat.reduceAdd, Nat.reduceMul, Nat.reduceLeDiff, Int.reduceEq, Int.reduceLT, Int.reduceLE, Int.reduceAdd, Int.reduceSub, Int.reduceNeg, Int.reduceMul, Int.reduceToNat, Int.cast_ofNat_Int, Int.natCast_zero, Nat.add_zero, reduceCtorEq, h0, h1, h2]
        refine hQ _ _ (Ends.ret rfl ⟨?_, rfl⟩)
        simp [tupOf, Wld.ext_iff, h0, h1, h2]
      · simp only [go_sem, Nat.reduceEqDiff, Nat.reduceAdd, Nat.reduceMul, Nat.reduceLeDiff, Int.reduceEq, Int.reduceLT, Int.reduceLE, Int.reduceAdd, Int.reduceSub, Int.reduceNeg, Int.reduceMul, Int.reduceToNat, Int.cast_ofNat_Int, Int.natCast_zero, Nat.add_zero, reduceCtorEq, h0, h1, h2]
        refine hQ _ _ (Ends.ret rfl ⟨?_, rfl⟩)
        simp [tupOf, Wld.ext_iff, h0, h1, h2]
    · simp only [go_sem, Nat.reduceEqDiff, Nat.reduceAdd, Nat.reduceMul, Nat.reduceLeDiff, Int.reduceEq, Int.reduceLT, Int.reduceLE, Int.reduceAdd, Int.reduceSub, Int.reduceNeg, Int.reduceMul, Int.reduceToNat, Int.cast_ofNat_Int, Int.natCast_zero, Nat.add_zero, reduceCtorEq, h0, h1]
      refine hQ _ _ (Ends.ret rfl ⟨?_, rfl⟩)
      simp [tupOf, Wld.ext_iff, h0, h1]
  · simp only [go_sem, Nat.reduceEqDiff, Nat.reduceAdd, Nat.reduceMul, Nat.reduceLeDiff, Int.reduceEq, Int.reduceLT, Int.reduceLE, Int.reduceAdd, Int.reduceSub, Int.reduceNeg, Int.reduceMul, Int.reduceToNat, Int.cast_ofNat_Int, Int.natCast_zero, Nat.add_zero, reduceCtorEq, h0]
    refine hQ _ _ (Ends.ret rfl ⟨?_, rfl⟩)
    simp [tupOf, Wld.ext_iff, h0]
theorem houseNew_recs (id room : Int) : (houseNewV id room).log.recs = [] := by
  unfold houseNewV; split <;> rfl
theorem houses_cnt : ∀ (l : List House), (∀ h ∈ l, h.log.recs = []) → sumL cntHouse l = 4 * l.length
  | [], _ => rfl
  | h :: r, k => by
    have h1 := houses_cnt r fun x hx => k x (by simp [hx])
    have h2 : cntHouse h = 4 := by unfold cntHouse; rw [k h (by simp)]; rfl
    simp only [sumL, List.map_cons, List.sum_cons, List.length_cons] at h1 ⊢; omega
theorem cnt_world {w : Wld} (h : cntWld w ≤ 4194304) : cntWld w ≤ 4194304 := h
theorem worldNew_small (rooms : List Int) : cntWld (worldNewV rooms) ≤ 4194304 := by
  unfold worldNewV
  split
  · rename_i hg
    have hl : rooms.length = 3 := by
      simp only [worldNewOk, Bool.and_eq_true, decide_eq_true_eq] at hg; exact hg.2
    have h1 := houses_cnt (housesN rooms rooms.length) (fun h hh => by
      simp only [housesN, List.mem_map] at hh
      obtain ⟨p, _, rfl⟩ := hh
      exact houseNew_recs _ _)
    have h2 : (housesN rooms rooms.length).length = 3 := by simp [housesN, hl]
    have h3 : cntWld ⟨desk0, housesN rooms rooms.length, []⟩ = 0 + 0 + (sumL cntHouse (housesN rooms rooms.length) + 0) := rfl
    rw [h3, h1, h2]; decide
  · decide
end Go.AX

/- To hear: the program and the reference do the same. Condition: the data lie in memory. -/
namespace Go.AX
variable {P : Program} {I : Ids}
theorem may_recOfW {h : House} {w : Word} (hok : houseOk h = true) (hh : hearsB h w = true) : stockMay (stockV h false) (recOfW w) = mayB h w := by
  obtain ⟨_, g2, g3, _⟩ := hearsB_parts hh
  simp [stockMay, stockV_ok hok false, recOfW_ok g2 g3, mayB]
theorem rword0 {H : Heap} : RWord H [.int .i64 0, .int .i64 0, .int .i64 0, .int .i64 0] word0 [] := ⟨rfl, rfl⟩
end Go.AX

/- To hear: the reference. Condition: the data lie in memory. -/
namespace Go.AX
variable {P : Program} {I : Ids}
def answerF (kind f : Int) : Int := if kind = 1 ∧ (f = 1 ∨ f = 2) then 4 else if kind = 1 ∧ f = 3 then 5 else if kind = 2 ∧ f = 2 then 6 else if kind = 3 ∧ f = 3 then 7 else 0
theorem answerK_F {k a f : Int} (h : ¬ (k = 1 ∧ a = 0)) : answerK k a f = answerF k f := by simp only [answerK, answerF, if_neg h]
def answerW (h : House) (w : Word) (f : Int) : Word := if answerF w.kind f = 0 then word0 else ⟨answerF w.kind f, h.id, w.trip, 0⟩
end Go.AX

/- The exact laws of trips hold. Condition: the arguments lie in memory. -/
namespace Go.AX
variable {P : Program} {I : Ids}
theorem cnt_trips {l : List Trip} (h : tripsOk l = true) : sumL cntTrip l ≤ 4194304 := by
  obtain ⟨h1, h2⟩ := tripsOk_parts h
  have := sumL_bound (f := cntTrip) (xs := l) (N := 4) fun t ht => by
    have := manyOk_len (h2 t ht).1
    simp only [cntTrip, sumL_one]; omega
  have : l.length * 4 ≤ 6 * 4 := Nat.mul_le_mul_right _ h1
  omega
theorem tripsDoV_ok (l : List Trip) (r : Rec) : tripsOk (tripsDoV l r) = true := by
  unfold tripsDoV; split
  · rename_i h
    simp only [tripsMay, Bool.and_eq_true] at h
    exact tripsOk_do h.1 h.2.1 h.2.2
  · rfl
theorem tripsD_ok (recs : List Rec) : tripsOk (tripsD recs) = true := by
  unfold tripsD
  cases h : tripsOf recs with
  | none => rfl
  | some l => exact tripsOf_ok h
end Go.AX

/- Draws: trips and records of a desk. Condition: the reader lies in memory, and drew less often than 2^39. -/
namespace Go.AX
variable {P : Program} {I : Ids}
end Go.AX

/- Draws: houses. Condition: the reader lies in memory, and drew less often than 2^39. -/
namespace Go.AX
variable {P : Program} {I : Ids}
end Go.AX

/- Draws: houses and words. Condition: the reader lies in memory, and drew less often than 2^39. -/
namespace Go.AX
variable {P : Program} {I : Ids}
theorem keepB5 {k1 k2 : Int} (h1 : Drawn 5 k1) (h2 : Drawn 6 k2) : ∃ v, IntKind.wrap .i64 (k1 - IntKind.wrap .i64 (IntKind.wrap .i64 (k2.tdiv 5) * 2)) = v ∧ -3 ≤ v ∧ v ≤ 6 :=
  keepB ⟨h1.1, fun _ => by have := h1.2.1 (by decide); omega, fun h => absurd h (by decide)⟩ h2
end Go.AX

/- The laws of houses hold that do not hear. Condition: the bytes that draw lie in memory. -/
namespace Go.AX
variable {P : Program} {I : Ids}
theorem sameC2 {a b c d : Int} : sameC [.int .i64 a, .int .i64 b] [.int .i64 c, .int .i64 d] = some ((a == c) && ((b == d) && true)) := by simp [sameC]
/-! What holds of houses. -/
theorem rise_eq {h : House} (k : houseOk h = true) : houseRiseV h = { h with up := true } := by simp [houseRiseV, k]
theorem ok_up {h : House} (u : Bool) : houseOk { h with up := u } = houseOk h := rfl
theorem force_eq {h : House} (k : houseOk h = true) (u : h.up = true) : houseForceV h = { h with log := forceL h.log } := by simp [houseForceV, k, u]
theorem force_houseOk {h : House} (k : houseOk h = true) : houseOk { h with log := forceL h.log } = true := by
  obtain ⟨h1, h2, s, hs⟩ := houseOk_parts k
  exact houseOk_of h1 (force_ok h2) (s := s) hs
theorem fall_eq {h : House} (k : houseOk h = true) (n : Int) : houseFallV h n = { h with up := false, log := fallL h.log n } := by simp [houseFallV, k]
theorem fall_houseOk {h : House} (k : houseOk h = true) (n : Int) (u : Bool) : houseOk { h with up := u, log := fallL h.log n } = true := by
  obtain ⟨h1, h2, s, hs⟩ := houseOk_parts k
  obtain ⟨t, ht⟩ := stockOf_take hs (fallN h.log n)
  exact houseOk_of h1 (fall_ok h2 n) (s := t) ht
theorem stock_fall0 {h : House} (k : houseOk h = true) (u : Bool) : stockV { h with up := u, log := fallL h.log 0 } false = stockV h true := by
  have hN : fallN h.log 0 = h.log.forced.toNat := by unfold fallN; simp
  simp only [stockV, known, fallL, hN, if_true]
  simp
theorem stock_force {h : House} (k : houseOk h = true) (u : Bool) : stockV { h with up := u, log := forceL h.log } true = stockV h false := by
  simp [stockV, known, forceL]
theorem houseStock_eq {h : House} (k : houseOk h = true) (f : Bool) : houseStockV h f = stockV h f := by simp [houseStockV, k]
theorem stockOf_known {h : House} (k : houseOk h = true) (f : Bool) : stockOf h.room (known h.log f) = some (stockV h f) := by
  obtain ⟨h1, h2, s, hs⟩ := houseOk_parts k
  cases f with
  | false => rw [stockV_all hs]; exact hs
  | true =>
    obtain ⟨t, ht⟩ := stockOf_take hs h.log.forced.toNat
    simp [stockV, known, ht]

end Go.AX

/- The laws of what a house hears. Condition: the bytes that draw lie in memory. -/
namespace Go.AX
variable {P : Program} {I : Ids}
theorem sameC4 {a b c d a' b' c' d' : Int} : sameC [.int .i64 a, .int .i64 b, .int .i64 c, .int .i64 d] [.int .i64 a', .int .i64 b', .int .i64 c', .int .i64 d'] = some ((a == a') && ((b == b') && ((c == c') && ((d == d') && true)))) := by simp [sameC]
theorem Word.ext' {a b : Word} (h1 : a.kind = b.kind) (h2 : a.house = b.house) (h3 : a.trip = b.trip) (h4 : a.many = b.many) : a = b := by cases a; cases b; simp_all
/-! What holds of hearing. -/
theorem hear_deaf {h : House} {w : Word} (hk : houseOk h = true) (hn : hearsB h w = false) : houseHearV h w = h ∧ houseHearB h w = false := by
  refine ⟨by rw [houseHearV, if_pos hk, hearH_same (by simp [hn])], by simp [houseHearB, hearOk, hn]⟩
theorem holdDo_again {s : Stock} {r : Rec} (hl : s.holds.length = 6) (ht : 1 ≤ r.trip ∧ r.trip ≤ 6) (hm : stockMayB s r = true) : stockMayB (stockDoL s r) r = false := by
  have hg := holdAt_get hl ht.1 ht.2
  have e : holdAt (stockDoL s r) r.trip = holdDo (holdAt s r.trip) r := by
    have : (stockDoL s r).holds[(r.trip - 1).toNat]? = some (holdDo (holdAt s r.trip) r) := by
      simp only [stockDoL]; rw [List.getElem?_set_self (by rw [hl]; omega)]
    unfold holdAt
    unfold holdAt at this
    rw [this]; rfl
  unfold stockMayB at hm ⊢
  rw [e]
  unfold holdDo
  split at hm
  · rename_i k; simp only [Bool.and_eq_true, decide_eq_true_eq] at hm; simp [k, hm.1]
  · split at hm
    · rename_i k1 k2; simp [k1, k2]
    · split at hm
      · rename_i k1 k2 k3; simp [k1, k2, k3]
      · cases hm
theorem hear_twice {h : House} {w : Word} (hk : houseOk h = true) : houseHearV (houseHearV h w) w = houseHearV h w := by
  have e : houseHearV h w = hearH h w := by rw [houseHearV, if_pos hk]
  rw [e, houseHearV, if_pos (hearH_ok hk)]
  by_cases hc : hearsB h w = true ∧ mayB h w = true
  · have W := wrote hk hc.1 hc.2
    have hp := hearsB_parts hc.1
    have ht := (wordOk_parts hp.2.1).2.2.1
    refine hearH_same fun hm => ?_
    have := hm.2
    unfold mayB at this
    rw [W.all, holdDo_again (stockOk_parts (stockV_ok hk false)).2.1 ht W.may] at this
    cases this
  · rw [hearH_same hc, hearH_same hc]
end Go.AX

/- Words among words; desks that are ok: the program and the reference do the same. Condition: the data lie in memory. -/
namespace Go.AX
variable {P : Program} {I : Ids}
theorem sameW {w v : Word} : sameC [.int .i64 w.kind, .int .i64 w.house, .int .i64 w.trip, .int .i64 w.many] [.int .i64 v.kind, .int .i64 v.house, .int .i64 v.trip, .int .i64 v.many] = some (decide (w = v)) := by
  rw [sameC4]
  congr 1
  rw [Bool.eq_iff_iff]
  simp [Word.ext_iff]
theorem mem_take_snoc {w v : Word} {xs : List Word} {i : Nat} (h : xs[i]? = some v) : w ∈ xs.take (i + 1) ↔ w ∈ xs.take i ∨ w = v := by
  rw [take_snoc h]; simp
theorem does_g_Index_Word (K : Codes P I) {H : Heap} {c : C} {ds : List C} {xs : List Word} {w : Word} {F G : List Nat} (h : Words H c xs F) (hw : RWord H ds w G) :
    Does P I.g_Index_Word [.c c, .agg ds] H fun v H' => ∃ n : Int, v = .val (int n) ∧ (0 ≤ n ↔ w ∈ xs) ∧ H' = H := by
  obtain ⟨rfl, rfl⟩ := hw
  have htop := h.top
  refine K.does K.g_Index_Word rfl fun Q hQ => ?_
  simp only [go_sem, Nat.reduceEqDiff, Nat.reduceAdd, Nat.reduceMul, Nat.reduceLeDiff, Int.reduceEq, Int.reduceLT, Int.reduceLE, Int.reduceAdd, Int.reduceSub, Int.reduceNeg, Int.reduceMul, Int.reduceToNat, Int.cast_ofNat_Int, Int.natCast_zero, Nat.add_zero, reduceCtorEq, L_g_Index_Word, h.len]
  refine RU_loop (fun m s => ∃ i : Nat, m = xs.length - i ∧ i ≤ xs.length ∧ s.H = H ∧ s.env 0 = .val (.c c) ∧ s.env 3 = .box [.int .i64 w.kind, .int .i64 w.house, .int .i64 w.trip, .int .i64 w.many] ∧ s.env 7 = .val (int xs.length) ∧ s.env 8 = .val (int i) ∧ w ∉ xs.take i) xs.length ⟨0, by simp, by simp, rfl, rfl, rfl, rfl, rfl, by simp⟩ ?_
  rintro m s ⟨i, rfl, hi, hH, g0, g3, g7, g8, hm⟩ Q' hN hE hR
  by_cases hlt : (i : Int) < xs.length
  · obtain ⟨v, hv⟩ := get_lt hlt
    obtain ⟨b1, o1, bs1, cs1, f1, rfl, e1, e2, ⟨rfl, _⟩, _⟩ := h.get hv
    by_cases e : w = v
    · subst e
      simp only [go_sem, Nat.reduceEqDiff, Nat.reduceAdd, Nat.reduceMul, Nat.reduceLeDiff, Int.reduceEq, Int.reduceLT, Int.reduceLE, Int.reduceAdd, Int.reduceSub, Int.reduceNeg, Int.reduceMul, Int.reduceToNat, Int.cast_ofNat_Int, Int.natCast_zero, Nat.add_zero, reduceCtorEq, g0, g3, g7, g8, hlt, hH, e1, e2, sameW]
      refine hR _ ?_
      exact hQ _ _ (Ends.ret rfl ⟨(i : Int), rfl, ⟨fun _ => List.mem_of_getElem? hv, fun _ => by omega⟩, by simp [hH]⟩)
    · simp only [go_sem, Nat.reduceEqDiff, Nat.reduceAdd, Nat.reduceMul, Nat.reduceLeDiff, Int.reduceEq, Int.reduceLT, Int.reduceLE, Int.reduceAdd, Int.reduceSub, Int.reduceNeg, Int.reduceMul, Int.reduceToNat, Int.cast_ofNat_Int, Int.natCast_zero, Nat.add_zero, reduceCtorEq, g0, g3, g7, g8, hlt, hH, e1, e2, sameW, e, wrap_succ (show i ≤ lenTop by omega)]
      refine hN _ _ (by omega) ⟨i + 1, rfl, by omega, by simp [hH], by simp [upd, g0], by simp [upd, g3], by simp [upd, g7], by simp [upd], ?_⟩
      rw [mem_take_snoc hv]; simp [hm, e]
  · simp only [go_sem, Nat.reduceEqDiff, Nat.reduceAdd, Nat.reduceMul, Nat.reduceLeDiff, Int.reduceEq, Int.reduceLT, Int.reduceLE, Int.reduceAdd, Int.reduceSub, Int.reduceNeg, Int.reduceMul, Int.reduceToNat, Int.cast_ofNat_Int, Int.natCast_zero, Nat.add_zero, reduceCtorEq, g7, g8, hlt]
    refine hE _ _ ?_
    simp only [go_sem, Nat.reduceEqDiff, Nat.reduceAdd, Nat.reduceMul, Nat.reduceLeDiff, Int.reduceEq, Int.reduceLT, Int.reduceLE, Int.reduceAdd, Int.reduceSub, Int.reduceNeg, Int.reduceMul, Int.reduceToNat, Int.cast_ofNat_Int, Int.natCast_zero, Nat.add_zero, reduceCtorEq, hH]
    rw [List.take_of_length_le (by omega)] at hm
    exact hQ _ _ (Ends.ret rfl ⟨-1, rfl, ⟨fun q => absurd q (by decide), fun q => absurd q hm⟩, rfl⟩)
theorem does_g_Contains_Word (K : Codes P I) {H : Heap} {c : C} {ds : List C} {xs : List Word} {w : Word} {F G : List Nat} (h : Words H c xs F) (hw : RWord H ds w G) :
    Does P I.g_Contains_Word [.c c, .agg ds] H fun v H' => v = bool (decide (w ∈ xs)) ∧ H' = H := by
  obtain ⟨rfl, rfl⟩ := hw
  refine K.does K.g_Contains_Word rfl fun Q hQ => ?_
  simp only [go_sem, Nat.reduceEqDiff, Nat.reduceAdd, Nat.reduceMul, Nat.reduceLeDiff, Int.reduceEq, Int.reduceLT, Int.reduceLE, Int.reduceAdd, Int.reduceSub, Int.reduceNeg, Int.reduceMul, Int.reduceToNat, Int.cast_ofNat_Int, Int.natCast_zero, Nat.add_zero, reduceCtorEq, L_g_Contains_Word]
  refine Does.call (does_g_Index_Word K h (show RWord H _ w [] from ⟨rfl, rfl⟩)) ?_
  rintro _ _ ⟨n, rfl, hn, rfl⟩
  simp only [go_sem, Nat.reduceEqDiff, Nat.reduceAdd, Nat.reduceMul, Nat.reduceLeDiff, Int.reduceEq, Int.reduceLT, Int.reduceLE, Int.reduceAdd, Int.reduceSub, Int.reduceNeg, Int.reduceMul, Int.reduceToNat, Int.cast_ofNat_Int, Int.natCast_zero, Nat.add_zero, reduceCtorEq]
  exact hQ _ _ (Ends.ret rfl ⟨by simp [tupOf, hn], rfl⟩)
theorem does_s_l13Told (K : Codes P I) {H : Heap} {c : C} {ds : List C} {xs : List Word} {w : Word} {F G : List Nat} (h : Words H c xs F) (hw : RWord H ds w G) :
    Does P I.s_l13Told [.c c, .agg ds] H fun v H' => v = bool (decide (w ∈ xs)) ∧ H' = H := by
  obtain ⟨rfl, rfl⟩ := hw
  have htop := h.top
  refine K.does K.s_l13Told rfl fun Q hQ => ?_
  simp only [go_sem, Nat.reduceEqDiff, Nat.reduceAdd, Nat.reduceMul, Nat.reduceLeDiff, Int.reduceEq, Int.reduceLT, Int.reduceLE, Int.reduceAdd, Int.reduceSub, Int.reduceNeg, Int.reduceMul, Int.reduceToNat, Int.cast_ofNat_Int, Int.natCast_zero, Nat.add_zero, reduceCtorEq, L_s_l13Told, h.len]
  refine RU_loop (fun m s => ∃ i : Nat, m = xs.length - i ∧ i ≤ xs.length ∧ s.H = H ∧ s.env 0 = .val (.c c) ∧ s.env 3 = .box [.int .i64 w.kind, .int .i64 w.house, .int .i64 w.trip, .int .i64 w.many] ∧ s.env 5 = .val (int i) ∧ w ∉ xs.take i) xs.length ⟨0, by simp, by simp, rfl, rfl, rfl, rfl, by simp⟩ ?_
  rintro m s ⟨i, rfl, hi, hH, g0, g3, g5, hm⟩ Q' hN hE hR
  by_cases hlt : (i : Int) < xs.length
  · obtain ⟨v, hv⟩ := get_lt hlt
    obtain ⟨b1, o1, bs1, cs1, f1, rfl, e1, e2, ⟨rfl, _⟩, _⟩ := h.get hv
    by_cases e : v = w
    · subst e
      have hin : v ∈ xs := List.mem_of_getElem? hv
      simp only [go_sem, Nat.reduceEqDiff, Nat.reduceAdd, Nat.reduceMul, Nat.reduceLeDiff, Int.reduceEq, Int.reduceLT, Int.reduceLE, Int.reduceAdd, Int.reduceSub, Int.reduceNeg, Int.reduceMul, Int.reduceToNat, Int.cast_ofNat_Int, Int.natCast_zero, Nat.add_zero, reduceCtorEq, g0, g3, g5, hlt, hH, h.len, e1, e2, sameW]
      refine hR _ ?_
      exact hQ _ _ (Ends.ret rfl ⟨by simp [tupOf, hin], by simp [hH]⟩)
    · simp only [go_sem, Nat.reduceEqDiff, Nat.reduceAdd, Nat.reduceMul, Nat.reduceLeDiff, Int.reduceEq, Int.reduceLT, Int.reduceLE, Int.reduceAdd, Int.reduceSub, Int.reduceNeg, Int.reduceMul, Int.reduceToNat, Int.cast_ofNat_Int, Int.natCast_zero, Nat.add_zero, reduceCtorEq, g0, g3, g5, hlt, hH, h.len, e1, e2, sameW, e, wrap_succ (show i ≤ lenTop by omega)]
      refine hN _ _ (by omega) ⟨i + 1, rfl, by omega, by simp [hH], by simp [upd, g0], by simp [upd, g3], by simp [upd], ?_⟩
      rw [mem_take_snoc hv]; simp [hm, Ne.symm e]
  · simp only [go_sem, Nat.reduceEqDiff, Nat.reduceAdd, Nat.reduceMul, Nat.reduceLeDiff, Int.reduceEq, Int.reduceLT, Int.reduceLE, Int.reduceAdd, Int.reduceSub, Int.reduceNeg, Int.reduceMul, Int.reduceToNat, Int.cast_ofNat_Int, Int.natCast_zero, Nat.add_zero, reduceCtorEq, g0, g5, hlt, h.len]
    refine hE _ _ ?_
    simp only [go_sem, Nat.reduceEqDiff, Nat.reduceAdd, Nat.reduceMul, Nat.reduceLeDiff, Int.reduceEq, Int.reduceLT, Int.reduceLE, Int.reduceAdd, Int.reduceSub, Int.reduceNeg, Int.reduceMul, Int.reduceToNat, Int.cast_ofNat_Int, Int.natCast_zero, Nat.add_zero, reduceCtorEq, hH]
    rw [List.take_of_length_le (by omega)] at hm
    exact hQ _ _ (Ends.ret rfl ⟨by simp [tupOf, hm], rfl⟩)
end Go.AX

/- Desks that are ok: the program and the reference do the same. Condition: the data lie in memory. -/
namespace Go.AX
variable {P : Program} {I : Ids}
theorem told_parts {n : Nat} {xs : List Word} (h : toldOk n xs = true) : (∀ w ∈ xs, wordOk w = true ∧ 4 ≤ w.kind ∧ w.trip ≤ n) ∧ xs.Nodup := by
  simpa only [toldOk, Bool.and_eq_true, List.all_eq_true, decide_eq_true_eq] using h
theorem told_of {n : Nat} {xs : List Word} (h1 : ∀ w ∈ xs, wordOk w = true ∧ 4 ≤ w.kind ∧ w.trip ≤ n) (h2 : xs.Nodup) : toldOk n xs = true := by
  simp only [toldOk, Bool.and_eq_true, List.all_eq_true, decide_eq_true_eq]
  exact ⟨h1, h2⟩
theorem told_snoc {n : Nat} {xs : List Word} {v : Word} {i : Nat} (h : xs[i]? = some v) (hi : toldOk n (xs.take i) = true) (h1 : wordOk v = true) (h2 : 4 ≤ v.kind) (h3 : v.trip ≤ n) (h4 : v ∉ xs.take i) : toldOk n (xs.take (i + 1)) = true := by
  obtain ⟨g1, g2⟩ := told_parts hi
  refine told_of (fun w hw => ?_) ?_
  · rcases (mem_take_snoc h).1 hw with hw | rfl
    · exact g1 w hw
    · exact ⟨h1, h2, h3⟩
  · rw [take_snoc h, List.nodup_append]
    refine ⟨g2, by simp, fun a ha b hb e => ?_⟩
    simp only [List.mem_singleton] at hb
    subst hb; subst e; exact h4 ha
theorem told_bad {n : Nat} {xs : List Word} {v : Word} {i : Nat} (h : xs[i]? = some v) (hc : ¬ (wordOk v = true ∧ 4 ≤ v.kind ∧ v.trip ≤ n ∧ v ∉ xs.take i)) : toldOk n xs = false := by
  cases ht : toldOk n xs with
  | false => rfl
  | true =>
    obtain ⟨g1, g2⟩ := told_parts ht
    obtain ⟨k1, k2, k3⟩ := g1 v (List.mem_of_getElem? h)
    refine absurd ⟨k1, k2, k3, fun hm => ?_⟩ hc
    have hs : (xs.take (i + 1)).Nodup := g2.sublist (List.take_sublist _ _)
    rw [take_snoc h, List.nodup_append] at hs
    exact hs.2.2 v hm v (by simp) rfl
theorem desk_bad {d : Desk} (h : toldOk (tripsD d.log.recs).length d.told = false) : deskOk d = false := by simp [deskOk, h]
set_option maxHeartbeats 2000000 in
theorem does_i_DeskOk (K : Codes P I) {H : Heap} {cs : List C} {d : Desk} {F : List Nat} (hd : RDesk H cs d F) : Does P I.i_DeskOk [.agg cs] H fun v H' => v = bool (deskOk d) ∧ Step [] H H' [] := by
  obtain ⟨c, t, F1, F2, rfl, rfl, hr, ht⟩ := hd
  have htop := ht.top
  refine K.does K.i_DeskOk rfl fun Q hQ => ?_
  simp only [go_sem, Nat.reduceEqDiff, Nat.reduceAdd, Nat.reduceMul, Nat.reduceLeDiff, Int.reduceEq, Int.reduceLT, Int.reduceLE, Int.reduceAdd, Int.reduceSub, Int.reduceNeg, Int.reduceMul, Int.reduceToNat, Int.cast_ofNat_Int, Int.natCast_zero, Nat.add_zero, reduceCtorEq, L_i_DeskOk]
  refine Does.test (does_i_LogOk K (show RLog H [c, .int .i64 d.log.forced] d.log F1 from ⟨c, rfl, hr⟩)) ?_
  cases hlok : logOk d.log with
  | false =>
    simp only [go_sem, Nat.reduceEqDiff, Nat.reduceAdd, Nat.reduceMul, Nat.reduceLeDiff, Int.reduceEq, Int.reduceLT, Int.reduceLE, Int.reduceAdd, Int.reduceSub, Int.reduceNeg, Int.reduceMul, Int.reduceToNat, Int.cast_ofNat_Int, Int.natCast_zero, Nat.add_zero, reduceCtorEq]
    exact hQ _ _ (Ends.ret rfl ⟨by simp [tupOf, deskOk, hlok], Step.refl H⟩)
  | true =>
    cases hup : d.up with
    | false =>
      by_cases hz : d.told = []
      · have hg : ¬ (0 : Int) < d.told.length := by rw [hz]; simp
        simp only [go_sem, Nat.reduceEqDiff, Nat.reduceAdd, Nat.reduceMul, Nat.reduceLeDiff, Int.reduceEq, Int.reduceLT, Int.reduceLE, Int.reduceAdd, Int.reduceSub, Int.reduceNeg, Int.reduceMul, Int.reduceToNat, Int.cast_ofNat_Int, Int.natCast_zero, Nat.add_zero, reduceCtorEq, hup, ht.len, hg]
        refine Does.call (does_i_TripsOf K hr) ?_
        rintro _ H1 ⟨ct, Ft, rfl, s1, hct⟩
        replace s1 : Step [] H H1 Ft := s1
        have s1' : Step [] H H1 [] := s1.less (List.nil_sublist _)
        have ht1 : Words H1 t d.told F2 := s1.keepSl RWord.good ht (fun b _ => by simp)
        simp only [go_sem, Nat.reduceEqDiff, Nat.reduceAdd, Nat.reduceMul, Nat.reduceLeDiff, Int.reduceEq, Int.reduceLT, Int.reduceLE, Int.reduceAdd, Int.reduceSub, Int.reduceNeg, Int.reduceMul, Int.reduceToNat, Int.cast_ofNat_Int, Int.natCast_zero, Nat.add_zero, reduceCtorEq, hup, ht1.len]
        refine RU_loop (fun m s => ∃ i : Nat, m = d.told.length - i ∧ i ≤ d.told.length ∧ s.H = H1 ∧ s.env 1 = .box [.bool false, c, .int .i64 d.log.forced, t] ∧ s.env 3 = .val (.c ct) ∧ s.env 4 = bool (tripsOf d.log.recs).isSome ∧ s.env 30 = .val (.c t) ∧ s.env 31 = .val (int d.told.length) ∧ s.env 32 = .val (int i) ∧ toldOk (tripsD d.log.recs).length (d.told.take i) = true) d.told.length
          ⟨0, by simp, by simp, rfl, rfl, rfl, rfl, rfl, rfl, rfl, by simp [toldOk]⟩ ?_
        rintro m s ⟨i, rfl, hi, hH, g1, g3, g6, g30, g31, g32, hok⟩ Q' hN hE hR
        by_cases hlt : (i : Int) < d.told.length
        · obtain ⟨v, hv⟩ := get_lt hlt
          obtain ⟨b1, o1, bs1, cs1, f1, rfl, e1, e2, ⟨rfl, _⟩, _⟩ := ht1.get hv
          obtain ⟨cq, Fq, hq, hcq, _⟩ := slc_take ht1 (k := i) hi
          have hlt' : (i : Int) < d.told.length := hlt
          simp only [go_sem, Nat.reduceEqDiff, Nat.reduceAdd, Nat.reduceMul, Nat.reduceLeDiff, Int.reduceEq, Int.reduceLT, Int.reduceLE, Int.reduceAdd, Int.reduceSub, Int.reduceNeg, Int.reduceMul, Int.reduceToNat, Int.cast_ofNat_Int, Int.natCast_zero, Nat.add_zero, reduceCtorEq, g1, g3, g6, g30, g31, g32, hlt, hH, e1, e2]
          refine Does.test (does_i_WordOk K (show RWord H1 _ v [] from ⟨rfl, rfl⟩)) ?_
          cases hw : wordOk v with
          | false =>
            simp only [go_sem, Nat.reduceEqDiff, Nat.reduceAdd, Nat.reduceMul, Nat.reduceLeDiff, Int.reduceEq, Int.reduceLT, Int.reduceLE, Int.reduceAdd, Int.reduceSub, Int.reduceNeg, Int.reduceMul, Int.reduceToNat, Int.cast_ofNat_Int, Int.natCast_zero, Nat.add_zero, reduceCtorEq, g1, g3, g6, g30, g31, g32, hlt, hlt', hH, e1, e2, hq, hct.len, hw]
            refine hR _ ?_
            exact hQ _ _ (Ends.ret rfl ⟨by simp [tupOf, desk_bad (told_bad hv (by simp [hw]))], by simp only [hH]; exact s1'⟩)
          | true =>
            simp only [go_sem, Nat.reduceEqDiff, Nat.reduceAdd, Nat.reduceMul, Nat.reduceLeDiff, Int.reduceEq, Int.reduceLT, Int.reduceLE, Int.reduceAdd, Int.reduceSub, Int.reduceNeg, Int.reduceMul, Int.reduceToNat, Int.cast_ofNat_Int, Int.natCast_zero, Nat.add_zero, reduceCtorEq]
            refine Does.test (does_i_Word_answer K (show RWord H1 _ v [] from ⟨rfl, rfl⟩)) ?_
            by_cases hk : 4 ≤ v.kind
            · by_cases hn : ((tripsD d.log.recs).length : Int) < v.trip
              · simp only [go_sem, Nat.reduceEqDiff, Nat.reduceAdd, Nat.reduceMul, Nat.reduceLeDiff, Int.reduceEq, Int.reduceLT, Int.reduceLE, Int.reduceAdd, Int.reduceSub, Int.reduceNeg, Int.reduceMul, Int.reduceToNat, Int.cast_ofNat_Int, Int.natCast_zero, Nat.add_zero, reduceCtorEq, g1, g3, g6, g30, g31, g32, hlt, hlt', hH, e1, e2, hq, hct.len, hk, hn]
                refine hR _ ?_
                exact hQ _ _ (Ends.ret rfl ⟨by simp [tupOf, desk_bad (told_bad hv (by simp [show ¬ v.trip ≤ ((tripsD d.log.recs).length : Int) by omega]))], by simp only [hH]; exact s1'⟩)
              · simp only [go_sem, Nat.reduceEqDiff, Nat.reduceAdd, Nat.reduceMul, Nat.reduceLeDiff, Int.reduceEq, Int.reduceLT, Int.reduceLE, Int.reduceAdd, Int.reduceSub, Int.reduceNeg, Int.reduceMul, Int.reduceToNat, Int.cast_ofNat_Int, Int.natCast_zero, Nat.add_zero, reduceCtorEq, g1, g3, g6, g30, g31, g32, hlt, hH, e1, e2, hk, hn, hct.len, hq]
                refine Does.test (does_g_Contains_Word K hcq (show RWord H1 _ v [] from ⟨rfl, rfl⟩)) ?_
                by_cases hm : v ∈ d.told.take i
                · simp only [go_sem, Nat.reduceEqDiff, Nat.reduceAdd, Nat.reduceMul, Nat.reduceLeDiff, Int.reduceEq, Int.reduceLT, Int.reduceLE, Int.reduceAdd, Int.reduceSub, Int.reduceNeg, Int.reduceMul, Int.reduceToNat, Int.cast_ofNat_Int, Int.natCast_zero, Nat.add_zero, reduceCtorEq, g1, g3, g6, g30, g31, g32, hlt, hlt', hH, e1, e2, hq, hct.len, hm]
                  refine hR _ ?_
                  exact hQ _ _ (Ends.ret rfl ⟨by simp [tupOf, desk_bad (told_bad hv (by simp [hm]))], by simp only [hH]; exact s1'⟩)
                · simp only [go_sem, Nat.reduceEqDiff, Nat.reduceAdd, Nat.reduceMul, Nat.reduceLeDiff, Int.reduceEq, Int.reduceLT, Int.reduceLE, Int.reduceAdd, Int.reduceSub, Int.reduceNeg, Int.reduceMul, Int.reduceToNat, Int.cast_ofNat_Int, Int.natCast_zero, Nat.add_zero, reduceCtorEq, g1, g3, g6, g30, g31, g32, hm, hH, wrap_succ (show i ≤ lenTop by omega)]
                  refine hN _ _ (by omega) ⟨i + 1, rfl, by omega, by simp [hH], by simp [upd, g1], by simp [upd, g3], by simp [upd, g6], by simp [upd, g30], by simp [upd, g31], by simp [upd], told_snoc hv hok hw hk (by omega) hm⟩
            · simp only [go_sem, Nat.reduceEqDiff, Nat.reduceAdd, Nat.reduceMul, Nat.reduceLeDiff, Int.reduceEq, Int.reduceLT, Int.reduceLE, Int.reduceAdd, Int.reduceSub, Int.reduceNeg, Int.reduceMul, Int.reduceToNat, Int.cast_ofNat_Int, Int.natCast_zero, Nat.add_zero, reduceCtorEq, g1, g3, g6, g30, g31, g32, hlt, hlt', hH, e1, e2, hq, hct.len, hk]
              refine hR _ ?_
              exact hQ _ _ (Ends.ret rfl ⟨by simp [tupOf, desk_bad (told_bad hv (by simp [hk]))], by simp only [hH]; exact s1'⟩)
        · simp only [go_sem, Nat.reduceEqDiff, Nat.reduceAdd, Nat.reduceMul, Nat.reduceLeDiff, Int.reduceEq, Int.reduceLT, Int.reduceLE, Int.reduceAdd, Int.reduceSub, Int.reduceNeg, Int.reduceMul, Int.reduceToNat, Int.cast_ofNat_Int, Int.natCast_zero, Nat.add_zero, reduceCtorEq, g1, g3, g6, g30, g31, g32, hlt]
          refine hE _ _ ?_
          simp only [go_sem, Nat.reduceEqDiff, Nat.reduceAdd, Nat.reduceMul, Nat.reduceLeDiff, Int.reduceEq, Int.reduceLT, Int.reduceLE, Int.reduceAdd, Int.reduceSub, Int.reduceNeg, Int.reduceMul, Int.reduceToNat, Int.cast_ofNat_Int, Int.natCast_zero, Nat.add_zero, reduceCtorEq, g6, hH]
          rw [List.take_of_length_le (by omega)] at hok
          exact hQ _ _ (Ends.ret rfl ⟨by simp [tupOf, deskOk, hlok, hok, hz, toldOk], s1'⟩)
      · have hg : (0 : Int) < d.told.length := by have := List.length_pos_iff.2 hz; omega
        simp only [go_sem, Nat.reduceEqDiff, Nat.reduceAdd, Nat.reduceMul, Nat.reduceLeDiff, Int.reduceEq, Int.reduceLT, Int.reduceLE, Int.reduceAdd, Int.reduceSub, Int.reduceNeg, Int.reduceMul, Int.reduceToNat, Int.cast_ofNat_Int, Int.natCast_zero, Nat.add_zero, reduceCtorEq, hup, ht.len, hg]
        exact hQ _ _ (Ends.ret rfl ⟨by simp [tupOf, deskOk, hup, hz], Step.refl H⟩)
    | true =>
      simp only [go_sem, Nat.reduceEqDiff, Nat.reduceAdd, Nat.reduceMul, Nat.reduceLeDiff, Int.reduceEq, Int.reduceLT, Int.reduceLE, Int.reduceAdd, Int.reduceSub, Int.reduceNeg, Int.reduceMul, Int.reduceToNat, Int.cast_ofNat_Int, Int.natCast_zero, Nat.add_zero, reduceCtorEq, hup]
      refine Does.call (does_i_TripsOf K hr) ?_
      rintro _ H1 ⟨ct, Ft, rfl, s1, hct⟩
      replace s1 : Step [] H H1 Ft := s1
      have s1' : Step [] H H1 [] := s1.less (List.nil_sublist _)
      have ht1 : Words H1 t d.told F2 := s1.keepSl RWord.good ht (fun b _ => by simp)
      simp only [go_sem, Nat.reduceEqDiff, Nat.reduceAdd, Nat.reduceMul, Nat.reduceLeDiff, Int.reduceEq, Int.reduceLT, Int.reduceLE, Int.reduceAdd, Int.reduceSub, Int.reduceNeg, Int.reduceMul, Int.reduceToNat, Int.cast_ofNat_Int, Int.natCast_zero, Nat.add_zero, reduceCtorEq, hup, ht1.len]
      refine RU_loop (fun m s => ∃ i : Nat, m = d.told.length - i ∧ i ≤ d.told.length ∧ s.H = H1 ∧ s.env 1 = .box [.bool true, c, .int .i64 d.log.forced, t] ∧ s.env 3 = .val (.c ct) ∧ s.env 4 = bool (tripsOf d.log.recs).isSome ∧ s.env 30 = .val (.c t) ∧ s.env 31 = .val (int d.told.length) ∧ s.env 32 = .val (int i) ∧ toldOk (tripsD d.log.recs).length (d.told.take i) = true) d.told.length
        ⟨0, by simp, by simp, rfl, rfl, rfl, rfl, rfl, rfl, rfl, by simp [toldOk]⟩ ?_
      rintro m s ⟨i, rfl, hi, hH, g1, g3, g6, g30, g31, g32, hok⟩ Q' hN hE hR
      by_cases hlt : (i : Int) < d.told.length
      · obtain ⟨v, hv⟩ := get_lt hlt
        obtain ⟨b1, o1, bs1, cs1, f1, rfl, e1, e2, ⟨rfl, _⟩, _⟩ := ht1.get hv
        obtain ⟨cq, Fq, hq, hcq, _⟩ := slc_take ht1 (k := i) hi
        have hlt' : (i : Int) < d.told.length := hlt
        simp only [go_sem, Nat.reduceEqDiff, Nat.reduceAdd, Nat.reduceMul, Nat.reduceLeDiff, Int.reduceEq, Int.reduceLT, Int.reduceLE, Int.reduceAdd, Int.reduceSub, Int.reduceNeg, Int.reduceMul, Int.reduceToNat, Int.cast_ofNat_Int, Int.natCast_zero, Nat.add_zero, reduceCtorEq, g1, g3, g6, g30, g31, g32, hlt, hH, e1, e2]
        refine Does.test (does_i_WordOk K (show RWord H1 _ v [] from ⟨rfl, rfl⟩)) ?_
        cases hw : wordOk v with
        | false =>
          simp only [go_sem, Nat.reduceEqDiff, Nat.reduceAdd, Nat.reduceMul, Nat.reduceLeDiff, Int.reduceEq, Int.reduceLT, Int.reduceLE, Int.reduceAdd, Int.reduceSub, Int.reduceNeg, Int.reduceMul, Int.reduceToNat, Int.cast_ofNat_Int, Int.natCast_zero, Nat.add_zero, reduceCtorEq, g1, g3, g6, g30, g31, g32, hlt, hlt', hH, e1, e2, hq, hct.len, hw]
          refine hR _ ?_
          exact hQ _ _ (Ends.ret rfl ⟨by simp [tupOf, desk_bad (told_bad hv (by simp [hw]))], by simp only [hH]; exact s1'⟩)
        | true =>
          simp only [go_sem, Nat.reduceEqDiff, Nat.reduceAdd, Nat.reduceMul, Nat.reduceLeDiff, Int.reduceEq, Int.reduceLT, Int.reduceLE, Int.reduceAdd, Int.reduceSub, Int.reduceNeg, Int.reduceMul, Int.reduceToNat, Int.cast_ofNat_Int, Int.natCast_zero, Nat.add_zero, reduceCtorEq]
          refine Does.test (does_i_Word_answer K (show RWord H1 _ v [] from ⟨rfl, rfl⟩)) ?_
          by_cases hk : 4 ≤ v.kind
          · by_cases hn : ((tripsD d.log.recs).length : Int) < v.trip
            · simp only [go_sem, Nat.reduceEqDiff, Nat.reduceAdd, Nat.reduceMul, Nat.reduceLeDiff, Int.reduceEq, Int.reduceLT, Int.reduceLE, Int.reduceAdd, Int.reduceSub, Int.reduceNeg, Int.reduceMul, Int.reduceToNat, Int.cast_ofNat_Int, Int.natCast_zero, Nat.add_zero, reduceCtorEq, g1, g3, g6, g30, g31, g32, hlt, hlt', hH, e1, e2, hq, hct.len, hk, hn]
              refine hR _ ?_
              exact hQ _ _ (Ends.ret rfl ⟨by simp [tupOf, desk_bad (told_bad hv (by simp [show ¬ v.trip ≤ ((tripsD d.log.recs).length : Int) by omega]))], by simp only [hH]; exact s1'⟩)
            · simp only [go_sem, Nat.reduceEqDiff, Nat.reduceAdd, Nat.reduceMul, Nat.reduceLeDiff, Int.reduceEq, Int.reduceLT, Int.reduceLE, Int.reduceAdd, Int.reduceSub, Int.reduceNeg, Int.reduceMul, Int.reduceToNat, Int.cast_ofNat_Int, Int.natCast_zero, Nat.add_zero, reduceCtorEq, g1, g3, g6, g30, g31, g32, hlt, hH, e1, e2, hk, hn, hct.len, hq]
              refine Does.test (does_g_Contains_Word K hcq (show RWord H1 _ v [] from ⟨rfl, rfl⟩)) ?_
              by_cases hm : v ∈ d.told.take i
              · simp only [go_sem, Nat.reduceEqDiff, Nat.reduceAdd, Nat.reduceMul, Nat.reduceLeDiff, Int.reduceEq, Int.reduceLT, Int.reduceLE, Int.reduceAdd, Int.reduceSub, Int.reduceNeg, Int.reduceMul, Int.reduceToNat, Int.cast_ofNat_Int, Int.natCast_zero, Nat.add_zero, reduceCtorEq, g1, g3, g6, g30, g31, g32, hlt, hlt', hH, e1, e2, hq, hct.len, hm]
                refine hR _ ?_
                exact hQ _ _ (Ends.ret rfl ⟨by simp [tupOf, desk_bad (told_bad hv (by simp [hm]))], by simp only [hH]; exact s1'⟩)
              · simp only [go_sem, Nat.reduceEqDiff, Nat.reduceAdd, Nat.reduceMul, Nat.reduceLeDiff, Int.reduceEq, Int.reduceLT, Int.reduceLE, Int.reduceAdd, Int.reduceSub, Int.reduceNeg, Int.reduceMul, Int.reduceToNat, Int.cast_ofNat_Int, Int.natCast_zero, Nat.add_zero, reduceCtorEq, g1, g3, g6, g30, g31, g32, hm, hH, wrap_succ (show i ≤ lenTop by omega)]
                refine hN _ _ (by omega) ⟨i + 1, rfl, by omega, by simp [hH], by simp [upd, g1], by simp [upd, g3], by simp [upd, g6], by simp [upd, g30], by simp [upd, g31], by simp [upd], told_snoc hv hok hw hk (by omega) hm⟩
          · simp only [go_sem, Nat.reduceEqDiff, Nat.reduceAdd, Nat.reduceMul, Nat.reduceLeDiff, Int.reduceEq, Int.reduceLT, Int.reduceLE, Int.reduceAdd, Int.reduceSub, Int.reduceNeg, Int.reduceMul, Int.reduceToNat, Int.cast_ofNat_Int, Int.natCast_zero, Nat.add_zero, reduceCtorEq, g1, g3, g6, g30, g31, g32, hlt, hlt', hH, e1, e2, hq, hct.len, hk]
            refine hR _ ?_
            exact hQ _ _ (Ends.ret rfl ⟨by simp [tupOf, desk_bad (told_bad hv (by simp [hk]))], by simp only [hH]; exact s1'⟩)
      · simp only [go_sem, Nat.reduceEqDiff, Nat.reduceAdd, Nat.reduceMul, Nat.reduceLeDiff, Int.reduceEq, Int.reduceLT, Int.reduceLE, Int.reduceAdd, Int.reduceSub, Int.reduceNeg, Int.reduceMul, Int.reduceToNat, Int.cast_ofNat_Int, Int.natCast_zero, Nat.add_zero, reduceCtorEq, g1, g3, g6, g30, g31, g32, hlt]
        refine hE _ _ ?_
        simp only [go_sem, Nat.reduceEqDiff, Nat.reduceAdd, Nat.reduceMul, Nat.reduceLeDiff, Int.reduceEq, Int.reduceLT, Int.reduceLE, Int.reduceAdd, Int.reduceSub, Int.reduceNeg, Int.reduceMul, Int.reduceToNat, Int.cast_ofNat_Int, Int.natCast_zero, Nat.add_zero, reduceCtorEq, g6, hH]
        rw [List.take_of_length_le (by omega)] at hok
        exact hQ _ _ (Ends.ret rfl ⟨by simp [tupOf, deskOk, hlok, hok, hup], s1'⟩)
end Go.AX

/- Desks that are ok: the reference. Condition: the data lie in memory. -/
namespace Go.AX
variable {P : Program} {I : Ids}
set_option maxHeartbeats 2000000 in
theorem does_s_DeskOk (K : Codes P I) {H : Heap} {cs : List C} {d : Desk} {F : List Nat} (hd : RDesk H cs d F) : Does P I.s_DeskOk [.agg cs] H fun v H' => v = bool (deskOk d) ∧ Step [] H H' [] := by
  obtain ⟨c, t, F1, F2, rfl, rfl, hr, ht⟩ := hd
  have htop := ht.top
  refine K.does K.s_DeskOk rfl fun Q hQ => ?_
  simp only [go_sem, Nat.reduceEqDiff, Nat.reduceAdd, Nat.reduceMul, Nat.reduceLeDiff, Int.reduceEq, Int.reduceLT, Int.reduceLE, Int.reduceAdd, Int.reduceSub, Int.reduceNeg, Int.reduceMul, Int.reduceToNat, Int.cast_ofNat_Int, Int.natCast_zero, Nat.add_zero, reduceCtorEq, L_s_DeskOk]
  refine Does.call (does_s_l12Of K hr) ?_
  rintro _ H1 ⟨ct, Ft, rfl, s1, hct⟩
  replace s1 : Step [] H H1 Ft := s1
  have s1' : Step [] H H1 [] := s1.less (List.nil_sublist _)
  have ht1 : Words H1 t d.told F2 := s1.keepSl RWord.good ht (fun b _ => by simp)
  have hr1 : Recs H1 c d.log.recs F1 := s1.keepSl RRec.good hr (fun b _ => by simp)
  simp only [go_sem, Nat.reduceEqDiff, Nat.reduceAdd, Nat.reduceMul, Nat.reduceLeDiff, Int.reduceEq, Int.reduceLT, Int.reduceLE, Int.reduceAdd, Int.reduceSub, Int.reduceNeg, Int.reduceMul, Int.reduceToNat, Int.cast_ofNat_Int, Int.natCast_zero, Nat.add_zero, reduceCtorEq]
  refine Does.test (does_s_LogOk K (show RLog H1 [c, .int .i64 d.log.forced] d.log F1 from ⟨c, rfl, hr1⟩)) ?_
  cases hlok : logOk d.log with
  | false =>
    simp only [go_sem, Nat.reduceEqDiff, Nat.reduceAdd, Nat.reduceMul, Nat.reduceLeDiff, Int.reduceEq, Int.reduceLT, Int.reduceLE, Int.reduceAdd, Int.reduceSub, Int.reduceNeg, Int.reduceMul, Int.reduceToNat, Int.cast_ofNat_Int, Int.natCast_zero, Nat.add_zero, reduceCtorEq]
    exact hQ _ _ (Ends.ret rfl ⟨by simp [tupOf, deskOk, hlok], s1'⟩)
  | true =>
    cases hsm : (tripsOf d.log.recs).isSome with
    | false =>
      simp only [go_sem, Nat.reduceEqDiff, Nat.reduceAdd, Nat.reduceMul, Nat.reduceLeDiff, Int.reduceEq, Int.reduceLT, Int.reduceLE, Int.reduceAdd, Int.reduceSub, Int.reduceNeg, Int.reduceMul, Int.reduceToNat, Int.cast_ofNat_Int, Int.natCast_zero, Nat.add_zero, reduceCtorEq]
      exact hQ _ _ (Ends.ret rfl ⟨by simp [tupOf, deskOk, hsm], s1'⟩)
    | true =>
      simp only [go_sem, Nat.reduceEqDiff, Nat.reduceAdd, Nat.reduceMul, Nat.reduceLeDiff, Int.reduceEq, Int.reduceLT, Int.reduceLE, Int.reduceAdd, Int.reduceSub, Int.reduceNeg, Int.reduceMul, Int.reduceToNat, Int.cast_ofNat_Int, Int.natCast_zero, Nat.add_zero, reduceCtorEq]
      refine RU_loop (fun m s => ∃ i : Nat, m = d.told.length - i ∧ i ≤ d.told.length ∧ s.H = H1 ∧ s.env 1 = .box [.bool d.up, c, .int .i64 d.log.forced, t] ∧ s.env 3 = .val (.c ct) ∧ s.env 5 = .val (int i) ∧ toldOk (tripsD d.log.recs).length (d.told.take i) = true) d.told.length
        ⟨0, by simp, by simp, rfl, rfl, rfl, rfl, by simp [toldOk]⟩ ?_
      rintro m s ⟨i, rfl, hi, hH, g1, g3, g5, hok⟩ Q' hN hE hR
      by_cases hlt : (i : Int) < d.told.length
      · obtain ⟨v, hv⟩ := get_lt hlt
        obtain ⟨b1, o1, bs1, cs1, f1, rfl, e1, e2, ⟨rfl, _⟩, _⟩ := ht1.get hv
        obtain ⟨cq, Fq, hq, hcq, _⟩ := slc_take ht1 (k := i) hi
        simp only [go_sem, Nat.reduceEqDiff, Nat.reduceAdd, Nat.reduceMul, Nat.reduceLeDiff, Int.reduceEq, Int.reduceLT, Int.reduceLE, Int.reduceAdd, Int.reduceSub, Int.reduceNeg, Int.reduceMul, Int.reduceToNat, Int.cast_ofNat_Int, Int.natCast_zero, Nat.add_zero, reduceCtorEq, g1, g3, g5, ht1.len, hlt, hH, e1, e2]
        refine Does.test (does_s_WordOk K (show RWord H1 _ v [] from ⟨rfl, rfl⟩)) ?_
        cases hw : wordOk v with
        | false =>
          simp only [go_sem, Nat.reduceEqDiff, Nat.reduceAdd, Nat.reduceMul, Nat.reduceLeDiff, Int.reduceEq, Int.reduceLT, Int.reduceLE, Int.reduceAdd, Int.reduceSub, Int.reduceNeg, Int.reduceMul, Int.reduceToNat, Int.cast_ofNat_Int, Int.natCast_zero, Nat.add_zero, reduceCtorEq, g1, g3, g5, hlt, hH, e1, e2, hq, hct.len, ht1.len, hw]
          refine hR _ ?_
          exact hQ _ _ (Ends.ret rfl ⟨by simp [tupOf, desk_bad (told_bad hv (by simp [hw]))], by simp only [hH]; exact s1'⟩)
        | true =>
          by_cases hk : v.kind < 4
          · simp only [go_sem, Nat.reduceEqDiff, Nat.reduceAdd, Nat.reduceMul, Nat.reduceLeDiff, Int.reduceEq, Int.reduceLT, Int.reduceLE, Int.reduceAdd, Int.reduceSub, Int.reduceNeg, Int.reduceMul, Int.reduceToNat, Int.cast_ofNat_Int, Int.natCast_zero, Nat.add_zero, reduceCtorEq, g1, g3, g5, hlt, hH, e1, e2, hq, hct.len, ht1.len, hk]
            refine hR _ ?_
            exact hQ _ _ (Ends.ret rfl ⟨by simp [tupOf, desk_bad (told_bad hv (by simp [show ¬ 4 ≤ v.kind by omega]))], by simp only [hH]; exact s1'⟩)
          · by_cases hn : ((tripsD d.log.recs).length : Int) < v.trip
            · simp only [go_sem, Nat.reduceEqDiff, Nat.reduceAdd, Nat.reduceMul, Nat.reduceLeDiff, Int.reduceEq, Int.reduceLT, Int.reduceLE, Int.reduceAdd, Int.reduceSub, Int.reduceNeg, Int.reduceMul, Int.reduceToNat, Int.cast_ofNat_Int, Int.natCast_zero, Nat.add_zero, reduceCtorEq, g1, g3, g5, hlt, hH, e1, e2, hq, hct.len, ht1.len, hk, hn]
              refine hR _ ?_
              exact hQ _ _ (Ends.ret rfl ⟨by simp [tupOf, desk_bad (told_bad hv (by simp [show ¬ v.trip ≤ ((tripsD d.log.recs).length : Int) by omega]))], by simp only [hH]; exact s1'⟩)
            · simp only [go_sem, Nat.reduceEqDiff, Nat.reduceAdd, Nat.reduceMul, Nat.reduceLeDiff, Int.reduceEq, Int.reduceLT, Int.reduceLE, Int.reduceAdd, Int.reduceSub, Int.reduceNeg, Int.reduceMul, Int.reduceToNat, Int.cast_ofNat_Int, Int.natCast_zero, Nat.add_zero, reduceCtorEq, g1, g3, g5, hlt, hH, e1, e2, hk, hn, hct.len, ht1.len, hq]
              refine Does.test (does_s_l13Told K hcq (show RWord H1 _ v [] from ⟨rfl, rfl⟩)) ?_
              by_cases hm : v ∈ d.told.take i
              · simp only [go_sem, Nat.reduceEqDiff, Nat.reduceAdd, Nat.reduceMul, Nat.reduceLeDiff, Int.reduceEq, Int.reduceLT, Int.reduceLE, Int.reduceAdd, Int.reduceSub, Int.reduceNeg, Int.reduceMul, Int.reduceToNat, Int.cast_ofNat_Int, Int.natCast_zero, Nat.add_zero, reduceCtorEq, g1, g3, g5, hlt, hH, e1, e2, hq, hct.len, ht1.len, hm]
                refine hR _ ?_
                exact hQ _ _ (Ends.ret rfl ⟨by simp [tupOf, desk_bad (told_bad hv (by simp [hm]))], by simp only [hH]; exact s1'⟩)
              · simp only [go_sem, Nat.reduceEqDiff, Nat.reduceAdd, Nat.reduceMul, Nat.reduceLeDiff, Int.reduceEq, Int.reduceLT, Int.reduceLE, Int.reduceAdd, Int.reduceSub, Int.reduceNeg, Int.reduceMul, Int.reduceToNat, Int.cast_ofNat_Int, Int.natCast_zero, Nat.add_zero, reduceCtorEq, g1, g3, g5, hm, hH, wrap_succ (show i ≤ lenTop by omega)]
                refine hN _ _ (by omega) ⟨i + 1, rfl, by omega, by simp [hH], by simp [upd, g1], by simp [upd, g3], by simp [upd], told_snoc hv hok hw (by omega) (by omega) hm⟩
      · simp only [go_sem, Nat.reduceEqDiff, Nat.reduceAdd, Nat.reduceMul, Nat.reduceLeDiff, Int.reduceEq, Int.reduceLT, Int.reduceLE, Int.reduceAdd, Int.reduceSub, Int.reduceNeg, Int.reduceMul, Int.reduceToNat, Int.cast_ofNat_Int, Int.natCast_zero, Nat.add_zero, reduceCtorEq, g1, g3, g5, ht1.len, hlt]
        refine hE _ _ ?_
        rw [List.take_of_length_le (by omega)] at hok
        cases hup : d.up with
        | true =>
          simp only [go_sem, Nat.reduceEqDiff, Nat.reduceAdd, Nat.reduceMul, Nat.reduceLeDiff, Int.reduceEq, Int.reduceLT, Int.reduceLE, Int.reduceAdd, Int.reduceSub, Int.reduceNeg, Int.reduceMul, Int.reduceToNat, Int.cast_ofNat_Int, Int.natCast_zero, Nat.add_zero, reduceCtorEq, g1, hH, hup]
          exact hQ _ _ (Ends.ret rfl ⟨by simp [tupOf, deskOk, hlok, hok, hsm, hup], s1'⟩)
        | false =>
          by_cases hz : d.told = []
          · have hg : (d.told.length : Int) = 0 := by rw [hz]; simp
            simp only [go_sem, Nat.reduceEqDiff, Nat.reduceAdd, Nat.reduceMul, Nat.reduceLeDiff, Int.reduceEq, Int.reduceLT, Int.reduceLE, Int.reduceAdd, Int.reduceSub, Int.reduceNeg, Int.reduceMul, Int.reduceToNat, Int.cast_ofNat_Int, Int.natCast_zero, Nat.add_zero, reduceCtorEq, g1, hH, hup, ht1.len, hg]
            exact hQ _ _ (Ends.ret rfl ⟨by simp [tupOf, deskOk, hlok, hsm, hup, hz, toldOk], s1'⟩)
          · have hg : ¬ (d.told.length : Int) = 0 := fun e => hz (List.length_eq_zero_iff.1 (by omega))
            simp only [go_sem, Nat.reduceEqDiff, Nat.reduceAdd, Nat.reduceMul, Nat.reduceLeDiff, Int.reduceEq, Int.reduceLT, Int.reduceLE, Int.reduceAdd, Int.reduceSub, Int.reduceNeg, Int.reduceMul, Int.reduceToNat, Int.cast_ofNat_Int, Int.natCast_zero, Nat.add_zero, reduceCtorEq, g1, hH, hup, ht1.len, hg]
            exact hQ _ _ (Ends.ret rfl ⟨by simp [tupOf, deskOk, hup, hz], s1'⟩)
end Go.AX
