/- What the law needs of the program: the contracts of its functions, each with its condition at its theorem. -/
import Derived.Test.YtfjgckhndimhdaaGreatLDeskRiseM0
set_option linter.unusedVariables false
set_option linter.unusedSimpArgs false
/- What desks compute, in plain Lean. No condition: definitions, and what holds of them. -/
namespace Go.AX
def tripsD (recs : List Rec) : List Trip := (tripsOf recs).getD []
def tripsV (d : Desk) (forced : Bool) : List Trip := tripsD (known d.log forced)
/-- What was told: answers in form, of trips that there are, each once. -/
def toldOk (n : Nat) (told : List Word) : Bool := told.all (fun w => wordOk w && (decide (4 ≤ w.kind) && decide (w.trip ≤ n))) && decide told.Nodup
def deskOk (d : Desk) : Bool := (d.up || decide (d.told = [])) && (logOk d.log && ((tripsOf d.log.recs).isSome && toldOk (tripsD d.log.recs).length d.told))
def desk00 : Desk := ⟨false, log0, []⟩
def deskTripsV (d : Desk) (forced : Bool) : List Trip := if deskOk d = true then tripsV d forced else []
def deskMay (d : Desk) (r : Rec) : Bool := d.up && tripMayB (tripsV d false) r
def deskWrite (d : Desk) (r : Rec) : Desk := if deskMay d r = true then { d with log := addL' d.log r } else d
def deskWrote (d : Desk) (r : Rec) : Bool := deskMay d r && decide (d.log.recs.length < 40)
def beginRec (d : Desk) (many : List Int) : Rec := ⟨4, (tripsV d false).length + 1, many⟩
def deskBeginGo (d : Desk) (many : List Int) : Bool := deskOk d && recOk (beginRec d many)
def deskBeginV (d : Desk) (many : List Int) : Desk := if deskBeginGo d many = true then deskWrite d (beginRec d many) else desk00
def deskBeginB (d : Desk) (many : List Int) : Bool := deskBeginGo d many && deskWrote d (beginRec d many)
def giveRec (trip : Int) : Rec := ⟨6, trip, []⟩
def deskGiveGo (d : Desk) (trip : Int) : Bool := deskOk d && inB trip 1 6
def deskGiveV (d : Desk) (trip : Int) : Desk := if deskGiveGo d trip = true then deskWrite d (giveRec trip) else desk00
def deskGiveB (d : Desk) (trip : Int) : Bool := deskGiveGo d trip && deskWrote d (giveRec trip)
def toldB (told : List Word) (kind house trip : Int) : Bool := decide ((⟨kind, house, trip, 0⟩ : Word) ∈ told)
/-- Was such an answer told of any house of which a trip wants any; of all of them? From the house i on. -/
def anyT (told : List Word) (kind trip : Int) : List Int → Nat → Bool
  | [], _ => false
  | n :: r, i => (decide (n ≠ 0) && toldB told kind (i + 1) trip) || anyT told kind trip r (i + 1)
def allT (told : List Word) (kind trip : Int) : List Int → Nat → Bool
  | [], _ => true
  | n :: r, i => (decide (n = 0) || toldB told kind (i + 1) trip) && allT told kind trip r (i + 1)
def decideK (d : Desk) (trip : Int) (t : Trip) : Int :=
  let sure := decide (stateOf (tripsV d true) trip = t.state)
  if t.state = 1 ∧ anyT d.told 5 trip t.many 0 = true then 6
  else if t.state = 1 ∧ allT d.told 4 trip t.many 0 = true then 5
  else if t.state = 2 ∧ sure = true ∧ allT d.told 6 trip t.many 0 = true then 7
  else if t.state = 3 ∧ sure = true ∧ allT d.told 7 trip t.many 0 = true then 7 else 0
def tripAt (l : List Trip) (t : Int) : Trip := l[(t - 1).toNat]?.getD ⟨[], 0⟩
def decideD (d : Desk) (trip : Int) : Desk := if decideK d trip (tripAt (tripsV d false) trip) = 0 then d else deskWrite d ⟨decideK d trip (tripAt (tripsV d false) trip), trip, []⟩
def deskHearsB (d : Desk) (w : Word) : Bool := d.up && (wordOk w && (decide (4 ≤ w.kind) && decide (w.trip ≤ (tripsV d false).length)))
def tellD (d : Desk) (w : Word) : Desk := if w ∈ d.told then d else { d with told := d.told ++ [w] }
def hearD (d : Desk) (w : Word) : Desk := if deskHearsB d w = true then decideD (tellD d w) w.trip else d
def deskHearV (d : Desk) (w : Word) : Desk := if deskOk d = true then hearD d w else desk00
def wordsOfTrip (told : List Word) (trip : Int) (state : Int) : List Int → Nat → List Word
  | [], _ => []
  | n :: r, h => (if n = 0 ∨ 3 < state ∨ toldB told (state + (if state = 1 then 3 else 4)) (h + 1) trip = true then [] else [⟨state, h + 1, trip, if state = 1 then n else 0⟩]) ++ wordsOfTrip told trip state r (h + 1)
def wordsOf (told : List Word) : List Trip → Nat → List Word
  | [], _ => []
  | t :: r, i => wordsOfTrip told (i + 1) t.state t.many 0 ++ wordsOf told r (i + 1)
def wordsD (d : Desk) : List Word := if d.up = true then wordsOf d.told (tripsV d true) 0 else []
def deskWordsV (d : Desk) : List Word := if deskOk d = true then wordsD d else []
def deskForceV (d : Desk) : Desk := if deskOk d = true then if d.up = true then { d with log := forceL d.log } else d else desk00
def deskFallV (d : Desk) (keep : Int) : Desk := if deskOk d = true then ⟨false, fallL d.log keep, []⟩ else desk00
def deskRiseV (d : Desk) : Desk := if deskOk d = true then { d with up := true } else desk00

theorem deskOk_parts {d : Desk} (h : deskOk d = true) : (d.up = false → d.told = []) ∧ logOk d.log = true ∧ (∃ l, tripsOf d.log.recs = some l) ∧ toldOk (tripsD d.log.recs).length d.told = true := by
  simp only [deskOk, Bool.and_eq_true, Bool.or_eq_true, decide_eq_true_eq] at h
  obtain ⟨h1, h2, h3, h4⟩ := h
  refine ⟨fun hu => ?_, h2, Option.isSome_iff_exists.1 h3, h4⟩
  rcases h1 with h1 | h1
  · rw [hu] at h1; cases h1
  · exact h1
theorem tripsV_some {d : Desk} (h : deskOk d = true) (f : Bool) : tripsOf (known d.log f) = some (tripsV d f) := by
  obtain ⟨_, _, ⟨l, hl⟩, _⟩ := deskOk_parts h
  cases f with
  | false => simp [tripsV, tripsD, known, hl]
  | true =>
    obtain ⟨t, ht⟩ := tripsOf_take hl d.log.forced.toNat
    simp [tripsV, tripsD, known, ht]
theorem tripsV_ok {d : Desk} (h : deskOk d = true) (f : Bool) : tripsOk (tripsV d f) = true := tripsOf_ok (tripsV_some h f)
end Go.AX

/- Trips behind records: the program and the reference do the same. Condition: the lists lie in memory. -/
namespace Go.AX
variable {P : Program} {I : Ids}
/-- One block stays as it is. -/
def zOne (b : Nat) (cs : List C) : Zs := fun c => if c = b then some (0, cs) else none
theorem zOne_new {H : Heap} {b : Nat} {cs : List C} (h : H.length ≤ b) : Holds (zOne b cs) H := fun c ds hc hl => by
  unfold zOne at hc; split at hc
  · omega
  · cases hc
theorem zOne_holds {H : Heap} {b : Nat} {cs : List C} (h : H.live b = some cs) : Holds (zOne b cs) H := fun c ds hc _ => by
  unfold zOne at hc; split at hc
  · rename_i e; subst e; cases hc; exact ⟨h, fun q => absurd rfl q⟩
  · cases hc
theorem RUh_zOne {k : List Fr} {Q : AExit → S → Prop} {os : List AO} {E : Nat → AV} {A : Nat → Option (Nat × Nat)} {U : Nat → Bool} {H : Heap} {b : Nat} {cs : List C} (h : H.live b = some cs) : RUh P true ⟨E, A, U, H⟩ (zOne b cs) os k Q = RU P (.ops (zOne b cs) os :: k) .normal ⟨E, A, U, H⟩ Q :=
  propext ⟨fun g => g.2, fun g => ⟨fun _ => zOne_holds h, g⟩⟩
attribute [go_sem] loadZ sliceZ sliceV
@[go_sem] theorem zOne_at {b : Nat} {cs : List C} : zOne b cs b = some (0, cs) := if_pos rfl
/-- One block stays as it is, and its elements' cells are so many. -/
def zSl (b n : Nat) (cs : List C) : Zs := fun c => if c = b then some (n, cs) else none
theorem zSl_holds {H : Heap} {b n : Nat} {cs : List C} (h : H.live b = some cs) (hs : H.szv b = some n) : Holds (zSl b n cs) H := fun c ds hc _ => by
  unfold zSl at hc; split at hc
  · rename_i e; subst e; cases hc; exact ⟨h, fun _ => hs⟩
  · cases hc
theorem RUh_zSl {k : List Fr} {Q : AExit → S → Prop} {os : List AO} {E : Nat → AV} {A : Nat → Option (Nat × Nat)} {U : Nat → Bool} {H : Heap} {b n : Nat} {cs : List C} (h : H.live b = some cs) (hs : H.szv b = some n) : RUh P true ⟨E, A, U, H⟩ (zSl b n cs) os k Q = RU P (.ops (zSl b n cs) os :: k) .normal ⟨E, A, U, H⟩ Q :=
  propext ⟨fun g => g.2, fun g => ⟨fun _ => zSl_holds h hs, g⟩⟩
@[go_sem] theorem zSl_at {b n : Nat} {cs : List C} : zSl b n cs b = some (n, cs) := if_pos rfl
theorem live_keep {H H' : Heap} {F F' : List Nat} {b : Nat} {cs : List C} (s : Step F H H' F') (hb : b < H.length) (hn : b ∉ F) (h : H.live b = some cs) : H'.live b = some cs := by
  unfold Heap.live at *; rw [s.old b hb hn]; exact h
theorem live_lt {H : Heap} {b : Nat} {cs : List C} (h : H.live b = some cs) : b < H.length := by
  unfold Heap.live at h
  split at h
  · cases h
  · rename_i heq; exact (List.getElem?_eq_some_iff.1 heq).1
  · cases h
theorem does_s_l12Do (K : Codes P I) {H : Heap} {c : C} {ds : List C} {l : List Trip} {r : Rec} {F G : List Nat} (h : Trips H c l F) (ho : Owned H F) (hr : RRec H ds r G) (hok : tripsOk l = true) (hrk : recOk r = true) (hmb : tripMayB l r = true) :
    Does P I.s_l12Do [.c c, .agg ds] H fun v H' => ∃ c' F', v = .val (.c c') ∧ Step F H H' F' ∧ Trips H' c' (tripsDoL l r) F' := by
  obtain ⟨cm, rfl, hm⟩ := hr
  refine K.does K.s_l12Do rfl fun Q hQ => ?_
  obtain ⟨hl6, hall⟩ := tripsOk_parts hok
  have htr := recOk_trip hrk
  by_cases k4 : r.kind = 4
  · have hm3 := manyOk_len (recOk_begin hrk k4)
    obtain ⟨cells, c1, H1, f, he, ha, hc1, s1⟩ := copy_flat RInt.good RInt.flat (by decide) hm (by unfold lenMax; omega)
    have t1 := ho.step.with s1
    obtain ⟨c2, H2, F2, ha2, hr2, s2⟩ := app_one RTrip.good (by decide) (s1.keepSl RTrip.good h fun b _ => by simp) (show RTrip H1 [c1, .int .i64 1] ⟨r.many, 1⟩ f from ⟨c1, rfl, hc1⟩) rfl t1.owned (by simp [lenMax]; omega)
    simp only [go_sem, Nat.reduceEqDiff, Nat.reduceAdd, Nat.reduceMul, Nat.reduceLeDiff, Int.reduceEq, Int.reduceLT, Int.reduceLE, Int.reduceAdd, Int.reduceSub, Int.reduceNeg, Int.reduceMul, Int.reduceToNat, Int.cast_ofNat_Int, Int.natCast_zero, Nat.add_zero, reduceCtorEq, L_s_l12Do, k4, he, ha, ha2]
    exact hQ _ _ (Ends.ret rfl ⟨c2, F2, rfl, t1.trans s2, by rw [tripsDoL, if_pos k4]; exact hr2⟩)
  · obtain ⟨j, x, q1, q2, q3, q4, q5, q6, q7⟩ := tripMay_at hmb k4
    have hw : IntKind.wrap .i64 (r.trip - 1) = (j : Int) := by rw [wrap_i64 (by omega) (by omega)]; omega
    have hjl : (j : Int) < l.length := by omega
    have hS := tripsDoL_set k4 q2 q4
    by_cases k5 : r.kind = 5
    · obtain ⟨b, off, bs, _, H2, e1, e2, e3, e4, e5, e6, e7, e8, _⟩ := trip_put h ho q4 2
      subst e1
      simp only [go_sem, Nat.reduceEqDiff, Nat.reduceAdd, Nat.reduceMul, Nat.reduceLeDiff, Int.reduceEq, Int.reduceLT, Int.reduceLE, Int.reduceAdd, Int.reduceSub, Int.reduceNeg, Int.reduceMul, Int.reduceToNat, Int.cast_ofNat_Int, Int.natCast_zero, Nat.add_zero, reduceCtorEq, L_s_l12Do, k4, k5, hw, hjl, e2, e5, e6]
      exact hQ _ _ (Ends.ret rfl ⟨.sl b off l.length, F, rfl, e8, by rw [hS]; simpa [tripStep, k5] using e7⟩)
    · by_cases k6 : r.kind = 6
      · obtain ⟨b, off, bs, _, H2, e1, e2, e3, e4, e5, e6, e7, e8, _⟩ := trip_put h ho q4 3
        subst e1
        simp only [go_sem, Nat.reduceEqDiff, Nat.reduceAdd, Nat.reduceMul, Nat.reduceLeDiff, Int.reduceEq, Int.reduceLT, Int.reduceLE, Int.reduceAdd, Int.reduceSub, Int.reduceNeg, Int.reduceMul, Int.reduceToNat, Int.cast_ofNat_Int, Int.natCast_zero, Nat.add_zero, reduceCtorEq, L_s_l12Do, k4, k5, k6, hw, hjl, e2, e5, e6]
        exact hQ _ _ (Ends.ret rfl ⟨.sl b off l.length, F, rfl, e8, by rw [hS]; simpa [tripStep, k6] using e7⟩)
      · obtain ⟨k7, hx23⟩ := q7 k5 k6
        obtain ⟨b, off, bs, _, H2, e1, e2, e3, e4, e5, e6, e7, e8, _⟩ := trip_put h ho q4 (x.state + 2)
        have hw2 : IntKind.wrap .i64 (x.state + 2) = x.state + 2 := wrap_i64 (by omega) (by omega)
        subst e1
        simp only [go_sem, Nat.reduceEqDiff, Nat.reduceAdd, Nat.reduceMul, Nat.reduceLeDiff, Int.reduceEq, Int.reduceLT, Int.reduceLE, Int.reduceAdd, Int.reduceSub, Int.reduceNeg, Int.reduceMul, Int.reduceToNat, Int.cast_ofNat_Int, Int.natCast_zero, Nat.add_zero, reduceCtorEq, L_s_l12Do, k4, k5, k6, k7, hw, hjl, e2, e3, e4, e5, e6, hw2]
        refine hQ _ _ (Ends.ret rfl ⟨.sl b off l.length, F, rfl, e8, ?_⟩)
        rw [hS]
        rcases hx23 with hx | hx
        · simpa [tripStep, k5, k6, hx] using e7
        · simpa [tripStep, k5, k6, hx] using e7
theorem tripsOf_next {recs : List Rec} {i : Nat} {l : List Trip} {x : Rec} (h : tripsOf (recs.take i) = some l) (hx : recs[i]? = some x) (hg : (recOk x && tripMayB l x) = true) : tripsOf (recs.take (i + 1)) = some (tripsDoL l x) := by
  rw [take_snoc hx, tripsOf_snoc, h]; simp only [tripsStep, Option.bind_some, hg, if_true]
theorem tripsOf_fail {recs : List Rec} {i : Nat} {l : List Trip} {x : Rec} (h : tripsOf (recs.take i) = some l) (hx : recs[i]? = some x) (hg : (recOk x && tripMayB l x) = false) : tripsOf recs = none := by
  cases ho : tripsOf recs with
  | none => rfl
  | some s =>
    obtain ⟨t, ht⟩ := tripsOf_take ho (i + 1)
    rw [take_snoc hx, tripsOf_snoc, h] at ht
    simp only [tripsStep, Option.bind_some, hg] at ht
    cases ht
theorem does_s_l12Of (K : Codes P I) {H : Heap} {c : C} {recs : List Rec} {F : List Nat} (h : Recs H c recs F) :
    Does P I.s_l12Of [.c c] H fun v H' => ∃ c' F', v = .tup [.c c', .c (.bool (tripsOf recs).isSome)] ∧ Step [] H H' F' ∧ Trips H' c' (tripsD recs) F' := by
  refine K.does K.s_l12Of rfl fun Q hQ => ?_
  have htop := h.top
  simp only [go_sem, Nat.reduceEqDiff, Nat.reduceAdd, Nat.reduceMul, Nat.reduceLeDiff, Int.reduceEq, Int.reduceLT, Int.reduceLE, Int.reduceAdd, Int.reduceSub, Int.reduceNeg, Int.reduceMul, Int.reduceToNat, Int.cast_ofNat_Int, Int.natCast_zero, Nat.add_zero, reduceCtorEq, L_s_l12Of]
  refine RU_loop (fun m s => ∃ i : Nat, m = recs.length - i ∧ i ≤ recs.length ∧ s.env 0 = .val (.c c) ∧ s.env 5 = .val (int i) ∧ ∃ l c' F', tripsOf (recs.take i) = some l ∧ s.env 4 = .val (.c c') ∧ Step [] H s.H F' ∧ Trips s.H c' l F') recs.length
    ⟨0, by simp, by simp, rfl, rfl, [], .emp true, [], rfl, rfl, Step.refl H, .emp⟩ ?_
  rintro m s ⟨i, rfl, hi, g0, g5, l, c', F', hl, g4, hs, hr⟩ Q' hN hE hR
  have h1 := hs.keepSl RRec.good h fun b _ => by simp
  by_cases hlt : (i : Int) < recs.length
  · obtain ⟨x, hx⟩ := get_lt hlt
    obtain ⟨b1, o1, bs1, cs1, f1, rfl, e1, e2, hrx, hcl, _⟩ := h1.get hx
    obtain ⟨y0, y1, y2, rfl⟩ := len3 hcl
    simp only [go_sem, Nat.reduceEqDiff, Nat.reduceAdd, Nat.reduceMul, Nat.reduceLeDiff, Int.reduceEq, Int.reduceLT, Int.reduceLE, Int.reduceAdd, Int.reduceSub, Int.reduceNeg, Int.reduceMul, Int.reduceToNat, Int.cast_ofNat_Int, Int.natCast_zero, Nat.add_zero, reduceCtorEq, g0, g4, g5, hlt, e1, e2]
    refine Does.test (does_s_RecOk K hrx) ?_
    cases hrk : recOk x with
    | false =>
      have hn := tripsOf_fail hl hx (by simp [hrk])
      simp only [go_sem, Nat.reduceEqDiff, Nat.reduceAdd, Nat.reduceMul, Nat.reduceLeDiff, Int.reduceEq, Int.reduceLT, Int.reduceLE, Int.reduceAdd, Int.reduceSub, Int.reduceNeg, Int.reduceMul, Int.reduceToNat, Int.cast_ofNat_Int, Int.natCast_zero, Nat.add_zero, reduceCtorEq]
      exact hR _ (hQ _ _ (Ends.ret rfl ⟨.emp true, [], by simp [tupOf, hn], hs.less (by simp), by simp only [tripsD, hn, Option.getD_none]; exact .emp⟩))
    | true =>
      simp only [go_sem, Nat.reduceEqDiff, Nat.reduceAdd, Nat.reduceMul, Nat.reduceLeDiff, Int.reduceEq, Int.reduceLT, Int.reduceLE, Int.reduceAdd, Int.reduceSub, Int.reduceNeg, Int.reduceMul, Int.reduceToNat, Int.cast_ofNat_Int, Int.natCast_zero, Nat.add_zero, reduceCtorEq, g0, g4, g5, hlt, e1, e2]
      refine Does.test (does_s_l12May K hr hrx hrk) ?_
      cases hmb : tripMayB l x with
      | false =>
        have hn := tripsOf_fail hl hx (by simp [hmb])
        simp only [go_sem, Nat.reduceEqDiff, Nat.reduceAdd, Nat.reduceMul, Nat.reduceLeDiff, Int.reduceEq, Int.reduceLT, Int.reduceLE, Int.reduceAdd, Int.reduceSub, Int.reduceNeg, Int.reduceMul, Int.reduceToNat, Int.cast_ofNat_Int, Int.natCast_zero, Nat.add_zero, reduceCtorEq]
        exact hR _ (hQ _ _ (Ends.ret rfl ⟨.emp true, [], by simp [tupOf, hn], hs.less (by simp), by simp only [tripsD, hn, Option.getD_none]; exact .emp⟩))
      | true =>
        simp only [go_sem, Nat.reduceEqDiff, Nat.reduceAdd, Nat.reduceMul, Nat.reduceLeDiff, Int.reduceEq, Int.reduceLT, Int.reduceLE, Int.reduceAdd, Int.reduceSub, Int.reduceNeg, Int.reduceMul, Int.reduceToNat, Int.cast_ofNat_Int, Int.natCast_zero, Nat.add_zero, reduceCtorEq, g0, g4, g5, hlt, e1, e2]
        refine Does.call (does_s_l12Do K hr hs.owned hrx (tripsOf_ok hl) hrk hmb) ?_
        rintro _ H1 ⟨c2, F2, rfl, s2, h2⟩
        simp only [go_sem, Nat.reduceEqDiff, Nat.reduceAdd, Nat.reduceMul, Nat.reduceLeDiff, Int.reduceEq, Int.reduceLT, Int.reduceLE, Int.reduceAdd, Int.reduceSub, Int.reduceNeg, Int.reduceMul, Int.reduceToNat, Int.cast_ofNat_Int, Int.natCast_zero, Nat.add_zero, reduceCtorEq, g0, g4, g5, wrap_succ (show i ≤ lenTop by omega)]
        exact hN _ _ (by omega) ⟨i + 1, rfl, by omega, by simp [upd, g0], by simp [upd], _, c2, F2, tripsOf_next hl hx (by simp [hrk, hmb]), by simp [upd], hs.trans s2, h2⟩
  · simp only [go_sem, Nat.reduceEqDiff, Nat.reduceAdd, Nat.reduceMul, Nat.reduceLeDiff, Int.reduceEq, Int.reduceLT, Int.reduceLE, Int.reduceAdd, Int.reduceSub, Int.reduceNeg, Int.reduceMul, Int.reduceToNat, Int.cast_ofNat_Int, Int.natCast_zero, Nat.add_zero, reduceCtorEq, g0, g5, hlt, h1.len]
    refine hE _ _ ?_
    rw [List.take_of_length_le (by omega)] at hl
    simp only [go_sem, Nat.reduceEqDiff, Nat.reduceAdd, Nat.reduceMul, Nat.reduceLeDiff, Int.reduceEq, Int.reduceLT, Int.reduceLE, Int.reduceAdd, Int.reduceSub, Int.reduceNeg, Int.reduceMul, Int.reduceToNat, Int.cast_ofNat_Int, Int.natCast_zero, Nat.add_zero, reduceCtorEq, g4]
    exact hQ _ _ (Ends.ret rfl ⟨c', F', by simp [tupOf, hl], hs, by simp only [tripsD, hl, Option.getD_some]; exact hr⟩)
theorem does_i_TripsOf (K : Codes P I) {H : Heap} {c : C} {recs : List Rec} {F : List Nat} (h : Recs H c recs F) :
    Does P I.i_TripsOf [.c c] H fun v H' => ∃ c' F', v = .tup [.c c', .c (.bool (tripsOf recs).isSome)] ∧ Step [] H H' F' ∧ Trips H' c' (tripsD recs) F' := by
  refine K.does K.i_TripsOf rfl fun Q hQ => ?_
  have htop := h.top
  simp only [go_sem, Nat.reduceEqDiff, Nat.reduceAdd, Nat.reduceMul, Nat.reduceLeDiff, Int.reduceEq, Int.reduceLT, Int.reduceLE, Int.reduceAdd, Int.reduceSub, Int.reduceNeg, Int.reduceMul, Int.reduceToNat, Int.cast_ofNat_Int, Int.natCast_zero, Nat.add_zero, reduceCtorEq, L_i_TripsOf]
  refine RU_loop (fun m s => ∃ i : Nat, m = recs.length + 1 - i ∧ i ≤ recs.length ∧ s.env 0 = .val (.c c) ∧ s.env 6 = .val (int i) ∧ ((∃ l c' F', tripsOf (recs.take i) = some l ∧ s.env 4 = .val (.c c') ∧ s.env 5 = bool true ∧ Step [] H s.H F' ∧ Trips s.H c' l F') ∨ (tripsOf recs = none ∧ s.env 5 = bool false ∧ ∃ c' F', s.env 4 = .val (.c c') ∧ Step [] H s.H F' ∧ Trips s.H c' [] F'))) (recs.length + 1)
    ⟨0, by simp, by simp, rfl, rfl, .inl ⟨[], .nil, [], rfl, rfl, rfl, Step.refl H, .nil⟩⟩ ?_
  rintro m s ⟨i, rfl, hi, g0, g6, hc⟩ Q' hN hE hR
  rcases hc with ⟨l, c', F', hl, g4, g5, hs, hr⟩ | ⟨hn, g5, c', F', g4, hs, hr⟩
  · have h1 := hs.keepSl RRec.good h fun b _ => by simp
    by_cases hlt : (i : Int) < recs.length
    · obtain ⟨x, hx⟩ := get_lt hlt
      obtain ⟨b1, o1, bs1, cs1, f1, rfl, e1, e2, hrx, hcl, _⟩ := h1.get hx
      obtain ⟨y0, y1, y2, rfl⟩ := len3 hcl
      simp only [go_sem, Nat.reduceEqDiff, Nat.reduceAdd, Nat.reduceMul, Nat.reduceLeDiff, Int.reduceEq, Int.reduceLT, Int.reduceLE, Int.reduceAdd, Int.reduceSub, Int.reduceNeg, Int.reduceMul, Int.reduceToNat, Int.cast_ofNat_Int, Int.natCast_zero, Nat.add_zero, reduceCtorEq, g0, g4, g5, g6, hlt, e1, e2]
      refine Does.call (does_i_TripsDo K hr hrx) ?_
      rintro _ H1 ⟨c2, F2, rfl, s2, h2⟩
      have hok := tripsOf_ok hl
      have hmay : tripsMay l x = (recOk x && tripMayB l x) := by simp [tripsMay, hok]
      have t2 : Step [] H H1 F2 := (hs.with s2).less (by simp)
      simp only [go_sem, Nat.reduceEqDiff, Nat.reduceAdd, Nat.reduceMul, Nat.reduceLeDiff, Int.reduceEq, Int.reduceLT, Int.reduceLE, Int.reduceAdd, Int.reduceSub, Int.reduceNeg, Int.reduceMul, Int.reduceToNat, Int.cast_ofNat_Int, Int.natCast_zero, Nat.add_zero, reduceCtorEq, g0, g4, g5, g6, wrap_succ (show i ≤ lenTop by omega)]
      cases hg : (recOk x && tripMayB l x) with
      | true =>
        refine hN _ _ (by omega) ⟨i + 1, rfl, by omega, by simp [upd, g0], by simp [upd], .inl ⟨_, c2, F2, tripsOf_next hl hx hg, by simp [upd], by simp [upd, hmay, hg], t2, ?_⟩⟩
        rw [tripsDoV, if_pos (by rw [hmay, hg])] at h2; exact h2
      | false =>
        refine hN _ _ (by omega) ⟨i + 1, rfl, by omega, by simp [upd, g0], by simp [upd], .inr ⟨tripsOf_fail hl hx hg, by simp [upd, hmay, hg], c2, F2, by simp [upd], t2, ?_⟩⟩
        rw [tripsDoV, if_neg (by rw [hmay, hg]; simp)] at h2; exact h2
    · simp only [go_sem, Nat.reduceEqDiff, Nat.reduceAdd, Nat.reduceMul, Nat.reduceLeDiff, Int.reduceEq, Int.reduceLT, Int.reduceLE, Int.reduceAdd, Int.reduceSub, Int.reduceNeg, Int.reduceMul, Int.reduceToNat, Int.cast_ofNat_Int, Int.natCast_zero, Nat.add_zero, reduceCtorEq, g0, g4, g5, g6, hlt, h1.len]
      refine hE _ _ ?_
      rw [List.take_of_length_le (by omega)] at hl
      simp only [go_sem, Nat.reduceEqDiff, Nat.reduceAdd, Nat.reduceMul, Nat.reduceLeDiff, Int.reduceEq, Int.reduceLT, Int.reduceLE, Int.reduceAdd, Int.reduceSub, Int.reduceNeg, Int.reduceMul, Int.reduceToNat, Int.cast_ofNat_Int, Int.natCast_zero, Nat.add_zero, reduceCtorEq, g4, g5]
      exact hQ _ _ (Ends.ret rfl ⟨c', F', by simp [tupOf, hl], hs, by simp only [tripsD, hl, Option.getD_some]; exact hr⟩)
  · simp only [go_sem, Nat.reduceEqDiff, Nat.reduceAdd, Nat.reduceMul, Nat.reduceLeDiff, Int.reduceEq, Int.reduceLT, Int.reduceLE, Int.reduceAdd, Int.reduceSub, Int.reduceNeg, Int.reduceMul, Int.reduceToNat, Int.cast_ofNat_Int, Int.natCast_zero, Nat.add_zero, reduceCtorEq, g0, g4, g5, g6]
    refine hE _ _ ?_
    simp only [go_sem, Nat.reduceEqDiff, Nat.reduceAdd, Nat.reduceMul, Nat.reduceLeDiff, Int.reduceEq, Int.reduceLT, Int.reduceLE, Int.reduceAdd, Int.reduceSub, Int.reduceNeg, Int.reduceMul, Int.reduceToNat, Int.cast_ofNat_Int, Int.natCast_zero, Nat.add_zero, reduceCtorEq, g4, g5]
    exact hQ _ _ (Ends.ret rfl ⟨c', F', by simp [tupOf, hn], hs, by simp only [tripsD, hn, Option.getD_none]; exact hr⟩)
end Go.AX

/- Stocks and words: the program and the reference do the same. Condition: the data lie in memory. -/
namespace Go.AX
variable {P : Program} {I : Ids}
theorem own_live {H : Heap} {b n : Nat} {bs : List C} (h : H.own b = some (n, bs)) : H.live b = some bs := by
  unfold Heap.own at h
  unfold Heap.live
  split at h
  · rename_i heq; rw [heq]; simp only [Option.some.injEq, Prod.mk.injEq] at h; rw [h.2]
  · cases h
/-- To write a hold whole. -/
theorem hold_set {H : Heap} {c : C} {l : List Hold} {F : List Nat} (h : Holds' H c l F) (ho : Owned H F) {i : Nat} {x : Hold} (hi : l[i]? = some x) (y : Hold) :
    ∃ b off bs H', c = .sl b off l.length ∧ H.own b = some (2, bs) ∧ off + i * 2 + 2 ≤ bs.length ∧ H.wr b (splice bs (off + i * 2) [.int .i64 y.many, .int .i64 y.state]) = H' ∧ Holds' H' c (l.set i y) F ∧ Step F H H' F := by
  obtain ⟨b, off, bs, H', e1, e2, e3, e4, e5, e6⟩ := sl_put RHold.good h ho hi 0 [.int .i64 y.many, .int .i64 y.state] (by simp) y (fun H' cs f hr hl => by
    obtain ⟨rfl, rfl⟩ := hr
    exact ⟨by simp [splice], rfl⟩)
  exact ⟨b, off, bs, H', e1, e2, by simpa using e3, by simpa using e4, e5, e6⟩
/-- To write a hold's state. -/
theorem hold_st {H : Heap} {c : C} {l : List Hold} {F : List Nat} (h : Holds' H c l F) (ho : Owned H F) {i : Nat} {x : Hold} (hi : l[i]? = some x) (v : Int) :
    ∃ b off bs H', c = .sl b off l.length ∧ H.own b = some (2, bs) ∧ off + i * 2 + 1 + 1 ≤ bs.length ∧ H.wr b (splice bs (off + i * 2 + 1) [.int .i64 v]) = H' ∧ Holds' H' c (l.set i ⟨x.many, v⟩) F ∧ Step F H H' F := by
  obtain ⟨b, off, bs, H', e1, e2, e3, e4, e5, e6⟩ := sl_put RHold.good h ho hi 1 [.int .i64 v] (by simp) ⟨x.many, v⟩ (fun H' cs f hr hl => by
    obtain ⟨rfl, rfl⟩ := hr
    exact ⟨by simp [splice], rfl⟩)
  exact ⟨b, off, bs, H', e1, e2, e3, e4, e5, e6⟩
theorem hadAll_snoc {hs : List Hold} {h : Hold} : hadAll (hs ++ [h]) = hadAll hs + had h := by
  induction hs with
  | nil => simp [hadAll]
  | cons x r ih => simp only [List.cons_append, hadAll, ih]; omega
theorem had_bound {h : Hold} (hk : holdOk h = true) : 0 ≤ had h ∧ had h ≤ 3 := by
  unfold had holdOk at *
  (repeat' split at hk) <;> (try split) <;> simp_all [inB] <;> omega
theorem hadAll_bound {hs : List Hold} (h : ∀ x ∈ hs, holdOk x = true) : 0 ≤ hadAll hs ∧ hadAll hs ≤ 3 * hs.length := by
  induction hs with
  | nil => simp [hadAll]
  | cons x r ih =>
    have h1 := ih fun y hy => h y (by simp [hy])
    have h2 := had_bound (h x (by simp))
    simp only [hadAll, List.length_cons]; omega
theorem does_s_l2Free (K : Codes P I) {H : Heap} {cs : List C} {s : Stock} {F : List Nat} (h : RStock H cs s F) (hroom : 0 ≤ s.room ∧ s.room ≤ 9) (hlen : s.holds.length = 6) (hall : ∀ x ∈ s.holds, holdOk x = true) : Does P I.s_l2Free [.agg cs] H fun v H' => v = .val (int (freeS s)) ∧ H' = H := by
  obtain ⟨c, rfl, hc⟩ := h
  refine K.does K.s_l2Free rfl fun Q hQ => ?_
  simp only [go_sem, Nat.reduceEqDiff, Nat.reduceAdd, Nat.reduceMul, Nat.reduceLeDiff, Int.reduceEq, Int.reduceLT, Int.reduceLE, Int.reduceAdd, Int.reduceSub, Int.reduceNeg, Int.reduceMul, Int.reduceToNat, Int.cast_ofNat_Int, Int.natCast_zero, Nat.add_zero, reduceCtorEq, L_s_l2Free]
  refine RU_loop (fun m t => ∃ i : Nat, m = 6 - i ∧ i ≤ 6 ∧ t.H = H ∧ t.env 1 = .box [.int .i64 s.room, c] ∧ t.env 4 = .val (int i) ∧ t.env 3 = .val (int (s.room - hadAll (s.holds.take i)))) 6 ⟨0, rfl, by omega, rfl, rfl, rfl, by simp [upd, hadAll]⟩ ?_
  rintro m t ⟨i, rfl, hi, hH, g1, g4, g3⟩ Q' hN hE hR
  by_cases hlt : (i : Int) < s.holds.length
  · obtain ⟨x, hx⟩ := get_lt hlt
    obtain ⟨b1, o1, bs1, cs1, f1, rfl, e1, e2, ⟨rfl, _⟩, _, _⟩ := hc.get hx
    have hb := hadAll_bound (hs := s.holds.take (i + 1)) fun y hy => hall y (List.mem_of_mem_take hy)
    have hbl : (s.holds.take (i + 1)).length ≤ 6 := by simp; omega
    have hsn : hadAll (s.holds.take (i + 1)) = hadAll (s.holds.take i) + had x := by rw [take_snoc hx, hadAll_snoc]
    have hwi := wrap_succ (show i ≤ lenTop by unfold lenTop; omega)
    have ld0 := slab_sub0 e2 1 (by simp)
    have ld1 := slab_sub e2 1 1 (by simp)
    simp only [slabAt1, slabSkip1] at ld0 ld1
    by_cases s1 : x.state = 1
    · have hh : had x = x.many := by simp [had, s1]
      have hw : IntKind.wrap .i64 (s.room - hadAll (s.holds.take i) - x.many) = s.room - hadAll (s.holds.take i) - x.many := wrap_i64 (by omega) (by omega)
      simp only [go_sem, Nat.reduceEqDiff, Nat.reduceAdd, Nat.reduceMul, Nat.reduceLeDiff, Int.reduceEq, Int.reduceLT, Int.reduceLE, Int.reduceAdd, Int.reduceSub, Int.reduceNeg, Int.reduceMul, Int.reduceToNat, Int.cast_ofNat_Int, Int.natCast_zero, Nat.add_zero, reduceCtorEq, g1, g3, g4, hlt, hH, e1, ld0, ld1, s1, hw, hwi]
      exact hN _ _ (by omega) ⟨i + 1, rfl, by omega, by simp [hH], by simp [upd, g1], by simp [upd], by simp [upd, hsn, hh]; omega⟩
    · by_cases s2 : x.state = 2
      · have hh : had x = x.many := by simp [had, s2]
        have hw : IntKind.wrap .i64 (s.room - hadAll (s.holds.take i) - x.many) = s.room - hadAll (s.holds.take i) - x.many := wrap_i64 (by omega) (by omega)
        simp only [go_sem, Nat.reduceEqDiff, Nat.reduceAdd, Nat.reduceMul, Nat.reduceLeDiff, Int.reduceEq, Int.reduceLT, Int.reduceLE, Int.reduceAdd, Int.reduceSub, Int.reduceNeg, Int.reduceMul, Int.reduceToNat, Int.cast_ofNat_Int, Int.natCast_zero, Nat.add_zero, reduceCtorEq, g1, g3, g4, hlt, hH, e1, ld0, ld1, s1, s2, hw, hwi]
        exact hN _ _ (by omega) ⟨i + 1, rfl, by omega, by simp [hH], by simp [upd, g1], by simp [upd], by simp [upd, hsn, hh]; omega⟩
      · have hh : had x = 0 := by simp [had, s1, s2]
        simp only [go_sem, Nat.reduceEqDiff, Nat.reduceAdd, Nat.reduceMul, Nat.reduceLeDiff, Int.reduceEq, Int.reduceLT, Int.reduceLE, Int.reduceAdd, Int.reduceSub, Int.reduceNeg, Int.reduceMul, Int.reduceToNat, Int.cast_ofNat_Int, Int.natCast_zero, Nat.add_zero, reduceCtorEq, g1, g3, g4, hlt, hH, e1, ld0, ld1, s1, s2, hwi]
        exact hN _ _ (by omega) ⟨i + 1, rfl, by omega, by simp [hH], by simp [upd, g1], by simp [upd], by simp [upd, g3, hsn, hh]⟩
  · simp only [go_sem, Nat.reduceEqDiff, Nat.reduceAdd, Nat.reduceMul, Nat.reduceLeDiff, Int.reduceEq, Int.reduceLT, Int.reduceLE, Int.reduceAdd, Int.reduceSub, Int.reduceNeg, Int.reduceMul, Int.reduceToNat, Int.cast_ofNat_Int, Int.natCast_zero, Nat.add_zero, reduceCtorEq, g1, g4, hlt, hH, hc.len]
    refine hE _ _ ?_
    rw [List.take_of_length_le (by omega)] at g3
    simp only [go_sem, Nat.reduceEqDiff, Nat.reduceAdd, Nat.reduceMul, Nat.reduceLeDiff, Int.reduceEq, Int.reduceLT, Int.reduceLE, Int.reduceAdd, Int.reduceSub, Int.reduceNeg, Int.reduceMul, Int.reduceToNat, Int.cast_ofNat_Int, Int.natCast_zero, Nat.add_zero, reduceCtorEq, g3]
    exact hQ _ _ (Ends.ret rfl ⟨rfl, rfl⟩)
end Go.AX

/- What records do to stocks: the program and the reference do the same. Condition: the data lie in memory. -/
namespace Go.AX
variable {P : Program} {I : Ids}
theorem RHold.cells {H : Heap} {cs : List C} {x : Hold} {F : List Nat} (h : RHold H cs x F) : cs.length = 2 := by rw [h.1]; rfl
theorem stock_at {s : Stock} {r : Rec} (hs : stockOk s = true) (hr : recOk r = true) : ∃ i, (r.trip - 1).toNat = i ∧ r.trip = (i : Nat) + 1 ∧ i < s.holds.length ∧ s.holds[i]? = some (holdAt s r.trip) ∧ IntKind.wrap .i64 (r.trip - 1) = (i : Int) ∧ (i : Int) < s.holds.length := by
  obtain ⟨_, hlen, _, _⟩ := stockOk_parts hs
  have ht := recOk_trip hr
  refine ⟨(r.trip - 1).toNat, rfl, by omega, by omega, holdAt_get hlen ht.1 ht.2, ?_, by omega⟩
  rw [wrap_i64 (by omega) (by omega)]; omega
theorem does_s_l2May (K : Codes P I) {H : Heap} {cs ds : List C} {s : Stock} {r : Rec} {F G : List Nat} (h : RStock H cs s F) (hr : RRec H ds r G) (hok : stockOk s = true) (hrk : recOk r = true) : Does P I.s_l2May [.agg cs, .agg ds] H fun v H' => v = bool (stockMayB s r) ∧ H' = H := by
  have h0 := h
  obtain ⟨c, rfl, hc⟩ := h
  obtain ⟨cm, rfl, hm⟩ := hr
  refine K.does K.s_l2May rfl fun Q hQ => ?_
  obtain ⟨hroom, hlen, hall, hfree⟩ := stockOk_parts hok
  obtain ⟨i, q1, q2, q3, q4, q5, q6⟩ := stock_at hok hrk
  obtain ⟨b1, o1, bs1, cs1, f1, rfl, e1, e2, ⟨rfl, _⟩, _, _⟩ := hc.get q4
  have ld1 := slab_sub e2 1 1 (by simp)
  simp only [slabAt1, slabSkip1] at ld1
  by_cases k1 : r.kind = 1
  · obtain ⟨n, hn, _, _⟩ := recOk_hold hrk k1
    rw [hn] at hm
    obtain ⟨b2, o2, bs2, cs2, f2, rfl, g1, g2, ⟨rfl, _⟩, _⟩ := hm.get0
    simp only [Nat.zero_mul, Nat.add_zero] at g2
    simp only [go_sem, Nat.reduceEqDiff, Nat.reduceAdd, Nat.reduceMul, Nat.reduceLeDiff, Int.reduceEq, Int.reduceLT, Int.reduceLE, Int.reduceAdd, Int.reduceSub, Int.reduceNeg, Int.reduceMul, Int.reduceToNat, Int.cast_ofNat_Int, Int.natCast_zero, Nat.add_zero, reduceCtorEq, L_s_l2May, q5, q6, e1, ld1, k1]
    refine RU_code_regionZ (zOne b2 bs2) (zOne_holds g1) ?_
    by_cases s0 : (holdAt s r.trip).state = 0
    · simp only [go_sem, Nat.reduceEqDiff, Nat.reduceAdd, Nat.reduceMul, Nat.reduceLeDiff, Int.reduceEq, Int.reduceLT, Int.reduceLE, Int.reduceAdd, Int.reduceSub, Int.reduceNeg, Int.reduceMul, Int.reduceToNat, Int.cast_ofNat_Int, Int.natCast_zero, Nat.add_zero, reduceCtorEq, q5, q6, e1, ld1, k1, s0, g1, g2, Int.natCast_one, Int.ofNat_one, Nat.zero_mul, RUh_zOne g1]
      refine Does.test (does_s_l2Free K h0 hroom hlen hall) ?_
      simp only [go_sem, Nat.reduceEqDiff, Nat.reduceAdd, Nat.reduceMul, Nat.reduceLeDiff, Int.reduceEq, Int.reduceLT, Int.reduceLE, Int.reduceAdd, Int.reduceSub, Int.reduceNeg, Int.reduceMul, Int.reduceToNat, Int.cast_ofNat_Int, Int.natCast_zero, Nat.add_zero, reduceCtorEq, RUh_zOne g1]
      exact hQ _ _ (Ends.ret rfl ⟨by simp [tupOf, stockMayB, k1, s0, first, hn], rfl⟩)
    · simp only [go_sem, Nat.reduceEqDiff, Nat.reduceAdd, Nat.reduceMul, Nat.reduceLeDiff, Int.reduceEq, Int.reduceLT, Int.reduceLE, Int.reduceAdd, Int.reduceSub, Int.reduceNeg, Int.reduceMul, Int.reduceToNat, Int.cast_ofNat_Int, Int.natCast_zero, Nat.add_zero, reduceCtorEq, q5, q6, e1, ld1, k1, s0, RUh_zOne g1]
      exact hQ _ _ (Ends.ret rfl ⟨by simp [tupOf, stockMayB, k1, s0], rfl⟩)
  · by_cases k2 : r.kind = 2
    · simp only [go_sem, Nat.reduceEqDiff, Nat.reduceAdd, Nat.reduceMul, Nat.reduceLeDiff, Int.reduceEq, Int.reduceLT, Int.reduceLE, Int.reduceAdd, Int.reduceSub, Int.reduceNeg, Int.reduceMul, Int.reduceToNat, Int.cast_ofNat_Int, Int.natCast_zero, Nat.add_zero, reduceCtorEq, L_s_l2May, q5, q6, e1, ld1, k1, k2]
      exact hQ _ _ (Ends.ret rfl ⟨by simp [tupOf, stockMayB, k2], rfl⟩)
    · by_cases k3 : r.kind = 3
      · by_cases s1 : (holdAt s r.trip).state = 1
        · simp only [go_sem, Nat.reduceEqDiff, Nat.reduceAdd, Nat.reduceMul, Nat.reduceLeDiff, Int.reduceEq, Int.reduceLT, Int.reduceLE, Int.reduceAdd, Int.reduceSub, Int.reduceNeg, Int.reduceMul, Int.reduceToNat, Int.cast_ofNat_Int, Int.natCast_zero, Nat.add_zero, reduceCtorEq, L_s_l2May, q5, q6, e1, ld1, k1, k2, k3, s1]
          exact hQ _ _ (Ends.ret rfl ⟨by simp [tupOf, stockMayB, k3, s1], rfl⟩)
        · simp only [go_sem, Nat.reduceEqDiff, Nat.reduceAdd, Nat.reduceMul, Nat.reduceLeDiff, Int.reduceEq, Int.reduceLT, Int.reduceLE, Int.reduceAdd, Int.reduceSub, Int.reduceNeg, Int.reduceMul, Int.reduceToNat, Int.cast_ofNat_Int, Int.natCast_zero, Nat.add_zero, reduceCtorEq, L_s_l2May, q5, q6, e1, ld1, k1, k2, k3, s1]
          exact hQ _ _ (Ends.ret rfl ⟨by simp [tupOf, stockMayB, k3, s1], rfl⟩)
      · simp only [go_sem, Nat.reduceEqDiff, Nat.reduceAdd, Nat.reduceMul, Nat.reduceLeDiff, Int.reduceEq, Int.reduceLT, Int.reduceLE, Int.reduceAdd, Int.reduceSub, Int.reduceNeg, Int.reduceMul, Int.reduceToNat, Int.cast_ofNat_Int, Int.natCast_zero, Nat.add_zero, reduceCtorEq, L_s_l2May, q5, q6, e1, ld1, k1, k2, k3]
        exact hQ _ _ (Ends.ret rfl ⟨by simp [tupOf, stockMayB, k1, k2, k3], rfl⟩)
def stockDoV (s : Stock) (r : Rec) : Stock := if stockMay s r = true then stockDoL s r else stock0
theorem rstock0 {H : Heap} : RStock H [.int .i64 0, .nil] stock0 [] := ⟨.nil, rfl, .nil⟩
theorem may_kinds {s : Stock} {r : Rec} (h : stockMayB s r = true) (k1 : r.kind ≠ 1) (k2 : r.kind ≠ 2) : r.kind = 3 := by
  unfold stockMayB at h
  rw [if_neg k1, if_neg k2] at h
  split at h
  · assumption
  · cases h
theorem stockDoL_set {s : Stock} {r : Rec} {i : Nat} (h : (r.trip - 1).toNat = i) : stockDoL s r = ⟨s.room, s.holds.set i (holdDo (holdAt s r.trip) r)⟩ := by unfold stockDoL; rw [h]
set_option maxHeartbeats 1000000 in
theorem does_s_l2Do (K : Codes P I) {H : Heap} {cs ds : List C} {s : Stock} {r : Rec} {F G : List Nat} (h : RStock H cs s F) (ho : Owned H F) (hr : RRec H ds r G) (hok : stockOk s = true) (hrk : recOk r = true) (hmb : stockMayB s r = true) :
    Does P I.s_l2Do [.agg cs, .agg ds] H fun v H' => ∃ cs', v = .val (.agg cs') ∧ Step F H H' F ∧ RStock H' cs' (stockDoL s r) F := by
  obtain ⟨c, rfl, hc⟩ := h
  obtain ⟨cm, rfl, hm⟩ := hr
  refine K.does K.s_l2Do rfl fun Q hQ => ?_
  obtain ⟨hroom, hlen, hall, hfree⟩ := stockOk_parts hok
  obtain ⟨i, q1, q2, q3, q4, q5, q6⟩ := stock_at hok hrk
  have hS := stockDoL_set (s := s) q1
  obtain ⟨b, off, bs, H2, e1, e2, e3, e4, e5, e6⟩ := hold_set hc ho q4 (holdDo (holdAt s r.trip) r)
  obtain ⟨b3, o3, bs3, cs3, f3, e7, e8, e9, ⟨rfl, _⟩, _, _⟩ := hc.get q4
  rw [e1] at e7
  cases e7
  subst e1
  by_cases k1 : r.kind = 1
  · obtain ⟨n, hn, _, _⟩ := recOk_hold hrk k1
    rw [hn] at hm
    obtain ⟨b2, o2, bs2, cs2, f2, rfl, g1, g2, ⟨rfl, _⟩, _⟩ := hm.get0
    simp only [Nat.zero_mul, Nat.add_zero] at g2
    simp only [holdDo, k1, if_true, first, hn, List.headD_cons] at e4
    simp only [go_sem, Nat.reduceEqDiff, Nat.reduceAdd, Nat.reduceMul, Nat.reduceLeDiff, Int.reduceEq, Int.reduceLT, Int.reduceLE, Int.reduceAdd, Int.reduceSub, Int.reduceNeg, Int.reduceMul, Int.reduceToNat, Int.cast_ofNat_Int, Int.natCast_zero, Nat.add_zero, reduceCtorEq, L_s_l2Do, q5, q6, k1, e8, e9, g1, g2, Int.natCast_one, Int.ofNat_one, Nat.zero_mul, e2, e3, e4]
    exact hQ _ _ (Ends.ret rfl ⟨_, rfl, e6, by rw [hS]; exact ⟨_, rfl, e5⟩⟩)
  · by_cases k2 : r.kind = 2
    · simp only [holdDo, k2, Int.reduceEq, if_true, if_false] at e4
      simp only [go_sem, Nat.reduceEqDiff, Nat.reduceAdd, Nat.reduceMul, Nat.reduceLeDiff, Int.reduceEq, Int.reduceLT, Int.reduceLE, Int.reduceAdd, Int.reduceSub, Int.reduceNeg, Int.reduceMul, Int.reduceToNat, Int.cast_ofNat_Int, Int.natCast_zero, Nat.add_zero, reduceCtorEq, L_s_l2Do, q5, q6, k1, k2, e8, e9, e2, e3, e4]
      exact hQ _ _ (Ends.ret rfl ⟨_, rfl, e6, by rw [hS]; exact ⟨_, rfl, e5⟩⟩)
    · have k3 := may_kinds hmb k1 k2
      simp only [holdDo, k3, Int.reduceEq, if_true, if_false] at e4
      simp only [go_sem, Nat.reduceEqDiff, Nat.reduceAdd, Nat.reduceMul, Nat.reduceLeDiff, Int.reduceEq, Int.reduceLT, Int.reduceLE, Int.reduceAdd, Int.reduceSub, Int.reduceNeg, Int.reduceMul, Int.reduceToNat, Int.cast_ofNat_Int, Int.natCast_zero, Nat.add_zero, reduceCtorEq, L_s_l2Do, q5, q6, k1, k2, k3, e8, e9, e2, e3, e4]
      exact hQ _ _ (Ends.ret rfl ⟨_, rfl, e6, by rw [hS]; exact ⟨_, rfl, e5⟩⟩)
theorem rstockN {H : Heap} {room : Int} : RStock (H ++ [⟨.rw, 2, rep 6 [.int .i64 0, .int .i64 0]⟩]) [.int .i64 room, .sl H.length 0 6] (stockN room) [H.length] := ⟨_, rfl, show SlR 2 RHold _ _ (List.replicate 6 (⟨0, 0⟩ : Hold)) _ from sl_make (z := [.int .i64 0, .int .i64 0]) rfl (fun _ => ⟨rfl, rfl⟩) (by unfold lenTop; omega)⟩
theorem does_s_StockNew (K : Codes P I) {H : Heap} {room : Int} : Does P I.s_StockNew [int room] H fun v H' => ∃ cs F, v = .tup [.agg cs, .c (.bool (inB room 0 9))] ∧ Step [] H H' F ∧ RStock H' cs (stockNewV room) F := by
  refine K.does K.s_StockNew rfl fun Q hQ => ?_
  have hle : (6 : Int) ≤ ((lenMax : Nat) : Int) := by unfold lenMax; omega
  simp only [go_sem, Nat.reduceEqDiff, Nat.reduceAdd, Nat.reduceMul, Nat.reduceLeDiff, Int.reduceEq, Int.reduceLT, Int.reduceLE, Int.reduceAdd, Int.reduceSub, Int.reduceNeg, Int.reduceMul, Int.reduceToNat, Int.cast_ofNat_Int, Int.natCast_zero, Nat.add_zero, reduceCtorEq, L_s_StockNew]
  refine Does.test (does_s_l6In K) ?_
  cases hr : inB room 0 9 with
  | false =>
    simp only [go_sem, Nat.reduceEqDiff, Nat.reduceAdd, Nat.reduceMul, Nat.reduceLeDiff, Int.reduceEq, Int.reduceLT, Int.reduceLE, Int.reduceAdd, Int.reduceSub, Int.reduceNeg, Int.reduceMul, Int.reduceToNat, Int.cast_ofNat_Int, Int.natCast_zero, Nat.add_zero, reduceCtorEq]
    exact hQ _ _ (Ends.ret rfl ⟨_, [], by simp [tupOf, hr]; rfl, Step.refl H, by rw [stockNewV, if_neg (by simp [hr])]; exact rstock0⟩)
  | true =>
    simp only [go_sem, Nat.reduceEqDiff, Nat.reduceAdd, Nat.reduceMul, Nat.reduceLeDiff, Int.reduceEq, Int.reduceLT, Int.reduceLE, Int.reduceAdd, Int.reduceSub, Int.reduceNeg, Int.reduceMul, Int.reduceToNat, Int.cast_ofNat_Int, Int.natCast_zero, Nat.add_zero, reduceCtorEq, hle]
    exact hQ _ _ (Ends.ret rfl ⟨_, _, by simp [tupOf, hr]; rfl, step_new, by rw [stockNewV, if_pos hr]; exact rstockN⟩)

theorem stockOf_next {room : Int} {recs : List Rec} {i : Nat} {s : Stock} {x : Rec} (h : stockOf room (recs.take i) = some s) (hx : recs[i]? = some x) (hg : (recOk x && stockMayB s x) = true) : stockOf room (recs.take (i + 1)) = some (stockDoL s x) := by
  rw [take_snoc hx, stockOf_snoc, h]; simp only [stockStep, Option.bind_some, hg, if_true]
theorem stockOf_fail {room : Int} {recs : List Rec} {i : Nat} {s : Stock} {x : Rec} (h : stockOf room (recs.take i) = some s) (hx : recs[i]? = some x) (hg : (recOk x && stockMayB s x) = false) : stockOf room recs = none := by
  cases ho : stockOf room recs with
  | none => rfl
  | some s' =>
    obtain ⟨t, ht⟩ := stockOf_take ho (i + 1)
    rw [take_snoc hx, stockOf_snoc, h] at ht
    simp only [stockStep, Option.bind_some, hg] at ht
    cases ht
def stockD (room : Int) (recs : List Rec) : Stock := (stockOf room recs).getD stock0
theorem stockOf_room {room : Int} {recs : List Rec} (h : inB room 0 9 = false) : stockOf room recs = none := by
  unfold stockOf; rw [if_neg (by simp [h])]; exact foldl_stock_none recs
theorem stockOf_zero {room : Int} {recs : List Rec} (h : inB room 0 9 = true) : stockOf room (recs.take 0) = some (stockN room) := by
  unfold stockOf; rw [if_pos h]; rfl
theorem does_s_l2Of (K : Codes P I) {H : Heap} {c : C} {room : Int} {recs : List Rec} {F : List Nat} (h : Recs H c recs F) :
    Does P I.s_l2Of [int room, .c c] H fun v H' => ∃ cs F', v = .tup [.agg cs, .c (.bool (stockOf room recs).isSome)] ∧ Step [] H H' F' ∧ RStock H' cs (stockD room recs) F' := by
  refine K.does K.s_l2Of rfl fun Q hQ => ?_
  have htop := h.top
  simp only [go_sem, Nat.reduceEqDiff, Nat.reduceAdd, Nat.reduceMul, Nat.reduceLeDiff, Int.reduceEq, Int.reduceLT, Int.reduceLE, Int.reduceAdd, Int.reduceSub, Int.reduceNeg, Int.reduceMul, Int.reduceToNat, Int.cast_ofNat_Int, Int.natCast_zero, Nat.add_zero, reduceCtorEq, L_s_l2Of]
  refine Does.call (does_s_StockNew K) ?_
  rintro _ H1 ⟨cs, F1, rfl, s1, h1⟩
  obtain ⟨x0, x1, rfl⟩ := len2 h1.cells
  cases hroom : inB room 0 9 with
  | false =>
    simp only [go_sem, Nat.reduceEqDiff, Nat.reduceAdd, Nat.reduceMul, Nat.reduceLeDiff, Int.reduceEq, Int.reduceLT, Int.reduceLE, Int.reduceAdd, Int.reduceSub, Int.reduceNeg, Int.reduceMul, Int.reduceToNat, Int.cast_ofNat_Int, Int.natCast_zero, Nat.add_zero, reduceCtorEq]
    exact hQ _ _ (Ends.ret rfl ⟨[.int .i64 0, .nil], [], by simp [tupOf, stockOf_room hroom], s1.less (by simp), by simp only [stockD, stockOf_room hroom, Option.getD_none]; exact rstock0⟩)
  | true =>
    rw [stockNewV, if_pos hroom] at h1
    simp only [go_sem, Nat.reduceEqDiff, Nat.reduceAdd, Nat.reduceMul, Nat.reduceLeDiff, Int.reduceEq, Int.reduceLT, Int.reduceLE, Int.reduceAdd, Int.reduceSub, Int.reduceNeg, Int.reduceMul, Int.reduceToNat, Int.cast_ofNat_Int, Int.natCast_zero, Nat.add_zero, reduceCtorEq]
    refine RU_loop (fun m t => ∃ i : Nat, m = recs.length - i ∧ i ≤ recs.length ∧ t.env 1 = .val (.c c) ∧ t.env 4 = .box [.int .i64 0, .nil] ∧ t.env 8 = .val (int i) ∧ ∃ s cs F', stockOf room (recs.take i) = some s ∧ t.env 6 = .box cs ∧ cs.length = 2 ∧ Step [] H t.H F' ∧ RStock t.H cs s F') recs.length
      ⟨0, by simp, by simp, rfl, rfl, rfl, _, _, _, stockOf_zero hroom, rfl, rfl, s1, h1⟩ ?_
    rintro m t ⟨i, rfl, hi, g1, g4, g8, s, cs, F', hs0, g6, hcs, hs, hr⟩ Q' hN hE hR
    obtain ⟨y0, y1, rfl⟩ := len2 hcs
    have h2 := hs.keepSl RRec.good h fun b _ => by simp
    by_cases hlt : (i : Int) < recs.length
    · obtain ⟨x, hx⟩ := get_lt hlt
      obtain ⟨b1, o1, bs1, cs1, f1, rfl, e1, e2, hrx, hcl, _⟩ := h2.get hx
      obtain ⟨z0, z1, z2, rfl⟩ := len3 hcl
      simp only [go_sem, Nat.reduceEqDiff, Nat.reduceAdd, Nat.reduceMul, Nat.reduceLeDiff, Int.reduceEq, Int.reduceLT, Int.reduceLE, Int.reduceAdd, Int.reduceSub, Int.reduceNeg, Int.reduceMul, Int.reduceToNat, Int.cast_ofNat_Int, Int.natCast_zero, Nat.add_zero, reduceCtorEq, g1, g4, g6, g8, hlt, e1, e2]
      refine Does.test (does_s_RecOk K hrx) ?_
      cases hrk : recOk x with
      | false =>
        have hn := stockOf_fail hs0 hx (by simp [hrk])
        simp only [go_sem, Nat.reduceEqDiff, Nat.reduceAdd, Nat.reduceMul, Nat.reduceLeDiff, Int.reduceEq, Int.reduceLT, Int.reduceLE, Int.reduceAdd, Int.reduceSub, Int.reduceNeg, Int.reduceMul, Int.reduceToNat, Int.cast_ofNat_Int, Int.natCast_zero, Nat.add_zero, reduceCtorEq, g4]
        exact hR _ (hQ _ _ (Ends.ret rfl ⟨[.int .i64 0, .nil], [], by simp [tupOf, hn], hs.less (by simp), by simp only [stockD, hn, Option.getD_none]; exact rstock0⟩))
      | true =>
        simp only [go_sem, Nat.reduceEqDiff, Nat.reduceAdd, Nat.reduceMul, Nat.reduceLeDiff, Int.reduceEq, Int.reduceLT, Int.reduceLE, Int.reduceAdd, Int.reduceSub, Int.reduceNeg, Int.reduceMul, Int.reduceToNat, Int.cast_ofNat_Int, Int.natCast_zero, Nat.add_zero, reduceCtorEq, g1, g4, g6, g8, hlt, e1, e2]
        refine Does.test (does_s_l2May K hr hrx (stockOf_ok hs0) hrk) ?_
        cases hmb : stockMayB s x with
        | false =>
          have hn := stockOf_fail hs0 hx (by simp [hmb])
          simp only [go_sem, Nat.reduceEqDiff, Nat.reduceAdd, Nat.reduceMul, Nat.reduceLeDiff, Int.reduceEq, Int.reduceLT, Int.reduceLE, Int.reduceAdd, Int.reduceSub, Int.reduceNeg, Int.reduceMul, Int.reduceToNat, Int.cast_ofNat_Int, Int.natCast_zero, Nat.add_zero, reduceCtorEq, g4]
          exact hR _ (hQ _ _ (Ends.ret rfl ⟨[.int .i64 0, .nil], [], by simp [tupOf, hn], hs.less (by simp), by simp only [stockD, hn, Option.getD_none]; exact rstock0⟩))
        | true =>
          simp only [go_sem, Nat.reduceEqDiff, Nat.reduceAdd, Nat.reduceMul, Nat.reduceLeDiff, Int.reduceEq, Int.reduceLT, Int.reduceLE, Int.reduceAdd, Int.reduceSub, Int.reduceNeg, Int.reduceMul, Int.reduceToNat, Int.cast_ofNat_Int, Int.natCast_zero, Nat.add_zero, reduceCtorEq, g1, g4, g6, g8, hlt, e1, e2]
          refine Does.call (does_s_l2Do K hr hs.owned hrx (stockOf_ok hs0) hrk hmb) ?_
          rintro _ H3 ⟨cs3, rfl, s3, h3⟩
          obtain ⟨w0, w1, rfl⟩ := len2 h3.cells
          simp only [go_sem, Nat.reduceEqDiff, Nat.reduceAdd, Nat.reduceMul, Nat.reduceLeDiff, Int.reduceEq, Int.reduceLT, Int.reduceLE, Int.reduceAdd, Int.reduceSub, Int.reduceNeg, Int.reduceMul, Int.reduceToNat, Int.cast_ofNat_Int, Int.natCast_zero, Nat.add_zero, reduceCtorEq, g1, g4, g6, g8, wrap_succ (show i ≤ lenTop by omega)]
          exact hN _ _ (by omega) ⟨i + 1, rfl, by omega, by simp [upd, g1], by simp [upd, g4], by simp [upd], _, _, F', stockOf_next hs0 hx (by simp [hrk, hmb]), by simp [upd], rfl, hs.trans s3, h3⟩
    · simp only [go_sem, Nat.reduceEqDiff, Nat.reduceAdd, Nat.reduceMul, Nat.reduceLeDiff, Int.reduceEq, Int.reduceLT, Int.reduceLE, Int.reduceAdd, Int.reduceSub, Int.reduceNeg, Int.reduceMul, Int.reduceToNat, Int.cast_ofNat_Int, Int.natCast_zero, Nat.add_zero, reduceCtorEq, g1, g8, hlt, h2.len]
      refine hE _ _ ?_
      rw [List.take_of_length_le (by omega)] at hs0
      simp only [go_sem, Nat.reduceEqDiff, Nat.reduceAdd, Nat.reduceMul, Nat.reduceLeDiff, Int.reduceEq, Int.reduceLT, Int.reduceLE, Int.reduceAdd, Int.reduceSub, Int.reduceNeg, Int.reduceMul, Int.reduceToNat, Int.cast_ofNat_Int, Int.natCast_zero, Nat.add_zero, reduceCtorEq, g4, g6]
      exact hQ _ _ (Ends.ret rfl ⟨_, F', by simp [tupOf, hs0]; rfl, hs, by simp only [stockD, hs0, Option.getD_some]; exact hr⟩)
theorem does_i_WordOk (K : Codes P I) {H : Heap} {cs : List C} {w : Word} {F : List Nat} (h : RWord H cs w F) : Does P I.i_WordOk [.agg cs] H fun v H' => v = bool (wordOk w) ∧ H' = H := by
  obtain ⟨rfl, rfl⟩ := h
  refine K.does K.i_WordOk rfl fun Q hQ => ?_
  by_cases k1 : w.kind = 1
  · simp only [go_sem, Nat.reduceEqDiff, Nat.reduceAdd, Nat.reduceMul, Nat.reduceLeDiff, Int.reduceEq, Int.reduceLT, Int.reduceLE, Int.reduceAdd, Int.reduceSub, Int.reduceNeg, Int.reduceMul, Int.reduceToNat, Int.cast_ofNat_Int, Int.natCast_zero, Nat.add_zero, reduceCtorEq, L_i_WordOk, k1]
    refine Does.test (does_i_in K) ?_
    simp only [go_sem, Nat.reduceEqDiff, Nat.reduceAdd, Nat.reduceMul, Nat.reduceLeDiff, Int.reduceEq, Int.reduceLT, Int.reduceLE, Int.reduceAdd, Int.reduceSub, Int.reduceNeg, Int.reduceMul, Int.reduceToNat, Int.cast_ofNat_Int, Int.natCast_zero, Nat.add_zero, reduceCtorEq, k1]
    refine Does.test (does_i_in K) ?_
    cases hk : inB 1 1 7 with
    | false =>
      simp only [go_sem, Nat.reduceEqDiff, Nat.reduceAdd, Nat.reduceMul, Nat.reduceLeDiff, Int.reduceEq, Int.reduceLT, Int.reduceLE, Int.reduceAdd, Int.reduceSub, Int.reduceNeg, Int.reduceMul, Int.reduceToNat, Int.cast_ofNat_Int, Int.natCast_zero, Nat.add_zero, reduceCtorEq]
      exact hQ _ _ (Ends.ret rfl ⟨by simp [tupOf, wordOk, hk, k1], rfl⟩)
    | true =>
      simp only [go_sem, Nat.reduceEqDiff, Nat.reduceAdd, Nat.reduceMul, Nat.reduceLeDiff, Int.reduceEq, Int.reduceLT, Int.reduceLE, Int.reduceAdd, Int.reduceSub, Int.reduceNeg, Int.reduceMul, Int.reduceToNat, Int.cast_ofNat_Int, Int.natCast_zero, Nat.add_zero, reduceCtorEq]
      refine Does.test (does_i_isHouse K) ?_
      cases hh : inB w.house 1 3 with
      | false =>
        simp only [go_sem, Nat.reduceEqDiff, Nat.reduceAdd, Nat.reduceMul, Nat.reduceLeDiff, Int.reduceEq, Int.reduceLT, Int.reduceLE, Int.reduceAdd, Int.reduceSub, Int.reduceNeg, Int.reduceMul, Int.reduceToNat, Int.cast_ofNat_Int, Int.natCast_zero, Nat.add_zero, reduceCtorEq]
        exact hQ _ _ (Ends.ret rfl ⟨by simp [tupOf, wordOk, hh], rfl⟩)
      | true =>
        simp only [go_sem, Nat.reduceEqDiff, Nat.reduceAdd, Nat.reduceMul, Nat.reduceLeDiff, Int.reduceEq, Int.reduceLT, Int.reduceLE, Int.reduceAdd, Int.reduceSub, Int.reduceNeg, Int.reduceMul, Int.reduceToNat, Int.cast_ofNat_Int, Int.natCast_zero, Nat.add_zero, reduceCtorEq]
        refine Does.test (does_i_isTrip K) ?_
        cases ht : inB w.trip 1 6 with
        | false =>
          simp only [go_sem, Nat.reduceEqDiff, Nat.reduceAdd, Nat.reduceMul, Nat.reduceLeDiff, Int.reduceEq, Int.reduceLT, Int.reduceLE, Int.reduceAdd, Int.reduceSub, Int.reduceNeg, Int.reduceMul, Int.reduceToNat, Int.cast_ofNat_Int, Int.natCast_zero, Nat.add_zero, reduceCtorEq]
          exact hQ _ _ (Ends.ret rfl ⟨by simp [tupOf, wordOk, ht], rfl⟩)
        | true =>
          simp only [go_sem, Nat.reduceEqDiff, Nat.reduceAdd, Nat.reduceMul, Nat.reduceLeDiff, Int.reduceEq, Int.reduceLT, Int.reduceLE, Int.reduceAdd, Int.reduceSub, Int.reduceNeg, Int.reduceMul, Int.reduceToNat, Int.cast_ofNat_Int, Int.natCast_zero, Nat.add_zero, reduceCtorEq]
          exact hQ _ _ (Ends.ret rfl ⟨by simp [tupOf, wordOk, hk, hh, ht, k1], rfl⟩)
  · simp only [go_sem, Nat.reduceEqDiff, Nat.reduceAdd, Nat.reduceMul, Nat.reduceLeDiff, Int.reduceEq, Int.reduceLT, Int.reduceLE, Int.reduceAdd, Int.reduceSub, Int.reduceNeg, Int.reduceMul, Int.reduceToNat, Int.cast_ofNat_Int, Int.natCast_zero, Nat.add_zero, reduceCtorEq, L_i_WordOk, k1]
    refine Does.test (does_i_in K) ?_
    cases hk : inB w.kind 1 7 with
    | false =>
      simp only [go_sem, Nat.reduceEqDiff, Nat.reduceAdd, Nat.reduceMul, Nat.reduceLeDiff, Int.reduceEq, Int.reduceLT, Int.reduceLE, Int.reduceAdd, Int.reduceSub, Int.reduceNeg, Int.reduceMul, Int.reduceToNat, Int.cast_ofNat_Int, Int.natCast_zero, Nat.add_zero, reduceCtorEq]
      exact hQ _ _ (Ends.ret rfl ⟨by simp [tupOf, wordOk, hk, k1], rfl⟩)
    | true =>
      simp only [go_sem, Nat.reduceEqDiff, Nat.reduceAdd, Nat.reduceMul, Nat.reduceLeDiff, Int.reduceEq, Int.reduceLT, Int.reduceLE, Int.reduceAdd, Int.reduceSub, Int.reduceNeg, Int.reduceMul, Int.reduceToNat, Int.cast_ofNat_Int, Int.natCast_zero, Nat.add_zero, reduceCtorEq]
      refine Does.test (does_i_isHouse K) ?_
      cases hh : inB w.house 1 3 with
      | false =>
        simp only [go_sem, Nat.reduceEqDiff, Nat.reduceAdd, Nat.reduceMul, Nat.reduceLeDiff, Int.reduceEq, Int.reduceLT, Int.reduceLE, Int.reduceAdd, Int.reduceSub, Int.reduceNeg, Int.reduceMul, Int.reduceToNat, Int.cast_ofNat_Int, Int.natCast_zero, Nat.add_zero, reduceCtorEq]
        exact hQ _ _ (Ends.ret rfl ⟨by simp [tupOf, wordOk, hh], rfl⟩)
      | true =>
        simp only [go_sem, Nat.reduceEqDiff, Nat.reduceAdd, Nat.reduceMul, Nat.reduceLeDiff, Int.reduceEq, Int.reduceLT, Int.reduceLE, Int.reduceAdd, Int.reduceSub, Int.reduceNeg, Int.reduceMul, Int.reduceToNat, Int.cast_ofNat_Int, Int.natCast_zero, Nat.add_zero, reduceCtorEq]
        refine Does.test (does_i_isTrip K) ?_
        cases ht : inB w.trip 1 6 with
        | false =>
          simp only [go_sem, Nat.reduceEqDiff, Nat.reduceAdd, Nat.reduceMul, Nat.reduceLeDiff, Int.reduceEq, Int.reduceLT, Int.reduceLE, Int.reduceAdd, Int.reduceSub, Int.reduceNeg, Int.reduceMul, Int.reduceToNat, Int.cast_ofNat_Int, Int.natCast_zero, Nat.add_zero, reduceCtorEq]
          exact hQ _ _ (Ends.ret rfl ⟨by simp [tupOf, wordOk, ht], rfl⟩)
        | true =>
          simp only [go_sem, Nat.reduceEqDiff, Nat.reduceAdd, Nat.reduceMul, Nat.reduceLeDiff, Int.reduceEq, Int.reduceLT, Int.reduceLE, Int.reduceAdd, Int.reduceSub, Int.reduceNeg, Int.reduceMul, Int.reduceToNat, Int.cast_ofNat_Int, Int.natCast_zero, Nat.add_zero, reduceCtorEq]
          exact hQ _ _ (Ends.ret rfl ⟨by simp [tupOf, wordOk, hk, hh, ht, k1], rfl⟩)
theorem does_s_WordOk (K : Codes P I) {H : Heap} {cs : List C} {w : Word} {F : List Nat} (h : RWord H cs w F) : Does P I.s_WordOk [.agg cs] H fun v H' => v = bool (wordOk w) ∧ H' = H := by
  obtain ⟨rfl, rfl⟩ := h
  refine K.does K.s_WordOk rfl fun Q hQ => ?_
  simp only [go_sem, Nat.reduceEqDiff, Nat.reduceAdd, Nat.reduceMul, Nat.reduceLeDiff, Int.reduceEq, Int.reduceLT, Int.reduceLE, Int.reduceAdd, Int.reduceSub, Int.reduceNeg, Int.reduceMul, Int.reduceToNat, Int.cast_ofNat_Int, Int.natCast_zero, Nat.add_zero, reduceCtorEq, L_s_WordOk]
  refine Does.test (does_s_l6In K) ?_
  cases hh : inB w.house 1 3 with
  | false =>
    simp only [go_sem, Nat.reduceEqDiff, Nat.reduceAdd, Nat.reduceMul, Nat.reduceLeDiff, Int.reduceEq, Int.reduceLT, Int.reduceLE, Int.reduceAdd, Int.reduceSub, Int.reduceNeg, Int.reduceMul, Int.reduceToNat, Int.cast_ofNat_Int, Int.natCast_zero, Nat.add_zero, reduceCtorEq]
    exact hQ _ _ (Ends.ret rfl ⟨by simp [tupOf, wordOk, hh], rfl⟩)
  | true =>
    simp only [go_sem, Nat.reduceEqDiff, Nat.reduceAdd, Nat.reduceMul, Nat.reduceLeDiff, Int.reduceEq, Int.reduceLT, Int.reduceLE, Int.reduceAdd, Int.reduceSub, Int.reduceNeg, Int.reduceMul, Int.reduceToNat, Int.cast_ofNat_Int, Int.natCast_zero, Nat.add_zero, reduceCtorEq]
    refine Does.test (does_s_l6In K) ?_
    cases ht : inB w.trip 1 6 with
    | false =>
      simp only [go_sem, Nat.reduceEqDiff, Nat.reduceAdd, Nat.reduceMul, Nat.reduceLeDiff, Int.reduceEq, Int.reduceLT, Int.reduceLE, Int.reduceAdd, Int.reduceSub, Int.reduceNeg, Int.reduceMul, Int.reduceToNat, Int.cast_ofNat_Int, Int.natCast_zero, Nat.add_zero, reduceCtorEq]
      exact hQ _ _ (Ends.ret rfl ⟨by simp [tupOf, wordOk, ht], rfl⟩)
    | true =>
      simp only [go_sem, Nat.reduceEqDiff, Nat.reduceAdd, Nat.reduceMul, Nat.reduceLeDiff, Int.reduceEq, Int.reduceLT, Int.reduceLE, Int.reduceAdd, Int.reduceSub, Int.reduceNeg, Int.reduceMul, Int.reduceToNat, Int.cast_ofNat_Int, Int.natCast_zero, Nat.add_zero, reduceCtorEq]
      refine Does.test (does_s_l6In K) ?_
      cases hk : inB w.kind 1 7 with
      | false =>
        simp only [go_sem, Nat.reduceEqDiff, Nat.reduceAdd, Nat.reduceMul, Nat.reduceLeDiff, Int.reduceEq, Int.reduceLT, Int.reduceLE, Int.reduceAdd, Int.reduceSub, Int.reduceNeg, Int.reduceMul, Int.reduceToNat, Int.cast_ofNat_Int, Int.natCast_zero, Nat.add_zero, reduceCtorEq]
        exact hQ _ _ (Ends.ret rfl ⟨by simp [tupOf, wordOk, hk], rfl⟩)
      | true =>
        by_cases k1 : w.kind = 1
        · simp only [go_sem, Nat.reduceEqDiff, Nat.reduceAdd, Nat.reduceMul, Nat.reduceLeDiff, Int.reduceEq, Int.reduceLT, Int.reduceLE, Int.reduceAdd, Int.reduceSub, Int.reduceNeg, Int.reduceMul, Int.reduceToNat, Int.cast_ofNat_Int, Int.natCast_zero, Nat.add_zero, reduceCtorEq, k1]
          refine Does.test (does_s_l6In K) ?_
          rw [k1] at hk
          simp only [go_sem, Nat.reduceEqDiff, Nat.reduceAdd, Nat.reduceMul, Nat.reduceLeDiff, Int.reduceEq, Int.reduceLT, Int.reduceLE, Int.reduceAdd, Int.reduceSub, Int.reduceNeg, Int.reduceMul, Int.reduceToNat, Int.cast_ofNat_Int, Int.natCast_zero, Nat.add_zero, reduceCtorEq]
          exact hQ _ _ (Ends.ret rfl ⟨by simp [tupOf, wordOk, hk, hh, ht, k1], rfl⟩)
        · simp only [go_sem, Nat.reduceEqDiff, Nat.reduceAdd, Nat.reduceMul, Nat.reduceLeDiff, Int.reduceEq, Int.reduceLT, Int.reduceLE, Int.reduceAdd, Int.reduceSub, Int.reduceNeg, Int.reduceMul, Int.reduceToNat, Int.cast_ofNat_Int, Int.natCast_zero, Nat.add_zero, reduceCtorEq, k1]
          exact hQ _ _ (Ends.ret rfl ⟨by simp [tupOf, wordOk, hk, hh, ht, k1], rfl⟩)
theorem does_i_Word_answer (K : Codes P I) {H : Heap} {cs : List C} {w : Word} {F : List Nat} (h : RWord H cs w F) : Does P I.i_Word_answer [.agg cs] H fun v H' => v = bool (decide (4 ≤ w.kind)) ∧ H' = H := by
  obtain ⟨rfl, rfl⟩ := h
  refine K.does K.i_Word_answer rfl fun Q hQ => ?_
  simp only [go_sem, Nat.reduceEqDiff, Nat.reduceAdd, Nat.reduceMul, Nat.reduceLeDiff, Int.reduceEq, Int.reduceLT, Int.reduceLE, Int.reduceAdd, Int.reduceSub, Int.reduceNeg, Int.reduceMul, Int.reduceToNat, Int.cast_ofNat_Int, Int.natCast_zero, Nat.add_zero, reduceCtorEq, L_i_Word_answer]
  exact hQ _ _ (Ends.ret rfl ⟨rfl, rfl⟩)
end Go.AX

/- Houses: the program and the reference do the same. Condition: the data lie in memory. -/
namespace Go.AX
variable {P : Program} {I : Ids}
theorem rhouse0 {H : Heap} : RHouse H [.int .i64 0, .bool false, .int .i64 0, .nil, .int .i64 0] house0 [] := ⟨.nil, rfl, .nil⟩
theorem does_s_HouseNew (K : Codes P I) {H : Heap} {id room : Int} : Does P I.s_HouseNew [int id, int room] H fun v H' => ∃ cs F, v = .tup [.agg cs, .c (.bool (houseNewOk id room))] ∧ Step [] H H' F ∧ RHouse H' cs (houseNewV id room) F := by
  refine K.does K.s_HouseNew rfl fun Q hQ => ?_
  simp only [go_sem, Nat.reduceEqDiff, Nat.reduceAdd, Nat.reduceMul, Nat.reduceLeDiff, Int.reduceEq, Int.reduceLT, Int.reduceLE, Int.reduceAdd, Int.reduceSub, Int.reduceNeg, Int.reduceMul, Int.reduceToNat, Int.cast_ofNat_Int, Int.natCast_zero, Nat.add_zero, reduceCtorEq, L_s_HouseNew]
  refine Does.call (does_s_StockNew K) ?_
  rintro _ H1 ⟨cs, F1, rfl, s1, r1⟩
  replace s1 : Step [] H H1 F1 := s1
  have s1' : Step [] H H1 [] := s1.less (by simp)
  obtain ⟨x0, x1, rfl⟩ := len2 r1.cells
  simp only [go_sem, Nat.reduceEqDiff, Nat.reduceAdd, Nat.reduceMul, Nat.reduceLeDiff, Int.reduceEq, Int.reduceLT, Int.reduceLE, Int.reduceAdd, Int.reduceSub, Int.reduceNeg, Int.reduceMul, Int.reduceToNat, Int.cast_ofNat_Int, Int.natCast_zero, Nat.add_zero, reduceCtorEq]
  refine Does.test (does_s_l6In K) ?_
  cases h1 : inB id 1 3 with
  | false =>
    simp only [go_sem, Nat.reduceEqDiff, Nat.reduceAdd, Nat.reduceMul, Nat.reduceLeDiff, Int.reduceEq, Int.reduceLT, Int.reduceLE, Int.reduceAdd, Int.reduceSub, Int.reduceNeg, Int.reduceMul, Int.reduceToNat, Int.cast_ofNat_Int, Int.natCast_zero, Nat.add_zero, reduceCtorEq]
    exact hQ _ _ (Ends.ret rfl ⟨[.int .i64 0, .bool false, .int .i64 0, .nil, .int .i64 0], [], by simp [tupOf, houseNewOk, h1], s1', by simp only [houseNewV, houseNewOk, h1]; exact rhouse0⟩)
  | true =>
    cases h2 : inB room 0 9 with
    | false =>
      simp only [go_sem, Nat.reduceEqDiff, Nat.reduceAdd, Nat.reduceMul, Nat.reduceLeDiff, Int.reduceEq, Int.reduceLT, Int.reduceLE, Int.reduceAdd, Int.reduceSub, Int.reduceNeg, Int.reduceMul, Int.reduceToNat, Int.cast_ofNat_Int, Int.natCast_zero, Nat.add_zero, reduceCtorEq]
      exact hQ _ _ (Ends.ret rfl ⟨[.int .i64 0, .bool false, .int .i64 0, .nil, .int .i64 0], [], by simp [tupOf, houseNewOk, h2], s1', by simp only [houseNewV, houseNewOk, h2, Bool.and_false]; exact rhouse0⟩)
    | true =>
      simp only [go_sem, Nat.reduceEqDiff, Nat.reduceAdd, Nat.reduceMul, Nat.reduceLeDiff, Int.reduceEq, Int.reduceLT, Int.reduceLE, Int.reduceAdd, Int.reduceSub, Int.reduceNeg, Int.reduceMul, Int.reduceToNat, Int.cast_ofNat_Int, Int.natCast_zero, Nat.add_zero, reduceCtorEq]
      exact hQ _ _ (Ends.ret rfl ⟨[.int .i64 id, .bool true, .int .i64 room, .emp true, .int .i64 0], [], by simp [tupOf, houseNewOk, h1, h2], s1', by simp only [houseNewV, houseNewOk, h1, h2]; exact ⟨.emp true, rfl, .emp⟩⟩)
theorem does_i_Log_known (K : Codes P I) {H : Heap} {cs : List C} {l : Log} {F : List Nat} {f : Bool} (h : RLog H cs l F) (hok : logOk l = true) : Does P I.i_Log_known [.agg cs, .c (.bool f)] H fun v H' => ∃ c' F', v = .val (.c c') ∧ H' = H ∧ Recs H' c' (known l f) F' := by
  obtain ⟨c, rfl, hc⟩ := h
  refine K.does K.i_Log_known rfl fun Q hQ => ?_
  obtain ⟨h1, h2, h3, h4⟩ := logOk_parts hok
  cases f with
  | false =>
    simp only [go_sem, Nat.reduceEqDiff, Nat.reduceAdd, Nat.reduceMul, Nat.reduceLeDiff, Int.reduceEq, Int.reduceLT, Int.reduceLE, Int.reduceAdd, Int.reduceSub, Int.reduceNeg, Int.reduceMul, Int.reduceToNat, Int.cast_ofNat_Int, Int.natCast_zero, Nat.add_zero, reduceCtorEq, L_i_Log_known]
    exact hQ _ _ (Ends.ret rfl ⟨c, F, rfl, rfl, hc⟩)
  | true =>
    obtain ⟨c', F', hs, hc', _⟩ := slc_take hc (k := l.forced.toNat) (by omega)
    rw [show ((l.forced.toNat : Nat) : Int) = l.forced by omega] at hs
    simp only [go_sem, Nat.reduceEqDiff, Nat.reduceAdd, Nat.reduceMul, Nat.reduceLeDiff, Int.reduceEq, Int.reduceLT, Int.reduceLE, Int.reduceAdd, Int.reduceSub, Int.reduceNeg, Int.reduceMul, Int.reduceToNat, Int.cast_ofNat_Int, Int.natCast_zero, Nat.add_zero, reduceCtorEq, L_i_Log_known, hs]
    exact hQ _ _ (Ends.ret rfl ⟨c', F', rfl, rfl, hc'⟩)
theorem does_s_l11Stock (K : Codes P I) {H : Heap} {cs : List C} {h : House} {F : List Nat} {f : Bool} (hh : RHouse H cs h F) (hok : logOk h.log = true) : Does P I.s_l11Stock [.agg cs, .c (.bool f)] H fun v H' => ∃ cs' F', v = .val (.agg cs') ∧ Step [] H H' F' ∧ RStock H' cs' (stockV h f) F' := by
  obtain ⟨c, rfl, hc⟩ := hh
  refine K.does K.s_l11Stock rfl fun Q hQ => ?_
  obtain ⟨h1, h2, h3, h4⟩ := logOk_parts hok
  cases f with
  | false =>
    obtain ⟨c', F', hs, hc', _⟩ := slc_take hc (k := h.log.recs.length) (Nat.le_refl _)
    rw [List.take_length] at hc'
    simp only [go_sem, Nat.reduceEqDiff, Nat.reduceAdd, Nat.reduceMul, Nat.reduceLeDiff, Int.reduceEq, Int.reduceLT, Int.reduceLE, Int.reduceAdd, Int.reduceSub, Int.reduceNeg, Int.reduceMul, Int.reduceToNat, Int.cast_ofNat_Int, Int.natCast_zero, Nat.add_zero, reduceCtorEq, L_s_l11Stock, hc.len, hs]
    refine Does.call (does_s_l2Of K hc') ?_
    rintro _ H1 ⟨cs1, F1, rfl, s1, r1⟩
    obtain ⟨x0, x1, rfl⟩ := len2 r1.cells
    simp only [go_sem, Nat.reduceEqDiff, Nat.reduceAdd, Nat.reduceMul, Nat.reduceLeDiff, Int.reduceEq, Int.reduceLT, Int.reduceLE, Int.reduceAdd, Int.reduceSub, Int.reduceNeg, Int.reduceMul, Int.reduceToNat, Int.cast_ofNat_Int, Int.natCast_zero, Nat.add_zero, reduceCtorEq]
    exact hQ _ _ (Ends.ret rfl ⟨_, F1, rfl, s1, r1⟩)
  | true =>
    obtain ⟨c', F', hs, hc', _⟩ := slc_take hc (k := h.log.forced.toNat) (by omega)
    rw [show ((h.log.forced.toNat : Nat) : Int) = h.log.forced by omega] at hs
    simp only [go_sem, Nat.reduceEqDiff, Nat.reduceAdd, Nat.reduceMul, Nat.reduceLeDiff, Int.reduceEq, Int.reduceLT, Int.reduceLE, Int.reduceAdd, Int.reduceSub, Int.reduceNeg, Int.reduceMul, Int.reduceToNat, Int.cast_ofNat_Int, Int.natCast_zero, Nat.add_zero, reduceCtorEq, L_s_l11Stock, hc.len, hs]
    refine Does.call (does_s_l2Of K hc') ?_
    rintro _ H1 ⟨cs1, F1, rfl, s1, r1⟩
    obtain ⟨x0, x1, rfl⟩ := len2 r1.cells
    simp only [go_sem, Nat.reduceEqDiff, Nat.reduceAdd, Nat.reduceMul, Nat.reduceLeDiff, Int.reduceEq, Int.reduceLT, Int.reduceLE, Int.reduceAdd, Int.reduceSub, Int.reduceNeg, Int.reduceMul, Int.reduceToNat, Int.cast_ofNat_Int, Int.natCast_zero, Nat.add_zero, reduceCtorEq]
    exact hQ _ _ (Ends.ret rfl ⟨_, F1, rfl, s1, r1⟩)
end Go.AX

/- A new world: the program and the reference do the same. Condition: the data lie in memory. -/
namespace Go.AX
variable {P : Program} {I : Ids}
def world0 : Wld := ⟨desk00, [], []⟩
def housesN (rooms : List Int) (i : Nat) : List House := (rooms.take i).zipIdx.map fun p => houseNewV (p.2 + 1 : Nat) p.1
def okN (rooms : List Int) (i : Nat) : Bool := (rooms.take i).zipIdx.all fun p => houseNewOk (p.2 + 1 : Nat) p.1
def worldNewOk (rooms : List Int) : Bool := okN rooms rooms.length && decide (rooms.length = 3)
def worldNewV (rooms : List Int) : Wld := if worldNewOk rooms = true then ⟨desk0, housesN rooms rooms.length, []⟩ else world0
theorem houses_snoc {rooms : List Int} {i : Nat} {r : Int} (h : rooms[i]? = some r) : housesN rooms (i + 1) = housesN rooms i ++ [houseNewV (i + 1 : Nat) r] := by
  have hi : i < rooms.length := (List.getElem?_eq_some_iff.1 h).1
  unfold housesN
  rw [take_snoc h, List.zipIdx_append, List.map_append]
  simp [Nat.min_eq_left (Nat.le_of_lt hi)]
theorem okN_snoc {rooms : List Int} {i : Nat} {r : Int} (h : rooms[i]? = some r) : okN rooms (i + 1) = (okN rooms i && houseNewOk (i + 1 : Nat) r) := by
  have hi : i < rooms.length := (List.getElem?_eq_some_iff.1 h).1
  unfold okN
  rw [take_snoc h, List.zipIdx_append, List.all_append]
  simp [Nat.min_eq_left (Nat.le_of_lt hi)]
theorem okN_mono {rooms : List Int} {i j : Nat} (hij : i ≤ j) (h : okN rooms i = false) : okN rooms j = false := by
  induction j with
  | zero => rw [show i = 0 by omega] at h; exact h
  | succ j ih =>
    by_cases e : i = j + 1
    · rw [← e]; exact h
    · have := ih (by omega)
      by_cases hj : j < rooms.length
      · rw [okN_snoc (List.getElem?_eq_getElem hj), this]; rfl
      · unfold okN at *
        rw [List.take_of_length_le (by omega)] at this ⊢
        exact this
theorem worldNot {rooms : List Int} {i : Nat} {r : Int} (h : rooms[i]? = some r) (hk : houseNewOk (i + 1 : Nat) r = false) : worldNewOk rooms = false := by
  have hi : i < rooms.length := (List.getElem?_eq_some_iff.1 h).1
  have : okN rooms rooms.length = false := okN_mono (i := i + 1) (by omega) (by rw [okN_snoc h, hk, Bool.and_false])
  unfold worldNewOk; rw [this]; rfl
theorem rwld0 {H : Heap} : RWld H [.bool false, .nil, .int .i64 0, .nil, .nil, .nil] world0 [] := ⟨[.bool false, .nil, .int .i64 0, .nil], .nil, .nil, [], [], [], rfl, rfl, ⟨.nil, .nil, [], [], rfl, rfl, .nil, .nil⟩, .nil, .nil⟩
theorem houseNew_big {i : Nat} {r : Int} (h : 3 ≤ i) : houseNewOk (i + 1 : Nat) r = false := by
  have : inB ((i + 1 : Nat) : Int) 1 3 = false := by simp [inB]; omega
  unfold houseNewOk; rw [this]; rfl
set_option maxHeartbeats 1000000 in
theorem does_s_WorldNew (K : Codes P I) {H : Heap} {a : C} {rooms : List Int} {A : List Nat} (ha : Ints H a rooms A) :
    Does P I.s_WorldNew [.c a] H fun v H' => ∃ cs F, v = .tup [.agg cs, .c (.bool (worldNewOk rooms))] ∧ Step [] H H' F ∧ RWld H' cs (worldNewV rooms) F := by
  have alt : ∀ b ∈ A, b < H.length := ha.lt RInt.good
  refine K.does K.s_WorldNew rfl fun Q hQ => ?_
  simp only [go_sem, Nat.reduceEqDiff, Nat.reduceAdd, Nat.reduceMul, Nat.reduceLeDiff, Int.reduceEq, Int.reduceLT, Int.reduceLE, Int.reduceAdd, Int.reduceSub, Int.reduceNeg, Int.reduceMul, Int.reduceToNat, Int.cast_ofNat_Int, Int.natCast_zero, Nat.add_zero, reduceCtorEq, L_s_WorldNew]
  refine Does.call (does_s_DeskNew K) ?_
  rintro _ H1 ⟨ds, F0, hd4, rfl, s1, hd⟩
  obtain ⟨d0, d1, d2, d3, rfl⟩ := len4 hd4
  replace s1 : Step [] H H1 F0 := s1
  replace ha := s1.keepSl RInt.good ha (fun b _ => by simp)
  simp only [go_sem, Nat.reduceEqDiff, Nat.reduceAdd, Nat.reduceMul, Nat.reduceLeDiff, Int.reduceEq, Int.reduceLT, Int.reduceLE, Int.reduceAdd, Int.reduceSub, Int.reduceNeg, Int.reduceMul, Int.reduceToNat, Int.cast_ofNat_Int, Int.natCast_zero, Nat.add_zero, reduceCtorEq]
  refine RU_loop (fun m s => ∃ i : Nat, m = rooms.length - i ∧ i ≤ rooms.length ∧ i ≤ 3 ∧ ∃ c F, s.env 0 = .val (.c a) ∧ s.env 2 = .box [.bool false, .nil, .int .i64 0, .nil, .nil, .nil] ∧ s.env 4 = .box [d0, d1, d2, d3, c, .emp true] ∧ s.env 5 = .val (int i) ∧ Step [] H s.H (F0 ++ F) ∧ RDesk s.H [d0, d1, d2, d3] desk0 F0 ∧ Houses s.H c (housesN rooms i) F ∧ Ints s.H a rooms A ∧ okN rooms i = true) rooms.length
    ⟨0, by simp, by simp, by simp, .nil, [], rfl, rfl, rfl, rfl, by simpa using s1, hd, .nil, ha, rfl⟩ ?_
  rintro m s ⟨i, rfl, hi, hi3, c, F, g0, g2, g4, g5, st, hdk, hhs, ha, hok⟩ Q' hN hE hR
  have hw := wrap_succ (show i ≤ lenTop by simp [lenTop]; omega)
  by_cases hlt : (i : Int) < rooms.length
  · obtain ⟨r, hr⟩ : ∃ r, rooms[i]? = some r := get_lt (by omega)
    obtain ⟨b1, o1, bs1, cs1, f1, rfl, e1, e2, ⟨rfl, _⟩, _⟩ := ha.get hr
    simp only [go_sem, Nat.reduceEqDiff, Nat.reduceAdd, Nat.reduceMul, Nat.reduceLeDiff, Int.reduceEq, Int.reduceLT, Int.reduceLE, Int.reduceAdd, Int.reduceSub, Int.reduceNeg, Int.reduceMul, Int.reduceToNat, Int.cast_ofNat_Int, Int.natCast_zero, Nat.add_zero, reduceCtorEq, g0, g2, g4, g5, ha.len, hlt, e1, e2, hw]
    refine Does.call (does_s_HouseNew K) ?_
    rintro _ H2 ⟨hs, f2, rfl, s2, h2⟩
    replace s2 : Step [] s.H H2 f2 := s2
    obtain ⟨x0, x1, x2, x3, x4, rfl⟩ := len5 h2.cells
    cases hn : houseNewOk (i + 1 : Nat) r with
    | false =>
      simp only [go_sem, Nat.reduceEqDiff, Nat.reduceAdd, Nat.reduceMul, Nat.reduceLeDiff, Int.reduceEq, Int.reduceLT, Int.reduceLE, Int.reduceAdd, Int.reduceSub, Int.reduceNeg, Int.reduceMul, Int.reduceToNat, Int.cast_ofNat_Int, Int.natCast_zero, Nat.add_zero, reduceCtorEq, g0, g2, g4, g5]
      refine hR _ ?_
      exact hQ _ _ (Ends.ret rfl ⟨[.bool false, .nil, .int .i64 0, .nil, .nil, .nil], [], by simp [tupOf, worldNot hr hn], (st.with s2).less (List.nil_sublist _), by rw [worldNewV, if_neg (by simp [worldNot hr hn])]; exact rwld0⟩)
    | true =>
      have hi2 : i < 3 := Classical.byContradiction fun c => by rw [houseNew_big (by omega)] at hn; cases hn
      have t2 := st.with s2
      have hln : (housesN rooms i).length ≤ 3 := by simp only [housesN, List.length_map, List.length_zipIdx, List.length_take]; omega
      have own : Owned H2 (F0 ++ (F ++ f2)) := by rw [← List.append_assoc]; exact t2.owned
      have dis := own.disj
      have dis2 : ∀ b ∈ A, b ∉ F ++ f2 := fun b hb hc => absurd (t2.ge b (by rw [List.append_assoc]; exact List.mem_append_right _ hc)) (Nat.not_le.2 (alt b hb))
      obtain ⟨c3, H3, F3, hap, hr3, s3⟩ := app_one RHouse.good (by decide) (s2.keepSl RHouse.good hhs fun b _ => by simp) h2 h2.cells own.right (by simp [lenMax]; omega)
      have t3 : Step [] H H3 (F0 ++ F3) := (show Step [] H H2 (F0 ++ (F ++ f2)) by rw [← List.append_assoc]; exact t2).beside s3 rfl
      simp only [go_sem, Nat.reduceEqDiff, Nat.reduceAdd, Nat.reduceMul, Nat.reduceLeDiff, Int.reduceEq, Int.reduceLT, Int.reduceLE, Int.reduceAdd, Int.reduceSub, Int.reduceNeg, Int.reduceMul, Int.reduceToNat, Int.cast_ofNat_Int, Int.natCast_zero, Nat.add_zero, reduceCtorEq, g0, g2, g4, g5, hap, hw]
      refine hN _ _ (by omega) ⟨i + 1, rfl, by omega, by omega, c3, F3, by simp [upd, g0], by simp [upd, g2], by simp [upd], by simp [upd], t3, s3.keep RDesk.good (s2.stay RDesk.good hdk) dis, by rw [houses_snoc hr]; exact hr3, s3.keepSl RInt.good (s2.keepSl RInt.good ha (fun b _ => by simp)) dis2, by rw [okN_snoc hr, hok, hn]; rfl⟩
  · have hi3' : i = rooms.length := by omega
    simp only [go_sem, Nat.reduceEqDiff, Nat.reduceAdd, Nat.reduceMul, Nat.reduceLeDiff, Int.reduceEq, Int.reduceLT, Int.reduceLE, Int.reduceAdd, Int.reduceSub, Int.reduceNeg, Int.reduceMul, Int.reduceToNat, Int.cast_ofNat_Int, Int.natCast_zero, Nat.add_zero, reduceCtorEq, g0, g2, g4, g5, ha.len, hlt]
    refine hE _ _ ?_
    by_cases hl : rooms.length = 3
    · have hl' : (rooms.length : Int) = 3 := by omega
      have hg : worldNewOk rooms = true := by
        rw [hi3'] at hok
        rw [worldNewOk, hok, decide_eq_true hl]; rfl
      simp only [go_sem, Nat.reduceEqDiff, Nat.reduceAdd, Nat.reduceMul, Nat.reduceLeDiff, Int.reduceEq, Int.reduceLT, Int.reduceLE, Int.reduceAdd, Int.reduceSub, Int.reduceNeg, Int.reduceMul, Int.reduceToNat, Int.cast_ofNat_Int, Int.natCast_zero, Nat.add_zero, reduceCtorEq, g0, g2, g4, g5, ha.len, hl']
      rw [hi3'] at hhs
      exact hQ _ _ (Ends.ret rfl ⟨[d0, d1, d2, d3, c, .emp true], F0 ++ F, by simp [tupOf, hg], st, by rw [worldNewV, if_pos hg]; exact ⟨[d0, d1, d2, d3], c, .emp true, F0, F, [], rfl, by simp, hdk, hhs, .emp⟩⟩)
    · have hl' : ¬ (rooms.length : Int) = 3 := by omega
      have hg : worldNewOk rooms = false := by simp [worldNewOk, hl]
      simp only [go_sem, Nat.reduceEqDiff, Nat.reduceAdd, Nat.reduceMul, Nat.reduceLeDiff, Int.reduceEq, Int.reduceLT, Int.reduceLE, Int.reduceAdd, Int.reduceSub, Int.reduceNeg, Int.reduceMul, Int.reduceToNat, Int.cast_ofNat_Int, Int.natCast_zero, Nat.add_zero, reduceCtorEq, g0, g2, g4, g5, ha.len, hl']
      exact hQ _ _ (Ends.ret rfl ⟨[.bool false, .nil, .int .i64 0, .nil, .nil, .nil], [], by simp [tupOf, hg], st.less (List.nil_sublist _), by rw [worldNewV, if_neg (by simp [hg])]; exact rwld0⟩)
end Go.AX

/- To hear: the program and the reference do the same. Condition: the data lie in memory. -/
namespace Go.AX
variable {P : Program} {I : Ids}
theorem may_recOfW {h : House} {w : Word} (hok : houseOk h = true) (hh : hearsB h w = true) : stockMay (stockV h false) (recOfW w) = mayB h w := by
  obtain ⟨_, g2, g3, _⟩ := hearsB_parts hh
  simp [stockMay, stockV_ok hok false, recOfW_ok g2 g3, mayB]
theorem rword0 {H : Heap} : RWord H [.int .i64 0, .int .i64 0, .int .i64 0, .int .i64 0] word0 [] := ⟨rfl, rfl⟩
end Go.AX

/- To hear: the reference. Condition: the data lie in memory. -/
namespace Go.AX
variable {P : Program} {I : Ids}
def answerF (kind f : Int) : Int := if kind = 1 ∧ (f = 1 ∨ f = 2) then 4 else if kind = 1 ∧ f = 3 then 5 else if kind = 2 ∧ f = 2 then 6 else if kind = 3 ∧ f = 3 then 7 else 0
theorem answerK_F {k a f : Int} (h : ¬ (k = 1 ∧ a = 0)) : answerK k a f = answerF k f := by simp only [answerK, answerF, if_neg h]
def answerW (h : House) (w : Word) (f : Int) : Word := if answerF w.kind f = 0 then word0 else ⟨answerF w.kind f, h.id, w.trip, 0⟩
theorem does_s_l11Answer (K : Codes P I) {H : Heap} {cs ds : List C} {h : House} {w : Word} {f : Int} {F G : List Nat} (hh : RHouse H cs h F) (hw : RWord H ds w G) :
    Does P I.s_l11Answer [.agg cs, .agg ds, int f] H fun v H' => ∃ ws, v = .tup [.agg ws, .c (.bool (decide (answerF w.kind f ≠ 0)))] ∧ RWord H ws (answerW h w f) [] ∧ H' = H := by
  obtain ⟨c, rfl, hc⟩ := hh
  obtain ⟨rfl, rfl⟩ := hw
  refine K.does K.s_l11Answer rfl fun Q hQ => ?_
  simp only [go_sem, Nat.reduceEqDiff, Nat.reduceAdd, Nat.reduceMul, Nat.reduceLeDiff, Int.reduceEq, Int.reduceLT, Int.reduceLE, Int.reduceAdd, Int.reduceSub, Int.reduceNeg, Int.reduceMul, Int.reduceToNat, Int.cast_ofNat_Int, Int.natCast_zero, Nat.add_zero, reduceCtorEq, L_s_l11Answer]
  by_cases k1 : w.kind = 1
  · by_cases f1 : f = 1
    · have hn : answerF w.kind f = 4 := by simp [answerF, k1, f1]
      simp only [go_sem, Nat.reduceEqDiff, Nat.reduceAdd, Nat.reduceMul, Nat.reduceLeDiff, Int.reduceEq, Int.reduceLT, Int.reduceLE, Int.reduceAdd, Int.reduceSub, Int.reduceNeg, Int.reduceMul, Int.reduceToNat, Int.cast_ofNat_Int, Int.natCast_zero, Nat.add_zero, reduceCtorEq, k1, f1]
      exact hQ _ _ (Ends.ret rfl ⟨[.int .i64 4, .int .i64 h.id, .int .i64 w.trip, .int .i64 0], by simp [tupOf, hn], by rw [answerW, hn]; exact ⟨rfl, rfl⟩, rfl⟩)
    · by_cases f2 : f = 2
      · have hn : answerF w.kind f = 4 := by simp [answerF, k1, f1, f2]
        simp only [go_sem, Nat.reduceEqDiff, Nat.reduceAdd, Nat.reduceMul, Nat.reduceLeDiff, Int.reduceEq, Int.reduceLT, Int.reduceLE, Int.reduceAdd, Int.reduceSub, Int.reduceNeg, Int.reduceMul, Int.reduceToNat, Int.cast_ofNat_Int, Int.natCast_zero, Nat.add_zero, reduceCtorEq, k1, f1, f2]
        exact hQ _ _ (Ends.ret rfl ⟨[.int .i64 4, .int .i64 h.id, .int .i64 w.trip, .int .i64 0], by simp [tupOf, hn], by rw [answerW, hn]; exact ⟨rfl, rfl⟩, rfl⟩)
      · by_cases f3 : f = 3
        · have hn : answerF w.kind f = 5 := by simp [answerF, k1, f1, f2, f3]
          simp only [go_sem, Nat.reduceEqDiff, Nat.reduceAdd, Nat.reduceMul, Nat.reduceLeDiff, Int.reduceEq, Int.reduceLT, Int.reduceLE, Int.reduceAdd, Int.reduceSub, Int.reduceNeg, Int.reduceMul, Int.reduceToNat, Int.cast_ofNat_Int, Int.natCast_zero, Nat.add_zero, reduceCtorEq, k1, f1, f2, f3]
          exact hQ _ _ (Ends.ret rfl ⟨[.int .i64 5, .int .i64 h.id, .int .i64 w.trip, .int .i64 0], by simp [tupOf, hn], by rw [answerW, hn]; exact ⟨rfl, rfl⟩, rfl⟩)
        · have hn : answerF w.kind f = 0 := by simp [answerF, k1, f1, f2, f3]
          simp only [go_sem, Nat.reduceEqDiff, Nat.reduceAdd, Nat.reduceMul, Nat.reduceLeDiff, Int.reduceEq, Int.reduceLT, Int.reduceLE, Int.reduceAdd, Int.reduceSub, Int.reduceNeg, Int.reduceMul, Int.reduceToNat, Int.cast_ofNat_Int, Int.natCast_zero, Nat.add_zero, reduceCtorEq, k1, f1, f2, f3]
          exact hQ _ _ (Ends.ret rfl ⟨[.int .i64 0, .int .i64 0, .int .i64 0, .int .i64 0], by simp [tupOf, hn], by rw [answerW, if_pos hn]; exact rword0, rfl⟩)
  · by_cases k2 : w.kind = 2
    · by_cases f2 : f = 2
      · have hn : answerF w.kind f = 6 := by simp [answerF, k1, k2, f2]
        simp only [go_sem, Nat.reduceEqDiff, Nat.reduceAdd, Nat.reduceMul, Nat.reduceLeDiff, Int.reduceEq, Int.reduceLT, Int.reduceLE, Int.reduceAdd, Int.reduceSub, Int.reduceNeg, Int.reduceMul, Int.reduceToNat, Int.cast_ofNat_Int, Int.natCast_zero, Nat.add_zero, reduceCtorEq, k1, k2, f2]
        exact hQ _ _ (Ends.ret rfl ⟨[.int .i64 6, .int .i64 h.id, .int .i64 w.trip, .int .i64 0], by simp [tupOf, hn], by rw [answerW, hn]; exact ⟨rfl, rfl⟩, rfl⟩)
      · have hn : answerF w.kind f = 0 := by simp [answerF, k1, k2, f2]
        simp only [go_sem, Nat.reduceEqDiff, Nat.reduceAdd, Nat.reduceMul, Nat.reduceLeDiff, Int.reduceEq, Int.reduceLT, Int.reduceLE, Int.reduceAdd, Int.reduceSub, Int.reduceNeg, Int.reduceMul, Int.reduceToNat, Int.cast_ofNat_Int, Int.natCast_zero, Nat.add_zero, reduceCtorEq, k1, k2, f2]
        exact hQ _ _ (Ends.ret rfl ⟨[.int .i64 0, .int .i64 0, .int .i64 0, .int .i64 0], by simp [tupOf, hn], by rw [answerW, if_pos hn]; exact rword0, rfl⟩)
    · by_cases k3 : w.kind = 3
      · by_cases f3 : f = 3
        · have hn : answerF w.kind f = 7 := by simp [answerF, k1, k2, k3, f3]
          simp only [go_sem, Nat.reduceEqDiff, Nat.reduceAdd, Nat.reduceMul, Nat.reduceLeDiff, Int.reduceEq, Int.reduceLT, Int.reduceLE, Int.reduceAdd, Int.reduceSub, Int.reduceNeg, Int.reduceMul, Int.reduceToNat, Int.cast_ofNat_Int, Int.natCast_zero, Nat.add_zero, reduceCtorEq, k1, k2, k3, f3]
          exact hQ _ _ (Ends.ret rfl ⟨[.int .i64 7, .int .i64 h.id, .int .i64 w.trip, .int .i64 0], by simp [tupOf, hn], by rw [answerW, hn]; exact ⟨rfl, rfl⟩, rfl⟩)
        · have hn : answerF w.kind f = 0 := by simp [answerF, k1, k2, k3, f3]
          simp only [go_sem, Nat.reduceEqDiff, Nat.reduceAdd, Nat.reduceMul, Nat.reduceLeDiff, Int.reduceEq, Int.reduceLT, Int.reduceLE, Int.reduceAdd, Int.reduceSub, Int.reduceNeg, Int.reduceMul, Int.reduceToNat, Int.cast_ofNat_Int, Int.natCast_zero, Nat.add_zero, reduceCtorEq, k1, k2, k3, f3]
          exact hQ _ _ (Ends.ret rfl ⟨[.int .i64 0, .int .i64 0, .int .i64 0, .int .i64 0], by simp [tupOf, hn], by rw [answerW, if_pos hn]; exact rword0, rfl⟩)
      · have hn : answerF w.kind f = 0 := by simp [answerF, k1, k2, k3]
        simp only [go_sem, Nat.reduceEqDiff, Nat.reduceAdd, Nat.reduceMul, Nat.reduceLeDiff, Int.reduceEq, Int.reduceLT, Int.reduceLE, Int.reduceAdd, Int.reduceSub, Int.reduceNeg, Int.reduceMul, Int.reduceToNat, Int.cast_ofNat_Int, Int.natCast_zero, Nat.add_zero, reduceCtorEq, k1, k2, k3]
        exact hQ _ _ (Ends.ret rfl ⟨[.int .i64 0, .int .i64 0, .int .i64 0, .int .i64 0], by simp [tupOf, hn], by rw [answerW, if_pos hn]; exact rword0, rfl⟩)
theorem does_s_l11Rec (K : Codes P I) {H : Heap} {ds : List C} {w : Word} {G : List Nat} (hw : RWord H ds w G) (hk : w.kind = 1 ∨ w.kind = 2 ∨ w.kind = 3) :
    Does P I.s_l11Rec [.agg ds] H fun v H' => ∃ cs' F', v = .val (.agg cs') ∧ Step [] H H' F' ∧ RRec H' cs' (recOfW w) F' := by
  obtain ⟨rfl, rfl⟩ := hw
  refine K.does K.s_l11Rec rfl fun Q hQ => ?_
  simp only [go_sem, Nat.reduceEqDiff, Nat.reduceAdd, Nat.reduceMul, Nat.reduceLeDiff, Int.reduceEq, Int.reduceLT, Int.reduceLE, Int.reduceAdd, Int.reduceSub, Int.reduceNeg, Int.reduceMul, Int.reduceToNat, Int.cast_ofNat_Int, Int.natCast_zero, Nat.add_zero, reduceCtorEq, L_s_l11Rec]
  by_cases k1 : w.kind = 1
  · have s3 := step_new (H := H) (n := 1) (cs := [.int .i64 w.many])
    have hi := ints_new (H := H) [w.many] rfl (by simp [lenTop])
    simp only [go_sem, Nat.reduceEqDiff, Nat.reduceAdd, Nat.reduceMul, Nat.reduceLeDiff, Int.reduceEq, Int.reduceLT, Int.reduceLE, Int.reduceAdd, Int.reduceSub, Int.reduceNeg, Int.reduceMul, Int.reduceToNat, Int.cast_ofNat_Int, Int.natCast_zero, Nat.add_zero, reduceCtorEq, k1, Nat.reduceDiv]
    exact hQ _ _ (Ends.ret rfl ⟨_, _, rfl, s3, .sl H.length 0 1, by simp [recOfW, k1], by simpa [recOfW, k1] using hi⟩)
  · by_cases k2 : w.kind = 2
    · simp only [go_sem, Nat.reduceEqDiff, Nat.reduceAdd, Nat.reduceMul, Nat.reduceLeDiff, Int.reduceEq, Int.reduceLT, Int.reduceLE, Int.reduceAdd, Int.reduceSub, Int.reduceNeg, Int.reduceMul, Int.reduceToNat, Int.cast_ofNat_Int, Int.natCast_zero, Nat.add_zero, reduceCtorEq, k1, k2]
      exact hQ _ _ (Ends.ret rfl ⟨_, _, rfl, Step.refl H, .emp true, by simp [recOfW, k2], by simp only [recOfW, if_neg k1]; exact .emp⟩)
    · have k3 : w.kind = 3 := by omega
      simp only [go_sem, Nat.reduceEqDiff, Nat.reduceAdd, Nat.reduceMul, Nat.reduceLeDiff, Int.reduceEq, Int.reduceLT, Int.reduceLE, Int.reduceAdd, Int.reduceSub, Int.reduceNeg, Int.reduceMul, Int.reduceToNat, Int.cast_ofNat_Int, Int.natCast_zero, Nat.add_zero, reduceCtorEq, k1, k2]
      exact hQ _ _ (Ends.ret rfl ⟨_, _, rfl, Step.refl H, .emp true, by simp [recOfW, k3], by simp only [recOfW, if_neg k1]; exact .emp⟩)
set_option maxHeartbeats 2000000 in
theorem does_s_l11Hear (K : Codes P I) {H : Heap} {cs ds : List C} {h : House} {w : Word} {F G : List Nat} (hh : RHouse H cs h F) (ho : Owned H F) (hw : RWord H ds w G) (hok : houseOk h = true) :
    Does P I.s_l11Hear [.agg cs, .agg ds] H fun v H' => ∃ cs' ws F', v = .tup [.agg cs', .agg ws, .c (.bool (hearOk h w))] ∧ Step F H H' F' ∧ RHouse H' cs' (hearH h w) F' ∧ RWord H' ws (hearW h w) [] := by
  obtain ⟨c, rfl, hc⟩ := hh
  obtain ⟨rfl, rfl⟩ := hw
  have hlok := (houseOk_parts hok).2.1
  refine K.does K.s_l11Hear rfl fun Q hQ => ?_
  simp only [go_sem, Nat.reduceEqDiff, Nat.reduceAdd, Nat.reduceMul, Nat.reduceLeDiff, Int.reduceEq, Int.reduceLT, Int.reduceLE, Int.reduceAdd, Int.reduceSub, Int.reduceNeg, Int.reduceMul, Int.reduceToNat, Int.cast_ofNat_Int, Int.natCast_zero, Nat.add_zero, reduceCtorEq, L_s_l11Hear]
  cases hup : h.up with
  | false =>
    have n1 : hearsB h w = false := by simp [hearsB, hup]
    have n2 : hearH h w = h := hearH_same (by simp [n1])
    have n3 : hearOk h w = false := by simp [hearOk, n1]
    simp only [go_sem, Nat.reduceEqDiff, Nat.reduceAdd, Nat.reduceMul, Nat.reduceLeDiff, Int.reduceEq, Int.reduceLT, Int.reduceLE, Int.reduceAdd, Int.reduceSub, Int.reduceNeg, Int.reduceMul, Int.reduceToNat, Int.cast_ofNat_Int, Int.natCast_zero, Nat.add_zero, reduceCtorEq, hup]
    exact hQ _ _ (Ends.ret rfl ⟨[.int .i64 h.id, .bool false, .int .i64 h.room, c, .int .i64 h.log.forced], _, F, by simp [tupOf, n3]; rfl, ho.step, by rw [n2]; exact ⟨c, by rw [hup], hc⟩, by rw [hearW, if_neg (by simp [n3])]; exact rword0⟩)
  | true =>
    simp only [go_sem, Nat.reduceEqDiff, Nat.reduceAdd, Nat.reduceMul, Nat.reduceLeDiff, Int.reduceEq, Int.reduceLT, Int.reduceLE, Int.reduceAdd, Int.reduceSub, Int.reduceNeg, Int.reduceMul, Int.reduceToNat, Int.cast_ofNat_Int, Int.natCast_zero, Nat.add_zero, reduceCtorEq, hup]
    refine Does.test (does_s_WordOk K (show RWord H _ w [] from ⟨rfl, rfl⟩)) ?_
    cases hwok : wordOk w with
    | false =>
      have n1 : hearsB h w = false := by simp [hearsB, hwok]
      have n2 : hearH h w = h := hearH_same (by simp [n1])
      have n3 : hearOk h w = false := by simp [hearOk, n1]
      simp only [go_sem, Nat.reduceEqDiff, Nat.reduceAdd, Nat.reduceMul, Nat.reduceLeDiff, Int.reduceEq, Int.reduceLT, Int.reduceLE, Int.reduceAdd, Int.reduceSub, Int.reduceNeg, Int.reduceMul, Int.reduceToNat, Int.cast_ofNat_Int, Int.natCast_zero, Nat.add_zero, reduceCtorEq, hup]
      exact hQ _ _ (Ends.ret rfl ⟨[.int .i64 h.id, .bool true, .int .i64 h.room, c, .int .i64 h.log.forced], _, F, by simp [tupOf, n3]; rfl, ho.step, by rw [n2]; exact ⟨c, by rw [hup], hc⟩, by rw [hearW, if_neg (by simp [n3])]; exact rword0⟩)
    | true =>
      by_cases hid : w.house = h.id
      · by_cases hk : 3 < w.kind
        · have n1 : hearsB h w = false := by simp [hearsB, show ¬ w.kind < 4 by omega]
          have n2 : hearH h w = h := hearH_same (by simp [n1])
          have n3 : hearOk h w = false := by simp [hearOk, n1]
          simp only [go_sem, Nat.reduceEqDiff, Nat.reduceAdd, Nat.reduceMul, Nat.reduceLeDiff, Int.reduceEq, Int.reduceLT, Int.reduceLE, Int.reduceAdd, Int.reduceSub, Int.reduceNeg, Int.reduceMul, Int.reduceToNat, Int.cast_ofNat_Int, Int.natCast_zero, Nat.add_zero, reduceCtorEq, hk, hid, hup]
          exact hQ _ _ (Ends.ret rfl ⟨[.int .i64 h.id, .bool true, .int .i64 h.room, c, .int .i64 h.log.forced], _, F, by simp [tupOf, n3]; rfl, ho.step, by rw [n2]; exact ⟨c, by rw [hup], hc⟩, by rw [hearW, if_neg (by simp [n3])]; exact rword0⟩)
        · have hears : hearsB h w = true := by simp [hearsB, hup, hwok, hid, show w.kind < 4 by omega]
          have hrok := recOfW_ok hwok (show w.kind < 4 by omega)
          have hwp := wordOk_parts hwok
          have ht := hwp.2.2.1
          have hok1 := stockV_ok hok false
          have hok2 := stockV_ok hok true
          have hlen1 := (stockOk_parts hok1).2.1
          have hlen2 := (stockOk_parts hok2).2.1
          have hg1 := holdAt_get hlen1 ht.1 ht.2
          have hg2 := holdAt_get hlen2 ht.1 ht.2
          obtain ⟨i, hi⟩ : ∃ i, (w.trip - 1).toNat = i := ⟨_, rfl⟩
          rw [hi] at hg1 hg2
          have hwr : IntKind.wrap .i64 (w.trip - 1) = (i : Int) := by rw [wrap_i64 (by omega) (by omega)]; omega
          have hl1 : (i : Int) < (stockV h false).holds.length := by omega
          have hl2 : (i : Int) < (stockV h true).holds.length := by omega
          have hh : RHouse H [.int .i64 h.id, .bool true, .int .i64 h.room, c, .int .i64 h.log.forced] h F := ⟨c, by rw [hup], hc⟩
          simp only [go_sem, Nat.reduceEqDiff, Nat.reduceAdd, Nat.reduceMul, Nat.reduceLeDiff, Int.reduceEq, Int.reduceLT, Int.reduceLE, Int.reduceAdd, Int.reduceSub, Int.reduceNeg, Int.reduceMul, Int.reduceToNat, Int.cast_ofNat_Int, Int.natCast_zero, Nat.add_zero, reduceCtorEq, hk, hid, hup]
          refine Does.call (does_s_l11Stock K (f := false) hh hlok) ?_
          rintro _ H1 ⟨cs1, F1, rfl, s1, h1⟩
          replace s1 : Step [] H H1 F1 := s1
          obtain ⟨c1, rfl, h1'⟩ := h1
          simp only [go_sem, Nat.reduceEqDiff, Nat.reduceAdd, Nat.reduceMul, Nat.reduceLeDiff, Int.reduceEq, Int.reduceLT, Int.reduceLE, Int.reduceAdd, Int.reduceSub, Int.reduceNeg, Int.reduceMul, Int.reduceToNat, Int.cast_ofNat_Int, Int.natCast_zero, Nat.add_zero, reduceCtorEq]
          refine Does.call (does_s_l11Rec K (show RWord H1 _ w [] from ⟨by simp [hid], rfl⟩) (by omega)) ?_
          rintro _ H2 ⟨cs2, F2, rfl, s2, hr⟩
          replace s2 : Step [] H1 H2 F2 := s2
          obtain ⟨y0, y1, y2, rfl⟩ := len3 hr.cells
          have t2 : Step [] H H2 F2 := (s1.with s2).part (fun a => by simp only [List.count_append, List.count_nil, List.count_cons]; omega)
          have h2' : Holds' H2 c1 (stockV h false).holds F1 := s2.keepSl RHold.good h1' (fun b _ => by simp)
          simp only [go_sem, Nat.reduceEqDiff, Nat.reduceAdd, Nat.reduceMul, Nat.reduceLeDiff, Int.reduceEq, Int.reduceLT, Int.reduceLE, Int.reduceAdd, Int.reduceSub, Int.reduceNeg, Int.reduceMul, Int.reduceToNat, Int.cast_ofNat_Int, Int.natCast_zero, Nat.add_zero, reduceCtorEq]
          refine Does.test (does_s_l2May K (show RStock H2 [.int .i64 (stockV h false).room, c1] (stockV h false) F1 from ⟨c1, rfl, h2'⟩) hr hok1 hrok) ?_
          cases hm : mayB h w with
          | true =>
            have hH : hearH h w = { h with log := addL' h.log (recOfW w) } := by unfold hearH; rw [if_pos hears, if_pos hm]
            have n3 : hearOk h w = false := by simp [hearOk, hm]
            have hm' : stockMayB (stockV h false) (recOfW w) = true := hm
            have u2 : Step F H H2 (F ++ F2) := ho.step.with t2
            simp only [go_sem, Nat.reduceEqDiff, Nat.reduceAdd, Nat.reduceMul, Nat.reduceLeDiff, Int.reduceEq, Int.reduceLT, Int.reduceLE, Int.reduceAdd, Int.reduceSub, Int.reduceNeg, Int.reduceMul, Int.reduceToNat, Int.cast_ofNat_Int, Int.natCast_zero, Nat.add_zero, reduceCtorEq, hm']
            refine Does.call (does_s_l1Add K (show RLog H2 [c, .int .i64 h.log.forced] h.log F from ⟨c, rfl, t2.keepSl RRec.good hc (fun b _ => by simp)⟩) hr u2.owned) ?_
            rintro _ H5 ⟨cs5, F5, rfl, s5, c5, rfl, h5⟩
            replace s5 : Step (F ++ F2) H2 H5 F5 := s5
            simp only [go_sem, Nat.reduceEqDiff, Nat.reduceAdd, Nat.reduceMul, Nat.reduceLeDiff, Int.reduceEq, Int.reduceLT, Int.reduceLE, Int.reduceAdd, Int.reduceSub, Int.reduceNeg, Int.reduceMul, Int.reduceToNat, Int.cast_ofNat_Int, Int.natCast_zero, Nat.add_zero, reduceCtorEq]
            exact hQ _ _ (Ends.ret rfl ⟨[.int .i64 h.id, .bool true, .int .i64 h.room, c5, .int .i64 (addL h.log (recOfW w)).forced], _, F5, by simp [tupOf, n3]; rfl, u2.trans s5, by rw [hH]; exact ⟨c5, by rw [← hup], h5⟩, by rw [hearW, if_neg (by simp [n3])]; exact rword0⟩)
          | false =>
            have hH : hearH h w = h := hearH_same (by simp [hm])
            have hm' : stockMayB (stockV h false) (recOfW w) = false := hm
            obtain ⟨b1, o1, bs1, cs1', f1, rfl, e1, e2, ⟨rfl, _⟩, _, _⟩ := h2'.get hg1
            have ld1 := slab_sub e2 1 1 (by simp)
            simp only [slabAt1, slabSkip1] at ld1
            simp only [go_sem, Nat.reduceEqDiff, Nat.reduceAdd, Nat.reduceMul, Nat.reduceLeDiff, Int.reduceEq, Int.reduceLT, Int.reduceLE, Int.reduceAdd, Int.reduceSub, Int.reduceNeg, Int.reduceMul, Int.reduceToNat, Int.cast_ofNat_Int, Int.natCast_zero, Nat.add_zero, reduceCtorEq, hm', hwr, hl1, e1, ld1]
            by_cases full : w.kind = 1 ∧ (holdAt (stockV h false) w.trip).state = 0
            · have ha : houseAnswer h w = 5 := by simp [houseAnswer, answerK, full]
              have n3 : hearOk h w = true := by simp [hearOk, hears, hm, ha]
              simp only [go_sem, Nat.reduceEqDiff, Nat.reduceAdd, Nat.reduceMul, Nat.reduceLeDiff, Int.reduceEq, Int.reduceLT, Int.reduceLE, Int.reduceAdd, Int.reduceSub, Int.reduceNeg, Int.reduceMul, Int.reduceToNat, Int.cast_ofNat_Int, Int.natCast_zero, Nat.add_zero, reduceCtorEq, full.1, full.2, ld1, e1, hl1, hwr]
              exact hQ _ _ (Ends.ret rfl ⟨[.int .i64 h.id, .bool true, .int .i64 h.room, c, .int .i64 h.log.forced], [.int .i64 5, .int .i64 h.id, .int .i64 w.trip, .int .i64 0], F, by simp [tupOf, n3], (ho.step.with t2).part (fun a => by simp only [List.count_append, List.count_nil, List.count_cons]; omega), by rw [hH]; exact t2.stay RHouse.good hh, by rw [hearW, if_pos n3, ha]; exact ⟨rfl, rfl⟩⟩)
            · have ha : houseAnswer h w = answerF w.kind (holdAt (stockV h true) w.trip).state := answerK_F full
              by_cases k1 : w.kind = 1
              · have a0 : ¬ (holdAt (stockV h false) w.trip).state = 0 := fun e => full ⟨k1, e⟩
                simp only [go_sem, Nat.reduceEqDiff, Nat.reduceAdd, Nat.reduceMul, Nat.reduceLeDiff, Int.reduceEq, Int.reduceLT, Int.reduceLE, Int.reduceAdd, Int.reduceSub, Int.reduceNeg, Int.reduceMul, Int.reduceToNat, Int.cast_ofNat_Int, Int.natCast_zero, Nat.add_zero, reduceCtorEq, k1, hwr, hl1, e1, ld1, a0]
                refine Does.call (does_s_l11Stock K (f := true) (t2.stay RHouse.good hh) hlok) ?_
                rintro _ H4 ⟨cs4, F4, rfl, s4, c4, rfl, h4⟩
                replace s4 : Step [] H2 H4 F4 := s4
                obtain ⟨b4, o4, bs4, cs4', f4, rfl, e3, e4, ⟨rfl, _⟩, _, _⟩ := h4.get hg2
                have ld4 := slab_sub e4 1 1 (by simp)
                simp only [slabAt1, slabSkip1] at ld4
                have t4 := t2.with s4
                have hh4 := t4.stay RHouse.good hh
                simp only [go_sem, Nat.reduceEqDiff, Nat.reduceAdd, Nat.reduceMul, Nat.reduceLeDiff, Int.reduceEq, Int.reduceLT, Int.reduceLE, Int.reduceAdd, Int.reduceSub, Int.reduceNeg, Int.reduceMul, Int.reduceToNat, Int.cast_ofNat_Int, Int.natCast_zero, Nat.add_zero, reduceCtorEq, hwr, hl2, e3, ld4]
                refine Does.call (does_s_l11Answer K hh4 (show RWord H4 _ w [] from ⟨by simp [hid, k1], rfl⟩)) ?_
                rintro _ _ ⟨ws, rfl, hws, rfl⟩
                have n3 : hearOk h w = decide (answerF w.kind (holdAt (stockV h true) w.trip).state ≠ 0) := by simp [hearOk, hears, hm, ha]
                obtain ⟨z0, z1, z2, z3, rfl⟩ := len4 hws.cells
                simp only [go_sem, Nat.reduceEqDiff, Nat.reduceAdd, Nat.reduceMul, Nat.reduceLeDiff, Int.reduceEq, Int.reduceLT, Int.reduceLE, Int.reduceAdd, Int.reduceSub, Int.reduceNeg, Int.reduceMul, Int.reduceToNat, Int.cast_ofNat_Int, Int.natCast_zero, Nat.add_zero, reduceCtorEq]
                exact hQ _ _ (Ends.ret rfl ⟨[.int .i64 h.id, .bool true, .int .i64 h.room, c, .int .i64 h.log.forced], [z0, z1, z2, z3], F, by simp [tupOf, n3], (ho.step.with t4).part (fun a => by simp only [List.count_append, List.count_nil, List.count_cons]; omega), by rw [hH]; exact hh4, by
                  have : hearW h w = answerW h w (holdAt (stockV h true) w.trip).state := by
                    unfold hearW answerW
                    rw [n3, ha]
                    by_cases q : answerF w.kind (holdAt (stockV h true) w.trip).state = 0 <;> simp [q]
                  rw [this]; exact hws⟩)
              · simp only [go_sem, Nat.reduceEqDiff, Nat.reduceAdd, Nat.reduceMul, Nat.reduceLeDiff, Int.reduceEq, Int.reduceLT, Int.reduceLE, Int.reduceAdd, Int.reduceSub, Int.reduceNeg, Int.reduceMul, Int.reduceToNat, Int.cast_ofNat_Int, Int.natCast_zero, Nat.add_zero, reduceCtorEq, k1, hwr, hl1, e1, ld1]
                refine Does.call (does_s_l11Stock K (f := true) (t2.stay RHouse.good hh) hlok) ?_
                rintro _ H4 ⟨cs4, F4, rfl, s4, c4, rfl, h4⟩
                replace s4 : Step [] H2 H4 F4 := s4
                obtain ⟨b4, o4, bs4, cs4', f4, rfl, e3, e4, ⟨rfl, _⟩, _, _⟩ := h4.get hg2
                have ld4 := slab_sub e4 1 1 (by simp)
                simp only [slabAt1, slabSkip1] at ld4
                have t4 := t2.with s4
                have hh4 := t4.stay RHouse.good hh
                simp only [go_sem, Nat.reduceEqDiff, Nat.reduceAdd, Nat.reduceMul, Nat.reduceLeDiff, Int.reduceEq, Int.reduceLT, Int.reduceLE, Int.reduceAdd, Int.reduceSub, Int.reduceNeg, Int.reduceMul, Int.reduceToNat, Int.cast_ofNat_Int, Int.natCast_zero, Nat.add_zero, reduceCtorEq, hwr, hl2, e3, ld4]
                refine Does.call (does_s_l11Answer K hh4 (show RWord H4 _ w [] from ⟨by simp [hid, k1], rfl⟩)) ?_
                rintro _ _ ⟨ws, rfl, hws, rfl⟩
                have n3 : hearOk h w = decide (answerF w.kind (holdAt (stockV h true) w.trip).state ≠ 0) := by simp [hearOk, hears, hm, ha]
                obtain ⟨z0, z1, z2, z3, rfl⟩ := len4 hws.cells
                simp only [go_sem, Nat.reduceEqDiff, Nat.reduceAdd, Nat.reduceMul, Nat.reduceLeDiff, Int.reduceEq, Int.reduceLT, Int.reduceLE, Int.reduceAdd, Int.reduceSub, Int.reduceNeg, Int.reduceMul, Int.reduceToNat, Int.cast_ofNat_Int, Int.natCast_zero, Nat.add_zero, reduceCtorEq]
                exact hQ _ _ (Ends.ret rfl ⟨[.int .i64 h.id, .bool true, .int .i64 h.room, c, .int .i64 h.log.forced], [z0, z1, z2, z3], F, by simp [tupOf, n3], (ho.step.with t4).part (fun a => by simp only [List.count_append, List.count_nil, List.count_cons]; omega), by rw [hH]; exact hh4, by
                  have : hearW h w = answerW h w (holdAt (stockV h true) w.trip).state := by
                    unfold hearW answerW
                    rw [n3, ha]
                    by_cases q : answerF w.kind (holdAt (stockV h true) w.trip).state = 0 <;> simp [q]
                  rw [this]; exact hws⟩)
      · have n1 : hearsB h w = false := by simp [hearsB, hid]
        have n2 : hearH h w = h := hearH_same (by simp [n1])
        have n3 : hearOk h w = false := by simp [hearOk, n1]
        simp only [go_sem, Nat.reduceEqDiff, Nat.reduceAdd, Nat.reduceMul, Nat.reduceLeDiff, Int.reduceEq, Int.reduceLT, Int.reduceLE, Int.reduceAdd, Int.reduceSub, Int.reduceNeg, Int.reduceMul, Int.reduceToNat, Int.cast_ofNat_Int, Int.natCast_zero, Nat.add_zero, reduceCtorEq, hid, hup]
        exact hQ _ _ (Ends.ret rfl ⟨[.int .i64 h.id, .bool true, .int .i64 h.room, c, .int .i64 h.log.forced], _, F, by simp [tupOf, n3]; rfl, ho.step, by rw [n2]; exact ⟨c, by rw [hup], hc⟩, by rw [hearW, if_neg (by simp [n3])]; exact rword0⟩)
end Go.AX

/- The exact laws of trips hold. Condition: the arguments lie in memory. -/
namespace Go.AX
variable {P : Program} {I : Ids}
theorem cnt_trips {l : List Trip} (h : tripsOk l = true) : sumL cntTrip l ≤ 4194304 := by
  obtain ⟨h1, h2⟩ := tripsOk_parts h
  have := sumL_bound (f := cntTrip) (xs := l) (N := 4) fun t ht => by
    have := manyOk_len (h2 t ht).1
    simp only [cntTrip, sumL_one]; omega
  have : l.length * 4 ≤ 6 * 4 := Nat.mul_le_mul_right _ h1
  omega
theorem tripsDoV_ok (l : List Trip) (r : Rec) : tripsOk (tripsDoV l r) = true := by
  unfold tripsDoV; split
  · rename_i h
    simp only [tripsMay, Bool.and_eq_true] at h
    exact tripsOk_do h.1 h.2.1 h.2.2
  · rfl
theorem tripsD_ok (recs : List Rec) : tripsOk (tripsD recs) = true := by
  unfold tripsD
  cases h : tripsOf recs with
  | none => rfl
  | some l => exact tripsOf_ok h
end Go.AX

/- Draws: trips and records of a desk. Condition: the reader lies in memory, and drew less often than 2^39. -/
namespace Go.AX
variable {P : Program} {I : Ids}
end Go.AX

/- Draws: houses. Condition: the reader lies in memory, and drew less often than 2^39. -/
namespace Go.AX
variable {P : Program} {I : Ids}
end Go.AX

/- Draws: houses and words. Condition: the reader lies in memory, and drew less often than 2^39. -/
namespace Go.AX
variable {P : Program} {I : Ids}
theorem draws_l71Word (K : Codes P I) {H : Heap} {b q : Nat} (h : RdM H b q) (hq : q < 549755813000) :
    Does P I.s_l71Word [.c (.ptr b 0)] H fun v H' => ∃ w : Word, v = .val (.agg [.int .i64 w.kind, .int .i64 w.house, .int .i64 w.trip, .int .i64 w.many]) ∧ Dr b (q + 10) H H' [] := by
  refine K.does K.s_l71Word rfl fun Q hQ => ?_
  simp only [go_sem, Nat.reduceEqDiff, Nat.reduceAdd, Nat.reduceMul, Nat.reduceLeDiff, Int.reduceEq, Int.reduceLT, Int.reduceLE, Int.reduceAdd, Int.reduceSub, Int.reduceNeg, Int.reduceMul, Int.reduceToNat, Int.cast_ofNat_Int, Int.natCast_zero, Nat.add_zero, reduceCtorEq, L_s_l71Word]
  refine Does.call (draws_pick K h (by omega)) ?_
  rintro _ H1 ⟨k1, rfl, e1, s1, r1⟩
  replace s1 : Step [b] H H1 [b] := s1
  simp only [go_sem, Nat.reduceEqDiff, Nat.reduceAdd, Nat.reduceMul, Nat.reduceLeDiff, Int.reduceEq, Int.reduceLT, Int.reduceLE, Int.reduceAdd, Int.reduceSub, Int.reduceNeg, Int.reduceMul, Int.reduceToNat, Int.cast_ofNat_Int, Int.natCast_zero, Nat.add_zero, reduceCtorEq]
  refine Does.call (draws_pick K r1 (by omega)) ?_
  rintro _ H2 ⟨k2, rfl, e2, s2, r2⟩
  replace s2 : Step [b] H1 H2 [b] := s2
  simp only [go_sem, Nat.reduceEqDiff, Nat.reduceAdd, Nat.reduceMul, Nat.reduceLeDiff, Int.reduceEq, Int.reduceLT, Int.reduceLE, Int.reduceAdd, Int.reduceSub, Int.reduceNeg, Int.reduceMul, Int.reduceToNat, Int.cast_ofNat_Int, Int.natCast_zero, Nat.add_zero, reduceCtorEq]
  refine Does.call (draws_pick K r2 (by omega)) ?_
  rintro _ H3 ⟨k3, rfl, e3, s3, r3⟩
  replace s3 : Step [b] H2 H3 [b] := s3
  have d3 : Dr b (q + 3) H H3 [] := (((Dr.zero h).pick s1 r1).pick s2 r2).pick s3 r3
  simp only [go_sem, Nat.reduceEqDiff, Nat.reduceAdd, Nat.reduceMul, Nat.reduceLeDiff, Int.reduceEq, Int.reduceLT, Int.reduceLE, Int.reduceAdd, Int.reduceSub, Int.reduceNeg, Int.reduceMul, Int.reduceToNat, Int.cast_ofNat_Int, Int.natCast_zero, Nat.add_zero, reduceCtorEq]
  refine RUo_join (fun s => s.env 0 = .val (.c (.ptr b 0)) ∧ s.env 2 = .box [.int .i64 0, .int .i64 0, .int .i64 0, .int .i64 0] ∧ ∃ a1 a2 a3 a4, s.env 3 = .box [.int .i64 a1, .int .i64 a2, .int .i64 a3, .int .i64 a4] ∧ Dr b (q + 5) H s.H []) (fun Q' hN hE hR => ?_) ?_
  · by_cases c : IntKind.wrap .i64 (1 + k1) = 1
    · simp only [go_sem, Nat.reduceEqDiff, Nat.reduceAdd, Nat.reduceMul, Nat.reduceLeDiff, Int.reduceEq, Int.reduceLT, Int.reduceLE, Int.reduceAdd, Int.reduceSub, Int.reduceNeg, Int.reduceMul, Int.reduceToNat, Int.cast_ofNat_Int, Int.natCast_zero, Nat.add_zero, reduceCtorEq, c]
      refine Does.call (draws_pick K d3.rd (by omega)) ?_
      rintro _ H4 ⟨k4, rfl, e4, s4, r4⟩
      simp only [go_sem, Nat.reduceEqDiff, Nat.reduceAdd, Nat.reduceMul, Nat.reduceLeDiff, Int.reduceEq, Int.reduceLT, Int.reduceLE, Int.reduceAdd, Int.reduceSub, Int.reduceNeg, Int.reduceMul, Int.reduceToNat, Int.cast_ofNat_Int, Int.natCast_zero, Nat.add_zero, reduceCtorEq, c]
      exact hN _ ⟨rfl, rfl, _, _, _, _, rfl, (d3.pick s4 r4).mono (by omega)⟩
    · simp only [go_sem, Nat.reduceEqDiff, Nat.reduceAdd, Nat.reduceMul, Nat.reduceLeDiff, Int.reduceEq, Int.reduceLT, Int.reduceLE, Int.reduceAdd, Int.reduceSub, Int.reduceNeg, Int.reduceMul, Int.reduceToNat, Int.cast_ofNat_Int, Int.natCast_zero, Nat.add_zero, reduceCtorEq, c]
      exact hN _ ⟨rfl, rfl, _, _, _, _, rfl, d3.mono (by omega)⟩
  · rintro s ⟨g0, g2, a1, a2, a3, a4, g3, d⟩
    simp only [go_sem, Nat.reduceEqDiff, Nat.reduceAdd, Nat.reduceMul, Nat.reduceLeDiff, Int.reduceEq, Int.reduceLT, Int.reduceLE, Int.reduceAdd, Int.reduceSub, Int.reduceNeg, Int.reduceMul, Int.reduceToNat, Int.cast_ofNat_Int, Int.natCast_zero, Nat.add_zero, reduceCtorEq, g0, g3]
    refine Does.call (draws_pick K d.rd (by omega)) ?_
    rintro _ H5 ⟨k5, rfl, e5, s5, r5⟩
    have d5 := d.pick s5 r5
    by_cases c0 : k5 = 0
    · simp only [go_sem, Nat.reduceEqDiff, Nat.reduceAdd, Nat.reduceMul, Nat.reduceLeDiff, Int.reduceEq, Int.reduceLT, Int.reduceLE, Int.reduceAdd, Int.reduceSub, Int.reduceNeg, Int.reduceMul, Int.reduceToNat, Int.cast_ofNat_Int, Int.natCast_zero, Nat.add_zero, reduceCtorEq, g0, g2, g3, c0]
      refine Does.call (draws_pick K d5.rd (by omega)) ?_
      rintro _ H6 ⟨k6, rfl, e6, s6, r6⟩
      simp only [go_sem, Nat.reduceEqDiff, Nat.reduceAdd, Nat.reduceMul, Nat.reduceLeDiff, Int.reduceEq, Int.reduceLT, Int.reduceLE, Int.reduceAdd, Int.reduceSub, Int.reduceNeg, Int.reduceMul, Int.reduceToNat, Int.cast_ofNat_Int, Int.natCast_zero, Nat.add_zero, reduceCtorEq, g0, g2, g3]
      exact hQ _ _ (Ends.ret rfl ⟨⟨k6, a2, a3, a4⟩, rfl, (d5.pick s6 r6).mono (by omega)⟩)
    · by_cases c1 : k5 = 1
      · simp only [go_sem, Nat.reduceEqDiff, Nat.reduceAdd, Nat.reduceMul, Nat.reduceLeDiff, Int.reduceEq, Int.reduceLT, Int.reduceLE, Int.reduceAdd, Int.reduceSub, Int.reduceNeg, Int.reduceMul, Int.reduceToNat, Int.cast_ofNat_Int, Int.natCast_zero, Nat.add_zero, reduceCtorEq, g0, g2, g3, c0, c1]
        refine Does.call (draws_pick K d5.rd (by omega)) ?_
        rintro _ H6 ⟨k6, rfl, e6, s6, r6⟩
        simp only [go_sem, Nat.reduceEqDiff, Nat.reduceAdd, Nat.reduceMul, Nat.reduceLeDiff, Int.reduceEq, Int.reduceLT, Int.reduceLE, Int.reduceAdd, Int.reduceSub, Int.reduceNeg, Int.reduceMul, Int.reduceToNat, Int.cast_ofNat_Int, Int.natCast_zero, Nat.add_zero, reduceCtorEq, g0, g2, g3]
        exact hQ _ _ (Ends.ret rfl ⟨⟨a1, k6, a3, a4⟩, rfl, (d5.pick s6 r6).mono (by omega)⟩)
      · by_cases c2 : k5 = 2
        · simp only [go_sem, Nat.reduceEqDiff, Nat.reduceAdd, Nat.reduceMul, Nat.reduceLeDiff, Int.reduceEq, Int.reduceLT, Int.reduceLE, Int.reduceAdd, Int.reduceSub, Int.reduceNeg, Int.reduceMul, Int.reduceToNat, Int.cast_ofNat_Int, Int.natCast_zero, Nat.add_zero, reduceCtorEq, g0, g2, g3, c0, c1, c2]
          refine Does.call (draws_pick K d5.rd (by omega)) ?_
          rintro _ H6 ⟨k6, rfl, e6, s6, r6⟩
          simp only [go_sem, Nat.reduceEqDiff, Nat.reduceAdd, Nat.reduceMul, Nat.reduceLeDiff, Int.reduceEq, Int.reduceLT, Int.reduceLE, Int.reduceAdd, Int.reduceSub, Int.reduceNeg, Int.reduceMul, Int.reduceToNat, Int.cast_ofNat_Int, Int.natCast_zero, Nat.add_zero, reduceCtorEq, g0, g2, g3]
          exact hQ _ _ (Ends.ret rfl ⟨⟨a1, a2, k6, a4⟩, rfl, (d5.pick s6 r6).mono (by omega)⟩)
        · by_cases c3 : k5 = 3
          · simp only [go_sem, Nat.reduceEqDiff, Nat.reduceAdd, Nat.reduceMul, Nat.reduceLeDiff, Int.reduceEq, Int.reduceLT, Int.reduceLE, Int.reduceAdd, Int.reduceSub, Int.reduceNeg, Int.reduceMul, Int.reduceToNat, Int.cast_ofNat_Int, Int.natCast_zero, Nat.add_zero, reduceCtorEq, g0, g2, g3, c0, c1, c2, c3]
            refine Does.call (draws_pick K d5.rd (by omega)) ?_
            rintro _ H6 ⟨k6, rfl, e6, s6, r6⟩
            simp only [go_sem, Nat.reduceEqDiff, Nat.reduceAdd, Nat.reduceMul, Nat.reduceLeDiff, Int.reduceEq, Int.reduceLT, Int.reduceLE, Int.reduceAdd, Int.reduceSub, Int.reduceNeg, Int.reduceMul, Int.reduceToNat, Int.cast_ofNat_Int, Int.natCast_zero, Nat.add_zero, reduceCtorEq, g0, g2, g3]
            exact hQ _ _ (Ends.ret rfl ⟨⟨a1, a2, a3, k6⟩, rfl, (d5.pick s6 r6).mono (by omega)⟩)
          · simp only [go_sem, Nat.reduceEqDiff, Nat.reduceAdd, Nat.reduceMul, Nat.reduceLeDiff, Int.reduceEq, Int.reduceLT, Int.reduceLE, Int.reduceAdd, Int.reduceSub, Int.reduceNeg, Int.reduceMul, Int.reduceToNat, Int.cast_ofNat_Int, Int.natCast_zero, Nat.add_zero, reduceCtorEq, g0, g2, g3, c0, c1, c2, c3]
            exact hQ _ _ (Ends.ret rfl ⟨⟨a1, a2, a3, a4⟩, rfl, d5.mono (by omega)⟩)
theorem keepB5 {k1 k2 : Int} (h1 : Drawn 5 k1) (h2 : Drawn 6 k2) : ∃ v, IntKind.wrap .i64 (k1 - IntKind.wrap .i64 (IntKind.wrap .i64 (k2.tdiv 5) * 2)) = v ∧ -3 ≤ v ∧ v ≤ 6 :=
  keepB ⟨h1.1, fun _ => by have := h1.2.1 (by decide); omega, fun h => absurd h (by decide)⟩ h2
end Go.AX

/- The laws of houses hold that do not hear. Condition: the bytes that draw lie in memory. -/
namespace Go.AX
variable {P : Program} {I : Ids}
theorem sameC2 {a b c d : Int} : sameC [.int .i64 a, .int .i64 b] [.int .i64 c, .int .i64 d] = some ((a == c) && ((b == d) && true)) := by simp [sameC]
/-! What holds of houses. -/
theorem rise_eq {h : House} (k : houseOk h = true) : houseRiseV h = { h with up := true } := by simp [houseRiseV, k]
theorem ok_up {h : House} (u : Bool) : houseOk { h with up := u } = houseOk h := rfl
theorem force_eq {h : House} (k : houseOk h = true) (u : h.up = true) : houseForceV h = { h with log := forceL h.log } := by simp [houseForceV, k, u]
theorem force_houseOk {h : House} (k : houseOk h = true) : houseOk { h with log := forceL h.log } = true := by
  obtain ⟨h1, h2, s, hs⟩ := houseOk_parts k
  exact houseOk_of h1 (force_ok h2) (s := s) hs
theorem fall_eq {h : House} (k : houseOk h = true) (n : Int) : houseFallV h n = { h with up := false, log := fallL h.log n } := by simp [houseFallV, k]
theorem fall_houseOk {h : House} (k : houseOk h = true) (n : Int) (u : Bool) : houseOk { h with up := u, log := fallL h.log n } = true := by
  obtain ⟨h1, h2, s, hs⟩ := houseOk_parts k
  obtain ⟨t, ht⟩ := stockOf_take hs (fallN h.log n)
  exact houseOk_of h1 (fall_ok h2 n) (s := t) ht
theorem stock_fall0 {h : House} (k : houseOk h = true) (u : Bool) : stockV { h with up := u, log := fallL h.log 0 } false = stockV h true := by
  have hN : fallN h.log 0 = h.log.forced.toNat := by unfold fallN; simp
  simp only [stockV, known, fallL, hN, if_true]
  simp
theorem stock_force {h : House} (k : houseOk h = true) (u : Bool) : stockV { h with up := u, log := forceL h.log } true = stockV h false := by
  simp [stockV, known, forceL]
theorem houseStock_eq {h : House} (k : houseOk h = true) (f : Bool) : houseStockV h f = stockV h f := by simp [houseStockV, k]
theorem stockOf_known {h : House} (k : houseOk h = true) (f : Bool) : stockOf h.room (known h.log f) = some (stockV h f) := by
  obtain ⟨h1, h2, s, hs⟩ := houseOk_parts k
  cases f with
  | false => rw [stockV_all hs]; exact hs
  | true =>
    obtain ⟨t, ht⟩ := stockOf_take hs h.log.forced.toNat
    simp [stockV, known, ht]

end Go.AX

/- The laws of what a house hears. Condition: the bytes that draw lie in memory. -/
namespace Go.AX
variable {P : Program} {I : Ids}
theorem sameC4 {a b c d a' b' c' d' : Int} : sameC [.int .i64 a, .int .i64 b, .int .i64 c, .int .i64 d] [.int .i64 a', .int .i64 b', .int .i64 c', .int .i64 d'] = some ((a == a') && ((b == b') && ((c == c') && ((d == d') && true)))) := by simp [sameC]
theorem Word.ext' {a b : Word} (h1 : a.kind = b.kind) (h2 : a.house = b.house) (h3 : a.trip = b.trip) (h4 : a.many = b.many) : a = b := by cases a; cases b; simp_all
/-! What holds of hearing. -/
theorem hear_deaf {h : House} {w : Word} (hk : houseOk h = true) (hn : hearsB h w = false) : houseHearV h w = h ∧ houseHearB h w = false := by
  refine ⟨by rw [houseHearV, if_pos hk, hearH_same (by simp [hn])], by simp [houseHearB, hearOk, hn]⟩
theorem holdDo_again {s : Stock} {r : Rec} (hl : s.holds.length = 6) (ht : 1 ≤ r.trip ∧ r.trip ≤ 6) (hm : stockMayB s r = true) : stockMayB (stockDoL s r) r = false := by
  have hg := holdAt_get hl ht.1 ht.2
  have e : holdAt (stockDoL s r) r.trip = holdDo (holdAt s r.trip) r := by
    have : (stockDoL s r).holds[(r.trip - 1).toNat]? = some (holdDo (holdAt s r.trip) r) := by
      simp only [stockDoL]; rw [List.getElem?_set_self (by rw [hl]; omega)]
    unfold holdAt
    unfold holdAt at this
    rw [this]; rfl
  unfold stockMayB at hm ⊢
  rw [e]
  unfold holdDo
  split at hm
  · rename_i k; simp only [Bool.and_eq_true, decide_eq_true_eq] at hm; simp [k, hm.1]
  · split at hm
    · rename_i k1 k2; simp [k1, k2]
    · split at hm
      · rename_i k1 k2 k3; simp [k1, k2, k3]
      · cases hm
theorem hear_twice {h : House} {w : Word} (hk : houseOk h = true) : houseHearV (houseHearV h w) w = houseHearV h w := by
  have e : houseHearV h w = hearH h w := by rw [houseHearV, if_pos hk]
  rw [e, houseHearV, if_pos (hearH_ok hk)]
  by_cases hc : hearsB h w = true ∧ mayB h w = true
  · have W := wrote hk hc.1 hc.2
    have hp := hearsB_parts hc.1
    have ht := (wordOk_parts hp.2.1).2.2.1
    refine hearH_same fun hm => ?_
    have := hm.2
    unfold mayB at this
    rw [W.all, holdDo_again (stockOk_parts (stockV_ok hk false)).2.1 ht W.may] at this
    cases this
  · rw [hearH_same hc, hearH_same hc]
end Go.AX

/- Words among words; desks that are ok: the program and the reference do the same. Condition: the data lie in memory. -/
namespace Go.AX
variable {P : Program} {I : Ids}
theorem sameW {w v : Word} : sameC [.int .i64 w.kind, .int .i64 w.house, .int .i64 w.trip, .int .i64 w.many] [.int .i64 v.kind, .int .i64 v.house, .int .i64 v.trip, .int .i64 v.many] = some (decide (w = v)) := by
  rw [sameC4]
  congr 1
  rw [Bool.eq_iff_iff]
  simp [Word.ext_iff]
theorem mem_take_snoc {w v : Word} {xs : List Word} {i : Nat} (h : xs[i]? = some v) : w ∈ xs.take (i + 1) ↔ w ∈ xs.take i ∨ w = v := by
  rw [take_snoc h]; simp
theorem does_g_Index_Word (K : Codes P I) {H : Heap} {c : C} {ds : List C} {xs : List Word} {w : Word} {F G : List Nat} (h : Words H c xs F) (hw : RWord H ds w G) :
    Does P I.g_Index_Word [.c c, .agg ds] H fun v H' => ∃ n : Int, v = .val (int n) ∧ (0 ≤ n ↔ w ∈ xs) ∧ H' = H := by
  obtain ⟨rfl, rfl⟩ := hw
  have htop := h.top
  refine K.does K.g_Index_Word rfl fun Q hQ => ?_
  simp only [go_sem, Nat.reduceEqDiff, Nat.reduceAdd, Nat.reduceMul, Nat.reduceLeDiff, Int.reduceEq, Int.reduceLT, Int.reduceLE, Int.reduceAdd, Int.reduceSub, Int.reduceNeg, Int.reduceMul, Int.reduceToNat, Int.cast_ofNat_Int, Int.natCast_zero, Nat.add_zero, reduceCtorEq, L_g_Index_Word, h.len]
  refine RU_loop (fun m s => ∃ i : Nat, m = xs.length - i ∧ i ≤ xs.length ∧ s.H = H ∧ s.env 0 = .val (.c c) ∧ s.env 3 = .box [.int .i64 w.kind, .int .i64 w.house, .int .i64 w.trip, .int .i64 w.many] ∧ s.env 7 = .val (int xs.length) ∧ s.env 8 = .val (int i) ∧ w ∉ xs.take i) xs.length ⟨0, by simp, by simp, rfl, rfl, rfl, rfl, rfl, by simp⟩ ?_
  rintro m s ⟨i, rfl, hi, hH, g0, g3, g7, g8, hm⟩ Q' hN hE hR
  by_cases hlt : (i : Int) < xs.length
  · obtain ⟨v, hv⟩ := get_lt hlt
    obtain ⟨b1, o1, bs1, cs1, f1, rfl, e1, e2, ⟨rfl, _⟩, _⟩ := h.get hv
    by_cases e : w = v
    · subst e
      simp only [go_sem, Nat.reduceEqDiff, Nat.reduceAdd, Nat.reduceMul, Nat.reduceLeDiff, Int.reduceEq, Int.reduceLT, Int.reduceLE, Int.reduceAdd, Int.reduceSub, Int.reduceNeg, Int.reduceMul, Int.reduceToNat, Int.cast_ofNat_Int, Int.natCast_zero, Nat.add_zero, reduceCtorEq, g0, g3, g7, g8, hlt, hH, e1, e2, sameW]
      refine hR _ ?_
      exact hQ _ _ (Ends.ret rfl ⟨(i : Int), rfl, ⟨fun _ => List.mem_of_getElem? hv, fun _ => by omega⟩, by simp [hH]⟩)
    · simp only [go_sem, Nat.reduceEqDiff, Nat.reduceAdd, Nat.reduceMul, Nat.reduceLeDiff, Int.reduceEq, Int.reduceLT, Int.reduceLE, Int.reduceAdd, Int.reduceSub, Int.reduceNeg, Int.reduceMul, Int.reduceToNat, Int.cast_ofNat_Int, Int.natCast_zero, Nat.add_zero, reduceCtorEq, g0, g3, g7, g8, hlt, hH, e1, e2, sameW, e, wrap_succ (show i ≤ lenTop by omega)]
      refine hN _ _ (by omega) ⟨i + 1, rfl, by omega, by simp [hH], by simp [upd, g0], by simp [upd, g3], by simp [upd, g7], by simp [upd], ?_⟩
      rw [mem_take_snoc hv]; simp [hm, e]
  · simp only [go_sem, Nat.reduceEqDiff, Nat.reduceAdd, Nat.reduceMul, Nat.reduceLeDiff, Int.reduceEq, Int.reduceLT, Int.reduceLE, Int.reduceAdd, Int.reduceSub, Int.reduceNeg, Int.reduceMul, Int.reduceToNat, Int.cast_ofNat_Int, Int.natCast_zero, Nat.add_zero, reduceCtorEq, g7, g8, hlt]
    refine hE _ _ ?_
    simp only [go_sem, Nat.reduceEqDiff, Nat.reduceAdd, Nat.reduceMul, Nat.reduceLeDiff, Int.reduceEq, Int.reduceLT, Int.reduceLE, Int.reduceAdd, Int.reduceSub, Int.reduceNeg, Int.reduceMul, Int.reduceToNat, Int.cast_ofNat_Int, Int.natCast_zero, Nat.add_zero, reduceCtorEq, hH]
    rw [List.take_of_length_le (by omega)] at hm
    exact hQ _ _ (Ends.ret rfl ⟨-1, rfl, ⟨fun q => absurd q (by decide), fun q => absurd q hm⟩, rfl⟩)
theorem does_g_Contains_Word (K : Codes P I) {H : Heap} {c : C} {ds : List C} {xs : List Word} {w : Word} {F G : List Nat} (h : Words H c xs F) (hw : RWord H ds w G) :
    Does P I.g_Contains_Word [.c c, .agg ds] H fun v H' => v = bool (decide (w ∈ xs)) ∧ H' = H := by
  obtain ⟨rfl, rfl⟩ := hw
  refine K.does K.g_Contains_Word rfl fun Q hQ => ?_
  simp only [go_sem, Nat.reduceEqDiff, Nat.reduceAdd, Nat.reduceMul, Nat.reduceLeDiff, Int.reduceEq, Int.reduceLT, Int.reduceLE, Int.reduceAdd, Int.reduceSub, Int.reduceNeg, Int.reduceMul, Int.reduceToNat, Int.cast_ofNat_Int, Int.natCast_zero, Nat.add_zero, reduceCtorEq, L_g_Contains_Word]
  refine Does.call (does_g_Index_Word K h (show RWord H _ w [] from ⟨rfl, rfl⟩)) ?_
  rintro _ _ ⟨n, rfl, hn, rfl⟩
  simp only [go_sem, Nat.reduceEqDiff, Nat.reduceAdd, Nat.reduceMul, Nat.reduceLeDiff, Int.reduceEq, Int.reduceLT, Int.reduceLE, Int.reduceAdd, Int.reduceSub, Int.reduceNeg, Int.reduceMul, Int.reduceToNat, Int.cast_ofNat_Int, Int.natCast_zero, Nat.add_zero, reduceCtorEq]
  exact hQ _ _ (Ends.ret rfl ⟨by simp [tupOf, hn], rfl⟩)
theorem does_s_l13Told (K : Codes P I) {H : Heap} {c : C} {ds : List C} {xs : List Word} {w : Word} {F G : List Nat} (h : Words H c xs F) (hw : RWord H ds w G) :
    Does P I.s_l13Told [.c c, .agg ds] H fun v H' => v = bool (decide (w ∈ xs)) ∧ H' = H := by
  obtain ⟨rfl, rfl⟩ := hw
  have htop := h.top
  refine K.does K.s_l13Told rfl fun Q hQ => ?_
  simp only [go_sem, Nat.reduceEqDiff, Nat.reduceAdd, Nat.reduceMul, Nat.reduceLeDiff, Int.reduceEq, Int.reduceLT, Int.reduceLE, Int.reduceAdd, Int.reduceSub, Int.reduceNeg, Int.reduceMul, Int.reduceToNat, Int.cast_ofNat_Int, Int.natCast_zero, Nat.add_zero, reduceCtorEq, L_s_l13Told, h.len]
  refine RU_loop (fun m s => ∃ i : Nat, m = xs.length - i ∧ i ≤ xs.length ∧ s.H = H ∧ s.env 0 = .val (.c c) ∧ s.env 3 = .box [.int .i64 w.kind, .int .i64 w.house, .int .i64 w.trip, .int .i64 w.many] ∧ s.env 5 = .val (int i) ∧ w ∉ xs.take i) xs.length ⟨0, by simp, by simp, rfl, rfl, rfl, rfl, by simp⟩ ?_
  rintro m s ⟨i, rfl, hi, hH, g0, g3, g5, hm⟩ Q' hN hE hR
  by_cases hlt : (i : Int) < xs.length
  · obtain ⟨v, hv⟩ := get_lt hlt
    obtain ⟨b1, o1, bs1, cs1, f1, rfl, e1, e2, ⟨rfl, _⟩, _⟩ := h.get hv
    by_cases e : v = w
    · subst e
      have hin : v ∈ xs := List.mem_of_getElem? hv
      simp only [go_sem, Nat.reduceEqDiff, Nat.reduceAdd, Nat.reduceMul, Nat.reduceLeDiff, Int.reduceEq, Int.reduceLT, Int.reduceLE, Int.reduceAdd, Int.reduceSub, Int.reduceNeg, Int.reduceMul, Int.reduceToNat, Int.cast_ofNat_Int, Int.natCast_zero, Nat.add_zero, reduceCtorEq, g0, g3, g5, hlt, hH, h.len, e1, e2, sameW]
      refine hR _ ?_
      exact hQ _ _ (Ends.ret rfl ⟨by simp [tupOf, hin], by simp [hH]⟩)
    · simp only [go_sem, Nat.reduceEqDiff, Nat.reduceAdd, Nat.reduceMul, Nat.reduceLeDiff, Int.reduceEq, Int.reduceLT, Int.reduceLE, Int.reduceAdd, Int.reduceSub, Int.reduceNeg, Int.reduceMul, Int.reduceToNat, Int.cast_ofNat_Int, Int.natCast_zero, Nat.add_zero, reduceCtorEq, g0, g3, g5, hlt, hH, h.len, e1, e2, sameW, e, wrap_succ (show i ≤ lenTop by omega)]
      refine hN _ _ (by omega) ⟨i + 1, rfl, by omega, by simp [hH], by simp [upd, g0], by simp [upd, g3], by simp [upd], ?_⟩
      rw [mem_take_snoc hv]; simp [hm, Ne.symm e]
  · simp only [go_sem, Nat.reduceEqDiff, Nat.reduceAdd, Nat.reduceMul, Nat.reduceLeDiff, Int.reduceEq, Int.reduceLT, Int.reduceLE, Int.reduceAdd, Int.reduceSub, Int.reduceNeg, Int.reduceMul, Int.reduceToNat, Int.cast_ofNat_Int, Int.natCast_zero, Nat.add_zero, reduceCtorEq, g0, g5, hlt, h.len]
    refine hE _ _ ?_
    simp only [go_sem, Nat.reduceEqDiff, Nat.reduceAdd, Nat.reduceMul, Nat.reduceLeDiff, Int.reduceEq, Int.reduceLT, Int.reduceLE, Int.reduceAdd, Int.reduceSub, Int.reduceNeg, Int.reduceMul, Int.reduceToNat, Int.cast_ofNat_Int, Int.natCast_zero, Nat.add_zero, reduceCtorEq, hH]
    rw [List.take_of_length_le (by omega)] at hm
    exact hQ _ _ (Ends.ret rfl ⟨by simp [tupOf, hm], rfl⟩)
end Go.AX

/- Desks that are ok: the program and the reference do the same. Condition: the data lie in memory. -/
namespace Go.AX
variable {P : Program} {I : Ids}
theorem told_parts {n : Nat} {xs : List Word} (h : toldOk n xs = true) : (∀ w ∈ xs, wordOk w = true ∧ 4 ≤ w.kind ∧ w.trip ≤ n) ∧ xs.Nodup := by
  simpa only [toldOk, Bool.and_eq_true, List.all_eq_true, decide_eq_true_eq] using h
theorem told_of {n : Nat} {xs : List Word} (h1 : ∀ w ∈ xs, wordOk w = true ∧ 4 ≤ w.kind ∧ w.trip ≤ n) (h2 : xs.Nodup) : toldOk n xs = true := by
  simp only [toldOk, Bool.and_eq_true, List.all_eq_true, decide_eq_true_eq]
  exact ⟨h1, h2⟩
theorem told_snoc {n : Nat} {xs : List Word} {v : Word} {i : Nat} (h : xs[i]? = some v) (hi : toldOk n (xs.take i) = true) (h1 : wordOk v = true) (h2 : 4 ≤ v.kind) (h3 : v.trip ≤ n) (h4 : v ∉ xs.take i) : toldOk n (xs.take (i + 1)) = true := by
  obtain ⟨g1, g2⟩ := told_parts hi
  refine told_of (fun w hw => ?_) ?_
  · rcases (mem_take_snoc h).1 hw with hw | rfl
    · exact g1 w hw
    · exact ⟨h1, h2, h3⟩
  · rw [take_snoc h, List.nodup_append]
    refine ⟨g2, by simp, fun a ha b hb e => ?_⟩
    simp only [List.mem_singleton] at hb
    subst hb; subst e; exact h4 ha
theorem told_bad {n : Nat} {xs : List Word} {v : Word} {i : Nat} (h : xs[i]? = some v) (hc : ¬ (wordOk v = true ∧ 4 ≤ v.kind ∧ v.trip ≤ n ∧ v ∉ xs.take i)) : toldOk n xs = false := by
  cases ht : toldOk n xs with
  | false => rfl
  | true =>
    obtain ⟨g1, g2⟩ := told_parts ht
    obtain ⟨k1, k2, k3⟩ := g1 v (List.mem_of_getElem? h)
    refine absurd ⟨k1, k2, k3, fun hm => ?_⟩ hc
    have hs : (xs.take (i + 1)).Nodup := g2.sublist (List.take_sublist _ _)
    rw [take_snoc h, List.nodup_append] at hs
    exact hs.2.2 v hm v (by simp) rfl
theorem desk_bad {d : Desk} (h : toldOk (tripsD d.log.recs).length d.told = false) : deskOk d = false := by simp [deskOk, h]
set_option maxHeartbeats 2000000 in
theorem does_i_DeskOk (K : Codes P I) {H : Heap} {cs : List C} {d : Desk} {F : List Nat} (hd : RDesk H cs d F) : Does P I.i_DeskOk [.agg cs] H fun v H' => v = bool (deskOk d) ∧ Step [] H H' [] := by
  obtain ⟨c, t, F1, F2, rfl, rfl, hr, ht⟩ := hd
  have htop := ht.top
  refine K.does K.i_DeskOk rfl fun Q hQ => ?_
  simp only [go_sem, Nat.reduceEqDiff, Nat.reduceAdd, Nat.reduceMul, Nat.reduceLeDiff, Int.reduceEq, Int.reduceLT, Int.reduceLE, Int.reduceAdd, Int.reduceSub, Int.reduceNeg, Int.reduceMul, Int.reduceToNat, Int.cast_ofNat_Int, Int.natCast_zero, Nat.add_zero, reduceCtorEq, L_i_DeskOk]
  refine Does.test (does_i_LogOk K (show RLog H [c, .int .i64 d.log.forced] d.log F1 from ⟨c, rfl, hr⟩)) ?_
  cases hlok : logOk d.log with
  | false =>
    simp only [go_sem, Nat.reduceEqDiff, Nat.reduceAdd, Nat.reduceMul, Nat.reduceLeDiff, Int.reduceEq, Int.reduceLT, Int.reduceLE, Int.reduceAdd, Int.reduceSub, Int.reduceNeg, Int.reduceMul, Int.reduceToNat, Int.cast_ofNat_Int, Int.natCast_zero, Nat.add_zero, reduceCtorEq]
    exact hQ _ _ (Ends.ret rfl ⟨by simp [tupOf, deskOk, hlok], Step.refl H⟩)
  | true =>
    cases hup : d.up with
    | false =>
      by_cases hz : d.told = []
      · have hg : ¬ (0 : Int) < d.told.length := by rw [hz]; simp
        simp only [go_sem, Nat.reduceEqDiff, Nat.reduceAdd, Nat.reduceMul, Nat.reduceLeDiff, Int.reduceEq, Int.reduceLT, Int.reduceLE, Int.reduceAdd, Int.reduceSub, Int.reduceNeg, Int.reduceMul, Int.reduceToNat, Int.cast_ofNat_Int, Int.natCast_zero, Nat.add_zero, reduceCtorEq, hup, ht.len, hg]
        refine Does.call (does_i_TripsOf K hr) ?_
        rintro _ H1 ⟨ct, Ft, rfl, s1, hct⟩
        replace s1 : Step [] H H1 Ft := s1
        have s1' : Step [] H H1 [] := s1.less (List.nil_sublist _)
        have ht1 : Words H1 t d.told F2 := s1.keepSl RWord.good ht (fun b _ => by simp)
        simp only [go_sem, Nat.reduceEqDiff, Nat.reduceAdd, Nat.reduceMul, Nat.reduceLeDiff, Int.reduceEq, Int.reduceLT, Int.reduceLE, Int.reduceAdd, Int.reduceSub, Int.reduceNeg, Int.reduceMul, Int.reduceToNat, Int.cast_ofNat_Int, Int.natCast_zero, Nat.add_zero, reduceCtorEq, hup, ht1.len]
        refine RU_loop (fun m s => ∃ i : Nat, m = d.told.length - i ∧ i ≤ d.told.length ∧ s.H = H1 ∧ s.env 1 = .box [.bool false, c, .int .i64 d.log.forced, t] ∧ s.env 3 = .val (.c ct) ∧ s.env 4 = bool (tripsOf d.log.recs).isSome ∧ s.env 30 = .val (.c t) ∧ s.env 31 = .val (int d.told.length) ∧ s.env 32 = .val (int i) ∧ toldOk (tripsD d.log.recs).length (d.told.take i) = true) d.told.length
          ⟨0, by simp, by simp, rfl, rfl, rfl, rfl, rfl, rfl, rfl, by simp [toldOk]⟩ ?_
        rintro m s ⟨i, rfl, hi, hH, g1, g3, g6, g30, g31, g32, hok⟩ Q' hN hE hR
        by_cases hlt : (i : Int) < d.told.length
        · obtain ⟨v, hv⟩ := get_lt hlt
          obtain ⟨b1, o1, bs1, cs1, f1, rfl, e1, e2, ⟨rfl, _⟩, _⟩ := ht1.get hv
          obtain ⟨cq, Fq, hq, hcq, _⟩ := slc_take ht1 (k := i) hi
          have hlt' : (i : Int) < d.told.length := hlt
          simp only [go_sem, Nat.reduceEqDiff, Nat.reduceAdd, Nat.reduceMul, Nat.reduceLeDiff, Int.reduceEq, Int.reduceLT, Int.reduceLE, Int.reduceAdd, Int.reduceSub, Int.reduceNeg, Int.reduceMul, Int.reduceToNat, Int.cast_ofNat_Int, Int.natCast_zero, Nat.add_zero, reduceCtorEq, g1, g3, g6, g30, g31, g32, hlt, hH, e1, e2]
          refine Does.test (does_i_WordOk K (show RWord H1 _ v [] from ⟨rfl, rfl⟩)) ?_
          cases hw : wordOk v with
          | false =>
            simp only [go_sem, Nat.reduceEqDiff, Nat.reduceAdd, Nat.reduceMul, Nat.reduceLeDiff, Int.reduceEq, Int.reduceLT, Int.reduceLE, Int.reduceAdd, Int.reduceSub, Int.reduceNeg, Int.reduceMul, Int.reduceToNat, Int.cast_ofNat_Int, Int.natCast_zero, Nat.add_zero, reduceCtorEq, g1, g3, g6, g30, g31, g32, hlt, hlt', hH, e1, e2, hq, hct.len, hw]
            refine hR _ ?_
            exact hQ _ _ (Ends.ret rfl ⟨by simp [tupOf, desk_bad (told_bad hv (by simp [hw]))], by simp only [hH]; exact s1'⟩)
          | true =>
            simp only [go_sem, Nat.reduceEqDiff, Nat.reduceAdd, Nat.reduceMul, Nat.reduceLeDiff, Int.reduceEq, Int.reduceLT, Int.reduceLE, Int.reduceAdd, Int.reduceSub, Int.reduceNeg, Int.reduceMul, Int.reduceToNat, Int.cast_ofNat_Int, Int.natCast_zero, Nat.add_zero, reduceCtorEq]
            refine Does.test (does_i_Word_answer K (show RWord H1 _ v [] from ⟨rfl, rfl⟩)) ?_
            by_cases hk : 4 ≤ v.kind
            · by_cases hn : ((tripsD d.log.recs).length : Int) < v.trip
              · simp only [go_sem, Nat.reduceEqDiff, Nat.reduceAdd, Nat.reduceMul, Nat.reduceLeDiff, Int.reduceEq, Int.reduceLT, Int.reduceLE, Int.reduceAdd, Int.reduceSub, Int.reduceNeg, Int.reduceMul, Int.reduceToNat, Int.cast_ofNat_Int, Int.natCast_zero, Nat.add_zero, reduceCtorEq, g1, g3, g6, g30, g31, g32, hlt, hlt', hH, e1, e2, hq, hct.len, hk, hn]
                refine hR _ ?_
                exact hQ _ _ (Ends.ret rfl ⟨by simp [tupOf, desk_bad (told_bad hv (by simp [show ¬ v.trip ≤ ((tripsD d.log.recs).length : Int) by omega]))], by simp only [hH]; exact s1'⟩)
              · simp only [go_sem, Nat.reduceEqDiff, Nat.reduceAdd, Nat.reduceMul, Nat.reduceLeDiff, Int.reduceEq, Int.reduceLT, Int.reduceLE, Int.reduceAdd, Int.reduceSub, Int.reduceNeg, Int.reduceMul, Int.reduceToNat, Int.cast_ofNat_Int, Int.natCast_zero, Nat.add_zero, reduceCtorEq, g1, g3, g6, g30, g31, g32, hlt, hH, e1, e2, hk, hn, hct.len, hq]
                refine Does.test (does_g_Contains_Word K hcq (show RWord H1 _ v [] from ⟨rfl, rfl⟩)) ?_
                by_cases hm : v ∈ d.told.take i
                · simp only [go_sem, Nat.reduceEqDiff, Nat.reduceAdd, Nat.reduceMul, Nat.reduceLeDiff, Int.reduceEq, Int.reduceLT, Int.reduceLE, Int.reduceAdd, Int.reduceSub, Int.reduceNeg, Int.reduceMul, Int.reduceToNat, Int.cast_ofNat_Int, Int.natCast_zero, Nat.add_zero, reduceCtorEq, g1, g3, g6, g30, g31, g32, hlt, hlt', hH, e1, e2, hq, hct.len, hm]
                  refine hR _ ?_
                  exact hQ _ _ (Ends.ret rfl ⟨by simp [tupOf, desk_bad (told_bad hv (by simp [hm]))], by simp only [hH]; exact s1'⟩)
                · simp only [go_sem, Nat.reduceEqDiff, Nat.reduceAdd, Nat.reduceMul, Nat.reduceLeDiff, Int.reduceEq, Int.reduceLT, Int.reduceLE, Int.reduceAdd, Int.reduceSub, Int.reduceNeg, Int.reduceMul, Int.reduceToNat, Int.cast_ofNat_Int, Int.natCast_zero, Nat.add_zero, reduceCtorEq, g1, g3, g6, g30, g31, g32, hm, hH, wrap_succ (show i ≤ lenTop by omega)]
                  refine hN _ _ (by omega) ⟨i + 1, rfl, by omega, by simp [hH], by simp [upd, g1], by simp [upd, g3], by simp [upd, g6], by simp [upd, g30], by simp [upd, g31], by simp [upd], told_snoc hv hok hw hk (by omega) hm⟩
            · simp only [go_sem, Nat.reduceEqDiff, Nat.reduceAdd, Nat.reduceMul, Nat.reduceLeDiff, Int.reduceEq, Int.reduceLT, Int.reduceLE, Int.reduceAdd, Int.reduceSub, Int.reduceNeg, Int.reduceMul, Int.reduceToNat, Int.cast_ofNat_Int, Int.natCast_zero, Nat.add_zero, reduceCtorEq, g1, g3, g6, g30, g31, g32, hlt, hlt', hH, e1, e2, hq, hct.len, hk]
              refine hR _ ?_
              exact hQ _ _ (Ends.ret rfl ⟨by simp [tupOf, desk_bad (told_bad hv (by simp [hk]))], by simp only [hH]; exact s1'⟩)
        · simp only [go_sem, Nat.reduceEqDiff, Nat.reduceAdd, Nat.reduceMul, Nat.reduceLeDiff, Int.reduceEq, Int.reduceLT, Int.reduceLE, Int.reduceAdd, Int.reduceSub, Int.reduceNeg, Int.reduceMul, Int.reduceToNat, Int.cast_ofNat_Int, Int.natCast_zero, Nat.add_zero, reduceCtorEq, g1, g3, g6, g30, g31, g32, hlt]
          refine hE _ _ ?_
          simp only [go_sem, Nat.reduceEqDiff, Nat.reduceAdd, Nat.reduceMul, Nat.reduceLeDiff, Int.reduceEq, Int.reduceLT, Int.reduceLE, Int.reduceAdd, Int.reduceSub, Int.reduceNeg, Int.reduceMul, Int.reduceToNat, Int.cast_ofNat_Int, Int.natCast_zero, Nat.add_zero, reduceCtorEq, g6, hH]
          rw [List.take_of_length_le (by omega)] at hok
          exact hQ _ _ (Ends.ret rfl ⟨by simp [tupOf, deskOk, hlok, hok, hz, toldOk], s1'⟩)
      · have hg : (0 : Int) < d.told.length := by have := List.length_pos_iff.2 hz; omega
        simp only [go_sem, Nat.reduceEqDiff, Nat.reduceAdd, Nat.reduceMul, Nat.reduceLeDiff, Int.reduceEq, Int.reduceLT, Int.reduceLE, Int.reduceAdd, Int.reduceSub, Int.reduceNeg, Int.reduceMul, Int.reduceToNat, Int.cast_ofNat_Int, Int.natCast_zero, Nat.add_zero, reduceCtorEq, hup, ht.len, hg]
        exact hQ _ _ (Ends.ret rfl ⟨by simp [tupOf, deskOk, hup, hz], Step.refl H⟩)
    | true =>
      simp only [go_sem, Nat.reduceEqDiff, Nat.reduceAdd, Nat.reduceMul, Nat.reduceLeDiff, Int.reduceEq, Int.reduceLT, Int.reduceLE, Int.reduceAdd, Int.reduceSub, Int.reduceNeg, Int.reduceMul, Int.reduceToNat, Int.cast_ofNat_Int, Int.natCast_zero, Nat.add_zero, reduceCtorEq, hup]
      refine Does.call (does_i_TripsOf K hr) ?_
      rintro _ H1 ⟨ct, Ft, rfl, s1, hct⟩
      replace s1 : Step [] H H1 Ft := s1
      have s1' : Step [] H H1 [] := s1.less (List.nil_sublist _)
      have ht1 : Words H1 t d.told F2 := s1.keepSl RWord.good ht (fun b _ => by simp)
      simp only [go_sem, Nat.reduceEqDiff, Nat.reduceAdd, Nat.reduceMul, Nat.reduceLeDiff, Int.reduceEq, Int.reduceLT, Int.reduceLE, Int.reduceAdd, Int.reduceSub, Int.reduceNeg, Int.reduceMul, Int.reduceToNat, Int.cast_ofNat_Int, Int.natCast_zero, Nat.add_zero, reduceCtorEq, hup, ht1.len]
      refine RU_loop (fun m s => ∃ i : Nat, m = d.told.length - i ∧ i ≤ d.told.length ∧ s.H = H1 ∧ s.env 1 = .box [.bool true, c, .int .i64 d.log.forced, t] ∧ s.env 3 = .val (.c ct) ∧ s.env 4 = bool (tripsOf d.log.recs).isSome ∧ s.env 30 = .val (.c t) ∧ s.env 31 = .val (int d.told.length) ∧ s.env 32 = .val (int i) ∧ toldOk (tripsD d.log.recs).length (d.told.take i) = true) d.told.length
        ⟨0, by simp, by simp, rfl, rfl, rfl, rfl, rfl, rfl, rfl, by simp [toldOk]⟩ ?_
      rintro m s ⟨i, rfl, hi, hH, g1, g3, g6, g30, g31, g32, hok⟩ Q' hN hE hR
      by_cases hlt : (i : Int) < d.told.length
      · obtain ⟨v, hv⟩ := get_lt hlt
        obtain ⟨b1, o1, bs1, cs1, f1, rfl, e1, e2, ⟨rfl, _⟩, _⟩ := ht1.get hv
        obtain ⟨cq, Fq, hq, hcq, _⟩ := slc_take ht1 (k := i) hi
        have hlt' : (i : Int) < d.told.length := hlt
        simp only [go_sem, Nat.reduceEqDiff, Nat.reduceAdd, Nat.reduceMul, Nat.reduceLeDiff, Int.reduceEq, Int.reduceLT, Int.reduceLE, Int.reduceAdd, Int.reduceSub, Int.reduceNeg, Int.reduceMul, Int.reduceToNat, Int.cast_ofNat_Int, Int.natCast_zero, Nat.add_zero, reduceCtorEq, g1, g3, g6, g30, g31, g32, hlt, hH, e1, e2]
        refine Does.test (does_i_WordOk K (show RWord H1 _ v [] from ⟨rfl, rfl⟩)) ?_
        cases hw : wordOk v with
        | false =>
          simp only [go_sem, Nat.reduceEqDiff, Nat.reduceAdd, Nat.reduceMul, Nat.reduceLeDiff, Int.reduceEq, Int.reduceLT, Int.reduceLE, Int.reduceAdd, Int.reduceSub, Int.reduceNeg, Int.reduceMul, Int.reduceToNat, Int.cast_ofNat_Int, Int.natCast_zero, Nat.add_zero, reduceCtorEq, g1, g3, g6, g30, g31, g32, hlt, hlt', hH, e1, e2, hq, hct.len, hw]
          refine hR _ ?_
          exact hQ _ _ (Ends.ret rfl ⟨by simp [tupOf, desk_bad (told_bad hv (by simp [hw]))], by simp only [hH]; exact s1'⟩)
        | true =>
          simp only [go_sem, Nat.reduceEqDiff, Nat.reduceAdd, Nat.reduceMul, Nat.reduceLeDiff, Int.reduceEq, Int.reduceLT, Int.reduceLE, Int.reduceAdd, Int.reduceSub, Int.reduceNeg, Int.reduceMul, Int.reduceToNat, Int.cast_ofNat_Int, Int.natCast_zero, Nat.add_zero, reduceCtorEq]
          refine Does.test (does_i_Word_answer K (show RWord H1 _ v [] from ⟨rfl, rfl⟩)) ?_
          by_cases hk : 4 ≤ v.kind
          · by_cases hn : ((tripsD d.log.recs).length : Int) < v.trip
            · simp only [go_sem, Nat.reduceEqDiff, Nat.reduceAdd, Nat.reduceMul, Nat.reduceLeDiff, Int.reduceEq, Int.reduceLT, Int.reduceLE, Int.reduceAdd, Int.reduceSub, Int.reduceNeg, Int.reduceMul, Int.reduceToNat, Int.cast_ofNat_Int, Int.natCast_zero, Nat.add_zero, reduceCtorEq, g1, g3, g6, g30, g31, g32, hlt, hlt', hH, e1, e2, hq, hct.len, hk, hn]
              refine hR _ ?_
              exact hQ _ _ (Ends.ret rfl ⟨by simp [tupOf, desk_bad (told_bad hv (by simp [show ¬ v.trip ≤ ((tripsD d.log.recs).length : Int) by omega]))], by simp only [hH]; exact s1'⟩)
            · simp only [go_sem, Nat.reduceEqDiff, Nat.reduceAdd, Nat.reduceMul, Nat.reduceLeDiff, Int.reduceEq, Int.reduceLT, Int.reduceLE, Int.reduceAdd, Int.reduceSub, Int.reduceNeg, Int.reduceMul, Int.reduceToNat, Int.cast_ofNat_Int, Int.natCast_zero, Nat.add_zero, reduceCtorEq, g1, g3, g6, g30, g31, g32, hlt, hH, e1, e2, hk, hn, hct.len, hq]
              refine Does.test (does_g_Contains_Word K hcq (show RWord H1 _ v [] from ⟨rfl, rfl⟩)) ?_
              by_cases hm : v ∈ d.told.take i
              · simp only [go_sem, Nat.reduceEqDiff, Nat.reduceAdd, Nat.reduceMul, Nat.reduceLeDiff, Int.reduceEq, Int.reduceLT, Int.reduceLE, Int.reduceAdd, Int.reduceSub, Int.reduceNeg, Int.reduceMul, Int.reduceToNat, Int.cast_ofNat_Int, Int.natCast_zero, Nat.add_zero, reduceCtorEq, g1, g3, g6, g30, g31, g32, hlt, hlt', hH, e1, e2, hq, hct.len, hm]
                refine hR _ ?_
                exact hQ _ _ (Ends.ret rfl ⟨by simp [tupOf, desk_bad (told_bad hv (by simp [hm]))], by simp only [hH]; exact s1'⟩)
              · simp only [go_sem, Nat.reduceEqDiff, Nat.reduceAdd, Nat.reduceMul, Nat.reduceLeDiff, Int.reduceEq, Int.reduceLT, Int.reduceLE, Int.reduceAdd, Int.reduceSub, Int.reduceNeg, Int.reduceMul, Int.reduceToNat, Int.cast_ofNat_Int, Int.natCast_zero, Nat.add_zero, reduceCtorEq, g1, g3, g6, g30, g31, g32, hm, hH, wrap_succ (show i ≤ lenTop by omega)]
                refine hN _ _ (by omega) ⟨i + 1, rfl, by omega, by simp [hH], by simp [upd, g1], by simp [upd, g3], by simp [upd, g6], by simp [upd, g30], by simp [upd, g31], by simp [upd], told_snoc hv hok hw hk (by omega) hm⟩
          · simp only [go_sem, Nat.reduceEqDiff, Nat.reduceAdd, Nat.reduceMul, Nat.reduceLeDiff, Int.reduceEq, Int.reduceLT, Int.reduceLE, Int.reduceAdd, Int.reduceSub, Int.reduceNeg, Int.reduceMul, Int.reduceToNat, Int.cast_ofNat_Int, Int.natCast_zero, Nat.add_zero, reduceCtorEq, g1, g3, g6, g30, g31, g32, hlt, hlt', hH, e1, e2, hq, hct.len, hk]
            refine hR _ ?_
            exact hQ _ _ (Ends.ret rfl ⟨by simp [tupOf, desk_bad (told_bad hv (by simp [hk]))], by simp only [hH]; exact s1'⟩)
      · simp only [go_sem, Nat.reduceEqDiff, Nat.reduceAdd, Nat.reduceMul, Nat.reduceLeDiff, Int.reduceEq, Int.reduceLT, Int.reduceLE, Int.reduceAdd, Int.reduceSub, Int.reduceNeg, Int.reduceMul, Int.reduceToNat, Int.cast_ofNat_Int, Int.natCast_zero, Nat.add_zero, reduceCtorEq, g1, g3, g6, g30, g31, g32, hlt]
        refine hE _ _ ?_
        simp only [go_sem, Nat.reduceEqDiff, Nat.reduceAdd, Nat.reduceMul, Nat.reduceLeDiff, Int.reduceEq, Int.reduceLT, Int.reduceLE, Int.reduceAdd, Int.reduceSub, Int.reduceNeg, Int.reduceMul, Int.reduceToNat, Int.cast_ofNat_Int, Int.natCast_zero, Nat.add_zero, reduceCtorEq, g6, hH]
        rw [List.take_of_length_le (by omega)] at hok
        exact hQ _ _ (Ends.ret rfl ⟨by simp [tupOf, deskOk, hlok, hok, hup], s1'⟩)
end Go.AX

/- Desks that are ok: the reference. Condition: the data lie in memory. -/
namespace Go.AX
variable {P : Program} {I : Ids}
set_option maxHeartbeats 2000000 in
theorem does_s_DeskOk (K : Codes P I) {H : Heap} {cs : List C} {d : Desk} {F : List Nat} (hd : RDesk H cs d F) : Does P I.s_DeskOk [.agg cs] H fun v H' => v = bool (deskOk d) ∧ Step [] H H' [] := by
  obtain ⟨c, t, F1, F2, rfl, rfl, hr, ht⟩ := hd
  have htop := ht.top
  refine K.does K.s_DeskOk rfl fun Q hQ => ?_
  simp only [go_sem, Nat.reduceEqDiff, Nat.reduceAdd, Nat.reduceMul, Nat.reduceLeDiff, Int.reduceEq, Int.reduceLT, Int.reduceLE, Int.reduceAdd, Int.reduceSub, Int.reduceNeg, Int.reduceMul, Int.reduceToNat, Int.cast_ofNat_Int, Int.natCast_zero, Nat.add_zero, reduceCtorEq, L_s_DeskOk]
  refine Does.call (does_s_l12Of K hr) ?_
  rintro _ H1 ⟨ct, Ft, rfl, s1, hct⟩
  replace s1 : Step [] H H1 Ft := s1
  have s1' : Step [] H H1 [] := s1.less (List.nil_sublist _)
  have ht1 : Words H1 t d.told F2 := s1.keepSl RWord.good ht (fun b _ => by simp)
  have hr1 : Recs H1 c d.log.recs F1 := s1.keepSl RRec.good hr (fun b _ => by simp)
  simp only [go_sem, Nat.reduceEqDiff, Nat.reduceAdd, Nat.reduceMul, Nat.reduceLeDiff, Int.reduceEq, Int.reduceLT, Int.reduceLE, Int.reduceAdd, Int.reduceSub, Int.reduceNeg, Int.reduceMul, Int.reduceToNat, Int.cast_ofNat_Int, Int.natCast_zero, Nat.add_zero, reduceCtorEq]
  refine Does.test (does_s_LogOk K (show RLog H1 [c, .int .i64 d.log.forced] d.log F1 from ⟨c, rfl, hr1⟩)) ?_
  cases hlok : logOk d.log with
  | false =>
    simp only [go_sem, Nat.reduceEqDiff, Nat.reduceAdd, Nat.reduceMul, Nat.reduceLeDiff, Int.reduceEq, Int.reduceLT, Int.reduceLE, Int.reduceAdd, Int.reduceSub, Int.reduceNeg, Int.reduceMul, Int.reduceToNat, Int.cast_ofNat_Int, Int.natCast_zero, Nat.add_zero, reduceCtorEq]
    exact hQ _ _ (Ends.ret rfl ⟨by simp [tupOf, deskOk, hlok], s1'⟩)
  | true =>
    cases hsm : (tripsOf d.log.recs).isSome with
    | false =>
      simp only [go_sem, Nat.reduceEqDiff, Nat.reduceAdd, Nat.reduceMul, Nat.reduceLeDiff, Int.reduceEq, Int.reduceLT, Int.reduceLE, Int.reduceAdd, Int.reduceSub, Int.reduceNeg, Int.reduceMul, Int.reduceToNat, Int.cast_ofNat_Int, Int.natCast_zero, Nat.add_zero, reduceCtorEq]
      exact hQ _ _ (Ends.ret rfl ⟨by simp [tupOf, deskOk, hsm], s1'⟩)
    | true =>
      simp only [go_sem, Nat.reduceEqDiff, Nat.reduceAdd, Nat.reduceMul, Nat.reduceLeDiff, Int.reduceEq, Int.reduceLT, Int.reduceLE, Int.reduceAdd, Int.reduceSub, Int.reduceNeg, Int.reduceMul, Int.reduceToNat, Int.cast_ofNat_Int, Int.natCast_zero, Nat.add_zero, reduceCtorEq]
      refine RU_loop (fun m s => ∃ i : Nat, m = d.told.length - i ∧ i ≤ d.told.length ∧ s.H = H1 ∧ s.env 1 = .box [.bool d.up, c, .int .i64 d.log.forced, t] ∧ s.env 3 = .val (.c ct) ∧ s.env 5 = .val (int i) ∧ toldOk (tripsD d.log.recs).length (d.told.take i) = true) d.told.length
        ⟨0, by simp, by simp, rfl, rfl, rfl, rfl, by simp [toldOk]⟩ ?_
      rintro m s ⟨i, rfl, hi, hH, g1, g3, g5, hok⟩ Q' hN hE hR
      by_cases hlt : (i : Int) < d.told.length
      · obtain ⟨v, hv⟩ := get_lt hlt
        obtain ⟨b1, o1, bs1, cs1, f1, rfl, e1, e2, ⟨rfl, _⟩, _⟩ := ht1.get hv
        obtain ⟨cq, Fq, hq, hcq, _⟩ := slc_take ht1 (k := i) hi
        simp only [go_sem, Nat.reduceEqDiff, Nat.reduceAdd, Nat.reduceMul, Nat.reduceLeDiff, Int.reduceEq, Int.reduceLT, Int.reduceLE, Int.reduceAdd, Int.reduceSub, Int.reduceNeg, Int.reduceMul, Int.reduceToNat, Int.cast_ofNat_Int, Int.natCast_zero, Nat.add_zero, reduceCtorEq, g1, g3, g5, ht1.len, hlt, hH, e1, e2]
        refine Does.test (does_s_WordOk K (show RWord H1 _ v [] from ⟨rfl, rfl⟩)) ?_
        cases hw : wordOk v with
        | false =>
          simp only [go_sem, Nat.reduceEqDiff, Nat.reduceAdd, Nat.reduceMul, Nat.reduceLeDiff, Int.reduceEq, Int.reduceLT, Int.reduceLE, Int.reduceAdd, Int.reduceSub, Int.reduceNeg, Int.reduceMul, Int.reduceToNat, Int.cast_ofNat_Int, Int.natCast_zero, Nat.add_zero, reduceCtorEq, g1, g3, g5, hlt, hH, e1, e2, hq, hct.len, ht1.len, hw]
          refine hR _ ?_
          exact hQ _ _ (Ends.ret rfl ⟨by simp [tupOf, desk_bad (told_bad hv (by simp [hw]))], by simp only [hH]; exact s1'⟩)
        | true =>
          by_cases hk : v.kind < 4
          · simp only [go_sem, Nat.reduceEqDiff, Nat.reduceAdd, Nat.reduceMul, Nat.reduceLeDiff, Int.reduceEq, Int.reduceLT, Int.reduceLE, Int.reduceAdd, Int.reduceSub, Int.reduceNeg, Int.reduceMul, Int.reduceToNat, Int.cast_ofNat_Int, Int.natCast_zero, Nat.add_zero, reduceCtorEq, g1, g3, g5, hlt, hH, e1, e2, hq, hct.len, ht1.len, hk]
            refine hR _ ?_
            exact hQ _ _ (Ends.ret rfl ⟨by simp [tupOf, desk_bad (told_bad hv (by simp [show ¬ 4 ≤ v.kind by omega]))], by simp only [hH]; exact s1'⟩)
          · by_cases hn : ((tripsD d.log.recs).length : Int) < v.trip
            · simp only [go_sem, Nat.reduceEqDiff, Nat.reduceAdd, Nat.reduceMul, Nat.reduceLeDiff, Int.reduceEq, Int.reduceLT, Int.reduceLE, Int.reduceAdd, Int.reduceSub, Int.reduceNeg, Int.reduceMul, Int.reduceToNat, Int.cast_ofNat_Int, Int.natCast_zero, Nat.add_zero, reduceCtorEq, g1, g3, g5, hlt, hH, e1, e2, hq, hct.len, ht1.len, hk, hn]
              refine hR _ ?_
              exact hQ _ _ (Ends.ret rfl ⟨by simp [tupOf, desk_bad (told_bad hv (by simp [show ¬ v.trip ≤ ((tripsD d.log.recs).length : Int) by omega]))], by simp only [hH]; exact s1'⟩)
            · simp only [go_sem, Nat.reduceEqDiff, Nat.reduceAdd, Nat.reduceMul, Nat.reduceLeDiff, Int.reduceEq, Int.reduceLT, Int.reduceLE, Int.reduceAdd, Int.reduceSub, Int.reduceNeg, Int.reduceMul, Int.reduceToNat, Int.cast_ofNat_Int, Int.natCast_zero, Nat.add_zero, reduceCtorEq, g1, g3, g5, hlt, hH, e1, e2, hk, hn, hct.len, ht1.len, hq]
              refine Does.test (does_s_l13Told K hcq (show RWord H1 _ v [] from ⟨rfl, rfl⟩)) ?_
              by_cases hm : v ∈ d.told.take i
              · simp only [go_sem, Nat.reduceEqDiff, Nat.reduceAdd, Nat.reduceMul, Nat.reduceLeDiff, Int.reduceEq, Int.reduceLT, Int.reduceLE, Int.reduceAdd, Int.reduceSub, Int.reduceNeg, Int.reduceMul, Int.reduceToNat, Int.cast_ofNat_Int, Int.natCast_zero, Nat.add_zero, reduceCtorEq, g1, g3, g5, hlt, hH, e1, e2, hq, hct.len, ht1.len, hm]
                refine hR _ ?_
                exact hQ _ _ (Ends.ret rfl ⟨by simp [tupOf, desk_bad (told_bad hv (by simp [hm]))], by simp only [hH]; exact s1'⟩)
              · simp only [go_sem, Nat.reduceEqDiff, Nat.reduceAdd, Nat.reduceMul, Nat.reduceLeDiff, Int.reduceEq, Int.reduceLT, Int.reduceLE, Int.reduceAdd, Int.reduceSub, Int.reduceNeg, Int.reduceMul, Int.reduceToNat, Int.cast_ofNat_Int, Int.natCast_zero, Nat.add_zero, reduceCtorEq, g1, g3, g5, hm, hH, wrap_succ (show i ≤ lenTop by omega)]
                refine hN _ _ (by omega) ⟨i + 1, rfl, by omega, by simp [hH], by simp [upd, g1], by simp [upd, g3], by simp [upd], told_snoc hv hok hw (by omega) (by omega) hm⟩
      · simp only [go_sem, Nat.reduceEqDiff, Nat.reduceAdd, Nat.reduceMul, Nat.reduceLeDiff, Int.reduceEq, Int.reduceLT, Int.reduceLE, Int.reduceAdd, Int.reduceSub, Int.reduceNeg, Int.reduceMul, Int.reduceToNat, Int.cast_ofNat_Int, Int.natCast_zero, Nat.add_zero, reduceCtorEq, g1, g3, g5, ht1.len, hlt]
        refine hE _ _ ?_
        rw [List.take_of_length_le (by omega)] at hok
        cases hup : d.up with
        | true =>
          simp only [go_sem, Nat.reduceEqDiff, Nat.reduceAdd, Nat.reduceMul, Nat.reduceLeDiff, Int.reduceEq, Int.reduceLT, Int.reduceLE, Int.reduceAdd, Int.reduceSub, Int.reduceNeg, Int.reduceMul, Int.reduceToNat, Int.cast_ofNat_Int, Int.natCast_zero, Nat.add_zero, reduceCtorEq, g1, hH, hup]
          exact hQ _ _ (Ends.ret rfl ⟨by simp [tupOf, deskOk, hlok, hok, hsm, hup], s1'⟩)
        | false =>
          by_cases hz : d.told = []
          · have hg : (d.told.length : Int) = 0 := by rw [hz]; simp
            simp only [go_sem, Nat.reduceEqDiff, Nat.reduceAdd, Nat.reduceMul, Nat.reduceLeDiff, Int.reduceEq, Int.reduceLT, Int.reduceLE, Int.reduceAdd, Int.reduceSub, Int.reduceNeg, Int.reduceMul, Int.reduceToNat, Int.cast_ofNat_Int, Int.natCast_zero, Nat.add_zero, reduceCtorEq, g1, hH, hup, ht1.len, hg]
            exact hQ _ _ (Ends.ret rfl ⟨by simp [tupOf, deskOk, hlok, hsm, hup, hz, toldOk], s1'⟩)
          · have hg : ¬ (d.told.length : Int) = 0 := fun e => hz (List.length_eq_zero_iff.1 (by omega))
            simp only [go_sem, Nat.reduceEqDiff, Nat.reduceAdd, Nat.reduceMul, Nat.reduceLeDiff, Int.reduceEq, Int.reduceLT, Int.reduceLE, Int.reduceAdd, Int.reduceSub, Int.reduceNeg, Int.reduceMul, Int.reduceToNat, Int.cast_ofNat_Int, Int.natCast_zero, Nat.add_zero, reduceCtorEq, g1, hH, hup, ht1.len, hg]
            exact hQ _ _ (Ends.ret rfl ⟨by simp [tupOf, deskOk, hup, hz], s1'⟩)
end Go.AX

/- The trips of a desk: the program and the reference do the same. Condition: the data lie in memory. -/
namespace Go.AX
variable {P : Program} {I : Ids}
theorem does_i_Desk_trips (K : Codes P I) {H : Heap} {cs : List C} {d : Desk} {F : List Nat} {f : Bool} (hd : RDesk H cs d F) (hok : logOk d.log = true) : Does P I.i_Desk_trips [.agg cs, .c (.bool f)] H fun v H' => ∃ c' F', v = .val (.c c') ∧ Step [] H H' F' ∧ Trips H' c' (tripsV d f) F' := by
  obtain ⟨c, t, F1, F2, rfl, rfl, hr, ht⟩ := hd
  refine K.does K.i_Desk_trips rfl fun Q hQ => ?_
  simp only [go_sem, Nat.reduceEqDiff, Nat.reduceAdd, Nat.reduceMul, Nat.reduceLeDiff, Int.reduceEq, Int.reduceLT, Int.reduceLE, Int.reduceAdd, Int.reduceSub, Int.reduceNeg, Int.reduceMul, Int.reduceToNat, Int.cast_ofNat_Int, Int.natCast_zero, Nat.add_zero, reduceCtorEq, L_i_Desk_trips]
  refine Does.call (does_i_Log_known K (f := f) (show RLog H [c, .int .i64 d.log.forced] d.log F1 from ⟨c, rfl, hr⟩) hok) ?_
  rintro _ _ ⟨c', F', rfl, rfl, hc'⟩
  simp only [go_sem, Nat.reduceEqDiff, Nat.reduceAdd, Nat.reduceMul, Nat.reduceLeDiff, Int.reduceEq, Int.reduceLT, Int.reduceLE, Int.reduceAdd, Int.reduceSub, Int.reduceNeg, Int.reduceMul, Int.reduceToNat, Int.cast_ofNat_Int, Int.natCast_zero, Nat.add_zero, reduceCtorEq]
  refine Does.call (does_i_TripsOf K hc') ?_
  rintro _ H1 ⟨c1, G1, rfl, s1, r1⟩
  simp only [go_sem, Nat.reduceEqDiff, Nat.reduceAdd, Nat.reduceMul, Nat.reduceLeDiff, Int.reduceEq, Int.reduceLT, Int.reduceLE, Int.reduceAdd, Int.reduceSub, Int.reduceNeg, Int.reduceMul, Int.reduceToNat, Int.cast_ofNat_Int, Int.natCast_zero, Nat.add_zero, reduceCtorEq]
  exact hQ _ _ (Ends.ret rfl ⟨_, G1, rfl, s1, r1⟩)
theorem does_s_l13Trips (K : Codes P I) {H : Heap} {cs : List C} {d : Desk} {F : List Nat} {f : Bool} (hd : RDesk H cs d F) (hok : logOk d.log = true) : Does P I.s_l13Trips [.agg cs, .c (.bool f)] H fun v H' => ∃ c' F', v = .val (.c c') ∧ Step [] H H' F' ∧ Trips H' c' (tripsV d f) F' := by
  obtain ⟨c, t, F1, F2, rfl, rfl, hr, ht⟩ := hd
  refine K.does K.s_l13Trips rfl fun Q hQ => ?_
  obtain ⟨h1, h2, h3, h4⟩ := logOk_parts hok
  cases f with
  | false =>
    obtain ⟨c', F', hs, hc', _⟩ := slc_take hr (k := d.log.recs.length) (Nat.le_refl _)
    rw [List.take_length] at hc'
    simp only [go_sem, Nat.reduceEqDiff, Nat.reduceAdd, Nat.reduceMul, Nat.reduceLeDiff, Int.reduceEq, Int.reduceLT, Int.reduceLE, Int.reduceAdd, Int.reduceSub, Int.reduceNeg, Int.reduceMul, Int.reduceToNat, Int.cast_ofNat_Int, Int.natCast_zero, Nat.add_zero, reduceCtorEq, L_s_l13Trips, hr.len, hs]
    refine Does.call (does_s_l12Of K hc') ?_
    rintro _ H1 ⟨c1, G1, rfl, s1, r1⟩
    simp only [go_sem, Nat.reduceEqDiff, Nat.reduceAdd, Nat.reduceMul, Nat.reduceLeDiff, Int.reduceEq, Int.reduceLT, Int.reduceLE, Int.reduceAdd, Int.reduceSub, Int.reduceNeg, Int.reduceMul, Int.reduceToNat, Int.cast_ofNat_Int, Int.natCast_zero, Nat.add_zero, reduceCtorEq]
    exact hQ _ _ (Ends.ret rfl ⟨_, G1, rfl, s1, r1⟩)
  | true =>
    obtain ⟨c', F', hs, hc', _⟩ := slc_take hr (k := d.log.forced.toNat) (by omega)
    rw [show ((d.log.forced.toNat : Nat) : Int) = d.log.forced by omega] at hs
    simp only [go_sem, Nat.reduceEqDiff, Nat.reduceAdd, Nat.reduceMul, Nat.reduceLeDiff, Int.reduceEq, Int.reduceLT, Int.reduceLE, Int.reduceAdd, Int.reduceSub, Int.reduceNeg, Int.reduceMul, Int.reduceToNat, Int.cast_ofNat_Int, Int.natCast_zero, Nat.add_zero, reduceCtorEq, L_s_l13Trips, hr.len, hs]
    refine Does.call (does_s_l12Of K hc') ?_
    rintro _ H1 ⟨c1, G1, rfl, s1, r1⟩
    simp only [go_sem, Nat.reduceEqDiff, Nat.reduceAdd, Nat.reduceMul, Nat.reduceLeDiff, Int.reduceEq, Int.reduceLT, Int.reduceLE, Int.reduceAdd, Int.reduceSub, Int.reduceNeg, Int.reduceMul, Int.reduceToNat, Int.cast_ofNat_Int, Int.natCast_zero, Nat.add_zero, reduceCtorEq]
    exact hQ _ _ (Ends.ret rfl ⟨_, G1, rfl, s1, r1⟩)
theorem does_i_DeskTrips (K : Codes P I) {H : Heap} {cs : List C} {d : Desk} {F : List Nat} {f : Bool} (hd : RDesk H cs d F) : Does P I.i_DeskTrips [.agg cs, .c (.bool f)] H fun v H' => ∃ c' F', v = .val (.c c') ∧ Step [] H H' F' ∧ Trips H' c' (deskTripsV d f) F' := by
  obtain ⟨x0, x1, x2, x3, rfl⟩ := len4 hd.cells
  refine K.does K.i_DeskTrips rfl fun Q hQ => ?_
  simp only [go_sem, Nat.reduceEqDiff, Nat.reduceAdd, Nat.reduceMul, Nat.reduceLeDiff, Int.reduceEq, Int.reduceLT, Int.reduceLE, Int.reduceAdd, Int.reduceSub, Int.reduceNeg, Int.reduceMul, Int.reduceToNat, Int.cast_ofNat_Int, Int.natCast_zero, Nat.add_zero, reduceCtorEq, L_i_DeskTrips]
  refine Does.call (does_i_DeskOk K hd) ?_
  rintro _ H1 ⟨rfl, s1⟩
  replace s1 : Step [] H H1 [] := s1
  cases hok : deskOk d with
  | false =>
    simp only [go_sem, Nat.reduceEqDiff, Nat.reduceAdd, Nat.reduceMul, Nat.reduceLeDiff, Int.reduceEq, Int.reduceLT, Int.reduceLE, Int.reduceAdd, Int.reduceSub, Int.reduceNeg, Int.reduceMul, Int.reduceToNat, Int.cast_ofNat_Int, Int.natCast_zero, Nat.add_zero, reduceCtorEq]
    exact hQ _ _ (Ends.ret rfl ⟨.nil, [], rfl, s1, by simp only [deskTripsV, hok]; exact .nil⟩)
  | true =>
    simp only [go_sem, Nat.reduceEqDiff, Nat.reduceAdd, Nat.reduceMul, Nat.reduceLeDiff, Int.reduceEq, Int.reduceLT, Int.reduceLE, Int.reduceAdd, Int.reduceSub, Int.reduceNeg, Int.reduceMul, Int.reduceToNat, Int.cast_ofNat_Int, Int.natCast_zero, Nat.add_zero, reduceCtorEq]
    refine Does.call (does_i_Desk_trips K (f := f) (s1.stay RDesk.good hd) (deskOk_parts hok).2.1) ?_
    rintro _ H2 ⟨c1, G1, rfl, s2, r1⟩
    replace s2 : Step [] H1 H2 G1 := s2
    simp only [go_sem, Nat.reduceEqDiff, Nat.reduceAdd, Nat.reduceMul, Nat.reduceLeDiff, Int.reduceEq, Int.reduceLT, Int.reduceLE, Int.reduceAdd, Int.reduceSub, Int.reduceNeg, Int.reduceMul, Int.reduceToNat, Int.cast_ofNat_Int, Int.natCast_zero, Nat.add_zero, reduceCtorEq]
    exact hQ _ _ (Ends.ret rfl ⟨_, G1, rfl, s1.with s2, by simp only [deskTripsV, hok]; exact r1⟩)
theorem deskTripsV_ok (d : Desk) (f : Bool) : tripsOk (deskTripsV d f) = true := by
  unfold deskTripsV; split
  · rename_i h; exact tripsV_ok h f
  · rfl
end Go.AX

/- Desks anew: the program and the reference do the same. Condition: the data lie in memory. -/
namespace Go.AX
variable {P : Program} {I : Ids}
theorem nodup_le : ∀ (n : Nat) (l : List Nat), l.Nodup → (∀ x ∈ l, x < n) → l.length ≤ n
  | 0, l, _, h => by
    cases l with
    | nil => simp
    | cons a r => exact absurd (h a (by simp)) (by omega)
  | n + 1, l, hd, h => by
    have h1 := nodup_le n (l.erase n) (hd.erase n) fun x hx => by
      obtain ⟨h2, h3⟩ := (List.Nodup.mem_erase_iff hd).1 hx
      have := h x h3; omega
    by_cases hm : n ∈ l
    · have := List.length_erase_of_mem hm; omega
    · rw [List.erase_of_not_mem hm] at h1; omega
def codeW (w : Word) : Nat := (((w.kind - 4) * 3 + (w.house - 1)) * 6 + (w.trip - 1)).toNat
theorem told_len {n : Nat} {xs : List Word} (h : toldOk n xs = true) : xs.length ≤ 72 := by
  obtain ⟨h1, h2⟩ := told_parts h
  have hw : ∀ w ∈ xs, (4 ≤ w.kind ∧ w.kind ≤ 7) ∧ (1 ≤ w.house ∧ w.house ≤ 3) ∧ (1 ≤ w.trip ∧ w.trip ≤ 6) ∧ w.many = 0 := fun w hw => by
    obtain ⟨k1, k2, k3⟩ := h1 w hw
    obtain ⟨p1, p2, p3, p4, p5⟩ := wordOk_parts k1
    exact ⟨⟨k2, p1.2⟩, p2, p3, p5 (by omega)⟩
  have hd : (xs.map codeW).Nodup := by
    unfold List.Nodup
    rw [List.pairwise_map]
    refine List.Pairwise.imp_of_mem (fun {a b} ha hb hne he => hne ?_) h2
    have a1 := hw a ha
    have b1 := hw b hb
    unfold codeW at he
    exact Word.ext' (by omega) (by omega) (by omega) (by omega)
  have := nodup_le 72 (xs.map codeW) hd fun x hx => by
    simp only [List.mem_map] at hx
    obtain ⟨w, hm, rfl⟩ := hx
    have a1 := hw w hm
    unfold codeW; omega
  simpa only [List.length_map] using this
theorem desk_told {d : Desk} (h : deskOk d = true) : d.told.length ≤ 72 := told_len (deskOk_parts h).2.2.2
theorem rdesk0 {H : Heap} : RDesk H [.bool false, .nil, .int .i64 0, .nil] desk00 [] := ⟨.nil, .nil, [], [], rfl, rfl, .nil, .nil⟩
theorem does_i_Desk_copied (K : Codes P I) {H : Heap} {cs : List C} {d : Desk} {F : List Nat} (hd : RDesk H cs d F) (hok : deskOk d = true) : Does P I.i_Desk_copied [.agg cs] H fun v H' => ∃ cs' F', v = .val (.agg cs') ∧ Step [] H H' F' ∧ RDesk H' cs' d F' := by
  obtain ⟨c, t, F1, F2, rfl, rfl, hr, ht⟩ := hd
  refine K.does K.i_Desk_copied rfl fun Q hQ => ?_
  simp only [go_sem, Nat.reduceEqDiff, Nat.reduceAdd, Nat.reduceMul, Nat.reduceLeDiff, Int.reduceEq, Int.reduceLT, Int.reduceLE, Int.reduceAdd, Int.reduceSub, Int.reduceNeg, Int.reduceMul, Int.reduceToNat, Int.cast_ofNat_Int, Int.natCast_zero, Nat.add_zero, reduceCtorEq, L_i_Desk_copied]
  refine Does.call (does_i_Log_copied K (show RLog H [c, .int .i64 d.log.forced] d.log F1 from ⟨c, rfl, hr⟩) (logOk_small (deskOk_parts hok).2.1)) ?_
  rintro _ H1 ⟨cs1, G1, rfl, s1, c1, rfl, h1⟩
  replace s1 : Step [] H H1 G1 := s1
  simp only [go_sem, Nat.reduceEqDiff, Nat.reduceAdd, Nat.reduceMul, Nat.reduceLeDiff, Int.reduceEq, Int.reduceLT, Int.reduceLE, Int.reduceAdd, Int.reduceSub, Int.reduceNeg, Int.reduceMul, Int.reduceToNat, Int.cast_ofNat_Int, Int.natCast_zero, Nat.add_zero, reduceCtorEq]
  refine Does.call (does_g_Clone_Word K (s1.keepSl RWord.good ht (fun b _ => by simp)) (by have := desk_told hok; simp [lenMax]; omega)) ?_
  rintro _ H2 ⟨c2, G2, rfl, s2, h2⟩
  replace s2 : Step [] H1 H2 G2 := s2
  simp only [go_sem, Nat.reduceEqDiff, Nat.reduceAdd, Nat.reduceMul, Nat.reduceLeDiff, Int.reduceEq, Int.reduceLT, Int.reduceLE, Int.reduceAdd, Int.reduceSub, Int.reduceNeg, Int.reduceMul, Int.reduceToNat, Int.cast_ofNat_Int, Int.natCast_zero, Nat.add_zero, reduceCtorEq]
  exact hQ _ _ (Ends.ret rfl ⟨[.bool d.up, c1, .int .i64 d.log.forced, c2], G1 ++ G2, rfl, s1.with s2, c1, c2, G1, G2, rfl, rfl, s2.keepSl RRec.good h1 (fun b _ => by simp), h2⟩)
theorem does_s_l13Copy (K : Codes P I) {H : Heap} {cs : List C} {d : Desk} {F : List Nat} (hd : RDesk H cs d F) (hok : deskOk d = true) : Does P I.s_l13Copy [.agg cs] H fun v H' => ∃ cs' F', v = .val (.agg cs') ∧ Step [] H H' F' ∧ RDesk H' cs' d F' := by
  obtain ⟨c, t, F1, F2, rfl, rfl, hr, ht⟩ := hd
  refine K.does K.s_l13Copy rfl fun Q hQ => ?_
  simp only [go_sem, Nat.reduceEqDiff, Nat.reduceAdd, Nat.reduceMul, Nat.reduceLeDiff, Int.reduceEq, Int.reduceLT, Int.reduceLE, Int.reduceAdd, Int.reduceSub, Int.reduceNeg, Int.reduceMul, Int.reduceToNat, Int.cast_ofNat_Int, Int.natCast_zero, Nat.add_zero, reduceCtorEq, L_s_l13Copy]
  refine Does.call (does_s_l1Copy K (show RLog H [c, .int .i64 d.log.forced] d.log F1 from ⟨c, rfl, hr⟩) (logOk_small (deskOk_parts hok).2.1)) ?_
  rintro _ H1 ⟨cs1, G1, rfl, s1, c1, rfl, h1⟩
  replace s1 : Step [] H H1 G1 := s1
  obtain ⟨cells, c2, H2, G2, he, ha, h2, s2⟩ := copy_flat RWord.good RWord.flat (by decide) (s1.keepSl RWord.good ht (fun b _ => by simp)) (by have := desk_told hok; simp [lenMax]; omega)
  simp only [go_sem, Nat.reduceEqDiff, Nat.reduceAdd, Nat.reduceMul, Nat.reduceLeDiff, Int.reduceEq, Int.reduceLT, Int.reduceLE, Int.reduceAdd, Int.reduceSub, Int.reduceNeg, Int.reduceMul, Int.reduceToNat, Int.cast_ofNat_Int, Int.natCast_zero, Nat.add_zero, reduceCtorEq, he, ha]
  exact hQ _ _ (Ends.ret rfl ⟨[.bool d.up, c1, .int .i64 d.log.forced, c2], G1 ++ G2, rfl, s1.with s2, c1, c2, G1, G2, rfl, rfl, s2.keepSl RRec.good h1 (fun b _ => by simp), h2⟩)
end Go.AX

/- Desks that rise, force, fall: the program and the reference do the same. Condition: the data lie in memory. -/
namespace Go.AX
variable {P : Program} {I : Ids}
theorem does_i_DeskRise (K : Codes P I) {H : Heap} {cs : List C} {d : Desk} {F : List Nat} (hd : RDesk H cs d F) : Does P I.i_DeskRise [.agg cs] H fun v H' => ∃ cs' F', v = .val (.agg cs') ∧ Step [] H H' F' ∧ RDesk H' cs' (deskRiseV d) F' := by
  obtain ⟨x0, x1, x2, x3, rfl⟩ := len4 hd.cells
  refine K.does K.i_DeskRise rfl fun Q hQ => ?_
  simp only [go_sem, Nat.reduceEqDiff, Nat.reduceAdd, Nat.reduceMul, Nat.reduceLeDiff, Int.reduceEq, Int.reduceLT, Int.reduceLE, Int.reduceAdd, Int.reduceSub, Int.reduceNeg, Int.reduceMul, Int.reduceToNat, Int.cast_ofNat_Int, Int.natCast_zero, Nat.add_zero, reduceCtorEq, L_i_DeskRise]
  refine Does.call (does_i_DeskOk K hd) ?_
  rintro _ H1 ⟨rfl, s1⟩
  replace s1 : Step [] H H1 [] := s1
  cases hok : deskOk d with
  | false =>
    simp only [go_sem, Nat.reduceEqDiff, Nat.reduceAdd, Nat.reduceMul, Nat.reduceLeDiff, Int.reduceEq, Int.reduceLT, Int.reduceLE, Int.reduceAdd, Int.reduceSub, Int.reduceNeg, Int.reduceMul, Int.reduceToNat, Int.cast_ofNat_Int, Int.natCast_zero, Nat.add_zero, reduceCtorEq]
    exact hQ _ _ (Ends.ret rfl ⟨_, [], rfl, s1, by simp only [deskRiseV, hok]; exact rdesk0⟩)
  | true =>
    have hlok := (deskOk_parts hok).2.1
    simp only [go_sem, Nat.reduceEqDiff, Nat.reduceAdd, Nat.reduceMul, Nat.reduceLeDiff, Int.reduceEq, Int.reduceLT, Int.reduceLE, Int.reduceAdd, Int.reduceSub, Int.reduceNeg, Int.reduceMul, Int.reduceToNat, Int.cast_ofNat_Int, Int.natCast_zero, Nat.add_zero, reduceCtorEq]
    refine Does.call (does_i_Desk_copied K (s1.stay RDesk.good hd) hok) ?_
    rintro _ H2 ⟨cs2, F2, rfl, s2, c2, t2, G1, G2, rfl, rfl, h2, k2⟩
    replace s2 : Step [] H1 H2 (G1 ++ G2) := s2
    simp only [go_sem, Nat.reduceEqDiff, Nat.reduceAdd, Nat.reduceMul, Nat.reduceLeDiff, Int.reduceEq, Int.reduceLT, Int.reduceLE, Int.reduceAdd, Int.reduceSub, Int.reduceNeg, Int.reduceMul, Int.reduceToNat, Int.cast_ofNat_Int, Int.natCast_zero, Nat.add_zero, reduceCtorEq]
    exact hQ _ _ (Ends.ret rfl ⟨[.bool true, c2, .int .i64 d.log.forced, t2], G1 ++ G2, rfl, s1.with s2, by simp only [deskRiseV, hok]; exact ⟨c2, t2, G1, G2, rfl, rfl, h2, k2⟩⟩)
theorem does_s_DeskRise (K : Codes P I) {H : Heap} {cs : List C} {d : Desk} {F : List Nat} (hd : RDesk H cs d F) : Does P I.s_DeskRise [.agg cs] H fun v H' => ∃ cs' F', v = .val (.agg cs') ∧ Step [] H H' F' ∧ RDesk H' cs' (deskRiseV d) F' := by
  obtain ⟨x0, x1, x2, x3, rfl⟩ := len4 hd.cells
  refine K.does K.s_DeskRise rfl fun Q hQ => ?_
  simp only [go_sem, Nat.reduceEqDiff, Nat.reduceAdd, Nat.reduceMul, Nat.reduceLeDiff, Int.reduceEq, Int.reduceLT, Int.reduceLE, Int.reduceAdd, Int.reduceSub, Int.reduceNeg, Int.reduceMul, Int.reduceToNat, Int.cast_ofNat_Int, Int.natCast_zero, Nat.add_zero, reduceCtorEq, L_s_DeskRise]
  refine Does.call (does_s_DeskOk K hd) ?_
  rintro _ H1 ⟨rfl, s1⟩
  replace s1 : Step [] H H1 [] := s1
  cases hok : deskOk d with
  | false =>
    simp only [go_sem, Nat.reduceEqDiff, Nat.reduceAdd, Nat.reduceMul, Nat.reduceLeDiff, Int.reduceEq, Int.reduceLT, Int.reduceLE, Int.reduceAdd, Int.reduceSub, Int.reduceNeg, Int.reduceMul, Int.reduceToNat, Int.cast_ofNat_Int, Int.natCast_zero, Nat.add_zero, reduceCtorEq]
    exact hQ _ _ (Ends.ret rfl ⟨_, [], rfl, s1, by simp only [deskRiseV, hok]; exact rdesk0⟩)
  | true =>
    have hlok := (deskOk_parts hok).2.1
    simp only [go_sem, Nat.reduceEqDiff, Nat.reduceAdd, Nat.reduceMul, Nat.reduceLeDiff, Int.reduceEq, Int.reduceLT, Int.reduceLE, Int.reduceAdd, Int.reduceSub, Int.reduceNeg, Int.reduceMul, Int.reduceToNat, Int.cast_ofNat_Int, Int.natCast_zero, Nat.add_zero, reduceCtorEq]
    refine Does.call (does_s_l13Copy K (s1.stay RDesk.good hd) hok) ?_
    rintro _ H2 ⟨cs2, F2, rfl, s2, c2, t2, G1, G2, rfl, rfl, h2, k2⟩
    replace s2 : Step [] H1 H2 (G1 ++ G2) := s2
    simp only [go_sem, Nat.reduceEqDiff, Nat.reduceAdd, Nat.reduceMul, Nat.reduceLeDiff, Int.reduceEq, Int.reduceLT, Int.reduceLE, Int.reduceAdd, Int.reduceSub, Int.reduceNeg, Int.reduceMul, Int.reduceToNat, Int.cast_ofNat_Int, Int.natCast_zero, Nat.add_zero, reduceCtorEq]
    exact hQ _ _ (Ends.ret rfl ⟨[.bool true, c2, .int .i64 d.log.forced, t2], G1 ++ G2, rfl, s1.with s2, by simp only [deskRiseV, hok]; exact ⟨c2, t2, G1, G2, rfl, rfl, h2, k2⟩⟩)
theorem does_i_DeskFall (K : Codes P I) {H : Heap} {cs : List C} {d : Desk} {F : List Nat} {keep : Int} (hd : RDesk H cs d F) : Does P I.i_DeskFall [.agg cs, int keep] H fun v H' => ∃ cs' F', v = .val (.agg cs') ∧ Step [] H H' F' ∧ RDesk H' cs' (deskFallV d keep) F' := by
  obtain ⟨x0, x1, x2, x3, rfl⟩ := len4 hd.cells
  refine K.does K.i_DeskFall rfl fun Q hQ => ?_
  simp only [go_sem, Nat.reduceEqDiff, Nat.reduceAdd, Nat.reduceMul, Nat.reduceLeDiff, Int.reduceEq, Int.reduceLT, Int.reduceLE, Int.reduceAdd, Int.reduceSub, Int.reduceNeg, Int.reduceMul, Int.reduceToNat, Int.cast_ofNat_Int, Int.natCast_zero, Nat.add_zero, reduceCtorEq, L_i_DeskFall]
  refine Does.call (does_i_DeskOk K hd) ?_
  rintro _ H1 ⟨rfl, s1⟩
  replace s1 : Step [] H H1 [] := s1
  cases hok : deskOk d with
  | false =>
    simp only [go_sem, Nat.reduceEqDiff, Nat.reduceAdd, Nat.reduceMul, Nat.reduceLeDiff, Int.reduceEq, Int.reduceLT, Int.reduceLE, Int.reduceAdd, Int.reduceSub, Int.reduceNeg, Int.reduceMul, Int.reduceToNat, Int.cast_ofNat_Int, Int.natCast_zero, Nat.add_zero, reduceCtorEq]
    exact hQ _ _ (Ends.ret rfl ⟨_, [], rfl, s1, by simp only [deskFallV, hok]; exact rdesk0⟩)
  | true =>
    have hlok := (deskOk_parts hok).2.1
    obtain ⟨c, t, F1, F2, e, rfl, hr, ht⟩ := s1.stay RDesk.good hd
    cases e
    simp only [go_sem, Nat.reduceEqDiff, Nat.reduceAdd, Nat.reduceMul, Nat.reduceLeDiff, Int.reduceEq, Int.reduceLT, Int.reduceLE, Int.reduceAdd, Int.reduceSub, Int.reduceNeg, Int.reduceMul, Int.reduceToNat, Int.cast_ofNat_Int, Int.natCast_zero, Nat.add_zero, reduceCtorEq]
    refine Does.call (does_i_LogFall K (show RLog H1 [x1, .int .i64 d.log.forced] d.log F1 from ⟨x1, rfl, hr⟩)) ?_
    rintro _ H2 ⟨cs2, G, rfl, s2, c2, rfl, h2⟩
    replace s2 : Step [] H1 H2 G := s2
    rw [fallV_ok hlok] at h2
    simp only [go_sem, Nat.reduceEqDiff, Nat.reduceAdd, Nat.reduceMul, Nat.reduceLeDiff, Int.reduceEq, Int.reduceLT, Int.reduceLE, Int.reduceAdd, Int.reduceSub, Int.reduceNeg, Int.reduceMul, Int.reduceToNat, Int.cast_ofNat_Int, Int.natCast_zero, Nat.add_zero, reduceCtorEq, fallV_ok hlok]
    exact hQ _ _ (Ends.ret rfl ⟨[.bool false, c2, .int .i64 (fallL d.log keep).forced, .nil], G, rfl, s1.with s2, by simp only [deskFallV, hok]; exact ⟨c2, .nil, G, [], rfl, by simp, h2, .nil⟩⟩)
theorem does_s_l13Fall (K : Codes P I) {H : Heap} {cs : List C} {d : Desk} {F : List Nat} {keep : Int} (hd : RDesk H cs d F) (hlok : logOk d.log = true) : Does P I.s_l13Fall [.agg cs, int keep] H fun v H' => ∃ cs' F', v = .val (.agg cs') ∧ H' = H ∧ F'.Sublist F ∧ RDesk H' cs' ⟨false, fallL d.log keep, []⟩ F' := by
  obtain ⟨c, t, F1, F2, rfl, rfl, hr, ht⟩ := hd
  refine K.does K.s_l13Fall rfl fun Q hQ => ?_
  simp only [go_sem, Nat.reduceEqDiff, Nat.reduceAdd, Nat.reduceMul, Nat.reduceLeDiff, Int.reduceEq, Int.reduceLT, Int.reduceLE, Int.reduceAdd, Int.reduceSub, Int.reduceNeg, Int.reduceMul, Int.reduceToNat, Int.cast_ofNat_Int, Int.natCast_zero, Nat.add_zero, reduceCtorEq, L_s_l13Fall]
  refine Does.call (does_s_l1Fall K (show RLog H [c, .int .i64 d.log.forced] d.log F1 from ⟨c, rfl, hr⟩) hlok) ?_
  rintro _ _ ⟨cs3, F3, rfl, rfl, hsub, c3, rfl, h3⟩
  rw [fallV_ok hlok] at h3
  simp only [go_sem, Nat.reduceEqDiff, Nat.reduceAdd, Nat.reduceMul, Nat.reduceLeDiff, Int.reduceEq, Int.reduceLT, Int.reduceLE, Int.reduceAdd, Int.reduceSub, Int.reduceNeg, Int.reduceMul, Int.reduceToNat, Int.cast_ofNat_Int, Int.natCast_zero, Nat.add_zero, reduceCtorEq, fallV_ok hlok]
  exact hQ _ _ (Ends.ret rfl ⟨[.bool false, c3, .int .i64 (fallL d.log keep).forced, .emp true], F3, rfl, rfl, hsub.trans (List.sublist_append_left _ _), c3, .emp true, F3, [], rfl, by simp, h3, .emp⟩)
end Go.AX

/- Desks that write down: the reference. Condition: the data lie in memory. -/
namespace Go.AX
variable {P : Program} {I : Ids}
theorem does_s_l13Write (K : Codes P I) {H : Heap} {cs ds : List C} {d : Desk} {r : Rec} {F G : List Nat} (hd : RDesk H cs d F) (hr : RRec H ds r G) (ho : Owned H (F ++ G)) (hok : deskOk d = true) (hrk : recOk r = true) :
    Does P I.s_l13Write [.agg cs, .agg ds] H fun v H' => ∃ cs' F', v = .tup [.agg cs', .c (.bool (deskWrote d r))] ∧ Step (F ++ G) H H' F' ∧ RDesk H' cs' (deskWrite d r) F' := by
  have hd0 := hd
  obtain ⟨c, t, F1, F2, rfl, rfl, hl, ht⟩ := hd
  obtain ⟨y0, y1, y2, rfl⟩ := len3 hr.cells
  have hlok := (deskOk_parts hok).2.1
  have hbk : Step ((F1 ++ F2) ++ G) H H (F1 ++ F2) := ho.step.less (List.sublist_append_left _ _)
  refine K.does K.s_l13Write rfl fun Q hQ => ?_
  simp only [go_sem, Nat.reduceEqDiff, Nat.reduceAdd, Nat.reduceMul, Nat.reduceLeDiff, Int.reduceEq, Int.reduceLT, Int.reduceLE, Int.reduceAdd, Int.reduceSub, Int.reduceNeg, Int.reduceMul, Int.reduceToNat, Int.cast_ofNat_Int, Int.natCast_zero, Nat.add_zero, reduceCtorEq, L_s_l13Write]
  cases hup : d.up with
  | false =>
    have hm : deskMay d r = false := by simp [deskMay, hup]
    simp only [go_sem, Nat.reduceEqDiff, Nat.reduceAdd, Nat.reduceMul, Nat.reduceLeDiff, Int.reduceEq, Int.reduceLT, Int.reduceLE, Int.reduceAdd, Int.reduceSub, Int.reduceNeg, Int.reduceMul, Int.reduceToNat, Int.cast_ofNat_Int, Int.natCast_zero, Nat.add_zero, reduceCtorEq, hup]
    exact hQ _ _ (Ends.ret rfl ⟨[.bool false, c, .int .i64 d.log.forced, t], F1 ++ F2, by simp [tupOf, deskWrote, hm], hbk, by rw [deskWrite, if_neg (by simp [hm])]; exact ⟨c, t, F1, F2, by rw [hup], rfl, hl, ht⟩⟩)
  | true =>
    rw [hup] at hd0
    simp only [go_sem, Nat.reduceEqDiff, Nat.reduceAdd, Nat.reduceMul, Nat.reduceLeDiff, Int.reduceEq, Int.reduceLT, Int.reduceLE, Int.reduceAdd, Int.reduceSub, Int.reduceNeg, Int.reduceMul, Int.reduceToNat, Int.cast_ofNat_Int, Int.natCast_zero, Nat.add_zero, reduceCtorEq, hup]
    refine Does.call (does_s_l13Trips K (f := false) hd0 hlok) ?_
    rintro _ H1 ⟨c1, G1, rfl, s1, h1⟩
    replace s1 : Step [] H H1 G1 := s1
    have hr1 := s1.stay RRec.good hr
    have hl1 : Recs H1 c d.log.recs F1 := s1.keepSl RRec.good hl (fun b _ => by simp)
    have ht1 : Words H1 t d.told F2 := s1.keepSl RWord.good ht (fun b _ => by simp)
    have b1 : Step ((F1 ++ F2) ++ G) H H1 ((F1 ++ F2) ++ G) := (ho.step.with s1).part (fun a => by simp only [List.count_append, List.count_nil, List.count_cons]; omega)
    simp only [go_sem, Nat.reduceEqDiff, Nat.reduceAdd, Nat.reduceMul, Nat.reduceLeDiff, Int.reduceEq, Int.reduceLT, Int.reduceLE, Int.reduceAdd, Int.reduceSub, Int.reduceNeg, Int.reduceMul, Int.reduceToNat, Int.cast_ofNat_Int, Int.natCast_zero, Nat.add_zero, reduceCtorEq]
    refine Does.test (does_s_l12May K h1 hr1 hrk) ?_
    cases hm0 : tripMayB (tripsV d false) r with
    | false =>
      have hm : deskMay d r = false := by simp [deskMay, hm0]
      simp only [go_sem, Nat.reduceEqDiff, Nat.reduceAdd, Nat.reduceMul, Nat.reduceLeDiff, Int.reduceEq, Int.reduceLT, Int.reduceLE, Int.reduceAdd, Int.reduceSub, Int.reduceNeg, Int.reduceMul, Int.reduceToNat, Int.cast_ofNat_Int, Int.natCast_zero, Nat.add_zero, reduceCtorEq]
      exact hQ _ _ (Ends.ret rfl ⟨[.bool true, c, .int .i64 d.log.forced, t], F1 ++ F2, by simp [tupOf, deskWrote, hm], b1.part (fun a => by simp only [List.count_append, List.count_nil, List.count_cons]; omega), by rw [deskWrite, if_neg (by simp [hm])]; exact ⟨c, t, F1, F2, by rw [hup], rfl, hl1, ht1⟩⟩)
    | true =>
      have hm : deskMay d r = true := by simp [deskMay, hm0, hup]
      have own : Owned H1 (F2 ++ (F1 ++ G)) := b1.owned.part (fun a => by simp only [List.count_append, List.count_nil, List.count_cons]; omega)
      have b2 : Step ((F1 ++ F2) ++ G) H H1 (F2 ++ (F1 ++ G)) := b1.part (fun a => by simp only [List.count_append, List.count_nil, List.count_cons]; omega)
      simp only [go_sem, Nat.reduceEqDiff, Nat.reduceAdd, Nat.reduceMul, Nat.reduceLeDiff, Int.reduceEq, Int.reduceLT, Int.reduceLE, Int.reduceAdd, Int.reduceSub, Int.reduceNeg, Int.reduceMul, Int.reduceToNat, Int.cast_ofNat_Int, Int.natCast_zero, Nat.add_zero, reduceCtorEq]
      refine Does.call (does_s_l1Add K (show RLog H1 [c, .int .i64 d.log.forced] d.log F1 from ⟨c, rfl, hl1⟩) hr1 own.right) ?_
      rintro _ H2 ⟨cs2, G2, rfl, s2, c2, rfl, h2⟩
      replace s2 : Step (F1 ++ G) H1 H2 G2 := s2
      have ht2 : Words H2 t d.told F2 := s2.keepSl RWord.good ht1 own.disj
      simp only [go_sem, Nat.reduceEqDiff, Nat.reduceAdd, Nat.reduceMul, Nat.reduceLeDiff, Int.reduceEq, Int.reduceLT, Int.reduceLE, Int.reduceAdd, Int.reduceSub, Int.reduceNeg, Int.reduceMul, Int.reduceToNat, Int.cast_ofNat_Int, Int.natCast_zero, Nat.add_zero, reduceCtorEq]
      exact hQ _ _ (Ends.ret rfl ⟨[.bool true, c2, .int .i64 (addL d.log r).forced, t], G2 ++ F2, by simp [tupOf, deskWrote, hm, addB], (b2.beside s2 rfl).part (fun a => by simp only [List.count_append, List.count_nil, List.count_cons]; omega), by rw [deskWrite, if_pos hm]; exact ⟨c2, t, G2, F2, by rw [← hup], rfl, h2, ht2⟩⟩)
end Go.AX

/- Desks that write down: the program. Condition: the data lie in memory. -/
namespace Go.AX
variable {P : Program} {I : Ids}
end Go.AX

/- A trip that is given up: the program and the reference do the same. Condition: the data lie in memory. -/
namespace Go.AX
variable {P : Program} {I : Ids}
theorem give_ok {t : Int} (h : inB t 1 6 = true) : recOk (giveRec t) = true := by
  simp only [inB, Bool.and_eq_true, decide_eq_true_eq] at h
  simp [recOk, giveRec, inB, h]
end Go.AX

/- A trip that is given up: the program. Condition: the data lie in memory. -/
namespace Go.AX
variable {P : Program} {I : Ids}
@[go_sem] theorem wr_new {H : Heap} {st : St} {n : Nat} {cs cs' : List C} : Heap.wr (H ++ [⟨st, n, cs⟩]) H.length cs' = H ++ [⟨st, n, cs'⟩] := by
  unfold Heap.wr; simp
theorem desk_new {H0 H : Heap} {cs : List C} {d : Desk} {F : List Nat} (s : Step [] H0 H F) (hd : RDesk H cs d F) : (H ++ [⟨.rw, 4, cs⟩])[H.length]? = some ⟨.rw, 4, cs⟩ ∧ Step [] H0 (H ++ [⟨.rw, 4, cs⟩]) (H.length :: F) ∧ RDesk (H ++ [⟨.rw, 4, cs⟩]) cs d F := by
  have s2 := step_new (H := H) (n := 4) (cs := cs)
  exact ⟨by simp, (s.with s2).part (fun a => by simp only [List.count_append, List.count_nil, List.count_cons]; omega), s2.stay RDesk.good hd⟩
end Go.AX

/- The exact laws of houses (but to hear) hold. Condition: the arguments lie in memory. -/
namespace Go.AX
variable {P : Program} {I : Ids}
theorem houseRise_small (h : House) : Small (houseRiseV h).log := by
  unfold houseRiseV; split
  · rename_i k; exact logOk_small (houseOk_parts k).2.1
  · exact small_log0
theorem houseForce_small (h : House) : Small (houseForceV h).log := by
  unfold houseForceV; split
  · rename_i k
    have := (houseOk_parts k).2.1
    split
    · exact logOk_small (force_ok this)
    · exact logOk_small this
  · exact small_log0
theorem houseFall_small (h : House) (n : Int) : Small (houseFallV h n).log := by
  unfold houseFallV; split
  · rename_i k; exact logOk_small (fall_ok (houseOk_parts k).2.1 n)
  · exact small_log0
end Go.AX

/- The exact laws hold of desks that rise, force, fall. Condition: the arguments lie in memory. -/
namespace Go.AX
variable {P : Program} {I : Ids}
def DSmall (d : Desk) : Prop := Small d.log ∧ d.told.length ≤ 72
theorem cnt_desk {d : Desk} (h : DSmall d) : sumL cntRec d.log.recs + sumL four d.told ≤ 4194304 := by
  have h1 := sumL_bound (f := cntRec) (xs := d.log.recs) (N := 66) fun r hr => by
    have := h.1.2 r hr
    simp only [cntRec, sumL_one]; omega
  have h2 : d.log.recs.length * 66 ≤ 64 * 66 := Nat.mul_le_mul_right _ h.1.1
  have h3 := sumL_four d.told
  have h4 := h.2
  omega
theorem dsmall00 : DSmall desk00 := ⟨small_log0, by simp [desk00]⟩
theorem dsmall_ok {d : Desk} (h : deskOk d = true) : DSmall d := ⟨logOk_small (deskOk_parts h).2.1, desk_told h⟩
theorem deskRise_small (d : Desk) : DSmall (deskRiseV d) := by
  unfold deskRiseV; split
  · rename_i h
    have g := dsmall_ok h
    exact ⟨g.1, g.2⟩
  · exact dsmall00
theorem deskForce_small (d : Desk) : DSmall (deskForceV d) := by
  unfold deskForceV; split
  · rename_i h
    split
    · have g := dsmall_ok h
      exact ⟨⟨g.1.1, g.1.2⟩, g.2⟩
    · exact dsmall_ok h
  · exact dsmall00
theorem deskFall_small (d : Desk) (k : Int) : DSmall (deskFallV d k) := by
  unfold deskFallV; split
  · rename_i h
    have hs := (dsmall_ok h).1
    refine ⟨⟨?_, fun r hr => hs.2 r (List.mem_of_mem_take hr)⟩, by simp⟩
    have := hs.1
    simp only [fallL, List.length_take]; omega
  · exact dsmall00
end Go.AX

/- The exact law holds of who gives up. Condition: the arguments lie in memory. -/
namespace Go.AX
variable {P : Program} {I : Ids}
theorem deskWrite_small {d : Desk} {r : Rec} (h : deskOk d = true) (hr : r.many.length ≤ 64) : DSmall (deskWrite d r) := by
  have g := dsmall_ok h
  have hl := (logOk_parts (deskOk_parts h).2.1).2.1
  unfold deskWrite; split
  · refine ⟨?_, g.2⟩
    show Small (addL d.log r)
    unfold addL; split
    · exact g.1
    · refine ⟨by simp; omega, fun x hx => ?_⟩
      simp only [List.mem_append, List.mem_singleton] at hx
      rcases hx with hx | rfl
      · exact g.1.2 x hx
      · exact hr
  · exact g
theorem deskGive_small (d : Desk) (t : Int) : DSmall (deskGiveV d t) := by
  unfold deskGiveV; split
  · rename_i h
    simp only [deskGiveGo, Bool.and_eq_true] at h
    exact deskWrite_small h.1 (by simp [giveRec])
  · exact dsmall00
end Go.AX

/- A trip that is begun: the program and the reference do the same. Condition: the data lie in memory. -/
namespace Go.AX
variable {P : Program} {I : Ids}
end Go.AX

/- A trip that is begun: the reference. Condition: the data lie in memory. -/
namespace Go.AX
variable {P : Program} {I : Ids}
end Go.AX

/- The exact law holds of who begins. Condition: the arguments lie in memory. -/
namespace Go.AX
variable {P : Program} {I : Ids}
theorem deskBegin_small (d : Desk) (many : List Int) : DSmall (deskBeginV d many) := by
  unfold deskBeginV; split
  · rename_i h
    simp only [deskBeginGo, Bool.and_eq_true] at h
    exact deskWrite_small h.1 (Nat.le_trans (recOk_many h.2) (by decide))
  · exact dsmall00
end Go.AX

/- What a desk that hears computes. No condition: plain Lean. -/
namespace Go.AX
theorem anyT_app {told : List Word} {k t : Int} (xs ys : List Int) (s : Nat) : anyT told k t (xs ++ ys) s = (anyT told k t xs s || anyT told k t ys (s + xs.length)) := by
  induction xs generalizing s with
  | nil => simp [anyT]
  | cons x r ih =>
    simp only [List.cons_append, anyT, ih, List.length_cons, Bool.or_assoc]
    rw [show s + 1 + r.length = s + (r.length + 1) by omega]
theorem allT_app {told : List Word} {k t : Int} (xs ys : List Int) (s : Nat) : allT told k t (xs ++ ys) s = (allT told k t xs s && allT told k t ys (s + xs.length)) := by
  induction xs generalizing s with
  | nil => simp [allT]
  | cons x r ih =>
    simp only [List.cons_append, allT, ih, List.length_cons, Bool.and_assoc]
    rw [show s + 1 + r.length = s + (r.length + 1) by omega]
theorem anyT_take {told : List Word} {k t : Int} {xs : List Int} {i : Nat} {n : Int} (h : xs[i]? = some n) : anyT told k t (xs.take (i + 1)) 0 = (anyT told k t (xs.take i) 0 || (decide (n ≠ 0) && toldB told k ((i + 1 : Nat) : Int) t)) := by
  have hi : i < xs.length := (List.getElem?_eq_some_iff.1 h).1
  rw [take_snoc h, anyT_app]
  simp [anyT, List.length_take, Nat.min_eq_left (Nat.le_of_lt hi)]
theorem allT_take {told : List Word} {k t : Int} {xs : List Int} {i : Nat} {n : Int} (h : xs[i]? = some n) : allT told k t (xs.take (i + 1)) 0 = (allT told k t (xs.take i) 0 && (decide (n = 0) || toldB told k ((i + 1 : Nat) : Int) t)) := by
  have hi : i < xs.length := (List.getElem?_eq_some_iff.1 h).1
  rw [take_snoc h, allT_app]
  simp [allT, List.length_take, Nat.min_eq_left (Nat.le_of_lt hi)]
theorem anyT_of {told : List Word} {k t : Int} {xs : List Int} {i : Nat} (h : anyT told k t (xs.take i) 0 = true) : anyT told k t xs 0 = true := by
  rw [← List.take_append_drop i xs, anyT_app, h]; rfl
theorem allT_not {told : List Word} {k t : Int} {xs : List Int} {i : Nat} (h : allT told k t (xs.take i) 0 = false) : allT told k t xs 0 = false := by
  rw [← List.take_append_drop i xs, allT_app, h]; rfl
theorem tripsV_len (d : Desk) : (tripsV d false).length = (tripsD d.log.recs).length := by simp [tripsV, known]
theorem hears_parts {d : Desk} {w : Word} (hh : deskHearsB d w = true) : d.up = true ∧ wordOk w = true ∧ 4 ≤ w.kind ∧ w.trip ≤ (tripsV d false).length := by
  simpa only [deskHearsB, Bool.and_eq_true, decide_eq_true_eq] using hh
theorem tell_ok {d : Desk} {w : Word} (h : deskOk d = true) (hh : deskHearsB d w = true) : deskOk (tellD d w) = true := by
  have hp := deskOk_parts h
  obtain ⟨hu, hw, hk, ht⟩ := hears_parts hh
  rw [tripsV_len] at ht
  unfold tellD; split
  · exact h
  · rename_i hm
    obtain ⟨g1, g2⟩ := told_parts hp.2.2.2
    have hn : (d.told ++ [w]).Nodup := by
      rw [List.nodup_append]
      exact ⟨g2, by simp, fun a ha b hb e => hm (by simp only [List.mem_singleton] at hb; subst hb; subst e; exact ha)⟩
    have ht : toldOk (tripsD d.log.recs).length (d.told ++ [w]) = true := told_of (fun x hx => by
      rcases List.mem_append.1 hx with hx | hx
      · exact g1 x hx
      · rw [List.mem_singleton] at hx; subst hx; exact ⟨hw, hk, ht⟩) hn
    obtain ⟨l, hl⟩ := hp.2.2.1
    simp [deskOk, hu, hp.2.1, hl, ht]
theorem tell_log (d : Desk) (w : Word) : (tellD d w).log = d.log := by unfold tellD; split <;> rfl
theorem tell_trips (d : Desk) (w : Word) (f : Bool) : tripsV (tellD d w) f = tripsV d f := by unfold tripsV; rw [tell_log]
theorem decide_small {d : Desk} {trip : Int} (h : deskOk d = true) : DSmall (decideD d trip) := by
  unfold decideD; split
  · exact dsmall_ok h
  · exact deskWrite_small h (by simp)
theorem deskHear_small (d : Desk) (w : Word) : DSmall (deskHearV d w) := by
  unfold deskHearV; split
  · rename_i h
    unfold hearD; split
    · rename_i hh
      exact decide_small (tell_ok h hh)
    · exact dsmall_ok h
  · exact dsmall00
/-- The trip of which a desk that is ok hears. -/
theorem tripAt_get {d : Desk} (h : deskOk d = true) {t : Int} (h1 : 1 ≤ t) (h2 : t ≤ (tripsV d false).length) : ∃ i : Nat, t = (i : Nat) + 1 ∧ i < (tripsV d false).length ∧ (tripsV d false)[i]? = some (tripAt (tripsV d false) t) ∧ manyOk (tripAt (tripsV d false) t).many = true ∧ 1 ≤ (tripAt (tripsV d false) t).state := by
  have hlt : (t - 1).toNat < (tripsV d false).length := by omega
  have hg : (tripsV d false)[(t - 1).toNat]? = some (tripAt (tripsV d false) t) := by
    unfold tripAt; rw [List.getElem?_eq_getElem hlt]; rfl
  obtain ⟨_, hall⟩ := tripsOk_parts (tripsV_ok h false)
  have ha := hall _ (List.mem_of_getElem? hg)
  exact ⟨(t - 1).toNat, by omega, hlt, hg, ha.1, ha.2.1⟩
theorem manyOk_nonneg {ms : List Int} (h : manyOk ms = true) : ∀ n ∈ ms, 0 ≤ n := by
  simp only [manyOk, inB, Bool.and_eq_true, decide_eq_true_eq, List.all_eq_true] at h
  exact fun n hn => (h.2.1 n hn).1
theorem endRec_ok {k t : Int} (hk : 5 ≤ k ∧ k ≤ 7) (h : 1 ≤ t ∧ t ≤ 6) : recOk ⟨k, t, []⟩ = true := by
  have h1 : ¬ k = 1 := by omega
  have h2 : ¬ k = 4 := by omega
  have h3 : 2 ≤ k := by omega
  simp [recOk, inB, h, h1, h2, h3, hk.2]
end Go.AX

/- The exact law of new worlds holds. Condition: the arguments lie in memory. -/
namespace Go.AX
variable {P : Program} {I : Ids}
theorem houseNew_recs (id room : Int) : (houseNewV id room).log.recs = [] := by
  unfold houseNewV; split <;> rfl
theorem houses_cnt : ∀ (l : List House), (∀ h ∈ l, h.log.recs = []) → sumL cntHouse l = 4 * l.length
  | [], _ => rfl
  | h :: r, k => by
    have h1 := houses_cnt r fun x hx => k x (by simp [hx])
    have h2 : cntHouse h = 4 := by unfold cntHouse; rw [k h (by simp)]; rfl
    simp only [sumL, List.map_cons, List.sum_cons, List.length_cons] at h1 ⊢; omega
theorem cnt_world {w : Wld} (h : cntWld w ≤ 4194304) : cntWld w ≤ 4194304 := h
theorem worldNew_small (rooms : List Int) : cntWld (worldNewV rooms) ≤ 4194304 := by
  unfold worldNewV
  split
  · rename_i hg
    have hl : rooms.length = 3 := by
      simp only [worldNewOk, Bool.and_eq_true, decide_eq_true_eq] at hg; exact hg.2
    have h1 := houses_cnt (housesN rooms rooms.length) (fun h hh => by
      simp only [housesN, List.mem_map] at hh
      obtain ⟨p, _, rfl⟩ := hh
      exact houseNew_recs _ _)
    have h2 : (housesN rooms rooms.length).length = 3 := by simp [housesN, hl]
    have h3 : cntWld ⟨desk0, housesN rooms rooms.length, []⟩ = 0 + 0 + (sumL cntHouse (housesN rooms rooms.length) + 0) := rfl
    rw [h3, h1, h2]; decide
  · decide
end Go.AX

/- Worlds that are ok: the program and the reference do the same. Condition: the data lie in memory. -/
namespace Go.AX
variable {P : Program} {I : Ids}
def housesOk (l : List House) : Bool := l.zipIdx.all fun p => houseOk p.1 && decide (p.1.id = ((p.2 + 1 : Nat) : Int))
def worldOk (w : Wld) : Bool := deskOk w.desk && (decide (w.houses.length = 3) && (decide (w.nets.length ≤ 14) && (housesOk w.houses && w.nets.all wordOk)))
theorem housesOk_iff {l : List House} : housesOk l = true ↔ ∀ (i : Nat) (h : House), l[i]? = some h → houseOk h = true ∧ h.id = ((i + 1 : Nat) : Int) := by
  simp only [housesOk, List.all_eq_true, Bool.and_eq_true, decide_eq_true_eq]
  exact ⟨fun g i h hi => g (h, i) (List.mem_zipIdx_iff_getElem?.2 hi), fun g p hp => g p.2 p.1 (List.mem_zipIdx_iff_getElem?.1 hp)⟩
theorem housesOk_bad {l : List House} {i : Nat} {h : House} (hi : l[i]? = some h) (hb : ¬ (houseOk h = true ∧ h.id = ((i + 1 : Nat) : Int))) : housesOk l = false := by
  cases hc : housesOk l with
  | false => rfl
  | true => exact absurd (housesOk_iff.1 hc i h hi) hb
theorem RWld.parts {H : Heap} {cs : List C} {w : Wld} {F : List Nat} (h : RWld H cs w F) : ∃ y0 y1 y2 y3 c n F1 F2 F3, cs = [y0, y1, y2, y3, c, n] ∧ F = F1 ++ (F2 ++ F3) ∧ RDesk H [y0, y1, y2, y3] w.desk F1 ∧ Houses H c w.houses F2 ∧ Words H n w.nets F3 := by
  obtain ⟨ds, c, n, F1, F2, F3, rfl, rfl, hd, hh, hn⟩ := h
  obtain ⟨y0, y1, y2, y3, rfl⟩ := len4 hd.cells
  exact ⟨y0, y1, y2, y3, c, n, F1, F2, F3, rfl, rfl, hd, hh, hn⟩
theorem RWld.of {H : Heap} {y0 y1 y2 y3 c n : C} {w : Wld} {F1 F2 F3 : List Nat} (hd : RDesk H [y0, y1, y2, y3] w.desk F1) (hh : Houses H c w.houses F2) (hn : Words H n w.nets F3) : RWld H [y0, y1, y2, y3, c, n] w (F1 ++ (F2 ++ F3)) :=
  ⟨[y0, y1, y2, y3], c, n, F1, F2, F3, rfl, rfl, hd, hh, hn⟩
end Go.AX

/- What stays so of desks, houses and worlds, whatever happens. No condition: plain Lean. -/
namespace Go.AX
theorem deskOk_of {d : Desk} {l : List Trip} (h1 : d.up = false → d.told = []) (h2 : logOk d.log = true) (h3 : tripsOf d.log.recs = some l) (h4 : toldOk l.length d.told = true) : deskOk d = true := by
  have h5 : tripsD d.log.recs = l := by simp [tripsD, h3]
  cases hu : d.up with
  | true => simp [deskOk, hu, h2, h3, h5, h4]
  | false => simp [deskOk, hu, h1 hu, h2, h3]; rw [h1 hu, h5] at *; exact h4
theorem told_more {n m : Nat} {xs : List Word} (h : toldOk n xs = true) (hn : n ≤ m) : toldOk m xs = true := by
  obtain ⟨g1, g2⟩ := told_parts h
  exact told_of (fun w hw => ⟨(g1 w hw).1, (g1 w hw).2.1, by have := (g1 w hw).2.2; omega⟩) g2
theorem deskOk_facts {d : Desk} (h : deskOk d = true) : ∃ l, tripsOf d.log.recs = some l ∧ tripsV d false = l ∧ toldOk l.length d.told = true := by
  obtain ⟨_, _, ⟨l, hl⟩, h4⟩ := deskOk_parts h
  have e : tripsD d.log.recs = l := by simp [tripsD, hl]
  rw [e] at h4
  exact ⟨l, hl, by simp [tripsV, known, e], h4⟩
theorem deskWrite_ok {d : Desk} {r : Rec} (h : deskOk d = true) (hr : recOk r = true) : deskOk (deskWrite d r) = true := by
  unfold deskWrite; split
  · rename_i hm
    obtain ⟨p1, p2, _, _⟩ := deskOk_parts h
    obtain ⟨l, hl, hv, ht⟩ := deskOk_facts h
    obtain ⟨g1, g2, g3, g4⟩ := logOk_parts p2
    simp only [deskMay, hv, Bool.and_eq_true] at hm
    unfold addL' addL; split
    · exact h
    · rename_i hlen
      have hs : tripsOf (d.log.recs ++ [r]) = some (tripsDoL l r) := by
        rw [tripsOf_snoc, hl]; simp [tripsStep, hr, hm.2]
      refine deskOk_of (l := tripsDoL l r) p1 (logOk_of ?_ (by simp; omega) g3 (by simp; omega)) hs (told_more ht ?_)
      · intro x hx
        simp only [List.mem_append, List.mem_singleton] at hx
        rcases hx with hx | rfl
        · exact g1 x hx
        · exact hr
      · unfold tripsDoL; split
        · simp
        · simp
  · exact h
theorem decide_ok {d : Desk} {trip : Int} (h : deskOk d = true) (ht : 1 ≤ trip ∧ trip ≤ 6) : deskOk (decideD d trip) = true := by
  unfold decideD; split
  · exact h
  · rename_i hk
    refine deskWrite_ok h (endRec_ok ?_ ht)
    unfold decideK at hk ⊢
    simp only at hk ⊢
    (repeat' split at hk) <;> (repeat' split) <;> first | omega | simp_all
theorem hear_ok {d : Desk} {w : Word} (h : deskOk d = true) : deskOk (hearD d w) = true := by
  unfold hearD; split
  · rename_i hh
    obtain ⟨_, hw, _⟩ := hears_parts hh
    exact decide_ok (tell_ok h hh) (wordOk_parts hw).2.2.1
  · exact h
theorem forceL_ok {l : Log} (h : logOk l = true) : logOk (forceL l) = true := by
  obtain ⟨g1, g2, g3, g4⟩ := logOk_parts h
  exact logOk_of g1 g2 (by simp [forceL]) (by simp [forceL])
theorem fallL_ok {l : Log} {k : Int} (h : logOk l = true) : logOk (fallL l k) = true := by
  obtain ⟨g1, g2, g3, g4⟩ := logOk_parts h
  have hn := fallN_le h k
  refine logOk_of (fun r hr => g1 r (List.mem_of_mem_take hr)) ?_ ?_ ?_
  · show (l.recs.take (fallN l k)).length ≤ 40
    rw [List.length_take]; omega
  · show (0 : Int) ≤ ((fallN l k : Nat) : Int)
    omega
  · show ((fallN l k : Nat) : Int) ≤ ((l.recs.take (fallN l k)).length : Nat)
    rw [List.length_take]; omega
theorem deskForce_ok {d : Desk} (h : deskOk d = true) : deskOk { d with log := forceL d.log } = true := by
  obtain ⟨p1, p2, _, _⟩ := deskOk_parts h
  obtain ⟨l, hl, hv, ht⟩ := deskOk_facts h
  exact deskOk_of (l := l) p1 (forceL_ok p2) hl ht
theorem deskFall_ok {d : Desk} {k : Int} (h : deskOk d = true) : deskOk ⟨false, fallL d.log k, []⟩ = true := by
  obtain ⟨p1, p2, _, _⟩ := deskOk_parts h
  obtain ⟨l, hl, hv, ht⟩ := deskOk_facts h
  obtain ⟨t, ht'⟩ := tripsOf_take hl (fallN d.log k)
  exact deskOk_of (l := t) (fun _ => rfl) (fallL_ok p2) ht' rfl
theorem deskRise_ok {d : Desk} (h : deskOk d = true) : deskOk { d with up := true } = true := by
  obtain ⟨p1, p2, _, _⟩ := deskOk_parts h
  obtain ⟨l, hl, hv, ht⟩ := deskOk_facts h
  exact deskOk_of (l := l) (fun e => by cases e) p2 hl ht
theorem houseForce_ok {h : House} (k : houseOk h = true) : houseOk { h with log := forceL h.log } = true := by
  obtain ⟨p1, p2, s, hs⟩ := houseOk_parts k
  exact houseOk_of (h := { h with log := forceL h.log }) p1 (forceL_ok p2) hs
theorem houseFall_ok {h : House} {n : Int} (k : houseOk h = true) : houseOk { h with up := false, log := fallL h.log n } = true := by
  obtain ⟨p1, p2, s, hs⟩ := houseOk_parts k
  obtain ⟨t, ht⟩ := stockOf_take hs (fallN h.log n)
  exact houseOk_of (h := { h with up := false, log := fallL h.log n }) p1 (fallL_ok p2) ht
theorem houseRise_ok {h : House} (k : houseOk h = true) : houseOk { h with up := true } = true := by
  obtain ⟨p1, p2, s, hs⟩ := houseOk_parts k
  exact houseOk_of (h := { h with up := true }) p1 p2 hs
theorem hearH_id (h : House) (w : Word) : (hearH h w).id = h.id := by unfold hearH; split <;> (try split) <;> rfl
end Go.AX

/- Elements of slices that are changed; appends of many; parts of worlds that change. Condition: the data lie in memory. -/
namespace Go.AX
/-- An element, where it lies, and what becomes where it changes, and a part of it is stored. -/
theorem sl_set {α : Type} {n : Nat} {R : RepS α} (hR : Good R) {H : Heap} {c : C} {xs : List α} {F : List Nat} (h : SlR n R H c xs F) (ho : Owned H F) {i : Nat} {x : α} (hi : xs[i]? = some x) :
    ∃ b off bs cs f A B, c = .sl b off xs.length ∧ H[b]? = some ⟨.rw, n, bs⟩ ∧ slab bs (off + i * n) n = some cs ∧ cs.length = n ∧ R H cs x f ∧ Owned H f ∧
      ∀ (H1 : Heap) (f' : List Nat) (x' : α) (j : Nat) (v : List C), Step f H H1 f' → j + v.length ≤ n → R H1 (splice cs j v) x' f' →
        ∃ H2, H1.live b = some bs ∧ H1.own b = some (n, bs) ∧ off + i * n + j + v.length ≤ bs.length ∧ H1.wr b (splice bs (off + i * n + j) v) = H2 ∧ SlR n R H2 c (xs.set i x') (A ++ f' ++ B) ∧ Step F H H2 (A ++ f' ++ B) := by
  obtain ⟨b, off, bs, cs, f, st, A, B, e1, hb, _, hs, hl, hle, hr, hF, hbA, hput⟩ := h.focus hR ho.1 hi
  have hbF : b ∈ F := by rw [hF]; simp [hbA]
  have hw := ho.st hbF hb
  subst hw
  have hof : Owned H f := ho.part fun a => by rw [hF]; simp only [List.count_append]; omega
  refine ⟨b, off, bs, cs, f, A, B, e1, hb, hs, hl, hr, hof, fun H1 f' x' j v s hj hr' => ?_⟩
  have hnd : ((A ++ B) ++ f).Nodup := by
    have := ho.1
    rw [hF] at this
    exact (List.perm_iff_count.2 fun a => by simp only [List.count_append]; omega : ((A ++ B) ++ f).Perm (A ++ f ++ B)).nodup_iff.2 this
  rw [List.nodup_append] at hnd
  have hdis : ∀ k ∈ A ++ B, k ∉ f := fun k hk hc => hnd.2.2 k hk k hc rfl
  have hbf : b ∉ f := hdis b (by simp [hbA])
  have hblt := own_len hb
  have hb1 : H1[b]? = some ⟨.rw, n, bs⟩ := (s.old b hblt hbf).trans hb
  have hbf' : b ∉ f' := fun hc => by
    rcases s.src b hc with q | q
    · exact hbf q
    · omega
  obtain ⟨H2, bs', w1, hb', s1, own1, le1, oth1, len1, eq1, _⟩ := store_in hb1 hs j v hj
  have hl' : (splice cs j v).length = n := by simp [splice]; omega
  refine ⟨H2, Heap.live_of hb1 (by decide), own1, le1, w1, ?_, ?_⟩
  · refine hput H2 (splice cs j v) x' f' hl' (hb'.trans (by rw [eq1])) (fun k hk hkb => ?_) (hR.frame _ _ _ _ _ hr' fun k hk => oth1 k fun e => hbf' (e ▸ hk))
    rw [oth1 k hkb]
    obtain ⟨Bk, hBk, _⟩ := ho.2 k (by rw [hF]; simp only [List.mem_append] at hk ⊢; rcases hk with hk | hk <;> simp [hk])
    exact s.old k (own_len hBk) (hdis k hk)
  · have b0 : Step F H H ((A ++ B) ++ f) := ho.step.part fun a => by rw [hF]; simp only [List.count_append]; omega
    have b1 : Step F H H1 ((A ++ B) ++ f') := b0.beside s rfl
    have b2 : Step ((A ++ B) ++ f') H1 H2 ((A ++ B) ++ f') := by
      rw [← w1]; exact Step.wr b1.owned hb1 (by simp [hbA])
    exact (b1.trans b2).part fun a => by simp only [List.count_append]; omega
theorem splice_whole {cs cs' : List C} (h : cs'.length = cs.length) : splice cs 0 cs' = cs' := by simp [splice]; omega
theorem SlR.all {α : Type} {n : Nat} {R : RepS α} {H : Heap} {c : C} {xs : List α} {F : List Nat} (h : SlR n R H c xs F) : ∃ css fs, H.elems n c = some css.flatten ∧ All3 n (R H) css xs fs := by
  rcases h with ⟨hc, rfl, rfl⟩ | ⟨b, pre, post, css, fs, st, rfl, rfl, hb, hs, ha, htop⟩
  · exact ⟨[], [], by rcases hc with rfl | rfl <;> rfl, .nil⟩
  · exact ⟨css, fs, by simp only [Heap.elems, Heap.live_of hb hs]; exact slab_mid' rfl ha.flat, ha⟩
/-- append of a whole list of data without blocks of their own. -/
theorem app_flat {α : Type} {n : Nat} {R : RepS α} (hR : Good R) (hf : ∀ H cs x f, R H cs x f → f = []) (hn : n ≠ 0) {H : Heap} {c : C} {xs ys : List α} {Fo : List Nat} {css : List (List C)} {gs : List (List Nat)} (h : SlR n R H c xs Fo) (ho : Owned H Fo) (hy : All3 n (R H) css ys gs) (hm : xs.length + ys.length ≤ lenMax) :
    ∃ c' H' F', appC H n c css.flatten = some (c', H') ∧ SlR n R H' c' (xs ++ ys) F' ∧ Step Fo H H' F' := by
  have hmx : lenMax ≤ lenTop := by decide
  have hgs := hy.flat_nil hf
  cases ys with
  | nil =>
    have hcss : css = [] := List.length_eq_zero_iff.1 (by simpa using hy.len.1)
    subst hcss
    refine ⟨c, H, Fo, ?_, by simpa using h, ho.step⟩
    rcases h with ⟨hc, rfl, rfl⟩ | ⟨b, pre, post, css, fs, st, rfl, rfl, hb, hs, ha, htop⟩
    · rcases hc with rfl | rfl <;> rfl
    · have hw : st = .rw := ho.st (by simp) hb
      subst hw
      simp only [appC, Heap.own_of hb]
      rw [slab_mid' rfl ha.flat]
      rfl
  | cons y r =>
    have hfl : css.flatten.length = (r.length + 1) * n := by simpa using hy.flat
    have hpos : 0 < (r.length + 1) * n := Nat.mul_pos (by omega) (by omega)
    have hne : css.flatten ≠ [] := fun e => by rw [e] at hfl; simp only [List.length_nil] at hfl; omega
    have hdiv : css.flatten.length / n = r.length + 1 := by rw [hfl]; exact Nat.mul_div_cancel _ (by omega)
    have hmod : css.flatten.length % n = 0 := by rw [hfl]; exact Nat.mul_mod_left _ _
    simp only [List.length_cons] at hm
    rcases h with ⟨hc, rfl, rfl⟩ | ⟨b, pre, post, ccs, fs, st, rfl, rfl, hb, hs, ha, htop⟩
    · refine ⟨.sl H.length 0 (r.length + 1), H ++ [⟨.rw, n, css.flatten⟩], [H.length], ?_, ?_, step_new⟩
      · rcases hc with rfl | rfl
        · simp only [appC, if_neg hne, hdiv, hmod]; rw [if_pos ⟨hn, trivial, by simpa using hm⟩]
        · simp only [appC, if_neg hne, hdiv, hmod]; rw [if_pos ⟨hn, trivial, by simpa using hm⟩]
      · refine .inr ⟨H.length, [], [], css, gs, .rw, by simp, by rw [hgs], by simp, by decide, ?_, by simp; omega⟩
        exact hy.mono fun c0 x0 f0 _ hr => hR.frame _ _ _ _ _ hr fun k hk => by rw [hf _ _ _ _ hr] at hk; simp at hk
    · have hw : st = .rw := ho.st (by simp) hb
      subst hw
      have hfs := ha.flat_nil hf
      have hlt := own_len hb
      refine ⟨.sl H.length 0 (xs.length + (r.length + 1)), H.kill b ++ [⟨.rw, n, ccs.flatten ++ css.flatten⟩], [H.length], ?_, ?_, ?_⟩
      · simp only [appC, Heap.own_of hb]
        rw [slab_mid' rfl ha.flat]
        simp only [if_neg hne, hdiv, hmod]
        rw [if_pos ⟨trivial, hn, trivial, by omega⟩]
      · refine .inr ⟨H.length, [], [], ccs ++ css, fs ++ gs, .rw, by simp, by simp [hgs, hfs], ?_, by decide, ?_, by simp; omega⟩
        · rw [List.getElem?_append_right (by rw [killLen]; exact Nat.le_refl _), killLen]; simp
        · exact (ha.mono fun c0 x0 f0 _ hr => hR.frame _ _ _ _ _ hr fun k hk => by rw [hf _ _ _ _ hr] at hk; simp at hk).app (hy.mono fun c0 x0 f0 _ hr => hR.frame _ _ _ _ _ hr fun k hk => by rw [hf _ _ _ _ hr] at hk; simp at hk)
      · refine ⟨fun k hk hkn => ?_, by simp [killLen], by simp, fun k hk => ?_, fun k hk => ?_⟩
        · rw [List.getElem?_append_left (by rw [killLen]; exact hk), kill_ne fun e => hkn (by simp [e])]
        · simp only [List.mem_singleton] at hk
          subst hk
          refine ⟨⟨.rw, n, ccs.flatten ++ css.flatten⟩, ?_, rfl⟩
          rw [List.getElem?_append_right (by rw [killLen]; exact Nat.le_refl _), killLen]; simp
        · simp only [List.mem_singleton] at hk
          subst hk
          exact .inr (Nat.le_refl _)
theorem slcZ_of {H : Heap} {n b off len : Nat} {lo : Int} {hi : Option Int} {r : C} {bs : List C} (h : slcC H n (.sl b off len) lo hi = some r) (hs : H.szv b = some n) (hn : n ≠ 0) : slcZ (zSl b n bs) n (.sl b off len) lo hi = some r := by
  unfold slcC at h
  unfold slcZ
  simp only [hs, zSl_at, if_true, Option.map_some, hn, ne_eq, not_false_eq_true, and_self] at h ⊢
  exact h
/-! Worlds. -/
structure WInv (w : Wld) : Prop where
  desk : deskOk w.desk = true
  len : w.houses.length = 3
  house : ∀ (i : Nat) (h : House), w.houses[i]? = some h → houseOk h = true ∧ h.id = ((i + 1 : Nat) : Int)
  room : w.nets.length ≤ 14
  nets : ∀ x ∈ w.nets, wordOk x = true
theorem WInv.newDesk {w : Wld} (h : WInv w) {d : Desk} (hd : deskOk d = true) : WInv ⟨d, w.houses, w.nets⟩ := ⟨hd, h.len, h.house, h.room, h.nets⟩
theorem WInv.newNets {w : Wld} (h : WInv w) {l : List Word} (h1 : l.length ≤ 14) (h2 : ∀ x ∈ l, wordOk x = true) : WInv ⟨w.desk, w.houses, l⟩ := ⟨h.desk, h.len, h.house, h1, h2⟩
theorem WInv.newHouse {w : Wld} (h : WInv w) {i : Nat} {x : House} (hi : i < 3) (h1 : houseOk x = true) (h2 : x.id = ((i + 1 : Nat) : Int)) : WInv ⟨w.desk, w.houses.set i x, w.nets⟩ :=
  ⟨h.desk, by simp [h.len], fun j y hj => by
    rw [List.getElem?_set] at hj
    split at hj
    · rename_i e
      subst e
      split at hj
      · cases hj; exact ⟨h1, h2⟩
      · cases hj
    · exact h.house j y hj, h.room, h.nets⟩
def WAns (F : List Nat) (H : Heap) (v : AV) (H' : Heap) : Prop := ∃ cs' w' F', v = .val (.agg cs') ∧ Step F H H' F' ∧ RWld H' cs' w' F' ∧ WInv w'
section
variable {H H2 : Heap} {F1 F2 F3 G : List Nat} {ds : List C} {c n : C} {w : Wld}
theorem wld_desk (hh : Houses H c w.houses F2) (hn : Words H n w.nets F3) (ho : Owned H (F1 ++ (F2 ++ F3))) (s : Step F1 H H2 G) : Step (F1 ++ (F2 ++ F3)) H H2 (G ++ (F2 ++ F3)) ∧ Houses H2 c w.houses F2 ∧ Words H2 n w.nets F3 := by
  have own : Owned H ((F2 ++ F3) ++ F1) := ho.part fun a => by simp only [List.count_append]; omega
  have b0 : Step (F1 ++ (F2 ++ F3)) H H ((F2 ++ F3) ++ F1) := ho.step.part fun a => by simp only [List.count_append]; omega
  exact ⟨(b0.beside s rfl).part fun a => by simp only [List.count_append]; omega, s.keepSl RHouse.good hh fun k hk => own.disj k (by simp [hk]), s.keepSl RWord.good hn fun k hk => own.disj k (by simp [hk])⟩
theorem wld_houses (hd : RDesk H ds w.desk F1) (hn : Words H n w.nets F3) (ho : Owned H (F1 ++ (F2 ++ F3))) (s : Step F2 H H2 G) : Step (F1 ++ (F2 ++ F3)) H H2 (F1 ++ (G ++ F3)) ∧ RDesk H2 ds w.desk F1 ∧ Words H2 n w.nets F3 := by
  have own : Owned H ((F1 ++ F3) ++ F2) := ho.part fun a => by simp only [List.count_append]; omega
  have b0 : Step (F1 ++ (F2 ++ F3)) H H ((F1 ++ F3) ++ F2) := ho.step.part fun a => by simp only [List.count_append]; omega
  exact ⟨(b0.beside s rfl).part fun a => by simp only [List.count_append]; omega, s.keep RDesk.good hd fun k hk => own.disj k (by simp [hk]), s.keepSl RWord.good hn fun k hk => own.disj k (by simp [hk])⟩
theorem wld_nets (hd : RDesk H ds w.desk F1) (hh : Houses H c w.houses F2) (ho : Owned H (F1 ++ (F2 ++ F3))) (s : Step F3 H H2 G) : Step (F1 ++ (F2 ++ F3)) H H2 (F1 ++ (F2 ++ G)) ∧ RDesk H2 ds w.desk F1 ∧ Houses H2 c w.houses F2 := by
  have own : Owned H ((F1 ++ F2) ++ F3) := ho.part fun a => by simp only [List.count_append]; omega
  have b0 : Step (F1 ++ (F2 ++ F3)) H H ((F1 ++ F2) ++ F3) := ho.step.part fun a => by simp only [List.count_append]; omega
  exact ⟨(b0.beside s rfl).part fun a => by simp only [List.count_append]; omega, s.keep RDesk.good hd fun k hk => own.disj k (by simp [hk]), s.keepSl RHouse.good hh fun k hk => own.disj k (by simp [hk])⟩
end
end Go.AX

/- What a desk was told: the program. Condition: the data lie in memory. -/
namespace Go.AX
variable {P : Program} {I : Ids}
theorem does_i_Desk_told (K : Codes P I) {H : Heap} {cs : List C} {d : Desk} {F : List Nat} {k h t : Int} (hd : RDesk H cs d F) : Does P I.i_Desk_told [.agg cs, int k, int h, int t] H fun v H' => v = bool (toldB d.told k h t) ∧ H' = H := by
  obtain ⟨c, tt, F1, F2, rfl, rfl, hr, ht⟩ := hd
  refine K.does K.i_Desk_told rfl fun Q hQ => ?_
  simp only [go_sem, Nat.reduceEqDiff, Nat.reduceAdd, Nat.reduceMul, Nat.reduceLeDiff, Int.reduceEq, Int.reduceLT, Int.reduceLE, Int.reduceAdd, Int.reduceSub, Int.reduceNeg, Int.reduceMul, Int.reduceToNat, Int.cast_ofNat_Int, Int.natCast_zero, Nat.add_zero, reduceCtorEq, L_i_Desk_told]
  refine Does.test (does_g_Contains_Word K ht (show RWord H _ ⟨k, h, t, 0⟩ [] from ⟨rfl, rfl⟩)) ?_
  simp only [go_sem, Nat.reduceEqDiff, Nat.reduceAdd, Nat.reduceMul, Nat.reduceLeDiff, Int.reduceEq, Int.reduceLT, Int.reduceLE, Int.reduceAdd, Int.reduceSub, Int.reduceNeg, Int.reduceMul, Int.reduceToNat, Int.cast_ofNat_Int, Int.natCast_zero, Nat.add_zero, reduceCtorEq]
  exact hQ _ _ (Ends.ret rfl ⟨rfl, rfl⟩)
end Go.AX

/- What a desk has to say: the reference. Condition: the data lie in memory. -/
namespace Go.AX
variable {P : Program} {I : Ids}
def sayW (told : List Word) (trip state : Int) (n : Int) (h : Nat) : List Word := if n = 0 ∨ 3 < state ∨ toldB told (state + (if state = 1 then 3 else 4)) (h + 1) trip = true then [] else [⟨state, h + 1, trip, if state = 1 then n else 0⟩]
theorem wordsOfTrip_app {told : List Word} {trip state : Int} (ms ns : List Int) (h : Nat) : wordsOfTrip told trip state (ms ++ ns) h = wordsOfTrip told trip state ms h ++ wordsOfTrip told trip state ns (h + ms.length) := by
  induction ms generalizing h with
  | nil => simp [wordsOfTrip]
  | cons n r ih =>
    simp only [List.cons_append, wordsOfTrip, ih, List.length_cons, List.append_assoc]
    rw [show h + 1 + r.length = h + (r.length + 1) by omega]
theorem wordsOfTrip_take {told : List Word} {trip state : Int} {ms : List Int} {j : Nat} {n : Int} (h : ms[j]? = some n) : wordsOfTrip told trip state (ms.take (j + 1)) 0 = wordsOfTrip told trip state (ms.take j) 0 ++ sayW told trip state n j := by
  have hj : j < ms.length := (List.getElem?_eq_some_iff.1 h).1
  rw [take_snoc h, wordsOfTrip_app]
  simp [wordsOfTrip, sayW, List.length_take, Nat.min_eq_left (Nat.le_of_lt hj)]
theorem wordsOf_app {told : List Word} (xs ys : List Trip) (s : Nat) : wordsOf told (xs ++ ys) s = wordsOf told xs s ++ wordsOf told ys (s + xs.length) := by
  induction xs generalizing s with
  | nil => simp [wordsOf]
  | cons n r ih =>
    simp only [List.cons_append, wordsOf, ih, List.length_cons, List.append_assoc]
    rw [show s + 1 + r.length = s + (r.length + 1) by omega]
theorem wordsOf_take {told : List Word} {xs : List Trip} {i : Nat} {x : Trip} (h : xs[i]? = some x) : wordsOf told (xs.take (i + 1)) 0 = wordsOf told (xs.take i) 0 ++ wordsOfTrip told ((i : Int) + 1) x.state x.many 0 := by
  have hi : i < xs.length := (List.getElem?_eq_some_iff.1 h).1
  rw [take_snoc h, wordsOf_app]
  simp [wordsOf, List.length_take, Nat.min_eq_left (Nat.le_of_lt hi)]
theorem ite_len {p : Prop} [Decidable p] {a : Word} : (if p then [] else [a]).length ≤ 1 := by split <;> simp
theorem wordsOfTrip_len (told : List Word) (trip state : Int) : ∀ (ms : List Int) (h : Nat), (wordsOfTrip told trip state ms h).length ≤ ms.length
  | [], _ => by simp [wordsOfTrip]
  | n :: r, h => by
    have h1 := wordsOfTrip_len told trip state r (h + 1)
    simp only [wordsOfTrip, List.length_append, List.length_cons]
    exact Nat.le_trans (Nat.add_le_add ite_len h1) (by omega)
theorem wordsOf_len (told : List Word) : ∀ (l : List Trip) (s : Nat), (∀ t ∈ l, t.many.length = 3) → (wordsOf told l s).length ≤ 3 * l.length
  | [], _, _ => by simp [wordsOf]
  | t :: r, s, h => by
    have h1 := wordsOf_len told r (s + 1) fun x hx => h x (by simp [hx])
    have h2 := wordsOfTrip_len told (s + 1) t.state t.many 0
    rw [h t (by simp)] at h2
    simp only [wordsOf, List.length_append, List.length_cons]; omega
theorem wordsOfTrip_big {told : List Word} {trip state : Int} (hs : 3 < state) : ∀ (ms : List Int) (h : Nat), wordsOfTrip told trip state ms h = []
  | [], _ => rfl
  | n :: r, h => by simp [wordsOfTrip, hs, wordsOfTrip_big hs r (h + 1)]
theorem slab4 {a b c d : Int} {i : Nat} (h : i < 4) : ∃ v, slab [.int .i64 a, .int .i64 b, .int .i64 c, .int .i64 d] (0 + i * 1) 1 = some [.int .i64 v] ∧ (i = 0 → v = a) ∧ (i = 1 → v = b) ∧ (i = 2 → v = c) ∧ (i = 3 → v = d) := by
  match i, h with
  | 0, _ => exact ⟨a, rfl, by simp, by simp, by simp, by simp⟩
  | 1, _ => exact ⟨b, rfl, by simp, by simp, by simp, by simp⟩
  | 2, _ => exact ⟨c, rfl, by simp, by simp, by simp, by simp⟩
  | 3, _ => exact ⟨d, rfl, by simp, by simp, by simp, by simp⟩
  | i + 4, h => omega
theorem wordsD_len (d : Desk) (h : deskOk d = true) : (wordsD d).length ≤ 18 := by
  unfold wordsD; split
  · obtain ⟨h1, h2⟩ := tripsOk_parts (tripsV_ok h true)
    have := wordsOf_len d.told (tripsV d true) 0 fun t ht => manyOk_len (h2 t ht).1
    omega
  · simp
set_option maxHeartbeats 4000000 in
set_option maxRecDepth 8000 in
theorem does_s_l13Words (K : Codes P I) {H : Heap} {cs : List C} {d : Desk} {F : List Nat} (hd : RDesk H cs d F) (hok : deskOk d = true) : Does P I.s_l13Words [.agg cs] H fun v H' => ∃ c' F', v = .val (.c c') ∧ Step [] H H' F' ∧ Words H' c' (wordsD d) F' := by
  have hd0 := hd
  obtain ⟨c, t, F1, F2, rfl, rfl, hr, ht⟩ := hd
  have alt : ∀ b ∈ F2, b < H.length := ht.lt RWord.good
  have hlok := (deskOk_parts hok).2.1
  refine K.does K.s_l13Words rfl fun Q hQ => ?_
  simp only [go_sem, Nat.reduceEqDiff, Nat.reduceAdd, Nat.reduceMul, Nat.reduceLeDiff, Int.reduceEq, Int.reduceLT, Int.reduceLE, Int.reduceAdd, Int.reduceSub, Int.reduceNeg, Int.reduceMul, Int.reduceToNat, Int.cast_ofNat_Int, Int.natCast_zero, Nat.add_zero, reduceCtorEq, L_s_l13Words]
  cases hup : d.up with
  | false =>
    simp only [go_sem, Nat.reduceEqDiff, Nat.reduceAdd, Nat.reduceMul, Nat.reduceLeDiff, Int.reduceEq, Int.reduceLT, Int.reduceLE, Int.reduceAdd, Int.reduceSub, Int.reduceNeg, Int.reduceMul, Int.reduceToNat, Int.cast_ofNat_Int, Int.natCast_zero, Nat.add_zero, reduceCtorEq, hup]
    exact hQ _ _ (Ends.ret rfl ⟨.emp true, [], rfl, Step.refl H, by simp only [wordsD, hup]; exact .emp⟩)
  | true =>
    have hv : wordsD d = wordsOf d.told (tripsV d true) 0 := by simp [wordsD, hup]
    rw [hup] at hd0
    simp only [go_sem, Nat.reduceEqDiff, Nat.reduceAdd, Nat.reduceMul, Nat.reduceLeDiff, Int.reduceEq, Int.reduceLT, Int.reduceLE, Int.reduceAdd, Int.reduceSub, Int.reduceNeg, Int.reduceMul, Int.reduceToNat, Int.cast_ofNat_Int, Int.natCast_zero, Nat.add_zero, reduceCtorEq, hup]
    refine Does.call (does_s_l13Trips K (f := true) hd0 hlok) ?_
    rintro _ H1 ⟨ct, Ft, rfl, s1, htr⟩
    replace s1 : Step [] H H1 Ft := s1
    have ht1 : Words H1 t d.told F2 := s1.keepSl RWord.good ht (fun b _ => by simp)
    obtain ⟨hl6, hall⟩ := tripsOk_parts (tripsV_ok hok true)
    generalize htv : tripsV d true = l at *
    simp only [go_sem, Nat.reduceEqDiff, Nat.reduceAdd, Nat.reduceMul, Nat.reduceLeDiff, Int.reduceEq, Int.reduceLT, Int.reduceLE, Int.reduceAdd, Int.reduceSub, Int.reduceNeg, Int.reduceMul, Int.reduceToNat, Int.cast_ofNat_Int, Int.natCast_zero, Nat.add_zero, reduceCtorEq]
    refine RU_loop (fun m s => ∃ i : Nat, m = l.length - i ∧ i ≤ l.length ∧ s.env 1 = .box [.bool true, c, .int .i64 d.log.forced, t] ∧ s.env 4 = .val (.c ct) ∧ s.env 5 = .val (int i) ∧ ∃ o F', s.env 3 = .val (.c o) ∧ Step [] H s.H (Ft ++ F') ∧ Trips s.H ct l Ft ∧ Words s.H t d.told F2 ∧ Words s.H o (wordsOf d.told (l.take i) 0) F') l.length
      ⟨0, by simp, by simp, rfl, rfl, rfl, .emp true, [], rfl, by simpa using s1, htr, ht1, .emp⟩ ?_
    rintro m s ⟨i, rfl, hi, g1, g4, g5, o, F', g3, st, htr2, htd, ho⟩ Q' hN hE hR
    have hln := htr2.len
    by_cases hlt : (i : Int) < l.length
    · obtain ⟨x, hx⟩ := get_lt hlt
      have hxa := hall x (List.mem_of_getElem? hx)
      have hm3 := manyOk_len hxa.1
      have hwi := wrap_succ (show i ≤ lenTop by simp [lenTop]; omega)
      obtain ⟨tb, to, tbs, tcs, tf, rfl, e1, e2, ⟨cm, rfl, hm⟩, _, htf⟩ := htr2.get hx
      have ld0 := slab_sub0 e2 1 (by simp)
      have ld1 := slab_sub e2 1 1 (by simp)
      simp only [slabAt1, slabSkip1] at ld0 ld1
      by_cases hbig : 3 < x.state
      · simp only [go_sem, Nat.reduceEqDiff, Nat.reduceAdd, Nat.reduceMul, Nat.reduceLeDiff, Int.reduceEq, Int.reduceLT, Int.reduceLE, Int.reduceAdd, Int.reduceSub, Int.reduceNeg, Int.reduceMul, Int.reduceToNat, Int.cast_ofNat_Int, Int.natCast_zero, Nat.add_zero, reduceCtorEq, g1, g3, g4, g5, hln, hlt, e1, ld1, hbig, hwi]
        exact hN _ _ (by omega) ⟨i + 1, rfl, by omega, by simp [upd, g1], by simp [upd, g4], by simp [upd], o, F', by simp [upd, g3], st, htr2, htd, by rw [wordsOf_take hx, wordsOfTrip_big hbig, List.append_nil]; exact ho⟩
      · obtain ⟨k, hk⟩ : ∃ k : Nat, x.state = k := ⟨x.state.toNat, by omega⟩
        have hk4 : k < 4 := by omega
        have hk4' : (k : Int) < 4 := by omega
        obtain ⟨v, hv4, _, v1, v2, v3⟩ := slab4 (a := 0) (b := 4) (c := 6) (d := 7) hk4
        have hvv : v = x.state + (if x.state = 1 then 3 else 4) := by
          have : k = 1 ∨ k = 2 ∨ k = 3 := by omega
          rcases this with e | e | e
          · rw [v1 e, hk, e]; rfl
          · rw [v2 e, hk, e]; rfl
          · rw [v3 e, hk, e]; rfl
        simp only [go_sem, Nat.reduceEqDiff, Nat.reduceAdd, Nat.reduceMul, Nat.reduceLeDiff, Int.reduceEq, Int.reduceLT, Int.reduceLE, Int.reduceAdd, Int.reduceSub, Int.reduceNeg, Int.reduceMul, Int.reduceToNat, Int.cast_ofNat_Int, Int.natCast_zero, Nat.add_zero, reduceCtorEq, g1, g3, g4, g5, hln, hlt, e1, ld1, hbig]
        refine RU_loop (fun m s' => ∃ j : Nat, m = 3 - j ∧ j ≤ 3 ∧ s'.env 1 = .box [.bool true, c, .int .i64 d.log.forced, t] ∧ s'.env 4 = .val (.c (.sl tb to l.length)) ∧ s'.env 5 = .val (int i) ∧ s'.env 6 = .val (int j) ∧ ∃ o F', s'.env 3 = .val (.c o) ∧ Step [] H s'.H (Ft ++ F') ∧ Trips s'.H (.sl tb to l.length) l Ft ∧ Words s'.H t d.told F2 ∧ Words s'.H o (wordsOf d.told (l.take i) 0 ++ wordsOfTrip d.told ((i : Int) + 1) x.state (x.many.take j) 0) F') 3
          ⟨0, by simp, by simp, by simp [upd, g1], by simp [upd, g4], by simp [upd, g5], rfl, o, F', by simp [upd, g3], st, htr2, htd, by simpa [wordsOfTrip] using ho⟩ ?_
        rintro m s' ⟨j, rfl, hj, q1, q4, q5, q6, o', F3, q3, st', htr3, htd3, ho3⟩ Q2 hN2 hE2 hR2
        clear ho o g3 htr2 htd st e1 e2 ld0 ld1 hm F'
        by_cases hjt : (j : Int) < 3
        · obtain ⟨n, hn⟩ : ∃ n, x.many[j]? = some n := get_lt (by omega)
          have hwj := wrap_succ (show j ≤ lenTop by simp [lenTop]; omega)
          have hjm : (j : Int) < x.many.length := by omega
          obtain ⟨tb', to', tbs, tcs, tf, ec, e1, e2, ⟨cm, rfl, hm⟩, _, htf⟩ := htr3.get hx
          cases ec
          have ld0 := slab_sub0 e2 1 (by simp)
          have ld1 := slab_sub e2 1 1 (by simp)
          simp only [slabAt1, slabSkip1] at ld0 ld1
          obtain ⟨mb, mo, mbs, mcs, mf, rfl, u1, u2, ⟨rfl, _⟩, _⟩ := hm.get hn
          have s4 := step_new (H := s'.H) (n := 1) (cs := [.int .i64 0, .int .i64 4, .int .i64 6, .int .i64 7])
          have e1' := live_keep s4 (live_lt e1) (by simp) e1
          have u1' := live_keep s4 (live_lt u1) (by simp) u1
          have st4 : Step [] H (s'.H ++ [⟨.rw, 1, [.int .i64 0, .int .i64 4, .int .i64 6, .int .i64 7]⟩]) (Ft ++ F3) := (st'.with s4).less (List.sublist_append_left _ _)
          have htr4 := s4.keepSl RTrip.good htr3 (fun b _ => by simp)
          have htd4 := s4.keepSl RWord.good htd3 (fun b _ => by simp)
          have ho4 := s4.keepSl RWord.good ho3 (fun b _ => by simp)
          by_cases hz : n = 0
          · have hsay : sayW d.told ((i : Int) + 1) x.state n j = [] := by simp [sayW, hz]
            simp only [go_sem, Nat.reduceEqDiff, Nat.reduceAdd, Nat.reduceMul, Nat.reduceLeDiff, Int.reduceEq, Int.reduceLT, Int.reduceLE, Int.reduceAdd, Int.reduceSub, Int.reduceNeg, Int.reduceMul, Int.reduceToNat, Int.cast_ofNat_Int, Int.natCast_zero, Nat.add_zero, reduceCtorEq, q1, q3, q4, q5, q6, hlt, hjt, e1, ld1, ld0, hwi, hwj, hk, hk4', hv4, e1', u1', u2, hjm, hz, Nat.reduceDiv]
            exact hN2 _ _ (by omega) ⟨j + 1, rfl, by omega, by simp [upd, q1], by simp [upd, q4], by simp [upd, q5], by simp [upd], o', F3, by simp [upd, q3], st4, htr4, htd4, by rw [wordsOfTrip_take hn, hsay, List.append_nil]; exact ho4⟩
          · simp only [go_sem, Nat.reduceEqDiff, Nat.reduceAdd, Nat.reduceMul, Nat.reduceLeDiff, Int.reduceEq, Int.reduceLT, Int.reduceLE, Int.reduceAdd, Int.reduceSub, Int.reduceNeg, Int.reduceMul, Int.reduceToNat, Int.cast_ofNat_Int, Int.natCast_zero, Nat.add_zero, reduceCtorEq, q1, q3, q4, q5, q6, hlt, hjt, e1, ld1, ld0, hwi, hwj, hk, hk4', hv4, e1', u1', u2, hjm, hz, Nat.reduceDiv]
            refine Does.test (does_s_l13Told K htd4 (show RWord _ _ ⟨v, ((j + 1 : Nat) : Int), ((i + 1 : Nat) : Int), 0⟩ [] from ⟨rfl, rfl⟩)) ?_
            by_cases htold : (⟨v, ((j + 1 : Nat) : Int), ((i + 1 : Nat) : Int), 0⟩ : Word) ∈ d.told
            · have hsay : sayW d.told ((i : Int) + 1) x.state n j = [] := by
                have : toldB d.told (x.state + (if x.state = 1 then 3 else 4)) ((j : Int) + 1) ((i : Int) + 1) = true := by
                  rw [← hvv]; simpa [toldB] using htold
                simp [sayW, this]
              simp only [go_sem, Nat.reduceEqDiff, Nat.reduceAdd, Nat.reduceMul, Nat.reduceLeDiff, Int.reduceEq, Int.reduceLT, Int.reduceLE, Int.reduceAdd, Int.reduceSub, Int.reduceNeg, Int.reduceMul, Int.reduceToNat, Int.cast_ofNat_Int, Int.natCast_zero, Nat.add_zero, reduceCtorEq, q1, q3, q4, q5, q6, htold, hwj]
              exact hN2 _ _ (by omega) ⟨j + 1, rfl, by omega, by simp [upd, q1], by simp [upd, q4], by simp [upd, q5], by simp [upd], o', F3, by simp [upd, q3], st4, htr4, htd4, by rw [wordsOfTrip_take hn, hsay, List.append_nil]; exact ho4⟩
            · have hsay : sayW d.told ((i : Int) + 1) x.state n j = [⟨x.state, ((j + 1 : Nat) : Int), ((i + 1 : Nat) : Int), if x.state = 1 then n else 0⟩] := by
                have : toldB d.told (x.state + (if x.state = 1 then 3 else 4)) ((j : Int) + 1) ((i : Int) + 1) = false := by
                  rw [← hvv]; simpa [toldB] using htold
                simp [sayW, this, hz, hbig]
              have hlen : (wordsOf d.told (l.take i) 0 ++ wordsOfTrip d.told ((i : Int) + 1) x.state (x.many.take j) 0).length ≤ 30 := by
                have h1 := wordsOf_len d.told (l.take i) 0 fun t ht => manyOk_len (hall t (List.mem_of_mem_take ht)).1
                have h2 := wordsOfTrip_len d.told ((i : Int) + 1) x.state (x.many.take j) 0
                simp only [List.length_take, List.length_append] at h1 h2 ⊢; omega
              have own : Owned _ (Ft ++ F3) := st4.owned
              by_cases h1 : k = 1
              · have h1' : x.state = 1 := by omega
                subst h1
                obtain ⟨o5, H5, F5, ha, ho5, s5⟩ := app_one RWord.good (f := []) (by decide) ho4 (show RWord _ _ ⟨x.state, ((j + 1 : Nat) : Int), ((i + 1 : Nat) : Int), n⟩ [] from ⟨rfl, rfl⟩) rfl (by simpa using own.right) (Nat.lt_of_le_of_lt hlen (by simp [lenMax]))
                rw [List.append_nil] at s5
                have st5 : Step [] H H5 (Ft ++ F5) := st4.beside s5 rfl
                have htr5 := s5.keepSl RTrip.good htr4 (fun k hk => own.disj k hk)
                have htd5 := s5.keepSl RWord.good htd4 (fun k hk hc => by have := alt k hk; have := st4.ge k (by simp [hc]); omega)
                rw [hk] at ha
                replace ha : appC _ 4 o' [.int .i64 1, .int .i64 ((j + 1 : Nat) : Int), .int .i64 ((i + 1 : Nat) : Int), .int .i64 n] = some (o5, H5) := ha
                simp only [go_sem, Nat.reduceEqDiff, Nat.reduceAdd, Nat.reduceMul, Nat.reduceLeDiff, Int.reduceEq, Int.reduceLT, Int.reduceLE, Int.reduceAdd, Int.reduceSub, Int.reduceNeg, Int.reduceMul, Int.reduceToNat, Int.cast_ofNat_Int, Int.natCast_zero, Nat.add_zero, reduceCtorEq, q1, q3, q4, q5, q6, htold, hwj, hlt, e1', ld0, u1', u2, hjm, hk, Int.natCast_one, ha]
                exact hN2 _ _ (by omega) ⟨j + 1, rfl, by omega, by simp [upd, q1], by simp [upd, q4], by simp [upd, q5], by simp [upd], o5, F5, by simp [upd], st5, htr5, htd5, by rw [wordsOfTrip_take hn, hsay, ← List.append_assoc, if_pos h1']; exact ho5⟩
              · have h1' : ¬ x.state = 1 := by omega
                have h1k : ¬ (k : Int) = 1 := by omega
                obtain ⟨o5, H5, F5, ha, ho5, s5⟩ := app_one RWord.good (f := []) (by decide) ho4 (show RWord _ _ ⟨x.state, ((j + 1 : Nat) : Int), ((i + 1 : Nat) : Int), 0⟩ [] from ⟨rfl, rfl⟩) rfl (by simpa using own.right) (Nat.lt_of_le_of_lt hlen (by simp [lenMax]))
                rw [List.append_nil] at s5
                have st5 : Step [] H H5 (Ft ++ F5) := st4.beside s5 rfl
                have htr5 := s5.keepSl RTrip.good htr4 (fun k hk => own.disj k hk)
                have htd5 := s5.keepSl RWord.good htd4 (fun k hk hc => by have := alt k hk; have := st4.ge k (by simp [hc]); omega)
                rw [hk] at ha
                replace ha : appC _ 4 o' [.int .i64 (k : Int), .int .i64 ((j + 1 : Nat) : Int), .int .i64 ((i + 1 : Nat) : Int), .int .i64 0] = some (o5, H5) := ha
                simp only [go_sem, Nat.reduceEqDiff, Nat.reduceAdd, Nat.reduceMul, Nat.reduceLeDiff, Int.reduceEq, Int.reduceLT, Int.reduceLE, Int.reduceAdd, Int.reduceSub, Int.reduceNeg, Int.reduceMul, Int.reduceToNat, Int.cast_ofNat_Int, Int.natCast_zero, Nat.add_zero, reduceCtorEq, q1, q3, q4, q5, q6, htold, hwj, hlt, e1', ld0, u1', u2, hjm, hk, h1k, ha]
                exact hN2 _ _ (by omega) ⟨j + 1, rfl, by omega, by simp [upd, q1], by simp [upd, q4], by simp [upd, q5], by simp [upd], o5, F5, by simp [upd], st5, htr5, htd5, by rw [wordsOfTrip_take hn, hsay, ← List.append_assoc, if_neg h1']; exact ho5⟩
        · have hj3 : j = x.many.length := by omega
          rw [hj3, List.take_length] at ho3
          simp only [go_sem, Nat.reduceEqDiff, Nat.reduceAdd, Nat.reduceMul, Nat.reduceLeDiff, Int.reduceEq, Int.reduceLT, Int.reduceLE, Int.reduceAdd, Int.reduceSub, Int.reduceNeg, Int.reduceMul, Int.reduceToNat, Int.cast_ofNat_Int, Int.natCast_zero, Nat.add_zero, reduceCtorEq, q1, q3, q4, q5, q6, hjt]
          refine hE2 _ _ ?_
          simp only [go_sem, Nat.reduceEqDiff, Nat.reduceAdd, Nat.reduceMul, Nat.reduceLeDiff, Int.reduceEq, Int.reduceLT, Int.reduceLE, Int.reduceAdd, Int.reduceSub, Int.reduceNeg, Int.reduceMul, Int.reduceToNat, Int.cast_ofNat_Int, Int.natCast_zero, Nat.add_zero, reduceCtorEq, q5, hwi]
          exact hN _ _ (by omega) ⟨i + 1, rfl, by omega, by simp [upd, q1], by simp [upd, q4], by simp [upd], o', F3, by simp [upd, q3], st', htr3, htd3, by rw [wordsOf_take hx]; exact ho3⟩
    · have hil : i = l.length := by omega
      rw [hil, List.take_length] at ho
      simp only [go_sem, Nat.reduceEqDiff, Nat.reduceAdd, Nat.reduceMul, Nat.reduceLeDiff, Int.reduceEq, Int.reduceLT, Int.reduceLE, Int.reduceAdd, Int.reduceSub, Int.reduceNeg, Int.reduceMul, Int.reduceToNat, Int.cast_ofNat_Int, Int.natCast_zero, Nat.add_zero, reduceCtorEq, g3, g4, g5, hln, hlt]
      refine hE _ _ ?_
      simp only [go_sem, Nat.reduceEqDiff, Nat.reduceAdd, Nat.reduceMul, Nat.reduceLeDiff, Int.reduceEq, Int.reduceLT, Int.reduceLE, Int.reduceAdd, Int.reduceSub, Int.reduceNeg, Int.reduceMul, Int.reduceToNat, Int.cast_ofNat_Int, Int.natCast_zero, Nat.add_zero, reduceCtorEq, g3]
      exact hQ _ _ (Ends.ret rfl ⟨o, F', rfl, st.less (List.sublist_append_right _ _), by rw [hv]; exact ho⟩)
end Go.AX

/- A desk decides, and hears: the program. Condition: the data lie in memory. -/
namespace Go.AX
variable {P : Program} {I : Ids}
end Go.AX
