/- A new desk, and the exact law of it. No condition. -/
import Derived.Test.YtjpgpepbnglhlaaLExactDeskNewAX23
set_option linter.unusedSimpArgs false
set_option linter.unusedVariables false
namespace Go.AX
variable {P : Program} {I : Ids}

theorem Step.new {H H' : Heap} {F : List Nat} (h : Step [] H H' F) {b : Nat} (hb : b < H.length) : b ∉ F := fun hc => by
  rcases h.src b hc with h | h
  · simp at h
  · omega
/-- What was there stays. -/
theorem Step.stay {H H' : Heap} {F : List Nat} (h : Step [] H H' F) {α : Type} {R : RepS α} (hR : Good R) {cs : List C} {x : α} {G : List Nat} (hr : R H cs x G) : R H' cs x G := h.keep hR hr fun _ _ => by simp
def desk0 : Desk := ⟨true, ⟨[], 0⟩, []⟩
theorem does_s_DeskNew (K : Codes P I) {H : Heap} : Does P I.s_DeskNew [] H fun r H' => ∃ cs F, cs.length = 4 ∧ r = .val (.agg cs) ∧ Step [] H H' F ∧ RDesk H' cs desk0 F := by
  refine K.does K.s_DeskNew rfl fun Q hQ => ?_
  simp only [go_sem, L_s_DeskNew, Nat.reduceEqDiff, Nat.reduceAdd, Nat.reduceMul, Nat.reduceLeDiff, Int.reduceEq, reduceCtorEq]
  exact hQ _ _ (Ends.ret rfl ⟨_, [], rfl, rfl, Step.refl _, _, _, [], [], rfl, rfl, .emp _, .emp _⟩)
theorem does_i_DeskNew (K : Codes P I) {H : Heap} : Does P I.i_DeskNew [] H fun r H' => ∃ cs F, cs.length = 4 ∧ r = .val (.agg cs) ∧ Step [] H H' F ∧ RDesk H' cs desk0 F := by
  refine K.does K.i_DeskNew rfl fun Q hQ => ?_
  simp only [go_sem, L_i_DeskNew, Nat.reduceEqDiff, Nat.reduceAdd, Nat.reduceMul, Nat.reduceLeDiff, Int.reduceEq, reduceCtorEq]
  exact hQ _ _ (Ends.ret rfl ⟨_, [], rfl, rfl, Step.refl _, _, _, [], [], rfl, rfl, .nil, .nil⟩)

theorem len2 {l : List C} (h : l.length = 2) : ∃ a b, l = [a, b] := by
  match l, h with
  | [a, b], _ => exact ⟨a, b, rfl⟩
theorem len3 {l : List C} (h : l.length = 3) : ∃ a b c, l = [a, b, c] := by
  match l, h with
  | [a, b, c], _ => exact ⟨a, b, c, rfl⟩
theorem len4 {l : List C} (h : l.length = 4) : ∃ a b c d, l = [a, b, c, d] := by
  match l, h with
  | [a, b, c, d], _ => exact ⟨a, b, c, d, rfl⟩
theorem len5 {l : List C} (h : l.length = 5) : ∃ a b c d e, l = [a, b, c, d, e] := by
  match l, h with
  | [a, b, c, d, e], _ => exact ⟨a, b, c, d, e, rfl⟩
theorem len6 {l : List C} (h : l.length = 6) : ∃ a b c d e f, l = [a, b, c, d, e, f] := by
  match l, h with
  | [a, b, c, d, e, f], _ => exact ⟨a, b, c, d, e, f, rfl⟩
theorem RRec.cells {H : Heap} {cs : List C} {x : Rec} {F : List Nat} (h : RRec H cs x F) : cs.length = 3 := by obtain ⟨c, rfl, _⟩ := h; rfl
theorem RLog.cells {H : Heap} {cs : List C} {x : Log} {F : List Nat} (h : RLog H cs x F) : cs.length = 2 := by obtain ⟨c, rfl, _⟩ := h; rfl
theorem RTrip.cells {H : Heap} {cs : List C} {x : Trip} {F : List Nat} (h : RTrip H cs x F) : cs.length = 2 := by obtain ⟨c, rfl, _⟩ := h; rfl
theorem RStock.cells {H : Heap} {cs : List C} {x : Stock} {F : List Nat} (h : RStock H cs x F) : cs.length = 2 := by obtain ⟨c, rfl, _⟩ := h; rfl
theorem RHouse.cells {H : Heap} {cs : List C} {x : House} {F : List Nat} (h : RHouse H cs x F) : cs.length = 5 := by obtain ⟨c, rfl, _⟩ := h; rfl
theorem RDesk.cells {H : Heap} {cs : List C} {x : Desk} {F : List Nat} (h : RDesk H cs x F) : cs.length = 4 := by obtain ⟨c, d, F1, F2, rfl, _⟩ := h; rfl
theorem RWld.cells {H : Heap} {cs : List C} {x : Wld} {F : List Nat} (h : RWld H cs x F) : cs.length = 6 := by obtain ⟨ds, c, d, F1, F2, F3, rfl, _, h, _⟩ := h; simp [h.cells]

theorem does_FnExactDeskNew (K : Codes P I) {H : Heap} : Does P I.w_FnExactDeskNew [] H fun r _ => r = .val (.c (.bool true)) := by
  refine K.does K.w_FnExactDeskNew rfl fun Q hQ => ?_
  simp only [go_sem, L_w_FnExactDeskNew, Nat.reduceEqDiff, Nat.reduceAdd, Nat.reduceMul, Nat.reduceLeDiff, Int.reduceEq, Int.reduceLT, Int.reduceAdd, reduceCtorEq]
  refine Does.call (does_s_DeskNew K) ?_
  rintro _ H1 ⟨w, F1, lw, rfl, s1, r1⟩
  replace s1 : Step [] H H1 F1 := s1
  obtain ⟨w0, w1, w2, w3, rfl⟩ := len4 lw
  simp only [go_sem, Nat.reduceEqDiff, Nat.reduceAdd, Nat.reduceMul, Nat.reduceLeDiff, Int.reduceEq, Int.reduceLT, Int.reduceAdd, reduceCtorEq]
  refine Does.call (does_i_DeskNew K) ?_
  rintro _ H2 ⟨g, F2, lg, rfl, s2, r2⟩
  replace s2 : Step [] H1 H2 F2 := s2
  obtain ⟨g0, g1, g2, g3, rfl⟩ := len4 lg
  simp only [go_sem, Nat.reduceEqDiff, Nat.reduceAdd, Nat.reduceMul, Nat.reduceLeDiff, Int.reduceEq, Int.reduceLT, Int.reduceAdd, reduceCtorEq]
  refine Does.call (does_w_eqDesk K r2 (s2.stay RDesk.good r1)) ?_
  rintro _ H2 ⟨rfl, rfl⟩
  simp only [go_sem, Nat.reduceEqDiff, Nat.reduceAdd, Nat.reduceMul, Nat.reduceLeDiff, Int.reduceEq, Int.reduceLT, Int.reduceAdd, reduceCtorEq]
  have hcnt : (sumL cntRec desk0.log.recs + sumL four desk0.told : Int) = 0 := rfl
  refine Does.call (does_w_markDesk K (k := 1) r2 s2.owned (by omega) (by rw [hcnt]; unfold lenTop; omega)) ?_
  rintro _ H3 ⟨rfl, s3, r3⟩
  replace s3 : Step F2 H2 H3 F2 := s3
  simp only [go_sem, Nat.reduceEqDiff, Nat.reduceAdd, Nat.reduceMul, Nat.reduceLeDiff, Int.reduceEq, Int.reduceLT, Int.reduceAdd, reduceCtorEq]
  refine Does.call (does_w_heldDesk K (k := 1) r3 (by omega) (by rw [hcnt]; unfold lenTop; omega)) ?_
  rintro _ H3 ⟨rfl, rfl⟩
  simp only [go_sem, Nat.reduceEqDiff, Nat.reduceAdd, Nat.reduceMul, Nat.reduceLeDiff, Int.reduceEq, Int.reduceLT, Int.reduceAdd, reduceCtorEq, hcnt]
  refine Does.call (does_i_DeskNew K) ?_
  rintro _ H4 ⟨h, F4, lh, rfl, s4, r4⟩
  replace s4 : Step [] H3 H4 F4 := s4
  obtain ⟨h0, h1, h2, h3, rfl⟩ := len4 lh
  simp only [go_sem, Nat.reduceEqDiff, Nat.reduceAdd, Nat.reduceMul, Nat.reduceLeDiff, Int.reduceEq, Int.reduceLT, Int.reduceAdd, reduceCtorEq]
  have r1' : RDesk H4 [w0, w1, w2, w3] desk0 F1 := s4.stay RDesk.good (s3.keep RDesk.good (s2.stay RDesk.good r1) fun b hb => s2.new (s1.lt b hb))
  refine Does.call (does_w_eqDesk K r4 r1') ?_
  rintro _ H4 ⟨rfl, rfl⟩
  simp only [go_sem, Nat.reduceEqDiff, Nat.reduceAdd, Nat.reduceMul, Nat.reduceLeDiff, Int.reduceEq, Int.reduceLT, Int.reduceAdd, reduceCtorEq]
  refine Does.call (does_w_heldDesk K (k := 1) (s4.stay RDesk.good r3) (by omega) (by rw [hcnt]; unfold lenTop; omega)) ?_
  rintro _ H4 ⟨rfl, rfl⟩
  simp only [go_sem, Nat.reduceEqDiff, Nat.reduceAdd, Nat.reduceMul, Nat.reduceLeDiff, Int.reduceEq, Int.reduceLT, Int.reduceAdd, reduceCtorEq, hcnt]
  exact hQ _ _ (Ends.ret rfl rfl)
end Go.AX
