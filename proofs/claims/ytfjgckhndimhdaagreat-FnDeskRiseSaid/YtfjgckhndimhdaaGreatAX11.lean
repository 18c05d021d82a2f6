/- The abstract machine AX: calls, and whole regions in the order of the text. No condition. -/
import Derived.Test.YtfjgckhndimhdaaGreatAX10
namespace Go.AX

variable {Z : Zs} {G : Ctx} {ρ : Rho} {s s' : S} {a : Act} {w : World} {P : Program} {ops : Array Oper} {Q : Exit → Act → World → Prop}

/-- Behind a call. -/
theorem Sim.call (h : Sim G ρ s a w) {ρ' : Rho} {H' : Heap} {w' : World} (hH : HSim ρ' H' w') (g : Grew ρ s.H w ρ' H') (k : Keep (Own ρ s.H) w w') : Sim G ρ' { s with H := H' } a w' := by
  have own0 : ∀ j, Own ρ s.H j → Own G.ρ0 G.H0 j ∨ G.w0.heap.size ≤ j := fun j hj => by
    obtain ⟨b, B, hb, hr, rfl⟩ := hj
    rcases h.grew.fresh b B hb (by rw [hr]; decide) with g0 | ⟨_, g0, _⟩
    · exact g0
    · rw [hr] at g0; exact absurd g0 (by decide)
  have notown : ∀ (cs : Cnt) (j : Nat), Priv G.w0 ρ s.H w cs j → ¬ Own ρ s.H j := fun cs j hp ho => by
    obtain ⟨b, B, hb, hr, e⟩ := ho
    exact hp.2.2 b B hb (by rw [hr]; decide) e
  have priv : ∀ (cs : Cnt) (j : Nat), Priv G.w0 ρ s.H w cs j → Priv G.w0 ρ' H' w' cs j := fun cs j hp =>
    hp.grow (k.block j hp.lt (notown cs j hp)) g.len g.agree fun b B hb hs => by
      rcases g.fresh b B hb hs with (g0 | g0) | ⟨g0, _, B0, hB0, hr0⟩
      · intro e; rw [e] at g0; exact notown cs j hp g0
      · have := hp.lt; omega
      · rw [g.agree b g0]; exact hp.2.2 b B0 hB0 (by rw [hr0]; decide)
  exact {
    heap := hH
    grew := {
      agree := fun b hb => by rw [g.agree b (Nat.lt_of_lt_of_le hb h.grew.len)]; exact h.grew.agree b hb
      len := Nat.le_trans h.grew.len g.len
      fresh := fun b B hb hs => by
        rcases g.fresh b B hb hs with (g0 | g0) | ⟨g0, g1, B0, hB0, hr0⟩
        · exact .inl (own0 _ g0)
        · exact .inl (.inr (Nat.le_trans h.keep.size g0))
        · rw [g.agree b g0]
          rcases h.grew.fresh b B0 hB0 (by rw [hr0]; decide) with f | ⟨f1, _, f2⟩
          · exact .inl f
          · exact .inr ⟨f1, g1, f2⟩ }
    keep := {
      os := k.os.trans h.keep.os
      tape := k.tape.trans h.keep.tape
      output := k.output.trans h.keep.output
      size := Nat.le_trans h.keep.size k.size
      block := fun j hj hx => by
        rw [k.block j (Nat.lt_of_lt_of_le hj h.keep.size) fun ho => by
          rcases own0 j ho with f | f
          · exact hx f
          · omega]
        exact h.keep.block j hj hx }
    defers := h.defers
    size := h.size
    slot := fun t => (h.slot t).grow g.len g.agree fun cs j _ _ hp => priv cs j hp
    apart := h.apart
    adr := h.adr }

theorem promOne_sim {t : Nat} (hp : prom1 s t = some s') (h : ASim G s a w) : ASim G s' a w := by
  unfold prom1 at hp
  obtain ⟨ρ, h⟩ := h
  split at hp
  · rename_i n cs he
    simp only [Option.some.injEq] at hp; subst hp
    exact h.prom he
  · simp only [Option.some.injEq] at hp; subst hp; exact ⟨ρ, h⟩
  · rename_i es he
    simp only [Option.some.injEq] at hp; subst hp; exact ⟨ρ, h.freeze he⟩
  · simp at hp
theorem proms_sim : ∀ {l : List Nat} {s s' : S}, proms s l = some s' → ASim G s a w → ASim G s' a w := by
  intro l
  induction l with
  | nil => intro s s' hp h; simp [proms] at hp; subst hp; exact h
  | cons t l ih =>
    intro s s' hp h
    simp only [proms] at hp
    cases h1 : prom1 s t with
    | none => simp [h1] at hp
    | some s1 => simp only [h1] at hp; exact ih hp (promOne_sim h1 h)

theorem vals_rel (h : Sim G ρ s a w) : ∀ {xs : List Operand} {ys : List AOp} {vs : List V}, opdsOf xs = some ys → s.vals ys = some vs → All2 (VRel s.H.length ρ) vs (xs.map a.eval) := by
  intro xs
  induction xs with
  | nil => intro ys vs hx hv; simp [opdsOf] at hx; subst hx; simp [S.vals] at hv; subst hv; exact .nil
  | cons x xs ih =>
    intro ys vs hx hv
    simp only [opdsOf] at hx
    split at hx
    · rename_i y ys' h1 h2
      simp only [Option.some.injEq] at hx; subst hx
      simp only [S.vals] at hv
      split at hv
      · rename_i v vs' h3 h4
        simp only [Option.some.injEq] at hv; subst hv
        exact .cons (h.val h3 h1) (ih h2 h4)
      · simp at hv
    · simp at hx

theorem call_goes {f : FuncId} {xs : Array Value} (hc : callable P f = true) (w : World) : (callFunc f xs).run P w = .ok (.enter f xs) w := by
  unfold callable at hc
  cases hf : P.funcs[f]? with
  | none => simp [hf] at hc
  | some fn =>
    simp only [hf, Bool.and_eq_true, Bool.not_eq_true', beq_eq_false_iff_ne, ne_eq] at hc
    have hb : fn.body ≠ none := fun e => by simp [e] at hc
    simp [callFunc, hf, hc.2, hb]

/-- A call, as a step. -/
theorem call_wp {o : Oper} {d : Nat} (hd : o.dst = some d) (hd' : d < G.nt) {f : FuncId} {xs : Array Value} {vs : List V} {r : AV} {H' : Heap} (h : Sim G ρ s a w) (hx : All2 (VRel s.H.length ρ) vs xs.toList) (hc : ACalls P f vs s.H r H')
    (he : (execOp a.eval o).run P w = .ok (.enter f xs) w) {K : Act → World → Prop} (hK : ∀ a' w', ASim G { s.put d r with H := H' } a' w' → K a' w') : o.wp P a w K Q := by
  unfold Oper.wp
  rw [he]
  show Calls P f xs w _
  refine (hc.2 ρ w xs h.heap hx).mono ?_
  rintro e w' ⟨ρ', x, rfl, hr, hH, hg, hk⟩
  simp only
  refine hK _ _ ⟨ρ', ?_⟩
  rw [hd]
  have h1 := (h.call hH hg hk).put (d := d) hd' (v := r) (x := x) (by
    cases r with
    | val v => exact hr
    | tup vs => exact hr
    | _ => exact absurd hr (by simp [RRel])) (by cases r <;> first | rfl | exact absurd hr (by simp [RRel]))
  exact h1

theorem runs_wp {o : Oper} (hr : Runs P G o s' a w) {K : Act → World → Prop} (hK : ∀ a' w', ASim G s' a' w' → K a' w') : o.wp P a w K Q := by
  obtain ⟨nx, x, w', h1, h2, h3⟩ := hr
  unfold Oper.wp
  rw [h1]
  rcases h2 with rfl | ⟨rfl, rfl⟩
  · exact hK _ _ h3
  · exact hK _ _ h3

theorem aoOf_spec {hint : Hint} {nt : Nat} {bs : List (Nat × Nat)} {o : Oper} {ao : AO} (h : aoOf P hint nt bs ops o = some ao) :
    aiOf P hint bs o = some ao.ai ∧ ao.dst = o.dst ∧ ao.ai.dst = o.dst ∧ (∀ d, o.dst = some d → d < nt) ∧
    (o.guard = none ∧ ao.guard = none ∨ ∃ j want g, o.guard = some (j, want) ∧ (ops[j]?).bind (·.dst) = some g ∧ ao.guard = some (g, want)) := by
  unfold aoOf at h
  split at h
  · simp at h
  rename_i ai hai
  split at h
  · rename_i hc
    simp only [Bool.and_eq_true, decide_eq_true_eq] at hc
    have hlt : ∀ d, o.dst = some d → d < nt := fun d hd => by have := hc.1; rw [hd] at this; simpa [dstOk] using this
    split at h
    · rename_i hg
      simp only [Option.some.injEq] at h; subst h
      exact ⟨hai, rfl, hc.2, hlt, .inl ⟨hg, rfl⟩⟩
    · rename_i j want hg
      split at h
      · rename_i g hj
        simp only [Option.some.injEq] at h; subst h
        exact ⟨hai, rfl, hc.2, hlt, .inr ⟨j, want, g, hg, hj, rfl⟩⟩
      · simp at h
  · simp at h

theorem aiOf_call {hint : Hint} {bs : List (Nat × Nat)} {o : Oper} {d : Nat} {f : FuncId} {ys : List AOp} (h : aiOf P hint bs o = some (.call d f ys)) :
    ∃ c, o.op = .call c ∧ c.callee = .value (.func f) ∧ opdsOf c.args.toList = some ys ∧ o.dst = some d := by
  obtain ⟨dst, op, ty', pos, after, guard⟩ := o
  cases op <;> cases dst <;> simp only [aiOf, reduceCtorEq] at h <;> (repeat' split at h) <;> simp_all [Option.map_eq_some_iff]
  obtain ⟨q, e1, rfl, rfl, rfl⟩ := h
  exact ⟨rfl, e1, rfl⟩
theorem aiOf_cald {hint : Hint} {bs : List (Nat × Nat)} {o : Oper} {d t : Nat} {ys : List AOp} (h : aiOf P hint bs o = some (.cald d t ys)) :
    ∃ c, o.op = .call c ∧ c.callee = .value (.tmp t) ∧ opdsOf c.args.toList = some ys ∧ o.dst = some d := by
  obtain ⟨dst, op, ty', pos, after, guard⟩ := o
  cases op <;> cases dst <;> simp only [aiOf, reduceCtorEq] at h <;> (repeat' split at h) <;> simp_all [Option.map_eq_some_iff]
  obtain ⟨q, e1, rfl, rfl, rfl⟩ := h
  exact ⟨rfl, e1, rfl⟩

theorem aiOf_ldz {hint : Hint} {bs : List (Nat × Nat)} {o : Oper} (d t n : Nat) (g : Bool) : aiOf P hint bs o ≠ some (.ldz d t n g) := by
  intro h
  obtain ⟨dst, op, ty', pos, after, guard⟩ := o
  cases op <;> cases dst <;> simp only [aiOf, reduceCtorEq] at h <;> (repeat' split at h) <;> simp_all [Option.map_eq_some_iff]
theorem aiOf_slz {hint : Hint} {bs : List (Nat × Nat)} {o : Oper} (d : Nat) (x : AOp) (lo hi : Option AOp) (n : Nat) : aiOf P hint bs o ≠ some (.slz d x lo hi n) := by
  intro h
  obtain ⟨dst, op, ty', pos, after, guard⟩ := o
  cases op <;> cases dst <;> simp only [aiOf, reduceCtorEq] at h <;> (repeat' split at h) <;> simp_all [Option.map_eq_some_iff]

theorem main_wp {hint : Hint} {bs : List (Nat × Nat)} {o : Oper} {ai : AI} (hai : aiOf P hint bs o = some ai) (hd : ∀ d, o.dst = some d → d < G.nt) (hm : Main P Z ai s s') (h : ASim G s a w)
    {K : Act → World → Prop} (hK : ∀ a' w', ASim G s' a' w' → K a' w') : o.wp P a w K Q := by
  obtain ⟨ρ, h⟩ := h
  have other : stepf ai s = some s' → o.wp P a w K Q := fun hs => runs_wp (op_sound hai hd hs h) hK
  cases ai with
  | call d f ys =>
    obtain ⟨vs, r, H', hv, hc, rfl⟩ := hm
    obtain ⟨c, h1, h2, h3, h4⟩ := aiOf_call hai
    refine call_wp h4 (hd d h4) (xs := (c.args.toList.map a.eval).toArray) h (by simpa using vals_rel h h3 hv) hc ?_ hK
    have := call_goes (xs := (c.args.toList.map a.eval).toArray) hc.1 w
    simp only [execOp, h1, resolve, h2, Act.eval, Deferred.ofValue, Sem.run_bind, Sem.run_pure, Result.andThen_ok, invoke]
    rw [← this]
    congr 2
    apply Array.ext'
    simp
  | cald d t ys =>
    obtain ⟨f, vs, r, H', ht, hv, hc, rfl⟩ := hm
    obtain ⟨c, h1, h2, h3, h4⟩ := aiOf_cald hai
    refine call_wp h4 (hd d h4) (xs := (c.args.toList.map a.eval).toArray) h (by simpa using vals_rel h h3 hv) hc ?_ hK
    have := call_goes (xs := (c.args.toList.map a.eval).toArray) hc.1 w
    have hf : a.eval (.tmp t) = .func (.func f) #[] #[] := by have := h.slot t; rw [ht] at this; exact this
    simp only [execOp, h1, resolve, h2, hf, Deferred.ofValue, Sem.run_bind, Sem.run_pure, Result.andThen_ok, invoke]
    rw [← this]
    congr 2
    apply Array.ext'
    simp
  | ldz => exact absurd hai (aiOf_ldz _ _ _ _)
  | slz => exact absurd hai (aiOf_slz _ _ _ _ _)
  | _ => exact other hm

theorem step_wp {hint : Hint} {bs : List (Nat × Nat)} {o : Oper} {ao : AO} (hao : aoOf P hint G.nt bs ops o = some ao) {i : Nat} (hi : ops[i]? = some o) (hst : Step0 P Z ao s s') (h : ASim G s a w)
    {K : Act → World → Prop} (hK : ∀ a' w', ASim G s' a' w' → K a' w') : wpOp P ops Q i K a w := by
  obtain ⟨hai, hdst, _, hlt, hg⟩ := aoOf_spec hao
  have doit : Do P Z ao s s' → o.wp P a w K Q := fun hdo => by
    obtain ⟨s1, hp, hm⟩ := hdo
    exact main_wp hai hlt hm (proms_sim hp h) hK
  unfold wpOp
  rw [hi]
  simp only
  rcases hg with ⟨g1, g2⟩ | ⟨j, want, g, g1, g2, g3⟩
  · unfold Step0 at hst
    rw [g2] at hst
    rw [if_pos (by simp [Region.wanted, g1])]
    exact .inl (doit hst)
  · unfold Step0 at hst
    rw [g3] at hst
    have skipd : s' = s.skip ao.dst → K (a.put o.dst undef) w := fun hst => by
      subst hst
      refine hK _ _ ?_
      rw [hdst]
      obtain ⟨ρ, h⟩ := h
      cases hd : o.dst with
      | none => exact ⟨ρ, h⟩
      | some d => exact ⟨ρ, h.put (hlt d hd) (v := .tup []) ⟨#[], rfl, .nil⟩ rfl⟩
    rcases hst with ⟨b, hb, hst⟩ | ⟨hb, hst⟩
    · have hy : yielded ops a.tmps j = some b := by
        obtain ⟨ρ, h⟩ := h
        have hs := h.slot g
        rw [hb] at hs
        have hs : ty a g = .bool b := hs
        unfold ty at hs
        unfold yielded
        rw [g2]
        simp only [Option.bind_some]
        rw [Array.getD_eq_getD_getElem?] at hs
        cases ht : a.tmps[g]? with
        | none => simp [ht, undef] at hs
        | some v => simp [ht] at hs; subst hs; rfl
      by_cases hbw : b = want
      · rw [if_pos hbw] at hst
        rw [if_pos (by simp [Region.wanted, g1, hy, hbw])]
        exact .inl (doit hst)
      · rw [if_neg hbw] at hst
        rw [if_neg (by simp [Region.wanted, g1, hy, hbw])]
        exact skipd hst
    · have hy : yielded ops a.tmps j = none := by
        obtain ⟨ρ, h⟩ := h
        have hs := h.slot g
        rw [hb] at hs
        obtain ⟨arr, hs, _⟩ := hs
        unfold ty at hs
        unfold yielded
        rw [g2]
        simp only [Option.bind_some]
        rw [Array.getD_eq_getD_getElem?] at hs
        cases ht : a.tmps[g]? with
        | none => rfl
        | some v => simp [ht] at hs; subst hs; rfl
      rw [if_neg (by simp [Region.wanted, g1, hy])]
      exact skipd hst

theorem aosOf_cons {hint : Hint} {nt : Nat} {bs : List (Nat × Nat)} {o : Oper} {r : List Oper} {aos : List AO} (h : aosOf P hint nt ops bs (o :: r) = some aos) :
    ∃ x xs, aos = x :: xs ∧ aoOf P hint nt bs ops o = some x ∧ aosOf P hint nt ops (nextBs hint bs x.ai) r = some xs := by
  simp only [aosOf] at h
  split at h
  · rename_i x hx
    split at h
    · rename_i xs hxs
      simp only [Option.some.injEq] at h; subst h
      exact ⟨x, xs, rfl, hx, hxs⟩
    · simp at h
  · simp at h

theorem ops_wp {hint : Hint} : ∀ {l : List Oper} {bs : List (Nat × Nat)} {aos : List AO} {k : Nat} {s : S} {a : Act} {w : World}, aosOf P hint G.nt ops bs l = some aos → (∀ j, l[j]? = ops[k + j]?) → Ops P Z aos s s' → ASim G s a w →
    (∀ a' w', ASim G s' a' w' → Q .normal a' w') → wpOps P ops Q (List.range' k l.length) a w := by
  intro l
  induction l with
  | nil =>
    intro bs aos k s a w hao _ hop h hQ
    simp [aosOf] at hao; subst hao
    cases hop
    exact hQ _ _ h
  | cons o l ih =>
    intro bs aos k s a w hao hl hop h hQ
    obtain ⟨x, xs, rfl, hx, hxs⟩ := aosOf_cons hao
    cases hop with
    | cons hst hrest =>
      rw [List.length_cons, List.range'_succ, wpOps_cons]
      have h0 := hl 0
      simp only [List.getElem?_cons_zero, Nat.add_zero] at h0
      refine step_wp hx h0.symm hst.1 h fun a' w' h' => ?_
      exact ih hxs (fun j => by have := hl (j + 1); simp only [List.getElem?_cons_succ] at this; rw [this]; congr 1; omega) hrest h' hQ

theorem ASim.reset (h : ASim G s a w) : ASim G s.reset a w := by
  obtain ⟨ρ, h⟩ := h
  exact ⟨ρ, { heap := h.heap, grew := h.grew, keep := h.keep, defers := h.defers, size := h.size, slot := h.slot, apart := h.apart, adr := fun t u o hh => by simp [S.reset] at hh }⟩

/-- A region in the order of its text. -/
theorem region_wp {hint : Hint} {aos : List AO} {id : Nat} (hao : aosOf P hint G.nt ops [] ops.toList = some aos) (hop : Ops P noZ aos s.reset s') (h : ASim G s a w) (hQ : ∀ a' w', ASim G s' a' w' → Q .normal a' w') :
    (Code.region id ops false).wp P Q a w := by
  refine wp_region ?_
  have := ops_wp (Q := Q) (k := 0) hao (fun j => by simp) hop h.reset hQ
  rwa [← List.range_eq_range', Array.length_toList] at this

end Go.AX
