/- The abstract machine AX: a region whose order is drawn comes to what it comes to in the order of its text. Condition: each two operations without an order between them don't touch each other. -/
import Derived.Test.YtfjgckhndimhdaaGreatAX12
namespace Go.AX

variable {Z : Zs} {G : Ctx} {ρ : Rho} {s s' : S} {a : Act} {w : World} {P : Program} {ops : Array Oper} {Q : Exit → Act → World → Prop}

/-- An operation that may go first goes first. -/
theorem bubble {x : AO} : ∀ {pre post : List AO} {s s' : S}, (∀ y ∈ pre, indep y x = true) → Ops P Z (pre ++ x :: post) s s' → ∃ s1, Step1 P Z x s s1 ∧ Ops P Z (pre ++ post) s1 s' := by
  intro pre
  induction pre with
  | nil => intro post s s' _ h; cases h with | cons h1 h2 => exact ⟨_, h1, h2⟩
  | cons y pre ih =>
    intro post s s' hi h
    cases h with
    | cons h1 h2 =>
      obtain ⟨s2, g1, g2⟩ := ih (fun z hz => hi z (by simp [hz])) h2
      obtain ⟨t1, e1, e2⟩ := swap (hi y (by simp)) h1 g1
      exact ⟨t1, e1, .cons e2 g2⟩

/-- What stays is alive whatever else becomes. -/
theorem promOne_holds {N t : Nat} {s s1 : S} (h : prom1 s t = some s1) (hz : HoldsTo N Z s.H) (hn : N ≤ s.H.length) : HoldsTo N Z s1.H ∧ N ≤ s1.H.length ∧ ∀ u c o, s1.env u = .val (.c (.ptr c o)) → s.env u = .val (.c (.ptr c o)) := by
  unfold prom1 at h
  split at h
  · simp only [Option.some.injEq] at h; subst h
    refine ⟨fun c cs hc hlt => ?_, by simp; omega, fun u c o hu => ?_⟩
    · have h0 := hz c cs hc hlt
      unfold Heap.live Heap.szv at h0 ⊢
      simp only
      rwa [List.getElem?_append_left (by omega)]
    · simp only [upd] at hu
      split at hu
      · simp at hu
      · exact hu
  · simp only [Option.some.injEq] at h; subst h; exact ⟨hz, hn, fun _ _ _ h => h⟩
  · simp only [Option.some.injEq] at h; subst h
    refine ⟨hz, hn, fun u c o hu => ?_⟩
    simp only [upd] at hu
    split at hu
    · simp at hu
    · exact hu
  · simp at h
theorem proms_holds {N : Nat} : ∀ {l : List Nat} {s s1 : S}, proms s l = some s1 → HoldsTo N Z s.H → N ≤ s.H.length → HoldsTo N Z s1.H ∧ ∀ u c o, s1.env u = .val (.c (.ptr c o)) → s.env u = .val (.c (.ptr c o)) := by
  intro l
  induction l with
  | nil => intro s s1 h hz hn; simp [proms] at h; subst h; exact ⟨hz, fun _ _ _ h => h⟩
  | cons t l ih =>
    intro s s1 h hz hn
    simp only [proms] at h
    cases h1 : prom1 s t with
    | none => simp [h1] at h
    | some s2 =>
      simp only [h1] at h
      obtain ⟨g1, g2, g3⟩ := promOne_holds h1 hz hn
      obtain ⟨k1, k2⟩ := ih h g1 g2
      exact ⟨k1, fun u c o hu => g3 u c o (k2 u c o hu)⟩
theorem relax_main {ai : AI} {N : Nat} {s s1 : S} (h : Main P Z (relaxAI ai) s s1) (hz : HoldsTo N Z s.H) (hp : ∀ u c o, s.env u = .val (.c (.ptr c o)) → c < N) : Main P Z ai s s1 := by
  cases ai with
  | ld d t n g b hp' =>
    cases hp' with
    | false => exact h
    | true =>
      have h : loadZ Z d t n g s = some s1 := h
      show stepf (.ld d t n g b true) s = some s1
      unfold loadZ at h
      simp only [stepf, if_true]
      split at h
      · rename_i c o he
        split at h
        · rename_i ha
          simp only [ha, if_true]
          split at h
          · rename_i cs hc
            simp only [(hz c cs hc (hp t c o he)).1]
            exact h
          · simp at h
        · simp at h
      · simp at h
  | _ => exact h
theorem slcZ_slcC {N n : Nat} {H : Heap} {c : C} {lo : Int} {hi : Option Int} {r : C} (h : slcZ Z n c lo hi = some r) (hz : HoldsTo N Z H) (hc : ∀ b o l, c = .sl b o l → b < N) : slcC H n c lo hi = some r := by
  cases c with
  | sl b off len =>
    unfold slcZ at h
    unfold slcC
    simp only at h ⊢
    split at h
    · rename_i h1
      rw [if_pos h1]
      split at h
      · rename_i h2; rw [if_pos h2]; exact h
      · rename_i h2
        rw [if_neg h2]
        split at h
        · rename_i h3
          rw [if_pos h3]
          split at h
          · rename_i h4
            obtain ⟨h5, h6⟩ := h4
            obtain ⟨p, hp, e⟩ := Option.map_eq_some_iff.1 h6
            have := (hz b p hp (hc b off len rfl)).2 (by rw [e]; exact h5)
            rw [e] at this
            rw [if_pos this]; exact h
          · simp at h
        · rename_i h3; rw [if_neg h3]; exact h
    · simp at h
  | _ => exact h
theorem relax_sl {ai : AI} {N : Nat} {s s1 : S} (h : Main P Z (relaxSl ai) s s1) (hz : HoldsTo N Z s.H) (hp : ∀ u c o l, s.env u = .val (.c (.sl c o l)) → c < N) : Main P Z ai s s1 := by
  cases ai with
  | slc d x lo hi n =>
    have h : S.putV s d (sliceV Z x lo hi n s) = some s1 := h
    show stepf (.slc d x lo hi n) s = some s1
    cases x with
    | k c => simp [sliceV, S.putV] at h
    | t i =>
      simp only [sliceV] at h
      simp only [stepf]
      split at h
      · rename_i c k l e1 e2 e3
        have e0 : s.val (.t i) = some (.c c) := by simp only [S.val, e1]
        rw [e0, e2, e3]
        cases hq : slcZ Z n c l none with
        | none => rw [hq] at h; simp [S.putV] at h
        | some r =>
          rw [hq] at h
          simp only [slcZ_slcC hq hz (fun b o l e => hp i b o l (by rw [e1, e]))]
          exact h
      · rename_i c k l k' h' e1 e2 e3
        have e0 : s.val (.t i) = some (.c c) := by simp only [S.val, e1]
        rw [e0, e2, e3]
        cases hq : slcZ Z n c l (some h') with
        | none => rw [hq] at h; simp [S.putV] at h
        | some r =>
          rw [hq] at h
          simp only [slcZ_slcC hq hz (fun b o l e => hp i b o l (by rw [e1, e]))]
          exact h
      · simp [S.putV] at h
  | _ => exact h
theorem relax_step {x : AO} {s s1 : S} (h : Step0 P Z (relaxAO x) s s1) (hz : Holds Z s.H) (hp : ∀ u c o, s.env u = .val (.c (.ptr c o)) → c < s.H.length) (hq : ∀ u c o l, s.env u = .val (.c (.sl c o l)) → c < s.H.length) : Step0 P Z x s s1 := by
  obtain ⟨g, d, ps, ai⟩ := x
  have hdo : ∀ s1, Do P Z (relaxAO ⟨g, d, ps, ai⟩) s s1 → Do P Z ⟨g, d, ps, ai⟩ s s1 := fun s1 ⟨s2, h1, h2⟩ => by
    cases ps with
    | nil =>
      have e : s2 = s := by
        have h1 : proms s [] = some s2 := h1
        simp [proms] at h1; exact h1.symm
      subst e
      exact ⟨s2, rfl, relax_main (relax_sl h2 hz hq) hz hp⟩
    | cons p ps =>
      obtain ⟨k1, k2⟩ := proms_holds (l := p :: ps) h1 hz (Nat.le_refl _)
      exact ⟨s2, h1, relax_main h2 k1 fun u c o hu => hp u c o (k2 u c o hu)⟩
  have eg : (relaxAO ⟨g, d, ps, ai⟩).guard = g ∧ (relaxAO ⟨g, d, ps, ai⟩).dst = d := by unfold relaxAO; split <;> exact ⟨rfl, rfl⟩
  unfold Step0 at h
  rw [eg.1, eg.2] at h
  cases g with
  | none => exact hdo s1 h
  | some gw =>
    obtain ⟨g, want⟩ := gw
    rcases h with ⟨b, hb, h⟩ | h
    · refine .inl ⟨b, hb, ?_⟩
      split at h
      · rename_i c; rw [if_pos c]; exact hdo s1 h
      · rename_i c; rw [if_neg c]; exact h
    · exact .inr h
theorem ASim.ptr_lt (h : ASim G s a w) : ∀ u c o, s.env u = .val (.c (.ptr c o)) → c < s.H.length := fun u c o he => by
  obtain ⟨ρ, h⟩ := h
  have hs := h.slot u
  rw [he] at hs
  exact hs.1
theorem ASim.sl_lt (h : ASim G s a w) : ∀ u c o l, s.env u = .val (.c (.sl c o l)) → c < s.H.length := fun u c o l he => by
  obtain ⟨ρ, h⟩ := h
  have hs := h.slot u
  rw [he] at hs
  exact hs.1

def maskOf (acc : Array Nat) (o : Oper) : Nat := o.after.foldl (fun s e => if Region.binds .any e then s ||| 2 ^ e.on ||| acc.getD e.on 0 else s) 0
theorem masks_cons (o : Oper) (l : List Oper) (acc : Array Nat) : masks (o :: l) acc = masks l (acc.push (maskOf acc o)) := rfl
theorem masks_old : ∀ (l : List Oper) (acc : Array Nat) (j : Nat), j < acc.size → (masks l acc).getD j 0 = acc.getD j 0 := by
  intro l
  induction l with
  | nil => intro acc j _; rfl
  | cons o l ih =>
    intro acc j hj
    rw [masks_cons, ih _ j (by simp; omega)]
    simp [Array.getD_eq_getD_getElem?, Array.getElem?_push, Nat.ne_of_lt hj]
theorem maskOf_bit {acc : Array Nat} {o : Oper} {j : Nat} (h : (maskOf acc o).testBit j = true) : ∃ e ∈ o.after, Region.binds .any e = true ∧ (j = e.on ∨ (acc.getD e.on 0).testBit j = true) := by
  have key : ∀ (l : List Edge) (q : Nat), (l.foldl (fun s e => if Region.binds .any e then s ||| 2 ^ e.on ||| acc.getD e.on 0 else s) q).testBit j = true →
      q.testBit j = true ∨ ∃ e ∈ l, Region.binds .any e = true ∧ (j = e.on ∨ (acc.getD e.on 0).testBit j = true) := by
    intro l
    induction l with
    | nil => intro q hq; exact .inl hq
    | cons e l ih =>
      intro q hq
      simp only [List.foldl_cons] at hq
      rcases ih _ hq with h1 | ⟨e', h1, h2⟩
      · split at h1
        · rename_i hb
          simp only [Nat.testBit_or, Bool.or_eq_true] at h1
          rcases h1 with (h1 | h1) | h1
          · exact .inl h1
          · refine .inr ⟨e, by simp, hb, .inl ?_⟩
            rw [Nat.testBit_two_pow] at h1
            simp at h1; exact h1.symm
          · exact .inr ⟨e, by simp, hb, .inr h1⟩
        · exact .inl h1
      · exact .inr ⟨e', by simp [h1], h2⟩
  unfold maskOf at h
  rw [← Array.foldl_toList] at h
  rcases key _ _ h with h1 | ⟨e, h1, h2⟩
  · simp at h1
  · exact ⟨e, by simpa using h1, h2⟩
theorem masks_new : ∀ (l : List Oper) (acc : Array Nat) (k : Nat) (o : Oper), l[k]? = some o → ∃ acc' : Array Nat, acc'.size = acc.size + k ∧ (∀ j, j < acc'.size → acc'.getD j 0 = (masks l acc).getD j 0) ∧ (masks l acc).getD (acc.size + k) 0 = maskOf acc' o := by
  intro l
  induction l with
  | nil => intro acc k o h; simp at h
  | cons p l ih =>
    intro acc k o h
    cases k with
    | zero =>
      simp at h; subst h
      refine ⟨acc, rfl, fun j hj => (masks_old _ _ _ hj).symm, ?_⟩
      rw [masks_cons, masks_old _ _ _ (by simp)]
      simp [Array.getD_eq_getD_getElem?]
    | succ k =>
      simp at h
      obtain ⟨acc', h1, h2, h3⟩ := ih (acc.push (maskOf acc p)) k o h
      refine ⟨acc', by rw [h1]; simp; omega, fun j hj => by rw [masks_cons]; exact h2 j hj, ?_⟩
      rw [masks_cons]
      rw [show acc.size + (k + 1) = (acc.push (maskOf acc p)).size + k from by simp; omega]
      exact h3

theorem orderOk_spec {aos : List AO} (h : orderOk ops.toList aos = true) :
    (∀ (i : Nat) (o : Oper) (e : Edge), ops[i]? = some o → e ∈ o.after → Region.binds .any e = true → e.on < i) ∧
    ∀ (i j : Nat) (x y : AO), i < j → aos[i]? = some x → aos[j]? = some y → ((masks ops.toList #[]).getD j 0).testBit i = true ∨ indep x y = true := by
  simp only [orderOk, Bool.and_eq_true, List.all_eq_true] at h
  obtain ⟨h1, h2⟩ := h
  constructor
  · intro i o e ho he hb
    have := h1 (o, i) (by rw [List.mem_zipIdx_iff_getElem?]; simpa using ho)
    simp only [Array.all_eq_true_iff_forall_mem] at this
    have := this e he
    simp [hb] at this
    exact this
  · intro i j x y hij hx hy
    have := h2 (y, j) (by rw [List.mem_zipIdx_iff_getElem?]; exact hy)
    have := this (x, i) (by rw [List.mem_zipIdx_iff_getElem?]; simp only; rw [List.getElem?_take_of_lt hij]; exact hx)
    simpa using this

/-- Which operations are still to come. -/
structure Todo (ops : Array Oper) (aos : List AO) (listed : Array Bool) (rem : List (Nat × AO)) : Prop where
  size : listed.size = ops.size
  mem : ∀ i x, (i, x) ∈ rem ↔ listed[i]? = some false ∧ aos[i]? = some x
  sorted : rem.Pairwise fun p q => p.1 < q.1
  closed : ∀ i, listed[i]? = some true → ∀ j, ((masks ops.toList #[]).getD i 0).testBit j = true → listed[j]? = some true

theorem ready_spec {listed : Array Bool} {i : Nat} (h : i ∈ Region.ready .any ops listed) : i < ops.size ∧ listed[i]? = some false ∧ ∃ o, ops[i]? = some o ∧ ∀ e ∈ o.after, Region.binds .any e = true → listed[e.on]? = some true := by
  simp only [Region.ready, List.mem_filter, List.mem_range, Bool.and_eq_true, Bool.not_eq_true'] at h
  obtain ⟨h1, h2, h3⟩ := h
  have ho : ops[i]? = some ops[i] := by simp [h1]
  refine ⟨h1, ?_, ops[i], ho, fun e he hb => ?_⟩
  · rw [Array.getD_eq_getD_getElem?] at h2
    cases hc : listed[i]? with
    | none => simp [hc] at h2
    | some b => simp [hc] at h2; simp [h2]
  · rw [ho] at h3
    simp only [Option.map_some, Option.getD_some, Array.all_eq_true_iff_forall_mem] at h3
    have := h3 e he
    simp only [hb, Bool.not_true, Bool.false_or] at this
    rw [Array.getD_eq_getD_getElem?] at this
    cases hc : listed[e.on]? with
    | none => simp [hc] at this
    | some b => simp [hc] at this; simp [this]

theorem any_wp {hint : Hint} {aos : List AO} (hlen : aos.length = ops.size) (hao : ∀ (i : Nat) (o : Oper) (x : AO), ops[i]? = some o → aos[i]? = some x → ∃ bs x0, aoOf P hint G.nt bs ops o = some x0 ∧ (x = x0 ∨ x = relaxAO x0)) (hok : orderOk ops.toList aos = true)
    (hQ : ∀ a' w', ASim G s' a' w' → Q .normal a' w') : ∀ (fuel : Nat) (listed : Array Bool) (rem : List (Nat × AO)) (s : S) (a : Act) (w : World), Todo ops aos listed rem → rem.length = fuel → Ops P Z (rem.map (·.2)) s s' → Holds Z s.H → ASim G s a w →
    wpAny P .any ops Q fuel listed a w := by
  obtain ⟨hedge, hpair⟩ := orderOk_spec hok
  intro fuel
  induction fuel with
  | zero =>
    intro listed rem s a w ht hl hop hz h
    have : rem = [] := List.length_eq_zero_iff.1 hl
    subst this
    refine ⟨?_, ?_⟩
    · rw [List.eq_nil_iff_forall_not_mem]
      intro i hi
      obtain ⟨h1, h2, _⟩ := ready_spec hi
      have hx : aos[i]? = some (aos[i]'(by omega)) := by simp
      exact absurd ((ht.mem i _).2 ⟨h2, hx⟩) (by simp)
    · cases hop; exact hQ _ _ h
  | succ fuel ih =>
    intro listed rem s a w ht hl hop hz h
    refine ⟨fun hr => ?_, fun i hi => ?_⟩
    · -- something may always go
      exfalso
      match rem, hl with
      | (i, x) :: rem', _ =>
        obtain ⟨hli, hx⟩ := (ht.mem i x).1 (by simp)
        have hsz : i < ops.size := by rw [← ht.size]; exact (Array.getElem?_eq_some_iff.1 hli).1
        have : i ∈ Region.ready .any ops listed := by
          simp only [Region.ready, List.mem_filter, List.mem_range, Bool.and_eq_true, Bool.not_eq_true']
          refine ⟨hsz, by simp [Array.getD_eq_getD_getElem?, hli], ?_⟩
          have ho : ops[i]? = some ops[i] := by simp [hsz]
          rw [ho]
          simp only [Option.map_some, Option.getD_some, Array.all_eq_true_iff_forall_mem]
          intro e he
          cases hb : Region.binds .any e with
          | false => rfl
          | true =>
            have hlt := hedge i _ e ho he hb
            simp only [Bool.not_true, Bool.false_or]
            rw [Array.getD_eq_getD_getElem?]
            cases hc : listed[e.on]? with
            | none => rw [Array.getElem?_eq_none_iff] at hc; rw [ht.size] at hc; omega
            | some b =>
              cases b with
              | true => rfl
              | false =>
                have hx2 : aos[e.on]? = some (aos[e.on]'(by omega)) := by simp
                have hm := (ht.mem e.on _).2 ⟨hc, hx2⟩
                simp only [List.mem_cons, Prod.mk.injEq] at hm
                rcases hm with hm | hm
                · omega
                · have := List.rel_of_pairwise_cons ht.sorted hm; simp at this; omega
        rw [hr] at this; simp at this
    · obtain ⟨hsz, hli, o, ho, hed⟩ := ready_spec hi
      have hx : aos[i]? = some (aos[i]'(by omega)) := by simp
      generalize hxx : aos[i]'(by omega) = x at hx
      have hmem := (ht.mem i x).2 ⟨hli, hx⟩
      obtain ⟨pre, post, rfl⟩ := List.append_of_mem hmem
      have hpre : ∀ p ∈ pre, p.1 < i := fun p hp => by
        have := ht.sorted
        rw [List.pairwise_append] at this
        exact this.2.2 p hp (i, x) (by simp)
      have hclosed : ∀ j, ((masks ops.toList #[]).getD i 0).testBit j = true → listed[j]? = some true := fun j hj => by
        obtain ⟨acc', g1, g2, g3⟩ := masks_new ops.toList #[] i o (by simpa using ho)
        simp only [Array.size_empty, Nat.zero_add] at g1 g3
        rw [g3] at hj
        obtain ⟨e, he, hb, hc⟩ := maskOf_bit hj
        have hlt := hedge i o e ho he hb
        rcases hc with rfl | hc
        · exact hed e he hb
        · exact ht.closed e.on (hed e he hb) j (by rw [← g2 e.on (by omega)]; exact hc)
      have hind : ∀ y ∈ pre.map (·.2), indep y x = true := fun y hy => by
        obtain ⟨p, hp, rfl⟩ := List.mem_map.1 hy
        obtain ⟨hlp, hyp⟩ := (ht.mem p.1 p.2).1 (by simp [hp])
        rcases hpair p.1 i p.2 x (hpre p hp) hyp hx with hc | hc
        · rw [hclosed p.1 hc] at hlp; simp at hlp
        · exact hc
      rw [List.map_append, List.map_cons] at hop
      obtain ⟨s1, hst, hrest⟩ := bubble hind hop
      obtain ⟨bs, x0, hb, hx0⟩ := hao i o x ho hx
      have hst0 : Step0 P Z x0 s s1 := by
        rcases hx0 with rfl | rfl
        · exact hst.1
        · exact relax_step hst.1 hz h.ptr_lt h.sl_lt
      refine step_wp hb ho hst0 h fun a' w' h' => ?_
      refine ih (listed.setIfInBounds i true) (pre ++ post) s1 a' w' ?_ (by simp at hl ⊢; omega) (by rw [List.map_append]; exact hrest) (step_holds hst hz) h'
      have hil : i < listed.size := by rw [ht.size]; exact hsz
      have hset : ∀ j, (listed.setIfInBounds i true)[j]? = if j = i then some true else listed[j]? := fun j => by
        by_cases c : j = i
        · subst c; simp [hil]
        · rw [if_neg c, Array.getElem?_setIfInBounds_ne (Ne.symm c)]
      have hnot : ∀ p ∈ pre ++ post, p.1 ≠ i := fun p hp => by
        have := ht.sorted
        rw [List.pairwise_append, List.pairwise_cons] at this
        simp only [List.mem_append] at hp
        rcases hp with hp | hp
        · have := this.2.2 p hp (i, x) (by simp); simp at this; omega
        · have := this.2.1.1 p hp; simp at this; omega
      exact {
        size := by simp [ht.size]
        mem := fun j y => by
          rw [hset]
          constructor
          · intro hm
            have hne := hnot (j, y) hm
            simp only at hne
            rw [if_neg hne]
            exact (ht.mem j y).1 (by simp only [List.mem_append, List.mem_cons] at hm ⊢; rcases hm with hm | hm <;> simp [hm])
          · rintro ⟨h1, h2⟩
            split at h1
            · simp at h1
            · rename_i hne
              have := (ht.mem j y).2 ⟨h1, h2⟩
              simp only [List.mem_append, List.mem_cons, Prod.mk.injEq] at this ⊢
              rcases this with hm | ⟨hm, _⟩ | hm
              · exact .inl hm
              · exact absurd hm hne
              · exact .inr hm
        sorted := by
          have := ht.sorted
          rw [List.pairwise_append, List.pairwise_cons] at this
          rw [List.pairwise_append]
          exact ⟨this.1, this.2.1.2, fun p hp q hq => this.2.2 p hp q (by simp [hq])⟩
        closed := fun j hj k hk => by
          rw [hset] at hj ⊢
          split
          · rfl
          · split at hj
            · rename_i e; subst e; exact hclosed k hk
            · exact ht.closed j hj k hk }

theorem aosOf_len {hint : Hint} {nt : Nat} : ∀ {l : List Oper} {bs : List (Nat × Nat)} {aos : List AO}, aosOf P hint nt ops bs l = some aos → aos.length = l.length := by
  intro l
  induction l with
  | nil => intro bs aos h; simp [aosOf] at h; subst h; rfl
  | cons o l ih => intro bs aos h; obtain ⟨x, xs, rfl, _, h2⟩ := aosOf_cons h; simp [ih h2]
theorem aosOf_get {hint : Hint} {nt : Nat} : ∀ {l : List Oper} {bs : List (Nat × Nat)} {aos : List AO}, aosOf P hint nt ops bs l = some aos → ∀ (i : Nat) (o : Oper) (x : AO), l[i]? = some o → aos[i]? = some x → ∃ bs, aoOf P hint nt bs ops o = some x := by
  intro l
  induction l with
  | nil => intro bs aos h i o x ho; simp at ho
  | cons p l ih =>
    intro bs aos h i o x ho hx
    obtain ⟨y, ys, rfl, h1, h2⟩ := aosOf_cons h
    cases i with
    | zero => simp at ho hx; subst ho hx; exact ⟨bs, h1⟩
    | succ i => simp at ho hx; exact ih h2 i o x ho hx

/-- A region whose order is drawn. -/
theorem region_any_wp {hint : Hint} {aos : List AO} {id : Nat} (hm : P.follows .mixedOrders = true) (hlen : aos.length = ops.size)
    (hao : ∀ (i : Nat) (o : Oper) (x : AO), ops[i]? = some o → aos[i]? = some x → ∃ bs x0, aoOf P hint G.nt bs ops o = some x0 ∧ (x = x0 ∨ x = relaxAO x0)) (hok : orderOk ops.toList aos = true) (hz : Holds Z s.H) (hop : Ops P Z aos s.reset s') (h : ASim G s a w)
    (hQ : ∀ a' w', ASim G s' a' w' → Q .normal a' w') : (Code.region id ops true).wp P Q a w := by
  refine wp_region_any hm ?_
  have h' : ASim G s.reset a { w with drawn := w.drawn + 1 } := by
    obtain ⟨ρ, h0⟩ := h.reset
    exact ⟨ρ, h0.ext (Ext.drawn w _)⟩
  refine any_wp hlen hao hok hQ ops.size _ (aos.zipIdx.map fun p => (p.2, p.1)) s.reset a _ ?_ (by simp [hlen]) (by
    rw [List.map_map]
    have e : aos.zipIdx.map ((fun x => x.2) ∘ fun p => (p.2, p.1)) = aos := by
      have := List.zipIdx_map_fst 0 aos
      exact this
    rw [e]; exact hop) hz h'
  exact {
    size := by simp
    mem := fun i x => by
      simp only [List.mem_map, Prod.exists, Prod.mk.injEq]
      constructor
      · rintro ⟨y, j, hm, rfl, rfl⟩
        rw [List.mem_zipIdx_iff_getElem?] at hm
        have hlt : j < aos.length := (List.getElem?_eq_some_iff.1 hm).1
        exact ⟨by rw [Array.getElem?_replicate, if_pos (by omega)], hm⟩
      · rintro ⟨_, hx⟩
        exact ⟨x, i, by rw [List.mem_zipIdx_iff_getElem?]; exact hx, rfl, rfl⟩
    sorted := by
      rw [List.pairwise_map]
      rw [List.pairwise_iff_getElem]
      intro i j hi hj hij
      simp
      exact hij
    closed := fun i hi => by
      rw [Array.getElem?_replicate] at hi
      split at hi <;> simp at hi }

theorem region_draw_wp {hint : Hint} {aos : List AO} {id : Nat} (hm : P.follows .mixedOrders = true) (hao : aosOf P hint G.nt ops [] ops.toList = some aos) (hok : orderOk ops.toList aos = true) (hop : Ops P noZ aos s.reset s') (h : ASim G s a w)
    (hQ : ∀ a' w', ASim G s' a' w' → Q .normal a' w') : (Code.region id ops true).wp P Q a w :=
  region_any_wp hm (by rw [aosOf_len hao]; simp) (fun i o x ho hx => by
    obtain ⟨bs, h⟩ := aosOf_get hao i o x (by simpa using ho) hx
    exact ⟨bs, x, h, .inl rfl⟩) hok (Holds.no _) hop h hQ

theorem relaxed_get {l : List Oper} {aos : List AO} {i : Nat} {x : AO} (h : (relaxed l aos)[i]? = some x) : ∃ x0, aos[i]? = some x0 ∧ (x = x0 ∨ x = relaxAO x0) := by
  simp only [relaxed, List.getElem?_map, List.getElem?_zipIdx, Option.map_map, Option.map_eq_some_iff] at h
  obtain ⟨x0, h1, rfl⟩ := h
  refine ⟨x0, h1, ?_⟩
  simp only [Function.comp]
  split
  · exact .inr rfl
  · exact .inl rfl
theorem region_relaxed_wp {hint : Hint} {aos : List AO} {id : Nat} (hm : P.follows .mixedOrders = true) (hao : aosOf P hint G.nt ops [] ops.toList = some aos) (hok : orderOk ops.toList (relaxed ops.toList aos) = true) (hz : Holds Z s.H)
    (hop : Ops P Z (relaxed ops.toList aos) s.reset s') (h : ASim G s a w) (hQ : ∀ a' w', ASim G s' a' w' → Q .normal a' w') : (Code.region id ops true).wp P Q a w :=
  region_any_wp hm (by simp [relaxed, aosOf_len hao]) (fun i o x ho hx => by
    obtain ⟨x0, h0, h1⟩ := relaxed_get hx
    obtain ⟨bs, h⟩ := aosOf_get hao i o x0 (by simpa using ho) h0
    exact ⟨bs, x0, h, h1⟩) hok hz hop h hQ

end Go.AX
