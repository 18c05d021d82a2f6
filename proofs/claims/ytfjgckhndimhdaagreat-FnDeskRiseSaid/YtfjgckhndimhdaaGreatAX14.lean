/- The abstract machine AX: whole functions. Condition: the function is read as abstract code. -/
import Derived.Test.YtfjgckhndimhdaaGreatAX13
import Derived.Deep.LoopGhost
namespace Go.AX

variable {G : Ctx} {ρ : Rho} {P : Program}

def exitOf : AExit → Exit
  | .normal => .normal
  | .exit id => .exit id
  | .ret => .ret

def LoopN (P : Program) (a : ACode) : Nat → S → AExit → S → Prop
  | 0, s, x, s' => Big P a s x s' ∧ x ≠ .normal
  | n + 1, s, x, s' => ∃ s1, Big P a s .normal s1 ∧ LoopN P a n s1 x s'
theorem loopN_of {c a : ACode} {s s' : S} {x : AExit} (h : Big P c s x s') (hc : c = .loop a) : ∃ n, LoopN P a n s x s' := by
  induction h with
  | loop h1 _ _ ih2 =>
    injection hc with hc; subst hc
    obtain ⟨n, hn⟩ := ih2 rfl
    exact ⟨n + 1, _, h1, hn⟩
  | loopx h1 hx _ => injection hc with hc; subst hc; exact ⟨0, h1, hx⟩
  | _ => exact absurd hc (by simp)

/-- What a run of the abstract code comes to, the code comes to. -/
theorem big_wp {hint : Hint} (hm : P.follows .mixedOrders = true) : ∀ (c0 : Code) {c : ACode} {s s' : S} {x : AExit} {a : Act} {w : World} {Q : Exit → Act → World → Prop}, codeOf P hint G.nt c0 = some c → Big P c s x s' → ASim G s a w →
    (∀ a' w', ASim G s' a' w' → Q (exitOf x) a' w') → c0.wp P Q a w := by
  intro c0
  induction c0 with
  | skip =>
    intro c s s' x a w Q hc hb h hQ
    simp [codeOf] at hc; subst hc
    cases hb
    exact wp_skip (hQ _ _ h)
  | region id ops draw =>
    intro c s s' x a w Q hc hb h hQ
    simp only [codeOf] at hc
    split at hc
    · rename_i aos hao
      split at hc
      · rename_i hok
        simp only [Option.some.injEq] at hc; subst hc
        cases hb with
        | region hop =>
          cases draw with
          | false => exact region_wp hao hop h hQ
          | true => exact region_draw_wp hm hao (by simpa using hok) hop h hQ
      · rename_i hno
        split at hc
        · rename_i hok
          simp only [Option.some.injEq] at hc; subst hc
          have hd : draw = true := by cases draw <;> simp_all
          subst hd
          cases hb with
          | regionZ Z hz hop => exact region_relaxed_wp hm hao hok hz hop h hQ
        · simp at hc
    · simp at hc
  | seq a0 b0 iha ihb =>
    intro c s s' x a w Q hc hb h hQ
    simp only [codeOf] at hc
    split at hc
    · rename_i ca cb h1 h2
      simp only [Option.some.injEq] at hc; subst hc
      refine wp_seq ?_
      cases hb with
      | seq ha hb => exact iha h1 ha h fun a' w' h' => ihb h2 hb h' hQ
      | seqx ha hx =>
        refine iha h1 ha h fun a' w' h' => ?_
        have := hQ a' w' h'
        cases x with
        | normal => exact absurd rfl hx
        | exit id => exact this
        | ret => exact this
    · simp at hc
  | cond co a0 b0 iha ihb =>
    intro c s s' x a w Q hc hb h hQ
    simp only [codeOf] at hc
    split at hc
    · rename_i cc ca cb h0 h1 h2
      simp only [Option.some.injEq] at hc; subst hc
      cases hb with
      | cond hv hb =>
        rename_i t
        have hv' : a.eval co = .bool t := by
          obtain ⟨ρ, h⟩ := h
          exact bool_rel (h.val hv h0)
        refine wp_cond hv' ?_
        cases t with
        | true => exact iha h1 hb h hQ
        | false => exact ihb h2 hb h hQ
    · simp at hc
  | block id a0 iha =>
    intro c s s' x a w Q hc hb h hQ
    simp only [codeOf] at hc
    obtain ⟨ca, h1, rfl⟩ := opt_bind hc
    refine wp_block ?_
    cases hb with
    | block ha =>
      rename_i y
      refine iha h1 ha h fun a' w' h' => ?_
      have := hQ a' w' h'
      cases y with
      | normal => simpa [exitOf, Exit.inBlock] using this
      | exit id' =>
        simp only [exitOf, Exit.inBlock] at this ⊢
        by_cases hid : id' = id
        · subst hid; simpa using this
        · rw [if_neg (by simpa using hid)] at this; rw [if_neg hid]; exact this
      | ret => simpa [exitOf, Exit.inBlock] using this
  | loop a0 iha =>
    intro c s s' x a w Q hc hb h hQ
    simp only [codeOf] at hc
    obtain ⟨ca, h1, rfl⟩ := opt_bind hc
    obtain ⟨n, hn⟩ := loopN_of hb rfl
    refine wp_loop_ghost (fun k a w => ∃ s, LoopN P ca k s x s' ∧ ASim G s a w) n ⟨s, hn, h⟩ ?_
    rintro k a w ⟨s, hl, h⟩
    cases k with
    | zero =>
      obtain ⟨hb, hx⟩ := hl
      refine iha h1 hb h fun a' w' h' => ?_
      have := hQ a' w' h'
      cases x with
      | normal => exact absurd rfl hx
      | exit id => exact this
      | ret => exact this
    | succ k =>
      obtain ⟨s1, hb, hl⟩ := hl
      exact iha h1 hb h fun a' w' h' => ⟨k, by omega, s1, hl, h'⟩
  | exit id =>
    intro c s s' x a w Q hc hb h hQ
    simp [codeOf] at hc; subst hc
    cases hb
    exact wp_exit (hQ _ _ h)
  | ret =>
    intro c s s' x a w Q hc hb h hQ
    simp [codeOf] at hc; subst hc
    cases hb
    exact wp_ret (hQ _ _ h)
  | _ => intro c s s' x a w Q hc; simp [codeOf] at hc

/-! A function's results, and its first state. -/
def ARes.get (s : S) : ARes → Option V
  | .t i => s.val (.t i)
  | .b i n g => match s.env i with
    | .box cs => match slab cs 0 n with
      | some l => asV g l
      | none => none
    | _ => none
def resVals (s : S) : List ARes → Option (List V)
  | [] => some []
  | r :: rs => match r.get s, resVals s rs with
    | some v, some vs => some (v :: vs)
    | _, _ => none
def tupOf : List V → AV
  | [v] => .val v
  | vs => .tup vs
def init (args : List V) (H : Heap) : S := { env := fun j => match args[j]? with | some v => .val v | none => .undef, adr := fun _ => none, used := fun _ => false, H := H }

def resOne (tmps : Array Value) : ResultVar → Sem Value
  | .tmp t => pure (tmps.getD t undef)
  | .cell c t => do loadVar t (← asAddr (tmps.getD c undef))
theorem results_eq (fn : Func) (tmps : Array Value) :
    results fn tmps = (fn.results.mapM (resOne tmps)) >>= fun vs => pure (if h : vs.size = 1 then vs[0] else .tuple vs) := by
  unfold results
  congr 2

theorem results_rel {fn : Func} {rs : List ARes} {s : S} {vs : List V} {a : Act} {w : World} (h : Sim G ρ s a w) (hr : resOf P fn.results.toList = some rs) (hv : resVals s rs = some vs) :
    ∃ x, (results fn a.tmps).run P w = .ok x w ∧ RRel s.H.length ρ (tupOf vs) x := by
  have key : ∀ (l : List ResultVar) (rs : List ARes) (vs : List V), resOf P l = some rs → resVals s rs = some vs → ∃ xs : List Value, (l.mapM (resOne a.tmps)).run P w = .ok xs w ∧ All2 (VRel s.H.length ρ) vs xs := by
    intro l
    induction l with
    | nil => intro rs vs h1 h2; simp [resOf] at h1; subst h1; simp [resVals] at h2; subst h2; exact ⟨[], by simp, .nil⟩
    | cons r l ih =>
      intro rs vs h1 h2
      cases r with
      | tmp t =>
        simp only [resOf] at h1
        obtain ⟨rs', h3, rfl⟩ := opt_bind h1
        simp only [resVals] at h2
        split at h2
        · rename_i v vs' g1 g2
          simp only [Option.some.injEq] at h2; subst h2
          obtain ⟨xs, e1, e2⟩ := ih rs' vs' h3 g2
          have hv := h.val (x := .t t) g1 (o := .tmp t) rfl
          refine ⟨a.tmps.getD t undef :: xs, ?_, .cons hv e2⟩
          simp only [List.mapM_cons, Sem.run_bind, resOne, Sem.run_pure, Result.andThen_ok, e1]
        · simp at h2
      | cell c t =>
        simp only [resOf] at h1
        split at h1
        · rename_i n g l' k1 k2 k3
          split at h1
          · rename_i k4
            simp only [Option.some.injEq] at h1; subst h1
            simp only [resVals] at h2
            split at h2
            · rename_i v vs' g1 g2
              simp only [Option.some.injEq] at h2; subst h2
              obtain ⟨xs, e1, e2⟩ := ih l' vs' k3 g2
              simp only [ARes.get] at g1
              split at g1
              · rename_i cs hb
                split at g1
                · rename_i sl hsl
                  have hs := h.slot c
                  rw [hb] at hs
                  obtain ⟨k, f1, _, ⟨arr, tt, f2, f3⟩, _⟩ := hs
                  obtain ⟨u, hu, hru⟩ := load_rel (P := P) (N := s.H.length) (ρ := ρ) k1 k2 k4 (slab_spec hsl).2.2 f2 (off := 0) (fun i c hi => by
                    obtain ⟨v, q1, q2⟩ := f3.get (slab_get hsl hi); exact ⟨v, by simpa using q1, q2⟩) g1
                  have f1' : a.tmps.getD c undef = .pointer (some ⟨k, 0, none⟩) := f1
                  refine ⟨u :: xs, ?_, .cons hru e2⟩
                  have : (resOne a.tmps (.cell c t)).run P w = .ok u w := by simp only [resOne, Sem.run_bind, f1', asAddr, Sem.run_pure, Result.andThen_ok, hu]
                  simp only [List.mapM_cons, Sem.run_bind, this, Result.andThen_ok, e1, Sem.run_pure]
                · simp at g1
              · simp at g1
            · simp at h2
          · simp at h1
        · simp at h1
  obtain ⟨xs, e1, e2⟩ := key fn.results.toList rs vs hr hv
  have hlen := e2.len
  refine ⟨if h : xs.toArray.size = 1 then xs.toArray[0] else .tuple xs.toArray, ?_, ?_⟩
  · rw [results_eq]
    simp only [Sem.run_bind]
    rw [Array.mapM_eq_mapM_toList]
    simp only [Sem.run_map, e1, Result.andThen_ok, Sem.run_pure]
  · cases e2 with
    | nil => exact ⟨#[], by simp, .nil⟩
    | cons r1 r2 =>
      cases r2 with
      | nil => simpa [tupOf, RRel] using r1
      | cons r3 r4 => exact ⟨_, by simp, .cons r1 (.cons r3 r4)⟩

/-- A call of a function comes to what its abstract code comes to. -/
theorem acalls_of {hint : Hint} {f : FuncId} {fn : Func} {af : AFunc} {args : List V} {H : Heap} {s' : S} {x : AExit} {vs : List V} (hm : P.follows .mixedOrders = true) (hf : P.funcs[f]? = some fn) (hc : callable P f = true)
    (ha : funcOf P hint fn = some af) (hn : args.length = af.np) (hb : Big P af.body (init args H) x s') (hx : x = .normal ∨ x = .ret) (hv : resVals s' af.res = some vs) : ACalls P f args H (tupOf vs) s'.H := by
  refine ⟨hc, fun ρ w xs hH hxs => ?_⟩
  unfold funcOf at ha
  split at ha
  · rename_i c0 hbody
    split at ha
    · rename_i b r h1 h2
      split at ha
      · rename_i hle
        simp only [Option.some.injEq] at ha; subst ha
        simp only at hb hv hn
        refine calls_of_wp hf hbody ?_
        let G : Ctx := ⟨fn.ntmps, ρ, H, w⟩
        have hxl : xs.size = fn.params.size := by have := hxs.len; simp at this; omega
        have hsim : Sim G ρ (init args H) { tmps := xs ++ Array.replicate (fn.ntmps - xs.size) undef, defers := [] } w := {
          heap := hH
          grew := { agree := fun _ _ => rfl, len := Nat.le_refl _, fresh := fun b B hb hs => by
                      cases hst : B.st with
                      | ro => exact .inr ⟨(List.getElem?_eq_some_iff.1 hb).1, rfl, B, hb, hst⟩
                      | rw => exact .inl (.inl ⟨b, B, hb, hst, rfl⟩)
                      | dead => exact absurd hst hs }
          keep := Keep.refl _ _
          defers := rfl
          size := by simp [G]; omega
          slot := fun t => by
            simp only [init]
            cases ht : args[t]? with
            | none => trivial
            | some v =>
              obtain ⟨u, hu, hr⟩ := hxs.get ht
              have hlt : t < xs.size := by simpa using (List.getElem?_eq_some_iff.1 hu).1
              have : ty { tmps := xs ++ Array.replicate (fn.ntmps - xs.size) undef, defers := [] } t = u := by
                simp only [ty, Array.getD_eq_getD_getElem?]
                rw [Array.getElem?_append_left hlt]
                simp only [Array.getElem?_toList] at hu
                rw [hu]; rfl
              rw [this]; exact hr
          apart := fun t t' _ h1 _ => by
            simp only [init] at h1
            cases ht : args[t]? <;> simp [ht, isPriv] at h1
          adr := fun t u o hh => by simp [init] at hh }
        refine big_wp (G := G) hm c0 h1 hb ⟨ρ, hsim⟩ fun a' w' hs' => ?_
        obtain ⟨ρ', hs'⟩ := hs'
        obtain ⟨y, hy, hry⟩ := results_rel hs' h2 hv
        rcases hx with rfl | rfl
        · exact ⟨hs'.defers, y, hy, ρ', y, rfl, hry, hs'.heap, hs'.grew, hs'.keep⟩
        · exact ⟨hs'.defers, y, hy, ρ', y, rfl, hry, hs'.heap, hs'.grew, hs'.keep⟩
      · simp at ha
    · simp at ha
  · simp at ha

end Go.AX
