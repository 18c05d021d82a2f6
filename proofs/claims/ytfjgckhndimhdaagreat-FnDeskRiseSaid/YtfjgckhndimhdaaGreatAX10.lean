/- The abstract machine AX: an operation that is read as an abstract one does what that says; no call. No condition. -/
import Derived.Test.YtfjgckhndimhdaaGreatAX9
namespace Go.AX

variable {G : Ctx} {ρ : Rho} {s s' : S} {a : Act} {w : World} {P : Program}

/-- An operation of the model runs, and its slot gets what it came to. -/
def Runs (P : Program) (G : Ctx) (o : Oper) (s' : S) (a : Act) (w : World) : Prop :=
  ∃ nx x w', (execOp a.eval o).run P w = .ok nx w' ∧ (nx = .value x ∨ (nx = .skip ∧ x = undef)) ∧ ASim G s' (a.put o.dst x) w'

theorem Goes.runs {q : Sem Value} {o : Oper} {d : Nat} (hd : o.dst = some d) (he : execOp a.eval o = do pure (.value (← q))) (h : Goes P G q w s' a d) : Runs P G o s' a w := by
  obtain ⟨v, w', h1, h2⟩ := h
  exact ⟨.value v, v, w', by rw [he]; simp [h1], .inl rfl, by rw [hd]; exact h2⟩

theorem opt_bind {α β : Type} {o : Option α} {f : α → β} {b : β} (h : o.map f = some b) : ∃ x, o = some x ∧ f x = b := by
  cases o with
  | none => simp at h
  | some x => exact ⟨x, rfl, by simpa using h⟩
theorem tmpOf_spec {x : Operand} {t : Nat} (h : tmpOf x = some t) : x = .tmp t := by
  cases x <;> simp [tmpOf] at h
  subst h; rfl

theorem op_sound {o : Oper} {hint : Hint} {bs : List (Nat × Nat)} {ai : AI} (hai : aiOf P hint bs o = some ai) (hd : ∀ d, o.dst = some d → d < G.nt) (hs : stepf ai s = some s') (h : Sim G ρ s a w) : Runs P G o s' a w := by
  obtain ⟨dst, op, ty', pos, after, guard⟩ := o
  cases dst with
  | none =>
    cases op with
    | store t x y =>
      simp only [aiOf] at hai
      split at hai
      · rename_i x' y' n h1 h2 h3
        simp only [Option.some.injEq] at hai; subst hai
        have hx := tmpOf_spec h1; subst hx
        obtain ⟨w', hr, hsim⟩ := go_st h h3 h2 hs
        exact ⟨.skip, undef, w', by simp [execOp, hr], .inr ⟨rfl, rfl⟩, hsim⟩
      · simp at hai
    | insert t m k v =>
      cases k with
      | const kv =>
        cases kv with
        | int kk k =>
          cases kk with
          | i64 =>
            simp only [aiOf] at hai
            split at hai
            · rename_i kt et ht
              split at hai
              · rename_i kd m' v' hk hm hv
                simp only [Option.some.injEq] at hai; subst hai
                have hm := tmpOf_spec hm; subst hm
                obtain ⟨w', hr, hsim⟩ := go_mpi h ht hk hv hs
                have hr2 : (Instr.mapUpdate t (a.eval (.tmp m')) (a.eval (.const (.int .i64 k))) (a.eval v)).run P w = .ok () w' := hr
                exact ⟨.skip, undef, w', by simp [execOp, hr2], .inr ⟨rfl, rfl⟩, hsim⟩
              · simp at hai
            · simp at hai
          | _ => simp [aiOf] at hai
        | _ => simp [aiOf] at hai
      | _ => simp [aiOf] at hai
    | _ => simp [aiOf] at hai
  | some d =>
    have hd' : d < G.nt := hd d rfl
    cases op with
    | move x =>
      simp only [aiOf] at hai
      obtain ⟨x', hx, rfl⟩ := opt_bind hai
      exact ⟨.value (a.eval x), a.eval x, w, rfl, .inl rfl, go_mov h hd' hx hs⟩
    | assign x =>
      simp only [aiOf] at hai
      obtain ⟨x', hx, rfl⟩ := opt_bind hai
      exact ⟨.value (a.eval x), a.eval x, w, rfl, .inl rfl, go_mov h hd' hx hs⟩
    | pick c x y =>
      simp only [aiOf] at hai
      split at hai
      · rename_i c' x' y' h1 h2 h3
        simp only [Option.some.injEq] at hai; subst hai
        refine Goes.runs rfl ?_ (go_pick h hd' h1 h2 h3 hs)
        simp [execOp]
      · simp at hai
    | alloc e =>
      simp only [aiOf] at hai
      obtain ⟨cs, hz, hc⟩ := opt_bind hai
      split at hc
      · subst hc
        simp only [stepf, Option.some.injEq] at hs; subst hs
        exact Goes.runs rfl rfl (go_halloc h hd' hz)
      · subst hc
        simp only [stepf] at hs
        split at hs
        · rename_i hu
          simp only [Option.some.injEq] at hs; subst hs
          exact Goes.runs rfl rfl (go_alloc h hd' hz hu)
        · simp at hs
    | box e x =>
      simp only [aiOf] at hai
      split at hai
      · rename_i x' n hx hn
        simp only [Option.some.injEq] at hai
        split at hai
        · subst hai
          simp only [stepf] at hs
          split at hs
          · rename_i v hv
            split at hs
            · simp only [Option.some.injEq] at hs; subst hs
              exact Goes.runs rfl rfl (go_hbox h hd' (h.val hv hx))
            · simp at hs
          · simp at hs
        · subst hai
          simp only [stepf] at hs
          split at hs
          · rename_i v hv
            split at hs
            · rename_i hc
              simp only [Option.some.injEq] at hs; subst hs
              exact Goes.runs rfl rfl (go_box h hd' (h.val hv hx) hc.2)
            · simp at hs
          · simp at hs
      · simp at hai
    | build t ps =>
      simp only [aiOf] at hai
      split at hai
      · rename_i fs z ht hz
        split at hai
        · rename_i hall
          obtain ⟨qs, hq, rfl⟩ := opt_bind hai
          simp only [stepf] at hs
          split at hs
          · rename_i cs hf
            simp only [Option.some.injEq] at hs; subst hs
            have := go_bld h hd' ht hz hq hf (fun f hf => (List.all_eq_true.1 hall) f hf)
            refine Goes.runs rfl ?_ this
            simp [execOp]
          · simp at hs
        · simp at hai
      · rename_i len e z ht hz
        split at hai
        · rename_i n hn
          obtain ⟨qs, hq, rfl⟩ := opt_bind hai
          simp only [stepf] at hs
          split at hs
          · rename_i cs hf
            simp only [Option.some.injEq] at hs; subst hs
            have := go_blda h hd' ht hn hz hq hf
            refine Goes.runs rfl ?_ this
            simp [execOp]
          · simp at hs
        · simp at hai
      · simp at hai
    | makeMap t r =>
      cases r with
      | some _ => simp [aiOf] at hai
      | none =>
        simp only [aiOf] at hai
        split at hai
        · simp only [Option.some.injEq] at hai; subst hai
          simp only [stepf] at hs
          split at hs
          · rename_i hu
            simp only [Option.some.injEq] at hs; subst hs
            exact Goes.runs (q := Instr.makeMap t none) rfl (by simp [execOp]) (go_mkm h hd' hu)
          · simp at hs
        · simp at hai
    | lookup t m k c =>
      cases c with
      | false => simp [aiOf] at hai
      | true =>
        simp only [aiOf] at hai
        split at hai
        · rename_i kt et ht
          split at hai
          · rename_i kd m' k' z hk hm hv hz
            split at hai
            · rename_i hg
              simp only [Option.some.injEq] at hai; subst hai
              have hm := tmpOf_spec hm; subst hm
              exact Goes.runs (q := Instr.lookup t (a.eval (.tmp m')) (a.eval k) true) rfl (by simp [execOp]) (go_mpg h hd' ht hk hv hz hg hs)
            · simp at hai
          · simp at hai
        · simp at hai
    | buildSlice t len ps =>
      simp only [aiOf] at hai
      split at hai
      · rename_i e he
        have ht := elemB_under he
        split at hai
        · rename_i n z hn hz
          split at hai
          · rename_i hc
            obtain ⟨hb, hzl, hn0, hp0⟩ := hc
            obtain ⟨qs, hq, rfl⟩ := opt_bind hai
            simp only [stepf] at hs
            split at hs
            · rename_i hl0
              simp only [Option.some.injEq] at hs; subst hs
              have hlen : len = 0 := by
                rcases Nat.mul_eq_zero.1 hl0 with h0 | h0
                · exact h0
                · exact absurd h0 hn0
              subst hlen
              have hps : ps = #[] := Array.eq_empty_of_size_eq_zero (hp0 rfl)
              subst hps
              exact Goes.runs rfl (by simp [execOp]) (go_bsl0 h hd' ht hn)
            · rename_i hl0
              split at hs
              · rename_i cs hf
                split at hs
                · rename_i hcl
                  simp only [Option.some.injEq] at hs; subst hs
                  refine Goes.runs rfl ?_ (go_bsl h hd' ht hn hz hzl hn0 hb hl0 hq hf hcl.1 hcl.2)
                  simp [execOp]
                · simp at hs
              · simp at hs
          · simp at hai
        · simp at hai
      · simp at hai
    | load t x =>
      simp only [aiOf] at hai
      split at hai
      · rename_i x' n g h1 h2 h3
        split at hai
        · rename_i h4
          simp only [Option.some.injEq] at hai; subst hai
          have hx := tmpOf_spec h1; subst hx
          exact Goes.runs rfl rfl (go_ld h hd' h2 h3 h4 hs)
        · simp at hai
      · simp at hai
    | nilCheck x =>
      simp only [aiOf] at hai
      obtain ⟨x', hx, rfl⟩ := opt_bind hai
      obtain ⟨p, he, hsim⟩ := go_nilck h hd' hx hs
      exact ⟨.value (a.eval x), a.eval x, w, by simp [execOp, he], .inl rfl, hsim⟩
    | binOp op t x y yt =>
      simp only [aiOf] at hai
      split at hai
      · rename_i x' y' k h1 h2 h3
        cases op <;> simp only [reduceCtorEq, Option.some.injEq] at hai <;> subst hai <;> exact Goes.runs rfl rfl (go_bin h hd' h1 h2 hs)
      · rename_i x' y' h1 h2 h3
        cases op <;> simp only [reduceCtorEq, Option.some.injEq] at hai
        · subst hai; exact Goes.runs rfl rfl (go_eqv (ng := false) (k := .b) (t := t) h hd' h1 h2 h3 hs)
        · subst hai; exact Goes.runs rfl rfl (go_eqv (ng := true) (k := .b) (t := t) h hd' h1 h2 h3 hs)
      · rename_i x' y' e h1 h2 h3
        cases op <;> simp only [reduceCtorEq, Option.some.injEq] at hai
        · subst hai; exact Goes.runs rfl rfl (go_eqv (ng := false) (k := .s) (t := t) h hd' h1 h2 ⟨e, h3⟩ hs)
        · subst hai; exact Goes.runs rfl rfl (go_eqv (ng := true) (k := .s) (t := t) h hd' h1 h2 ⟨e, h3⟩ hs)
      · rename_i x' y' fs h1 h2 h3
        split at hai
        · rename_i hc
          simp only [Bool.and_eq_true, Bool.not_eq_true'] at hc
          cases op <;> simp only [reduceCtorEq, Option.some.injEq] at hai
          · subst hai; exact Goes.runs rfl rfl (go_eqv (ng := false) (k := .a fs.size) (t := t) h hd' h1 h2 ⟨fs, h3, hc.1.1, hc.1.2, hc.2, rfl⟩ hs)
          · subst hai; exact Goes.runs rfl rfl (go_eqv (ng := true) (k := .a fs.size) (t := t) h hd' h1 h2 ⟨fs, h3, hc.1.1, hc.1.2, hc.2, rfl⟩ hs)
        · simp at hai
      · simp at hai
    | unOp op t x =>
      cases op <;> simp only [aiOf, reduceCtorEq] at hai
      · obtain ⟨x', hx, rfl⟩ := opt_bind hai
        exact Goes.runs rfl rfl (go_un h hd' hx false hs)
      · obtain ⟨x', hx, rfl⟩ := opt_bind hai
        exact Goes.runs rfl rfl (go_un h hd' hx true hs)
    | convert src dst x =>
      simp only [aiOf] at hai
      split at hai
      · rename_i x' j k h1 h2 h3
        simp only [Option.some.injEq] at hai; subst hai
        exact Goes.runs rfl rfl (go_conv h hd' h1 h2 h3 hs)
      · simp at hai
    | makeSlice t l c =>
      simp only [aiOf] at hai
      split at hai
      · rename_i e he
        have ht := elemB_under he
        split at hai
        · rename_i l' c' n z i h1 h2 h3 h4 h5
          split at hai
          · rename_i hc
            obtain ⟨rfl, hby, hzl, hn0⟩ := hc
            simp only [Option.some.injEq] at hai; subst hai
            simp only [stepf] at hs
            split at hs
            · rename_i q hq
              split at hs
              · rename_i hc2
                have e1 := int_rel (h.val hq h1)
                have e2 := int_rel (h.val hq h2)
                have := go_mks (P := P) h hd' ht h3 h5 hby h4 hzl hn0 hc2.1 hc2.2.1
                refine Goes.runs (q := Instr.makeSlice t (.int .i64 q) (.int .i64 q)) rfl (by simp [execOp, e1, e2]) ?_
                split at hs
                · rename_i h0; simp only [Option.some.injEq] at hs; rw [if_pos h0] at this; rw [← hs]; exact this
                · rename_i h0; simp only [Option.some.injEq] at hs; rw [if_neg h0] at this; rw [← hs]; exact this
              · simp at hs
            · simp at hs
          · simp at hai
        · simp at hai
      · simp at hai
    | slice t x lo hi mx =>
      cases mx with
      | some _ => simp [aiOf] at hai
      | none =>
        simp only [aiOf] at hai
        split at hai
        · rename_i e he
          have ht := elemB_under he
          split at hai
          · rename_i x' lo' hi' n h1 h2 h3 h4
            simp only [Option.some.injEq] at hai; subst hai
            have go : ∀ (c : C) (k1 k2 : IntKind) (l : Int) (hh : Option Int), s.val x' = some (.c c) → (lo.map a.eval = some (.int k1 l) ∨ (lo.map a.eval = none ∧ l = 0)) → hi.map a.eval = hh.map (fun q => .int k2 q) →
                s.putV d ((slcC s.H n c l hh).map .c) = some s' → Runs P G ⟨some d, .slice t x lo hi none, ty', pos, after, guard⟩ s' a w := by
              intro c k1 k2 l hh hc hl hh' hp
              cases hr : slcC s.H n c l hh with
              | none => simp [hr, S.putV] at hp
              | some r =>
                simp only [hr, Option.map_some, S.putV, Option.some.injEq] at hp
                obtain ⟨v, hv, hrel⟩ := slc_rel (P := P) h.heap ht h4 hl hh' hr (h.val hc h1)
                refine Goes.runs (q := Instr.sliceAt t (a.eval x) (lo.map a.eval) (hi.map a.eval) none) rfl (by simp [execOp]) ⟨v, w, hv, ?_⟩
                rw [← hp]; exact h.go hd' (v := .c r) hrel
            have opt : ∀ (z : Option Operand) (z' : Option AOp), optOpd z = some z' → (z = none ∧ z' = none) ∨ ∃ q q', z = some q ∧ z' = some q' ∧ opdOf q = some q' := by
              intro z z' hz
              cases z with
              | none => simp [optOpd] at hz; exact .inl ⟨rfl, hz.symm⟩
              | some q =>
                simp only [optOpd] at hz
                obtain ⟨q', e1, e2⟩ := opt_bind hz
                exact .inr ⟨q, q', rfl, e2.symm, e1⟩
            have lok : ∀ (k1 : IntKind) (l : Int), (match lo' with | none => some (V.c (.int .i64 0)) | some y => s.val y) = some (.c (.int k1 l)) → (lo.map a.eval = some (.int k1 l) ∨ (lo.map a.eval = none ∧ l = 0)) := by
              intro k1 l hl
              rcases opt _ _ h2 with ⟨rfl, rfl⟩ | ⟨q, q', rfl, rfl, hq⟩
              · simp at hl; exact .inr ⟨rfl, hl.2.symm⟩
              · exact .inl (by simp only [Option.map_some]; rw [int_rel (h.val hl hq)])
            simp only [stepf] at hs
            split at hs
            · rename_i c k1 l hc hl hh
              rcases opt _ _ h3 with ⟨rfl, rfl⟩ | ⟨q, q', rfl, rfl, hq⟩
              · exact go c k1 .i64 l none hc (lok k1 l hl) rfl hs
              · simp at hh
            · rename_i c k1 l k2 q2 hc hl hh
              rcases opt _ _ h3 with ⟨rfl, rfl⟩ | ⟨q, q', rfl, rfl, hq⟩
              · simp at hh
              · simp at hh
                exact go c k1 k2 l (some q2) hc (lok k1 l hl) (by simp only [Option.map_some]; rw [int_rel (h.val hh hq)]) hs
            · simp at hs
          · simp at hai
        · simp at hai
    | fieldAddr t x j =>
      simp only [aiOf] at hai
      split at hai
      · rename_i x' off ft h1 h2
        split at hai
        · rename_i n hn
          split at hai
          · rename_i hn0
            simp only [Option.some.injEq] at hai; subst hai
            have hx := tmpOf_spec h1; subst hx
            exact Goes.runs rfl rfl (go_faddr h hd' h2 hn hn0 hs)
          · simp at hai
        · simp at hai
      · simp at hai
    | field t x j =>
      simp only [aiOf] at hai
      split at hai
      · rename_i x' off ft h1 h2
        split at hai
        · rename_i n g hn hg
          split at hai
          · rename_i h4
            simp only [Option.some.injEq] at hai; subst hai
            exact Goes.runs rfl rfl (go_fld h hd' h2 hn hg h4 h1 hs)
          · simp at hai
        · simp at hai
      · simp at hai
    | indexAddr t x i =>
      simp only [aiOf] at hai
      split at hai
      · rename_i e he
        have ht := elemB_under he
        split at hai
        · rename_i x' i' n h1 h2 h3
          simp only [Option.some.injEq] at hai; subst hai
          exact Goes.runs rfl rfl (go_iadr h hd' ht h3 h1 h2 hs)
        · simp at hai
      · split at hai
        · rename_i len e j ht
          split at hai
          · rename_i x' n hx hn
            split at hai
            · rename_i hj
              simp only [Option.some.injEq] at hai; subst hai
              have hx := tmpOf_spec hx; subst hx
              exact Goes.runs (q := Instr.indexAt t (a.eval (.tmp x')) (.int .i64 j)) rfl rfl (go_faddrA h hd' ht hn hj.1 hj.2 hs)
            · simp at hai
          · simp at hai
        · simp at hai
    | index t x i =>
      simp only [aiOf] at hai
      split at hai
      · rename_i x' i' len e h1 h2 h3
        split at hai
        · rename_i n g hn hg
          split at hai
          · rename_i h4
            simp only [Option.some.injEq] at hai; subst hai
            exact Goes.runs rfl rfl (go_aidx h hd' h3 hn hg h4 h1 h2 hs)
          · simp at hai
        · simp at hai
      · simp at hai
    | extract x i =>
      simp only [aiOf] at hai
      obtain ⟨x', hx, rfl⟩ := opt_bind hai
      exact Goes.runs rfl rfl (go_ext h hd' hx hs)
    | call c =>
      obtain ⟨callee, args, argTypes⟩ := c
      obtain ⟨args⟩ := args
      obtain ⟨argTypes⟩ := argTypes
      have two : ∀ (l : List Operand), l.length = 2 → ∃ x y, l = [x, y] := fun l hl => by
        match l, hl with
        | [x, y], _ => exact ⟨x, y, rfl⟩
      cases callee with
      | value f =>
        cases f with
        | func f =>
          simp only [aiOf] at hai
          obtain ⟨xs, hx, rfl⟩ := opt_bind hai
          simp [stepf] at hs
        | tmp f =>
          simp only [aiOf] at hai
          obtain ⟨xs, hx, rfl⟩ := opt_bind hai
          simp [stepf] at hs
        | _ => simp [aiOf] at hai
      | invoke r m => simp [aiOf] at hai
      | builtin b =>
        cases b with
        | len =>
          simp only [aiOf] at hai
          split at hai
          · rename_i q1 q2 x t ts
            split at hai
            · rename_i x' e hx he
              simp only [Option.some.injEq] at hai; subst hai
              have := go_len (P := P) (ts := ts) (ty' := ty') h hd' (elemB_under he) hx hs
              exact Goes.runs rfl (by simp [execOp, resolve, invoke, builtin]) this
            · simp at hai
          · simp at hai
        | append =>
          simp only [aiOf] at hai
          split at hai
          · rename_i q1 q2 x y t u
            split at hai
            · rename_i x' y' e e' hx hy he he'
              split at hai
              · rename_i n i z hn hi hz
                split at hai
                · rename_i hc
                  simp only [Option.some.injEq] at hai; subst hai
                  have go : ∀ (c : C) (ys : List C), s.val x' = some (.c c) → Src P s.H.length ρ w n (a.eval y) ys → (match appC s.H n c ys with | some (r, H') => some { s.put d (.val (.c r)) with H := H' } | none => none) = some s' →
                      Runs P G ⟨some d, .call ⟨.builtin .append, ⟨[x, y]⟩, ⟨[t, u]⟩⟩, ty', pos, after, guard⟩ s' a w := by
                    intro c ys hcv hsrc hap
                    cases hr : appC s.H n c ys with
                    | none => simp [hr] at hap
                    | some p =>
                      obtain ⟨r, H'⟩ := p
                      simp only [hr, Option.some.injEq] at hap
                      have := h.append (P := P) (ty' := ty') hd' (elemB_under he) (elemB_under he') hn hi hc.1 hz hc.2.2 hc.2.1 (h.val hcv hx) hsrc hr
                      rw [← hap]
                      exact Goes.runs (q := Builtin.append_ #[t, u] ty' #[a.eval x, a.eval y]) rfl (by simp [execOp, resolve, invoke, builtin]) this
                  simp only [stepf] at hs
                  split at hs
                  · rename_i c ys hcv hyv
                    refine go c ys hcv ?_ hs
                    cases y' with
                    | k c2 =>
                      simp only at hyv
                      exact elems_src h.heap hyv (h.val (v := .c c2) rfl hy)
                    | t t2 =>
                      simp only at hyv
                      have hyo : a.eval y = ty a t2 := by
                        cases y <;> simp [opdOf] at hy
                        · subst hy; rfl
                      cases he2 : s.env t2 with
                      | lit m cs =>
                        simp only [he2] at hyv
                        split at hyv
                        · rename_i hm; subst hm
                          simp only [Option.some.injEq] at hyv; subst hyv
                          rw [hyo]; exact lit_src h he2
                        · simp at hyv
                      | val v2 =>
                        cases v2 with
                        | agg _ => simp [he2] at hyv
                        | c c2 =>
                          simp only [he2] at hyv
                          exact elems_src h.heap hyv (h.val (v := .c c2) (by simp [S.val, he2]) hy)
                      | _ => simp [he2] at hyv
                  · simp at hs
                · simp at hai
              · simp at hai
            · simp at hai
          · simp at hai
        | max =>
          simp only [aiOf] at hai
          split at hai
          · rename_i q1 x y
            split at hai
            · rename_i x' y' hx hy
              simp only [Option.some.injEq] at hai; subst hai
              have := go_mm (P := P) (mx := true) (ts := argTypes.toArray) (ty' := ty') h hd' hx hy hs
              exact Goes.runs rfl (by simp [execOp, resolve, invoke, builtin]) this
            · simp at hai
          · simp at hai
        | min =>
          simp only [aiOf] at hai
          split at hai
          · rename_i q1 x y
            split at hai
            · rename_i x' y' hx hy
              simp only [Option.some.injEq] at hai; subst hai
              have := go_mm (P := P) (mx := false) (ts := argTypes.toArray) (ty' := ty') h hd' hx hy hs
              exact Goes.runs rfl (by simp [execOp, resolve, invoke, builtin]) this
            · simp at hai
          · simp at hai
        | _ => simp [aiOf] at hai
    | _ => simp [aiOf] at hai

end Go.AX
