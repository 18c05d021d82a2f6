/- The abstract machine AX: each operation of the model does what the abstract step says, the end. No condition. -/
import Derived.Test.YtfjgckhndimhdaaGreatAX7
namespace Go.AX

variable {G : Ctx} {ρ : Rho} {s : S} {a : Act} {w : World} {P : Program}

theorem int_rel {N : Nat} {k : IntKind} {n : Int} {x : Value} (h : VRel N ρ (.c (.int k n)) x) : x = .int k n := h
theorem bool_rel {N : Nat} {b : Bool} {x : Value} (h : VRel N ρ (.c (.bool b)) x) : x = .bool b := h

theorem go_bin (h : Sim G ρ s a w) {d : Nat} (hd : d < G.nt) {op : BinOp} {t : TypeId} {x y : AOp} {xo yo : Operand} (hx : opdOf xo = some x) (hy : opdOf yo = some y) {s' : S} (hs : stepf (.bin op d x y) s = some s') :
    Goes P G (do eqGuard op t xo yo (a.eval xo) (a.eval yo); binOp op t (a.eval xo) (a.eval yo)) w s' a d := by
  simp only [stepf] at hs
  split at hs
  · rename_i k n k' m h1 h2
    have e1 := int_rel (h.val h1 hx)
    have e2 := int_rel (h.val h2 hy)
    split at hs
    · rename_i hk; subst hk
      have hg : (eqGuard op t xo yo (a.eval xo) (a.eval yo)).run P w = .ok () w := by
        rw [e1, e2]; simp only [eqGuard]; cases op <;> simp
      refine (show Goes P G (binOp op t (a.eval xo) (a.eval yo)) w s' a d from ?_).imp fun v hv => hv.imp fun w' hw => ⟨by simp only [Sem.run_bind, hg, Result.andThen_ok]; exact hw.1, hw.2⟩
      rw [e1, e2]
      cases op <;> simp only [binI, Option.map_some, Option.map_none, S.putV, Option.some.injEq, reduceCtorEq] at hs
      case add => subst hs; exact ⟨_, w, by simp [binOp, Op.intArith], h.go hd rfl⟩
      case sub => subst hs; exact ⟨_, w, by simp [binOp, Op.intArith], h.go hd rfl⟩
      case mul => subst hs; exact ⟨_, w, by simp [binOp, Op.intArith], h.go hd rfl⟩
      case quo =>
        by_cases h0 : m = 0
        · simp [h0] at hs
        · simp [h0] at hs; subst hs; exact ⟨_, w, by simp [binOp, Op.intDiv, h0], h.go hd rfl⟩
      case rem =>
        by_cases h0 : m = 0
        · simp [h0] at hs
        · simp [h0] at hs; subst hs; exact ⟨_, w, by simp [binOp, Op.intDiv, h0], h.go hd rfl⟩
      case xor => subst hs; exact ⟨_, w, by simp [binOp, Op.intBits], h.go hd rfl⟩
      case eql => subst hs; exact ⟨.bool (n == m), w, by simp [binOp, Op.intCmp], h.go hd rfl⟩
      case neq => subst hs; exact ⟨.bool (n != m), w, by simp [binOp, Op.intCmp], h.go hd rfl⟩
      case lss => subst hs; exact ⟨.bool (decide (n < m)), w, by simp [binOp, Op.intCmp], h.go hd rfl⟩
      case leq => subst hs; exact ⟨.bool (decide (n ≤ m)), w, by simp [binOp, Op.intCmp], h.go hd rfl⟩
      case gtr => subst hs; exact ⟨.bool (decide (n > m)), w, by simp [binOp, Op.intCmp], h.go hd rfl⟩
      case geq => subst hs; exact ⟨.bool (decide (n ≥ m)), w, by simp [binOp, Op.intCmp], h.go hd rfl⟩
    · simp at hs
  · simp at hs

theorem eqFields_rel {N : Nat} (d : Nat) {xs ys : Array Value} : ∀ (fs : List Field) (i : Nat) (cs cs' : List C) (r : Bool), plainB P fs i = true → cs.length = fs.length → All2 (CRel N ρ) cs (xs.toList.drop i) →
    All2 (CRel N ρ) cs' (ys.toList.drop i) → sameC cs cs' = some r → (Op.eqFields (d + 1) xs ys fs).run P w = .ok r w := by
  intro fs
  induction fs with
  | nil =>
    intro i cs cs' r _ hl h1 h2 hs
    have : cs = [] := by simpa using hl
    subst this
    cases cs' with
    | nil => simp [sameC] at hs; subst hs; simp [Op.eqFields]
    | cons _ _ => simp [sameC] at hs
  | cons f fs ih =>
    intro i cs cs' r hp hl h1 h2 hs
    simp only [plainB, Bool.and_eq_true, bne_iff_ne, ne_eq, beq_iff_eq] at hp
    obtain ⟨⟨⟨⟨hn, ho⟩, hz⟩, hty⟩, hrest⟩ := hp
    cases cs with
    | nil => simp at hl
    | cons c cs =>
      cases cs' with
      | nil => cases c <;> simp [sameC] at hs
      | cons c' cs' =>
        obtain ⟨x, hx, rx⟩ := h1.get (i := 0) (a := c) (by simp)
        obtain ⟨y, hy, ry⟩ := h2.get (i := 0) (a := c') (by simp)
        simp only [List.getElem?_drop, Nat.add_zero, Array.getElem?_toList] at hx hy
        have hag : aggB P f.type = some false := by
          unfold aggB; split at hty <;> simp_all
        have px : (part f.type xs f.offset).run P w = .ok x w := by
          simp [part, run_aggB hag, ho, hx]
        have py : (part f.type ys f.offset).run P w = .ok y w := by
          simp [part, run_aggB hag, ho, hy]
        have hx' : All2 (CRel N ρ) cs (xs.toList.drop (i + 1)) := by have := h1.drop 1; simpa [List.drop_drop] using this
        have hy' : All2 (CRel N ρ) cs' (ys.toList.drop (i + 1)) := by have := h2.drop 1; simpa [List.drop_drop] using this
        simp only [Op.eqFields, if_pos hn, Sem.run_bind, px, py, Result.andThen_ok]
        have fin : ∀ q : Bool, (Op.equalIn (d + 1) f.type x y).run P w = .ok q w → ∀ r', sameC cs cs' = some r' → r = (q && r') →
            ((Op.equalIn (d + 1) f.type x y).run P w).andThen (fun a w' => (if (!a) = true then pure false else Op.eqFields (d + 1) xs ys fs).run P w') = .ok r w := by
          intro q hq r' hr' he
          rw [hq]; simp only [Result.andThen_ok]
          cases q
          · simp at he; subst he; simp
          · simp at he; subst he; simp only [Bool.not_true, Bool.false_eq_true, if_false]
            exact ih (i + 1) cs cs' r hrest (by simpa using hl) hx' hy' hr'
        cases c <;> cases c' <;> simp only [sameC, reduceCtorEq] at hs
        case int.int k n k' m =>
          split at hs
          · rename_i hk; subst hk
            cases hc : sameC cs cs' with
            | none => simp [hc] at hs
            | some r' =>
              simp [hc] at hs
              simp only [CRel] at rx ry
              subst rx ry
              split at hty
              · rename_i kk hu
                exact fin (n == m) (run_equalIn_int w d f.type k kk n m hu) r' hc hs.symm
              · simp at hty
          · simp at hs

theorem eqGuard_plain {op : BinOp} {t : TypeId} {xo yo : Operand} {u v : Value} (h : (∀ cs, u ≠ .agg cs) ∧ u ≠ .nilIface) : (eqGuard op t xo yo u v).run P w = .ok () w := by
  unfold eqGuard
  cases u <;> first | exact absurd rfl h.2 | exact absurd rfl (h.1 _) | (cases op <;> simp)
theorem binOp_eql {t : TypeId} {u v : Value} (hu : match u with | .bool _ => True | .slice .. => True | .agg _ => True | _ => False) :
    (binOp .eql t u v).run P w = ((Op.equal t u v).run P w).andThen fun b w' => .ok (.bool b) w' := by
  cases u <;> simp at hu <;> simp [binOp]
theorem binOp_neq {t : TypeId} {u v : Value} (hu : match u with | .bool _ => True | .slice .. => True | .agg _ => True | _ => False) :
    (binOp .neq t u v).run P w = ((Op.equal t u v).run P w).andThen fun b w' => .ok (.bool (!b)) w' := by
  cases u <;> simp at hu <;> simp [binOp]
theorem eq_slice_l {t e : TypeId} (ht : P.underlying t = some (.slice e)) (D : Nat) (b : Option Addr) (n m n' m' : Nat) :
    (Op.equalIn (D + 1) t (.slice none n m) (.slice b n' m')).run P w = .ok b.isNone w := by simp [Op.equalIn, run_under ht]
theorem eq_slice_r {t e : TypeId} (ht : P.underlying t = some (.slice e)) (D : Nat) (b : Addr) (n m n' m' : Nat) :
    (Op.equalIn (D + 1) t (.slice (some b) n m) (.slice none n' m')).run P w = .ok false w := by simp [Op.equalIn, run_under ht]
/-- The type that is compared fits. -/
def EqK.fits (P : Program) (t : TypeId) : EqK → Prop
  | .b => P.underlying t = some .bool
  | .s => ∃ e, P.underlying t = some (.slice e)
  | .a n => ∃ fs, P.underlying t = some (.struct fs) ∧ plainB P fs.toList 0 = true ∧ P.stoodInHeld t = false ∧ P.eqGuardType P.depth t = false ∧ fs.size = n
/-- An equality that the model answers, as a step. -/
theorem go_eqv (h : Sim G ρ s a w) {d : Nat} {k : EqK} (hd : d < G.nt) {ng : Bool} {t : TypeId} {x y : AOp} {xo yo : Operand} (hx : opdOf xo = some x) (hy : opdOf yo = some y)
    (ht : k.fits P t) {s' : S} (hs : stepf (.eqv ng k d x y) s = some s') :
    Goes P G (do eqGuard (if ng then .neq else .eql) t xo yo (a.eval xo) (a.eval yo); binOp (if ng then .neq else .eql) t (a.eval xo) (a.eval yo)) w s' a d := by
  simp only [stepf] at hs
  cases hv : s.val x with
  | none => simp [hv] at hs
  | some v =>
  cases hu : s.val y with
  | none => simp [hv, hu] at hs
  | some u =>
  simp only [hv, hu] at hs
  cases hr : sameV k v u with
  | none => simp [hr] at hs
  | some r =>
  simp only [hr, Option.some.injEq] at hs
  have rx := h.val hv hx
  have ry := h.val hu hy
  have key : (eqGuard (if ng then .neq else .eql) t xo yo (a.eval xo) (a.eval yo)).run P w = .ok () w → (Op.equal t (a.eval xo) (a.eval yo)).run P w = .ok r w →
      (match a.eval xo with | .bool _ => True | .slice .. => True | .agg _ => True | _ => False) →
      Goes P G (do eqGuard (if ng then .neq else .eql) t xo yo (a.eval xo) (a.eval yo); binOp (if ng then .neq else .eql) t (a.eval xo) (a.eval yo)) w s' a d := by
    intro h1 h2 h3
    refine ⟨.bool (if ng then !r else r), w, ?_, by rw [← hs]; exact h.go hd rfl⟩
    simp only [Sem.run_bind, h1, Result.andThen_ok]
    cases ng
    · simp only [Bool.false_eq_true, if_false]; rw [binOp_eql h3, h2]; rfl
    · simp only [if_true]; rw [binOp_neq h3, h2]; rfl
  cases k with
  | b =>
    cases v with
    | agg _ => simp [sameV] at hr
    | c v =>
    cases u with
    | agg _ => cases v <;> simp [sameV] at hr
    | c u =>
    cases v <;> cases u <;> simp [sameV] at hr
    rename_i p q
    have e1 := bool_rel rx
    have e2 := bool_rel ry
    simp only [EqK.fits] at ht
    refine key (eqGuard_plain (by rw [e1]; simp)) ?_ (by rw [e1]; trivial)
    rw [e1, e2, ← hr]
    exact run_equalIn_bool' w 9999 t p q ht
  | s =>
    obtain ⟨e, ht⟩ := ht
    cases v with
    | agg _ => simp [sameV] at hr
    | c v =>
    cases u with
    | agg _ => cases v <;> simp [sameV] at hr
    | c u =>
    have eq1 : ∀ p q : Value, (Op.equal t p q).run P w = (Op.equalIn (9999 + 1) t p q).run P w := fun _ _ => rfl
    cases v <;> cases u <;> simp [sameV] at hr
    · have e1 : a.eval xo = .slice none 0 0 := rx
      have e2 : a.eval yo = .slice none 0 0 := ry
      refine key (eqGuard_plain (by rw [e1]; simp)) ?_ (by rw [e1]; trivial)
      rw [e1, e2, eq1, hr]; exact eq_slice_l ht _ _ _ _ _ _
    · have e1 : a.eval xo = .slice none 0 0 := rx
      obtain ⟨p, cap, e2, _⟩ := ry
      refine key (eqGuard_plain (by rw [e1]; simp)) ?_ (by rw [e1]; trivial)
      rw [e1, e2, eq1, hr]; exact eq_slice_l ht _ _ _ _ _ _
    · have e1 : a.eval xo = .slice none 0 0 := rx
      obtain ⟨_, cap, e2, _⟩ := ry
      refine key (eqGuard_plain (by rw [e1]; simp)) ?_ (by rw [e1]; trivial)
      rw [e1, e2, eq1, hr]; exact eq_slice_l ht _ _ _ _ _ _
    · have e2 : a.eval yo = .slice none 0 0 := ry
      obtain ⟨p, cap, e1, _⟩ := rx
      refine key (eqGuard_plain (by rw [e1]; simp)) ?_ (by rw [e1]; trivial)
      rw [e1, e2, eq1, hr]; exact eq_slice_r ht _ _ _ _ _ _
    · have e2 : a.eval yo = .slice none 0 0 := ry
      obtain ⟨_, cap, e1, _⟩ := rx
      refine key (eqGuard_plain (by rw [e1]; simp)) ?_ (by rw [e1]; trivial)
      rw [e1, e2, eq1, hr]; exact eq_slice_r ht _ _ _ _ _ _
  | a n =>
    obtain ⟨fs, ht, hp, hst, hgt, hn⟩ := ht
    cases v with
    | c _ => simp [sameV] at hr
    | agg xs =>
    cases u with
    | c _ => simp [sameV] at hr
    | agg ys =>
    simp only [sameV] at hr
    split at hr
    · rename_i hl
      obtain ⟨ax, e1, r1⟩ := rx
      obtain ⟨ay, e2, r2⟩ := ry
      have hf : P.fieldsOf t = fs := by simp [Program.fieldsOf, ht]
      refine key (by rw [e1, e2]; exact run_eqGuard_agg w _ t xo yo ax ay hgt) ?_ (by rw [e1]; trivial)
      rw [e1, e2]
      show (Op.equalIn (9999 + 1) t (.agg ax) (.agg ay)).run P w = _
      rw [run_equalIn_struct w 9999 t ax ay (by rw [hf]; exact ht) hst, hf]
      exact eqFields_rel 9998 fs.toList 0 xs ys r hp (by rw [hl, ← hn]; simp) (by simpa using r1) (by simpa using r2) hr
    · simp at hr

theorem go_pick (h : Sim G ρ s a w) {d : Nat} (hd : d < G.nt) {c x y : AOp} {co xo yo : Operand} (hc : opdOf co = some c) (hx : opdOf xo = some x) (hy : opdOf yo = some y) {s' : S} (hs : stepf (.pick d c x y) s = some s') :
    Goes P G (do pure (if ← asBool (a.eval co) then a.eval xo else a.eval yo)) w s' a d := by
  simp only [stepf] at hs
  split at hs
  · rename_i h1
    cases hv : s.val x with
    | none => simp [hv, S.putV] at hs
    | some v =>
      simp only [hv, S.putV, Option.some.injEq] at hs
      exact ⟨a.eval xo, w, by rw [bool_rel (h.val h1 hc)]; simp [asBool], by rw [← hs]; exact h.go hd (h.val hv hx)⟩
  · rename_i h1
    cases hv : s.val y with
    | none => simp [hv, S.putV] at hs
    | some v =>
      simp only [hv, S.putV, Option.some.injEq] at hs
      exact ⟨a.eval yo, w, by rw [bool_rel (h.val h1 hc)]; simp [asBool], by rw [← hs]; exact h.go hd (h.val hv hy)⟩
  · simp at hs
theorem go_un (h : Sim G ρ s a w) {d : Nat} (hd : d < G.nt) {x : AOp} {xo : Operand} (hx : opdOf xo = some x) {s' : S} (b : Bool) (hs : stepf (if b then .not d x else .neg d x) s = some s') :
    Goes P G (Op.unary (if b then .not else .neg) (a.eval xo)) w s' a d := by
  cases b
  · simp only [Bool.false_eq_true, if_false, stepf] at hs ⊢
    split at hs
    · rename_i k n h1
      simp only [Option.some.injEq] at hs
      exact ⟨.int k (k.wrap (0 - n)), w, by rw [int_rel (h.val h1 hx)]; simp [Op.unary, Op.intArith], by rw [← hs]; exact h.go hd rfl⟩
    · simp at hs
  · simp only [if_true, stepf] at hs ⊢
    split at hs
    · rename_i n h1
      simp only [Option.some.injEq] at hs
      exact ⟨.bool (!n), w, by rw [bool_rel (h.val h1 hx)]; simp [Op.unary], by rw [← hs]; exact h.go hd rfl⟩
    · simp at hs
theorem go_conv (h : Sim G ρ s a w) {d : Nat} (hd : d < G.nt) {x : AOp} {xo : Operand} (hx : opdOf xo = some x) {src dst : TypeId} {j k : IntKind} (hsrc : P.underlying src = some (.int j)) (hdst : P.underlying dst = some (.int k))
    {s' : S} (hs : stepf (.conv k d x) s = some s') : Goes P G (Go.convert src dst (a.eval xo)) w s' a d := by
  simp only [stepf] at hs
  split at hs
  · rename_i k' n h1
    simp only [Option.some.injEq] at hs
    exact ⟨.int k (k.wrap n), w, by rw [int_rel (h.val h1 hx)]; simp [Go.convert, run_under hsrc, run_under hdst, Conv.intToInt], by rw [← hs]; exact h.go hd rfl⟩
  · simp at hs

end Go.AX
