/- The abstract machine AX: addresses, cuts, lengths; every operation but a call. No condition. -/
import Derived.Test.YtfjgckhndimhdaaGreatAX8
namespace Go.AX

variable {G : Ctx} {ρ : Rho} {s : S} {a : Act} {w : World} {P : Program}

/-! Maps. -/
theorem Sim.copyMp (h : Sim G ρ s a w) {d t : Nat} (hd : d < G.nt) {es : List (Int × List C)} (he : s.env t = .mp es) : Sim G ρ (s.put d (.mp es)) (a.put (some d) (ty a t)) w where
  heap := h.heap
  grew := h.grew
  keep := h.keep
  defers := by rw [defers_put]; exact h.defers
  size := by rw [size_put]; exact h.size
  slot j := by
    rw [ty_put _ _ _ _ (by rw [h.size]; exact hd)]
    simp only [S.put, upd_apply]
    split
    · have := h.slot t; rw [he] at this; exact this
    · exact h.slot j
  apart j j' hne h1 h2 h3 := by
    rw [ty_put _ _ _ _ (by rw [h.size]; exact hd), ty_put _ _ _ _ (by rw [h.size]; exact hd)]
    simp only [S.put, upd_apply] at h1 h2 h3
    by_cases n1 : j = d
    · have n2 : ¬ j' = d := fun e => hne (n1.trans e.symm)
      rw [if_neg n2] at h2
      rw [if_pos n1, if_neg n2] at h3
      rw [if_pos n1, if_neg n2]
      exact h.apart t j' (fun e => by rw [← e, he] at h3; simp [bothMp] at h3) (by rw [he]; rfl) h2 (by rw [he]; exact h3)
    · by_cases n2 : j' = d
      · rw [if_neg n1] at h1
        rw [if_neg n1, if_pos n2] at h3
        rw [if_neg n1, if_pos n2]
        exact h.apart j t (fun e => by rw [e, he] at h3; simp [bothMp] at h3) h1 (by rw [he]; rfl) (by rw [he]; exact h3)
      · rw [if_neg n1] at h1
        rw [if_neg n2] at h2
        rw [if_neg n1, if_neg n2] at h3
        rw [if_neg n1, if_neg n2]; exact h.apart j j' hne h1 h2 h3
  adr j u o hh := by
    simp only [S.put, upd_apply] at hh
    split at hh
    · exact absurd hh (by simp)
    rename_i n1
    obtain ⟨h1, k, h2, h3⟩ := h.adr j u o hh
    refine ⟨h1, k, ?_, ?_⟩
    · rw [ty_put _ _ _ _ (by rw [h.size]; exact hd), if_neg n1]; exact h2
    · intro cs hcs
      simp only [S.put, upd_apply] at hcs
      split at hcs
      · cases hcs
      · rename_i n2
        rw [ty_put _ _ _ _ (by rw [h.size]; exact hd), if_neg n2]; exact h3 cs hcs
/-- A map that is not filled any more. -/
theorem Sim.freeze (h : Sim G ρ s a w) {t : Nat} {es : List (Int × List C)} (he : s.env t = .mw es) : Sim G ρ { s with env := upd s.env t (.mp es) } a w where
  heap := h.heap
  grew := h.grew
  keep := h.keep
  defers := h.defers
  size := h.size
  slot j := by
    simp only [upd_apply]
    split
    · rename_i e; subst e; have := h.slot j; rw [he] at this; exact this
    · exact h.slot j
  apart j j' hne h1 h2 h3 := by
    simp only [upd_apply] at h1 h2 h3
    by_cases n1 : j = t
    · rw [if_neg (fun e => hne (n1.trans e.symm))] at h2
      exact h.apart j j' hne (by rw [n1, he]; rfl) h2 (by rw [n1, he]; rfl)
    · rw [if_neg n1] at h1
      by_cases n2 : j' = t
      · exact h.apart j j' hne h1 (by rw [n2, he]; rfl) (by rw [n2, he]; cases s.env j <;> rfl)
      · rw [if_neg n2] at h2
        rw [if_neg n1, if_neg n2] at h3
        exact h.apart j j' hne h1 h2 h3
  adr j u o hh := by
    obtain ⟨h1, k, h2, h3⟩ := h.adr j u o hh
    refine ⟨h1, k, h2, fun cs hcs => ?_⟩
    simp only [upd_apply] at hcs
    split at hcs
    · cases hcs
    · exact h3 cs hcs
theorem go_mkm (h : Sim G ρ s a w) {d : Nat} (hd : d < G.nt) (hu : s.used d = false) {t : TypeId} : Goes P G (Instr.makeMap t none) w (s.put d (.mw [])) a d := by
  refine ⟨.map (some w.heap.size), w.alloc (.map #[] 0), by simp [Instr.makeMap], ρ, h.priv hd hu (k := w.heap.size) rfl (Nat.le_refl _) (Ext.alloc _ _) ?_⟩
  exact ⟨w.heap.size, rfl, h.keep.size, ⟨#[], 0, by show (w.heap.push _)[_]? = _; simp, .nil⟩, fun b B hb hs => by have := h.heap.lt hb hs; omega⟩
theorem findNow_none {kd : IntKind} {n : Int} {N : Nat} {ρ : Rho} : ∀ {es : List (Int × List C)} {ms : List MapEntry} (i : Nat), All2 (ERel N ρ) es ms → es.all (fun e => decide (e.1 ≠ n)) = true → Instr.findNow (.int kd) (.int .i64 n) ms i = some none := by
  intro es ms i h
  induction h generalizing i with
  | nil => intro _; rfl
  | cons h1 h2 ih =>
    intro ha
    simp only [List.all_cons, Bool.and_eq_true, decide_eq_true_eq] at ha
    have hne : (n == _) = false := beq_eq_false_iff_ne.2 (Ne.symm ha.1)
    simp only [Instr.findNow, h1.1, Instr.sameNow, if_true, hne]
    exact ih (i + 1) ha.2
theorem findNow_some {kd : IntKind} {n : Int} {N : Nat} {ρ : Rho} : ∀ {es : List (Int × List C)} {ms : List MapEntry} (i : Nat), All2 (ERel N ρ) es ms →
    (es.lookup n = none ∧ Instr.findNow (.int kd) (.int .i64 n) ms i = some none) ∨ ∃ cs j arr, es.lookup n = some cs ∧ Instr.findNow (.int kd) (.int .i64 n) ms i = some (some (j, .agg arr)) ∧ All2 (CRel N ρ) cs arr.toList := by
  intro es ms i h
  induction h generalizing i with
  | nil => exact .inl ⟨rfl, rfl⟩
  | @cons e m es ms h1 h2 ih =>
    obtain ⟨hk, arr, hv, ha⟩ := h1
    obtain ⟨k, cs⟩ := e
    cases hb : n == k with
    | true =>
      refine .inr ⟨cs, i, arr, by simp [List.lookup, hb], ?_, ha⟩
      simp only [Instr.findNow, hk, Instr.sameNow, if_true, hb, hv]
    | false =>
      simp only [Instr.findNow, hk, Instr.sameNow, if_true, hb, List.lookup]
      exact ih (i + 1)
theorem run_checkKey {b : Bool} {kt : TypeId} {kd : IntKind} {n : Int} (hk : P.underlying kt = some (.int kd)) : (Instr.checkKey b 10000 kt (.int .i64 n)).run P w = .ok () w := by
  show (Instr.checkKey b (9999 + 1) kt (.int .i64 n)).run P w = _
  unfold Instr.checkKey
  simp [run_under hk]
theorem run_getMap {k : Nat} {ents : Array MapEntry} {c : Nat} (h : w.heap[k]? = some (.map ents c)) : (getObj k).run P w = .ok (.map ents c) w := by simp [getObj, Sem.run, h]
theorem run_setMap {k : Nat} {ents : Array MapEntry} {c : Nat} (o : Obj) (h : w.heap[k]? = some (.map ents c)) : ∃ w', (setObj k o).run P w = .ok () w' ∧ Poked w w' k o := by
  refine ⟨{ w with heap := w.heap.setIfInBounds k o }, by simp [setObj, Sem.run, h], rfl, rfl, rfl, by simp, ?_, fun j hj => by simp [Ne.symm hj]⟩
  have hlt : k < w.heap.size := by
    rcases Nat.lt_or_ge k w.heap.size with h' | h'
    · exact h'
    · rw [Array.getElem?_eq_none h'] at h; cases h
  simp [hlt]
theorem go_mpi (h : Sim G ρ s a w) {t kt et : TypeId} {kd : IntKind} {m : Nat} {k : Int} {x : AOp} {xo : Operand} (ht : P.underlying t = some (.map kt et)) (hk : P.underlying kt = some (.int kd)) (hx : opdOf xo = some x) {s' : S} (hs : stepf (.mpi m k x) s = some s') :
    ∃ w', (Instr.mapUpdate t (a.eval (.tmp m)) (.int .i64 k) (a.eval xo)).run P w = .ok () w' ∧ ASim G s' a w' := by
  simp only [stepf] at hs
  split at hs
  · rename_i es cs he hv
    split at hs
    · rename_i hall
      simp only [Option.some.injEq] at hs; subst hs
      have hsl := h.slot m
      rw [he] at hsl
      obtain ⟨q, e1, hp⟩ := hsl
      obtain ⟨p1, ⟨ents, clock, hb, hr⟩, p3⟩ := hp
      obtain ⟨arr, e2, ha⟩ : ∃ arr, a.eval xo = .agg arr ∧ All2 (CRel s.H.length ρ) cs arr.toList := h.val hv hx
      obtain ⟨w', hw, hpk⟩ := run_setMap (P := P) (.map (ents.push { key := .int .i64 k, val := .agg arr, born := clock }) (clock + 1)) hb
      refine ⟨w', ?_, ρ, ?_⟩
      · have e1' : a.eval (.tmp m) = .map (some q) := e1
        rw [e1', e2]
        simp only [Instr.mapUpdate, Sem.run_bind, run_under ht, Result.andThen_ok, run_getMap hb, run_checkKey hk, Instr.findKey, run_under hk, findNow_none 0 hr hall, Sem.run_pure]
        exact hw
      have hpriv : ∀ t', t' ≠ m → isPriv (s.env t') = true → blkOf (ty a t') ≠ some q := fun t' hne hpv hc => h.apart t' m hne hpv (by rw [he]; rfl) (by rw [he]; cases s.env t' <;> rfl) (by rw [hc, e1]; rfl)
      exact {
        heap := h.heap.to fun b B hb hs => hpk.other _ (p3 b B hb hs)
        grew := h.grew
        keep := h.keep.to hpk.os hpk.tape hpk.output (Nat.le_of_eq hpk.size.symm) fun j hj _ => hpk.other j (by omega)
        defers := h.defers
        size := h.size
        slot := fun t' => by
          simp only [upd_apply]
          split
          · rename_i e; subst e
            refine ⟨q, e1, p1, ⟨_, _, hpk.here, ?_⟩, p3⟩
            rw [Array.toList_push]
            exact hr.append (.cons ⟨rfl, arr, rfl, ha⟩ .nil)
          · rename_i hne
            exact (h.slot t').grow (Nat.le_refl _) (fun _ _ => rfl) fun cs' j hpv hj hpr => hpr.to (hpk.other j fun c => hpriv t' hne hpv (by rw [hj, c]))
        apart := fun t1 t2 hne q1 q2 q3 => by
          have f : ∀ t', isPriv (upd s.env m (AV.mw (es ++ [(k, cs)])) t') = true → isPriv (s.env t') = true := fun t' hp' => by
            simp only [upd_apply] at hp'; split at hp'
            · rename_i e; rw [e, he]; rfl
            · exact hp'
          refine h.apart t1 t2 hne (f t1 q1) (f t2 q2) ?_
          simp only [upd_apply] at q3
          split at q3
          · rename_i e; rw [e, he]; rfl
          · split at q3
            · rename_i e; rw [e, he]; cases s.env t1 <;> rfl
            · exact q3
        adr := fun t1 u1 o hh => by
          obtain ⟨g1, k1, g2, g3⟩ := h.adr t1 u1 o hh
          refine ⟨g1, k1, g2, fun cs' hcs => ?_⟩
          simp only [upd_apply] at hcs
          split at hcs
          · cases hcs
          · exact g3 cs' hcs }
    · simp at hs
  · simp at hs
theorem zagg_run {t : TypeId} {cs : List C} (h : zeroOf P t = some cs) (hz : zaggB P t = true) (w : World) : ∃ arr, (zeroValue t).run P w = .ok (.agg arr) w ∧ ∀ n ρ, All2 (CRel n ρ) cs arr.toList := by
  obtain ⟨v, h1, h2⟩ := zeroOf_run h w
  unfold zaggB at hz
  split at hz
  · rename_i arr heq
    obtain ⟨i, hi, hv⟩ := Option.bind_eq_some_iff.1 heq
    have : (zeroValue t).run P w = .ok (.agg arr) w := by simp [zeroValue, typeInfo, hi, hv]
    rw [this] at h1
    injection h1 with h1
    subst h1
    exact ⟨arr, this, h2⟩
  · cases hz
theorem go_mpg (h : Sim G ρ s a w) {d : Nat} (hd : d < G.nt) {t kt et : TypeId} {kd : IntKind} {m : Nat} {k : AOp} {ko : Operand} {z : List C} (ht : P.underlying t = some (.map kt et)) (hk : P.underlying kt = some (.int kd)) (hx : opdOf ko = some k) (hz : zeroOf P et = some z) (hg : zaggB P et = true)
    {s' : S} (hs : stepf (.mpg d m k z) s = some s') : Goes P G (Instr.lookup t (a.eval (.tmp m)) (a.eval ko) true) w s' a d := by
  simp only [stepf] at hs
  split at hs
  · rename_i es n he hv
    simp only [Option.some.injEq] at hs; subst hs
    have hsl := h.slot m
    rw [he] at hsl
    obtain ⟨q, e1, _, ⟨ents, clock, hb, hr⟩, _⟩ := hsl
    have e1' : a.eval (.tmp m) = .map (some q) := e1
    have e2 : a.eval ko = .int .i64 n := h.val hv hx
    rw [e1', e2]
    rcases findNow_some (kd := kd) (n := n) 0 hr with ⟨hl, hf⟩ | ⟨cs, j, arr, hl, hf, ha⟩
    · obtain ⟨arr, hzr, hzc⟩ := zagg_run hz hg w
      refine ⟨.tuple #[.agg arr, .bool false], w, ?_, ρ, h.put hd (by rw [hl]; exact ⟨_, rfl, .cons ⟨arr, rfl, hzc _ _⟩ (.cons rfl .nil)⟩) (by rw [hl]; rfl)⟩
      simp only [Instr.lookup, Sem.run_bind, run_under ht, Result.andThen_ok, run_getMap hb, run_checkKey hk, Instr.findKey, run_under hk, hf, Sem.run_pure, hzr]
      rfl
    · refine ⟨.tuple #[.agg arr, .bool true], w, ?_, ρ, h.put hd (by rw [hl]; exact ⟨_, rfl, .cons ⟨arr, rfl, ha⟩ (.cons rfl .nil)⟩) (by rw [hl]; rfl)⟩
      simp only [Instr.lookup, Sem.run_bind, run_under ht, Result.andThen_ok, run_getMap hb, run_checkKey hk, Instr.findKey, run_under hk, hf, Sem.run_pure]
      rfl
  · simp at hs
theorem go_mov (h : Sim G ρ s a w) {d : Nat} (hd : d < G.nt) {x : AOp} {xo : Operand} (hx : opdOf xo = some x) {s' : S} (hs : stepf (.mov d x) s = some s') : ASim G s' (a.put (some d) (a.eval xo)) w := by
  simp only [stepf] at hs
  cases x with
  | k c =>
    simp only [S.mov, Option.some.injEq] at hs
    rw [← hs]; exact h.go hd (h.val (x := .k c) rfl hx)
  | t t =>
    have hxo : a.eval xo = ty a t := by
      cases xo <;> simp [opdOf] at hx
      · subst hx; rfl
    simp only [S.mov] at hs
    cases he : s.env t with
    | val v =>
      simp only [he, Option.some.injEq] at hs
      rw [← hs]; exact h.go hd (h.val (x := .t t) (by simp [S.val, he]) hx)
    | tup vs =>
      simp only [he, Option.some.injEq] at hs
      rw [← hs, hxo]
      have hsl := h.slot t
      rw [he] at hsl
      exact ⟨ρ, h.put hd hsl rfl⟩
    | mp es =>
      simp only [he, Option.some.injEq] at hs
      rw [← hs, hxo]
      exact ⟨ρ, h.copyMp hd he⟩
    | _ => simp [he] at hs
theorem go_ext (h : Sim G ρ s a w) {d : Nat} (hd : d < G.nt) {x : AOp} {xo : Operand} {i : Nat} (hx : opdOf xo = some x) {s' : S} (hs : stepf (.ext d x i) s = some s') : Goes P G (Instr.extract (a.eval xo) i) w s' a d := by
  simp only [stepf] at hs
  cases x with
  | k c => simp at hs
  | t t =>
    simp only at hs
    have hxo : a.eval xo = ty a t := by
      cases xo <;> simp [opdOf] at hx
      · subst hx; rfl
    cases he : s.env t with
    | tup vs =>
      simp only [he] at hs
      have hsl := h.slot t
      rw [he] at hsl
      obtain ⟨arr, e1, h1⟩ := hsl
      cases hv : vs[i]? with
      | none => simp [hv, S.putV] at hs
      | some v =>
        simp only [hv, S.putV, Option.some.injEq] at hs
        obtain ⟨u, hu, hr⟩ := h1.get hv
        simp only [Array.getElem?_toList] at hu
        exact ⟨u, w, by rw [hxo, e1]; simp [Instr.extract, hu], by rw [← hs]; exact h.go hd hr⟩
    | _ => simp [he] at hs
theorem lenC_rel {N : Nat} {c : C} {n : Nat} {x : Value} (hl : lenC c = some n) (hx : CRel N ρ c x) : ∃ b m, x = .slice b n m := by
  cases c <;> simp [lenC] at hl
  · subst hl; exact ⟨_, _, hx⟩
  · subst hl; obtain ⟨b, cap, e, _⟩ := hx; exact ⟨_, _, e⟩
  · subst hl; obtain ⟨_, cap, e, _⟩ := hx; exact ⟨_, _, e⟩
theorem go_len (h : Sim G ρ s a w) {d : Nat} (hd : d < G.nt) {x : AOp} {xo : Operand} {t e ty' : TypeId} {ts : List TypeId} (ht : P.underlying t = some (.slice e)) (hx : opdOf xo = some x) {s' : S} (hs : stepf (.len d x) s = some s') :
    Goes P G (Builtin.len_ (t :: ts).toArray ty' #[a.eval xo]) w s' a d := by
  simp only [stepf] at hs
  split at hs
  · rename_i c hc
    cases hn : lenC c with
    | none => simp [hn] at hs
    | some n =>
      simp only [hn, Option.some.injEq] at hs
      obtain ⟨b, m, e1⟩ := lenC_rel hn (h.val hc hx)
      refine ⟨.int .i64 n, w, ?_, by rw [← hs]; exact h.go hd rfl⟩
      rw [e1]; simp [Builtin.len_, run_under ht, goInt]
  · simp at hs
theorem go_mm (h : Sim G ρ s a w) {d : Nat} (hd : d < G.nt) {mx : Bool} {x y : AOp} {xo yo : Operand} {ts : Array TypeId} {ty' : TypeId} (hx : opdOf xo = some x) (hy : opdOf yo = some y) {s' : S} (hs : stepf (.mm mx d x y) s = some s') :
    Goes P G (if mx then Builtin.max_ ts ty' #[a.eval xo, a.eval yo] else Builtin.min_ ts ty' #[a.eval xo, a.eval yo]) w s' a d := by
  simp only [stepf] at hs
  split at hs
  · rename_i k n k' m h1 h2
    split at hs
    · rename_i hk; subst hk
      simp only [Option.some.injEq] at hs
      refine ⟨.int k (if mx then (if n < m then m else n) else (if m < n then m else n)), w, ?_, by rw [← hs]; exact h.go hd rfl⟩
      rw [int_rel (h.val h1 hx), int_rel (h.val h2 hy)]
      cases mx
      · simp [Builtin.min_, Builtin.min2]
      · simp [Builtin.max_, Builtin.max2]
    · simp at hs
  · simp at hs
theorem go_nilck (h : Sim G ρ s a w) {d : Nat} (hd : d < G.nt) {x : AOp} {xo : Operand} (hx : opdOf xo = some x) {s' : S} (hs : stepf (.nilck d x) s = some s') :
    ∃ p, a.eval xo = .pointer (some p) ∧ ASim G s' (a.put (some d) (a.eval xo)) w := by
  simp only [stepf] at hs
  split at hs
  · rename_i b o hc
    simp only [Option.some.injEq] at hs
    have hr := h.val hc hx
    exact ⟨_, hr.2, by rw [← hs]; exact h.go hd hr⟩
  · simp at hs
theorem fieldOf_spec {t : TypeId} {j off : Nat} {ft : TypeId} (h : fieldOf P t j = some (off, ft)) : ∃ (fs : Array Field) (f : Field), P.underlying t = some (.struct fs) ∧ fs[j]? = some f ∧ f.offset = off ∧ f.type = ft := by
  unfold fieldOf at h
  split at h
  · rename_i fs hfs
    cases hf : fs[j]? with
    | none => simp [hf] at h
    | some f => simp [hf] at h; exact ⟨fs, f, hfs, hf, h.1, h.2⟩
  · simp at h
theorem go_faddrQ (h : Sim G ρ s a w) {d : Nat} (hd : d < G.nt) {x off bb : Nat} {q : Sem Value} (run : ∀ (k o : Nat), a.eval (.tmp x) = .pointer (some ⟨k, o, none⟩) → q.run P w = .ok (.pointer (some ⟨k, o + off, none⟩)) w) {s' : S} (hs : stepf (.faddr d x off bb) s = some s') :
    Goes P G q w s' a d := by
  have hd' : d < a.tmps.size := by rw [h.size]; exact hd
  have gen : ∀ (u o k : Nat) (cs : List C), s.env u = .box cs → ty a u = .pointer (some ⟨k, 0, none⟩) → a.eval (.tmp x) = .pointer (some ⟨k, o, none⟩) →
      s' = { env := upd s.env d .undef, adr := upd s.adr d (some (u, o + off)), used := upd s.used u true, H := s.H } → Goes P G q w s' a d := by
    intro u o k cs hu hk he hs'
    refine ⟨_, w, run k o he, ρ, ?_⟩
    have hb := h.put hd (v := .undef) (x := .pointer (some ⟨k, o + off, none⟩)) trivial rfl
    subst hs'
    exact {
      heap := hb.heap
      grew := hb.grew
      keep := hb.keep
      defers := hb.defers
      size := hb.size
      slot := hb.slot
      apart := hb.apart
      adr := fun t1 u1 o1 hh => by
        simp only [upd_apply] at hh ⊢
        split at hh
        · rename_i e
          simp only [Option.some.injEq, Prod.mk.injEq] at hh
          obtain ⟨rfl, rfl⟩ := hh
          refine ⟨by simp, k, by rw [ty_put _ _ _ _ hd', if_pos e], fun cs' hcs => ?_⟩
          split at hcs
          · simp at hcs
          · rename_i hne; rw [ty_put _ _ _ _ hd', if_neg hne]; exact hk
        · rename_i e
          obtain ⟨g1, k', g2, g3⟩ := h.adr t1 u1 o1 hh
          refine ⟨by split <;> simp [g1], k', by rw [ty_put _ _ _ _ hd', if_neg e]; exact g2, fun cs' hcs => ?_⟩
          split at hcs
          · simp at hcs
          · rename_i hne; rw [ty_put _ _ _ _ hd', if_neg hne]; exact g3 cs' hcs }
  simp only [stepf] at hs
  cases ha : s.adr x with
  | some p =>
    obtain ⟨u, o⟩ := p
    simp only [ha] at hs
    by_cases hub : ¬ u = bb
    · simp [hub] at hs
    have hub : u = bb := Decidable.not_not.1 hub
    subst hub
    simp only [if_true, Option.some.injEq] at hs
    obtain ⟨g1, k, g2, g3⟩ := h.adr x u o ha
    refine ⟨_, w, run k o g2, ρ, ?_⟩
    have hb := h.put hd (v := .undef) (x := .pointer (some ⟨k, o + off, none⟩)) trivial rfl
    subst hs
    exact {
      heap := hb.heap
      grew := hb.grew
      keep := hb.keep
      defers := hb.defers
      size := hb.size
      slot := hb.slot
      apart := hb.apart
      adr := fun t1 u1 o1 hh => by
        simp only [upd_apply] at hh ⊢
        split at hh
        · rename_i e
          simp only [Option.some.injEq, Prod.mk.injEq] at hh
          obtain ⟨rfl, rfl⟩ := hh
          refine ⟨by simp, k, by rw [ty_put _ _ _ _ hd', if_pos e], fun cs' hcs => ?_⟩
          split at hcs
          · simp at hcs
          · rename_i hne; rw [ty_put _ _ _ _ hd', if_neg hne]; exact g3 cs' hcs
        · rename_i e
          obtain ⟨f1, k', f2, f3⟩ := h.adr t1 u1 o1 hh
          refine ⟨by split <;> simp [f1], k', by rw [ty_put _ _ _ _ hd', if_neg e]; exact f2, fun cs' hcs => ?_⟩
          split at hcs
          · simp at hcs
          · rename_i hne; rw [ty_put _ _ _ _ hd', if_neg hne]; exact f3 cs' hcs }
  | none =>
    simp only [ha] at hs
    have hsl := h.slot x
    cases hu : s.env x with
    | box cs =>
      simp only [hu] at hs
      by_cases hub : ¬ x = bb
      · simp [hub] at hs
      have hub : x = bb := Decidable.not_not.1 hub
      subst hub
      simp only [if_true, Option.some.injEq] at hs
      rw [hu] at hsl
      obtain ⟨k, e1, _⟩ := hsl
      exact gen x 0 k cs hu e1 e1 (by rw [← hs]; simp)
    | val v0 =>
      rw [hu] at hsl
      cases v0 with
      | agg _ => simp [hu] at hs
      | c c0 =>
        cases c0 with
        | ptr b o =>
          simp only [hu, Option.some.injEq] at hs
          obtain ⟨hb, e1⟩ := hsl
          exact ⟨_, w, run _ _ e1, by rw [← hs]; exact h.go hd ⟨hb, by rw [Nat.add_assoc]⟩⟩
        | _ => simp [hu] at hs
    | _ => simp [hu] at hs
/-- A part of a struct or an array. -/
theorem go_faddr (h : Sim G ρ s a w) {d : Nat} (hd : d < G.nt) {t : TypeId} {x j off n bb : Nat} {ft : TypeId} (hf : fieldOf P t j = some (off, ft)) (hn : szOf P ft = some n) (hn0 : n ≠ 0) {s' : S} (hs : stepf (.faddr d x off bb) s = some s') :
    Goes P G (Instr.fieldAt t (a.eval (.tmp x)) j) w s' a d := by
  obtain ⟨fs, f, h1, h2, h3, h4⟩ := fieldOf_spec hf
  refine go_faddrQ h hd (fun k o he => ?_) hs
  rw [he]
  simp [Instr.fieldAt, run_under h1, h2, Instr.sureAddr, fieldPlace, h4, run_szOf hn, hn0, h3, addr_add]
theorem go_faddrA (h : Sim G ρ s a w) {d : Nat} (hd : d < G.nt) {t e : TypeId} {x len n bb : Nat} {j : Int} (ht : P.underlying t = some (.array len e)) (hn : szOf P e = some n) (h0 : 0 ≤ j) (h1 : j < len) {s' : S} (hs : stepf (.faddr d x (j.toNat * n) bb) s = some s') :
    Goes P G (Instr.indexAt t (a.eval (.tmp x)) (.int .i64 j)) w s' a d := by
  refine go_faddrQ h hd (fun k o he => ?_) hs
  rw [he]
  simp [Instr.indexAt, asIntOf, run_under ht, Instr.sureAddr, run_szOf hn, h0, h1, addr_add]
theorem part_rel {N : Nat} {t : TypeId} {g : Bool} {n off : Nat} {cs l : List C} {v : V} {arr : Array Value} (ht : szOf P t = some n) (hg : aggB P t = some g) (h1 : g = false → n = 1) (hr : All2 (CRel N ρ) cs arr.toList)
    (hl : slab cs off n = some l) (hv : asV g l = some v) : ∃ x, (part t arr off).run P w = .ok x w ∧ VRel N ρ v x := by
  cases g with
  | true =>
    simp [asV] at hv; subst hv
    obtain ⟨h2, h3, h4⟩ := slab_spec hl
    refine ⟨.agg (arr.extract off (off + n)), by simp [part, run_aggB hg, run_szOf ht], _, rfl, ?_⟩
    rw [h3, Array.toList_extract, List.extract_eq_take_drop, show off + n - off = n from by omega]
    exact (hr.drop off).take n
  | false =>
    have hn := h1 rfl; subst hn
    match l, hl, hv with
    | [], _, hv => simp [asV] at hv
    | [c], hl, hv =>
      simp [asV] at hv; subst hv
      obtain ⟨u, hu, hru⟩ := hr.get (slab_get hl (i := 0) (c := c) (by simp))
      simp only [Nat.add_zero, Array.getElem?_toList] at hu
      exact ⟨u, by simp [part, run_aggB hg, hu], hru⟩
    | _ :: _ :: _, _, hv => simp [asV] at hv
theorem go_fld (h : Sim G ρ s a w) {d : Nat} (hd : d < G.nt) {t : TypeId} {x : AOp} {xo : Operand} {j off n : Nat} {ft : TypeId} {g : Bool} (hf : fieldOf P t j = some (off, ft)) (hn : szOf P ft = some n) (hg : aggB P ft = some g) (h1 : g = false → n = 1)
    (hx : opdOf xo = some x) {s' : S} (hs : stepf (.fld d x off n g) s = some s') : Goes P G (Instr.field t (a.eval xo) j) w s' a d := by
  obtain ⟨fs, f, g1, g2, g3, g4⟩ := fieldOf_spec hf
  simp only [stepf] at hs
  split at hs
  · rename_i cs hc
    obtain ⟨arr, e1, hr⟩ := h.val hc hx
    cases hl : slab cs off n with
    | none => simp [hl] at hs
    | some l =>
      simp only [hl] at hs
      cases hv : asV g l with
      | none => simp [hv, S.putV] at hs
      | some v =>
        simp only [hv, S.putV, Option.some.injEq] at hs
        obtain ⟨u, hu, hru⟩ := part_rel (P := P) (w := w) hn hg h1 hr hl hv
        refine ⟨u, w, ?_, by rw [← hs]; exact h.go hd hru⟩
        rw [e1]; simp [Instr.field, run_under g1, g2, asAgg, g3, g4, hu]
  · simp at hs
theorem go_aidx (h : Sim G ρ s a w) {d : Nat} (hd : d < G.nt) {t e : TypeId} {x i : AOp} {xo io : Operand} {len n : Nat} {g : Bool} (ht : P.underlying t = some (.array len e)) (hn : szOf P e = some n) (hg : aggB P e = some g) (h1 : g = false → n = 1)
    (hx : opdOf xo = some x) (hi : opdOf io = some i) {s' : S} (hs : stepf (.aidx d x i len n g) s = some s') : Goes P G (Instr.index t (a.eval xo) (a.eval io)) w s' a d := by
  simp only [stepf] at hs
  split at hs
  · rename_i cs k j hc hj
    obtain ⟨arr, e1, hr⟩ := h.val hc hx
    have e2 := int_rel (h.val hj hi)
    split at hs
    · rename_i hb
      cases hl : slab cs (j.toNat * n) n with
      | none => simp [hl] at hs
      | some l =>
        simp only [hl] at hs
        cases hv : asV g l with
        | none => simp [hv, S.putV] at hs
        | some v =>
          simp only [hv, S.putV, Option.some.injEq] at hs
          obtain ⟨u, hu, hru⟩ := part_rel (P := P) (w := w) hn hg h1 hr hl hv
          refine ⟨u, w, ?_, by rw [← hs]; exact h.go hd hru⟩
          rw [e1, e2]; simp [Instr.index, asIntOf, run_under ht, hb, run_szOf hn, hu]
    · simp at hs
  · simp at hs
theorem go_iadr (h : Sim G ρ s a w) {d : Nat} (hd : d < G.nt) {t e : TypeId} {x i : AOp} {xo io : Operand} {n : Nat} (ht : P.underlying t = some (.slice e)) (hn : szOf P e = some n) (hx : opdOf xo = some x) (hi : opdOf io = some i)
    {s' : S} (hs : stepf (.iadr d x i n) s = some s') : Goes P G (Instr.indexAt t (a.eval xo) (a.eval io)) w s' a d := by
  simp only [stepf] at hs
  split at hs
  · rename_i b off len k j hc hj
    obtain ⟨hb, cap, e1, _⟩ := h.val hc hx
    have e2 := int_rel (h.val hj hi)
    split at hs
    · rename_i hlt
      simp only [Option.some.injEq] at hs
      refine ⟨.pointer (some ⟨(ρ b).blk, (ρ b).off + off + j.toNat * n, none⟩), w, ?_, by rw [← hs]; exact h.go hd ⟨hb, by rw [Nat.add_assoc]⟩⟩
      rw [e1, e2]; simp [Instr.indexAt, asIntOf, run_under ht, hlt, run_szOf hn, addr_add]
    · simp at hs
  · simp at hs

/-- What a cut comes to. -/
theorem slc_rel {H : Heap} (hH : HSim ρ H w) {N : Nat} {n : Nat} {c r : C} {x : Value} {t e : TypeId} (ht : P.underlying t = some (.slice e)) (hn : szOf P e = some n) {lo : Int} {hi : Option Int} {lov hiv : Option Value} {k1 k2 : IntKind} (hlo : lov = some (.int k1 lo) ∨ (lov = none ∧ lo = 0))
    (hhi : hiv = hi.map fun h => .int k2 h) (hs : slcC H n c lo hi = some r) (hx : CRel N ρ c x) : ∃ v, (Instr.sliceAt t x lov hiv none).run P w = .ok v w ∧ CRel N ρ r v := by
  have run : ∀ (b : Option Addr) (len cap : Nat) (h : Int), x = .slice b len cap → hi.getD len = h → 0 ≤ lo → lo ≤ h → h ≤ len → len ≤ cap → (Instr.sliceAt t x lov hiv none).run P w =
      .ok (.slice (if cap = lo.toNat then b else b.map (·.add (lo.toNat * n))) (h.toNat - lo.toNat) (cap - lo.toNat)) w := by
    intro b len cap h e1 hh h0 h1 h2 h3
    subst e1
    have hb : (Instr.sliceBounds true len cap lov hiv none).run P w = .ok (lo.toNat, h.toNat, cap) w := by
      subst hhi
      cases hi with
      | none =>
        simp at hh; subst hh
        rcases hlo with rfl | ⟨rfl, rfl⟩
        · simp [Instr.sliceBounds, Instr.sliceBound, asIntOf, h0, h1]
        · simp [Instr.sliceBounds]
      | some h' =>
        simp at hh; subst hh
        have hc : h' ≤ (cap : Int) := by omega
        have hl : lo ≤ max h' 0 := by omega
        rcases hlo with rfl | ⟨rfl, rfl⟩
        · simp [Instr.sliceBounds, Instr.sliceBound, asIntOf, h0, hc, show (0 : Int) ≤ h' from by omega, hl]
        · simp [Instr.sliceBounds, Instr.sliceBound, asIntOf, hc, h1]
    simp only [Instr.sliceAt, Sem.run_bind, run_under ht, Result.andThen_ok, Instr.slice, hb, run_szOf hn]
    rfl
  cases c with
  | nil =>
    simp only [slcC] at hs
    split at hs
    · rename_i hc
      obtain ⟨rfl, hc⟩ := hc
      simp only [Option.some.injEq] at hs; subst hs
      have := run none 0 0 0 hx (by rcases hc with rfl | rfl <;> rfl) (by omega) (by omega) (by omega) (by omega)
      exact ⟨_, this, by simp [CRel]⟩
    · simp at hs
  | emp c =>
    simp only [slcC] at hs
    split at hs
    · rename_i hc
      obtain ⟨rfl, hc⟩ := hc
      simp only [Option.some.injEq] at hs; subst hs
      obtain ⟨b, cap, e1, h1⟩ := hx
      have := run (some b) 0 cap 0 e1 (by rcases hc with rfl | rfl <;> rfl) (by omega) (by omega) (by omega) (by omega)
      refine ⟨_, this, b, cap, ?_, h1⟩
      simp [Addr.add]
    · simp at hs
  | sl b off len =>
    simp only [slcC] at hs
    split at hs
    · rename_i hc
      obtain ⟨h0, h1, h2⟩ := hc
      obtain ⟨hb, cap, e1, h3, h4⟩ := hx
      have := run _ len cap (hi.getD len) e1 rfl h0 h1 h2 h3
      split at hs
      · rename_i hz
        simp only [Option.some.injEq] at hs; subst hs; subst hz
        refine ⟨_, this, hb, cap, ?_, by omega, h4⟩
        simp [Addr.add]
      · rename_i hz
        split at hs
        · rename_i hlt
          split at hs
          · rename_i hsz
            simp only [Option.some.injEq] at hs; subst hs
            have hszn : (ρ b).sz = n := by
              unfold Heap.szv at hsz
              split at hsz <;> simp at hsz
              rename_i st n' cs' hne hB
              rw [hH.sz b _ hB (fun e => hne e)]; exact hsz
            refine ⟨_, this, hb, cap - lo.toNat, ?_, by omega, ?_⟩
            · rw [if_neg (by omega)]; simp [addr_add, Nat.add_assoc]
            · rw [hszn] at h4 ⊢
              have e2 : cap * n = lo.toNat * n + (cap - lo.toNat) * n := by rw [← Nat.add_mul]; congr 1; omega
              omega
          · simp at hs
        · simp only [Option.some.injEq] at hs; subst hs
          refine ⟨_, this, ?_⟩
          rw [show (hi.getD ↑len).toNat - lo.toNat = 0 from by omega]
          split
          · exact ⟨_, _, rfl, fun e => absurd e (by decide)⟩
          · exact ⟨_, _, rfl, fun e => absurd e (by decide)⟩
    · simp at hs
  | _ => simp [slcC] at hs

end Go.AX
