/- The abstract machine AX: each operation of the model does what the abstract step says, continued. No condition. -/
import Derived.Test.YtfjgckhndimhdaaGreatAX6
namespace Go.AX

variable {G : Ctx} {ρ : Rho} {s : S} {a : Act} {w : World} {P : Program}

theorem rep_len (n : Nat) (z : List C) : (rep n z).length = n * z.length := by simp [rep]
theorem rep_get {z : List C} : ∀ (len i : Nat), i < len * z.length → (rep len z)[i]? = z[i % z.length]? := by
  intro len
  induction len with
  | zero => intro i h; simp at h
  | succ len ih =>
    intro i h
    rw [Nat.add_mul, Nat.one_mul] at h
    have e : rep (len + 1) z = z ++ rep len z := by simp [rep, List.replicate_succ]
    rw [e]
    by_cases c : i < z.length
    · rw [List.getElem?_append_left c, Nat.mod_eq_of_lt c]
    · rw [List.getElem?_append_right (by omega), ih _ (by omega)]
      rw [Nat.mod_eq_sub_mod (a := i) (by omega)]
theorem rep_rel {N : Nat} {z : List C} {zero : Array Value} (h : All2 (CRel N ρ) z zero.toList) (len n : Nat) (hn : z.length = n) :
    All2 (CRel N ρ) (rep len z) ((Array.range (len * n)).map (zero[· % zero.size]!)).toList := by
  have hl := h.len
  simp only [Array.length_toList] at hl
  refine All2.of (by simp [rep_len, hn]) fun i c hi => ?_
  have hlt : i < len * n := by have := (List.getElem?_eq_some_iff.1 hi).1; rw [rep_len, hn] at this; exact this
  rw [rep_get len i (by rw [hn]; exact hlt)] at hi
  obtain ⟨v, e1, e2⟩ := h.get hi
  refine ⟨v, ?_, e2⟩
  have hm : i % z.length < zero.size := by rw [← hl]; exact Nat.mod_lt _ (by rcases Nat.eq_zero_or_pos z.length with h0 | h0; · rw [h0] at hn; subst hn; simp at hlt
                                                                             · exact h0)
  rw [hl] at e1 hm
  simp only [Array.getElem?_toList] at e1
  simp [hlt, getElem!_pos, hm]
  rw [Array.getElem?_eq_getElem hm] at e1
  injection e1

theorem wrap_i64 {n : Int} (h : -9223372036854775808 ≤ n) (h' : n ≤ 9223372036854775807) : IntKind.i64.wrap n = n := by
  simp only [IntKind.wrap, IntKind.bits, IntKind.signed]
  simp
  omega

theorem go_bsl0 (h : Sim G ρ s a w) {d : Nat} (hd : d < G.nt) {t e : TypeId} {n : Nat} (ht : P.underlying t = some (.slice e)) (hn : szOf P e = some n) :
    Goes P G (Instr.buildSlice t 0 #[]) w (s.put d (.val (.c (.emp true)))) a d := by
  refine ⟨.slice (some ⟨w.heap.size, 0, none⟩) 0 0, w.alloc (.cells #[] e), ?_, ρ, (h.ext (Ext.alloc w (.cells #[] e))).put hd (v := .val (.c (.emp true))) ⟨_, 0, rfl, fun _ => rfl⟩ rfl⟩
  simp [Instr.buildSlice, run_under ht, run_szOf hn, Instr.fill, newRow, show (Array.range 0 : Array Nat) = #[] from rfl]
theorem go_bsl (h : Sim G ρ s a w) {d : Nat} (hd : d < G.nt) {t e : TypeId} {len n : Nat} {z cs : List C} {ps : List (Nat × Operand)} {qs : List (Nat × Nat × AOp)} (ht : P.underlying t = some (.slice e)) (hn : szOf P e = some n)
    (hz : zeroOf P e = some z) (hzl : z.length = n) (hn0 : n ≠ 0) (hb : len * n ≤ 2 ^ 24) (hlen : len * n ≠ 0) (hp : partsOf P (fun i => some (i * n, n)) ps = some qs)
    (hf : fill (rep len z) (qs.map fun p => (p.1, p.2.1, s.val p.2.2)) = some cs) (hcs : cs.length = len * n) (hu : s.used d = false) :
    Goes P G (Instr.buildSlice t len (ps.toArray.map fun p => (p.1, a.eval p.2))) w (s.put d (.lit n cs)) a d := by
  obtain ⟨zv, hzv, hr⟩ := zeroOf_run hz w
  obtain ⟨arr, g1, g2⟩ := fill_rel h hp hf (rep_rel (ρ := ρ) (hr s.H.length ρ) len n hzl)
  have hl : (ps.toArray.map fun p => (p.1, a.eval p.2)).toList = ps.map fun p => (p.1, a.eval p.2) := by simp
  refine ⟨.slice (some ⟨w.heap.size, 0, none⟩) len len, w.alloc (.cells arr e), ?_, ρ, h.priv hd hu (k := w.heap.size) rfl (Nat.le_refl _) (Ext.alloc _ _) ?_⟩
  · simp only [Instr.buildSlice, Sem.run_bind, run_under ht, Result.andThen_ok, run_szOf hn, Sem.run_ite]
    rw [if_neg (by omega), hl]
    simp only [Sem.run_pure, Result.andThen_ok]
    rw [if_neg hlen]
    simp only [Sem.run_bind, hzv, Result.andThen_ok, Sem.run_pure, g1]
    simp [newRow]
  · exact ⟨w.heap.size, len, rfl, hcs.symm, hn0, h.keep.size, ⟨arr, e, by show (w.heap.push _)[_]? = _; simp, g2⟩, fun b B hb' hs => by have := h.heap.lt hb' hs; omega⟩
theorem go_mks (h : Sim G ρ s a w) {d : Nat} (hd : d < G.nt) {t e : TypeId} {n : Nat} {z : List C} {i : TypeInfo} {l : Int} (ht : P.underlying t = some (.slice e)) (hn : szOf P e = some n) (hi : P.info? e = some i) (hby : i.bytes ≤ 1024)
    (hz : zeroOf P e = some z) (hzl : z.length = n) (hn0 : n ≠ 0) (h0 : 0 ≤ l) (h1 : l ≤ lenMax) :
    Goes P G (Instr.makeSlice t (.int .i64 l) (.int .i64 l)) w
      (if l = 0 then s.put d (.val (.c (.emp true))) else { s.put d (.val (.c (.sl s.H.length 0 l.toNat))) with H := s.H ++ [⟨.rw, n, rep l.toNat z⟩] }) a d := by
  have hlm : l ≤ 4294967296 := h1
  have hw : IntKind.i64.wrap l = l := wrap_i64 (by omega) (by omega)
  have hbm : (i.bytes : Int) * l ≤ 1024 * 4294967296 := Int.mul_le_mul (by omega) hlm h0 (by omega)
  obtain ⟨zv, hzv, hr⟩ := zeroOf_run hz w
  have hrun : (Instr.makeSlice t (.int .i64 l) (.int .i64 l)).run P w = .ok (.slice (some ⟨w.heap.size, 0, none⟩) l.toNat l.toNat) (w.alloc (.cells ((Array.range (l.toNat * n)).map (zv.cells[· % zv.cells.size]!)) e)) := by
    have hnl : ¬ (l < 0) := by omega
    have hnb : ¬ ((281474976710656 : Int) < (i.bytes : Int) * l) := by omega
    simp only [Instr.makeSlice, Sem.run_bind, run_under ht, Result.andThen_ok, typeInfo, run_program, hi, Sem.run_pure, asInt, asIntOf, hw, Sem.run_ite]
    simp [hnl, hnb, run_szOf hn]
    by_cases c : l = 0
    · subst c; simp [newRow, show (Array.range 0 : Array Nat) = #[] from rfl]
    · have : ¬ (l.toNat * n = 0) := Nat.mul_ne_zero (by omega) hn0
      rw [if_neg this]
      simp only [hzv, Result.andThen_ok, newRow, Sem.run_bind, run_newObj, Sem.run_pure]
      rfl
  refine ⟨_, _, hrun, ?_⟩
  split
  · rename_i c
    subst c
    exact ⟨ρ, (h.ext (Ext.alloc w _)).put hd (v := .val (.c (.emp true))) ⟨_, 0, rfl, fun _ => rfl⟩ rfl⟩
  · refine go_new h hd (rep_rel (hr _ _) l.toNat n hzl) ⟨by omega, l.toNat, ?_, Nat.le_refl _, ?_⟩
    · rw [upd_same]
    · rw [upd_same]; simp

theorem go_ld (h : Sim G ρ s a w) {d : Nat} (hd : d < G.nt) {t : TypeId} {x n bb : Nat} {hp g : Bool} (hn : szOf P t = some n) (hg : aggB P t = some g) (h1 : g = false → n = 1) {s' : S} (hs : stepf (.ld d x n g bb hp) s = some s') :
    Goes P G (Instr.loadAt t (a.eval (.tmp x))) w s' a d := by
  have key : ∀ (k off : Nat) (cs : List C) (l : List C) (v : V) (arr : Array Value) (tt : TypeId) (fr : Nat × Nat) (o : Nat), a.eval (.tmp x) = .pointer (some ⟨k, off, none⟩) → slab cs o n = some l → asV g l = some v →
      w.heap[k]? = some (.cells arr tt fr) → (∀ (i : Nat) (c : C), cs[o + i]? = some c → ∃ u : Value, arr[off + i]? = some u ∧ CRel s.H.length ρ c u) → s' = s.put d (.val v) → Goes P G (Instr.loadAt t (a.eval (.tmp x))) w s' a d := by
    intro k off cs l v arr tt fr o he hl hv hb hc hs'
    obtain ⟨u, hu, hr⟩ := load_rel (P := P) (N := s.H.length) (ρ := ρ) hn hg h1 (slab_spec hl).2.2 hb (off := off) (fun i c hi => hc i c (slab_get hl hi)) hv
    rw [he, hs']
    exact ⟨u, w, by simp [Instr.loadAt, Instr.sureAddr, hu], h.go hd hr⟩
  simp only [stepf] at hs
  cases hp with
  | true =>
    simp only [if_true] at hs
    have hsl := h.slot x
    cases hu : s.env x with
    | val v0 =>
      rw [hu] at hsl
      cases v0 with
      | agg _ => simp [hu] at hs
      | c c0 =>
        cases c0 with
        | ptr b o =>
          simp only [hu] at hs
          split at hs
          · cases hlv : s.H.live b with
            | none => simp [hlv] at hs
            | some cs =>
              simp only [hlv] at hs
              cases hl : slab cs o n with
              | none => simp [hl] at hs
              | some l =>
                simp only [hl] at hs
                cases hv : asV g l with
                | none => simp [hv, S.putV] at hs
                | some v =>
                  simp only [hv, S.putV, Option.some.injEq] at hs
                  obtain ⟨B, hB, hst, rfl⟩ := live_spec hlv
                  obtain ⟨arr, tt, fr, g1, g2, _⟩ := h.heap.blk b B hB hst
                  exact key _ _ B.cells l v arr tt fr o hsl.2 hl hv g1 (fun i c hi => by obtain ⟨v, e1, e2⟩ := g2 _ c hi; exact ⟨v, by rw [Nat.add_assoc]; exact e1, e2⟩) hs.symm
          · simp at hs
        | _ => simp [hu] at hs
    | _ => simp [hu] at hs
  | false =>
    simp only [Bool.false_eq_true, if_false] at hs
    cases ha : s.adr x with
    | some p =>
      obtain ⟨u, o⟩ := p
      simp only [ha] at hs
      split at hs
      · rename_i hub; subst hub
        obtain ⟨_, k, e1, e2⟩ := h.adr x u o ha
        cases hu : s.env u with
        | box cs =>
          simp only [hu] at hs
          cases hl : slab cs o n with
          | none => simp [hl] at hs
          | some l =>
            simp only [hl] at hs
            cases hv : asV g l with
            | none => simp [hv, S.putV] at hs
            | some v =>
              simp only [hv, S.putV, Option.some.injEq] at hs
              have hsl := h.slot u
              rw [hu] at hsl
              obtain ⟨k', e3, _, ⟨arr, tt, hb, h3⟩, _⟩ := hsl
              rw [e2 cs hu] at e3; injection e3 with e3; injection e3 with e3; injection e3 with e3; subst e3
              exact key k o cs l v arr tt (0, 0) o e1 hl hv hb (fun i c hi => by obtain ⟨v, g1, g2⟩ := h3.get hi; exact ⟨v, by simpa using g1, g2⟩) hs.symm
        | _ => simp [hu] at hs
      · simp at hs
    | none =>
      simp only [ha] at hs
      have hsl := h.slot x
      cases hu : s.env x with
      | box cs =>
        simp only [hu] at hs
        cases hl : slab cs 0 n with
        | none => simp [hl] at hs
        | some l =>
          simp only [hl] at hs
          cases hv : asV g l with
          | none => simp [hv, S.putV] at hs
          | some v =>
            simp only [hv, S.putV, Option.some.injEq] at hs
            rw [hu] at hsl
            obtain ⟨k', e3, _, ⟨arr, tt, hb, h3⟩, _⟩ := hsl
            exact key k' 0 cs l v arr tt (0, 0) 0 e3 hl hv hb (fun i c hi => by obtain ⟨v, g1, g2⟩ := h3.get hi; exact ⟨v, by simpa using g1, g2⟩) hs.symm
      | _ => simp [hu] at hs

theorem go_st (h : Sim G ρ s a w) {t : TypeId} {x n bb : Nat} {hp : Bool} {y : AOp} {yo : Operand} (hn : szOf P t = some n) (hy : opdOf yo = some y) {s' : S} (hs : stepf (.st x y n bb hp) s = some s') :
    ∃ w', (Instr.storeAt t (a.eval (.tmp x)) (a.eval yo)).run P w = .ok () w' ∧ ASim G s' a w' := by
  simp only [stepf] at hs
  cases hv : s.val y with
  | none => simp [hv] at hs
  | some v =>
    simp only [hv] at hs
    by_cases hl' : ¬ v.cells.length = n
    · simp [hl'] at hs
    have hl : v.cells.length = n := Decidable.not_not.1 hl'
    simp only [hl, ne_eq, not_true, if_false] at hs
    have hrel := (h.val hv hy).cells
    have hlen := hrel.len
    have run : ∀ (k off : Nat) (w' : World), a.eval (.tmp x) = .pointer (some ⟨k, off, none⟩) → (storeCells ⟨k, off, none⟩ (a.eval yo).cells.toList 0).run P w = .ok () w' →
        (Instr.storeAt t (a.eval (.tmp x)) (a.eval yo)).run P w = .ok () w' := by
      intro k off w' he hr
      rw [he]
      simp only [Instr.storeAt, Instr.sureAddr, Sem.run_bind, Sem.run_pure, Result.andThen_ok, storeVar, run_szOf hn, Sem.run_ite]
      rw [if_neg (by simp at hlen ⊢; omega)]
      exact hr
    cases hp with
    | true =>
      simp only [if_true] at hs
      have hsl := h.slot x
      cases hu : s.env x with
      | val v0 =>
        rw [hu] at hsl
        cases v0 with
        | agg _ => simp [hu] at hs
        | c c0 =>
          cases c0 with
          | ptr b o =>
            simp only [hu] at hs
            split at hs
            · cases ho : s.H.own b with
              | none => simp [ho] at hs
              | some p =>
                obtain ⟨m, cs⟩ := p
                simp only [ho] at hs
                split at hs
                · rename_i hle
                  simp only [Option.some.injEq] at hs
                  obtain ⟨w', hr, hsim⟩ := h.wr (P := P) ho (off := o) (by omega) hrel
                  exact ⟨w', run _ _ w' hsl.2 hr, ρ, by rw [← hs]; exact hsim⟩
                · simp at hs
            · simp at hs
          | _ => simp [hu] at hs
      | _ => simp [hu] at hs
    | false =>
      simp only [Bool.false_eq_true, if_false] at hs
      cases ha : s.adr x with
      | some p =>
        obtain ⟨u, o⟩ := p
        simp only [ha] at hs
        split at hs
        · rename_i hub; subst hub
          obtain ⟨_, k, e1, e2⟩ := h.adr x u o ha
          cases hu : s.env u with
          | box cs =>
            simp only [hu] at hs
            split at hs
            · rename_i hle
              simp only [Option.some.injEq] at hs
              obtain ⟨w', hr, hsim⟩ := h.wrBox (P := P) hu (e2 cs hu) (off := o) (by omega) hrel
              exact ⟨w', run k o w' e1 hr, ρ, by rw [← hs]; exact hsim⟩
            · simp at hs
          | _ => simp [hu] at hs
        · simp at hs
      | none =>
        simp only [ha] at hs
        have hsl := h.slot x
        cases hu : s.env x with
        | box cs =>
          simp only [hu] at hs
          split at hs
          · rename_i hle
            obtain ⟨rfl, hle⟩ := hle
            simp only [Option.some.injEq] at hs
            rw [hu] at hsl
            obtain ⟨k, e3, _⟩ := hsl
            obtain ⟨w', hr, hsim⟩ := h.wrBox (P := P) hu e3 (off := 0) (by omega) hrel
            exact ⟨w', run k 0 w' e3 hr, ρ, by rw [← hs]; exact hsim⟩
          · simp at hs
        | _ => simp [hu] at hs

end Go.AX
