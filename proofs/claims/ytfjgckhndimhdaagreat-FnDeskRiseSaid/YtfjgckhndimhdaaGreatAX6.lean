/- The abstract machine AX: each operation of the model does what the abstract step says. No condition. -/
import Derived.Test.YtfjgckhndimhdaaGreatAX5
import Derived.Laws.StructEq
namespace Go.AX

variable {G : Ctx} {ρ : Rho} {s : S} {a : Act} {w : World} {P : Program}

theorem foldl_set (off : Nat) : ∀ (l : List Value) (k : Nat) (cells : Array Value), off + k + l.length ≤ cells.size →
    ((l.zipIdx k).foldl (fun (cs : Array Value) (p : Value × Nat) => cs.setIfInBounds (off + p.2) p.1) cells).toList =
      cells.toList.take (off + k) ++ l ++ cells.toList.drop (off + k + l.length) := by
  intro l
  induction l with
  | nil => intro k cells _; simp
  | cons v l ih =>
    intro k cells hle
    simp only [List.length_cons] at hle
    simp only [List.zipIdx_cons, List.foldl_cons]
    rw [ih (k + 1) (cells.setIfInBounds (off + k) v) (by simp; omega)]
    have hlt : off + k < cells.toList.length := by simp; omega
    simp only [Array.toList_setIfInBounds, List.length_cons]
    rw [show off + (k + 1) = (off + k) + 1 from by omega, List.take_succ_eq_append_getElem (by simpa using hlt), List.getElem_set_self,
      List.take_set_of_le (Nat.le_refl _), List.drop_set_of_lt (by omega), show off + k + 1 + l.length = off + k + (l.length + 1) from by omega]
    simp

theorem fill_rel (h : Sim G ρ s a w) {places : Nat → Option (Nat × Nat)} : ∀ {ps : List (Nat × Operand)} {qs : List (Nat × Nat × AOp)} {cs cs' : List C} {arr : Array Value}, partsOf P places ps = some qs →
    fill cs (qs.map fun p => (p.1, p.2.1, s.val p.2.2)) = some cs' → All2 (CRel s.H.length ρ) cs arr.toList →
    ∃ arr', Instr.fill places arr (ps.map fun p => (p.1, a.eval p.2)) = some arr' ∧ All2 (CRel s.H.length ρ) cs' arr'.toList := by
  intro ps
  induction ps with
  | nil => intro qs cs cs' arr hp hf hr; simp [partsOf] at hp; subst hp; simp [fill] at hf; subst hf; exact ⟨arr, rfl, hr⟩
  | cons p ps ih =>
    intro qs cs cs' arr hp hf hr
    obtain ⟨i, x⟩ := p
    simp only [partsOf] at hp
    split at hp
    · rename_i o n y ys h1 h2 h3
      simp only [Option.some.injEq] at hp; subst hp
      simp only [List.map_cons] at hf
      cases hv : s.val y with
      | none => rw [hv] at hf; simp [fill] at hf
      | some v =>
        rw [hv] at hf
        simp only [fill] at hf
        split at hf
        · rename_i hc
          have hrel := (h.val hv h2).cells
          have hl1 := hrel.len
          have hl2 := hr.len
          simp only [Array.length_toList] at hl1 hl2
          have hset := foldl_set o (a.eval x).cells.toList 0 arr (by simp; omega)
          simp only [Nat.add_zero, Array.length_toList] at hset
          obtain ⟨arr', g1, g2⟩ := ih h3 hf (arr := (a.eval x).cells.zipIdx.foldl (fun cs p => cs.setIfInBounds (o + p.2) p.1) arr) (by
            rw [← Array.foldl_toList, Array.toList_zipIdx, hset]
            simp only [splice]
            rw [← hl1]
            exact ((hr.take o).append hrel).append (hr.drop _))
          refine ⟨arr', ?_, g2⟩
          simp only [List.map_cons, Instr.fill, h1]
          rw [if_neg (by simp; omega)]
          exact g1
        · simp at hf
    · simp at hp

/-! One lemma an operation. -/
abbrev Goes (P : Program) (G : Ctx) (q : Sem Value) (w : World) (s' : S) (a : Act) (d : Nat) : Prop := ∃ v w', q.run P w = .ok v w' ∧ ASim G s' (a.put (some d) v) w'

theorem Sim.go (h : Sim G ρ s a w) {d : Nat} (hd : d < G.nt) {v : V} {x : Value} (hv : VRel s.H.length ρ v x) : ASim G (s.put d (.val v)) (a.put (some d) x) w := ⟨ρ, h.put hd hv rfl⟩

theorem go_alloc (h : Sim G ρ s a w) {d : Nat} (hd : d < G.nt) {e : TypeId} {cs : List C} (hz : zeroOf P e = some cs) (hu : s.used d = false) :
    Goes P G (Instr.alloc e true (.tuple #[])) w (s.put d (.box cs)) a d := by
  obtain ⟨zv, hzv, hr⟩ := zeroOf_run hz w
  refine ⟨.pointer (some ⟨w.heap.size, 0, none⟩), w.alloc (.cells zv.cells e), ?_, ρ, h.priv hd hu (k := w.heap.size) rfl (Nat.le_refl _) (Ext.alloc _ _) ?_⟩
  · simp [Instr.alloc, hzv, newVar, newRow]
  · exact ⟨w.heap.size, rfl, h.keep.size, ⟨zv.cells, e, by show (w.heap.push _)[_]? = _; simp, hr _ _⟩, fun b B hb hs => by have := h.heap.lt hb hs; omega⟩
theorem go_box (h : Sim G ρ s a w) {d : Nat} (hd : d < G.nt) {e : TypeId} {v : V} {x : Value} (hv : VRel s.H.length ρ v x) (hu : s.used d = false) :
    Goes P G (Instr.box e x) w (s.put d (.box v.cells)) a d := by
  refine ⟨.pointer (some ⟨w.heap.size, 0, none⟩), w.alloc (.cells x.cells e), ?_, ρ, h.priv hd hu (k := w.heap.size) rfl (Nat.le_refl _) (Ext.alloc _ _) ?_⟩
  · simp [Instr.box, newVar, newRow]
  · exact ⟨w.heap.size, rfl, h.keep.size, ⟨x.cells, e, by show (w.heap.push _)[_]? = _; simp, hv.cells⟩, fun b B hb hs => by have := h.heap.lt hb hs; omega⟩
theorem go_new (h : Sim G ρ s a w) {d : Nat} (hd : d < G.nt) {e : TypeId} {n : Nat} {cs : List C} {arr : Array Value} (hc : All2 (CRel s.H.length ρ) cs arr.toList) {r : C} {v : Value}
    (hr : CRel (s.H.length + 1) (upd ρ s.H.length ⟨w.heap.size, 0, arr.size, n⟩) r v) :
    ASim G { s.put d (.val (.c r)) with H := s.H ++ [⟨.rw, n, cs⟩] } (a.put (some d) v) (w.alloc (.cells arr e)) := by
  have h2 := h.new (n := n) (cs := cs) (arr := arr) (t := e) (Ext.alloc w (.cells arr e)) (by show (w.heap.push _)[_]? = _; simp) (fun i c hi => by obtain ⟨v, e1, e2⟩ := hc.get hi; exact ⟨v, by simpa using e1, e2⟩) (by have := hc.len; simp at this; omega)
  exact ⟨_, h2.put (d := d) hd (v := .val (.c r)) (by simpa [SlotRel, VRel] using hr) rfl⟩
theorem go_halloc (h : Sim G ρ s a w) {d : Nat} (hd : d < G.nt) {e : TypeId} {cs : List C} (hz : zeroOf P e = some cs) :
    Goes P G (Instr.alloc e true (.tuple #[])) w { s.put d (.val (.c (.ptr s.H.length 0))) with H := s.H ++ [⟨.rw, cs.length, cs⟩] } a d := by
  obtain ⟨zv, hzv, hr⟩ := zeroOf_run hz w
  refine ⟨.pointer (some ⟨w.heap.size, 0, none⟩), w.alloc (.cells zv.cells e), ?_, go_new h hd (hr _ _) ?_⟩
  · simp [Instr.alloc, hzv, newVar, newRow]
  · exact ⟨by omega, by rw [upd_same]⟩
theorem go_hbox (h : Sim G ρ s a w) {d : Nat} (hd : d < G.nt) {e : TypeId} {n : Nat} {v : V} {x : Value} (hv : VRel s.H.length ρ v x) :
    Goes P G (Instr.box e x) w { s.put d (.val (.c (.ptr s.H.length 0))) with H := s.H ++ [⟨.rw, n, v.cells⟩] } a d := by
  refine ⟨.pointer (some ⟨w.heap.size, 0, none⟩), w.alloc (.cells x.cells e), ?_, go_new h hd hv.cells ?_⟩
  · simp [Instr.box, newVar, newRow]
  · exact ⟨by omega, by rw [upd_same]⟩
theorem go_bld (h : Sim G ρ s a w) {d : Nat} (hd : d < G.nt) {t : TypeId} {fs : Array Field} {z cs : List C} {ps : List (Nat × Operand)} {qs : List (Nat × Nat × AOp)} (ht : P.underlying t = some (.struct fs)) (hz : zeroOf P t = some z)
    (hp : partsOf P (fun i => (fs[i]?).bind fun f => (szOf P f.type).map fun n => (f.offset, n)) ps = some qs) (hf : fill z (qs.map fun p => (p.1, p.2.1, s.val p.2.2)) = some cs)
    (hsz : ∀ f ∈ fs.toList, (szOf P f.type).isSome = true) :
    Goes P G (Instr.build t (ps.toArray.map fun p => (p.1, a.eval p.2))) w (s.put d (.val (.agg cs))) a d := by
  obtain ⟨zv, hzv, hr⟩ := zeroOf_run hz w
  obtain ⟨arr, g1, g2⟩ := fill_rel h hp hf (hr _ _)
  have hm : ∀ (l : List Field), (∀ f ∈ l, (szOf P f.type).isSome) → (l.mapM (m := Sem) fun (f : Field) => do pure (f.offset, ← sizeOf f.type)).run P w = .ok (l.map fun f => (f.offset, (szOf P f.type).getD 0)) w := by
    intro l
    induction l with
    | nil => intro _; simp
    | cons f l ih =>
      intro hl
      have hf := hl f (by simp)
      obtain ⟨n, hn⟩ := Option.isSome_iff_exists.1 hf
      simp only [List.mapM_cons, Sem.run_bind, run_szOf hn, Result.andThen_ok, Sem.run_pure, ih fun g hg => hl g (by simp [hg])]
      simp [hn]
  refine ⟨.agg arr, w, ?_, h.go hd ⟨arr, rfl, g2⟩⟩
  have hm' : (fs.mapM (m := Sem) fun (f : Field) => do pure (f.offset, ← sizeOf f.type)).run P w = .ok (fs.map fun f => (f.offset, (szOf P f.type).getD 0)) w := by
    rw [Array.mapM_eq_mapM_toList]
    simp only [Sem.run_map, hm fs.toList hsz, Result.andThen_ok]
    congr 1
    apply Array.ext'
    simp
  have hpl : (fun (i : Nat) => (fs.map fun f => (f.offset, (szOf P f.type).getD 0))[i]?) = fun (i : Nat) => (fs[i]?).bind fun f => (szOf P f.type).map fun n => (f.offset, n) := by
    funext i
    simp only [Array.getElem?_map]
    cases hi : fs[i]? with
    | none => rfl
    | some f =>
      obtain ⟨n, hn⟩ := Option.isSome_iff_exists.1 (hsz f (by simpa using Array.mem_of_getElem? hi))
      simp [hn]
  simp only [Instr.build, Sem.run_bind, hzv, Result.andThen_ok, run_under ht, hm']
  simp only [hpl]
  have hl : (ps.toArray.map fun p => (p.1, a.eval p.2)).toList = ps.map fun p => (p.1, a.eval p.2) := by simp
  rw [hl, g1]
  rfl

theorem go_blda (h : Sim G ρ s a w) {d : Nat} (hd : d < G.nt) {t e : TypeId} {len n : Nat} {z cs : List C} {ps : List (Nat × Operand)} {qs : List (Nat × Nat × AOp)} (ht : P.underlying t = some (.array len e)) (hn : szOf P e = some n) (hz : zeroOf P t = some z)
    (hp : partsOf P (fun i => some (i * n, n)) ps = some qs) (hf : fill z (qs.map fun p => (p.1, p.2.1, s.val p.2.2)) = some cs) :
    Goes P G (Instr.build t (ps.toArray.map fun p => (p.1, a.eval p.2))) w (s.put d (.val (.agg cs))) a d := by
  obtain ⟨zv, hzv, hr⟩ := zeroOf_run hz w
  obtain ⟨arr, g1, g2⟩ := fill_rel h hp hf (hr _ _)
  refine ⟨.agg arr, w, ?_, h.go hd ⟨arr, rfl, g2⟩⟩
  have hl : (ps.toArray.map fun p => (p.1, a.eval p.2)).toList = ps.map fun p => (p.1, a.eval p.2) := by simp
  simp only [Instr.build, Sem.run_bind, hzv, Result.andThen_ok, run_under ht, run_szOf hn]
  rw [hl, g1]
  rfl

end Go.AX
