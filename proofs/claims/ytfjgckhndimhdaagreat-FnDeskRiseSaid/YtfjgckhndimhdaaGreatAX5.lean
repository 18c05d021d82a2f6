/- The abstract machine AX: append over the model. No condition. -/
import Derived.Test.YtfjgckhndimhdaaGreatAX4
namespace Go.AX

variable {G : Ctx} {ρ : Rho} {s : S} {a : Act} {w : World} {P : Program}

/-- A new block in memory is a new abstract block. -/
theorem Sim.new (h : Sim G ρ s a w) {w' : World} (e : Ext w w') {arr : Array Value} {t : TypeId} {n : Nat} {cs : List C} (hb : w'.heap[w.heap.size]? = some (.cells arr t (0, 0)))
    (hc : ∀ (i : Nat) (c : C), cs[i]? = some c → ∃ v : Value, arr[i]? = some v ∧ CRel s.H.length ρ c v) (hl : cs.length ≤ arr.size) :
    Sim G (upd ρ s.H.length ⟨w.heap.size, 0, arr.size, n⟩) { s with H := s.H ++ [⟨.rw, n, cs⟩] } a w' := by
  refine (h.ext e).push ⟨w.heap.size, 0, arr.size, n⟩ hb (fun i c hi => by simpa using hc i c hi) (by simp) hl rfl (.inr h.keep.size) (fun b B hB hs => ?_) (fun t ht hc => ?_)
  · have := h.heap.lt hB hs; simp only; omega
  · obtain ⟨cs', k, e1, hp⟩ := (h.slot t).priv ht
    rw [hc] at e1; injection e1 with e1
    have := hp.lt; simp only at e1; omega

/-- What an append takes its new elements from: a slice whose cells can be read in whatever world has this memory. -/
structure Src (P : Program) (N : Nat) (ρ : Rho) (w : World) (n : Nat) (x : Value) (ys : List C) : Prop where
  out : ∃ base len cap, x = .slice base len cap ∧ len * n = ys.length ∧ ∃ arr : Array Value, (∀ w' : World, w'.heap = w.heap → (Builtin.firstCells n len x).run P w' = .ok arr w') ∧ All2 (CRel N ρ) ys arr.toList

theorem read_cells {w : World} {k off N : Nat} {arr : Array Value} {tt : TypeId} {fr : Nat × Nat} {l : List C} (hb : w.heap[k]? = some (.cells arr tt fr))
    (hc : ∀ (i : Nat) (c : C), l[i]? = some c → ∃ u : Value, arr[off + i]? = some u ∧ CRel N ρ c u) :
    ∃ r : Array Value, (loadCells ⟨k, off, none⟩ l.length).run P w = .ok r w ∧ All2 (CRel N ρ) l r.toList := by
  refine ⟨((List.range l.length).map fun j => (arr[off + j]?).getD undef).toArray, ?_, ?_⟩
  · rw [run_loadCells w _ _ (fun j => (arr[off + j]?).getD undef) fun j hj => ?_]
    obtain ⟨u, hu, _⟩ := hc j (l[j]'hj) (by simp)
    rw [addr_add]; simp [World.cell?, hb, hu]
  · refine All2.of (by simp) fun i c hi => ?_
    obtain ⟨u, hu, hr⟩ := hc i c hi
    have hlt : i < l.length := (List.getElem?_eq_some_iff.1 hi).1
    exact ⟨u, by simp [hlt, hu], hr⟩

theorem elems_src (h : HSim ρ s.H w) {n : Nat} {c : C} {x : Value} {ys : List C} (he : s.H.elems n c = some ys) (hx : CRel s.H.length ρ c x) : Src P s.H.length ρ w n x ys := by
  cases c with
  | nil => simp [Heap.elems] at he; subst he; exact ⟨none, 0, 0, hx, by simp, #[], fun w' _ => by rw [hx]; simp [Builtin.firstCells], .nil⟩
  | emp c =>
    simp [Heap.elems] at he; subst he
    obtain ⟨b, cap, rfl, _⟩ := hx
    exact ⟨some b, 0, cap, rfl, by simp, #[], fun w' _ => by simp [Builtin.firstCells, loadCells, loadCellsFrom], .nil⟩
  | sl b off len =>
    simp only [Heap.elems] at he
    cases hl : s.H.live b with
    | none => simp [hl] at he
    | some cs =>
      simp only [hl] at he
      obtain ⟨B, hB, hs, rfl⟩ := live_spec hl
      obtain ⟨arr, t, fr, g1, g2, _⟩ := h.blk b B hB hs
      obtain ⟨_, cap, rfl, _, _⟩ := hx
      obtain ⟨_, _, h3⟩ := slab_spec he
      obtain ⟨r, hr, ha⟩ := read_cells (P := P) (N := s.H.length) (ρ := ρ) (off := (ρ b).off + off) (l := ys) g1 fun i c hi => by
        obtain ⟨v, e1, e2⟩ := g2 _ c (slab_get he hi); exact ⟨v, by rw [Nat.add_assoc]; exact e1, e2⟩
      refine ⟨_, len, cap, rfl, h3.symm, r, fun w' hw => ?_, ha⟩
      have hr' : (loadCells ⟨(ρ b).blk, (ρ b).off + off, none⟩ ys.length).run P w' = .ok r w' := by
        obtain ⟨r', hr', ha'⟩ := read_cells (P := P) (N := s.H.length) (ρ := ρ) (w := w') (off := (ρ b).off + off) (l := ys) (by rw [hw]; exact g1) fun i c hi => by
          obtain ⟨v, e1, e2⟩ := g2 _ c (slab_get he hi); exact ⟨v, by rw [Nat.add_assoc]; exact e1, e2⟩
        have hcell : ∀ p, w'.cell? p = w.cell? p := fun p => by simp [World.cell?, hw]
        have e1 := run_loadCells (P := P) w ⟨(ρ b).blk, (ρ b).off + off, none⟩ ys.length (fun j => (arr[(ρ b).off + off + j]?).getD undef) fun j hj => by
          obtain ⟨v, e1, e2⟩ := g2 _ _ (slab_get he (i := j) (c := ys[j]'hj) (by simp))
          rw [addr_add]; simp [World.cell?, g1, Nat.add_assoc, e1]
        have e2 := run_loadCells (P := P) w' ⟨(ρ b).blk, (ρ b).off + off, none⟩ ys.length (fun j => (arr[(ρ b).off + off + j]?).getD undef) fun j hj => by
          obtain ⟨v, e1, e2⟩ := g2 _ _ (slab_get he (i := j) (c := ys[j]'hj) (by simp))
          rw [hcell, addr_add]; simp [World.cell?, g1, Nat.add_assoc, e1]
        rw [hr] at e1; injection e1 with e1; rw [e2, e1]
      rw [h3] at hr'
      simp only [Builtin.firstCells]; exact hr'
  | _ => simp [Heap.elems] at he

theorem lit_src (h : Sim G ρ s a w) {t n : Nat} {cs : List C} (ht : s.env t = .lit n cs) : Src P s.H.length ρ w n (ty a t) cs := by
  have hs := h.slot t
  rw [ht] at hs
  obtain ⟨k, len, e, hl, _, _, ⟨arr, tt, hb, h3⟩, _⟩ := hs
  have hcell : ∀ (w' : World), w'.heap = w.heap → (loadCells ⟨k, 0, none⟩ cs.length).run P w' = .ok ((List.range cs.length).map fun j => (arr[j]?).getD undef).toArray w' := fun w' hw =>
    run_loadCells w' _ _ (fun j => (arr[j]?).getD undef) fun j hj => by
      obtain ⟨v, e1, _⟩ := h3.get (i := j) (a := cs[j]'hj) (by simp)
      rw [addr_add]; simp at e1; simp [World.cell?, hw, hb, e1]
  refine ⟨_, len, len, e, hl, ((List.range cs.length).map fun j => (arr[j]?).getD undef).toArray, fun w' hw => ?_, ?_⟩
  · rw [e]; simp only [Builtin.firstCells]; rw [hl]; exact hcell w' hw
  · refine All2.of (by simp) fun i c hi => ?_
    obtain ⟨u, hu, hr⟩ := h3.get hi
    have hlt : i < cs.length := (List.getElem?_eq_some_iff.1 hi).1
    simp at hu
    exact ⟨u, by simp [hlt, hu], hr⟩

theorem growBy_le (newLen : Nat) : ∀ (r c : Nat), Builtin.growBy newLen r c ≤ 2 ^ r * (max newLen c + 768) := by
  intro r
  induction r with
  | zero => intro c; simp [Builtin.growBy]; omega
  | succ r ih =>
    intro c
    simp only [Builtin.growBy]
    split
    · have : 1 ≤ 2 ^ (r + 1) := Nat.one_le_two_pow
      calc c ≤ 1 * (max newLen c + 768) := by omega
        _ ≤ _ := Nat.mul_le_mul_right _ this
    · refine Nat.le_trans (ih _) ?_
      rw [Nat.pow_succ, Nat.mul_assoc]
      refine Nat.mul_le_mul_left _ ?_
      omega
theorem nextcap_le {need cap : Nat} (h : cap < need) (hn : need ≤ lenMax) : Builtin.nextslicecap need cap ≤ 2 ^ 37 := by
  unfold lenMax at hn
  unfold Builtin.nextslicecap
  split
  · omega
  · split
    · omega
    · have h1 := growBy_le need 4 cap
      have h2 : max need cap ≤ 4294967296 := Nat.max_le.2 ⟨hn, by omega⟩
      exact Nat.le_trans h1 (Nat.le_trans (Nat.mul_le_mul_left _ (Nat.add_le_add_right h2 768)) (by decide))

theorem getElem?_rep (zero : Array Value) (n : Nat) : (Builtin.zeroCells zero n).size = n * zero.size := by simp [Builtin.zeroCells]

/-- What append comes to, by whether there is room. -/
theorem run_append {t u e e' : TypeId} {ty' : TypeId} {n : Nat} {i : TypeInfo} {z : List C} (ht : P.underlying t = some (.slice e)) (hu : P.underlying u = some (.slice e')) (hn : szOf P e = some n) (hn0 : n ≠ 0)
    (hi : P.info? e = some i) (hby : i.bytes ≤ 1024) (hz : zeroOf P e = some z) (hzl : z.length = n) {base : Option Addr} {len cap : Nat} {x : Value} {old ys : List C} {N : Nat}
    (hs : Src P N ρ w n x ys) (ho : Src P N ρ w n (.slice base len cap) old) :
    (len + ys.length / n ≤ cap → ∃ new : Array Value, All2 (CRel N ρ) ys new.toList ∧
      ((Builtin.append_ #[t, u] ty' #[.slice base len cap, x]).run P w =
        ((match base with | some a => storeCells (a.add (len * n)) new.toList | none => pure ()).run P w).andThen fun _ w' => .ok (.slice base (len + ys.length / n) cap) w')) ∧
    (len + ys.length / n ≤ lenMax → cap < len + ys.length / n → ∃ (arr : Array Value) (c : Nat) (w' : World), Ext w w' ∧ w'.heap[w.heap.size]? = some (.cells arr e (0, 0)) ∧
      (∀ (i : Nat) (c : C), (old ++ ys)[i]? = some c → ∃ v : Value, arr[i]? = some v ∧ CRel N ρ c v) ∧ arr.size = c * n ∧ len + ys.length / n ≤ c ∧
      (Builtin.append_ #[t, u] ty' #[.slice base len cap, x]).run P w = .ok (.slice (some ⟨w.heap.size, 0, none⟩) (len + ys.length / n) c) w') := by
  obtain ⟨xb, m, xc, rfl, hml, new, hnew, hnr⟩ := hs.out
  obtain ⟨ob, ol, oc, eo, hol, oarr, hold, holr⟩ := ho.out
  injection eo with e1 e2 e3; subst e1 e2 e3
  have hmd : ys.length / n = m := by rw [← hml]; exact Nat.mul_div_cancel _ (by omega)
  rw [hmd]
  have hlenOf : (Builtin.lenOf (.slice xb m xc)).run P w = .ok m w := rfl
  constructor
  · intro hle
    refine ⟨new, hnr, ?_⟩
    simp only [Builtin.append_]
    simp [Sem.run_bind, run_under ht, run_under hu, run_szOf hn, hlenOf, hle, hnew w rfl]
    cases base <;> simp
  · intro hm hgt
    have hnle : ¬ (len + m ≤ cap) := by omega
    have hnc := nextcap_le hgt hm
    have hb2 : ¬ (Builtin.nextslicecap (len + m) cap * i.bytes > 2 ^ 48) := by
      have : Builtin.nextslicecap (len + m) cap * i.bytes ≤ 2 ^ 37 * 1024 := Nat.mul_le_mul hnc hby
      omega
    let q : Nat := (Question.appendCap (len + m) cap e).cut (w.tape w.drawn (.appendCap (len + m) cap e))
    have hq : len + m ≤ q := by simp only [q, Question.cut]; omega
    obtain ⟨zv', hzv', hzr'⟩ := zeroOf_run hz w.drew
    have hzs : zv'.cells.size = n := by have := (hzr' 0 (fun _ => ⟨0, 0, 0, 0⟩)).len; simp at this; omega
    have hl1 := hnr.len
    have hl2 := holr.len
    simp only [Array.length_toList] at hl1 hl2
    refine ⟨oarr ++ new ++ Builtin.zeroCells zv'.cells (q - (len + m)), q, w.drew.alloc (.cells (oarr ++ new ++ Builtin.zeroCells zv'.cells (q - (len + m))) e), (Ext.drew w).trans (Ext.alloc _ _), ?_, ?_, ?_, hq, ?_⟩
    · show (w.heap.push _)[w.heap.size]? = _; simp
    · intro j c hj
      have hall := holr.append hnr
      obtain ⟨v, hv, hr⟩ := hall.get hj
      refine ⟨v, ?_, hr⟩
      have hlt : j < (oarr.toList ++ new.toList).length := (List.getElem?_eq_some_iff.1 hv).1
      rw [Array.getElem?_append_left (by simpa using hlt)]
      rw [← Array.getElem?_toList, Array.toList_append]; exact hv
    · simp only [Array.size_append, getElem?_rep, hzs]
      rw [← hl1, ← hl2, ← hol, ← hml, ← Nat.add_mul, ← Nat.add_mul]; congr 1; omega
    · simp only [Builtin.append_]
      simp [Sem.run_bind, run_under ht, run_under hu, run_szOf hn, hlenOf, hnle, typeInfo, hi]
      have hb1' : ¬ ((9223372036854775807 : Int) < (len : Int) + (m : Int) ∧ i.bytes = 0) := fun hc => by
        have h1 := hc.1; unfold lenMax at hm; omega
      have hb2' : ¬ (281474976710656 < Builtin.nextslicecap (len + m) cap * i.bytes) := fun hc => hb2 (Nat.lt_of_le_of_lt (by decide) hc)
      rw [if_neg hb1', if_neg hb2', if_neg (by simp [Question.forced]), hold w.drew rfl]
      simp only [Result.andThen_ok]
      rw [hnew w.drew rfl]
      simp only [Result.andThen_ok]
      rw [hzv']
      simp only [Result.andThen_ok, newRow, Sem.run_bind, run_newObj, Sem.run_pure]
      simp [q]
      rfl

/-- append, as a step. -/
theorem Sim.append (h : Sim G ρ s a w) {d n : Nat} (hd : d < G.nt) {t u e e' : TypeId} {ty' : TypeId} {i : TypeInfo} {z : List C} (ht : P.underlying t = some (.slice e)) (hu : P.underlying u = some (.slice e'))
    (hn : szOf P e = some n) (hi : P.info? e = some i) (hby : i.bytes ≤ 1024) (hz : zeroOf P e = some z) (hzl : z.length = n) (hn0 : n ≠ 0) {c r : C} {H' : Heap} {ys : List C} {x y : Value}
    (hx : CRel s.H.length ρ c x) (hs : Src P s.H.length ρ w n y ys) (hap : appC s.H n c ys = some (r, H')) :
    ∃ v w', (Builtin.append_ #[t, u] ty' #[x, y]).run P w = .ok v w' ∧ ASim G { s.put d (.val (.c r)) with H := H' } (a.put (some d) v) w' := by
  have key : ∀ (base : Option Addr) (len cap : Nat) (old : List C), x = .slice base len cap → Src P s.H.length ρ w n x old → len + ys.length / n ≤ lenMax → old.length = len * n → cap < len + ys.length / n → ys.length % n = 0 →
      ∀ H1 : Heap, (H1 = s.H ∨ ∃ b, H1 = s.H.kill b) → ∃ v w', (Builtin.append_ #[t, u] ty' #[x, y]).run P w = .ok v w' ∧
        ASim G { s.put d (.val (.c (.sl s.H.length 0 (len + ys.length / n)))) with H := H1 ++ [⟨.rw, n, old ++ ys⟩] } (a.put (some d) v) w' := by
    intro base len cap old hxe hso hm hol hgt hmod H1 hH1
    subst hxe
    obtain ⟨arr, c', w', he, hb, hc, hsz, hle, hr⟩ := (run_append (ty' := ty') ht hu hn hn0 hi hby hz hzl hs hso).2 hm hgt
    have hlen1 : H1.length = s.H.length := by
      rcases hH1 with rfl | ⟨b, rfl⟩
      · rfl
      · exact kill_len _ _
    have h1 : Sim G ρ { s with H := H1 } a w := by
      rcases hH1 with rfl | ⟨b, rfl⟩
      · exact h
      · exact h.kill b
    have h2 := h1.new (n := n) (cs := old ++ ys) he hb (by simpa [hlen1] using hc) (by
      have h5 : ys.length = ys.length / n * n := by have := Nat.div_add_mod ys.length n; rw [hmod, Nat.add_zero, Nat.mul_comm] at this; exact this.symm
      rw [hsz, List.length_append, hol]
      calc len * n + ys.length = (len + ys.length / n) * n := by rw [Nat.add_mul, ← h5]
        _ ≤ c' * n := Nat.mul_le_mul_right _ hle)
    refine ⟨_, w', hr, upd ρ s.H.length ⟨w.heap.size, 0, arr.size, n⟩, ?_⟩
    simp only [hlen1] at h2
    have h3 := h2.put (d := d) hd (v := .val (.c (.sl s.H.length 0 (len + ys.length / n)))) (x := .slice (some ⟨w.heap.size, 0, none⟩) (len + ys.length / n) c') (by
      refine ⟨by simp [hlen1], c', ?_, hle, ?_⟩
      · rw [upd_same]
      · rw [upd_same]; simp only [Nat.zero_add, hsz]; exact Nat.le_refl _) rfl
    exact h3
  unfold appC at hap
  split at hap
  · -- nil
    split at hap
    · rename_i hy
      simp only [Option.some.injEq, Prod.mk.injEq] at hap; obtain ⟨rfl, rfl⟩ := hap
      subst hy
      have hx' := hx; simp only [CRel] at hx'; subst hx'
      obtain ⟨new, hnr, hr⟩ := (run_append (ty' := ty') ht hu hn hn0 hi hby hz hzl hs (elems_src (P := P) (c := .nil) h.heap rfl hx)).1 (by simp)
      have hnil : new = #[] := by have := hnr.len; simp at this; exact Array.eq_empty_of_size_eq_zero (by omega)
      subst hnil
      refine ⟨.slice none 0 0, w, ?_, ρ, h.put hd (v := .val (.c .nil)) rfl rfl⟩
      rw [hr]; simp
    · split at hap
      · rename_i hy hc
        simp only [Option.some.injEq, Prod.mk.injEq] at hap; obtain ⟨rfl, rfl⟩ := hap
        have hx' := hx; simp only [CRel] at hx'
        have := key none 0 0 [] hx' (elems_src (c := .nil) h.heap rfl hx) (by simpa using hc.2.2) (by simp) (by
          have h5 := Nat.div_add_mod ys.length n
          have : ys.length ≠ 0 := fun e => hy (List.length_eq_zero_iff.1 e)
          rcases Nat.eq_zero_or_pos (ys.length / n) with h0 | h0
          · rw [h0, hc.2.1] at h5; simp at h5; omega
          · omega) hc.2.1 s.H (.inl rfl)
        simpa using this
      · simp at hap
  · -- an empty slice without room
    split at hap
    · rename_i hy
      simp only [Option.some.injEq, Prod.mk.injEq] at hap; obtain ⟨rfl, rfl⟩ := hap
      subst hy
      obtain ⟨b, cap, rfl, hcap⟩ := hx
      have := hcap rfl; subst this
      obtain ⟨new, hnr, hr⟩ := (run_append (ty' := ty') ht hu hn hn0 hi hby hz hzl hs (elems_src (P := P) (c := .emp true) h.heap rfl ⟨b, 0, rfl, fun _ => rfl⟩)).1 (by simp)
      have hnil : new = #[] := by have := hnr.len; simp at this; exact Array.eq_empty_of_size_eq_zero (by omega)
      subst hnil
      refine ⟨.slice (some b) 0 0, w, ?_, ρ, h.put hd (v := .val (.c (.emp true))) ⟨b, 0, rfl, fun _ => rfl⟩ rfl⟩
      rw [hr]; simp [storeCells]
    · split at hap
      · rename_i hy hc
        simp only [Option.some.injEq, Prod.mk.injEq] at hap; obtain ⟨rfl, rfl⟩ := hap
        obtain ⟨b, cap, rfl, hcap⟩ := hx
        have := hcap rfl; subst this
        have := key (some b) 0 0 [] rfl (elems_src (c := .emp true) h.heap rfl ⟨b, 0, rfl, fun _ => rfl⟩) (by simpa using hc.2.2) (by simp) (by
          have h5 := Nat.div_add_mod ys.length n
          have : ys.length ≠ 0 := fun e => hy (List.length_eq_zero_iff.1 e)
          rcases Nat.eq_zero_or_pos (ys.length / n) with h0 | h0
          · rw [h0, hc.2.1] at h5; simp at h5; omega
          · omega) hc.2.1 s.H (.inl rfl)
        simpa using this
      · simp at hap
  · -- a slice
    rename_i b off len
    split at hap
    · rename_i m cs hown
      split at hap
      · rename_i xs hsl
        obtain ⟨_, hxsl⟩ : True ∧ xs.length = len * n := ⟨trivial, (slab_spec hsl).2.2⟩
        have hB := own_spec hown
        have hel : s.H.elems n (.sl b off len) = some xs := by simp [Heap.elems, Heap.live, hB, hsl]
        have hso := elems_src (P := P) h.heap hel hx
        obtain ⟨hbl, cap, rfl, hlc, hcap⟩ := hx
        split at hap
        · rename_i hy
          simp only [Option.some.injEq, Prod.mk.injEq] at hap; obtain ⟨rfl, rfl⟩ := hap
          subst hy
          obtain ⟨new, hnr, hr⟩ := (run_append (ty' := ty') ht hu hn hn0 hi hby hz hzl hs hso).1 (by simpa using hlc)
          have hnil : new = #[] := by have := hnr.len; simp at this; exact Array.eq_empty_of_size_eq_zero (by omega)
          subst hnil
          refine ⟨_, w, ?_, ρ, h.put hd (v := .val (.c (.sl b off len))) ⟨hbl, cap, rfl, hlc, hcap⟩ rfl⟩
          rw [hr]; simp [storeCells]
        · split at hap
          · rename_i hy hc
            simp only [Option.some.injEq, Prod.mk.injEq] at hap; obtain ⟨rfl, rfl⟩ := hap
            obtain ⟨rfl, _, hmod, hmx⟩ := hc
            rcases Nat.lt_or_ge cap (len + ys.length / m) with hgt | hle
            · exact key _ len cap xs rfl hso hmx hxsl hgt hmod (s.H.kill b) (.inr ⟨b, rfl⟩)
            · obtain ⟨new, hnr, hr⟩ := (run_append (ty' := ty') ht hu hn hn0 hi hby hz hzl hs hso).1 hle
              obtain ⟨arr, tt, fr, g1, g2, g3⟩ := h.heap.blk b _ hB (by simp)
              obtain ⟨rfl, g4, g5, g6⟩ := g3 rfl
              simp only at g2 g5 g6
              have hyl : ys.length / m * m = ys.length := by have := Nat.div_add_mod ys.length m; rw [hmod, Nat.add_zero, Nat.mul_comm] at this; exact this
              have hnl : ys.length = new.size := by simpa using hnr.len
              have hroom : off + (len * m + ys.length) ≤ (ρ b).cap := by
                refine Nat.le_trans ?_ hcap
                rw [g6, ← hyl, ← Nat.add_mul]
                exact Nat.add_le_add_left (Nat.mul_le_mul_right _ hle) _
              obtain ⟨w', hst, hp⟩ := run_storeCells (P := P) new.toList w arr ((ρ b).off + off + len * m) 0 g1 (by simp; omega) (oneCells hnr)
              have hfresh : Own G.ρ0 G.H0 (ρ b).blk ∨ G.w0.heap.size ≤ (ρ b).blk := by
                rcases h.grew.fresh b _ hB (by simp) with g | ⟨_, g, _⟩
                · exact g
                · exact absurd g (by simp)
              have hlive : ∀ (j : Nat) (B : Blk), (s.H.kill b)[j]? = some B → B.st ≠ .dead → (ρ j).blk ≠ (ρ b).blk := fun j B hj hs' => by
                obtain ⟨hne, hj'⟩ := kill_get hj hs'
                exact (h.heap.apart b j _ B hB hj' rfl hs' (Ne.symm hne)).symm
              have hpriv : ∀ t', isPriv (s.env t') = true → blkOf (ty a t') ≠ some (ρ b).blk := fun t' ht' hc' => by
                obtain ⟨cs', k, e1, hp'⟩ := (h.slot t').priv ht'
                rw [hc'] at e1; injection e1 with e1
                exact hp'.2.2 b _ hB (by simp) e1
              have h1 := (h.kill b).poke hp.os hp.tape hp.output hp.size hp.other hlive hpriv hfresh
              have h2 := h1.push ⟨(ρ b).blk, (ρ b).off + off, cap * m, m⟩ (n := m) (cs := xs ++ ys) hp.here (by
                intro i c hi
                simp only [kill_len, Nat.add_zero] at hi ⊢
                have lt : (List.take ((ρ b).off + off + len * m) arr.toList).length = (ρ b).off + off + len * m := by simp; omega
                by_cases ci : i < xs.length
                · rw [List.getElem?_append_left ci] at hi
                  obtain ⟨v, e1, e2⟩ := g2 _ c (slab_get hsl hi)
                  refine ⟨v, ?_, e2⟩
                  rw [List.getElem?_toArray, List.append_assoc, List.getElem?_append_left (by rw [lt]; omega), List.getElem?_take_of_lt (by omega), Array.getElem?_toList]
                  rw [Nat.add_assoc]; exact e1
                · rw [List.getElem?_append_right (by omega)] at hi
                  obtain ⟨v, e1, e2⟩ := hnr.get hi
                  have hlt : i - xs.length < new.toList.length := (List.getElem?_eq_some_iff.1 e1).1
                  refine ⟨v, ?_, e2⟩
                  rw [List.getElem?_toArray, List.append_assoc, List.getElem?_append_right (by rw [lt]; omega), lt, List.getElem?_append_left (by omega),
                    show (ρ b).off + off + i - ((ρ b).off + off + len * m) = i - xs.length from by omega]
                  exact e1) (by
                simp only [Nat.add_zero, List.size_toArray, List.length_append, List.length_take, List.length_drop, Array.length_toList]
                rw [g6] at hcap
                omega) (by
                rw [List.length_append, hxsl, ← hyl, ← Nat.add_mul]; exact Nat.mul_le_mul_right _ hle) rfl hfresh hlive hpriv
              simp only [kill_len] at h2
              have h3 := h2.put (d := d) hd (v := .val (.c (.sl s.H.length 0 (len + ys.length / m)))) (x := .slice (some ⟨(ρ b).blk, (ρ b).off + off, none⟩) (len + ys.length / m) cap) (by
                refine ⟨by simp [kill_len], cap, ?_, hle, ?_⟩
                · rw [upd_same]; simp
                · rw [upd_same]; simp) rfl
              refine ⟨_, w', ?_, _, h3⟩
              rw [hr]
              simp only [addr_add, hst, Result.andThen_ok]
          · simp at hap
      · simp at hap
    · simp at hap
  · simp at hap

end Go.AX
