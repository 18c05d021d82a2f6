/- The abstract machine AX: loads, stores, literals and appends over the model. No condition. -/
import Derived.Test.YtfjgckhndimhdaaGreatAX3
import Derived.Laws.Cells
namespace Go.AX

variable {G : Ctx} {ρ : Rho} {s : S} {a : Act} {w : World} {P : Program}

/-! Types -/
theorem run_szOf {t : TypeId} {n : Nat} (h : szOf P t = some n) (w : World) : (sizeOf t).run P w = .ok n w := by
  unfold szOf at h
  cases hi : P.info? t with
  | none => simp [hi] at h
  | some i => simp [hi] at h; subst h; simp [sizeOf, typeInfo, hi]
theorem run_aggB {t : TypeId} {g : Bool} (h : aggB P t = some g) (w : World) : (isAgg t).run P w = .ok g w := by
  unfold aggB at h
  cases hi : P.underlying t with
  | none => simp [hi] at h
  | some i => simp only [hi] at h; cases i <;> simp at h <;> subst h <;> simp [isAgg, underlying, hi]
theorem run_under {t : TypeId} {d : TypeDesc} (h : P.underlying t = some d) (w : World) : (underlying t).run P w = .ok d w := by simp [underlying, h]
theorem elemB_under {t e : TypeId} (h : elemB P t = some e) : P.underlying t = some (.slice e) := by
  unfold elemB at h; split at h <;> simp at h; subst h; assumption
theorem toC_rel {n : Nat} {ρ : Rho} {v : Value} {c : C} (h : toC v = some c) : CRel n ρ c v := by
  cases v <;> simp [toC] at h
  · subst h; rfl
  · subst h; rfl
  · obtain ⟨rfl, rfl⟩ := h; rfl
  · obtain ⟨⟨rfl, rfl, rfl⟩, rfl⟩ := h; rfl
theorem toCs_rel {n : Nat} {ρ : Rho} {l : List Value} {cs : List C} (h : toCs l = some cs) : All2 (CRel n ρ) cs l := by
  induction l generalizing cs with
  | nil => simp [toCs] at h; subst h; exact .nil
  | cons v r ih =>
    simp only [toCs] at h
    split at h
    · rename_i c cs' h1 h2; simp at h; subst h; exact .cons (toC_rel h1) (ih h2)
    · simp at h
theorem zeroOf_run {t : TypeId} {cs : List C} (h : zeroOf P t = some cs) (w : World) : ∃ v, (zeroValue t).run P w = .ok v w ∧ ∀ n ρ, All2 (CRel n ρ) cs v.cells.toList := by
  unfold zeroOf at h
  cases hi : P.info? t with
  | none => simp [hi] at h
  | some i =>
    simp only [hi, Option.bind_some] at h
    cases hz : i.zero with
    | none => simp [hz] at h
    | some v => simp only [hz, Option.bind_some] at h; exact ⟨v, by simp [zeroValue, typeInfo, hi, hz], fun n ρ => toCs_rel h⟩

/-! Places -/
theorem slab_spec {cs l : List C} {off n : Nat} (h : slab cs off n = some l) : off + n ≤ cs.length ∧ l = (cs.drop off).take n ∧ l.length = n := by
  unfold slab at h
  split at h
  · rename_i hle; simp at h; subst h; exact ⟨hle, rfl, by simp; omega⟩
  · simp at h
theorem slab_get {cs l : List C} {off n i : Nat} {c : C} (h : slab cs off n = some l) (hi : l[i]? = some c) : cs[off + i]? = some c := by
  obtain ⟨h1, h2, h3⟩ := slab_spec h
  have hlt : i < n := by rw [← h3]; exact (List.getElem?_eq_some_iff.1 hi).1
  rw [h2, List.getElem?_take_of_lt hlt, List.getElem?_drop] at hi
  exact hi

/-- n cells from a place on are loaded. -/
theorem load_rel {t : TypeId} {g : Bool} {n k off N : Nat} {l : List C} {v : V} {arr : Array Value} {tt : TypeId} {fr : Nat × Nat} (ht : szOf P t = some n) (hg : aggB P t = some g) (h1 : g = false → n = 1)
    (hl : l.length = n) (hb : w.heap[k]? = some (.cells arr tt fr)) (hc : ∀ i c, l[i]? = some c → ∃ u, arr[off + i]? = some u ∧ CRel N ρ c u) (hv : asV g l = some v) :
    ∃ x, (loadVar t ⟨k, off, none⟩).run P w = .ok x w ∧ VRel N ρ v x := by
  cases g with
  | true =>
    simp [asV] at hv; subst hv
    have hcell : ∀ j, j < n → w.cell? ((⟨k, off, none⟩ : Addr).add j) = some ((arr[off + j]?).getD undef) := fun j hj => by
      obtain ⟨u, hu, _⟩ := hc j (l[j]'(by omega)) (by simp)
      rw [addr_add]; simp [World.cell?, hb, hu]
    refine ⟨.agg ((List.range n).map fun j => (arr[off + j]?).getD undef).toArray, ?_, _, rfl, ?_⟩
    · simp only [loadVar, Sem.run_bind, run_aggB hg, Result.andThen_ok, if_true, run_szOf ht]
      rw [run_loadCells w _ n (fun j => (arr[off + j]?).getD undef) hcell]; simp
    · refine All2.of (by simp [hl]) fun i c hi => ?_
      obtain ⟨u, hu, hr⟩ := hc i c hi
      have hlt : i < n := by rw [← hl]; exact (List.getElem?_eq_some_iff.1 hi).1
      exact ⟨u, by simp [hlt, hu], hr⟩
  | false =>
    have hn := h1 rfl; subst hn
    match l, hl with
    | [c], _ =>
      simp [asV] at hv; subst hv
      obtain ⟨u, hu, hr⟩ := hc 0 c (by simp)
      refine ⟨u, ?_, hr⟩
      simp only [loadVar, Sem.run_bind, run_aggB hg, Result.andThen_ok, Bool.false_eq_true, if_false, run_load]
      have : w.cell? ⟨k, off, none⟩ = some u := by simp [World.cell?, hb] at hu ⊢; exact hu
      rw [this]

theorem oneCells {n : Nat} {ρ : Rho} {cs : List C} {l : List Value} (h : All2 (CRel n ρ) cs l) : ∀ v ∈ l, v.oneCell' = true := by
  induction h with
  | nil => simp
  | cons r _ ih => intro v hv; simp at hv; rcases hv with rfl | hv
                   · exact r.one
                   · exact ih v hv

/-- The cells of a block behind a store. -/
theorem splice_rel {N : Nat} {cs xs : List C} {arr ys : List Value} {o off : Nat} (h : ∀ i c, cs[i]? = some c → ∃ v, arr[o + i]? = some v ∧ CRel N ρ c v) (hx : All2 (CRel N ρ) xs ys)
    (hl : off + xs.length ≤ cs.length) (ha : o + off + ys.length ≤ arr.length) :
    ∀ i c, (splice cs off xs)[i]? = some c → ∃ v, (arr.take (o + off) ++ ys ++ arr.drop (o + off + ys.length))[o + i]? = some v ∧ CRel N ρ c v := by
  have hlen := hx.len
  intro i c hi
  simp only [splice, List.append_assoc] at hi ⊢
  have l1 : (List.take off cs).length = off := by simp; omega
  have l2 : (List.take (o + off) arr).length = o + off := by simp; omega
  by_cases c1 : i < off
  · rw [List.getElem?_append_left (by rw [l1]; exact c1), List.getElem?_take_of_lt c1] at hi
    obtain ⟨v, hv, hr⟩ := h i c hi
    exact ⟨v, by rw [List.getElem?_append_left (by rw [l2]; omega), List.getElem?_take_of_lt (by omega)]; exact hv, hr⟩
  · rw [List.getElem?_append_right (by rw [l1]; omega), l1] at hi
    by_cases c2 : i - off < xs.length
    · rw [List.getElem?_append_left c2] at hi
      obtain ⟨v, hv, hr⟩ := hx.get hi
      refine ⟨v, ?_, hr⟩
      rw [List.getElem?_append_right (by rw [l2]; omega), l2, List.getElem?_append_left (by omega), show o + i - (o + off) = i - off from by omega]; exact hv
    · rw [List.getElem?_append_right (by omega), List.getElem?_drop] at hi
      obtain ⟨v, hv, hr⟩ := h _ c hi
      refine ⟨v, ?_, hr⟩
      rw [List.getElem?_append_right (by rw [l2]; omega), l2, List.getElem?_append_right (by omega), List.getElem?_drop]
      rw [show o + off + ys.length + (o + i - (o + off) - ys.length) = o + (off + xs.length + (i - off - xs.length)) from by omega]; exact hv

theorem own_spec {H : Heap} {b n : Nat} {cs : List C} (h : H.own b = some (n, cs)) : H[b]? = some ⟨.rw, n, cs⟩ := by
  unfold Heap.own at h; split at h <;> simp at h
  obtain ⟨rfl, rfl⟩ := h; assumption
theorem live_spec {H : Heap} {b : Nat} {cs : List C} (h : H.live b = some cs) : ∃ B, H[b]? = some B ∧ B.st ≠ .dead ∧ B.cells = cs := by
  unfold Heap.live at h; split at h <;> simp at h
  rename_i st n c hne hb
  subst h; exact ⟨_, hb, fun e => hne e, rfl⟩

theorem splice_len {cs xs : List C} {off : Nat} (h : off + xs.length ≤ cs.length) : (splice cs off xs).length = cs.length := by
  simp [splice]; omega

/-- A store into memory of ours. -/
theorem Sim.wr (h : Sim G ρ s a w) {b n : Nat} {cs xs : List C} {off : Nat} {ys : List Value} (hb : s.H.own b = some (n, cs)) (hl : off + xs.length ≤ cs.length) (hx : All2 (CRel s.H.length ρ) xs ys) :
    ∃ w', (storeCells ⟨(ρ b).blk, (ρ b).off + off, none⟩ ys 0).run P w = .ok () w' ∧ Sim G ρ { s with H := s.H.wr b (splice cs off xs) } a w' := by
  have hB := own_spec hb
  obtain ⟨arr, t, fr, g1, g2, g3⟩ := h.heap.blk b _ hB (by simp)
  obtain ⟨rfl, g4, g5, g6⟩ := g3 rfl
  simp only at g2 g5 g6
  obtain ⟨w', hr, hp⟩ := run_storeCells (P := P) ys w arr ((ρ b).off + off) 0 g1 (by rw [← hx.len]; omega) (oneCells hx)
  refine ⟨w', hr, ?_⟩
  have hwr : s.H.wr b (splice cs off xs) = s.H.set b ⟨.rw, n, splice cs off xs⟩ := by simp [Heap.wr, hB]
  have hlt : b < s.H.length := (List.getElem?_eq_some_iff.1 hB).1
  have old : ∀ (j : Nat) (B : Blk), (s.H.set b ⟨.rw, n, splice cs off xs⟩)[j]? = some B → (j = b ∧ B = ⟨.rw, n, splice cs off xs⟩) ∨ (j ≠ b ∧ s.H[j]? = some B) := fun j B hj => by
    by_cases c : j = b
    · subst c; rw [List.getElem?_set_self hlt] at hj; simp at hj; exact .inl ⟨rfl, hj.symm⟩
    · rw [List.getElem?_set_ne (Ne.symm c)] at hj; exact .inr ⟨c, hj⟩
  have live' : ∀ (j : Nat) (B : Blk), (s.H.set b ⟨.rw, n, splice cs off xs⟩)[j]? = some B → B.st ≠ .dead → ∃ B0 : Blk, s.H[j]? = some B0 ∧ B0.st = B.st := fun j B hj hs => by
    rcases old j B hj with ⟨rfl, rfl⟩ | ⟨_, hj'⟩
    · exact ⟨_, hB, rfl⟩
    · exact ⟨B, hj', rfl⟩
  rw [hwr]
  have hlen : (s.H.set b ⟨.rw, n, splice cs off xs⟩).length = s.H.length := by simp
  have hother : ∀ (j : Nat) (B : Blk), j ≠ b → s.H[j]? = some B → B.st ≠ .dead → (ρ j).blk ≠ (ρ b).blk := fun j B hj hB' hs => (h.heap.apart b j _ B hB hB' rfl hs (Ne.symm hj)).symm
  exact {
    heap := {
      blk := fun j B hj hs => by
        show ∃ arr t fr, w'.heap[(ρ j).blk]? = some (.cells arr t fr) ∧ (∀ i c, B.cells[i]? = some c → ∃ v, arr[(ρ j).off + i]? = some v ∧ CRel (s.H.set b ⟨.rw, n, splice cs off xs⟩).length ρ c v) ∧ _
        rw [hlen]
        rcases old j B hj with ⟨rfl, rfl⟩ | ⟨hne, hj'⟩
        · refine ⟨_, t, _, hp.here, ?_, fun _ => ⟨rfl, ?_, ?_, g6⟩⟩
          · intro i c hi
            have := splice_rel (N := s.H.length) (ρ := ρ) (arr := arr.toList) (o := (ρ j).off) (off := off) (cs := cs) (xs := xs) (ys := ys) (fun i c hi => by obtain ⟨v, e1, e2⟩ := g2 i c hi; exact ⟨v, by simpa using e1, e2⟩) hx hl (by rw [← hx.len]; simp; omega) i c hi
            obtain ⟨v, e1, e2⟩ := this
            exact ⟨v, by simpa using e1, e2⟩
          · simp; rw [← hx.len]; omega
          · simp only; rw [splice_len hl]; exact g5
        · rw [hp.other _ (hother j B hne hj' hs)]; exact h.heap.blk j B hj' hs
      sz := fun j B hj hs => by
        rcases old j B hj with ⟨rfl, rfl⟩ | ⟨hne, hj'⟩
        · exact g6
        · exact h.heap.sz j B hj' hs
      apart := fun j j' B B' hj hj' hr' hs hne => by
        obtain ⟨B0, h0, e0⟩ := live' j B hj (by rw [hr']; decide)
        obtain ⟨B1, h1, e1⟩ := live' j' B' hj' hs
        exact h.heap.apart j j' B0 B1 h0 h1 (by rw [e0]; exact hr') (by rw [e1]; exact hs) hne }
    grew := {
      agree := h.grew.agree
      len := by show _ ≤ (s.H.set b ⟨.rw, n, splice cs off xs⟩).length; rw [hlen]; exact h.grew.len
      fresh := fun j B hj hs => by
        obtain ⟨B0, h0, e0⟩ := live' j B hj hs
        have := h.grew.fresh j B0 h0 (by rw [e0]; exact hs)
        rw [e0] at this; exact this }
    keep := h.keep.to hp.os hp.tape hp.output (Nat.le_of_eq hp.size.symm) fun j hj hx' => hp.other j fun c => by
      subst c
      rcases h.grew.fresh b _ hB (by simp) with (g | g) | ⟨_, g, _⟩
      · exact hx' g
      · omega
      · exact absurd g (by simp)
    defers := h.defers
    size := h.size
    slot := fun t' => (h.slot t').grow (by show _ ≤ (s.H.set b ⟨.rw, n, splice cs off xs⟩).length; rw [hlen]; exact Nat.le_refl _) (fun _ _ => rfl) fun cs' k hpv hk hpr =>
      hpr.grow (hp.other k fun c => hpr.2.2 b _ hB (by simp) c.symm) (by rw [hlen]; exact Nat.le_refl _) (fun _ _ => rfl) fun i B hi hs => by
        obtain ⟨B0, h0, e0⟩ := live' i B hi hs
        exact hpr.2.2 i B0 h0 (by rw [e0]; exact hs)
    apart := h.apart
    adr := h.adr }

/-- A store into a variable of the call's own. -/
theorem Sim.wrBox (h : Sim G ρ s a w) {u k off : Nat} {cs xs : List C} {ys : List Value} (hu : s.env u = .box cs) (hk : ty a u = .pointer (some ⟨k, 0, none⟩)) (hl : off + xs.length ≤ cs.length)
    (hx : All2 (CRel s.H.length ρ) xs ys) : ∃ w', (storeCells ⟨k, off, none⟩ ys 0).run P w = .ok () w' ∧ Sim G ρ { s with env := upd s.env u (.box (splice cs off xs)) } a w' := by
  have hs := h.slot u
  rw [hu] at hs
  obtain ⟨k', e, h1, ⟨arr, t, h2, h3⟩, h4⟩ := hs
  rw [hk] at e; injection e with e; injection e with e; injection e with e; subst e
  have hlen : cs.length = arr.size := by simpa using h3.len
  have hxl := hx.len
  obtain ⟨w', hr, hp⟩ := run_storeCells (P := P) ys w arr off 0 h2 (by omega) (oneCells hx)
  refine ⟨w', hr, ?_⟩
  have hpriv : ∀ t', t' ≠ u → isPriv (s.env t') = true → blkOf (ty a t') ≠ some k := fun t' hne hpv hc => h.apart t' u hne hpv (by rw [hu]; rfl) (by rw [hu]; cases s.env t' <;> rfl) (by rw [hc, hk]; rfl)
  have hrel : All2 (CRel s.H.length ρ) (splice cs off xs) (arr.toList.take (off + 0) ++ ys ++ arr.toList.drop (off + 0 + ys.length)) := by
    simp only [splice, Nat.add_zero]
    rw [← hx.len]
    exact ((h3.take off).append hx).append (h3.drop _)
  exact {
    heap := h.heap.to fun b B hb hs => hp.other _ (h4 b B hb hs)
    grew := h.grew
    keep := h.keep.to hp.os hp.tape hp.output (Nat.le_of_eq hp.size.symm) fun j hj _ => hp.other j (by omega)
    defers := h.defers
    size := h.size
    slot := fun t' => by
      simp only [upd_apply]
      split
      · rename_i e; subst e
        exact ⟨k, hk, h1, ⟨_, t, hp.here, by simpa using hrel⟩, h4⟩
      · rename_i hne
        exact (h.slot t').grow (Nat.le_refl _) (fun _ _ => rfl) fun cs' j hpv hj hpr => hpr.to (hp.other j fun c => hpriv t' hne hpv (by rw [hj, c]))
    apart := fun t1 t2 hne p1 p2 p3 => by
      have f : ∀ t', isPriv (upd s.env u (AV.box (splice cs off xs)) t') = true → isPriv (s.env t') = true := fun t' hp' => by
        simp only [upd_apply] at hp'; split at hp'
        · rename_i e; rw [e, hu]; rfl
        · exact hp'
      refine h.apart t1 t2 hne (f t1 p1) (f t2 p2) ?_
      simp only [upd_apply] at p3
      split at p3
      · rename_i e; rw [e, hu]; rfl
      · split at p3
        · rename_i e; rw [e, hu]; cases s.env t1 <;> rfl
        · exact p3
    adr := fun t1 u1 o hh => by
      obtain ⟨g1, k1, g2, g3⟩ := h.adr t1 u1 o hh
      refine ⟨g1, k1, g2, fun cs' hcs => ?_⟩
      simp only [upd_apply] at hcs
      split at hcs
      · rename_i e; rw [e]; rw [e] at g3; exact g3 cs hu
      · exact g3 cs' hcs }

end Go.AX
