/- The abstract machine AX: blocks that are made, written, appended to. No condition. -/
import Derived.Test.YtfjgckhndimhdaaGreatAX2
namespace Go.AX

variable {G : Ctx} {ρ : Rho} {s : S} {a : Act} {w : World}

theorem SlotRel.priv {w0 : World} {ρ : Rho} {H : Heap} {w : World} {v : AV} {x : Value} (h : SlotRel w0 ρ H w v x) (hp : isPriv v = true) :
    ∃ (cs : Cnt) (k : Nat), blkOf x = some k ∧ Priv w0 ρ H w cs k := by
  cases v with
  | box cs => obtain ⟨k, e, hk⟩ := h; exact ⟨cs, k, by rw [e]; rfl, hk⟩
  | lit n cs => obtain ⟨k, len, e, _, _, hk⟩ := h; exact ⟨cs, k, by rw [e]; rfl, hk⟩
  | mw es => obtain ⟨k, e, hk⟩ := h; exact ⟨.map es, k, by rw [e]; rfl, hk⟩
  | mp es => obtain ⟨k, e, hk⟩ := h; exact ⟨.map es, k, by rw [e]; rfl, hk⟩
  | undef => simp [isPriv] at hp
  | val _ => simp [isPriv] at hp
  | tup _ => simp [isPriv] at hp

/-- What a slot holds is seen otherwise: as no private block. -/
theorem Sim.see (h : Sim G ρ s a w) {t : Nat} {v : AV} (hv : SlotRel G.w0 ρ s.H w v (ty a t)) (hp : isPriv v = false) : Sim G ρ { s with env := upd s.env t v } a w where
  heap := h.heap
  grew := h.grew
  keep := h.keep
  defers := h.defers
  size := h.size
  slot j := by
    simp only [upd_apply]
    split
    · rename_i e; rw [e]; exact hv
    · exact h.slot j
  apart j j' hne h1 h2 h3 := by
    simp only [upd_apply] at h1 h2 h3
    split at h1
    · rw [hp] at h1; exact absurd h1 (by decide)
    split at h2
    · rw [hp] at h2; exact absurd h2 (by decide)
    rename_i n1 n2
    rw [if_neg n1, if_neg n2] at h3
    exact h.apart j j' hne h1 h2 h3
  adr j u o hh := by
    obtain ⟨h1, k, h2, h3⟩ := h.adr j u o hh
    refine ⟨h1, k, h2, fun cs hcs => ?_⟩
    simp only [upd_apply] at hcs
    split at hcs
    · rw [hcs] at hp; exact absurd hp (by simp [isPriv])
    · exact h3 cs hcs

/-- A block of the call's own is made and goes into a slot. -/
theorem Sim.priv (h : Sim G ρ s a w) {d : Nat} (hd : d < G.nt) (hu : s.used d = false) {v : AV} {x : Value} {k : Nat} (hk : blkOf x = some k) (hnew : w.heap.size ≤ k) {w' : World}
    (e : Ext w w') (hv : SlotRel G.w0 ρ s.H w' v x) : Sim G ρ (s.put d v) (a.put (some d) x) w' := by
  have h' := h.ext e
  have hd' : d < a.tmps.size := by rw [h.size]; exact hd
  have old : ∀ t, isPriv (s.env t) = true → blkOf (ty a t) ≠ some k := fun t ht hc => by
    obtain ⟨cs, k', e1, hp⟩ := (h.slot t).priv ht
    rw [hc] at e1; injection e1 with e1; subst e1
    exact absurd hp.lt (by omega)
  exact {
    heap := h'.heap
    grew := h'.grew
    keep := h'.keep
    defers := by rw [defers_put]; exact h.defers
    size := by rw [size_put]; exact h.size
    slot := fun t => by
      rw [ty_put _ _ _ _ hd']
      simp only [S.put, upd_apply]
      split
      · exact hv
      · exact h'.slot t
    apart := fun t t' hne h1 h2 h3 => by
      rw [ty_put _ _ _ _ hd', ty_put _ _ _ _ hd']
      simp only [S.put, upd_apply] at h1 h2 h3
      by_cases n1 : t = d
      · rw [if_pos n1, if_neg (by rw [← n1]; exact Ne.symm hne), hk]
        rw [if_neg (by rw [← n1]; exact Ne.symm hne)] at h2
        exact fun hc => old t' h2 hc.symm
      · rw [if_neg n1] at h1 ⊢
        by_cases n2 : t' = d
        · rw [if_pos n2, hk]; exact old t h1
        · rw [if_neg n1, if_neg n2] at h3
          rw [if_neg n2] at h2 ⊢; exact h.apart t t' hne h1 h2 h3
    adr := fun t u o hh => by
      simp only [S.put, upd_apply] at hh
      split at hh
      · exact absurd hh (by simp)
      rename_i n1
      obtain ⟨h1, k', h2, h3⟩ := h.adr t u o hh
      have n2 : u ≠ d := fun c => by rw [c, hu] at h1; exact absurd h1 (by decide)
      refine ⟨h1, k', by rw [ty_put _ _ _ _ hd', if_neg n1]; exact h2, fun cs hcs => ?_⟩
      simp only [S.put, upd_apply, if_neg n2] at hcs
      rw [ty_put _ _ _ _ hd', if_neg n2]; exact h3 cs hcs }

theorem getElem?_push {H : Heap} {B B' : Blk} {b : Nat} (h : (H ++ [B])[b]? = some B') : (b < H.length ∧ H[b]? = some B') ∨ (b = H.length ∧ B' = B) := by
  rcases Nat.lt_or_ge b H.length with hb | hb
  · rw [List.getElem?_append_left hb] at h; exact .inl ⟨hb, h⟩
  · rw [List.getElem?_append_right hb] at h
    have : b - H.length = 0 := by
      rcases Nat.eq_zero_or_pos (b - H.length) with h0 | h0
      · exact h0
      · rw [List.getElem?_eq_none (by simp; omega)] at h; exact absurd h (by simp)
    rw [this] at h; simp at h
    exact .inr ⟨by omega, h.symm⟩

/-- A new abstract block, over memory that no other abstract block is. -/
theorem Sim.push (h : Sim G ρ s a w) (p : Pl) {n : Nat} {cs : List C} {arr : Array Value} {t : TypeId} (hb : w.heap[p.blk]? = some (.cells arr t (0, 0)))
    (hc : ∀ i c, cs[i]? = some c → ∃ v, arr[p.off + i]? = some v ∧ CRel s.H.length ρ c v) (h1 : p.off + p.cap ≤ arr.size) (h2 : cs.length ≤ p.cap) (h3 : p.sz = n)
    (hfr : Own G.ρ0 G.H0 p.blk ∨ G.w0.heap.size ≤ p.blk) (hx : ∀ b B, s.H[b]? = some B → B.st ≠ .dead → (ρ b).blk ≠ p.blk)
    (hpr : ∀ t, isPriv (s.env t) = true → blkOf (ty a t) ≠ some p.blk) : Sim G (upd ρ s.H.length p) { s with H := s.H ++ [⟨.rw, n, cs⟩] } a w := by
  have hag : ∀ b, b < s.H.length → upd ρ s.H.length p b = ρ b := fun b hb => upd_ne _ _ (by omega)
  have hle : s.H.length ≤ (s.H ++ [(⟨.rw, n, cs⟩ : Blk)]).length := by simp
  exact {
    heap := {
      blk := fun b B hB hs => by
        rcases getElem?_push hB with ⟨hlt, hB'⟩ | ⟨rfl, rfl⟩
        · rw [hag b hlt]
          obtain ⟨arr', t', fr, g1, g2, g3⟩ := h.heap.blk b B hB' hs
          exact ⟨arr', t', fr, g1, fun i c hi => by obtain ⟨v, g4, g5⟩ := g2 i c hi; exact ⟨v, g4, g5.mono hle hag⟩, g3⟩
        · rw [upd_same]
          exact ⟨arr, t, (0, 0), hb, fun i c hi => by obtain ⟨v, g4, g5⟩ := hc i c hi; exact ⟨v, g4, g5.mono hle hag⟩, fun _ => ⟨rfl, h1, h2, h3⟩⟩
      sz := fun b B hB hs => by
        rcases getElem?_push hB with ⟨hlt, hB'⟩ | ⟨rfl, rfl⟩
        · rw [hag b hlt]; exact h.heap.sz b B hB' hs
        · rw [upd_same]; exact h3
      apart := fun b b' B B' hB hB' hr hs hne => by
        rcases getElem?_push hB with ⟨hlt, hB1⟩ | ⟨rfl, rfl⟩
        · rw [hag b hlt]
          rcases getElem?_push hB' with ⟨hlt', hB1'⟩ | ⟨rfl, rfl⟩
          · rw [hag b' hlt']; exact h.heap.apart b b' B B' hB1 hB1' hr hs hne
          · rw [upd_same]; exact hx b B hB1 (by rw [hr]; decide)
        · rcases getElem?_push hB' with ⟨hlt', hB1'⟩ | ⟨rfl, rfl⟩
          · rw [hag b' hlt', upd_same]; exact fun e => hx b' B' hB1' hs e.symm
          · exact absurd rfl hne }
    grew := {
      agree := fun b hb => by rw [hag b (Nat.lt_of_lt_of_le hb h.grew.len)]; exact h.grew.agree b hb
      len := Nat.le_trans h.grew.len hle
      fresh := fun b B hB hs => by
        rcases getElem?_push hB with ⟨hlt, hB1⟩ | ⟨rfl, rfl⟩
        · rw [hag b hlt]; exact h.grew.fresh b B hB1 hs
        · rw [upd_same]; exact .inl hfr }
    keep := h.keep
    defers := h.defers
    size := h.size
    slot := fun j => (h.slot j).grow hle hag fun cs' k hp hk hpv => hpv.grow rfl hle hag fun b B hB hs => by
      rcases getElem?_push hB with ⟨hlt, hB1⟩ | ⟨rfl, rfl⟩
      · rw [hag b hlt]; exact hpv.2.2 b B hB1 hs
      · rw [upd_same]; exact fun e => hpr j hp (by rw [hk, e])
    apart := h.apart
    adr := h.adr }

/-- A slice's literal is seen by others. -/
theorem Sim.prom (h : Sim G ρ s a w) {t n : Nat} {cs : List C} (ht : s.env t = .lit n cs) :
    ∃ ρ', Sim G ρ' { s with env := upd s.env t (.val (.c (.sl s.H.length 0 (cs.length / n)))), H := s.H ++ [⟨.rw, n, cs⟩] } a w := by
  have hs := h.slot t
  rw [ht] at hs
  obtain ⟨k, len, e, hl, hn, hp⟩ := hs
  have h0 := h.see (t := t) (v := .undef) trivial rfl
  obtain ⟨arr, ty', hb, h2⟩ := hp.2.1
  have hlen := h2.len
  have h1 : Sim G (upd ρ s.H.length ⟨k, 0, cs.length, n⟩) { s with env := upd s.env t .undef, H := s.H ++ [⟨.rw, n, cs⟩] } a w := h0.push ⟨k, 0, cs.length, n⟩ (n := n) (cs := cs) hb (fun i c hi => by
      obtain ⟨v, g1, g2⟩ := h2.get hi; exact ⟨v, by rw [Nat.zero_add]; simpa using g1, g2⟩) (by simp [hlen]) (Nat.le_refl _) rfl (.inr hp.1) hp.2.2 (by
      intro j hj hc
      simp only [upd_apply] at hj
      split at hj
      · simp [isPriv] at hj
      · rename_i hne; exact h.apart j t hne hj (by rw [ht]; rfl) (by rw [ht]; cases s.env j <;> rfl) (by rw [hc, e]; rfl))
  refine ⟨upd ρ s.H.length ⟨k, 0, cs.length, n⟩, ?_⟩
  have h3 := h1.see (t := t) (v := .val (.c (.sl s.H.length 0 (cs.length / n)))) (by
    refine ⟨by simp, len, ?_, ?_, ?_⟩
    · rw [upd_same, e]; simp only [Nat.add_zero]; rw [show cs.length / n = len from by rw [← hl]; exact Nat.mul_div_cancel _ (by omega)]
    · rw [← hl]; rw [Nat.mul_div_cancel _ (by omega)]; exact Nat.le_refl _
    · rw [upd_same]; simp only []; omega) rfl
  have hee : upd (upd s.env t .undef) t (.val (.c (.sl s.H.length 0 (cs.length / n)))) = upd s.env t (.val (.c (.sl s.H.length 0 (cs.length / n)))) := by
    funext j; simp only [upd_apply]; split <;> rfl
  simp only [hee] at h3
  exact h3

/-- The world has changed at one block that no live abstract block and no private block is. -/
theorem Sim.poke (h : Sim G ρ s a w) {w' : World} {k : Nat} (e1 : w'.os = w.os) (e2 : w'.tape = w.tape) (e3 : w'.output = w.output) (e4 : w'.heap.size = w.heap.size)
    (e5 : ∀ j, j ≠ k → w'.heap[j]? = w.heap[j]?) (hl : ∀ b B, s.H[b]? = some B → B.st ≠ .dead → (ρ b).blk ≠ k) (hp : ∀ t, isPriv (s.env t) = true → blkOf (ty a t) ≠ some k)
    (ho : Own G.ρ0 G.H0 k ∨ G.w0.heap.size ≤ k) : Sim G ρ s a w' where
  heap := h.heap.to fun b B hb hs => e5 _ (hl b B hb hs)
  grew := h.grew
  keep := h.keep.to e1 e2 e3 (Nat.le_of_eq e4.symm) fun j hj hx => e5 j fun c => by
    subst c
    rcases ho with ho | ho
    · exact hx ho
    · omega
  defers := h.defers
  size := h.size
  slot t := (h.slot t).grow (Nat.le_refl _) (fun _ _ => rfl) fun cs j hpv hj hk => hk.to (e5 j fun c => hp t hpv (by rw [hj, c]))
  apart := h.apart
  adr := h.adr

theorem kill_get {H : Heap} {b j : Nat} {B : Blk} (h : (H.kill b)[j]? = some B) (hs : B.st ≠ .dead) : j ≠ b ∧ H[j]? = some B := by
  unfold Heap.kill at h
  cases hb : H[b]? with
  | none => rw [hb] at h; exact ⟨fun c => by subst c; rw [hb] at h; exact absurd h (by simp), h⟩
  | some B0 =>
    rw [hb] at h; simp only at h
    by_cases hj : b = j
    · subst hj
      rcases Nat.lt_or_ge b H.length with hl | hl
      · rw [List.getElem?_set_self hl] at h; simp at h; subst h; exact absurd rfl hs
      · rw [List.getElem?_eq_none hl] at hb; exact absurd hb (by simp)
    · rw [List.getElem?_set_ne hj] at h; exact ⟨fun c => hj c.symm, h⟩
theorem kill_len (H : Heap) (b : Nat) : (H.kill b).length = H.length := by unfold Heap.kill; split <;> simp

/-- An abstract block that nobody looks at any more. -/
theorem Sim.kill (h : Sim G ρ s a w) (b : Nat) : Sim G ρ { s with H := s.H.kill b } a w where
  heap := {
    blk := fun j B hj hs => by
      obtain ⟨_, hj'⟩ := kill_get hj hs
      rw [kill_len]; exact h.heap.blk j B hj' hs
    sz := fun j B hj hs => h.heap.sz j B (kill_get hj hs).2 hs
    apart := fun j j' B B' hj hj' hr hs hne => h.heap.apart j j' B B' (kill_get hj (by rw [hr]; decide)).2 (kill_get hj' hs).2 hr hs hne }
  grew := {
    agree := h.grew.agree
    len := by show _ ≤ (s.H.kill b).length; rw [kill_len]; exact h.grew.len
    fresh := fun j B hj hs => h.grew.fresh j B (kill_get hj hs).2 hs }
  keep := h.keep
  defers := h.defers
  size := h.size
  slot t := (h.slot t).grow (by show _ ≤ (s.H.kill b).length; rw [kill_len]; exact Nat.le_refl _) (fun _ _ => rfl) fun cs j hpv hj hk =>
    hk.grow rfl (by rw [kill_len]; exact Nat.le_refl _) (fun _ _ => rfl) fun i B hi hs => hk.2.2 i B (kill_get hi hs).2 hs
  apart := h.apart
  adr := h.adr

/-- A block's cells are written. -/
structure Poked (w w' : World) (k : Nat) (o : Obj) : Prop where
  os : w'.os = w.os
  tape : w'.tape = w.tape
  output : w'.output = w.output
  size : w'.heap.size = w.heap.size
  here : w'.heap[k]? = some o
  other : ∀ j, j ≠ k → w'.heap[j]? = w.heap[j]?

theorem addr_add (k off i : Nat) : (⟨k, off, none⟩ : Addr).add i = ⟨k, off + i, none⟩ := by
  unfold Addr.add
  split
  · rename_i h; subst h; rfl
  · rfl

theorem run_storeCells {P : Program} {k : Nat} {t : TypeId} : ∀ (vs : List Value) (w : World) (arr : Array Value) (off i : Nat), w.heap[k]? = some (.cells arr t (0, 0)) →
    off + i + vs.length ≤ arr.size → (∀ v ∈ vs, v.oneCell' = true) → ∃ w', (storeCells ⟨k, off, none⟩ vs i).run P w = .ok () w' ∧
      Poked w w' k (.cells (arr.toList.take (off + i) ++ vs ++ arr.toList.drop (off + i + vs.length)).toArray t (0, 0)) := by
  intro vs
  induction vs with
  | nil =>
    intro w arr off i hk _ _
    refine ⟨w, rfl, rfl, rfl, rfl, rfl, ?_, fun _ _ => rfl⟩
    rw [hk]; simp
  | cons v vs ih =>
    intro w arr off i hk hl hone
    have hv := hone v (by simp)
    have hlt : off + i < arr.size := by simp at hl; omega
    have hcell : w.cell? ⟨k, off + i, none⟩ = some (arr[off + i]) := by simp [World.cell?, hk, hlt]
    have hfr : w.frozen? ⟨k, off + i, none⟩ = false := by simp [World.frozen?, hk]
    have hset : (w.setCell ⟨k, off + i, none⟩ v).heap[k]? = some (.cells (arr.setIfInBounds (off + i) v) t (0, 0)) := by
      simp [World.setCell, Array.getElem?_modify, hk]
    obtain ⟨w', hr, hp⟩ := ih (w.setCell ⟨k, off + i, none⟩ v) (arr.setIfInBounds (off + i) v) off (i + 1) hset (by simp at hl ⊢; omega) (fun u hu => hone u (by simp [hu]))
    refine ⟨w', ?_, hp.os, hp.tape, hp.output, by rw [hp.size]; simp [World.setCell], ?_, fun j hj => by rw [hp.other j hj]; simp [World.setCell, Array.getElem?_modify, Ne.symm hj]⟩
    · show ((store ((⟨k, off, none⟩ : Addr).add i) v) >>= fun _ => storeCells ⟨k, off, none⟩ vs (i + 1)).run P w = _
      rw [addr_add, Sem.run_bind, run_store P w _ v _ hv, hcell]
      simp only [hfr, Bool.false_eq_true, if_false, Result.andThen_ok]
      exact hr
    · rw [hp.here]
      congr 2
      have hle : off + i < arr.toList.length := by simpa using hlt
      simp only [Array.toList_setIfInBounds, List.length_cons]
      rw [show off + (i + 1) = (off + i) + 1 from by omega, List.take_succ_eq_append_getElem (by simpa using hle), List.getElem_set_self,
        List.take_set_of_le (Nat.le_refl _), List.drop_set_of_lt (by omega), show off + i + 1 + vs.length = off + i + (vs.length + 1) from by omega]
      simp

end Go.AX
