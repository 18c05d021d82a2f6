/- The abstract machine AX: how simp runs it, step by step. No condition. -/
import Derived.Test.YtjpgpepbnglhlaaAX17
import Derived.Test.YtjpgpepbnglhlaaLExactDeskNewC
namespace Go.AX
section
variable {P : Program} {k : List Fr} {s : S} {Q : AExit → S → Prop} {Z : Zs} {hw : Bool} {os : List AO}
@[go_sem] theorem RUm_prom {t : Nat} : RUm P hw (some s) (.prom t) Z os k Q = RUs P hw (stepf (.prom t) s) Z os k Q := RUm_step rfl
@[go_sem] theorem RUm_mov {d : Nat} {x : AOp} : RUm P hw (some s) (.mov d x) Z os k Q = RUs P hw (stepf (.mov d x) s) Z os k Q := RUm_step rfl
@[go_sem] theorem RUm_pick {d : Nat} {c : AOp} {x : AOp} {y : AOp} : RUm P hw (some s) (.pick d c x y) Z os k Q = RUs P hw (stepf (.pick d c x y) s) Z os k Q := RUm_step rfl
@[go_sem] theorem RUm_neg {d : Nat} {x : AOp} : RUm P hw (some s) (.neg d x) Z os k Q = RUs P hw (stepf (.neg d x) s) Z os k Q := RUm_step rfl
@[go_sem] theorem RUm_bin {op : BinOp} {d : Nat} {x : AOp} {y : AOp} : RUm P hw (some s) (.bin op d x y) Z os k Q = RUs P hw (stepf (.bin op d x y) s) Z os k Q := RUm_step rfl
@[go_sem] theorem RUm_eqv {ng : Bool} {n : EqK} {d : Nat} {x : AOp} {y : AOp} : RUm P hw (some s) (.eqv ng n d x y) Z os k Q = RUs P hw (stepf (.eqv ng n d x y) s) Z os k Q := RUm_step rfl
@[go_sem] theorem RUm_conv {kk : IntKind} {d : Nat} {x : AOp} : RUm P hw (some s) (.conv kk d x) Z os k Q = RUs P hw (stepf (.conv kk d x) s) Z os k Q := RUm_step rfl
@[go_sem] theorem RUm_ext {d : Nat} {x : AOp} {i : Nat} : RUm P hw (some s) (.ext d x i) Z os k Q = RUs P hw (stepf (.ext d x i) s) Z os k Q := RUm_step rfl
@[go_sem] theorem RUm_len {d : Nat} {x : AOp} : RUm P hw (some s) (.len d x) Z os k Q = RUs P hw (stepf (.len d x) s) Z os k Q := RUm_step rfl
@[go_sem] theorem RUm_mm {mx : Bool} {d : Nat} {x : AOp} {y : AOp} : RUm P hw (some s) (.mm mx d x y) Z os k Q = RUs P hw (stepf (.mm mx d x y) s) Z os k Q := RUm_step rfl
@[go_sem] theorem RUm_nilck {d : Nat} {x : AOp} : RUm P hw (some s) (.nilck d x) Z os k Q = RUs P hw (stepf (.nilck d x) s) Z os k Q := RUm_step rfl
@[go_sem] theorem RUm_alloc {d : Nat} {cs : List C} : RUm P hw (some s) (.alloc d cs) Z os k Q = RUs P hw (stepf (.alloc d cs) s) Z os k Q := RUm_step rfl
@[go_sem] theorem RUm_box {d : Nat} {x : AOp} {n : Nat} : RUm P hw (some s) (.box d x n) Z os k Q = RUs P hw (stepf (.box d x n) s) Z os k Q := RUm_step rfl
@[go_sem] theorem RUm_halloc {d : Nat} {cs : List C} : RUm P hw (some s) (.halloc d cs) Z os k Q = RUs P hw (stepf (.halloc d cs) s) Z os k Q := RUm_step rfl
@[go_sem] theorem RUm_hbox {d : Nat} {x : AOp} {n : Nat} : RUm P hw (some s) (.hbox d x n) Z os k Q = RUs P hw (stepf (.hbox d x n) s) Z os k Q := RUm_step rfl
@[go_sem] theorem RUm_faddr {d : Nat} {t : Nat} {off : Nat} {b : Nat} : RUm P hw (some s) (.faddr d t off b) Z os k Q = RUs P hw (stepf (.faddr d t off b) s) Z os k Q := RUm_step rfl
@[go_sem] theorem RUm_fld {d : Nat} {x : AOp} {off : Nat} {n : Nat} {g : Bool} : RUm P hw (some s) (.fld d x off n g) Z os k Q = RUs P hw (stepf (.fld d x off n g) s) Z os k Q := RUm_step rfl
@[go_sem] theorem RUm_aidx {d : Nat} {x : AOp} {i : AOp} {len : Nat} {n : Nat} {g : Bool} : RUm P hw (some s) (.aidx d x i len n g) Z os k Q = RUs P hw (stepf (.aidx d x i len n g) s) Z os k Q := RUm_step rfl
@[go_sem] theorem RUm_ld {d : Nat} {t : Nat} {n : Nat} {g : Bool} {b : Nat} {hp : Bool} : RUm P hw (some s) (.ld d t n g b hp) Z os k Q = RUs P hw (stepf (.ld d t n g b hp) s) Z os k Q := RUm_step rfl
@[go_sem] theorem RUm_st {t : Nat} {x : AOp} {n : Nat} {b : Nat} {hp : Bool} : RUm P hw (some s) (.st t x n b hp) Z os k Q = RUs P hw (stepf (.st t x n b hp) s) Z os k Q := RUm_step rfl
@[go_sem] theorem RUm_iadr {d : Nat} {x : AOp} {i : AOp} {n : Nat} : RUm P hw (some s) (.iadr d x i n) Z os k Q = RUs P hw (stepf (.iadr d x i n) s) Z os k Q := RUm_step rfl
@[go_sem] theorem RUm_slc {d : Nat} {x : AOp} {lo : Option AOp} {hi : Option AOp} {n : Nat} : RUm P hw (some s) (.slc d x lo hi n) Z os k Q = RUs P hw (stepf (.slc d x lo hi n) s) Z os k Q := RUm_step rfl
@[go_sem] theorem RUm_bsl {d : Nat} {len : Nat} {n : Nat} {zero : List C} {parts : List (Nat × Nat × AOp)} : RUm P hw (some s) (.bsl d len n zero parts) Z os k Q = RUs P hw (stepf (.bsl d len n zero parts) s) Z os k Q := RUm_step rfl
@[go_sem] theorem RUm_mks {d : Nat} {x : AOp} {n : Nat} {zero : List C} : RUm P hw (some s) (.mks d x n zero) Z os k Q = RUs P hw (stepf (.mks d x n zero) s) Z os k Q := RUm_step rfl
@[go_sem] theorem RUm_bld {d : Nat} {zero : List C} {parts : List (Nat × Nat × AOp)} : RUm P hw (some s) (.bld d zero parts) Z os k Q = RUs P hw (stepf (.bld d zero parts) s) Z os k Q := RUm_step rfl
@[go_sem] theorem RUm_app {d : Nat} {x : AOp} {y : AOp} {n : Nat} : RUm P hw (some s) (.app d x y n) Z os k Q = RUs P hw (stepf (.app d x y n) s) Z os k Q := RUm_step rfl
@[go_sem] theorem RUm_not {d : Nat} {x : AOp} : RUm P hw (some s) (.not d x) Z os k Q = RUs P hw (stepf (.not d x) s) Z os k Q := RUm_step rfl
end
@[go_sem] theorem init0 {H : Heap} : init [] H = { env := fun _ => .undef, adr := fun _ => none, used := fun _ => false, H := H } := by
  simp [init]
@[go_sem] theorem init1 {a : V} {H : Heap} : init [a] H = { env := upd (fun _ => .undef) 0 (.val a), adr := fun _ => none, used := fun _ => false, H := H } := by
  simp only [init, S.mk.injEq, and_self, and_true]
  funext j
  match j with
  | 0 => rfl
  | j + 1 => simp [upd]
@[go_sem] theorem init2 {a b : V} {H : Heap} : init [a, b] H = { env := upd (upd (fun _ => .undef) 1 (.val b)) 0 (.val a), adr := fun _ => none, used := fun _ => false, H := H } := by
  simp only [init, S.mk.injEq, and_self, and_true]
  funext j
  match j with
  | 0 => rfl
  | 1 => rfl
  | j + 2 => simp [upd]
@[go_sem] theorem init3 {a b c : V} {H : Heap} : init [a, b, c] H = { env := upd (upd (upd (fun _ => .undef) 2 (.val c)) 1 (.val b)) 0 (.val a), adr := fun _ => none, used := fun _ => false, H := H } := by
  simp only [init, S.mk.injEq, and_self, and_true]
  funext j
  match j with
  | 0 => rfl
  | 1 => rfl
  | 2 => rfl
  | j + 3 => simp [upd]
@[go_sem] theorem init4 {a b c d : V} {H : Heap} : init [a, b, c, d] H = { env := upd (upd (upd (upd (fun _ => .undef) 3 (.val d)) 2 (.val c)) 1 (.val b)) 0 (.val a), adr := fun _ => none, used := fun _ => false, H := H } := by
  simp only [init, S.mk.injEq, and_self, and_true]
  funext j
  match j with
  | 0 => rfl
  | 1 => rfl
  | 2 => rfl
  | 3 => rfl
  | j + 4 => simp [upd]
@[go_sem] theorem bne_dec {α : Type} [DecidableEq α] (a b : α) : (a != b) = !decide (a = b) := by
  by_cases h : a = b <;> simp [h]
@[go_sem] theorem beq_dec {α : Type} [DecidableEq α] (a b : α) : (a == b) = decide (a = b) := by
  by_cases h : a = b <;> simp [h]
attribute [go_sem] Bool.not_true Bool.not_false Bool.or_false Bool.false_or Bool.or_true Bool.true_or Bool.or_self reduceIte Option.map_some Option.map_none ge_iff_le gt_iff_lt decide_true decide_false
  and_true true_and and_false false_and and_self Int.natCast_nonneg Int.toNat_natCast not_false_eq_true not_true_eq_false if_true if_false

/-! Cells of a list that is written out. -/
@[go_sem] theorem slabAt1 {x0 : C} {cs : List C} : slab (x0 :: cs) 0 1 = some [x0] := by simp [slab]
@[go_sem] theorem slabSkip1 {n : Nat} {x0 : C} {cs : List C} : slab (x0 :: cs) 1 n = slab cs 0 n := by simp [slab, Nat.add_comm 1 n]
@[go_sem] theorem spliceAt1 {x0 y0 : C} {cs : List C} : splice (x0 :: cs) 0 [y0] = y0 :: cs := by simp [splice]
@[go_sem] theorem spliceSkip1 {x0 : C} {cs vs : List C} : splice (x0 :: cs) 1 vs = x0 :: splice cs 0 vs := by simp [splice, Nat.add_comm 1 vs.length]
@[go_sem] theorem slabAt2 {x0 x1 : C} {cs : List C} : slab (x0 :: x1 :: cs) 0 2 = some [x0, x1] := by simp [slab]
@[go_sem] theorem slabSkip2 {n : Nat} {x0 x1 : C} {cs : List C} : slab (x0 :: x1 :: cs) 2 n = slab cs 0 n := by simp [slab, Nat.add_comm 2 n]
@[go_sem] theorem spliceAt2 {x0 x1 y0 y1 : C} {cs : List C} : splice (x0 :: x1 :: cs) 0 [y0, y1] = y0 :: y1 :: cs := by simp [splice]
@[go_sem] theorem spliceSkip2 {x0 x1 : C} {cs vs : List C} : splice (x0 :: x1 :: cs) 2 vs = x0 :: x1 :: splice cs 0 vs := by simp [splice, Nat.add_comm 2 vs.length]
@[go_sem] theorem slabAt3 {x0 x1 x2 : C} {cs : List C} : slab (x0 :: x1 :: x2 :: cs) 0 3 = some [x0, x1, x2] := by simp [slab]
@[go_sem] theorem slabSkip3 {n : Nat} {x0 x1 x2 : C} {cs : List C} : slab (x0 :: x1 :: x2 :: cs) 3 n = slab cs 0 n := by simp [slab, Nat.add_comm 3 n]
@[go_sem] theorem spliceAt3 {x0 x1 x2 y0 y1 y2 : C} {cs : List C} : splice (x0 :: x1 :: x2 :: cs) 0 [y0, y1, y2] = y0 :: y1 :: y2 :: cs := by simp [splice]
@[go_sem] theorem spliceSkip3 {x0 x1 x2 : C} {cs vs : List C} : splice (x0 :: x1 :: x2 :: cs) 3 vs = x0 :: x1 :: x2 :: splice cs 0 vs := by simp [splice, Nat.add_comm 3 vs.length]
@[go_sem] theorem slabAt4 {x0 x1 x2 x3 : C} {cs : List C} : slab (x0 :: x1 :: x2 :: x3 :: cs) 0 4 = some [x0, x1, x2, x3] := by simp [slab]
@[go_sem] theorem slabSkip4 {n : Nat} {x0 x1 x2 x3 : C} {cs : List C} : slab (x0 :: x1 :: x2 :: x3 :: cs) 4 n = slab cs 0 n := by simp [slab, Nat.add_comm 4 n]
@[go_sem] theorem spliceAt4 {x0 x1 x2 x3 y0 y1 y2 y3 : C} {cs : List C} : splice (x0 :: x1 :: x2 :: x3 :: cs) 0 [y0, y1, y2, y3] = y0 :: y1 :: y2 :: y3 :: cs := by simp [splice]
@[go_sem] theorem spliceSkip4 {x0 x1 x2 x3 : C} {cs vs : List C} : splice (x0 :: x1 :: x2 :: x3 :: cs) 4 vs = x0 :: x1 :: x2 :: x3 :: splice cs 0 vs := by simp [splice, Nat.add_comm 4 vs.length]
@[go_sem] theorem slabAt5 {x0 x1 x2 x3 x4 : C} {cs : List C} : slab (x0 :: x1 :: x2 :: x3 :: x4 :: cs) 0 5 = some [x0, x1, x2, x3, x4] := by simp [slab]
@[go_sem] theorem slabSkip5 {n : Nat} {x0 x1 x2 x3 x4 : C} {cs : List C} : slab (x0 :: x1 :: x2 :: x3 :: x4 :: cs) 5 n = slab cs 0 n := by simp [slab, Nat.add_comm 5 n]
@[go_sem] theorem spliceAt5 {x0 x1 x2 x3 x4 y0 y1 y2 y3 y4 : C} {cs : List C} : splice (x0 :: x1 :: x2 :: x3 :: x4 :: cs) 0 [y0, y1, y2, y3, y4] = y0 :: y1 :: y2 :: y3 :: y4 :: cs := by simp [splice]
@[go_sem] theorem spliceSkip5 {x0 x1 x2 x3 x4 : C} {cs vs : List C} : splice (x0 :: x1 :: x2 :: x3 :: x4 :: cs) 5 vs = x0 :: x1 :: x2 :: x3 :: x4 :: splice cs 0 vs := by simp [splice, Nat.add_comm 5 vs.length]
@[go_sem] theorem slabAt6 {x0 x1 x2 x3 x4 x5 : C} {cs : List C} : slab (x0 :: x1 :: x2 :: x3 :: x4 :: x5 :: cs) 0 6 = some [x0, x1, x2, x3, x4, x5] := by simp [slab]
@[go_sem] theorem slabSkip6 {n : Nat} {x0 x1 x2 x3 x4 x5 : C} {cs : List C} : slab (x0 :: x1 :: x2 :: x3 :: x4 :: x5 :: cs) 6 n = slab cs 0 n := by simp [slab, Nat.add_comm 6 n]
@[go_sem] theorem spliceAt6 {x0 x1 x2 x3 x4 x5 y0 y1 y2 y3 y4 y5 : C} {cs : List C} : splice (x0 :: x1 :: x2 :: x3 :: x4 :: x5 :: cs) 0 [y0, y1, y2, y3, y4, y5] = y0 :: y1 :: y2 :: y3 :: y4 :: y5 :: cs := by simp [splice]
@[go_sem] theorem spliceSkip6 {x0 x1 x2 x3 x4 x5 : C} {cs vs : List C} : splice (x0 :: x1 :: x2 :: x3 :: x4 :: x5 :: cs) 6 vs = x0 :: x1 :: x2 :: x3 :: x4 :: x5 :: splice cs 0 vs := by simp [splice, Nat.add_comm 6 vs.length]
attribute [go_sem] List.length_cons List.length_nil List.cons_append List.nil_append
theorem wrap_succ {i : Nat} (h : i ≤ lenTop) : IntKind.wrap .i64 ((i : Int) + 1) = ((i + 1 : Nat) : Int) := by
  rw [wrap_i64 (by omega) (by unfold lenTop at h; omega)]; simp
theorem take_snoc {α : Type} {xs : List α} {i : Nat} {x : α} (h : xs[i]? = some x) : xs.take (i + 1) = xs.take i ++ [x] := by
  rw [List.take_add_one, h]; rfl
theorem get_lt {α : Type} {xs : List α} {i : Nat} (h : (i : Int) < xs.length) : ∃ x, xs[i]? = some x := ⟨xs[i]'(by omega), by simp⟩

theorem Codes.does {P : Program} {I : Ids} (K : Codes P I) {f : FuncId} {af : AFunc} {args : List V} {H : Heap} {Post : AV → Heap → Prop} (k : Has P f af) (hn : args.length = af.np)
    (h : ∀ Q : AExit → S → Prop, (∀ x s', Ends af.res Post x s' → Q x s') → RU P [.code af.body] .normal (init args H) Q) : Does P f args H Post :=
  does_of K.mixed k.call k.read hn h
end Go.AX
