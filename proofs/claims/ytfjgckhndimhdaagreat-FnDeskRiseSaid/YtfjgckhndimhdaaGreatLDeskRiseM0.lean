/- What the law needs of the program: the contracts of its functions, each with its condition at its theorem. -/
import Derived.Test.YtfjgckhndimhdaaGreatAX17
import Derived.Test.YtfjgckhndimhdaaGreatLDeskRiseC
set_option linter.unusedVariables false
set_option linter.unusedSimpArgs false
/- The abstract machine AX: how simp runs it, step by step. No condition. -/
namespace Go.AX
section
variable {P : Program} {k : List Fr} {s : S} {Q : AExit → S → Prop} {Z : Zs} {hw : Bool} {os : List AO}
@[go_sem] theorem RUm_prom {t : Nat} : RUm P hw (some s) (.prom t) Z os k Q = RUs P hw (stepf (.prom t) s) Z os k Q := RUm_step rfl
@[go_sem] theorem RUm_mov {d : Nat} {x : AOp} : RUm P hw (some s) (.mov d x) Z os k Q = RUs P hw (stepf (.mov d x) s) Z os k Q := RUm_step rfl
@[go_sem] theorem RUm_pick {d : Nat} {c : AOp} {x : AOp} {y : AOp} : RUm P hw (some s) (.pick d c x y) Z os k Q = RUs P hw (stepf (.pick d c x y) s) Z os k Q := RUm_step rfl
@[go_sem] theorem RUm_neg {d : Nat} {x : AOp} : RUm P hw (some s) (.neg d x) Z os k Q = RUs P hw (stepf (.neg d x) s) Z os k Q := RUm_step rfl
@[go_sem] theorem RUm_bin {op : BinOp} {d : Nat} {x : AOp} {y : AOp} : RUm P hw (some s) (.bin op d x y) Z os k Q = RUs P hw (stepf (.bin op d x y) s) Z os k Q := RUm_step rfl
@[go_sem] theorem RUm_eqv {ng : Bool} {n : EqK} {d : Nat} {x : AOp} {y : AOp} : RUm P hw (some s) (.eqv ng n d x y) Z os k Q = RUs P hw (stepf (.eqv ng n d x y) s) Z os k Q := RUm_step rfl
@[go_sem] theorem RUm_conv {kk : IntKind} {d : Nat} {x : AOp} : RUm P hw (some s) (.conv kk d x) Z os k Q = RUs P hw (stepf (.conv kk d x) s) Z os k Q := RUm_step rfl
@[go_sem] theorem RUm_ext {d : Nat} {x : AOp} {i : Nat} : RUm P hw (some s) (.ext d x i) Z os k Q = RUs P hw (stepf (.ext d x i) s) Z os k Q := RUm_step rfl
@[go_sem] theorem RUm_len {d : Nat} {x : AOp} : RUm P hw (some s) (.len d x) Z os k Q = RUs P hw (stepf (.len d x) s) Z os k Q := RUm_step rfl
@[go_sem] theorem RUm_mm {mx : Bool} {d : Nat} {x : AOp} {y : AOp} : RUm P hw (some s) (.mm mx d x y) Z os k Q = RUs P hw (stepf (.mm mx d x y) s) Z os k Q := RUm_step rfl
@[go_sem] theorem RUm_nilck {d : Nat} {x : AOp} : RUm P hw (some s) (.nilck d x) Z os k Q = RUs P hw (stepf (.nilck d x) s) Z os k Q := RUm_step rfl
@[go_sem] theorem RUm_alloc {d : Nat} {cs : List C} : RUm P hw (some s) (.alloc d cs) Z os k Q = RUs P hw (stepf (.alloc d cs) s) Z os k Q := RUm_step rfl
@[go_sem] theorem RUm_box {d : Nat} {x : AOp} {n : Nat} : RUm P hw (some s) (.box d x n) Z os k Q = RUs P hw (stepf (.box d x n) s) Z os k Q := RUm_step rfl
@[go_sem] theorem RUm_halloc {d : Nat} {cs : List C} : RUm P hw (some s) (.halloc d cs) Z os k Q = RUs P hw (stepf (.halloc d cs) s) Z os k Q := RUm_step rfl
@[go_sem] theorem RUm_hbox {d : Nat} {x : AOp} {n : Nat} : RUm P hw (some s) (.hbox d x n) Z os k Q = RUs P hw (stepf (.hbox d x n) s) Z os k Q := RUm_step rfl
@[go_sem] theorem RUm_faddr {d : Nat} {t : Nat} {off : Nat} {b : Nat} : RUm P hw (some s) (.faddr d t off b) Z os k Q = RUs P hw (stepf (.faddr d t off b) s) Z os k Q := RUm_step rfl
@[go_sem] theorem RUm_fld {d : Nat} {x : AOp} {off : Nat} {n : Nat} {g : Bool} : RUm P hw (some s) (.fld d x off n g) Z os k Q = RUs P hw (stepf (.fld d x off n g) s) Z os k Q := RUm_step rfl
@[go_sem] theorem RUm_aidx {d : Nat} {x : AOp} {i : AOp} {len : Nat} {n : Nat} {g : Bool} : RUm P hw (some s) (.aidx d x i len n g) Z os k Q = RUs P hw (stepf (.aidx d x i len n g) s) Z os k Q := RUm_step rfl
@[go_sem] theorem RUm_ld {d : Nat} {t : Nat} {n : Nat} {g : Bool} {b : Nat} {hp : Bool} : RUm P hw (some s) (.ld d t n g b hp) Z os k Q = RUs P hw (stepf (.ld d t n g b hp) s) Z os k Q := RUm_step rfl
@[go_sem] theorem RUm_st {t : Nat} {x : AOp} {n : Nat} {b : Nat} {hp : Bool} : RUm P hw (some s) (.st t x n b hp) Z os k Q = RUs P hw (stepf (.st t x n b hp) s) Z os k Q := RUm_step rfl
@[go_sem] theorem RUm_iadr {d : Nat} {x : AOp} {i : AOp} {n : Nat} : RUm P hw (some s) (.iadr d x i n) Z os k Q = RUs P hw (stepf (.iadr d x i n) s) Z os k Q := RUm_step rfl
@[go_sem] theorem RUm_slc {d : Nat} {x : AOp} {lo : Option AOp} {hi : Option AOp} {n : Nat} : RUm P hw (some s) (.slc d x lo hi n) Z os k Q = RUs P hw (stepf (.slc d x lo hi n) s) Z os k Q := RUm_step rfl
@[go_sem] theorem RUm_bsl {d : Nat} {len : Nat} {n : Nat} {zero : List C} {parts : List (Nat × Nat × AOp)} : RUm P hw (some s) (.bsl d len n zero parts) Z os k Q = RUs P hw (stepf (.bsl d len n zero parts) s) Z os k Q := RUm_step rfl
@[go_sem] theorem RUm_mks {d : Nat} {x : AOp} {n : Nat} {zero : List C} : RUm P hw (some s) (.mks d x n zero) Z os k Q = RUs P hw (stepf (.mks d x n zero) s) Z os k Q := RUm_step rfl
@[go_sem] theorem RUm_bld {d : Nat} {zero : List C} {parts : List (Nat × Nat × AOp)} : RUm P hw (some s) (.bld d zero parts) Z os k Q = RUs P hw (stepf (.bld d zero parts) s) Z os k Q := RUm_step rfl
@[go_sem] theorem RUm_app {d : Nat} {x : AOp} {y : AOp} {n : Nat} : RUm P hw (some s) (.app d x y n) Z os k Q = RUs P hw (stepf (.app d x y n) s) Z os k Q := RUm_step rfl
@[go_sem] theorem RUm_not {d : Nat} {x : AOp} : RUm P hw (some s) (.not d x) Z os k Q = RUs P hw (stepf (.not d x) s) Z os k Q := RUm_step rfl
end
@[go_sem] theorem init0 {H : Heap} : init [] H = { env := fun _ => .undef, adr := fun _ => none, used := fun _ => false, H := H } := by
  simp [init]
@[go_sem] theorem init1 {a : V} {H : Heap} : init [a] H = { env := upd (fun _ => .undef) 0 (.val a), adr := fun _ => none, used := fun _ => false, H := H } := by
  simp only [init, S.mk.injEq, and_self, and_true]
  funext j
  match j with
  | 0 => rfl
  | j + 1 => simp [upd]
@[go_sem] theorem init2 {a b : V} {H : Heap} : init [a, b] H = { env := upd (upd (fun _ => .undef) 1 (.val b)) 0 (.val a), adr := fun _ => none, used := fun _ => false, H := H } := by
  simp only [init, S.mk.injEq, and_self, and_true]
  funext j
  match j with
  | 0 => rfl
  | 1 => rfl
  | j + 2 => simp [upd]
@[go_sem] theorem init3 {a b c : V} {H : Heap} : init [a, b, c] H = { env := upd (upd (upd (fun _ => .undef) 2 (.val c)) 1 (.val b)) 0 (.val a), adr := fun _ => none, used := fun _ => false, H := H } := by
  simp only [init, S.mk.injEq, and_self, and_true]
  funext j
  match j with
  | 0 => rfl
  | 1 => rfl
  | 2 => rfl
  | j + 3 => simp [upd]
@[go_sem] theorem init4 {a b c d : V} {H : Heap} : init [a, b, c, d] H = { env := upd (upd (upd (upd (fun _ => .undef) 3 (.val d)) 2 (.val c)) 1 (.val b)) 0 (.val a), adr := fun _ => none, used := fun _ => false, H := H } := by
  simp only [init, S.mk.injEq, and_self, and_true]
  funext j
  match j with
  | 0 => rfl
  | 1 => rfl
  | 2 => rfl
  | 3 => rfl
  | j + 4 => simp [upd]
@[go_sem] theorem bne_dec {α : Type} [DecidableEq α] (a b : α) : (a != b) = !decide (a = b) := by
  by_cases h : a = b <;> simp [h]
@[go_sem] theorem beq_dec {α : Type} [DecidableEq α] (a b : α) : (a == b) = decide (a = b) := by
  by_cases h : a = b <;> simp [h]
attribute [go_sem] Bool.not_true Bool.not_false Bool.or_false Bool.false_or Bool.or_true Bool.true_or Bool.or_self reduceIte Option.map_some Option.map_none ge_iff_le gt_iff_lt decide_true decide_false
  and_true true_and and_false false_and and_self Int.natCast_nonneg Int.toNat_natCast not_false_eq_true not_true_eq_false if_true if_false

/-! Cells of a list that is written out. -/
@[go_sem] theorem slabAt1 {x0 : C} {cs : List C} : slab (x0 :: cs) 0 1 = some [x0] := by simp [slab]
@[go_sem] theorem slabSkip1 {n : Nat} {x0 : C} {cs : List C} : slab (x0 :: cs) 1 n = slab cs 0 n := by simp [slab, Nat.add_comm 1 n]
@[go_sem] theorem spliceAt1 {x0 y0 : C} {cs : List C} : splice (x0 :: cs) 0 [y0] = y0 :: cs := by simp [splice]
@[go_sem] theorem spliceSkip1 {x0 : C} {cs vs : List C} : splice (x0 :: cs) 1 vs = x0 :: splice cs 0 vs := by simp [splice, Nat.add_comm 1 vs.length]
@[go_sem] theorem slabAt2 {x0 x1 : C} {cs : List C} : slab (x0 :: x1 :: cs) 0 2 = some [x0, x1] := by simp [slab]
@[go_sem] theorem slabSkip2 {n : Nat} {x0 x1 : C} {cs : List C} : slab (x0 :: x1 :: cs) 2 n = slab cs 0 n := by simp [slab, Nat.add_comm 2 n]
@[go_sem] theorem spliceAt2 {x0 x1 y0 y1 : C} {cs : List C} : splice (x0 :: x1 :: cs) 0 [y0, y1] = y0 :: y1 :: cs := by simp [splice]
@[go_sem] theorem spliceSkip2 {x0 x1 : C} {cs vs : List C} : splice (x0 :: x1 :: cs) 2 vs = x0 :: x1 :: splice cs 0 vs := by simp [splice, Nat.add_comm 2 vs.length]
@[go_sem] theorem slabAt3 {x0 x1 x2 : C} {cs : List C} : slab (x0 :: x1 :: x2 :: cs) 0 3 = some [x0, x1, x2] := by simp [slab]
@[go_sem] theorem slabSkip3 {n : Nat} {x0 x1 x2 : C} {cs : List C} : slab (x0 :: x1 :: x2 :: cs) 3 n = slab cs 0 n := by simp [slab, Nat.add_comm 3 n]
@[go_sem] theorem spliceAt3 {x0 x1 x2 y0 y1 y2 : C} {cs : List C} : splice (x0 :: x1 :: x2 :: cs) 0 [y0, y1, y2] = y0 :: y1 :: y2 :: cs := by simp [splice]
@[go_sem] theorem spliceSkip3 {x0 x1 x2 : C} {cs vs : List C} : splice (x0 :: x1 :: x2 :: cs) 3 vs = x0 :: x1 :: x2 :: splice cs 0 vs := by simp [splice, Nat.add_comm 3 vs.length]
@[go_sem] theorem slabAt4 {x0 x1 x2 x3 : C} {cs : List C} : slab (x0 :: x1 :: x2 :: x3 :: cs) 0 4 = some [x0, x1, x2, x3] := by simp [slab]
@[go_sem] theorem slabSkip4 {n : Nat} {x0 x1 x2 x3 : C} {cs : List C} : slab (x0 :: x1 :: x2 :: x3 :: cs) 4 n = slab cs 0 n := by simp [slab, Nat.add_comm 4 n]
@[go_sem] theorem spliceAt4 {x0 x1 x2 x3 y0 y1 y2 y3 : C} {cs : List C} : splice (x0 :: x1 :: x2 :: x3 :: cs) 0 [y0, y1, y2, y3] = y0 :: y1 :: y2 :: y3 :: cs := by simp [splice]
@[go_sem] theorem spliceSkip4 {x0 x1 x2 x3 : C} {cs vs : List C} : splice (x0 :: x1 :: x2 :: x3 :: cs) 4 vs = x0 :: x1 :: x2 :: x3 :: splice cs 0 vs := by simp [splice, Nat.add_comm 4 vs.length]
@[go_sem] theorem slabAt5 {x0 x1 x2 x3 x4 : C} {cs : List C} : slab (x0 :: x1 :: x2 :: x3 :: x4 :: cs) 0 5 = some [x0, x1, x2, x3, x4] := by simp [slab]
@[go_sem] theorem slabSkip5 {n : Nat} {x0 x1 x2 x3 x4 : C} {cs : List C} : slab (x0 :: x1 :: x2 :: x3 :: x4 :: cs) 5 n = slab cs 0 n := by simp [slab, Nat.add_comm 5 n]
@[go_sem] theorem spliceAt5 {x0 x1 x2 x3 x4 y0 y1 y2 y3 y4 : C} {cs : List C} : splice (x0 :: x1 :: x2 :: x3 :: x4 :: cs) 0 [y0, y1, y2, y3, y4] = y0 :: y1 :: y2 :: y3 :: y4 :: cs := by simp [splice]
@[go_sem] theorem spliceSkip5 {x0 x1 x2 x3 x4 : C} {cs vs : List C} : splice (x0 :: x1 :: x2 :: x3 :: x4 :: cs) 5 vs = x0 :: x1 :: x2 :: x3 :: x4 :: splice cs 0 vs := by simp [splice, Nat.add_comm 5 vs.length]
@[go_sem] theorem slabAt6 {x0 x1 x2 x3 x4 x5 : C} {cs : List C} : slab (x0 :: x1 :: x2 :: x3 :: x4 :: x5 :: cs) 0 6 = some [x0, x1, x2, x3, x4, x5] := by simp [slab]
@[go_sem] theorem slabSkip6 {n : Nat} {x0 x1 x2 x3 x4 x5 : C} {cs : List C} : slab (x0 :: x1 :: x2 :: x3 :: x4 :: x5 :: cs) 6 n = slab cs 0 n := by simp [slab, Nat.add_comm 6 n]
@[go_sem] theorem spliceAt6 {x0 x1 x2 x3 x4 x5 y0 y1 y2 y3 y4 y5 : C} {cs : List C} : splice (x0 :: x1 :: x2 :: x3 :: x4 :: x5 :: cs) 0 [y0, y1, y2, y3, y4, y5] = y0 :: y1 :: y2 :: y3 :: y4 :: y5 :: cs := by simp [splice]
@[go_sem] theorem spliceSkip6 {x0 x1 x2 x3 x4 x5 : C} {cs vs : List C} : splice (x0 :: x1 :: x2 :: x3 :: x4 :: x5 :: cs) 6 vs = x0 :: x1 :: x2 :: x3 :: x4 :: x5 :: splice cs 0 vs := by simp [splice, Nat.add_comm 6 vs.length]
attribute [go_sem] List.length_cons List.length_nil List.cons_append List.nil_append
theorem wrap_succ {i : Nat} (h : i ≤ lenTop) : IntKind.wrap .i64 ((i : Int) + 1) = ((i + 1 : Nat) : Int) := by
  rw [wrap_i64 (by omega) (by unfold lenTop at h; omega)]; simp
theorem take_snoc {α : Type} {xs : List α} {i : Nat} {x : α} (h : xs[i]? = some x) : xs.take (i + 1) = xs.take i ++ [x] := by
  rw [List.take_add_one, h]; rfl
theorem get_lt {α : Type} {xs : List α} {i : Nat} (h : (i : Int) < xs.length) : ∃ x, xs[i]? = some x := ⟨xs[i]'(by omega), by simp⟩

theorem Codes.does {P : Program} {I : Ids} (K : Codes P I) {f : FuncId} {af : AFunc} {args : List V} {H : Heap} {Post : AV → Heap → Prop} (k : Has P f af) (hn : args.length = af.np)
    (h : ∀ Q : AExit → S → Prop, (∀ x s', Ends af.res Post x s' → Q x s') → RU P [.code af.body] .normal (init args H) Q) : Does P f args H Post :=
  does_of K.mixed k.call k.read hn h
end Go.AX

/- The program's data, and how they lie in memory. No condition. -/
namespace Go.AX

@[ext] structure Rec where
  kind : Int
  trip : Int
  many : List Int
  deriving DecidableEq
@[ext] structure Log where
  recs : List Rec
  forced : Int
  deriving DecidableEq
@[ext] structure Word where
  kind : Int
  house : Int
  trip : Int
  many : Int
  deriving DecidableEq
@[ext] structure Trip where
  many : List Int
  state : Int
  deriving DecidableEq
@[ext] structure Hold where
  many : Int
  state : Int
  deriving DecidableEq
@[ext] structure Stock where
  room : Int
  holds : List Hold
  deriving DecidableEq
@[ext] structure House where
  id : Int
  up : Bool
  room : Int
  log : Log
  deriving DecidableEq
@[ext] structure Desk where
  up : Bool
  log : Log
  told : List Word
  deriving DecidableEq
@[ext] structure Wld where
  desk : Desk
  houses : List House
  nets : List Word
  deriving DecidableEq

def RInt : RepS Int := fun _ cs x F => cs = [.int .i64 x] ∧ F = []
def RWord : RepS Word := fun _ cs x F => cs = [.int .i64 x.kind, .int .i64 x.house, .int .i64 x.trip, .int .i64 x.many] ∧ F = []
def RHold : RepS Hold := fun _ cs x F => cs = [.int .i64 x.many, .int .i64 x.state] ∧ F = []
abbrev Ints := SlR 1 RInt
abbrev Words := SlR 4 RWord
abbrev Holds' := SlR 2 RHold
def RRec : RepS Rec := fun H cs x F => ∃ c, cs = [.int .i64 x.kind, .int .i64 x.trip, c] ∧ Ints H c x.many F
abbrev Recs := SlR 3 RRec
def RLog : RepS Log := fun H cs x F => ∃ c, cs = [c, .int .i64 x.forced] ∧ Recs H c x.recs F
def RTrip : RepS Trip := fun H cs x F => ∃ c, cs = [c, .int .i64 x.state] ∧ Ints H c x.many F
abbrev Trips := SlR 2 RTrip
def RStock : RepS Stock := fun H cs x F => ∃ c, cs = [.int .i64 x.room, c] ∧ Holds' H c x.holds F
def RHouse : RepS House := fun H cs x F => ∃ c, cs = [.int .i64 x.id, .bool x.up, .int .i64 x.room, c, .int .i64 x.log.forced] ∧ Recs H c x.log.recs F
abbrev Houses := SlR 5 RHouse
def RDesk : RepS Desk := fun H cs x F => ∃ c d F1 F2, cs = [.bool x.up, c, .int .i64 x.log.forced, d] ∧ F = F1 ++ F2 ∧ Recs H c x.log.recs F1 ∧ Words H d x.told F2
def RWld : RepS Wld := fun H cs x F => ∃ ds c d F1 F2 F3, cs = ds ++ [c, d] ∧ F = F1 ++ (F2 ++ F3) ∧ RDesk H ds x.desk F1 ∧ Houses H c x.houses F2 ∧ Words H d x.nets F3

theorem RInt.good : Good RInt := ⟨fun _ _ _ _ _ h _ => h, fun _ _ _ _ h => by simp [h.2]⟩
theorem RWord.good : Good RWord := ⟨fun _ _ _ _ _ h _ => h, fun _ _ _ _ h => by simp [h.2]⟩
theorem RHold.good : Good RHold := ⟨fun _ _ _ _ _ h _ => h, fun _ _ _ _ h => by simp [h.2]⟩
theorem RRec.good : Good RRec := ⟨fun _ _ _ _ _ ⟨c, e, h⟩ hf => ⟨c, e, h.frame RInt.good hf⟩, fun _ _ _ _ ⟨_, _, h⟩ => h.lt RInt.good⟩
theorem RLog.good : Good RLog := ⟨fun _ _ _ _ _ ⟨c, e, h⟩ hf => ⟨c, e, h.frame RRec.good hf⟩, fun _ _ _ _ ⟨_, _, h⟩ => h.lt RRec.good⟩
theorem RTrip.good : Good RTrip := ⟨fun _ _ _ _ _ ⟨c, e, h⟩ hf => ⟨c, e, h.frame RInt.good hf⟩, fun _ _ _ _ ⟨_, _, h⟩ => h.lt RInt.good⟩
theorem RStock.good : Good RStock := ⟨fun _ _ _ _ _ ⟨c, e, h⟩ hf => ⟨c, e, h.frame RHold.good hf⟩, fun _ _ _ _ ⟨_, _, h⟩ => h.lt RHold.good⟩
theorem RHouse.good : Good RHouse := ⟨fun _ _ _ _ _ ⟨c, e, h⟩ hf => ⟨c, e, h.frame RRec.good hf⟩, fun _ _ _ _ ⟨_, _, h⟩ => h.lt RRec.good⟩
theorem RDesk.good : Good RDesk := ⟨fun _ _ _ _ _ ⟨c, d, F1, F2, e, ef, h1, h2⟩ hf => ⟨c, d, F1, F2, e, ef, h1.frame RRec.good fun b hb => hf b (by simp [ef, hb]), h2.frame RWord.good fun b hb => hf b (by simp [ef, hb])⟩,
  fun _ _ _ _ ⟨_, _, F1, F2, _, ef, h1, h2⟩ b hb => by
    rw [ef, List.mem_append] at hb
    exact hb.elim (h1.lt RRec.good b) (h2.lt RWord.good b)⟩
theorem RWld.good : Good RWld := ⟨fun _ _ _ _ _ ⟨ds, c, d, F1, F2, F3, e, ef, h1, h2, h3⟩ hf => ⟨ds, c, d, F1, F2, F3, e, ef, RDesk.good.frame _ _ _ _ _ h1 fun b hb => hf b (by simp [ef, hb]), h2.frame RHouse.good fun b hb => hf b (by simp [ef, hb]), h3.frame RWord.good fun b hb => hf b (by simp [ef, hb])⟩,
  fun _ _ _ _ ⟨_, _, _, F1, F2, F3, _, ef, h1, h2, h3⟩ b hb => by
    rw [ef, List.mem_append, List.mem_append] at hb
    exact hb.elim (RDesk.good.lt _ _ _ _ h1 b) fun hb => hb.elim (h2.lt RHouse.good b) (h3.lt RWord.good b)⟩

/-- The blocks of F may be written. -/
def Owned (H : Heap) (F : List Nat) : Prop := F.Nodup ∧ ∀ b ∈ F, ∃ B, H[b]? = some B ∧ B.st = .rw
theorem Step.owned {F F' : List Nat} {H H' : Heap} (h : Step F H H' F') : Owned H' F' := ⟨h.nodup, h.own⟩
theorem Owned.step {F : List Nat} {H : Heap} (h : Owned H F) : Step F H H F := ⟨fun _ _ _ => rfl, Nat.le_refl _, h.1, h.2, fun _ hb => .inl hb⟩
theorem Owned.left {F G : List Nat} {H : Heap} (h : Owned H (F ++ G)) : Owned H F := ⟨(List.nodup_append.1 h.1).1, fun b hb => h.2 b (by simp [hb])⟩
theorem Owned.right {F G : List Nat} {H : Heap} (h : Owned H (F ++ G)) : Owned H G := ⟨(List.nodup_append.1 h.1).2.1, fun b hb => h.2 b (by simp [hb])⟩
theorem Owned.app {F G : List Nat} {H : Heap} (h1 : Owned H F) (h2 : Owned H G) (hd : ∀ b ∈ F, b ∉ G) : Owned H (F ++ G) :=
  ⟨List.nodup_append.2 ⟨h1.1, h2.1, fun a ha b hb e => hd a ha (e ▸ hb)⟩, fun b hb => by
    simp only [List.mem_append] at hb; exact hb.elim (h1.2 b) (h2.2 b)⟩
theorem Owned.disj {F G : List Nat} {H : Heap} (h : Owned H (F ++ G)) : ∀ b ∈ F, b ∉ G := fun b hb hc => (List.nodup_append.1 h.1).2.2 b hb b hc rfl

section focus
variable {α : Type} {n : Nat} {R : RepS α} {H : Heap} {c : C} {xs : List α} {F : List Nat}
theorem splice_mid {p c q c' : List C} (h : c'.length = c.length) : splice (p ++ c ++ q) p.length c' = p ++ c' ++ q := by
  simp only [splice, List.append_assoc]
  rw [List.take_left, h, List.drop_append, List.drop_of_length_le (by omega)]
  simp
theorem fs_split {fs : List (List Nat)} {i : Nat} {f : List Nat} (h : fs[i]? = some f) : ∃ A B, fs.flatten = A ++ f ++ B ∧ ∀ f', (fs.set i f').flatten = A ++ f' ++ B := by
  induction fs generalizing i with
  | nil => simp at h
  | cons g fs ih =>
    cases i with
    | zero => simp at h; subst h; exact ⟨[], fs.flatten, by simp, fun f' => by simp⟩
    | succ i =>
      obtain ⟨A, B, h1, h2⟩ := ih (i := i) (by simpa using h)
      exact ⟨g ++ A, B, by simp [h1], fun f' => by simp [h2]⟩
theorem All3.frameBut (hR : Good R) {H' : Heap} {css : List (List C)} {fs : List (List Nat)} (h : All3 n (R H) css xs fs) {i : Nat} {f f' : List Nat} {cs' : List C} {x' : α} (hi : fs[i]? = some f) (hl : cs'.length = n) (hr : R H' cs' x' f')
    (hn : fs.flatten.Nodup) (hf : ∀ b ∈ fs.flatten, b ∉ f → H'[b]? = H[b]?) : All3 n (R H') (css.set i cs') (xs.set i x') (fs.set i f') := by
  induction h generalizing i with
  | nil => simp at hi
  | @cons c0 x0 f0 cs xs fs h1 h2 h3 ih =>
    rw [List.flatten_cons, List.nodup_append] at hn
    cases i with
    | zero =>
      simp at hi; subst hi
      refine .cons hl hr (h3.mono fun c x g hg hrg => hR.frame _ _ _ _ _ hrg fun b hb => hf b ?_ ?_)
      · simp only [List.flatten_cons, List.mem_append, List.mem_flatten]; exact .inr ⟨g, hg, hb⟩
      · intro hc; exact hn.2.2 b hc b (List.mem_flatten.2 ⟨g, hg, hb⟩) rfl
    | succ i =>
      have hi' : fs[i]? = some f := by simpa using hi
      refine .cons h1 (hR.frame _ _ _ _ _ h2 fun b hb => hf b (by simp [hb]) fun hc => hn.2.2 b hb b (List.mem_flatten.2 ⟨f, List.mem_of_getElem? hi', hc⟩) rfl) (ih hi' hn.2.1 fun b hb hc => hf b (by simp only [List.flatten_cons, List.mem_append]; exact .inr hb) hc)

/-- An element, where it lies, and what the slice becomes where the element changes. -/
theorem SlR.focus (hR : Good R) (h : SlR n R H c xs F) (hn : F.Nodup) {i : Nat} {x : α} (hi : xs[i]? = some x) : ∃ b off bs cs f st A B, c = .sl b off xs.length ∧ H[b]? = some ⟨st, n, bs⟩ ∧ st ≠ .dead ∧ slab bs (off + i * n) n = some cs ∧ cs.length = n ∧
    off + i * n + n ≤ bs.length ∧ R H cs x f ∧ F = A ++ f ++ B ∧ b ∈ A ∧
    ∀ (H' : Heap) (cs' : List C) (x' : α) (f' : List Nat), cs'.length = n → H'[b]? = some ⟨st, n, splice bs (off + i * n) cs'⟩ → (∀ k ∈ A ++ B, k ≠ b → H'[k]? = H[k]?) → R H' cs' x' f' → SlR n R H' c (xs.set i x') (A ++ f' ++ B) := by
  rcases h with ⟨_, rfl, _⟩ | ⟨b, pre, post, css, fs, st, rfl, rfl, h3, h4, h5, h6⟩
  · simp at hi
  · obtain ⟨cs, f, g1, g2, g3, g4⟩ := h5.get hi
    obtain ⟨p, q, e1, e2, e3⟩ := flat_at h5.all_len g1
    obtain ⟨A, B, a1, a2⟩ := fs_split g2
    have hbs : pre ++ css.flatten ++ post = (pre ++ p) ++ cs ++ (q ++ post) := by simp [e1]
    refine ⟨b, pre.length, _, cs, f, st, b :: A, B, rfl, h3, h4, ?_, g3, ?_, g4, by simp [a1], by simp, ?_⟩
    · rw [hbs]; exact slab_mid' (by simp [e2]) g3
    · rw [hbs]; simp [e2, g3]; omega
    · intro H' cs' x' f' hl hb hk hr
      refine .inr ⟨b, pre, post, css.set i cs', fs.set i f', st, by simp, by simp [a2], ?_, h4, ?_, by simpa using h6⟩
      · rw [hb, hbs, show pre.length + i * n = (pre ++ p).length by simp [e2], splice_mid (by rw [hl, g3]), e3]
        simp
      · have hn' := (List.nodup_cons.1 hn)
        refine h5.frameBut hR g2 hl hr hn'.2 fun k hk' hkf => hk k ?_ ?_
        · rw [a1] at hk'
          simp only [List.mem_append, List.mem_cons] at hk' ⊢
          rcases hk' with (hk' | hk') | hk'
          · exact .inl (.inr hk')
          · exact absurd hk' hkf
          · exact .inr hk'
        · rintro rfl; exact hn'.1 hk'
end focus

/-! A write. -/
theorem Heap.own_of {H : Heap} {b n : Nat} {cs : List C} (h : H[b]? = some ⟨.rw, n, cs⟩) : H.own b = some (n, cs) := by unfold Heap.own; rw [h]
theorem Heap.wr_at {H : Heap} {b n : Nat} {st : St} {cs cs' : List C} (h : H[b]? = some ⟨st, n, cs⟩) : (H.wr b cs')[b]? = some ⟨st, n, cs'⟩ := by
  have hlt := (List.getElem?_eq_some_iff.1 h).1
  unfold Heap.wr; rw [h]; simp [hlt]
theorem Heap.wr_ne {H : Heap} {b k : Nat} {cs' : List C} (h : k ≠ b) : (H.wr b cs')[k]? = H[k]? := by
  unfold Heap.wr
  split
  · rw [List.getElem?_set_ne (Ne.symm h)]
  · rfl
theorem Heap.wr_len {H : Heap} {b : Nat} {cs' : List C} : (H.wr b cs').length = H.length := by
  unfold Heap.wr; split <;> simp
theorem Owned.wr {H : Heap} {F : List Nat} (h : Owned H F) {b n : Nat} {cs cs' : List C} (hb : H[b]? = some ⟨.rw, n, cs⟩) : Owned (H.wr b cs') F := ⟨h.1, fun k hk => by
  obtain ⟨B, hB, hs⟩ := h.2 k hk
  by_cases e : k = b
  · subst e; exact ⟨_, Heap.wr_at hb, rfl⟩
  · exact ⟨B, by rw [Heap.wr_ne e]; exact hB, hs⟩⟩
theorem Step.wr {H : Heap} {F : List Nat} (h : Owned H F) {b n : Nat} {cs cs' : List C} (hb : H[b]? = some ⟨.rw, n, cs⟩) (hf : b ∈ F) : Step F H (H.wr b cs') F where
  old := fun k _ hn => Heap.wr_ne fun e => hn (e ▸ hf)
  len := by rw [Heap.wr_len]; exact Nat.le_refl _
  nodup := h.1
  own := (h.wr hb).2
  src := fun _ hb => .inl hb

end Go.AX

/- What the laws' comparing functions return: whether two data are the same. Condition: the data lie in memory. -/
namespace Go.AX
variable {P : Program} {I : Ids}

theorem does_w_lnInts (K : Codes P I) {H : Heap} {a b : C} {xs ys : List Int} {F G : List Nat} (ha : Ints H a xs F) (hb : Ints H b ys G) : Does P I.w_lnInts [.c a, .c b] H fun r H' => r = .val (.c (.bool (decide (xs = ys)))) ∧ H' = H := by
  refine K.does K.w_lnInts rfl fun Q hQ => ?_
  by_cases hl : (xs.length : Int) = ys.length
  · simp only [go_sem, L_w_lnInts, Nat.reduceEqDiff, Nat.reduceAdd, Nat.reduceLeDiff, reduceCtorEq, ha.len, hb.len, hl]
    refine RU_loop (fun m s => ∃ i : Nat, m = xs.length - i ∧ i ≤ xs.length ∧ s.H = H ∧ s.env 0 = .val (.c a) ∧ s.env 1 = .val (.c b) ∧ s.env 5 = .val (.c (.int .i64 i)) ∧ xs.take i = ys.take i) xs.length ⟨0, by simp, by simp, rfl, rfl, rfl, rfl, rfl⟩ ?_
    rintro m s ⟨i, rfl, hi, hH, h0, h1, h5, ht⟩ Q' hN hE hR
    by_cases hlt : (i : Int) < xs.length
    · obtain ⟨x, hx⟩ := get_lt hlt
      obtain ⟨y, hy⟩ : ∃ y, ys[i]? = some y := get_lt (by omega)
      have hlt' : (i : Int) < ys.length := by omega
      have htop := ha.top
      obtain ⟨b1, o1, bs1, cs1, f1, rfl, e1, e2, ⟨rfl, _⟩, _⟩ := ha.get hx
      obtain ⟨b2, o2, bs2, cs2, f2, rfl, g1, g2, ⟨rfl, _⟩, _⟩ := hb.get hy
      by_cases hxy : x = y
      · subst hxy
        simp only [go_sem, Nat.reduceEqDiff, Nat.reduceAdd, Nat.reduceLeDiff, reduceCtorEq, h0, h1, h5, hlt, hlt', hH, e1, e2, g1, g2, lenC, wrap_succ (show i ≤ lenTop by omega)]
        refine hN _ _ (by omega) ⟨i + 1, rfl, by omega, rfl, ?_, ?_, ?_, ?_⟩
        · simp [upd, h0]
        · simp [upd, h1]
        · simp [upd]
        · rw [take_snoc hx, take_snoc hy, ht]
      · simp only [go_sem, Nat.reduceEqDiff, Nat.reduceAdd, Nat.reduceLeDiff, reduceCtorEq, h0, h1, h5, hlt, hlt', hH, e1, e2, g1, g2, lenC, wrap_succ (show i ≤ lenTop by omega), hxy]
        refine hR _ (hQ _ _ (Ends.ret rfl ?_))
        have : xs ≠ ys := fun e => by subst e; rw [hx] at hy; simp at hy; exact hxy hy
        simp [tupOf, this]
    · simp only [go_sem, Nat.reduceEqDiff, Nat.reduceAdd, Nat.reduceLeDiff, reduceCtorEq, h0, h5, hlt, hH, ha.len]
      refine hE _ _ ?_
      simp only [go_sem, Nat.reduceEqDiff, Nat.reduceAdd, Nat.reduceLeDiff, reduceCtorEq]
      refine hQ _ _ (Ends.ret rfl ?_)
      have : xs = ys := by
        rw [List.take_of_length_le (by omega), List.take_of_length_le (by omega)] at ht; exact ht
      simp [tupOf, this]
  · simp only [go_sem, L_w_lnInts, Nat.reduceEqDiff, Nat.reduceAdd, Nat.reduceLeDiff, reduceCtorEq, ha.len, hb.len, hl]
    refine hQ _ _ (Ends.ret rfl ?_)
    have : xs ≠ ys := fun e => hl (by rw [e])
    simp [tupOf, this]

theorem does_w_lnRec (K : Codes P I) {H : Heap} {a b : List C} {x y : Rec} {F G : List Nat} (ha : RRec H a x F) (hb : RRec H b y G) : Does P I.w_lnRec [.agg a, .agg b] H fun r H' => r = .val (.c (.bool (decide (x = y)))) ∧ H' = H := by
  obtain ⟨c, rfl, ha⟩ := ha
  obtain ⟨d, rfl, hb⟩ := hb
  refine K.does K.w_lnRec rfl fun Q hQ => ?_
  by_cases h0 : x.kind = y.kind
  · by_cases h1 : x.trip = y.trip
    · simp only [go_sem, L_w_lnRec, Nat.reduceEqDiff, Nat.reduceAdd, Nat.reduceLeDiff, reduceCtorEq, h0, h1]
      refine Does.call (does_w_lnInts K ha hb) ?_
      rintro _ _ ⟨rfl, rfl⟩
      by_cases h2 : x.many = y.many
      · simp only [go_sem, Nat.reduceEqDiff, Nat.reduceAdd, Nat.reduceLeDiff, reduceCtorEq, h0, h1, h2]
        refine hQ _ _ (Ends.ret rfl ⟨?_, rfl⟩)
        simp [tupOf, Rec.ext_iff, h0, h1, h2]
      · simp only [go_sem, Nat.reduceEqDiff, Nat.reduceAdd, Nat.reduceLeDiff, reduceCtorEq, h0, h1, h2]
        refine hQ _ _ (Ends.ret rfl ⟨?_, rfl⟩)
        simp [tupOf, Rec.ext_iff, h0, h1, h2]
    · simp only [go_sem, L_w_lnRec, Nat.reduceEqDiff, Nat.reduceAdd, Nat.reduceLeDiff, reduceCtorEq, h0, h1]
      refine hQ _ _ (Ends.ret rfl ⟨?_, rfl⟩)
      simp [tupOf, Rec.ext_iff, h0, h1]
  · simp only [go_sem, L_w_lnRec, Nat.reduceEqDiff, Nat.reduceAdd, Nat.reduceLeDiff, reduceCtorEq, h0]
    refine hQ _ _ (Ends.ret rfl ⟨?_, rfl⟩)
    simp [tupOf, Rec.ext_iff, h0]

theorem does_w_lnRecs (K : Codes P I) {H : Heap} {a b : C} {xs ys : List Rec} {F G : List Nat} (ha : Recs H a xs F) (hb : Recs H b ys G) : Does P I.w_lnRecs [.c a, .c b] H fun r H' => r = .val (.c (.bool (decide (xs = ys)))) ∧ H' = H := by
  refine K.does K.w_lnRecs rfl fun Q hQ => ?_
  by_cases hl : (xs.length : Int) = ys.length
  · simp only [go_sem, L_w_lnRecs, Nat.reduceEqDiff, Nat.reduceAdd, Nat.reduceLeDiff, reduceCtorEq, ha.len, hb.len, hl]
    refine RU_loop (fun m s => ∃ i : Nat, m = xs.length - i ∧ i ≤ xs.length ∧ s.H = H ∧ s.env 0 = .val (.c a) ∧ s.env 1 = .val (.c b) ∧ s.env 5 = .val (.c (.int .i64 i)) ∧ xs.take i = ys.take i) xs.length ⟨0, by simp, by simp, rfl, rfl, rfl, rfl, rfl⟩ ?_
    rintro m s ⟨i, rfl, hi, hH, h0, h1, h5, ht⟩ Q' hN hE hR
    by_cases hlt : (i : Int) < xs.length
    · obtain ⟨x, hx⟩ := get_lt hlt
      obtain ⟨y, hy⟩ : ∃ y, ys[i]? = some y := get_lt (by omega)
      have hlt' : (i : Int) < ys.length := by omega
      have htop := ha.top
      obtain ⟨b1, o1, bs1, cs1, f1, rfl, e1, e2, k1, _⟩ := ha.get hx
      obtain ⟨b2, o2, bs2, cs2, f2, rfl, g1, g2, k2, _⟩ := hb.get hy
      simp only [go_sem, Nat.reduceEqDiff, Nat.reduceAdd, Nat.reduceLeDiff, reduceCtorEq, h0, h1, h5, hlt, hlt', hH, e1, e2, g1, g2, lenC, wrap_succ (show i ≤ lenTop by omega)]
      refine Does.call (does_w_lnRec K (by simpa [hH] using k1) (by simpa [hH] using k2)) ?_
      rintro _ _ ⟨rfl, rfl⟩
      by_cases hxy : x = y
      · simp only [go_sem, Nat.reduceEqDiff, Nat.reduceAdd, Nat.reduceLeDiff, reduceCtorEq, h0, h1, h5, hlt, hlt', hH, e1, e2, g1, g2, lenC, wrap_succ (show i ≤ lenTop by omega), hxy]
        refine hN _ _ (by omega) ⟨i + 1, rfl, by omega, by simp [hH], ?_, ?_, ?_, ?_⟩
        · simp [upd, h0]
        · simp [upd, h1]
        · simp [upd]
        · rw [take_snoc hx, take_snoc hy, ht, hxy]
      · simp only [go_sem, Nat.reduceEqDiff, Nat.reduceAdd, Nat.reduceLeDiff, reduceCtorEq, h0, h1, h5, hlt, hlt', hH, e1, e2, g1, g2, lenC, wrap_succ (show i ≤ lenTop by omega), hxy]
        refine hR _ (hQ _ _ (Ends.ret rfl ?_))
        have : xs ≠ ys := fun e => by subst e; rw [hx] at hy; simp at hy; exact hxy hy
        simp [tupOf, this, hH]
    · simp only [go_sem, Nat.reduceEqDiff, Nat.reduceAdd, Nat.reduceLeDiff, reduceCtorEq, h0, h5, hlt, hH, ha.len]
      refine hE _ _ ?_
      simp only [go_sem, Nat.reduceEqDiff, Nat.reduceAdd, Nat.reduceLeDiff, reduceCtorEq]
      refine hQ _ _ (Ends.ret rfl ?_)
      have : xs = ys := by
        rw [List.take_of_length_le (by omega), List.take_of_length_le (by omega)] at ht; exact ht
      simp [tupOf, this]
  · simp only [go_sem, L_w_lnRecs, Nat.reduceEqDiff, Nat.reduceAdd, Nat.reduceLeDiff, reduceCtorEq, ha.len, hb.len, hl]
    refine hQ _ _ (Ends.ret rfl ?_)
    have : xs ≠ ys := fun e => hl (by rw [e])
    simp [tupOf, this]

theorem does_w_lnLog (K : Codes P I) {H : Heap} {a b : List C} {x y : Log} {F G : List Nat} (ha : RLog H a x F) (hb : RLog H b y G) : Does P I.w_lnLog [.agg a, .agg b] H fun r H' => r = .val (.c (.bool (decide (x = y)))) ∧ H' = H := by
  obtain ⟨c, rfl, ha⟩ := ha
  obtain ⟨d, rfl, hb⟩ := hb
  refine K.does K.w_lnLog rfl fun Q hQ => ?_
  by_cases h0 : x.forced = y.forced
  · simp only [go_sem, L_w_lnLog, Nat.reduceEqDiff, Nat.reduceAdd, Nat.reduceLeDiff, reduceCtorEq, h0]
    refine Does.call (does_w_lnRecs K ha hb) ?_
    rintro _ _ ⟨rfl, rfl⟩
    by_cases h1 : x.recs = y.recs
    · simp only [go_sem, Nat.reduceEqDiff, Nat.reduceAdd, Nat.reduceLeDiff, reduceCtorEq, h0, h1]
      refine hQ _ _ (Ends.ret rfl ⟨?_, rfl⟩)
      simp [tupOf, Log.ext_iff, h0, h1]
    · simp only [go_sem, Nat.reduceEqDiff, Nat.reduceAdd, Nat.reduceLeDiff, reduceCtorEq, h0, h1]
      refine hQ _ _ (Ends.ret rfl ⟨?_, rfl⟩)
      simp [tupOf, Log.ext_iff, h0, h1]
  · simp only [go_sem, L_w_lnLog, Nat.reduceEqDiff, Nat.reduceAdd, Nat.reduceLeDiff, reduceCtorEq, h0]
    refine hQ _ _ (Ends.ret rfl ⟨?_, rfl⟩)
    simp [tupOf, Log.ext_iff, h0]

theorem does_w_lnWords (K : Codes P I) {H : Heap} {a b : C} {xs ys : List Word} {F G : List Nat} (ha : Words H a xs F) (hb : Words H b ys G) : Does P I.w_lnWords [.c a, .c b] H fun r H' => r = .val (.c (.bool (decide (xs = ys)))) ∧ H' = H := by
  refine K.does K.w_lnWords rfl fun Q hQ => ?_
  by_cases hl : (xs.length : Int) = ys.length
  · simp only [go_sem, L_w_lnWords, Nat.reduceEqDiff, Nat.reduceAdd, Nat.reduceLeDiff, reduceCtorEq, ha.len, hb.len, hl]
    refine RU_loop (fun m s => ∃ i : Nat, m = xs.length - i ∧ i ≤ xs.length ∧ s.H = H ∧ s.env 0 = .val (.c a) ∧ s.env 1 = .val (.c b) ∧ s.env 5 = .val (.c (.int .i64 i)) ∧ xs.take i = ys.take i) xs.length ⟨0, by simp, by simp, rfl, rfl, rfl, rfl, rfl⟩ ?_
    rintro m s ⟨i, rfl, hi, hH, h0, h1, h5, ht⟩ Q' hN hE hR
    by_cases hlt : (i : Int) < xs.length
    · obtain ⟨x, hx⟩ := get_lt hlt
      obtain ⟨y, hy⟩ : ∃ y, ys[i]? = some y := get_lt (by omega)
      have hlt' : (i : Int) < ys.length := by omega
      have htop := ha.top
      obtain ⟨b1, o1, bs1, cs1, f1, rfl, e1, e2, ⟨rfl, _⟩, _⟩ := ha.get hx
      obtain ⟨b2, o2, bs2, cs2, f2, rfl, g1, g2, ⟨rfl, _⟩, _⟩ := hb.get hy
      by_cases hxy : x = y
      · subst hxy
        simp only [go_sem, Nat.reduceEqDiff, Nat.reduceAdd, Nat.reduceLeDiff, reduceCtorEq, h0, h1, h5, hlt, hlt', hH, e1, e2, g1, g2, lenC, wrap_succ (show i ≤ lenTop by omega), sameC, Bool.and_self, Bool.and_true]
        refine hN _ _ (by omega) ⟨i + 1, rfl, by omega, rfl, ?_, ?_, ?_, ?_⟩
        · simp [upd, h0]
        · simp [upd, h1]
        · simp [upd]
        · rw [take_snoc hx, take_snoc hy, ht]
      · have hd : (decide (x.kind = y.kind) && (decide (x.house = y.house) && (decide (x.trip = y.trip) && (decide (x.many = y.many))))) = false := by
          rw [Bool.eq_false_iff]; intro hc; simp at hc; exact hxy (Word.ext_iff.2 (by simp [hc]))
        simp only [go_sem, Nat.reduceEqDiff, Nat.reduceAdd, Nat.reduceLeDiff, reduceCtorEq, h0, h1, h5, hlt, hlt', hH, e1, e2, g1, g2, lenC, wrap_succ (show i ≤ lenTop by omega), sameC, Bool.and_true, hd]
        refine hR _ (hQ _ _ (Ends.ret rfl ?_))
        have : xs ≠ ys := fun e => by subst e; rw [hx] at hy; simp at hy; exact hxy hy
        simp [tupOf, this]
    · simp only [go_sem, Nat.reduceEqDiff, Nat.reduceAdd, Nat.reduceLeDiff, reduceCtorEq, h0, h5, hlt, hH, ha.len]
      refine hE _ _ ?_
      simp only [go_sem, Nat.reduceEqDiff, Nat.reduceAdd, Nat.reduceLeDiff, reduceCtorEq]
      refine hQ _ _ (Ends.ret rfl ?_)
      have : xs = ys := by
        rw [List.take_of_length_le (by omega), List.take_of_length_le (by omega)] at ht; exact ht
      simp [tupOf, this]
  · simp only [go_sem, L_w_lnWords, Nat.reduceEqDiff, Nat.reduceAdd, Nat.reduceLeDiff, reduceCtorEq, ha.len, hb.len, hl]
    refine hQ _ _ (Ends.ret rfl ?_)
    have : xs ≠ ys := fun e => hl (by rw [e])
    simp [tupOf, this]

theorem does_w_lnDesk (K : Codes P I) {H : Heap} {a b : List C} {x y : Desk} {F G : List Nat} (ha : RDesk H a x F) (hb : RDesk H b y G) : Does P I.w_lnDesk [.agg a, .agg b] H fun r H' => r = .val (.c (.bool (decide (x = y)))) ∧ H' = H := by
  obtain ⟨c, d, F1, F2, rfl, _, ha, ha'⟩ := ha
  obtain ⟨c', d', G1, G2, rfl, _, hb, hb'⟩ := hb
  refine K.does K.w_lnDesk rfl fun Q hQ => ?_
  by_cases h0 : x.up = y.up
  · simp only [go_sem, L_w_lnDesk, Nat.reduceEqDiff, Nat.reduceAdd, Nat.reduceLeDiff, reduceCtorEq, h0]
    refine Does.call (does_w_lnLog K ⟨c, rfl, ha⟩ ⟨_, rfl, hb⟩) ?_
    rintro _ _ ⟨rfl, rfl⟩
    by_cases h1 : x.log = y.log
    · simp only [go_sem, Nat.reduceEqDiff, Nat.reduceAdd, Nat.reduceLeDiff, reduceCtorEq, h0, h1]
      refine Does.call (does_w_lnWords K ha' hb') ?_
      rintro _ _ ⟨rfl, rfl⟩
      by_cases h2 : x.told = y.told
      · simp only [go_sem, Nat.reduceEqDiff, Nat.reduceAdd, Nat.reduceLeDiff, reduceCtorEq, h0, h1, h2]
        refine hQ _ _ (Ends.ret rfl ⟨?_, rfl⟩)
        simp [tupOf, Desk.ext_iff, h0, h1, h2]
      · simp only [go_sem, Nat.reduceEqDiff, Nat.reduceAdd, Nat.reduceLeDiff, reduceCtorEq, h0, h1, h2]
        refine hQ _ _ (Ends.ret rfl ⟨?_, rfl⟩)
        simp [tupOf, Desk.ext_iff, h0, h1, h2]
    · simp only [go_sem, Nat.reduceEqDiff, Nat.reduceAdd, Nat.reduceLeDiff, reduceCtorEq, h0, h1]
      refine hQ _ _ (Ends.ret rfl ⟨?_, rfl⟩)
      simp [tupOf, Desk.ext_iff, h0, h1]
  · simp only [go_sem, L_w_lnDesk, Nat.reduceEqDiff, Nat.reduceAdd, Nat.reduceLeDiff, reduceCtorEq, h0]
    refine hQ _ _ (Ends.ret rfl ⟨?_, rfl⟩)
    simp [tupOf, Desk.ext_iff, h0]

end Go.AX

/- Writes into an element, and lists that are numbered through. No condition. -/
namespace Go.AX
attribute [go_sem] ne_eq List.set_cons_zero List.set_cons_succ

theorem slab_parts {bs cs : List C} {p n : Nat} (h : slab bs p n = some cs) : ∃ a q, bs = a ++ cs ++ q ∧ a.length = p ∧ cs.length = n := by
  unfold slab at h
  split at h
  · rename_i hle
    simp only [Option.some.injEq] at h
    refine ⟨bs.take p, bs.drop (p + n), ?_, by simp; omega, by rw [← h]; simp; omega⟩
    rw [← h, List.append_assoc, ← List.drop_drop, List.take_append_drop, List.take_append_drop]
  · simp at h
theorem slab_sub {bs cs : List C} {p n : Nat} (h : slab bs p n = some cs) (j l : Nat) (hj : j + l ≤ n) : slab bs (p + j) l = slab cs j l := by
  obtain ⟨a, q, rfl, rfl, rfl⟩ := slab_parts h
  unfold slab
  rw [if_pos (by simp; omega), if_pos hj, List.append_assoc, List.drop_length_add_append, List.drop_append_of_le_length (by omega), List.take_append_of_le_length (by simp; omega)]
theorem slab_sub0 {bs cs : List C} {p n : Nat} (h : slab bs p n = some cs) (l : Nat) (hj : l ≤ n) : slab bs p l = slab cs 0 l := slab_sub h 0 l (by omega)
theorem splice_in {bs cs : List C} {p n : Nat} (h : slab bs p n = some cs) (j : Nat) (v : List C) (hj : j + v.length ≤ n) : splice bs (p + j) v = splice bs p (splice cs j v) := by
  obtain ⟨a, q, rfl, rfl, rfl⟩ := slab_parts h
  have hl : (splice cs j v).length = cs.length := by simp [splice]; omega
  rw [splice_mid hl]
  simp only [splice, List.append_assoc]
  rw [List.take_length_add_append, List.take_append_of_le_length (by omega)]
  rw [Nat.add_assoc, List.drop_length_add_append, List.drop_append_of_le_length (by omega)]
  simp
theorem splice_twice {bs cs c1 c2 : List C} {p n : Nat} (h : slab bs p n = some cs) (h1 : c1.length = n) (h2 : c2.length = n) : splice (splice bs p c1) p c2 = splice bs p c2 := by
  obtain ⟨a, q, rfl, rfl, rfl⟩ := slab_parts h
  rw [splice_mid h1, splice_mid h2, splice_mid (by omega)]
theorem slab_splice {bs cs c1 : List C} {p n : Nat} (h : slab bs p n = some cs) (h1 : c1.length = n) : slab (splice bs p c1) p n = some c1 := by
  obtain ⟨a, q, rfl, rfl, rfl⟩ := slab_parts h
  rw [splice_mid h1]; exact slab_mid' rfl h1

/-- A write of cells into an element. -/
theorem store_in {H : Heap} {b n m p : Nat} {bs cs : List C} (hb : H[b]? = some ⟨.rw, n, bs⟩) (h : slab bs p m = some cs) (j : Nat) (v : List C) (hj : j + v.length ≤ m) :
    ∃ H' bs', H.wr b (splice bs (p + j) v) = H' ∧ H'[b]? = some ⟨.rw, n, bs'⟩ ∧ slab bs' p m = some (splice cs j v) ∧ H.own b = some (n, bs) ∧ p + j + v.length ≤ bs.length ∧ (∀ k, k ≠ b → H'[k]? = H[k]?) ∧ H'.length = H.length ∧ bs' = splice bs p (splice cs j v) ∧
      ∀ c1 : List C, c1.length = m → splice bs' p c1 = splice bs p c1 := by
  have hl : (splice cs j v).length = m := by
    obtain ⟨a, q, rfl, rfl, rfl⟩ := slab_parts h
    simp [splice]; omega
  refine ⟨_, splice bs p (splice cs j v), rfl, by rw [splice_in h j v hj]; exact Heap.wr_at hb, slab_splice h hl, Heap.own_of hb, ?_, fun k hk => Heap.wr_ne hk, Heap.wr_len, rfl, fun c1 h1 => splice_twice h hl h1⟩
  obtain ⟨a, q, rfl, rfl, rfl⟩ := slab_parts h
  simp; omega

/-! Lists numbered through. -/
def sumL {α : Type} (cnt : α → Nat) (xs : List α) : Nat := (xs.map cnt).sum
def mkL {α : Type} (m : α → Int → α) (cnt : α → Nat) : List α → Int → List α
  | [], _ => []
  | x :: r, k => m x k :: mkL m cnt r (k + cnt x)
section mk
variable {α : Type} {m : α → Int → α} {cnt : α → Nat} {xs : List α} {k : Int}
theorem mkL_len : (mkL m cnt xs k).length = xs.length := by
  induction xs generalizing k with
  | nil => rfl
  | cons x r ih => simp [mkL, ih]
theorem mkL_app {ys : List α} : mkL m cnt (xs ++ ys) k = mkL m cnt xs k ++ mkL m cnt ys (k + sumL cnt xs) := by
  induction xs generalizing k with
  | nil => simp [mkL, sumL]
  | cons x r ih => simp [mkL, ih, sumL, Int.add_assoc]
theorem sumL_app {ys : List α} : sumL cnt (xs ++ ys) = sumL cnt xs + sumL cnt ys := by simp [sumL]
theorem sumL_take {i : Nat} {x : α} (h : xs[i]? = some x) : sumL cnt (xs.take (i + 1)) = sumL cnt (xs.take i) + cnt x := by rw [take_snoc h, sumL_app]; simp [sumL]
theorem sumL_le (i : Nat) : sumL cnt (xs.take i) ≤ sumL cnt xs := by
  have := sumL_app (cnt := cnt) (xs := xs.take i) (ys := xs.drop i)
  rw [List.take_append_drop] at this; omega
/-- The first i of them are numbered. -/
def mkTo (m : α → Int → α) (cnt : α → Nat) (xs : List α) (k : Int) (i : Nat) : List α := mkL m cnt (xs.take i) k ++ xs.drop i
theorem mkTo_zero : mkTo m cnt xs k 0 = xs := by simp [mkTo, mkL]
theorem mkTo_all {i : Nat} (h : xs.length ≤ i) : mkTo m cnt xs k i = mkL m cnt xs k := by simp [mkTo, List.take_of_length_le h, List.drop_of_length_le h]
theorem mkTo_len {i : Nat} : (mkTo m cnt xs k i).length = xs.length := by simp [mkTo, mkL_len]; omega
theorem mkTo_get {i : Nat} {x : α} (h : xs[i]? = some x) : (mkTo m cnt xs k i)[i]? = some x := by
  have hi := (List.getElem?_eq_some_iff.1 h).1
  rw [mkTo, List.getElem?_append_right (by simp [mkL_len]; omega)]
  simp [mkL_len, Nat.min_eq_left (Nat.le_of_lt hi), h]
theorem mkTo_set {i : Nat} {x : α} (h : xs[i]? = some x) : (mkTo m cnt xs k i).set i (m x (k + sumL cnt (xs.take i))) = mkTo m cnt xs k (i + 1) := by
  have hi := (List.getElem?_eq_some_iff.1 h).1
  have hd : xs.drop i = x :: xs.drop (i + 1) := by
    rw [List.drop_eq_getElem_cons hi]; congr 1
    have := List.getElem?_eq_getElem hi; rw [h] at this; simpa using this.symm
  unfold mkTo
  rw [take_snoc h, mkL_app, hd, List.set_append_right _ _ (by simp [mkL_len]; omega)]
  simp [mkL_len, Nat.min_eq_left (Nat.le_of_lt hi), mkL]
/-- An element behind the numbering. -/
theorem mkL_get {i : Nat} {x : α} (h : xs[i]? = some x) : (mkL m cnt xs k)[i]? = some (m x (k + sumL cnt (xs.take i))) := by
  induction xs generalizing k i with
  | nil => simp at h
  | cons y r ih =>
    cases i with
    | zero => simp at h; subst h; simp [mkL, sumL]
    | succ i => simp only [mkL, List.getElem?_cons_succ] at h ⊢; rw [ih h]; simp [sumL, Int.add_assoc]
end mk

def one (_ : Int) : Nat := 1
def mkInts (xs : List Int) (k : Int) : List Int := mkL (fun _ k => k) one xs k
def cntRec (r : Rec) : Nat := 2 + sumL one r.many
def mkRec (r : Rec) (k : Int) : Rec := ⟨k, k + 1, mkInts r.many (k + 2)⟩
def cntRecs := sumL cntRec
def mkRecs := mkL mkRec cntRec
def mkLog (l : Log) (k : Int) : Log := ⟨mkRecs l.recs k, l.forced⟩
def cntTrip (t : Trip) : Nat := sumL one t.many + 1
def mkTrip (t : Trip) (k : Int) : Trip := ⟨mkInts t.many k, k + sumL one t.many⟩
def four (_ : Word) : Nat := 4
def mkWord (_ : Word) (k : Int) : Word := ⟨k, k + 1, k + 2, k + 3⟩
def two (_ : Hold) : Nat := 2
def mkHold (_ : Hold) (k : Int) : Hold := ⟨k, k + 1⟩
def cntHouse (h : House) : Nat := 3 + cntRecs h.log.recs + 1
def mkHouse (h : House) (k : Int) : House := ⟨k, decide ((k + 1).tmod 3 = 0), k + 2, ⟨mkRecs h.log.recs (k + 3), k + 3 + cntRecs h.log.recs⟩⟩
def cntDesk (d : Desk) : Nat := cntRecs d.log.recs + sumL four d.told
def mkDesk (d : Desk) (k : Int) : Desk := ⟨d.up, mkLog d.log k, mkL mkWord four d.told (k + cntRecs d.log.recs)⟩
theorem wrap_nat {k : Int} (j : Int) (h0 : 0 ≤ k + j) (h1 : k + j ≤ lenTop) : IntKind.wrap .i64 (k + j) = k + j := wrap_i64 (by omega) (by unfold lenTop at h1; omega)
end Go.AX
namespace Go.AX
/-- One element is changed. -/
theorem elem_step {H H' : Heap} {F A f B : List Nat} {b : Nat} (ho : Owned H F) (hF : F = A ++ f ++ B) (hbA : b ∈ A) (hb : ∃ B, H'[b]? = some B ∧ B.st = .rw) (hf : ∀ k ∈ f, ∃ B, H'[k]? = some B ∧ B.st = .rw)
    (oth : ∀ k, k < H.length → k ≠ b → k ∉ f → H'[k]? = H[k]?) (len : H.length ≤ H'.length) : Step F H H' F ∧ ∀ k ∈ A ++ B, k ≠ b → H'[k]? = H[k]? := by
  subst hF
  have hn := ho.1
  have h2 : ∀ k ∈ A ++ B, k ≠ b → H'[k]? = H[k]? := fun k hk hkb => by
    obtain ⟨B', hB, _⟩ := ho.2 k (by simp only [List.mem_append] at hk ⊢; exact hk.elim (fun h => .inl (.inl h)) .inr)
    refine oth k (List.getElem?_eq_some_iff.1 hB).1 hkb fun hc => ?_
    rw [List.nodup_append, List.nodup_append] at hn
    simp only [List.mem_append] at hk
    rcases hk with hk | hk
    · exact hn.1.2.2 k hk k hc rfl
    · exact hn.2.2 k (by simp [hc]) k hk rfl
  refine ⟨⟨fun k hk hkn => oth k hk (fun e => hkn (by simp [e, hbA])) fun hc => hkn (by simp [hc]), len, hn, fun k hk => ?_, fun k hk => .inl hk⟩, h2⟩
  by_cases hkb : k = b
  · subst hkb; exact hb
  · by_cases hkf : k ∈ f
    · exact hf k hkf
    · rw [h2 k (by simp only [List.mem_append] at hk ⊢; exact hk.elim (fun h => h.elim .inl fun h => absurd h hkf) .inr) hkb]
      exact ho.2 k hk
theorem focus_ne {F A f B : List Nat} {b : Nat} (hn : F.Nodup) (hF : F = A ++ f ++ B) (hbA : b ∈ A) : ∀ k ∈ f, k ≠ b := by
  subst hF
  rw [List.nodup_append, List.nodup_append] at hn
  rintro k hk rfl
  exact hn.1.2.2 k hbA k hk rfl
theorem Owned.mid {H : Heap} {F A f B : List Nat} (ho : Owned H F) (hF : F = A ++ f ++ B) : Owned H f := by
  subst hF; exact ho.left.right
theorem Owned.frame {H H' : Heap} {F : List Nat} (ho : Owned H F) (h : ∀ k ∈ F, H'[k]? = H[k]?) : Owned H' F := ⟨ho.1, fun k hk => by rw [h k hk]; exact ho.2 k hk⟩
theorem Owned.st {H : Heap} {F : List Nat} (ho : Owned H F) {b n : Nat} {st : St} {cs : List C} (hb : b ∈ F) (h : H[b]? = some ⟨st, n, cs⟩) : st = .rw := by
  obtain ⟨B, hB, hs⟩ := ho.2 b hb
  rw [h] at hB; cases hB; exact hs
theorem get_len {H : Heap} {b : Nat} {B : Blk} (h : H[b]? = some B) : b < H.length := (List.getElem?_eq_some_iff.1 h).1
end Go.AX

/- What the laws' numbering functions do: they write numbers through all cells. Condition: the blocks are one's own. -/
namespace Go.AX
variable {P : Program} {I : Ids}

theorem Step.right {F G G1 : List Nat} {H H' : Heap} (ho : Owned H (F ++ G)) (h : Step G H H' G1) : Step (F ++ G) H H' (F ++ G1) := ho.step.beside h rfl
theorem Step.left {F G F1 : List Nat} {H H' : Heap} (ho : Owned H (F ++ G)) (h : Step F H H' F1) : Step (F ++ G) H H' (F1 ++ G) :=
  (Step.perm (ho.step.perm List.perm_append_comm |>.beside h rfl) List.perm_append_comm)
def cntWld (x : Wld) : Nat := (sumL cntRec x.desk.log.recs + sumL four x.desk.told) + (sumL cntHouse x.houses + sumL four x.nets)
def mkWld (x : Wld) (k : Int) : Wld := ⟨mkDesk x.desk k, mkL mkHouse cntHouse x.houses (k + (sumL cntRec x.desk.log.recs + sumL four x.desk.told)), mkL mkWord four x.nets (k + (sumL cntRec x.desk.log.recs + sumL four x.desk.told) + sumL cntHouse x.houses)⟩
end Go.AX

/- What the laws' looking functions return over what was numbered through. Condition: the data lie in memory. -/
namespace Go.AX
variable {P : Program} {I : Ids}

end Go.AX

/- A new desk, and the exact law of it. No condition. -/
namespace Go.AX
variable {P : Program} {I : Ids}

theorem Step.new {H H' : Heap} {F : List Nat} (h : Step [] H H' F) {b : Nat} (hb : b < H.length) : b ∉ F := fun hc => by
  rcases h.src b hc with h | h
  · simp at h
  · omega
/-- What was there stays. -/
theorem Step.stay {H H' : Heap} {F : List Nat} (h : Step [] H H' F) {α : Type} {R : RepS α} (hR : Good R) {cs : List C} {x : α} {G : List Nat} (hr : R H cs x G) : R H' cs x G := h.keep hR hr fun _ _ => by simp
def desk0 : Desk := ⟨true, ⟨[], 0⟩, []⟩
theorem does_s_DeskNew (K : Codes P I) {H : Heap} : Does P I.s_DeskNew [] H fun r H' => ∃ cs F, cs.length = 4 ∧ r = .val (.agg cs) ∧ Step [] H H' F ∧ RDesk H' cs desk0 F := by
  refine K.does K.s_DeskNew rfl fun Q hQ => ?_
  simp only [go_sem, L_s_DeskNew, Nat.reduceEqDiff, Nat.reduceAdd, Nat.reduceMul, Nat.reduceLeDiff, Int.reduceEq, reduceCtorEq]
  exact hQ _ _ (Ends.ret rfl ⟨_, [], rfl, rfl, Step.refl _, _, _, [], [], rfl, rfl, .emp, .emp⟩)
theorem len2 {l : List C} (h : l.length = 2) : ∃ a b, l = [a, b] := by
  match l, h with
  | [a, b], _ => exact ⟨a, b, rfl⟩
theorem len3 {l : List C} (h : l.length = 3) : ∃ a b c, l = [a, b, c] := by
  match l, h with
  | [a, b, c], _ => exact ⟨a, b, c, rfl⟩
theorem len4 {l : List C} (h : l.length = 4) : ∃ a b c d, l = [a, b, c, d] := by
  match l, h with
  | [a, b, c, d], _ => exact ⟨a, b, c, d, rfl⟩
theorem len5 {l : List C} (h : l.length = 5) : ∃ a b c d e, l = [a, b, c, d, e] := by
  match l, h with
  | [a, b, c, d, e], _ => exact ⟨a, b, c, d, e, rfl⟩
theorem len6 {l : List C} (h : l.length = 6) : ∃ a b c d e f, l = [a, b, c, d, e, f] := by
  match l, h with
  | [a, b, c, d, e, f], _ => exact ⟨a, b, c, d, e, f, rfl⟩
theorem RRec.cells {H : Heap} {cs : List C} {x : Rec} {F : List Nat} (h : RRec H cs x F) : cs.length = 3 := by obtain ⟨c, rfl, _⟩ := h; rfl
theorem RLog.cells {H : Heap} {cs : List C} {x : Log} {F : List Nat} (h : RLog H cs x F) : cs.length = 2 := by obtain ⟨c, rfl, _⟩ := h; rfl
theorem RTrip.cells {H : Heap} {cs : List C} {x : Trip} {F : List Nat} (h : RTrip H cs x F) : cs.length = 2 := by obtain ⟨c, rfl, _⟩ := h; rfl
theorem RStock.cells {H : Heap} {cs : List C} {x : Stock} {F : List Nat} (h : RStock H cs x F) : cs.length = 2 := by obtain ⟨c, rfl, _⟩ := h; rfl
theorem RHouse.cells {H : Heap} {cs : List C} {x : House} {F : List Nat} (h : RHouse H cs x F) : cs.length = 5 := by obtain ⟨c, rfl, _⟩ := h; rfl
theorem RDesk.cells {H : Heap} {cs : List C} {x : Desk} {F : List Nat} (h : RDesk H cs x F) : cs.length = 4 := by obtain ⟨c, d, F1, F2, rfl, _⟩ := h; rfl
theorem RWld.cells {H : Heap} {cs : List C} {x : Wld} {F : List Nat} (h : RWld H cs x F) : cs.length = 6 := by obtain ⟨ds, c, d, F1, F2, F3, rfl, _, h, _⟩ := h; simp [h.cells]

end Go.AX

/- What the small tests of the program and of its reference return: ranges, records, logs. Condition: the data lie in memory. -/
namespace Go.AX
variable {P : Program} {I : Ids}
abbrev int (n : Int) : V := .c (.int .i64 n)
abbrev bool (b : Bool) : AV := .val (.c (.bool b))
def inB (n lo hi : Int) : Bool := decide (lo ≤ n) && decide (n ≤ hi)
def manyOk (ms : List Int) : Bool := decide (ms.length = 3) && (ms.all (inB · 0 3) && ms.any fun n => decide (n ≠ 0))
def recOk (r : Rec) : Bool := inB r.trip 1 6 && (if r.kind = 1 then decide (r.many.length = 1) && r.many.all (inB · 1 3) else if r.kind = 4 then manyOk r.many else inB r.kind 2 7 && decide (r.many.length = 0))
def logOk (l : Log) : Bool := l.recs.all recOk && (decide (l.recs.length ≤ 40) && inB l.forced 0 l.recs.length)

theorem does_s_l6In (K : Codes P I) {H : Heap} {a b c : Int} : Does P I.s_l6In [int a, int b, int c] H fun r H' => r = bool (inB a b c) ∧ H' = H := by
  refine K.does K.s_l6In rfl fun Q hQ => ?_
  by_cases h : b ≤ a
  · simp only [go_sem, L_s_l6In, Nat.reduceEqDiff, Nat.reduceAdd, Nat.reduceMul, Nat.reduceLeDiff, Int.reduceEq, Int.reduceLT, Int.reduceLE, Int.reduceAdd, Int.reduceNeg, reduceCtorEq, h]
    exact hQ _ _ (Ends.ret rfl ⟨by simp [tupOf, inB, h], rfl⟩)
  · simp only [go_sem, L_s_l6In, Nat.reduceEqDiff, Nat.reduceAdd, Nat.reduceMul, Nat.reduceLeDiff, Int.reduceEq, Int.reduceLT, Int.reduceLE, Int.reduceAdd, Int.reduceNeg, reduceCtorEq, h]
    exact hQ _ _ (Ends.ret rfl ⟨by simp [tupOf, inB, h], rfl⟩)
theorem does_i_in (K : Codes P I) {H : Heap} {a b c : Int} : Does P I.i_in [int a, int b, int c] H fun r H' => r = bool (inB a b c) ∧ H' = H := by
  refine K.does K.i_in rfl fun Q hQ => ?_
  by_cases h : b ≤ a
  · simp only [go_sem, L_i_in, Nat.reduceEqDiff, Nat.reduceAdd, Nat.reduceMul, Nat.reduceLeDiff, Int.reduceEq, Int.reduceLT, Int.reduceLE, Int.reduceAdd, Int.reduceNeg, reduceCtorEq, h]
    exact hQ _ _ (Ends.ret rfl ⟨by simp [tupOf, inB, h], rfl⟩)
  · simp only [go_sem, L_i_in, Nat.reduceEqDiff, Nat.reduceAdd, Nat.reduceMul, Nat.reduceLeDiff, Int.reduceEq, Int.reduceLT, Int.reduceLE, Int.reduceAdd, Int.reduceNeg, reduceCtorEq, h]
    exact hQ _ _ (Ends.ret rfl ⟨by simp [tupOf, inB, h], rfl⟩)
theorem does_i_isTrip (K : Codes P I) {H : Heap} {a : Int} : Does P I.i_isTrip [int a] H fun r H' => r = bool (inB a 1 6) ∧ H' = H := by
  refine K.does K.i_isTrip rfl fun Q hQ => ?_
  simp only [go_sem, L_i_isTrip, Nat.reduceEqDiff, Nat.reduceAdd, Nat.reduceMul, Nat.reduceLeDiff, Int.reduceEq, Int.reduceLT, Int.reduceLE, Int.reduceAdd, Int.reduceNeg, reduceCtorEq]
  refine Does.call (does_i_in K) ?_
  rintro _ H ⟨rfl, rfl⟩
  simp only [go_sem, Nat.reduceEqDiff, Nat.reduceAdd, Nat.reduceMul, Nat.reduceLeDiff, Int.reduceEq, Int.reduceLT, Int.reduceLE, Int.reduceAdd, Int.reduceNeg, reduceCtorEq]
  exact hQ _ _ (Ends.ret rfl ⟨rfl, rfl⟩)
theorem does_i_isHouse (K : Codes P I) {H : Heap} {a : Int} : Does P I.i_isHouse [int a] H fun r H' => r = bool (inB a 1 3) ∧ H' = H := by
  refine K.does K.i_isHouse rfl fun Q hQ => ?_
  simp only [go_sem, L_i_isHouse, Nat.reduceEqDiff, Nat.reduceAdd, Nat.reduceMul, Nat.reduceLeDiff, Int.reduceEq, Int.reduceLT, Int.reduceLE, Int.reduceAdd, Int.reduceNeg, reduceCtorEq]
  refine Does.call (does_i_in K) ?_
  rintro _ H ⟨rfl, rfl⟩
  simp only [go_sem, Nat.reduceEqDiff, Nat.reduceAdd, Nat.reduceMul, Nat.reduceLeDiff, Int.reduceEq, Int.reduceLT, Int.reduceLE, Int.reduceAdd, Int.reduceNeg, reduceCtorEq]
  exact hQ _ _ (Ends.ret rfl ⟨rfl, rfl⟩)
/-- A test that a function value is. -/
def Tests (P : Program) (f : FuncId) (H : Heap) (v : V) (b : Bool) : Prop := Does P f [v] H fun r H' => r = bool b ∧ H' = H
theorem does_g_IndexFunc_int (K : Codes P I) {H : Heap} {c : C} {xs : List Int} {F : List Nat} (h : Ints H c xs F) {f : FuncId} (t : Int → Bool) (ht : ∀ cs x f', x ∈ xs → RInt H cs x f' → cs.length = 1 → Tests P f H (int x) (t x)) :
    Does P I.g_IndexFunc_int [.c c, .c (.fn f)] H fun r H' => (∃ k : Int, r = .val (int k) ∧ decide (0 ≤ k) = xs.any t) ∧ H' = H := by
  refine K.does K.g_IndexFunc_int rfl fun Q hQ => ?_
  have htop := h.top
  simp only [go_sem, L_g_IndexFunc_int, Nat.reduceEqDiff, Nat.reduceAdd, Nat.reduceMul, Nat.reduceLeDiff, Int.reduceEq, Int.reduceLT, Int.reduceLE, Int.reduceAdd, Int.reduceNeg, reduceCtorEq, h.len]
  refine RU_loop (fun m s => ∃ i : Nat, m = xs.length - i ∧ i ≤ xs.length ∧ s.H = H ∧ s.env 0 = .val (.c c) ∧ s.env 1 = .val (.c (.fn f)) ∧ s.env 7 = .val (int xs.length) ∧ s.env 8 = .val (int i) ∧ (xs.take i).any t = false) xs.length ⟨0, by simp, by simp, rfl, rfl, rfl, rfl, rfl, rfl⟩ ?_
  rintro m s ⟨i, rfl, hi, hH, h0, h1, h7, h8, hn⟩ Q' hN hE hR
  by_cases hlt : (i : Int) < xs.length
  · obtain ⟨x, hx⟩ := get_lt hlt
    obtain ⟨b1, o1, bs1, cs1, f1, rfl, e1, e2, hr, hl, _⟩ := h.get hx
    have htx := ht cs1 x f1 (List.mem_of_getElem? hx) hr hl
    obtain ⟨rfl, _⟩ := hr
    simp only [go_sem, Nat.reduceEqDiff, Nat.reduceAdd, Nat.reduceMul, Nat.reduceLeDiff, Int.reduceEq, Int.reduceLT, Int.reduceLE, Int.reduceAdd, Int.reduceNeg, reduceCtorEq, h0, h1, h7, h8, hlt, hH, e1, e2, lenC, wrap_succ (show i ≤ lenTop by omega)]
    refine Does.call htx ?_
    rintro _ H ⟨rfl, rfl⟩
    cases hb : t x with
    | true =>
      simp only [go_sem, Nat.reduceEqDiff, Nat.reduceAdd, Nat.reduceMul, Nat.reduceLeDiff, Int.reduceEq, Int.reduceLT, Int.reduceLE, Int.reduceAdd, Int.reduceNeg, reduceCtorEq, hb]
      refine hR _ (hQ _ _ (Ends.ret rfl ⟨⟨_, rfl, ?_⟩, by simp [hH]⟩))
      have : xs.any t = true := List.any_eq_true.2 ⟨x, List.mem_of_getElem? hx, hb⟩
      simp [this]
    | false =>
      simp only [go_sem, Nat.reduceEqDiff, Nat.reduceAdd, Nat.reduceMul, Nat.reduceLeDiff, Int.reduceEq, Int.reduceLT, Int.reduceLE, Int.reduceAdd, Int.reduceNeg, reduceCtorEq, h7, h8, hb, wrap_succ (show i ≤ lenTop by omega)]
      refine hN _ _ (by omega) ⟨i + 1, rfl, by omega, by simp [hH], by simp [upd, h0], by simp [upd, h1], by simp [upd, h7], by simp [upd], ?_⟩
      rw [take_snoc hx]; simp only [List.any_append, hn, List.any_cons, hb, List.any_nil, Bool.or_self]
  · simp only [go_sem, Nat.reduceEqDiff, Nat.reduceAdd, Nat.reduceMul, Nat.reduceLeDiff, Int.reduceEq, Int.reduceLT, Int.reduceLE, Int.reduceAdd, Int.reduceNeg, reduceCtorEq, h7, h8, hlt, hH]
    refine hE _ _ ?_
    simp only [go_sem, Nat.reduceEqDiff, Nat.reduceAdd, Nat.reduceMul, Nat.reduceLeDiff, Int.reduceEq, Int.reduceLT, Int.reduceLE, Int.reduceAdd, Int.reduceNeg, reduceCtorEq]
    refine hQ _ _ (Ends.ret rfl ⟨⟨-1, rfl, ?_⟩, rfl⟩)
    rw [List.take_of_length_le (by omega)] at hn
    rw [hn]; rfl
theorem does_g_ContainsFunc_int (K : Codes P I) {H : Heap} {c : C} {xs : List Int} {F : List Nat} (h : Ints H c xs F) {f : FuncId} (t : Int → Bool) (ht : ∀ cs x f', x ∈ xs → RInt H cs x f' → cs.length = 1 → Tests P f H (int x) (t x)) :
    Does P I.g_ContainsFunc_int [.c c, .c (.fn f)] H fun r H' => r = bool (xs.any t) ∧ H' = H := by
  refine K.does K.g_ContainsFunc_int rfl fun Q hQ => ?_
  simp only [go_sem, L_g_ContainsFunc_int, Nat.reduceEqDiff, Nat.reduceAdd, Nat.reduceMul, Nat.reduceLeDiff, Int.reduceEq, Int.reduceLT, Int.reduceLE, Int.reduceAdd, Int.reduceNeg, reduceCtorEq]
  refine Does.call (does_g_IndexFunc_int K h t ht) ?_
  rintro _ H ⟨⟨k, rfl, hk⟩, rfl⟩
  simp only [go_sem, Nat.reduceEqDiff, Nat.reduceAdd, Nat.reduceMul, Nat.reduceLeDiff, Int.reduceEq, Int.reduceLT, Int.reduceLE, Int.reduceAdd, Int.reduceNeg, reduceCtorEq, hk]
  exact hQ _ _ (Ends.ret rfl ⟨rfl, rfl⟩)
theorem does_g_IndexFunc_Rec (K : Codes P I) {H : Heap} {c : C} {xs : List Rec} {F : List Nat} (h : Recs H c xs F) {f : FuncId} (t : Rec → Bool) (ht : ∀ cs x f', x ∈ xs → RRec H cs x f' → cs.length = 3 → Tests P f H (V.agg cs) (t x)) :
    Does P I.g_IndexFunc_Rec [.c c, .c (.fn f)] H fun r H' => (∃ k : Int, r = .val (int k) ∧ decide (0 ≤ k) = xs.any t) ∧ H' = H := by
  refine K.does K.g_IndexFunc_Rec rfl fun Q hQ => ?_
  have htop := h.top
  simp only [go_sem, L_g_IndexFunc_Rec, Nat.reduceEqDiff, Nat.reduceAdd, Nat.reduceMul, Nat.reduceLeDiff, Int.reduceEq, Int.reduceLT, Int.reduceLE, Int.reduceAdd, Int.reduceNeg, reduceCtorEq, h.len]
  refine RU_loop (fun m s => ∃ i : Nat, m = xs.length - i ∧ i ≤ xs.length ∧ s.H = H ∧ s.env 0 = .val (.c c) ∧ s.env 1 = .val (.c (.fn f)) ∧ s.env 7 = .val (int xs.length) ∧ s.env 8 = .val (int i) ∧ (xs.take i).any t = false) xs.length ⟨0, by simp, by simp, rfl, rfl, rfl, rfl, rfl, rfl⟩ ?_
  rintro m s ⟨i, rfl, hi, hH, h0, h1, h7, h8, hn⟩ Q' hN hE hR
  by_cases hlt : (i : Int) < xs.length
  · obtain ⟨x, hx⟩ := get_lt hlt
    obtain ⟨b1, o1, bs1, cs1, f1, rfl, e1, e2, hr, hl, _⟩ := h.get hx
    have htx := ht cs1 x f1 (List.mem_of_getElem? hx) hr hl
    have hr := hr
    simp only [go_sem, Nat.reduceEqDiff, Nat.reduceAdd, Nat.reduceMul, Nat.reduceLeDiff, Int.reduceEq, Int.reduceLT, Int.reduceLE, Int.reduceAdd, Int.reduceNeg, reduceCtorEq, h0, h1, h7, h8, hlt, hH, e1, e2, lenC, wrap_succ (show i ≤ lenTop by omega)]
    refine Does.call htx ?_
    rintro _ H ⟨rfl, rfl⟩
    cases hb : t x with
    | true =>
      simp only [go_sem, Nat.reduceEqDiff, Nat.reduceAdd, Nat.reduceMul, Nat.reduceLeDiff, Int.reduceEq, Int.reduceLT, Int.reduceLE, Int.reduceAdd, Int.reduceNeg, reduceCtorEq, hb]
      refine hR _ (hQ _ _ (Ends.ret rfl ⟨⟨_, rfl, ?_⟩, by simp [hH]⟩))
      have : xs.any t = true := List.any_eq_true.2 ⟨x, List.mem_of_getElem? hx, hb⟩
      simp [this]
    | false =>
      simp only [go_sem, Nat.reduceEqDiff, Nat.reduceAdd, Nat.reduceMul, Nat.reduceLeDiff, Int.reduceEq, Int.reduceLT, Int.reduceLE, Int.reduceAdd, Int.reduceNeg, reduceCtorEq, h7, h8, hb, wrap_succ (show i ≤ lenTop by omega)]
      refine hN _ _ (by omega) ⟨i + 1, rfl, by omega, by simp [hH], by simp [upd, h0], by simp [upd, h1], by simp [upd, h7], by simp [upd], ?_⟩
      rw [take_snoc hx]; simp only [List.any_append, hn, List.any_cons, hb, List.any_nil, Bool.or_self]
  · simp only [go_sem, Nat.reduceEqDiff, Nat.reduceAdd, Nat.reduceMul, Nat.reduceLeDiff, Int.reduceEq, Int.reduceLT, Int.reduceLE, Int.reduceAdd, Int.reduceNeg, reduceCtorEq, h7, h8, hlt, hH]
    refine hE _ _ ?_
    simp only [go_sem, Nat.reduceEqDiff, Nat.reduceAdd, Nat.reduceMul, Nat.reduceLeDiff, Int.reduceEq, Int.reduceLT, Int.reduceLE, Int.reduceAdd, Int.reduceNeg, reduceCtorEq]
    refine hQ _ _ (Ends.ret rfl ⟨⟨-1, rfl, ?_⟩, rfl⟩)
    rw [List.take_of_length_le (by omega)] at hn
    rw [hn]; rfl
theorem does_g_ContainsFunc_Rec (K : Codes P I) {H : Heap} {c : C} {xs : List Rec} {F : List Nat} (h : Recs H c xs F) {f : FuncId} (t : Rec → Bool) (ht : ∀ cs x f', x ∈ xs → RRec H cs x f' → cs.length = 3 → Tests P f H (V.agg cs) (t x)) :
    Does P I.g_ContainsFunc_Rec [.c c, .c (.fn f)] H fun r H' => r = bool (xs.any t) ∧ H' = H := by
  refine K.does K.g_ContainsFunc_Rec rfl fun Q hQ => ?_
  simp only [go_sem, L_g_ContainsFunc_Rec, Nat.reduceEqDiff, Nat.reduceAdd, Nat.reduceMul, Nat.reduceLeDiff, Int.reduceEq, Int.reduceLT, Int.reduceLE, Int.reduceAdd, Int.reduceNeg, reduceCtorEq]
  refine Does.call (does_g_IndexFunc_Rec K h t ht) ?_
  rintro _ H ⟨⟨k, rfl, hk⟩, rfl⟩
  simp only [go_sem, Nat.reduceEqDiff, Nat.reduceAdd, Nat.reduceMul, Nat.reduceLeDiff, Int.reduceEq, Int.reduceLT, Int.reduceLE, Int.reduceAdd, Int.reduceNeg, reduceCtorEq, hk]
  exact hQ _ _ (Ends.ret rfl ⟨rfl, rfl⟩)
theorem does_g_IndexFunc_Trip (K : Codes P I) {H : Heap} {c : C} {xs : List Trip} {F : List Nat} (h : Trips H c xs F) {f : FuncId} (t : Trip → Bool) (ht : ∀ cs x f', x ∈ xs → RTrip H cs x f' → cs.length = 2 → Tests P f H (V.agg cs) (t x)) :
    Does P I.g_IndexFunc_Trip [.c c, .c (.fn f)] H fun r H' => (∃ k : Int, r = .val (int k) ∧ decide (0 ≤ k) = xs.any t) ∧ H' = H := by
  refine K.does K.g_IndexFunc_Trip rfl fun Q hQ => ?_
  have htop := h.top
  simp only [go_sem, L_g_IndexFunc_Trip, Nat.reduceEqDiff, Nat.reduceAdd, Nat.reduceMul, Nat.reduceLeDiff, Int.reduceEq, Int.reduceLT, Int.reduceLE, Int.reduceAdd, Int.reduceNeg, reduceCtorEq, h.len]
  refine RU_loop (fun m s => ∃ i : Nat, m = xs.length - i ∧ i ≤ xs.length ∧ s.H = H ∧ s.env 0 = .val (.c c) ∧ s.env 1 = .val (.c (.fn f)) ∧ s.env 7 = .val (int xs.length) ∧ s.env 8 = .val (int i) ∧ (xs.take i).any t = false) xs.length ⟨0, by simp, by simp, rfl, rfl, rfl, rfl, rfl, rfl⟩ ?_
  rintro m s ⟨i, rfl, hi, hH, h0, h1, h7, h8, hn⟩ Q' hN hE hR
  by_cases hlt : (i : Int) < xs.length
  · obtain ⟨x, hx⟩ := get_lt hlt
    obtain ⟨b1, o1, bs1, cs1, f1, rfl, e1, e2, hr, hl, _⟩ := h.get hx
    have htx := ht cs1 x f1 (List.mem_of_getElem? hx) hr hl
    have hr := hr
    simp only [go_sem, Nat.reduceEqDiff, Nat.reduceAdd, Nat.reduceMul, Nat.reduceLeDiff, Int.reduceEq, Int.reduceLT, Int.reduceLE, Int.reduceAdd, Int.reduceNeg, reduceCtorEq, h0, h1, h7, h8, hlt, hH, e1, e2, lenC, wrap_succ (show i ≤ lenTop by omega)]
    refine Does.call htx ?_
    rintro _ H ⟨rfl, rfl⟩
    cases hb : t x with
    | true =>
      simp only [go_sem, Nat.reduceEqDiff, Nat.reduceAdd, Nat.reduceMul, Nat.reduceLeDiff, Int.reduceEq, Int.reduceLT, Int.reduceLE, Int.reduceAdd, Int.reduceNeg, reduceCtorEq, hb]
      refine hR _ (hQ _ _ (Ends.ret rfl ⟨⟨_, rfl, ?_⟩, by simp [hH]⟩))
      have : xs.any t = true := List.any_eq_true.2 ⟨x, List.mem_of_getElem? hx, hb⟩
      simp [this]
    | false =>
      simp only [go_sem, Nat.reduceEqDiff, Nat.reduceAdd, Nat.reduceMul, Nat.reduceLeDiff, Int.reduceEq, Int.reduceLT, Int.reduceLE, Int.reduceAdd, Int.reduceNeg, reduceCtorEq, h7, h8, hb, wrap_succ (show i ≤ lenTop by omega)]
      refine hN _ _ (by omega) ⟨i + 1, rfl, by omega, by simp [hH], by simp [upd, h0], by simp [upd, h1], by simp [upd, h7], by simp [upd], ?_⟩
      rw [take_snoc hx]; simp only [List.any_append, hn, List.any_cons, hb, List.any_nil, Bool.or_self]
  · simp only [go_sem, Nat.reduceEqDiff, Nat.reduceAdd, Nat.reduceMul, Nat.reduceLeDiff, Int.reduceEq, Int.reduceLT, Int.reduceLE, Int.reduceAdd, Int.reduceNeg, reduceCtorEq, h7, h8, hlt, hH]
    refine hE _ _ ?_
    simp only [go_sem, Nat.reduceEqDiff, Nat.reduceAdd, Nat.reduceMul, Nat.reduceLeDiff, Int.reduceEq, Int.reduceLT, Int.reduceLE, Int.reduceAdd, Int.reduceNeg, reduceCtorEq]
    refine hQ _ _ (Ends.ret rfl ⟨⟨-1, rfl, ?_⟩, rfl⟩)
    rw [List.take_of_length_le (by omega)] at hn
    rw [hn]; rfl
theorem does_g_ContainsFunc_Trip (K : Codes P I) {H : Heap} {c : C} {xs : List Trip} {F : List Nat} (h : Trips H c xs F) {f : FuncId} (t : Trip → Bool) (ht : ∀ cs x f', x ∈ xs → RTrip H cs x f' → cs.length = 2 → Tests P f H (V.agg cs) (t x)) :
    Does P I.g_ContainsFunc_Trip [.c c, .c (.fn f)] H fun r H' => r = bool (xs.any t) ∧ H' = H := by
  refine K.does K.g_ContainsFunc_Trip rfl fun Q hQ => ?_
  simp only [go_sem, L_g_ContainsFunc_Trip, Nat.reduceEqDiff, Nat.reduceAdd, Nat.reduceMul, Nat.reduceLeDiff, Int.reduceEq, Int.reduceLT, Int.reduceLE, Int.reduceAdd, Int.reduceNeg, reduceCtorEq]
  refine Does.call (does_g_IndexFunc_Trip K h t ht) ?_
  rintro _ H ⟨⟨k, rfl, hk⟩, rfl⟩
  simp only [go_sem, Nat.reduceEqDiff, Nat.reduceAdd, Nat.reduceMul, Nat.reduceLeDiff, Int.reduceEq, Int.reduceLT, Int.reduceLE, Int.reduceAdd, Int.reduceNeg, reduceCtorEq, hk]
  exact hQ _ _ (Ends.ret rfl ⟨rfl, rfl⟩)
theorem does_i_wantedOk_1 (K : Codes P I) {H : Heap} {a : Int} : Tests P I.i_wantedOk_1 H (int a) (!inB a 0 3) := by
  refine K.does K.i_wantedOk_1 rfl fun Q hQ => ?_
  simp only [go_sem, L_i_wantedOk_1, Nat.reduceEqDiff, Nat.reduceAdd, Nat.reduceMul, Nat.reduceLeDiff, Int.reduceEq, Int.reduceLT, Int.reduceLE, Int.reduceAdd, Int.reduceNeg, reduceCtorEq]
  refine Does.call (does_i_in K) ?_
  rintro _ H ⟨rfl, rfl⟩
  simp only [go_sem, Nat.reduceEqDiff, Nat.reduceAdd, Nat.reduceMul, Nat.reduceLeDiff, Int.reduceEq, Int.reduceLT, Int.reduceLE, Int.reduceAdd, Int.reduceNeg, reduceCtorEq]
  exact hQ _ _ (Ends.ret rfl ⟨rfl, rfl⟩)
theorem does_i_wantedOk_2 (K : Codes P I) {H : Heap} {a : Int} : Tests P I.i_wantedOk_2 H (int a) (decide (a ≠ 0)) := by
  refine K.does K.i_wantedOk_2 rfl fun Q hQ => ?_
  simp only [go_sem, L_i_wantedOk_2, Nat.reduceEqDiff, Nat.reduceAdd, Nat.reduceMul, Nat.reduceLeDiff, Int.reduceEq, Int.reduceLT, Int.reduceLE, Int.reduceAdd, Int.reduceNeg, reduceCtorEq]
  exact hQ _ _ (Ends.ret rfl ⟨by simp [tupOf], rfl⟩)
theorem any_not {α : Type} (xs : List α) (t : α → Bool) : (xs.any fun x => !t x) = !xs.all t := by
  induction xs with
  | nil => rfl
  | cons x r ih => simp [ih]
theorem does_i_wantedOk (K : Codes P I) {H : Heap} {c : C} {xs : List Int} {F : List Nat} (h : Ints H c xs F) : Does P I.i_wantedOk [.c c] H fun r H' => r = bool (manyOk xs) ∧ H' = H := by
  refine K.does K.i_wantedOk rfl fun Q hQ => ?_
  by_cases hl : (xs.length : Int) = 3
  · simp only [go_sem, L_i_wantedOk, Nat.reduceEqDiff, Nat.reduceAdd, Nat.reduceMul, Nat.reduceLeDiff, Int.reduceEq, Int.reduceLT, Int.reduceLE, Int.reduceAdd, Int.reduceNeg, reduceCtorEq, h.len, hl]
    refine Does.call (does_g_ContainsFunc_int K h (fun x => !inB x 0 3) fun cs x f' _ hr _ => does_i_wantedOk_1 K) ?_
    rintro _ H ⟨rfl, rfl⟩
    have hl' : xs.length = 3 := by omega
    rw [any_not]
    cases ha : xs.all (inB · 0 3) with
    | true =>
      simp only [go_sem, Nat.reduceEqDiff, Nat.reduceAdd, Nat.reduceMul, Nat.reduceLeDiff, Int.reduceEq, Int.reduceLT, Int.reduceLE, Int.reduceAdd, Int.reduceNeg, reduceCtorEq]
      refine Does.call (does_g_ContainsFunc_int K h (fun x => decide (x ≠ 0)) fun cs x f' _ hr _ => does_i_wantedOk_2 K) ?_
      rintro _ H ⟨rfl, rfl⟩
      simp only [go_sem, Nat.reduceEqDiff, Nat.reduceAdd, Nat.reduceMul, Nat.reduceLeDiff, Int.reduceEq, Int.reduceLT, Int.reduceLE, Int.reduceAdd, Int.reduceNeg, reduceCtorEq]
      exact hQ _ _ (Ends.ret rfl ⟨by simp [tupOf, manyOk, hl', ha], rfl⟩)
    | false =>
      simp only [go_sem, Nat.reduceEqDiff, Nat.reduceAdd, Nat.reduceMul, Nat.reduceLeDiff, Int.reduceEq, Int.reduceLT, Int.reduceLE, Int.reduceAdd, Int.reduceNeg, reduceCtorEq]
      exact hQ _ _ (Ends.ret rfl ⟨by simp [tupOf, manyOk, ha], rfl⟩)
  · simp only [go_sem, L_i_wantedOk, Nat.reduceEqDiff, Nat.reduceAdd, Nat.reduceMul, Nat.reduceLeDiff, Int.reduceEq, Int.reduceLT, Int.reduceLE, Int.reduceAdd, Int.reduceNeg, reduceCtorEq, h.len, hl]
    have hl' : xs.length ≠ 3 := fun e => hl (by omega)
    exact hQ _ _ (Ends.ret rfl ⟨by simp [tupOf, manyOk, hl'], rfl⟩)
theorem sum_le {xs : List Int} (h : xs.all (inB · 0 3) = true) : 0 ≤ xs.sum ∧ xs.sum ≤ 3 * xs.length := by
  induction xs with
  | nil => simp
  | cons x r ih =>
    simp only [List.all_cons, Bool.and_eq_true, inB, decide_eq_true_eq] at h
    have := ih (by simpa [inB] using h.2)
    simp only [List.sum_cons, List.length_cons]; omega
theorem sum_pos {xs : List Int} (h : xs.all (inB · 0 3) = true) : decide (0 < xs.sum) = xs.any fun n => decide (n ≠ 0) := by
  induction xs with
  | nil => simp
  | cons x r ih =>
    simp only [List.all_cons, Bool.and_eq_true] at h
    have h2 := sum_le h.2
    have ih := ih h.2
    simp only [inB, Bool.and_eq_true, decide_eq_true_eq] at h
    simp only [List.sum_cons, List.any_cons, ← ih]
    by_cases hx : x = 0
    · subst hx; simp
    · have : 0 < x + r.sum := by omega
      simp [hx, this]
theorem take_all {α : Type} {xs : List α} {t : α → Bool} {i : Nat} {x : α} (hx : xs[i]? = some x) (h : (xs.take i).all t = true) (hb : t x = true) : (xs.take (i + 1)).all t = true := by
  rw [take_snoc hx]; simp [List.all_append] at h ⊢; exact ⟨h, hb⟩
theorem all_false {α : Type} {xs : List α} {t : α → Bool} {i : Nat} {x : α} (hx : xs[i]? = some x) (hb : t x = false) : xs.all t = false := by
  rw [List.all_eq_false]; exact ⟨x, List.mem_of_getElem? hx, by simp [hb]⟩
theorem does_s_l1Many (K : Codes P I) {H : Heap} {c : C} {xs : List Int} {F : List Nat} (h : Ints H c xs F) : Does P I.s_l1Many [.c c] H fun r H' => r = bool (manyOk xs) ∧ H' = H := by
  refine K.does K.s_l1Many rfl fun Q hQ => ?_
  have htop := h.top
  simp only [go_sem, L_s_l1Many, Nat.reduceEqDiff, Nat.reduceAdd, Nat.reduceMul, Nat.reduceLeDiff, Int.reduceEq, Int.reduceLT, Int.reduceLE, Int.reduceAdd, Int.reduceNeg, reduceCtorEq]
  refine RU_loop (fun m s => ∃ i : Nat, m = xs.length - i ∧ i ≤ xs.length ∧ s.H = H ∧ s.env 0 = .val (.c c) ∧ s.env 3 = .val (int (xs.take i).sum) ∧ s.env 4 = .val (int i) ∧ (xs.take i).all (inB · 0 3) = true) xs.length ⟨0, by simp, by simp, rfl, rfl, rfl, rfl, rfl⟩ ?_
  rintro m s ⟨i, rfl, hi, hH, h0, h3, h4, ha⟩ Q' hN hE hR
  by_cases hlt : (i : Int) < xs.length
  · obtain ⟨x, hx⟩ := get_lt hlt
    obtain ⟨b1, o1, bs1, cs1, f1, rfl, e1, e2, ⟨rfl, _⟩, _, _⟩ := h.get hx
    simp only [go_sem, Nat.reduceEqDiff, Nat.reduceAdd, Nat.reduceMul, Nat.reduceLeDiff, Int.reduceEq, Int.reduceLT, Int.reduceLE, Int.reduceAdd, Int.reduceNeg, reduceCtorEq, h0, h4, hlt, hH, e1, e2, lenC]
    refine Does.call (does_s_l6In K) ?_
    rintro _ H ⟨rfl, rfl⟩
    cases hb : inB x 0 3 with
    | false =>
      simp only [go_sem, Nat.reduceEqDiff, Nat.reduceAdd, Nat.reduceMul, Nat.reduceLeDiff, Int.reduceEq, Int.reduceLT, Int.reduceLE, Int.reduceAdd, Int.reduceNeg, reduceCtorEq]
      refine hR _ (hQ _ _ (Ends.ret rfl ⟨?_, by simp [hH]⟩))
      have := all_false (t := (inB · 0 3)) hx hb
      simp only [tupOf, manyOk, this, Bool.false_and, Bool.and_false]
    | true =>
      have ha' := take_all (t := (inB · 0 3)) hx ha hb
      have hs := sum_le ha'
      have hse : (xs.take (i + 1)).sum = (xs.take i).sum + x := by rw [take_snoc hx]; simp
      have hl : (xs.take (i + 1)).length ≤ i + 1 := by simp; omega
      have hw : IntKind.wrap .i64 ((xs.take i).sum + x) = (xs.take (i + 1)).sum := by
        rw [← hse]; unfold lenTop at htop; exact wrap_i64 (by omega) (by omega)
      simp only [go_sem, Nat.reduceEqDiff, Nat.reduceAdd, Nat.reduceMul, Nat.reduceLeDiff, Int.reduceEq, Int.reduceLT, Int.reduceLE, Int.reduceAdd, Int.reduceNeg, reduceCtorEq, h0, h3, h4, hlt, hH, e1, e2, lenC, hw, wrap_succ (show i ≤ lenTop by omega)]
      exact hN _ _ (by omega) ⟨i + 1, rfl, by omega, by simp [hH], by simp [upd, h0], by simp [upd], by simp [upd], ha'⟩
  · simp only [go_sem, Nat.reduceEqDiff, Nat.reduceAdd, Nat.reduceMul, Nat.reduceLeDiff, Int.reduceEq, Int.reduceLT, Int.reduceLE, Int.reduceAdd, Int.reduceNeg, reduceCtorEq, h0, h4, hlt, hH, h.len]
    refine hE _ _ ?_
    rw [List.take_of_length_le (by omega)] at h3 ha
    by_cases hl : (xs.length : Int) = 3
    · simp only [go_sem, Nat.reduceEqDiff, Nat.reduceAdd, Nat.reduceMul, Nat.reduceLeDiff, Int.reduceEq, Int.reduceLT, Int.reduceLE, Int.reduceAdd, Int.reduceNeg, reduceCtorEq, h0, h3, h.len, hl]
      have hl' : xs.length = 3 := by omega
      exact hQ _ _ (Ends.ret rfl ⟨by simp only [tupOf, manyOk, hl', ha, ← sum_pos ha, decide_true, Bool.true_and], rfl⟩)
    · simp only [go_sem, Nat.reduceEqDiff, Nat.reduceAdd, Nat.reduceMul, Nat.reduceLeDiff, Int.reduceEq, Int.reduceLT, Int.reduceLE, Int.reduceAdd, Int.reduceNeg, reduceCtorEq, h0, h3, h.len, hl]
      have hl' : xs.length ≠ 3 := fun e => hl (by omega)
      exact hQ _ _ (Ends.ret rfl ⟨by simp [tupOf, manyOk, hl'], rfl⟩)
end Go.AX

/- Whether records and logs are in order: the program's and the reference's tests return the same. Condition: the data lie in memory. -/
namespace Go.AX
variable {P : Program} {I : Ids}
theorem len_one {α : Type} {xs : List α} (h : (xs.length : Int) = 1) : ∃ x, xs = [x] := by
  match xs, h with
  | [x], _ => exact ⟨x, rfl⟩
  | [], h => simp at h
  | _ :: _ :: _, h => simp at h; omega
theorem SlR.get0 {α : Type} {n : Nat} {R : RepS α} {H : Heap} {c : C} {x : α} {F : List Nat} (h : SlR n R H c [x] F) : ∃ b off bs cs f, c = .sl b off 1 ∧ H.live b = some bs ∧ slab bs (off + 0 * n) n = some cs ∧ R H cs x f ∧ cs.length = n := by
  obtain ⟨b, off, bs, cs, f, h1, h2, h3, h4, h5, _⟩ := h.get (i := 0) rfl
  exact ⟨b, off, bs, cs, f, h1, h2, h3, h4, h5⟩
theorem does_s_RecOk (K : Codes P I) {H : Heap} {cs : List C} {r : Rec} {F : List Nat} (h : RRec H cs r F) : Does P I.s_RecOk [.agg cs] H fun v H' => v = bool (recOk r) ∧ H' = H := by
  obtain ⟨c, rfl, hc⟩ := h
  refine K.does K.s_RecOk rfl fun Q hQ => ?_
  simp only [go_sem, L_s_RecOk, Nat.reduceEqDiff, Nat.reduceAdd, Nat.reduceMul, Nat.reduceLeDiff, Int.reduceEq, Int.reduceLT, Int.reduceLE, Int.reduceAdd, Int.reduceNeg, reduceCtorEq]
  refine Does.call (does_s_l6In K) ?_
  rintro _ H ⟨rfl, rfl⟩
  cases ht : inB r.trip 1 6 with
  | false =>
    simp only [go_sem, Nat.reduceEqDiff, Nat.reduceAdd, Nat.reduceMul, Nat.reduceLeDiff, Int.reduceEq, Int.reduceLT, Int.reduceLE, Int.reduceAdd, Int.reduceNeg, reduceCtorEq]
    exact hQ _ _ (Ends.ret rfl ⟨by simp [tupOf, recOk, ht], rfl⟩)
  | true =>
    by_cases h1 : r.kind = 1
    · by_cases hl : (r.many.length : Int) = 1
      · obtain ⟨x, hx⟩ := len_one hl
        rw [hx] at hc
        obtain ⟨b, off, bs, cs, f, rfl, e1, e2, ⟨rfl, _⟩, _⟩ := hc.get0
        simp only [go_sem, Nat.reduceEqDiff, Nat.reduceAdd, Nat.reduceMul, Nat.reduceLeDiff, Int.reduceEq, Int.reduceLT, Int.reduceLE, Int.reduceAdd, Int.reduceNeg, reduceCtorEq, h1, lenC, Int.toNat_zero, e1, e2, Int.ofNat_one]
        refine Does.call (does_s_l6In K) ?_
        rintro _ H ⟨rfl, rfl⟩
        simp only [go_sem, Nat.reduceEqDiff, Nat.reduceAdd, Nat.reduceMul, Nat.reduceLeDiff, Int.reduceEq, Int.reduceLT, Int.reduceLE, Int.reduceAdd, Int.reduceNeg, reduceCtorEq]
        exact hQ _ _ (Ends.ret rfl ⟨by simp [tupOf, recOk, ht, h1, hx], rfl⟩)
      · simp only [go_sem, Nat.reduceEqDiff, Nat.reduceAdd, Nat.reduceMul, Nat.reduceLeDiff, Int.reduceEq, Int.reduceLT, Int.reduceLE, Int.reduceAdd, Int.reduceNeg, reduceCtorEq, h1, hc.len, hl]
        have hl' : r.many.length ≠ 1 := fun e => hl (by omega)
        exact hQ _ _ (Ends.ret rfl ⟨by simp [tupOf, recOk, ht, h1, hl'], rfl⟩)
    · by_cases h4 : r.kind = 4
      · simp only [go_sem, Nat.reduceEqDiff, Nat.reduceAdd, Nat.reduceMul, Nat.reduceLeDiff, Int.reduceEq, Int.reduceLT, Int.reduceLE, Int.reduceAdd, Int.reduceNeg, reduceCtorEq, h4]
        refine Does.call (does_s_l1Many K hc) ?_
        rintro _ H ⟨rfl, rfl⟩
        simp only [go_sem, Nat.reduceEqDiff, Nat.reduceAdd, Nat.reduceMul, Nat.reduceLeDiff, Int.reduceEq, Int.reduceLT, Int.reduceLE, Int.reduceAdd, Int.reduceNeg, reduceCtorEq]
        exact hQ _ _ (Ends.ret rfl ⟨by simp [tupOf, recOk, ht, h4], rfl⟩)
      · simp only [go_sem, Nat.reduceEqDiff, Nat.reduceAdd, Nat.reduceMul, Nat.reduceLeDiff, Int.reduceEq, Int.reduceLT, Int.reduceLE, Int.reduceAdd, Int.reduceNeg, reduceCtorEq, h1, h4]
        refine Does.call (does_s_l6In K) ?_
        rintro _ H ⟨rfl, rfl⟩
        cases hk : inB r.kind 2 7 with
        | false =>
          simp only [go_sem, Nat.reduceEqDiff, Nat.reduceAdd, Nat.reduceMul, Nat.reduceLeDiff, Int.reduceEq, Int.reduceLT, Int.reduceLE, Int.reduceAdd, Int.reduceNeg, reduceCtorEq]
          exact hQ _ _ (Ends.ret rfl ⟨by simp [tupOf, recOk, ht, h1, h4, hk], rfl⟩)
        | true =>
          simp only [go_sem, Nat.reduceEqDiff, Nat.reduceAdd, Nat.reduceMul, Nat.reduceLeDiff, Int.reduceEq, Int.reduceLT, Int.reduceLE, Int.reduceAdd, Int.reduceNeg, reduceCtorEq, hc.len]
          refine hQ _ _ (Ends.ret rfl ⟨?_, rfl⟩)
          simp only [tupOf, recOk, ht, h1, h4, hk, if_false, Bool.true_and]
          congr 4
          simp
theorem inB_kind {k : Int} (h1 : k ≠ 1) : inB k 1 7 = inB k 2 7 := by
  simp only [inB]
  congr 1
  simp only [decide_eq_decide]; omega
theorem does_i_RecOk (K : Codes P I) {H : Heap} {cs : List C} {r : Rec} {F : List Nat} (h : RRec H cs r F) : Does P I.i_RecOk [.agg cs] H fun v H' => v = bool (recOk r) ∧ H' = H := by
  obtain ⟨c, rfl, hc⟩ := h
  refine K.does K.i_RecOk rfl fun Q hQ => ?_
  by_cases h1 : r.kind = 1
  · have hk1 : inB 1 1 7 = true := rfl
    by_cases hl : (r.many.length : Int) = 1
    · obtain ⟨x, hx⟩ := len_one hl
      rw [hx] at hc
      obtain ⟨b, off, bs, cs, f, rfl, e1, e2, ⟨rfl, _⟩, _⟩ := hc.get0
      simp only [go_sem, L_i_RecOk, Nat.reduceEqDiff, Nat.reduceAdd, Nat.reduceMul, Nat.reduceLeDiff, Int.reduceEq, Int.reduceLT, Int.reduceLE, Int.reduceAdd, Int.reduceNeg, reduceCtorEq, h1, lenC, Int.toNat_zero, e1, e2, Int.ofNat_one]
      refine Does.call (does_i_in K) ?_
      rintro _ H ⟨rfl, rfl⟩
      simp only [go_sem, Nat.reduceEqDiff, Nat.reduceAdd, Nat.reduceMul, Nat.reduceLeDiff, Int.reduceEq, Int.reduceLT, Int.reduceLE, Int.reduceAdd, Int.reduceNeg, reduceCtorEq]
      refine Does.call (does_i_in K) ?_
      rintro _ H ⟨rfl, rfl⟩
      simp only [go_sem, Nat.reduceEqDiff, Nat.reduceAdd, Nat.reduceMul, Nat.reduceLeDiff, Int.reduceEq, Int.reduceLT, Int.reduceLE, Int.reduceAdd, Int.reduceNeg, reduceCtorEq, hk1]
      refine Does.call (does_i_isTrip K) ?_
      rintro _ H ⟨rfl, rfl⟩
      cases ht : inB r.trip 1 6 with
      | false =>
        simp only [go_sem, Nat.reduceEqDiff, Nat.reduceAdd, Nat.reduceMul, Nat.reduceLeDiff, Int.reduceEq, Int.reduceLT, Int.reduceLE, Int.reduceAdd, Int.reduceNeg, reduceCtorEq]
        exact hQ _ _ (Ends.ret rfl ⟨by simp [tupOf, recOk, ht], rfl⟩)
      | true =>
        simp only [go_sem, Nat.reduceEqDiff, Nat.reduceAdd, Nat.reduceMul, Nat.reduceLeDiff, Int.reduceEq, Int.reduceLT, Int.reduceLE, Int.reduceAdd, Int.reduceNeg, reduceCtorEq]
        exact hQ _ _ (Ends.ret rfl ⟨by simp [tupOf, recOk, ht, h1, hx], rfl⟩)
    · have hl' : r.many.length ≠ 1 := fun e => hl (by omega)
      simp only [go_sem, L_i_RecOk, Nat.reduceEqDiff, Nat.reduceAdd, Nat.reduceMul, Nat.reduceLeDiff, Int.reduceEq, Int.reduceLT, Int.reduceLE, Int.reduceAdd, Int.reduceNeg, reduceCtorEq, h1, hc.len, hl]
      refine Does.call (does_i_in K) ?_
      rintro _ H ⟨rfl, rfl⟩
      simp only [go_sem, Nat.reduceEqDiff, Nat.reduceAdd, Nat.reduceMul, Nat.reduceLeDiff, Int.reduceEq, Int.reduceLT, Int.reduceLE, Int.reduceAdd, Int.reduceNeg, reduceCtorEq, hk1]
      refine Does.call (does_i_isTrip K) ?_
      rintro _ H ⟨rfl, rfl⟩
      cases ht : inB r.trip 1 6 with
      | false =>
        simp only [go_sem, Nat.reduceEqDiff, Nat.reduceAdd, Nat.reduceMul, Nat.reduceLeDiff, Int.reduceEq, Int.reduceLT, Int.reduceLE, Int.reduceAdd, Int.reduceNeg, reduceCtorEq]
        exact hQ _ _ (Ends.ret rfl ⟨by simp [tupOf, recOk, ht], rfl⟩)
      | true =>
        simp only [go_sem, Nat.reduceEqDiff, Nat.reduceAdd, Nat.reduceMul, Nat.reduceLeDiff, Int.reduceEq, Int.reduceLT, Int.reduceLE, Int.reduceAdd, Int.reduceNeg, reduceCtorEq]
        exact hQ _ _ (Ends.ret rfl ⟨by simp [tupOf, recOk, h1, hl'], rfl⟩)
  · by_cases h4 : r.kind = 4
    · have hk1 : inB 4 1 7 = true := rfl
      simp only [go_sem, L_i_RecOk, Nat.reduceEqDiff, Nat.reduceAdd, Nat.reduceMul, Nat.reduceLeDiff, Int.reduceEq, Int.reduceLT, Int.reduceLE, Int.reduceAdd, Int.reduceNeg, reduceCtorEq, h4, hc.len]
      refine Does.call (does_i_wantedOk K hc) ?_
      rintro _ H ⟨rfl, rfl⟩
      simp only [go_sem, Nat.reduceEqDiff, Nat.reduceAdd, Nat.reduceMul, Nat.reduceLeDiff, Int.reduceEq, Int.reduceLT, Int.reduceLE, Int.reduceAdd, Int.reduceNeg, reduceCtorEq]
      refine Does.call (does_i_in K) ?_
      rintro _ H ⟨rfl, rfl⟩
      simp only [go_sem, Nat.reduceEqDiff, Nat.reduceAdd, Nat.reduceMul, Nat.reduceLeDiff, Int.reduceEq, Int.reduceLT, Int.reduceLE, Int.reduceAdd, Int.reduceNeg, reduceCtorEq, hk1]
      refine Does.call (does_i_isTrip K) ?_
      rintro _ H ⟨rfl, rfl⟩
      cases ht : inB r.trip 1 6 with
      | false =>
        simp only [go_sem, Nat.reduceEqDiff, Nat.reduceAdd, Nat.reduceMul, Nat.reduceLeDiff, Int.reduceEq, Int.reduceLT, Int.reduceLE, Int.reduceAdd, Int.reduceNeg, reduceCtorEq]
        exact hQ _ _ (Ends.ret rfl ⟨by simp [tupOf, recOk, ht], rfl⟩)
      | true =>
        simp only [go_sem, Nat.reduceEqDiff, Nat.reduceAdd, Nat.reduceMul, Nat.reduceLeDiff, Int.reduceEq, Int.reduceLT, Int.reduceLE, Int.reduceAdd, Int.reduceNeg, reduceCtorEq]
        exact hQ _ _ (Ends.ret rfl ⟨by simp [tupOf, recOk, ht, h4], rfl⟩)
    · simp only [go_sem, L_i_RecOk, Nat.reduceEqDiff, Nat.reduceAdd, Nat.reduceMul, Nat.reduceLeDiff, Int.reduceEq, Int.reduceLT, Int.reduceLE, Int.reduceAdd, Int.reduceNeg, reduceCtorEq, h1, h4, hc.len]
      refine Does.call (does_i_in K) ?_
      rintro _ H ⟨rfl, rfl⟩
      cases hk : inB r.kind 1 7 with
      | false =>
        simp only [go_sem, Nat.reduceEqDiff, Nat.reduceAdd, Nat.reduceMul, Nat.reduceLeDiff, Int.reduceEq, Int.reduceLT, Int.reduceLE, Int.reduceAdd, Int.reduceNeg, reduceCtorEq]
        exact hQ _ _ (Ends.ret rfl ⟨by rw [inB_kind h1] at hk; simp [tupOf, recOk, h1, h4, hk], rfl⟩)
      | true =>
        simp only [go_sem, Nat.reduceEqDiff, Nat.reduceAdd, Nat.reduceMul, Nat.reduceLeDiff, Int.reduceEq, Int.reduceLT, Int.reduceLE, Int.reduceAdd, Int.reduceNeg, reduceCtorEq]
        refine Does.call (does_i_isTrip K) ?_
        rintro _ H ⟨rfl, rfl⟩
        cases ht : inB r.trip 1 6 with
        | false =>
          simp only [go_sem, Nat.reduceEqDiff, Nat.reduceAdd, Nat.reduceMul, Nat.reduceLeDiff, Int.reduceEq, Int.reduceLT, Int.reduceLE, Int.reduceAdd, Int.reduceNeg, reduceCtorEq]
          exact hQ _ _ (Ends.ret rfl ⟨by simp [tupOf, recOk, ht], rfl⟩)
        | true =>
          simp only [go_sem, Nat.reduceEqDiff, Nat.reduceAdd, Nat.reduceMul, Nat.reduceLeDiff, Int.reduceEq, Int.reduceLT, Int.reduceLE, Int.reduceAdd, Int.reduceNeg, reduceCtorEq]
          exact hQ _ _ (Ends.ret rfl ⟨by rw [inB_kind h1] at hk; simp [tupOf, recOk, h1, h4, hk, ht], rfl⟩)
end Go.AX

/- Whether logs are in order: the program's and the reference's tests return the same. Condition: the data lie in memory. -/
namespace Go.AX
variable {P : Program} {I : Ids}
theorem does_i_LogOk_1 (K : Codes P I) {H : Heap} {cs : List C} {r : Rec} {F : List Nat} (h : RRec H cs r F) : Tests P I.i_LogOk_1 H (.agg cs) (!recOk r) := by
  refine K.does K.i_LogOk_1 rfl fun Q hQ => ?_
  obtain ⟨c0, c1, c2, rfl⟩ := len3 h.cells
  simp only [go_sem, L_i_LogOk_1, Nat.reduceEqDiff, Nat.reduceAdd, Nat.reduceMul, Nat.reduceLeDiff, Int.reduceEq, Int.reduceLT, Int.reduceLE, Int.reduceAdd, Int.reduceNeg, reduceCtorEq]
  refine Does.call (does_i_RecOk K h) ?_
  rintro _ H ⟨rfl, rfl⟩
  simp only [go_sem, Nat.reduceEqDiff, Nat.reduceAdd, Nat.reduceMul, Nat.reduceLeDiff, Int.reduceEq, Int.reduceLT, Int.reduceLE, Int.reduceAdd, Int.reduceNeg, reduceCtorEq]
  exact hQ _ _ (Ends.ret rfl ⟨rfl, rfl⟩)
theorem does_i_LogOk (K : Codes P I) {H : Heap} {cs : List C} {l : Log} {F : List Nat} (h : RLog H cs l F) : Does P I.i_LogOk [.agg cs] H fun v H' => v = bool (logOk l) ∧ H' = H := by
  obtain ⟨c, rfl, hc⟩ := h
  refine K.does K.i_LogOk rfl fun Q hQ => ?_
  by_cases hl : (l.recs.length : Int) ≤ 40
  · have hl' : l.recs.length ≤ 40 := by omega
    simp only [go_sem, L_i_LogOk, Nat.reduceEqDiff, Nat.reduceAdd, Nat.reduceMul, Nat.reduceLeDiff, Int.reduceEq, Int.reduceLT, Int.reduceLE, Int.reduceAdd, Int.reduceNeg, reduceCtorEq, hc.len, hl]
    refine Does.call (does_i_in K) ?_
    rintro _ H ⟨rfl, rfl⟩
    cases hf : inB l.forced 0 l.recs.length with
    | false =>
      simp only [go_sem, Nat.reduceEqDiff, Nat.reduceAdd, Nat.reduceMul, Nat.reduceLeDiff, Int.reduceEq, Int.reduceLT, Int.reduceLE, Int.reduceAdd, Int.reduceNeg, reduceCtorEq]
      exact hQ _ _ (Ends.ret rfl ⟨by simp [tupOf, logOk, hf], rfl⟩)
    | true =>
      simp only [go_sem, Nat.reduceEqDiff, Nat.reduceAdd, Nat.reduceMul, Nat.reduceLeDiff, Int.reduceEq, Int.reduceLT, Int.reduceLE, Int.reduceAdd, Int.reduceNeg, reduceCtorEq]
      refine Does.call (does_g_ContainsFunc_Rec K hc (fun r => !recOk r) fun cs x f' _ hr _ => does_i_LogOk_1 K hr) ?_
      rintro _ H ⟨rfl, rfl⟩
      simp only [go_sem, Nat.reduceEqDiff, Nat.reduceAdd, Nat.reduceMul, Nat.reduceLeDiff, Int.reduceEq, Int.reduceLT, Int.reduceLE, Int.reduceAdd, Int.reduceNeg, reduceCtorEq, any_not]
      exact hQ _ _ (Ends.ret rfl ⟨by simp [tupOf, logOk, hf, hl'], rfl⟩)
  · have hl' : ¬ l.recs.length ≤ 40 := by omega
    simp only [go_sem, L_i_LogOk, Nat.reduceEqDiff, Nat.reduceAdd, Nat.reduceMul, Nat.reduceLeDiff, Int.reduceEq, Int.reduceLT, Int.reduceLE, Int.reduceAdd, Int.reduceNeg, reduceCtorEq, hc.len, hl]
    exact hQ _ _ (Ends.ret rfl ⟨by simp [tupOf, logOk, hl'], rfl⟩)
theorem does_s_LogOk (K : Codes P I) {H : Heap} {cs : List C} {l : Log} {F : List Nat} (h : RLog H cs l F) : Does P I.s_LogOk [.agg cs] H fun v H' => v = bool (logOk l) ∧ H' = H := by
  obtain ⟨c, rfl, hc⟩ := h
  refine K.does K.s_LogOk rfl fun Q hQ => ?_
  have htop := hc.top
  simp only [go_sem, L_s_LogOk, Nat.reduceEqDiff, Nat.reduceAdd, Nat.reduceMul, Nat.reduceLeDiff, Int.reduceEq, Int.reduceLT, Int.reduceLE, Int.reduceAdd, Int.reduceNeg, reduceCtorEq]
  refine RU_loop (fun m s => ∃ i : Nat, m = l.recs.length - i ∧ i ≤ l.recs.length ∧ s.H = H ∧ s.env 1 = .box [c, .int .i64 l.forced] ∧ s.env 3 = .val (int i) ∧ (l.recs.take i).all recOk = true) l.recs.length ⟨0, by simp, by simp, rfl, rfl, rfl, rfl⟩ ?_
  rintro m s ⟨i, rfl, hi, hH, h1, h3, ha⟩ Q' hN hE hR
  by_cases hlt : (i : Int) < l.recs.length
  · obtain ⟨x, hx⟩ := get_lt hlt
    obtain ⟨b1, o1, bs1, cs1, f1, rfl, e1, e2, hr, _, _⟩ := hc.get hx
    simp only [go_sem, Nat.reduceEqDiff, Nat.reduceAdd, Nat.reduceMul, Nat.reduceLeDiff, Int.reduceEq, Int.reduceLT, Int.reduceLE, Int.reduceAdd, Int.reduceNeg, reduceCtorEq, h1, h3, hlt, hH, e1, e2, lenC]
    refine Does.call (does_s_RecOk K hr) ?_
    rintro _ H ⟨rfl, rfl⟩
    cases hb : recOk x with
    | false =>
      simp only [go_sem, Nat.reduceEqDiff, Nat.reduceAdd, Nat.reduceMul, Nat.reduceLeDiff, Int.reduceEq, Int.reduceLT, Int.reduceLE, Int.reduceAdd, Int.reduceNeg, reduceCtorEq]
      refine hR _ (hQ _ _ (Ends.ret rfl ⟨?_, by simp [hH]⟩))
      have := all_false (t := recOk) hx hb
      simp only [tupOf, logOk, this, Bool.false_and]
    | true =>
      simp only [go_sem, Nat.reduceEqDiff, Nat.reduceAdd, Nat.reduceMul, Nat.reduceLeDiff, Int.reduceEq, Int.reduceLT, Int.reduceLE, Int.reduceAdd, Int.reduceNeg, reduceCtorEq, h1, h3, wrap_succ (show i ≤ lenTop by omega)]
      exact hN _ _ (by omega) ⟨i + 1, rfl, by omega, by simp [hH], by simp [upd, h1], by simp [upd], take_all hx ha hb⟩
  · simp only [go_sem, Nat.reduceEqDiff, Nat.reduceAdd, Nat.reduceMul, Nat.reduceLeDiff, Int.reduceEq, Int.reduceLT, Int.reduceLE, Int.reduceAdd, Int.reduceNeg, reduceCtorEq, h1, h3, hlt, hH, hc.len]
    refine hE _ _ ?_
    rw [List.take_of_length_le (by omega)] at ha
    by_cases hl : (l.recs.length : Int) ≤ 40
    · have hl' : l.recs.length ≤ 40 := by omega
      simp only [go_sem, Nat.reduceEqDiff, Nat.reduceAdd, Nat.reduceMul, Nat.reduceLeDiff, Int.reduceEq, Int.reduceLT, Int.reduceLE, Int.reduceAdd, Int.reduceNeg, reduceCtorEq, h1, hc.len, hl]
      refine Does.call (does_s_l6In K) ?_
      rintro _ H ⟨rfl, rfl⟩
      simp only [go_sem, Nat.reduceEqDiff, Nat.reduceAdd, Nat.reduceMul, Nat.reduceLeDiff, Int.reduceEq, Int.reduceLT, Int.reduceLE, Int.reduceAdd, Int.reduceNeg, reduceCtorEq]
      exact hQ _ _ (Ends.ret rfl ⟨by simp [tupOf, logOk, hl', ha], by simp [hH]⟩)
    · have hl' : ¬ l.recs.length ≤ 40 := by omega
      simp only [go_sem, Nat.reduceEqDiff, Nat.reduceAdd, Nat.reduceMul, Nat.reduceLeDiff, Int.reduceEq, Int.reduceLT, Int.reduceLE, Int.reduceAdd, Int.reduceNeg, reduceCtorEq, h1, hc.len, hl]
      exact hQ _ _ (Ends.ret rfl ⟨by simp [tupOf, logOk, hl'], by simp [hH]⟩)
end Go.AX

/- A new element behind a list that one has; copies of lists of whole numbers. Condition: the blocks are one's own. -/
namespace Go.AX
theorem own_len {H : Heap} {b n : Nat} {st : St} {cs : List C} (h : H[b]? = some ⟨st, n, cs⟩) : b < H.length := (List.getElem?_eq_some_iff.1 h).1
theorem kill_ne {H : Heap} {b k : Nat} (h : k ≠ b) : (H.kill b)[k]? = H[k]? := by
  unfold Heap.kill; split
  · rw [List.getElem?_set_ne (Ne.symm h)]
  · rfl
theorem killLen {H : Heap} {b : Nat} : (H.kill b).length = H.length := by unfold Heap.kill; split <;> simp
/-- append of one element. -/
theorem app_one {α : Type} {n : Nat} {R : RepS α} (hR : Good R) (hn : n ≠ 0) {H : Heap} {c : C} {xs : List α} {Fo f : List Nat} {cs : List C} {x : α} (h : SlR n R H c xs Fo) (hx : R H cs x f) (hl : cs.length = n) (ho : Owned H (Fo ++ f)) (hm : xs.length < lenMax) :
    ∃ c' H' F', appC H n c cs = some (c', H') ∧ SlR n R H' c' (xs ++ [x]) F' ∧ Step (Fo ++ f) H H' F' := by
  have hdiv : cs.length / n = 1 := by rw [hl]; exact Nat.div_self (by omega)
  have hmod : cs.length % n = 0 := by rw [hl]; exact Nat.mod_self n
  have hne : cs ≠ [] := fun e => by rw [e] at hl; simp at hl; omega
  have hmx : lenMax ≤ lenTop := by decide
  rcases h with ⟨hc, rfl, rfl⟩ | ⟨b, pre, post, css, fs, st, rfl, rfl, hb, hs, ha, htop⟩
  · refine ⟨.sl H.length 0 1, H ++ [⟨.rw, n, cs⟩], H.length :: f, ?_, ?_, ?_⟩
    · rcases hc with rfl | rfl
      · simp only [appC, if_neg hne, hdiv, hmod]; rw [if_pos ⟨hn, trivial, by decide⟩]
      · simp only [appC, if_neg hne, hdiv, hmod]; rw [if_pos ⟨hn, trivial, by decide⟩]
    · refine .inr ⟨H.length, [], [], [cs], [f], .rw, rfl, by simp, by simp, by decide, .cons hl ?_ .nil, by simp [lenTop]⟩
      exact hR.frame _ _ _ _ _ hx fun k hk => by rw [List.getElem?_append_left (hR.lt _ _ _ _ hx k hk)]
    · refine ⟨fun k hk _ => List.getElem?_append_left hk, by simp, ?_, fun k hk => ?_, fun k hk => ?_⟩
      · rw [List.nodup_cons]
        exact ⟨fun hc => by have := hR.lt _ _ _ _ hx _ hc; omega, by simpa using ho.1⟩
      · simp only [List.mem_cons] at hk
        rcases hk with rfl | hk
        · exact ⟨⟨.rw, n, cs⟩, by simp, rfl⟩
        · obtain ⟨B, hB, hw⟩ := ho.2 k (by simpa using hk)
          exact ⟨B, by rw [List.getElem?_append_left (hR.lt _ _ _ _ hx k hk)]; exact hB, hw⟩
      · simp only [List.mem_cons] at hk
        rcases hk with rfl | hk
        · exact .inr (Nat.le_refl _)
        · exact .inl (by simpa using hk)
  · have hw : st = .rw := ho.st (by simp) hb
    subst hw
    have hlt := own_len hb
    have hnd := ho.1
    simp only [List.cons_append, List.nodup_cons, List.mem_append, not_or] at hnd
    have keep : ∀ k, k < H.length → k ≠ b → (H.kill b ++ [⟨.rw, n, css.flatten ++ cs⟩] : Heap)[k]? = H[k]? := fun k hk hkb => by
      rw [List.getElem?_append_left (by rw [killLen]; exact hk), kill_ne hkb]
    refine ⟨.sl H.length 0 (xs.length + 1), H.kill b ++ [⟨.rw, n, css.flatten ++ cs⟩], H.length :: (fs ++ [f]).flatten, ?_, ?_, ?_⟩
    · simp only [appC, Heap.own_of hb]
      rw [slab_mid' rfl ha.flat]
      simp only [if_neg hne, hdiv, hmod]
      rw [if_pos ⟨trivial, hn, trivial, by omega⟩]
    · refine .inr ⟨H.length, [], [], css ++ [cs], fs ++ [f], .rw, by simp, rfl, ?_, by decide, ?_, by simp; omega⟩
      · rw [List.getElem?_append_right (by rw [killLen]; exact Nat.le_refl _), killLen]; simp
      · refine (ha.mono fun c0 x0 f0 hf0 hr => hR.frame _ _ _ _ _ hr fun k hk => keep k (hR.lt _ _ _ _ hr k hk) ?_).app (.cons hl (hR.frame _ _ _ _ _ hx fun k hk => keep k (hR.lt _ _ _ _ hx k hk) ?_) .nil)
        · rintro rfl; exact hnd.1.1 (List.mem_flatten.2 ⟨f0, hf0, hk⟩)
        · rintro rfl; exact hnd.1.2 hk
    · have hsub : ∀ k, k ∈ (fs ++ [f]).flatten → k ∈ fs.flatten ++ f := fun k hk => by simpa using hk
      have hlts : ∀ k, k ∈ fs.flatten ++ f → k < H.length ∧ k ≠ b := fun k hk => by
        obtain ⟨B, hB, _⟩ := ho.2 k (by simp only [List.cons_append, List.mem_cons]; exact .inr hk)
        refine ⟨(List.getElem?_eq_some_iff.1 hB).1, ?_⟩
        rintro rfl
        simp only [List.mem_append] at hk
        exact hk.elim hnd.1.1 hnd.1.2
      refine ⟨fun k hk hkn => keep k hk fun e => hkn (by simp [e]), by simp [killLen], ?_, fun k hk => ?_, fun k hk => ?_⟩
      · rw [List.nodup_cons]
        refine ⟨fun hc => by have := (hlts _ (hsub _ hc)).1; omega, by simpa using hnd.2⟩
      · simp only [List.mem_cons] at hk
        rcases hk with rfl | hk
        · refine ⟨⟨.rw, n, css.flatten ++ cs⟩, ?_, rfl⟩
          rw [List.getElem?_append_right (by rw [killLen]; exact Nat.le_refl _), killLen]; simp
        · have hk' := hsub k hk
          obtain ⟨B, hB, hw⟩ := ho.2 k (by simp only [List.cons_append, List.mem_cons]; exact .inr hk')
          exact ⟨B, by rw [keep k (hlts k hk').1 (hlts k hk').2]; exact hB, hw⟩
      · simp only [List.mem_cons] at hk
        rcases hk with rfl | hk
        · exact .inr (Nat.le_refl _)
        · exact .inl (by simp only [List.cons_append, List.mem_cons]; exact .inr (hsub k hk))
end Go.AX
namespace Go.AX
theorem All3.flat_nil {α : Type} {n : Nat} {R : RepS α} {H : Heap} (hf : ∀ H cs x f, R H cs x f → f = []) {css : List (List C)} {xs : List α} {fs : List (List Nat)} (h : All3 n (R H) css xs fs) : fs.flatten = [] := by
  induction h with
  | nil => rfl
  | cons _ h2 _ ih => rw [List.flatten_cons, ih, hf _ _ _ _ h2]; rfl
/-- append of a whole list of data without blocks of their own, behind nothing. -/
theorem copy_flat {α : Type} {n : Nat} {R : RepS α} (hR : Good R) (hf : ∀ H cs x f, R H cs x f → f = []) (hn : n ≠ 0) {H : Heap} {c : C} {xs : List α} {F : List Nat} (h : SlR n R H c xs F) (hm : xs.length ≤ lenMax) :
    ∃ cells c' H' F', H.elems n c = some cells ∧ appC H n (.emp true) cells = some (c', H') ∧ SlR n R H' c' xs F' ∧ Step [] H H' F' := by
  have hmx : lenMax ≤ lenTop := by decide
  rcases h with ⟨hc, rfl, rfl⟩ | ⟨b, pre, post, css, fs, st, rfl, rfl, hb, hs, ha, htop⟩
  · refine ⟨[], .emp true, H, [], ?_, rfl, .emp, Step.refl H⟩
    rcases hc with rfl | rfl <;> rfl
  · have he : H.elems n (.sl b pre.length xs.length) = some css.flatten := by
      simp only [Heap.elems, Heap.live_of hb hs]; exact slab_mid' rfl ha.flat
    cases xs with
    | nil =>
      have hcss : css = [] := List.length_eq_zero_iff.1 (by simpa using ha.len.1)
      subst hcss
      exact ⟨_, .emp true, H, [], he, rfl, .emp, Step.refl H⟩
    | cons x r =>
      have hfl : css.flatten.length = (r.length + 1) * n := by simpa using ha.flat
      have hpos : 0 < (r.length + 1) * n := Nat.mul_pos (by omega) (by omega)
      have hne : css.flatten ≠ [] := fun e => by rw [e] at hfl; simp only [List.length_nil] at hfl; omega
      have hdiv : css.flatten.length / n = r.length + 1 := by rw [hfl]; exact Nat.mul_div_cancel _ (by omega)
      have hmod : css.flatten.length % n = 0 := by rw [hfl]; exact Nat.mul_mod_left _ _
      refine ⟨_, .sl H.length 0 (r.length + 1), H ++ [⟨.rw, n, css.flatten⟩], [H.length], he, ?_, ?_, ?_⟩
      · simp only [appC, if_neg hne, hdiv, hmod]
        rw [if_pos ⟨hn, trivial, by simpa using hm⟩]
      · refine .inr ⟨H.length, [], [], css, fs, .rw, rfl, ?_, by simp, by decide, ?_, htop⟩
        · have : fs.flatten = [] := ha.flat_nil hf
          rw [this]
        · exact ha.mono fun c0 x0 f0 _ hr => hR.frame _ _ _ _ _ hr fun k hk => by rw [hf _ _ _ _ hr] at hk; simp at hk
      · refine ⟨fun k hk _ => List.getElem?_append_left hk, by simp, by simp, fun k hk => ?_, fun k hk => ?_⟩
        · simp at hk; subst hk; exact ⟨⟨.rw, n, css.flatten⟩, by simp, rfl⟩
        · simp at hk; subst hk; exact .inr (Nat.le_refl _)
end Go.AX

/- Copies of records: the program's and the reference's. Condition: the lists are no longer than a slice may be. -/
namespace Go.AX
variable {P : Program} {I : Ids}
theorem SlR.shape {α : Type} {n : Nat} {R : RepS α} {H : Heap} {c : C} {xs : List α} {F : List Nat} (h : SlR n R H c xs F) : c = .nil ∨ c = .emp true ∨ ∃ b o l, c = .sl b o l := by
  rcases h with ⟨h | h, _, _⟩ | ⟨b, pre, post, css, fs, st, h, _⟩
  · exact .inl h
  · exact .inr (.inl h)
  · exact .inr (.inr ⟨_, _, _, h⟩)
theorem SlR.nil_inv {α : Type} {n : Nat} {R : RepS α} {H : Heap} {xs : List α} {F : List Nat} (h : SlR n R H .nil xs F) : xs = [] := by
  rcases h with ⟨_, h, _⟩ | ⟨b, pre, post, css, fs, st, h, _⟩
  · exact h
  · cases h
theorem RInt.flat : ∀ (H : Heap) (cs : List C) (x : Int) (f : List Nat), RInt H cs x f → f = [] := fun _ _ _ _ h => h.2
theorem RWord.flat : ∀ (H : Heap) (cs : List C) (x : Word) (f : List Nat), RWord H cs x f → f = [] := fun _ _ _ _ h => h.2
theorem RHold.flat : ∀ (H : Heap) (cs : List C) (x : Hold) (f : List Nat), RHold H cs x f → f = [] := fun _ _ _ _ h => h.2
theorem does_g_Clone_int (K : Codes P I) {H : Heap} {c : C} {xs : List Int} {F : List Nat} (h : Ints H c xs F) (hm : xs.length ≤ lenMax) : Does P I.g_Clone_int [.c c] H fun v H' => ∃ c' F', v = .val (.c c') ∧ Step [] H H' F' ∧ Ints H' c' xs F' := by
  refine K.does K.g_Clone_int rfl fun Q hQ => ?_
  obtain ⟨cells, c', H', F', he, ha, hr, hs⟩ := copy_flat RInt.good RInt.flat (by decide) h hm
  rcases h.shape with rfl | rfl | ⟨b, o, l, rfl⟩
  · simp only [go_sem, L_g_Clone_int, Nat.reduceEqDiff, Nat.reduceAdd, Nat.reduceMul, Nat.reduceLeDiff, Int.reduceEq, Int.reduceLT, Int.reduceLE, Int.reduceAdd, Int.reduceNeg, reduceCtorEq]
    exact hQ _ _ (Ends.ret rfl ⟨_, [], rfl, Step.refl _, by rw [h.nil_inv]; exact .nil⟩)
  · simp only [go_sem, L_g_Clone_int, Nat.reduceEqDiff, Nat.reduceAdd, Nat.reduceMul, Nat.reduceLeDiff, Int.reduceEq, Int.reduceLT, Int.reduceLE, Int.reduceAdd, Int.reduceNeg, reduceCtorEq, he, ha]
    exact hQ _ _ (Ends.ret rfl ⟨_, _, rfl, hs, hr⟩)
  · simp only [go_sem, L_g_Clone_int, Nat.reduceEqDiff, Nat.reduceAdd, Nat.reduceMul, Nat.reduceLeDiff, Int.reduceEq, Int.reduceLT, Int.reduceLE, Int.reduceAdd, Int.reduceNeg, reduceCtorEq, he, ha]
    exact hQ _ _ (Ends.ret rfl ⟨_, _, rfl, hs, hr⟩)
theorem does_g_Clone_Word (K : Codes P I) {H : Heap} {c : C} {xs : List Word} {F : List Nat} (h : Words H c xs F) (hm : xs.length ≤ lenMax) : Does P I.g_Clone_Word [.c c] H fun v H' => ∃ c' F', v = .val (.c c') ∧ Step [] H H' F' ∧ Words H' c' xs F' := by
  refine K.does K.g_Clone_Word rfl fun Q hQ => ?_
  obtain ⟨cells, c', H', F', he, ha, hr, hs⟩ := copy_flat RWord.good RWord.flat (by decide) h hm
  rcases h.shape with rfl | rfl | ⟨b, o, l, rfl⟩
  · simp only [go_sem, L_g_Clone_Word, Nat.reduceEqDiff, Nat.reduceAdd, Nat.reduceMul, Nat.reduceLeDiff, Int.reduceEq, Int.reduceLT, Int.reduceLE, Int.reduceAdd, Int.reduceNeg, reduceCtorEq]
    exact hQ _ _ (Ends.ret rfl ⟨_, [], rfl, Step.refl _, by rw [h.nil_inv]; exact .nil⟩)
  · simp only [go_sem, L_g_Clone_Word, Nat.reduceEqDiff, Nat.reduceAdd, Nat.reduceMul, Nat.reduceLeDiff, Int.reduceEq, Int.reduceLT, Int.reduceLE, Int.reduceAdd, Int.reduceNeg, reduceCtorEq, he, ha]
    exact hQ _ _ (Ends.ret rfl ⟨_, _, rfl, hs, hr⟩)
  · simp only [go_sem, L_g_Clone_Word, Nat.reduceEqDiff, Nat.reduceAdd, Nat.reduceMul, Nat.reduceLeDiff, Int.reduceEq, Int.reduceLT, Int.reduceLE, Int.reduceAdd, Int.reduceNeg, reduceCtorEq, he, ha]
    exact hQ _ _ (Ends.ret rfl ⟨_, _, rfl, hs, hr⟩)
theorem does_i_Rec_copied (K : Codes P I) {H : Heap} {cs : List C} {r : Rec} {F : List Nat} (h : RRec H cs r F) (hm : r.many.length ≤ lenMax) : Does P I.i_Rec_copied [.agg cs] H fun v H' => ∃ cs' F', v = .val (.agg cs') ∧ Step [] H H' F' ∧ RRec H' cs' r F' := by
  obtain ⟨c, rfl, hc⟩ := h
  refine K.does K.i_Rec_copied rfl fun Q hQ => ?_
  simp only [go_sem, L_i_Rec_copied, Nat.reduceEqDiff, Nat.reduceAdd, Nat.reduceMul, Nat.reduceLeDiff, Int.reduceEq, Int.reduceLT, Int.reduceLE, Int.reduceAdd, Int.reduceNeg, reduceCtorEq]
  refine Does.call (does_g_Clone_int K hc hm) ?_
  rintro _ H1 ⟨c', F', rfl, s1, hc'⟩
  simp only [go_sem, Nat.reduceEqDiff, Nat.reduceAdd, Nat.reduceMul, Nat.reduceLeDiff, Int.reduceEq, Int.reduceLT, Int.reduceLE, Int.reduceAdd, Int.reduceNeg, reduceCtorEq]
  exact hQ _ _ (Ends.ret rfl ⟨_, _, rfl, s1, c', rfl, hc'⟩)
theorem does_s_l1RecCopy (K : Codes P I) {H : Heap} {cs : List C} {r : Rec} {F : List Nat} (h : RRec H cs r F) (hm : r.many.length ≤ lenMax) : Does P I.s_l1RecCopy [.agg cs] H fun v H' => ∃ cs' F', v = .val (.agg cs') ∧ Step [] H H' F' ∧ RRec H' cs' r F' := by
  obtain ⟨c, rfl, hc⟩ := h
  refine K.does K.s_l1RecCopy rfl fun Q hQ => ?_
  obtain ⟨cells, c', H', F', he, ha, hr, hs⟩ := copy_flat RInt.good RInt.flat (by decide) hc hm
  simp only [go_sem, L_s_l1RecCopy, Nat.reduceEqDiff, Nat.reduceAdd, Nat.reduceMul, Nat.reduceLeDiff, Int.reduceEq, Int.reduceLT, Int.reduceLE, Int.reduceAdd, Int.reduceNeg, reduceCtorEq, he, ha]
  exact hQ _ _ (Ends.ret rfl ⟨_, _, rfl, hs, c', rfl, hr⟩)
end Go.AX

/- Copies of logs: the program's and the reference's. Condition: the lists are no longer than 64. -/
namespace Go.AX
variable {P : Program} {I : Ids}
@[go_sem] theorem rep_one {zero : List C} : rep 1 zero = zero := by simp [rep]
def Small (l : Log) : Prop := l.recs.length ≤ 64 ∧ ∀ r ∈ l.recs, r.many.length ≤ 64
theorem Small.len {l : Log} (h : Small l) : l.recs.length ≤ 64 := h.1
theorem Step.with {F F1 f : List Nat} {H0 H H1 : Heap} (h0 : Step F H0 H F1) (h : Step [] H H1 f) : Step F H0 H1 (F1 ++ f) := (show Step F H0 H (F1 ++ []) by simpa using h0).beside h rfl
theorem does_s_l1Copy (K : Codes P I) {H : Heap} {cs : List C} {l : Log} {F : List Nat} (h : RLog H cs l F) (hm : Small l) : Does P I.s_l1Copy [.agg cs] H fun v H' => ∃ cs' F', v = .val (.agg cs') ∧ Step [] H H' F' ∧ RLog H' cs' l F' := by
  obtain ⟨c, rfl, hc⟩ := h
  refine K.does K.s_l1Copy rfl fun Q hQ => ?_
  have htop := hc.top
  simp only [go_sem, L_s_l1Copy, Nat.reduceEqDiff, Nat.reduceAdd, Nat.reduceMul, Nat.reduceLeDiff, reduceCtorEq]
  refine RU_loop (fun m s => ∃ i : Nat, m = l.recs.length - i ∧ i ≤ l.recs.length ∧ s.env 1 = .box [c, .int .i64 l.forced] ∧ s.env 4 = .val (int i) ∧ s.env 2 = .box [.nil, .int .i64 0] ∧ ∃ c' F', s.env 3 = .box [c', .int .i64 l.forced] ∧ Step [] H s.H F' ∧ Recs s.H c' (l.recs.take i) F') l.recs.length
    ⟨0, by simp, by simp, rfl, rfl, rfl, .emp true, [], rfl, Step.refl H, .emp⟩ ?_
  rintro m s ⟨i, rfl, hi, h1, h4, h2, c', F', h3, hs, hr⟩ Q' hN hE hR
  have hc1 := hs.keepSl RRec.good hc fun b _ => by simp
  by_cases hlt : (i : Int) < l.recs.length
  · obtain ⟨x, hx⟩ := get_lt hlt
    obtain ⟨b1, o1, bs1, cs1, f1, rfl, e1, e2, hrx, _, _⟩ := hc1.get hx
    simp only [go_sem, Nat.reduceEqDiff, Nat.reduceAdd, Nat.reduceMul, Nat.reduceLeDiff, reduceCtorEq, h1, h3, h4, hlt, e1, e2, lenC]
    refine Does.call (does_s_l1RecCopy K hrx (Nat.le_trans (hm.2 x (List.mem_of_getElem? hx)) (by decide))) ?_
    rintro _ H1 ⟨cx, f, rfl, s1, hx1⟩
    replace s1 : Step [] s.H H1 f := s1
    have t1 := hs.with s1
    obtain ⟨c2, H2, F2, ha, hr2, s2⟩ := app_one RRec.good (by decide) (s1.keepSl RRec.good hr fun b _ => by simp) hx1 hx1.cells t1.owned (by simp [lenMax]; have := hm.1; omega)
    obtain ⟨x0, x1, x2, rfl⟩ := len3 hx1.cells
    simp only [go_sem, Nat.reduceEqDiff, Nat.reduceAdd, Nat.reduceMul, Nat.reduceLeDiff, reduceCtorEq, h1, h3, h4, ha, wrap_succ (show i ≤ lenTop by omega)]
    refine hN _ _ (by omega) ⟨i + 1, rfl, by omega, by simp [upd, h1], by simp [upd], by simp [upd, h2], c2, F2, by simp [upd], t1.trans s2, ?_⟩
    rw [take_snoc hx]; exact hr2
  · simp only [go_sem, Nat.reduceEqDiff, Nat.reduceAdd, Nat.reduceMul, Nat.reduceLeDiff, reduceCtorEq, h1, h4, hlt, hc1.len]
    refine hE _ _ ?_
    rw [List.take_of_length_le (by omega)] at hr
    simp only [go_sem, Nat.reduceEqDiff, Nat.reduceAdd, Nat.reduceMul, Nat.reduceLeDiff, reduceCtorEq, h3, h2]
    exact hQ _ _ (Ends.ret rfl ⟨_, _, rfl, hs, c', rfl, hr⟩)
theorem flat_take : ∀ (fs : List (List Nat)) (k : Nat), ((fs.take k).flatten).Sublist fs.flatten
  | [], k => by simp
  | f :: r, 0 => by simp
  | f :: r, k + 1 => by simp only [List.take_succ_cons, List.flatten_cons]; exact (List.Sublist.refl f).append (flat_take r k)
/-- The first ones of a slice. -/
theorem slc_take {α : Type} {n : Nat} {R : RepS α} {H : Heap} {c : C} {xs : List α} {F : List Nat} (h : SlR n R H c xs F) {k : Nat} (hk : k ≤ xs.length) : ∃ c' F', slcC H n c 0 (some (k : Int)) = some c' ∧ SlR n R H c' (xs.take k) F' ∧ F'.Sublist F := by
  rcases h with ⟨hc, rfl, rfl⟩ | ⟨b, pre, post, css, fs, st, rfl, rfl, hb, hs, ha, htop⟩
  · have : k = 0 := by simpa using hk
    subst this
    rcases hc with rfl | rfl
    · exact ⟨.nil, [], rfl, .nil, .refl _⟩
    · exact ⟨.emp true, [], rfl, .emp, .refl _⟩
  · refine ⟨.sl b pre.length k, b :: (fs.take k).flatten, ?_, ?_, (flat_take fs k).cons_cons b⟩
    · have h0 : (0 : Int) ≤ 0 ∧ (0 : Int) ≤ (k : Int) ∧ (k : Int) ≤ (xs.length : Int) := ⟨by omega, by omega, by omega⟩
      simp only [slcC, Option.getD_some, if_pos h0, if_true, Int.toNat_natCast]
    · have e : pre ++ css.flatten ++ post = pre ++ (css.take k).flatten ++ ((css.drop k).flatten ++ post) := by
        have : css.flatten = (css.take k).flatten ++ (css.drop k).flatten := by rw [← List.flatten_append, List.take_append_drop]
        rw [this]; simp
      have hl : (xs.take k).length = k := by simp; omega
      refine .inr ⟨b, pre, (css.drop k).flatten ++ post, css.take k, fs.take k, st, by rw [hl], rfl, by rw [hb, e], hs, ha.take k, by rw [hl]; omega⟩
theorem does_i_Log_first (K : Codes P I) {H : Heap} {cs : List C} {l : Log} {F : List Nat} (h : RLog H cs l F) (hm : Small l) {k : Nat} {f : Int} (hk : k ≤ l.recs.length) :
    Does P I.i_Log_first [.agg cs, int k, int f] H fun v H' => ∃ cs' F', v = .val (.agg cs') ∧ Step [] H H' F' ∧ RLog H' cs' ⟨l.recs.take k, f⟩ F' := by
  obtain ⟨c, rfl, hc0⟩ := h
  refine K.does K.i_Log_first rfl fun Q hQ => ?_
  obtain ⟨cq, Fq, hq, hc, _⟩ := slc_take hc0 hk
  have htop := hc.top
  have hl : (l.recs.take k).length = k := by simp; omega
  have hsm := hm.1
  simp only [go_sem, L_i_Log_first, Nat.reduceEqDiff, Nat.reduceAdd, Nat.reduceMul, Nat.reduceLeDiff, reduceCtorEq, hq, hc.len, hl]
  refine RU_loop (fun m s => ∃ i : Nat, m = k - i ∧ i ≤ k ∧ s.env 15 = .val (.c cq) ∧ s.env 16 = .val (int k) ∧ s.env 17 = .val (int i) ∧ s.env 6 = .box [.nil, .int .i64 0] ∧ ∃ c' F', s.env 7 = .box [c', .int .i64 f] ∧ Step [] H s.H F' ∧ Recs s.H c' (l.recs.take i) F') k
    ⟨0, by simp, by simp, rfl, rfl, rfl, rfl, .nil, [], rfl, Step.refl H, .nil⟩ ?_
  rintro m s ⟨i, rfl, hi, h15, h16, h17, h6, c', F', h7, hs, hr⟩ Q' hN hE hR
  have hc1 := hs.keepSl RRec.good hc fun b _ => by simp
  by_cases hlt : (i : Int) < k
  · obtain ⟨x, hx⟩ : ∃ x, (l.recs.take k)[i]? = some x := get_lt (by rw [hl]; exact hlt)
    have hx0 : l.recs[i]? = some x := by rw [List.getElem?_take_of_lt (by omega)] at hx; exact hx
    obtain ⟨b1, o1, bs1, cs1, f1, rfl, e1, e2, hrx, _, _⟩ := hc1.get hx
    obtain ⟨x0, x1, x2, rfl⟩ := len3 hrx.cells
    rw [hl] at h15
    simp only [go_sem, Nat.reduceEqDiff, Nat.reduceAdd, Nat.reduceMul, Nat.reduceLeDiff, reduceCtorEq, h15, h16, h17, h7, hlt, e1, e2, lenC]
    refine Does.call (does_i_Rec_copied K hrx (Nat.le_trans (hm.2 x (List.mem_of_getElem? hx0)) (by decide))) ?_
    rintro _ H1 ⟨cx, f, rfl, s1, hx1⟩
    replace s1 : Step [] s.H H1 f := s1
    have t1 := hs.with s1
    obtain ⟨c2, H2, F2, ha, hr2, s2⟩ := app_one RRec.good (by decide) (s1.keepSl RRec.good hr fun b _ => by simp) hx1 hx1.cells t1.owned (by simp [lenMax]; omega)
    obtain ⟨y0, y1, y2, rfl⟩ := len3 hx1.cells
    simp only [go_sem, Nat.reduceEqDiff, Nat.reduceAdd, Nat.reduceMul, Nat.reduceLeDiff, reduceCtorEq, h15, h16, h17, h7, ha, wrap_succ (show i ≤ lenTop by unfold lenTop; omega)]
    refine hN _ _ (by omega) ⟨i + 1, rfl, by omega, by simp [upd, h15, hl], by simp [upd, h16], by simp [upd], by simp [upd, h6], c2, F2, by simp [upd], t1.trans s2, ?_⟩
    rw [take_snoc hx0]; exact hr2
  · simp only [go_sem, Nat.reduceEqDiff, Nat.reduceAdd, Nat.reduceMul, Nat.reduceLeDiff, reduceCtorEq, h16, h17, hlt]
    refine hE _ _ ?_
    have hik : i = k := by omega
    subst hik
    simp only [go_sem, Nat.reduceEqDiff, Nat.reduceAdd, Nat.reduceMul, Nat.reduceLeDiff, reduceCtorEq, h7, h6]
    exact hQ _ _ (Ends.ret rfl ⟨_, _, rfl, hs, c', rfl, hr⟩)
end Go.AX

/- To force a log: the program and the reference do the same. Condition: the log lies in memory. -/
namespace Go.AX
variable {P : Program} {I : Ids}
theorem recOk_many {r : Rec} (h : recOk r = true) : r.many.length ≤ 3 := by
  simp only [recOk, Bool.and_eq_true] at h
  obtain ⟨_, h⟩ := h
  split at h
  · simp only [Bool.and_eq_true, decide_eq_true_eq] at h; omega
  · split at h
    · simp only [manyOk, Bool.and_eq_true, decide_eq_true_eq] at h; omega
    · simp only [Bool.and_eq_true, decide_eq_true_eq] at h; omega
theorem logOk_small {l : Log} (h : logOk l = true) : Small l := by
  simp only [logOk, Bool.and_eq_true, decide_eq_true_eq, List.all_eq_true] at h
  exact ⟨by omega, fun r hr => Nat.le_trans (recOk_many (h.1 r hr)) (by omega)⟩
def log0 : Log := ⟨[], 0⟩
def forceV (l : Log) : Log := if logOk l = true then ⟨l.recs, l.recs.length⟩ else log0
theorem RLog.log0 {H : Heap} : RLog H [.nil, .int .i64 0] log0 [] := ⟨.nil, rfl, .nil⟩
theorem does_i_Log_copied (K : Codes P I) {H : Heap} {cs : List C} {l : Log} {F : List Nat} (h : RLog H cs l F) (hm : Small l) : Does P I.i_Log_copied [.agg cs] H fun v H' => ∃ cs' F', v = .val (.agg cs') ∧ Step [] H H' F' ∧ RLog H' cs' l F' := by
  have h0 := h
  obtain ⟨c, rfl, hc⟩ := h
  refine K.does K.i_Log_copied rfl fun Q hQ => ?_
  simp only [go_sem, L_i_Log_copied, Nat.reduceEqDiff, Nat.reduceAdd, Nat.reduceMul, Nat.reduceLeDiff, reduceCtorEq, hc.len]
  refine Does.call (does_i_Log_first K h0 hm (Nat.le_refl _)) ?_
  rintro _ H1 ⟨cs', F', rfl, s1, h1⟩
  obtain ⟨x0, x1, rfl⟩ := len2 h1.cells
  simp only [go_sem, Nat.reduceEqDiff, Nat.reduceAdd, Nat.reduceMul, Nat.reduceLeDiff, reduceCtorEq]
  rw [List.take_length] at h1
  exact hQ _ _ (Ends.ret rfl ⟨_, _, rfl, s1, h1⟩)
end Go.AX

/- A log that falls: the program and the reference do the same. Condition: the log lies in memory. -/
namespace Go.AX
variable {P : Program} {I : Ids}
def fallN (l : Log) (keep : Int) : Nat := (if 0 < keep then l.forced + min keep (l.recs.length - l.forced) else l.forced).toNat
def fallV (l : Log) (keep : Int) : Log := if logOk l = true then ⟨l.recs.take (fallN l keep), fallN l keep⟩ else log0
theorem logOk_bounds {l : Log} (h : logOk l = true) : 0 ≤ l.forced ∧ l.forced ≤ l.recs.length ∧ l.recs.length ≤ 40 := by
  simp only [logOk, inB, Bool.and_eq_true, decide_eq_true_eq] at h; omega
theorem fallN_le {l : Log} (h : logOk l = true) (keep : Int) : fallN l keep ≤ l.recs.length := by
  have := logOk_bounds h
  unfold fallN; split <;> omega
theorem does_i_LogFall (K : Codes P I) {H : Heap} {cs : List C} {l : Log} {F : List Nat} {keep : Int} (h : RLog H cs l F) : Does P I.i_LogFall [.agg cs, int keep] H fun v H' => ∃ cs' F', v = .val (.agg cs') ∧ Step [] H H' F' ∧ RLog H' cs' (fallV l keep) F' := by
  have h0 := h
  obtain ⟨c, rfl, hc⟩ := h
  refine K.does K.i_LogFall rfl fun Q hQ => ?_
  simp only [go_sem, L_i_LogFall, Nat.reduceEqDiff, Nat.reduceAdd, Nat.reduceMul, Nat.reduceLeDiff, reduceCtorEq]
  refine Does.call (does_i_LogOk K h0) ?_
  rintro _ H ⟨rfl, rfl⟩
  cases hok : logOk l with
  | false =>
    simp only [go_sem, Nat.reduceEqDiff, Nat.reduceAdd, Nat.reduceMul, Nat.reduceLeDiff, reduceCtorEq]
    exact hQ _ _ (Ends.ret rfl ⟨_, [], rfl, Step.refl _, by simp only [fallV, hok]; exact RLog.log0⟩)
  | true =>
    obtain ⟨b1, b2, b3⟩ := logOk_bounds hok
    have hw1 : IntKind.wrap .i64 ((l.recs.length : Int) - l.forced) = l.recs.length - l.forced := wrap_i64 (by omega) (by omega)
    have hw2 : IntKind.wrap .i64 (l.forced + (if (if (l.recs.length : Int) - l.forced < keep then (l.recs.length : Int) - l.forced else keep) < 0 then 0 else (if (l.recs.length : Int) - l.forced < keep then (l.recs.length : Int) - l.forced else keep))) = fallN l keep := by
      rw [wrap_i64]
      · unfold fallN; (repeat' split) <;> omega
      · (repeat' split) <;> omega
      · (repeat' split) <;> omega
    simp only [go_sem, Nat.reduceEqDiff, Nat.reduceAdd, Nat.reduceMul, Nat.reduceLeDiff, reduceCtorEq, hc.len, hw1, Bool.false_eq_true]
    simp only [hw2]
    refine Does.call (does_i_Log_first K h0 (logOk_small hok) (fallN_le hok keep)) ?_
    rintro _ H1 ⟨cs', F', rfl, s1, h1⟩
    obtain ⟨x0, x1, rfl⟩ := len2 h1.cells
    simp only [go_sem, Nat.reduceEqDiff, Nat.reduceAdd, Nat.reduceMul, Nat.reduceLeDiff, reduceCtorEq]
    exact hQ _ _ (Ends.ret rfl ⟨_, _, rfl, s1, by simp only [fallV, hok, if_true]; exact h1⟩)
theorem does_s_l1Fall (K : Codes P I) {H : Heap} {cs : List C} {l : Log} {F : List Nat} {keep : Int} (h : RLog H cs l F) (hok : logOk l = true) :
    Does P I.s_l1Fall [.agg cs, int keep] H fun v H' => ∃ cs' F', v = .val (.agg cs') ∧ H' = H ∧ F'.Sublist F ∧ RLog H cs' (fallV l keep) F' := by
  obtain ⟨c, rfl, hc⟩ := h
  refine K.does K.s_l1Fall rfl fun Q hQ => ?_
  obtain ⟨b1, b2, b3⟩ := logOk_bounds hok
  obtain ⟨cq, Fq, hq, hcq, hsub⟩ := slc_take hc (fallN_le hok keep)
  by_cases hk : 0 < keep
  · have hw1 : IntKind.wrap .i64 ((l.recs.length : Int) - l.forced) = l.recs.length - l.forced := wrap_i64 (by omega) (by omega)
    have hw2 : IntKind.wrap .i64 (l.forced + (if (l.recs.length : Int) - l.forced < keep then (l.recs.length : Int) - l.forced else keep)) = fallN l keep := by
      rw [wrap_i64]
      · unfold fallN; (repeat' split) <;> omega
      · (repeat' split) <;> omega
      · (repeat' split) <;> omega
    simp only [go_sem, L_s_l1Fall, Nat.reduceEqDiff, Nat.reduceAdd, Nat.reduceMul, Nat.reduceLeDiff, reduceCtorEq, hc.len, hk, hw1, hw2, hq, Bool.false_eq_true]
    exact hQ _ _ (Ends.ret rfl ⟨_, Fq, rfl, rfl, hsub, cq, by simp [fallV, hok], by simpa [fallV, hok] using hcq⟩)
  · have hn : (fallN l keep : Int) = l.forced := by unfold fallN; rw [if_neg hk]; omega
    rw [hn] at hq
    simp only [go_sem, L_s_l1Fall, Nat.reduceEqDiff, Nat.reduceAdd, Nat.reduceMul, Nat.reduceLeDiff, reduceCtorEq, hc.len, hk, hq]
    exact hQ _ _ (Ends.ret rfl ⟨_, Fq, rfl, rfl, hsub, cq, by simp [fallV, hok, hn], by simpa [fallV, hok] using hcq⟩)
end Go.AX

/- To write a record down: the program and the reference do the same. Condition: the log and the record lie in memory. -/
namespace Go.AX
variable {P : Program} {I : Ids}
@[go_sem] theorem get_at0 {α : Type} {a : α} {l : List α} : (a :: l)[0]? = some a := rfl
@[go_sem] theorem get_at1 {α : Type} {a b : α} {l : List α} : (a :: b :: l)[1]? = some b := rfl
@[go_sem] theorem get_at2 {α : Type} {a b c : α} {l : List α} : (a :: b :: c :: l)[2]? = some c := rfl
def addL (l : Log) (r : Rec) : Log := if 40 ≤ l.recs.length then l else ⟨l.recs ++ [r], l.forced⟩
def addB (l : Log) : Bool := decide (l.recs.length < 40)
def addV (l : Log) (r : Rec) : Log := if logOk l = true then if recOk r = true then addL l r else log0 else log0
def addOk (l : Log) (r : Rec) : Bool := logOk l && (recOk r && addB l)
theorem does_s_l1Add (K : Codes P I) {H : Heap} {cs ds : List C} {l : Log} {r : Rec} {F G : List Nat} (h : RLog H cs l F) (hr : RRec H ds r G) (ho : Owned H (F ++ G)) :
    Does P I.s_l1Add [.agg cs, .agg ds] H fun v H' => ∃ cs' F', v = .tup [.agg cs', .c (.bool (addB l))] ∧ Step (F ++ G) H H' F' ∧ RLog H' cs' (addL l r) F' := by
  obtain ⟨c, rfl, hc⟩ := h
  obtain ⟨y0, y1, y2, rfl⟩ := len3 hr.cells
  refine K.does K.s_l1Add rfl fun Q hQ => ?_
  by_cases hl : (40 : Int) ≤ l.recs.length
  · have hl' : 40 ≤ l.recs.length := by omega
    have hl2 : ¬ l.recs.length < 40 := by omega
    simp only [go_sem, L_s_l1Add, Nat.reduceEqDiff, Nat.reduceAdd, Nat.reduceMul, Nat.reduceLeDiff, reduceCtorEq, hc.len, hl]
    exact hQ _ _ (Ends.ret rfl ⟨_, F, by simp [tupOf, addB, hl2]; rfl, ho.step.less (List.sublist_append_left F G), by simp only [addL, hl', if_true]; exact ⟨c, rfl, hc⟩⟩)
  · have hl' : ¬ 40 ≤ l.recs.length := by omega
    have hl2 : l.recs.length < 40 := by omega
    obtain ⟨c2, H2, F2, ha, hr2, s2⟩ := app_one RRec.good (by decide) hc hr rfl ho (by simp [lenMax]; omega)
    simp only [go_sem, L_s_l1Add, Nat.reduceEqDiff, Nat.reduceAdd, Nat.reduceMul, Nat.reduceLeDiff, reduceCtorEq, hc.len, hl, ha]
    exact hQ _ _ (Ends.ret rfl ⟨_, F2, by simp [tupOf, addB, hl2]; rfl, s2, by simp only [addL, hl', if_false]; exact ⟨c2, rfl, hr2⟩⟩)
end Go.AX

/- The reader that draws: what it is in memory; to open it. Condition: the bytes lie in memory. -/
namespace Go.AX
variable {P : Program} {I : Ids}
def RByte : RepS Int := fun _ cs x F => cs = [.int .u8 x] ∧ (0 ≤ x ∧ x < 256) ∧ F = []
abbrev Bytes := SlR 1 RByte
theorem RByte.good : Good RByte := ⟨fun _ _ _ _ _ h _ => h, fun _ _ _ _ h => by simp [h.2.2]⟩
/-- A reader: its block, the bytes that it reads, how often it drew. -/
def Rd (H : Heap) (b : Nat) (q : Nat) : Prop := ∃ c bs F, H[b]? = some ⟨.rw, 2, [c, .int .i64 q]⟩ ∧ Bytes H c bs F ∧ ∀ k ∈ F, k < b
theorem does_s_l6Open (K : Codes P I) {H : Heap} {c : C} {xs : List Int} {F : List Nat} (h : Bytes H c xs F) :
    Does P I.s_l6Open [.c c] H fun v H' => ∃ b, v = .val (.c (.ptr b 0)) ∧ Step [] H H' [b] ∧ Rd H' b 0 := by
  refine K.does K.s_l6Open rfl fun Q hQ => ?_
  have fin : ∀ (d : C) (ys : List Int) (G : List Nat), Bytes H d ys G → Step [] H (H ++ [⟨.rw, 2, [d, .int .i64 0]⟩]) [H.length] ∧ Rd (H ++ [⟨.rw, 2, [d, .int .i64 0]⟩]) H.length 0 := fun d ys G hd => by
    refine ⟨⟨fun k hk _ => List.getElem?_append_left hk, by simp, by simp, fun k hk => ?_, fun k hk => ?_⟩, d, ys, G, by simp, ?_, fun k hk => hd.lt RByte.good k hk⟩
    · simp at hk; subst hk; exact ⟨⟨.rw, 2, [d, .int .i64 0]⟩, by simp, rfl⟩
    · simp at hk; subst hk; exact .inr (Nat.le_refl _)
    · exact hd.frame RByte.good fun k hk => List.getElem?_append_left (hd.lt RByte.good k hk)
  by_cases hl : (2000 : Int) < xs.length
  · obtain ⟨cq, Fq, hq, hcq, _⟩ := slc_take h (k := 2000) (by omega)
    have hq' : slcC H 1 c 0 (some 2000) = some cq := hq
    simp only [go_sem, L_s_l6Open, Nat.reduceEqDiff, Nat.reduceAdd, Nat.reduceMul, Nat.reduceLeDiff, reduceCtorEq, h.len, hl, hq']
    obtain ⟨s1, r1⟩ := fin cq _ _ hcq
    exact hQ _ _ (Ends.ret rfl ⟨_, rfl, s1, r1⟩)
  · simp only [go_sem, L_s_l6Open, Nat.reduceEqDiff, Nat.reduceAdd, Nat.reduceMul, Nat.reduceLeDiff, reduceCtorEq, h.len, hl]
    obtain ⟨s1, r1⟩ := fin c _ _ h
    exact hQ _ _ (Ends.ret rfl ⟨_, rfl, s1, r1⟩)
end Go.AX

/- To draw a number: it is none below nothing, and below what was asked. Condition: the reader lies in memory, and drew less often than 2^40. -/
namespace Go.AX
variable {P : Program} {I : Ids}
theorem xor_ok {a b : Int} (ha : 0 ≤ a) (ha' : a < 4611686018427387904) (hb : 0 ≤ b) (hb' : b < 4611686018427387904) :
    0 ≤ IntKind.wrap .i64 ((BitVec.ofInt IntKind.i64.bits a ^^^ BitVec.ofInt IntKind.i64.bits b).toNat : Int) := by
  have h : (BitVec.ofInt IntKind.i64.bits a ^^^ BitVec.ofInt IntKind.i64.bits b).toNat < 2 ^ 62 := by
    rw [BitVec.toNat_xor]
    refine Nat.xor_lt_two_pow ?_ ?_
    · rw [BitVec.toNat_ofInt]; simp only [IntKind.bits]; omega
    · rw [BitVec.toNat_ofInt]; simp only [IntKind.bits]; omega
  rw [wrap_i64 (by omega) (by omega)]; omega
def Drawn (n k : Int) : Prop := 0 ≤ k ∧ (0 < n → k < n) ∧ (n < 1 → k = 0)
set_option maxRecDepth 10000 in
theorem does_s_l6Rd_pick (K : Codes P I) {H : Heap} {b q : Nat} {n : Int} (h : Rd H b q) (hq : q < 1099511627776) :
    Does P I.s_l6Rd_pick [.c (.ptr b 0), int n] H fun v H' => ∃ k : Int, v = .val (int k) ∧ Drawn n k ∧ Step [b] H H' [b] ∧ Rd H' b (q + 1) := by
  obtain ⟨c, bs, F, hb, hc, hbF⟩ := h
  have hb1 := Heap.wr_at (cs' := [c, .int .i64 ((q : Int) + 1)]) hb
  have hc1 : Bytes (H.wr b [c, .int .i64 ((q : Int) + 1)]) c bs F := hc.frame RByte.good fun k hk => Heap.wr_ne fun e => by have := hbF k hk; omega
  have hs1 : Step [b] H (H.wr b [c, .int .i64 ((q : Int) + 1)]) [b] := Step.wr ⟨by simp, fun k hk => by simp at hk; subst hk; exact ⟨_, hb, rfl⟩⟩ hb (by simp)
  have hr1 : Rd (H.wr b [c, .int .i64 ((q : Int) + 1)]) b (q + 1) := ⟨c, bs, F, by rw [hb1]; simp, hc1, hbF⟩
  have own0 := Heap.own_of hb
  have live0 := Heap.live_of hb (by decide)
  have live1 := Heap.live_of hb1 (by decide)
  have hw1 : IntKind.wrap .i64 ((q : Int) + 1) = (q : Int) + 1 := wrap_i64 (by omega) (by omega)
  refine K.does K.s_l6Rd_pick rfl fun Q hQ => ?_
  by_cases hn : n < 1
  · simp only [go_sem, L_s_l6Rd_pick, Nat.reduceEqDiff, Nat.reduceAdd, Nat.reduceMul, Nat.reduceLeDiff, reduceCtorEq, hn, own0, live0, live1, hw1]
    exact hQ _ _ (Ends.ret rfl ⟨0, rfl, ⟨by omega, by omega, fun _ => rfl⟩, hs1, hr1⟩)
  · by_cases hl : (bs.length : Int) = 0
    · simp only [go_sem, L_s_l6Rd_pick, Nat.reduceEqDiff, Nat.reduceAdd, Nat.reduceMul, Nat.reduceLeDiff, reduceCtorEq, hn, own0, live0, live1, hw1, hc1.len, hl]
      exact hQ _ _ (Ends.ret rfl ⟨0, rfl, ⟨by omega, by omega, fun _ => rfl⟩, hs1, hr1⟩)
    · have hw2 : IntKind.wrap .i64 ((q : Int) + 1 - 1) = (q : Int) := by rw [wrap_i64 (by omega) (by omega)]; omega
      have hn0 : n ≠ 0 := by omega
      by_cases hq2 : (q : Int) < bs.length
      · obtain ⟨x, hx⟩ := get_lt hq2
        obtain ⟨b1, o1, bs1, cs1, f1, rfl, e1, e2, ⟨rfl, hxb, _⟩, _, _⟩ := hc1.get hx
        have hwx : IntKind.wrap .i64 x = x := wrap_i64 (by omega) (by omega)
        simp only [go_sem, L_s_l6Rd_pick, Nat.reduceEqDiff, Nat.reduceAdd, Nat.reduceMul, Nat.reduceLeDiff, reduceCtorEq, hn, own0, live0, live1, hw1, hw2, hc1.len, hl, hq2, lenC, e1, e2, hwx, hn0]
        exact hQ _ _ (Ends.ret rfl ⟨x.tmod n, rfl, ⟨Int.tmod_nonneg n hxb.1, fun h => Int.tmod_lt_of_pos x h, fun h => absurd h hn⟩, hs1, hr1⟩)
      · have hL : 0 < bs.length := by omega
        obtain ⟨x, hx⟩ : ∃ x, bs[q % bs.length]? = some x := get_lt (by have := Nat.mod_lt q hL; omega)
        obtain ⟨y, hy⟩ : ∃ y, bs[(q * 7 + 3) % bs.length]? = some y := get_lt (by have := Nat.mod_lt (q * 7 + 3) hL; omega)
        have j1 : (q : Int).tmod bs.length = ((q % bs.length : Nat) : Int) := rfl
        have j2 : ((q : Int) * 7 + 3).tmod bs.length = (((q * 7 + 3) % bs.length : Nat) : Int) := rfl
        have l1 : ((q % bs.length : Nat) : Int) < bs.length := by have := Nat.mod_lt q hL; omega
        have l2 : (((q * 7 + 3) % bs.length : Nat) : Int) < bs.length := by have := Nat.mod_lt (q * 7 + 3) hL; omega
        obtain ⟨b1, o1, bs1, cs1, f1, rfl, e1, e2, ⟨rfl, hxb, _⟩, _, _⟩ := hc1.get hx
        obtain ⟨b2, o2, bs2, cs2, f2, hsl, g1, g2, ⟨rfl, hyb, _⟩, _, _⟩ := hc1.get hy
        simp only [C.sl.injEq, and_true] at hsl
        obtain ⟨rfl, rfl⟩ := hsl
        have hbs : bs1 = bs2 := by rw [e1] at g1; simpa using g1
        subst hbs
        have hwx : IntKind.wrap .i64 x = x := wrap_i64 (by omega) (by omega)
        have hwy : IntKind.wrap .i64 y = y := wrap_i64 (by omega) (by omega)
        have a1 : IntKind.wrap .i64 (x * 131) = x * 131 := wrap_i64 (by omega) (by omega)
        have a2 : IntKind.wrap .i64 ((q : Int) * 7) = (q : Int) * 7 := wrap_i64 (by omega) (by omega)
        have a3 : IntKind.wrap .i64 ((q : Int) * 7 + 3) = (q : Int) * 7 + 3 := wrap_i64 (by omega) (by omega)
        have a4 : IntKind.wrap .i64 (y * 1117) = y * 1117 := wrap_i64 (by omega) (by omega)
        have a5 : IntKind.wrap .i64 (x * 131 + y * 1117) = x * 131 + y * 1117 := wrap_i64 (by omega) (by omega)
        have a6 : IntKind.wrap .i64 ((q : Int) * 29) = (q : Int) * 29 := wrap_i64 (by omega) (by omega)
        have a7 : IntKind.wrap .i64 (x * 131 + y * 1117 + (q : Int) * 29) = x * 131 + y * 1117 + (q : Int) * 29 := wrap_i64 (by omega) (by omega)
        have jd : (q : Int).tdiv bs.length = ((q / bs.length : Nat) : Int) := rfl
        have ld : q / bs.length ≤ q := Nat.div_le_self _ _
        generalize q / bs.length = d at jd ld
        have a8 : IntKind.wrap .i64 (d : Int) = d := wrap_i64 (by omega) (by omega)
        have a9 : IntKind.wrap .i64 ((d : Int) * 53) = (d : Int) * 53 := wrap_i64 (by omega) (by omega)
        have a10 : IntKind.wrap .i64 (x * 131 + y * 1117 + (q : Int) * 29 + (d : Int) * 53) = x * 131 + y * 1117 + (q : Int) * 29 + (d : Int) * 53 := wrap_i64 (by omega) (by omega)
        simp only [go_sem, L_s_l6Rd_pick, Nat.reduceEqDiff, Nat.reduceAdd, Nat.reduceMul, Nat.reduceLeDiff, reduceCtorEq, hn, own0, live0, live1, hw1, hw2, hc1.len, hl, hq2, lenC, e1, e2, g1, g2, hwx, hwy, hn0, j1, j2, l1, l2, jd, a1, a2, a3, a4, a5, a6, a7, a8, a9, a10, Int.reduceEq]
        have hz : 0 ≤ x * 131 + y * 1117 + (q : Int) * 29 + (d : Int) * 53 := by omega
        have hz2 : x * 131 + y * 1117 + (q : Int) * 29 + (d : Int) * 53 < 4611686018427387904 := by omega
        generalize x * 131 + y * 1117 + (q : Int) * 29 + (d : Int) * 53 = z at hz hz2
        have ht : 0 ≤ z.tdiv 64 ∧ z.tdiv 64 < 4611686018427387904 := by rw [Int.tdiv_eq_ediv_of_nonneg hz]; omega
        have a11 : IntKind.wrap .i64 (z.tdiv 64) = z.tdiv 64 := wrap_i64 (by omega) (by omega)
        rw [a11]
        have hx2 := xor_ok hz hz2 ht.1 ht.2
        exact hQ _ _ (Ends.ret rfl ⟨_, rfl, ⟨Int.tmod_nonneg n hx2, fun h => Int.tmod_lt_of_pos _ h, fun h => absurd h hn⟩, hs1, hr1⟩)
end Go.AX

/- What the program computes, in plain Lean: stocks, trips, words. No condition: definitions, and what holds of them. -/
namespace Go.AX
/-! Stocks. -/
def holdOk (h : Hold) : Bool := if h.state = 0 then decide (h.many = 0) else if h.state = 1 ∨ h.state = 2 then inB h.many 1 3 else if h.state = 3 then inB h.many 0 3 else false
def had (h : Hold) : Int := if h.state = 1 ∨ h.state = 2 then h.many else 0
def hadAll : List Hold → Int
  | [] => 0
  | h :: r => had h + hadAll r
def freeS (s : Stock) : Int := s.room - hadAll s.holds
def stockOk (s : Stock) : Bool := inB s.room 0 9 && (decide (s.holds.length = 6) && (s.holds.all holdOk && decide (0 ≤ freeS s)))
def stock0 : Stock := ⟨0, []⟩
def stockN (room : Int) : Stock := ⟨room, List.replicate 6 ⟨0, 0⟩⟩
def stockNewV (room : Int) : Stock := if inB room 0 9 = true then stockN room else stock0
def holdAt (s : Stock) (t : Int) : Hold := s.holds[(t - 1).toNat]?.getD ⟨0, 0⟩
def first (ms : List Int) : Int := ms.headD 0
def stockMayB (s : Stock) (r : Rec) : Bool :=
  if r.kind = 1 then decide ((holdAt s r.trip).state = 0) && decide (first r.many ≤ freeS s)
  else if r.kind = 2 then decide ((holdAt s r.trip).state = 1)
  else if r.kind = 3 then decide ((holdAt s r.trip).state = 1) || decide ((holdAt s r.trip).state = 0) else false
def holdDo (h : Hold) (r : Rec) : Hold := if r.kind = 1 then ⟨first r.many, 1⟩ else if r.kind = 2 then ⟨h.many, 2⟩ else ⟨h.many, 3⟩
def stockDoL (s : Stock) (r : Rec) : Stock := ⟨s.room, s.holds.set (r.trip - 1).toNat (holdDo (holdAt s r.trip) r)⟩
def stockMay (s : Stock) (r : Rec) : Bool := stockOk s && (recOk r && stockMayB s r)
def stockStep (o : Option Stock) (r : Rec) : Option Stock := o.bind fun s => if (recOk r && stockMayB s r) = true then some (stockDoL s r) else none
def stockOf (room : Int) (recs : List Rec) : Option Stock := recs.foldl stockStep (if inB room 0 9 = true then some (stockN room) else none)

theorem hadAll_set {hs : List Hold} {i : Nat} {h : Hold} (hi : hs[i]? = some h) (h' : Hold) : hadAll (hs.set i h') = hadAll hs - had h + had h' := by
  induction hs generalizing i with
  | nil => simp at hi
  | cons x r ih =>
    cases i with
    | zero => simp at hi; subst hi; simp only [List.set_cons_zero, hadAll]; omega
    | succ i => simp only [List.set_cons_succ, hadAll]; rw [ih (by simpa using hi)]; omega
theorem stockOk_parts {s : Stock} (h : stockOk s = true) : (0 ≤ s.room ∧ s.room ≤ 9) ∧ s.holds.length = 6 ∧ (∀ h ∈ s.holds, holdOk h = true) ∧ 0 ≤ freeS s := by
  simp only [stockOk, inB, Bool.and_eq_true, decide_eq_true_eq, List.all_eq_true] at h
  exact ⟨h.1, h.2.1, h.2.2.1, h.2.2.2⟩
theorem stockOk_of {s : Stock} (h1 : 0 ≤ s.room ∧ s.room ≤ 9) (h2 : s.holds.length = 6) (h3 : ∀ h ∈ s.holds, holdOk h = true) (h4 : 0 ≤ freeS s) : stockOk s = true := by
  simp only [stockOk, inB, Bool.and_eq_true, decide_eq_true_eq, List.all_eq_true]
  exact ⟨h1, h2, h3, h4⟩
theorem recOk_trip {r : Rec} (h : recOk r = true) : 1 ≤ r.trip ∧ r.trip ≤ 6 := by
  simp only [recOk, inB, Bool.and_eq_true, decide_eq_true_eq] at h; exact h.1
theorem recOk_kind {r : Rec} (h : recOk r = true) : 1 ≤ r.kind ∧ r.kind ≤ 7 := by
  simp only [recOk, Bool.and_eq_true] at h
  obtain ⟨_, h⟩ := h
  split at h
  · omega
  · split at h
    · omega
    · simp only [inB, Bool.and_eq_true, decide_eq_true_eq] at h; omega
theorem recOk_hold {r : Rec} (h : recOk r = true) (hk : r.kind = 1) : ∃ n, r.many = [n] ∧ 1 ≤ n ∧ n ≤ 3 := by
  simp only [recOk, hk, if_true, Bool.and_eq_true, decide_eq_true_eq] at h
  obtain ⟨_, h1, h2⟩ := h
  match hm : r.many, h1 with
  | [n], _ => rw [hm] at h2; simp [inB] at h2; exact ⟨n, rfl, h2.1, h2.2⟩
theorem holdAt_get {s : Stock} (h : s.holds.length = 6) {t : Int} (h1 : 1 ≤ t) (h2 : t ≤ 6) : s.holds[(t - 1).toNat]? = some (holdAt s t) := by
  unfold holdAt
  rw [List.getElem?_eq_getElem (by omega)]; rfl
theorem had_nonneg {h : Hold} (hk : holdOk h = true) : 0 ≤ had h := by
  unfold had holdOk at *
  (repeat' split at hk) <;> (try split) <;> simp_all [inB] <;> omega
theorem stockOk_do {s : Stock} {r : Rec} (hs : stockOk s = true) (hr : recOk r = true) (hm : stockMayB s r = true) : stockOk (stockDoL s r) = true := by
  obtain ⟨hroom, hlen, hall, hfree⟩ := stockOk_parts hs
  have ht := recOk_trip hr
  have hg := holdAt_get hlen ht.1 ht.2
  have hok := hall _ (List.mem_of_getElem? hg)
  have hnn := had_nonneg hok
  have hset := hadAll_set hg (holdDo (holdAt s r.trip) r)
  have key : holdOk (holdDo (holdAt s r.trip) r) = true ∧ had (holdDo (holdAt s r.trip) r) ≤ had (holdAt s r.trip) + (if r.kind = 1 then first r.many else 0) ∧ (r.kind = 1 → first r.many ≤ freeS s) := by
    unfold stockMayB at hm
    generalize holdAt s r.trip = h at hok hm hnn
    split at hm
    · rename_i hk
      simp only [Bool.and_eq_true, decide_eq_true_eq] at hm
      obtain ⟨n, hn, h1, h3⟩ := recOk_hold hr hk
      have hf : first r.many = n := by rw [hn]; rfl
      rw [hf] at hm ⊢
      refine ⟨by simp [holdDo, hk, holdOk, inB, hf, h1, h3], ?_, fun _ => hm.2⟩
      simp only [holdDo, hk, if_true, hf]
      unfold had
      rw [if_pos (.inl rfl)]
      split <;> simp_all
    · rename_i hk
      split at hm
      · rename_i hk2
        simp only [decide_eq_true_eq] at hm
        refine ⟨?_, ?_, fun h => absurd h hk⟩
        · simp only [holdDo, hk2]; simp [holdOk, hm] at hok ⊢; exact hok
        · simp [holdDo, hk2, had, hm]
      · rename_i hk2
        refine ⟨?_, ?_, fun h => absurd h hk⟩
        · simp only [holdDo, if_neg hk, if_neg hk2]
          unfold holdOk at hok ⊢
          simp only [inB] at hok ⊢
          (repeat' split at hok) <;> simp_all <;> omega
        · simp only [holdDo, if_neg hk, if_neg hk2]
          have : had (⟨h.many, 3⟩ : Hold) = 0 := by simp [had]
          omega
  refine stockOk_of hroom (by simpa [stockDoL] using hlen) (fun x hx => ?_) ?_
  · rcases List.mem_or_eq_of_mem_set hx with hx | rfl
    · exact hall x hx
    · exact key.1
  · have e : freeS (stockDoL s r) = s.room - (hadAll s.holds - had (holdAt s r.trip) + had (holdDo (holdAt s r.trip) r)) := by
      unfold freeS stockDoL; rw [← hset]
    rw [e]
    obtain ⟨_, k2, k3⟩ := key
    unfold freeS at hfree k3
    split at k2
    · rename_i hk; have := k3 hk; omega
    · omega
theorem stockN_ok {room : Int} (h : inB room 0 9 = true) : stockOk (stockN room) = true := by
  simp only [stockOk, stockN, h, freeS]
  simp [hadAll, had, holdOk, List.replicate, inB] at h ⊢
  omega
theorem stockOf_snoc {room : Int} {recs : List Rec} {r : Rec} : stockOf room (recs ++ [r]) = stockStep (stockOf room recs) r := by simp [stockOf]
theorem stockStep_none {r : Rec} : stockStep none r = none := rfl
theorem foldl_stock_none : ∀ (recs : List Rec), recs.foldl stockStep none = none
  | [] => rfl
  | r :: rs => by rw [List.foldl_cons, stockStep_none]; exact foldl_stock_none rs
theorem stockFold_ok : ∀ (recs : List Rec) (o : Option Stock) {s : Stock}, (∀ s, o = some s → stockOk s = true) → recs.foldl stockStep o = some s → stockOk s = true
  | [], o, s, h, e => h s e
  | r :: rs, o, s, h, e => by
    refine stockFold_ok rs (stockStep o r) (fun t ht => ?_) e
    cases o with
    | none => cases ht
    | some u =>
      simp only [stockStep, Option.bind_some] at ht
      split at ht
      · rename_i hc
        rw [Bool.and_eq_true] at hc
        cases ht
        exact stockOk_do (h u rfl) hc.1 hc.2
      · cases ht
theorem stockOf_ok {room : Int} {recs : List Rec} {s : Stock} (h : stockOf room recs = some s) : stockOk s = true := by
  refine stockFold_ok recs _ (fun t ht => ?_) h
  split at ht
  · rename_i hr; cases ht; exact stockN_ok hr
  · cases ht
/-- A beginning of records that make a stock makes one. -/
theorem stockOf_take {room : Int} {recs : List Rec} {s : Stock} (h : stockOf room recs = some s) (k : Nat) : ∃ t, stockOf room (recs.take k) = some t := by
  cases ht : stockOf room (recs.take k) with
  | some t => exact ⟨t, rfl⟩
  | none =>
    have : stockOf room recs = (recs.drop k).foldl stockStep (stockOf room (recs.take k)) := by
      unfold stockOf; rw [← List.foldl_append, List.take_append_drop]
    rw [ht, foldl_stock_none] at this
    rw [this] at h; cases h

/-! Trips. -/
def stateOf (list : List Trip) (t : Int) : Int := if inB t 1 list.length = true then (list[(t - 1).toNat]?.map (·.state)).getD 0 else 0
def tripMayB (list : List Trip) (r : Rec) : Bool :=
  if r.kind = 4 then decide (r.trip = list.length + 1)
  else if r.kind = 5 ∨ r.kind = 6 then decide (stateOf list r.trip = 1)
  else if r.kind = 7 then decide (stateOf list r.trip = 2) || decide (stateOf list r.trip = 3) else false
def tripOk (t : Trip) : Bool := manyOk t.many && inB t.state 1 5
def tripsOk (list : List Trip) : Bool := decide (list.length ≤ 6) && list.all tripOk
def tripsMay (list : List Trip) (r : Rec) : Bool := tripsOk list && (recOk r && tripMayB list r)
def tripStep (t : Trip) (r : Rec) : Trip := ⟨t.many, if r.kind = 5 then 2 else if r.kind = 6 then 3 else if t.state = 2 then 4 else 5⟩
def tripsDoL (list : List Trip) (r : Rec) : List Trip :=
  if r.kind = 4 then list ++ [⟨r.many, 1⟩] else list.modify (r.trip - 1).toNat (tripStep · r)
def tripsDoV (list : List Trip) (r : Rec) : List Trip := if tripsMay list r = true then tripsDoL list r else []
def tripsStep (o : Option (List Trip)) (r : Rec) : Option (List Trip) := o.bind fun l => if (recOk r && tripMayB l r) = true then some (tripsDoL l r) else none
def tripsOf (recs : List Rec) : Option (List Trip) := recs.foldl tripsStep (some [])
theorem tripsOk_parts {l : List Trip} (h : tripsOk l = true) : l.length ≤ 6 ∧ ∀ t ∈ l, manyOk t.many = true ∧ 1 ≤ t.state ∧ t.state ≤ 5 := by
  simp only [tripsOk, tripOk, inB, Bool.and_eq_true, decide_eq_true_eq, List.all_eq_true] at h
  exact ⟨h.1, fun t ht => h.2 t ht⟩
theorem manyOk_len {ms : List Int} (h : manyOk ms = true) : ms.length = 3 := by
  simp only [manyOk, Bool.and_eq_true, decide_eq_true_eq] at h; exact h.1
theorem recOk_begin {r : Rec} (h : recOk r = true) (hk : r.kind = 4) : manyOk r.many = true := by
  simp only [recOk, hk] at h
  simp at h; exact h.2
theorem tripsOk_do {l : List Trip} {r : Rec} (hl : tripsOk l = true) (hr : recOk r = true) (hm : tripMayB l r = true) : tripsOk (tripsDoL l r) = true := by
  obtain ⟨h1, h2⟩ := tripsOk_parts hl
  have ht := recOk_trip hr
  unfold tripsDoL
  split
  · rename_i hk
    simp only [tripMayB, hk, if_true, decide_eq_true_eq] at hm
    simp only [tripsOk, tripOk, inB, Bool.and_eq_true, decide_eq_true_eq, List.all_eq_true, List.length_append, List.length_cons, List.length_nil, List.mem_append, List.mem_cons, List.not_mem_nil, or_false]
    refine ⟨by omega, fun t ht => ?_⟩
    rcases ht with ht | rfl
    · exact h2 t ht
    · exact ⟨recOk_begin hr hk, by simp, by simp⟩
  · simp only [tripsOk, tripOk, inB, Bool.and_eq_true, decide_eq_true_eq, List.all_eq_true, List.length_modify]
    refine ⟨h1, fun t ht => ?_⟩
    obtain ⟨i, hi⟩ := List.mem_iff_getElem?.1 ht
    rw [List.getElem?_modify] at hi
    cases hx : l[i]? with
    | none => rw [hx] at hi; simp at hi
    | some x =>
      rw [hx] at hi
      have hxm := h2 x (List.mem_of_getElem? hx)
      have hi' : (if (r.trip - 1).toNat = i then tripStep x r else x) = t := by simpa using hi
      subst hi'
      split
      · simp only [tripStep]
        refine ⟨hxm.1, ?_⟩
        (repeat' split) <;> omega
      · exact hxm
theorem tripsOf_snoc {recs : List Rec} {r : Rec} : tripsOf (recs ++ [r]) = tripsStep (tripsOf recs) r := by simp [tripsOf]
theorem foldl_trips_none : ∀ (recs : List Rec), recs.foldl tripsStep none = none
  | [] => rfl
  | r :: rs => by rw [List.foldl_cons]; exact foldl_trips_none rs
theorem tripsFold_ok : ∀ (recs : List Rec) (o : Option (List Trip)) {s : List Trip}, (∀ s, o = some s → tripsOk s = true) → recs.foldl tripsStep o = some s → tripsOk s = true
  | [], o, s, h, e => h s e
  | r :: rs, o, s, h, e => by
    refine tripsFold_ok rs (tripsStep o r) (fun t ht => ?_) e
    cases o with
    | none => cases ht
    | some u =>
      simp only [tripsStep, Option.bind_some] at ht
      split at ht
      · rename_i hc
        rw [Bool.and_eq_true] at hc
        cases ht
        exact tripsOk_do (h u rfl) hc.1 hc.2
      · cases ht
theorem tripsOf_ok {recs : List Rec} {l : List Trip} (h : tripsOf recs = some l) : tripsOk l = true :=
  tripsFold_ok recs _ (fun t ht => by cases ht; rfl) h
theorem tripsOf_take {recs : List Rec} {l : List Trip} (h : tripsOf recs = some l) (k : Nat) : ∃ t, tripsOf (recs.take k) = some t := by
  cases ht : tripsOf (recs.take k) with
  | some t => exact ⟨t, rfl⟩
  | none =>
    have : tripsOf recs = (recs.drop k).foldl tripsStep (tripsOf (recs.take k)) := by
      unfold tripsOf; rw [← List.foldl_append, List.take_append_drop]
    rw [ht, foldl_trips_none] at this
    rw [this] at h; cases h

/-! Words. -/
def wordOk (w : Word) : Bool := inB w.kind 1 7 && (inB w.house 1 3 && (inB w.trip 1 6 && (if w.kind = 1 then inB w.many 1 3 else decide (w.many = 0))))
end Go.AX

/- Writes into an element of a slice that one has; new blocks; the reader, by how often it drew at most. Condition: the blocks are one's own. -/
namespace Go.AX
variable {P : Program} {I : Ids}
@[go_sem] theorem lenC_sl {b off n : Nat} : lenC (.sl b off n) = some n := rfl
@[go_sem] theorem lenC_nil : lenC .nil = some 0 := rfl
@[go_sem] theorem lenC_emp {c : Bool} : lenC (.emp c) = some 0 := rfl
theorem Does.test {k : List Fr} {Q : AExit → S → Prop} {Z : Zs} {f : FuncId} {args : List V} {s : S} {d : Nat} {os : List AO} {v : AV} (h : Does P f args s.H fun r H' => r = v ∧ H' = s.H) (hk : RUh P true { s.put d v with H := s.H } Z os k Q) : RUc P (some args) f d s Z os k Q :=
  h.call fun _ _ ⟨h1, h2⟩ => by subst h1; subst h2; exact hk
theorem Step.ge {H H' : Heap} {F : List Nat} (h : Step [] H H' F) : ∀ b ∈ F, H.length ≤ b := fun b hb => (h.src b hb).resolve_left (by simp)
theorem Owned.keep {H H' : Heap} {F F' G : List Nat} (o : Owned H G) (s : Step F H H' F') (hd : ∀ b ∈ G, b ∉ F) : Owned H' G := o.frame fun k hk => s.old k (by obtain ⟨B, hB, _⟩ := o.2 k hk; exact own_len hB) (hd k hk)
theorem Owned.stay {H H' : Heap} {F' G : List Nat} (o : Owned H G) (s : Step [] H H' F') : Owned H' G := o.keep s (by simp)
attribute [go_sem] eq_self
/-- A write into an element. -/
theorem sl_put {α : Type} {n : Nat} {R : RepS α} (hR : Good R) {H : Heap} {c : C} {xs : List α} {F : List Nat} (h : SlR n R H c xs F) (ho : Owned H F) {i : Nat} {x : α} (hi : xs[i]? = some x) (j : Nat) (v : List C) (hj : j + v.length ≤ n) (x' : α)
    (hx : ∀ (H' : Heap) (cs : List C) (f : List Nat), R H' cs x f → cs.length = n → R H' (splice cs j v) x' f) :
    ∃ b off bs H', c = .sl b off xs.length ∧ H.own b = some (n, bs) ∧ off + i * n + j + v.length ≤ bs.length ∧ H.wr b (splice bs (off + i * n + j) v) = H' ∧ SlR n R H' c (xs.set i x') F ∧ Step F H H' F := by
  obtain ⟨b, off, bs, cs, f, st, A, B, e1, hb, _, hs, hl, hle, hr, hF, hbA, hput⟩ := h.focus hR ho.1 hi
  have hbF : b ∈ F := by rw [hF]; simp [hbA]
  have hw := ho.st hbF hb
  subst hw
  obtain ⟨H', bs', w1, hb', s1, own1, le1, oth1, len1, eq1, _⟩ := store_in hb hs j v hj
  have hne := focus_ne ho.1 hF hbA
  have hof := ho.mid hF
  obtain ⟨hS, hoth⟩ := elem_step ho hF hbA ⟨_, hb', rfl⟩ (fun k hk => by rw [oth1 k (hne k hk)]; exact hof.2 k hk) (fun k _ hkb _ => oth1 k hkb) (by omega)
  have hl' : (splice cs j v).length = n := by simp [splice]; omega
  refine ⟨b, off, bs, H', e1, own1, le1, w1, ?_, hS⟩
  have := hput H' (splice cs j v) x' f hl' (hb'.trans (by rw [eq1])) hoth (hx H' cs f (hR.frame _ _ _ _ _ hr fun k hk => oth1 k (hne k hk)) hl)
  rw [hF]; exact this
theorem ints_put {H : Heap} {c : C} {xs : List Int} {F : List Nat} (h : Ints H c xs F) (ho : Owned H F) {i : Nat} (hi : i < xs.length) (v : Int) :
    ∃ b off bs H', c = .sl b off xs.length ∧ H.own b = some (1, bs) ∧ off + i * 1 + 1 ≤ bs.length ∧ H.wr b (splice bs (off + i * 1) [.int .i64 v]) = H' ∧ Ints H' c (xs.set i v) F ∧ Step F H H' F := by
  obtain ⟨b, off, bs, H', e1, e2, e3, e4, e5, e6⟩ := sl_put RInt.good h ho (List.getElem?_eq_getElem hi) 0 [.int .i64 v] (by simp) v (fun H' cs f hr hl => by obtain ⟨rfl, rfl⟩ := hr; exact ⟨by simp [splice], rfl⟩)
  exact ⟨b, off, bs, H', e1, e2, by simpa using e3, by simpa using e4, e5, e6⟩
/-- A new block. -/
theorem step_new {H : Heap} {n : Nat} {cs : List C} : Step [] H (H ++ [⟨.rw, n, cs⟩]) [H.length] :=
  ⟨fun k hk _ => List.getElem?_append_left hk, by simp, by simp, fun k hk => by simp at hk; subst hk; exact ⟨⟨.rw, n, cs⟩, by simp, rfl⟩, fun k hk => by simp at hk; subst hk; exact .inr (Nat.le_refl _)⟩
@[go_sem] theorem live_new {H : Heap} {n : Nat} {cs : List C} : Heap.live (H ++ [⟨.rw, n, cs⟩]) H.length = some cs := Heap.live_of (b := H.length) (st := .rw) (n := n) (by simp) (by decide)
@[go_sem] theorem own_new {H : Heap} {n : Nat} {cs : List C} : Heap.own (H ++ [⟨.rw, n, cs⟩]) H.length = some (n, cs) := Heap.own_of (by simp)
theorem ints_new {H : Heap} {cs : List C} (xs : List Int) (hc : cs = xs.map (C.int .i64)) (hl : xs.length ≤ lenTop) : Ints (H ++ [⟨.rw, 1, cs⟩]) (.sl H.length 0 xs.length) xs [H.length] := by
  subst hc
  refine .inr ⟨H.length, [], [], xs.map fun x => [C.int .i64 x], xs.map fun _ => [], .rw, rfl, ?_, ?_, by decide, ?_, hl⟩
  · simp
  · have : (xs.map fun x => [C.int .i64 x]).flatten = xs.map (C.int .i64) := by
      clear hl
      induction xs with
      | nil => rfl
      | cons x r ih => simp [ih]
    rw [this]; simp
  · clear hl
    induction xs with
    | nil => exact .nil
    | cons x r ih => exact .cons rfl ⟨rfl, rfl⟩ ih
/-! The reader. -/
/-- It drew q times at most. -/
def RdM (H : Heap) (b q : Nat) : Prop := ∃ p, p ≤ q ∧ Rd H b p
theorem RdM.mono {H : Heap} {b q q' : Nat} (h : RdM H b q) (hq : q ≤ q') : RdM H b q' := by
  obtain ⟨p, h1, h2⟩ := h; exact ⟨p, Nat.le_trans h1 hq, h2⟩
theorem RdM.lt {H : Heap} {b q : Nat} (h : RdM H b q) : b < H.length := by
  obtain ⟨p, _, c, bs, F, h2, _⟩ := h; exact (List.getElem?_eq_some_iff.1 h2).1
/-- What changes is younger than the reader. -/
theorem RdM.keep {H H' : Heap} {b q : Nat} {F F' : List Nat} (h : RdM H b q) (s : Step F H H' F') (hf : ∀ k ∈ F, b < k) : RdM H' b q := by
  have hb := h.lt
  obtain ⟨p, h1, c, bs, G, h2, h3, h4⟩ := h
  refine ⟨p, h1, c, bs, G, ?_, ?_, h4⟩
  · rw [s.old b hb fun hc => by have := hf b hc; omega]; exact h2
  · exact s.keepSl RByte.good h3 fun k hk hc => by have := h4 k hk; have := hf k hc; omega
theorem RdM.stay {H H' : Heap} {b q : Nat} {F' : List Nat} (h : RdM H b q) (s : Step [] H H' F') : RdM H' b q := h.keep s (by simp)
theorem draws_open (K : Codes P I) {H : Heap} {c : C} {xs : List Int} {F : List Nat} (h : Bytes H c xs F) : Does P I.s_l6Open [.c c] H fun v H' => ∃ b, v = .val (.c (.ptr b 0)) ∧ Step [] H H' [b] ∧ RdM H' b 0 :=
  (does_s_l6Open K h).mono fun _ _ ⟨b, h1, h2, h3⟩ => ⟨b, h1, h2, 0, Nat.le_refl _, h3⟩
theorem draws_pick (K : Codes P I) {H : Heap} {b q : Nat} {n : Int} (h : RdM H b q) (hq : q < 1099511627776) :
    Does P I.s_l6Rd_pick [.c (.ptr b 0), int n] H fun v H' => ∃ k : Int, v = .val (int k) ∧ Drawn n k ∧ Step [b] H H' [b] ∧ RdM H' b (q + 1) := by
  obtain ⟨p, h1, h2⟩ := h
  exact (does_s_l6Rd_pick K h2 (by omega)).mono fun _ _ ⟨k, h3, h4, h5, h6⟩ => ⟨k, h3, h4, h5, p + 1, by omega, h6⟩
end Go.AX
namespace Go.AX
theorem flat_drop : ∀ (fs : List (List Nat)) (k : Nat), ((fs.drop k).flatten).Sublist fs.flatten
  | [], k => by simp
  | f :: r, 0 => by simp
  | f :: r, k + 1 => by simp only [List.drop_succ_cons, List.flatten_cons]; exact (flat_drop r k).trans (List.sublist_append_right _ _)
/-- All but the first ones of a slice. -/
theorem slc_drop {α : Type} {n : Nat} {R : RepS α} {H : Heap} {c : C} {xs : List α} {F : List Nat} (h : SlR n R H c xs F) {k : Nat} (hk : k < xs.length) : ∃ c' F', slcC H n c k none = some c' ∧ SlR n R H c' (xs.drop k) F' ∧ F'.Sublist F := by
  rcases h with ⟨hc, rfl, rfl⟩ | ⟨b, pre, post, css, fs, st, rfl, rfl, hb, hs, ha, htop⟩
  · simp at hk
  · by_cases k0 : k = 0
    · subst k0
      refine ⟨.sl b pre.length xs.length, b :: fs.flatten, ?_, .inr ⟨b, pre, post, css, fs, st, by simp, rfl, hb, hs, by simpa using ha, by simpa using htop⟩, .refl _⟩
      have h0 : (0 : Int) ≤ ((0 : Nat) : Int) ∧ ((0 : Nat) : Int) ≤ (xs.length : Int) ∧ (xs.length : Int) ≤ (xs.length : Int) := ⟨by omega, by omega, by omega⟩
      simp only [slcC, Option.getD_none, if_pos h0, Int.toNat_natCast]
      simp
    · have hfl := (ha.take k).flat
      have htl : (xs.take k).length = k := by simp; omega
      rw [htl] at hfl
      refine ⟨.sl b (pre.length + k * n) (xs.length - k), b :: (fs.drop k).flatten, ?_, .inr ⟨b, pre ++ (css.take k).flatten, post, css.drop k, fs.drop k, st, by simp [hfl], rfl, ?_, hs, ha.drop k, by simp; omega⟩, (flat_drop fs k).cons_cons b⟩
      · have h0 : (0 : Int) ≤ (k : Int) ∧ (k : Int) ≤ (xs.length : Int) ∧ (xs.length : Int) ≤ (xs.length : Int) := ⟨by omega, by omega, by omega⟩
        have h1 : ¬ ((k : Int) = 0) := by omega
        simp only [slcC, Option.getD_none, if_pos h0, if_neg h1, Int.toNat_natCast, if_pos hk, Heap.szv_of hb hs, if_true]
      · have : css.flatten = (css.take k).flatten ++ (css.drop k).flatten := by rw [← List.flatten_append, List.take_append_drop]
        rw [hb, this]; simp
end Go.AX

/- Draws: numbers, what is wanted, records, logs. Condition: the reader lies in memory, and drew less often than 2^39. -/
namespace Go.AX
variable {P : Program} {I : Ids}
@[go_sem] theorem rep_two {zero : List C} : rep 2 zero = zero ++ zero := by simp [rep, List.replicate]
@[go_sem] theorem rep_three {zero : List C} : rep 3 zero = zero ++ (zero ++ zero) := by simp [rep, List.replicate]
@[go_sem] theorem rep_four {zero : List C} : rep 4 zero = zero ++ (zero ++ (zero ++ zero)) := by simp [rep, List.replicate]
/-- Where a run's ways come together. -/
theorem RUo_join {k : List Fr} {s : S} {Q : AExit → S → Prop} {o : Option V} {a b : ACode} (J : S → Prop)
    (h1 : ∀ Q' : AExit → S → Prop, (∀ s', J s' → Q' .normal s') → (∀ i s', RU P k (.exit i) s' Q → Q' (.exit i) s') → (∀ s', Q .ret s' → Q' .ret s') → RUo P o a b [] s Q') (h2 : ∀ s', J s' → RU P k .normal s' Q) : RUo P o a b k s Q := by
  obtain ⟨t, ht, x, s1, hb, hq⟩ := h1 (fun x s' => RU P k x s' Q) (fun s' hj => h2 s' hj) (fun i s' h => h) (fun s' h => by rw [RU_ret]; exact h)
  rw [RU_nil] at hq
  exact ⟨t, ht, x, s1, hb, hq⟩
/-- What a drawing function does: it has F then; the reader drew q times at most. -/
structure Dr (b q : Nat) (H H' : Heap) (F : List Nat) : Prop where
  step : Step [b] H H' (F ++ [b])
  rd : RdM H' b q
section
variable {b q q' : Nat} {H H1 H2 : Heap} {F G : List Nat}
theorem perm_back {b : Nat} {F G : List Nat} : ((F ++ [b]) ++ G).Perm ((F ++ G) ++ [b]) := by
  rw [List.append_assoc, List.append_assoc]; exact List.perm_append_comm.append_left F
theorem Dr.zero (h : RdM H b q) : Dr b q H H [] := ⟨⟨fun _ _ _ => rfl, Nat.le_refl _, by simp, fun k hk => by simp at hk; subst hk; obtain ⟨p, _, c, bs, G, h1, _⟩ := h; exact ⟨_, h1, rfl⟩, fun k hk => by simp at hk; subst hk; simp⟩, h⟩
theorem Dr.disj (d : Dr b q H H1 F) : ∀ k ∈ F, k ∉ [b] := d.step.owned.disj
theorem Dr.owned (d : Dr b q H H1 F) : Owned H1 F := d.step.owned.left
theorem Dr.young (d : Dr b q H H1 F) : ∀ k ∈ F, H.length ≤ k := fun k hk => by
  rcases d.step.src k (by simp [hk]) with h | h
  · exact absurd h (d.disj k hk)
  · exact h
theorem Dr.lt (d : Dr b q H H1 F) : ∀ k ∈ F, k < H1.length := fun k hk => d.step.lt k (by simp [hk])
theorem Dr.gt (d : Dr b q H H1 F) (h0 : b < H.length) : ∀ k ∈ F, b < k := fun k hk => Nat.lt_of_lt_of_le h0 (d.young k hk)
theorem Dr.pick (d : Dr b q H H1 F) (s : Step [b] H1 H2 [b]) (r : RdM H2 b q') : Dr b q' H H2 F := ⟨d.step.beside s rfl, r⟩
theorem Dr.draw (d : Dr b q H H1 F) (e : Dr b q' H1 H2 G) : Dr b q' H H2 (F ++ G) := ⟨by
  have := d.step.beside e.step rfl
  rwa [← List.append_assoc] at this, e.rd⟩
theorem Dr.new (d : Dr b q H H1 F) (s : Step [] H1 H2 G) : Dr b q H H2 (F ++ G) := ⟨by
  have : Step [b] H H2 ((F ++ [b]) ++ G) := (show Step [b] H H1 ((F ++ [b]) ++ []) by simpa using d.step).beside s rfl
  exact this.perm perm_back, d.rd.stay s⟩
theorem Dr.change (d : Dr b q H H1 (F ++ G)) (h0 : b < H.length) {G' : List Nat} (s : Step G H1 H2 G') : Dr b q H H2 (F ++ G') := ⟨by
  have h1 : Step [b] H H1 ((F ++ [b]) ++ G) := d.step.perm perm_back.symm
  exact (h1.beside s rfl).perm perm_back, d.rd.keep s fun k hk => d.gt h0 k (by simp [hk])⟩
theorem Dr.change0 (d : Dr b q H H1 G) (h0 : b < H.length) {G' : List Nat} (s : Step G H1 H2 G') : Dr b q H H2 G' := by
  have := Dr.change (F := []) (G := G) (by simpa using d) h0 s
  simpa using this
theorem Dr.less (d : Dr b q H H1 F) (h : G.Sublist F) : Dr b q H H1 G := ⟨d.step.less (h.append_right [b]), d.rd⟩
theorem Dr.perm (d : Dr b q H H1 F) (h : F.Perm G) : Dr b q H H1 G := ⟨d.step.perm (h.append_right [b]), d.rd⟩
theorem Dr.mono (d : Dr b q H H1 F) (h : q ≤ q') : Dr b q' H H1 F := ⟨d.step, d.rd.mono h⟩
theorem count_nodup {F G : List Nat} (hF : F.Nodup) (h : ∀ a, G.count a ≤ F.count a) : G.Nodup ∧ ∀ b ∈ G, b ∈ F := ⟨List.nodup_iff_count.2 fun a => Nat.le_trans (h a) (List.nodup_iff_count.1 hF a), fun b hb => List.count_pos_iff.1 (Nat.lt_of_lt_of_le (List.count_pos_iff.2 hb) (h b))⟩
theorem Step.part {F F1 G : List Nat} {H H' : Heap} (h : Step F H H' F1) (hc : ∀ a, G.count a ≤ F1.count a) : Step F H H' G := by
  obtain ⟨h1, h2⟩ := count_nodup h.nodup hc
  exact ⟨h.old, h.len, h1, fun b hb => h.own b (h2 b hb), fun b hb => h.src b (h2 b hb)⟩
theorem Owned.part {F G : List Nat} {H : Heap} (h : Owned H F) (hc : ∀ a, G.count a ≤ F.count a) : Owned H G := by
  obtain ⟨h1, h2⟩ := count_nodup h.1 hc
  exact ⟨h1, fun b hb => h.2 b (h2 b hb)⟩
theorem Dr.part (d : Dr b q H H1 F) (h : ∀ a, G.count a ≤ F.count a) : Dr b q H H1 G := ⟨d.step.part fun a => by have := h a; simp only [List.count_append]; omega, d.rd⟩
/-- What one has is kept where one draws on. -/
theorem Dr.keep (d : Dr b q H H1 F) {α : Type} {R : RepS α} (hR : Good R) {cs : List C} {x : α} (hr : R H1 cs x F) {F' : List Nat} (s : Step [b] H1 H2 F') : R H2 cs x F := s.keep hR hr d.disj
theorem Dr.keepSl (d : Dr b q H H1 F) {α : Type} {R : RepS α} (hR : Good R) {n : Nat} {c : C} {xs : List α} (hr : SlR n R H1 c xs F) {F' : List Nat} (s : Step [b] H1 H2 F') : SlR n R H2 c xs F := s.keepSl hR hr d.disj
end
theorem Drawn.nat {n k : Int} (h : Drawn n k) (hn : 0 < n) : ∃ i : Nat, k = i ∧ (i : Int) < n := ⟨k.toNat, by have := h.1; omega, by have := h.1; have := h.2.1 hn; omega⟩
theorem slab3 {a b c : Int} {i : Nat} (h : (i : Int) < 3) : ∃ v, slab [.int .i64 a, .int .i64 b, .int .i64 c] (0 + i * 1) 1 = some [.int .i64 v] ∧ (v = a ∨ v = b ∨ v = c) := by
  match i, h with
  | 0, _ => exact ⟨a, rfl, .inl rfl⟩
  | 1, _ => exact ⟨b, rfl, .inr (.inl rfl)⟩
  | 2, _ => exact ⟨c, rfl, .inr (.inr rfl)⟩
  | i + 3, h => omega
theorem slab2 {a b : Int} {i : Nat} (h : (i : Int) < 2) : ∃ v, slab [.int .i64 a, .int .i64 b] (0 + i * 1) 1 = some [.int .i64 v] ∧ (v = a ∨ v = b) := by
  match i, h with
  | 0, _ => exact ⟨a, rfl, .inl rfl⟩
  | 1, _ => exact ⟨b, rfl, .inr rfl⟩
  | i + 2, h => omega

theorem draws_l71Many (K : Codes P I) {H : Heap} {b q : Nat} (h : RdM H b q) (hq : q < 549755813888) :
    Does P I.s_l71Many [.c (.ptr b 0)] H fun v H' => ∃ c xs F, v = .val (.c c) ∧ Dr b (q + 7) H H' F ∧ Ints H' c xs F ∧ xs.length ≤ 3 := by
  have hb0 := h.lt
  refine K.does K.s_l71Many rfl fun Q hQ => ?_
  simp only [go_sem, Nat.reduceEqDiff, Nat.reduceAdd, Nat.reduceMul, Nat.reduceLeDiff, Int.reduceEq, Int.reduceLT, Int.reduceLE, Int.reduceAdd, Int.reduceSub, Int.reduceNeg, Int.reduceMul, Int.reduceToNat, Int.cast_ofNat_Int, Int.natCast_zero, Nat.add_zero, reduceCtorEq, L_s_l71Many]
  refine Does.call (draws_pick K h (by omega)) ?_
  rintro _ H1 ⟨k1, rfl, e1, s1, r1⟩
  replace s1 : Step [b] H H1 [b] := s1
  simp only [go_sem, Nat.reduceEqDiff, Nat.reduceAdd, Nat.reduceMul, Nat.reduceLeDiff, Int.reduceEq, Int.reduceLT, Int.reduceLE, Int.reduceAdd, Int.reduceSub, Int.reduceNeg, Int.reduceMul, Int.reduceToNat, Int.cast_ofNat_Int, Int.natCast_zero, Nat.add_zero, reduceCtorEq]
  refine Does.call (draws_pick K r1 (by omega)) ?_
  rintro _ H2 ⟨k2, rfl, e2, s2, r2⟩
  replace s2 : Step [b] H1 H2 [b] := s2
  simp only [go_sem, Nat.reduceEqDiff, Nat.reduceAdd, Nat.reduceMul, Nat.reduceLeDiff, Int.reduceEq, Int.reduceLT, Int.reduceLE, Int.reduceAdd, Int.reduceSub, Int.reduceNeg, Int.reduceMul, Int.reduceToNat, Int.cast_ofNat_Int, Int.natCast_zero, Nat.add_zero, reduceCtorEq]
  refine Does.call (draws_pick K r2 (by omega)) ?_
  rintro _ H3 ⟨k3, rfl, e3, s3, r3⟩
  replace s3 : Step [b] H2 H3 [b] := s3
  have d3 : Dr b (q + 3) H H3 [] := (((Dr.zero h).pick s1 r1).pick s2 r2).pick s3 r3
  have hi := ints_new (H := H3) [k1, k2, k3] rfl (by simp [lenTop])
  have d4 : Dr b (q + 3) H (H3 ++ [⟨.rw, 1, [.int .i64 k1, .int .i64 k2, .int .i64 k3]⟩]) [H3.length] := d3.new step_new
  simp only [go_sem, Nat.reduceEqDiff, Nat.reduceAdd, Nat.reduceMul, Nat.reduceLeDiff, Int.reduceEq, Int.reduceLT, Int.reduceLE, Int.reduceAdd, Int.reduceSub, Int.reduceNeg, Int.reduceMul, Int.reduceToNat, Int.cast_ofNat_Int, Int.natCast_zero, Nat.add_zero, reduceCtorEq, Nat.reduceDiv, Nat.reduceSub]
  refine RUo_join (fun s => s.env 0 = .val (.c (.ptr b 0)) ∧ ∃ c xs F, s.env 3 = .val (.c c) ∧ Dr b (q + 4) H s.H F ∧ Ints s.H c xs F ∧ xs.length = 3) (fun Q' hN hE hR => ?_) ?_
  · by_cases hz : IntKind.wrap .i64 (IntKind.wrap .i64 (k1 + k2) + k3) = 0
    · simp only [go_sem, Nat.reduceEqDiff, Nat.reduceAdd, Nat.reduceMul, Nat.reduceLeDiff, Int.reduceEq, Int.reduceLT, Int.reduceLE, Int.reduceAdd, Int.reduceSub, Int.reduceNeg, Int.reduceMul, Int.reduceToNat, Int.cast_ofNat_Int, Int.natCast_zero, Nat.add_zero, reduceCtorEq, hz]
      refine Does.call (draws_pick K d4.rd (by omega)) ?_
      rintro _ H5 ⟨k4, rfl, e4, s4, r4⟩
      replace s4 : Step [b] _ H5 [b] := s4
      obtain ⟨i, rfl, hi3⟩ := e4.nat (by decide)
      have d5 := d4.pick s4 r4
      have hi5 : Ints H5 (.sl H3.length 0 3) [k1, k2, k3] [H3.length] := d4.keepSl RInt.good hi s4
      obtain ⟨bb, off, bs, H6, ec, eo, el, ew, hi6, s6⟩ := ints_put hi5 d5.owned (i := i) (by simp; omega) 1
      cases ec
      simp only [go_sem, Nat.reduceEqDiff, Nat.reduceAdd, Nat.reduceMul, Nat.reduceLeDiff, Int.reduceEq, Int.reduceLT, Int.reduceLE, Int.reduceAdd, Int.reduceSub, Int.reduceNeg, Int.reduceMul, Int.reduceToNat, Int.cast_ofNat_Int, Int.natCast_zero, Nat.add_zero, reduceCtorEq, hi3, eo, el, ew]
      exact hN _ ⟨by simp [upd], _, _, _, by simp [upd], d5.change0 hb0 s6, hi6, by simp⟩
    · simp only [go_sem, Nat.reduceEqDiff, Nat.reduceAdd, Nat.reduceMul, Nat.reduceLeDiff, Int.reduceEq, Int.reduceLT, Int.reduceLE, Int.reduceAdd, Int.reduceSub, Int.reduceNeg, Int.reduceMul, Int.reduceToNat, Int.cast_ofNat_Int, Int.natCast_zero, Nat.add_zero, reduceCtorEq, hz]
      exact hN _ ⟨by simp [upd], _, _, _, by simp [upd], d4.mono (by omega), hi, by simp⟩
  · rintro s ⟨g0, c, xs, F, g3, d, hx, hl⟩
    simp only [go_sem, Nat.reduceEqDiff, Nat.reduceAdd, Nat.reduceMul, Nat.reduceLeDiff, Int.reduceEq, Int.reduceLT, Int.reduceLE, Int.reduceAdd, Int.reduceSub, Int.reduceNeg, Int.reduceMul, Int.reduceToNat, Int.cast_ofNat_Int, Int.natCast_zero, Nat.add_zero, reduceCtorEq, g0, g3]
    refine Does.call (draws_pick K d.rd (by omega)) ?_
    rintro _ H5 ⟨k5, rfl, e5, s5, r5⟩
    replace s5 : Step [b] s.H H5 [b] := s5
    have d5 := d.pick s5 r5
    have hx5 : Ints H5 c xs F := d.keepSl RInt.good hx s5
    by_cases c0 : k5 = 0
    · simp only [go_sem, Nat.reduceEqDiff, Nat.reduceAdd, Nat.reduceMul, Nat.reduceLeDiff, Int.reduceEq, Int.reduceLT, Int.reduceLE, Int.reduceAdd, Int.reduceSub, Int.reduceNeg, Int.reduceMul, Int.reduceToNat, Int.cast_ofNat_Int, Int.natCast_zero, Nat.add_zero, reduceCtorEq, g0, g3, c0]
      refine Does.call (draws_pick K d5.rd (by omega)) ?_
      rintro _ H6 ⟨k6, rfl, e6, s6, r6⟩
      replace s6 : Step [b] H5 H6 [b] := s6
      obtain ⟨i, rfl, hi3⟩ := e6.nat (by decide)
      have d6 := d5.pick s6 r6
      have hx6 : Ints H6 c xs F := d5.keepSl RInt.good hx5 s6
      simp only [go_sem, Nat.reduceEqDiff, Nat.reduceAdd, Nat.reduceMul, Nat.reduceLeDiff, Int.reduceEq, Int.reduceLT, Int.reduceLE, Int.reduceAdd, Int.reduceSub, Int.reduceNeg, Int.reduceMul, Int.reduceToNat, Int.cast_ofNat_Int, Int.natCast_zero, Nat.add_zero, reduceCtorEq, g0, g3]
      refine Does.call (draws_pick K d6.rd (by omega)) ?_
      rintro _ H7 ⟨k7, rfl, e7, s7, r7⟩
      replace s7 : Step [b] H6 H7 [b] := s7
      obtain ⟨j, rfl, hj3⟩ := e7.nat (by decide)
      have d7 := d6.pick s7 r7
      have hx7 : Ints H7 c xs F := d6.keepSl RInt.good hx6 s7
      have s8 := step_new (H := H7) (n := 1) (cs := [.int .i64 (-1), .int .i64 3, .int .i64 4])
      have d8 := (d7.new s8)
      have hx8 := s8.keepSl RInt.good hx7 (fun b _ => by simp)
      obtain ⟨v, hv, _⟩ := slab3 (a := -1) (b := 3) (c := 4) hj3
      obtain ⟨bb, off, bs, H9, ec, eo, el, ew, hx9, s9⟩ := ints_put hx8 (d8.less (G := F) (by simp)).owned (i := i) (by omega) v
      subst ec
      have hil : (i : Int) < (xs.length : Int) := by omega
      simp only [go_sem, Nat.reduceEqDiff, Nat.reduceAdd, Nat.reduceMul, Nat.reduceLeDiff, Int.reduceEq, Int.reduceLT, Int.reduceLE, Int.reduceAdd, Int.reduceSub, Int.reduceNeg, Int.reduceMul, Int.reduceToNat, Int.cast_ofNat_Int, Int.natCast_zero, Nat.add_zero, reduceCtorEq, g0, g3, hi3, hj3, hil, hv, eo, el, ew, Nat.reduceDiv]
      exact hQ _ _ (Ends.ret rfl ⟨_, _, _, rfl, (d8.less (G := F) (by simp)).change0 hb0 s9, hx9, by simp [hl]⟩)
    · by_cases c1 : k5 = 1
      · obtain ⟨c', F', hs, hx6, hsub⟩ := slc_drop hx5 (k := 1) (by omega)
        replace hs : slcC H5 1 c 1 none = some c' := hs
        simp only [go_sem, Nat.reduceEqDiff, Nat.reduceAdd, Nat.reduceMul, Nat.reduceLeDiff, Int.reduceEq, Int.reduceLT, Int.reduceLE, Int.reduceAdd, Int.reduceSub, Int.reduceNeg, Int.reduceMul, Int.reduceToNat, Int.cast_ofNat_Int, Int.natCast_zero, Nat.add_zero, reduceCtorEq, g0, g3, c0, c1, hs]
        exact hQ _ _ (Ends.ret rfl ⟨_, _, _, rfl, (d5.mono (by omega)).less hsub, hx6, by simp [hl]⟩)
      · by_cases c2 : k5 = 2
        · have hi := ints_new (H := H5) [0, 0, 0] rfl (by simp [lenTop])
          simp only [go_sem, Nat.reduceEqDiff, Nat.reduceAdd, Nat.reduceMul, Nat.reduceLeDiff, Int.reduceEq, Int.reduceLT, Int.reduceLE, Int.reduceAdd, Int.reduceSub, Int.reduceNeg, Int.reduceMul, Int.reduceToNat, Int.cast_ofNat_Int, Int.natCast_zero, Nat.add_zero, reduceCtorEq, g0, g3, c0, c1, c2, Nat.reduceDiv]
          exact hQ _ _ (Ends.ret rfl ⟨_, _, _, rfl, ((d5.mono (by omega)).new step_new).less (by simp), hi, by simp⟩)
        · simp only [go_sem, Nat.reduceEqDiff, Nat.reduceAdd, Nat.reduceMul, Nat.reduceLeDiff, Int.reduceEq, Int.reduceLT, Int.reduceLE, Int.reduceAdd, Int.reduceSub, Int.reduceNeg, Int.reduceMul, Int.reduceToNat, Int.cast_ofNat_Int, Int.natCast_zero, Nat.add_zero, reduceCtorEq, g0, g3, c0, c1, c2]
          exact hQ _ _ (Ends.ret rfl ⟨_, _, _, rfl, d5.mono (by omega), hx5, by omega⟩)

theorem draws_l71Rec (K : Codes P I) {H : Heap} {b q : Nat} (h : RdM H b q) (hq : q < 549755813000) :
    Does P I.s_l71Rec [.c (.ptr b 0)] H fun v H' => ∃ cs x F, v = .val (.agg cs) ∧ Dr b (q + 12) H H' F ∧ RRec H' cs x F ∧ x.many.length ≤ 4 := by
  have hb0 := h.lt
  refine K.does K.s_l71Rec rfl fun Q hQ => ?_
  simp only [go_sem, Nat.reduceEqDiff, Nat.reduceAdd, Nat.reduceMul, Nat.reduceLeDiff, Int.reduceEq, Int.reduceLT, Int.reduceLE, Int.reduceAdd, Int.reduceSub, Int.reduceNeg, Int.reduceMul, Int.reduceToNat, Int.cast_ofNat_Int, Int.natCast_zero, Nat.add_zero, reduceCtorEq, L_s_l71Rec]
  refine Does.call (draws_pick K h (by omega)) ?_
  rintro _ H1 ⟨k1, rfl, e1, s1, r1⟩
  replace s1 : Step [b] H H1 [b] := s1
  simp only [go_sem, Nat.reduceEqDiff, Nat.reduceAdd, Nat.reduceMul, Nat.reduceLeDiff, Int.reduceEq, Int.reduceLT, Int.reduceLE, Int.reduceAdd, Int.reduceSub, Int.reduceNeg, Int.reduceMul, Int.reduceToNat, Int.cast_ofNat_Int, Int.natCast_zero, Nat.add_zero, reduceCtorEq]
  refine Does.call (draws_pick K r1 (by omega)) ?_
  rintro _ H2 ⟨k2, rfl, e2, s2, r2⟩
  replace s2 : Step [b] H1 H2 [b] := s2
  have d2 : Dr b (q + 2) H H2 [] := ((Dr.zero h).pick s1 r1).pick s2 r2
  simp only [go_sem, Nat.reduceEqDiff, Nat.reduceAdd, Nat.reduceMul, Nat.reduceLeDiff, Int.reduceEq, Int.reduceLT, Int.reduceLE, Int.reduceAdd, Int.reduceSub, Int.reduceNeg, Int.reduceMul, Int.reduceToNat, Int.cast_ofNat_Int, Int.natCast_zero, Nat.add_zero, reduceCtorEq]
  refine RUo_join (fun s => s.env 0 = .val (.c (.ptr b 0)) ∧ s.env 2 = .box [.int .i64 0, .int .i64 0, .nil] ∧ ∃ k t c xs F, s.env 3 = .box [.int .i64 k, .int .i64 t, c] ∧ Dr b (q + 9) H s.H F ∧ Ints s.H c xs F ∧ xs.length ≤ 3) (fun Q' hN hE hR => ?_) ?_
  · by_cases c0 : IntKind.wrap .i64 (1 + k1) = 1
    · simp only [go_sem, Nat.reduceEqDiff, Nat.reduceAdd, Nat.reduceMul, Nat.reduceLeDiff, Int.reduceEq, Int.reduceLT, Int.reduceLE, Int.reduceAdd, Int.reduceSub, Int.reduceNeg, Int.reduceMul, Int.reduceToNat, Int.cast_ofNat_Int, Int.natCast_zero, Nat.add_zero, reduceCtorEq, c0]
      refine Does.call (draws_pick K d2.rd (by omega)) ?_
      rintro _ H3 ⟨k3, rfl, e3, s3, r3⟩
      replace s3 : Step [b] H2 H3 [b] := s3
      have d3 := d2.pick s3 r3
      have hi := ints_new (H := H3) [IntKind.wrap .i64 (1 + k3)] rfl (by simp [lenTop])
      simp only [go_sem, Nat.reduceEqDiff, Nat.reduceAdd, Nat.reduceMul, Nat.reduceLeDiff, Int.reduceEq, Int.reduceLT, Int.reduceLE, Int.reduceAdd, Int.reduceSub, Int.reduceNeg, Int.reduceMul, Int.reduceToNat, Int.cast_ofNat_Int, Int.natCast_zero, Nat.add_zero, reduceCtorEq, c0, Nat.reduceDiv]
      exact hN _ ⟨by simp [upd], by simp [upd], _, _, _, _, _, rfl, (d3.mono (by omega)).new step_new, hi, by simp⟩
    · by_cases c1 : IntKind.wrap .i64 (1 + k1) = 4
      · simp only [go_sem, Nat.reduceEqDiff, Nat.reduceAdd, Nat.reduceMul, Nat.reduceLeDiff, Int.reduceEq, Int.reduceLT, Int.reduceLE, Int.reduceAdd, Int.reduceSub, Int.reduceNeg, Int.reduceMul, Int.reduceToNat, Int.cast_ofNat_Int, Int.natCast_zero, Nat.add_zero, reduceCtorEq, c0, c1]
        refine Does.call (draws_l71Many K d2.rd (by omega)) ?_
        rintro _ H3 ⟨c, xs, F, rfl, d3, hx, hl⟩
        replace d3 : Dr b _ H2 H3 F := d3
        simp only [go_sem, Nat.reduceEqDiff, Nat.reduceAdd, Nat.reduceMul, Nat.reduceLeDiff, Int.reduceEq, Int.reduceLT, Int.reduceLE, Int.reduceAdd, Int.reduceSub, Int.reduceNeg, Int.reduceMul, Int.reduceToNat, Int.cast_ofNat_Int, Int.natCast_zero, Nat.add_zero, reduceCtorEq, c0, c1]
        exact hN _ ⟨by simp [upd], by simp [upd], _, _, _, _, _, rfl, by simpa using d2.draw d3, hx, hl⟩
      · simp only [go_sem, Nat.reduceEqDiff, Nat.reduceAdd, Nat.reduceMul, Nat.reduceLeDiff, Int.reduceEq, Int.reduceLT, Int.reduceLE, Int.reduceAdd, Int.reduceSub, Int.reduceNeg, Int.reduceMul, Int.reduceToNat, Int.cast_ofNat_Int, Int.natCast_zero, Nat.add_zero, reduceCtorEq, c0, c1]
        exact hN _ ⟨by simp [upd], by simp [upd], _, _, _, [], [], rfl, d2.mono (by omega), .emp, by simp⟩
  · rintro s ⟨g0, g2, k, t, c, xs, F, g3, d, hx, hl⟩
    simp only [go_sem, Nat.reduceEqDiff, Nat.reduceAdd, Nat.reduceMul, Nat.reduceLeDiff, Int.reduceEq, Int.reduceLT, Int.reduceLE, Int.reduceAdd, Int.reduceSub, Int.reduceNeg, Int.reduceMul, Int.reduceToNat, Int.cast_ofNat_Int, Int.natCast_zero, Nat.add_zero, reduceCtorEq, g0, g3]
    refine Does.call (draws_pick K d.rd (by omega)) ?_
    rintro _ H5 ⟨k5, rfl, e5, s5, r5⟩
    replace s5 : Step [b] s.H H5 [b] := s5
    have d5 := d.pick s5 r5
    have hx5 : Ints H5 c xs F := d.keepSl RInt.good hx s5
    by_cases c0 : k5 = 0
    · simp only [go_sem, Nat.reduceEqDiff, Nat.reduceAdd, Nat.reduceMul, Nat.reduceLeDiff, Int.reduceEq, Int.reduceLT, Int.reduceLE, Int.reduceAdd, Int.reduceSub, Int.reduceNeg, Int.reduceMul, Int.reduceToNat, Int.cast_ofNat_Int, Int.natCast_zero, Nat.add_zero, reduceCtorEq, g0, g3, c0]
      refine Does.call (draws_pick K d5.rd (by omega)) ?_
      rintro _ H6 ⟨k6, rfl, e6, s6, r6⟩
      replace s6 : Step [b] H5 H6 [b] := s6
      simp only [go_sem, Nat.reduceEqDiff, Nat.reduceAdd, Nat.reduceMul, Nat.reduceLeDiff, Int.reduceEq, Int.reduceLT, Int.reduceLE, Int.reduceAdd, Int.reduceSub, Int.reduceNeg, Int.reduceMul, Int.reduceToNat, Int.cast_ofNat_Int, Int.natCast_zero, Nat.add_zero, reduceCtorEq, g0, g2, g3]
      exact hQ _ _ (Ends.ret rfl ⟨_, ⟨k6, t, xs⟩, F, rfl, (d5.pick s6 r6).mono (by omega), ⟨c, rfl, d5.keepSl RInt.good hx5 s6⟩, by simp; omega⟩)
    · by_cases c1 : k5 = 1
      · simp only [go_sem, Nat.reduceEqDiff, Nat.reduceAdd, Nat.reduceMul, Nat.reduceLeDiff, Int.reduceEq, Int.reduceLT, Int.reduceLE, Int.reduceAdd, Int.reduceSub, Int.reduceNeg, Int.reduceMul, Int.reduceToNat, Int.cast_ofNat_Int, Int.natCast_zero, Nat.add_zero, reduceCtorEq, g0, g3, c0, c1]
        refine Does.call (draws_pick K d5.rd (by omega)) ?_
        rintro _ H6 ⟨k6, rfl, e6, s6, r6⟩
        replace s6 : Step [b] H5 H6 [b] := s6
        obtain ⟨j, rfl, hj3⟩ := e6.nat (by decide)
        have d6 := d5.pick s6 r6
        have hx6 := d5.keepSl RInt.good hx5 s6
        have s8 := step_new (H := H6) (n := 1) (cs := [.int .i64 0, .int .i64 6, .int .i64 7])
        obtain ⟨v, hv, _⟩ := slab3 (a := 0) (b := 6) (c := 7) hj3
        simp only [go_sem, Nat.reduceEqDiff, Nat.reduceAdd, Nat.reduceMul, Nat.reduceLeDiff, Int.reduceEq, Int.reduceLT, Int.reduceLE, Int.reduceAdd, Int.reduceSub, Int.reduceNeg, Int.reduceMul, Int.reduceToNat, Int.cast_ofNat_Int, Int.natCast_zero, Nat.add_zero, reduceCtorEq, g0, g2, g3, hj3, hv, Nat.reduceDiv]
        exact hQ _ _ (Ends.ret rfl ⟨_, ⟨k, v, xs⟩, F, rfl, ((d6.new s8).less (by simp)).mono (by omega), ⟨c, rfl, s8.keepSl RInt.good hx6 (fun b _ => by simp)⟩, by simp; omega⟩)
      · by_cases c2 : k5 = 2
        · simp only [go_sem, Nat.reduceEqDiff, Nat.reduceAdd, Nat.reduceMul, Nat.reduceLeDiff, Int.reduceEq, Int.reduceLT, Int.reduceLE, Int.reduceAdd, Int.reduceSub, Int.reduceNeg, Int.reduceMul, Int.reduceToNat, Int.cast_ofNat_Int, Int.natCast_zero, Nat.add_zero, reduceCtorEq, g0, g3, c0, c1, c2]
          refine Does.call (draws_pick K d5.rd (by omega)) ?_
          rintro _ H6 ⟨k6, rfl, e6, s6, r6⟩
          replace s6 : Step [b] H5 H6 [b] := s6
          have d6 := d5.pick s6 r6
          have hx6 : Ints H6 c xs F := d5.keepSl RInt.good hx5 s6
          obtain ⟨c', H7, F7, ha, hx7, s7⟩ := app_one RInt.good (f := []) (by decide) hx6 (show RInt H6 [.int .i64 k6] k6 [] from ⟨rfl, rfl⟩) rfl (by simpa using d6.owned) (by simp [lenMax]; omega)
          simp only [go_sem, Nat.reduceEqDiff, Nat.reduceAdd, Nat.reduceMul, Nat.reduceLeDiff, Int.reduceEq, Int.reduceLT, Int.reduceLE, Int.reduceAdd, Int.reduceSub, Int.reduceNeg, Int.reduceMul, Int.reduceToNat, Int.cast_ofNat_Int, Int.natCast_zero, Nat.add_zero, reduceCtorEq, g0, g2, g3, ha]
          exact hQ _ _ (Ends.ret rfl ⟨_, ⟨k, t, xs ++ [k6]⟩, F7, rfl, (d6.change0 hb0 (by simpa using s7)).mono (by omega), ⟨c', rfl, hx7⟩, by simp; omega⟩)
        · simp only [go_sem, Nat.reduceEqDiff, Nat.reduceAdd, Nat.reduceMul, Nat.reduceLeDiff, Int.reduceEq, Int.reduceLT, Int.reduceLE, Int.reduceAdd, Int.reduceSub, Int.reduceNeg, Int.reduceMul, Int.reduceToNat, Int.cast_ofNat_Int, Int.natCast_zero, Nat.add_zero, reduceCtorEq, g0, g2, g3, c0, c1, c2]
          exact hQ _ _ (Ends.ret rfl ⟨_, ⟨k, t, xs⟩, F, rfl, d5.mono (by omega), ⟨c, rfl, hx5⟩, by simp; omega⟩)
end Go.AX

/- Draws: logs. Condition: the reader lies in memory, and drew less often than 2^39. -/
namespace Go.AX
variable {P : Program} {I : Ids}
def rec0 : Rec := ⟨0, 0, []⟩
theorem rrec_lit {H : Heap} {k t : Int} : RRec H [.int .i64 k, .int .i64 t, .nil] ⟨k, t, []⟩ [] := ⟨.nil, rfl, .nil⟩
theorem Dr.out {b q : Nat} {H H1 H2 : Heap} {F : List Nat} (s : Step [] H H1 [b]) (d : Dr b q H1 H2 F) : Step [] H H2 F := (s.trans d.step).less (by simp)
theorem keepB {k1 k2 : Int} (h1 : Drawn 6 k1) (h2 : Drawn 6 k2) : ∃ v, IntKind.wrap .i64 (k1 - IntKind.wrap .i64 (IntKind.wrap .i64 (k2.tdiv 5) * 2)) = v ∧ -3 ≤ v ∧ v ≤ 6 := by
  obtain ⟨i, rfl, hi⟩ := h1.nat (by decide)
  obtain ⟨j, rfl, hj⟩ := h2.nat (by decide)
  have e : (j : Int).tdiv 5 = ((j / 5 : Nat) : Int) := rfl
  have hd : j / 5 ≤ 1 := by omega
  have w1 : IntKind.wrap .i64 ((j / 5 : Nat) : Int) = ((j / 5 : Nat) : Int) := wrap_i64 (by omega) (by omega)
  have w2 : IntKind.wrap .i64 (((j / 5 : Nat) : Int) * 2) = ((j / 5 : Nat) : Int) * 2 := wrap_i64 (by omega) (by omega)
  rw [e, w1, w2, wrap_i64 (by omega) (by omega)]
  exact ⟨_, rfl, by omega, by omega⟩
end Go.AX

/- What houses compute, in plain Lean, and the laws of it. No condition: definitions, and what holds of them. -/
namespace Go.AX
def house0 : House := ⟨0, false, 0, log0⟩
def word0 : Word := ⟨0, 0, 0, 0⟩
def houseNewOk (id room : Int) : Bool := inB id 1 3 && inB room 0 9
def houseNewV (id room : Int) : House := if houseNewOk id room = true then ⟨id, true, room, log0⟩ else house0
def houseOk (h : House) : Bool := inB h.id 1 3 && (logOk h.log && (stockOf h.room h.log.recs).isSome)
def known (l : Log) (forced : Bool) : List Rec := if forced = true then l.recs.take l.forced.toNat else l.recs
def stockV (h : House) (forced : Bool) : Stock := (stockOf h.room (known h.log forced)).getD stock0
def houseStockV (h : House) (forced : Bool) : Stock := if houseOk h = true then stockV h forced else stock0
def recOfW (w : Word) : Rec := ⟨w.kind, w.trip, if w.kind = 1 then [w.many] else []⟩
/-- What is answered, by what the trip has by all, and by what was forced. -/
def answerK (kind all forced : Int) : Int :=
  if kind = 1 ∧ all = 0 then 5 else if kind = 1 ∧ (forced = 1 ∨ forced = 2) then 4 else if kind = 1 ∧ forced = 3 then 5
  else if kind = 2 ∧ forced = 2 then 6 else if kind = 3 ∧ forced = 3 then 7 else 0
def hearsB (h : House) (w : Word) : Bool := h.up && (wordOk w && (decide (w.kind < 4) && decide (w.house = h.id)))
def houseAnswer (h : House) (w : Word) : Int := answerK w.kind (holdAt (stockV h false) w.trip).state (holdAt (stockV h true) w.trip).state
def mayB (h : House) (w : Word) : Bool := stockMayB (stockV h false) (recOfW w)
abbrev addL' := addL
def hearH (h : House) (w : Word) : House := if hearsB h w = true then if mayB h w = true then { h with log := addL' h.log (recOfW w) } else h else h
def hearOk (h : House) (w : Word) : Bool := hearsB h w && (!mayB h w && decide (houseAnswer h w ≠ 0))
def hearW (h : House) (w : Word) : Word := if hearOk h w = true then ⟨houseAnswer h w, h.id, w.trip, 0⟩ else word0
def houseHearV (h : House) (w : Word) : House := if houseOk h = true then hearH h w else house0
def houseHearW (h : House) (w : Word) : Word := if houseOk h = true then hearW h w else word0
def houseHearB (h : House) (w : Word) : Bool := houseOk h && hearOk h w
def forceL (l : Log) : Log := ⟨l.recs, l.recs.length⟩
def houseForceV (h : House) : House := if houseOk h = true then if h.up = true then { h with log := forceL h.log } else h else house0
def fallL (l : Log) (keep : Int) : Log := ⟨l.recs.take (fallN l keep), fallN l keep⟩
def houseFallV (h : House) (keep : Int) : House := if houseOk h = true then { h with up := false, log := fallL h.log keep } else house0
def houseRiseV (h : House) : House := if houseOk h = true then { h with up := true } else house0

theorem houseOk_parts {h : House} (k : houseOk h = true) : (1 ≤ h.id ∧ h.id ≤ 3) ∧ logOk h.log = true ∧ ∃ s, stockOf h.room h.log.recs = some s := by
  simp only [houseOk, inB, Bool.and_eq_true, decide_eq_true_eq] at k
  exact ⟨k.1, k.2.1, Option.isSome_iff_exists.1 k.2.2⟩
theorem houseOk_of {h : House} (h1 : 1 ≤ h.id ∧ h.id ≤ 3) (h2 : logOk h.log = true) {s : Stock} (h3 : stockOf h.room h.log.recs = some s) : houseOk h = true := by
  simp only [houseOk, inB, h2, h3, Option.isSome_some, Bool.and_true]
  simp [h1]
theorem stockV_all {h : House} {s : Stock} (k : stockOf h.room h.log.recs = some s) : stockV h false = s := by simp [stockV, known, k]
theorem stockV_ok {h : House} (k : houseOk h = true) (f : Bool) : stockOk (stockV h f) = true := by
  obtain ⟨_, _, s, hs⟩ := houseOk_parts k
  cases f with
  | false => rw [stockV_all hs]; exact stockOf_ok hs
  | true =>
    obtain ⟨t, ht⟩ := stockOf_take hs h.log.forced.toNat
    have : stockV h true = t := by simp [stockV, known, ht]
    rw [this]; exact stockOf_ok ht
theorem wordOk_parts {w : Word} (h : wordOk w = true) : (1 ≤ w.kind ∧ w.kind ≤ 7) ∧ (1 ≤ w.house ∧ w.house ≤ 3) ∧ (1 ≤ w.trip ∧ w.trip ≤ 6) ∧ (w.kind = 1 → 1 ≤ w.many ∧ w.many ≤ 3) ∧ (w.kind ≠ 1 → w.many = 0) := by
  simp only [wordOk, inB, Bool.and_eq_true, decide_eq_true_eq] at h
  obtain ⟨h1, h2, h3, h4⟩ := h
  refine ⟨h1, h2, h3, fun e => ?_, fun e => ?_⟩
  · rw [if_pos e] at h4; simpa using h4
  · rw [if_neg e] at h4; simpa using h4
theorem recOfW_ok {w : Word} (h : wordOk w = true) (hk : w.kind < 4) : recOk (recOfW w) = true := by
  obtain ⟨h1, h2, h3, h4, h5⟩ := wordOk_parts h
  unfold recOk recOfW inB
  by_cases e : w.kind = 1
  · simp [e, h3, h4 e]
  · have e4 : w.kind ≠ 4 := by omega
    simp only [e, e4, if_false, h3, decide_true, Bool.true_and, List.length_nil]
    simp; omega
theorem hearsB_parts {h : House} {w : Word} (k : hearsB h w = true) : h.up = true ∧ wordOk w = true ∧ w.kind < 4 ∧ w.house = h.id := by
  simpa only [hearsB, Bool.and_eq_true, decide_eq_true_eq] using k

/-! A log of a house that is ok has room: of each trip there are two records at most. -/
def usedB (h : Hold) : Nat := if h.state = 0 then 0 else if h.state = 1 then 1 else 2
def usedAll : List Hold → Nat
  | [] => 0
  | h :: r => usedB h + usedAll r
theorem usedAll_set {hs : List Hold} {i : Nat} {h : Hold} (hi : hs[i]? = some h) (h' : Hold) : usedAll (hs.set i h') + usedB h = usedAll hs + usedB h' := by
  induction hs generalizing i with
  | nil => simp at hi
  | cons x r ih =>
    cases i with
    | zero => simp at hi; subst hi; simp only [List.set_cons_zero, usedAll]; omega
    | succ i => simp only [List.set_cons_succ, usedAll]; have := ih (i := i) (by simpa using hi); omega
theorem usedAll_le : ∀ (hs : List Hold), usedAll hs ≤ 2 * hs.length
  | [] => by simp [usedAll]
  | h :: r => by
    have := usedAll_le r
    have : usedB h ≤ 2 := by unfold usedB; (repeat' split) <;> omega
    simp only [usedAll, List.length_cons]; omega
theorem holdDo_used {h : Hold} {r : Rec} {s : Stock} (hm : stockMayB s r = true) (he : h = holdAt s r.trip) : usedB h + 1 ≤ usedB (holdDo h r) := by
  subst he
  unfold stockMayB at hm
  unfold holdDo usedB
  split at hm
  · rename_i hk; simp only [Bool.and_eq_true, decide_eq_true_eq] at hm; simp [hk, hm.1]
  · split at hm
    · rename_i h1 h2; simp only [decide_eq_true_eq] at hm; simp [h1, h2, hm]
    · split at hm
      · rename_i h1 h2 h3
        simp only [Bool.or_eq_true, decide_eq_true_eq] at hm
        rcases hm with hm | hm <;> simp [h1, h2, hm]
      · cases hm
theorem stockFold_used : ∀ (recs : List Rec) (o : Option Stock) {s : Stock} (n : Nat), (∀ s, o = some s → s.holds.length = 6 ∧ n ≤ usedAll s.holds) → recs.foldl stockStep o = some s → s.holds.length = 6 ∧ n + recs.length ≤ usedAll s.holds
  | [], o, s, n, h, e => h s e
  | r :: rs, o, s, n, h, e => by
    have := stockFold_used rs (stockStep o r) (n + 1) (fun t ht => ?_) e
    · simp only [List.length_cons]; omega
    · cases o with
      | none => cases ht
      | some u =>
        obtain ⟨hl, hu⟩ := h u rfl
        simp only [stockStep, Option.bind_some] at ht
        split at ht
        · rename_i hc
          rw [Bool.and_eq_true] at hc
          cases ht
          have htr := recOk_trip hc.1
          have hg := holdAt_get hl htr.1 htr.2
          have h1 := usedAll_set hg (holdDo (holdAt u r.trip) r)
          have h2 := holdDo_used hc.2 rfl
          simp only [stockDoL, List.length_set]
          exact ⟨hl, by omega⟩
        · cases ht
theorem stockOf_len {room : Int} {recs : List Rec} {s : Stock} (h : stockOf room recs = some s) : recs.length ≤ 12 := by
  obtain ⟨h1, h2⟩ := stockFold_used recs _ 0 (fun t ht => by
    split at ht
    · cases ht; exact ⟨rfl, Nat.zero_le _⟩
    · cases ht) h
  have := usedAll_le s.holds
  omega
theorem house_len {h : House} (k : houseOk h = true) : h.log.recs.length ≤ 12 := by
  obtain ⟨_, _, s, hs⟩ := houseOk_parts k
  exact stockOf_len hs
theorem addL'_room {l : Log} (h : l.recs.length ≤ 12) (r : Rec) : addL' l r = ⟨l.recs ++ [r], l.forced⟩ := by
  unfold addL' addL; rw [if_neg (by omega)]

/-! What a house is behind a word. -/
theorem logOk_parts {l : Log} (h : logOk l = true) : (∀ r ∈ l.recs, recOk r = true) ∧ l.recs.length ≤ 40 ∧ 0 ≤ l.forced ∧ l.forced ≤ l.recs.length := by
  simp only [logOk, inB, Bool.and_eq_true, decide_eq_true_eq, List.all_eq_true] at h
  exact ⟨h.1, h.2.1, h.2.2.1, h.2.2.2⟩
theorem logOk_of {l : Log} (h1 : ∀ r ∈ l.recs, recOk r = true) (h2 : l.recs.length ≤ 40) (h3 : 0 ≤ l.forced) (h4 : l.forced ≤ l.recs.length) : logOk l = true := by
  simp only [logOk, inB, Bool.and_eq_true, decide_eq_true_eq, List.all_eq_true]
  exact ⟨h1, h2, h3, h4⟩
/-- What is written down. -/
structure Wrote (h : House) (w : Word) (x : House) : Prop where
  ok : houseOk x = true
  may : stockMayB (stockV h false) (recOfW w) = true
  recs : x.log.recs = h.log.recs ++ [recOfW w]
  forced : x.log.forced = h.log.forced
  id : x.id = h.id
  up : x.up = h.up
  room : x.room = h.room
  all : stockV x false = stockDoL (stockV h false) (recOfW w)
  sure : stockV x true = stockV h true
theorem wrote {h : House} {w : Word} (hk : houseOk h = true) (hh : hearsB h w = true) (hm : mayB h w = true) : Wrote h w (hearH h w) := by
  obtain ⟨h1, h2, s, hs⟩ := houseOk_parts hk
  obtain ⟨g1, g2, g3, g4⟩ := hearsB_parts hh
  have hr := recOfW_ok g2 g3
  have hl := house_len hk
  have e : hearH h w = { h with log := ⟨h.log.recs ++ [recOfW w], h.log.forced⟩ } := by
    unfold hearH; rw [if_pos hh, if_pos hm, addL'_room hl]
  rw [e]
  obtain ⟨l1, l2, l3, l4⟩ := logOk_parts h2
  have hm' := hm
  unfold mayB at hm'
  have hst : stockOf h.room (h.log.recs ++ [recOfW w]) = some (stockDoL (stockV h false) (recOfW w)) := by
    rw [stockOf_snoc, hs]
    rw [stockV_all hs] at hm' ⊢
    simp [stockStep, hr, hm']
  refine ⟨houseOk_of h1 (logOk_of ?_ (by simp; omega) l3 (by simp; omega)) hst, hm', rfl, rfl, rfl, rfl, rfl, stockV_all hst, ?_⟩
  · intro r hr'
    simp only [List.mem_append, List.mem_cons, List.not_mem_nil, or_false] at hr'
    rcases hr' with hr' | rfl
    · exact l1 r hr'
    · exact hr
  · simp only [stockV, known, if_true]
    rw [List.take_append_of_le_length (by omega)]
theorem hearH_same {h : House} {w : Word} (hm : ¬ (hearsB h w = true ∧ mayB h w = true)) : hearH h w = h := by
  unfold hearH
  split
  · rename_i h1
    rw [if_neg fun h2 => hm ⟨h1, h2⟩]
  · rfl
theorem hearH_ok {h : House} {w : Word} (hk : houseOk h = true) : houseOk (hearH h w) = true := by
  by_cases hc : hearsB h w = true ∧ mayB h w = true
  · exact (wrote hk hc.1 hc.2).ok
  · rw [hearH_same hc]; exact hk
end Go.AX

/- The laws of logs hold. Condition: the bytes that draw lie in memory. -/
namespace Go.AX
variable {P : Program} {I : Ids}
theorem forceV_ok {l : Log} (h : logOk l = true) : forceV l = forceL l := by simp [forceV, h, forceL]
theorem fallV_ok {l : Log} (h : logOk l = true) (k : Int) : fallV l k = fallL l k := by simp [fallV, h, fallL]
theorem force_ok {l : Log} (h : logOk l = true) : logOk (forceL l) = true := by
  obtain ⟨h1, h2, h3, h4⟩ := logOk_parts h
  exact logOk_of h1 h2 (by simp [forceL]) (by simp [forceL])
theorem fallN_nat {l : Log} (h : logOk l = true) (k : Int) : (fallN l k : Int) = if 0 < k then l.forced + min k (l.recs.length - l.forced) else l.forced := by
  obtain ⟨h1, h2, h3, h4⟩ := logOk_parts h
  unfold fallN; split <;> omega
theorem fall_ok {l : Log} (h : logOk l = true) (k : Int) : logOk (fallL l k) = true := by
  obtain ⟨h1, h2, h3, h4⟩ := logOk_parts h
  have := fallN_le h k
  exact logOk_of (fun r hr => h1 r (List.mem_of_mem_take hr)) (by simp [fallL]; omega) (by simp [fallL]) (by simp [fallL]; omega)
theorem fall_full {l : Log} (h : logOk l = true) (hf : l.forced = l.recs.length) (k : Int) : fallL l k = l := by
  have := fallN_nat h k
  have e : fallN l k = l.recs.length := by split at this <;> omega
  ext1
  · simp [fallL, e]
  · simp [fallL, e, hf]
theorem force_fall {l : Log} (h : logOk l = true) (k : Int) : fallV (forceL l) k = forceL l := by
  rw [fallV_ok (force_ok h)]; exact fall_full (force_ok h) rfl k
theorem force_twice {l : Log} (h : logOk l = true) : forceV (forceL l) = forceL l := by rw [forceV_ok (force_ok h)]; rfl

theorem fallL_len {l : Log} (h : logOk l = true) (k : Int) : (fallL l k).recs.length = fallN l k := by
  have := fallN_le h k
  simp [fallL]; omega
end Go.AX

/- The laws of logs to which records are added hold. Condition: the bytes that draw lie in memory. -/
namespace Go.AX
variable {P : Program} {I : Ids}
theorem addV_ok {l : Log} {r : Rec} (h1 : logOk l = true) (h2 : recOk r = true) : addV l r = addL l r := by simp [addV, h1, h2]
theorem addOk_ok {l : Log} {r : Rec} (h1 : logOk l = true) (h2 : recOk r = true) : addOk l r = decide (l.recs.length < 40) := by simp [addOk, h1, h2, addB]
theorem addL_ok {l : Log} {r : Rec} (h1 : logOk l = true) (h2 : recOk r = true) : logOk (addL l r) = true := by
  obtain ⟨p1, p2, p3, p4⟩ := logOk_parts h1
  unfold addL; split
  · exact h1
  · refine logOk_of (fun x hx => ?_) (by simp; omega) p3 (by simp; omega)
    simp only [List.mem_append, List.mem_cons, List.not_mem_nil, or_false] at hx
    rcases hx with hx | rfl
    · exact p1 x hx
    · exact h2
theorem SlR.last {α : Type} {n : Nat} {R : RepS α} {H : Heap} {c : C} {xs : List α} {x : α} {F : List Nat} (h : SlR n R H c (xs ++ [x]) F) : ∃ b off bs cs f, c = .sl b off (xs.length + 1) ∧ H.live b = some bs ∧ slab bs (off + xs.length * n) n = some cs ∧ R H cs x f ∧ cs.length = n := by
  obtain ⟨b, off, bs, cs, f, h1, h2, h3, h4, h5, _⟩ := h.get (i := xs.length) (x := x) (by simp)
  exact ⟨b, off, bs, cs, f, by simpa using h1, h2, h3, h4, h5⟩
theorem SlR.most {α : Type} {n : Nat} {R : RepS α} {H : Heap} {c : C} {xs : List α} {x : α} {F : List Nat} (h : SlR n R H c (xs ++ [x]) F) : ∃ c' F', slcC H n c 0 (some (xs.length : Int)) = some c' ∧ SlR n R H c' xs F' := by
  obtain ⟨c', F', h1, h2, _⟩ := slc_take h (k := xs.length) (by simp)
  exact ⟨c', F', h1, by simpa using h2⟩

end Go.AX

/- Slices that are made and then filled, element by element; sizes. No condition. -/
namespace Go.AX
theorem rep_succ (l : Nat) (z : List C) : rep (l + 1) z = z ++ rep l z := by simp [rep, List.replicate_succ]
/-- A slice that was made. -/
theorem sl_make {α : Type} {n : Nat} {R : RepS α} {H : Heap} {z : List C} {x0 : α} (hz : z.length = n) (hR : ∀ H, R H z x0 []) {l : Nat} (hl : l ≤ lenTop) : SlR n R (H ++ [⟨.rw, n, rep l z⟩]) (.sl H.length 0 l) (List.replicate l x0) [H.length] := by
  have hall : ∀ (K : Heap) (l : Nat), All3 n (R K) (List.replicate l z) (List.replicate l x0) (List.replicate l []) := fun K l => by
    induction l with
    | zero => exact .nil
    | succ l ih => rw [List.replicate_succ, List.replicate_succ, List.replicate_succ]; exact .cons hz (hR K) ih
  refine .inr ⟨H.length, [], [], List.replicate l z, List.replicate l x0 |>.map fun _ => [], .rw, by simp, ?_, by simp [rep], by decide, ?_, by simpa using hl⟩
  · simp
  · have := hall (H ++ [⟨.rw, n, rep l z⟩]) l
    simpa using this
/-- The first i are as they are to be, the others as they were made. -/
def fillTo {α : Type} (xs : List α) (z : α) (i : Nat) : List α := xs.take i ++ List.replicate (xs.length - i) z
section
variable {α : Type} {xs : List α} {z : α} {i : Nat}
theorem fillTo_zero : fillTo xs z 0 = List.replicate xs.length z := by simp [fillTo]
theorem fillTo_all (h : xs.length ≤ i) : fillTo xs z i = xs := by simp [fillTo, List.take_of_length_le h, Nat.sub_eq_zero_of_le h]
theorem fillTo_len : (fillTo xs z i).length = xs.length := by simp [fillTo]; omega
theorem fillTo_get (h : i < xs.length) : (fillTo xs z i)[i]? = some z := by
  unfold fillTo
  rw [List.getElem?_append_right (by simp; omega)]
  simp only [List.length_take, Nat.min_eq_left (Nat.le_of_lt h), Nat.sub_self]
  rw [List.getElem?_replicate]; simp; omega
theorem fillTo_set {x : α} (h : xs[i]? = some x) : (fillTo xs z i).set i x = fillTo xs z (i + 1) := by
  have hi := (List.getElem?_eq_some_iff.1 h).1
  unfold fillTo
  rw [List.set_append_right _ _ (by simp; omega), take_snoc h, List.append_assoc]
  congr 1
  simp only [List.length_take, Nat.min_eq_left (Nat.le_of_lt hi), Nat.sub_self]
  rw [show xs.length - i = (xs.length - (i + 1)) + 1 by omega, List.replicate_succ]
  rfl
end
/-- An element is filled: what it had is let go. -/
theorem sl_fill {α : Type} {n : Nat} {R : RepS α} (hR : Good R) {H : Heap} {c : C} {xs : List α} {F f : List Nat} (h : SlR n R H c xs F) {i : Nat} {x : α} (hi : xs[i]? = some x) {cs' : List C} {x' : α} (hr : R H cs' x' f) (hl : cs'.length = n) (ho : Owned H (F ++ f)) :
    ∃ b off bs H' F', c = .sl b off xs.length ∧ H.own b = some (n, bs) ∧ off + i * n + n ≤ bs.length ∧ H.wr b (splice bs (off + i * n) cs') = H' ∧ SlR n R H' c (xs.set i x') F' ∧ Step (F ++ f) H H' F' := by
  obtain ⟨b, off, bs, cs, f0, st, A, B, e1, hb, _, hs, hl0, hle, hr0, hF, hbA, hput⟩ := h.focus hR ho.left.1 hi
  have hbF : b ∈ F := by rw [hF]; simp [hbA]
  have hw := ho.left.st hbF hb
  subst hw
  obtain ⟨H', bs', w1, hb', s1, own1, le1, oth1, len1, eq1, _⟩ := store_in hb hs 0 cs' (by omega)
  rw [Nat.add_zero] at w1 le1
  have hbf : ∀ k ∈ f, k ≠ b := fun k hk e => ho.disj b hbF (e ▸ hk)
  have hsp : splice cs 0 cs' = cs' := by simp [splice]; omega
  rw [hsp] at eq1
  refine ⟨b, off, bs, H', A ++ f ++ B, e1, own1, by omega, w1, ?_, ?_⟩
  · exact hput H' cs' x' f hl (hb'.trans (by rw [eq1])) (fun k _ hk => oth1 k hk) (hR.frame _ _ _ _ _ hr fun k hk => oth1 k (hbf k hk))
  · have hst : Step (F ++ f) H H' (F ++ f) := by
      rw [← w1]; exact Step.wr ho hb (by simp [hbF])
    have hp : (F ++ f).Perm ((A ++ f ++ B) ++ f0) := List.perm_iff_count.2 fun a => by rw [hF]; simp only [List.count_append]; omega
    exact (hst.perm hp).less (List.sublist_append_left _ _)
/-! Sizes. -/
def szV (left : Int) (w : Nat) : Int := if left < w then -1 else left - w
def wRec (r : Rec) : Nat := r.many.length
def wRecs : List Rec → Nat := fun l => l.length + sumL wRec l
def wLog (l : Log) : Nat := wRecs l.recs
def wTrip (t : Trip) : Nat := t.many.length
def wTrips : List Trip → Nat := fun l => l.length + sumL wTrip l
def wHouse (h : House) : Nat := wLog h.log
def wHouses : List House → Nat := fun l => l.length + sumL wHouse l
def wDesk (d : Desk) : Nat := wLog d.log + d.told.length
def wWld (w : Wld) : Nat := wDesk w.desk + (wHouses w.houses + w.nets.length)
theorem sumL_one (xs : List Int) : sumL one xs = xs.length := by
  induction xs with
  | nil => rfl
  | cons x r ih => simp [sumL, one] at ih ⊢; omega
theorem sumL_four (xs : List Word) : sumL four xs = 4 * xs.length := by
  induction xs with
  | nil => rfl
  | cons x r ih => simp [sumL, four] at ih ⊢; omega
theorem sumL_cons {α : Type} {f : α → Nat} {x : α} {r : List α} : sumL f (x :: r) = f x + sumL f r := by simp [sumL]
theorem sumL_nil {α : Type} {f : α → Nat} : sumL f [] = 0 := rfl
theorem cntRecs_le (xs : List Rec) : sumL cntRec xs ≤ 2 * wRecs xs := by
  induction xs with
  | nil => simp [sumL, wRecs]
  | cons x r ih => simp only [wRecs, sumL_cons, List.length_cons, cntRec, sumL_one, wRec] at ih ⊢; omega
theorem cntTrips_le (xs : List Trip) : sumL cntTrip xs ≤ 2 * wTrips xs := by
  induction xs with
  | nil => simp [sumL, wTrips]
  | cons x r ih => simp only [wTrips, sumL_cons, List.length_cons, cntTrip, sumL_one, wTrip] at ih ⊢; omega
theorem cntHouses_le (xs : List House) : sumL cntHouse xs ≤ 4 * wHouses xs := by
  induction xs with
  | nil => simp [sumL, wHouses]
  | cons x r ih =>
    have := cntRecs_le x.log.recs
    simp only [wHouses, sumL_cons, List.length_cons, cntHouse, cntRecs, wHouse, wLog] at ih ⊢; omega
theorem sumL_mem {α : Type} {f : α → Nat} {xs : List α} {x : α} (h : x ∈ xs) : f x ≤ sumL f xs := by
  induction xs with
  | nil => cases h
  | cons y r ih =>
    rw [sumL_cons]
    rcases List.mem_cons.1 h with rfl | h
    · omega
    · have := ih h; omega
end Go.AX

/- What the laws' sizes and copies of arguments return. Condition: the arguments lie in memory, and are no greater than 2^20 in all where they are copied. -/
namespace Go.AX
variable {P : Program} {I : Ids}
theorem RWord.cells {H : Heap} {cs : List C} {x : Word} {F : List Nat} (h : RWord H cs x F) : cs.length = 4 := by rw [h.1]; rfl
theorem szV_neg {left : Int} {w : Nat} (h : left < w) : szV left w = -1 := if_pos h
theorem szV_pos {left : Int} {w : Nat} (h : ¬ left < w) : szV left w = left - w := if_neg h
/-- Behind a slice that was made. -/
theorem RUs_mks {α : Type} {n : Nat} {R : RepS α} {hw : Bool} {l : Nat} {z : List C} {x0 : α} {E : Nat → AV} {d : Nat} {A : Nat → Option (Nat × Nat)} {U : Nat → Bool} {H : Heap} {Z : Zs} {os : List AO} {k : List Fr} {Q : AExit → S → Prop}
    (hz : z.length = n) (hR : ∀ H, R H z x0 []) (hl : l ≤ lenTop)
    (h : ∀ c H1 F, SlR n R H1 c (List.replicate l x0) F → Step [] H H1 F → RUh P hw { env := upd E d (.val (.c c)), adr := A, used := U, H := H1 } Z os k Q) :
    RUs P hw (if (l : Int) = 0 then some { env := upd E d (.val (.c (.emp true))), adr := A, used := U, H := H } else some { env := upd E d (.val (.c (.sl H.length 0 l))), adr := A, used := U, H := H ++ [⟨.rw, n, rep l z⟩] }) Z os k Q := by
  by_cases c : (l : Int) = 0
  · rw [if_pos c]
    refine ⟨_, rfl, h (.emp true) H [] ?_ (Step.refl H)⟩
    obtain rfl : l = 0 := by omega
    exact .emp
  · rw [if_neg c]
    exact ⟨_, rfl, h _ _ _ (sl_make hz hR hl) step_new⟩

end Go.AX

/- The exact laws of logs hold. Condition: the arguments lie in memory. -/
namespace Go.AX
variable {P : Program} {I : Ids}
attribute [go_sem] bne_self_eq_false
theorem sumL_bound {α : Type} {f : α → Nat} {xs : List α} {N : Nat} (h : ∀ x ∈ xs, f x ≤ N) : sumL f xs ≤ xs.length * N := by
  induction xs with
  | nil => simp [sumL]
  | cons x r ih =>
    have h1 := ih fun y hy => h y (by simp [hy])
    have h2 := h x (by simp)
    rw [sumL_cons, List.length_cons, Nat.succ_mul]; omega
theorem cnt_small {l : Log} (h : Small l) : sumL cntRec l.recs ≤ 4194304 := by
  have h1 := sumL_bound (f := cntRec) (xs := l.recs) (N := 66) fun r hr => by
    have := h.2 r hr
    simp only [cntRec, sumL_one]; omega
  have := h.1
  have : l.recs.length * 66 ≤ 64 * 66 := Nat.mul_le_mul_right _ h.1
  omega
theorem small_log0 : Small log0 := ⟨by simp [log0], by simp [log0]⟩
theorem force_small (l : Log) : Small (forceV l) := by
  unfold forceV; split
  · rename_i h; exact logOk_small (force_ok h)
  · exact small_log0
theorem fall_small (l : Log) (k : Int) : Small (fallV l k) := by
  by_cases h : logOk l = true
  · rw [fallV_ok h]; exact logOk_small (fall_ok h k)
  · unfold fallV; rw [if_neg h]; exact small_log0
theorem add_small (l : Log) (r : Rec) : Small (addV l r) := by
  unfold addV
  split
  · split
    · rename_i h1 h2; exact logOk_small (addL_ok h1 h2)
    · exact small_log0
  · exact small_log0
end Go.AX

/- Trips: the program and the reference do the same. Condition: the lists lie in memory. -/
namespace Go.AX
variable {P : Program} {I : Ids}
theorem does_i_TripsOk_1 (K : Codes P I) {H : Heap} {cs : List C} {t : Trip} {F : List Nat} (h : RTrip H cs t F) : Tests P I.i_TripsOk_1 H (.agg cs) (!tripOk t) := by
  obtain ⟨c, rfl, hc⟩ := h
  refine K.does K.i_TripsOk_1 rfl fun Q hQ => ?_
  simp only [go_sem, Nat.reduceEqDiff, Nat.reduceAdd, Nat.reduceMul, Nat.reduceLeDiff, Int.reduceEq, Int.reduceLT, Int.reduceLE, Int.reduceAdd, Int.reduceSub, Int.reduceNeg, Int.reduceMul, Int.reduceToNat, Int.cast_ofNat_Int, Int.natCast_zero, Nat.add_zero, reduceCtorEq, L_i_TripsOk_1]
  refine Does.test (does_i_wantedOk K hc) ?_
  cases hm : manyOk t.many with
  | false =>
    simp only [go_sem, Nat.reduceEqDiff, Nat.reduceAdd, Nat.reduceMul, Nat.reduceLeDiff, Int.reduceEq, Int.reduceLT, Int.reduceLE, Int.reduceAdd, Int.reduceSub, Int.reduceNeg, Int.reduceMul, Int.reduceToNat, Int.cast_ofNat_Int, Int.natCast_zero, Nat.add_zero, reduceCtorEq]
    exact hQ _ _ (Ends.ret rfl ⟨by simp [tupOf, tripOk, hm], rfl⟩)
  | true =>
    simp only [go_sem, Nat.reduceEqDiff, Nat.reduceAdd, Nat.reduceMul, Nat.reduceLeDiff, Int.reduceEq, Int.reduceLT, Int.reduceLE, Int.reduceAdd, Int.reduceSub, Int.reduceNeg, Int.reduceMul, Int.reduceToNat, Int.cast_ofNat_Int, Int.natCast_zero, Nat.add_zero, reduceCtorEq]
    refine Does.test (does_i_in K) ?_
    simp only [go_sem, Nat.reduceEqDiff, Nat.reduceAdd, Nat.reduceMul, Nat.reduceLeDiff, Int.reduceEq, Int.reduceLT, Int.reduceLE, Int.reduceAdd, Int.reduceSub, Int.reduceNeg, Int.reduceMul, Int.reduceToNat, Int.cast_ofNat_Int, Int.natCast_zero, Nat.add_zero, reduceCtorEq]
    exact hQ _ _ (Ends.ret rfl ⟨by simp [tupOf, tripOk, hm], rfl⟩)
theorem any_not' {α : Type} (t : α → Bool) (l : List α) : (l.any fun x => !t x) = !l.all t := by
  induction l with
  | nil => rfl
  | cons x r ih => simp only [List.any_cons, List.all_cons, ih]; cases t x <;> simp
theorem does_i_TripsOk (K : Codes P I) {H : Heap} {c : C} {l : List Trip} {F : List Nat} (h : Trips H c l F) : Does P I.i_TripsOk [.c c] H fun v H' => v = bool (tripsOk l) ∧ H' = H := by
  refine K.does K.i_TripsOk rfl fun Q hQ => ?_
  by_cases hl : (l.length : Int) ≤ 6
  · have hl' : l.length ≤ 6 := by omega
    simp only [go_sem, Nat.reduceEqDiff, Nat.reduceAdd, Nat.reduceMul, Nat.reduceLeDiff, Int.reduceEq, Int.reduceLT, Int.reduceLE, Int.reduceAdd, Int.reduceSub, Int.reduceNeg, Int.reduceMul, Int.reduceToNat, Int.cast_ofNat_Int, Int.natCast_zero, Nat.add_zero, reduceCtorEq, L_i_TripsOk, h.len, hl]
    refine Does.test (does_g_ContainsFunc_Trip K h (fun t => !tripOk t) fun cs x f' _ hr _ => does_i_TripsOk_1 K hr) ?_
    simp only [go_sem, Nat.reduceEqDiff, Nat.reduceAdd, Nat.reduceMul, Nat.reduceLeDiff, Int.reduceEq, Int.reduceLT, Int.reduceLE, Int.reduceAdd, Int.reduceSub, Int.reduceNeg, Int.reduceMul, Int.reduceToNat, Int.cast_ofNat_Int, Int.natCast_zero, Nat.add_zero, reduceCtorEq, any_not']
    exact hQ _ _ (Ends.ret rfl ⟨by simp [tupOf, tripsOk, hl'], rfl⟩)
  · have hl' : ¬ l.length ≤ 6 := by omega
    simp only [go_sem, Nat.reduceEqDiff, Nat.reduceAdd, Nat.reduceMul, Nat.reduceLeDiff, Int.reduceEq, Int.reduceLT, Int.reduceLE, Int.reduceAdd, Int.reduceSub, Int.reduceNeg, Int.reduceMul, Int.reduceToNat, Int.cast_ofNat_Int, Int.natCast_zero, Nat.add_zero, reduceCtorEq, L_i_TripsOk, h.len, hl]
    exact hQ _ _ (Ends.ret rfl ⟨by simp [tupOf, tripsOk, hl'], rfl⟩)
theorem stateOf_get {l : List Trip} {t : Int} (h : inB t 1 l.length = true) : ∃ i x, t = (i : Nat) + 1 ∧ (t - 1).toNat = i ∧ i < l.length ∧ l[i]? = some x ∧ stateOf l t = x.state := by
  have h0 := h
  simp only [inB, Bool.and_eq_true, decide_eq_true_eq] at h
  have hlt : (t - 1).toNat < l.length := by omega
  refine ⟨(t - 1).toNat, l[(t - 1).toNat]'hlt, by omega, rfl, hlt, List.getElem?_eq_getElem hlt, ?_⟩
  unfold stateOf; rw [if_pos h0, List.getElem?_eq_getElem hlt]; rfl
theorem does_i_stateOf (K : Codes P I) {H : Heap} {c : C} {l : List Trip} {F : List Nat} {t : Int} (h : Trips H c l F) : Does P I.i_stateOf [.c c, int t] H fun v H' => v = .val (int (stateOf l t)) ∧ H' = H := by
  refine K.does K.i_stateOf rfl fun Q hQ => ?_
  simp only [go_sem, Nat.reduceEqDiff, Nat.reduceAdd, Nat.reduceMul, Nat.reduceLeDiff, Int.reduceEq, Int.reduceLT, Int.reduceLE, Int.reduceAdd, Int.reduceSub, Int.reduceNeg, Int.reduceMul, Int.reduceToNat, Int.cast_ofNat_Int, Int.natCast_zero, Nat.add_zero, reduceCtorEq, L_i_stateOf, h.len]
  refine Does.test (does_i_in K) ?_
  cases hb : inB t 1 l.length with
  | false =>
    simp only [go_sem, Nat.reduceEqDiff, Nat.reduceAdd, Nat.reduceMul, Nat.reduceLeDiff, Int.reduceEq, Int.reduceLT, Int.reduceLE, Int.reduceAdd, Int.reduceSub, Int.reduceNeg, Int.reduceMul, Int.reduceToNat, Int.cast_ofNat_Int, Int.natCast_zero, Nat.add_zero, reduceCtorEq]
    exact hQ _ _ (Ends.ret rfl ⟨by simp [tupOf, stateOf, hb], rfl⟩)
  | true =>
    obtain ⟨i, x, rfl, ht, hi, hx, hst⟩ := stateOf_get hb
    have htop := h.top
    have hw : IntKind.wrap .i64 ((i : Int) + 1 - 1) = (i : Int) := by rw [wrap_i64 (by omega) (by unfold lenTop at htop; omega)]; omega
    obtain ⟨b1, o1, bs1, cs1, f1, rfl, e1, e2, ⟨cm, rfl, hm⟩, _, _⟩ := h.get hx
    have ld1 := slab_sub e2 1 1 (by simp)
    simp only [slabAt1, slabSkip1] at ld1
    have hlt : (i : Int) < l.length := by omega
    simp only [go_sem, Nat.reduceEqDiff, Nat.reduceAdd, Nat.reduceMul, Nat.reduceLeDiff, Int.reduceEq, Int.reduceLT, Int.reduceLE, Int.reduceAdd, Int.reduceSub, Int.reduceNeg, Int.reduceMul, Int.reduceToNat, Int.cast_ofNat_Int, Int.natCast_zero, Nat.add_zero, reduceCtorEq, hw, hlt, e1, ld1]
    exact hQ _ _ (Ends.ret rfl ⟨by simp [tupOf, hst], rfl⟩)
theorem does_i_TripsMay (K : Codes P I) {H : Heap} {c : C} {ds : List C} {l : List Trip} {r : Rec} {F G : List Nat} (h : Trips H c l F) (hr : RRec H ds r G) : Does P I.i_TripsMay [.c c, .agg ds] H fun v H' => v = bool (tripsMay l r) ∧ H' = H := by
  have hr0 := hr
  obtain ⟨cm, rfl, hm⟩ := hr
  refine K.does K.i_TripsMay rfl fun Q hQ => ?_
  have htop := h.top
  simp only [go_sem, Nat.reduceEqDiff, Nat.reduceAdd, Nat.reduceMul, Nat.reduceLeDiff, Int.reduceEq, Int.reduceLT, Int.reduceLE, Int.reduceAdd, Int.reduceSub, Int.reduceNeg, Int.reduceMul, Int.reduceToNat, Int.cast_ofNat_Int, Int.natCast_zero, Nat.add_zero, reduceCtorEq, L_i_TripsMay]
  refine Does.test (does_i_TripsOk K h) ?_
  cases hl : tripsOk l with
  | false =>
    simp only [go_sem, Nat.reduceEqDiff, Nat.reduceAdd, Nat.reduceMul, Nat.reduceLeDiff, Int.reduceEq, Int.reduceLT, Int.reduceLE, Int.reduceAdd, Int.reduceSub, Int.reduceNeg, Int.reduceMul, Int.reduceToNat, Int.cast_ofNat_Int, Int.natCast_zero, Nat.add_zero, reduceCtorEq]
    exact hQ _ _ (Ends.ret rfl ⟨by simp [tupOf, tripsMay, hl], rfl⟩)
  | true =>
    simp only [go_sem, Nat.reduceEqDiff, Nat.reduceAdd, Nat.reduceMul, Nat.reduceLeDiff, Int.reduceEq, Int.reduceLT, Int.reduceLE, Int.reduceAdd, Int.reduceSub, Int.reduceNeg, Int.reduceMul, Int.reduceToNat, Int.cast_ofNat_Int, Int.natCast_zero, Nat.add_zero, reduceCtorEq]
    refine Does.test (does_i_RecOk K hr0) ?_
    cases hrk : recOk r with
    | false =>
      simp only [go_sem, Nat.reduceEqDiff, Nat.reduceAdd, Nat.reduceMul, Nat.reduceLeDiff, Int.reduceEq, Int.reduceLT, Int.reduceLE, Int.reduceAdd, Int.reduceSub, Int.reduceNeg, Int.reduceMul, Int.reduceToNat, Int.cast_ofNat_Int, Int.natCast_zero, Nat.add_zero, reduceCtorEq]
      exact hQ _ _ (Ends.ret rfl ⟨by simp [tupOf, tripsMay, hrk], rfl⟩)
    | true =>
      simp only [go_sem, Nat.reduceEqDiff, Nat.reduceAdd, Nat.reduceMul, Nat.reduceLeDiff, Int.reduceEq, Int.reduceLT, Int.reduceLE, Int.reduceAdd, Int.reduceSub, Int.reduceNeg, Int.reduceMul, Int.reduceToNat, Int.cast_ofNat_Int, Int.natCast_zero, Nat.add_zero, reduceCtorEq]
      refine Does.test (does_i_stateOf K h) ?_
      have hw : IntKind.wrap .i64 ((l.length : Int) + 1) = (l.length : Int) + 1 := wrap_i64 (by omega) (by unfold lenTop at htop; omega)
      by_cases k4 : r.kind = 4
      · simp only [go_sem, Nat.reduceEqDiff, Nat.reduceAdd, Nat.reduceMul, Nat.reduceLeDiff, Int.reduceEq, Int.reduceLT, Int.reduceLE, Int.reduceAdd, Int.reduceSub, Int.reduceNeg, Int.reduceMul, Int.reduceToNat, Int.cast_ofNat_Int, Int.natCast_zero, Nat.add_zero, reduceCtorEq, k4, h.len, hw]
        exact hQ _ _ (Ends.ret rfl ⟨by simp [tupOf, tripsMay, hl, hrk, tripMayB, k4], rfl⟩)
      · by_cases k5 : r.kind = 5
        · simp only [go_sem, Nat.reduceEqDiff, Nat.reduceAdd, Nat.reduceMul, Nat.reduceLeDiff, Int.reduceEq, Int.reduceLT, Int.reduceLE, Int.reduceAdd, Int.reduceSub, Int.reduceNeg, Int.reduceMul, Int.reduceToNat, Int.cast_ofNat_Int, Int.natCast_zero, Nat.add_zero, reduceCtorEq, k4, k5]
          exact hQ _ _ (Ends.ret rfl ⟨by simp [tupOf, tripsMay, hl, hrk, tripMayB, k5], rfl⟩)
        · by_cases k6 : r.kind = 6
          · simp only [go_sem, Nat.reduceEqDiff, Nat.reduceAdd, Nat.reduceMul, Nat.reduceLeDiff, Int.reduceEq, Int.reduceLT, Int.reduceLE, Int.reduceAdd, Int.reduceSub, Int.reduceNeg, Int.reduceMul, Int.reduceToNat, Int.cast_ofNat_Int, Int.natCast_zero, Nat.add_zero, reduceCtorEq, k4, k5, k6]
            exact hQ _ _ (Ends.ret rfl ⟨by simp [tupOf, tripsMay, hl, hrk, tripMayB, k6], rfl⟩)
          · by_cases k7 : r.kind = 7
            · by_cases s2 : stateOf l r.trip = 2
              · simp only [go_sem, Nat.reduceEqDiff, Nat.reduceAdd, Nat.reduceMul, Nat.reduceLeDiff, Int.reduceEq, Int.reduceLT, Int.reduceLE, Int.reduceAdd, Int.reduceSub, Int.reduceNeg, Int.reduceMul, Int.reduceToNat, Int.cast_ofNat_Int, Int.natCast_zero, Nat.add_zero, reduceCtorEq, k4, k5, k6, k7, s2]
                exact hQ _ _ (Ends.ret rfl ⟨by simp [tupOf, tripsMay, hl, hrk, tripMayB, k7, s2], rfl⟩)
              · simp only [go_sem, Nat.reduceEqDiff, Nat.reduceAdd, Nat.reduceMul, Nat.reduceLeDiff, Int.reduceEq, Int.reduceLT, Int.reduceLE, Int.reduceAdd, Int.reduceSub, Int.reduceNeg, Int.reduceMul, Int.reduceToNat, Int.cast_ofNat_Int, Int.natCast_zero, Nat.add_zero, reduceCtorEq, k4, k5, k6, k7, s2]
                exact hQ _ _ (Ends.ret rfl ⟨by simp [tupOf, tripsMay, hl, hrk, tripMayB, k7, s2], rfl⟩)
            · simp only [go_sem, Nat.reduceEqDiff, Nat.reduceAdd, Nat.reduceMul, Nat.reduceLeDiff, Int.reduceEq, Int.reduceLT, Int.reduceLE, Int.reduceAdd, Int.reduceSub, Int.reduceNeg, Int.reduceMul, Int.reduceToNat, Int.cast_ofNat_Int, Int.natCast_zero, Nat.add_zero, reduceCtorEq, k4, k5, k6, k7]
              exact hQ _ _ (Ends.ret rfl ⟨by simp [tupOf, tripsMay, hl, hrk, tripMayB, k4, k5, k6, k7], rfl⟩)
theorem stateOf_out {l : List Trip} {t : Int} (h : (l.length : Int) < t) : stateOf l t = 0 := by
  unfold stateOf; rw [if_neg]; simp only [inB, Bool.and_eq_true, decide_eq_true_eq]; omega
theorem does_s_l12May (K : Codes P I) {H : Heap} {c : C} {ds : List C} {l : List Trip} {r : Rec} {F G : List Nat} (h : Trips H c l F) (hr : RRec H ds r G) (hrk : recOk r = true) : Does P I.s_l12May [.c c, .agg ds] H fun v H' => v = bool (tripMayB l r) ∧ H' = H := by
  obtain ⟨cm, rfl, hm⟩ := hr
  refine K.does K.s_l12May rfl fun Q hQ => ?_
  have htop := h.top
  have htr := recOk_trip hrk
  have hw : IntKind.wrap .i64 ((l.length : Int) + 1) = (l.length : Int) + 1 := wrap_i64 (by omega) (by unfold lenTop at htop; omega)
  by_cases k4 : r.kind = 4
  · simp only [go_sem, Nat.reduceEqDiff, Nat.reduceAdd, Nat.reduceMul, Nat.reduceLeDiff, Int.reduceEq, Int.reduceLT, Int.reduceLE, Int.reduceAdd, Int.reduceSub, Int.reduceNeg, Int.reduceMul, Int.reduceToNat, Int.cast_ofNat_Int, Int.natCast_zero, Nat.add_zero, reduceCtorEq, L_s_l12May, k4, h.len, hw]
    exact hQ _ _ (Ends.ret rfl ⟨by simp [tupOf, tripMayB, k4], rfl⟩)
  · by_cases hgt : (l.length : Int) < r.trip
    · simp only [go_sem, Nat.reduceEqDiff, Nat.reduceAdd, Nat.reduceMul, Nat.reduceLeDiff, Int.reduceEq, Int.reduceLT, Int.reduceLE, Int.reduceAdd, Int.reduceSub, Int.reduceNeg, Int.reduceMul, Int.reduceToNat, Int.cast_ofNat_Int, Int.natCast_zero, Nat.add_zero, reduceCtorEq, L_s_l12May, k4, h.len, hgt]
      exact hQ _ _ (Ends.ret rfl ⟨by simp [tupOf, tripMayB, k4, stateOf_out hgt], rfl⟩)
    · obtain ⟨i, x, hti, ht, hi, hx, hst⟩ := stateOf_get (l := l) (t := r.trip) (by simp only [inB, Bool.and_eq_true, decide_eq_true_eq]; omega)
      have hw2 : IntKind.wrap .i64 (r.trip - 1) = (i : Int) := by rw [wrap_i64 (by omega) (by omega)]; omega
      obtain ⟨b1, o1, bs1, cs1, f1, rfl, e1, e2, ⟨cm, rfl, hm⟩, _, _⟩ := h.get hx
      have ld1 := slab_sub e2 1 1 (by simp)
      simp only [slabAt1, slabSkip1] at ld1
      have hlt : (i : Int) < l.length := by omega
      by_cases k5 : r.kind = 5
      · simp only [go_sem, Nat.reduceEqDiff, Nat.reduceAdd, Nat.reduceMul, Nat.reduceLeDiff, Int.reduceEq, Int.reduceLT, Int.reduceLE, Int.reduceAdd, Int.reduceSub, Int.reduceNeg, Int.reduceMul, Int.reduceToNat, Int.cast_ofNat_Int, Int.natCast_zero, Nat.add_zero, reduceCtorEq, L_s_l12May, k4, k5, hgt, hw2, hlt, e1, ld1]
        exact hQ _ _ (Ends.ret rfl ⟨by simp [tupOf, tripMayB, k5, hst], rfl⟩)
      · by_cases k6 : r.kind = 6
        · simp only [go_sem, Nat.reduceEqDiff, Nat.reduceAdd, Nat.reduceMul, Nat.reduceLeDiff, Int.reduceEq, Int.reduceLT, Int.reduceLE, Int.reduceAdd, Int.reduceSub, Int.reduceNeg, Int.reduceMul, Int.reduceToNat, Int.cast_ofNat_Int, Int.natCast_zero, Nat.add_zero, reduceCtorEq, L_s_l12May, k4, k5, k6, hgt, hw2, hlt, e1, ld1]
          exact hQ _ _ (Ends.ret rfl ⟨by simp [tupOf, tripMayB, k6, hst], rfl⟩)
        · by_cases k7 : r.kind = 7
          · by_cases s2 : x.state = 2
            · simp only [go_sem, Nat.reduceEqDiff, Nat.reduceAdd, Nat.reduceMul, Nat.reduceLeDiff, Int.reduceEq, Int.reduceLT, Int.reduceLE, Int.reduceAdd, Int.reduceSub, Int.reduceNeg, Int.reduceMul, Int.reduceToNat, Int.cast_ofNat_Int, Int.natCast_zero, Nat.add_zero, reduceCtorEq, L_s_l12May, k4, k5, k6, k7, hgt, hw2, hlt, e1, ld1, s2]
              exact hQ _ _ (Ends.ret rfl ⟨by simp [tupOf, tripMayB, k7, hst, s2], rfl⟩)
            · simp only [go_sem, Nat.reduceEqDiff, Nat.reduceAdd, Nat.reduceMul, Nat.reduceLeDiff, Int.reduceEq, Int.reduceLT, Int.reduceLE, Int.reduceAdd, Int.reduceSub, Int.reduceNeg, Int.reduceMul, Int.reduceToNat, Int.cast_ofNat_Int, Int.natCast_zero, Nat.add_zero, reduceCtorEq, L_s_l12May, k4, k5, k6, k7, hgt, hw2, hlt, e1, ld1, s2]
              exact hQ _ _ (Ends.ret rfl ⟨by simp [tupOf, tripMayB, k7, hst, s2], rfl⟩)
          · simp only [go_sem, Nat.reduceEqDiff, Nat.reduceAdd, Nat.reduceMul, Nat.reduceLeDiff, Int.reduceEq, Int.reduceLT, Int.reduceLE, Int.reduceAdd, Int.reduceSub, Int.reduceNeg, Int.reduceMul, Int.reduceToNat, Int.cast_ofNat_Int, Int.natCast_zero, Nat.add_zero, reduceCtorEq, L_s_l12May, k4, k5, k6, k7, hgt, hw2, hlt, e1, ld1]
            exact hQ _ _ (Ends.ret rfl ⟨by simp [tupOf, tripMayB, k4, k5, k6, k7], rfl⟩)
theorem modify_set {α : Type} {l : List α} {i : Nat} {x : α} {f : α → α} (h : l[i]? = some x) : l.modify i f = l.set i (f x) := by
  apply List.ext_getElem?
  intro j
  rw [List.getElem?_modify, List.getElem?_set]
  have hi := (List.getElem?_eq_some_iff.1 h).1
  by_cases e : i = j
  · subst e; rw [h]; simp [hi]
  · simp [e]
/-- To write a trip's state. -/
theorem trip_put {H : Heap} {c : C} {l : List Trip} {F : List Nat} (h : Trips H c l F) (ho : Owned H F) {i : Nat} {x : Trip} (hi : l[i]? = some x) (v : Int) :
    ∃ b off bs cells H', c = .sl b off l.length ∧ H.own b = some (2, bs) ∧ H.live b = some bs ∧ slab bs (off + i * 2 + 1) 1 = some [.int .i64 x.state] ∧ off + i * 2 + 1 + 1 ≤ bs.length ∧ H.wr b (splice bs (off + i * 2 + 1) [.int .i64 v]) = H' ∧ Trips H' c (l.set i ⟨x.many, v⟩) F ∧ Step F H H' F ∧ cells = bs := by
  obtain ⟨b, off, bs, H', e1, e2, e3, e4, e5, e6⟩ := sl_put RTrip.good h ho hi 1 [.int .i64 v] (by simp) ⟨x.many, v⟩ (fun H' cs f hr hl => by
    obtain ⟨cm, rfl, hm⟩ := hr
    exact ⟨cm, by simp [splice], hm⟩)
  obtain ⟨b1, o1, bs1, cs1, f1, q1, q2, q3, ⟨cm, rfl, hm⟩, _, _⟩ := h.get hi
  rw [e1] at q1
  cases q1
  have hlive : H.live b = some bs := by
    unfold Heap.own at e2
    unfold Heap.live
    split at e2
    · rename_i heq; rw [heq]; simp only [Option.some.injEq, Prod.mk.injEq] at e2; rw [e2.2]
    · cases e2
  have hb : bs1 = bs := by rw [q2] at hlive; simpa using hlive
  subst hb
  have ld1 := slab_sub q3 1 1 (by simp)
  simp only [slabAt1, slabSkip1] at ld1
  exact ⟨b, off, bs1, bs1, H', e1, e2, hlive, ld1, e3, e4, e5, e6, rfl⟩
theorem tripMay_at {l : List Trip} {r : Rec} (hm : tripMayB l r = true) (k4 : r.kind ≠ 4) : ∃ i x, r.trip = (i : Nat) + 1 ∧ (r.trip - 1).toNat = i ∧ i < l.length ∧ l[i]? = some x ∧ stateOf l r.trip = x.state ∧ (r.kind = 5 ∨ r.kind = 6 → x.state = 1) ∧ (r.kind ≠ 5 → r.kind ≠ 6 → r.kind = 7 ∧ (x.state = 2 ∨ x.state = 3)) := by
  unfold tripMayB at hm
  rw [if_neg k4] at hm
  have hne : stateOf l r.trip ≠ 0 := by
    intro e; rw [e] at hm
    (repeat' split at hm) <;> simp at hm
  have hb : inB r.trip 1 l.length = true := by
    unfold stateOf at hne; split at hne
    · assumption
    · exact absurd rfl hne
  obtain ⟨i, x, h1, h2, h3, h4, h5⟩ := stateOf_get hb
  refine ⟨i, x, h1, h2, h3, h4, h5, fun hk => ?_, fun h6 h7 => ?_⟩
  · rw [if_pos hk] at hm; rw [← h5]; simpa using hm
  · rw [if_neg (by simp [h6, h7])] at hm
    split at hm
    · rename_i hk; exact ⟨hk, by rw [← h5]; simpa using hm⟩
    · cases hm
theorem tripsDoL_set {l : List Trip} {r : Rec} {i : Nat} {x : Trip} (k4 : r.kind ≠ 4) (h2 : (r.trip - 1).toNat = i) (hx : l[i]? = some x) : tripsDoL l r = l.set i (tripStep x r) := by
  unfold tripsDoL; rw [if_neg k4, h2]; exact modify_set hx
set_option maxHeartbeats 1000000 in
theorem does_i_TripsDo (K : Codes P I) {H : Heap} {c : C} {ds : List C} {l : List Trip} {r : Rec} {F G : List Nat} (h : Trips H c l F) (hr : RRec H ds r G) :
    Does P I.i_TripsDo [.c c, .agg ds] H fun v H' => ∃ c' F', v = .tup [.c c', .c (.bool (tripsMay l r))] ∧ Step [] H H' F' ∧ Trips H' c' (tripsDoV l r) F' := by
  have hr0 := hr
  obtain ⟨cm, rfl, hm⟩ := hr
  refine K.does K.i_TripsDo rfl fun Q hQ => ?_
  have htop := h.top
  simp only [go_sem, Nat.reduceEqDiff, Nat.reduceAdd, Nat.reduceMul, Nat.reduceLeDiff, Int.reduceEq, Int.reduceLT, Int.reduceLE, Int.reduceAdd, Int.reduceSub, Int.reduceNeg, Int.reduceMul, Int.reduceToNat, Int.cast_ofNat_Int, Int.natCast_zero, Nat.add_zero, reduceCtorEq, L_i_TripsDo]
  refine Does.test (does_i_TripsMay K h hr0) ?_
  cases hmay : tripsMay l r with
  | false =>
    simp only [go_sem, Nat.reduceEqDiff, Nat.reduceAdd, Nat.reduceMul, Nat.reduceLeDiff, Int.reduceEq, Int.reduceLT, Int.reduceLE, Int.reduceAdd, Int.reduceSub, Int.reduceNeg, Int.reduceMul, Int.reduceToNat, Int.cast_ofNat_Int, Int.natCast_zero, Nat.add_zero, reduceCtorEq]
    exact hQ _ _ (Ends.ret rfl ⟨.nil, [], by simp [tupOf, hmay], Step.refl H, by rw [tripsDoV, if_neg (by simp [hmay])]; exact .nil⟩)
  | true =>
    have hmay2 := hmay
    simp only [tripsMay, Bool.and_eq_true] at hmay2
    obtain ⟨hok, hrk, hmb⟩ := hmay2
    have hV : tripsDoV l r = tripsDoL l r := by rw [tripsDoV, if_pos hmay]
    obtain ⟨hl6, hall⟩ := tripsOk_parts hok
    have htr := recOk_trip hrk
    simp only [go_sem, Nat.reduceEqDiff, Nat.reduceAdd, Nat.reduceMul, Nat.reduceLeDiff, Int.reduceEq, Int.reduceLT, Int.reduceLE, Int.reduceAdd, Int.reduceSub, Int.reduceNeg, Int.reduceMul, Int.reduceToNat, Int.cast_ofNat_Int, Int.natCast_zero, Nat.add_zero, reduceCtorEq, h.len]
    refine RU_loop (fun m s => ∃ i : Nat, m = l.length - i ∧ i ≤ l.length ∧ s.env 14 = .val (.c c) ∧ s.env 15 = .val (int l.length) ∧ s.env 16 = .val (int i) ∧ s.env 3 = .box [.int .i64 r.kind, .int .i64 r.trip, cm] ∧ ∃ c' F', s.env 6 = .val (.c c') ∧ Step [] H s.H F' ∧ Trips s.H c' (l.take i) F') l.length
      ⟨0, by simp, by simp, rfl, rfl, rfl, rfl, .nil, [], rfl, Step.refl H, .nil⟩ ?_
    rintro m s ⟨i, rfl, hi, g14, g15, g16, g3, c', F', g6, hs, ht⟩ Q' hN hE hR
    have h1 := hs.keepSl RTrip.good h fun b _ => by simp
    by_cases hlt : (i : Int) < l.length
    · obtain ⟨x, hx⟩ := get_lt hlt
      obtain ⟨b1, o1, bs1, cs1, f1, rfl, e1, e2, ⟨cx, rfl, hmx⟩, _, _⟩ := h1.get hx
      have hmx3 := manyOk_len (hall x (List.mem_of_getElem? hx)).1
      simp only [go_sem, Nat.reduceEqDiff, Nat.reduceAdd, Nat.reduceMul, Nat.reduceLeDiff, Int.reduceEq, Int.reduceLT, Int.reduceLE, Int.reduceAdd, Int.reduceSub, Int.reduceNeg, Int.reduceMul, Int.reduceToNat, Int.cast_ofNat_Int, Int.natCast_zero, Nat.add_zero, reduceCtorEq, g14, g15, g16, g3, g6, hlt, e1, e2]
      refine Does.call (does_g_Clone_int K hmx (by unfold lenMax; omega)) ?_
      rintro _ H1 ⟨c1, f, rfl, s1, hc1⟩
      have t1 := hs.with s1
      obtain ⟨c2, H2, F2, ha, ht2, s2⟩ := app_one RTrip.good (by decide) (s1.keepSl RTrip.good ht fun b _ => by simp) (show RTrip H1 [c1, .int .i64 x.state] x f from ⟨c1, rfl, hc1⟩) rfl t1.owned (by simp [lenMax]; omega)
      simp only [go_sem, Nat.reduceEqDiff, Nat.reduceAdd, Nat.reduceMul, Nat.reduceLeDiff, Int.reduceEq, Int.reduceLT, Int.reduceLE, Int.reduceAdd, Int.reduceSub, Int.reduceNeg, Int.reduceMul, Int.reduceToNat, Int.cast_ofNat_Int, Int.natCast_zero, Nat.add_zero, reduceCtorEq, g14, g15, g16, g3, g6, hlt, ha, wrap_succ (show i ≤ lenTop by omega)]
      refine hN _ _ (by omega) ⟨i + 1, rfl, by omega, by simp [upd, g14], by simp [upd, g15], by simp [upd], by simp [upd, g3], c2, F2, by simp [upd], t1.trans s2, ?_⟩
      rw [take_snoc hx]; exact ht2
    · simp only [go_sem, Nat.reduceEqDiff, Nat.reduceAdd, Nat.reduceMul, Nat.reduceLeDiff, Int.reduceEq, Int.reduceLT, Int.reduceLE, Int.reduceAdd, Int.reduceSub, Int.reduceNeg, Int.reduceMul, Int.reduceToNat, Int.cast_ofNat_Int, Int.natCast_zero, Nat.add_zero, reduceCtorEq, g14, g15, g16, hlt]
      refine hE _ _ ?_
      rw [List.take_of_length_le (by omega)] at ht
      have hm1 := hs.keepSl RInt.good hm fun b _ => by simp
      by_cases k4 : r.kind = 4
      · have hm3 := manyOk_len (recOk_begin hrk k4)
        simp only [go_sem, Nat.reduceEqDiff, Nat.reduceAdd, Nat.reduceMul, Nat.reduceLeDiff, Int.reduceEq, Int.reduceLT, Int.reduceLE, Int.reduceAdd, Int.reduceSub, Int.reduceNeg, Int.reduceMul, Int.reduceToNat, Int.cast_ofNat_Int, Int.natCast_zero, Nat.add_zero, reduceCtorEq, g3, g6, k4]
        refine Does.call (does_g_Clone_int K hm1 (by unfold lenMax; omega)) ?_
        rintro _ H1 ⟨c1, f, rfl, s1, hc1⟩
        have t1 := hs.with s1
        obtain ⟨c2, H2, F2, ha, ht2, s2⟩ := app_one RTrip.good (by decide) (s1.keepSl RTrip.good ht fun b _ => by simp) (show RTrip H1 [c1, .int .i64 1] ⟨r.many, 1⟩ f from ⟨c1, rfl, hc1⟩) rfl t1.owned (by simp [lenMax]; omega)
        simp only [go_sem, Nat.reduceEqDiff, Nat.reduceAdd, Nat.reduceMul, Nat.reduceLeDiff, Int.reduceEq, Int.reduceLT, Int.reduceLE, Int.reduceAdd, Int.reduceSub, Int.reduceNeg, Int.reduceMul, Int.reduceToNat, Int.cast_ofNat_Int, Int.natCast_zero, Nat.add_zero, reduceCtorEq, g3, g6, ha]
        exact hQ _ _ (Ends.ret rfl ⟨c2, F2, by simp [tupOf, hmay], t1.trans s2, by rw [hV, tripsDoL, if_pos k4]; exact ht2⟩)
      · obtain ⟨j, x, q1, q2, q3, q4, q5, q6, q7⟩ := tripMay_at hmb k4
        have hw : IntKind.wrap .i64 (r.trip - 1) = (j : Int) := by rw [wrap_i64 (by omega) (by omega)]; omega
        have hjl : (j : Int) < l.length := by omega
        have hS := tripsDoL_set k4 q2 q4
        by_cases k5 : r.kind = 5
        · obtain ⟨b, off, bs, _, H2, e1, e2, e3, e4, e5, e6, e7, e8, _⟩ := trip_put ht hs.owned q4 2
          subst e1
          simp only [go_sem, Nat.reduceEqDiff, Nat.reduceAdd, Nat.reduceMul, Nat.reduceLeDiff, Int.reduceEq, Int.reduceLT, Int.reduceLE, Int.reduceAdd, Int.reduceSub, Int.reduceNeg, Int.reduceMul, Int.reduceToNat, Int.cast_ofNat_Int, Int.natCast_zero, Nat.add_zero, reduceCtorEq, g3, g6, k4, k5, hw, hjl, e2, e5, e6]
          exact hQ _ _ (Ends.ret rfl ⟨.sl b off l.length, F', by simp [tupOf, hmay], hs.trans e8, by rw [hV, hS]; simpa [tripStep, k5] using e7⟩)
        · by_cases k6 : r.kind = 6
          · obtain ⟨b, off, bs, _, H2, e1, e2, e3, e4, e5, e6, e7, e8, _⟩ := trip_put ht hs.owned q4 3
            subst e1
            simp only [go_sem, Nat.reduceEqDiff, Nat.reduceAdd, Nat.reduceMul, Nat.reduceLeDiff, Int.reduceEq, Int.reduceLT, Int.reduceLE, Int.reduceAdd, Int.reduceSub, Int.reduceNeg, Int.reduceMul, Int.reduceToNat, Int.cast_ofNat_Int, Int.natCast_zero, Nat.add_zero, reduceCtorEq, g3, g6, k4, k5, k6, hw, hjl, e2, e5, e6]
            exact hQ _ _ (Ends.ret rfl ⟨.sl b off l.length, F', by simp [tupOf, hmay], hs.trans e8, by rw [hV, hS]; simpa [tripStep, k6] using e7⟩)
          · by_cases x2 : x.state = 2
            · obtain ⟨b, off, bs, _, H2, e1, e2, e3, e4, e5, e6, e7, e8, _⟩ := trip_put ht hs.owned q4 4
              subst e1
              simp only [go_sem, Nat.reduceEqDiff, Nat.reduceAdd, Nat.reduceMul, Nat.reduceLeDiff, Int.reduceEq, Int.reduceLT, Int.reduceLE, Int.reduceAdd, Int.reduceSub, Int.reduceNeg, Int.reduceMul, Int.reduceToNat, Int.cast_ofNat_Int, Int.natCast_zero, Nat.add_zero, reduceCtorEq, g3, g6, k4, k5, k6, hw, hjl, e2, e3, e4, e5, e6, x2]
              exact hQ _ _ (Ends.ret rfl ⟨.sl b off l.length, F', by simp [tupOf, hmay], hs.trans e8, by rw [hV, hS]; simpa [tripStep, k5, k6, x2] using e7⟩)
            · obtain ⟨b, off, bs, _, H2, e1, e2, e3, e4, e5, e6, e7, e8, _⟩ := trip_put ht hs.owned q4 5
              subst e1
              simp only [go_sem, Nat.reduceEqDiff, Nat.reduceAdd, Nat.reduceMul, Nat.reduceLeDiff, Int.reduceEq, Int.reduceLT, Int.reduceLE, Int.reduceAdd, Int.reduceSub, Int.reduceNeg, Int.reduceMul, Int.reduceToNat, Int.cast_ofNat_Int, Int.natCast_zero, Nat.add_zero, reduceCtorEq, g3, g6, k4, k5, k6, hw, hjl, e2, e3, e4, e5, e6, x2]
              exact hQ _ _ (Ends.ret rfl ⟨.sl b off l.length, F', by simp [tupOf, hmay], hs.trans e8, by rw [hV, hS]; simpa [tripStep, k5, k6, x2] using e7⟩)
end Go.AX
