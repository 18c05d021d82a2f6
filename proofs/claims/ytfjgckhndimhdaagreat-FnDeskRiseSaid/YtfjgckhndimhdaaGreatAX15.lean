/- The abstract machine AX: hints out of a function's text. No condition: definitions alone. -/
import Derived.Test.YtfjgckhndimhdaaGreatAX14
namespace Go.AX

def Op.tmpsAll (o : Op) : List Nat := o.operands.toList.filterMap fun | .tmp t => some t | _ => none
/-- The slots that an operation uses otherwise than as the place of a load, a store or a field. -/
def Op.leaks : Op → List Nat
  | .load _ _ => []
  | .fieldAddr _ _ _ => []
  | .indexAddr _ _ (.const _) => []
  | .store _ _ x => (match x with | .tmp t => [t] | _ => [])
  | o => Op.tmpsAll o
def codeOps : Code → List Oper
  | .region _ ops _ => ops.toList
  | .seq a b => codeOps a ++ codeOps b
  | .cond _ a b => codeOps a ++ codeOps b
  | .block _ a => codeOps a
  | .loop a => codeOps a
  | _ => []
def hintOf (fn : Func) : Hint :=
  let ops := (fn.body.map codeOps).getD []
  let vars := ops.filterMap fun o => match o.op with | .alloc _ | .box _ _ => o.dst | _ => none
  let leaks := ops.flatMap (fun o => Op.leaks o.op) ++ fn.results.toList.filterMap fun | .tmp t => some t | _ => none
  let esc := vars.filter leaks.contains
  let lits := ops.filterMap fun o => match o.op with | .buildSlice _ n _ => if n = 0 then none else o.dst | .makeMap _ _ => o.dst | _ => none
  ⟨esc, lits, vars.filter fun d => !esc.contains d⟩

/-- How a function of a program is read. -/
def readF (P : Program) (f : FuncId) : Option AFunc := match P.funcs[f]? with
  | some fn => funcOf P (hintOf fn) fn
  | none => none

theorem acalls_read {P : Program} {f : FuncId} {af : AFunc} {args : List V} {H : Heap} {s' : S} {x : AExit} {vs : List V} (hm : P.follows .mixedOrders = true) (hc : callable P f = true) (ha : readF P f = some af) (hn : args.length = af.np)
    (hb : Big P af.body (init args H) x s') (hx : x = .normal ∨ x = .ret) (hv : resVals s' af.res = some vs) : ACalls P f args H (tupOf vs) s'.H := by
  unfold readF at ha
  split at ha
  · rename_i fn hf
    exact acalls_of hm hf hc ha hn hb hx hv
  · simp at ha

end Go.AX
