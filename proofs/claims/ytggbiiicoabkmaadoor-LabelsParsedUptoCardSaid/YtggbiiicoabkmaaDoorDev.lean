import Derived.Test.YtggbiiicoabkmaaDoorMore
open Lean Elab Tactic Meta
namespace FlDevNS
open Go Go.Fl
partial def flat (e : Lean.Expr) : MetaM (List Lean.Expr) := do
  match e.getAppFnArgs with
  | (``List.cons, #[_, x, r]) => return x :: (← flat r)
  | (``List.toArray, #[_, l]) => flat l
  | _ => return []
elab "dbg" : tactic => do
  let mut n : Nat := 0
  for g in (← getGoals) do
    n := n + 1
    g.withContext do
    let t := (← instantiateMVars (← g.getType)).consumeMData
    let mut hyps : Array MessageData := #[]
    for d in ← getLCtx do
      if d.isImplementationDetail then continue
      if (← isProp d.type) && (toString (← ppExpr d.type)).length < 300 then hyps := hyps.push m!"{d.userName} : {d.type}"
    let hy := MessageData.joinSep hyps.toList "\n  "
    match t.getAppFnArgs with
    | (``Ops, #[_, _, l, _, e, hs]) =>
      let ls ← flat l
      let es ← flat e
      let hd := match ls with | o :: _ => m!"{o.getAppArgs[0]!} := {o.getAppArgs[1]!} guard {o.getAppArgs[5]!}" | [] => m!"nil"
      logInfo m!"GOAL {n} OPS {hd}\n env {MessageData.joinSep ((es.take 5).map toMessageData) m!", "} ({es.length})\n hs {hs}\n  {hy}"
    | (``Run, #[_, k, e, hs]) =>
      let ks ← flat k
      let es ← flat e
      let hd := match ks with | o :: _ => (if o.isAppOf ``Item.code then m!"code {(o.getAppArgs[0]!).getAppFn} {if (o.getAppArgs[0]!).isAppOf ``Code.cond then (o.getAppArgs[0]!).getAppArgs[0]! else mkNatLit 0}" else m!"{o.getAppFn}") | [] => m!"nil"
      logInfo m!"GOAL {n} RUN {hd} (todo {ks.length})\n env {MessageData.joinSep ((es.take 5).map toMessageData) m!", "} ({es.length})\n hs {hs}\n  {hy}"
    | _ => logInfo m!"GOAL {n}\n  {hy}\n⊢ {t}"
end FlDevNS
