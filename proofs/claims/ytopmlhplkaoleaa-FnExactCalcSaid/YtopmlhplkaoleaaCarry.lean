/-
  'go_carry hb': behind a call whose contract ended in 'hb : Below W.heap.size W w1', every cell fact and size fact of the context is laid anew in w1 (the old one goes).
-/
import Derived.WalkKit
import Derived.WalkLawsBesides
import Derived.WalkSpells
import Derived.Handy
import Derived.Test.YtopmlhplkaoleaaB
namespace Go.Proofs.Ytopmlhplkaoleaa
open Go Go.RowKit
open Lean Elab Tactic Meta

theorem carry_cell {W w1 : World} (hb : Below W.heap.size W w1) {b o : Nat} {r : Option Value} (hc : W.cell? ⟨b, o, none⟩ = r) (hlt : b < W.heap.size) : w1.cell? ⟨b, o, none⟩ = r :=
  ((bcell hb).1 b o hlt).trans hc
theorem carry_frozen {W w1 : World} (hb : Below W.heap.size W w1) {b o : Nat} {r : Bool} (hc : W.frozen? ⟨b, o, none⟩ = r) (hlt : b < W.heap.size) : w1.frozen? ⟨b, o, none⟩ = r :=
  ((bcell hb).2 b o hlt).trans hc
theorem carry_size {W w1 : World} (hb : Below W.heap.size W w1) {b : Nat} (hlt : b < W.heap.size) : b < w1.heap.size := Nat.lt_of_lt_of_le hlt hb.size

theorem kept3d {w w1 : World} {t : TypeId} {x y z : Value} (hb : Below (w.alloc (.cells #[x, y, z] t)).drew.heap.size (w.alloc (.cells #[x, y, z] t)).drew w1) :
    w1.cell? ⟨w.heap.size, 0, none⟩ = some x ∧ w1.cell? ⟨w.heap.size, 1, none⟩ = some y ∧ w1.cell? ⟨w.heap.size, 2, none⟩ = some z ∧
    w1.frozen? ⟨w.heap.size, 0, none⟩ = false ∧ w1.frozen? ⟨w.heap.size, 1, none⟩ = false ∧ w1.frozen? ⟨w.heap.size, 2, none⟩ = false ∧ w.heap.size < w1.heap.size :=
  kept3 (w := w) (t := t) (x := x) (y := y) (z := z) (below_via (Below.drew (Below.refl _ _)) hb)

elab "go_carry " h:ident : tactic => withMainContext do
  let lctx ← getLCtx
  let mut gone : Array FVarId := #[]
  for d in lctx do
    if d.isImplementationDetail then continue
    let t := (← instantiateMVars d.type).consumeMData
    let tac? ← (do
      if t.isAppOfArity ``Eq 3 then
        let l := t.getAppArgs[1]!
        let r := t.getAppArgs[2]!
        if l.isAppOfArity ``World.cell? 2 || l.isAppOfArity ``World.frozen? 2 then
          let p := l.getAppArgs[1]!
          if p.isAppOfArity ``Addr.mk 3 then
            let bS ← Term.exprToSyntax p.getAppArgs[0]!
            let oS ← Term.exprToSyntax p.getAppArgs[1]!
            let rS ← Term.exprToSyntax r
            let f := mkIdent (if l.isAppOf ``World.cell? then ``carry_cell else ``carry_frozen)
            return some (← `(tactic| have hcarried := $f $h (b := $bS) (o := $oS) (r := $rS) (by first | assumption | go_simp) (by first | assumption | (simp <;> omega))))
      if t.isAppOfArity ``LT.lt 4 then
        let b := t.getAppArgs[2]!
        let r := t.getAppArgs[3]!
        if r.isAppOf ``Array.size && (r.getAppArgs.back!).isAppOf ``World.heap then
          let bS ← Term.exprToSyntax b
          return some (← `(tactic| have hcarried := carry_size $h (b := $bS) (by first | assumption | (simp <;> omega))))
      return none : TacticM (Option (TSyntax `tactic)))
    match tac? with
    | none => pure ()
    | some tac =>
      let s ← saveState
      try
        Tactic.withoutRecover (Term.withoutErrToSorry (evalTactic tac))
        gone := gone.push d.fvarId
      catch _ => s.restore
  for f in gone do
    match (← getGoals) with
    | g :: rest =>
      let g' ← g.tryClear f
      setGoals (g' :: rest)
    | [] => pure ()
  withMainContext do
    let d ← getLocalDeclFromUserName h.getId
    let t := (← instantiateMVars d.type).consumeMData
    if t.isAppOf ``Below then
      let W := t.getAppArgs[1]!.consumeMData
      if W.isAppOf ``World.alloc then
        let s ← saveState
        try
          evalTactic (← `(tactic| obtain ⟨z0, z1, z2, f0, f1, f2, zs⟩ := kept3 $h))
          if (← getGoals).length != 1 then s.restore
        catch _ => s.restore
      if W.isAppOf ``World.drew then
        let s ← saveState
        if (W.getAppArgs.back!).isAppOf ``World.alloc then
        try
          evalTactic (← `(tactic| obtain ⟨z0, z1, z2, f0, f1, f2, zs⟩ := kept3d $h))
          if (← getGoals).length != 1 then s.restore
        catch _ => s.restore
end Go.Proofs.Ytopmlhplkaoleaa
