/- Plain laws: what a call of curfewlaw23.do makes of a disk (doOp); it keeps Ok, and takes at most one step. -/
import Derived.Test.YtcfgdlpdnpnhmaaPure4
import Derived.Test.YtcfgdlpdnpnhmaaArgs23
set_option linter.unusedVariables false
set_option linter.unusedSimpArgs false
namespace Go.Proofs.Ytcfgdlpdnpnhmaa
open Go

/-- What a call makes of a disk. -/
def Dsk.doOp (D : Dsk) (o : Opp) : Dsk :=
  if o.kind = 1 then (D.sync o.name.data.toList).1
  else if o.kind = 2 then (D.cut o.name.data.toList o.n).1
  else if o.kind = 3 then (D.remove o.name.data.toList).1
  else if o.kind = 4 then (D.move o.name.data.toList o.to_.data.toList).1
  else if o.kind = 5 then D
  else if o.kind = 6 then (D.arm o.n).1
  else if o.kind = 7 then D.crash o.tears
  else if o.kind = 8 then D.boot
  else if o.kind = 9 then (D.resize o.n).1
  else (D.append o.name.data.toList o.text.data.toList).1
namespace Dsk
theorem Ok.doOp {D : Dsk} (h : D.Ok) (o : Opp) (hn : o.n ≤ 9223372036854775807) : (D.doOp o).Ok := by
  unfold Dsk.doOp
  split
  · exact h.sync _
  split
  · exact h.cut _ _
  split
  · exact h.remove _
  split
  · exact h.move _ _
  split
  · exact h
  split
  · exact h.arm _ hn
  split
  · exact h.crash _
  split
  · exact h.boot
  split
  · exact h.resize _
  · exact h.append _ _
theorem step_steps (D : Dsk) : D.step.1.steps = D.steps + 1 := by unfold Dsk.step; split; rfl; split <;> rfl
theorem le_self (n : Nat) : n ≤ n + 1 := by omega
theorem steps_step (D : Dsk) : D.step.1.steps ≤ D.steps + 1 := by rw [step_steps]; exact Nat.le_refl _
theorem steps_sync (D : Dsk) (n : Bs) : (D.sync n).1.steps ≤ D.steps + 1 := by
  unfold Dsk.sync
  repeat' split
  all_goals first
    | exact le_self D.steps
    | exact steps_step D
theorem steps_cut (D : Dsk) (n : Bs) (k : Int) : (D.cut n k).1.steps ≤ D.steps + 1 := by
  unfold Dsk.cut
  repeat' split
  all_goals first
    | exact le_self D.steps
    | exact steps_step D
theorem steps_remove (D : Dsk) (n : Bs) : (D.remove n).1.steps ≤ D.steps + 1 := by
  unfold Dsk.remove
  repeat' split
  all_goals first
    | exact le_self D.steps
    | exact steps_step D
theorem steps_move (D : Dsk) (n m : Bs) : (D.move n m).1.steps ≤ D.steps + 1 := by
  unfold Dsk.move
  repeat' split
  all_goals first
    | exact le_self D.steps
    | exact steps_step D
theorem steps_append (D : Dsk) (n b : Bs) : (D.append n b).1.steps ≤ D.steps + 1 := by
  unfold Dsk.append
  repeat' split
  all_goals first
    | exact le_self D.steps
    | exact steps_step _
theorem steps_arm (D : Dsk) (k : Int) : (D.arm k).1.steps = D.steps := by unfold Dsk.arm; split; rfl; split <;> rfl
theorem steps_resize (D : Dsk) (k : Int) : (D.resize k).1.steps = D.steps := by unfold Dsk.resize; split; rfl; split <;> rfl
theorem steps_doOp (D : Dsk) (o : Opp) : (D.doOp o).steps ≤ D.steps + 1 := by
  unfold Dsk.doOp
  split
  · exact steps_sync _ _
  split
  · exact steps_cut _ _ _
  split
  · exact steps_remove _ _
  split
  · exact steps_move _ _ _
  split
  · omega
  split
  · rw [steps_arm]; omega
  split
  · show D.steps ≤ _; omega
  split
  · show D.steps ≤ _; omega
  split
  · rw [steps_resize]; omega
  · exact steps_append _ _ _
end Dsk
end Go.Proofs.Ytcfgdlpdnpnhmaa
