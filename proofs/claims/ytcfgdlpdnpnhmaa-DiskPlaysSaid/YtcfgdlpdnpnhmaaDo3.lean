/- Contract of curfewlaw23.do, whatever the call; a slice of calls that came in. -/
import Derived.Test.YtcfgdlpdnpnhmaaDo2
import Derived.Test.YtcfgdlpdnpnhmaaPure5
set_option linter.unusedVariables false
set_option linter.unusedSimpArgs false
namespace Go.Proofs.Ytcfgdlpdnpnhmaa
open Go.RowKit Go.Maps

theorem do_calls (d mp mt : Nat) (D : Dsk) (A : Option Addr) (n c : Nat) (o : Opp) (At : Option Addr) (m ct : Nat) (w : World) (h : IsDisk w d mp mt D) (hr : RFiles w A n D.files) (hnc : n ≤ c) (hok : D.Ok) (hst : D.steps < 4611686018427387904) (hT : Tears w At m o.tears) (hmc : m ≤ ct) (hl : lightOp o = true) :
    Calls Try.prog 30 #[.pointer (some ⟨d, 0, none⟩), refV D A n c, .agg #[.int .i64 o.kind, .int .i64 o.n, .string o.name, .string o.to_, .string o.text, .slice At m ct]] w (DoGives w d mp mt (D.doOp o)) := by
  simp only [lightOp, Bool.and_eq_true, decide_eq_true_eq] at hl
  obtain ⟨l1, l2, l3, l4⟩ := hl
  have hm : m ≤ 1048000 := by have := hT.1; omega
  obtain ⟨kd, on, nm, to_, tx, ts⟩ := o
  dsimp only at *
  unfold Dsk.doOp
  dsimp only
  by_cases k1 : kd = 1
  · subst k1; exact do_sync d mp mt D A n c on nm to_ tx At m ct w h hr hnc hok hst (by omega) (by omega) (by omega)
  rw [if_neg k1]
  by_cases k2 : kd = 2
  · subst k2; exact do_cut d mp mt D A n c on nm to_ tx At m ct w h hr hnc hok hst (by omega) (by omega) (by omega)
  rw [if_neg k2]
  by_cases k3 : kd = 3
  · subst k3; exact do_remove d mp mt D A n c on nm to_ tx At m ct w h hr hnc hok hst (by omega) (by omega) (by omega)
  rw [if_neg k3]
  by_cases k4 : kd = 4
  · subst k4; exact do_move d mp mt D A n c on nm to_ tx At m ct w h hr hnc hok hst (by omega) (by omega) (by omega)
  rw [if_neg k4]
  by_cases k5 : kd = 5
  · subst k5; exact do_read d mp mt D A n c on nm to_ tx At m ct w h hr hnc hok (by omega)
  rw [if_neg k5]
  by_cases k6 : kd = 6
  · subst k6; exact do_arm d mp mt D A n c on nm to_ tx At m ct w h hr hnc hok hst (by omega) (by omega) (by omega)
  rw [if_neg k6]
  by_cases k7 : kd = 7
  · subst k7; exact do_crash d mp mt D A n c on nm to_ tx At m ct ts w h hr hnc hok hT hmc hm
  rw [if_neg k7]
  by_cases k8 : kd = 8
  · subst k8; exact do_boot d mp mt D A n c on nm to_ tx At m ct w h hr hnc hok hst (by omega) (by omega) (by omega)
  rw [if_neg k8]
  by_cases k9 : kd = 9
  · subst k9; exact do_resize d mp mt D A n c on nm to_ tx At m ct w h hr hnc hok hst (by omega) (by omega) (by omega)
  rw [if_neg k9]
  exact do_append d mp mt D A n c kd on nm to_ tx At m ct w h hr hnc hok hst (by omega) (by omega) (by omega) (beq_false_of_ne k1) (beq_false_of_ne k2) (beq_false_of_ne k3) (beq_false_of_ne k4) (beq_false_of_ne k5) (beq_false_of_ne k6) (beq_false_of_ne k7) (beq_false_of_ne k8) (beq_false_of_ne k9)

end Go.Proofs.Ytcfgdlpdnpnhmaa
