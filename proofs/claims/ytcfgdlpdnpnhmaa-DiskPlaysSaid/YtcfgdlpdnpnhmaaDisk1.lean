/- Contracts of package disk: step, file. -/
import Derived.Test.YtcfgdlpdnpnhmaaDisk0
set_option linter.unusedVariables false
set_option linter.unusedSimpArgs false
namespace Go.Proofs.Ytcfgdlpdnpnhmaa
open Go.RowKit Go.Maps

section
variable {w w' : World} {d mp mt : Nat} {D : Dsk}
/-- The disk, two of its numbers being written. -/
theorem IsDisk.setDown (h : IsDisk w d mp mt D) (b : Bool) : IsDisk (w.setCell ⟨d, 2, none⟩ (.bool b)) d mp mt { D with down := b } := by
  have e : Ext [d] w (w.setCell ⟨d, 2, none⟩ (.bool b)) := (Ext.refl _ _).setCell (Or.inl (by simp)) _
  refine ⟨blk_set h.blk 2 _, e.obj h.met (by simpa using Ne.symm h.ne2), ?_⟩
  obtain ⟨es, he, hc, es', c, hb, r⟩ := h.map
  exact ⟨es, he, fun p hp => (hc p hp).ext e (fun k hk => by rw [List.mem_singleton.1 hk]; exact h.nod), es', c, e.obj hb (by simpa using Ne.symm h.ne1), r⟩
theorem IsDisk.setArmed (h : IsDisk w d mp mt D) (b : Int) : IsDisk (w.setCell ⟨d, 3, none⟩ (.int .i64 b)) d mp mt { D with armed := b } := by
  have e : Ext [d] w (w.setCell ⟨d, 3, none⟩ (.int .i64 b)) := (Ext.refl _ _).setCell (Or.inl (by simp)) _
  refine ⟨blk_set h.blk 3 _, e.obj h.met (by simpa using Ne.symm h.ne2), ?_⟩
  obtain ⟨es, he, hc, es', c, hb, r⟩ := h.map
  exact ⟨es, he, fun p hp => (hc p hp).ext e (fun k hk => by rw [List.mem_singleton.1 hk]; exact h.nod), es', c, e.obj hb (by simpa using Ne.symm h.ne1), r⟩
theorem IsDisk.setRoom (h : IsDisk w d mp mt D) (b : Int) : IsDisk (w.setCell ⟨d, 1, none⟩ (.int .i64 b)) d mp mt { D with room := b } := by
  have e : Ext [d] w (w.setCell ⟨d, 1, none⟩ (.int .i64 b)) := (Ext.refl _ _).setCell (Or.inl (by simp)) _
  refine ⟨blk_set h.blk 1 _, e.obj h.met (by simpa using Ne.symm h.ne2), ?_⟩
  obtain ⟨es, he, hc, es', c, hb, r⟩ := h.map
  exact ⟨es, he, fun p hp => (hc p hp).ext e (fun k hk => by rw [List.mem_singleton.1 hk]; exact h.nod), es', c, e.obj hb (by simpa using Ne.symm h.ne1), r⟩
theorem IsDisk.setSteps (h : IsDisk w d mp mt D) (n : Nat) : IsDisk (w.setCell ⟨mt, 0, none⟩ (.int .u64 n)) d mp mt { D with steps := n } := by
  have e : Ext [mt] w (w.setCell ⟨mt, 0, none⟩ (.int .u64 n)) := (Ext.refl _ _).setCell (Or.inl (by simp)) _
  refine ⟨e.obj h.blk (by simpa using h.ne2), h.met.set _, ?_⟩
  obtain ⟨es, he, hc, es', c, hb, r⟩ := h.map
  exact ⟨es, he, fun p hp => (hc p hp).ext e (fun k hk => by rw [List.mem_singleton.1 hk]; exact h.nomt), es', c, e.obj hb (by simpa using h.ne3), r⟩
end

/-- What a call of the disk leaves: the disk, and all else as it was. -/
structure Left (w : World) (d mp mt : Nat) (D : Dsk) (w' : World) : Prop where
  disk : IsDisk w' d mp mt D
  ext : Ext [d, mp, mt] w w'

theorem step_calls (d mp mt : Nat) (D : Dsk) (w : World) (h : IsDisk w d mp mt D) (hs : D.steps < 4611686018427387904) (ha : -1 ≤ D.armed) (ha2 : D.armed ≤ 9223372036854775807) :
    Calls Try.prog 102 #[.pointer (some ⟨d, 0, none⟩)] w fun e w' => e = .returned (.int .i64 D.step.2) ∧ Left w d mp mt D.step.1 w' := by
  have c4 := h.c4
  have hm := h.met
  have hs' : (D.steps : Int) < 4611686018427387904 := by omega
  -- behind the count
  obtain ⟨w1, hw1⟩ : ∃ w1, w1 = (w.alloc (.cells #[.int .u64 1] 24)).setCell ⟨mt, 0, none⟩ (.int .u64 ((D.steps : Int) + 1)) := ⟨_, rfl⟩
  have h1 : IsDisk w1 d mp mt { D with steps := D.steps + 1 } := by rw [hw1]; exact (h.alloc _).setSteps (D.steps + 1)
  have e1 : Ext [d, mp, mt] w w1 := by rw [hw1]; exact ((Ext.refl _ _).alloc _).setCell (Or.inl (by simp)) _
  have hadd : Calls Try.prog 137 #[.pointer (some ⟨mt, 0, none⟩), .int .i64 0, .int .u64 1] w fun e w' => e = .returned (.tuple #[.int .u64 ((D.steps : Int) + 1), .int .i64 0]) ∧ w1 = w' :=
    (add_calls mt D.steps w hm (by omega) hs').mono fun e w' ⟨a, b⟩ => ⟨a, by rw [hw1, b]⟩
  have Hadd := Lib.hid hadd
  clear hadd hm hs' hw1
  have c3 := h1.c3
  have f2 := h1.fz 2
  have f3 := h1.fz 3
  have c2 := h1.c2
  by_cases h0 : D.armed = 0
  · have hr : D.step = ({ D with steps := D.steps + 1, down := true, armed := -1 }, 50) := by unfold Dsk.step; rw [if_pos h0]
    rw [hr]
    have HL : Left w d mp mt { D with steps := D.steps + 1, down := true, armed := -1 } ((w1.setCell ⟨d, 2, none⟩ (.bool true)).setCell ⟨d, 3, none⟩ (.int .i64 (-1))) :=
      ⟨(h1.setDown true).setArmed (-1), (e1.setCell (Or.inl (by simp)) _).setCell (Or.inl (by simp)) _⟩
    have c3' : w1.cell? ⟨d, 3, none⟩ = some (.int .i64 0) := by rw [c3]; show some (Value.int .i64 D.armed) = _; rw [h0]
    clear c3 hr h0 h1 e1
    go_enter Try.func102, Try.ntmps102
    go_wp2_with (go_at_call 137; refine Hadd.out.mono ?_; rintro e w' ⟨rfl, rfl⟩)
    go_ret
    exact ⟨rfl, HL⟩
  · by_cases h2 : 0 < D.armed
    · have hr : D.step = ({ D with steps := D.steps + 1, armed := D.armed - 1 }, 0) := by unfold Dsk.step; rw [if_neg h0, if_pos h2]
      rw [hr]
      have HL : Left w d mp mt { D with steps := D.steps + 1, armed := D.armed - 1 } (w1.setCell ⟨d, 3, none⟩ (.int .i64 (D.armed - 1))) := ⟨h1.setArmed _, e1.setCell (Or.inl (by simp)) _⟩
      have h0b : (D.armed == 0) = false := beq_eq_false_iff_ne.2 h0
      clear hr h1 e1 h0
      go_enter Try.func102, Try.ntmps102
      go_wp2_with (go_at_call 137; refine Hadd.out.mono ?_; rintro e w' ⟨rfl, rfl⟩)
      go_ret
      exact ⟨rfl, HL⟩
    · have hr : D.step = ({ D with steps := D.steps + 1 }, 0) := by unfold Dsk.step; rw [if_neg h0, if_neg h2]
      rw [hr]
      have HL : Left w d mp mt { D with steps := D.steps + 1 } w1 := ⟨h1, e1⟩
      have h0b : (D.armed == 0) = false := beq_eq_false_iff_ne.2 h0
      clear hr h1 e1 h0
      go_enter Try.func102, Try.ntmps102
      go_wp2_with (go_at_call 137; refine Hadd.out.mono ?_; rintro e w' ⟨rfl, rfl⟩)
      go_ret
      exact ⟨rfl, HL⟩

end Go.Proofs.Ytcfgdlpdnpnhmaa
