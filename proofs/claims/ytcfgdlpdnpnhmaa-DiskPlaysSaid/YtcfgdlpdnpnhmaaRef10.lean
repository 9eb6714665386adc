/- Contract of the document's disk (curfewref23): Same, of like files. -/
import Derived.Test.YtcfgdlpdnpnhmaaRef9
set_option linter.unusedVariables false
set_option linter.unusedSimpArgs false
namespace Go.Proofs.Ytcfgdlpdnpnhmaa
open Go.RowKit Go.Maps

set_option maxRecDepth 100000 in
set_option maxHeartbeats 2000000 in
theorem refsame_calls (A B : Option Addr) (n c d : Nat) (l : List File) (w : World) (ha : RFiles w A n l) (hb : RFiles w B n l) (hn : n ≤ 1048576) :
    Calls Try.prog 36 #[.slice A n c, .slice B n d] w fun e w' => e = .returned (.bool true) ∧ Below w.heap.size w w' := by
  have HA := Lib.hid ha
  have HB := Lib.hid hb
  have hl := Lib.hid ha.1
  clear ha hb
  go_enter Try.func36, Try.ntmps36
  go_wp2
  go_loopw [5] (fun i wr => ∃ (k : Nat), i = .int .i64 k ∧ k ≤ n ∧ Below w.heap.size w wr) (fun i _ => n - (intOf i).toNat)
  case atStart => exact ⟨0, rfl, Nat.zero_le _, Below.refl _ _⟩
  case round =>
    obtain ⟨k, rfl, hkn, hbl⟩ := hrel
    have Hbl := Lib.hid hbl
    clear hbl
    by_cases hlt : k < n
    · have hk : k < l.length := by rw [hl.out]; exact hlt
      obtain ⟨ad, b, o, nm, al, hA, had, q0, q1, q2, e0, e1, z0, z1, en, ea⟩ := (HA.out.below Hbl.out).at2 hk
      obtain ⟨ad', b', o', nm', al', hB, had', q0', q1', q2', e0', e1', z0', z1', en', ea'⟩ := (HB.out.below Hbl.out).at2 hk
      obtain rfl : nm = nm' := by rw [en] at en'; injection en'
      obtain rfl : al = al' := by rw [ea] at ea'; injection ea'
      have hix := fun W => run_file_index ad n c k hlt W
      simp only [had] at hix
      rw [← hA] at hix
      have hix' := fun W => run_file_index ad' n d k hlt W
      simp only [had'] at hix'
      rw [← hB] at hix'
      have hwk : IntKind.i64.wrap ((k : Int) + 1) = (k : Int) + 1 := IntWalk.i64_in _ (by omega)
      clear had hA had' hB e0 e1 z0 z1 en ea e0' e1' z0' z1' en' ea'
      go_wp2
      go_region
      go_wp2
      go_roundw
      case rel => exact ⟨k + 1, by simp, hlt, Hbl.out.drew⟩
      case measure => simp [intOf]; omega
    · have hkn2 : k = n := by omega
      clear hlt
      go_wp2
      go_ret
      exact ⟨rfl, Hbl.out⟩
end Go.Proofs.Ytcfgdlpdnpnhmaa
