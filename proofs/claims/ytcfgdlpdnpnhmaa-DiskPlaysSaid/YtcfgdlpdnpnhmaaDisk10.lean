/- Contracts of package disk: New, torn. -/
import Derived.Test.YtcfgdlpdnpnhmaaDisk9
import Derived.BigRegion
set_option linter.unusedVariables false
set_option linter.unusedSimpArgs false
namespace Go.Proofs.Ytcfgdlpdnpnhmaa
open Go.RowKit Go.Maps Go.WideMaps

/-- What New leaves: a new disk. -/
def Made (w : World) (room : Int) (e : Ending) (w' : World) : Prop :=
  e = .returned (.pointer (some ⟨w.heap.size + 2, 0, none⟩)) ∧ IsDisk w' (w.heap.size + 2) w.heap.size (w.heap.size + 1) (Dsk.new room) ∧ Below w.heap.size w w'

theorem new_calls (room : Int) (w : World) (h0 : 0 ≤ room) (h1 : room ≤ 1048576) :
    Calls Try.prog 27 #[.int .i64 room] w (Made w room) := by
  have hmm := @run_makeMap Try.prog
  go_enter Try.func27, Try.ntmps27
  go_wp2_with (go_at_call 81; refine (meter_new_calls _).mono ?_; rintro e w' ⟨rfl, rfl⟩)
  go_ret
  refine ⟨rfl, ⟨?_, ?_, [], rfl, (fun p hp => by cases hp), ?_⟩, ((((Below.refl _ _).alloc (Nat.le_refl _) _).alloc (by simp) _).alloc (by simp; omega) _)⟩
  · have := blk_new ((w.alloc (.map #[] 0)).alloc (.cells (meterCells 0) 193)) (.cells #[.map (some w.heap.size), .int .i64 room, .bool false, .int .i64 (-1), .pointer (some ⟨w.heap.size + 1, 0, none⟩)] 78)
    rw [show ((w.alloc (.map #[] 0)).alloc (.cells (meterCells 0) 193)).heap.size = w.heap.size + 2 by simp] at this
    exact this
  · have := blk_alloc (blk_new (w.alloc (.map #[] 0)) (.cells (meterCells 0) 193)) (.cells #[.map (some w.heap.size), .int .i64 room, .bool false, .int .i64 (-1), .pointer (some ⟨w.heap.size + 1, 0, none⟩)] 78)
    unfold IsMeter
    simpa [Dsk.new] using this
  · exact ((World.ownsMap_made w Try.prog 9 RV).alloc _).alloc _

theorem new_no (room : Int) (w : World) (h : room < 0 ∨ 1048576 < room) :
    Calls Try.prog 27 #[.int .i64 room] w fun e w' => e = .returned (.pointer none) ∧ w = w' := by
  by_cases h0 : room < 0
  · go_enter Try.func27, Try.ntmps27
    go_wp2
    go_ret
    exact ⟨rfl, rfl⟩
  · have h1 : 1048576 < room := by omega
    go_enter Try.func27, Try.ntmps27
    go_wp2
    go_ret
    exact ⟨rfl, rfl⟩

/-- A row of the call's own, its cells. -/
theorem own_cell {w : World} {base n : Nat} {g cap : Nat} {l : Bs} (h : w.ownsRow base 5 1 (.slice (some ⟨g, 0, none⟩) n cap) n (vals l)) (j : Nat) (hj : j < n) :
    w.cell? ⟨g, j, none⟩ = some (.int .u8 (u8 l j)) ∧ w.frozen? ⟨g, j, none⟩ = false := by
  have hl : l.length = n := by have := h.1; rw [vals_length] at this; omega
  have h1 := h.cells (g := g) rfl j _ (vals_get l j (by omega))
  rw [add0, Nat.zero_add] at h1
  refine ⟨h1, ?_⟩
  rcases h.2 with ⟨e, _⟩ | ⟨g', cap', cur, e, _, hb, _⟩
  · cases e
  · cases e
    exact blk_frozen hb j
theorem own_set {w : World} {base n : Nat} {g cap : Nat} {l : Bs} (h : w.ownsRow base 5 1 (.slice (some ⟨g, 0, none⟩) n cap) n (vals l)) (j : Nat) (hj : j < n) (b : UInt8) :
    (w.setCell ⟨g, j, none⟩ (.int .u8 (b.toNat : Int))).ownsRow base 5 1 (.slice (some ⟨g, 0, none⟩) n cap) n (vals (l.set j b)) := by
  have hl : l.length = n := by have := h.1; rw [vals_length] at this; omega
  refine ⟨by rw [vals_length, List.length_set]; omega, ?_⟩
  rcases h.2 with ⟨e, _⟩ | ⟨g', cap', cur, e, hbase, hb, hnc, hcm, hcs, htake⟩
  · cases e
  · cases e
    refine Or.inr ⟨g, cap, _, rfl, hbase, blk_set hb j _, hnc, hcm, by simpa using hcs, ?_⟩
    rw [Array.toList_setIfInBounds, List.take_set, htake]
    simp [vals, List.map_set]

theorem xor_turn (l : Bs) (j k : Nat) : bits BinOp.xor IntKind.u8 (u8 l j) ((k : Int) % 256) = ((l.getD j 0 ^^^ UInt8.ofNat k).toNat : Int) := by
  have h := (l.getD j 0).toNat_lt
  have e : ((k : Int) % 256) = ((k % 256 : Nat) : Int) := by omega
  unfold u8
  rw [e, u8_xor_nat _ _ (by omega) (by omega), UInt8.toNat_xor, UInt8.toNat_ofNat']

set_option maxRecDepth 100000 in
theorem torn_calls (A : Option Addr) (n c : Nat) (l : Bs) (keep turn : Nat) (w : World) (hb : Bts w A n l) (hn : n ≤ 1048576) (hnc : n ≤ c) (hA : A = none → c = 0) (hk : keep < 65536) (ht : turn < 4294967296) :
    Calls Try.prog 98 #[.slice A n c, .agg #[.int .u16 keep, .int .u32 turn]] w (Cloned w (Dsk.torn l (keep, turn)).length (Dsk.torn l (keep, turn))) := by
  have hlen := hb.1
  obtain ⟨k, ek0⟩ : ∃ k, k = keep % (n + 1) := ⟨_, rfl⟩
  have hkl : k ≤ n := by have := Nat.mod_lt keep (show 0 < n + 1 by omega); omega
  have hsl := run_cut_to A n c k (by omega)
  have ek : (keep : Int) % ((n : Int) + 1) = (k : Int) := by rw [ek0]; simp
  have HA := Lib.hid hA
  have htorn : Dsk.torn l (keep, turn) = if 3 ≤ k then
      (((l.take k).set (k - 3) ((l.take k).getD (k - 3) 0 ^^^ UInt8.ofNat (turn / 65536))).set (k - 2) ((l.take k).getD (k - 2) 0 ^^^ UInt8.ofNat (turn / 256))).set (k - 1) ((l.take k).getD (k - 1) 0 ^^^ UInt8.ofNat turn)
      else l.take k := by
    have h2 : (l.take k).length = k := by rw [List.length_take, hlen]; omega
    unfold Dsk.torn
    dsimp only
    rw [hlen, ← ek0, h2]
  have hb1 := (hb.below ((Below.refl _ _).alloc (Nat.le_refl _) (.cells #[.int .u16 keep, .int .u32 turn] 142))).take k hkl
  clear hA hlen hb ek0
  by_cases h3 : 3 ≤ k
  · rw [if_pos h3] at htorn
    have Ht := Lib.hid htorn
    clear htorn
    go_enter Try.func98, Try.ntmps98
    go_wp2_with (first
      | (go_at_call 80; refine (clone_calls1 A k c _ _ hb1 (by omega) HA.out (by omega)).mono ?_; rintro e w2 ⟨g, cc, rfl, hown, hg1, hg2, hb2⟩))
    obtain ⟨j, rfl⟩ : ∃ j, k = j + 3 := ⟨k - 3, by omega⟩
    have x0 : IntKind.i64.wrap (j : Int) = (j : Int) := IntWalk.i64_in _ (by omega)
    have x1 : IntKind.i64.wrap ((j : Int) + 1) = (j : Int) + 1 := IntWalk.i64_in _ (by omega)
    have x2 : IntKind.i64.wrap ((j : Int) + 2) = (j : Int) + 2 := IntWalk.i64_in _ (by omega)
    have y0 : IntKind.i64.wrap 0 = 0 := by decide
    have y8 : IntKind.i64.wrap 8 = 8 := by decide
    have y16 : IntKind.i64.wrap 16 = 16 := by decide
    have i0 := fun W => (run_index ⟨g, 0, none⟩ (j + 3) cc (j : Int) (by omega) (by omega) W).trans (by rw [add0, Int.toNat_natCast, Nat.zero_add])
    have i1 := fun W => (run_index ⟨g, 0, none⟩ (j + 3) cc ((j : Int) + 1) (by omega) (by omega) W).trans (by rw [add0, show ((j : Int) + 1).toNat = j + 1 by omega, Nat.zero_add])
    have i2 := fun W => (run_index ⟨g, 0, none⟩ (j + 3) cc ((j : Int) + 2) (by omega) (by omega) W).trans (by rw [add0, show ((j : Int) + 2).toNat = j + 2 by omega, Nat.zero_add])
    have hbx2 := (hb2.block w.heap.size (by simp)).trans (blk_new w _)
    refine wp_loop_rounds 4 ?_
    rw [rounds_succ]
    go_wp2
    have t01 := blk_cell hbx2 1
    obtain ⟨u0, z0⟩ := own_cell hown (j) (by omega)
    go_still_tail 16, (by kernel_rfl)
    change wpList _ _ _ _ _ w2.drew
    go_wp2_with fail
    clear t01 u0 z0
    obtain ⟨w3, ew3⟩ : ∃ w3, w3 = (w2.setCell ⟨g, j, none⟩ (.int .u8 (bits BinOp.xor IntKind.u8 (u8 (l.take (j + 3)) (j)) ((turn : Int) / 65536 % 256)))).drew := ⟨_, rfl⟩
    rw [← ew3]
    rw [show (turn : Int) / 65536 = ((turn / 65536 : Nat) : Int) by simp, xor_turn] at ew3
    obtain ⟨l1, el1⟩ : ∃ l1, l1 = (l.take (j + 3)).set (j) ((l.take (j + 3)).getD (j) 0 ^^^ UInt8.ofNat (turn / 65536)) := ⟨_, rfl⟩
    have hown3 : w3.ownsRow (w.alloc (.cells #[.int .u16 keep, .int .u32 turn] 142)).heap.size 5 1 (.slice (some ⟨g, 0, none⟩) (j + 3) cc) (j + 3) (vals l1) := by
      rw [ew3, el1]
      exact own_set hown (j) (by omega) _
    have hb3 : Below (w.alloc (.cells #[.int .u16 keep, .int .u32 turn] 142)).heap.size (w.alloc (.cells #[.int .u16 keep, .int .u32 turn] 142)) w3 := by
      rw [ew3]
      exact (hb2.setCell hg1 _).drew
    have hbx3 := (hb3.block w.heap.size (by simp)).trans (blk_new w _)
    have E1 := Lib.hid el1
    clear ew3 hown hb2 hbx2 el1
    rw [rounds_succ]
    go_wp2
    have t11 := blk_cell hbx3 1
    obtain ⟨u1, z1⟩ := own_cell hown3 (j + 1) (by omega)
    go_still_tail 16, (by kernel_rfl)
    change wpList _ _ _ _ _ w3.drew
    go_wp2_with fail
    clear t11 u1 z1
    obtain ⟨w4, ew4⟩ : ∃ w4, w4 = (w3.setCell ⟨g, j + 1, none⟩ (.int .u8 (bits BinOp.xor IntKind.u8 (u8 l1 (j + 1)) ((turn : Int) / 256 % 256)))).drew := ⟨_, rfl⟩
    rw [← ew4]
    rw [show (turn : Int) / 256 = ((turn / 256 : Nat) : Int) by simp, xor_turn] at ew4
    obtain ⟨l2, el2⟩ : ∃ l2, l2 = l1.set (j + 1) (l1.getD (j + 1) 0 ^^^ UInt8.ofNat (turn / 256)) := ⟨_, rfl⟩
    have hown4 : w4.ownsRow (w.alloc (.cells #[.int .u16 keep, .int .u32 turn] 142)).heap.size 5 1 (.slice (some ⟨g, 0, none⟩) (j + 3) cc) (j + 3) (vals l2) := by
      rw [ew4, el2]
      exact own_set hown3 (j + 1) (by omega) _
    have hb4 : Below (w.alloc (.cells #[.int .u16 keep, .int .u32 turn] 142)).heap.size (w.alloc (.cells #[.int .u16 keep, .int .u32 turn] 142)) w4 := by
      rw [ew4]
      exact (hb3.setCell hg1 _).drew
    have hbx4 := (hb4.block w.heap.size (by simp)).trans (blk_new w _)
    have E2 := Lib.hid el2
    clear ew4 hown3 hb3 hbx3 el2
    rw [rounds_succ]
    go_wp2
    have t21 := blk_cell hbx4 1
    obtain ⟨u2, z2⟩ := own_cell hown4 (j + 2) (by omega)
    go_still_tail 16, (by kernel_rfl)
    change wpList _ _ _ _ _ w4.drew
    go_wp2_with fail
    clear t21 u2 z2
    obtain ⟨w5, ew5⟩ : ∃ w5, w5 = (w4.setCell ⟨g, j + 2, none⟩ (.int .u8 (bits BinOp.xor IntKind.u8 (u8 l2 (j + 2)) ((turn : Int) % 256)))).drew := ⟨_, rfl⟩
    rw [← ew5]
    rw [show (turn : Int) = ((turn : Nat) : Int) by simp, xor_turn] at ew5
    obtain ⟨l3, el3⟩ : ∃ l3, l3 = l2.set (j + 2) (l2.getD (j + 2) 0 ^^^ UInt8.ofNat (turn)) := ⟨_, rfl⟩
    have hown5 : w5.ownsRow (w.alloc (.cells #[.int .u16 keep, .int .u32 turn] 142)).heap.size 5 1 (.slice (some ⟨g, 0, none⟩) (j + 3) cc) (j + 3) (vals l3) := by
      rw [ew5, el3]
      exact own_set hown4 (j + 2) (by omega) _
    have hb5 : Below (w.alloc (.cells #[.int .u16 keep, .int .u32 turn] 142)).heap.size (w.alloc (.cells #[.int .u16 keep, .int .u32 turn] 142)) w5 := by
      rw [ew5]
      exact (hb4.setCell hg1 _).drew
    have hbx5 := (hb5.block w.heap.size (by simp)).trans (blk_new w _)
    have E3 := Lib.hid el3
    clear ew5 hown4 hb4 hbx4 el3
    rw [rounds_succ]
    go_wp2
    go_ret
    have hfin : Dsk.torn l (keep, turn) = l3 := by
      rw [Ht.out, E3.out, E2.out, E1.out, show j + 3 - 3 = j by omega, show j + 3 - 2 = j + 1 by omega, show j + 3 - 1 = j + 2 by omega]
      simp [List.getD_eq_getElem?_getD, List.getElem?_set]
    rw [hfin]
    have hl3 : l3.length = j + 3 := by have := hown5.1; rw [vals_length] at this; omega
    rw [hl3]
    exact ⟨_, cc, rfl, hown5.rebase (by simp), ((Below.refl _ _).alloc (Nat.le_refl _) _).trans (hb5.mono (by simp))⟩
  · rw [if_neg h3] at htorn
    rw [htorn]
    have hl3 : (l.take k).length = k := hb1.1
    rw [hl3]
    have hk3 : k < 3 := by omega
    clear htorn hl3 h3
    go_enter Try.func98, Try.ntmps98
    go_wp2_with (first
      | (go_at_call 80; refine (clone_calls A k c _ _ hb1 (by omega) HA.out).mono ?_; rintro e w2 ⟨A2, cc, rfl, hown, hb2⟩))
    go_ret
    exact ⟨A2, cc, rfl, hown.rebase (by simp), ((Below.refl _ _).alloc (Nat.le_refl _) _).trans (hb2.mono (by simp))⟩

end Go.Proofs.Ytcfgdlpdnpnhmaa
