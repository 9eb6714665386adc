/- Contracts and words (several texts merged by wip/merge.py). Contracts of package disk: New, torn. -/
import Derived.Test.YtcfgdlpdnpnhmaaSkAH
import Derived.BigRegion
import Derived.Test.YtcfgdlpdnpnhmaaSkAA
set_option linter.unusedVariables false
set_option linter.unusedSimpArgs false
namespace Go.Proofs.Ytcfgdlpdnpnhmaa
open Go.RowKit Go.Maps Go.WideMaps

/-- What New leaves: a new disk. -/
def Made (w : World) (room : Int) (e : Ending) (w' : World) : Prop :=
  e = .returned (.pointer (some ⟨w.heap.size + 2, 0, none⟩)) ∧ IsDisk w' (w.heap.size + 2) w.heap.size (w.heap.size + 1) (Dsk.new room) ∧ Below w.heap.size w w'

theorem new_calls (room : Int) (w : World) (h0 : 0 ≤ room) (h1 : room ≤ 1048576) :
    Calls Try.prog 27 #[.int .i64 room] w (Made w room) := by
  have hmm := @run_makeMap Try.prog
  go_enter Try.func27, Try.ntmps27
  go_wp2_with (go_at_call 81; refine (meter_new_calls _).mono ?_; rintro e w' ⟨rfl, rfl⟩)
  go_ret
  refine ⟨rfl, ⟨?_, ?_, [], rfl, (fun p hp => by cases hp), ?_⟩, ((((Below.refl _ _).alloc (Nat.le_refl _) _).alloc (by simp) _).alloc (by simp; omega) _)⟩
  · have := blk_new ((w.alloc (.map #[] 0)).alloc (.cells (meterCells 0) 193)) (.cells #[.map (some w.heap.size), .int .i64 room, .bool false, .int .i64 (-1), .pointer (some ⟨w.heap.size + 1, 0, none⟩)] 78)
    rw [show ((w.alloc (.map #[] 0)).alloc (.cells (meterCells 0) 193)).heap.size = w.heap.size + 2 by simp] at this
    exact this
  · have := blk_alloc (blk_new (w.alloc (.map #[] 0)) (.cells (meterCells 0) 193)) (.cells #[.map (some w.heap.size), .int .i64 room, .bool false, .int .i64 (-1), .pointer (some ⟨w.heap.size + 1, 0, none⟩)] 78)
    unfold IsMeter
    simpa [Dsk.new] using this
  · exact ((World.ownsMap_made w Try.prog 9 RV).alloc _).alloc _

theorem new_no (room : Int) (w : World) (h : room < 0 ∨ 1048576 < room) :
    Calls Try.prog 27 #[.int .i64 room] w fun e w' => e = .returned (.pointer none) ∧ w = w' := by
  by_cases h0 : room < 0
  · go_enter Try.func27, Try.ntmps27
    go_wp2
    go_ret
    exact ⟨rfl, rfl⟩
  · have h1 : 1048576 < room := by omega
    go_enter Try.func27, Try.ntmps27
    go_wp2
    go_ret
    exact ⟨rfl, rfl⟩

/-- A row of the call's own, its cells. -/
theorem own_cell {w : World} {base n : Nat} {g cap : Nat} {l : Bs} (h : w.ownsRow base 5 1 (.slice (some ⟨g, 0, none⟩) n cap) n (vals l)) (j : Nat) (hj : j < n) :
    w.cell? ⟨g, j, none⟩ = some (.int .u8 (u8 l j)) ∧ w.frozen? ⟨g, j, none⟩ = false := by
  have hl : l.length = n := by have := h.1; rw [vals_length] at this; omega
  have h1 := h.cells (g := g) rfl j _ (vals_get l j (by omega))
  rw [add0, Nat.zero_add] at h1
  refine ⟨h1, ?_⟩
  rcases h.2 with ⟨e, _⟩ | ⟨g', cap', cur, e, _, hb, _⟩
  · cases e
  · cases e
    exact blk_frozen hb j
theorem own_set {w : World} {base n : Nat} {g cap : Nat} {l : Bs} (h : w.ownsRow base 5 1 (.slice (some ⟨g, 0, none⟩) n cap) n (vals l)) (j : Nat) (hj : j < n) (b : UInt8) :
    (w.setCell ⟨g, j, none⟩ (.int .u8 (b.toNat : Int))).ownsRow base 5 1 (.slice (some ⟨g, 0, none⟩) n cap) n (vals (l.set j b)) := by
  have hl : l.length = n := by have := h.1; rw [vals_length] at this; omega
  refine ⟨by rw [vals_length, List.length_set]; omega, ?_⟩
  rcases h.2 with ⟨e, _⟩ | ⟨g', cap', cur, e, hbase, hb, hnc, hcm, hcs, htake⟩
  · cases e
  · cases e
    refine Or.inr ⟨g, cap, _, rfl, hbase, blk_set hb j _, hnc, hcm, by simpa using hcs, ?_⟩
    rw [Array.toList_setIfInBounds, List.take_set, htake]
    simp [vals, List.map_set]

theorem xor_turn (l : Bs) (j k : Nat) : bits BinOp.xor IntKind.u8 (u8 l j) ((k : Int) % 256) = ((l.getD j 0 ^^^ UInt8.ofNat k).toNat : Int) := by
  have h := (l.getD j 0).toNat_lt
  have e : ((k : Int) % 256) = ((k % 256 : Nat) : Int) := by omega
  unfold u8
  rw [e, u8_xor_nat _ _ (by omega) (by omega), UInt8.toNat_xor, UInt8.toNat_ofNat']

set_option maxRecDepth 100000 in
theorem torn_calls (A : Option Addr) (n c : Nat) (l : Bs) (keep turn : Nat) (w : World) (hb : Bts w A n l) (hn : n ≤ 1048576) (hnc : n ≤ c) (hA : A = none → c = 0) (hk : keep < 65536) (ht : turn < 4294967296) :
    Calls Try.prog 98 #[.slice A n c, .agg #[.int .u16 keep, .int .u32 turn]] w (Cloned w (Dsk.torn l (keep, turn)).length (Dsk.torn l (keep, turn))) := by
  have hlen := hb.1
  obtain ⟨k, ek0⟩ : ∃ k, k = keep % (n + 1) := ⟨_, rfl⟩
  have hkl : k ≤ n := by have := Nat.mod_lt keep (show 0 < n + 1 by omega); omega
  have hsl := run_cut_to A n c k (by omega)
  have ek : (keep : Int) % ((n : Int) + 1) = (k : Int) := by rw [ek0]; simp
  have HA := Lib.hid hA
  have htorn : Dsk.torn l (keep, turn) = if 3 ≤ k then
      (((l.take k).set (k - 3) ((l.take k).getD (k - 3) 0 ^^^ UInt8.ofNat (turn / 65536))).set (k - 2) ((l.take k).getD (k - 2) 0 ^^^ UInt8.ofNat (turn / 256))).set (k - 1) ((l.take k).getD (k - 1) 0 ^^^ UInt8.ofNat turn)
      else l.take k := by
    have h2 : (l.take k).length = k := by rw [List.length_take, hlen]; omega
    unfold Dsk.torn
    dsimp only
    rw [hlen, ← ek0, h2]
  have hb1 := (hb.below ((Below.refl _ _).alloc (Nat.le_refl _) (.cells #[.int .u16 keep, .int .u32 turn] 142))).take k hkl
  clear hA hlen hb ek0
  by_cases h3 : 3 ≤ k
  · rw [if_pos h3] at htorn
    have Ht := Lib.hid htorn
    clear htorn
    go_enter Try.func98, Try.ntmps98
    go_wp2_with (first
      | (go_at_call 80; refine (clone_calls1 A k c _ _ hb1 (by omega) HA.out (by omega)).mono ?_; rintro e w2 ⟨g, cc, rfl, hown, hg1, hg2, hb2⟩))
    obtain ⟨j, rfl⟩ : ∃ j, k = j + 3 := ⟨k - 3, by omega⟩
    have x0 : IntKind.i64.wrap (j : Int) = (j : Int) := IntWalk.i64_in _ (by omega)
    have x1 : IntKind.i64.wrap ((j : Int) + 1) = (j : Int) + 1 := IntWalk.i64_in _ (by omega)
    have x2 : IntKind.i64.wrap ((j : Int) + 2) = (j : Int) + 2 := IntWalk.i64_in _ (by omega)
    have y0 : IntKind.i64.wrap 0 = 0 := by decide
    have y8 : IntKind.i64.wrap 8 = 8 := by decide
    have y16 : IntKind.i64.wrap 16 = 16 := by decide
    have i0 := fun W => (run_index ⟨g, 0, none⟩ (j + 3) cc (j : Int) (by omega) (by omega) W).trans (by rw [add0, Int.toNat_natCast, Nat.zero_add])
    have i1 := fun W => (run_index ⟨g, 0, none⟩ (j + 3) cc ((j : Int) + 1) (by omega) (by omega) W).trans (by rw [add0, show ((j : Int) + 1).toNat = j + 1 by omega, Nat.zero_add])
    have i2 := fun W => (run_index ⟨g, 0, none⟩ (j + 3) cc ((j : Int) + 2) (by omega) (by omega) W).trans (by rw [add0, show ((j : Int) + 2).toNat = j + 2 by omega, Nat.zero_add])
    have hbx2 := (hb2.block w.heap.size (by simp)).trans (blk_new w _)
    refine wp_loop_rounds 4 ?_
    rw [rounds_succ]
    go_wp2
    have t01 := blk_cell hbx2 1
    obtain ⟨u0, z0⟩ := own_cell hown (j) (by omega)
    go_still_tail 16, (by kernel_rfl)
    change wpList _ _ _ _ _ w2.drew
    go_wp2_with fail
    clear t01 u0 z0
    obtain ⟨w3, ew3⟩ : ∃ w3, w3 = (w2.setCell ⟨g, j, none⟩ (.int .u8 (bits BinOp.xor IntKind.u8 (u8 (l.take (j + 3)) (j)) ((turn : Int) / 65536 % 256)))).drew := ⟨_, rfl⟩
    rw [← ew3]
    rw [show (turn : Int) / 65536 = ((turn / 65536 : Nat) : Int) by simp, xor_turn] at ew3
    obtain ⟨l1, el1⟩ : ∃ l1, l1 = (l.take (j + 3)).set (j) ((l.take (j + 3)).getD (j) 0 ^^^ UInt8.ofNat (turn / 65536)) := ⟨_, rfl⟩
    have hown3 : w3.ownsRow (w.alloc (.cells #[.int .u16 keep, .int .u32 turn] 142)).heap.size 5 1 (.slice (some ⟨g, 0, none⟩) (j + 3) cc) (j + 3) (vals l1) := by
      rw [ew3, el1]
      exact own_set hown (j) (by omega) _
    have hb3 : Below (w.alloc (.cells #[.int .u16 keep, .int .u32 turn] 142)).heap.size (w.alloc (.cells #[.int .u16 keep, .int .u32 turn] 142)) w3 := by
      rw [ew3]
      exact (hb2.setCell hg1 _).drew
    have hbx3 := (hb3.block w.heap.size (by simp)).trans (blk_new w _)
    have E1 := Lib.hid el1
    clear ew3 hown hb2 hbx2 el1
    rw [rounds_succ]
    go_wp2
    have t11 := blk_cell hbx3 1
    obtain ⟨u1, z1⟩ := own_cell hown3 (j + 1) (by omega)
    go_still_tail 16, (by kernel_rfl)
    change wpList _ _ _ _ _ w3.drew
    go_wp2_with fail
    clear t11 u1 z1
    obtain ⟨w4, ew4⟩ : ∃ w4, w4 = (w3.setCell ⟨g, j + 1, none⟩ (.int .u8 (bits BinOp.xor IntKind.u8 (u8 l1 (j + 1)) ((turn : Int) / 256 % 256)))).drew := ⟨_, rfl⟩
    rw [← ew4]
    rw [show (turn : Int) / 256 = ((turn / 256 : Nat) : Int) by simp, xor_turn] at ew4
    obtain ⟨l2, el2⟩ : ∃ l2, l2 = l1.set (j + 1) (l1.getD (j + 1) 0 ^^^ UInt8.ofNat (turn / 256)) := ⟨_, rfl⟩
    have hown4 : w4.ownsRow (w.alloc (.cells #[.int .u16 keep, .int .u32 turn] 142)).heap.size 5 1 (.slice (some ⟨g, 0, none⟩) (j + 3) cc) (j + 3) (vals l2) := by
      rw [ew4, el2]
      exact own_set hown3 (j + 1) (by omega) _
    have hb4 : Below (w.alloc (.cells #[.int .u16 keep, .int .u32 turn] 142)).heap.size (w.alloc (.cells #[.int .u16 keep, .int .u32 turn] 142)) w4 := by
      rw [ew4]
      exact (hb3.setCell hg1 _).drew
    have hbx4 := (hb4.block w.heap.size (by simp)).trans (blk_new w _)
    have E2 := Lib.hid el2
    clear ew4 hown3 hb3 hbx3 el2
    rw [rounds_succ]
    go_wp2
    have t21 := blk_cell hbx4 1
    obtain ⟨u2, z2⟩ := own_cell hown4 (j + 2) (by omega)
    go_still_tail 16, (by kernel_rfl)
    change wpList _ _ _ _ _ w4.drew
    go_wp2_with fail
    clear t21 u2 z2
    obtain ⟨w5, ew5⟩ : ∃ w5, w5 = (w4.setCell ⟨g, j + 2, none⟩ (.int .u8 (bits BinOp.xor IntKind.u8 (u8 l2 (j + 2)) ((turn : Int) % 256)))).drew := ⟨_, rfl⟩
    rw [← ew5]
    rw [show (turn : Int) = ((turn : Nat) : Int) by simp, xor_turn] at ew5
    obtain ⟨l3, el3⟩ : ∃ l3, l3 = l2.set (j + 2) (l2.getD (j + 2) 0 ^^^ UInt8.ofNat (turn)) := ⟨_, rfl⟩
    have hown5 : w5.ownsRow (w.alloc (.cells #[.int .u16 keep, .int .u32 turn] 142)).heap.size 5 1 (.slice (some ⟨g, 0, none⟩) (j + 3) cc) (j + 3) (vals l3) := by
      rw [ew5, el3]
      exact own_set hown4 (j + 2) (by omega) _
    have hb5 : Below (w.alloc (.cells #[.int .u16 keep, .int .u32 turn] 142)).heap.size (w.alloc (.cells #[.int .u16 keep, .int .u32 turn] 142)) w5 := by
      rw [ew5]
      exact (hb4.setCell hg1 _).drew
    have hbx5 := (hb5.block w.heap.size (by simp)).trans (blk_new w _)
    have E3 := Lib.hid el3
    clear ew5 hown4 hb4 hbx4 el3
    rw [rounds_succ]
    go_wp2
    go_ret
    have hfin : Dsk.torn l (keep, turn) = l3 := by
      rw [Ht.out, E3.out, E2.out, E1.out, show j + 3 - 3 = j by omega, show j + 3 - 2 = j + 1 by omega, show j + 3 - 1 = j + 2 by omega]
      simp [List.getD_eq_getElem?_getD, List.getElem?_set]
    rw [hfin]
    have hl3 : l3.length = j + 3 := by have := hown5.1; rw [vals_length] at this; omega
    rw [hl3]
    exact ⟨_, cc, rfl, hown5.rebase (by simp), ((Below.refl _ _).alloc (Nat.le_refl _) _).trans (hb5.mono (by simp))⟩
  · rw [if_neg h3] at htorn
    rw [htorn]
    have hl3 : (l.take k).length = k := hb1.1
    rw [hl3]
    have hk3 : k < 3 := by omega
    clear htorn hl3 h3
    go_enter Try.func98, Try.ntmps98
    go_wp2_with (first
      | (go_at_call 80; refine (clone_calls A k c _ _ hb1 (by omega) HA.out).mono ?_; rintro e w2 ⟨A2, cc, rfl, hown, hb2⟩))
    go_ret
    exact ⟨A2, cc, rfl, hown.rebase (by simp), ((Below.refl _ _).alloc (Nat.le_refl _) _).trans (hb2.mono (by simp))⟩

end Go.Proofs.Ytcfgdlpdnpnhmaa
set_option linter.unusedVariables false
set_option linter.unusedSimpArgs false
namespace Go.Proofs.Ytcfgdlpdnpnhmaa
open Go.RowKit Go.Maps Go.WideMaps

/-- From address A on n tears stand: ts. -/
def Tears (w : World) (A : Option Addr) (n : Nat) (ts : List (Nat × Nat)) : Prop :=
  ts.length = n ∧ (∀ p ∈ ts, p.1 < 65536 ∧ p.2 < 4294967296) ∧
  (0 < n → ∃ ad, A = some ad ∧ ∀ j, j < n → w.cell? (ad.add (j * 2)) = some (.int .u16 (ts.getD j (0, 0)).1) ∧ w.cell? (ad.add (j * 2 + 1)) = some (.int .u32 (ts.getD j (0, 0)).2))
/-- A block that holds none of a tear's numbers. -/
def NoT (w : World) (k : Nat) : Prop := ∀ o x, w.cell? ⟨k, o, none⟩ ≠ some (.int .u16 x) ∧ w.cell? ⟨k, o, none⟩ ≠ some (.int .u32 x)
theorem Tears.ext {S : List Nat} {w w' : World} {A : Option Addr} {n : Nat} {ts : List (Nat × Nat)} (h : Tears w A n ts) (e : Ext S w w') (hs : ∀ k, k ∈ S → NoT w k) : Tears w' A n ts := by
  refine ⟨h.1, h.2.1, fun hn => ?_⟩
  obtain ⟨ad, ea, hc⟩ := h.2.2 hn
  refine ⟨ad, ea, fun j hj => ?_⟩
  obtain ⟨h1, h2⟩ := hc j hj
  constructor
  · refine (e.cell (cell_lt h1) (fun hm => ?_)).trans h1
    have h3 := cell_spot h1
    rw [h3] at h1
    exact (hs _ hm _ _).1 h1
  · refine (e.cell (cell_lt h2) (fun hm => ?_)).trans h2
    have h3 := cell_spot h2
    rw [h3] at h2
    exact (hs _ hm _ _).2 h2
theorem Tears.below {w w' : World} {A : Option Addr} {n : Nat} {ts : List (Nat × Nat)} (h : Tears w A n ts) (e : Below w.heap.size w w') : Tears w' A n ts := h.ext (S := []) (Ext.of_below e) (fun k hk => by cases hk)
theorem Tears.tail {w : World} {A : Option Addr} {n c : Nat} {ts : List (Nat × Nat)} (h : Tears w A n ts) (h0 : 0 < n) (hc : n ≤ c) : Tears w (if c = 1 then A else A.map (·.add 2)) (n - 1) ts.tail := by
  refine ⟨by rw [List.length_tail, h.1], fun p hp => h.2.1 p (List.mem_of_mem_tail hp), fun hn => ?_⟩
  obtain ⟨ad, rfl, hcell⟩ := h.2.2 h0
  rw [if_neg (by omega)]
  refine ⟨ad.add 2, rfl, fun j hj => ?_⟩
  have := hcell (j + 1) (by omega)
  rw [add_of_add, add_of_add, show 2 + j * 2 = (j + 1) * 2 by omega, show 2 + (j * 2 + 1) = (j + 1) * 2 + 1 by omega]
  have hg : ts.tail.getD j (0, 0) = ts.getD (j + 1) (0, 0) := by cases ts <;> simp
  rw [hg]
  exact this
theorem NoT.of_cells {w : World} {g : Nat} {cs : Array Value} {t : TypeId} {fr : Nat × Nat} (h : w.heap[g]? = some (.cells cs t fr)) (hn : ∀ (j : Nat) (x : Int), cs[j]? ≠ some (Value.int .u16 x) ∧ cs[j]? ≠ some (Value.int .u32 x)) : NoT w g := by
  intro o x
  rw [blk_cell h]
  exact hn o x

theorem info142 : (Try.prog.info? 142).map (fun i => (i.size)) = some 2 := by kernel_rfl
theorem run_tear_index (ad : Addr) (n c : Nat) (h : 0 < n) (w : World) : (Instr.indexAt 47 (.slice (some ad) n c) (.int .i64 0)).run Try.prog w = .ok (.pointer (some ad)) w := by
  obtain ⟨i0, hi, hz1⟩ := Option.map_eq_some_iff.1 info142
  simp [Instr.indexAt, run_underlying Try.underlying47, sizeOf, typeInfo, hi, hz1, h, Result.andThen, asIntOf, Addr.add]
theorem run_tear_tail (A : Option Addr) (n c : Nat) (h : 0 < n) (hc : n ≤ c) (w : World) : (Instr.slice 47 (.slice A n c) (some (.int .i64 1)) none none).run Try.prog w = .ok (.slice (if c = 1 then A else A.map (·.add 2)) (n - 1) (c - 1)) w := by
  obtain ⟨i0, hi, hz1⟩ := Option.map_eq_some_iff.1 info142
  have h1 : (1 : Int) ≤ n := by omega
  simp [Instr.slice, run_underlying Try.underlying47, Instr.sliceBounds, Instr.sliceBound, sizeOf, typeInfo, hi, hz1, h1, Result.andThen, asIntOf]

theorem setCell_same {w : World} {b o : Nat} {v : Value} (h : w.cell? ⟨b, o, none⟩ = some v) : w.setCell ⟨b, o, none⟩ v = w := by
  unfold World.setCell
  have e : w.heap.modify b (fun | .cells c elem frozen => .cells (if (none : Option Nat).isSome then c else c.setIfInBounds o v) elem frozen | x => x) = w.heap := by
    apply Array.ext_getElem?
    intro i
    rw [Array.getElem?_modify]
    split
    · rename_i hb
      subst hb
      simp only [World.cell?] at h
      cases hh : w.heap[b]? with
      | none => rfl
      | some x =>
        rw [hh] at h
        cases x with
        | cells c e f =>
          simp only [Option.isSome_none, Bool.false_eq_true, if_false] at h
          simp only [Option.map_some, Option.isSome_none, Bool.false_eq_true, if_false]
          congr 2
          apply Array.ext_getElem?
          intro j
          rw [Array.getElem?_setIfInBounds]
          split
          · rename_i hj
            subst hj
            split
            · exact h.symm
            · rename_i hsz
              rw [Array.getElem?_eq_none (by omega)]
          · rfl
        | _ => rfl
    · rfl
  exact congrArg (fun hp => ({ w with heap := hp } : World)) e

/-- What 'next' gives: the first of the tears that are left (none: no tear), and what is left behind it. -/
def NextGives (w : World) (bx : Nat) (ts : List (Nat × Nat)) (e : Ending) (w' : World) : Prop :=
  ∃ A n c, e = .returned (.agg #[.int .u16 (ts.headD (0, 0)).1, .int .u32 (ts.headD (0, 0)).2]) ∧ w'.heap[bx]? = some (.cells #[.slice A n c] 47 (0, 0)) ∧ Tears w' A n ts.tail ∧ n ≤ c ∧ Ext [bx] w w'

set_option maxRecDepth 100000 in
theorem next_calls (bx : Nat) (A : Option Addr) (n c : Nat) (ts : List (Nat × Nat)) (w : World) (hb : w.heap[bx]? = some (.cells #[.slice A n c] 47 (0, 0))) (h : Tears w A n ts) (hc : n ≤ c) :
    Calls Try.prog 97 #[.pointer (some ⟨bx, 0, none⟩)] w (NextGives w bx ts) := by
  have c0 := blk_cell hb 0
  have f0 := blk_frozen hb 0
  have hlt := blk_lt hb
  have hbx1 := blk_alloc hb (.cells #[.int .u16 0, .int .u32 0] 142)
  rcases Nat.eq_zero_or_pos n with h0 | h0
  · subst h0
    have hts : ts = [] := List.eq_nil_of_length_eq_zero h.1
    subst hts
    go_enter Try.func97, Try.ntmps97
    go_wp2
    exact bodyPost_ret (v := .agg #[.int .u16 0, .int .u32 0]) (by simp [results, Try.results97, go_sem]) rfl ⟨A, 0, c, rfl, hbx1, h.below ((Below.refl _ _).alloc (Nat.le_refl _) _), hc, (Ext.refl _ _).alloc _⟩
  · obtain ⟨ad, rfl, hcell⟩ := h.2.2 h0
    obtain ⟨k0, k1⟩ := hcell 0 h0
    rw [Nat.zero_mul, show ad.add 0 = ad by simp [Addr.add]] at k0
    rw [Nat.zero_mul, Nat.zero_add] at k1
    obtain ⟨tb, to, rfl⟩ : ∃ tb to, ad = ⟨tb, to, none⟩ := ⟨_, _, cell_spot k0⟩
    rw [add0] at k1
    have htd : ts.getD 0 (0, 0) = ts.headD (0, 0) := by cases ts <;> rfl
    rw [htd] at k0 k1
    obtain ⟨tk, tt, htk⟩ : ∃ tk tt, ts.headD (0, 0) = (tk, tt) := ⟨_, _, rfl⟩
    rw [htk] at k0 k1
    have Htk := Lib.hid htk
    clear htd htk
    dsimp only at k0 k1
    have hsl := run_tear_tail (some ⟨tb, to, none⟩) n c h0 hc
    have hix := fun W => run_tear_index ⟨tb, to, none⟩ n c h0 W
    clear hcell
    have htl := h.tail (c := c) h0 hc
    obtain ⟨A2, hA2⟩ : ∃ A2, (if c = 1 then some (⟨tb, to, none⟩ : Addr) else Option.map (fun x => x.add 2) (some (⟨tb, to, none⟩ : Addr))) = A2 := ⟨_, rfl⟩
    rw [hA2] at htl
    simp only [hA2] at hsl
    clear hA2
    have hnt : NoT w bx := .of_cells hb (fun j x => by rcases j with _ | j <;> simp)
    obtain ⟨w1, hw1⟩ : ∃ w1, w1 = w.alloc (.cells #[.int .u16 0, .int .u32 0] 142) := ⟨_, rfl⟩
    have hbw : Below w.heap.size w w1 := by rw [hw1]; exact (Below.refl _ _).alloc (Nat.le_refl _) _
    have hnew : w1.heap[w.heap.size]? = some (.cells #[.int .u16 0, .int .u32 0] 142 (0, 0)) := by rw [hw1]; exact blk_new w _
    rw [← hw1] at hbx1
    have c1 := blk_cell hbx1 0
    have f1 := blk_frozen hbx1 0
    have r0 := blk_cell hnew 0
    have r1 := blk_cell hnew 1
    have g0 := blk_frozen hnew 0
    have g1 := blk_frozen hnew 1
    have k2 : w1.cell? ⟨tb, to, none⟩ = some (.int .u16 tk) := (hbw.cell (cell_lt k0)).trans k0
    have k3 : w1.cell? ⟨tb, to + 1, none⟩ = some (.int .u32 tt) := (hbw.cell (cell_lt k1)).trans k1
    go_enter Try.func97, Try.ntmps97
    go_wp2
    rw [← hw1]
    have Hw1 := Lib.hid hw1
    clear hw1 c0 f0 k0 k1
    go_region
    obtain ⟨w2, hw2⟩ : ∃ w2, w2 = (((w1.setCell ⟨w.heap.size, 0, none⟩ (.int .u16 tk)).setCell ⟨w.heap.size, 1, none⟩ (.int .u32 tt)).setCell ⟨bx, 0, none⟩
        (.slice A2 (n - 1) (c - 1))).drew := ⟨_, rfl⟩
    rw [← hw2]
    have hne : w.heap.size ≠ bx := by omega
    have q1 : w2.heap[w.heap.size]? = some (.cells #[.int .u16 tk, .int .u32 tt] 142 (0, 0)) := by
      rw [hw2]
      exact blk_far (blk_set (blk_set hnew 0 _) 1 _) hne _
    have q2 : w2.heap[bx]? = some (.cells #[.slice A2 (n - 1) (c - 1)] 47 (0, 0)) := by
      rw [hw2]
      exact blk_set (blk_far (blk_far hbx1 (Ne.symm hne) _) (Ne.symm hne) _) 0 _
    have q3 : Ext [bx] w w2 := by
      rw [hw2]
      exact ((((Ext.of_below hbw).setCell (Or.inr (Nat.le_refl _)) _).setCell (Or.inr (Nat.le_refl _)) _).setCell (Or.inl (by simp)) _).drew
    have d0 := blk_cell q1 0
    have d1 := blk_cell q1 1
    have e0 := blk_frozen q1 0
    have e1 := blk_frozen q1 1
    have s0 : w2.setCell ⟨w.heap.size, 0, none⟩ (.int .u16 tk) = w2 := setCell_same d0
    have s1 : w2.setCell ⟨w.heap.size, 1, none⟩ (.int .u32 tt) = w2 := setCell_same d1
    clear hw2 c1 f1 r0 r1 g0 g1 k2 k3 hbx1 hnew
    go_wp2
    try rw [s0]
    try rw [s1]
    exact bodyPost_ret (v := .agg #[.int .u16 tk, .int .u32 tt]) (by simp [results, Try.results97, go_sem, d0, d1]) rfl ⟨_, _, _, by rw [Htk.out], q2, htl.ext q3 (fun k hk => by rw [List.mem_singleton.1 hk]; exact hnt), by omega, q3⟩

end Go.Proofs.Ytcfgdlpdnpnhmaa
namespace Go.Proofs.Ytcfgdlpdnpnhmaa
open Go
namespace Dsk

theorem before_irr (a : Bs) : bytesBefore a a = false := WideAt.bytes_irrefl a
theorem before_asymm {a b : Bs} (h : bytesBefore a b = true) : bytesBefore b a = false := by
  cases h2 : bytesBefore b a with
  | false => rfl
  | true =>
    have := WideShapes.bytes_trans a b a h h2
    rw [before_irr] at this
    cases this
theorem before_ne {a b : Bs} (h : bytesBefore a b = true) : a ≠ b := by
  rintro rfl
  rw [before_irr] at h
  cases h
theorem rising_mid {done r : List File} {f : File} (h : Rising (done ++ f :: r)) :
    (∀ y ∈ done, bytesBefore y.name f.name = true) ∧ (∀ y ∈ r, bytesBefore f.name y.name = true) := by
  unfold Rising at h
  rw [List.pairwise_append] at h
  obtain ⟨_, h2, h3⟩ := h
  rw [List.pairwise_cons] at h2
  exact ⟨fun y hy => h3 y hy f (by simp), fun y hy => h2.1 y hy⟩
theorem rising_of_names {l l' : List File} (h : Rising l) (e : l'.map (·.name) = l.map (·.name)) : Rising l' := by
  unfold Rising at *
  have h1 : (l.map (·.name)).Pairwise (fun a b => bytesBefore a b = true) := by rw [List.pairwise_map]; exact h
  rw [← e, List.pairwise_map] at h1
  exact h1
theorem rising_del {done r : List File} {f : File} (h : Rising (done ++ f :: r)) : Rising (done ++ r) := by
  unfold Rising at *
  exact h.sublist (List.Sublist.append (List.Sublist.refl _) (List.sublist_cons_self _ _))
theorem find_mid {done r : List File} {f : File} (h : Rising (done ++ f :: r)) : find (done ++ f :: r) f.name = some f := by
  obtain ⟨h1, _⟩ := rising_mid h
  unfold find
  rw [List.find?_append, List.find?_eq_none.2 (fun y hy => by simpa using before_ne (h1 y hy))]
  simp
theorem del_all {l : List File} {n : Bs} (h : ∀ y ∈ l, y.name ≠ n) : del l n = l := by
  unfold del
  rw [List.filter_eq_self]
  intro y hy
  simpa using h y hy
theorem del_mid {done r : List File} {f : File} (h : Rising (done ++ f :: r)) : del (done ++ f :: r) f.name = done ++ r := by
  obtain ⟨h1, h2⟩ := rising_mid h
  have e1 := del_all (l := done) (n := f.name) (fun y hy => before_ne (h1 y hy))
  have e2 := del_all (l := r) (n := f.name) (fun y hy => Ne.symm (before_ne (h2 y hy)))
  unfold del at *
  rw [List.filter_append, e1, List.filter_cons_of_neg (by simp), e2]
theorem ins_mid {f : File} : ∀ {done r : List File}, (∀ y ∈ done, bytesBefore y.name f.name = true) → (∀ y ∈ r, bytesBefore f.name y.name = true) → ins f (done ++ r) = done ++ f :: r
  | [], [], _, _ => rfl
  | [], y :: r, _, h2 => by
    show (if bytesBefore f.name y.name then f :: y :: r else y :: ins f r) = _
    rw [if_pos (h2 y (by simp))]
    rfl
  | x :: done, r, h1, h2 => by
    show (if bytesBefore f.name x.name then f :: x :: (done ++ r) else x :: ins f (done ++ r)) = _
    rw [if_neg (by rw [before_asymm (h1 x (by simp))]; simp), ins_mid (fun y hy => h1 y (by simp [hy])) h2]
    rfl
theorem put_mid {done r : List File} {f f' : File} (h : Rising (done ++ f :: r)) (hn : f'.name = f.name) : put (done ++ f :: r) f' = done ++ f' :: r := by
  unfold put
  rw [hn, del_mid h]
  obtain ⟨h1, h2⟩ := rising_mid h
  exact ins_mid (by rw [hn]; exact h1) (by rw [hn]; exact h2)
theorem torn_length (l : Bs) (t : Nat × Nat) : (torn l t).length ≤ l.length := by
  unfold torn
  dsimp only
  split
  · simp only [List.length_set, List.length_take]; omega
  · simp only [List.length_take]; omega
theorem crashFile_name (f : File) (ts : List (Nat × Nat)) : (crashFile f ts).1.name = f.name := by
  unfold crashFile
  split <;> rfl

end Dsk
end Go.Proofs.Ytcfgdlpdnpnhmaa
