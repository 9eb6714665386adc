/- Contract of the document's disk (curfewref23): torn. -/
import Derived.Test.YtcfgdlpdnpnhmaaRaw
set_option linter.unusedVariables false
set_option linter.unusedSimpArgs false
namespace Go.Proofs.Ytcfgdlpdnpnhmaa
open Go.RowKit Go.Maps

set_option maxRecDepth 100000 in
set_option maxHeartbeats 2000000 in
theorem reftorn_calls (s : ByteArray) (keep turn : Nat) (w : World) (hs : s.size ≤ 1048576) (hk : keep < 65536) (ht : turn < 4294967296) :
    Calls Try.prog 131 #[.string s, .agg #[.int .u16 keep, .int .u32 turn]] w fun e w' => e = .returned (encStr (Dsk.torn s.data.toList (keep, turn))) ∧ Below w.heap.size w w' := by
  have hsl : s.data.toList.length = s.size := by rw [Array.length_toList]; rfl
  obtain ⟨k, ek0⟩ : ∃ k, k = keep % (s.size + 1) := ⟨_, rfl⟩
  have hkl : k ≤ s.size := by have := Nat.mod_lt keep (show 0 < s.size + 1 by omega); omega
  have hcut := run_str_cut s k hkl
  have ek : (keep : Int) % ((s.size : Int) + 1) = (k : Int) := by rw [ek0]; simp
  have htorn : Dsk.torn s.data.toList (keep, turn) = if 3 ≤ k then
      (((s.data.toList.take k).set (k - 3) ((s.data.toList.take k).getD (k - 3) 0 ^^^ UInt8.ofNat (turn / 65536))).set (k - 2) ((s.data.toList.take k).getD (k - 2) 0 ^^^ UInt8.ofNat (turn / 256))).set (k - 1) ((s.data.toList.take k).getD (k - 1) 0 ^^^ UInt8.ofNat turn)
      else s.data.toList.take k := by
    have h2 : (s.data.toList.take k).length = k := by rw [List.length_take, hsl]; omega
    unfold Dsk.torn
    dsimp only
    rw [hsl, ← ek0, h2]
  obtain ⟨x, hx⟩ : ∃ x, x = s.extract 0 k := ⟨_, rfl⟩
  have hxl : x.data.toList = s.data.toList.take k := by rw [hx, Lib.extract_data]; simp
  have hxs : x.size = k := by
    have : x.data.toList.length = x.size := by rw [Array.length_toList]; rfl
    rw [← this, hxl, List.length_take, hsl]; omega
  rw [← hx] at hcut
  have Ht := Lib.hid htorn
  have Hxl := Lib.hid hxl
  have Hxs := Lib.hid hxs
  clear htorn hxl hxs hx ek0 hsl
  by_cases h3 : 3 ≤ k
  · have H3 := Lib.hid h3
    have g3 : decide ((3 : Int) ≤ (k : Int)) = true := decide_eq_true (by omega)
    go_enter Try.func131, Try.ntmps131
    go_upto_region 4 with (refine wpList_to_raw _ rfl _ rfl x rfl ?_; intro c w2 hraw hb2; rw [Hxs.out]; have hbx2 := (hb2.block w.heap.size (by simp)).trans (blk_new w _))
    have x3 : IntKind.i64.wrap ((k : Int) - 3) = (k : Int) - 3 := IntWalk.i64_in _ (by omega)
    have x2 : IntKind.i64.wrap ((k : Int) - 2) = (k : Int) - 2 := IntWalk.i64_in _ (by omega)
    have x1 : IntKind.i64.wrap ((k : Int) - 1) = (k : Int) - 1 := IntWalk.i64_in _ (by omega)
    have hxl3 : x.data.toList.length = k := by rw [← Hxs.out, Array.length_toList]; rfl
    obtain ⟨l0, hl0⟩ : ∃ l0, l0 = x.data.toList := ⟨_, rfl⟩
    rw [← hl0] at hraw hxl3
    have Hl0 := Lib.hid hl0
    have Hxl3 := Lib.hid hxl3
    obtain ⟨g, hg⟩ : ∃ g, g = (w.alloc (.cells #[.int .u16 keep, .int .u32 turn] 198)).heap.size := ⟨_, rfl⟩
    have hg2 : g = w.heap.size + 1 := by rw [hg]; simp
    rw [← hg] at hraw
    rw [← hg2]
    have i3 := fun W => (run_index ⟨g, 0, none⟩ k c ((k : Int) - 3) (by omega) (by omega) W).trans (by rw [add0, show ((k : Int) - 3).toNat = k - 3 by omega, Nat.zero_add])
    have i2 := fun W => (run_index ⟨g, 0, none⟩ k c ((k : Int) - 2) (by omega) (by omega) W).trans (by rw [add0, show ((k : Int) - 2).toNat = k - 2 by omega, Nat.zero_add])
    have i1 := fun W => (run_index ⟨g, 0, none⟩ k c ((k : Int) - 1) (by omega) (by omega) W).trans (by rw [add0, show ((k : Int) - 1).toNat = k - 1 by omega, Nat.zero_add])
    have t1 := blk_cell hbx2 1
    obtain ⟨u3, z3⟩ := hraw.cell (j := k - 3) (by omega)
    have Hg2 := Lib.hid hg2
    clear hl0 hg hg2
    go_still_tail 14, (by kernel_rfl)
    change wpList _ _ _ _ _ w2.drew
    go_wp2_with fail
    have hb12 : Below w.heap.size w w2 := below_next (al1 w _) hb2
    obtain ⟨w3, ew3⟩ : ∃ w3, w3 = (w2.setCell ⟨g, k - 3, none⟩ (.int .u8 (bits BinOp.xor IntKind.u8 (u8 l0 (k - 3)) ((turn : Int) / 65536 % 256)))).drew := ⟨_, rfl⟩
    rw [← ew3]
    rw [show (turn : Int) / 65536 = ((turn / 65536 : Nat) : Int) by simp, xor_turn] at ew3
    obtain ⟨l1, el1⟩ : ∃ l1, l1 = l0.set (k - 3) (l0.getD (k - 3) 0 ^^^ UInt8.ofNat (turn / 65536)) := ⟨_, rfl⟩
    have hraw3 : RawB w3 g l1 := by
      rw [ew3, el1]
      exact hraw.set (j := k - 3) (by have := Hxl3.out; omega) _
    have hb13 : Below w.heap.size w w3 := by
      rw [ew3]
      exact (hb12.setCell (by have := Hg2.out; show w.heap.size ≤ g; omega) _).drew
    have E3 := Lib.hid el1
    have hl1 : l1.length = k := by rw [el1, List.length_set]; exact Hxl3.out
    have hbx3 : w3.heap[w.heap.size]? = some (.cells #[.int .u16 keep, .int .u32 turn] 198 (0, 0)) := by
      rw [ew3]
      exact (Below.heap_setCell w2 _ _ _ (by show w.heap.size ≠ g; have := Hg2.out; omega)).trans hbx2
    have Hl1 := Lib.hid hl1
    clear t1 u3 z3 hb12 hraw hbx2 ew3 el1 hl1
    have t1 := blk_cell hbx3 1
    obtain ⟨u3, z3⟩ := hraw3.cell (j := k - 2) (by have := Hl1.out; omega)
    go_still_tail 14, (by kernel_rfl)
    change wpList _ _ _ _ _ w3.drew
    go_wp2_with fail
    obtain ⟨w4, ew4⟩ : ∃ w4, w4 = (w3.setCell ⟨g, k - 2, none⟩ (.int .u8 (bits BinOp.xor IntKind.u8 (u8 l1 (k - 2)) ((turn : Int) / 256 % 256)))).drew := ⟨_, rfl⟩
    rw [← ew4]
    rw [show (turn : Int) / 256 = ((turn / 256 : Nat) : Int) by simp, xor_turn] at ew4
    obtain ⟨l2, el2⟩ : ∃ l2, l2 = l1.set (k - 2) (l1.getD (k - 2) 0 ^^^ UInt8.ofNat (turn / 256)) := ⟨_, rfl⟩
    have hraw4 : RawB w4 g l2 := by
      rw [ew4, el2]
      exact hraw3.set (j := k - 2) (by have := Hl1.out; omega) _
    have hb14 : Below w.heap.size w w4 := by
      rw [ew4]
      exact (hb13.setCell (by have := Hg2.out; show w.heap.size ≤ g; omega) _).drew
    have hl2 : l2.length = k := by rw [el2, List.length_set]; exact Hl1.out
    have E4 := Lib.hid el2
    have hbx4 : w4.heap[w.heap.size]? = some (.cells #[.int .u16 keep, .int .u32 turn] 198 (0, 0)) := by
      rw [ew4]
      exact (Below.heap_setCell w3 _ _ _ (by show w.heap.size ≠ g; have := Hg2.out; omega)).trans hbx3
    have Hl2 := Lib.hid hl2
    clear t1 u3 z3 hb13 hraw3 hbx3 ew4 el2 hl2
    have t1 := blk_cell hbx4 1
    obtain ⟨u3, z3⟩ := hraw4.cell (j := k - 1) (by have := Hl2.out; omega)
    obtain ⟨l3, el3⟩ : ∃ l3, l3 = l2.set (k - 1) (l2.getD (k - 1) 0 ^^^ UInt8.ofNat turn) := ⟨_, rfl⟩
    have hraw5 : RawB (w4.setCell ⟨g, k - 1, none⟩ (.int .u8 (bits BinOp.xor IntKind.u8 (u8 l2 (k - 1)) ((turn : Int) % 256)))).drew g l3 := by
      rw [xor_turn, el3]
      exact hraw4.set (j := k - 1) (by have := Hl2.out; omega) _
    have hl3 : l3.length = k := by rw [el3, List.length_set]; exact Hl2.out
    have hcv := run_to_str hraw5.bts c
    rw [hl3] at hcv
    have hb15 : Below w.heap.size w (w4.setCell ⟨g, k - 1, none⟩ (.int .u8 (bits BinOp.xor IntKind.u8 (u8 l2 (k - 1)) ((turn : Int) % 256)))).drew :=
      (hb14.setCell (by have := Hg2.out; show w.heap.size ≤ g; omega) _).drew
    have Hb15 := Lib.hid hb15
    have E5 := Lib.hid el3
    clear hb15 hl3 hraw5 el3
    go_still_tail 13, (by kernel_rfl)
    change wpList _ _ _ _ _ w4.drew
    go_wp2_with fail
    go_ret
    refine ⟨?_, Hb15.out⟩
    have gd : ∀ (l : Bs) (i j : Nat) (b : UInt8), i ≠ j → (l.set i b).getD j 0 = l.getD j 0 := fun l i j b hij => by
      simp [List.getD_eq_getElem?_getD, List.getElem?_set_ne hij]
    have q2 : l1.getD (k - 2) 0 = l0.getD (k - 2) 0 := by rw [E3.out]; exact gd _ _ _ _ (by have := H3.out; omega)
    have q1 : l2.getD (k - 1) 0 = l0.getD (k - 1) 0 := by
      rw [E4.out, gd _ _ _ _ (by have := H3.out; omega), E3.out]
      exact gd _ _ _ _ (by have := H3.out; omega)
    have q3 : l3 = Dsk.torn s.data.toList (keep, turn) := by
      rw [Ht.out, if_pos H3.out, ← Hxl.out, ← Hl0.out, ← E3.out, ← q2, ← E4.out, ← q1, ← E5.out]
    rw [← q3]
    try rfl
  · have H3 := Lib.hid h3
    have g3 : decide ((3 : Int) ≤ (k : Int)) = false := decide_eq_false (by omega)
    clear h3
    go_enter Try.func131, Try.ntmps131
    go_wp2_with (refine wpList_to_raw _ rfl _ rfl x rfl ?_; intro c w2 hraw hb2; rw [Hxs.out]; have hbt := hraw.bts; have hcv := run_to_str hbt c; rw [show x.data.toList.length = k by rw [← Hxs.out, Array.length_toList]; rfl] at hcv; simp only [World.size_alloc] at hcv)
    go_ret
    refine ⟨?_, below_next (al1 w _) hb2⟩
    rw [Ht.out, if_neg H3.out, ← Hxl.out]
    rfl
end Go.Proofs.Ytcfgdlpdnpnhmaa
