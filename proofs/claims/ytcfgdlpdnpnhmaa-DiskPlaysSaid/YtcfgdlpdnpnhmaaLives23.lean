/- Contract of curfewlaw23.lives: the chapter's example is true. -/
import Derived.Test.YtcfgdlpdnpnhmaaDisk12
import Derived.Test.YtcfgdlpdnpnhmaaConv
set_option linter.unusedVariables false
set_option linter.unusedSimpArgs false
namespace Go.Proofs.Ytcfgdlpdnpnhmaa
open Go.RowKit Go.Maps

section
def lv0 : Dsk := ⟨100, [], false, -1, 0⟩
def lv1 : Dsk := ⟨100, [⟨[97], [120, 121, 122], 0⟩], false, -1, 1⟩
def lv2 : Dsk := ⟨100, [⟨[97], [120, 121, 122], 3⟩], false, -1, 2⟩
def lv3 : Dsk := ⟨100, [⟨[97], [120, 121, 122, 117, 118], 3⟩], false, -1, 3⟩
def lv4 : Dsk := ⟨100, [⟨[97], [120, 121, 122, 117], 4⟩], true, -1, 3⟩
def lv5 : Dsk := ⟨100, [⟨[97], [120, 121, 122, 117], 4⟩], false, -1, 3⟩
theorem one_ok (r : Int) (f : File) (dn : Bool) (st : Nat) (h0 : 0 ≤ r) (h1 : r ≤ 1048576) (h2 : f.all.length ≤ 1048576) (h3 : 1 ≤ f.name.length ∧ f.name.length ≤ 16) (h4 : f.kept ≤ f.all.length) : Dsk.Ok ⟨r, [f], dn, -1, st⟩ :=
  ⟨h0, h1, by simpa [Dsk.sum] using h2, by simp, fun g hg => by rw [List.mem_singleton.1 hg]; exact h3, fun g hg => by rw [List.mem_singleton.1 hg]; exact h4, by simp [Dsk.Rising], by simp, by simp⟩
theorem new_ok (r : Int) (h0 : 0 ≤ r) (h1 : r ≤ 1048576) : (Dsk.new r).Ok :=
  ⟨h0, h1, by simp [Dsk.new, Dsk.sum], by simp [Dsk.new], fun g hg => by simp [Dsk.new] at hg, fun g hg => by simp [Dsk.new] at hg, by simp [Dsk.new, Dsk.Rising], by simp [Dsk.new], by simp [Dsk.new]⟩
theorem lv0_app : lv0.append [97] [120, 121, 122] = (lv1, 0) := rfl
theorem lv1_sync : lv1.sync [97] = (lv2, 0) := rfl
theorem lv2_app : lv2.append [97] [117, 118] = (lv3, 0) := rfl
theorem lv3_crash : lv3.crash [(1, 0)] = lv4 := rfl
theorem lv4_boot : lv4.boot = lv5 := rfl
theorem lv5_read : lv5.read [97] = ([120, 121, 122, 117], 0) := rfl
theorem lv5_free : lv5.free = 96 := rfl

/-- The disk at a stage of the example, beside a world in which the example began. -/
structure LvAt (w : World) (d mp mt : Nat) (D : Dsk) (w1 : World) : Prop where
  disk : IsDisk w1 d mp mt D
  below : Below w.heap.size w w1
  hd : w.heap.size ≤ d
  hmp : w.heap.size ≤ mp
  hmt : w.heap.size ≤ mt
theorem LvAt.step {w : World} {d mp mt : Nat} {D D' : Dsk} {w1 w2 : World} (h : LvAt w d mp mt D w1) (k : Left w1 d mp mt D' w2) : LvAt w d mp mt D' w2 :=
  ⟨k.disk, h.below.trans (k.ext.below (Nat.le_trans (Nat.le_refl _) h.below.size) (fun i hi => by
    simp only [List.mem_cons, List.mem_nil_iff, or_false] at hi
    rcases hi with rfl | rfl | rfl
    · exact h.hd
    · exact h.hmp
    · exact h.hmt)), h.hd, h.hmp, h.hmt⟩
theorem LvAt.later {w : World} {d mp mt : Nat} {D : Dsk} {w1 w2 : World} (h : LvAt w d mp mt D w1) (k : Below w1.heap.size w1 w2) : LvAt w d mp mt D w2 :=
  ⟨h.disk.below k, h.below.trans (k.mono h.below.size), h.hd, h.hmp, h.hmt⟩

def lvName : ByteArray := { data := #[97] }
theorem lv_append (w : World) (d mp mt : Nat) (D D' : Dsk) (b : Bs) (c : Nat) (A : Option Addr) (n : Nat) (w1 : World) (h : LvAt w d mp mt D w1) (hok : D.Ok) (hst : D.steps < 4611686018427387904) (hn : n ≤ 9223372036854775807) (hb : Bts w1 A n b) (he : D.append [97] b = (D', 0)) :
    Calls Try.prog 41 #[.pointer (some ⟨d, 0, none⟩), .string { data := #[97] }, .slice A n c] w1 fun e w' => e = .returned (.int .i64 0) ∧ LvAt w d mp mt D' w' := by
  refine (append_calls d mp mt D { data := #[97] } A n c b w1 h.disk (by decide) hb hn hok hst).mono ?_
  rintro e w' ⟨rfl, hl⟩
  rw [show ({ data := #[97] } : ByteArray).data.toList = [97] from rfl, he] at hl ⊢
  exact ⟨rfl, h.step hl⟩

theorem lv_bytes (w1 : World) (l : Bs) {fr : Nat × Nat} : Bts (w1.alloc (.cells (vals l).toArray 5 fr)) (some ⟨w1.heap.size, 0, none⟩) l.length l :=
  Bts.of_block (blk_new w1 _) l (fun j hj => by rw [List.getElem?_toArray]; exact vals_get l j hj)
theorem lv_tears (w1 : World) : Tears (w1.alloc (.cells #[.int .u16 1, .int .u32 0] 142)) (some ⟨w1.heap.size, 0, none⟩) 1 [(1, 0)] :=
  ⟨rfl, fun p hp => by rw [List.mem_singleton.1 hp]; exact ⟨by decide, by decide⟩, fun _ => ⟨_, rfl, fun j hj => by
    obtain rfl : j = 0 := by omega
    exact ⟨by rw [add0, blk_cell (blk_new w1 _)]; rfl, by rw [add0, blk_cell (blk_new w1 _)]; rfl⟩⟩⟩
theorem below_new (w1 : World) (o : Obj) : Below w1.heap.size w1 (w1.alloc o) := (Below.refl _ _).alloc (Nat.le_refl _) o

def LvRead (w : World) (d mp mt : Nat) (e : Ending) (w' : World) : Prop :=
  ∃ A k, e = .returned (.tuple #[.slice A 4 k, .int .i64 0]) ∧ (convert 22 9 (.slice A 4 k)).run Try.prog w' = .ok (.string { data := #[120, 121, 122, 117] }) w' ∧ LvAt w d mp mt lv5 w'
theorem lv_read (w : World) (d mp mt : Nat) (w1 : World) (h : LvAt w d mp mt lv5 w1) :
    Calls Try.prog 48 #[.pointer (some ⟨d, 0, none⟩), .string { data := #[97] }] w1 (LvRead w d mp mt) := by
  refine (read_calls _ _ _ lv5 { data := #[97] } _ h.disk (by decide) (by decide)).mono ?_
  rintro e w7 ⟨A, k, rfl, hown, hb7⟩
  rw [show ({ data := #[97] } : ByteArray).data.toList = [97] from rfl, lv5_read] at hown ⊢
  obtain ⟨A', c', hv, hb, _, _⟩ := Bts.of_own hown
  injection hv with e1 e2 e3
  subst e1
  exact ⟨A, k, rfl, run_to_str hb k, h.later hb7⟩
theorem lv_sync (w : World) (d mp mt : Nat) (w1 : World) (h : LvAt w d mp mt lv1 w1) :
    Calls Try.prog 42 #[.pointer (some ⟨d, 0, none⟩), .string { data := #[97] }] w1 fun e w' => e = .returned (.int .i64 0) ∧ LvAt w d mp mt lv2 w' := by
  refine (sync_calls _ _ _ lv1 { data := #[97] } _ h.disk (by decide) (by decide) (by decide) (by decide) (by decide) (by decide)).mono ?_
  rintro e w3 ⟨rfl, hl⟩
  rw [show ({ data := #[97] } : ByteArray).data.toList = [97] from rfl, lv1_sync] at hl ⊢
  exact ⟨rfl, h.step hl⟩
theorem lv_free (w : World) (d mp mt : Nat) (w1 : World) (h : LvAt w d mp mt lv5 w1) :
    Calls Try.prog 33 #[.pointer (some ⟨d, 0, none⟩)] w1 fun e w' => e = .returned (.int .i64 96) ∧ LvAt w d mp mt lv5 w' := by
  refine (free_calls _ _ _ lv5 _ h.disk (by decide) (by decide) (by decide) (by decide)).mono ?_
  rintro e w8 ⟨rfl, hb⟩
  exact ⟨rfl, h.later hb⟩
theorem lv_steps (w : World) (d mp mt : Nat) (w1 : World) (h : LvAt w d mp mt lv5 w1) :
    Calls Try.prog 35 #[.pointer (some ⟨d, 0, none⟩)] w1 fun e w' => e = .returned (.int .u64 3) ∧ w1 = w' := by
  refine (steps_calls _ _ _ lv5 _ h.disk).mono ?_
  rintro e w8 ⟨rfl, rfl⟩
  exact ⟨rfl, rfl⟩

set_option maxRecDepth 100000 in
theorem lives23_calls (w : World) :
    Calls Try.prog 28 #[] w fun e w' => e = .returned (.bool true) ∧ Below w.heap.size w w' := by
  have hnew := new_calls 100 w (by omega) (by omega)
  have Hnew := Lib.hid hnew
  have ok0 := Lib.hid (new_ok 100 (by omega) (by omega))
  have ok1 := Lib.hid (one_ok 100 ⟨[97], [120, 121, 122], 0⟩ false 1 (by omega) (by omega) (by decide) (by decide) (by decide))
  have ok2 := Lib.hid (one_ok 100 ⟨[97], [120, 121, 122], 3⟩ false 2 (by omega) (by omega) (by decide) (by decide) (by decide))
  have ok3 := Lib.hid (one_ok 100 ⟨[97], [120, 121, 122, 117, 118], 3⟩ false 3 (by omega) (by omega) (by decide) (by decide) (by decide))
  have hcs := run_conv_const
  clear hnew
  go_enter Try.func28, Try.ntmps28
  go_wp2_with (first
    | (go_at_call 27; refine Hnew.out.mono ?_; rintro e w1 ⟨rfl, hd, hb⟩; have hL0 := LvAt.mk hd hb (by omega) (Nat.le_refl _) (by omega); clear hd hb)
    | (go_at_call 41; refine (lv_append w _ _ _ lv2 lv3 [117, 118] _ _ _ _ (hL2.later (below_new _ _)) ok2.out (by decide) (by decide) (lv_bytes _ [117, 118]) lv2_app).mono ?_; rintro e w4 ⟨rfl, hL3⟩)
    | (go_at_call 41; refine (lv_append w _ _ _ lv0 lv1 [120, 121, 122] _ _ _ _ (hL0.later (below_new _ _)) ok0.out (by decide) (by decide) (lv_bytes _ [120, 121, 122]) lv0_app).mono ?_; rintro e w2 ⟨rfl, hL1⟩)
    | (go_at_call 42; refine (lv_sync w _ _ _ _ hL1).mono ?_; rintro e w3 ⟨rfl, hL2⟩)
    | (go_at_call 39; refine (crash_calls _ _ _ lv3 _ 1 1 [(1, 0)] _ (hL3.disk.alloc _) ok3.out (lv_tears _) (Nat.le_refl _)).mono ?_; rintro e w5 ⟨rfl, hl5⟩; have hL4 := (hL3.later (below_new _ _)).step (D' := lv4) hl5; clear hl5)
    | (go_at_call 47; refine (boot_calls _ _ _ lv4 _ hL4.disk).mono ?_; rintro e w6 ⟨rfl, hl6⟩; have hL5 := hL4.step (D' := lv5) hl6; clear hl6)
    | (go_at_call 48; refine (lv_read w _ _ _ _ hL5).mono ?_; rintro e w7 ⟨A, k, rfl, hcv, hL6⟩)
    | (go_at_call 33; refine (lv_free w _ _ _ _ hL6).mono ?_; rintro e w8 ⟨rfl, hL7⟩)
    | (go_at_call 35; refine (lv_steps w _ _ _ _ hL7).mono ?_; rintro e w9 ⟨rfl, rfl⟩))
  go_ret
  exact ⟨rfl, hL7.below⟩
end
end Go.Proofs.Ytcfgdlpdnpnhmaa
