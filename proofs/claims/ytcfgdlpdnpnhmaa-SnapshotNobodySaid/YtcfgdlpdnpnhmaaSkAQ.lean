/- Contracts and words (several texts merged by wip/merge.py). Contracts of package crc24: Sum of one row, Fits, Open, Seal. -/
import Derived.Test.YtcfgdlpdnpnhmaaSkAP
import Derived.Deep.QuietTactic
import Derived.Laws.MakeOwn
import Derived.BigQuiet
import Derived.Test.YtcfgdlpdnpnhmaaSkAJ
import Derived.Test.YtcfgdlpdnpnhmaaSkAM
set_option linter.unusedVariables false
set_option linter.unusedSimpArgs false
namespace Go.Proofs.Ytcfgdlpdnpnhmaa
open Go.RowKit Go.Maps

theorem own_base {w : World} {base base' n : Nat} {v : Value} {xs : List Value} {e : TypeId} {size : Nat} (h : w.ownsRow base e size v n xs) (hb : base' ≤ base) : w.ownsRow base' e size v n xs :=
  ⟨h.1, h.2.imp id (fun ⟨g, cap, cur, e1, e2, r⟩ => ⟨g, cap, cur, e1, Nat.le_trans hb e2, r⟩)⟩
theorem crcsum_calls (g : Nat) (A : Option Addr) (n c : Nat) (l : Bs) (w : World) (hg : w.heap[g]? = some (.cells #[.slice A n c] 22 (0, 0))) (hB : Bts w A n l) (hn : n ≤ 140737488355328) :
    Calls Try.prog 145 #[.slice (some ⟨g, 0, none⟩) 1 1] w fun e w' => e = .returned (.int .u32 (Q.sum l)) ∧ Below w.heap.size w w' := by
  have b0 := blk_cell hg 0
  have hon := crcon_calls 11994318 A n c l w (by omega) hB hn
  rw [show (((11994318 : Nat) : Int)) = 11994318 from rfl] at hon
  have Hon := Lib.hid hon
  clear hon hB hg
  go_enter Try.func145, Try.ntmps145
  go_wp2_with fail
  refine wp_loop_rounds 2 ?_
  rw [rounds_succ]
  go_wp2_with (go_at_call 157; refine Hon.out.mono ?_; rintro e w1 ⟨rfl, hb1⟩)
  rw [rounds_succ]
  go_wp2_with fail
  go_ret
  exact ⟨rfl, hb1⟩

theorem crcfits_calls (s : Nat) (A : Option Addr) (n c : Nat) (l : Bs) (w : World) (hs : s < 4294967296) (hB : Bts w A n l) (hn : n ≤ 140737488355328) :
    Calls Try.prog 156 #[.slice A n c, .int .u32 s] w fun e w' => e = .returned (.bool ((Q.sum l : Int) == (s : Int))) ∧ Below w.heap.size w w' := by
  have hsum := crcsum_calls w.heap.size A n c l (w.alloc (.cells #[.slice A n c] 22)) (blk_new w _) (hB.below (al1 w _)) hn
  have Hsum := Lib.hid hsum
  clear hsum hB
  go_enter Try.func156, Try.ntmps156
  go_wp2_with (go_at_call 145; refine Hsum.out.mono ?_; rintro e w1 ⟨rfl, hb1⟩)
  go_ret
  exact ⟨rfl, (al1 w _).trans (hb1.mono (by simp))⟩

theorem or_three (a b c : Nat) (ha : a < 256) (hb : b < 256) (hc : c < 256) : bits .or .u32 (bits .or .u32 ((a : Int) * 65536) ((b : Int) * 256)) (c : Int) = ((a * 65536 + b * 256 + c : Nat) : Int) := by
  have h1 := Nat.two_pow_add_eq_or_of_lt (i := 16) (b := b * 256) (by omega) a
  have h2 := Nat.two_pow_add_eq_or_of_lt (i := 8) (b := c) (by omega) (a * 256 + b)
  rw [show (a : Int) * 65536 = ((a * 65536 : Nat) : Int) by omega, show (b : Int) * 256 = ((b * 256 : Nat) : Int) by omega, u32_or_nat _ _ (by omega) (by omega)]
  rw [show a * 65536 ||| b * 256 = a * 65536 + b * 256 by rw [show a * 65536 = 2 ^ 16 * a by omega, ← h1]]
  rw [u32_or_nat _ _ (by omega) (by omega)]
  rw [show a * 65536 + b * 256 = 2 ^ 8 * (a * 256 + b) by omega, ← h2]

def OpenGives (w : World) (l : Bs) (e : Ending) (w' : World) : Prop :=
  if l.length < 3 ∨ Q.sum (l.take (l.length - 3)) ≠ Q.three l (l.length - 3) then e = .returned (.tuple #[.slice none 0 0, .bool false]) ∧ Below w.heap.size w w'
  else ∃ A c, e = .returned (.tuple #[.slice A (l.length - 3) c, .bool true]) ∧ w'.ownsRow w.heap.size 5 1 (.slice A (l.length - 3) c) (l.length - 3) (vals (l.take (l.length - 3))) ∧ Below w.heap.size w w'
theorem OpenGives.no {w : World} {l : Bs} {e : Ending} {w' : World} (h : l.length < 3 ∨ Q.sum (l.take (l.length - 3)) ≠ Q.three l (l.length - 3)) (k : e = .returned (.tuple #[.slice none 0 0, .bool false]) ∧ Below w.heap.size w w') : OpenGives w l e w' := by
  unfold OpenGives; rw [if_pos h]; exact k
theorem OpenGives.yes {w : World} {l : Bs} {e : Ending} {w' : World} (h : ¬ (l.length < 3 ∨ Q.sum (l.take (l.length - 3)) ≠ Q.three l (l.length - 3))) (k : ∃ A c, e = .returned (.tuple #[.slice A (l.length - 3) c, .bool true]) ∧ w'.ownsRow w.heap.size 5 1 (.slice A (l.length - 3) c) (l.length - 3) (vals (l.take (l.length - 3))) ∧ Below w.heap.size w w') : OpenGives w l e w' := by
  unfold OpenGives; rw [if_neg h]; exact k
set_option maxHeartbeats 400000 in
theorem crcopen_calls (A : Option Addr) (n c : Nat) (l : Bs) (w : World) (hB : Bts w A n l) (hn : n ≤ 140737488355328) (hnc : n ≤ c) (hA : A = none → c = 0) :
    Calls Try.prog 140 #[.slice A n c] w (OpenGives w l) := by
  have hl := hB.1
  by_cases h3 : n < 3
  · have h3i : (n : Int) - 3 < 0 := by omega
    refine Calls.mono ?_ (fun e w' k => OpenGives.no (Or.inl (by rw [hl]; exact h3)) k)
    clear hB hl
    go_enter Try.func140, Try.ntmps140
    go_wp2_with fail
    go_ret2
    exact ⟨rfl, Below.refl _ _⟩
  · obtain ⟨m, rfl⟩ : ∃ m, n = m + 3 := ⟨n - 3, by omega⟩
    obtain ⟨pb, po, rfl, hcell⟩ := bts_at hB (by omega)
    have q0 := hcell m (by omega)
    have q1 := hcell (m + 1) (by omega)
    have q2 := hcell (m + 2) (by omega)
    obtain ⟨x, hx⟩ : ∃ x, x = (l.getD m 0).toNat := ⟨_, rfl⟩
    obtain ⟨y, hy⟩ : ∃ y, y = (l.getD (m + 1) 0).toNat := ⟨_, rfl⟩
    obtain ⟨z, hz⟩ : ∃ z, z = (l.getD (m + 2) 0).toNat := ⟨_, rfl⟩
    have hx256 : x < 256 := by rw [hx]; exact UInt8.toNat_lt _
    have hy256 : y < 256 := by rw [hy]; exact UInt8.toNat_lt _
    have hz256 : z < 256 := by rw [hz]; exact UInt8.toNat_lt _
    have hthree : Q.three l m = x * 65536 + y * 256 + z := by rw [hx, hy, hz]; rfl
    rw [← hx] at q0
    rw [← hy] at q1
    rw [← hz] at q2
    have hor := or_three x y z hx256 hy256 hz256
    rw [← hthree] at hor
    have ht24 := Q.three_lt l m
    obtain ⟨t, ht⟩ : ∃ t, t = Q.three l m := ⟨_, rfl⟩
    rw [← ht] at hor ht24
    have hi0 : ∀ W, (Instr.indexAt 22 (.slice (some ⟨pb, po, none⟩) (m + 3) c) (.int .i64 (m : Int))).run Try.prog W = .ok (.pointer (some ⟨pb, po + m, none⟩)) W := fun W => by
      rw [run_index ⟨pb, po, none⟩ (m + 3) c m (by omega) (by omega) W, add0, Int.toNat_natCast]
    have hi1 : ∀ W, (Instr.indexAt 22 (.slice (some ⟨pb, po, none⟩) (m + 3) c) (.int .i64 ((m : Int) + 1))).run Try.prog W = .ok (.pointer (some ⟨pb, po + (m + 1), none⟩)) W := fun W => by
      rw [run_index ⟨pb, po, none⟩ (m + 3) c ((m : Int) + 1) (by omega) (by omega) W, add0, show ((m : Int) + 1).toNat = m + 1 by omega]
    have hi2 : ∀ W, (Instr.indexAt 22 (.slice (some ⟨pb, po, none⟩) (m + 3) c) (.int .i64 ((m : Int) + 2))).run Try.prog W = .ok (.pointer (some ⟨pb, po + (m + 2), none⟩)) W := fun W => by
      rw [run_index ⟨pb, po, none⟩ (m + 3) c ((m : Int) + 2) (by omega) (by omega) W, add0, show ((m : Int) + 2).toNat = m + 2 by omega]
    have w0 : IntKind.i64.wrap ((m : Int) + 1) = (m : Int) + 1 := IntWalk.i64_in _ (by omega)
    have w1 : IntKind.i64.wrap ((m : Int) + 2) = (m : Int) + 2 := IntWalk.i64_in _ (by omega)
    have hs : ((m + 3 : Nat) : Int) - 3 = (m : Int) := by omega
    have hs2 : (m : Int) + 3 - 3 = (m : Int) := by omega
    have Hfits := Lib.hid (fun W (hW : Bts W (some ⟨pb, po, none⟩) m (l.take m)) => crcfits_calls t (some ⟨pb, po, none⟩) m c (l.take m) W (by omega) hW (by omega))
    have Hclone := Lib.hid (fun W (hW : Bts W (some ⟨pb, po, none⟩) m (l.take m)) => clone_calls (some ⟨pb, po, none⟩) m c (l.take m) W hW (by omega) hA)
    have hcut := run_cut_to (some ⟨pb, po, none⟩) (m + 3) c m (by omega)
    have HB := Lib.hid (hB.take m (by omega))
    have hl3 : l.length - 3 = m := by omega
    have Hl := Lib.hid hl
    have hlm : ¬ l.length < 3 := by omega
    have Hlm := Lib.hid hlm
    have Ht := Lib.hid ht
    obtain ⟨su, hsu⟩ : ∃ su, su = Q.sum (l.take m) := ⟨_, rfl⟩
    rw [← hsu] at Hfits
    have Hsu := Lib.hid hsu
    have hpost : ∀ e w', (if su = t then (∃ A c, e = .returned (.tuple #[.slice A m c, .bool true]) ∧ w'.ownsRow w.heap.size 5 1 (.slice A m c) m (vals (l.take m)) ∧ Below w.heap.size w w') else (e = .returned (.tuple #[.slice none 0 0, .bool false]) ∧ Below w.heap.size w w')) → OpenGives w l e w' := fun e w' k => by
      by_cases hq : su = t
      · rw [if_pos hq] at k
        refine OpenGives.yes ?_ (by rw [hl3]; exact k)
        rw [hl3, ← Hsu.out, ← Ht.out]
        rintro (h | h)
        · exact Hlm.out h
        · exact h hq
      · rw [if_neg hq] at k
        refine OpenGives.no (Or.inr ?_) k
        rw [hl3, ← Hsu.out, ← Ht.out]
        exact hq
    refine Calls.mono ?_ hpost
    have hwq : ∀ q, Below w.heap.size w (w.drewN q) := fun q => ((Ext.refl [] w).drewN q).nil_below
    have Hwq := Lib.hid hwq
    clear hB hcell hx hy hz hthree ht hl3 hl h3 hlm hsu hpost hA hwq
    by_cases hq : su = t
    all_goals
      first
        | (have gq : ((su : Int) == (t : Int)) = true := beq_iff_eq.2 (by omega))
        | (have gq : ((su : Int) == (t : Int)) = false := beq_eq_false_iff_ne.2 (by omega))
      simp only [hq, if_true, if_false]
      clear hq
      go_enter Try.func140, Try.ntmps140
      go_upto_region 4 with (fail)
      go_quiet (fail)
      go_wp2_with (first
        | (go_at_call 156; refine (Hfits.out _ (HB.out.below (Hwq.out _))).mono ?_; rintro e w1 ⟨rfl, hb1⟩; have hb2 := (Hwq.out _).trans hb1; have Hb2 := Lib.hid hb2; clear hb2 hb1)
        | (go_at_call 80; refine (Hclone.out _ (HB.out.below Hb2.out)).mono ?_; rintro e w3 ⟨A2, c2, rfl, hown, hb3⟩))
      go_ret2
      first
        | exact ⟨rfl, Hb2.out⟩
        | exact ⟨A2, c2, rfl, own_base hown Hb2.out.size, Hb2.out.trans (hb3.mono Hb2.out.size)⟩

/-- A row of bytes in new memory. -/
def NewBytes (w : World) (l : Bs) (e : Ending) (w' : World) : Prop := ∃ A c, e = .returned (.slice A l.length c) ∧ w'.ownsRow w.heap.size 5 1 (.slice A l.length c) l.length (vals l) ∧ Below w.heap.size w w'
theorem run_mk_bytes (k : Nat) (hk : k ≤ 16777216) : ∃ C : Array Value, C.size = k ∧ ∀ W : World, (Instr.makeSlice 22 (.int .i64 0) (.int .i64 (k : Int))).run Try.prog W = .ok (.slice (some ⟨W.heap.size, 0, none⟩) 0 k) (W.alloc (.cells C 5)) := by
  obtain ⟨i0, hi, hz0, hz1, hz2⟩ := info_parts info5
  refine ⟨madeCells (Value.int .u8 0).cells (k * i0.size), ?_, fun W => ?_⟩
  · rw [hz1, Nat.mul_one]
    have := size_madeCells (Value.int .u8 0).cells k
    simpa using this
  · have := run_make (P := Try.prog) W 22 5 i0 (.int .u8 0) Try.underlying22 hi hz0 .i64 .i64 0 k (Int.le_refl _) (by omega) (by rw [hz2]; omega) (by omega)
    simpa using this
set_option maxRecDepth 100000 in
set_option maxHeartbeats 400000 in
theorem crcseal_calls (A : Option Addr) (n c : Nat) (l : Bs) (w : World) (hB : Bts w A n l) (hn : n ≤ 1048576) :
    Calls Try.prog 122 #[.slice A n c] w (NewBytes w (Q.sealed l)) := by
  have hl := hB.1
  have hmk := mk_func
  have hs24 := Q.sum_lt l
  obtain ⟨s, hs⟩ : ∃ s, s = Q.sum l := ⟨_, rfl⟩
  have hsum := fun W g (hg : W.heap[g]? = some (.cells #[.slice A n c] 22 (0, 0))) (hW : Bts W A n l) => crcsum_calls g A n c l W hg hW (by omega)
  rw [← hs] at hs24 hsum
  have Hsum := Lib.hid hsum
  have HB := Lib.hid hB
  have Hs := Lib.hid hs
  have Hl := Lib.hid hl
  obtain ⟨C, hC, hmkb⟩ := run_mk_bytes (n + 3) (by omega)
  have hmkb' : ∀ W : World, (Instr.makeSlice 22 (.int .i64 0) (.int .i64 ((n : Int) + 3))).run Try.prog W = .ok (.slice (some ⟨W.heap.size, 0, none⟩) 0 (n + 3)) (W.alloc (.cells C 5)) := hmkb
  have HC := Lib.hid hC
  clear hsum hs hB hl hC hmkb
  go_enter Try.func122, Try.ntmps122
  go_upto_region 3 with (go_at_call 145; refine (Hsum.out _ _ (blk_new w _) (HB.out.below (al1 w _))).mono ?_; rintro e w1 ⟨rfl, hb1⟩)
  have hb2 : Below w.heap.size w w1 := (al1 w _).trans (hb1.mono (by simp))
  have hown : (w1.alloc (.cells C 5)).ownsRow w1.heap.size 5 1 (.slice (some ⟨w1.heap.size, 0, none⟩) 0 (n + 3)) 0 (vals []) := World.ownsRow_made w1 C (n + 3) (Nat.le_refl _) (by unfold maxLen; omega) (by rw [HC.out]; omega)
  have hB2 := HB.out.below (hb2.trans ((al1 w1 (.cells C 5)).mono hb2.size))
  have Hb2 := Lib.hid hb2
  clear hb2 hb1
  have hb3 : ∀ W : World, Bts (W.alloc (.cells #[.int .u8 ((s : Int) / 65536), .int .u8 ((s : Int) / 256 % 256), .int .u8 ((s : Int) % 256)] 5)) (some ⟨W.heap.size, 0, none⟩) 3 [UInt8.ofNat (s / 65536), UInt8.ofNat (s / 256), UInt8.ofNat s] := fun W =>
    Bts.of_block (blk_new W _) [UInt8.ofNat (s / 65536), UInt8.ofNat (s / 256), UInt8.ofNat s] (fun j hj => by
      rcases j with _ | _ | _ | j
      · simp [u8]; omega
      · simp [u8]
      · simp [u8]
      · simp at hj; omega)
  have Hb3 := Lib.hid hb3
  clear hb3
  have hz1 : w.heap.size ≤ w1.heap.size := Hb2.out.size
  go_wp2_with (first
    | (at_builtin; refine wpList_append_bts _ rfl (.tmp 14) (.tmp 23) rfl w1.heap.size _ n l rfl (hown2.alloc _) (some ⟨w2.heap.size, 0, none⟩) 3 3 _ rfl (Hb3.out w2) (by omega) (by have := hgr2.size; simp at this ⊢; omega) ?_; intro v3 w3 hown3 hgr3 _)
    | (at_builtin; refine wpList_append_bts _ rfl (.tmp 12) (.tmp 13) rfl w1.heap.size _ 0 [] rfl hown A n c l rfl hB2 (by omega) (by simp) ?_; intro v2 w2 hown2 hgr2 _; rw [Nat.zero_add, List.nil_append] at hown2; obtain ⟨A2, c2, rfl⟩ := own_shape hown2))
  go_ret
  obtain ⟨A3, c3, rfl⟩ := own_shape hown3
  have hsl : Q.sealed l = l ++ [UInt8.ofNat (s / 65536), UInt8.ofNat (s / 256), UInt8.ofNat s] := by unfold Q.sealed; rw [Hs.out]
  have hll : (Q.sealed l).length = n + 3 := by rw [Q.sealed_len, Hl.out]
  have e1 : Below w.heap.size w w2 := (Hb2.out.trans ((al1 w1 _).mono Hb2.out.size)).grown hgr2 (by have := Hb2.out.size; simp; omega) (fun k hk => by cases hk; exact hz1)
  have hA2 : ∀ k, (Value.slice A2 n c2).ownBlock = some k → w.heap.size ≤ k := fun k hk => Nat.le_trans hz1 ((hown2.lt k hk).1)
  have e2 : Below w.heap.size w w3 := (e1.alloc e1.size _).grown hgr3 (by have := e1.size; simp; omega) (fun k hk => hA2 k hk)
  unfold NewBytes
  rw [hsl, ← hsl, hll]
  refine ⟨A3, c3, rfl, ?_, e2⟩
  have := own_base hown3 hz1
  rw [hsl]
  exact this
end Go.Proofs.Ytcfgdlpdnpnhmaa
set_option linter.unusedVariables false
set_option linter.unusedSimpArgs false
namespace Go.Proofs.Ytcfgdlpdnpnhmaa
open Go.RowKit Go.Maps

/-- After j bits of a byte. -/
def bitN (c : Nat) : Nat → Nat → Nat
  | 0, s => s
  | j + 1, s => Q.bit c (7 - j) (bitN c j s)
theorem bitN_eight (c s : Nat) (hc : c < 256) : bitN c 8 s = Q.crcByte s c := by rw [Q.byte_eq s c hc]; rfl
theorem bitN_lt (c : Nat) {s : Nat} (h : s < 16777216) : ∀ j, bitN c j s < 16777216
  | 0 => h
  | j + 1 => Q.turn_lt _ _
theorem on_take_succ' (s0 : Nat) (l : Bs) (k : Nat) (hk : k < l.length) : Q.on s0 (l.take (k + 1)) = Q.crcByte (Q.on s0 (l.take k)) (l.getD k 0).toNat := on_take_succ s0 l k hk

theorem bool_out (t x i : Nat) : ((t : Int) / 8388608 % 2 != (x : Int) / 2 ^ i % 2) = (t.testBit 23 != x.testBit i) := by
  have h1 : (t : Int) / 8388608 % 2 = ((t / 2 ^ 23 % 2 : Nat) : Int) := by omega
  have h2 : (x : Int) / 2 ^ i % 2 = ((x / 2 ^ i % 2 : Nat) : Int) := by
    rw [Int.natCast_emod, Int.natCast_ediv]
    simp
  rw [h1, h2, Nat.testBit_eq_decide_div_mod_eq, Nat.testBit_eq_decide_div_mod_eq]
  rcases Nat.mod_two_eq_zero_or_one (t / 2 ^ 23) with a | a <;> rcases Nat.mod_two_eq_zero_or_one (x / 2 ^ i) with b | b <;> rw [a, b] <;> rfl
theorem bit_yes {x i t q : Nat} (h : (t.testBit 23 != x.testBit i) = true) (hq : q = t * 2 % 16777216) : Q.bit x i t = q ^^^ 8801531 := by
  unfold Q.bit Q.turn; rw [if_pos h, hq]
theorem bit_no {x i t q : Nat} (h : (t.testBit 23 != x.testBit i) = false) (hq : q = t * 2 % 16777216) : Q.bit x i t = q := by
  unfold Q.bit Q.turn; rw [if_neg (by rw [h]; decide), hq]
set_option maxRecDepth 100000 in
set_option maxHeartbeats 2000000 in
theorem refon_calls (s0 : Nat) (A : Option Addr) (n c : Nat) (l : Bs) (w : World) (hs0 : s0 < 4294967296) (hB : Bts w A n l) (hn : n ≤ 140737488355328) :
    Calls Try.prog 158 #[.int .u32 s0, .slice A n c] w fun e w' => e = .returned (.int .u32 (Q.on s0 l)) ∧ w = w' := by
  have HB := Lib.hid hB
  have hl := Lib.hid hB.1
  have hmod : (s0 : Int) % 16777216 = ((s0 % 16777216 : Nat) : Int) := by omega
  have e0 : Q.on s0 (l.take 0) = s0 % 16777216 := rfl
  have He0 := Lib.hid e0
  have Hmod := Lib.hid hmod
  obtain ⟨m, hm⟩ : ∃ m, m = s0 % 16777216 := ⟨_, rfl⟩
  rw [← hm] at He0 Hmod
  clear hB e0 hm hmod
  go_enter Try.func158, Try.ntmps158
  go_wp2_with fail
  rw [Hmod.out]
  go_loop [0, 5] (fun s i => ∃ k : Nat, i = .int .i64 k ∧ k ≤ n ∧ s = .int .u32 (Q.on s0 (l.take k))) (fun _ i => n - (intOf i).toNat)
  case atStart => exact ⟨0, rfl, Nat.zero_le _, by rw [He0.out]⟩
  case round =>
    obtain ⟨k, rfl, hk, rfl⟩ := hrel
    have hs24 := Q.on_lt s0 (l.take k)
    by_cases hkn : k < n
    · obtain ⟨pb, po, rfl, hcell⟩ := bts_at HB.out (by omega)
      have hxk := hcell k hkn
      have hix : ∀ W, (Instr.indexAt 22 (.slice (some ⟨pb, po, none⟩) n c) (.int .i64 (k : Int))).run Try.prog W = .ok (.pointer (some ⟨pb, po + k, none⟩)) W := fun W => by
        rw [run_index ⟨pb, po, none⟩ n c k (by omega) (by omega) W, add0, Int.toNat_natCast]
      have hts := on_take_succ s0 l k (by rw [hl.out]; exact hkn)
      obtain ⟨x, hx⟩ : ∃ x, x = (l.getD k 0).toNat := ⟨_, rfl⟩
      have hx256 : x < 256 := by rw [hx]; exact UInt8.toNat_lt _
      rw [← hx] at hxk hts
      obtain ⟨s, hs⟩ : ∃ s, s = Q.on s0 (l.take k) := ⟨_, rfl⟩
      rw [← hs] at hs24 hts ⊢
      have hend : bitN x 8 s = Q.crcByte s x := bitN_eight x s hx256
      have Hts := Lib.hid hts
      have Hend := Lib.hid hend
      have hwk : IntKind.i64.wrap ((k : Int) + 1) = (k : Int) + 1 := IntWalk.i64_in _ (by omega)
      clear hcell hts hx hs hend
      go_wp2_with fail
      go_loop [0, 6] (fun t b => ∃ j : Nat, b = .int .i64 (7 - (j : Int)) ∧ j ≤ 8 ∧ t = .int .u32 (bitN x j s)) (fun _ b => (intOf b + 1).toNat)
      case atStart => exact ⟨0, rfl, Nat.zero_le _, rfl⟩
      case round =>
        obtain ⟨j, rfl, hj, rfl⟩ := hrel
        have ht24 := bitN_lt x hs24 j
        by_cases hj8 : j < 8
        · obtain ⟨i, hi⟩ : ∃ i, i = 7 - j := ⟨_, rfl⟩
          have hii : (7 - (j : Int)) = (i : Int) := by omega
          rw [hii]
          obtain ⟨t, ht⟩ : ∃ t, t = bitN x j s := ⟨_, rfl⟩
          rw [← ht] at ht24 ⊢
          have hi8 : i < 8 := by omega
          obtain ⟨q, hq⟩ : ∃ q, q = t * 2 % 16777216 := ⟨_, rfl⟩
          have hq24 : q < 16777216 := by rw [hq]; exact Nat.mod_lt _ (by decide)
          have hqi : (t : Int) * 2 % 16777216 = (q : Int) := by omega
          have hxp := xor_poly q hq24
          have hstep : bitN x (j + 1) s = Q.bit x i t := by rw [ht, hi]; rfl
          have hwi : (i : Int) - 1 = 7 - ((j + 1 : Nat) : Int) := by omega
          have Hwi := Lib.hid hwi
          have hmeas : ((i : Int) - 1 + 1).toNat < ((i : Int) + 1).toNat := by omega
          have Hm := Lib.hid hmeas
          have hj1 : j + 1 ≤ 8 := by omega
          cases hb : (t.testBit 23 != x.testBit i)
          · have hst := hstep.trans (bit_no hb hq)
            have gb := bool_out t x i
            rw [hb] at gb
            have Hst := Lib.hid hst
            clear ht hi hii hst hstep hq hb hwi hmeas hj hj8
            go_wp2_with fail
            go_round
            case rel => exact ⟨j + 1, by rw [Hwi.out], hj1, by rw [Hst.out, hqi]⟩
            case measure => simp [intOf]
          · have hst := hstep.trans (bit_yes hb hq)
            have gb := bool_out t x i
            rw [hb] at gb
            have Hst := Lib.hid hst
            clear ht hi hii hst hstep hq hb hwi hmeas hj hj8
            go_wp2_with fail
            go_round
            case rel => exact ⟨j + 1, by rw [Hwi.out], hj1, by rw [Hst.out]⟩
            case measure => simp [intOf]
        · obtain rfl : j = 8 := by omega
          have hneg : (7 - ((8 : Nat) : Int)) = -1 := by omega
          rw [hneg, Hend.out]
          clear hneg ht24
          go_wp2_with fail
          go_round
          case rel => exact ⟨k + 1, by go_num, by omega, by rw [Hts.out]⟩
          case measure => simp [intOf]; omega
    · have hkk : k = n := by omega
      have hfull : l.take k = l := List.take_of_length_le (by rw [hl.out]; omega)
      rw [hfull]
      clear hfull hkk
      go_wp2_with fail
      go_ret
      exact ⟨rfl, rfl⟩

theorem refsum_calls (A : Option Addr) (n c : Nat) (l : Bs) (w : World) (hB : Bts w A n l) (hn : n ≤ 140737488355328) :
    Calls Try.prog 146 #[.slice A n c] w fun e w' => e = .returned (.int .u32 (Q.sum l)) ∧ w = w' := by
  have hon := refon_calls 11994318 A n c l w (by omega) hB hn
  rw [show (((11994318 : Nat) : Int)) = 11994318 from rfl] at hon
  have Hon := Lib.hid hon
  clear hon hB
  go_enter Try.func146, Try.ntmps146
  go_wp2_with (go_at_call 158; refine Hon.out.mono ?_; rintro e w1 ⟨rfl, rfl⟩)
  go_ret
  exact ⟨rfl, rfl⟩
end Go.Proofs.Ytcfgdlpdnpnhmaa
set_option linter.unusedVariables false
set_option linter.unusedSimpArgs false
namespace Go.Proofs.Ytcfgdlpdnpnhmaa
open Go.RowKit Go.Maps

namespace Q
theorem fs0 {l : Bs} (h : l.length = 0) : fsize l = (0, 23) := by unfold fsize; rw [if_pos h]
theorem fs_mark {l : Bs} (h : 0 < l.length) (h0 : l.getD 0 0 ≠ 102) : fsize l = (0, 20) := by unfold fsize; rw [if_neg (by omega), if_pos h0]
theorem fs_one {l : Bs} (h : l.length = 1) (h0 : l.getD 0 0 = 102) : fsize l = (0, 23) := by unfold fsize; rw [if_neg (by omega), if_neg (fun c => c h0), if_pos (by omega)]
theorem fs_kind {l : Bs} (h : 2 ≤ l.length) (h1 : l.getD 1 0 = 0) : fsize l = (0, 20) := by
  by_cases h0 : l.getD 0 0 = 102
  · unfold fsize; rw [if_neg (by omega), if_neg (fun c => c h0), if_neg (by omega), if_pos h1]
  · exact fs_mark (by omega) h0
theorem fs_short {l : Bs} (h : 2 ≤ l.length) (h5 : l.length < 5) (h0 : l.getD 0 0 = 102) (h1 : l.getD 1 0 ≠ 0) : fsize l = (0, 23) := by
  unfold fsize; rw [if_neg (by omega), if_neg (fun c => c h0), if_neg (by omega), if_neg h1, if_pos h5]
theorem fs_big {l : Bs} (h : 5 ≤ l.length) (h3 : 65536 < three l 2) : fsize l = (0, 20) := by
  by_cases h0 : l.getD 0 0 = 102
  · by_cases h1 : l.getD 1 0 = 0
    · exact fs_kind (by omega) h1
    · unfold fsize; rw [if_neg (by omega), if_neg (fun c => c h0), if_neg (by omega), if_neg h1, if_neg (by omega), if_pos h3]
  · exact fs_mark (by omega) h0
theorem fs_torn {l : Bs} (h : 5 ≤ l.length) (h0 : l.getD 0 0 = 102) (h1 : l.getD 1 0 ≠ 0) (h3 : three l 2 ≤ 65536) (h8 : l.length < three l 2 + 8) : fsize l = (0, 23) := by
  unfold fsize; rw [if_neg (by omega), if_neg (fun c => c h0), if_neg (by omega), if_neg h1, if_neg (by omega), if_neg (by omega), if_pos h8]
theorem fs_ok {l : Bs} (h0 : l.getD 0 0 = 102) (h1 : l.getD 1 0 ≠ 0) (h3 : three l 2 ≤ 65536) (h8 : three l 2 + 8 ≤ l.length) : fsize l = (three l 2 + 8, 0) := by
  unfold fsize; rw [if_neg (by omega), if_neg (fun c => c h0), if_neg (by omega), if_neg h1, if_neg (by omega), if_neg (by omega), if_neg (by omega)]
theorem getD_toNat (l : Bs) (i : Nat) (c : UInt8) : (l.getD i 0).toNat = c.toNat ↔ l.getD i 0 = c := UInt8.toNat_inj
end Q

theorem i64_or_nat (a b : Nat) (ha : a < 4294967296) (hb : b < 4294967296) : bits .or .i64 (a : Int) (b : Int) = ((a ||| b : Nat) : Int) := by
  have hx : a ||| b < 2 ^ 32 := Nat.or_lt_two_pow (by omega) (by omega)
  show IntKind.i64.wrap ((BitVec.ofInt 64 (a : Int) ||| BitVec.ofInt 64 (b : Int)).toNat : Int) = _
  have e : ∀ x : Nat, x < 4294967296 → (BitVec.ofInt 64 (x : Int)).toNat = x := fun x hx => by simp; omega
  rw [BitVec.toNat_or, e a ha, e b hb]
  exact IntWalk.i64_in _ (by omega)
theorem or_three_i (a b c : Nat) (ha : a < 256) (hb : b < 256) (hc : c < 256) : bits .or .i64 (bits .or .i64 ((a : Int) * 65536) ((b : Int) * 256)) (c : Int) = ((a * 65536 + b * 256 + c : Nat) : Int) := by
  have h1 := Nat.two_pow_add_eq_or_of_lt (i := 16) (b := b * 256) (by omega) a
  have h2 := Nat.two_pow_add_eq_or_of_lt (i := 8) (b := c) (by omega) (a * 256 + b)
  rw [show (a : Int) * 65536 = ((a * 65536 : Nat) : Int) by omega, show (b : Int) * 256 = ((b * 256 : Nat) : Int) by omega, i64_or_nat _ _ (by omega) (by omega)]
  rw [show a * 65536 ||| b * 256 = a * 65536 + b * 256 by rw [show a * 65536 = 2 ^ 16 * a by omega, ← h1]]
  rw [i64_or_nat _ _ (by omega) (by omega)]
  rw [show a * 65536 + b * 256 = 2 ^ 8 * (a * 256 + b) by omega, ← h2]

/-- Bytes of a row, by their cells. -/
theorem row_at {w : World} {A : Option Addr} {n : Nat} {l : Bs} (hB : Bts w A n l) (h0 : 0 < n) : ∃ pb po, A = some ⟨pb, po, none⟩ ∧ ∀ k, k < n → w.cell? ⟨pb, po + k, none⟩ = some (.int .u8 ((l.getD k 0).toNat : Int)) := bts_at hB h0
def SizeGives (w : World) (l : Bs) (e : Ending) (w' : World) : Prop := e = .returned (.tuple #[.int .i64 (Q.fsize l).1, .int .i64 (Q.fsize l).2]) ∧ Below w.heap.size w w'
theorem SizeGives.of {w : World} {l : Bs} {a b : Nat} (h : Q.fsize l = (a, b)) {e : Ending} {w' : World} (k : e = .returned (.tuple #[.int .i64 (a : Int), .int .i64 (b : Int)]) ∧ Below w.heap.size w w') : SizeGives w l e w' := by
  unfold SizeGives; rw [h]; exact k
set_option maxHeartbeats 1000000 in
theorem framesize_short (A : Option Addr) (n c : Nat) (l : Bs) (w : World) (hB : Bts w A n l) (hn : n < 5) (hnc : n ≤ c) :
    Calls Try.prog 139 #[.slice A n c] w (SizeGives w l) := by
  have hl := hB.1
  rcases Nat.eq_zero_or_pos n with h0 | h0
  · subst h0
    refine Calls.mono ?_ (fun e w' k => SizeGives.of (Q.fs0 hl) k)
    clear hB hl
    go_enter Try.func139, Try.ntmps139
    go_wp2_with fail
    go_ret2
    exact ⟨rfl, Below.refl _ _⟩
  · obtain ⟨pb, po, rfl, hcell⟩ := bts_at hB h0
    have q0 := hcell 0 h0
    rw [Nat.add_zero] at q0
    obtain ⟨x, hx⟩ : ∃ x, x = (l.getD 0 0).toNat := ⟨_, rfl⟩
    rw [← hx] at q0
    have hi0 : ∀ W, (Instr.indexAt 22 (.slice (some ⟨pb, po, none⟩) n c) (.int .i64 0)).run Try.prog W = .ok (.pointer (some ⟨pb, po, none⟩)) W := fun W => by
      rw [run_index ⟨pb, po, none⟩ n c 0 (by omega) (by omega) W, add0]; rfl
    by_cases h1 : n = 1
    · subst h1
      by_cases hm : x = 102
      · refine Calls.mono ?_ (fun e w' k => SizeGives.of (Q.fs_one hl (by rw [← Q.getD_toNat, ← hx, hm]; rfl)) k)
        subst hm
        clear hB hcell hx hl
        go_enter Try.func139, Try.ntmps139
        go_wp2_with fail
        go_ret2
        exact ⟨rfl, Below.refl _ _⟩
      · refine Calls.mono ?_ (fun e w' k => SizeGives.of (Q.fs_mark (by omega) (fun c => hm (by rw [hx, c]; rfl))) k)
        have gm : ((x : Int) != 102) = true := by rw [bne_iff_ne]; omega
        clear hB hcell hx hl hm
        go_enter Try.func139, Try.ntmps139
        go_wp2_with fail
        go_ret2
        exact ⟨rfl, Below.refl _ _⟩
    · have q1 := hcell 1 (by omega)
      obtain ⟨y, hy⟩ : ∃ y, y = (l.getD 1 0).toNat := ⟨_, rfl⟩
      rw [← hy] at q1
      have hi1 : ∀ W, (Instr.indexAt 22 (.slice (some ⟨pb, po, none⟩) n c) (.int .i64 1)).run Try.prog W = .ok (.pointer (some ⟨pb, po + 1, none⟩)) W := fun W => by
        rw [run_index ⟨pb, po, none⟩ n c 1 (by omega) (by omega) W, add0]; rfl
      by_cases hk : y = 0
      · refine Calls.mono ?_ (fun e w' k => SizeGives.of (Q.fs_kind (l := l) (by omega) (by rw [← Q.getD_toNat, ← hy, hk]; rfl)) k)
        subst hk
        clear hB hcell hx hy hl
        obtain h2 | h2 | h2 : n = 2 ∨ n = 3 ∨ n = 4 := by omega
        all_goals
          subst h2
          go_enter Try.func139, Try.ntmps139
          go_wp2_with fail
          go_ret2
          exact ⟨rfl, Below.refl _ _⟩
      · have gk : ((y : Int) == 0) = false := beq_eq_false_iff_ne.2 (by omega)
        by_cases hm : x = 102
        · refine Calls.mono ?_ (fun e w' k => SizeGives.of (Q.fs_short (l := l) (by omega) (by omega) (by rw [← Q.getD_toNat, ← hx, hm]; rfl) (fun c => hk (by rw [hy, c]; rfl))) k)
          subst hm
          clear hB hcell hx hy hl hk
          obtain h2 | h2 | h2 : n = 2 ∨ n = 3 ∨ n = 4 := by omega
          all_goals
            subst h2
            go_enter Try.func139, Try.ntmps139
            go_wp2_with fail
            go_ret2
            exact ⟨rfl, Below.refl _ _⟩
        · refine Calls.mono ?_ (fun e w' k => SizeGives.of (Q.fs_mark (l := l) (by omega) (fun c => hm (by rw [hx, c]; rfl))) k)
          have gm : ((x : Int) != 102) = true := by rw [bne_iff_ne]; omega
          clear hB hcell hx hy hl hk hm
          obtain h2 | h2 | h2 : n = 2 ∨ n = 3 ∨ n = 4 := by omega
          all_goals
            subst h2
            go_enter Try.func139, Try.ntmps139
            go_wp2_with fail
            go_ret2
            exact ⟨rfl, Below.refl _ _⟩
end Go.Proofs.Ytcfgdlpdnpnhmaa
set_option linter.unusedVariables false
set_option linter.unusedSimpArgs false
namespace Go.Proofs.Ytcfgdlpdnpnhmaa
open Go.RowKit Go.Maps

set_option maxRecDepth 100000 in
set_option maxHeartbeats 1000000 in
theorem framesize_long (A : Option Addr) (n c : Nat) (l : Bs) (w : World) (hB : Bts w A n l) (h5 : 5 ≤ n) (hn : n ≤ 140737488355328) (hnc : n ≤ c) :
    Calls Try.prog 139 #[.slice A n c] w (SizeGives w l) := by
  have hl := hB.1
  obtain ⟨pb, po, rfl, hcell⟩ := bts_at hB (by omega)
  have q0 := hcell 0 (by omega)
  rw [Nat.add_zero] at q0
  have q1 := hcell 1 (by omega)
  have q2 := hcell 2 (by omega)
  have q3 := hcell 3 (by omega)
  have q4 := hcell 4 (by omega)
  obtain ⟨x, hx⟩ : ∃ x, x = (l.getD 0 0).toNat := ⟨_, rfl⟩
  obtain ⟨y, hy⟩ : ∃ y, y = (l.getD 1 0).toNat := ⟨_, rfl⟩
  obtain ⟨b2, h2⟩ : ∃ b, b = (l.getD 2 0).toNat := ⟨_, rfl⟩
  obtain ⟨b3, h3⟩ : ∃ b, b = (l.getD 3 0).toNat := ⟨_, rfl⟩
  obtain ⟨b4, h4⟩ : ∃ b, b = (l.getD 4 0).toNat := ⟨_, rfl⟩
  have b2l : b2 < 256 := by rw [h2]; exact UInt8.toNat_lt _
  have b3l : b3 < 256 := by rw [h3]; exact UInt8.toNat_lt _
  have b4l : b4 < 256 := by rw [h4]; exact UInt8.toNat_lt _
  have hthree : Q.three l 2 = b2 * 65536 + b3 * 256 + b4 := by rw [h2, h3, h4]; rfl
  rw [← hx] at q0
  rw [← hy] at q1
  rw [← h2] at q2
  rw [← h3] at q3
  rw [← h4] at q4
  have hor := or_three_i b2 b3 b4 b2l b3l b4l
  rw [← hthree] at hor
  obtain ⟨t, ht⟩ : ∃ t, t = Q.three l 2 := ⟨_, rfl⟩
  have ht24 := Q.three_lt l 2
  rw [← ht] at hor ht24
  have hi0 : ∀ W, (Instr.indexAt 22 (.slice (some ⟨pb, po, none⟩) n c) (.int .i64 0)).run Try.prog W = .ok (.pointer (some ⟨pb, po, none⟩)) W := fun W => by
    rw [run_index ⟨pb, po, none⟩ n c 0 (by omega) (by omega) W, add0]; rfl
  have hi1 : ∀ W, (Instr.indexAt 22 (.slice (some ⟨pb, po, none⟩) n c) (.int .i64 1)).run Try.prog W = .ok (.pointer (some ⟨pb, po + 1, none⟩)) W := fun W => by
    rw [run_index ⟨pb, po, none⟩ n c 1 (by omega) (by omega) W, add0]; rfl
  have hi2 : ∀ W, (Instr.indexAt 22 (.slice (some ⟨pb, po, none⟩) n c) (.int .i64 2)).run Try.prog W = .ok (.pointer (some ⟨pb, po + 2, none⟩)) W := fun W => by
    rw [run_index ⟨pb, po, none⟩ n c 2 (by omega) (by omega) W, add0]; rfl
  have hi3 : ∀ W, (Instr.indexAt 22 (.slice (some ⟨pb, po, none⟩) n c) (.int .i64 3)).run Try.prog W = .ok (.pointer (some ⟨pb, po + 3, none⟩)) W := fun W => by
    rw [run_index ⟨pb, po, none⟩ n c 3 (by omega) (by omega) W, add0]; rfl
  have hi4 : ∀ W, (Instr.indexAt 22 (.slice (some ⟨pb, po, none⟩) n c) (.int .i64 4)).run Try.prog W = .ok (.pointer (some ⟨pb, po + 4, none⟩)) W := fun W => by
    rw [run_index ⟨pb, po, none⟩ n c 4 (by omega) (by omega) W, add0]; rfl
  have e0 : ((n : Int) == 0) = false := beq_eq_false_iff_ne.2 (by omega)
  have e1 : ((n : Int) == 1) = false := beq_eq_false_iff_ne.2 (by omega)
  have e2 : ((n : Int) == 2) = false := beq_eq_false_iff_ne.2 (by omega)
  have e3 : ((n : Int) == 3) = false := beq_eq_false_iff_ne.2 (by omega)
  have e4 : ((n : Int) == 4) = false := beq_eq_false_iff_ne.2 (by omega)
  have hwq : ∀ q, Below w.heap.size w (w.drewN q) := fun q => ((Ext.refl [] w).drewN q).nil_below
  have Hwq := Lib.hid hwq
  clear hcell hthree hwq h2 h3 h4 hB

  by_cases hbig : 65536 < t
  · refine Calls.mono ?_ (fun e w' k => SizeGives.of (Q.fs_big (l := l) (by omega) (by rw [← ht]; exact hbig)) k)
    have gb : decide ((65536 : Int) < (t : Int)) = true := decide_eq_true (by omega)
    clear ht hx hy hl hbig
    go_enter Try.func139, Try.ntmps139
    go_upto_region 7 with (fail)
    go_quiet (fail)
    go_wp2_with fail
    go_ret2
    exact ⟨rfl, Hwq.out _⟩
  · have gb : decide ((65536 : Int) < (t : Int)) = false := decide_eq_false (by omega)
    by_cases hk : y = 0
    · refine Calls.mono ?_ (fun e w' k => SizeGives.of (Q.fs_kind (l := l) (by omega) (by rw [← Q.getD_toNat, ← hy, hk]; rfl)) k)
      subst hk
      clear ht hx hy hl hbig
      go_enter Try.func139, Try.ntmps139
      go_upto_region 7 with (fail)
      go_quiet (fail)
      go_wp2_with fail
      go_ret2
      exact ⟨rfl, Hwq.out _⟩
    · have gk : ((y : Int) == 0) = false := beq_eq_false_iff_ne.2 (by omega)
      by_cases hm : x = 102
      · have hgx : l.getD 0 0 = 102 := by rw [← Q.getD_toNat, ← hx, hm]; rfl
        have hgy : l.getD 1 0 ≠ 0 := fun c => hk (by rw [hy, c]; rfl)
        have gz : (((t : Int) + 8) == 0) = false := beq_eq_false_iff_ne.2 (by omega)
        by_cases h8 : n < t + 8
        · refine Calls.mono ?_ (fun e w' k => SizeGives.of (Q.fs_torn (l := l) (by omega) hgx hgy (by rw [← ht]; omega) (by rw [← ht]; omega)) k)
          have g8 : decide ((n : Int) < (t : Int) + 8) = true := decide_eq_true (by omega)
          subst hm
          clear ht hx hy hl hbig hk hgx hgy h8
          go_enter Try.func139, Try.ntmps139
          go_upto_region 7 with (fail)
          go_quiet (fail)
          go_wp2_with fail
          go_ret2
          exact ⟨rfl, Hwq.out _⟩
        · have hok := Q.fs_ok (l := l) hgx hgy (by rw [← ht]; omega) (by rw [← ht]; omega)
          rw [← ht] at hok
          refine Calls.mono ?_ (fun e w' k => SizeGives.of hok k)
          rw [show ((t + 8 : Nat) : Int) = (t : Int) + 8 by omega]
          clear hok
          have g8 : decide ((n : Int) < (t : Int) + 8) = false := decide_eq_false (by omega)
          subst hm
          clear ht hx hy hl hbig hk hgx hgy h8
          go_enter Try.func139, Try.ntmps139
          go_upto_region 7 with (fail)
          go_quiet (fail)
          go_wp2_with fail
          go_ret2
          exact ⟨rfl, Hwq.out _⟩
      · refine Calls.mono ?_ (fun e w' k => SizeGives.of (Q.fs_mark (l := l) (by omega) (fun c => hm (by rw [hx, c]; rfl))) k)
        have gm : ((x : Int) != 102) = true := by rw [bne_iff_ne]; omega
        clear ht hx hy hl hbig hk hm
        go_enter Try.func139, Try.ntmps139
        go_upto_region 7 with (fail)
        go_quiet (fail)
        go_wp2_with fail
        go_ret2
        exact ⟨rfl, Hwq.out _⟩
theorem framesize_calls (A : Option Addr) (n c : Nat) (l : Bs) (w : World) (hB : Bts w A n l) (hn : n ≤ 140737488355328) (hnc : n ≤ c) :
    Calls Try.prog 139 #[.slice A n c] w (SizeGives w l) := by
  by_cases h : n < 5
  · exact framesize_short A n c l w hB h hnc
  · exact framesize_long A n c l w hB (by omega) hn hnc

/-- What Take answers. -/
def TakeGives (w : World) (f : Q.Fr) (e : Ending) (w' : World) : Prop :=
  if f.e = 0 then ∃ A c, e = .returned (.tuple #[.int .u8 f.kind.toNat, .slice A f.body.length c, .int .i64 f.n, .int .i64 0]) ∧ Bts w' A f.body.length f.body ∧ f.body.length ≤ c ∧ (A = none → c = 0) ∧ (∀ ad, A = some ad → w.heap.size ≤ ad.block ∧ ad.block < w'.heap.size) ∧ Below w.heap.size w w'
  else e = .returned (.tuple #[.int .u8 0, .slice none 0 0, .int .i64 0, .int .i64 f.e]) ∧ Below w.heap.size w w'
theorem TakeGives.no {w : World} {f : Q.Fr} {k : Nat} (h0 : f.e = k) (h1 : k ≠ 0) {e : Ending} {w' : World} (h : e = .returned (.tuple #[.int .u8 0, .slice none 0 0, .int .i64 0, .int .i64 (k : Int)]) ∧ Below w.heap.size w w') : TakeGives w f e w' := by
  unfold TakeGives; rw [if_neg (by rw [h0]; exact h1), h0]; exact h
end Go.Proofs.Ytcfgdlpdnpnhmaa
set_option linter.unusedVariables false
set_option linter.unusedSimpArgs false
namespace Go.Proofs.Ytcfgdlpdnpnhmaa
open Go.RowKit Go.Maps

theorem ftake_no {l : Bs} (h : (Q.fsize l).2 ≠ 0) : (Q.ftake l).e = (Q.fsize l).2 := by unfold Q.ftake; rw [if_pos h]
theorem ftake_sum {l : Bs} (h : (Q.fsize l).2 = 0) (hs : Q.sum (l.take ((Q.fsize l).1 - 3)) ≠ Q.three l ((Q.fsize l).1 - 3)) : (Q.ftake l).e = 22 := by
  unfold Q.ftake; rw [if_neg (fun c => c h), if_neg hs]
theorem ftake_yes {l : Bs} (h : (Q.fsize l).2 = 0) (hs : Q.sum (l.take ((Q.fsize l).1 - 3)) = Q.three l ((Q.fsize l).1 - 3)) : Q.ftake l = ⟨l.getD 1 0, (l.take ((Q.fsize l).1 - 3)).drop 5, (Q.fsize l).1, 0⟩ := by
  unfold Q.ftake; rw [if_neg (fun c => c h), if_pos hs]
theorem getD_take0 (x : Bs) (m i : Nat) (h : i < m) : (x.take m).getD i 0 = x.getD i 0 := by
  simp only [List.getD_eq_getElem?_getD]
  rw [List.getElem?_take_of_lt h]
theorem three_take (l : Bs) (k : Nat) (h : k + 3 ≤ l.length) : Q.three (l.take (k + 3)) k = Q.three l k := by
  unfold Q.three
  rw [getD_take0 l (k + 3) k (by omega), getD_take0 l (k + 3) (k + 1) (by omega), getD_take0 l (k + 3) (k + 2) (by omega)]

set_option maxRecDepth 100000 in
set_option maxHeartbeats 1000000 in
theorem frametake_calls (A : Option Addr) (n c : Nat) (l : Bs) (w : World) (hB : Bts w A n l) (hn : n ≤ 140737488355328) (hnc : n ≤ c) (hA : A = none → c = 0) :
    Calls Try.prog 113 #[.slice A n c] w (TakeGives w (Q.ftake l)) := by
  have hsz := framesize_calls A n c l w hB hn hnc
  unfold SizeGives at hsz
  have hl := hB.1
  by_cases he : (Q.fsize l).2 = 0
  · obtain ⟨g0, g1, g2, g3, g4⟩ := Q.fsize_good he
    rw [he] at hsz
    obtain ⟨m, hm⟩ : ∃ m, (Q.fsize l).1 = m + 3 := ⟨(Q.fsize l).1 - 3, by omega⟩
    have hm5 : 5 ≤ m := by omega
    have hmn : m + 3 ≤ n := by omega
    rw [hm, show ((m + 3 : Nat) : Int) = (m : Int) + 3 by omega] at hsz
    have Hsz := Lib.hid hsz
    have hcut : ∀ W, (Instr.slice 22 (.slice A n c) none (some (.int .i64 ((m : Int) + 3))) none).run Try.prog W = .ok (.slice A (m + 3) c) W := fun W => run_cut_to A n c (m + 3) (by omega) W
    have hopen := fun W (hW : Bts W A (m + 3) (l.take (m + 3))) => crcopen_calls A (m + 3) c (l.take (m + 3)) W hW (by omega) (by omega) hA
    have htl : (l.take (m + 3)).length = m + 3 := by rw [List.length_take]; omega
    have htt : (l.take (m + 3)).take m = l.take m := by rw [List.take_take]; congr 1; omega
    have hth := three_take l m (by omega)
    have HB := Lib.hid (hB.take (m + 3) hmn)
    by_cases hs : Q.sum (l.take m) = Q.three l m
    · have hy := ftake_yes he (by rw [hm]; exact hs)
      rw [hm, Nat.add_sub_cancel] at hy
      have hopen' := fun W (hW : Bts W A (m + 3) (l.take (m + 3))) => (hopen W hW).mono (fun e w' k => show (∃ A2 c2, e = .returned (.tuple #[.slice A2 m c2, .bool true]) ∧ w'.ownsRow W.heap.size 5 1 (.slice A2 m c2) m (vals (l.take m)) ∧ Below W.heap.size W w') by
        unfold OpenGives at k
        rw [htl, Nat.add_sub_cancel, htt, hth, if_neg (by rintro (q | q); omega; exact q hs)] at k
        exact k)
      have Hopen := Lib.hid hopen'
      have hbody : ((l.take m).drop 5).length = m - 5 := by rw [List.length_drop, List.length_take]; omega
      have Hbody := Lib.hid hbody
      have hkind : ∃ y, y = (l.getD 1 0).toNat := ⟨_, rfl⟩
      obtain ⟨y, hyy⟩ := hkind
      have Hyy := Lib.hid hyy
      have hlm : (l.take m).length = m := by rw [List.length_take]; omega
      have Hlm := Lib.hid hlm
      rw [hy]
      unfold TakeGives
      simp only [if_true]
      rw [hbody, ← hyy]
      have hgm : (l.take m).getD 1 0 = l.getD 1 0 := getD_take0 l m 1 (by omega)
      have Hgm := Lib.hid hgm
      clear hsz hopen htl htt hth hs hy hopen' hbody hyy hlm hgm hm he g4 hB hA hl
      go_enter Try.func113, Try.ntmps113
      go_upto_region 7 with (first
        | (go_at_call 139; refine Hsz.out.mono ?_; rintro e w1 ⟨rfl, hb1⟩; have Hb1 := Lib.hid hb1; clear hb1)
        | (go_at_call 140; refine (Hopen.out _ (HB.out.below Hb1.out)).mono ?_; rintro e w2 ⟨A2, c2, rfl, hown, hb2⟩))
      obtain ⟨A3, c3, hv3, hbt, hmc, hA3⟩ := Bts.of_own hown
      injection hv3 with e1 e2 e3
      subst e1 e3
      clear e2
      obtain ⟨gb, cap, hv, hg1, hg2⟩ := World.ownsRow.form hown (by omega)
      injection hv with e1 e2 e3
      subst e1
      clear e2 e3
      have hc1 := hbt.2 (by omega)
      obtain ⟨ad, had, hcell⟩ := hc1
      injection had with had
      subst had
      have q1 := hcell 1 (by omega)
      rw [add0, Nat.zero_add, show u8 (l.take m) 1 = (y : Int) by unfold u8; rw [Hgm.out, ← Hyy.out]] at q1
      have hi1 : ∀ W, (Instr.indexAt 22 (.slice (some ⟨gb, 0, none⟩) m c2) (.int .i64 1)).run Try.prog W = .ok (.pointer (some ⟨gb, 1, none⟩)) W := fun W => by
        rw [run_index ⟨gb, 0, none⟩ m c2 1 (by omega) (by omega) W, add0]; rfl
      have hoff : ∀ W, (Instr.slice 22 (.slice (some ⟨gb, 0, none⟩) m c2) (some (.int .i64 5)) none none).run Try.prog W = .ok (.slice (if c2 = 5 then (some ⟨gb, 0, none⟩ : Option Addr) else some ⟨gb, 5, none⟩) (m - 5) (c2 - 5)) W := fun W => by
        have := run_cut_from (some ⟨gb, 0, none⟩) m c2 5 (by omega) W
        simpa [add0] using this
      obtain ⟨Ad, hAd⟩ : ∃ Ad, Ad = (if c2 = 5 then (some ⟨gb, 0, none⟩ : Option Addr) else some ⟨gb, 5, none⟩) := ⟨_, rfl⟩
      have hdr := hbt.drop (c := c2) 5 hm5 hmc
      rw [show (if c2 = 5 then (some ⟨gb, 0, none⟩ : Option Addr) else (some ⟨gb, 0, none⟩ : Option Addr).map (·.add 5)) = Ad by rw [hAd]; simp [add0]] at hdr
      rw [← hAd] at hoff
      have hblk : ∀ ad, Ad = some ad → w.heap.size ≤ ad.block ∧ ad.block < w2.heap.size := fun ad e => by
        have hs1 := Hb1.out.size
        rw [hAd] at e
        split at e
        · cases e; exact ⟨by show _ ≤ gb; omega, hg2⟩
        · cases e; exact ⟨by show _ ≤ gb; omega, hg2⟩
      have hnn : Ad = none → c2 - 5 = 0 := fun e => by rw [hAd] at e; split at e <;> cases e
      have Hdr := Lib.hid hdr
      have Hblk := Lib.hid hblk
      have Hnn := Lib.hid hnn
      have Hb2 := Lib.hid hb2
      have hwq : ∀ q, Below w2.heap.size w2 (w2.drewN q) := fun q => ((Ext.refl [] w2).drewN q).nil_below
      have Hwq := Lib.hid hwq
      clear hcell hown hA3 hbt hAd hdr hblk hnn hb2 hg1 hwq
      go_quiet (fail)
      go_wp2_with fail
      refine bodyPost_ret (v := .tuple #[.int .u8 (y : Int), .slice Ad (m - 5) (c2 - 5), .int .i64 ((m : Int) + 3), .int .i64 0]) (by simp [results, Try.results113, go_sem]) rfl ?_
      refine ⟨Ad, c2 - 5, rfl, Hdr.out.below (Hwq.out _), by omega, Hnn.out, Hblk.out, (Hb1.out.trans (Hb2.out.mono Hb1.out.size)).trans ((Hwq.out _).mono (Hb1.out.trans (Hb2.out.mono Hb1.out.size)).size)⟩
    · have hy := ftake_sum he (by rw [hm]; exact hs)
      have hopen' := fun W (hW : Bts W A (m + 3) (l.take (m + 3))) => (hopen W hW).mono (fun e w' k => show (e = .returned (.tuple #[.slice none 0 0, .bool false]) ∧ Below W.heap.size W w') by
        unfold OpenGives at k
        rw [htl, Nat.add_sub_cancel, htt, hth, if_pos (Or.inr hs)] at k
        exact k)
      have Hopen := Lib.hid hopen'
      refine Calls.mono ?_ (fun e w' k => TakeGives.no hy (by decide) k)
      clear hsz hopen htl htt hth hs hy hopen' hm he g4 hB hA hl
      go_enter Try.func113, Try.ntmps113
      go_wp2_with (first
        | (go_at_call 139; refine Hsz.out.mono ?_; rintro e w1 ⟨rfl, hb1⟩; have Hb1 := Lib.hid hb1; clear hb1)
        | (go_at_call 140; refine (Hopen.out _ (HB.out.below Hb1.out)).mono ?_; rintro e w2 ⟨rfl, hb2⟩))
      refine bodyPost_ret (v := .tuple #[.int .u8 0, .slice none 0 0, .int .i64 0, .int .i64 22]) (by simp [results, Try.results113, go_sem]) rfl ?_
      exact ⟨rfl, Hb1.out.trans (hb2.mono Hb1.out.size)⟩
  · obtain ⟨k, hk⟩ : ∃ k, k = (Q.fsize l).2 := ⟨_, rfl⟩
    rw [← hk] at hsz he
    have Hsz := Lib.hid hsz
    have gk : ((k : Int) != 0) = true := by rw [bne_iff_ne]; omega
    refine Calls.mono ?_ (fun e w' q => TakeGives.no (k := k) (by rw [ftake_no (by rw [← hk]; exact he), hk]) he q)
    clear hsz hk he hB hA hl
    go_enter Try.func113, Try.ntmps113
    go_wp2_with (go_at_call 139; refine Hsz.out.mono ?_; rintro e w1 ⟨rfl, hb1⟩)
    refine bodyPost_ret (v := .tuple #[.int .u8 0, .slice none 0 0, .int .i64 0, .int .i64 (k : Int)]) (by simp [results, Try.results113, go_sem]) rfl ?_
    exact ⟨rfl, hb1⟩
end Go.Proofs.Ytcfgdlpdnpnhmaa
set_option linter.unusedVariables false
set_option linter.unusedSimpArgs false
namespace Go.Proofs.Ytcfgdlpdnpnhmaa
open Go.RowKit Go.Maps

/-- Is it one frame, and nothing behind it? -/
def isWhole (l : Bs) : Prop := (Q.ftake l).e = 0 ∧ (Q.ftake l).n = l.length
def WholeYes (w : World) (f : Q.Fr) (e : Ending) (w' : World) : Prop := ∃ A c, e = .returned (.tuple #[.int .u8 f.kind.toNat, .slice A f.body.length c, .bool true]) ∧ w'.ownsRow w.heap.size 5 1 (.slice A f.body.length c) f.body.length (vals f.body) ∧ Below w.heap.size w w'
def WholeNo (w : World) (e : Ending) (w' : World) : Prop := e = .returned (.tuple #[.int .u8 0, .slice none 0 0, .bool false]) ∧ Below w.heap.size w w'
theorem ftake_len {l : Bs} (h : (Q.ftake l).e = 0) : (Q.ftake l).n ≤ l.length ∧ (Q.ftake l).body.length ≤ l.length := by
  by_cases he : (Q.fsize l).2 = 0
  · obtain ⟨g0, g1, g2, g3, g4⟩ := Q.fsize_good he
    by_cases hs : Q.sum (l.take ((Q.fsize l).1 - 3)) = Q.three l ((Q.fsize l).1 - 3)
    · rw [ftake_yes he hs]
      refine ⟨by dsimp only; omega, by dsimp only; rw [List.length_drop, List.length_take]; omega⟩
    · rw [ftake_sum he hs] at h; exact absurd h (by decide)
  · rw [ftake_no he] at h; exact absurd h he
set_option maxRecDepth 100000 in
set_option maxHeartbeats 1000000 in
theorem framewhole_yes (A : Option Addr) (n c : Nat) (l : Bs) (w : World) (hB : Bts w A n l) (hn : n ≤ 140737488355328) (hnc : n ≤ c) (hA : A = none → c = 0) (hw : isWhole l) :
    Calls Try.prog 62 #[.slice A n c] w (WholeYes w (Q.ftake l)) := by
  obtain ⟨h0, h1⟩ := hw
  have hl := hB.1
  have hlen := (ftake_len h0).2
  have hbl : (Q.ftake l).body.length ≤ 140737488355328 := by omega
  rw [hl] at h1
  have htk := (frametake_calls A n c l w hB hn hnc hA).mono (fun e w' k => show (∃ A2 c2, e = .returned (.tuple #[.int .u8 (Q.ftake l).kind.toNat, .slice A2 (Q.ftake l).body.length c2, .int .i64 (n : Int), .int .i64 0]) ∧ Bts w' A2 (Q.ftake l).body.length (Q.ftake l).body ∧ (A2 = none → c2 = 0) ∧ Below w.heap.size w w') by
    unfold TakeGives at k
    rw [if_pos h0, h1] at k
    obtain ⟨A2, c2, k1, k2, k3, k4, k5, k6⟩ := k
    exact ⟨A2, c2, k1, k2, k4, k6⟩)
  have Htk := Lib.hid htk
  have gn : ((n : Int) != (n : Int)) = false := by simp
  generalize Q.ftake l = f at *
  clear htk h0 h1 hl hlen hB hA
  unfold WholeYes
  go_enter Try.func62, Try.ntmps62
  go_wp2_with (first
    | (go_at_call 113; refine Htk.out.mono ?_; rintro e w1 ⟨A2, c2, rfl, hbt, hnn, hb1⟩)
    | (go_at_call 80; refine (clone_calls A2 _ c2 f.body w1 hbt hbl hnn).mono ?_; rintro e w2 ⟨A3, c3, rfl, hown, hb2⟩))
  refine bodyPost_ret (v := .tuple #[.int .u8 f.kind.toNat, .slice A3 f.body.length c3, .bool true]) (by simp [results, Try.results62, go_sem]) rfl ?_
  exact ⟨A3, c3, rfl, own_base hown hb1.size, hb1.trans (hb2.mono hb1.size)⟩
set_option maxRecDepth 100000 in
set_option maxHeartbeats 1000000 in
theorem framewhole_no (A : Option Addr) (n c : Nat) (l : Bs) (w : World) (hB : Bts w A n l) (hn : n ≤ 140737488355328) (hnc : n ≤ c) (hA : A = none → c = 0) (hw : ¬ isWhole l) :
    Calls Try.prog 62 #[.slice A n c] w (WholeNo w) := by
  have hl := hB.1
  have htk := frametake_calls A n c l w hB hn hnc hA
  by_cases h0 : (Q.ftake l).e = 0
  · have h1 : ¬ (Q.ftake l).n = n := fun e => hw ⟨h0, by rw [e, hl]⟩
    have gn : (((Q.ftake l).n : Int) != (n : Int)) = true := by rw [bne_iff_ne]; omega
    have htk := htk.mono (fun e w' k => show (∃ A2 c2, e = .returned (.tuple #[.int .u8 (Q.ftake l).kind.toNat, .slice A2 (Q.ftake l).body.length c2, .int .i64 ((Q.ftake l).n : Int), .int .i64 0]) ∧ Below w.heap.size w w') by
      unfold TakeGives at k
      rw [if_pos h0] at k
      obtain ⟨A2, c2, k1, k2, k3, k4, k5, k6⟩ := k
      exact ⟨A2, c2, k1, k6⟩)
    have Htk := Lib.hid htk
    generalize Q.ftake l = f at *
    clear htk h0 h1 hl hB hA hw
    unfold WholeNo
    go_enter Try.func62, Try.ntmps62
    go_wp2_with (go_at_call 113; refine Htk.out.mono ?_; rintro e w1 ⟨A2, c2, rfl, hb1⟩)
    refine bodyPost_ret (v := .tuple #[.int .u8 0, .slice none 0 0, .bool false]) (by simp [results, Try.results62, go_sem]) rfl ?_
    exact ⟨rfl, hb1⟩
  · have htk := htk.mono (fun e w' k => show (e = .returned (.tuple #[.int .u8 0, .slice none 0 0, .int .i64 0, .int .i64 ((Q.ftake l).e : Int)]) ∧ Below w.heap.size w w') by
      unfold TakeGives at k
      rw [if_neg h0] at k
      exact k)
    have Htk := Lib.hid htk
    have ge : (((Q.ftake l).e : Int) != 0) = true := by rw [bne_iff_ne]; omega
    generalize Q.ftake l = f at *
    clear htk h0 hl hB hA hw
    unfold WholeNo
    go_enter Try.func62, Try.ntmps62
    go_wp2_with (go_at_call 113; refine Htk.out.mono ?_; rintro e w1 ⟨rfl, hb1⟩)
    refine bodyPost_ret (v := .tuple #[.int .u8 0, .slice none 0 0, .bool false]) (by simp [results, Try.results62, go_sem]) rfl ?_
    exact ⟨rfl, hb1⟩

/-- A frame in new memory. -/
def WrapGives (w : World) (l : Bs) (e : Ending) (w' : World) : Prop := ∃ A c, e = .returned (.tuple #[.slice A l.length c, .int .i64 0]) ∧ w'.ownsRow w.heap.size 5 1 (.slice A l.length c) l.length (vals l) ∧ Below w.heap.size w w'
set_option maxRecDepth 100000 in
set_option maxHeartbeats 1000000 in
theorem framewrap_calls (k : UInt8) (A : Option Addr) (n c : Nat) (l : Bs) (w : World) (hB : Bts w A n l) (hn : n ≤ 65536) (kn : Nat) (hk : kn = k.toNat) (hk0 : 0 < kn) :
    Calls Try.prog 76 #[.int .u8 (kn : Int), .slice A n c] w (WrapGives w (Q.frame k l)) := by
  have hl := hB.1
  have gk : ((kn : Int) == 0) = false := beq_eq_false_iff_ne.2 (by omega)
  have gn : decide ((65536 : Int) < (n : Int)) = false := decide_eq_false (by omega)
  have HB := Lib.hid hB
  have hk256 : kn < 256 := by rw [hk]; exact k.toNat_lt
  have hv5 : (#[Value.int .u8 102, .int .u8 (kn : Int), .int .u8 ((n : Int) / 65536), .int .u8 ((n : Int) / 256 % 256), .int .u8 ((n : Int) % 256)] : Array Value).toList = vals (Q.headOf k l.length) := by
    rw [hl]
    unfold vals Q.headOf
    simp [hk]
    omega
  have hb5 : ∀ W : World, (W.alloc (.cells #[.int .u8 102, .int .u8 (kn : Int), .int .u8 ((n : Int) / 65536), .int .u8 ((n : Int) / 256 % 256), .int .u8 ((n : Int) % 256)] 5)).ownsRow W.heap.size 5 1 (.slice (some ⟨W.heap.size, 0, none⟩) 5 5) 5 (vals (Q.headOf k l.length)) := fun W => by
    rw [← hv5]
    exact World.ownsRow_lit W _ 5 (Nat.le_refl _) (by unfold maxLen; omega) rfl
  have hseal := fun W (A2 : Option Addr) (m c2 : Nat) (l2 : Bs) (hW : Bts W A2 m l2) (hm : m ≤ 1048576) => crcseal_calls A2 m c2 l2 W hW hm
  have Hseal := Lib.hid hseal
  have Hb5 := Lib.hid hb5
  have Hl := Lib.hid hl
  have Hk := Lib.hid hk
  clear hseal hb5 hB hl hk
  go_enter Try.func76, Try.ntmps76
  go_upto_region 6 with (fail)
  go_wp2_with (first
    | (at_builtin; refine wpList_append_bts _ rfl (.tmp 25) (.tmp 26) rfl w.heap.size _ 5 (Q.headOf k l.length) rfl (Hb5.out w) A n c l rfl (HB.out.below (al1 w _)) (by omega) (by simp) ?_; intro v2 w2 hown2 hgr2 _; obtain ⟨A2, c2, rfl⟩ := own_shape hown2; obtain ⟨A3, c3, hv3, hbt, _, _⟩ := Bts.of_own hown2; have hgo := Lib.hid hgr2; clear hgr2; injection hv3 with e1 e2 e3; subst e1; clear e2 e3)
    | (go_at_call 122; refine (Hseal.out w2 _ _ c2 _ hbt (by omega)).mono ?_; rintro e w4 ⟨A4, c4, rfl, hown4, hb4⟩))
  go_ret2
  have e1 : Below w.heap.size w w2 := (al1 w _).grown hgo.out (by simp) (fun k hk => by cases hk; exact Nat.le_refl _)
  have hf : Q.frame k l = Q.sealed (Q.headOf k l.length ++ l) := rfl
  rw [← hf] at hown4
  exact ⟨A4, c4, rfl, own_base hown4 e1.size, e1.trans (hb4.mono e1.size)⟩
end Go.Proofs.Ytcfgdlpdnpnhmaa
set_option linter.unusedVariables false
set_option linter.unusedSimpArgs false
namespace Go.Proofs.Ytcfgdlpdnpnhmaa
open Go.RowKit Go.Maps

set_option maxRecDepth 100000 in
set_option maxHeartbeats 400000 in
theorem refseal_calls (A : Option Addr) (n c : Nat) (l : Bs) (w : World) (hB : Bts w A n l) (hn : n ≤ 1048576) :
    Calls Try.prog 123 #[.slice A n c] w (NewBytes w (Q.sealed l)) := by
  have hl := hB.1
  have hs24 := Q.sum_lt l
  obtain ⟨s, hs⟩ : ∃ s, s = Q.sum l := ⟨_, rfl⟩
  have hsum := refsum_calls A n c l w hB (by omega)
  rw [← hs] at hs24 hsum
  have Hsum := Lib.hid hsum
  have HB := Lib.hid hB
  have Hs := Lib.hid hs
  have Hl := Lib.hid hl
  have hb3 : ∀ W : World, Bts (W.alloc (.cells #[.int .u8 ((s : Int) / 65536), .int .u8 ((s : Int) / 256 % 256), .int .u8 ((s : Int) % 256)] 5)) (some ⟨W.heap.size, 0, none⟩) 3 [UInt8.ofNat (s / 65536), UInt8.ofNat (s / 256), UInt8.ofNat s] := fun W =>
    Bts.of_block (blk_new W _) [UInt8.ofNat (s / 65536), UInt8.ofNat (s / 256), UInt8.ofNat s] (fun j hj => by
      rcases j with _ | _ | _ | j
      · simp [u8]; omega
      · simp [u8]
      · simp [u8]
      · simp at hj; omega)
  have Hb3 := Lib.hid hb3
  have hown : (w.alloc (.cells #[] 5)).ownsRow w.heap.size 5 1 (.slice (some ⟨w.heap.size, 0, none⟩) 0 0) 0 (vals []) := World.ownsRow_made w #[] 0 (Nat.le_refl _) (by unfold maxLen; omega) rfl
  clear hsum hs hB hl hb3
  go_enter Try.func123, Try.ntmps123
  go_upto_region 2 with (go_at_call 146; refine Hsum.out.mono ?_; rintro e w1 ⟨rfl, rfl⟩)
  go_wp2_with (first
    | (at_builtin; refine wpList_append_bts _ rfl (.tmp 8) (.tmp 17) rfl w.heap.size _ n l rfl (hown2.alloc _) (some ⟨w2.heap.size, 0, none⟩) 3 3 _ rfl (Hb3.out w2) (by omega) (by have := hgr2.size; simp at this ⊢; omega) ?_; intro v3 w3 hown3 hgr3 _)
    | (at_builtin; refine wpList_append_bts _ rfl (.tmp 6) (.tmp 7) rfl w.heap.size _ 0 [] rfl hown A n c l rfl (HB.out.below (al1 w _)) (by omega) (by simp) ?_; intro v2 w2 hown2 hgr2 _; rw [Nat.zero_add, List.nil_append] at hown2; obtain ⟨A2, c2, rfl⟩ := own_shape hown2))
  go_ret
  obtain ⟨A3, c3, rfl⟩ := own_shape hown3
  have hsl : Q.sealed l = l ++ [UInt8.ofNat (s / 65536), UInt8.ofNat (s / 256), UInt8.ofNat s] := by unfold Q.sealed; rw [Hs.out]
  have hll : (Q.sealed l).length = n + 3 := by rw [Q.sealed_len, Hl.out]
  have e1 : Below w.heap.size w w2 := (al1 w _).grown hgr2 (by simp) (fun k hk => by cases hk; exact Nat.le_refl _)
  have hA2 : ∀ k, (Value.slice A2 n c2).ownBlock = some k → w.heap.size ≤ k := fun k hk => (hown2.lt k hk).1
  have e2 : Below w.heap.size w w3 := (e1.alloc e1.size _).grown hgr3 (by have := e1.size; simp; omega) (fun k hk => hA2 k hk)
  unfold NewBytes
  rw [hsl, ← hsl, hll]
  refine ⟨A3, c3, rfl, ?_, e2⟩
  rw [hsl]
  exact hown3

set_option maxRecDepth 100000 in
set_option maxHeartbeats 1000000 in
theorem refframe_calls (k : UInt8) (A : Option Addr) (n c : Nat) (l : Bs) (w : World) (hB : Bts w A n l) (hn : n ≤ 65536) (kn : Nat) (hk : kn = k.toNat) :
    Calls Try.prog 78 #[.int .u8 (kn : Int), .slice A n c] w (NewBytes w (Q.frame k l)) := by
  have hl := hB.1
  have HB := Lib.hid hB
  have hk256 : kn < 256 := by rw [hk]; exact k.toNat_lt
  have hv5 : (#[Value.int .u8 102, .int .u8 (kn : Int), .int .u8 ((n : Int) / 65536), .int .u8 ((n : Int) / 256 % 256), .int .u8 ((n : Int) % 256)] : Array Value).toList = vals (Q.headOf k l.length) := by
    rw [hl]
    unfold vals Q.headOf
    simp [hk]
    omega
  have hb5 : ∀ W : World, (W.alloc (.cells #[.int .u8 102, .int .u8 (kn : Int), .int .u8 ((n : Int) / 65536), .int .u8 ((n : Int) / 256 % 256), .int .u8 ((n : Int) % 256)] 5)).ownsRow W.heap.size 5 1 (.slice (some ⟨W.heap.size, 0, none⟩) 5 5) 5 (vals (Q.headOf k l.length)) := fun W => by
    rw [← hv5]
    exact World.ownsRow_lit W _ 5 (Nat.le_refl _) (by unfold maxLen; omega) rfl
  have hseal := fun W (A2 : Option Addr) (m c2 : Nat) (l2 : Bs) (hW : Bts W A2 m l2) (hm : m ≤ 1048576) => refseal_calls A2 m c2 l2 W hW hm
  have Hseal := Lib.hid hseal
  have Hb5 := Lib.hid hb5
  have Hl := Lib.hid hl
  have Hk := Lib.hid hk
  clear hseal hb5 hB hl hk hv5
  go_enter Try.func78, Try.ntmps78
  go_upto_region 3 with (fail)
  go_wp2_with (first
    | (at_builtin; refine wpList_append_bts _ rfl (.tmp 19) (.tmp 20) rfl w.heap.size _ 5 (Q.headOf k l.length) rfl (Hb5.out w) A n c l rfl (HB.out.below (al1 w _)) (by omega) (by simp) ?_; intro v2 w2 hown2 hgr2 _; obtain ⟨A2, c2, rfl⟩ := own_shape hown2; obtain ⟨A3, c3, hv3, hbt, _, _⟩ := Bts.of_own hown2; have hgo := Lib.hid hgr2; clear hgr2; injection hv3 with e1 e2 e3; subst e1; clear e2 e3)
    | (go_at_call 123; refine (Hseal.out w2 _ _ c2 _ hbt (by omega)).mono ?_; rintro e w4 ⟨A4, c4, rfl, hown4, hb4⟩))
  go_ret
  have e1 : Below w.heap.size w w2 := (al1 w _).grown hgo.out (by simp) (fun k hk => by cases hk; exact Nat.le_refl _)
  have hf : Q.frame k l = Q.sealed (Q.headOf k l.length ++ l) := rfl
  rw [← hf] at hown4
  exact ⟨A4, c4, rfl, own_base hown4 e1.size, e1.trans (hb4.mono e1.size)⟩
end Go.Proofs.Ytcfgdlpdnpnhmaa
set_option linter.unusedVariables false
set_option linter.unusedSimpArgs false
namespace Go.Proofs.Ytcfgdlpdnpnhmaa
open Go.RowKit Go.Maps

/-- From address A on n whole numbers stand: l. -/
def Itz (w : World) (A : Option Addr) (n : Nat) (l : List Int) : Prop :=
  l.length = n ∧ (0 < n → ∃ ad, A = some ad ∧ ∀ j, j < n → w.cell? (ad.add j) = some (.int .i64 (l.getD j 0)))
theorem Its.up {w : World} {A : Option Addr} {n : Nat} {l : List Nat} (h : Its w A n l) : Itz w A n (l.map (fun (x : Nat) => (x : Int))) := by
  refine ⟨by rw [List.length_map]; exact h.1, fun hn => ?_⟩
  obtain ⟨ad, rfl, hc⟩ := h.2 hn
  refine ⟨ad, rfl, fun j hj => ?_⟩
  rw [hc j hj]
  have hjl : j < l.length := by rw [h.1]; exact hj
  simp [List.getD_eq_getElem?_getD, hjl]
theorem Itz.keep {w w' : World} {A : Option Addr} {n : Nat} {l : List Int} (h : Itz w A n l) (hk : ∀ (ad : Addr) j, A = some ad → j < n → w'.cell? (ad.add j) = w.cell? (ad.add j)) : Itz w' A n l := by
  refine ⟨h.1, fun hn => ?_⟩
  obtain ⟨ad, rfl, hc⟩ := h.2 hn
  exact ⟨ad, rfl, fun j hj => (hk ad j rfl hj).trans (hc j hj)⟩
theorem Itz.below {w w' : World} {A : Option Addr} {n : Nat} {l : List Int} (h : Itz w A n l) (hb : Below w.heap.size w w') : Itz w' A n l := by
  refine ⟨h.1, fun hn => ?_⟩
  obtain ⟨ad, rfl, hc⟩ := h.2 hn
  exact ⟨ad, rfl, fun j hj => (hb.cell (World.block_lt_of_cell? w _ (hc j hj))).trans (hc j hj)⟩
theorem itz_at {w : World} {A : Option Addr} {n : Nat} {l : List Int} (hB : Itz w A n l) (h0 : 0 < n) : ∃ pb po, A = some ⟨pb, po, none⟩ ∧ ∀ k, k < n → w.cell? ⟨pb, po + k, none⟩ = some (.int .i64 (l.getD k 0)) := by
  obtain ⟨ad, rfl, hcell⟩ := hB.2 h0
  obtain ⟨pb, po, rfl⟩ := spot (hcell 0 h0)
  exact ⟨pb, po, rfl, fun k hk => by have := hcell k hk; rw [add0] at this; exact this⟩
theorem run_index_int (ad : Addr) (n c : Nat) (i : Int) (h0 : 0 ≤ i) (h : i < n) (w : World) : (Instr.indexAt 25 (.slice (some ad) n c) (.int .i64 i)).run Try.prog w = .ok (.pointer (some (ad.add i.toNat))) w := by
  obtain ⟨i0, hi, hz0, hz1, hz2⟩ := info_parts infoI
  simp [Instr.indexAt, run_underlying Try.underlying25, sizeOf, typeInfo, hi, hz1, h, h0, Result.andThen, asIntOf]

/-- The number ahead of place k. -/
def prev (l : List Int) (k : Nat) : Int := if k = 0 then -1 else l.getD (k - 1) 0
theorem rising_step {l : List Int} {k : Nat} (hk : k < l.length) : Q.risingGo (prev l k) (l.drop k) = (decide (prev l k < l.getD k 0 ∧ l.getD k 0 < 7) && Q.risingGo (prev l (k + 1)) (l.drop (k + 1))) := by
  rw [List.drop_eq_getElem_cons hk]
  have e : l.getD k 0 = l[k] := by rw [List.getD_eq_getElem?_getD, List.getElem?_eq_getElem hk]; rfl
  have e2 : prev l (k + 1) = l[k] := by unfold prev; rw [if_neg (by omega), Nat.add_sub_cancel, e]
  rw [e2, e]
  rfl

set_option maxHeartbeats 1000000 in
theorem rising_calls (A : Option Addr) (n c : Nat) (l : List Int) (w : World) (hI : Itz w A n l) (hn : n ≤ 140737488355328) :
    Calls Try.prog 70 #[.slice A n c] w fun e w' => e = .returned (.bool (Q.rising l)) ∧ w = w' := by
  have hl := hI.1
  rcases Nat.eq_zero_or_pos n with h0 | h0
  · subst h0
    have hr : Q.rising l = false := by unfold Q.rising; rw [hl]; rfl
    rw [hr]
    clear hI hl hr
    go_enter Try.func70, Try.ntmps70
    go_wp2
    go_step3
    go_wp2
    go_step3
    go_wp2
    refine wp_loop_rounds 1 ?_
    rw [rounds_succ]
    go_wp2
    try rw [Exit.noGoto_ret]
    go_ret
    exact ⟨rfl, rfl⟩
  · obtain ⟨pb, po, rfl, hcell⟩ := itz_at hI h0
    have hi : ∀ (k : Nat), k < n → ∀ W, (Instr.indexAt 25 (.slice (some ⟨pb, po, none⟩) n c) (.int .i64 (k : Int))).run Try.prog W = .ok (.pointer (some ⟨pb, po + k, none⟩)) W := fun k hk W => by
      rw [run_index_int ⟨pb, po, none⟩ n c k (by omega) (by omega) W, add0, Int.toNat_natCast]
    have Hi := Lib.hid hi
    have g0 : decide ((0 : Int) < (n : Int)) = true := decide_eq_true (by omega)
    by_cases h7 : n ≤ 7
    · have hr : Q.rising l = Q.risingGo (prev l 0) (l.drop 0) := by unfold Q.rising; rw [hl, decide_eq_true ⟨h0, h7⟩]; rfl
      rw [hr]
      have g7 : decide ((n : Int) ≤ 7) = true := decide_eq_true (by omega)
      have Hl := Lib.hid hl
      have Hc := Lib.hid hcell
      clear hI hl hr hcell hi
      go_enter Try.func70, Try.ntmps70
      go_wp2
      go_step3
      go_wp2
      go_step3
      go_wp2
      go_loop [3, 4, 17] (fun o p i => ∃ k : Nat, k ≤ n ∧ o = .bool true ∧ p = .int .i64 (prev l k) ∧ i = .int .i64 k ∧ Hid (Q.risingGo (prev l 0) (l.drop 0) = Q.risingGo (prev l k) (l.drop k))) (fun _ _ i => n - (intOf i).toNat)
      case atStart => exact ⟨0, Nat.zero_le _, rfl, rfl, rfl, Lib.hid rfl⟩
      case round =>
        obtain ⟨k, hk, rfl, rfl, rfl, hgo⟩ := hrel
        by_cases hkn : k < n
        · have hst := rising_step (l := l) (k := k) (by rw [Hl.out]; exact hkn)
          have hck := Hc.out k hkn
          have hik := Hi.out k hkn
          have hpk : prev l (k + 1) = l.getD k 0 := by unfold prev; rw [if_neg (by omega), Nat.add_sub_cancel]
          have hwk : IntKind.i64.wrap ((k : Int) + 1) = (k : Int) + 1 := IntWalk.i64_in _ (by omega)
          have Hst := Lib.hid hst
          have Hpk := Lib.hid hpk
          obtain ⟨x, hx⟩ : ∃ x, x = l.getD k 0 := ⟨_, rfl⟩
          obtain ⟨p, hp⟩ : ∃ p, p = prev l k := ⟨_, rfl⟩
          rw [← hx] at hck Hst Hpk
          rw [← hp] at Hst hgo ⊢
          clear hst hpk hx hp
          by_cases hc : p < x ∧ x < 7
          · obtain ⟨hc1, hc2⟩ := hc
            have gc1 : decide (p < x) = true := decide_eq_true hc1
            have gc2 : decide (x < 7) = true := decide_eq_true hc2
            have hn2 : Hid (Q.risingGo (prev l 0) (l.drop 0) = Q.risingGo (prev l (k + 1)) (l.drop (k + 1))) := Lib.hid (by rw [hgo.out, Hst.out, decide_eq_true (show p < x ∧ x < 7 from ⟨hc1, hc2⟩), Bool.true_and])
            go_wp2
            go_round
            case rel => exact ⟨k + 1, by omega, rfl, by rw [Hpk.out], by go_num, hn2⟩
            case measure => simp [intOf]; omega
          · have hfin : Q.risingGo (prev l 0) (l.drop 0) = false := by rw [hgo.out, Hst.out, decide_eq_false hc, Bool.false_and]
            have Hfin := Lib.hid hfin
            by_cases hc1 : p < x
            · have gc1 : decide (p < x) = true := decide_eq_true hc1
              have gc2 : decide (x < 7) = false := decide_eq_false (fun h => hc ⟨hc1, h⟩)
              clear hc hfin
              go_wp2
              try rw [Exit.noGoto_ret]
              go_ret
              exact ⟨by rw [Hfin.out] <;> rfl, rfl⟩
            · have gc1 : decide (p < x) = false := decide_eq_false hc1
              clear hc hfin
              go_wp2
              try rw [Exit.noGoto_ret]
              go_ret
              exact ⟨by rw [Hfin.out] <;> rfl, rfl⟩
        · have hfin : Q.risingGo (prev l 0) (l.drop 0) = true := by rw [hgo.out, List.drop_of_length_le (by rw [Hl.out]; omega)]; rfl
          have Hfin := Lib.hid hfin
          clear hfin
          go_wp2
          try rw [Exit.noGoto_ret]
          go_ret
          exact ⟨by rw [Hfin.out] <;> rfl, rfl⟩
    · have hr : Q.rising l = false := by unfold Q.rising; rw [hl, decide_eq_false (fun h => h7 h.2)]; rfl
      rw [hr]
      have g7 : decide ((n : Int) ≤ 7) = false := decide_eq_false (by omega)
      have hck := hcell 0 h0
      rw [Nat.add_zero] at hck
      have hik := hi 0 h0
      rw [Nat.add_zero] at hik
      have hik : ∀ W, (Instr.indexAt 25 (.slice (some ⟨pb, po, none⟩) n c) (.int .i64 0)).run Try.prog W = .ok (.pointer (some ⟨pb, po, none⟩)) W := hik
      clear hI hl hr hcell hi
      go_enter Try.func70, Try.ntmps70
      go_wp2
      go_step3
      go_wp2
      go_step3
      go_wp2
      refine wp_loop_rounds 1 ?_
      rw [rounds_succ]
      go_wp2
      try rw [Exit.noGoto_ret]
      go_ret
      exact ⟨rfl, rfl⟩
end Go.Proofs.Ytcfgdlpdnpnhmaa
set_option linter.unusedVariables false
set_option linter.unusedSimpArgs false
namespace Go.Proofs.Ytcfgdlpdnpnhmaa
open Go.RowKit Go.Maps

/-- A snapshot as a value, its slices' bytes and numbers in memory. -/
def SnIs (w : World) (v : Value) (p : Q.Sn) : Prop :=
  ∃ Am cm Ad cd, v = .agg #[.int .u64 p.index, .int .u64 p.term, .slice Am p.members.length cm, .slice Ad p.data.length cd] ∧ Itz w Am p.members.length p.members ∧ p.members.length ≤ cm ∧ Bts w Ad p.data.length p.data ∧ p.data.length ≤ cd
theorem SnapIs.up {w : World} {v : Value} {p : Q.Snp} (h : SnapIs w v p) : SnIs w v p.up := by
  obtain ⟨Am, cm, Ad, cd, rfl, h1, h2, h3, h4⟩ := h
  have e : p.up.members.length = p.members.length := by unfold Q.Snp.up; simp
  refine ⟨Am, cm, Ad, cd, by rw [e]; rfl, ?_, by rw [e]; exact h2, h3, h4⟩
  rw [e]
  exact h1.up
theorem SnIs.below {w w' : World} {v : Value} {p : Q.Sn} (h : SnIs w v p) (hb : Below w.heap.size w w') : SnIs w' v p := by
  obtain ⟨Am, cm, Ad, cd, rfl, h1, h2, h3, h4⟩ := h
  exact ⟨Am, cm, Ad, cd, rfl, h1.below hb, h2, h3.below hb, h4⟩

set_option maxRecDepth 100000 in
set_option maxHeartbeats 1000000 in
theorem snsound_raw (i t : Nat) (Am : Option Addr) (nm cm : Nat) (Ad : Option Addr) (nd cd : Nat) (ms : List Int) (w : World) (hI : Itz w Am nm ms) (hi : i < 18446744073709551616) (ht : t < 18446744073709551616) (hnm : nm ≤ 140737488355328) (hnd : nd ≤ 140737488355328) :
    Calls Try.prog 20 #[.agg #[.int .u64 i, .int .u64 t, .slice Am nm cm, .slice Ad nd cd]] w fun e w' => e = .returned (.bool (decide (1 ≤ i ∧ i < 576460752303423488 ∧ 1 ≤ t ∧ t ≤ 1152921504606846976) && (Q.rising ms && decide (nd ≤ 32768)))) ∧ Below w.heap.size w w' := by
  have Hr := Lib.hid (rising_calls Am nm cm ms (w.alloc (.cells #[.int .u64 (i : Int), .int .u64 (t : Int), .slice Am nm cm, .slice Ad nd cd] 27)) (hI.below (al1 w _)) hnm)
  clear hI
  by_cases c1 : 1 ≤ i
  · have g1 : decide ((1 : Int) ≤ (i : Int)) = true := decide_eq_true (by omega)
    by_cases c2 : i < 576460752303423488
    · have g2 : decide ((i : Int) < 576460752303423488) = true := decide_eq_true (by omega)
      by_cases c3 : 1 ≤ t
      · have g3 : decide ((1 : Int) ≤ (t : Int)) = true := decide_eq_true (by omega)
        by_cases c4 : t ≤ 1152921504606846976
        · have g4 : decide ((t : Int) ≤ 1152921504606846976) = true := decide_eq_true (by omega)
          by_cases c5 : Q.rising ms = true
          · by_cases c6 : nd ≤ 32768
            · have g6 : decide ((nd : Int) ≤ 32768) = true := decide_eq_true (by omega)
              have hres : (decide (1 ≤ i ∧ i < 576460752303423488 ∧ 1 ≤ t ∧ t ≤ 1152921504606846976) && (Q.rising ms && decide (nd ≤ 32768))) = true := by
                rw [c5, decide_eq_true ⟨c1, c2, c3, c4⟩, decide_eq_true c6]; rfl
              rw [hres]
              clear hres c1 c2 c3 c4 c6
              rw [c5] at Hr
              clear c5
              go_enter Try.func20, Try.ntmps20
              go_wp2_with (go_at_call 70; refine Hr.out.mono ?_; rintro e w1 ⟨rfl, rfl⟩)
              go_ret
              exact ⟨rfl, al1 w _⟩
            · have g6 : decide ((nd : Int) ≤ 32768) = false := decide_eq_false (by omega)
              have hres : (decide (1 ≤ i ∧ i < 576460752303423488 ∧ 1 ≤ t ∧ t ≤ 1152921504606846976) && (Q.rising ms && decide (nd ≤ 32768))) = false := by
                rw [decide_eq_false c6, Bool.and_false, Bool.and_false]
              rw [hres]
              clear hres c1 c2 c3 c4 c6
              rw [c5] at Hr
              clear c5
              go_enter Try.func20, Try.ntmps20
              go_wp2_with (go_at_call 70; refine Hr.out.mono ?_; rintro e w1 ⟨rfl, rfl⟩)
              go_ret
              exact ⟨rfl, al1 w _⟩
          · have c5 : Q.rising ms = false := by simpa using c5
            have hres : (decide (1 ≤ i ∧ i < 576460752303423488 ∧ 1 ≤ t ∧ t ≤ 1152921504606846976) && (Q.rising ms && decide (nd ≤ 32768))) = false := by
              rw [c5, Bool.false_and, Bool.and_false]
            rw [hres]
            clear hres c1 c2 c3 c4
            rw [c5] at Hr
            clear c5
            go_enter Try.func20, Try.ntmps20
            go_wp2_with (go_at_call 70; refine Hr.out.mono ?_; rintro e w1 ⟨rfl, rfl⟩)
            go_ret
            exact ⟨rfl, al1 w _⟩
        · have g4 : decide ((t : Int) ≤ 1152921504606846976) = false := decide_eq_false (by omega)
          have hres : (decide (1 ≤ i ∧ i < 576460752303423488 ∧ 1 ≤ t ∧ t ≤ 1152921504606846976) && (Q.rising ms && decide (nd ≤ 32768))) = false := by
            rw [decide_eq_false (fun h => c4 h.2.2.2)]; rfl
          rw [hres]
          clear hres c1 c2 c3 c4
          go_enter Try.func20, Try.ntmps20
          go_wp2_with fail
          go_ret
          exact ⟨rfl, al1 w _⟩
      · have g3 : decide ((1 : Int) ≤ (t : Int)) = false := decide_eq_false (by omega)
        have hres : (decide (1 ≤ i ∧ i < 576460752303423488 ∧ 1 ≤ t ∧ t ≤ 1152921504606846976) && (Q.rising ms && decide (nd ≤ 32768))) = false := by
          rw [decide_eq_false (fun h => c3 h.2.2.1)]; rfl
        rw [hres]
        clear hres c1 c2 c3
        go_enter Try.func20, Try.ntmps20
        go_wp2_with fail
        go_ret
        exact ⟨rfl, al1 w _⟩
    · have g2 : decide ((i : Int) < 576460752303423488) = false := decide_eq_false (by omega)
      have hres : (decide (1 ≤ i ∧ i < 576460752303423488 ∧ 1 ≤ t ∧ t ≤ 1152921504606846976) && (Q.rising ms && decide (nd ≤ 32768))) = false := by
        rw [decide_eq_false (fun h => c2 h.2.1)]; rfl
      rw [hres]
      clear hres c1 c2
      go_enter Try.func20, Try.ntmps20
      go_wp2_with fail
      go_ret
      exact ⟨rfl, al1 w _⟩
  · have g1 : decide ((1 : Int) ≤ (i : Int)) = false := decide_eq_false (by omega)
    have hres : (decide (1 ≤ i ∧ i < 576460752303423488 ∧ 1 ≤ t ∧ t ≤ 1152921504606846976) && (Q.rising ms && decide (nd ≤ 32768))) = false := by
      rw [decide_eq_false (fun h => c1 h.1)]; rfl
    rw [hres]
    clear hres c1
    go_enter Try.func20, Try.ntmps20
    go_wp2_with fail
    go_ret
    exact ⟨rfl, al1 w _⟩

theorem snsound_calls (v : Value) (p : Q.Sn) (w : World) (h : SnIs w v p) (hi : p.index < 18446744073709551616) (ht : p.term < 18446744073709551616) (hnm : p.members.length ≤ 140737488355328) (hnd : p.data.length ≤ 140737488355328) :
    Calls Try.prog 20 #[v] w fun e w' => e = .returned (.bool (Q.sound p)) ∧ Below w.heap.size w w' := by
  obtain ⟨Am, cm, Ad, cd, rfl, h1, h2, h3, h4⟩ := h
  exact snsound_raw p.index p.term Am p.members.length cm Ad p.data.length cd p.members w h1 hi ht hnm hnd
end Go.Proofs.Ytcfgdlpdnpnhmaa
set_option linter.unusedVariables false
set_option linter.unusedSimpArgs false
namespace Go.Proofs.Ytcfgdlpdnpnhmaa
open Go.RowKit Go.Maps

/-- What Read answers. -/
def SnReads (w : World) (o : Option Q.Snp) (e : Ending) (w' : World) : Prop :=
  match o with
  | none => e = .returned (.tuple #[.agg #[.int .u64 0, .int .u64 0, .slice none 0 0, .slice none 0 0], .bool false]) ∧ Below w.heap.size w w'
  | some p => ∃ v, e = .returned (.tuple #[v, .bool true]) ∧ SnapIs w' v p ∧ SnFresh w.heap.size v ∧ Below w.heap.size w w'
def NoI64 (w : World) (k : Nat) : Prop := ∀ o x, w.cell? ⟨k, o, none⟩ ≠ some (.int .i64 x)
theorem NoI64.of_cells {w : World} {g : Nat} {cs : Array Value} {t : TypeId} {fr : Nat × Nat} (h : w.heap[g]? = some (.cells cs t fr)) (hn : ∀ (j : Nat) (x : Int), cs[j]? ≠ some (Value.int .i64 x)) : NoI64 w g := by
  intro o x e
  rw [blk_cell h] at e
  exact hn o x e
theorem Its.ext {S : List Nat} {w w' : World} {A : Option Addr} {n : Nat} {l : List Nat} (h : Its w A n l) (e : Ext S w w') (hs : ∀ k, k ∈ S → NoI64 w k) : Its w' A n l := by
  refine ⟨h.1, fun hn => ?_⟩
  obtain ⟨ad, ea, hc⟩ := h.2 hn
  refine ⟨ad, ea, fun j hj => ?_⟩
  have hcj := hc j hj
  have hsp := cell_spot hcj
  have hlt := World.block_lt_of_cell? w _ hcj
  rw [e.cell hlt (fun hm => hs _ hm (ad.add j).off _ (by rw [← hsp]; exact hcj))]
  exact hcj
theorem Itz.ext {S : List Nat} {w w' : World} {A : Option Addr} {n : Nat} {l : List Int} (h : Itz w A n l) (e : Ext S w w') (hs : ∀ k, k ∈ S → NoI64 w k) : Itz w' A n l := by
  refine ⟨h.1, fun hn => ?_⟩
  obtain ⟨ad, ea, hc⟩ := h.2 hn
  refine ⟨ad, ea, fun j hj => ?_⟩
  have hcj := hc j hj
  have hsp := cell_spot hcj
  have hlt := World.block_lt_of_cell? w _ hcj
  rw [e.cell hlt (fun hm => hs _ hm (ad.add j).off _ (by rw [← hsp]; exact hcj))]
  exact hcj
theorem SnapIs.ext13 {S : List Nat} {w w' : World} {v : Value} {p : Q.Snp} (h : SnapIs w v p) (e : Ext S w w') (h1 : ∀ k, k ∈ S → NoU8 w k) (h2 : ∀ k, k ∈ S → NoI64 w k) : SnapIs w' v p := by
  obtain ⟨Am, cm, Ad, cd, rfl, q1, q2, q3, q4⟩ := h
  exact ⟨Am, cm, Ad, cd, rfl, q1.ext e h2, q2, q3.ext e h1, q4⟩
theorem SnIs.ext {S : List Nat} {w w' : World} {v : Value} {p : Q.Sn} (h : SnIs w v p) (e : Ext S w w') (h1 : ∀ k, k ∈ S → NoU8 w k) (h2 : ∀ k, k ∈ S → NoI64 w k) : SnIs w' v p := by
  obtain ⟨Am, cm, Ad, cd, rfl, q1, q2, q3, q4⟩ := h
  exact ⟨Am, cm, Ad, cd, rfl, q1.ext e h2, q2, q3.ext e h1, q4⟩
theorem SnapIs.below {w w' : World} {v : Value} {p : Q.Snp} (h : SnapIs w v p) (hb : Below w.heap.size w w') : SnapIs w' v p := h.ext13 (S := []) (Ext.of_below hb) (fun k hk => by cases hk) (fun k hk => by cases hk)
theorem ftake_kind {l : Bs} (h : (Q.ftake l).e = 0) : (Q.ftake l).kind.toNat < 256 := (Q.ftake l).kind.toNat_lt

set_option maxRecDepth 100000 in
set_option maxHeartbeats 1000000 in
theorem snread_no (A : Option Addr) (n c : Nat) (l : Bs) (w : World) (hB : Bts w A n l) (hn : n ≤ 140737488355328) (hnc : n ≤ c) (hA : A = none → c = 0) (hw : ¬ isWhole l ∨ (Q.ftake l).kind ≠ 4) :
    Calls Try.prog 16 #[.slice A n c] w (SnReads w none) := by
  have hb0 : Below w.heap.size w (w.alloc (.cells #[.int .u64 0, .int .u64 0, .slice none 0 0, .slice none 0 0] 27)) := al1 w _
  have hr0 := blk_new w (.cells #[.int .u64 0, .int .u64 0, .slice none 0 0, .slice none 0 0] 27)
  have hB0 := hB.below hb0
  obtain ⟨w0, hw0⟩ : ∃ w0, w0 = w.alloc (.cells #[.int .u64 0, .int .u64 0, .slice none 0 0, .slice none 0 0] 27) := ⟨_, rfl⟩
  rw [← hw0] at hb0 hr0 hB0
  have Hr0 := Lib.hid hr0
  by_cases hy : isWhole l
  · have hk : (Q.ftake l).kind ≠ 4 := by
      rcases hw with h | h
      · exact absurd hy h
      · exact h
    have htk := framewhole_yes A n c l w0 hB0 hn hnc hA hy
    have gk : (((Q.ftake l).kind.toNat : Int) != 4) = true := by
      rw [bne_iff_ne]
      intro e
      exact hk (UInt8.toNat_inj.1 (by show _ = 4; omega))
    generalize Q.ftake l = f at *
    have Htk := Lib.hid htk
    have Hw0 := Lib.hid hw0
    clear htk hB hB0 hA hw hy hk hr0 hw0
    go_enter Try.func16, Try.ntmps16
    go_upto_region 1 with (fail)
    rw [← Hw0.out]
    go_upto_region 3 with (go_at_call 62; refine Htk.out.mono ?_; rintro e w1 ⟨A2, c2, rfl, hown, hb1⟩; have hr1 := (hb1.block _ (blk_lt Hr0.out)).trans Hr0.out; have r0 := blk_cell hr1 0; have r1 := blk_cell hr1 1; have r2 := blk_cell hr1 2; have r3 := blk_cell hr1 3; have z0 := blk_frozen hr1 0; have z1 := blk_frozen hr1 1; have z2 := blk_frozen hr1 2; have z3 := blk_frozen hr1 3; have Hr1 := Lib.hid hr1; have Hb1 := Lib.hid hb1; clear hr1 hb1)
    obtain ⟨w2, hw2⟩ : ∃ w2, w2 = (((w1.setCell ⟨w.heap.size, 0, none⟩ (.int .u64 0)).setCell ⟨w.heap.size, 1, none⟩ (.int .u64 0)).setCell ⟨w.heap.size, 2, none⟩ (.slice none 0 0)).setCell ⟨w.heap.size, 3, none⟩ (.slice none 0 0) := ⟨_, rfl⟩
    have hx2 : w2.heap[w.heap.size]? = some (.cells #[.int .u64 0, .int .u64 0, .slice none 0 0, .slice none 0 0] 27 (0, 0)) := by rw [hw2]; exact blk_set (blk_set (blk_set (blk_set Hr1.out 0 _) 1 _) 2 _) 3 _
    have hE2 : Ext [w.heap.size] w1 w2 := by rw [hw2]; exact ((((Ext.refl _ _).setCell (Or.inl (by simp)) _).setCell (Or.inl (by simp)) _).setCell (Or.inl (by simp)) _).setCell (Or.inl (by simp)) _
    have y0 := blk_cell hx2 0
    have y1 := blk_cell hx2 1
    have y2 := blk_cell hx2 2
    have y3 := blk_cell hx2 3
    have Hw2 := Lib.hid hw2
    have HE2 := Lib.hid hE2
    clear hw2 hx2 hE2
    go_wp2_with fail
    rw [← Hw2.out]
    refine bodyPost_ret (v := .tuple #[.agg #[.int .u64 0, .int .u64 0, .slice none 0 0, .slice none 0 0], .bool false]) (by simp [results, Try.results16, go_sem, y0, y1, y2, y3]) rfl ?_
    exact ⟨rfl, (hb0.trans (Hb1.out.mono hb0.size)).trans ((HE2.out.below (B := w.heap.size) (Nat.le_trans hb0.size Hb1.out.size) (fun k hk => by rw [List.mem_singleton.1 hk]; exact Nat.le_refl _)))⟩
  · have htk := framewhole_no A n c l w0 hB0 hn hnc hA hy
    have Htk := Lib.hid htk
    have Hw0 := Lib.hid hw0
    clear htk hB hB0 hA hw hy hr0 hw0
    go_enter Try.func16, Try.ntmps16
    go_upto_region 1 with (fail)
    rw [← Hw0.out]
    go_upto_region 3 with (go_at_call 62; refine Htk.out.mono ?_; rintro e w1 ⟨rfl, hb1⟩; have hr1 := (hb1.block _ (blk_lt Hr0.out)).trans Hr0.out; have r0 := blk_cell hr1 0; have r1 := blk_cell hr1 1; have r2 := blk_cell hr1 2; have r3 := blk_cell hr1 3; have z0 := blk_frozen hr1 0; have z1 := blk_frozen hr1 1; have z2 := blk_frozen hr1 2; have z3 := blk_frozen hr1 3; have Hr1 := Lib.hid hr1; have Hb1 := Lib.hid hb1; clear hr1 hb1)
    obtain ⟨w2, hw2⟩ : ∃ w2, w2 = (((w1.setCell ⟨w.heap.size, 0, none⟩ (.int .u64 0)).setCell ⟨w.heap.size, 1, none⟩ (.int .u64 0)).setCell ⟨w.heap.size, 2, none⟩ (.slice none 0 0)).setCell ⟨w.heap.size, 3, none⟩ (.slice none 0 0) := ⟨_, rfl⟩
    have hx2 : w2.heap[w.heap.size]? = some (.cells #[.int .u64 0, .int .u64 0, .slice none 0 0, .slice none 0 0] 27 (0, 0)) := by rw [hw2]; exact blk_set (blk_set (blk_set (blk_set Hr1.out 0 _) 1 _) 2 _) 3 _
    have hE2 : Ext [w.heap.size] w1 w2 := by rw [hw2]; exact ((((Ext.refl _ _).setCell (Or.inl (by simp)) _).setCell (Or.inl (by simp)) _).setCell (Or.inl (by simp)) _).setCell (Or.inl (by simp)) _
    have y0 := blk_cell hx2 0
    have y1 := blk_cell hx2 1
    have y2 := blk_cell hx2 2
    have y3 := blk_cell hx2 3
    have Hw2 := Lib.hid hw2
    have HE2 := Lib.hid hE2
    clear hw2 hx2 hE2
    go_wp2_with fail
    rw [← Hw2.out]
    refine bodyPost_ret (v := .tuple #[.agg #[.int .u64 0, .int .u64 0, .slice none 0 0, .slice none 0 0], .bool false]) (by simp [results, Try.results16, go_sem, y0, y1, y2, y3]) rfl ?_
    exact ⟨rfl, (hb0.trans (Hb1.out.mono hb0.size)).trans ((HE2.out.below (B := w.heap.size) (Nat.le_trans hb0.size Hb1.out.size) (fun k hk => by rw [List.mem_singleton.1 hk]; exact Nat.le_refl _)))⟩

theorem own_all {w : World} {base n c : Nat} {A : Option Addr} {l : Bs} (h : w.ownsRow base 5 1 (.slice A n c) n (vals l)) : Bts w A n l ∧ n ≤ c ∧ (A = none → c = 0) ∧ (∀ ad, A = some ad → base ≤ ad.block ∧ ad.block < w.heap.size) := by
  obtain ⟨A3, c3, hv3, hbt, hmc, hA3⟩ := Bts.of_own h
  injection hv3 with e1 e2 e3
  subst e1 e3
  refine ⟨hbt, hmc, hA3, fun ad e => ?_⟩
  subst e
  rcases h.2 with ⟨e, _⟩ | ⟨g, cap, cur, e, hb, hg, _⟩
  · injection e with e _ _
    cases e
  · injection e with e _ _
    injection e with e
    subst e
    exact ⟨hb, blk_lt hg⟩
theorem IsRd.upto {w w' : World} {g : Nat} {s : Q.St} (h : IsRd w g s) (hk : ∀ k, k ≤ g → w'.heap[k]? = w.heap[k]?) : IsRd w' g s := by
  obtain ⟨A, n, c, hb, hB, hnc, hA, hlo⟩ := h
  refine ⟨A, n, c, (hk g (Nat.le_refl _)).trans hb, hB.keep (fun ad j e hj => World.cell?_of_block (w := w) (hk _ (by rw [block_of_add]; exact Nat.le_of_lt (hlo ad e)))), hnc, hA, hlo⟩
theorem Q.text_len (most : Nat) (s : Q.St) {b : Nat} (h : s.1.length ≤ b) : (Q.text most s).1.length ≤ b := by
  have h1 := Q.num_len most s
  unfold Q.text
  split
  · exact Nat.zero_le _
  · unfold Q.raw
    split
    · exact Nat.zero_le _
    · rw [List.length_take]; omega
set_option maxRecDepth 100000 in
set_option maxHeartbeats 4000000 in
theorem snread_yes (A : Option Addr) (n c : Nat) (l : Bs) (w : World) (hB : Bts w A n l) (hn : n ≤ 140737488355328) (hnc : n ≤ c) (hA : A = none → c = 0) (hw : isWhole l) (hk : (Q.ftake l).kind = 4) :
    Calls Try.prog 16 #[.slice A n c] w (SnReads w (Q.readBody 7 (Q.ftake l).body)) := by
  have hlen := (ftake_len hw.1).2
  have hl := hB.1
  have hb0 : Below w.heap.size w (w.alloc (.cells #[.int .u64 0, .int .u64 0, .slice none 0 0, .slice none 0 0] 27)) := al1 w _
  have hr0 := blk_new w (.cells #[.int .u64 0, .int .u64 0, .slice none 0 0, .slice none 0 0] 27)
  have hB0 := hB.below hb0
  have hsz0 : (w.alloc (.cells #[.int .u64 0, .int .u64 0, .slice none 0 0, .slice none 0 0] 27)).heap.size = w.heap.size + 1 := by simp
  obtain ⟨w0, hw0⟩ : ∃ w0, w0 = w.alloc (.cells #[.int .u64 0, .int .u64 0, .slice none 0 0, .slice none 0 0] 27) := ⟨_, rfl⟩
  rw [← hw0] at hb0 hr0 hB0 hsz0
  have hs0 : w.heap.size < w0.heap.size := by omega
  have htk := framewhole_yes A n c l w0 hB0 hn hnc hA hw
  rw [show WholeYes w0 (Q.ftake l) = WholeYes w0 ⟨4, (Q.ftake l).body, (Q.ftake l).n, (Q.ftake l).e⟩ by rw [← hk]] at htk
  obtain ⟨body, hbody⟩ : ∃ body, body = (Q.ftake l).body := ⟨_, rfl⟩
  have htk2 := htk.mono (fun e w' (k : WholeYes _ _ _ _) => show (∃ A2 c2, e = .returned (.tuple #[.int .u8 4, .slice A2 body.length c2, .bool true]) ∧ w'.ownsRow w0.heap.size 5 1 (.slice A2 body.length c2) body.length (vals body) ∧ Below w0.heap.size w0 w') by rw [hbody]; exact k)
  rw [← hbody] at hlen ⊢
  have hbl : body.length ≤ 140737488355328 := by omega
  obtain ⟨m, hm⟩ : ∃ m, m = body.length := ⟨_, rfl⟩
  rw [← hm] at htk2 hbl
  have Htk := Lib.hid htk2
  have Hw0 := Lib.hid hw0
  have Hr0 := Lib.hid hr0
  have Hm := Lib.hid hm
  obtain ⟨s0, hs0'⟩ : ∃ s0 : Q.St, s0 = (body, false) := ⟨_, rfl⟩
  have Hs0 := Lib.hid hs0'
  obtain ⟨a1, ha1⟩ : ∃ a1, a1 = (Q.num 576460752303423488 s0).1 := ⟨_, rfl⟩
  obtain ⟨s1, hs1⟩ : ∃ s1, s1 = (Q.num 576460752303423488 s0).2 := ⟨_, rfl⟩
  obtain ⟨a2, ha2⟩ : ∃ a2, a2 = (Q.num 1152921504606846976 s1).1 := ⟨_, rfl⟩
  obtain ⟨s2, hs2⟩ : ∃ s2, s2 = (Q.num 1152921504606846976 s1).2 := ⟨_, rfl⟩
  obtain ⟨n3, hn3⟩ : ∃ n3, n3 = (Q.num 7 s2).1 := ⟨_, rfl⟩
  obtain ⟨s3, hs3⟩ : ∃ s3, s3 = (Q.num 7 s2).2 := ⟨_, rfl⟩
  have hn7 : n3 ≤ 7 := by rw [hn3]; exact Q.num_le _ _
  have ha1m : a1 ≤ 576460752303423488 := by rw [ha1]; exact Q.num_le _ _
  have ha2m : a2 ≤ 1152921504606846976 := by rw [ha2]; exact Q.num_le _ _
  have hl0 : s0.1.length ≤ 140737488355328 := by rw [hs0']; show body.length ≤ _; omega
  have hl1 : s1.1.length ≤ 140737488355328 := by rw [hs1]; exact Nat.le_trans (Q.num_len _ _) hl0
  have hl2 : s2.1.length ≤ 140737488355328 := by rw [hs2]; exact Nat.le_trans (Q.num_len _ _) hl1
  have hl3 : s3.1.length ≤ 140737488355328 := by rw [hs3]; exact Nat.le_trans (Q.num_len _ _) hl2
  have Hget := Lib.hid (show Q.get 7 s0 = (⟨a1, a2, (Q.nums 7 n3 s3).1, (Q.text 32768 (Q.nums 7 n3 s3).2).1⟩, (Q.text 32768 (Q.nums 7 n3 s3).2).2) by rw [ha2, hs3, hn3, hs2, ha1, hs1]; rfl)
  have hN1 := fun g W (hW : IsRd W g s0) => rdnum_calls g 576460752303423488 s0 W hW hl0 (by omega)
  have hN2 := fun g W (hW : IsRd W g s1) => rdnum_calls g 1152921504606846976 s1 W hW hl1 (by omega)
  have hN3 := fun g W (hW : IsRd W g s2) => rdnum_calls g 7 s2 W hW hl2 (by omega)
  unfold NumGives at hN1 hN2 hN3
  rw [← ha1, ← hs1] at hN1
  rw [← ha2, ← hs2] at hN2
  rw [← hn3, ← hs3] at hN3
  have HN1 := Lib.hid hN1
  have HN2 := Lib.hid hN2
  have HN3 := Lib.hid hN3
  have hbs : body = s0.1 := by rw [hs0']
  have Hbs := Lib.hid hbs
  clear htk htk2 hB hB0 hA hw hk hr0 hw0 hm hbody hs0' ha1 hs1 ha2 hs2 hn3 hs3 hN1 hN2 hN3 hbs hsz0 hl
  go_enter Try.func16, Try.ntmps16
  go_upto_region 1 with (fail)
  rw [← Hw0.out]
  go_upto_region 5 with (first
    | (go_at_call 62; refine Htk.out.mono ?_; rintro e w1 ⟨A2, c2, rfl, hown, hb1⟩; have hr1 := (hb1.block _ (blk_lt Hr0.out)).trans Hr0.out; obtain ⟨hbt, hmc, hAn, hblk⟩ := own_all hown; have Hr1 := Lib.hid hr1; have Hb1 := Lib.hid hb1; have Hbt := Lib.hid hbt; have HAn := Lib.hid hAn; have Hblk := Lib.hid hblk; clear hr1 hb1 hbt hAn hblk hown)
    | (go_at_call 63; refine (rdopen_calls A2 m c2 body w1 Hbt.out hmc HAn.out (fun ad e => (Hblk.out ad e).2)).mono ?_; rintro e w2 ⟨rfl, hrd2, hb2⟩; have Hb2 := Lib.hid hb2; have Hrd2 := Lib.hid hrd2; clear hb2 hrd2))
  have hg01 : w.heap.size < w1.heap.size := by have := Hb1.out.size; omega
  have hr2 := (Hb2.out.block _ (blk_lt Hr1.out)).trans Hr1.out
  have hbel2 : Below w.heap.size w w2 := (hb0.trans (Hb1.out.mono hb0.size)).trans (Hb2.out.mono (by omega))
  obtain ⟨g, hg⟩ : ∃ g, g = w1.heap.size := ⟨_, rfl⟩
  rw [← hg] at Hrd2 hg01 ⊢
  have hrd2 : IsRd w2 g s0 := by rw [Hs0.out]; exact Hrd2.out
  have hgb : g < w2.heap.size := by obtain ⟨_, _, _, hb, _⟩ := hrd2; exact blk_lt hb
  have Hrd := Lib.hid hrd2
  have Hr2 := Lib.hid hr2
  have Hbel2 := Lib.hid hbel2
  clear hg hrd2 hr2 hbel2 Hrd2 Hb2 Hblk HAn Hbt Hb1 Hr1 Hr0 hb0 hmc
  go_wp2_with fail
  refine (HN1.out g w2 Hrd.out).mono ?_
  rintro e w3 ⟨rfl, hL3⟩
  go_wp2_with fail
  refine (HN2.out g w3 hL3.rd).mono ?_
  rintro e w4 ⟨rfl, hL4⟩
  go_upto_region 6 with (fail)
  obtain ⟨w5, hw5⟩ : ∃ w5, w5 = w4.alloc (.cells #[.int .u64 a1, .int .u64 a2, .slice none 0 0, .slice none 0 0] 27) := ⟨_, rfl⟩
  rw [← hw5]
  have hx5 : w5.heap[w4.heap.size]? = some (.cells #[.int .u64 a1, .int .u64 a2, .slice none 0 0, .slice none 0 0] 27 (0, 0)) := by rw [hw5]; exact blk_new _ _
  have hsz5 : w5.heap.size = w4.heap.size + 1 := by rw [hw5]; simp
  have hb45 : Below w4.heap.size w4 w5 := by rw [hw5]; exact al1 _ _
  have hr4 := hL4.ext.obj (hL3.ext.obj Hr2.out (by simp; omega)) (by simp; omega)
  have hr5 := (hb45.block _ (blk_lt hr4)).trans hr4
  have hrd5 := hL4.rd.below hb45
  have hg4 : g < w4.heap.size := by have := hL3.ext.size; have := hL4.ext.size; omega
  have hbel5 : Below w.heap.size w w5 := by
    have e1 : Ext [g] w2 w5 := (hL3.ext.trans hL4.ext).trans (Ext.of_below hb45)
    exact Hbel2.out.trans (e1.below (B := w.heap.size) Hbel2.out.size (fun k hk => by rw [List.mem_singleton.1 hk]; omega))
  obtain ⟨g2, hg2⟩ : ∃ g2, g2 = w4.heap.size := ⟨_, rfl⟩
  rw [← hg2] at hx5 hsz5 hg4 ⊢
  have Hx5 := Lib.hid hx5
  have Hr5 := Lib.hid hr5
  have Hrd5 := Lib.hid hrd5
  have Hbel5 := Lib.hid hbel5
  obtain ⟨B, hBe⟩ : ∃ B, B = w5.heap.size := ⟨_, rfl⟩
  have hg2B : g2 < B := by omega
  have hB5 : B ≤ w5.heap.size := by omega
  have HBe := Lib.hid hBe
  clear hw5 hx5 hb45 hr4 hr5 hrd5 hbel5 hg2 hsz5 hL3 hL4 Hr2 Hbel2 Hrd hgb
  go_wp2_with fail
  refine (HN3.out g w5 Hrd5.out).mono ?_
  rintro e w6 ⟨rfl, hL6⟩
  have Hx6 := Lib.hid (hL6.ext.obj Hx5.out (by simp; omega))
  have HE6 := Lib.hid hL6.ext
  have HR6 := Lib.hid hL6.rd
  have hB6 : B ≤ w6.heap.size := by have := hL6.ext.size; omega
  clear hL6 hBe
  go_wp2_with fail
  go_loopw [31] (fun i wr => ∃ (k : Nat) (v : Value), i = .int .u64 k ∧ k ≤ n3 ∧ IsRd wr g (Q.nums 7 k s3).2 ∧ wr.heap[g2]? = some (.cells #[.int .u64 a1, .int .u64 a2, v, .slice none 0 0] 27 (0, 0)) ∧ wr.ownsRow B 3 1 v k (ivals (Q.nums 7 k s3).1) ∧ Ext [g, g2] w5 wr ∧ B ≤ wr.heap.size) (fun i _ => n3 - (intOf i).toNat)
  case atStart => exact ⟨0, .slice none 0 0, rfl, Nat.zero_le _, HR6.out, Hx6.out, World.ownsRow_nil _ _ _ _, HE6.out.mono (fun k hk => by rw [List.mem_singleton.1 hk]; exact Or.inl (by simp)), hB6⟩
  case round =>
    obtain ⟨k, v, rfl, hk, hRk, hbx, hown, hG, hsz⟩ := hrel
    have HRk := Lib.hid hRk
    have Hbx := Lib.hid hbx
    have Hown := Lib.hid hown
    have HG := Lib.hid hG
    have b2 : wr.cell? ⟨g2, 2, none⟩ = some v := blk_cell hbx 2
    clear hRk hbx hown hG
    by_cases hkn : k < n3
    · have hwk : IntKind.u64.wrap ((k : Int) + 1) = (k : Int) + 1 := by simp [IntKind.wrap, IntKind.bits, IntKind.signed]; omega
      have hu6 := Q.num_le 7 (Q.nums 7 k s3).2
      have hN := fun W (hW : IsRd W g (Q.nums 7 k s3).2) => rdnum_calls g 7 (Q.nums 7 k s3).2 W hW (Nat.le_trans (Q.nums_len 7 s3 k) hl3) (by omega)
      unfold NumGives at hN
      obtain ⟨u, hu⟩ : ∃ u, u = (Q.num 7 (Q.nums 7 k s3).2).1 := ⟨_, rfl⟩
      rw [← hu] at hN hu6
      have Hu := Lib.hid hu
      have HN := Lib.hid hN
      clear hu hN
      have hwu : IntKind.i64.wrap (u : Int) = (u : Int) := IntWalk.i64_in _ (by omega)
      go_upto_region 8 with fail
      refine wp_region_last (fun w' => w'.cell? ⟨g2, 2, none⟩ = some v) 8 (by kernel_rfl) b2 (fun hHeld => ?_)
      refine wpAnyL_take 0 (v := ?_) rfl (by kernel_rfl) (fun _ _ _ h => h) (Or.inl ⟨by kernel_rfl, ?_⟩) hHeld ?_
      rotate_left
      · (intro w hSw; (try dsimp only at hSw); go_simp; try with_reducible rfl)
      try simp only [Act.put, List.setIfInBounds_toArray, List.set_cons_zero, List.set_cons_succ]
      refine wpAnyL_take 1 (v := ?_) rfl (by kernel_rfl) (fun _ _ _ h => h) (Or.inl ⟨by kernel_rfl, ?_⟩) hHeld ?_
      rotate_left
      · (intro w hSw; (try dsimp only at hSw); go_simp; try with_reducible rfl)
      try simp only [Act.put, List.setIfInBounds_toArray, List.set_cons_zero, List.set_cons_succ]
      refine wpAnyL_take 2 (v := ?_) rfl (by kernel_rfl) (fun _ _ _ h => h) (Or.inl ⟨by kernel_rfl, ?_⟩) hHeld ?_
      rotate_left
      · (intro w hSw; (try dsimp only at hSw); go_simp; try with_reducible rfl)
      try simp only [Act.put, List.setIfInBounds_toArray, List.set_cons_zero, List.set_cons_succ]
      refine wpAnyL_one 3 (by kernel_rfl) rfl (fun K hK => ?_)
      go_simp
      go_at_call 64
      refine (HN.out _ (HRk.out.below ((Below.refl wr.heap.size wr).drew))).mono ?_
      rintro e w9 ⟨rfl, hL9⟩
      have hE9 : Ext [g] wr w9 := (Ext.of_below ((Below.refl wr.heap.size wr).drew)).trans hL9.ext
      have hx9 := hE9.obj Hbx.out (by simp; omega)
      have hx9c : w9.cell? ⟨g2, 2, none⟩ = some v := blk_cell hx9 2
      clear hHeld
      have hHeld := hx9c
      refine hK.out _ _ (fun _ => hx9c) ?_
      clear hK K
      try simp only [Act.put, List.setIfInBounds_toArray, List.set_cons_zero, List.set_cons_succ]
      refine wpAnyL_take 4 (v := ?_) rfl (by kernel_rfl) (fun _ _ _ h => h) (Or.inl ⟨by kernel_rfl, ?_⟩) hHeld ?_
      rotate_left
      · (intro w hSw; (try dsimp only at hSw); go_simp; try with_reducible rfl)
      try simp only [Act.put, List.setIfInBounds_toArray, List.set_cons_zero, List.set_cons_succ]
      refine wpAnyL_one 5 (by kernel_rfl) rfl (fun K hK => ?_)
      go_simp
      refine hK.out _ _ (fun _ => ((al1 w9 _).cell (p := ⟨g2, 2, none⟩) (blk_lt hx9)).trans hx9c) ?_
      clear hK K
      try simp only [Act.put, List.setIfInBounds_toArray, List.set_cons_zero, List.set_cons_succ]
      refine wpAnyL_one 6 (by kernel_rfl) rfl (fun K hK => ?_)
      have hown9 : (w9.alloc (.cells #[.int .i64 (u : Int)] 3)).ownsRow B 3 1 v k (ivals (Q.nums 7 k s3).1) := (Hown.out.kept_ext hE9 (fun q hq => by rw [List.mem_singleton.1 hq]; omega)).alloc _
      refine step_append_int _ (by rfl) _ _ (by rfl) B v k _ (by rfl) hown9 w9.heap.size 1 u (by rfl) (blk_new w9 _) (by omega) (by have := hE9.size; simp; omega) ?_
      intro v10 w10 hown10 hgr10
      obtain ⟨A10, c10, rfl⟩ := own_shape hown10
      have hne2 : some g2 ≠ v.ownBlock := fun e => by have := (hown9.lt g2 e.symm).1; omega
      have hx10 := (hgr10.block g2 (by have := blk_lt hx9; simp; omega) hne2).trans (blk_alloc hx9 _)
      have g10 := blk_frozen hx10 2
      have hx10c : w10.cell? ⟨g2, 2, none⟩ = some v := blk_cell hx10 2
      clear hHeld
      have hHeld := hx10c
      refine hK.out _ _ (fun _ => hx10c) ?_
      clear hK K
      try simp only [Act.put, List.setIfInBounds_toArray, List.set_cons_zero, List.set_cons_succ]
      refine wpAnyL_take 7 (v := ?_) rfl (by kernel_rfl) (fun _ _ _ h => h) (Or.inl ⟨by kernel_rfl, ?_⟩) hHeld ?_
      rotate_left
      · (intro w hSw; (try dsimp only at hSw); go_simp; try with_reducible rfl)
      try simp only [Act.put, List.setIfInBounds_toArray, List.set_cons_zero, List.set_cons_succ]
      refine wpAnyL_one 8 (by kernel_rfl) rfl (fun K hK => ?_)
      go_simp
      refine hK.out _ _ (fun h => absurd rfl h) ?_
      clear hK K
      try simp only [Act.put, List.setIfInBounds_toArray, List.set_cons_zero, List.set_cons_succ]
      refine wpAnyL_done (by kernel_rfl) ?_ _
      obtain ⟨w11, hw11⟩ : ∃ w11, w11 = w10.setCell ⟨g2, 2, none⟩ (.slice A10 (k + 1) c10) := ⟨_, rfl⟩
      rw [← hw11]
      have hx11 : w11.heap[g2]? = some (.cells #[.int .u64 a1, .int .u64 a2, .slice A10 (k + 1) c10, .slice none 0 0] 27 (0, 0)) := by rw [hw11]; exact blk_set hx10 2 _
      have hE11 : Ext [g2] w10 w11 := by rw [hw11]; exact (Ext.refl _ _).setCell (Or.inl (by simp)) _
      have Hx11 := Lib.hid hx11
      have HE11 := Lib.hid hE11
      clear hw11 hx11 hE11 hx10
      have hkeep : ∀ q, q ≤ g → w11.heap[q]? = w9.heap[q]? := fun q hq => by
        have h1 : q < w9.heap.size := Nat.lt_of_le_of_lt hq (by have := hE9.size; omega)
        have h2 : (w9.alloc (.cells #[.int .i64 (u : Int)] 3)).heap[q]? = w9.heap[q]? := Below.heap_alloc _ _ _ h1
        have h3 : w10.heap[q]? = (w9.alloc (.cells #[.int .i64 (u : Int)] 3)).heap[q]? := hgr10.block q (by simp; omega) (fun e => by have := (hown9.lt q e.symm).1; omega)
        have h4 : w11.heap[q]? = w10.heap[q]? := HE11.out.block q (by have := hgr10.size; simp at this; omega) (by simp; omega)
        rw [h4, h3, h2]
      have HR11 := Lib.hid (hL9.rd.upto hkeep)
      have hG11 : Ext [g, g2] w5 w11 := by
        have e1 : Ext [g, g2] w5 (w9.alloc (.cells #[.int .i64 (u : Int)] 3)) := (HG.out.trans (hE9.mono (fun i hi => by rw [List.mem_singleton.1 hi]; exact Or.inl (by simp)))).alloc _
        have e2 : Ext [g, g2] w5 w10 := e1.grown hgr10 (fun q hq => Or.inr (by have h1 := (hown9.lt q hq).1; have := HBe.out; omega))
        exact e2.trans (HE11.out.mono (fun i hi => by rw [List.mem_singleton.1 hi]; exact Or.inl (by simp)))
      have HG11 := Lib.hid hG11
      have Hown11 := Lib.hid (hown10.kept_ext HE11.out (fun q hq => by rw [List.mem_singleton.1 hq]; omega))
      have hsz11 : B ≤ w11.heap.size := by have h1 := HE11.out.size; have h2 := hgr10.size; have h3 := hE9.size; simp at h2; omega
      clear hkeep hG11 hown10 hgr10 hown9 hE9 hL9 hx9 hx9c hx10c g10 hHeld
      go_wp2_with fail
      go_roundw
      case rel => exact ⟨k + 1, .slice A10 (k + 1) c10, by go_num, by omega, HR11.out, Hx11.out, by rw [Hu.out] at Hown11; exact Hown11.out, HG11.out, hsz11⟩
      case measure => simp [intOf]; omega
    · have hkn2 : k = n3 := by omega
      have htx := rdtext_calls g 32768 (Q.nums 7 k s3).2 wr HRk.out (Nat.le_trans (Q.nums_len 7 s3 k) hl3) (by omega)
      obtain ⟨ms, hms⟩ : ∃ ms, ms = (Q.nums 7 k s3).1 := ⟨_, rfl⟩
      obtain ⟨y, hy⟩ : ∃ y, y = (Q.text 32768 (Q.nums 7 k s3).2).1 := ⟨_, rfl⟩
      obtain ⟨s5, hs5⟩ : ∃ s5, s5 = (Q.text 32768 (Q.nums 7 k s3).2).2 := ⟨_, rfl⟩
      obtain ⟨sy, hsy⟩ : ∃ sy, encStr y = .string sy := ⟨_, rfl⟩
      have hlm : ms.length = k := by rw [hms]; exact Q.nums_count _ _ _
      have hyb : y.length ≤ 140737488355328 := by rw [hy]; exact Q.text_len _ _ (Nat.le_trans (Q.nums_len 7 s3 k) hl3)
      rw [← hy, ← hs5, hsy] at htx
      have hget : Q.get 7 s0 = (⟨a1, a2, ms, y⟩, s5) := by rw [Hget.out, hms, hy, hs5, hkn2]
      have hyl : y.length = sy.size := enc_size hsy
      have hys : sy.data.toList = y := enc_list hsy
      have hrb : Q.readBody 7 body = if Q.fin s5 = true ∧ Q.sound (Q.Snp.up ⟨a1, a2, ms, y⟩) = true then some ⟨a1, a2, ms, y⟩ else none := by
        unfold Q.readBody
        rw [← Hs0.out, hget]
      have Hrb := Lib.hid hrb
      have Htx := Lib.hid htx
      have Hlm := Lib.hid hlm
      have Hyl := Lib.hid hyl
      have Hys := Lib.hid hys
      have hsyb : sy.size ≤ 140737488355328 := by omega
      obtain ⟨Am, cm, rfl, _, hcm⟩ := Its.of_own Hown.out
      rw [← hms] at Hown
      have hk7 : k ≤ 7 := by omega
      clear htx hms hy hs5 hsy hkn2 hget hlm b2 hyl hys hrb hyb
      go_upto_region 11 with (first
        | (go_at_call 65; refine Htx.out.mono ?_; rintro e w8 ⟨rfl, hL8⟩)
        | (refine wpList_to_bytes2 _ rfl _ rfl sy rfl ?_; intro cd w9 hbt hcd hb9; obtain ⟨Ad, hAd⟩ : ∃ Ad, Ad = (some ⟨w8.heap.size, 0, none⟩ : Option Addr) := ⟨_, rfl⟩; have hAf : Hid ((∀ ad, Ad = some ad → w.heap.size ≤ ad.block) ∧ (Ad = none → cd = 0)) := Lib.hid ⟨fun ad q => (by rw [hAd] at q; cases q; have h1 := hL8.ext.size; show _ ≤ w8.heap.size; omega), fun q => (by rw [hAd] at q; cases q)⟩; rw [← hAd] at hbt; rw [← hAd]; clear hAd; have hE9 := hL8.ext.trans (Ext.of_below (S := [g]) hb9); have hx9 := hE9.obj Hbx.out (by simp; omega); have x3 := blk_cell hx9 3; have f3 := blk_frozen hx9 3))
      obtain ⟨w10, hw10⟩ : ∃ w10, w10 = w9.setCell ⟨g2, 3, none⟩ (.slice Ad sy.size cd) := ⟨_, rfl⟩
      rw [← hw10]
      have hE10 : Ext [g2] w9 w10 := by rw [hw10]; exact (Ext.refl _ _).setCell (Or.inl (by simp)) _
      have hx10 : w10.heap[g2]? = some (.cells #[.int .u64 a1, .int .u64 a2, .slice Am k cm, .slice Ad sy.size cd] 27 (0, 0)) := by rw [hw10]; exact blk_set hx9 3 _
      have hG10 : Ext [g, g2] w5 w10 := (HG.out.trans (hE9.mono (fun i hi => by rw [List.mem_singleton.1 hi]; exact Or.inl (by simp)))).trans (hE10.mono (fun i hi => by rw [List.mem_singleton.1 hi]; exact Or.inl (by simp)))
      have hr10 := hG10.obj Hr5.out (by simp; omega)
      have hnu2 : ∀ q, q ∈ [g2] → NoU8 w9 q := fun q hq => by rw [List.mem_singleton.1 hq]; exact .of_cells hx9 (fun j x => by rcases j with _ | _ | _ | _ | j <;> simp)
      have hrd10 : IsRd w10 g s5 := (hL8.rd.below hb9).ext hE10 (by simp; omega) hnu2
      have hbt10 : Bts w10 Ad sy.size sy.data.toList := hbt.ext hE10 hnu2
      have hown10 := (Hown.out.kept_ext hE9 (fun q hq => by rw [List.mem_singleton.1 hq]; omega)).kept_ext hE10 (fun q hq => by rw [List.mem_singleton.1 hq]; omega)
      obtain ⟨A3, c3, e3, hits, _⟩ := Its.of_own hown10
      injection e3 with e4 e5 e6
      subst e4
      clear e5 e6
      have hsn : SnapIs w10 (.agg #[.int .u64 a1, .int .u64 a2, .slice Am k cm, .slice Ad sy.size cd]) ⟨a1, a2, ms, y⟩ := by
        refine ⟨Am, cm, Ad, cd, ?_, ?_, ?_, ?_, ?_⟩
        · show _ = Value.agg #[.int .u64 a1, .int .u64 a2, .slice Am ms.length cm, .slice Ad y.length cd]
          rw [Hlm.out, Hyl.out]
        · show Its w10 Am ms.length ms
          rw [Hlm.out]; exact hits
        · show ms.length ≤ cm
          rw [Hlm.out]; exact hcm
        · show Bts w10 Ad y.length y
          rw [Hyl.out, ← Hys.out]; exact hbt10
        · show y.length ≤ cd
          rw [Hyl.out]; exact hcd
      have hbel10 : Below w.heap.size w w10 := Hbel5.out.trans (hG10.below (B := w.heap.size) Hbel5.out.size (fun q hq => by simp at hq; omega))
      have Hend := Lib.hid (rdend_calls g s5 w10 hrd10)
      have Hsn := Lib.hid hsn
      have Hsd := Lib.hid (snsound_calls _ (Q.Snp.up ⟨a1, a2, ms, y⟩) w10 hsn.up (by show a1 < _; omega) (by show a2 < _; omega) (by show (List.map _ ms).length ≤ _; rw [List.length_map, Hlm.out]; omega) (by show y.length ≤ _; rw [Hyl.out]; omega))
      have Hbel10 := Lib.hid hbel10
      have Hx10 := Lib.hid hx10
      have Hr10 := Lib.hid hr10
      have x0 := blk_cell hx10 0
      have x1 := blk_cell hx10 1
      have x2 := blk_cell hx10 2
      clear x3
      have x3 := blk_cell hx10 3
      clear hw10 hE10 hx9 hE9 f3 hL8 hb9 hbt hG10 hnu2 hrd10 hbt10 hown10 hits hsn hbel10 hx10 hr10
      by_cases hf : Q.fin s5 = true
      · rw [hf] at Hend
        by_cases hs : Q.sound (Q.Snp.up ⟨a1, a2, ms, y⟩) = true
        · have hrs : Q.readBody 7 body = some ⟨a1, a2, ms, y⟩ := by rw [Hrb.out, if_pos ⟨hf, hs⟩]
          have Hrs := Lib.hid hrs
          rw [hs] at Hsd
          clear hf hs hrs
          go_upto_region 13 with (first
            | (go_at_call 66; refine Hend.out.mono ?_; rintro e w' ⟨rfl, rfl⟩)
            | (go_at_call 20; refine Hsd.out.mono ?_; rintro e w12 ⟨rfl, hb12⟩; have hxx := (hb12.block _ (blk_lt Hx10.out)).trans Hx10.out; have hrr := (hb12.block _ (blk_lt Hr10.out)).trans Hr10.out; clear x0 x1 x2 x3; have x0 := blk_cell hxx 0; have x1 := blk_cell hxx 1; have x2 := blk_cell hxx 2; have x3 := blk_cell hxx 3; have r0 := blk_cell hrr 0; have r1 := blk_cell hrr 1; have r2 := blk_cell hrr 2; have r3 := blk_cell hrr 3; have z0 := blk_frozen hrr 0; have z1 := blk_frozen hrr 1; have z2 := blk_frozen hrr 2; have z3 := blk_frozen hrr 3; have Hrr := Lib.hid hrr; have Hb12 := Lib.hid hb12; clear hb12 hxx hrr))
          obtain ⟨w13, hw13⟩ : ∃ w13, w13 = (((w12.setCell ⟨w.heap.size, 0, none⟩ (.int .u64 a1)).setCell ⟨w.heap.size, 1, none⟩ (.int .u64 a2)).setCell ⟨w.heap.size, 2, none⟩ (.slice Am k cm)).setCell ⟨w.heap.size, 3, none⟩ (.slice Ad sy.size cd) := ⟨_, rfl⟩
          have hx13 : w13.heap[w.heap.size]? = some (.cells #[.int .u64 a1, .int .u64 a2, .slice Am k cm, .slice Ad sy.size cd] 27 (0, 0)) := by rw [hw13]; exact blk_set (blk_set (blk_set (blk_set Hrr.out 0 _) 1 _) 2 _) 3 _
          have hE13 : Ext [w.heap.size] w12 w13 := by rw [hw13]; exact ((((Ext.refl _ _).setCell (Or.inl (by simp)) _).setCell (Or.inl (by simp)) _).setCell (Or.inl (by simp)) _).setCell (Or.inl (by simp)) _
          have y0 := blk_cell hx13 0
          have y1 := blk_cell hx13 1
          have y2 := blk_cell hx13 2
          have y3 := blk_cell hx13 3
          have Hw13 := Lib.hid hw13
          have HE13 := Lib.hid hE13
          clear hw13 hx13 hE13
          go_wp2_with fail
          rw [← Hw13.out]
          refine bodyPost_ret (v := .tuple #[.agg #[.int .u64 a1, .int .u64 a2, .slice Am k cm, .slice Ad sy.size cd], .bool true]) (by simp [results, Try.results16, go_sem, y0, y1, y2, y3]) rfl ?_
          rw [Hrs.out]
          have hsn12 : SnapIs w12 (.agg #[.int .u64 a1, .int .u64 a2, .slice Am k cm, .slice Ad sy.size cd]) ⟨a1, a2, ms, y⟩ := Hsn.out.below Hb12.out
          refine ⟨_, rfl, hsn12.ext13 HE13.out (fun q hq => by rw [List.mem_singleton.1 hq]; exact .of_cells Hrr.out (fun j x => by rcases j with _ | _ | _ | _ | j <;> simp)) (fun q hq => by rw [List.mem_singleton.1 hq]; exact .of_cells Hrr.out (fun j x => by rcases j with _ | _ | _ | _ | j <;> simp)), ⟨_, _, Am, k, cm, Ad, sy.size, cd, rfl, fun ad q => Nat.le_trans (by omega) (own_from Hown.out ad q), hAf.out.1, hAf.out.2⟩, (Hbel10.out.trans (Hb12.out.mono Hbel10.out.size)).trans (HE13.out.below (B := w.heap.size) (Nat.le_trans Hbel10.out.size Hb12.out.size) (fun q hq => by rw [List.mem_singleton.1 hq]; exact Nat.le_refl _))⟩
        · have hs' : Q.sound (Q.Snp.up ⟨a1, a2, ms, y⟩) = false := by simpa using hs
          have hrs : Q.readBody 7 body = none := by rw [Hrb.out, if_neg (fun h => hs h.2)]
          have Hrs := Lib.hid hrs
          rw [hs'] at Hsd
          clear hf hs hs' hrs
          go_upto_region 12 with (first
            | (go_at_call 66; refine Hend.out.mono ?_; rintro e w' ⟨rfl, rfl⟩)
            | (go_at_call 20; refine Hsd.out.mono ?_; rintro e w12 ⟨rfl, hb12⟩; have hrr := (hb12.block _ (blk_lt Hr10.out)).trans Hr10.out; have r0 := blk_cell hrr 0; have r1 := blk_cell hrr 1; have r2 := blk_cell hrr 2; have r3 := blk_cell hrr 3; have z0 := blk_frozen hrr 0; have z1 := blk_frozen hrr 1; have z2 := blk_frozen hrr 2; have z3 := blk_frozen hrr 3; have Hrr := Lib.hid hrr; have Hb12 := Lib.hid hb12; clear hb12 hrr))
          obtain ⟨w13, hw13⟩ : ∃ w13, w13 = (((w12.setCell ⟨w.heap.size, 0, none⟩ (.int .u64 0)).setCell ⟨w.heap.size, 1, none⟩ (.int .u64 0)).setCell ⟨w.heap.size, 2, none⟩ (.slice none 0 0)).setCell ⟨w.heap.size, 3, none⟩ (.slice none 0 0) := ⟨_, rfl⟩
          have hx13 : w13.heap[w.heap.size]? = some (.cells #[.int .u64 0, .int .u64 0, .slice none 0 0, .slice none 0 0] 27 (0, 0)) := by rw [hw13]; exact blk_set (blk_set (blk_set (blk_set Hrr.out 0 _) 1 _) 2 _) 3 _
          have hE13 : Ext [w.heap.size] w12 w13 := by rw [hw13]; exact ((((Ext.refl _ _).setCell (Or.inl (by simp)) _).setCell (Or.inl (by simp)) _).setCell (Or.inl (by simp)) _).setCell (Or.inl (by simp)) _
          have y0 := blk_cell hx13 0
          have y1 := blk_cell hx13 1
          have y2 := blk_cell hx13 2
          have y3 := blk_cell hx13 3
          have Hw13 := Lib.hid hw13
          have HE13 := Lib.hid hE13
          clear hw13 hx13 hE13
          go_wp2_with fail
          rw [← Hw13.out]
          refine bodyPost_ret (v := .tuple #[.agg #[.int .u64 0, .int .u64 0, .slice none 0 0, .slice none 0 0], .bool false]) (by simp [results, Try.results16, go_sem, y0, y1, y2, y3]) rfl ?_
          rw [Hrs.out]
          exact ⟨rfl, (Hbel10.out.trans (Hb12.out.mono Hbel10.out.size)).trans (HE13.out.below (B := w.heap.size) (Nat.le_trans Hbel10.out.size Hb12.out.size) (fun q hq => by rw [List.mem_singleton.1 hq]; exact Nat.le_refl _))⟩
      · have hf' : Q.fin s5 = false := by simpa using hf
        rw [hf'] at Hend
        have hrs : Q.readBody 7 body = none := by rw [Hrb.out, if_neg (fun h => hf h.1)]
        have Hrs := Lib.hid hrs
        have hrr := Hr10.out
        have r0 := blk_cell hrr 0; have r1 := blk_cell hrr 1; have r2 := blk_cell hrr 2; have r3 := blk_cell hrr 3; have z0 := blk_frozen hrr 0; have z1 := blk_frozen hrr 1; have z2 := blk_frozen hrr 2; have z3 := blk_frozen hrr 3; have Hrr := Lib.hid hrr
        clear hf hf' hrr hrs
        go_upto_region 12 with (go_at_call 66; refine Hend.out.mono ?_; rintro e w' ⟨rfl, rfl⟩)
        obtain ⟨w13, hw13⟩ : ∃ w13, w13 = (((w10.setCell ⟨w.heap.size, 0, none⟩ (.int .u64 0)).setCell ⟨w.heap.size, 1, none⟩ (.int .u64 0)).setCell ⟨w.heap.size, 2, none⟩ (.slice none 0 0)).setCell ⟨w.heap.size, 3, none⟩ (.slice none 0 0) := ⟨_, rfl⟩
        have hx13 : w13.heap[w.heap.size]? = some (.cells #[.int .u64 0, .int .u64 0, .slice none 0 0, .slice none 0 0] 27 (0, 0)) := by rw [hw13]; exact blk_set (blk_set (blk_set (blk_set Hrr.out 0 _) 1 _) 2 _) 3 _
        have hE13 : Ext [w.heap.size] w10 w13 := by rw [hw13]; exact ((((Ext.refl _ _).setCell (Or.inl (by simp)) _).setCell (Or.inl (by simp)) _).setCell (Or.inl (by simp)) _).setCell (Or.inl (by simp)) _
        have y0 := blk_cell hx13 0
        have y1 := blk_cell hx13 1
        have y2 := blk_cell hx13 2
        have y3 := blk_cell hx13 3
        have Hw13 := Lib.hid hw13
        have HE13 := Lib.hid hE13
        clear hw13 hx13 hE13
        go_wp2_with fail
        rw [← Hw13.out]
        refine bodyPost_ret (v := .tuple #[.agg #[.int .u64 0, .int .u64 0, .slice none 0 0, .slice none 0 0], .bool false]) (by simp [results, Try.results16, go_sem, y0, y1, y2, y3]) rfl ?_
        rw [Hrs.out]
        exact ⟨rfl, Hbel10.out.trans (HE13.out.below (B := w.heap.size) Hbel10.out.size (fun q hq => by rw [List.mem_singleton.1 hq]; exact Nat.le_refl _))⟩
end Go.Proofs.Ytcfgdlpdnpnhmaa
set_option linter.unusedVariables false
set_option linter.unusedSimpArgs false
namespace Go.Proofs.Ytcfgdlpdnpnhmaa
open Go.RowKit Go.Maps

section
variable {P : Program} (w : World) {ops : Array Oper} {rest : List Oper} {o : Oper} {a : Act} {K : Act → World → Prop} {Q' : Exit → Act → World → Prop} {E : Prop}
theorem step_append_bts (hgd : o.guard = none) (s x : Operand) (ho : o.op = .call { callee := .builtin .append, args := #[s, x], argTypes := #[22, 22] })
    (base : Nat) (v : Value) (n : Nat) (l0 : Bs) (hs : a.eval s = v) (hown : w.ownsRow base 5 1 v n (vals l0)) (A : Option Addr) (m c : Nat) (l : Bs) (hx : a.eval x = .slice A m c) (hb : Bts w A m l)
    (hsz : n + m ≤ 140737488355328) (hbase : base ≤ w.heap.size)
    (h : ∀ v' w', w'.ownsRow base 5 1 v' (n + m) (vals (l0 ++ l)) → w.grownBy w' v.ownBlock → K (a.put o.dst v') w') :
    if Region.wanted o (yielded ops a.tmps) = true then Oper.wp Try.prog o a w K Q' else E := by
  have hw : Region.wanted o (yielded ops a.tmps) = true := by simp [Region.wanted, hgd]
  rw [if_pos hw]
  obtain ⟨v', w', hr, h2, h3, h4⟩ := run_append_bts w base o.type v n l0 hown A m c l hb hsz hbase
  unfold Oper.wp execOp
  simp only [ho, resolve, invoke, builtin, Sem.run_bind, Sem.run_pure, Result.andThen_ok, List.map_toArray, List.map_cons, List.map_nil, hs, hx, hr]
  exact h v' w' h2 h3
end
theorem TakeGives.size {w : World} {l : Bs} {k : Nat} (h : Q.fsize l = (0, k)) (h1 : k ≠ 0) {e : Ending} {w' : World} (q : e = .returned (.tuple #[.int .u8 0, .slice none 0 0, .int .i64 0, .int .i64 (k : Int)]) ∧ Below w.heap.size w w') : TakeGives w (Q.ftake l) e w' :=
  TakeGives.no (k := k) (by rw [ftake_no (by rw [h]; exact h1), h]) h1 q
set_option maxRecDepth 100000 in
set_option maxHeartbeats 1000000 in
theorem reftake_short (A : Option Addr) (n c : Nat) (l : Bs) (w : World) (hB : Bts w A n l) (hn : n < 5) (hnc : n ≤ c) :
    Calls Try.prog 67 #[.slice A n c] w (TakeGives w (Q.ftake l)) := by
  have hl := hB.1
  rcases Nat.eq_zero_or_pos n with h0 | h0
  · subst h0
    refine Calls.mono ?_ (fun e w' k => TakeGives.size (Q.fs0 hl) (by decide) k)
    clear hB hl
    go_enter Try.func67, Try.ntmps67
    go_wp2_with fail
    exact bodyPost_ret (v := .tuple #[.int .u8 0, .slice none 0 0, .int .i64 0, .int .i64 23]) (by simp [results, Try.results67, go_sem]) rfl ⟨rfl, Below.refl _ _⟩
  · obtain ⟨pb, po, rfl, hcell⟩ := bts_at hB h0
    have q0 := hcell 0 h0
    rw [Nat.add_zero] at q0
    obtain ⟨x, hx⟩ : ∃ x, x = (l.getD 0 0).toNat := ⟨_, rfl⟩
    rw [← hx] at q0
    have hi0 : ∀ W, (Instr.indexAt 22 (.slice (some ⟨pb, po, none⟩) n c) (.int .i64 0)).run Try.prog W = .ok (.pointer (some ⟨pb, po, none⟩)) W := fun W => by
      rw [run_index ⟨pb, po, none⟩ n c 0 (by omega) (by omega) W, add0]; rfl
    have e0 : ((n : Int) == 0) = false := beq_eq_false_iff_ne.2 (by omega)
    by_cases hm : x = 102
    · have hgx : l.getD 0 0 = 102 := by rw [← Q.getD_toNat, ← hx, hm]; rfl
      subst hm
      by_cases h1 : n = 1
      · refine Calls.mono ?_ (fun e w' k => TakeGives.size (Q.fs_one (by omega) hgx) (by decide) k)
        subst h1
        clear hB hcell hx hl hgx
        go_enter Try.func67, Try.ntmps67
        go_wp2_with fail
        exact bodyPost_ret (v := .tuple #[.int .u8 0, .slice none 0 0, .int .i64 0, .int .i64 23]) (by simp [results, Try.results67, go_sem]) rfl ⟨rfl, Below.refl _ _⟩
      · have q1 := hcell 1 (by omega)
        obtain ⟨y, hy⟩ : ∃ y, y = (l.getD 1 0).toNat := ⟨_, rfl⟩
        rw [← hy] at q1
        have hi1 : ∀ W, (Instr.indexAt 22 (.slice (some ⟨pb, po, none⟩) n c) (.int .i64 1)).run Try.prog W = .ok (.pointer (some ⟨pb, po + 1, none⟩)) W := fun W => by
          rw [run_index ⟨pb, po, none⟩ n c 1 (by omega) (by omega) W, add0]; rfl
        have g2 : decide ((n : Int) < 2) = false := decide_eq_false (by omega)
        have g5 : decide ((n : Int) < 5) = true := decide_eq_true (by omega)
        by_cases hk : y = 0
        · refine Calls.mono ?_ (fun e w' k => TakeGives.size (Q.fs_kind (l := l) (by omega) (by rw [← Q.getD_toNat, ← hy, hk]; rfl)) (by decide) k)
          subst hk
          clear hB hcell hx hy hl hgx
          go_enter Try.func67, Try.ntmps67
          go_wp2_with fail
          exact bodyPost_ret (v := .tuple #[.int .u8 0, .slice none 0 0, .int .i64 0, .int .i64 20]) (by simp [results, Try.results67, go_sem]) rfl ⟨rfl, Below.refl _ _⟩
        · have gk : ((y : Int) == 0) = false := beq_eq_false_iff_ne.2 (by omega)
          refine Calls.mono ?_ (fun e w' k => TakeGives.size (Q.fs_short (l := l) (by omega) (by omega) hgx (fun c => hk (by rw [hy, c]; rfl))) (by decide) k)
          clear hB hcell hx hy hl hgx hk
          go_enter Try.func67, Try.ntmps67
          go_wp2_with fail
          exact bodyPost_ret (v := .tuple #[.int .u8 0, .slice none 0 0, .int .i64 0, .int .i64 23]) (by simp [results, Try.results67, go_sem]) rfl ⟨rfl, Below.refl _ _⟩
    · refine Calls.mono ?_ (fun e w' k => TakeGives.size (Q.fs_mark (l := l) (by omega) (fun c => hm (by rw [hx, c]; rfl))) (by decide) k)
      have gm : ((x : Int) != 102) = true := by rw [bne_iff_ne]; omega
      clear hB hcell hx hl hm
      go_enter Try.func67, Try.ntmps67
      go_wp2_with fail
      exact bodyPost_ret (v := .tuple #[.int .u8 0, .slice none 0 0, .int .i64 0, .int .i64 20]) (by simp [results, Try.results67, go_sem]) rfl ⟨rfl, Below.refl _ _⟩

set_option maxRecDepth 100000 in
set_option maxHeartbeats 2000000 in
theorem reftake_long (A : Option Addr) (n c : Nat) (l : Bs) (w : World) (hB : Bts w A n l) (h5 : 5 ≤ n) (hn : n ≤ 140737488355328) (hnc : n ≤ c) :
    Calls Try.prog 67 #[.slice A n c] w (TakeGives w (Q.ftake l)) := by
  have hl := hB.1
  obtain ⟨pb, po, rfl, hcell⟩ := bts_at hB (by omega)
  have q0 := hcell 0 (by omega)
  rw [Nat.add_zero] at q0
  have q1 := hcell 1 (by omega)
  have q2 := hcell 2 (by omega)
  have q3 := hcell 3 (by omega)
  have q4 := hcell 4 (by omega)
  obtain ⟨x, hx⟩ : ∃ x, x = (l.getD 0 0).toNat := ⟨_, rfl⟩
  obtain ⟨y, hy⟩ : ∃ y, y = (l.getD 1 0).toNat := ⟨_, rfl⟩
  obtain ⟨b2, h2⟩ : ∃ b, b = (l.getD 2 0).toNat := ⟨_, rfl⟩
  obtain ⟨b3, h3⟩ : ∃ b, b = (l.getD 3 0).toNat := ⟨_, rfl⟩
  obtain ⟨b4, h4⟩ : ∃ b, b = (l.getD 4 0).toNat := ⟨_, rfl⟩
  have b2l : b2 < 256 := by rw [h2]; exact UInt8.toNat_lt _
  have b3l : b3 < 256 := by rw [h3]; exact UInt8.toNat_lt _
  have b4l : b4 < 256 := by rw [h4]; exact UInt8.toNat_lt _
  have hthree : Q.three l 2 = b2 * 65536 + b3 * 256 + b4 := by rw [h2, h3, h4]; rfl
  rw [← hx] at q0
  rw [← hy] at q1
  rw [← h2] at q2
  rw [← h3] at q3
  rw [← h4] at q4
  obtain ⟨t, ht⟩ : ∃ t, t = Q.three l 2 := ⟨_, rfl⟩
  have ht24 := Q.three_lt l 2
  rw [← ht] at ht24 hthree
  have hsum : (b2 : Int) * 65536 + (b3 : Int) * 256 + (b4 : Int) = (t : Int) := by omega
  have hi0 : ∀ W, (Instr.indexAt 22 (.slice (some ⟨pb, po, none⟩) n c) (.int .i64 0)).run Try.prog W = .ok (.pointer (some ⟨pb, po, none⟩)) W := fun W => by
    rw [run_index ⟨pb, po, none⟩ n c 0 (by omega) (by omega) W, add0]; rfl
  have hi1 : ∀ W, (Instr.indexAt 22 (.slice (some ⟨pb, po, none⟩) n c) (.int .i64 1)).run Try.prog W = .ok (.pointer (some ⟨pb, po + 1, none⟩)) W := fun W => by
    rw [run_index ⟨pb, po, none⟩ n c 1 (by omega) (by omega) W, add0]; rfl
  have hi2 : ∀ W, (Instr.indexAt 22 (.slice (some ⟨pb, po, none⟩) n c) (.int .i64 2)).run Try.prog W = .ok (.pointer (some ⟨pb, po + 2, none⟩)) W := fun W => by
    rw [run_index ⟨pb, po, none⟩ n c 2 (by omega) (by omega) W, add0]; rfl
  have hi3 : ∀ W, (Instr.indexAt 22 (.slice (some ⟨pb, po, none⟩) n c) (.int .i64 3)).run Try.prog W = .ok (.pointer (some ⟨pb, po + 3, none⟩)) W := fun W => by
    rw [run_index ⟨pb, po, none⟩ n c 3 (by omega) (by omega) W, add0]; rfl
  have hi4 : ∀ W, (Instr.indexAt 22 (.slice (some ⟨pb, po, none⟩) n c) (.int .i64 4)).run Try.prog W = .ok (.pointer (some ⟨pb, po + 4, none⟩)) W := fun W => by
    rw [run_index ⟨pb, po, none⟩ n c 4 (by omega) (by omega) W, add0]; rfl
  have e0 : ((n : Int) == 0) = false := beq_eq_false_iff_ne.2 (by omega)
  have g2 : decide ((n : Int) < 2) = false := decide_eq_false (by omega)
  have g5 : decide ((n : Int) < 5) = false := decide_eq_false (by omega)
  have hwq : ∀ q, Below w.heap.size w (w.drewN q) := fun q => ((Ext.refl [] w).drewN q).nil_below
  have Hwq := Lib.hid hwq
  have HB := Lib.hid hB
  have Hsum := Lib.hid hsum
  clear hcell hwq h2 h3 h4 hB hthree hsum
  by_cases hm : x = 102
  · have hgx : l.getD 0 0 = 102 := by rw [← Q.getD_toNat, ← hx, hm]; rfl
    by_cases hk : y = 0
    · refine Calls.mono ?_ (fun e w' k => TakeGives.size (Q.fs_kind (l := l) (by omega) (by rw [← Q.getD_toNat, ← hy, hk]; rfl)) (by decide) k)
      subst hk hm
      clear ht hx hy hl hgx
      go_enter Try.func67, Try.ntmps67
      go_wp2_with fail
      exact bodyPost_ret (v := .tuple #[.int .u8 0, .slice none 0 0, .int .i64 0, .int .i64 20]) (by simp [results, Try.results67, go_sem]) rfl ⟨rfl, Below.refl _ _⟩
    · have gk : ((y : Int) == 0) = false := beq_eq_false_iff_ne.2 (by omega)
      have hgy : l.getD 1 0 ≠ 0 := fun c => hk (by rw [hy, c]; rfl)
      by_cases hbig : 65536 < t
      · refine Calls.mono ?_ (fun e w' k => TakeGives.size (Q.fs_big (l := l) (by omega) (by rw [← ht]; exact hbig)) (by decide) k)
        have gb : decide ((65536 : Int) < (t : Int)) = true := decide_eq_true (by omega)
        subst hm
        clear ht hx hy hl hbig hk hgx hgy
        go_enter Try.func67, Try.ntmps67
        go_upto_region 11 with (fail)
        have hsm := Hsum.out
        go_quiet (fail)
        go_wp2_with fail
        exact bodyPost_ret (v := .tuple #[.int .u8 0, .slice none 0 0, .int .i64 0, .int .i64 20]) (by simp [results, Try.results67, go_sem]) rfl ⟨rfl, Hwq.out _⟩
      · have gb : decide ((65536 : Int) < (t : Int)) = false := decide_eq_false (by omega)
        by_cases h8 : n < t + 8
        · refine Calls.mono ?_ (fun e w' k => TakeGives.size (Q.fs_torn (l := l) (by omega) hgx hgy (by rw [← ht]; omega) (by rw [← ht]; omega)) (by decide) k)
          have g8 : decide ((n : Int) < (t : Int) + 8) = true := decide_eq_true (by omega)
          subst hm
          clear ht hx hy hl hbig hk hgx hgy h8
          go_enter Try.func67, Try.ntmps67
          go_upto_region 11 with (fail)
          have hsm := Hsum.out
          go_quiet (fail)
          go_wp2_with fail
          exact bodyPost_ret (v := .tuple #[.int .u8 0, .slice none 0 0, .int .i64 0, .int .i64 23]) (by simp [results, Try.results67, go_sem]) rfl ⟨rfl, Hwq.out _⟩
        · have g8 : decide ((n : Int) < (t : Int) + 8) = false := decide_eq_false (by omega)
          have hlt : t + 8 ≤ n := by omega
          have hfs := Q.fs_ok (l := l) hgx hgy (by rw [← ht]; omega) (by rw [← ht]; omega)
          rw [← ht] at hfs
          have hk5 : (l.getD 1 0).toNat = y := hy.symm
          obtain ⟨k, hkk⟩ : ∃ k, k = l.getD 1 0 := ⟨_, rfl⟩
          obtain ⟨body, hbody⟩ : ∃ body, body = (l.drop 5).take t := ⟨_, rfl⟩
          obtain ⟨Ab, hAb⟩ : ∃ Ab, Ab = (if c = 5 then (some ⟨pb, po, none⟩ : Option Addr) else (some ⟨pb, po, none⟩ : Option Addr).map (·.add 5)) := ⟨_, rfl⟩
          have hBd := (HB.out.take (t + 5) (by omega)).drop (c := c) 5 (by omega) (by omega)
          rw [← hAb, Q.drop_take, ← hbody, show t + 5 - 5 = t by omega] at hBd
          have hcut7 : ∀ W, (Instr.slice 22 (.slice (some ⟨pb, po, none⟩) n c) (some (.int .i64 5)) (some (.int .i64 ((t : Int) + 5))) none).run Try.prog W = .ok (.slice Ab t (c - 5)) W := fun W => by
            have := run_cut_mid (some ⟨pb, po, none⟩) n c 5 (t + 5) (by omega) (by omega) W
            rw [← hAb, show t + 5 - 5 = t by omega] at this
            exact this
          have hcut8 : ∀ W, (Instr.slice 22 (.slice (some ⟨pb, po, none⟩) n c) none (some (.int .i64 ((t : Int) + 8))) none).run Try.prog W = .ok (.slice (some ⟨pb, po, none⟩) (t + 8) c) W := fun W => run_cut_to (some ⟨pb, po, none⟩) n c (t + 8) (by omega) W
          have hF := fun W (hW : Bts W Ab t body) => refframe_calls k Ab t (c - 5) body W hW (by omega) y (by rw [hkk, hk5])
          obtain ⟨S1, hS1⟩ : ∃ S1 : ByteArray, S1 = ⟨(Q.frame k body).toArray⟩ := ⟨_, rfl⟩
          obtain ⟨S2, hS2⟩ : ∃ S2 : ByteArray, S2 = ⟨(l.take (t + 8)).toArray⟩ := ⟨_, rfl⟩
          have hS : ∀ w', Below w.heap.size w w' → (w'.cell? ⟨pb, po + 1, none⟩ = some (.int .u8 (y : Int)) ∧ (convert 22 9 (.slice (some ⟨pb, po, none⟩) (t + 8) c)).run Try.prog w' = .ok (.string S2) w') := fun w' hb => by
            refine ⟨(hb.cell (p := ⟨pb, po + 1, none⟩) (World.block_lt_of_cell? w _ q1)).trans q1, ?_⟩
            rw [hS2]
            exact run_to_str ((HB.out.take (t + 8) hlt).below hb) c
          have hwt8 : IntKind.i64.wrap ((t : Int) + 8) = (t : Int) + 8 := IntWalk.i64_in _ (by omega)
          have hwt5 : IntKind.i64.wrap ((t : Int) + 5) = (t : Int) + 5 := IntWalk.i64_in _ (by omega)
          have HS := Lib.hid hS
          have HS1 := Lib.hid hS1
          have HF := Lib.hid hF
          have HBd := Lib.hid hBd
          have hnn : Ab ≠ none := fun e => by rw [hAb] at e; split at e <;> cases e
          have Hfs := Lib.hid hfs
          have Hkk := Lib.hid hkk
          have Hk5 := Lib.hid hk5
          have Hbody := Lib.hid hbody
          have Ht := Lib.hid ht
          have hne : (S1 = S2) ↔ Q.frame k body = l.take (t + 8) := by
            rw [hS1, hS2]
            constructor
            · intro h
              have := congrArg (fun b : ByteArray => b.data.toList) h
              simpa using this
            · intro h; rw [h]
          subst hm
          clear hx hy hl hbig hk hgx hgy h8 hfs hkk hk5 hbody hS hS1 hF hBd ht hAb hnn hS2
          by_cases hf : S1 = S2
          · have gs1 : (S1.toList == S2.toList) = true := by rw [hf]; exact beq_self_eq_true _
            have hfr := hne.1 hf
            have hftR : Q.ftake l = ⟨k, body, t + 8, 0⟩ := by
              rw [Q.ftake_eq]
              unfold Q.ftakeR
              rw [Hfs.out, if_neg (fun c => c rfl), ← Ht.out, ← Hbody.out, ← Hkk.out, if_pos hfr]
            have Hft := Lib.hid hftR
            have Hbl : Hid (body.length = t) := Lib.hid HBd.out.1
            clear hfr hftR hne
            clear hf
            go_enter Try.func67, Try.ntmps67
            go_upto_region 11 with (fail)
            have hsm := Hsum.out
            go_quiet (fail)
            go_upto_region 17 with (fail)
            clear hsm
            obtain ⟨w1, hw1⟩ : ∃ w1, w1 = w.drewN nq := ⟨_, rfl⟩
            rw [← hw1]
            have Hd1 : Hid (Below w.heap.size w w1) := Lib.hid (by rw [hw1]; exact Hwq.out _)
            clear hw1
            refine wp_region_last (fun w' => w'.cell? ⟨pb, po + 1, none⟩ = some (.int .u8 (y : Int)) ∧ (convert 22 9 (.slice (some ⟨pb, po, none⟩) (t + 8) c)).run Try.prog w' = .ok (.string S2) w') 11 (by kernel_rfl) (HS.out w1.drew (Hd1.out.trans ((Below.refl w1.heap.size w1).drew.mono Hd1.out.size))) (fun hHeld => ?_)
            refine wpAnyL_take 0 (v := ?_) rfl (by kernel_rfl) (fun _ _ _ h => h) (Or.inl ⟨by kernel_rfl, ?_⟩) hHeld ?_
            rotate_left
            · (intro w hSw; (try dsimp only at hSw); go_simp; try with_reducible rfl)
            try simp only [Act.put, List.setIfInBounds_toArray, List.set_cons_zero, List.set_cons_succ]
            refine wpAnyL_take 1 (v := ?_) rfl (by kernel_rfl) (fun _ _ _ h => h) (Or.inl ⟨by kernel_rfl, ?_⟩) hHeld ?_
            rotate_left
            · (intro w hSw; (try dsimp only at hSw); go_simp; try with_reducible rfl)
            try simp only [Act.put, List.setIfInBounds_toArray, List.set_cons_zero, List.set_cons_succ]
            refine wpAnyL_take 2 (v := ?_) rfl (by kernel_rfl) (fun _ _ _ h => h) (Or.inl ⟨by kernel_rfl, ?_⟩) hHeld ?_
            rotate_left
            · (intro w hSw; (try dsimp only at hSw); go_simp; try with_reducible rfl)
            try simp only [Act.put, List.setIfInBounds_toArray, List.set_cons_zero, List.set_cons_succ]
            refine wpAnyL_take 3 (v := ?_) rfl (by kernel_rfl) (fun _ _ _ h => h) (Or.inl ⟨by kernel_rfl, ?_⟩) hHeld ?_
            rotate_left
            · (intro w hSw; (try dsimp only at hSw); go_simp; try with_reducible rfl)
            try simp only [Act.put, List.setIfInBounds_toArray, List.set_cons_zero, List.set_cons_succ]
            refine wpAnyL_take 6 (v := ?_) rfl (by kernel_rfl) (fun _ _ _ h => h) (Or.inl ⟨by kernel_rfl, ?_⟩) hHeld ?_
            rotate_left
            · (intro w hSw; (try dsimp only at hSw); go_simp; try with_reducible rfl)
            try simp only [Act.put, List.setIfInBounds_toArray, List.set_cons_zero, List.set_cons_succ]
            refine wpAnyL_take 7 (v := ?_) rfl (by kernel_rfl) (fun _ _ _ h => h) (Or.inl ⟨by kernel_rfl, ?_⟩) hHeld ?_
            rotate_left
            · (intro w hSw; (try dsimp only at hSw); go_simp; try with_reducible rfl)
            try simp only [Act.put, List.setIfInBounds_toArray, List.set_cons_zero, List.set_cons_succ]
            refine wpAnyL_take 8 (v := ?_) rfl (by kernel_rfl) (fun _ _ _ h => h) (Or.inl ⟨by kernel_rfl, ?_⟩) hHeld ?_
            rotate_left
            · (intro w hSw; (try dsimp only at hSw); go_simp; try with_reducible rfl)
            try simp only [Act.put, List.setIfInBounds_toArray, List.set_cons_zero, List.set_cons_succ]
            refine wpAnyL_take 9 (v := ?_) rfl (by kernel_rfl) (fun _ _ _ h => h) (Or.inl ⟨by kernel_rfl, ?_⟩) hHeld ?_
            rotate_left
            · (intro w hSw; (try dsimp only at hSw); go_simp; try with_reducible rfl)
            try simp only [Act.put, List.setIfInBounds_toArray, List.set_cons_zero, List.set_cons_succ]
            refine wpAnyL_take 10 (v := ?_) rfl (by kernel_rfl) (fun _ _ _ h => h) (Or.inl ⟨by kernel_rfl, ?_⟩) hHeld ?_
            rotate_left
            · (intro w hSw; (try dsimp only at hSw); go_simp; try with_reducible rfl)
            try simp only [Act.put, List.setIfInBounds_toArray, List.set_cons_zero, List.set_cons_succ]
            refine wpAnyL_one 4 (by kernel_rfl) rfl (fun K hK => ?_)
            go_simp
            go_at_call 78
            refine (HF.out _ (HBd.out.below (Hd1.out.trans ((Below.refl w1.heap.size w1).drew.mono Hd1.out.size)))).mono ?_
            rintro e w5 ⟨A5, c5, rfl, hown5, hb5⟩
            obtain ⟨hbt5, _, _, _⟩ := own_all hown5
            have hcv5 := run_to_str hbt5 c5
            rw [← HS1.out] at hcv5
            have hw5 : Below w.heap.size w w5 := Hd1.out.trans (((Below.refl w1.heap.size w1).drew.trans hb5).mono Hd1.out.size)
            clear hHeld
            have hHeld := HS.out w5 hw5
            refine hK.out _ _ (fun _ => hHeld) ?_
            clear hK K
            try simp only [Act.put, List.setIfInBounds_toArray, List.set_cons_zero, List.set_cons_succ]
            refine wpAnyL_one 5 (by kernel_rfl) rfl (fun K hK => ?_)
            go_simp
            refine hK.out _ _ (fun _ => hHeld) ?_
            clear hK K
            try simp only [Act.put, List.setIfInBounds_toArray, List.set_cons_zero, List.set_cons_succ]
            refine wpAnyL_one 11 (by kernel_rfl) rfl (fun K hK => ?_)
            go_simp
            refine hK.out _ _ (fun h => absurd rfl h) ?_
            clear hK K
            try simp only [Act.put, List.setIfInBounds_toArray, List.set_cons_zero, List.set_cons_succ]
            refine wpAnyL_done (by kernel_rfl) ?_ _
            go_upto_region 19 with (fail)
            have H6 : Hid (Below w.heap.size w w5.drew) := Lib.hid (hw5.trans ((Below.refl w5.heap.size w5).drew.mono hw5.size))
            have H7 : Hid (Below w.heap.size w (w5.drew.alloc (.cells #[] 5))) := Lib.hid (H6.out.alloc H6.out.size _)
            have hown7 : (w5.drew.alloc (.cells #[] 5)).ownsRow w5.drew.heap.size 5 1 (.slice (some ⟨w5.drew.heap.size, 0, none⟩) 0 0) 0 (vals []) := World.ownsRow_made w5.drew #[] 0 (Nat.le_refl _) (by unfold maxLen; omega) rfl
            clear hHeld hcv5 hbt5 hown5 hb5
            refine wp_region_last (fun w' => w'.cell? ⟨pb, po + 1, none⟩ = some (.int .u8 (y : Int))) 11 (by kernel_rfl) (HS.out _ H6.out).1 (fun hHeld => ?_)
            refine wpAnyL_take 0 (v := ?_) rfl (by kernel_rfl) (fun _ _ _ h => h) (Or.inl ⟨by kernel_rfl, ?_⟩) hHeld ?_
            rotate_left
            · (intro w hSw; (try dsimp only at hSw); go_simp; try with_reducible rfl)
            try simp only [Act.put, List.setIfInBounds_toArray, List.set_cons_zero, List.set_cons_succ]
            refine wpAnyL_take 1 (v := ?_) rfl (by kernel_rfl) (fun _ _ _ h => h) (Or.inl ⟨by kernel_rfl, ?_⟩) hHeld ?_
            rotate_left
            · (intro w hSw; (try dsimp only at hSw); go_simp; try with_reducible rfl)
            try simp only [Act.put, List.setIfInBounds_toArray, List.set_cons_zero, List.set_cons_succ]
            refine wpAnyL_take 2 (v := ?_) rfl (by kernel_rfl) (fun _ _ _ h => h) (Or.inl ⟨by kernel_rfl, ?_⟩) hHeld ?_
            rotate_left
            · (intro w hSw; (try dsimp only at hSw); go_simp; try with_reducible rfl)
            try simp only [Act.put, List.setIfInBounds_toArray, List.set_cons_zero, List.set_cons_succ]
            refine wpAnyL_take 4 (v := ?_) rfl (by kernel_rfl) (fun _ _ _ h => h) (Or.inl ⟨by kernel_rfl, ?_⟩) hHeld ?_
            rotate_left
            · (intro w hSw; (try dsimp only at hSw); go_simp; try with_reducible rfl)
            try simp only [Act.put, List.setIfInBounds_toArray, List.set_cons_zero, List.set_cons_succ]
            refine wpAnyL_take 6 (v := ?_) rfl (by kernel_rfl) (fun _ _ _ h => h) (Or.inl ⟨by kernel_rfl, ?_⟩) hHeld ?_
            rotate_left
            · (intro w hSw; (try dsimp only at hSw); go_simp; try with_reducible rfl)
            try simp only [Act.put, List.setIfInBounds_toArray, List.set_cons_zero, List.set_cons_succ]
            refine wpAnyL_take 7 (v := ?_) rfl (by kernel_rfl) (fun _ _ _ h => h) (Or.inl ⟨by kernel_rfl, ?_⟩) hHeld ?_
            rotate_left
            · (intro w hSw; (try dsimp only at hSw); go_simp; try with_reducible rfl)
            try simp only [Act.put, List.setIfInBounds_toArray, List.set_cons_zero, List.set_cons_succ]
            refine wpAnyL_one 3 (by kernel_rfl) rfl (fun K hK => ?_)
            go_simp
            clear hHeld
            have hHeld := (HS.out _ H7.out).1
            refine hK.out _ _ (fun _ => hHeld) ?_
            clear hK K
            try simp only [Act.put, List.setIfInBounds_toArray, List.set_cons_zero, List.set_cons_succ]
            refine wpAnyL_one 5 (by kernel_rfl) rfl (fun K hK => ?_)
            refine step_append_bts _ (by rfl) _ _ (by rfl) w5.drew.heap.size _ 0 [] (by rfl) hown7 Ab t (c - 5) body (by rfl) (HBd.out.below H7.out) (by omega) (by simp) ?_
            intro v8 w8 hown8 hgr8
            rw [Nat.zero_add, List.nil_append] at hown8
            obtain ⟨A8, c8, rfl⟩ := own_shape hown8
            have hw8 : Below w.heap.size w w8 := H7.out.grown hgr8 (by have := H6.out.size; simp at this ⊢; omega) (fun k hk => by cases hk; exact H6.out.size)
            clear hHeld
            have hHeld := (HS.out w8 hw8).1
            refine hK.out _ _ (fun _ => hHeld) ?_
            clear hK K
            try simp only [Act.put, List.setIfInBounds_toArray, List.set_cons_zero, List.set_cons_succ]
            refine wpAnyL_take 8 (v := ?_) rfl (by kernel_rfl) (fun _ _ _ h => h) (Or.inl ⟨by kernel_rfl, ?_⟩) hHeld ?_
            rotate_left
            · (intro w hSw; (try dsimp only at hSw); go_simp; try with_reducible rfl)
            try simp only [Act.put, List.setIfInBounds_toArray, List.set_cons_zero, List.set_cons_succ]
            refine wpAnyL_take 9 (v := ?_) rfl (by kernel_rfl) (fun _ _ _ h => h) (Or.inl ⟨by kernel_rfl, ?_⟩) hHeld ?_
            rotate_left
            · (intro w hSw; (try dsimp only at hSw); go_simp; try with_reducible rfl)
            try simp only [Act.put, List.setIfInBounds_toArray, List.set_cons_zero, List.set_cons_succ]
            refine wpAnyL_take 10 (v := ?_) rfl (by kernel_rfl) (fun _ _ _ h => h) (Or.inl ⟨by kernel_rfl, ?_⟩) hHeld ?_
            rotate_left
            · (intro w hSw; (try dsimp only at hSw); go_simp; try with_reducible rfl)
            try simp only [Act.put, List.setIfInBounds_toArray, List.set_cons_zero, List.set_cons_succ]
            refine wpAnyL_one 11 (by kernel_rfl) rfl (fun K hK => ?_)
            go_simp
            refine hK.out _ _ (fun h => absurd rfl h) ?_
            clear hK K
            try simp only [Act.put, List.setIfInBounds_toArray, List.set_cons_zero, List.set_cons_succ]
            refine wpAnyL_done (by kernel_rfl) ?_ _
            go_wp2_with fail
            refine bodyPost_ret (v := .tuple #[.int .u8 (y : Int), .slice A8 t c8, .int .i64 ((t : Int) + 8), .int .i64 0]) (by simp [results, Try.results67, go_sem]) rfl ?_
            obtain ⟨o1, o2, o3, o4⟩ := own_all hown8
            rw [Hft.out]
            unfold TakeGives
            rw [if_pos rfl]
            dsimp only
            rw [Hbl.out, show k.toNat = y by rw [Hkk.out]; exact Hk5.out]
            exact ⟨A8, c8, rfl, o1, o2, o3, fun ad e => ⟨Nat.le_trans H6.out.size (o4 ad e).1, (o4 ad e).2⟩, hw8⟩
          · have gs1 : (S1.toList == S2.toList) = false := by
              rw [Lib.toList_data, Lib.toList_data]
              refine beq_eq_false_iff_ne.2 (fun h => hf ?_)
              exact WideShapes.bytes_inj h
            have hfr : ¬ Q.frame k body = l.take (t + 8) := fun h => hf (hne.2 h)
            have hftR : (Q.ftake l).e = 22 := by
              rw [Q.ftake_eq]
              unfold Q.ftakeR
              rw [Hfs.out, if_neg (fun c => c rfl), ← Ht.out, ← Hbody.out, ← Hkk.out, if_neg hfr]
            have Hft := Lib.hid hftR
            clear hfr hftR hne
            clear hf
            go_enter Try.func67, Try.ntmps67
            go_upto_region 11 with (fail)
            have hsm := Hsum.out
            go_quiet (fail)
            go_upto_region 17 with (fail)
            clear hsm
            obtain ⟨w1, hw1⟩ : ∃ w1, w1 = w.drewN nq := ⟨_, rfl⟩
            rw [← hw1]
            have Hd1 : Hid (Below w.heap.size w w1) := Lib.hid (by rw [hw1]; exact Hwq.out _)
            clear hw1
            refine wp_region_last (fun w' => w'.cell? ⟨pb, po + 1, none⟩ = some (.int .u8 (y : Int)) ∧ (convert 22 9 (.slice (some ⟨pb, po, none⟩) (t + 8) c)).run Try.prog w' = .ok (.string S2) w') 11 (by kernel_rfl) (HS.out w1.drew (Hd1.out.trans ((Below.refl w1.heap.size w1).drew.mono Hd1.out.size))) (fun hHeld => ?_)
            refine wpAnyL_take 0 (v := ?_) rfl (by kernel_rfl) (fun _ _ _ h => h) (Or.inl ⟨by kernel_rfl, ?_⟩) hHeld ?_
            rotate_left
            · (intro w hSw; (try dsimp only at hSw); go_simp; try with_reducible rfl)
            try simp only [Act.put, List.setIfInBounds_toArray, List.set_cons_zero, List.set_cons_succ]
            refine wpAnyL_take 1 (v := ?_) rfl (by kernel_rfl) (fun _ _ _ h => h) (Or.inl ⟨by kernel_rfl, ?_⟩) hHeld ?_
            rotate_left
            · (intro w hSw; (try dsimp only at hSw); go_simp; try with_reducible rfl)
            try simp only [Act.put, List.setIfInBounds_toArray, List.set_cons_zero, List.set_cons_succ]
            refine wpAnyL_take 2 (v := ?_) rfl (by kernel_rfl) (fun _ _ _ h => h) (Or.inl ⟨by kernel_rfl, ?_⟩) hHeld ?_
            rotate_left
            · (intro w hSw; (try dsimp only at hSw); go_simp; try with_reducible rfl)
            try simp only [Act.put, List.setIfInBounds_toArray, List.set_cons_zero, List.set_cons_succ]
            refine wpAnyL_take 3 (v := ?_) rfl (by kernel_rfl) (fun _ _ _ h => h) (Or.inl ⟨by kernel_rfl, ?_⟩) hHeld ?_
            rotate_left
            · (intro w hSw; (try dsimp only at hSw); go_simp; try with_reducible rfl)
            try simp only [Act.put, List.setIfInBounds_toArray, List.set_cons_zero, List.set_cons_succ]
            refine wpAnyL_take 6 (v := ?_) rfl (by kernel_rfl) (fun _ _ _ h => h) (Or.inl ⟨by kernel_rfl, ?_⟩) hHeld ?_
            rotate_left
            · (intro w hSw; (try dsimp only at hSw); go_simp; try with_reducible rfl)
            try simp only [Act.put, List.setIfInBounds_toArray, List.set_cons_zero, List.set_cons_succ]
            refine wpAnyL_take 7 (v := ?_) rfl (by kernel_rfl) (fun _ _ _ h => h) (Or.inl ⟨by kernel_rfl, ?_⟩) hHeld ?_
            rotate_left
            · (intro w hSw; (try dsimp only at hSw); go_simp; try with_reducible rfl)
            try simp only [Act.put, List.setIfInBounds_toArray, List.set_cons_zero, List.set_cons_succ]
            refine wpAnyL_take 8 (v := ?_) rfl (by kernel_rfl) (fun _ _ _ h => h) (Or.inl ⟨by kernel_rfl, ?_⟩) hHeld ?_
            rotate_left
            · (intro w hSw; (try dsimp only at hSw); go_simp; try with_reducible rfl)
            try simp only [Act.put, List.setIfInBounds_toArray, List.set_cons_zero, List.set_cons_succ]
            refine wpAnyL_take 9 (v := ?_) rfl (by kernel_rfl) (fun _ _ _ h => h) (Or.inl ⟨by kernel_rfl, ?_⟩) hHeld ?_
            rotate_left
            · (intro w hSw; (try dsimp only at hSw); go_simp; try with_reducible rfl)
            try simp only [Act.put, List.setIfInBounds_toArray, List.set_cons_zero, List.set_cons_succ]
            refine wpAnyL_take 10 (v := ?_) rfl (by kernel_rfl) (fun _ _ _ h => h) (Or.inl ⟨by kernel_rfl, ?_⟩) hHeld ?_
            rotate_left
            · (intro w hSw; (try dsimp only at hSw); go_simp; try with_reducible rfl)
            try simp only [Act.put, List.setIfInBounds_toArray, List.set_cons_zero, List.set_cons_succ]
            refine wpAnyL_one 4 (by kernel_rfl) rfl (fun K hK => ?_)
            go_simp
            go_at_call 78
            refine (HF.out _ (HBd.out.below (Hd1.out.trans ((Below.refl w1.heap.size w1).drew.mono Hd1.out.size)))).mono ?_
            rintro e w5 ⟨A5, c5, rfl, hown5, hb5⟩
            obtain ⟨hbt5, _, _, _⟩ := own_all hown5
            have hcv5 := run_to_str hbt5 c5
            rw [← HS1.out] at hcv5
            have hw5 : Below w.heap.size w w5 := Hd1.out.trans (((Below.refl w1.heap.size w1).drew.trans hb5).mono Hd1.out.size)
            clear hHeld
            have hHeld := HS.out w5 hw5
            refine hK.out _ _ (fun _ => hHeld) ?_
            clear hK K
            try simp only [Act.put, List.setIfInBounds_toArray, List.set_cons_zero, List.set_cons_succ]
            refine wpAnyL_one 5 (by kernel_rfl) rfl (fun K hK => ?_)
            go_simp
            refine hK.out _ _ (fun _ => hHeld) ?_
            clear hK K
            try simp only [Act.put, List.setIfInBounds_toArray, List.set_cons_zero, List.set_cons_succ]
            refine wpAnyL_one 11 (by kernel_rfl) rfl (fun K hK => ?_)
            go_simp
            refine hK.out _ _ (fun h => absurd rfl h) ?_
            clear hK K
            try simp only [Act.put, List.setIfInBounds_toArray, List.set_cons_zero, List.set_cons_succ]
            refine wpAnyL_done (by kernel_rfl) ?_ _
            go_wp2_with fail
            refine bodyPost_ret (v := .tuple #[.int .u8 0, .slice none 0 0, .int .i64 0, .int .i64 22]) (by simp [results, Try.results67, go_sem]) rfl ?_
            exact TakeGives.no Hft.out (by decide) ⟨rfl, hw5⟩
  · refine Calls.mono ?_ (fun e w' k => TakeGives.size (Q.fs_mark (l := l) (by omega) (fun c => hm (by rw [hx, c]; rfl))) (by decide) k)
    have gm : ((x : Int) != 102) = true := by rw [bne_iff_ne]; omega
    clear ht hx hy hl hm
    go_enter Try.func67, Try.ntmps67
    go_wp2_with fail
    exact bodyPost_ret (v := .tuple #[.int .u8 0, .slice none 0 0, .int .i64 0, .int .i64 20]) (by simp [results, Try.results67, go_sem]) rfl ⟨rfl, Below.refl _ _⟩
theorem reftake_calls (A : Option Addr) (n c : Nat) (l : Bs) (w : World) (hB : Bts w A n l) (hn : n ≤ 140737488355328) (hnc : n ≤ c) :
    Calls Try.prog 67 #[.slice A n c] w (TakeGives w (Q.ftake l)) := by
  by_cases h : n < 5
  · exact reftake_short A n c l w hB h hnc
  · exact reftake_long A n c l w hB (by omega) hn hnc
end Go.Proofs.Ytcfgdlpdnpnhmaa
set_option linter.unusedVariables false
set_option linter.unusedSimpArgs false
namespace Go.Proofs.Ytcfgdlpdnpnhmaa
open Go.RowKit Go.Maps

set_option maxRecDepth 100000 in
set_option maxHeartbeats 2000000 in
theorem refmembers_calls (A : Option Addr) (n c : Nat) (l : List Int) (w : World) (hI : Itz w A n l) (hn : n ≤ 140737488355328) :
    Calls Try.prog 71 #[.slice A n c] w fun e w' => e = .returned (.bool (Q.rising l)) ∧ Below w.heap.size w w' := by
  have hl := hI.1
  rcases Nat.eq_zero_or_pos n with h0 | h0
  · subst h0
    have hr : Q.rising l = false := by unfold Q.rising; rw [hl]; rfl
    rw [hr]
    clear hI hl hr
    go_enter Try.func71, Try.ntmps71
    go_wp2
    go_ret
    exact ⟨rfl, Below.refl _ _⟩
  · obtain ⟨pb, po, rfl, hcell⟩ := itz_at hI h0
    have hi : ∀ (k : Nat), k < n → ∀ W, (Instr.indexAt 25 (.slice (some ⟨pb, po, none⟩) n c) (.int .i64 (k : Int))).run Try.prog W = .ok (.pointer (some ⟨pb, po + k, none⟩)) W := fun k hk W => by
      rw [run_index_int ⟨pb, po, none⟩ n c k (by omega) (by omega) W, add0, Int.toNat_natCast]
    have Hi := Lib.hid hi
    have g0 : decide ((n : Int) < 1) = false := decide_eq_false (by omega)
    by_cases h7 : n ≤ 7
    · have hr : Q.rising l = Q.risingGo (prev l 0) (l.drop 0) := by unfold Q.rising; rw [hl, decide_eq_true ⟨h0, h7⟩]; rfl
      rw [hr]
      have g7 : decide ((7 : Int) < (n : Int)) = false := decide_eq_false (by omega)
      have Hl := Lib.hid hl
      have Hc := Lib.hid hcell
      clear hI hl hr hcell hi
      go_enter Try.func71, Try.ntmps71
      go_wp2
      go_loopw [3] (fun i wr => ∃ k : Nat, k ≤ n ∧ i = .int .i64 k ∧ -1 ≤ prev l k ∧ Hid (Q.risingGo (prev l 0) (l.drop 0) = Q.risingGo (prev l k) (l.drop k)) ∧ Below w.heap.size w wr) (fun i _ => n - (intOf i).toNat)
      case atStart => exact ⟨0, Nat.zero_le _, rfl, by unfold prev; simp, Lib.hid rfl, Below.refl _ _⟩
      case round =>
        obtain ⟨k, hk, rfl, hp1, hgo, hbl⟩ := hrel
        have Hbl := Lib.hid hbl
        clear hbl
        have hwq : ∀ q, Below w.heap.size w (wr.drewN q) := fun q => Hbl.out.trans ((((Ext.refl [] wr).drewN q).nil_below).mono Hbl.out.size)
        have Hwq := Lib.hid hwq
        clear hwq
        by_cases hkn : k < n
        · have hst := rising_step (l := l) (k := k) (by rw [Hl.out]; exact hkn)
          have hck := (Hbl.out.cell (p := ⟨pb, po + k, none⟩) (World.block_lt_of_cell? w _ (Hc.out k hkn))).trans (Hc.out k hkn)
          have hik := Hi.out k hkn
          have hpk : prev l (k + 1) = l.getD k 0 := by unfold prev; rw [if_neg (by omega), Nat.add_sub_cancel]
          have hwk : IntKind.i64.wrap ((k : Int) + 1) = (k : Int) + 1 := IntWalk.i64_in _ (by omega)
          have Hst := Lib.hid hst
          have Hpk := Lib.hid hpk
          obtain ⟨x, hx⟩ : ∃ x, x = l.getD k 0 := ⟨_, rfl⟩
          rw [← hx] at hck Hst Hpk
          by_cases hx0 : x < 0
          · have gx0 : decide (x < 0) = true := decide_eq_true hx0
            have hfin : Q.risingGo (prev l 0) (l.drop 0) = false := by rw [hgo.out, Hst.out, decide_eq_false (by omega), Bool.false_and]
            have Hfin := Lib.hid hfin
            clear hst hpk hx hfin hp1 hx0
            go_wp2
            go_quiet (fail)
            go_wp2
            go_ret
            exact ⟨by rw [Hfin.out] <;> rfl, Hwq.out _⟩
          · have gx0 : decide (x < 0) = false := decide_eq_false hx0
            by_cases hx6 : 6 < x
            · have gx6 : decide (6 < x) = true := decide_eq_true hx6
              have hfin : Q.risingGo (prev l 0) (l.drop 0) = false := by rw [hgo.out, Hst.out, decide_eq_false (by omega), Bool.false_and]
              have Hfin := Lib.hid hfin
              clear hst hpk hx hfin hp1 hx0
              go_wp2
              go_quiet (fail)
              go_wp2
              go_ret
              exact ⟨by rw [Hfin.out] <;> rfl, Hwq.out _⟩
            · have gx6 : decide (6 < x) = false := decide_eq_false hx6
              by_cases hk0 : k = 0
              · subst hk0
                have hn2 : Hid (Q.risingGo (prev l 0) (l.drop 0) = Q.risingGo (prev l (0 + 1)) (l.drop (0 + 1))) := Lib.hid (by rw [hgo.out, Hst.out, decide_eq_true (show prev l 0 < x ∧ x < 7 from ⟨by show (if (0 : Nat) = 0 then (-1 : Int) else _) < x; rw [if_pos rfl]; omega, by omega⟩), Bool.true_and])
                have hpp : -1 ≤ prev l (0 + 1) := by rw [Hpk.out]; omega
                have Hpp := Lib.hid hpp
                rw [Nat.add_zero] at hck hik
                clear hst hpk hx hp1 hx0 hpp
                go_wp2
                go_quiet (fail)
                go_wp2
                go_roundw
                case rel => exact ⟨0 + 1, by omega, rfl, Hpp.out, hn2, Hwq.out _⟩
                case measure => simp [intOf]; omega
              · obtain ⟨j, hj⟩ : ∃ j, k = j + 1 := ⟨k - 1, by omega⟩
                have hcj := (Hbl.out.cell (p := ⟨pb, po + j, none⟩) (World.block_lt_of_cell? w _ (Hc.out j (by omega)))).trans (Hc.out j (by omega))
                have hij : ∀ W, (Instr.indexAt 25 (.slice (some ⟨pb, po, none⟩) n c) (.int .i64 ((k : Int) - 1))).run Try.prog W = .ok (.pointer (some ⟨pb, po + j, none⟩)) W := fun W => by
                  rw [show ((k : Int) - 1) = (j : Int) by omega]; exact Hi.out j (by omega) W
                have hpj : prev l k = l.getD j 0 := by rw [hj]; unfold prev; rw [if_neg (by omega), Nat.add_sub_cancel]
                obtain ⟨p, hp⟩ : ∃ p, p = l.getD j 0 := ⟨_, rfl⟩
                rw [← hp] at hcj hpj
                rw [hpj] at Hst hgo
                have gk0 : decide ((0 : Int) < (k : Int)) = true := decide_eq_true (by omega)
                have hwj : IntKind.i64.wrap ((k : Int) - 1) = (k : Int) - 1 := IntWalk.i64_in _ (by omega)
                have gk1 : 0 ≤ (k : Int) - 1 := by omega
                have gk2 : 0 < k := by omega
                by_cases hc : x ≤ p
                · have gc : decide (x ≤ p) = true := decide_eq_true hc
                  have hfin : Q.risingGo (prev l 0) (l.drop 0) = false := by rw [hgo.out, Hst.out, decide_eq_false (by omega), Bool.false_and]
                  have Hfin := Lib.hid hfin
                  clear hst hpk hx hp hpj hfin hp1 hx0 hj hk0
                  go_wp2
                  go_quiet (fail)
                  go_wp2
                  go_ret
                  exact ⟨by rw [Hfin.out] <;> rfl, Hwq.out _⟩
                · have gc : decide (x ≤ p) = false := decide_eq_false hc
                  have hn2 : Hid (Q.risingGo (prev l 0) (l.drop 0) = Q.risingGo (prev l (k + 1)) (l.drop (k + 1))) := Lib.hid (by rw [hgo.out, Hst.out, decide_eq_true (show p < x ∧ x < 7 from ⟨by omega, by omega⟩), Bool.true_and])
                  have hpp : -1 ≤ prev l (k + 1) := by rw [Hpk.out]; omega
                  have Hpp := Lib.hid hpp
                  clear hst hpk hx hp hpj hp1 hx0 hpp hj hk0
                  go_wp2
                  go_quiet (fail)
                  go_wp2
                  go_roundw
                  case rel => exact ⟨k + 1, by omega, by go_num, Hpp.out, hn2, Hwq.out _⟩
                  case measure => simp [intOf]; omega
        · have hfin : Q.risingGo (prev l 0) (l.drop 0) = true := by rw [hgo.out, List.drop_of_length_le (by rw [Hl.out]; omega)]; rfl
          have Hfin := Lib.hid hfin
          clear hfin hp1
          go_wp2
          go_ret
          exact ⟨by rw [Hfin.out] <;> rfl, Hbl.out⟩
    · have hr : Q.rising l = false := by unfold Q.rising; rw [hl, decide_eq_false (fun h => h7 h.2)]; rfl
      rw [hr]
      have g7 : decide ((7 : Int) < (n : Int)) = true := decide_eq_true (by omega)
      clear hI hl hr hcell hi
      go_enter Try.func71, Try.ntmps71
      go_wp2
      go_ret
      exact ⟨rfl, Below.refl _ _⟩
end Go.Proofs.Ytcfgdlpdnpnhmaa
set_option linter.unusedVariables false
set_option linter.unusedSimpArgs false
namespace Go.Proofs.Ytcfgdlpdnpnhmaa
open Go.RowKit Go.Maps

set_option maxRecDepth 100000 in
set_option maxHeartbeats 1000000 in
theorem refsound_raw (i t : Nat) (Am : Option Addr) (nm cm : Nat) (Ad : Option Addr) (nd cd : Nat) (ms : List Int) (w : World) (hI : Itz w Am nm ms) (hi : i < 18446744073709551616) (ht : t < 18446744073709551616) (hnm : nm ≤ 140737488355328) (hnd : nd ≤ 140737488355328) :
    Calls Try.prog 21 #[.agg #[.int .u64 i, .int .u64 t, .slice Am nm cm, .slice Ad nd cd]] w fun e w' => e = .returned (.bool (decide (1 ≤ i ∧ i < 576460752303423488 ∧ 1 ≤ t ∧ t ≤ 1152921504606846976) && (Q.rising ms && decide (nd ≤ 32768)))) ∧ Below w.heap.size w w' := by
  have Hr := Lib.hid (refmembers_calls Am nm cm ms (w.alloc (.cells #[.int .u64 (i : Int), .int .u64 (t : Int), .slice Am nm cm, .slice Ad nd cd] 27)) (hI.below (al1 w _)) hnm)
  have Hx0 := Lib.hid (blk_new w (.cells #[.int .u64 (i : Int), .int .u64 (t : Int), .slice Am nm cm, .slice Ad nd cd] 27))
  clear hI
  by_cases c1 : 1 ≤ i
  · have g1 : decide ((1 : Int) ≤ (i : Int)) = true := decide_eq_true (by omega)
    by_cases c2 : i < 576460752303423488
    · have g2 : decide ((i : Int) < 576460752303423488) = true := decide_eq_true (by omega)
      by_cases c3 : 1 ≤ t
      · have g3 : decide ((1 : Int) ≤ (t : Int)) = true := decide_eq_true (by omega)
        by_cases c4 : t ≤ 1152921504606846976
        · have g4 : decide ((t : Int) ≤ 1152921504606846976) = true := decide_eq_true (by omega)
          by_cases c5 : Q.rising ms = true
          · by_cases c6 : nd ≤ 32768
            · have g6 : decide ((nd : Int) ≤ 32768) = true := decide_eq_true (by omega)
              have hres : (decide (1 ≤ i ∧ i < 576460752303423488 ∧ 1 ≤ t ∧ t ≤ 1152921504606846976) && (Q.rising ms && decide (nd ≤ 32768))) = true := by
                rw [c5, decide_eq_true ⟨c1, c2, c3, c4⟩, decide_eq_true c6]; rfl
              rw [hres]
              clear hres c1 c2 c3 c4 c6
              rw [c5] at Hr
              clear c5
              go_enter Try.func21, Try.ntmps21
              go_wp2_with (go_at_call 71; refine Hr.out.mono ?_; rintro e w1 ⟨rfl, hb1⟩; have hx1 := (hb1.block _ (blk_lt Hx0.out)).trans Hx0.out; have k3 := blk_cell hx1 3; have Hb1 := Lib.hid hb1; clear hb1 hx1)
              go_ret
              exact ⟨rfl, (al1 w _).trans (Hb1.out.mono (by simp))⟩
            · have g6 : decide ((nd : Int) ≤ 32768) = false := decide_eq_false (by omega)
              have hres : (decide (1 ≤ i ∧ i < 576460752303423488 ∧ 1 ≤ t ∧ t ≤ 1152921504606846976) && (Q.rising ms && decide (nd ≤ 32768))) = false := by
                rw [decide_eq_false c6, Bool.and_false, Bool.and_false]
              rw [hres]
              clear hres c1 c2 c3 c4 c6
              rw [c5] at Hr
              clear c5
              go_enter Try.func21, Try.ntmps21
              go_wp2_with (go_at_call 71; refine Hr.out.mono ?_; rintro e w1 ⟨rfl, hb1⟩; have hx1 := (hb1.block _ (blk_lt Hx0.out)).trans Hx0.out; have k3 := blk_cell hx1 3; have Hb1 := Lib.hid hb1; clear hb1 hx1)
              go_ret
              exact ⟨rfl, (al1 w _).trans (Hb1.out.mono (by simp))⟩
          · have c5 : Q.rising ms = false := by simpa using c5
            have hres : (decide (1 ≤ i ∧ i < 576460752303423488 ∧ 1 ≤ t ∧ t ≤ 1152921504606846976) && (Q.rising ms && decide (nd ≤ 32768))) = false := by
              rw [c5, Bool.false_and, Bool.and_false]
            rw [hres]
            clear hres c1 c2 c3 c4
            rw [c5] at Hr
            clear c5
            go_enter Try.func21, Try.ntmps21
            go_wp2_with (go_at_call 71; refine Hr.out.mono ?_; rintro e w1 ⟨rfl, hb1⟩; have hx1 := (hb1.block _ (blk_lt Hx0.out)).trans Hx0.out; have k3 := blk_cell hx1 3; have Hb1 := Lib.hid hb1; clear hb1 hx1)
            go_ret
            exact ⟨rfl, (al1 w _).trans (Hb1.out.mono (by simp))⟩
        · have g4 : decide ((t : Int) ≤ 1152921504606846976) = false := decide_eq_false (by omega)
          have hres : (decide (1 ≤ i ∧ i < 576460752303423488 ∧ 1 ≤ t ∧ t ≤ 1152921504606846976) && (Q.rising ms && decide (nd ≤ 32768))) = false := by
            rw [decide_eq_false (fun h => c4 h.2.2.2)]; rfl
          rw [hres]
          clear hres c1 c2 c3 c4
          go_enter Try.func21, Try.ntmps21
          go_wp2_with fail
          go_ret
          exact ⟨rfl, al1 w _⟩
      · have g3 : decide ((1 : Int) ≤ (t : Int)) = false := decide_eq_false (by omega)
        have hres : (decide (1 ≤ i ∧ i < 576460752303423488 ∧ 1 ≤ t ∧ t ≤ 1152921504606846976) && (Q.rising ms && decide (nd ≤ 32768))) = false := by
          rw [decide_eq_false (fun h => c3 h.2.2.1)]; rfl
        rw [hres]
        clear hres c1 c2 c3
        go_enter Try.func21, Try.ntmps21
        go_wp2_with fail
        go_ret
        exact ⟨rfl, al1 w _⟩
    · have g2 : decide ((i : Int) < 576460752303423488) = false := decide_eq_false (by omega)
      have hres : (decide (1 ≤ i ∧ i < 576460752303423488 ∧ 1 ≤ t ∧ t ≤ 1152921504606846976) && (Q.rising ms && decide (nd ≤ 32768))) = false := by
        rw [decide_eq_false (fun h => c2 h.2.1)]; rfl
      rw [hres]
      clear hres c1 c2
      go_enter Try.func21, Try.ntmps21
      go_wp2_with fail
      go_ret
      exact ⟨rfl, al1 w _⟩
  · have g1 : decide ((1 : Int) ≤ (i : Int)) = false := decide_eq_false (by omega)
    have hres : (decide (1 ≤ i ∧ i < 576460752303423488 ∧ 1 ≤ t ∧ t ≤ 1152921504606846976) && (Q.rising ms && decide (nd ≤ 32768))) = false := by
      rw [decide_eq_false (fun h => c1 h.1)]; rfl
    rw [hres]
    clear hres c1
    go_enter Try.func21, Try.ntmps21
    go_wp2_with fail
    go_ret
    exact ⟨rfl, al1 w _⟩

theorem refsound_calls (v : Value) (p : Q.Sn) (w : World) (h : SnIs w v p) (hi : p.index < 18446744073709551616) (ht : p.term < 18446744073709551616) (hnm : p.members.length ≤ 140737488355328) (hnd : p.data.length ≤ 140737488355328) :
    Calls Try.prog 21 #[v] w fun e w' => e = .returned (.bool (Q.sound p)) ∧ Below w.heap.size w w' := by
  obtain ⟨Am, cm, Ad, cd, rfl, h1, h2, h3, h4⟩ := h
  exact refsound_raw p.index p.term Am p.members.length cm Ad p.data.length cd p.members w h1 hi ht hnm hnd
end Go.Proofs.Ytcfgdlpdnpnhmaa
set_option linter.unusedVariables false
set_option linter.unusedSimpArgs false
namespace Go.Proofs.Ytcfgdlpdnpnhmaa
open Go.RowKit Go.Maps

def SameIs (w : World) (P : Prop) (e : Ending) (w' : World) : Prop := ∃ b, e = .returned (.bool b) ∧ (b = true ↔ P) ∧ Below w.heap.size w w'
theorem SameIs.no {w : World} {P : Prop} (h : ¬ P) {e : Ending} {w' : World} (k : e = .returned (.bool false) ∧ Below w.heap.size w w') : SameIs w P e w' := ⟨false, k.1, ⟨fun c => (by cases c), fun c => absurd c h⟩, k.2⟩
theorem SameIs.yes {w : World} {P : Prop} (h : P) {e : Ending} {w' : World} (k : e = .returned (.bool true) ∧ Below w.heap.size w w') : SameIs w P e w' := ⟨true, k.1, ⟨fun _ => h, fun _ => rfl⟩, k.2⟩
theorem below2 (w : World) (o1 o2 : Obj) : Below w.heap.size w ((w.alloc o1).alloc o2) := (al1 w o1).trans ((al1 (w.alloc o1) o2).mono (by simp))

set_option maxRecDepth 100000 in
set_option maxHeartbeats 2000000 in
theorem refsame27_calls (va vb : Value) (p q : Q.Sn) (w : World) (ha : SnIs w va p) (hb : SnIs w vb q) (hp : p.members.length ≤ 140737488355328) (hq : q.members.length ≤ 140737488355328) :
    Calls Try.prog 18 #[va, vb] w (SameIs w (p = q)) := by
  obtain ⟨i1, t1, ms1, ds1⟩ := p
  obtain ⟨i2, t2, ms2, ds2⟩ := q
  obtain ⟨A1, c1, B1, d1, rfl, hm1, hmc1, hd1, hdc1⟩ := ha
  obtain ⟨A2, c2, B2, d2, rfl, hm2, hmc2, hd2, hdc2⟩ := hb
  dsimp only at *
  obtain ⟨n1, hn1⟩ : ∃ n, n = ms1.length := ⟨_, rfl⟩
  obtain ⟨n2, hn2⟩ : ∃ n, n = ms2.length := ⟨_, rfl⟩
  obtain ⟨m1, hl1⟩ : ∃ n, n = ds1.length := ⟨_, rfl⟩
  obtain ⟨m2, hl2⟩ : ∃ n, n = ds2.length := ⟨_, rfl⟩
  rw [← hn1] at hm1 hp hmc1 ⊢
  rw [← hn2] at hm2 hq hmc2 ⊢
  rw [← hl1] at hd1 hdc1 ⊢
  rw [← hl2] at hd2 hdc2 ⊢
  obtain ⟨w2, hw2⟩ : ∃ w2, w2 = (w.alloc (.cells #[.int .u64 (i1 : Int), .int .u64 (t1 : Int), .slice A1 n1 c1, .slice B1 m1 d1] 27)).alloc (.cells #[.int .u64 (i2 : Int), .int .u64 (t2 : Int), .slice A2 n2 c2, .slice B2 m2 d2] 27) := ⟨_, rfl⟩
  have hb2 : Below w.heap.size w w2 := by rw [hw2]; exact below2 w _ _
  have hx1 : w2.heap[w.heap.size]? = some (.cells #[.int .u64 (i1 : Int), .int .u64 (t1 : Int), .slice A1 n1 c1, .slice B1 m1 d1] 27 (0, 0)) := by rw [hw2]; exact blk_alloc (blk_new w _) _
  have hx2 : w2.heap[w.heap.size + 1]? = some (.cells #[.int .u64 (i2 : Int), .int .u64 (t2 : Int), .slice A2 n2 c2, .slice B2 m2 d2] 27 (0, 0)) := by rw [hw2]; exact blk_new1 w _ _
  have a0 := blk_cell hx1 0
  have a1 := blk_cell hx1 1
  have a2 := blk_cell hx1 2
  have a3 := blk_cell hx1 3
  have b0 := blk_cell hx2 0
  have b1 := blk_cell hx2 1
  have b2 := blk_cell hx2 2
  have b3 := blk_cell hx2 3
  obtain ⟨S1, hS1⟩ : ∃ S1 : ByteArray, S1 = ⟨ds1.toArray⟩ := ⟨_, rfl⟩
  obtain ⟨S2, hS2⟩ : ∃ S2 : ByteArray, S2 = ⟨ds2.toArray⟩ := ⟨_, rfl⟩
  have cv1 := run_to_str (hd1.below hb2) d1
  have cv2 := run_to_str (hd2.below hb2) d2
  rw [← hS1] at cv1
  rw [← hS2] at cv2
  have hss : S1 = S2 ↔ ds1 = ds2 := by
    rw [hS1, hS2]
    constructor
    · intro h
      have := congrArg (fun b : ByteArray => b.data.toList) h
      simpa using this
    · intro h; rw [h]
  have HM1 := Lib.hid (hm1.below hb2)
  have HM2 := Lib.hid (hm2.below hb2)
  have Hb2 := Lib.hid hb2
  have Hw2 := Lib.hid hw2
  have Hss := Lib.hid hss
  have Hn1 := Lib.hid hn1
  have Hn2 := Lib.hid hn2
  have Hx1 := Lib.hid hx1
  have Hx2 := Lib.hid hx2
  clear hw2 hb2 hx1 hx2 hm1 hm2 hd1 hd2 hS1 hS2 hss hn1 hn2 hl1 hl2
  by_cases hi : i1 = i2
  · by_cases ht : t1 = t2
    · by_cases hn : n1 = n2
      · by_cases hs : S1 = S2
        · have gs : (S1.toList == S2.toList) = true := by rw [hs]; exact beq_self_eq_true _
          have hds := Hss.out.1 hs
          subst hi ht hn
          have hfin : (∀ j, j < n1 → ms1.getD j 0 = ms2.getD j 0) → Q.Sn.mk i1 t1 ms1 ds1 = Q.Sn.mk i1 t1 ms2 ds2 := fun h => by
            have e : ms1 = ms2 := by
              refine List.ext_getElem (by rw [← Hn1.out, ← Hn2.out]) (fun j h1 h2 => ?_)
              have := h j (by rw [Hn1.out]; exact h1)
              simpa [List.getD_eq_getElem?_getD, h1, h2] using this
            rw [e, hds]
          have hdif : ∀ j, j < n1 → ms1.getD j 0 ≠ ms2.getD j 0 → ¬ Q.Sn.mk i1 t1 ms1 ds1 = Q.Sn.mk i1 t1 ms2 ds2 := fun j hj h c => by injection c with _ _ c _; rw [c] at h; exact h rfl
          have Hfin := Lib.hid hfin
          have Hdif := Lib.hid hdif
          clear hs hds hfin hdif
          go_enter Try.func18, Try.ntmps18
          go_upto_region 1 with fail
          rw [← Hw2.out]
          go_wp2_with fail
          go_loopw [5] (fun i wr => ∃ k : Nat, k ≤ n1 ∧ i = .int .i64 k ∧ Hid (∀ j, j < k → ms1.getD j 0 = ms2.getD j 0) ∧ Hid (Below w2.heap.size w2 wr)) (fun i _ => n1 - (intOf i).toNat)
          case atStart => exact ⟨0, Nat.zero_le _, rfl, Lib.hid (fun j hj => absurd hj (by omega)), Lib.hid (Below.refl _ _)⟩
          case round =>
            obtain ⟨k, hk, rfl, hall, hbl⟩ := hrel
            have hy1 := (hbl.out.block _ (blk_lt Hx1.out)).trans Hx1.out
            have hy2 := (hbl.out.block _ (blk_lt Hx2.out)).trans Hx2.out
            clear a0 a1 a2 a3 b0 b1 b2 b3 cv1 cv2
            have a2 := blk_cell hy1 2
            have b2 := blk_cell hy2 2
            have hwq : ∀ q, Below w.heap.size w (wr.drewN q) := fun q => Hb2.out.trans ((hbl.out.trans ((((Ext.refl [] wr).drewN q).nil_below).mono hbl.out.size)).mono Hb2.out.size)
            have hwq2 : ∀ q, Below w2.heap.size w2 (wr.drewN q) := fun q => hbl.out.trans ((((Ext.refl [] wr).drewN q).nil_below).mono hbl.out.size)
            have Hwq := Lib.hid hwq
            have Hwq2 := Lib.hid hwq2
            have Hbr := Lib.hid (Hb2.out.trans (hbl.out.mono Hb2.out.size))
            clear hy1 hy2 hwq hwq2
            by_cases hkn : k < n1
            · have hwk : IntKind.i64.wrap ((k : Int) + 1) = (k : Int) + 1 := IntWalk.i64_in _ (by omega)
              obtain ⟨p1, o1, e1, hc1⟩ := itz_at HM1.out (by omega)
              obtain ⟨p2, o2, e2, hc2⟩ := itz_at HM2.out (by omega)
              subst e1 e2
              have hk1 := (hbl.out.cell (p := ⟨p1, o1 + k, none⟩) (World.block_lt_of_cell? w2 _ (hc1 k hkn))).trans (hc1 k hkn)
              have hk2 := (hbl.out.cell (p := ⟨p2, o2 + k, none⟩) (World.block_lt_of_cell? w2 _ (hc2 k hkn))).trans (hc2 k hkn)
              have ix1 : ∀ W, (Instr.indexAt 25 (.slice (some ⟨p1, o1, none⟩) n1 c1) (.int .i64 (k : Int))).run Try.prog W = .ok (.pointer (some ⟨p1, o1 + k, none⟩)) W := fun W => by
                rw [run_index_int ⟨p1, o1, none⟩ n1 c1 k (by omega) (by omega) W, add0, Int.toNat_natCast]
              have ix2 : ∀ W, (Instr.indexAt 25 (.slice (some ⟨p2, o2, none⟩) n1 c2) (.int .i64 (k : Int))).run Try.prog W = .ok (.pointer (some ⟨p2, o2 + k, none⟩)) W := fun W => by
                rw [run_index_int ⟨p2, o2, none⟩ n1 c2 k (by omega) (by omega) W, add0, Int.toNat_natCast]
              obtain ⟨x, hx⟩ : ∃ x, x = ms1.getD k 0 := ⟨_, rfl⟩
              obtain ⟨y, hy⟩ : ∃ y, y = ms2.getD k 0 := ⟨_, rfl⟩
              rw [← hx] at hk1
              rw [← hy] at hk2
              clear hc1 hc2 hbl
              by_cases hxy : x = y
              · have hall2 : Hid (∀ j, j < k + 1 → ms1.getD j 0 = ms2.getD j 0) := Lib.hid (fun j hj => by
                  by_cases e : j = k
                  · rw [e, ← hx, ← hy, hxy]
                  · exact hall.out j (by omega))
                subst hxy
                clear hx hy
                go_wp2_with fail
                go_quiet (fail)
                go_wp2_with fail
                go_roundw
                case rel => exact ⟨k + 1, by omega, by go_num, hall2, Lib.hid (Hwq2.out _)⟩
                case measure => simp [intOf]; omega
              · have gxy : (x != y) = true := by rw [bne_iff_ne]; exact hxy
                have Hne := Lib.hid (Hdif.out k hkn (by rw [← hx, ← hy]; exact hxy))
                clear hx hy hxy
                go_wp2_with fail
                go_quiet (fail)
                go_wp2_with fail
                go_ret
                exact SameIs.no Hne.out ⟨rfl, Hwq.out _⟩
            · have Heq := Lib.hid (Hfin.out (fun j hj => hall.out j (by omega)))
              clear hbl
              go_wp2_with fail
              go_ret
              exact SameIs.yes Heq.out ⟨rfl, Hbr.out⟩
        · have gs : (S1.toList == S2.toList) = false := by
            rw [Lib.toList_data, Lib.toList_data]
            exact beq_eq_false_iff_ne.2 (fun h => hs (WideShapes.bytes_inj h))
          have hne : ¬ (Q.Sn.mk i1 t1 ms1 ds1 = Q.Sn.mk i2 t2 ms2 ds2) := fun h => by injection h with _ _ _ h4; exact hs (Hss.out.2 h4)
          refine Calls.mono ?_ (fun e w' k => SameIs.no hne k)
          subst hi ht hn
          clear hs hne
          go_enter Try.func18, Try.ntmps18
          go_upto_region 1 with fail
          rw [← Hw2.out]
          go_wp2_with fail
          go_ret
          exact ⟨rfl, Hb2.out⟩
      · have gn1 : ((n1 : Int) != (n2 : Int)) = true := by rw [bne_iff_ne]; omega
        have hne : ¬ (Q.Sn.mk i1 t1 ms1 ds1 = Q.Sn.mk i2 t2 ms2 ds2) := fun h => by injection h with _ _ h3 _; exact hn (by rw [Hn1.out, Hn2.out, h3])
        refine Calls.mono ?_ (fun e w' k => SameIs.no hne k)
        subst hi ht
        clear hn hne
        go_enter Try.func18, Try.ntmps18
        go_upto_region 1 with fail
        rw [← Hw2.out]
        go_wp2_with fail
        go_ret
        exact ⟨rfl, Hb2.out⟩
    · have gt1 : ((t1 : Int) != (t2 : Int)) = true := by rw [bne_iff_ne]; omega
      have hne : ¬ (Q.Sn.mk i1 t1 ms1 ds1 = Q.Sn.mk i2 t2 ms2 ds2) := fun h => by injection h with _ h2 _ _; exact ht h2
      refine Calls.mono ?_ (fun e w' k => SameIs.no hne k)
      subst hi
      clear ht hne
      go_enter Try.func18, Try.ntmps18
      go_upto_region 1 with fail
      rw [← Hw2.out]
      go_wp2_with fail
      go_ret
      exact ⟨rfl, Hb2.out⟩
  · have gi1 : ((i1 : Int) != (i2 : Int)) = true := by rw [bne_iff_ne]; omega
    have hne : ¬ (Q.Sn.mk i1 t1 ms1 ds1 = Q.Sn.mk i2 t2 ms2 ds2) := fun h => by injection h with h1 _ _ _; exact hi h1
    refine Calls.mono ?_ (fun e w' k => SameIs.no hne k)
    clear hi hne
    go_enter Try.func18, Try.ntmps18
    go_upto_region 1 with fail
    rw [← Hw2.out]
    go_wp2_with fail
    go_ret
    exact ⟨rfl, Hb2.out⟩
end Go.Proofs.Ytcfgdlpdnpnhmaa
set_option linter.unusedVariables false
set_option linter.unusedSimpArgs false
namespace Go.Proofs.Ytcfgdlpdnpnhmaa
open Go
namespace Dsk
theorem find_ins_self (f : File) : ∀ (l : List File), (∀ g ∈ l, g.name ≠ f.name) → find (ins f l) f.name = some f
  | [], _ => by unfold ins find; rw [List.find?_cons_of_pos (by simp)]
  | y :: r, h => by
    unfold ins
    split
    · unfold find; rw [List.find?_cons_of_pos (by simp)]
    · unfold find
      rw [List.find?_cons_of_neg (by simpa using h y (List.mem_cons_self ..))]
      exact find_ins_self f r (fun g hg => h g (List.mem_cons_of_mem _ hg))
theorem find_ins_other (f : File) (n : Bs) (hn : f.name ≠ n) : ∀ (l : List File), find (ins f l) n = find l n
  | [] => by unfold ins find; rw [List.find?_cons_of_neg (by simpa using hn)]
  | y :: r => by
    unfold ins
    split
    · unfold find; rw [List.find?_cons_of_neg (by simpa using hn)]
    · unfold find
      by_cases hy : y.name = n
      · rw [List.find?_cons_of_pos (by simpa using hy), List.find?_cons_of_pos (by simpa using hy)]
      · rw [List.find?_cons_of_neg (by simpa using hy), List.find?_cons_of_neg (by simpa using hy)]
        exact find_ins_other f n hn r
theorem find_del (m n : Bs) : ∀ (l : List File), find (del l m) n = if n = m then none else find l n
  | [] => by unfold del find; simp
  | y :: r => by
    have ih := find_del m n r
    unfold del at ih ⊢
    unfold find at ih ⊢
    by_cases hm : y.name = m
    · rw [List.filter_cons_of_neg (by simpa using hm), ih]
      by_cases hn : n = m
      · rw [if_pos hn, if_pos hn]
      · rw [if_neg hn, if_neg hn, List.find?_cons_of_neg (by rw [hm]; simpa using fun e => hn e.symm)]
    · rw [List.filter_cons_of_pos (by simpa using hm)]
      by_cases hy : y.name = n
      · rw [List.find?_cons_of_pos (by simpa using hy), if_neg (by rw [← hy]; exact hm), List.find?_cons_of_pos (by simpa using hy)]
      · rw [List.find?_cons_of_neg (by simpa using hy), ih, List.find?_cons_of_neg (by simpa using hy)]
theorem find_put (l : List File) (f : File) (n : Bs) : find (put l f) n = if n = f.name then some f else find l n := by
  unfold put
  by_cases hn : n = f.name
  · rw [if_pos hn, hn]
    exact find_ins_self f _ (fun g hg => by unfold del at hg; simpa using (List.mem_filter.1 hg).2)
  · rw [if_neg hn, find_ins_other f n (fun e => hn e.symm), find_del, if_neg hn]
/-- A file that may be there, behind a crash. -/
def crashOne (t : Nat × Nat) : Option File → Option File
  | none => none
  | some f => if f.kept < f.all.length then
      (if f.all.take f.kept ++ torn (f.all.drop f.kept) t = [] then none else some ⟨f.name, f.all.take f.kept ++ torn (f.all.drop f.kept) t, (f.all.take f.kept ++ torn (f.all.drop f.kept) t).length⟩)
    else if f.all = [] then none else some f
theorem crashFile_one (f : File) (ts : List (Nat × Nat)) : (if (crashFile f ts).1.all = [] then none else some (crashFile f ts).1) = crashOne (ts.headD (0, 0)) (some f) := by
  unfold crashFile crashOne
  by_cases h : f.kept < f.all.length
  · rw [if_pos h]; dsimp only; rw [if_pos h]
  · rw [if_neg h]; dsimp only; rw [if_neg h]
theorem crashGo_cons (f : File) (r : List File) (ts : List (Nat × Nat)) : crashGo (f :: r) ts = (if (crashFile f ts).1.all = [] then [] else [(crashFile f ts).1]) ++ crashGo r (crashFile f ts).2 := rfl
theorem find_name_ne {l : List File} {n : Bs} (h : ∀ g ∈ l, g.name ≠ n) : find l n = none := by
  unfold find
  rw [List.find?_eq_none]
  intro g hg
  simpa using h g hg
theorem crashGo_names : ∀ (l : List File) (ts : List (Nat × Nat)), ∀ g ∈ crashGo l ts, ∃ f ∈ l, f.name = g.name
  | [], _, g, hg => by cases hg
  | f :: r, ts, g, hg => by
    unfold crashGo at hg
    rcases List.mem_append.1 hg with h | h
    · split at h
      · cases h
      · rw [List.mem_singleton.1 h]; exact ⟨f, List.mem_cons_self .., (crashFile_name f ts).symm⟩
    · obtain ⟨f', h1, h2⟩ := crashGo_names r _ g h
      exact ⟨f', List.mem_cons_of_mem _ h1, h2⟩
theorem find_crashGo (n : Bs) : ∀ (l : List File) (ts : List (Nat × Nat)), Rising l → ∃ t, find (crashGo l ts) n = crashOne t (find l n)
  | [], ts, _ => ⟨(0, 0), rfl⟩
  | f :: r, ts, hr => by
    have hr2 := List.pairwise_cons.1 hr
    by_cases hf : f.name = n
    · refine ⟨ts.headD (0, 0), ?_⟩
      have e1 : find (f :: r) n = some f := by unfold find; rw [List.find?_cons_of_pos (by simpa using hf)]
      rw [e1, ← crashFile_one f ts, crashGo_cons]
      split
      · rw [List.nil_append]
        refine find_name_ne (fun g hg => ?_)
        obtain ⟨f', h1, h2⟩ := crashGo_names r _ g hg
        rw [← h2, ← hf]
        exact (before_ne (hr2.1 f' h1)).symm
      · unfold find
        rw [List.singleton_append, List.find?_cons_of_pos (by rw [crashFile_name]; simpa using hf)]
    · obtain ⟨t, ht⟩ := find_crashGo n r (crashFile f ts).2 hr2.2
      refine ⟨t, ?_⟩
      have e1 : find (f :: r) n = find r n := by unfold find; rw [List.find?_cons_of_neg (by simpa using hf)]
      rw [e1, ← ht, crashGo_cons]
      split
      · rw [List.nil_append]
      · unfold find
        rw [List.singleton_append, List.find?_cons_of_neg (by rw [crashFile_name]; simpa using hf)]
theorem find_crash (D : Dsk) (ts : List (Nat × Nat)) (n : Bs) (h : Rising D.files) : ∃ t, find (D.crash ts).files n = crashOne t (find D.files n) := find_crashGo n D.files ts h
/-- A file whose bytes are all kept stays. -/
theorem find_crash_kept {D : Dsk} (ts : List (Nat × Nat)) {n : Bs} {f : File} (h : Rising D.files) (hf : find D.files n = some f) (hk : f.kept = f.all.length) (h0 : f.all ≠ []) : find (D.crash ts).files n = some f := by
  obtain ⟨t, ht⟩ := find_crash D ts n h
  rw [ht, hf]
  unfold crashOne
  dsimp only
  rw [if_neg (by omega), if_neg h0]
theorem find_crash_none {D : Dsk} (ts : List (Nat × Nat)) {n : Bs} (h : Rising D.files) (hf : find D.files n = none) : find (D.crash ts).files n = none := by
  obtain ⟨t, ht⟩ := find_crash D ts n h
  rw [ht, hf]
  rfl

/-! ### what a call does to the files, by name -/
theorem step_find (D : Dsk) (n : Bs) : find D.step.1.files n = find D.files n := by rw [step_files']
theorem step_err (D : Dsk) : D.step.2 = 0 ∨ D.step.2 = 50 := by unfold step; split; exact .inr rfl; split <;> exact .inl rfl
theorem append_other (D : Dsk) (m b n : Bs) (h : n ≠ m) : find (D.append m b).1.files n = find D.files n := by
  unfold append
  split
  · rfl
  · split
    · rfl
    · split
      · split
        · rfl
        · rw [step_find]; show find (put _ _) n = _; rw [find_put, if_neg h]
      · split
        · rfl
        · rw [step_find]; show find (put _ _) n = _; rw [find_put, if_neg h]
theorem sync_other (D : Dsk) (m n : Bs) (h : n ≠ m) : find (D.sync m).1.files n = find D.files n := by
  unfold sync
  split
  · rfl
  · split
    · rfl
    · split
      · rw [step_find]
      · show find (put _ _) n = _; rw [find_put, if_neg h, step_find]
theorem remove_other (D : Dsk) (m n : Bs) (h : n ≠ m) : find (D.remove m).1.files n = find D.files n := by
  unfold remove
  split
  · rfl
  · split
    · rfl
    · split
      · rw [step_find]
      · show find (del _ _) n = _; rw [find_del, if_neg h, step_find]
theorem cut_other (D : Dsk) (m n : Bs) (k : Int) (h : n ≠ m) : find (D.cut m k).1.files n = find D.files n := by
  unfold cut
  split
  · rfl
  · split
    · rfl
    · split
      · rfl
      · split
        · rw [step_find]
        · show find (put _ _) n = _; rw [find_put, if_neg h, step_find]
theorem move_other (D : Dsk) (m k n : Bs) (h : n ≠ m) (h2 : n ≠ k) : find (D.move m k).1.files n = find D.files n := by
  unfold move
  split
  · rfl
  · split
    · rfl
    · split
      · rfl
      · split
        · rw [step_find]
        · show find (put _ _) n = _; rw [find_put, if_neg h2, find_del, if_neg h, step_find]
/-- A Move that is refused does nothing to the files. -/
theorem move_no (D : Dsk) (m k n : Bs) (h : (D.move m k).2 ≠ 0) : find (D.move m k).1.files n = find D.files n := by
  unfold move at h ⊢
  split
  · rfl
  · split
    · rfl
    · split
      · rfl
      · split
        · rw [step_find]
        · rename_i h1 _ f hf h2 h3
          rw [if_neg h1, hf] at h
          dsimp only at h
          rw [if_neg h2, if_neg h3] at h
          exact absurd rfl h
theorem move_yes (D : Dsk) (m k : Bs) {f : File} (hf : find D.files m = some f) (h : (D.move m k).2 = 0) : find (D.move m k).1.files k = some ⟨k, f.all, f.kept⟩ := by
  unfold move at h ⊢
  split
  · rename_i h1; rw [if_pos h1] at h; exact absurd h (by simp)
  · rename_i h1
    rw [if_neg h1, hf] at h
    rw [hf]
    dsimp only at h ⊢
    split
    · rename_i h2; rw [if_pos h2] at h; exact absurd h (by simp)
    · rename_i h2
      rw [if_neg h2] at h
      split
      · rename_i h3; rw [if_pos h3] at h; exact absurd h h3
      · show find (put _ _) k = _; rw [find_put, if_pos rfl]
theorem sync_yes (D : Dsk) (m : Bs) {f : File} (hf : find D.files m = some f) (h : (D.sync m).2 = 0) : find (D.sync m).1.files m = some ⟨m, f.all, f.all.length⟩ := by
  unfold sync at h ⊢
  split
  · rename_i h1; rw [if_pos h1] at h; exact absurd h (by simp)
  · rename_i h1
    rw [if_neg h1, hf] at h
    rw [hf]
    dsimp only at h ⊢
    split
    · rename_i h3; rw [if_pos h3] at h; exact absurd h h3
    · show find (put _ _) m = _; rw [find_put, if_pos rfl]
theorem append_new (D : Dsk) (m b : Bs) (hf : find D.files m = none) (h : (D.append m b).2 = 0) : find (D.append m b).1.files m = some ⟨m, b, 0⟩ := by
  unfold append at h ⊢
  split
  · rename_i h1; rw [if_pos h1] at h; exact absurd h (by simp)
  · rename_i h1
    rw [if_neg h1] at h
    split
    · rename_i h2; rw [if_pos h2] at h; exact absurd h (by simp)
    · rename_i h2
      rw [if_neg h2, hf] at h
      rw [hf]
      dsimp only at h ⊢
      split
      · rename_i h3; rw [if_pos h3] at h; exact absurd h (by simp)
      · rw [step_find]; show find (put _ _) m = _; rw [find_put, if_pos rfl]
theorem remove_yes (D : Dsk) (m : Bs) (h : (D.remove m).2 = 0 ∨ (D.remove m).2 = 31) : find (D.remove m).1.files m = none := by
  unfold remove at h ⊢
  split
  · rename_i h1; rw [if_pos h1] at h; rcases h with h | h <;> exact absurd h (by simp)
  · rename_i h1
    rw [if_neg h1] at h
    split
    · rename_i hf; exact hf
    · rename_i f hf
      rw [hf] at h
      dsimp only at h
      split
      · rename_i h3
        rw [if_pos h3] at h
        rcases step_err D with e | e
        · exact absurd e h3
        · rw [e] at h; rcases h with h | h <;> exact absurd h (by simp)
      · show find (del _ _) m = _; rw [find_del, if_pos rfl]
end Dsk
end Go.Proofs.Ytcfgdlpdnpnhmaa
set_option linter.unusedVariables false
set_option linter.unusedSimpArgs false
namespace Go.Proofs.Ytcfgdlpdnpnhmaa
open Go
namespace Q
/-- "snap", "snap.new". -/
def snapN : Bs := [115, 110, 97, 112]
def snapW : Bs := [115, 110, 97, 112, 46, 110, 101, 119]
def noSn : Sn := ⟨0, 0, [], []⟩
/-- The disk without a file, if it is there; an error's number. -/
def gone (D : Dsk) (n : Bs) : Dsk × Int := ((D.remove n).1, if (D.remove n).2 = 31 then 0 else (D.remove n).2)
/-- So many bytes in a new file, which takes the place of another one. -/
def into (D : Dsk) (w to_ : Bs) (b : Bs) : Dsk × Int :=
  if (gone D w).2 ≠ 0 then gone D w else
  if ((gone D w).1.append w b).2 ≠ 0 then (gone D w).1.append w b else
  if (((gone D w).1.append w b).1.sync w).2 ≠ 0 then ((gone D w).1.append w b).1.sync w else
  (((gone D w).1.append w b).1.sync w).1.move w to_
/-- What Open reads of a disk that has no second file. -/
def sOpen2 (D : Dsk) : Sn × Int :=
  if (D.read snapN).2 = 31 then (noSn, 0) else if (D.read snapN).2 ≠ 0 then (noSn, (D.read snapN).2) else
  match read 7 (D.read snapN).1 with
  | none => (noSn, 20)
  | some p => (p.up, 0)
def sOpen (D : Dsk) : Dsk × Sn × Int :=
  if (gone D snapW).2 ≠ 0 then ((gone D snapW).1, noSn, (gone D snapW).2) else ((gone D snapW).1, sOpen2 (gone D snapW).1)
def sSave (D : Dsk) (was s : Sn) : Dsk × Sn × Int :=
  if sound s = false then (D, was, 2) else if s.index ≤ was.index then (D, was, 34) else
  if (into D snapW snapN (bytesOf s.down)).2 ≠ 0 then ((into D snapW snapN (bytesOf s.down)).1, was, (into D snapW snapN (bytesOf s.down)).2) else ((into D snapW snapN (bytesOf s.down)).1, s, 0)

/-- The file has just what stands for the snapshot. -/
def SInv (D : Dsk) (s : Sn) : Prop :=
  (Dsk.find D.files snapN = none ∧ s = noSn) ∨ (sound s = true ∧ ∃ n, Dsk.find D.files snapN = some ⟨n, bytesOf s.down, (bytesOf s.down).length⟩)
theorem SInv.same {D E : Dsk} {s : Sn} (h : SInv D s) (e : Dsk.find E.files snapN = Dsk.find D.files snapN) : SInv E s := by
  unfold SInv at h ⊢
  rw [e]
  exact h
theorem bytesOf_ne (p : Snp) : bytesOf p ≠ [] := by
  intro e
  have := frame_len 4 (body p)
  unfold bytesOf at e
  rw [e] at this
  simp at this
theorem snap_ne : snapN ≠ snapW := by decide
theorem remove_err (D : Dsk) (n : Bs) : (D.remove n).2 = 0 ∨ (D.remove n).2 = 31 ∨ (D.remove n).2 = 50 := by
  unfold Dsk.remove
  split
  · exact .inr (.inr rfl)
  · split
    · exact .inr (.inl rfl)
    · split
      · rcases Dsk.step_err D with e | e
        · exact .inl e
        · exact .inr (.inr e)
      · exact .inl rfl
theorem gone_find (D : Dsk) (n : Bs) (h : (gone D n).2 = 0) : Dsk.find (gone D n).1.files n = none := by
  refine Dsk.remove_yes D n ?_
  unfold gone at h
  dsimp only at h
  split at h
  · rename_i e; exact .inr e
  · exact .inl h
theorem gone_other (D : Dsk) (n m : Bs) (h : m ≠ n) : Dsk.find (gone D n).1.files m = Dsk.find D.files m := Dsk.remove_other D n m h
theorem gone_ok {D : Dsk} (h : D.Ok) (n : Bs) : (gone D n).1.Ok := h.remove n
theorem into_ok {D : Dsk} (h : D.Ok) (w t b : Bs) : (into D w t b).1.Ok := by
  have h1 := gone_ok h w
  have h2 := h1.append w b
  have h3 := h2.sync w
  unfold into
  split
  · exact h1
  · split
    · exact h2
    · split
      · exact h3
      · exact h3.move w t
theorem into_no (D : Dsk) (w t b n : Bs) (hw : n ≠ w) (h : (into D w t b).2 ≠ 0) : Dsk.find (into D w t b).1.files n = Dsk.find D.files n := by
  have e1 := gone_other D w n hw
  have e2 := Dsk.append_other (gone D w).1 w b n hw
  have e3 := Dsk.sync_other ((gone D w).1.append w b).1 w n hw
  unfold into at h ⊢
  split
  · exact e1
  · rename_i c1
    rw [if_neg c1] at h
    split
    · rw [e2, e1]
    · rename_i c2
      rw [if_neg c2] at h
      split
      · rw [e3, e2, e1]
      · rename_i c3
        rw [if_neg c3] at h
        rw [Dsk.move_no _ _ _ _ h, e3, e2, e1]
theorem into_yes (D : Dsk) (w t b : Bs) (h : (into D w t b).2 = 0) : Dsk.find (into D w t b).1.files t = some ⟨t, b, b.length⟩ := by
  unfold into at h ⊢
  split
  · rename_i c; rw [if_pos c] at h; exact absurd h c
  · rename_i c1
    rw [if_neg c1] at h
    split
    · rename_i c; rw [if_pos c] at h; exact absurd h c
    · rename_i c2
      rw [if_neg c2] at h
      split
      · rename_i c; rw [if_pos c] at h; exact absurd h c
      · rename_i c3
        rw [if_neg c3] at h
        have f1 := gone_find D w (Classical.not_not.1 c1)
        have f2 := Dsk.append_new _ w b f1 (Classical.not_not.1 c2)
        have f3 := Dsk.sync_yes _ w f2 (Classical.not_not.1 c3)
        exact Dsk.move_yes _ w t f3 h
theorem into_other (D : Dsk) (w t b n : Bs) (hw : n ≠ w) (ht : n ≠ t) : Dsk.find (into D w t b).1.files n = Dsk.find D.files n := by
  have e1 := gone_other D w n hw
  have e2 := Dsk.append_other (gone D w).1 w b n hw
  have e3 := Dsk.sync_other ((gone D w).1.append w b).1 w n hw
  unfold into
  split
  · exact e1
  · split
    · rw [e2, e1]
    · split
      · rw [e3, e2, e1]
      · rw [Dsk.move_other _ _ _ _ hw ht, e3, e2, e1]
theorem sSave_inv {D : Dsk} {was : Sn} (s : Sn) (h : SInv D was) : SInv (sSave D was s).1 (sSave D was s).2.1 := by
  unfold sSave
  split
  · exact h
  · rename_i hs
    split
    · exact h
    · split
      · rename_i c; exact h.same (into_no D _ _ _ _ snap_ne c)
      · rename_i c
        exact .inr ⟨by simpa using hs, snapN, into_yes D _ _ _ (Classical.not_not.1 c)⟩
theorem sSave_ok {D : Dsk} {was : Sn} (s : Sn) (h : D.Ok) : (sSave D was s).1.Ok := by
  have := into_ok h snapW snapN (bytesOf s.down)
  unfold sSave
  split
  · exact h
  · split
    · exact h
    · split <;> exact this
theorem sOpen_ok {D : Dsk} (h : D.Ok) : (sOpen D).1.Ok := by
  have := gone_ok h snapW
  unfold sOpen
  split <;> exact this
theorem SInv.crash {D : Dsk} {s : Sn} (h : SInv D s) (hr : Dsk.Rising D.files) (ts : List (Nat × Nat)) : SInv (D.crash ts) s := by
  rcases h with ⟨h1, h2⟩ | ⟨h1, n, h2⟩
  · exact .inl ⟨Dsk.find_crash_none ts hr h1, h2⟩
  · exact .inr ⟨h1, n, Dsk.find_crash_kept ts hr h2 rfl (bytesOf_ne _)⟩
theorem SInv.boot {D : Dsk} {s : Sn} (h : SInv D s) : SInv D.boot s := h
theorem gone_up (D : Dsk) (n : Bs) (hd : D.down = false) (ha : D.armed = -1) : (gone D n).2 = 0 ∧ (gone D n).1.down = false ∧ (gone D n).1.armed = -1 := by
  have hs : D.step = ({ D with steps := D.steps + 1 }, 0) := by unfold Dsk.step; rw [if_neg (by rw [ha]; decide), if_neg (by rw [ha]; decide)]
  unfold gone Dsk.remove
  rw [hd, if_neg (by decide)]
  split
  · exact ⟨by simp, hd, ha⟩
  · rw [hs, if_neg (by simp)]
    exact ⟨by simp, hd, ha⟩
theorem read_none {D : Dsk} {n : Bs} (hd : D.down = false) (h : Dsk.find D.files n = none) : D.read n = ([], 31) := by
  unfold Dsk.read
  rw [hd, h]
  rfl
theorem read_some {D : Dsk} {n : Bs} {f : File} (hd : D.down = false) (h : Dsk.find D.files n = some f) : D.read n = (f.all, 0) := by
  unfold Dsk.read
  rw [hd, h]
  rfl
theorem sOpen_inv {D : Dsk} {s : Sn} (h : SInv D s) (hd : D.down = false) (ha : D.armed = -1) : (sOpen D).2 = (s, 0) ∧ SInv (sOpen D).1 s ∧ (sOpen D).1.down = false ∧ (sOpen D).1.armed = -1 := by
  obtain ⟨g1, g2, g3⟩ := gone_up D snapW hd ha
  have hi : SInv (gone D snapW).1 s := h.same (gone_other D _ _ snap_ne)
  unfold sOpen
  rw [if_neg (by rw [g1]; simp)]
  refine ⟨?_, hi, g2, g3⟩
  dsimp only
  generalize (gone D snapW).1 = E at *
  rcases hi with ⟨h1, h2⟩ | ⟨h1, n, h2⟩
  · unfold sOpen2
    rw [read_none g2 h1, if_pos rfl, h2]
  · unfold sOpen2
    rw [read_some g2 h2, if_neg (show ¬ ((0 : Int) = 31) by decide), if_neg (fun c => c rfl)]
    dsimp only
    rw [read_bytes _ (by rw [down_up h1]; exact h1)]
    dsimp only
    rw [down_up h1]
end Q
end Go.Proofs.Ytcfgdlpdnpnhmaa
set_option linter.unusedVariables false
set_option linter.unusedSimpArgs false
namespace Go.Proofs.Ytcfgdlpdnpnhmaa
open Go.RowKit Go.Maps

theorem snread_calls (A : Option Addr) (n c : Nat) (l : Bs) (w : World) (hB : Bts w A n l) (hn : n ≤ 140737488355328) (hnc : n ≤ c) (hA : A = none → c = 0) :
    Calls Try.prog 16 #[.slice A n c] w (SnReads w (Q.read 7 l)) := by
  by_cases h : (Q.ftake l).e ≠ 0 ∨ (Q.ftake l).kind ≠ 4 ∨ (Q.ftake l).n ≠ l.length
  · have hr : Q.read 7 l = none := by unfold Q.read; rw [if_pos h]
    rw [hr]
    refine snread_no A n c l w hB hn hnc hA ?_
    by_cases hk : (Q.ftake l).kind = 4
    · refine Or.inl (fun hw => ?_)
      rcases h with h | h | h
      · exact h hw.1
      · exact h hk
      · exact h hw.2
    · exact Or.inr hk
  · have hr : Q.read 7 l = Q.readBody 7 (Q.ftake l).body := by unfold Q.read; rw [if_neg h]
    rw [hr]
    have h0 : (Q.ftake l).e = 0 := Classical.not_not.1 (fun c => h (Or.inl c))
    have h1 : (Q.ftake l).kind = 4 := Classical.not_not.1 (fun c => h (Or.inr (Or.inl c)))
    have h2 : (Q.ftake l).n = l.length := Classical.not_not.1 (fun c => h (Or.inr (Or.inr c)))
    exact snread_yes A n c l w hB hn hnc hA ⟨h0, h2⟩ h1

set_option maxRecDepth 100000 in
set_option maxHeartbeats 2000000 in
theorem refread_no (A : Option Addr) (n c : Nat) (l : Bs) (w : World) (hB : Bts w A n l) (hn : n ≤ 140737488355328) (hnc : n ≤ c) (h : (Q.ftake l).e ≠ 0 ∨ (Q.ftake l).kind ≠ 4 ∨ (Q.ftake l).n ≠ l.length) :
    Calls Try.prog 17 #[.slice A n c] w (SnReads w none) := by
  have hl := hB.1
  have hb0 : Below w.heap.size w (w.alloc (.cells #[.int .u64 0, .int .u64 0, .slice none 0 0, .slice none 0 0] 27)) := al1 w _
  have hr0 := blk_new w (.cells #[.int .u64 0, .int .u64 0, .slice none 0 0, .slice none 0 0] 27)
  have hB0 := hB.below hb0
  obtain ⟨w0, hw0⟩ : ∃ w0, w0 = w.alloc (.cells #[.int .u64 0, .int .u64 0, .slice none 0 0, .slice none 0 0] 27) := ⟨_, rfl⟩
  rw [← hw0] at hb0 hr0 hB0
  have htk := reftake_calls A n c l w0 hB0 hn hnc
  have Hr0 := Lib.hid hr0
  have Hw0 := Lib.hid hw0
  by_cases h0 : (Q.ftake l).e = 0
  · have htk := htk.mono (fun e w' k => show (∃ A2 c2, e = .returned (.tuple #[.int .u8 (Q.ftake l).kind.toNat, .slice A2 (Q.ftake l).body.length c2, .int .i64 (Q.ftake l).n, .int .i64 0]) ∧ Below w0.heap.size w0 w') by
      unfold TakeGives at k
      rw [if_pos h0] at k
      obtain ⟨A2, c2, k1, k2, k3, k4, k5, k6⟩ := k
      exact ⟨A2, c2, k1, k6⟩)
    have Htk := Lib.hid htk
    by_cases hk : (Q.ftake l).kind = 4
    · have h2 : (Q.ftake l).n ≠ n := by
        rw [← hl]
        rcases h with h | h | h
        · exact absurd h0 h
        · exact absurd hk h
        · exact h
      have gn : (((Q.ftake l).n : Int) != (n : Int)) = true := by rw [bne_iff_ne]; omega
      have gk : (((Q.ftake l).kind.toNat : Int) != 4) = false := by rw [hk]; rfl
      generalize Q.ftake l = f at *
      clear htk hB hB0 h h0 hk h2 hl hr0 hw0
      go_enter Try.func17, Try.ntmps17
      go_upto_region 1 with (fail)
      rw [← Hw0.out]
      go_upto_region 3 with (go_at_call 67; refine Htk.out.mono ?_; rintro e w1 ⟨A2, c2, rfl, hb1⟩; have hrr := (hb1.block _ (blk_lt Hr0.out)).trans Hr0.out; have r0 := blk_cell hrr 0; have r1 := blk_cell hrr 1; have r2 := blk_cell hrr 2; have r3 := blk_cell hrr 3; have z0 := blk_frozen hrr 0; have z1 := blk_frozen hrr 1; have z2 := blk_frozen hrr 2; have z3 := blk_frozen hrr 3; have Hrr := Lib.hid hrr; have Hb1 := Lib.hid hb1; clear hrr hb1)
      obtain ⟨w13, hw13⟩ : ∃ w13, w13 = (((w1.setCell ⟨w.heap.size, 0, none⟩ (.int .u64 0)).setCell ⟨w.heap.size, 1, none⟩ (.int .u64 0)).setCell ⟨w.heap.size, 2, none⟩ (.slice none 0 0)).setCell ⟨w.heap.size, 3, none⟩ (.slice none 0 0) := ⟨_, rfl⟩
      have hx13 : w13.heap[w.heap.size]? = some (.cells #[.int .u64 0, .int .u64 0, .slice none 0 0, .slice none 0 0] 27 (0, 0)) := by rw [hw13]; exact blk_set (blk_set (blk_set (blk_set Hrr.out 0 _) 1 _) 2 _) 3 _
      have hE13 : Ext [w.heap.size] w1 w13 := by rw [hw13]; exact ((((Ext.refl _ _).setCell (Or.inl (by simp)) _).setCell (Or.inl (by simp)) _).setCell (Or.inl (by simp)) _).setCell (Or.inl (by simp)) _
      have y0 := blk_cell hx13 0
      have y1 := blk_cell hx13 1
      have y2 := blk_cell hx13 2
      have y3 := blk_cell hx13 3
      have Hw13 := Lib.hid hw13
      have HE13 := Lib.hid hE13
      clear hw13 hx13 hE13
      go_wp2_with fail
      rw [← Hw13.out]
      refine bodyPost_ret (v := .tuple #[.agg #[.int .u64 0, .int .u64 0, .slice none 0 0, .slice none 0 0], .bool false]) (by simp [results, Try.results17, go_sem, y0, y1, y2, y3]) rfl ?_
      exact ⟨rfl, (hb0.trans (Hb1.out.mono hb0.size)).trans ((HE13.out.below (B := w.heap.size) (Nat.le_trans hb0.size Hb1.out.size) (fun k hk => by rw [List.mem_singleton.1 hk]; exact Nat.le_refl _)))⟩
    · have gk : (((Q.ftake l).kind.toNat : Int) != 4) = true := by
        rw [bne_iff_ne]
        intro e
        exact hk (UInt8.toNat_inj.1 (by show _ = 4; omega))
      generalize Q.ftake l = f at *
      clear htk hB hB0 h h0 hk hl hr0 hw0
      go_enter Try.func17, Try.ntmps17
      go_upto_region 1 with (fail)
      rw [← Hw0.out]
      go_upto_region 3 with (go_at_call 67; refine Htk.out.mono ?_; rintro e w1 ⟨A2, c2, rfl, hb1⟩; have hrr := (hb1.block _ (blk_lt Hr0.out)).trans Hr0.out; have r0 := blk_cell hrr 0; have r1 := blk_cell hrr 1; have r2 := blk_cell hrr 2; have r3 := blk_cell hrr 3; have z0 := blk_frozen hrr 0; have z1 := blk_frozen hrr 1; have z2 := blk_frozen hrr 2; have z3 := blk_frozen hrr 3; have Hrr := Lib.hid hrr; have Hb1 := Lib.hid hb1; clear hrr hb1)
      obtain ⟨w13, hw13⟩ : ∃ w13, w13 = (((w1.setCell ⟨w.heap.size, 0, none⟩ (.int .u64 0)).setCell ⟨w.heap.size, 1, none⟩ (.int .u64 0)).setCell ⟨w.heap.size, 2, none⟩ (.slice none 0 0)).setCell ⟨w.heap.size, 3, none⟩ (.slice none 0 0) := ⟨_, rfl⟩
      have hx13 : w13.heap[w.heap.size]? = some (.cells #[.int .u64 0, .int .u64 0, .slice none 0 0, .slice none 0 0] 27 (0, 0)) := by rw [hw13]; exact blk_set (blk_set (blk_set (blk_set Hrr.out 0 _) 1 _) 2 _) 3 _
      have hE13 : Ext [w.heap.size] w1 w13 := by rw [hw13]; exact ((((Ext.refl _ _).setCell (Or.inl (by simp)) _).setCell (Or.inl (by simp)) _).setCell (Or.inl (by simp)) _).setCell (Or.inl (by simp)) _
      have y0 := blk_cell hx13 0
      have y1 := blk_cell hx13 1
      have y2 := blk_cell hx13 2
      have y3 := blk_cell hx13 3
      have Hw13 := Lib.hid hw13
      have HE13 := Lib.hid hE13
      clear hw13 hx13 hE13
      go_wp2_with fail
      rw [← Hw13.out]
      refine bodyPost_ret (v := .tuple #[.agg #[.int .u64 0, .int .u64 0, .slice none 0 0, .slice none 0 0], .bool false]) (by simp [results, Try.results17, go_sem, y0, y1, y2, y3]) rfl ?_
      exact ⟨rfl, (hb0.trans (Hb1.out.mono hb0.size)).trans ((HE13.out.below (B := w.heap.size) (Nat.le_trans hb0.size Hb1.out.size) (fun k hk => by rw [List.mem_singleton.1 hk]; exact Nat.le_refl _)))⟩
  · have htk := htk.mono (fun e w' k => show (e = .returned (.tuple #[.int .u8 0, .slice none 0 0, .int .i64 0, .int .i64 ((Q.ftake l).e : Int)]) ∧ Below w0.heap.size w0 w') by
      unfold TakeGives at k
      rw [if_neg h0] at k
      exact k)
    have Htk := Lib.hid htk
    have ge : (((Q.ftake l).e : Int) != 0) = true := by rw [bne_iff_ne]; omega
    generalize Q.ftake l = f at *
    clear htk hB hB0 h h0 hl hr0 hw0
    go_enter Try.func17, Try.ntmps17
    go_upto_region 1 with (fail)
    rw [← Hw0.out]
    go_upto_region 3 with (go_at_call 67; refine Htk.out.mono ?_; rintro e w1 ⟨rfl, hb1⟩; have hrr := (hb1.block _ (blk_lt Hr0.out)).trans Hr0.out; have r0 := blk_cell hrr 0; have r1 := blk_cell hrr 1; have r2 := blk_cell hrr 2; have r3 := blk_cell hrr 3; have z0 := blk_frozen hrr 0; have z1 := blk_frozen hrr 1; have z2 := blk_frozen hrr 2; have z3 := blk_frozen hrr 3; have Hrr := Lib.hid hrr; have Hb1 := Lib.hid hb1; clear hrr hb1)
    obtain ⟨w13, hw13⟩ : ∃ w13, w13 = (((w1.setCell ⟨w.heap.size, 0, none⟩ (.int .u64 0)).setCell ⟨w.heap.size, 1, none⟩ (.int .u64 0)).setCell ⟨w.heap.size, 2, none⟩ (.slice none 0 0)).setCell ⟨w.heap.size, 3, none⟩ (.slice none 0 0) := ⟨_, rfl⟩
    have hx13 : w13.heap[w.heap.size]? = some (.cells #[.int .u64 0, .int .u64 0, .slice none 0 0, .slice none 0 0] 27 (0, 0)) := by rw [hw13]; exact blk_set (blk_set (blk_set (blk_set Hrr.out 0 _) 1 _) 2 _) 3 _
    have hE13 : Ext [w.heap.size] w1 w13 := by rw [hw13]; exact ((((Ext.refl _ _).setCell (Or.inl (by simp)) _).setCell (Or.inl (by simp)) _).setCell (Or.inl (by simp)) _).setCell (Or.inl (by simp)) _
    have y0 := blk_cell hx13 0
    have y1 := blk_cell hx13 1
    have y2 := blk_cell hx13 2
    have y3 := blk_cell hx13 3
    have Hw13 := Lib.hid hw13
    have HE13 := Lib.hid hE13
    clear hw13 hx13 hE13
    go_wp2_with fail
    rw [← Hw13.out]
    refine bodyPost_ret (v := .tuple #[.agg #[.int .u64 0, .int .u64 0, .slice none 0 0, .slice none 0 0], .bool false]) (by simp [results, Try.results17, go_sem, y0, y1, y2, y3]) rfl ?_
    exact ⟨rfl, (hb0.trans (Hb1.out.mono hb0.size)).trans ((HE13.out.below (B := w.heap.size) (Nat.le_trans hb0.size Hb1.out.size) (fun k hk => by rw [List.mem_singleton.1 hk]; exact Nat.le_refl _)))⟩

set_option maxRecDepth 100000 in
set_option maxHeartbeats 4000000 in
theorem refread_yes (A : Option Addr) (n c : Nat) (l : Bs) (w : World) (hB : Bts w A n l) (hn : n ≤ 140737488355328) (hnc : n ≤ c) (h0 : (Q.ftake l).e = 0) (h1 : (Q.ftake l).kind = 4) (h2 : (Q.ftake l).n = l.length) :
    Calls Try.prog 17 #[.slice A n c] w (SnReads w (Q.readBody 6 (Q.ftake l).body)) := by
  have hl := hB.1
  have hlen := (ftake_len h0).2
  have hb0 : Below w.heap.size w (w.alloc (.cells #[.int .u64 0, .int .u64 0, .slice none 0 0, .slice none 0 0] 27)) := al1 w _
  have hr0 := blk_new w (.cells #[.int .u64 0, .int .u64 0, .slice none 0 0, .slice none 0 0] 27)
  have hB0 := hB.below hb0
  have hsz0 : (w.alloc (.cells #[.int .u64 0, .int .u64 0, .slice none 0 0, .slice none 0 0] 27)).heap.size = w.heap.size + 1 := by simp
  obtain ⟨w0, hw0⟩ : ∃ w0, w0 = w.alloc (.cells #[.int .u64 0, .int .u64 0, .slice none 0 0, .slice none 0 0] 27) := ⟨_, rfl⟩
  rw [← hw0] at hb0 hr0 hB0 hsz0
  have hs0 : w.heap.size < w0.heap.size := by omega
  obtain ⟨body, hbody⟩ : ∃ body, body = (Q.ftake l).body := ⟨_, rfl⟩
  rw [← hbody] at hlen ⊢
  have hbl : body.length ≤ 140737488355328 := by omega
  obtain ⟨m, hm⟩ : ∃ m, m = body.length := ⟨_, rfl⟩
  have htk := (reftake_calls A n c l w0 hB0 hn hnc).mono (fun e w' k => show (∃ A2 c2, e = .returned (.tuple #[.int .u8 4, .slice A2 m c2, .int .i64 (n : Int), .int .i64 0]) ∧ Bts w' A2 m body ∧ m ≤ c2 ∧ (A2 = none → c2 = 0) ∧ (∀ ad, A2 = some ad → ad.block < w'.heap.size) ∧ Below w0.heap.size w0 w') by
    unfold TakeGives at k
    rw [if_pos h0, h1, h2, ← hbody, hl, ← hm] at k
    obtain ⟨A2, c2, k1, k2, k3, k4, k5, k6⟩ := k
    exact ⟨A2, c2, k1, k2, k3, k4, fun ad e => (k5 ad e).2, k6⟩)
  rw [← hm] at hbl
  have Htk := Lib.hid htk
  have Hw0 := Lib.hid hw0
  have Hr0 := Lib.hid hr0
  have Hm := Lib.hid hm
  have gnn : ((n : Int) != (n : Int)) = false := by simp
  obtain ⟨s0, hs0'⟩ : ∃ s0 : Q.St, s0 = (body, false) := ⟨_, rfl⟩
  obtain ⟨pp, hpp⟩ : ∃ pp, pp = (Q.get 6 s0).1 := ⟨_, rfl⟩
  obtain ⟨s5, hs5⟩ : ∃ s5, s5 = (Q.get 6 s0).2 := ⟨_, rfl⟩
  have hrb : Q.readBody 6 body = if Q.fin s5 = true ∧ Q.sound pp.up = true then some pp else none := by
    unfold Q.readBody
    rw [← hs0', ← hpp, ← hs5]
  have hi1 : pp.index ≤ 576460752303423488 := by rw [hpp]; exact Q.num_le _ _
  have hi2 : pp.term ≤ 1152921504606846976 := by rw [hpp]; exact Q.num_le _ _
  have hi3 : pp.members.length ≤ 7 := by rw [hpp]; show (Q.nums 6 _ _).1.length ≤ 7; rw [Q.nums_count]; exact Q.num_le _ _
  have hi4 : pp.data.length ≤ 140737488355328 := by
    rw [hpp, hs0']
    refine Q.text_len _ _ (Nat.le_trans (Q.nums_len 6 _ _) (Nat.le_trans (Q.num_len _ _) (Nat.le_trans (Q.num_len _ _) (Nat.le_trans (Q.num_len _ _) ?_))))
    show body.length ≤ _
    omega
  have hget := fun g W (hW : IsRr W g s0) => refget_calls g s0 W hW (by rw [hs0']; show body.length ≤ _; omega)
  rw [← hpp, ← hs5] at hget
  have Hget := Lib.hid hget
  have Hrb := Lib.hid hrb
  have Hs0 := Lib.hid hs0'
  clear htk hB hB0 h0 h1 h2 hr0 hw0 hm hbody hs0' hpp hs5 hrb hget hsz0 hl
  go_enter Try.func17, Try.ntmps17
  go_upto_region 1 with (fail)
  rw [← Hw0.out]
  go_upto_region 4 with (go_at_call 67; refine Htk.out.mono ?_; rintro e w1 ⟨A2, c2, rfl, hbt, hmc, hAn, hblk, hb1⟩; have hr1 := (hb1.block _ (blk_lt Hr0.out)).trans Hr0.out; have Hr1 := Lib.hid hr1; have Hb1 := Lib.hid hb1; have Hbt := Lib.hid hbt; have HAn := Lib.hid hAn; have Hblk := Lib.hid hblk; clear hr1 hb1 hbt hAn hblk)
  obtain ⟨w2, hw2⟩ : ∃ w2, w2 = w1.alloc (.cells #[.slice A2 m c2, .bool false] 125) := ⟨_, rfl⟩
  have hb2 : Below w1.heap.size w1 w2 := by rw [hw2]; exact al1 _ _
  have hrr2 : IsRr w2 w1.heap.size s0 := by
    rw [Hs0.out, hw2]
    exact ⟨A2, m, c2, blk_new _ _, Hbt.out.below (al1 _ _), hmc, HAn.out, Hblk.out⟩
  have hg01 : w.heap.size < w1.heap.size := by have := Hb1.out.size; omega
  have hr2 := (hb2.block _ (blk_lt Hr1.out)).trans Hr1.out
  have hbel2 : Below w.heap.size w w2 := (hb0.trans (Hb1.out.mono hb0.size)).trans (hb2.mono (by omega))
  obtain ⟨g, hg⟩ : ∃ g, g = w1.heap.size := ⟨_, rfl⟩
  rw [← hg] at hrr2 hg01
  have Hrr2 := Lib.hid hrr2
  have Hr2 := Lib.hid hr2
  have Hbel2 := Lib.hid hbel2
  have Hw2 := Lib.hid hw2
  have Hg := Lib.hid hg
  clear hw2 hb2 hrr2 hr2 hbel2 hg Hblk HAn Hbt Hb1 Hr1 Hr0 hb0 hmc
  go_upto_region 5 with (fail)
  rw [← Hw2.out, ← Hg.out]
  obtain ⟨i1, i2, ms, ds⟩ := pp
  dsimp only at hi1 hi2 hi3 hi4
  go_wp2_with fail
  refine (Hget.out g w2 Hrr2.out).mono ?_
  rintro e w3 ⟨v, rfl, hsn, hfr, hL3⟩
  obtain ⟨Am, cm, Ad, cd, rfl, hsm, hscm, hsd, hscd⟩ := hsn
  have Hfr := Lib.hid (hfr.mono Hbel2.out.size)
  clear hfr
  dsimp only at hsm hscm hsd hscd
  dsimp only
  obtain ⟨nm, hnm⟩ : ∃ nm, nm = ms.length := ⟨_, rfl⟩
  obtain ⟨nd, hnd⟩ : ∃ nd, nd = ds.length := ⟨_, rfl⟩
  rw [← hnm, ← hnd] at Hfr ⊢
  have hnm7 : nm ≤ 7 := by omega
  have hnd7 : nd ≤ 140737488355328 := by omega
  obtain ⟨w4, hw4⟩ : ∃ w4, w4 = w3.alloc (.cells #[.int .u64 (i1 : Int), .int .u64 (i2 : Int), .slice Am nm cm, .slice Ad nd cd] 27) := ⟨_, rfl⟩
  have hb34 : Below w3.heap.size w3 w4 := by rw [hw4]; exact al1 _ _
  have hx4 : w4.heap[w3.heap.size]? = some (.cells #[.int .u64 (i1 : Int), .int .u64 (i2 : Int), .slice Am nm cm, .slice Ad nd cd] 27 (0, 0)) := by rw [hw4]; exact blk_new _ _
  have hsn4 : SnapIs w4 (.agg #[.int .u64 (i1 : Int), .int .u64 (i2 : Int), .slice Am nm cm, .slice Ad nd cd]) ⟨i1, i2, ms, ds⟩ := by
    rw [hnm, hnd]
    exact SnapIs.below ⟨Am, cm, Ad, cd, rfl, hsm, hscm, hsd, hscd⟩ hb34
  have hr4 := (hb34.block _ (blk_lt (hL3.ext.obj Hr2.out (by simp; omega)))).trans (hL3.ext.obj Hr2.out (by simp; omega))
  have hrd4 := hL3.rd.below hb34
  have hbel4 : Below w.heap.size w w4 := by
    have e1 : Ext [g] w2 w4 := hL3.ext.trans (Ext.of_below hb34)
    exact Hbel2.out.trans (e1.below (B := w.heap.size) Hbel2.out.size (fun k hk => by rw [List.mem_singleton.1 hk]; omega))
  have Hend := Lib.hid (rrend_calls g s5 w4 hrd4)
  have Hsd := Lib.hid (refsound_calls _ (Q.Snp.up ⟨i1, i2, ms, ds⟩) w4 hsn4.up (by show i1 < _; omega) (by show i2 < _; omega) (by show (List.map _ ms).length ≤ _; rw [List.length_map]; omega) (by show ds.length ≤ _; omega))
  have Hsn4 := Lib.hid hsn4
  have Hx4 := Lib.hid hx4
  have Hr4 := Lib.hid hr4
  have Hbel4 := Lib.hid hbel4
  have Hw4 := Lib.hid hw4
  have x0 := blk_cell hx4 0
  have x1 := blk_cell hx4 1
  have x2 := blk_cell hx4 2
  have x3 := blk_cell hx4 3
  clear hw4 hb34 hx4 hsn4 hr4 hrd4 hbel4 hL3 hsm hsd hscm hscd hnm hnd Hr2 Hbel2 Hrr2
  go_upto_region 6 with (fail)
  rw [← Hw4.out]
  by_cases hf : Q.fin s5 = true
  · rw [hf] at Hend
    by_cases hs : Q.sound (Q.Snp.up ⟨i1, i2, ms, ds⟩) = true
    · have hrs : Q.readBody 6 body = some ⟨i1, i2, ms, ds⟩ := by rw [Hrb.out, if_pos ⟨hf, hs⟩]
      have Hrs := Lib.hid hrs
      rw [hs] at Hsd
      clear hf hs hrs
      go_upto_region 8 with (first
        | (go_at_call 69; refine Hend.out.mono ?_; rintro e w' ⟨rfl, rfl⟩)
        | (go_at_call 21; refine Hsd.out.mono ?_; rintro e w12 ⟨rfl, hb12⟩; have hxx := (hb12.block _ (blk_lt Hx4.out)).trans Hx4.out; have hrr := (hb12.block _ (blk_lt Hr4.out)).trans Hr4.out; clear x0 x1 x2 x3; have x0 := blk_cell hxx 0; have x1 := blk_cell hxx 1; have x2 := blk_cell hxx 2; have x3 := blk_cell hxx 3; have r0 := blk_cell hrr 0; have r1 := blk_cell hrr 1; have r2 := blk_cell hrr 2; have r3 := blk_cell hrr 3; have z0 := blk_frozen hrr 0; have z1 := blk_frozen hrr 1; have z2 := blk_frozen hrr 2; have z3 := blk_frozen hrr 3; have Hrr := Lib.hid hrr; have Hb12 := Lib.hid hb12; clear hb12 hxx hrr))
      obtain ⟨w13, hw13⟩ : ∃ w13, w13 = (((w12.setCell ⟨w.heap.size, 0, none⟩ (.int .u64 (i1 : Int))).setCell ⟨w.heap.size, 1, none⟩ (.int .u64 (i2 : Int))).setCell ⟨w.heap.size, 2, none⟩ (.slice Am nm cm)).setCell ⟨w.heap.size, 3, none⟩ (.slice Ad nd cd) := ⟨_, rfl⟩
      have hx13 : w13.heap[w.heap.size]? = some (.cells #[.int .u64 (i1 : Int), .int .u64 (i2 : Int), .slice Am nm cm, .slice Ad nd cd] 27 (0, 0)) := by rw [hw13]; exact blk_set (blk_set (blk_set (blk_set Hrr.out 0 _) 1 _) 2 _) 3 _
      have hE13 : Ext [w.heap.size] w12 w13 := by rw [hw13]; exact ((((Ext.refl _ _).setCell (Or.inl (by simp)) _).setCell (Or.inl (by simp)) _).setCell (Or.inl (by simp)) _).setCell (Or.inl (by simp)) _
      have y0 := blk_cell hx13 0
      have y1 := blk_cell hx13 1
      have y2 := blk_cell hx13 2
      have y3 := blk_cell hx13 3
      have Hw13 := Lib.hid hw13
      have HE13 := Lib.hid hE13
      clear hw13 hx13 hE13
      go_wp2_with fail
      rw [← Hw13.out]
      refine bodyPost_ret (v := .tuple #[.agg #[.int .u64 (i1 : Int), .int .u64 (i2 : Int), .slice Am nm cm, .slice Ad nd cd], .bool true]) (by simp [results, Try.results17, go_sem, y0, y1, y2, y3]) rfl ?_
      rw [Hrs.out]
      have hsn12 : SnapIs w12 (.agg #[.int .u64 (i1 : Int), .int .u64 (i2 : Int), .slice Am nm cm, .slice Ad nd cd]) ⟨i1, i2, ms, ds⟩ := Hsn4.out.below Hb12.out
      refine ⟨_, rfl, hsn12.ext13 HE13.out (fun q hq => by rw [List.mem_singleton.1 hq]; exact .of_cells Hrr.out (fun j x => by rcases j with _ | _ | _ | _ | j <;> simp)) (fun q hq => by rw [List.mem_singleton.1 hq]; exact .of_cells Hrr.out (fun j x => by rcases j with _ | _ | _ | _ | j <;> simp)), Hfr.out, (Hbel4.out.trans (Hb12.out.mono Hbel4.out.size)).trans (HE13.out.below (B := w.heap.size) (Nat.le_trans Hbel4.out.size Hb12.out.size) (fun q hq => by rw [List.mem_singleton.1 hq]; exact Nat.le_refl _))⟩
    · have hs' : Q.sound (Q.Snp.up ⟨i1, i2, ms, ds⟩) = false := by simpa using hs
      have hrs : Q.readBody 6 body = none := by rw [Hrb.out, if_neg (fun h => hs h.2)]
      have Hrs := Lib.hid hrs
      rw [hs'] at Hsd
      clear hf hs hs' hrs
      go_upto_region 7 with (first
        | (go_at_call 69; refine Hend.out.mono ?_; rintro e w' ⟨rfl, rfl⟩)
        | (go_at_call 21; refine Hsd.out.mono ?_; rintro e w12 ⟨rfl, hb12⟩; have hrr := (hb12.block _ (blk_lt Hr4.out)).trans Hr4.out; have r0 := blk_cell hrr 0; have r1 := blk_cell hrr 1; have r2 := blk_cell hrr 2; have r3 := blk_cell hrr 3; have z0 := blk_frozen hrr 0; have z1 := blk_frozen hrr 1; have z2 := blk_frozen hrr 2; have z3 := blk_frozen hrr 3; have Hrr := Lib.hid hrr; have Hb12 := Lib.hid hb12; clear hb12 hrr))
      obtain ⟨w13, hw13⟩ : ∃ w13, w13 = (((w12.setCell ⟨w.heap.size, 0, none⟩ (.int .u64 0)).setCell ⟨w.heap.size, 1, none⟩ (.int .u64 0)).setCell ⟨w.heap.size, 2, none⟩ (.slice none 0 0)).setCell ⟨w.heap.size, 3, none⟩ (.slice none 0 0) := ⟨_, rfl⟩
      have hx13 : w13.heap[w.heap.size]? = some (.cells #[.int .u64 0, .int .u64 0, .slice none 0 0, .slice none 0 0] 27 (0, 0)) := by rw [hw13]; exact blk_set (blk_set (blk_set (blk_set Hrr.out 0 _) 1 _) 2 _) 3 _
      have hE13 : Ext [w.heap.size] w12 w13 := by rw [hw13]; exact ((((Ext.refl _ _).setCell (Or.inl (by simp)) _).setCell (Or.inl (by simp)) _).setCell (Or.inl (by simp)) _).setCell (Or.inl (by simp)) _
      have y0 := blk_cell hx13 0
      have y1 := blk_cell hx13 1
      have y2 := blk_cell hx13 2
      have y3 := blk_cell hx13 3
      have Hw13 := Lib.hid hw13
      have HE13 := Lib.hid hE13
      clear hw13 hx13 hE13
      go_wp2_with fail
      rw [← Hw13.out]
      refine bodyPost_ret (v := .tuple #[.agg #[.int .u64 0, .int .u64 0, .slice none 0 0, .slice none 0 0], .bool false]) (by simp [results, Try.results17, go_sem, y0, y1, y2, y3]) rfl ?_
      rw [Hrs.out]
      exact ⟨rfl, (Hbel4.out.trans (Hb12.out.mono Hbel4.out.size)).trans (HE13.out.below (B := w.heap.size) (Nat.le_trans Hbel4.out.size Hb12.out.size) (fun q hq => by rw [List.mem_singleton.1 hq]; exact Nat.le_refl _))⟩
  · have hf' : Q.fin s5 = false := by simpa using hf
    rw [hf'] at Hend
    have hrs : Q.readBody 6 body = none := by rw [Hrb.out, if_neg (fun h => hf h.1)]
    have Hrs := Lib.hid hrs
    have hrr := Hr4.out
    have r0 := blk_cell hrr 0; have r1 := blk_cell hrr 1; have r2 := blk_cell hrr 2; have r3 := blk_cell hrr 3; have z0 := blk_frozen hrr 0; have z1 := blk_frozen hrr 1; have z2 := blk_frozen hrr 2; have z3 := blk_frozen hrr 3; have Hrr := Lib.hid hrr
    clear hf hf' hrr hrs
    go_upto_region 7 with (go_at_call 69; refine Hend.out.mono ?_; rintro e w' ⟨rfl, rfl⟩)
    obtain ⟨w13, hw13⟩ : ∃ w13, w13 = (((w4.setCell ⟨w.heap.size, 0, none⟩ (.int .u64 0)).setCell ⟨w.heap.size, 1, none⟩ (.int .u64 0)).setCell ⟨w.heap.size, 2, none⟩ (.slice none 0 0)).setCell ⟨w.heap.size, 3, none⟩ (.slice none 0 0) := ⟨_, rfl⟩
    have hx13 : w13.heap[w.heap.size]? = some (.cells #[.int .u64 0, .int .u64 0, .slice none 0 0, .slice none 0 0] 27 (0, 0)) := by rw [hw13]; exact blk_set (blk_set (blk_set (blk_set Hrr.out 0 _) 1 _) 2 _) 3 _
    have hE13 : Ext [w.heap.size] w4 w13 := by rw [hw13]; exact ((((Ext.refl _ _).setCell (Or.inl (by simp)) _).setCell (Or.inl (by simp)) _).setCell (Or.inl (by simp)) _).setCell (Or.inl (by simp)) _
    have y0 := blk_cell hx13 0
    have y1 := blk_cell hx13 1
    have y2 := blk_cell hx13 2
    have y3 := blk_cell hx13 3
    have Hw13 := Lib.hid hw13
    have HE13 := Lib.hid hE13
    clear hw13 hx13 hE13
    go_wp2_with fail
    rw [← Hw13.out]
    refine bodyPost_ret (v := .tuple #[.agg #[.int .u64 0, .int .u64 0, .slice none 0 0, .slice none 0 0], .bool false]) (by simp [results, Try.results17, go_sem, y0, y1, y2, y3]) rfl ?_
    rw [Hrs.out]
    exact ⟨rfl, Hbel4.out.trans (HE13.out.below (B := w.heap.size) Hbel4.out.size (fun q hq => by rw [List.mem_singleton.1 hq]; exact Nat.le_refl _))⟩
theorem refread27_calls (A : Option Addr) (n c : Nat) (l : Bs) (w : World) (hB : Bts w A n l) (hn : n ≤ 140737488355328) (hnc : n ≤ c) :
    Calls Try.prog 17 #[.slice A n c] w (SnReads w (Q.read 7 l)) := by
  rw [Q.read_67]
  by_cases h : (Q.ftake l).e ≠ 0 ∨ (Q.ftake l).kind ≠ 4 ∨ (Q.ftake l).n ≠ l.length
  · have hr : Q.read 6 l = none := by unfold Q.read; rw [if_pos h]
    rw [hr]
    exact refread_no A n c l w hB hn hnc h
  · have hr : Q.read 6 l = Q.readBody 6 (Q.ftake l).body := by unfold Q.read; rw [if_neg h]
    rw [hr]
    have h0 : (Q.ftake l).e = 0 := Classical.not_not.1 (fun c => h (Or.inl c))
    have h1 : (Q.ftake l).kind = 4 := Classical.not_not.1 (fun c => h (Or.inr (Or.inl c)))
    have h2 : (Q.ftake l).n = l.length := Classical.not_not.1 (fun c => h (Or.inr (Or.inr c)))
    exact refread_yes A n c l w hB hn hnc h0 h1 h2
end Go.Proofs.Ytcfgdlpdnpnhmaa
set_option linter.unusedVariables false
set_option linter.unusedSimpArgs false
namespace Go.Proofs.Ytcfgdlpdnpnhmaa
open Go.RowKit Go.Maps

namespace Q
theorem digits_len_lt (n k : Nat) : (digits n).length ≤ k ↔ n < 256 ^ k := by
  constructor
  · intro h
    have h1 := beGo_lt (digits n) 0
    have h2 : beGo 0 (digits n) = n := be_digits n
    rw [h2] at h1
    have h3 : (256 : Nat) ^ (digits n).length ≤ 256 ^ k := Nat.pow_le_pow_right (by omega) h
    omega
  · exact digits_len k n
theorem digits_get (j : Nat) : ∀ n, j < (digits n).length → (digits n).getD ((digits n).length - 1 - j) 0 = UInt8.ofNat (n / 256 ^ j) := by
  induction j with
  | zero =>
    intro n h
    have hn : 0 < n := by rcases Nat.eq_zero_or_pos n with rfl | h0; rw [digits_zero] at h; simp at h; exact h0
    rw [digits_pos hn, List.length_append]
    simp [List.getD_eq_getElem?_getD]
  | succ j ih =>
    intro n h
    have hn : 0 < n := by rcases Nat.eq_zero_or_pos n with rfl | h0; rw [digits_zero] at h; simp at h; exact h0
    have hl : (digits n).length = (digits (n / 256)).length + 1 := by rw [digits_pos hn, List.length_append]; rfl
    have h2 := ih (n / 256) (by omega)
    rw [hl]
    have e : (digits (n / 256)).length + 1 - 1 - (j + 1) = (digits (n / 256)).length - 1 - j := by omega
    rw [e, digits_pos hn, List.getD_eq_getElem?_getD, List.getElem?_append_left (by omega), ← List.getD_eq_getElem?_getD, h2, Nat.pow_succ, Nat.mul_comm, Nat.div_div_eq_div_mul]
theorem digits_take (n i : Nat) (h : i < (digits n).length) : (digits n).take (i + 1) = (digits n).take i ++ [UInt8.ofNat (n / 256 ^ ((digits n).length - 1 - i))] := by
  have hg := digits_get ((digits n).length - 1 - i) n (by omega)
  rw [show (digits n).length - 1 - ((digits n).length - 1 - i) = i by omega] at hg
  rw [← hg, List.take_succ_eq_append_getElem h, List.getD_eq_getElem?_getD, List.getElem?_eq_getElem h]
  rfl
end Q

/-- Is block k no row of bytes? -/
def NotBytes (w : World) (k : Nat) : Prop := ∀ cs fr, w.heap[k]? ≠ some (.cells cs 5 fr)
theorem NotBytes.of {w : World} {k : Nat} {cs : Array Value} {t : TypeId} {fr : Nat × Nat} (h : w.heap[k]? = some (.cells cs t fr)) (ht : t ≠ 5) : NotBytes w k := by
  intro cs2 fr2 e
  rw [h] at e
  injection e with e
  injection e with _ e _
  exact ht e
/-- w' is w but for the writer's block g, its rows (bytes, from block B on), and new blocks. -/
structure WrExt (g B : Nat) (w w' : World) : Prop where
  os : w'.os = w.os
  tape : w'.tape = w.tape
  output : w'.output = w.output
  size : w.heap.size ≤ w'.heap.size
  block : ∀ k, k < w.heap.size → k ≠ g → (k < B ∨ NotBytes w k) → w'.heap[k]? = w.heap[k]?
theorem WrExt.refl (g B : Nat) (w : World) : WrExt g B w w := ⟨rfl, rfl, rfl, Nat.le_refl _, fun _ _ _ _ => rfl⟩
theorem WrExt.trans {g B : Nat} {a b c : World} (h : WrExt g B a b) (k : WrExt g B b c) : WrExt g B a c :=
  ⟨k.os.trans h.os, k.tape.trans h.tape, k.output.trans h.output, Nat.le_trans h.size k.size, fun i hi hg hb => by
    have e := h.block i hi hg hb
    refine (k.block i (Nat.lt_of_lt_of_le hi h.size) hg ?_).trans e
    rcases hb with hb | hb
    · exact Or.inl hb
    · exact Or.inr (fun cs fr => by rw [e]; exact hb cs fr)⟩
theorem WrExt.of_below {g B : Nat} {a b : World} (h : Below a.heap.size a b) : WrExt g B a b := ⟨h.os, h.tape, h.output, h.size, fun k hk _ _ => h.block k hk⟩
theorem WrExt.of_set {g B : Nat} {a b : World} (h : Ext [g] a b) : WrExt g B a b := ⟨h.os, h.tape, h.output, h.size, fun k hk hg _ => h.block k hk (by simpa using hg)⟩
theorem WrExt.of_grown {g B n : Nat} {a b : World} {v : Value} {xs : List Value} (hown : a.ownsRow B 5 1 v n xs) (h : a.grownBy b v.ownBlock) : WrExt g B a b :=
  ⟨h.os, h.tape, h.output, h.size, fun k hk hg hb => h.block k hk (fun e => by
    rcases hown.2 with ⟨rfl, _⟩ | ⟨r, cap, cur, rfl, hr, hblk, _⟩
    · cases e
    · have e2 : k = r := by injection e
      subst e2
      rcases hb with hb | hb
      · omega
      · exact hb _ _ hblk)⟩
theorem WrExt.below {g B : Nat} {a b : World} (h : WrExt g B a b) {C : Nat} (h1 : C ≤ g) (h2 : g < B) (h3 : C ≤ a.heap.size) : Below C a b :=
  ⟨h.os, h.tape, h.output, h.size, fun k hk => h.block k (by omega) (by omega) (Or.inl (by omega))⟩
theorem WrExt.obj {g B k : Nat} {a b : World} (h : WrExt g B a b) {o : Obj} (ho : a.heap[k]? = some o) (hg : k ≠ g) (hb : k < B ∨ NotBytes a k) : b.heap[k]? = some o := (h.block k (blk_lt ho) hg hb).trans ho
/-- Block g is a writer that has l. -/
structure IsWr (w : World) (g B : Nat) (l : Bs) : Prop where
  lt : g < B
  at_ : ∃ v, w.heap[g]? = some (.cells #[v] 131 (0, 0)) ∧ w.ownsRow B 5 1 v l.length (vals l)
  sz : B ≤ w.heap.size
theorem IsWr.below {w w' : World} {g B : Nat} {l : Bs} (h : IsWr w g B l) (hb : Below w.heap.size w w') : IsWr w' g B l := by
  obtain ⟨v, h1, h2⟩ := h.at_
  exact ⟨h.lt, ⟨v, (hb.block _ (blk_lt h1)).trans h1, h2.kept_ext (S := []) (Ext.of_below hb) (fun k hk => by cases hk)⟩, Nat.le_trans h.sz hb.size⟩
structure WrLeft (w : World) (g B : Nat) (l : Bs) (w' : World) : Prop where
  wr : IsWr w' g B l
  ext : WrExt g B w w'
theorem WrLeft.trans {w w1 w2 : World} {g B : Nat} {l m : Bs} (h : WrLeft w g B l w1) (k : WrLeft w1 g B m w2) : WrLeft w g B m w2 := ⟨k.wr, h.ext.trans k.ext⟩
end Go.Proofs.Ytcfgdlpdnpnhmaa
set_option linter.unusedVariables false
set_option linter.unusedSimpArgs false
namespace Go.Proofs.Ytcfgdlpdnpnhmaa
open Go.RowKit Go.Maps

theorem one_byte (W : World) (b : Nat) (h : b < 256) : Bts (W.alloc (.cells #[.int .u8 (b : Int)] 5)) (some ⟨W.heap.size, 0, none⟩) 1 [UInt8.ofNat b] :=
  Bts.of_block (blk_new W _) [UInt8.ofNat b] (fun j hj => by
    rcases j with _ | j
    · simp [u8]; omega
    · simp at hj)
set_option maxRecDepth 100000 in
set_option maxHeartbeats 4000000 in
theorem wrnumber_calls (g B : Nat) (l : Bs) (n : Nat) (w : World) (h : IsWr w g B l) (hn : n < 18446744073709551616) (hl : l.length ≤ 140737488000000) :
    Calls Try.prog 120 #[.pointer (some ⟨g, 0, none⟩), .int .u64 (n : Int), .int .u8 0] w fun e w' => e = .returned (.tuple #[]) ∧ WrLeft w g B (l ++ Q.numB n) w' := by
  have h8 := Q.digits_len8 hn
  obtain ⟨sz, hsz⟩ : ∃ sz, sz = (Q.digits n).length := ⟨_, rfl⟩
  have Hsz := Lib.hid hsz
  rw [← hsz] at h8
  have H := Lib.hid h
  clear h hsz
  go_enter Try.func120, Try.ntmps120
  go_wp2_with fail
  go_loop [6, 7] (fun s x => ∃ k : Nat, k ≤ sz ∧ s = .int .i64 k ∧ x = .int .u64 ((n / 256 ^ k : Nat) : Int)) (fun s _ => sz - (intOf s).toNat)
  case atStart => exact ⟨0, Nat.zero_le _, rfl, by simp⟩
  case round =>
    obtain ⟨k, hk, rfl, rfl⟩ := hrel
    by_cases hks : k < sz
    · have hpos : 0 < n / 256 ^ k := by
        have h1 : ¬ n < 256 ^ k := fun c => by have := (Q.digits_len_lt n k).2 c; rw [← Hsz.out] at this; omega
        exact Nat.div_pos (by omega) (Nat.pow_pos (by decide))
      have hlt : n / 256 ^ k < 18446744073709551616 := Nat.lt_of_le_of_lt (Nat.div_le_self _ _) hn
      obtain ⟨x, hx⟩ : ∃ x, x = n / 256 ^ k := ⟨_, rfl⟩
      have hx2 : x / 256 = n / 256 ^ (k + 1) := by rw [hx, Nat.pow_succ, Nat.div_div_eq_div_mul]
      have Hx2 := Lib.hid hx2
      rw [← hx] at hpos hlt ⊢
      have hwk : IntKind.i64.wrap ((k : Int) + 1) = (k : Int) + 1 := IntWalk.i64_in _ (by omega)
      clear hx hx2
      go_wp2_with fail
      go_round
      case rel => exact ⟨k + 1, by omega, by go_num, by rw [← Hx2.out]; go_num⟩
      case measure => simp [intOf]; omega
    · obtain rfl : k = sz := by omega
      have hz : n / 256 ^ k = 0 := by
        have h1 : n < 256 ^ k := (Q.digits_len_lt n k).1 (by rw [← Hsz.out]; exact Nat.le_refl _)
        exact Nat.div_eq_of_lt h1
      rw [hz]
      obtain ⟨v, hx, hown⟩ := H.out.at_
      have hgB := H.out.lt
      have hB := H.out.sz
      obtain ⟨L0, hL0⟩ : ∃ L0, L0 = l.length := ⟨_, rfl⟩
      rw [← hL0] at hown hl
      have HL0 := Lib.hid hL0
      have c0 : w.cell? ⟨g, 0, none⟩ = some v := blk_cell hx 0
      have f0 := blk_frozen hx 0
      have hown1 : (w.alloc (.cells #[.int .u8 (k : Int)] 5)).ownsRow B 5 1 v L0 (vals l) := hown.alloc _
      have hx1 := blk_alloc hx (.cells #[.int .u8 (k : Int)] 5)
      have hb1 := one_byte w k (by omega)
      have Hx := Lib.hid hx
      have Hx1 := Lib.hid hx1
      have Hb1 := Lib.hid hb1
      have Hown := Lib.hid hown
      have Hown1 := Lib.hid hown1
      clear hz hx hown hL0 hx1 hb1 hown1
      go_wp2_with (at_builtin; refine wpList_append_bts _ rfl (.tmp 20) (.tmp 25) rfl B v L0 l rfl Hown1.out (some ⟨w.heap.size, 0, none⟩) 1 1 [UInt8.ofNat k] rfl Hb1.out (by omega) (by simp; omega) ?_; intro v2 w2 hown2 hgr2 _; have hx2 := (hgr2.block g (by have := blk_lt Hx.out; simp; omega) (fun e => by have := (Hown1.out.lt g e.symm).1; omega)).trans Hx1.out; have Hgr2 := Lib.hid hgr2; have f2 := blk_frozen hx2 0; have k2 : w2.cell? ⟨g, 0, none⟩ = some v := blk_cell hx2 0; obtain ⟨A2, c2, rfl⟩ := own_shape hown2)
      obtain ⟨w3, hw3⟩ : ∃ w3, w3 = w2.setCell ⟨g, 0, none⟩ (.slice A2 (L0 + 1) c2) := ⟨_, rfl⟩
      rw [← hw3]
      have hE3 : Ext [g] w2 w3 := by rw [hw3]; exact (Ext.refl _ _).setCell (Or.inl (by simp)) _
      have hx3 : w3.heap[g]? = some (.cells #[.slice A2 (L0 + 1) c2] 131 (0, 0)) := by rw [hw3]; exact blk_set hx2 0 _
      have hown3 := hown2.kept_ext hE3 (fun q hq => by rw [List.mem_singleton.1 hq]; omega)
      have hext3 : WrExt g B w w3 := ((WrExt.of_below (al1 w _)).trans (WrExt.of_grown Hown1.out Hgr2.out)).trans (WrExt.of_set hE3)
      have hlen3 : (l ++ [UInt8.ofNat k]).length = L0 + 1 := by rw [List.length_append, HL0.out]; rfl
      have hwr3 : IsWr w3 g B (l ++ [UInt8.ofNat k]) := ⟨hgB, ⟨_, hx3, by rw [hlen3]; exact hown3⟩, Nat.le_trans hB hext3.size⟩
      have Hwr3 := Lib.hid hwr3
      have Hext3 := Lib.hid hext3
      clear hw3 hE3 hx3 hown3 hext3 hlen3 hwr3 hown2 hx2 f2 k2 c0 f0 Hown1 Hown Hb1 Hx1 Hx Hgr2
      go_loopw [30] (fun i wr => ∃ j : Nat, j ≤ k ∧ i = .int .i64 j ∧ WrLeft w g B (l ++ [UInt8.ofNat k] ++ (Q.digits n).take j) wr) (fun i _ => k - (intOf i).toNat)
      case atStart => exact ⟨0, Nat.zero_le _, rfl, by rw [List.take_zero, List.append_nil]; exact ⟨Hwr3.out, Hext3.out⟩⟩
      case round =>
        obtain ⟨j, hj, rfl, hL⟩ := hrel
        by_cases hjk : j < k
        · obtain ⟨⟨hgB2, ⟨v, hxr, hownr⟩, hBr⟩, hext⟩ := hL
          obtain ⟨L, hL⟩ : ∃ L, L = (l ++ [UInt8.ofNat k] ++ (Q.digits n).take j).length := ⟨_, rfl⟩
          have hLb : L ≤ L0 + 9 := by rw [hL]; simp only [List.length_append, List.length_take]; rw [← HL0.out]; simp; omega
          rw [← hL] at hownr
          obtain ⟨i, hi⟩ : ∃ i, i = k - 1 - j := ⟨_, rfl⟩
          obtain ⟨q, hq⟩ : ∃ q, q = 8 * i := ⟨_, rfl⟩
          have ws1 : IntKind.i64.wrap ((k : Int) - 1) = (k : Int) - 1 := IntWalk.i64_in _ (by omega)
          have ws2 : IntKind.i64.wrap ((k : Int) - 1 - (j : Int)) = (i : Int) := by rw [IntWalk.i64_in _ (by omega)]; omega
          have ws3 : IntKind.i64.wrap (8 * (i : Int)) = (q : Int) := by rw [IntWalk.i64_in _ (by omega)]; omega
          have ws4 : (k : Int) - 1 - (j : Int) = (i : Int) := by omega
          have ws5 : 8 * (i : Int) = (q : Int) := by omega
          have ws6 : IntKind.i64.wrap (i : Int) = (i : Int) := IntWalk.i64_in _ (by omega)
          have ws7 : IntKind.i64.wrap (q : Int) = (q : Int) := IntWalk.i64_in _ (by omega)
          have hpq : (2 : Nat) ^ q = 256 ^ i := by rw [hq, Nat.pow_mul]
          obtain ⟨b, hb⟩ : ∃ b, b = n / 256 ^ i % 256 := ⟨_, rfl⟩
          have hb256 : b < 256 := by rw [hb]; exact Nat.mod_lt _ (by decide)
          have hbi : (n : Int) / 2 ^ q % 256 = (b : Int) := by
            rw [hb, ← hpq, Int.natCast_emod, Int.natCast_ediv]
            simp
          have hbw : IntKind.u8.wrap ((n : Int) / 2 ^ q) = (b : Int) := by rw [← hbi]; simp [IntKind.wrap, IntKind.bits, IntKind.signed]
          have hst : l ++ [UInt8.ofNat k] ++ (Q.digits n).take (j + 1) = (l ++ [UInt8.ofNat k] ++ (Q.digits n).take j) ++ [UInt8.ofNat b] := by
            rw [Q.digits_take n j (by rw [← Hsz.out]; exact hjk), ← Hsz.out, ← hi, hb, List.append_assoc, List.append_assoc, List.append_assoc]
            congr 3
            have : UInt8.ofNat (n / 256 ^ i) = UInt8.ofNat (n / 256 ^ i % 256) := by
              apply UInt8.toNat_inj.1
              simp
            rw [this]
          have Hst := Lib.hid hst
          have hLst : (l ++ [UInt8.ofNat k] ++ (Q.digits n).take (j + 1)).length = L + 1 := by rw [hst, List.length_append, ← hL]; rfl
          have HLst := Lib.hid hLst
          obtain ⟨cur, hcur⟩ : ∃ cur, cur = [UInt8.ofNat k] ++ (Q.digits n).take j := ⟨_, rfl⟩
          rw [List.append_assoc, ← hcur] at hownr
          have Hcur := Lib.hid hcur
          have hwj : IntKind.i64.wrap ((j : Int) + 1) = (j : Int) + 1 := IntWalk.i64_in _ (by omega)
          have Hb1 := Lib.hid (fun W => one_byte W b hb256)
          have hxd : wr.drew.heap[g]? = some (.cells #[v] 131 (0, 0)) := hxr
          have hownd : wr.drew.ownsRow B 5 1 v L (vals (l ++ cur)) := hownr
          have hBd : B ≤ wr.drew.heap.size := hBr
          have hq64 : q < 64 := by omega
          have hq0 : 0 ≤ (q : Int) := by omega
          have hn0 : 0 ≤ (n : Int) / 2 ^ q := by
            have := Int.ediv_nonneg (show (0 : Int) ≤ (n : Int) by omega) (show (0 : Int) ≤ 2 ^ q from Int.pow_nonneg (by omega))
            exact this
          have Hext := Lib.hid hext
          clear hL hi hq hpq hb hst hLst hcur hext Hwr3 Hext3
          go_upto_region 9 with fail
          refine wp_region_last (fun w' => w'.cell? ⟨g, 0, none⟩ = some v) 17 (by kernel_rfl) (blk_cell hxd 0) (fun hHeld => ?_)
          refine wpAnyL_take 0 (v := ?_) rfl (by kernel_rfl) (fun _ _ _ h => h) (Or.inl ⟨by kernel_rfl, ?_⟩) hHeld ?_
          rotate_left
          · (intro w hSw; (try dsimp only at hSw); go_simp; try with_reducible rfl)
          try simp only [Act.put, List.setIfInBounds_toArray, List.set_cons_zero, List.set_cons_succ]
          refine wpAnyL_take 1 (v := ?_) rfl (by kernel_rfl) (fun _ _ _ h => h) (Or.inl ⟨by kernel_rfl, ?_⟩) hHeld ?_
          rotate_left
          · (intro w hSw; (try dsimp only at hSw); go_simp; try with_reducible rfl)
          try simp only [Act.put, List.setIfInBounds_toArray, List.set_cons_zero, List.set_cons_succ]
          refine wpAnyL_take 2 (v := ?_) rfl (by kernel_rfl) (fun _ _ _ h => h) (Or.inl ⟨by kernel_rfl, ?_⟩) hHeld ?_
          rotate_left
          · (intro w hSw; (try dsimp only at hSw); go_simp; try with_reducible rfl)
          try simp only [Act.put, List.setIfInBounds_toArray, List.set_cons_zero, List.set_cons_succ]
          refine wpAnyL_take 3 (v := ?_) rfl (by kernel_rfl) (fun _ _ _ h => h) (Or.inl ⟨by kernel_rfl, ?_⟩) hHeld ?_
          rotate_left
          · (intro w hSw; (try dsimp only at hSw); go_simp; try with_reducible rfl)
          try simp only [Act.put, List.setIfInBounds_toArray, List.set_cons_zero, List.set_cons_succ]
          refine wpAnyL_take 4 (v := ?_) rfl (by kernel_rfl) (fun _ _ _ h => h) (Or.inl ⟨by kernel_rfl, ?_⟩) hHeld ?_
          rotate_left
          · (intro w hSw; (try dsimp only at hSw); go_simp; try with_reducible rfl)
          try simp only [Act.put, List.setIfInBounds_toArray, List.set_cons_zero, List.set_cons_succ]
          refine wpAnyL_take 5 (v := ?_) rfl (by kernel_rfl) (fun _ _ _ h => h) (Or.inl ⟨by kernel_rfl, ?_⟩) hHeld ?_
          rotate_left
          · (intro w hSw; (try dsimp only at hSw); go_simp; try with_reducible rfl)
          try simp only [Act.put, List.setIfInBounds_toArray, List.set_cons_zero, List.set_cons_succ]
          refine wpAnyL_take 6 (v := ?_) rfl (by kernel_rfl) (fun _ _ _ h => h) (Or.inl ⟨by kernel_rfl, ?_⟩) hHeld ?_
          rotate_left
          · (intro w hSw; (try dsimp only at hSw); go_simp; try with_reducible rfl)
          try simp only [Act.put, List.setIfInBounds_toArray, List.set_cons_zero, List.set_cons_succ]
          refine wpAnyL_take 7 (v := ?_) rfl (by kernel_rfl) (fun _ _ _ h => h) (Or.inl ⟨by kernel_rfl, ?_⟩) hHeld ?_
          rotate_left
          · (intro w hSw; (try dsimp only at hSw); go_simp; try with_reducible rfl)
          try simp only [Act.put, List.setIfInBounds_toArray, List.set_cons_zero, List.set_cons_succ]
          refine wpAnyL_take 8 (v := ?_) rfl (by kernel_rfl) (fun _ _ _ h => h) (Or.inl ⟨by kernel_rfl, ?_⟩) hHeld ?_
          rotate_left
          · (intro w hSw; (try dsimp only at hSw); go_simp; try with_reducible rfl)
          try simp only [Act.put, List.setIfInBounds_toArray, List.set_cons_zero, List.set_cons_succ]
          refine wpAnyL_take 9 (v := ?_) rfl (by kernel_rfl) (fun _ _ _ h => h) (Or.inl ⟨by kernel_rfl, ?_⟩) hHeld ?_
          rotate_left
          · (intro w hSw; (try dsimp only at hSw); go_simp; try with_reducible rfl)
          try simp only [Act.put, List.setIfInBounds_toArray, List.set_cons_zero, List.set_cons_succ]
          refine wpAnyL_take 10 (v := ?_) rfl (by kernel_rfl) (fun _ _ _ h => h) (Or.inl ⟨by kernel_rfl, ?_⟩) hHeld ?_
          rotate_left
          · (intro w hSw; (try dsimp only at hSw); go_simp; try with_reducible rfl)
          try simp only [Act.put, List.setIfInBounds_toArray, List.set_cons_zero, List.set_cons_succ]
          refine wpAnyL_take 11 (v := ?_) rfl (by kernel_rfl) (fun _ _ _ h => h) (Or.inl ⟨by kernel_rfl, ?_⟩) hHeld ?_
          rotate_left
          · (intro w hSw; (try dsimp only at hSw); go_simp; try with_reducible rfl)
          try simp only [Act.put, List.setIfInBounds_toArray, List.set_cons_zero, List.set_cons_succ]
          refine wpAnyL_take 12 (v := ?_) rfl (by kernel_rfl) (fun _ _ _ h => h) (Or.inl ⟨by kernel_rfl, ?_⟩) hHeld ?_
          rotate_left
          · (intro w hSw; (try dsimp only at hSw); go_simp; try with_reducible rfl)
          try simp only [Act.put, List.setIfInBounds_toArray, List.set_cons_zero, List.set_cons_succ]
          refine wpAnyL_one 13 (by kernel_rfl) rfl (fun K hK => ?_)
          go_simp
          refine hK.out _ _ (fun _ => ((al1 _ _).cell (p := ⟨g, 0, none⟩) (blk_lt hxd)).trans hHeld) ?_
          clear hK K
          try simp only [Act.put, List.setIfInBounds_toArray, List.set_cons_zero, List.set_cons_succ]
          refine wpAnyL_one 14 (by kernel_rfl) rfl (fun K hK => ?_)
          have hown3 : (wr.alloc (.cells #[.int .u8 (b : Int)] 5)).drew.ownsRow B 5 1 v L (vals (l ++ cur)) := hownd.alloc _
          refine step_append_bts _ (by rfl) _ _ (by rfl) B v L (l ++ cur) (by rfl) hown3 (some ⟨wr.heap.size, 0, none⟩) 1 1 [UInt8.ofNat b] (by rfl) (Hb1.out wr) (by omega) (by simp; omega) ?_
          intro v4 w4 hown4 hgr4
          obtain ⟨A4, c4, rfl⟩ := own_shape hown4
          have hx4 := (hgr4.block g (by have := blk_lt hxd; simp at this ⊢; omega) (fun e => by have := (hown3.lt g e.symm).1; omega)).trans (blk_alloc hxd _)
          have g4 := blk_frozen hx4 0
          clear hHeld
          have hHeld : w4.cell? ⟨g, 0, none⟩ = some v := blk_cell hx4 0
          refine hK.out _ _ (fun _ => hHeld) ?_
          clear hK K
          try simp only [Act.put, List.setIfInBounds_toArray, List.set_cons_zero, List.set_cons_succ]
          refine wpAnyL_take 15 (v := ?_) rfl (by kernel_rfl) (fun _ _ _ h => h) (Or.inl ⟨by kernel_rfl, ?_⟩) hHeld ?_
          rotate_left
          · (intro w hSw; (try dsimp only at hSw); go_simp; try with_reducible rfl)
          try simp only [Act.put, List.setIfInBounds_toArray, List.set_cons_zero, List.set_cons_succ]
          refine wpAnyL_take 16 (v := ?_) rfl (by kernel_rfl) (fun _ _ _ h => h) (Or.inl ⟨by kernel_rfl, ?_⟩) hHeld ?_
          rotate_left
          · (intro w hSw; (try dsimp only at hSw); go_simp; try with_reducible rfl)
          try simp only [Act.put, List.setIfInBounds_toArray, List.set_cons_zero, List.set_cons_succ]
          refine wpAnyL_one 17 (by kernel_rfl) rfl (fun K hK => ?_)
          go_simp
          refine hK.out _ _ (fun h => absurd rfl h) ?_
          clear hK K
          try simp only [Act.put, List.setIfInBounds_toArray, List.set_cons_zero, List.set_cons_succ]
          refine wpAnyL_done (by kernel_rfl) ?_ _
          obtain ⟨w5, hw5⟩ : ∃ w5, w5 = w4.setCell ⟨g, 0, none⟩ (.slice A4 (L + 1) c4) := ⟨_, rfl⟩
          rw [← hw5]
          have hE5 : Ext [g] w4 w5 := by rw [hw5]; exact (Ext.refl _ _).setCell (Or.inl (by simp)) _
          have hx5 : w5.heap[g]? = some (.cells #[.slice A4 (L + 1) c4] 131 (0, 0)) := by rw [hw5]; exact blk_set hx4 0 _
          have hown5 := hown4.kept_ext hE5 (fun q hq => by rw [List.mem_singleton.1 hq]; omega)
          have hext5 : WrExt g B w w5 := Hext.out.trans (((WrExt.of_below (((Ext.refl [] wr).drew).nil_below)).trans (WrExt.of_below (show Below wr.drew.heap.size wr.drew (wr.alloc (.cells #[.int .u8 (b : Int)] 5)).drew from al1 wr.drew (.cells #[.int .u8 (b : Int)] 5)))).trans ((WrExt.of_grown hown3 hgr4).trans (WrExt.of_set hE5)))
          have hwr5 : IsWr w5 g B (l ++ [UInt8.ofNat k] ++ (Q.digits n).take (j + 1)) := ⟨hgB, ⟨_, hx5, by rw [HLst.out, Hst.out, List.append_assoc l, ← Hcur.out]; exact hown5⟩, Nat.le_trans hB hext5.size⟩
          have HL5 : Hid (WrLeft w g B (l ++ [UInt8.ofNat k] ++ (Q.digits n).take (j + 1)) w5) := Lib.hid ⟨hwr5, hext5⟩
          clear hw5 hE5 hx5 hown5 hext5 hwr5 hown4 hgr4 hx4 g4 hHeld hown3 hxd hownd hBd hownr hxr hbi hbw ws1 ws2 ws3 ws4 ws5 ws6 ws7 hq64 hq0 hn0
          go_wp2_with fail
          go_roundw
          case rel => exact ⟨j + 1, by omega, by go_num, HL5.out⟩
          case measure => simp [intOf]; omega
        · obtain rfl : j = k := by omega
          have HL := Lib.hid hL
          clear hL
          go_wp2_with fail
          go_end0
          refine ⟨rfl, ?_⟩
          have e : l ++ Q.numB n = l ++ [UInt8.ofNat j] ++ (Q.digits n).take j := by
            unfold Q.numB
            rw [← Hsz.out, List.take_of_length_le (by rw [← Hsz.out]; exact Nat.le_refl _), List.append_assoc]
            rfl
          rw [e]
          exact HL.out
end Go.Proofs.Ytcfgdlpdnpnhmaa
