/- Contracts and words (several texts merged by wip/merge.py). Contracts of package crc24: On's step, On. -/
import Derived.Test.YtcfgdlpdnpnhmaaSkAA
import Derived.Test.YtcfgdlpdnpnhmaaSkAO
import Derived.Laws.BitsAllLaws
set_option linter.unusedVariables false
set_option linter.unusedSimpArgs false
namespace Go.Proofs.Ytcfgdlpdnpnhmaa
open Go.RowKit Go.Maps

theorem step_low {s : Nat} (h : s < 8388608) : Q.step s = s * 2 := by
  unfold Q.step Q.turn
  have : s.testBit 23 = false := Nat.testBit_lt_two_pow (by omega)
  rw [this, if_neg (by simp), Nat.mod_eq_of_lt (by omega)]
theorem step_high {s : Nat} (h : 8388608 ≤ s) (h2 : s < 16777216) : Q.step s = ((s * 2) % 16777216) ^^^ 8801531 := by
  unfold Q.step Q.turn
  have : s.testBit 23 = true := by
    rw [Nat.testBit_eq_decide_div_mod_eq]
    simp
    omega
  rw [this, if_pos rfl]
theorem and_mask (n : Nat) (h : n < 4294967296) : bits .and .u32 (n : Int) 16777215 = ((n % 16777216 : Nat) : Int) := by
  rw [show (16777215 : Int) = ((16777215 : Nat) : Int) from rfl, u32_and_nat _ _ h (by omega)]
  congr 1
  exact Nat.and_two_pow_sub_one_eq_mod n 24
theorem xor_poly (n : Nat) (h : n < 16777216) : bits .xor .u32 (n : Int) 8801531 = ((n ^^^ 8801531 : Nat) : Int) := by
  rw [show (8801531 : Int) = ((8801531 : Nat) : Int) from rfl, u32_xor_nat _ _ (by omega) (by omega)]
theorem crcstep_calls (b s : Nat) (w : World) (hs : s < 16777216) (hb : w.heap[b]? = some (.cells #[.int .u32 s] 140 (0, 0))) :
    Calls Try.prog 172 #[.pointer (some ⟨b, 0, none⟩)] w fun e w' => e = .returned (.tuple #[]) ∧ w'.heap[b]? = some (.cells #[.int .u32 (Q.step s)] 140 (0, 0)) ∧ Ext [b] w w' := by
  have c0 := blk_cell hb 0
  have f0 := blk_frozen hb 0
  by_cases h : s < 8388608
  · rw [step_low h]
    go_enter Try.func172, Try.ntmps172
    go_wp2
    go_end0
    refine ⟨rfl, ?_, (Ext.refl _ _).setCell (Or.inl (by simp)) _⟩
    have := blk_set hb 0 (.int .u32 ((s : Int) * 2))
    simpa using this
  · rw [step_high (by omega) hs]
    have g : (((s : Int) * 2 / 16777216) != 0) = true := by simp; omega
    have ha := and_mask (s * 2) (by omega)
    rw [show ((s * 2 : Nat) : Int) = (s : Int) * 2 by omega] at ha
    have hx := xor_poly (s * 2 % 16777216) (Nat.mod_lt _ (by decide))
    obtain ⟨m, hm⟩ : ∃ m, m = s * 2 % 16777216 := ⟨_, rfl⟩
    rw [← hm] at ha hx ⊢
    have h2 : 8388608 ≤ s := by omega
    clear hm h
    go_enter Try.func172, Try.ntmps172
    go_wp2
    go_end0
    refine ⟨rfl, ?_, ((Ext.refl _ _).setCell (Or.inl (by simp)) _).setCell (Or.inl (by simp)) _⟩
    have := blk_set (blk_set hb 0 (.int .u32 ((s : Int) * 2))) 0 (.int .u32 ((m ^^^ 8801531 : Nat) : Int))
    simpa using this
end Go.Proofs.Ytcfgdlpdnpnhmaa
set_option linter.unusedVariables false
set_option linter.unusedSimpArgs false
namespace Go.Proofs.Ytcfgdlpdnpnhmaa
open Go.RowKit Go.Maps

def stepN : Nat → Nat → Nat
  | 0, s => s
  | n + 1, s => Q.step (stepN n s)
theorem stepN_eight (s c : Nat) : stepN 8 (s ^^^ c * 65536) = Q.crcByte s c := rfl
theorem stepN_lt {s : Nat} (h : s < 16777216) : ∀ n, stepN n s < 16777216
  | 0 => h
  | n + 1 => Q.turn_lt _ _
theorem on_take_succ (s0 : Nat) (l : Bs) (k : Nat) (hk : k < l.length) : Q.on s0 (l.take (k + 1)) = Q.crcByte (Q.on s0 (l.take k)) (l.getD k 0).toNat := by
  unfold Q.on
  rw [List.take_succ_eq_append_getElem hk, List.foldl_append, List.getD_eq_getElem?_getD, List.getElem?_eq_getElem hk]
  rfl
theorem on_lt (s0 : Nat) : ∀ (l : Bs), Q.on s0 l < 16777216 := by
  intro l
  unfold Q.on
  have h0 : s0 % 16777216 < 16777216 := Nat.mod_lt _ (by decide)
  generalize s0 % 16777216 = s at h0
  induction l generalizing s with
  | nil => exact h0
  | cons c r ih => exact ih _ (Q.turn_lt _ _)
theorem xor_byte_lt {s c : Nat} (hs : s < 16777216) (hc : c < 256) : s ^^^ c * 65536 < 16777216 :=
  Nat.xor_lt_two_pow (n := 24) hs (by omega)
theorem xor_u32 (s c : Nat) (hs : s < 16777216) (hc : c < 256) : bits .xor .u32 (s : Int) ((c : Int) * 65536) = ((s ^^^ c * 65536 : Nat) : Int) := by
  rw [show (c : Int) * 65536 = ((c * 65536 : Nat) : Int) by omega, u32_xor_nat _ _ (by omega) (by omega)]

set_option maxRecDepth 100000 in
set_option maxHeartbeats 2000000 in
theorem crcon_calls (s0 : Nat) (A : Option Addr) (n c : Nat) (l : Bs) (w : World) (hs0 : s0 < 4294967296) (hB : Bts w A n l) (hn : n ≤ 140737488355328) :
    Calls Try.prog 157 #[.int .u32 s0, .slice A n c] w fun e w' => e = .returned (.int .u32 (Q.on s0 l)) ∧ Below w.heap.size w w' := by
  have hmf := mk_func
  have HB := Lib.hid hB
  have hl := Lib.hid hB.1
  have ha := and_mask s0 hs0
  have e0 : Q.on s0 (l.take 0) = s0 % 16777216 := rfl
  have He0 := Lib.hid e0
  obtain ⟨m, hm⟩ : ∃ m, m = s0 % 16777216 := ⟨_, rfl⟩
  rw [← hm] at ha He0
  have hm24 : m < 16777216 := by rw [hm]; exact Nat.mod_lt _ (by decide)
  clear hB e0 hm
  go_enter Try.func157, Try.ntmps157
  go_wp2_with fail
  obtain ⟨w1, hw1⟩ : ∃ w1, w1 = w.alloc (.cells #[.int .u32 m] 140) := ⟨_, rfl⟩
  rw [← hw1]
  have hb1 : Below w.heap.size w w1 := by rw [hw1]; exact al1 _ _
  have hx1 : w1.heap[w.heap.size]? = some (.cells #[.int .u32 m] 140 (0, 0)) := by rw [hw1]; exact blk_new _ _
  have Hb1 := Lib.hid hb1
  have Hx1 := Lib.hid hx1
  clear hw1 hb1 hx1
  go_loopw [13] (fun i wr => ∃ k : Nat, i = .int .i64 k ∧ k ≤ n ∧ wr.heap[w.heap.size]? = some (.cells #[.int .u32 (Q.on s0 (l.take k))] 140 (0, 0)) ∧ Below w.heap.size w wr) (fun i _ => n - (intOf i).toNat)
  case atStart => exact ⟨0, rfl, Nat.zero_le _, by rw [He0.out]; exact Hx1.out, Hb1.out⟩
  case round =>
    obtain ⟨k, rfl, hk, hbx, hb⟩ := hrel
    have hs24 := on_lt s0 (l.take k)
    have c0 := blk_cell hbx 0
    have f0 := blk_frozen hbx 0
    by_cases hkn : k < n
    · obtain ⟨pb, po, rfl, hcell⟩ := bts_at (HB.out.below hb) (by omega)
      have hxk := hcell k hkn
      have hix : ∀ W, (Instr.indexAt 22 (.slice (some ⟨pb, po, none⟩) n c) (.int .i64 (k : Int))).run Try.prog W = .ok (.pointer (some ⟨pb, po + k, none⟩)) W := fun W => by
        rw [run_index ⟨pb, po, none⟩ n c k (by omega) (by omega) W, add0, Int.toNat_natCast]
      have hts := on_take_succ s0 l k (by rw [hl.out]; exact hkn)
      obtain ⟨x, hx⟩ : ∃ x, x = (l.getD k 0).toNat := ⟨_, rfl⟩
      have hx256 : x < 256 := by rw [hx]; exact UInt8.toNat_lt _
      rw [← hx] at hxk hts
      obtain ⟨s, hs⟩ : ∃ s, s = Q.on s0 (l.take k) := ⟨_, rfl⟩
      rw [← hs] at hbx hs24 c0 hts
      have hxo := xor_u32 s x hs24 hx256
      have hy24 := xor_byte_lt hs24 hx256
      have hset := blk_set hbx 0 (.int .u32 ((s ^^^ x * 65536 : Nat) : Int))
      obtain ⟨y, hy⟩ : ∃ y, y = s ^^^ x * 65536 := ⟨_, rfl⟩
      rw [← hy] at hxo hy24 hset
      have hend : stepN 8 y = Q.crcByte s x := by rw [hy]; exact stepN_eight _ _
      have hwk : IntKind.i64.wrap ((k : Int) + 1) = (k : Int) + 1 := IntWalk.i64_in _ (by omega)
      have hb2 : Below w.heap.size w (wr.setCell ⟨w.heap.size, 0, none⟩ (.int .u32 (y : Int))) := hb.setCell (Nat.le_refl _) _
      have Hts := Lib.hid hts
      have Hset := Lib.hid hset
      have Hend := Lib.hid hend
      have Hb2 := Lib.hid hb2
      clear hcell hts hx hs hy hset hend hb hbx hb2
      obtain ⟨wo, hwo⟩ : ∃ wo, wo = wr := ⟨_, rfl⟩
      rw [← hwo] at Hset Hb2 c0 f0 hxk ⊢
      clear hwo
      go_wp2_with fail
      go_loopw [22] (fun i wi => ∃ j : Nat, i = .int .i64 j ∧ j ≤ 8 ∧ wi.heap[w.heap.size]? = some (.cells #[.int .u32 (stepN j y)] 140 (0, 0)) ∧ Below w.heap.size w wi) (fun i _ => 8 - (intOf i).toNat)
      case atStart => exact ⟨0, rfl, Nat.zero_le _, by show _ = some (Obj.cells #[.int .u32 (y : Int)] 140 (0, 0)); simpa using Hset.out, Hb2.out⟩
      case round =>
        obtain ⟨j, rfl, hj, hbx, hb⟩ := hrel
        by_cases hj8 : j < 8
        · have hwj : IntKind.i64.wrap ((j : Int) + 1) = (j : Int) + 1 := IntWalk.i64_in _ (by omega)
          have hst := crcstep_calls w.heap.size (stepN j y) wr (stepN_lt hy24 j) hbx
          have Hst := Lib.hid hst
          have Hbb := Lib.hid hb
          clear hst hbx hb
          go_wp2_with (go_at_call 172; refine Hst.out.mono ?_; rintro e w3 ⟨rfl, hx3, hE3⟩; have Hx3 := Lib.hid hx3; have HE3 := Lib.hid hE3; clear hx3 hE3)
          go_roundw
          case rel => exact ⟨j + 1, by go_num, by omega, Hx3.out, Hbb.out.trans (HE3.out.below Hbb.out.size (fun q hq => by rw [List.mem_singleton.1 hq]; exact Nat.le_refl _))⟩
          case measure => simp [intOf]; omega
        · obtain rfl : j = 8 := by omega
          rw [Hend.out] at hbx
          have Hbx := Lib.hid hbx
          have Hbb := Lib.hid hb
          clear hbx hb
          go_wp2_with fail
          go_roundw
          case rel => exact ⟨k + 1, by go_num, by omega, by rw [Hts.out]; exact Hbx.out, Hbb.out⟩
          case measure => simp [intOf]; omega
    · have hkk : k = n := by omega
      have hfull : l.take k = l := List.take_of_length_le (by rw [hl.out]; omega)
      rw [hfull] at c0
      have Hb := Lib.hid hb
      clear hbx hb hfull hkk
      go_wp2_with fail
      go_ret
      exact ⟨rfl, Hb.out⟩
end Go.Proofs.Ytcfgdlpdnpnhmaa
set_option linter.unusedVariables false
set_option linter.unusedSimpArgs false
namespace Go.Proofs.Ytcfgdlpdnpnhmaa
open Go
namespace Q
theorem on_lt (s0 : Nat) (l : Bs) : on s0 l < 16777216 := by
  unfold on
  have h0 : s0 % 16777216 < 16777216 := Nat.mod_lt _ (by decide)
  generalize s0 % 16777216 = s at h0
  induction l generalizing s with
  | nil => exact h0
  | cons c r ih => exact ih _ (turn_lt _ _)
theorem sum_lt (l : Bs) : sum l < 16777216 := on_lt _ _
/-- The number of three bytes from i on. -/
def three (l : Bs) (i : Nat) : Nat := (l.getD i 0).toNat * 65536 + (l.getD (i + 1) 0).toNat * 256 + (l.getD (i + 2) 0).toNat
theorem three_lt (l : Bs) (i : Nat) : three l i < 16777216 := by
  unfold three
  have h1 := (l.getD i 0).toNat_lt
  have h2 := (l.getD (i + 1) 0).toNat_lt
  have h3 := (l.getD (i + 2) 0).toNat_lt
  omega
theorem three_of (n : Nat) (h : n < 16777216) : (UInt8.ofNat (n / 65536)).toNat * 65536 + (UInt8.ofNat (n / 256)).toNat * 256 + (UInt8.ofNat n).toNat = n := by
  simp only [UInt8.toNat_ofNat']
  omega
theorem of_three (a b c : UInt8) : UInt8.ofNat ((a.toNat * 65536 + b.toNat * 256 + c.toNat) / 65536) = a ∧ UInt8.ofNat ((a.toNat * 65536 + b.toNat * 256 + c.toNat) / 256) = b ∧ UInt8.ofNat (a.toNat * 65536 + b.toNat * 256 + c.toNat) = c := by
  have h1 := a.toNat_lt
  have h2 := b.toNat_lt
  have h3 := c.toNat_lt
  refine ⟨UInt8.toNat_inj.1 ?_, UInt8.toNat_inj.1 ?_, UInt8.toNat_inj.1 ?_⟩ <;> simp only [UInt8.toNat_ofNat'] <;> omega
/-- With what a frame begins. -/
def headOf (kind : UInt8) (n : Nat) : Bs := [102, kind, UInt8.ofNat (n / 65536), UInt8.ofNat (n / 256), UInt8.ofNat n]
def frame (kind : UInt8) (body : Bs) : Bs := sealed (headOf kind body.length ++ body)
/-- How long the frame is with which bytes begin, and an error's number. -/
def fsize (b : Bs) : Nat × Nat :=
  if b.length = 0 then (0, 23) else if b.getD 0 0 ≠ 102 then (0, 20) else if b.length < 2 then (0, 23) else if b.getD 1 0 = 0 then (0, 20) else
  if b.length < 5 then (0, 23) else if 65536 < three b 2 then (0, 20) else if b.length < three b 2 + 8 then (0, 23) else (three b 2 + 8, 0)
structure Fr where
  kind : UInt8
  body : Bs
  n : Nat
  e : Nat
def ftake (b : Bs) : Fr :=
  if (fsize b).2 ≠ 0 then ⟨0, [], 0, (fsize b).2⟩ else
  if sum (b.take ((fsize b).1 - 3)) = three b ((fsize b).1 - 3) then ⟨b.getD 1 0, (b.take ((fsize b).1 - 3)).drop 5, (fsize b).1, 0⟩ else ⟨0, [], 0, 22⟩
theorem take_get3 (b : Bs) (k : Nat) (h : k + 3 ≤ b.length) : b.take (k + 3) = b.take k ++ [b.getD k 0, b.getD (k + 1) 0, b.getD (k + 2) 0] := by
  have e1 : b.take (k + 2 + 1) = b.take (k + 2) ++ [b[k + 2]] := List.take_succ_eq_append_getElem (by omega)
  have e2 : b.take (k + 1 + 1) = b.take (k + 1) ++ [b[k + 1]] := List.take_succ_eq_append_getElem (by omega)
  have e3 : b.take (k + 1) = b.take k ++ [b[k]] := List.take_succ_eq_append_getElem (by omega)
  have e2' : b.take (k + 2) = b.take (k + 1) ++ [b[k + 1]] := e2
  show b.take (k + 2 + 1) = _
  rw [e1, e2', e3]
  have g : ∀ i (hi : i < b.length), b.getD i 0 = b[i] := fun i hi => by rw [List.getD_eq_getElem?_getD, List.getElem?_eq_getElem hi]; rfl
  rw [g k (by omega), g (k + 1) (by omega), g (k + 2) (by omega), List.append_assoc, List.append_assoc]
  rfl
theorem seal_iff (x b : Bs) (k : Nat) (h : k + 3 ≤ b.length) (hx : x = b.take k) : sealed x = b.take (k + 3) ↔ sum (b.take k) = three b k := by
  rw [take_get3 b k h, hx]
  unfold sealed three
  rw [List.append_right_inj]
  have hs := sum_lt (b.take k)
  constructor
  · intro e
    injection e with e1 e2
    injection e2 with e2 e3
    injection e3 with e3 _
    rw [← e1, ← e2, ← e3, three_of _ hs]
  · intro e
    obtain ⟨h1, h2, h3⟩ := of_three (b.getD k 0) (b.getD (k + 1) 0) (b.getD (k + 2) 0)
    rw [e, h1, h2, h3]
theorem head_take (b : Bs) (n : Nat) (h : n + 5 ≤ b.length) (h0 : b.getD 0 0 = 102) (hn : three b 2 = n) : headOf (b.getD 1 0) n ++ (b.drop 5).take n = b.take (n + 5) := by
  obtain ⟨b0, b1, b2, b3, b4, r, rfl⟩ : ∃ b0 b1 b2 b3 b4 r, b = b0 :: b1 :: b2 :: b3 :: b4 :: r := by
    rcases b with _ | ⟨b0, _ | ⟨b1, _ | ⟨b2, _ | ⟨b3, _ | ⟨b4, r⟩⟩⟩⟩⟩
    all_goals first | exact ⟨_, _, _, _, _, _, rfl⟩ | (simp at h; done) | (simp at h; omega)
  have hn' : b2.toNat * 65536 + b3.toNat * 256 + b4.toNat = n := by rw [← hn]; simp [three]
  obtain ⟨h1, h2, h3⟩ := of_three b2 b3 b4
  rw [hn'] at h1 h2 h3
  have h0' : b0 = 102 := by simpa using h0
  unfold headOf
  rw [h1, h2, h3, h0']
  simp
theorem frame_iff (b : Bs) (n : Nat) (h : n + 8 ≤ b.length) (h0 : b.getD 0 0 = 102) (hn : three b 2 = n) : frame (b.getD 1 0) ((b.drop 5).take n) = b.take (n + 8) ↔ sum (b.take (n + 5)) = three b (n + 5) := by
  unfold frame
  have hl : ((b.drop 5).take n).length = n := by rw [List.length_take, List.length_drop]; omega
  rw [hl]
  exact seal_iff _ b (n + 5) (by omega) (head_take b n (by omega) h0 hn)
theorem drop_take (b : Bs) (n : Nat) : (b.take (n + 5)).drop 5 = (b.drop 5).take n := by
  rw [List.drop_take]
  simp
/-- The document's frame with which bytes begin. -/
def ftakeR (b : Bs) : Fr :=
  if (fsize b).2 ≠ 0 then ⟨0, [], 0, (fsize b).2⟩ else
  if frame (b.getD 1 0) ((b.drop 5).take (three b 2)) = b.take (three b 2 + 8) then ⟨b.getD 1 0, (b.drop 5).take (three b 2), three b 2 + 8, 0⟩ else ⟨0, [], 0, 22⟩
theorem fsize_good {b : Bs} (h : (fsize b).2 = 0) : b.getD 0 0 = 102 ∧ b.getD 1 0 ≠ 0 ∧ three b 2 + 8 ≤ b.length ∧ three b 2 ≤ 65536 ∧ (fsize b).1 = three b 2 + 8 := by
  unfold fsize at h ⊢
  by_cases c1 : b.length = 0
  · rw [if_pos c1] at h; exact absurd h (by simp)
  rw [if_neg c1] at h ⊢
  by_cases c2 : b.getD 0 0 ≠ 102
  · rw [if_pos c2] at h; exact absurd h (by simp)
  rw [if_neg c2] at h ⊢
  by_cases c3 : b.length < 2
  · rw [if_pos c3] at h; exact absurd h (by simp)
  rw [if_neg c3] at h ⊢
  by_cases c4 : b.getD 1 0 = 0
  · rw [if_pos c4] at h; exact absurd h (by simp)
  rw [if_neg c4] at h ⊢
  by_cases c5 : b.length < 5
  · rw [if_pos c5] at h; exact absurd h (by simp)
  rw [if_neg c5] at h ⊢
  by_cases c6 : 65536 < three b 2
  · rw [if_pos c6] at h; exact absurd h (by simp)
  rw [if_neg c6] at h ⊢
  by_cases c7 : b.length < three b 2 + 8
  · rw [if_pos c7] at h; exact absurd h (by simp)
  rw [if_neg c7]
  exact ⟨Classical.not_not.1 c2, c4, by omega, by omega, rfl⟩
theorem ftake_eq (b : Bs) : ftake b = ftakeR b := by
  unfold ftake ftakeR
  by_cases h : (fsize b).2 ≠ 0
  · rw [if_pos h, if_pos h]
  · rw [if_neg h, if_neg h]
    obtain ⟨h0, h1, h2, h3, h4⟩ := fsize_good (Classical.not_not.1 h)
    rw [h4, show three b 2 + 8 - 3 = three b 2 + 5 by omega, drop_take]
    have hi := frame_iff b (three b 2) h2 h0 rfl
    by_cases hc : sum (b.take (three b 2 + 5)) = three b (three b 2 + 5)
    · rw [if_pos hc, if_pos (hi.2 hc)]
    · rw [if_neg hc, if_neg (fun e => hc (hi.1 e))]
end Q
end Go.Proofs.Ytcfgdlpdnpnhmaa
set_option linter.unusedVariables false
set_option linter.unusedSimpArgs false
namespace Go.Proofs.Ytcfgdlpdnpnhmaa
open Go
namespace Q
/-- A snapshot; its members are any whole numbers. -/
structure Sn where
  index : Nat
  term : Nat
  members : List Int
  data : Bs
def Snp.up (p : Snp) : Sn := ⟨p.index, p.term, p.members.map (fun (x : Nat) => (x : Int)), p.data⟩
/-- Does each number exceed the one ahead, and lie below 7? -/
def risingGo (last : Int) : List Int → Bool
  | [] => true
  | x :: r => decide (last < x ∧ x < 7) && risingGo x r
def rising (l : List Int) : Bool := decide (0 < l.length ∧ l.length ≤ 7) && risingGo (-1) l
def sound (p : Sn) : Bool := decide (1 ≤ p.index ∧ p.index < 576460752303423488 ∧ 1 ≤ p.term ∧ p.term ≤ 1152921504606846976) && (rising p.members && decide (p.data.length ≤ 32768))
def readBody (mm : Nat) (b : Bs) : Option Snp := if fin (get mm (b, false)).2 = true ∧ sound (get mm (b, false)).1.up = true then some (get mm (b, false)).1 else none
/-- The snapshot whose bytes these are. -/
def read (mm : Nat) (b : Bs) : Option Snp := if (ftake b).e ≠ 0 ∨ (ftake b).kind ≠ 4 ∨ (ftake b).n ≠ b.length then none else readBody mm (ftake b).body

theorem num_bad0 (most : Nat) : num most bad = (0, bad) := rfl
theorem text_bad (most : Nat) : text most bad = ([], bad) := rfl
theorem num_67 (s : St) : num 6 s = num 7 s ∨ ((num 7 s).1 = 7 ∧ num 6 s = (0, bad)) := by
  unfold num
  split
  · exact .inl rfl
  · rename_i c r _
    by_cases h : 8 < c.toNat ∨ r.length < c.toNat ∨ (0 < c.toNat ∧ r.headD 0 = 0)
    · rw [if_pos h, if_pos h]; exact .inl rfl
    · rw [if_neg h, if_neg h]
      by_cases h7 : 7 < be (r.take c.toNat)
      · rw [if_pos h7, if_pos (by omega)]; exact .inl rfl
      · rw [if_neg h7]
        by_cases h6 : 6 < be (r.take c.toNat)
        · rw [if_pos h6]; exact .inr ⟨by dsimp only; omega, rfl⟩
        · rw [if_neg h6]; exact .inl rfl
theorem nums_succ (most n : Nat) (s : St) : nums most (n + 1) s = ((nums most n s).1 ++ [(num most (nums most n s).2).1], (num most (nums most n s).2).2) := rfl
theorem nums_67 (s : St) : ∀ n, nums 6 n s = nums 7 n s ∨ (7 ∈ (nums 7 n s).1 ∧ (nums 6 n s).2 = bad)
  | 0 => .inl rfl
  | n + 1 => by
    rw [nums_succ, nums_succ]
    rcases nums_67 s n with h | ⟨h1, h2⟩
    · rw [h]
      rcases num_67 (nums 7 n s).2 with k | ⟨k1, k2⟩
      · rw [k]; exact .inl rfl
      · rw [k2]
        exact .inr ⟨List.mem_append_right _ (by rw [k1]; exact List.mem_singleton.2 rfl), rfl⟩
    · refine .inr ⟨List.mem_append_left _ h1, ?_⟩
      rw [h2, num_bad0]
theorem risingGo_mem : ∀ (l : List Int) (a x : Int), risingGo a l = true → x ∈ l → x < 7
  | [], a, x, _, h => by cases h
  | y :: r, a, x, h, hx => by
    unfold risingGo at h
    rw [Bool.and_eq_true, decide_eq_true_iff] at h
    rcases List.mem_cons.1 hx with rfl | hx
    · exact h.1.2
    · exact risingGo_mem r y x h.2 hx
theorem get_eq (mm : Nat) (s : St) : get mm s = (⟨(num 576460752303423488 s).1, (num 1152921504606846976 (num 576460752303423488 s).2).1, (nums mm (num 7 (num 1152921504606846976 (num 576460752303423488 s).2).2).1 (num 7 (num 1152921504606846976 (num 576460752303423488 s).2).2).2).1, (text 32768 (nums mm (num 7 (num 1152921504606846976 (num 576460752303423488 s).2).2).1 (num 7 (num 1152921504606846976 (num 576460752303423488 s).2).2).2).2).1⟩, (text 32768 (nums mm (num 7 (num 1152921504606846976 (num 576460752303423488 s).2).2).1 (num 7 (num 1152921504606846976 (num 576460752303423488 s).2).2).2).2).2) := rfl
theorem readBody_67 (b : Bs) : readBody 7 b = readBody 6 b := by
  unfold readBody
  rw [get_eq, get_eq]
  generalize (num 576460752303423488 (b, false)) = a
  generalize (num 1152921504606846976 a.2) = t
  generalize (num 7 t.2) = m
  rcases nums_67 m.2 m.1 with h | ⟨h1, h2⟩
  · rw [h]
  · rw [if_neg, if_neg]
    · rintro ⟨h, _⟩
      dsimp only at h
      rw [h2, text_bad] at h
      exact absurd h (by decide)
    · rintro ⟨_, h⟩
      unfold sound rising at h
      rw [Bool.and_eq_true, Bool.and_eq_true, Bool.and_eq_true] at h
      have := risingGo_mem _ _ ((7 : Nat) : Int) h.2.1.2 (List.mem_map.2 ⟨7, h1, rfl⟩)
      omega
theorem read_67 (b : Bs) : read 7 b = read 6 b := by unfold read; rw [readBody_67]
end Q
end Go.Proofs.Ytcfgdlpdnpnhmaa
set_option linter.unusedVariables false
set_option linter.unusedSimpArgs false
namespace Go.Proofs.Ytcfgdlpdnpnhmaa
open Go
namespace Q
/-- A number's bytes, the greatest first; none of 0. -/
def digits (n : Nat) : Bs := if h : n = 0 then [] else digits (n / 256) ++ [UInt8.ofNat n]
termination_by n
decreasing_by omega
theorem digits_zero : digits 0 = [] := by rw [digits, dif_pos rfl]
theorem digits_pos {n : Nat} (h : 0 < n) : digits n = digits (n / 256) ++ [UInt8.ofNat n] := by rw [digits, dif_neg (by omega)]
theorem be_digits (n : Nat) : be (digits n) = n := by
  induction n using Nat.strongRecOn with
  | _ n ih =>
    rcases Nat.eq_zero_or_pos n with rfl | h
    · rw [digits_zero]; rfl
    · rw [digits_pos h]
      unfold be at ih ⊢
      rw [beGo_append, ih (n / 256) (by omega)]
      show n / 256 * 256 + (UInt8.ofNat n).toNat = n
      simp only [UInt8.toNat_ofNat']
      omega
theorem digits_len (k : Nat) : ∀ n, n < 256 ^ k → (digits n).length ≤ k := by
  induction k with
  | zero => intro n h; have : n = 0 := by simp at h; omega
            subst this; rw [digits_zero]; exact Nat.le_refl _
  | succ k ih =>
    intro n h
    rcases Nat.eq_zero_or_pos n with rfl | h0
    · rw [digits_zero]; exact Nat.zero_le _
    · rw [digits_pos h0, List.length_append]
      have := ih (n / 256) (by rw [Nat.pow_succ] at h; omega)
      simp; omega
theorem digits_head (n : Nat) (h : 0 < n) : (digits n).headD 0 ≠ 0 := by
  induction n using Nat.strongRecOn with
  | _ n ih =>
    rw [digits_pos h]
    rcases Nat.eq_zero_or_pos (n / 256) with h0 | h0
    · rw [h0, digits_zero]
      show UInt8.ofNat n ≠ 0
      intro e
      have := congrArg UInt8.toNat e
      simp at this
      omega
    · have h1 := ih (n / 256) (by omega) h0
      cases hd : digits (n / 256) with
      | nil => rw [digits_pos h0] at hd; simp at hd
      | cons c r => rw [hd] at h1; exact h1
theorem digits_ne {n : Nat} (h : 0 < n) : 0 < (digits n).length := by rw [digits_pos h]; simp
def numB (n : Nat) : Bs := UInt8.ofNat (digits n).length :: digits n
theorem digits_len8 {n : Nat} (h : n < 18446744073709551616) : (digits n).length ≤ 8 := digits_len 8 n (by rw [show (256 : Nat) ^ 8 = 18446744073709551616 by decide]; exact h)
theorem numB_len {n : Nat} (h : n < 18446744073709551616) : (numB n).length ≤ 9 := by
  have := digits_len8 h
  unfold numB; simp; omega
theorem num_numB (most n : Nat) (r : Bs) (bd : Bool) (h : n ≤ most) (h64 : n < 18446744073709551616) : num most (numB n ++ r, bd) = (n, (r, bd)) := by
  have h8 := digits_len8 h64
  have hc : (UInt8.ofNat (digits n).length).toNat = (digits n).length := by
    rw [UInt8.toNat_ofNat']; exact Nat.mod_eq_of_lt (by omega)
  unfold numB num
  rw [List.cons_append]
  dsimp only
  rw [hc, List.take_left, List.drop_left, be_digits, if_neg, if_neg (by omega)]
  rintro (h1 | h1 | ⟨h1, h2⟩)
  · omega
  · rw [List.length_append] at h1; omega
  · have hn : 0 < n := by
      rcases Nat.eq_zero_or_pos n with rfl | h0
      · rw [digits_zero] at h1; exact absurd h1 (by simp)
      · exact h0
    have h3 := digits_head n hn
    cases hd : digits n with
    | nil => rw [hd] at h1; exact absurd h1 (by simp)
    | cons c t => rw [hd] at h2 h3; exact h3 h2
theorem raw_app (l r : Bs) (bd : Bool) : raw l.length (l ++ r, bd) = (l, (r, bd)) := by
  unfold raw
  dsimp only
  rw [if_neg (by rw [List.length_append]; omega), List.take_left, List.drop_left]
def textB (s : Bs) : Bs := numB s.length ++ s
theorem text_textB (most : Nat) (s r : Bs) (bd : Bool) (h : s.length ≤ most) (h64 : s.length < 18446744073709551616) : text most (textB s ++ r, bd) = (s, (r, bd)) := by
  unfold text textB
  rw [List.append_assoc, num_numB most s.length (s ++ r) bd h h64]
  dsimp only
  rw [if_neg (by rw [List.length_append]; omega), raw_app]
def numsB (l : List Nat) : Bs := l.flatMap numB
theorem nums_numsB (most : Nat) (hm : most < 18446744073709551616) : ∀ (n : Nat) (l : List Nat) (r : Bs) (bd : Bool), l.length = n → (∀ x ∈ l, x ≤ most) → nums most n (numsB l ++ r, bd) = (l, (r, bd))
  | 0, l, r, bd, hn, _ => by rw [List.eq_nil_of_length_eq_zero hn]; rfl
  | n + 1, l, r, bd, hn, hx => by
    have hne : l ≠ [] := by rintro rfl; simp at hn
    have he := List.dropLast_concat_getLast hne
    have hlast := hx _ (List.getLast_mem hne)
    have hd : l.dropLast.length = n := by rw [List.length_dropLast]; omega
    have hb : numsB l = numsB l.dropLast ++ numB (l.getLast hne) := by
      conv => lhs; rw [← he]
      unfold numsB
      simp
    rw [nums_succ, hb, List.append_assoc, nums_numsB most hm n l.dropLast _ bd hd (fun x hm => hx x (by rw [← he]; exact List.mem_append_left _ hm))]
    dsimp only
    rw [num_numB most _ r bd hlast (by omega), he]
/-- What a snapshot's frame has. -/
def body (p : Snp) : Bs := numB p.index ++ (numB p.term ++ (numB p.members.length ++ (numsB p.members ++ textB p.data)))
def bytesOf (p : Snp) : Bs := frame 4 (body p)
theorem get_body (p : Snp) (h1 : p.index ≤ 576460752303423488) (h2 : p.term ≤ 1152921504606846976) (h3 : p.members.length ≤ 7) (h4 : ∀ x ∈ p.members, x ≤ 7) (h5 : p.data.length ≤ 32768) : get 7 (body p, false) = (p, ([], false)) := by
  unfold get body
  dsimp only
  rw [num_numB _ _ _ _ h1 (by omega)]
  dsimp only
  rw [num_numB _ _ _ _ h2 (by omega)]
  dsimp only
  rw [num_numB _ _ _ _ h3 (by omega)]
  dsimp only
  rw [nums_numsB 7 (by omega) _ _ _ _ rfl h4]
  dsimp only
  have := text_textB 32768 p.data [] false h5 (by omega)
  rw [List.append_nil] at this
  rw [this]
theorem numsB_len (l : List Nat) (h : ∀ x ∈ l, x ≤ 7) : (numsB l).length ≤ 9 * l.length := by
  induction l with
  | nil => exact Nat.le_refl _
  | cons x r ih =>
    have h1 := ih (fun y hy => h y (List.mem_cons_of_mem _ hy))
    have h2 := numB_len (n := x) (by have := h x (List.mem_cons_self ..); omega)
    have e : numsB (x :: r) = numB x ++ numsB r := rfl
    rw [e, List.length_append, List.length_cons]
    omega
theorem body_len (p : Snp) (h1 : p.index ≤ 576460752303423488) (h2 : p.term ≤ 1152921504606846976) (h3 : p.members.length ≤ 7) (h4 : ∀ x ∈ p.members, x ≤ 7) (h5 : p.data.length ≤ 32768) : (body p).length ≤ 33000 := by
  have a1 := numB_len (n := p.index) (by omega)
  have a2 := numB_len (n := p.term) (by omega)
  have a3 := numB_len (n := p.members.length) (by omega)
  have a4 := numsB_len p.members h4
  have a5 := numB_len (n := p.data.length) (by omega)
  unfold body textB
  simp only [List.length_append]
  omega
theorem sealed_len (l : Bs) : (sealed l).length = l.length + 3 := by unfold sealed; simp
theorem frame_len (k : UInt8) (b : Bs) : (frame k b).length = b.length + 8 := by
  unfold frame; rw [sealed_len, List.length_append]; show 5 + b.length + 3 = _; omega
theorem ftake_frame (k : UInt8) (b r : Bs) (hk : k ≠ 0) (hb : b.length ≤ 65536) : ftake (frame k b ++ r) = ⟨k, b, b.length + 8, 0⟩ := by
  have hl := frame_len k b
  have hf : frame k b = 102 :: k :: UInt8.ofNat (b.length / 65536) :: UInt8.ofNat (b.length / 256) :: UInt8.ofNat b.length :: (b ++ [UInt8.ofNat (sum (headOf k b.length ++ b) / 65536), UInt8.ofNat (sum (headOf k b.length ++ b) / 256), UInt8.ofNat (sum (headOf k b.length ++ b))]) := rfl
  have g0 : (frame k b ++ r).getD 0 0 = 102 := by rw [hf]; rfl
  have g1 : (frame k b ++ r).getD 1 0 = k := by rw [hf]; rfl
  have g3 : three (frame k b ++ r) 2 = b.length := by
    rw [hf]
    exact three_of _ (by omega)
  have hll : (frame k b ++ r).length = b.length + 8 + r.length := by rw [List.length_append, hl]
  have hs : fsize (frame k b ++ r) = (b.length + 8, 0) := by
    unfold fsize
    rw [hll, g0, g1, g3, if_neg (by omega), if_neg (fun h => h rfl), if_neg (by omega), if_neg hk, if_neg (by omega), if_neg (by omega), if_neg (by omega)]
  have hd : ((frame k b ++ r).drop 5).take b.length = b := by
    rw [hf]
    simp
  rw [ftake_eq]
  unfold ftakeR
  rw [hs, if_neg (fun h => h rfl), g1, g3, hd]
  rw [if_pos]
  rw [List.take_left' hl]
theorem sound_le {p : Snp} (h : sound p.up = true) : p.index ≤ 576460752303423488 ∧ p.term ≤ 1152921504606846976 ∧ p.members.length ≤ 7 ∧ (∀ x ∈ p.members, x ≤ 7) ∧ p.data.length ≤ 32768 := by
  unfold sound rising at h
  simp only [Bool.and_eq_true, decide_eq_true_iff] at h
  obtain ⟨⟨h1, h2, h3, h4⟩, ⟨⟨h5, h6⟩, h7⟩, h8⟩ := h
  have e1 : p.up.index = p.index := rfl
  have e2 : p.up.term = p.term := rfl
  have e3 : p.up.data = p.data := rfl
  have e4 : p.up.members.length = p.members.length := by unfold Snp.up; simp
  rw [e1] at h2
  rw [e2] at h4
  rw [e3] at h8
  rw [e4] at h6
  refine ⟨by omega, h4, h6, fun x hx => ?_, h8⟩
  have := risingGo_mem _ _ (x : Int) h7 (List.mem_map.2 ⟨x, hx, rfl⟩)
  omega
theorem read_bytes (p : Snp) (h : sound p.up = true) : read 7 (bytesOf p) = some p := by
  obtain ⟨h1, h2, h3, h4, h5⟩ := sound_le h
  have hb := body_len p h1 h2 h3 h4 h5
  have hf := ftake_frame 4 (body p) [] (by decide) (by omega)
  rw [List.append_nil] at hf
  unfold read bytesOf
  rw [hf, if_neg]
  · unfold readBody
    dsimp only
    rw [get_body p h1 h2 h3 h4 h5, if_pos ⟨rfl, h⟩]
  · rintro (e | e | e)
    · exact e rfl
    · exact e rfl
    · exact e (frame_len 4 (body p)).symm
/-- A sound one's members are numbers of nodes. -/
def Sn.down (p : Sn) : Snp := ⟨p.index, p.term, p.members.map Int.toNat, p.data⟩
theorem risingGo_low : ∀ (l : List Int) (a x : Int), risingGo a l = true → x ∈ l → a < x
  | [], a, x, _, h => by cases h
  | y :: r, a, x, h, hx => by
    unfold risingGo at h
    rw [Bool.and_eq_true, decide_eq_true_iff] at h
    rcases List.mem_cons.1 hx with rfl | hx
    · exact h.1.1
    · have := risingGo_low r y x h.2 hx; omega
theorem down_up {p : Sn} (h : sound p = true) : p.down.up = p := by
  unfold sound rising at h
  simp only [Bool.and_eq_true] at h
  obtain ⟨_, ⟨_, h7⟩, _⟩ := h
  obtain ⟨i, t, m, d⟩ := p
  unfold Sn.down Snp.up
  dsimp only
  congr 1
  rw [List.map_map]
  conv => rhs; rw [← List.map_id m]
  refine List.map_congr_left (fun x hx => ?_)
  have := risingGo_low m (-1) x h7 hx
  show ((x.toNat : Nat) : Int) = x
  omega
end Q
end Go.Proofs.Ytcfgdlpdnpnhmaa
