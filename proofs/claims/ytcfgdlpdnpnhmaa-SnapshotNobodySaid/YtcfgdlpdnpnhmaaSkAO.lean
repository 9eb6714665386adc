/- Contracts and words (several texts merged by wip/merge.py). Contracts of package quill: the reader's Fail, Left, number, Num. -/
import Derived.Test.YtcfgdlpdnpnhmaaSkAA
import Derived.Test.YtcfgdlpdnpnhmaaSkAN
import Derived.Laws.Bits64b
import Derived.Test.YtcfgdlpdnpnhmaaSkAJ
set_option linter.unusedVariables false
set_option linter.unusedSimpArgs false
namespace Go.Proofs.Ytcfgdlpdnpnhmaa
open Go.RowKit Go.Maps

/-- Block g is a reader that has s. -/
def IsRd (w : World) (g : Nat) (s : Q.St) : Prop := ∃ A n c, w.heap[g]? = some (.cells #[.slice A n c, .bool s.2] 175 (0, 0)) ∧ Bts w A n s.1 ∧ n ≤ c ∧ (A = none → c = 0) ∧ (∀ ad, A = some ad → ad.block < g)
theorem IsRd.noU8 {w : World} {g : Nat} {s : Q.St} (h : IsRd w g s) : NoU8 w g := by
  obtain ⟨A, n, c, hb, _⟩ := h
  exact .of_cells hb (fun j x => by rcases j with _ | _ | j <;> simp)
theorem IsRd.ext {S : List Nat} {w w' : World} {g : Nat} {s : Q.St} (h : IsRd w g s) (e : Ext S w w') (h1 : g ∉ S) (h2 : ∀ k, k ∈ S → NoU8 w k) : IsRd w' g s := by
  obtain ⟨A, n, c, hb, hB, hc⟩ := h
  exact ⟨A, n, c, e.obj hb h1, hB.ext e h2, hc⟩
theorem IsRd.below {w w' : World} {g : Nat} {s : Q.St} (h : IsRd w g s) (e : Below w.heap.size w w') : IsRd w' g s := h.ext (S := []) (Ext.of_below e) (by simp) (fun k hk => by cases hk)
/-- What a call of a reader's leaves: it has s. -/
structure RdLeft (w : World) (g : Nat) (s : Q.St) (w' : World) : Prop where
  rd : IsRd w' g s
  ext : Ext [g] w w'

theorem rdfail_calls (g : Nat) (s : Q.St) (w : World) (h : IsRd w g s) :
    Calls Try.prog 115 #[.pointer (some ⟨g, 0, none⟩)] w fun e w' => e = .returned (.tuple #[]) ∧ RdLeft w g Q.bad w' := by
  obtain ⟨A, n, c, hb, _⟩ := h
  have c0 := blk_cell hb 0
  have c1 := blk_cell hb 1
  have f0 := blk_frozen hb 0
  have f1 := blk_frozen hb 1
  go_enter Try.func115, Try.ntmps115
  go_wp2
  go_end0
  refine ⟨rfl, ⟨none, 0, 0, blk_set (blk_set hb 0 _) 1 _, Bts.nil _ _, Nat.le_refl _, fun _ => rfl, fun ad e => by cases e⟩, ((Ext.refl _ _).setCell (Or.inl (by simp)) _).setCell (Or.inl (by simp)) _⟩

theorem rdleft_calls (g : Nat) (s : Q.St) (w : World) (h : IsRd w g s) :
    Calls Try.prog 116 #[.pointer (some ⟨g, 0, none⟩)] w fun e w' => e = .returned (.int .i64 s.1.length) ∧ w = w' := by
  obtain ⟨A, n, c, hb, hB, _⟩ := h
  have c0 := blk_cell hb 0
  have hl := Lib.hid hB.1
  clear hB
  go_enter Try.func116, Try.ntmps116
  go_wp2
  go_ret
  exact ⟨by rw [hl.out]; rfl, rfl⟩

theorem run_cut_mid (A : Option Addr) (n c i j : Nat) (hi : i ≤ j) (h : j ≤ c) (w : World) : (Instr.slice 22 (.slice A n c) (some (.int .i64 i)) (some (.int .i64 j)) none).run Try.prog w = .ok (.slice (if c = i then A else A.map (·.add i)) (j - i) (c - i)) w := by
  obtain ⟨i0, hi0, hz0, hz1, hz2⟩ := info_parts info5
  simp [Instr.slice, run_underlying Try.underlying22, Instr.sliceBounds, Instr.sliceBound, sizeOf, typeInfo, hi0, hz1, h, hi, Result.andThen, asIntOf]
def NumGives (w : World) (g : Nat) (most : Nat) (s : Q.St) (e : Ending) (w' : World) : Prop := e = .returned (.tuple #[.int .u64 (Q.num most s).1, .bool false]) ∧ RdLeft w g (Q.num most s).2 w'

theorem run_cut_one (A : Option Addr) (n c z : Nat) (h : z + 1 ≤ c) (w : World) : (Instr.slice 22 (.slice A n c) (some (.int .i64 1)) (some (.int .i64 ((z : Int) + 1))) none).run Try.prog w = .ok (.slice (if c = 1 then A else A.map (·.add 1)) z (c - 1)) w := by
  have := run_cut_mid A n c 1 (z + 1) (by omega) h w
  simpa using this
theorem run_cut_off (A : Option Addr) (n c z : Nat) (h : z + 1 ≤ n) (w : World) : (Instr.slice 22 (.slice A n c) (some (.int .i64 ((z : Int) + 1))) none none).run Try.prog w = .ok (.slice (if c = z + 1 then A else A.map (·.add (z + 1))) (n - (z + 1)) (c - (z + 1))) w := by
  have := run_cut_from A n c (z + 1) h w
  simpa using this
theorem spot {w : World} {ad : Addr} {v : Value} (h : w.cell? (ad.add 0) = some v) : ∃ pb po, ad = ⟨pb, po, none⟩ := by
  have e : ad.add 0 = ad := by unfold Addr.add; rfl
  rw [e] at h
  exact ⟨_, _, cell_spot h⟩

/-- A reader's row: its first byte z, m bytes in all, at pb, po. -/
structure Row (w : World) (g pb po m c0 z : Nat) (bd : Bool) (r : Bs) : Prop where
  blk : w.heap[g]? = some (.cells #[.slice (some ⟨pb, po, none⟩) m c0, .bool bd] 175 (0, 0))
  len : m = r.length + 1
  first : w.cell? ⟨pb, po, none⟩ = some (.int .u8 (z : Int))
  rest : ∀ k, k < r.length → w.cell? ⟨pb, po + 1 + k, none⟩ = some (.int .u8 ((r.getD k 0).toNat : Int))
  cap : m ≤ c0
  low : pb < g
theorem Row.of {w : World} {g : Nat} {c : UInt8} {r : Bs} {bd : Bool} (h : IsRd w g (c :: r, bd)) : ∃ pb po m c0, Row w g pb po m c0 c.toNat bd r := by
  obtain ⟨A, n, c0, hb, hB, hnc, hA, hlo⟩ := h
  have hn : n = r.length + 1 := by have := hB.1; simpa using this.symm
  obtain ⟨ad, rfl, hcell⟩ := hB.2 (by omega)
  obtain ⟨pb, po, rfl⟩ := spot (hcell 0 (by omega))
  refine ⟨pb, po, n, c0, hb, hn, ?_, fun k hk => ?_, hnc, hlo _ rfl⟩
  · have := hcell 0 (by omega)
    rw [add0, Nat.add_zero] at this
    exact this
  · have := hcell (k + 1) (by omega)
    rw [add0] at this
    rw [show po + 1 + k = po + (k + 1) by omega, this]
    simp [u8]
theorem num_bad {most : Nat} {c : UInt8} {r : Bs} {bd : Bool} (h : 8 < c.toNat ∨ r.length < c.toNat ∨ (0 < c.toNat ∧ r.headD 0 = 0)) : Q.num most (c :: r, bd) = (0, Q.bad) := by
  unfold Q.num; dsimp only; rw [if_pos h]
theorem num_big {most : Nat} {c : UInt8} {r : Bs} {bd : Bool} (h : ¬ (8 < c.toNat ∨ r.length < c.toNat ∨ (0 < c.toNat ∧ r.headD 0 = 0))) (hm : most < Q.be (r.take c.toNat)) : Q.num most (c :: r, bd) = (0, Q.bad) := by
  unfold Q.num; dsimp only; rw [if_neg h, if_pos hm]
theorem num_good {most : Nat} {c : UInt8} {r : Bs} {bd : Bool} (h : ¬ (8 < c.toNat ∨ r.length < c.toNat ∨ (0 < c.toNat ∧ r.headD 0 = 0))) (hm : ¬ most < Q.be (r.take c.toNat)) : Q.num most (c :: r, bd) = (Q.be (r.take c.toNat), (r.drop c.toNat, bd)) := by
  unfold Q.num; dsimp only; rw [if_neg h, if_neg hm]

set_option maxRecDepth 100000 in
set_option maxHeartbeats 4000000 in
theorem rdnumber_calls (g most : Nat) (s : Q.St) (w : World) (h : IsRd w g s) (hs : s.1.length ≤ 140737488355328) (hm : most < 18446744073709551616) :
    Calls Try.prog 114 #[.pointer (some ⟨g, 0, none⟩), .int .u64 most, .bool false] w (NumGives w g most s) := by
  obtain ⟨l, bd⟩ := s
  have hleft := rdleft_calls g (l, bd) w h
  have Hfail := Lib.hid (fun W (hW : IsRd W g (l, bd)) => rdfail_calls g (l, bd) W hW)
  have H := Lib.hid h
  unfold NumGives
  cases l with
  | nil =>
    have Hleft := Lib.hid hleft
    clear hleft h
    rw [show Q.num most ([], bd) = (0, Q.bad) from rfl]
    go_enter Try.func114, Try.ntmps114
    go_wp2_with (first
      | (go_at_call 116; refine Hleft.out.mono ?_; rintro e w' ⟨rfl, rfl⟩)
      | (go_at_call 115; refine (Hfail.out w H.out).mono ?_; rintro e w2 ⟨rfl, hL⟩))
    go_ret2
    exact ⟨rfl, hL⟩
  | cons c r =>
    obtain ⟨pb, po, m, c0, hR⟩ := Row.of h
    dsimp only at hs hleft
    obtain ⟨z, hz⟩ : ∃ z, z = c.toNat := ⟨_, rfl⟩
    have hz256 : z < 256 := by rw [hz]; exact c.toNat_lt
    rw [← hz] at hR
    rw [show ((c :: r : Bs)).length = m from hR.len.symm] at hleft hs
    have hml := hR.len
    have b0 := blk_cell hR.blk 0
    have f0 := blk_frozen hR.blk 0
    have k0 := hR.first
    have hnc := hR.cap
    have hwz : IntKind.i64.wrap (z : Int) = (z : Int) := IntWalk.i64_in _ (by omega)
    have hwz1 : IntKind.i64.wrap ((z : Int) + 1) = (z : Int) + 1 := IntWalk.i64_in _ (by omega)
    have gm : ((m : Int) == 0) = false := beq_false_of_ne (by omega)
    have hm1 : 1 ≤ m := by omega
    have hix0 : ∀ W, (Instr.indexAt 22 (.slice (some ⟨pb, po, none⟩) m c0) (.int .i64 0)).run Try.prog W = .ok (.pointer (some ⟨pb, po, none⟩)) W := fun W => by
      rw [run_index ⟨pb, po, none⟩ m c0 0 (by omega) (by omega) W, add0]
      rfl
    have HR := Lib.hid hR
    have Hz := Lib.hid hz
    have Hml := Lib.hid hml
    have Hleft := Lib.hid hleft
    clear h hR hz hml hleft
    by_cases h8 : 8 < z
    · rw [num_bad (Or.inl (by rw [← Hz.out]; exact h8))]
      have g8 : decide ((8 : Int) < (z : Int)) = true := decide_eq_true (by omega)
      go_enter Try.func114, Try.ntmps114
      go_wp2_with (first
        | (go_at_call 116; refine Hleft.out.mono ?_; rintro e w' ⟨rfl, rfl⟩)
        | (go_at_call 115; refine (Hfail.out w H.out).mono ?_; rintro e w2 ⟨rfl, hL⟩))
      go_ret2
      exact ⟨rfl, hL⟩
    have g8 : decide ((8 : Int) < (z : Int)) = false := decide_eq_false (by omega)
    by_cases hmz : m ≤ z
    · rw [num_bad (Or.inr (Or.inl (by rw [← Hz.out]; have := Hml.out; omega)))]
      have gmz : decide (m ≤ z) = true := decide_eq_true hmz
      go_enter Try.func114, Try.ntmps114
      go_wp2_with (first
        | (go_at_call 116; refine Hleft.out.mono ?_; rintro e w' ⟨rfl, rfl⟩)
        | (go_at_call 115; refine (Hfail.out w H.out).mono ?_; rintro e w2 ⟨rfl, hL⟩))
      go_ret2
      exact ⟨rfl, hL⟩
    have gmz : decide (m ≤ z) = false := decide_eq_false hmz
    have hcut := run_cut_one (some ⟨pb, po, none⟩) m c0 z (by omega)
    have hoff := run_cut_off (some ⟨pb, po, none⟩) m c0 z (by omega)
    obtain ⟨As, hAs⟩ : ∃ As, As = (if c0 = 1 then some (⟨pb, po, none⟩ : Addr) else (some ⟨pb, po, none⟩ : Option Addr).map (·.add 1)) := ⟨_, rfl⟩
    obtain ⟨Af, hAf⟩ : ∃ Af, Af = (if c0 = z + 1 then some (⟨pb, po, none⟩ : Addr) else (some ⟨pb, po, none⟩ : Option Addr).map (·.add (z + 1))) := ⟨_, rfl⟩
    rw [← hAs] at hcut
    rw [← hAf] at hoff
    have hAs1 : 0 < z → As = some ⟨pb, po + 1, none⟩ := fun h => by rw [hAs, if_neg (by omega)]; simp [add0]
    have HAs1 := Lib.hid hAs1
    have HAf := Lib.hid hAf
    clear hAs hAf hAs1
    have hlt : z < m := by omega
    by_cases hy : 0 < z ∧ r.headD 0 = 0
    · rw [num_bad (Or.inr (Or.inr (by rw [← Hz.out]; exact hy)))]
      have g0 : decide ((0 : Int) < (z : Int)) = true := decide_eq_true (by omega)
      have g0n : decide (0 < z) = true := decide_eq_true hy.1
      have k1 := HR.out.rest 0 (by have := Hml.out; omega)
      rw [Nat.add_zero, show r.getD 0 0 = r.headD 0 by cases r <;> rfl, hy.2] at k1
      have hix1 : ∀ W, (Instr.indexAt 22 (.slice (some ⟨pb, po, none⟩) m c0) (.int .i64 1)).run Try.prog W = .ok (.pointer (some ⟨pb, po + 1, none⟩)) W := fun W => by
        rw [run_index ⟨pb, po, none⟩ m c0 1 (by omega) (by omega) W, add0]
        rfl
      clear hy
      go_enter Try.func114, Try.ntmps114
      go_wp2_with (first
        | (go_at_call 116; refine Hleft.out.mono ?_; rintro e w' ⟨rfl, rfl⟩)
        | (go_at_call 115; refine (Hfail.out w H.out).mono ?_; rintro e w2 ⟨rfl, hL⟩))
      go_ret2
      exact ⟨rfl, hL⟩
    have hnot : ¬ (8 < c.toNat ∨ r.length < c.toNat ∨ (0 < c.toNat ∧ r.headD 0 = 0)) := by
      rw [← Hz.out]
      rintro (h | h | h)
      · exact h8 h
      · have := Hml.out; omega
      · exact hy h
    have Hnot := Lib.hid hnot
    obtain ⟨y, hyv⟩ : ∃ y, y = (r.getD 0 0).toNat := ⟨_, rfl⟩
    have hixk : ∀ (k : Nat), k < z → ∀ W, (Instr.indexAt 22 (.slice As z (c0 - 1)) (.int .i64 (k : Int))).run Try.prog W = .ok (.pointer (some ⟨pb, po + 1 + k, none⟩)) W := fun k hk W => by
      rw [HAs1.out (by omega), run_index ⟨pb, po + 1, none⟩ z (c0 - 1) k (by omega) (by omega) W, add0, Int.toNat_natCast]
    have Hixk := Lib.hid hixk
    have hlen : z ≤ r.length := by have := Hml.out; omega
    have hix1 : ∀ W, (Instr.indexAt 22 (.slice (some ⟨pb, po, none⟩) m c0) (.int .i64 1)).run Try.prog W = if 1 < m then .ok (.pointer (some ⟨pb, po + 1, none⟩)) W else (Instr.indexAt 22 (.slice (some ⟨pb, po, none⟩) m c0) (.int .i64 1)).run Try.prog W := fun W => by
      split
      · rw [run_index ⟨pb, po, none⟩ m c0 1 (by omega) (by omega) W, add0]
        rfl
      · rfl
    have Hix1 := Lib.hid hix1
    have k1 : 0 < z → w.cell? ⟨pb, po + 1, none⟩ = some (.int .u8 (y : Int)) := fun h => by
      have := HR.out.rest 0 (by omega)
      rw [Nat.add_zero, ← hyv] at this
      exact this
    have hyne : 0 < z → ((y : Int) == 0) = false := fun h => by
      refine beq_false_of_ne (fun e => hy ⟨h, ?_⟩)
      have e2 : (r.getD 0 0).toNat = 0 := by rw [← hyv]; omega
      have e3 : r.headD 0 = r.getD 0 0 := by cases r <;> rfl
      rw [e3]
      exact UInt8.toNat_inj.1 e2
    have K1 := Lib.hid k1
    have Hyne := Lib.hid hyne
    clear hy hyv hixk hix1 k1 hyne hnot hmz
    obtain ⟨N, hN⟩ : ∃ N, N = Q.be (r.take z) := ⟨_, rfl⟩
    have hb8 : N < 18446744073709551616 := by rw [hN]; exact Q.be_lt _ (by rw [List.length_take]; omega)
    have HN := Lib.hid hN
    clear hN
    by_cases hbig : most < N
    · rw [num_big Hnot.out (by rw [← Hz.out, ← HN.out]; exact hbig)]
      by_cases hz0 : 0 < z
      all_goals
        have Hz0 := Lib.hid hz0
        first
          | (have g0 : decide ((0 : Int) < (z : Int)) = true := decide_eq_true (by omega)
             have g0n : decide (0 < z) = true := decide_eq_true hz0
             have k1 := K1.out hz0
             have hyne := Hyne.out hz0
             have hix1 : ∀ W, (Instr.indexAt 22 (.slice (some ⟨pb, po, none⟩) m c0) (.int .i64 1)).run Try.prog W = .ok (.pointer (some ⟨pb, po + 1, none⟩)) W := fun W => by rw [Hix1.out W, if_pos (by omega)])
          | (have g0 : decide ((0 : Int) < (z : Int)) = false := decide_eq_false (by omega)
             have g0n : decide (0 < z) = false := decide_eq_false hz0)
        clear hz0
        go_enter Try.func114, Try.ntmps114
        go_wp2_with (go_at_call 116; refine Hleft.out.mono ?_; rintro e w' ⟨rfl, rfl⟩)
        go_loop [6, 10, 62] (fun v _ i => ∃ k : Nat, k ≤ z ∧ i = .int .i64 k ∧ v = .int .u64 (Q.be ((r.take z).take k))) (fun _ _ i => z - (intOf i).toNat)
        case atStart => exact ⟨0, Nat.zero_le _, rfl, rfl⟩
        case round =>
          obtain ⟨k, hk, rfl, rfl⟩ := hrel
          by_cases hkz : k < z
          · have hkr : k < (r.take z).length := by rw [List.length_take]; omega
            have hbe := Q.be_take_succ (r.take z) k hkr
            have hb7 := Q.be_lt7 ((r.take z).take k) (by rw [List.length_take]; omega)
            have hxk := HR.out.rest k (by omega)
            obtain ⟨x, hx⟩ : ∃ x, x = (r.getD k 0).toNat := ⟨_, rfl⟩
            have hx256 : x < 256 := by rw [hx]; exact UInt8.toNat_lt _
            rw [← hx] at hxk
            obtain ⟨nk, hnk⟩ : ∃ nk, nk = Q.be ((r.take z).take k) := ⟨_, rfl⟩
            rw [← hnk] at hbe hb7 ⊢
            have Hbe := Lib.hid hbe
            have hik := Hixk.out k hkz
            have hwk : IntKind.i64.wrap ((k : Int) + 1) = (k : Int) + 1 := IntWalk.i64_in _ (by omega)
            have Hx := Lib.hid hx
            clear hbe hx hnk
            go_wp2
            go_round
            case rel => exact ⟨k + 1, by omega, by go_num, by
              have e1 : ((nk : Int) * 256) = ((nk * 256 : Nat) : Int) := by omega
              rw [e1, bits_or_u64_nat _ _ (by omega) (by omega), Q.or_byte _ _ hx256, Hbe.out]
              have e2 : (r.take z).getD k 0 = r.getD k 0 := by
                rw [List.getD_eq_getElem?_getD, List.getD_eq_getElem?_getD, List.getElem?_take_of_lt hkz]
              rw [e2, ← Hx.out]⟩
            case measure => simp [intOf]; omega
          · have hkk : k = z := by omega
            have hfull : (r.take z).take z = r.take z := List.take_of_length_le (by rw [List.length_take]; omega)
            rw [hkk, hfull, ← HN.out]
            clear hkk hfull
            go_wp2_with (go_at_call 115; refine (Hfail.out w H.out).mono ?_; rintro e w2 ⟨rfl, hL⟩)
            go_ret2
            exact ⟨rfl, hL⟩
    · rw [num_good Hnot.out (by rw [← Hz.out, ← HN.out]; exact hbig), ← Hz.out, ← HN.out]
      by_cases hz0 : 0 < z
      all_goals
        have Hz0 := Lib.hid hz0
        first
          | (have g0 : decide ((0 : Int) < (z : Int)) = true := decide_eq_true (by omega)
             have g0n : decide (0 < z) = true := decide_eq_true hz0
             have k1 := K1.out hz0
             have hyne := Hyne.out hz0
             have hix1 : ∀ W, (Instr.indexAt 22 (.slice (some ⟨pb, po, none⟩) m c0) (.int .i64 1)).run Try.prog W = .ok (.pointer (some ⟨pb, po + 1, none⟩)) W := fun W => by rw [Hix1.out W, if_pos (by omega)])
          | (have g0 : decide ((0 : Int) < (z : Int)) = false := decide_eq_false (by omega)
             have g0n : decide (0 < z) = false := decide_eq_false hz0)
        clear hz0
        go_enter Try.func114, Try.ntmps114
        go_wp2_with (go_at_call 116; refine Hleft.out.mono ?_; rintro e w' ⟨rfl, rfl⟩)
        go_loop [6, 10, 62] (fun v _ i => ∃ k : Nat, k ≤ z ∧ i = .int .i64 k ∧ v = .int .u64 (Q.be ((r.take z).take k))) (fun _ _ i => z - (intOf i).toNat)
        case atStart => exact ⟨0, Nat.zero_le _, rfl, rfl⟩
        case round =>
          obtain ⟨k, hk, rfl, rfl⟩ := hrel
          by_cases hkz : k < z
          · have hkr : k < (r.take z).length := by rw [List.length_take]; omega
            have hbe := Q.be_take_succ (r.take z) k hkr
            have hb7 := Q.be_lt7 ((r.take z).take k) (by rw [List.length_take]; omega)
            have hxk := HR.out.rest k (by omega)
            obtain ⟨x, hx⟩ : ∃ x, x = (r.getD k 0).toNat := ⟨_, rfl⟩
            have hx256 : x < 256 := by rw [hx]; exact UInt8.toNat_lt _
            rw [← hx] at hxk
            obtain ⟨nk, hnk⟩ : ∃ nk, nk = Q.be ((r.take z).take k) := ⟨_, rfl⟩
            rw [← hnk] at hbe hb7 ⊢
            have Hbe := Lib.hid hbe
            have hik := Hixk.out k hkz
            have hwk : IntKind.i64.wrap ((k : Int) + 1) = (k : Int) + 1 := IntWalk.i64_in _ (by omega)
            have Hx := Lib.hid hx
            clear hbe hx hnk
            go_wp2
            go_round
            case rel => exact ⟨k + 1, by omega, by go_num, by
              have e1 : ((nk : Int) * 256) = ((nk * 256 : Nat) : Int) := by omega
              rw [e1, bits_or_u64_nat _ _ (by omega) (by omega), Q.or_byte _ _ hx256, Hbe.out]
              have e2 : (r.take z).getD k 0 = r.getD k 0 := by
                rw [List.getD_eq_getElem?_getD, List.getD_eq_getElem?_getD, List.getElem?_take_of_lt hkz]
              rw [e2, ← Hx.out]⟩
            case measure => simp [intOf]; omega
          · have hkk : k = z := by omega
            have hfull : (r.take z).take z = r.take z := List.take_of_length_le (by rw [List.length_take]; omega)
            rw [hkk, hfull, ← HN.out]
            clear hkk hfull
            go_wp2
            go_ret2
            refine ⟨rfl, ⟨Af, m - (z + 1), c0 - (z + 1), blk_set HR.out.blk 0 _, ?_, by omega, ?_, fun ad e => by rw [HAf.out] at e; split at e <;> (simp only [Option.map_some, Option.some.injEq] at e; subst e; first | exact HR.out.low | (rw [block_of_add]; exact HR.out.low))⟩, (Ext.refl _ _).setCell (Or.inl (by simp)) _⟩
            · refine ⟨by rw [List.length_drop, Hml.out]; omega, fun hp => ?_⟩
              refine ⟨⟨pb, po + (z + 1), none⟩, by rw [HAf.out, if_neg (by omega)]; simp [add0], fun j hj => ?_⟩
              rw [add0]
              have hne : w.cell? ⟨pb, po + 1 + (z + j), none⟩ = some (.int .u8 ((r.getD (z + j) 0).toNat : Int)) := HR.out.rest (z + j) (by have := Hml.out; omega)
              have hb : pb ≠ g := by
                rintro rfl
                rw [blk_cell HR.out.blk] at hne
                rcases hi : po + 1 + (z + j) with _ | _ | i <;> rw [hi] at hne <;> simp at hne
              rw [show po + (z + 1) + j = po + 1 + (z + j) by omega]
              refine (((Ext.refl [g] w).setCell (p := ⟨g, 0, none⟩) (Or.inl (by simp)) _).cell (p := ⟨pb, po + 1 + (z + j), none⟩) (cell_lt hne) (by simpa using hb)).trans (hne.trans ?_)
              simp [u8, List.getD_eq_getElem?_getD, List.getElem?_drop]
            · intro e
              rw [HAf.out] at e
              split at e
              · cases e
              · simp at e
end Go.Proofs.Ytcfgdlpdnpnhmaa
set_option linter.unusedVariables false
set_option linter.unusedSimpArgs false
namespace Go.Proofs.Ytcfgdlpdnpnhmaa
open Go.RowKit Go.Maps

theorem RdLeft.trans {w w1 w2 : World} {g : Nat} {s1 s2 : Q.St} (h : RdLeft w g s1 w1) (k : RdLeft w1 g s2 w2) : RdLeft w g s2 w2 := ⟨k.rd, h.ext.trans k.ext⟩
theorem RdLeft.refl {w : World} {g : Nat} {s : Q.St} (h : IsRd w g s) : RdLeft w g s w := ⟨h, Ext.refl _ _⟩
theorem rdnum_calls (g most : Nat) (s : Q.St) (w : World) (h : IsRd w g s) (hs : s.1.length ≤ 140737488355328) (hm : most < 18446744073709551616) :
    Calls Try.prog 64 #[.pointer (some ⟨g, 0, none⟩), .int .u64 most] w fun e w' => e = .returned (.int .u64 (Q.num most s).1) ∧ RdLeft w g (Q.num most s).2 w' := by
  have H := Lib.hid (rdnumber_calls g most s w h hs hm)
  obtain ⟨v, hv⟩ : ∃ v, v = (Q.num most s).1 := ⟨_, rfl⟩
  obtain ⟨s', hs'⟩ : ∃ s', s' = (Q.num most s).2 := ⟨_, rfl⟩
  unfold NumGives at H
  rw [← hv, ← hs'] at H
  rw [← hv, ← hs']
  clear hv hs' h
  go_enter Try.func64, Try.ntmps64
  go_wp2_with (go_at_call 114; refine H.out.mono ?_; rintro e w' ⟨rfl, hL⟩)
  go_ret
  exact ⟨rfl, hL⟩
theorem rdend_calls (g : Nat) (s : Q.St) (w : World) (h : IsRd w g s) :
    Calls Try.prog 66 #[.pointer (some ⟨g, 0, none⟩)] w fun e w' => e = .returned (.int .i64 (if Q.fin s = true then 0 else 20)) ∧ w = w' := by
  obtain ⟨l, bd⟩ := s
  obtain ⟨A, n, c, hb, hB, _⟩ := h
  have hl := hB.1
  dsimp only at hl
  have c0 := blk_cell hb 0
  have c1 := blk_cell hb 1
  have Hb := Lib.hid hb
  clear hB hb
  cases bd
  · cases l with
    | nil =>
      have h0 : n = 0 := hl.symm
      subst h0
      clear hl
      rw [show (if Q.fin (([] : Bs), false) = true then (0 : Int) else 20) = 0 from rfl]
      go_enter Try.func66, Try.ntmps66
      go_wp2
      go_ret
      exact ⟨rfl, rfl⟩
    | cons x r =>
      have h0 : 0 < n := by simp at hl; omega
      have h0i : decide ((0 : Int) < (n : Int)) = true := decide_eq_true (by omega)
      clear hl
      rw [show (if Q.fin ((x :: r : Bs), false) = true then (0 : Int) else 20) = 20 from rfl]
      go_enter Try.func66, Try.ntmps66
      go_wp2
      go_ret
      exact ⟨rfl, rfl⟩
  · rw [show (if Q.fin (l, true) = true then (0 : Int) else 20) = 20 from rfl]
    clear hl
    go_enter Try.func66, Try.ntmps66
    go_wp2
    go_ret
    exact ⟨rfl, rfl⟩

/-- Bytes in a row of the call's own, and the reader behind it. -/
def RawGives (w : World) (g : Nat) (l : Bs) (s : Q.St) (e : Ending) (w' : World) : Prop :=
  ∃ A k, e = .returned (.slice A l.length k) ∧ w'.ownsRow w.heap.size 5 1 (.slice A l.length k) l.length (vals l) ∧ RdLeft w g s w'
set_option maxRecDepth 100000 in
theorem rdraw_calls (g : Nat) (k : Nat) (s : Q.St) (w : World) (h : IsRd w g s) (hs : s.1.length ≤ 140737488355328) :
    Calls Try.prog 117 #[.pointer (some ⟨g, 0, none⟩), .int .i64 k] w (RawGives w g (Q.raw k s).1 (Q.raw k s).2) := by
  have Hleft := Lib.hid (rdleft_calls g s w h)
  have Hfail := Lib.hid (rdfail_calls g s w h)
  obtain ⟨l, bd⟩ := s
  dsimp only at hs
  by_cases hk : l.length < k
  · rw [show Q.raw k (l, bd) = ([], Q.bad) by unfold Q.raw; rw [if_pos hk]]
    clear h
    have hk2 : (l.length : Int) < (k : Int) := by omega
    have gk : decide (l.length < k) = true := decide_eq_true hk
    go_enter Try.func117, Try.ntmps117
    go_wp2_with (first
      | (go_at_call 116; refine Hleft.out.mono ?_; rintro e w' ⟨rfl, rfl⟩)
      | (go_at_call 115; refine Hfail.out.mono ?_; rintro e w2 ⟨rfl, hL⟩))
    go_ret
    exact ⟨none, 0, rfl, World.ownsRow_nil _ _ _ _, hL⟩
  · rw [show Q.raw k (l, bd) = (l.take k, (l.drop k, bd)) by unfold Q.raw; rw [if_neg hk]]
    have h0 := h
    obtain ⟨A, n, c, hb, hB, hnc, hA, hlo⟩ := h
    have hl := hB.1
    dsimp only at hl hB
    have gk : decide (l.length < k) = false := decide_eq_false hk
    have c0 := blk_cell hb 0
    have f0 := blk_frozen hb 0
    have hcut := run_cut_to A n c k (by omega)
    have hoff := run_cut_from A n c k (by omega)
    obtain ⟨Af, hAf⟩ : ∃ Af, Af = (if c = k then A else A.map (·.add k)) := ⟨_, rfl⟩
    rw [← hAf] at hoff
    have htk : (l.take k).length = k := by rw [List.length_take]; omega
    have hdrop := hB.drop (c := c) k (by omega) hnc
    rw [← hAf] at hdrop
    have hAn : Af = none → c - k = 0 := by
      intro e
      rw [hAf] at e
      split at e
      · omega
      · have := hA (Option.map_eq_none_iff.1 e); omega
    have hcl := clone_calls A k c (l.take k) w (hB.take k (by omega)) (by omega) hA
    have Hcl := Lib.hid hcl
    have Hdrop := Lib.hid hdrop
    have HAn := Lib.hid hAn
    have hlo2 : ∀ ad, Af = some ad → ad.block < g := fun ad e => by
      rw [hAf] at e
      split at e
      · exact hlo ad e
      · obtain ⟨a0, ha0, rfl⟩ := Option.map_eq_some_iff.1 e
        rw [block_of_add]; exact hlo a0 ha0
    have Hlo2 := Lib.hid hlo2
    clear hlo hlo2
    have Htk := Lib.hid htk
    have Hb := Lib.hid hb
    have H0 := Lib.hid h0
    have hno := h0.noU8
    have Hno := Lib.hid hno
    have hkl : k ≤ l.length := by omega
    have hnl : n = l.length := hl.symm
    subst hnl
    clear hAf hB hcl hdrop hAn htk hb h0 hno hA hk
    unfold RawGives
    rw [Htk.out]
    go_enter Try.func117, Try.ntmps117
    go_wp2_with (first
      | (go_at_call 116; refine Hleft.out.mono ?_; rintro e w' ⟨rfl, rfl⟩)
      | (go_at_call 80; refine Hcl.out.mono ?_; rintro e w2 ⟨A2, c2, rfl, hown, hb2⟩; have hx2 := (hb2.block _ (blk_lt Hb.out)).trans Hb.out; clear c0 f0; have c0 := blk_cell hx2 0; have f0 := blk_frozen hx2 0))
    go_ret
    have hE : Ext [g] w2 (w2.setCell ⟨g, 0, none⟩ (.slice Af (l.length - k) (c - k))) := (Ext.refl _ _).setCell (Or.inl (by simp)) _
    refine ⟨A2, c2, rfl, hown.kept_ext hE (fun q hq => by rw [List.mem_singleton.1 hq]; exact blk_lt Hb.out), ⟨⟨Af, l.length - k, c - k, blk_set hx2 0 _, ?_, by omega, HAn.out, Hlo2.out⟩, (Ext.of_below hb2).trans hE⟩⟩
    exact (Hdrop.out.below hb2).ext hE (fun q hq => by rw [List.mem_singleton.1 hq]; exact .of_cells hx2 (fun j x => by rcases j with _ | _ | j <;> simp))
end Go.Proofs.Ytcfgdlpdnpnhmaa
set_option linter.unusedVariables false
set_option linter.unusedSimpArgs false
namespace Go.Proofs.Ytcfgdlpdnpnhmaa
open Go.RowKit Go.Maps

theorem rdopen_calls (A : Option Addr) (n c : Nat) (l : Bs) (w : World) (hB : Bts w A n l) (hnc : n ≤ c) (hA : A = none → c = 0) (hlo : ∀ ad, A = some ad → ad.block < w.heap.size) :
    Calls Try.prog 63 #[.slice A n c] w fun e w' => e = .returned (.pointer (some ⟨w.heap.size, 0, none⟩)) ∧ IsRd w' w.heap.size (l, false) ∧ Below w.heap.size w w' := by
  have HB := Lib.hid hB
  have HA := Lib.hid hA
  have Hlo := Lib.hid hlo
  clear hB hA hlo
  go_enter Try.func63, Try.ntmps63
  go_wp2
  go_ret
  exact ⟨rfl, ⟨A, n, c, blk_new _ _, HB.out.below (al1 _ _), hnc, HA.out, Hlo.out⟩, al1 _ _⟩

set_option maxRecDepth 100000 in
theorem rdtext_calls (g most : Nat) (s : Q.St) (w : World) (h : IsRd w g s) (hs : s.1.length ≤ 140737488355328) (hm : most ≤ 9223372036854775807) :
    Calls Try.prog 65 #[.pointer (some ⟨g, 0, none⟩), .int .i64 most] w fun e w' => e = .returned (encStr (Q.text most s).1) ∧ RdLeft w g (Q.text most s).2 w' := by
  have Hnum := Lib.hid (rdnum_calls g most s w h hs (by omega))
  have hle := Q.num_le most s
  have hln := Q.num_len most s
  obtain ⟨x, hx⟩ : ∃ x, x = (Q.num most s).1 := ⟨_, rfl⟩
  obtain ⟨s1, hs1⟩ : ∃ s1, s1 = (Q.num most s).2 := ⟨_, rfl⟩
  rw [← hx, ← hs1] at Hnum
  rw [← hx] at hle
  rw [← hs1] at hln
  have hwm : IntKind.u64.wrap (most : Int) = (most : Int) := by
    simp [IntKind.wrap, IntKind.bits, IntKind.signed]
    omega
  have hwx : IntKind.i64.wrap (x : Int) = (x : Int) := IntWalk.i64_in _ (by omega)
  have hwl : IntKind.u64.wrap (s1.1.length : Int) = (s1.1.length : Int) := by
    simp [IntKind.wrap, IntKind.bits, IntKind.signed]
    omega
  have Hleft := Lib.hid (fun W (hW : IsRd W g s1) => rdleft_calls g s1 W hW)
  have Hfail := Lib.hid (fun W (hW : IsRd W g s1) => rdfail_calls g s1 W hW)
  have Hraw := Lib.hid (fun W (hW : IsRd W g s1) => rdraw_calls g x s1 W hW (by omega))
  by_cases hb : s1.1.length < x
  · rw [show Q.text most s = ([], Q.bad) by unfold Q.text; rw [← hx, ← hs1, if_pos hb]]
    have gb : decide (s1.1.length < x) = true := decide_eq_true hb
    have hm0 : 0 ≤ (most : Int) := by omega
    clear h hx hs1
    go_enter Try.func65, Try.ntmps65
    go_wp2_with (first
      | (go_at_call 64; refine Hnum.out.mono ?_; rintro e w1 ⟨rfl, hL1⟩)
      | (go_at_call 116; refine (Hleft.out w1 hL1.rd).mono ?_; rintro e w' ⟨rfl, rfl⟩)
      | (go_at_call 115; refine (Hfail.out w1 hL1.rd).mono ?_; rintro e w2 ⟨rfl, hL2⟩))
    go_ret
    exact ⟨rfl, hL1.trans hL2⟩
  · rw [show Q.text most s = Q.raw x s1 by unfold Q.text; rw [← hx, ← hs1, if_neg hb]]
    have gb : decide (s1.1.length < x) = false := decide_eq_false hb
    obtain ⟨y, hy⟩ : ∃ y, y = (Q.raw x s1).1 := ⟨_, rfl⟩
    obtain ⟨s2, hs2⟩ : ∃ s2, s2 = (Q.raw x s1).2 := ⟨_, rfl⟩
    rw [← hy, ← hs2] at Hraw
    rw [← hy, ← hs2]
    clear h hx hs1 hy hs2
    go_enter Try.func65, Try.ntmps65
    go_wp2_with (first
      | (go_at_call 64; refine Hnum.out.mono ?_; rintro e w1 ⟨rfl, hL1⟩)
      | (go_at_call 116; refine (Hleft.out w1 hL1.rd).mono ?_; rintro e w' ⟨rfl, rfl⟩)
      | (go_at_call 117; refine (Hraw.out w1 hL1.rd).mono ?_; rintro e w2 ⟨A2, k2, rfl, hown, hL2⟩; obtain ⟨A3, c3, e3, hbt, _⟩ := Bts.of_own hown; injection e3 with e4 e5 e6; have hcv := run_to_str hbt k2; rw [← e4] at hcv; clear e4 e5 e6))
    go_ret
    exact ⟨rfl, hL1.trans hL2⟩
end Go.Proofs.Ytcfgdlpdnpnhmaa
set_option linter.unusedVariables false
set_option linter.unusedSimpArgs false
namespace Go.Proofs.Ytcfgdlpdnpnhmaa
open Go.RowKit Go.Maps

/-- Block g is the document's reader, that has s. -/
def IsRr (w : World) (g : Nat) (s : Q.St) : Prop := ∃ A n c, w.heap[g]? = some (.cells #[.slice A n c, .bool s.2] 125 (0, 0)) ∧ Bts w A n s.1 ∧ n ≤ c ∧ (A = none → c = 0) ∧ (∀ ad, A = some ad → ad.block < g)
theorem IsRr.noU8 {w : World} {g : Nat} {s : Q.St} (h : IsRr w g s) : NoU8 w g := by
  obtain ⟨A, n, c, hb, _⟩ := h
  exact .of_cells hb (fun j x => by rcases j with _ | _ | j <;> simp)
theorem IsRr.ext {S : List Nat} {w w' : World} {g : Nat} {s : Q.St} (h : IsRr w g s) (e : Ext S w w') (h1 : g ∉ S) (h2 : ∀ k, k ∈ S → NoU8 w k) : IsRr w' g s := by
  obtain ⟨A, n, c, hb, hB, hc⟩ := h
  exact ⟨A, n, c, e.obj hb h1, hB.ext e h2, hc⟩
theorem IsRr.below {w w' : World} {g : Nat} {s : Q.St} (h : IsRr w g s) (e : Below w.heap.size w w') : IsRr w' g s := h.ext (S := []) (Ext.of_below e) (by simp) (fun k hk => by cases hk)
structure RrLeft (w : World) (g : Nat) (s : Q.St) (w' : World) : Prop where
  rd : IsRr w' g s
  ext : Ext [g] w w'
theorem RrLeft.trans {w w1 w2 : World} {g : Nat} {s1 s2 : Q.St} (h : RrLeft w g s1 w1) (k : RrLeft w1 g s2 w2) : RrLeft w g s2 w2 := ⟨k.rd, h.ext.trans k.ext⟩

theorem rrfail_calls (g : Nat) (s : Q.St) (w : World) (h : IsRr w g s) :
    Calls Try.prog 143 #[.pointer (some ⟨g, 0, none⟩)] w fun e w' => e = .returned (.tuple #[]) ∧ RrLeft w g Q.bad w' := by
  obtain ⟨A, n, c, hb, _⟩ := h
  have c0 := blk_cell hb 0
  have c1 := blk_cell hb 1
  have f0 := blk_frozen hb 0
  have f1 := blk_frozen hb 1
  go_enter Try.func143, Try.ntmps143
  go_wp2
  go_end0
  refine ⟨rfl, ⟨none, 0, 0, blk_set (blk_set hb 0 _) 1 _, Bts.nil _ _, Nat.le_refl _, fun _ => rfl, fun ad e => by cases e⟩, ((Ext.refl _ _).setCell (Or.inl (by simp)) _).setCell (Or.inl (by simp)) _⟩

/-- A reader's row, cut at i: what stands behind. -/
theorem rr_cut {w : World} {g : Nat} {l : Bs} {bd : Bool} {A : Option Addr} {n c i : Nat} (hb : w.heap[g]? = some (.cells #[.slice A n c, .bool bd] 125 (0, 0))) (hB : Bts w A n l) (hnc : n ≤ c) (hA : A = none → c = 0) (hlo : ∀ ad, A = some ad → ad.block < g) (hi : i ≤ n) :
    RrLeft w g (l.drop i, bd) (w.setCell ⟨g, 0, none⟩ (.slice (if c = i then A else A.map (·.add i)) (n - i) (c - i))) := by
  have hE : Ext [g] w (w.setCell ⟨g, 0, none⟩ (.slice (if c = i then A else A.map (·.add i)) (n - i) (c - i))) := (Ext.refl _ _).setCell (Or.inl (by simp)) _
  refine ⟨⟨_, n - i, c - i, blk_set hb 0 _, (hB.drop (c := c) i hi hnc).ext hE (fun q hq => by rw [List.mem_singleton.1 hq]; exact .of_cells hb (fun j x => by rcases j with _ | _ | j <;> simp)), by omega, fun e => ?_, fun ad e => ?_⟩, hE⟩
  · split at e
    · omega
    · have := hA (Option.map_eq_none_iff.1 e); omega
  · split at e
    · exact hlo ad e
    · obtain ⟨a0, ha0, rfl⟩ := Option.map_eq_some_iff.1 e
      rw [block_of_add]; exact hlo a0 ha0
theorem bts_at {w : World} {A : Option Addr} {n : Nat} {l : Bs} (hB : Bts w A n l) (h0 : 0 < n) : ∃ pb po, A = some ⟨pb, po, none⟩ ∧ ∀ k, k < n → w.cell? ⟨pb, po + k, none⟩ = some (.int .u8 ((l.getD k 0).toNat : Int)) := by
  obtain ⟨ad, rfl, hcell⟩ := hB.2 h0
  obtain ⟨pb, po, rfl⟩ := spot (hcell 0 h0)
  exact ⟨pb, po, rfl, fun k hk => by have := hcell k hk; rw [add0] at this; exact this⟩

/-- What first answers. -/
def FirstGives (w : World) (g : Nat) (s : Q.St) (e : Ending) (w' : World) : Prop :=
  match s.1 with
  | [] => e = .returned (.tuple #[.int .u8 0, .bool false]) ∧ w = w'
  | c :: r => e = .returned (.tuple #[.int .u8 (c.toNat : Int), .bool true]) ∧ RrLeft w g (r, s.2) w'
theorem rrfirst_calls (g : Nat) (s : Q.St) (w : World) (h : IsRr w g s) :
    Calls Try.prog 141 #[.pointer (some ⟨g, 0, none⟩)] w (FirstGives w g s) := by
  obtain ⟨l, bd⟩ := s
  obtain ⟨A, n, c, hb, hB, hnc, hA, hlo⟩ := h
  have c0 := blk_cell hb 0
  have f0 := blk_frozen hb 0
  cases l with
  | nil =>
    obtain rfl : n = 0 := hB.1.symm
    clear hB hb
    go_enter Try.func141, Try.ntmps141
    go_wp2
    go_ret2
    exact ⟨rfl, rfl⟩
  | cons x r =>
    have hn : n = r.length + 1 := by have := hB.1; simpa using this.symm
    obtain ⟨pb, po, rfl, hcell⟩ := bts_at hB (by omega)
    have k0 := hcell 0 (by omega)
    rw [Nat.add_zero] at k0
    have k0 : w.cell? ⟨pb, po, none⟩ = some (.int .u8 (x.toNat : Int)) := k0
    have hL := rr_cut hb hB hnc hA hlo (i := 1) (by omega)
    have hcut := run_cut_from (some ⟨pb, po, none⟩) n c 1 (by omega)
    obtain ⟨Af, hAf⟩ : ∃ Af, Af = (if c = 1 then (some ⟨pb, po, none⟩ : Option Addr) else (some ⟨pb, po, none⟩ : Option Addr).map (·.add 1)) := ⟨_, rfl⟩
    rw [← hAf] at hcut hL
    have hcut' : ∀ W, (Instr.slice 22 (.slice (some ⟨pb, po, none⟩) n c) (some (.int .i64 1)) none none).run Try.prog W = .ok (.slice Af (n - 1) (c - 1)) W := hcut
    have hix0 : ∀ W, (Instr.indexAt 22 (.slice (some ⟨pb, po, none⟩) n c) (.int .i64 0)).run Try.prog W = .ok (.pointer (some ⟨pb, po, none⟩)) W := fun W => by
      rw [run_index ⟨pb, po, none⟩ n c 0 (by omega) (by omega) W, add0]
      rfl
    have gm : ((n : Int) == 0) = false := beq_false_of_ne (by omega)
    have hn1 : 0 < n := by omega
    have HL := Lib.hid hL
    clear hcell hB hb hL hcut hAf hn hA hlo
    go_enter Try.func141, Try.ntmps141
    go_wp2
    go_ret2
    exact ⟨rfl, HL.out⟩
end Go.Proofs.Ytcfgdlpdnpnhmaa
set_option linter.unusedVariables false
set_option linter.unusedSimpArgs false
namespace Go.Proofs.Ytcfgdlpdnpnhmaa
open Go.RowKit Go.Maps

/-- Is a number of z bytes not to be read from l? -/
def badNum (z : Nat) (l : Bs) : Prop := 8 < z ∨ l.length < z ∨ (0 < z ∧ l.headD 0 = 0)
/-- What number answers. -/
def NumAt (w : World) (g z : Nat) (s : Q.St) (e : Ending) (w' : World) : Prop :=
  (badNum z s.1 → e = .returned (.tuple #[.int .u64 0, .bool false]) ∧ w = w') ∧
  (¬ badNum z s.1 → e = .returned (.tuple #[.int .u64 (Q.be (s.1.take z)), .bool true]) ∧ RrLeft w g (s.1.drop z, s.2) w')
set_option maxRecDepth 100000 in
set_option maxHeartbeats 4000000 in
theorem rrnumber_calls (g z : Nat) (s : Q.St) (w : World) (h : IsRr w g s) (hs : s.1.length ≤ 140737488355328) (hz256 : z < 256) :
    Calls Try.prog 142 #[.pointer (some ⟨g, 0, none⟩), .int .i64 z] w (NumAt w g z s) := by
  obtain ⟨l, bd⟩ := s
  obtain ⟨A, n, c, hb, hB, hnc, hA, hlo⟩ := h
  have hl : l.length = n := hB.1
  dsimp only at hs
  have c0 := blk_cell hb 0
  have f0 := blk_frozen hb 0
  have hwz : IntKind.i64.wrap (z : Int) = (z : Int) := IntWalk.i64_in _ (by omega)
  by_cases h8 : 8 < z
  · have hbad : badNum z l := Or.inl h8
    have g8 : decide ((8 : Int) < (z : Int)) = true := decide_eq_true (by omega)
    have Hbad := Lib.hid hbad
    clear hbad hB hb hlo hA
    go_enter Try.func142, Try.ntmps142
    go_wp2
    go_ret2
    exact ⟨fun _ => ⟨rfl, rfl⟩, fun h => absurd Hbad.out h⟩
  have g8 : decide ((8 : Int) < (z : Int)) = false := decide_eq_false (by omega)
  by_cases hnz : n < z
  · have hbad : badNum z l := Or.inr (Or.inl (by omega))
    have gn : decide (n < z) = true := decide_eq_true hnz
    have Hbad := Lib.hid hbad
    clear hbad hB hb hl hlo hA
    go_enter Try.func142, Try.ntmps142
    go_wp2
    go_ret2
    exact ⟨fun _ => ⟨rfl, rfl⟩, fun h => absurd Hbad.out h⟩
  have gn : decide (n < z) = false := decide_eq_false hnz
  have hzn : z ≤ n := by omega
  have hL := rr_cut hb hB hnc hA hlo hzn
  have hcut := run_cut_from A n c z hzn
  obtain ⟨Af, hAf⟩ : ∃ Af, Af = (if c = z then A else A.map (·.add z)) := ⟨_, rfl⟩
  rw [← hAf] at hcut hL
  have HL := Lib.hid hL
  have Hl := Lib.hid hl
  have HB := Lib.hid hB
  clear hL hAf hA hb hB hl hlo
  by_cases hz0 : 0 < z
  · obtain ⟨pb, po, rfl, hcell⟩ := bts_at HB.out (by omega)
    have g0 : decide ((0 : Int) < (z : Int)) = true := decide_eq_true (by omega)
    have g0n : decide (0 < z) = true := decide_eq_true hz0
    have k0 := hcell 0 (by omega)
    rw [Nat.add_zero] at k0
    obtain ⟨y, hy⟩ : ∃ y, y = (l.getD 0 0).toNat := ⟨_, rfl⟩
    rw [← hy] at k0
    have hix0 : ∀ W, (Instr.indexAt 22 (.slice (some ⟨pb, po, none⟩) n c) (.int .i64 0)).run Try.prog W = .ok (.pointer (some ⟨pb, po, none⟩)) W := fun W => by
      rw [run_index ⟨pb, po, none⟩ n c 0 (by omega) (by omega) W, add0]
      rfl
    have hhead : l.headD 0 = l.getD 0 0 := by cases l <;> rfl
    have Hcell := Lib.hid hcell
    by_cases hy0 : y = 0
    · have hbad : badNum z l := Or.inr (Or.inr ⟨hz0, by rw [hhead]; exact UInt8.toNat_inj.1 (by rw [← hy, hy0]; rfl)⟩)
      have gy : ((y : Int) == 0) = true := beq_iff_eq.2 (by omega)
      have Hbad := Lib.hid hbad
      clear hbad hcell hhead hy0 hy
      go_enter Try.func142, Try.ntmps142
      go_wp2
      go_ret2
      exact ⟨fun _ => ⟨rfl, rfl⟩, fun h => absurd Hbad.out h⟩
    · have gy : ((y : Int) == 0) = false := beq_false_of_ne (by omega)
      have hgood : ¬ badNum z l := by
        rintro (h | h | ⟨_, h⟩)
        · exact h8 h
        · rw [Hl.out] at h; exact hnz h
        · rw [hhead] at h; exact hy0 (by rw [hy, h]; rfl)
      have Hgood := Lib.hid hgood
      clear hgood hcell hhead hy0 hy
      go_enter Try.func142, Try.ntmps142
      go_wp2
      go_loop [6, 7] (fun v i => ∃ k : Nat, k ≤ z ∧ i = .int .i64 k ∧ v = .int .u64 (Q.be ((l.take z).take k))) (fun _ i => z - (intOf i).toNat)
      case atStart => exact ⟨0, Nat.zero_le _, rfl, rfl⟩
      case round =>
        obtain ⟨k, hk, rfl, rfl⟩ := hrel
        by_cases hkz : k < z
        · have hkr : k < (l.take z).length := by rw [List.length_take, Hl.out]; omega
          have hbe := Q.be_take_succ (l.take z) k hkr
          have hb7 := Q.be_lt7 ((l.take z).take k) (by rw [List.length_take]; omega)
          have hxk := Hcell.out k (by omega)
          obtain ⟨x, hx⟩ : ∃ x, x = (l.getD k 0).toNat := ⟨_, rfl⟩
          have hx256 : x < 256 := by rw [hx]; exact UInt8.toNat_lt _
          rw [← hx] at hxk
          obtain ⟨nk, hnk⟩ : ∃ nk, nk = Q.be ((l.take z).take k) := ⟨_, rfl⟩
          rw [← hnk] at hbe hb7 ⊢
          have Hbe := Lib.hid hbe
          have Hx := Lib.hid hx
          have hik : ∀ W, (Instr.indexAt 22 (.slice (some ⟨pb, po, none⟩) n c) (.int .i64 (k : Int))).run Try.prog W = .ok (.pointer (some ⟨pb, po + k, none⟩)) W := fun W => by
            rw [run_index ⟨pb, po, none⟩ n c k (by omega) (by omega) W, add0, Int.toNat_natCast]
          have hwk : IntKind.i64.wrap ((k : Int) + 1) = (k : Int) + 1 := IntWalk.i64_in _ (by omega)
          clear hbe hx hnk
          go_wp2
          go_round
          case rel => exact ⟨k + 1, by omega, by go_num, by
            have e2 : (l.take z).getD k 0 = l.getD k 0 := by
              rw [List.getD_eq_getElem?_getD, List.getD_eq_getElem?_getD, List.getElem?_take_of_lt hkz]
            rw [Hbe.out, e2, ← Hx.out]
            go_num⟩
          case measure => simp [intOf]; omega
        · have hkk : k = z := by omega
          have hfull : (l.take z).take z = l.take z := List.take_of_length_le (by rw [List.length_take]; omega)
          rw [hkk, hfull]
          obtain ⟨N, hN⟩ : ∃ N, N = Q.be (l.take z) := ⟨_, rfl⟩
          rw [← hN]
          have HN := Lib.hid hN
          clear hkk hfull hN
          go_wp2
          go_ret2
          exact ⟨fun h => absurd h Hgood.out, fun _ => ⟨by rw [← HN.out]; rfl, HL.out⟩⟩
  · obtain rfl : z = 0 := by omega
    have hgood : ¬ badNum 0 l := by
      rintro (h | h | ⟨h, _⟩) <;> omega
    have Hgood := Lib.hid hgood
    clear hgood
    have hcut' : ∀ W, (Instr.slice 22 (.slice A n c) (some (.int .i64 0)) none none).run Try.prog W = .ok (.slice Af n c) W := hcut
    clear hcut hz0 gn g8 h8 hnz
    go_enter Try.func142, Try.ntmps142
    go_wp2
    refine wp_loop_rounds 1 ?_
    rw [rounds_succ]
    go_wp2
    go_ret2
    exact ⟨fun h => absurd h Hgood.out, fun _ => ⟨rfl, HL.out⟩⟩
end Go.Proofs.Ytcfgdlpdnpnhmaa
set_option linter.unusedVariables false
set_option linter.unusedSimpArgs false
namespace Go.Proofs.Ytcfgdlpdnpnhmaa
open Go.RowKit Go.Maps

set_option maxRecDepth 100000 in
theorem rrnum_calls (g most : Nat) (s : Q.St) (w : World) (h : IsRr w g s) (hs : s.1.length ≤ 140737488355328) (hm : most < 18446744073709551616) :
    Calls Try.prog 118 #[.pointer (some ⟨g, 0, none⟩), .int .u64 most] w fun e w' => e = .returned (.int .u64 (Q.num most s).1) ∧ RrLeft w g (Q.num most s).2 w' := by
  have hfirst := rrfirst_calls g s w h
  obtain ⟨l, bd⟩ := s
  cases l with
  | nil =>
    have Hfirst := Lib.hid hfirst
    have Hfail := Lib.hid (rrfail_calls g _ w h)
    unfold FirstGives at Hfirst
    dsimp only at Hfirst
    rw [show Q.num most ([], bd) = (0, Q.bad) from rfl]
    clear hfirst h
    go_enter Try.func118, Try.ntmps118
    go_wp2_with (first
      | (go_at_call 141; refine Hfirst.out.mono ?_; rintro e w1 ⟨rfl, rfl⟩)
      | (go_at_call 143; refine Hfail.out.mono ?_; rintro e w2 ⟨rfl, hL⟩))
    go_ret
    exact ⟨rfl, hL⟩
  | cons c r =>
    unfold FirstGives at hfirst
    dsimp only at hfirst hs
    have Hfirst := Lib.hid hfirst
    obtain ⟨z, hz⟩ : ∃ z, z = c.toNat := ⟨_, rfl⟩
    have hz256 : z < 256 := by rw [hz]; exact c.toNat_lt
    rw [← hz] at Hfirst
    have hwz : IntKind.i64.wrap (z : Int) = (z : Int) := IntWalk.i64_in _ (by omega)
    have Hnumber := Lib.hid (fun W (hW : IsRr W g (r, bd)) => rrnumber_calls g z (r, bd) W hW (by simp at hs; dsimp only; omega) hz256)
    have Hfail := Lib.hid (fun W s' (hW : IsRr W g s') => rrfail_calls g s' W hW)
    have Hz := Lib.hid hz
    clear hfirst h hz hs
    by_cases hb : badNum z r
    · rw [num_bad (by rw [← Hz.out]; exact hb)]
      have Hb := Lib.hid hb
      clear hb
      go_enter Try.func118, Try.ntmps118
      go_wp2_with (first
        | (go_at_call 141; refine Hfirst.out.mono ?_; rintro e w1 ⟨rfl, hL1⟩)
        | (go_at_call 142; refine (Hnumber.out w1 hL1.rd).mono ?_; rintro e w2 ⟨hn1, _⟩; obtain ⟨rfl, rfl⟩ := hn1 Hb.out)
        | (go_at_call 143; refine (Hfail.out w1 _ hL1.rd).mono ?_; rintro e w3 ⟨rfl, hL⟩))
      go_ret
      exact ⟨rfl, hL1.trans hL⟩
    · obtain ⟨x, hx⟩ : ∃ x, x = Q.be (r.take z) := ⟨_, rfl⟩
      have Hb := Lib.hid hb
      have Hx := Lib.hid hx
      by_cases hbig : most < x
      · rw [num_big (by rw [← Hz.out]; exact hb) (by rw [← Hz.out, ← hx]; exact hbig)]
        have gb : decide (x ≤ most) = false := decide_eq_false (by omega)
        clear hb hx
        go_enter Try.func118, Try.ntmps118
        go_wp2_with (first
          | (go_at_call 141; refine Hfirst.out.mono ?_; rintro e w1 ⟨rfl, hL1⟩)
          | (go_at_call 142; refine (Hnumber.out w1 hL1.rd).mono ?_; rintro e w2 ⟨_, hn2⟩; obtain ⟨he, hL2⟩ := hn2 Hb.out; dsimp only at he; rw [← Hx.out] at he; subst he)
          | (go_at_call 143; refine (Hfail.out _ _ hL2.rd).mono ?_; rintro e w3 ⟨rfl, hL⟩))
        go_ret
        exact ⟨rfl, (hL1.trans hL2).trans hL⟩
      · rw [num_good (by rw [← Hz.out]; exact hb) (by rw [← Hz.out, ← hx]; exact hbig), ← Hz.out, ← hx]
        have gb : decide (x ≤ most) = true := decide_eq_true (by omega)
        clear hb hx
        go_enter Try.func118, Try.ntmps118
        go_wp2_with (first
          | (go_at_call 141; refine Hfirst.out.mono ?_; rintro e w1 ⟨rfl, hL1⟩)
          | (go_at_call 142; refine (Hnumber.out w1 hL1.rd).mono ?_; rintro e w2 ⟨_, hn2⟩; obtain ⟨he, hL2⟩ := hn2 Hb.out; dsimp only at he; rw [← Hx.out] at he; subst he))
        go_ret
        exact ⟨rfl, hL1.trans hL2⟩

/-- Bytes in a row of the call's own, and the reader behind it. -/
def RrRaw (w : World) (g : Nat) (l : Bs) (s : Q.St) (e : Ending) (w' : World) : Prop :=
  ∃ A k, e = .returned (.slice A l.length k) ∧ Bts w' A l.length l ∧ RrLeft w g s w'
set_option maxRecDepth 100000 in
theorem rrraw_calls (g : Nat) (k : Nat) (s : Q.St) (w : World) (h : IsRr w g s) (hs : s.1.length ≤ 140737488355328) :
    Calls Try.prog 144 #[.pointer (some ⟨g, 0, none⟩), .int .i64 k] w (RrRaw w g (Q.raw k s).1 (Q.raw k s).2) := by
  have Hfail := Lib.hid (rrfail_calls g s w h)
  obtain ⟨l, bd⟩ := s
  dsimp only at hs
  have h0 := h
  obtain ⟨A, n, c, hb, hB, hnc, hA, hlo⟩ := h
  have hl : l.length = n := hB.1
  dsimp only at hB hb
  have c0 := blk_cell hb 0
  have f0 := blk_frozen hb 0
  by_cases hk : l.length < k
  · rw [show Q.raw k (l, bd) = ([], Q.bad) by unfold Q.raw; rw [if_pos hk]]
    have gk : decide (n < k) = true := decide_eq_true (by omega)
    have hnk : n < k := by omega
    clear h0 hb hB hA hl hlo
    go_enter Try.func144, Try.ntmps144
    go_wp2_with (go_at_call 143; refine Hfail.out.mono ?_; rintro e w2 ⟨rfl, hL⟩)
    go_ret
    exact ⟨none, 0, rfl, Bts.nil _ _, hL⟩
  · rw [show Q.raw k (l, bd) = (l.take k, (l.drop k, bd)) by unfold Q.raw; rw [if_neg hk]]
    have hkn : k ≤ n := by omega
    have hk47 : k ≤ 140737488355328 := by omega
    have gk : decide (n < k) = false := decide_eq_false (by omega)
    have hcut := run_cut_to A n c k (by omega)
    have hoff := run_cut_from A n c k hkn
    obtain ⟨Af, hAf⟩ : ∃ Af, Af = (if c = k then A else A.map (·.add k)) := ⟨_, rfl⟩
    rw [← hAf] at hoff
    have htk : (l.take k).length = k := by rw [List.length_take]; omega
    have Htk := Lib.hid htk
    have HB := Lib.hid hB
    have Hb := Lib.hid hb
    have HA := Lib.hid hA
    have Hlo := Lib.hid hlo
    have HAf := Lib.hid hAf
    have Hl := Lib.hid hl
    clear hAf hB htk hb h0 hA hk hl hlo
    unfold RrRaw
    rw [Htk.out]
    go_enter Try.func144, Try.ntmps144
    go_upto_region 4 with fail
    have hgl : g < w.heap.size := blk_lt Hb.out
    have hown0 : (w.alloc (.cells #[] 5)).ownsRow w.heap.size 5 1 (.slice (some ⟨w.heap.size, 0, none⟩) 0 0) 0 (vals []) := World.ownsRow_made w #[] 0 (Nat.le_refl _) (Nat.zero_le _) rfl
    have hbt0 : Bts (w.alloc (.cells #[] 5)) A k (l.take k) := (HB.out.take k hkn).below (al1 _ _)
    have Hown0 := Lib.hid hown0
    have Hbt0 := Lib.hid hbt0
    clear hown0 hbt0
    go_wp2_with (at_builtin; go_must (refine wpList_append_bts _ rfl _ _ rfl w.heap.size _ 0 [] rfl Hown0.out A k c (l.take k) rfl Hbt0.out (by omega) (by simp) ?_); intro v' w2 hown hgr _; rw [List.nil_append, Nat.zero_add] at hown; have hE2 := (Ext.of_below (S := []) (al1 w (.cells #[] 5))).grown hgr (fun q hq => Or.inr (by have h1 : some w.heap.size = some q := hq; injection h1 with h1; omega)); have hx2 := hE2.obj Hb.out (by simp); obtain ⟨A2, c2, rfl, hbt2, _⟩ := Bts.of_own hown; clear c0 f0; have c0 := blk_cell hx2 0; have f0 := blk_frozen hx2 0)
    go_ret
    have hcutL := rr_cut hx2 (HB.out.below hE2.nil_below) hnc HA.out Hlo.out hkn
    rw [← HAf.out] at hcutL
    have hE3 : Ext [g] w2 (w2.setCell ⟨g, 0, none⟩ (.slice Af (n - k) (c - k))) := hcutL.ext
    refine ⟨A2, c2, rfl, hbt2.ext hE3 (fun q hq => by rw [List.mem_singleton.1 hq]; exact .of_cells hx2 (fun j x => by rcases j with _ | _ | j <;> simp)), hcutL.rd, (hE2.mono (fun q hq => by cases hq)).trans hcutL.ext⟩
set_option maxRecDepth 100000 in
theorem rrtext_calls (g most : Nat) (s : Q.St) (w : World) (h : IsRr w g s) (hs : s.1.length ≤ 140737488355328) (hm : most ≤ 9223372036854775807) :
    Calls Try.prog 119 #[.pointer (some ⟨g, 0, none⟩), .int .i64 most] w fun e w' => e = .returned (encStr (Q.text most s).1) ∧ RrLeft w g (Q.text most s).2 w' := by
  have Hnum := Lib.hid (rrnum_calls g most s w h hs (by omega))
  have hle := Q.num_le most s
  have hln := Q.num_len most s
  obtain ⟨x, hx⟩ : ∃ x, x = (Q.num most s).1 := ⟨_, rfl⟩
  obtain ⟨s1, hs1⟩ : ∃ s1, s1 = (Q.num most s).2 := ⟨_, rfl⟩
  rw [← hx, ← hs1] at Hnum
  rw [← hx] at hle
  rw [← hs1] at hln
  have hwm : IntKind.u64.wrap (most : Int) = (most : Int) := by
    simp [IntKind.wrap, IntKind.bits, IntKind.signed]
    omega
  have hwx : IntKind.i64.wrap (x : Int) = (x : Int) := IntWalk.i64_in _ (by omega)
  obtain ⟨L, hL0⟩ : ∃ L, L = s1.1.length := ⟨_, rfl⟩
  have hwl : IntKind.u64.wrap (L : Int) = (L : Int) := by
    simp [IntKind.wrap, IntKind.bits, IntKind.signed]
    omega
  have Hfail := Lib.hid (fun W (hW : IsRr W g s1) => rrfail_calls g s1 W hW)
  have Hraw := Lib.hid (fun W (hW : IsRr W g s1) => rrraw_calls g x s1 W hW (by omega))
  have HL0 := Lib.hid hL0
  have hm0 : 0 ≤ (most : Int) := by omega
  have hopen : ∀ W, IsRr W g s1 → ∃ A c, W.cell? ⟨g, 0, none⟩ = some (.slice A L c) := fun W hW => by
    obtain ⟨A, n, c, hb, hB, _⟩ := hW
    have hn : L = n := by rw [hL0]; exact hB.1
    subst hn
    exact ⟨A, c, blk_cell hb 0⟩
  have Hopen := Lib.hid hopen
  by_cases hb : s1.1.length < x
  · rw [show Q.text most s = ([], Q.bad) by unfold Q.text; rw [← hx, ← hs1, if_pos hb]]
    have gb : decide (L < x) = true := decide_eq_true (by omega)
    clear h hx hs1 hL0 hb hopen
    go_enter Try.func119, Try.ntmps119
    go_wp2_with (first
      | (go_at_call 118; refine Hnum.out.mono ?_; rintro e w1 ⟨rfl, hL1⟩; obtain ⟨A1, c1, k1⟩ := Hopen.out w1 hL1.rd)
      | (go_at_call 143; refine (Hfail.out w1 hL1.rd).mono ?_; rintro e w2 ⟨rfl, hL2⟩))
    go_ret
    exact ⟨rfl, hL1.trans hL2⟩
  · rw [show Q.text most s = Q.raw x s1 by unfold Q.text; rw [← hx, ← hs1, if_neg hb]]
    have gb : decide (L < x) = false := decide_eq_false (by omega)
    obtain ⟨y, hy⟩ : ∃ y, y = (Q.raw x s1).1 := ⟨_, rfl⟩
    obtain ⟨s2, hs2⟩ : ∃ s2, s2 = (Q.raw x s1).2 := ⟨_, rfl⟩
    rw [← hy, ← hs2] at Hraw
    rw [← hy, ← hs2]
    clear h hx hs1 hy hs2 hL0 hb hopen
    go_enter Try.func119, Try.ntmps119
    go_wp2_with (first
      | (go_at_call 118; refine Hnum.out.mono ?_; rintro e w1 ⟨rfl, hL1⟩; obtain ⟨A1, c1, k1⟩ := Hopen.out w1 hL1.rd)
      | (go_at_call 144; refine (Hraw.out w1 hL1.rd).mono ?_; rintro e w2 ⟨A2, k2, rfl, hbt, hL2⟩; have hcv := run_to_str hbt k2))
    go_ret
    exact ⟨rfl, hL1.trans hL2⟩
theorem rrend_calls (g : Nat) (s : Q.St) (w : World) (h : IsRr w g s) :
    Calls Try.prog 69 #[.pointer (some ⟨g, 0, none⟩)] w fun e w' => e = .returned (.int .i64 (if Q.fin s = true then 0 else 20)) ∧ w = w' := by
  obtain ⟨l, bd⟩ := s
  obtain ⟨A, n, c, hb, hB, _⟩ := h
  have hl := hB.1
  dsimp only at hl
  have c0 := blk_cell hb 0
  have c1 := blk_cell hb 1
  clear hB hb
  cases bd
  · cases l with
    | nil =>
      have h0 : n = 0 := hl.symm
      subst h0
      clear hl
      rw [show (if Q.fin (([] : Bs), false) = true then (0 : Int) else 20) = 0 from rfl]
      go_enter Try.func69, Try.ntmps69
      go_wp2
      go_ret
      exact ⟨rfl, rfl⟩
    | cons x r =>
      have h0 : 0 < n := by simp at hl; omega
      have h0i : decide ((0 : Int) < (n : Int)) = true := decide_eq_true (by omega)
      clear hl
      rw [show (if Q.fin ((x :: r : Bs), false) = true then (0 : Int) else 20) = 20 from rfl]
      go_enter Try.func69, Try.ntmps69
      go_wp2
      go_ret
      exact ⟨rfl, rfl⟩
  · rw [show (if Q.fin (l, true) = true then (0 : Int) else 20) = 20 from rfl]
    clear hl
    go_enter Try.func69, Try.ntmps69
    go_wp2
    go_ret
    exact ⟨rfl, rfl⟩
end Go.Proofs.Ytcfgdlpdnpnhmaa
set_option linter.unusedVariables false
set_option linter.unusedSimpArgs false
namespace Go.Proofs.Ytcfgdlpdnpnhmaa
open Go
namespace Q

structure Snp where
  index : Nat
  term : Nat
  members : List Nat
  data : Bs
/-- So many numbers. -/
def nums (most : Nat) : Nat → St → List Nat × St
  | 0, s => ([], s)
  | n + 1, s => ((nums most n s).1 ++ [(num most (nums most n s).2).1], (num most (nums most n s).2).2)
/-- What a reader has next; a member is at most mm. -/
def get (mm : Nat) (s : St) : Snp × St :=
  let a := num 576460752303423488 s
  let b := num 1152921504606846976 a.2
  let c := num 7 b.2
  let m := nums mm c.1 c.2
  let t := text 32768 m.2
  (⟨a.1, b.1, m.1, t.1⟩, t.2)
theorem nums_len (most : Nat) (s : St) : ∀ n, (nums most n s).2.1.length ≤ s.1.length
  | 0 => Nat.le_refl _
  | n + 1 => Nat.le_trans (num_len _ _) (nums_len most s n)
theorem nums_count (most : Nat) (s : St) : ∀ n, (nums most n s).1.length = n
  | 0 => rfl
  | n + 1 => by show ((nums most n s).1 ++ [_]).length = _; rw [List.length_append, nums_count most s n]; rfl
theorem nums_le (most : Nat) (s : St) : ∀ n, ∀ x ∈ (nums most n s).1, x ≤ most
  | 0 => fun x hx => by cases hx
  | n + 1 => fun x hx => by
    have hx : x ∈ (nums most n s).1 ++ [(num most (nums most n s).2).1] := hx
    rcases List.mem_append.1 hx with h | h
    · exact nums_le most s n x h
    · rw [List.mem_singleton.1 h]; exact num_le _ _
end Q
end Go.Proofs.Ytcfgdlpdnpnhmaa
set_option linter.unusedVariables false
set_option linter.unusedSimpArgs false
namespace Go.Proofs.Ytcfgdlpdnpnhmaa
open Go.RowKit Go.Maps

/-- Whole numbers as cells. -/
def ivals (l : List Nat) : List Value := l.map fun (x : Nat) => .int .i64 (x : Int)
theorem ivals_append (l m : List Nat) : ivals (l ++ m) = ivals l ++ ivals m := by simp [ivals]
theorem ivals_length (l : List Nat) : (ivals l).length = l.length := by simp [ivals]
/-- From address A on n numbers stand: l. -/
def Its (w : World) (A : Option Addr) (n : Nat) (l : List Nat) : Prop :=
  l.length = n ∧ (0 < n → ∃ ad, A = some ad ∧ ∀ j, j < n → w.cell? (ad.add j) = some (.int .i64 ((l.getD j 0 : Nat) : Int)))
theorem Its.of_own {w : World} {base n : Nat} {v : Value} {l : List Nat} (h : w.ownsRow base 3 1 v n (ivals l)) : ∃ A c, v = .slice A n c ∧ Its w A n l ∧ n ≤ c := by
  have hl : l.length = n := by have := h.1; rw [ivals_length] at this; omega
  rcases h.2 with ⟨rfl, rfl⟩ | ⟨g, cap, cur, rfl, _, hb, hnc, _, _, htake⟩
  · exact ⟨none, 0, rfl, ⟨hl, fun h => absurd h (by omega)⟩, Nat.le_refl _⟩
  · refine ⟨_, cap, rfl, ⟨hl, fun _ => ⟨_, rfl, fun j hj => ?_⟩⟩, hnc⟩
    refine h.cells (g := g) rfl _ _ ?_
    have hjl : j < l.length := by omega
    simp [ivals, List.getD_eq_getElem?_getD, hjl]
theorem infoI : (Try.prog.info? 3).map (fun i => (i.zero, i.size, i.bytes)) = some (some (.int .i64 0), 1, 8) := by kernel_rfl
section
variable {P : Program} (w : World) {ops : Array Oper} {rest : List Oper} {o : Oper} {a : Act} {K : Act → World → Prop} {Q' : Exit → Act → World → Prop} {E : Prop}
theorem step_append_int (hgd : o.guard = none) (s x : Operand) (ho : o.op = .call { callee := .builtin .append, args := #[s, x], argTypes := #[25, 25] })
    (base : Nat) (v : Value) (n : Nat) (us : List Nat) (hs : a.eval s = v) (hown : w.ownsRow base 3 1 v n (ivals us)) (g c : Nat) (u : Nat) (hx : a.eval x = .slice (some ⟨g, 0, none⟩) 1 c)
    (hb : w.heap[g]? = some (.cells #[.int .i64 (u : Int)] 3 (0, 0))) (hn : n ≤ 1048576) (hbase : base ≤ w.heap.size)
    (h : ∀ v' w', w'.ownsRow base 3 1 v' (n + 1) (ivals (us ++ [u])) → w.grownBy w' v.ownBlock → K (a.put o.dst v') w') :
    if Region.wanted o (yielded ops a.tmps) = true then Oper.wp Try.prog o a w K Q' else E := by
  have hw : Region.wanted o (yielded ops a.tmps) = true := by simp [Region.wanted, hgd]
  rw [if_pos hw]
  obtain ⟨i0, hi, hz0, hz1, hz2⟩ := info_parts infoI
  obtain ⟨v', w', hr, h2, h3, h4, h5⟩ := run_append_own_at (P := Try.prog) w base 25 o.type 3 i0 _ 1 8 Try.underlying25 hi hz0 hz1 hz2 rfl (by omega) v n (ivals us) hown ⟨g, 0, none⟩ 1 c [.int .i64 (u : Int)] rfl (fun j y hy => by
    rw [add0, blk_cell hb, Nat.zero_add]
    rw [← hy]
    rcases j with _ | j <;> rfl) (by intro y hy; rw [List.mem_singleton.1 hy]; rfl) (by unfold maxLen; omega) (by omega) hbase
  rw [show ([.int .i64 (u : Int)] : List Value) = ivals [u] by simp [ivals], ← ivals_append] at h2
  unfold Oper.wp execOp
  simp only [ho, resolve, invoke, builtin, Sem.run_bind, Sem.run_pure, Result.andThen_ok, List.map_toArray, List.map_cons, List.map_nil, hs, hx, hr]
  exact h v' w' h2 h3
end
/-- '[]byte(s)': a new block, and room for all of it. -/
theorem run_to_bytes2 (s : ByteArray) (w : World) : ∃ c w', (convert 9 22 (.string s)).run Try.prog w = .ok (.slice (some ⟨w.heap.size, 0, none⟩) s.size c) w' ∧ Bts w' (some ⟨w.heap.size, 0, none⟩) s.size s.data.toList ∧ s.size ≤ c ∧ Below w.heap.size w w' := by
  have hr := run_bytes_of_string w 9 22 5 s Try.underlying9 Try.underlying22 Try.underlying5
  obtain ⟨A, c, w', hr2, hb, _, hB⟩ := run_to_bytes s w
  rw [hr] at hr2
  injection hr2 with e1 e2
  injection e1 with e3 e4 e5
  subst e3 e5 e2
  exact ⟨_, _, hr, hb, grownCap_ge _ _ _ _, hB⟩
section
variable {P : Program} (w : World) {ops : Array Oper} {rest : List Oper} {o : Oper} {a : Act} {Q' : Exit → Act → World → Prop}
theorem wpList_to_bytes2 (hgd : o.guard = none) (x : Operand) (ho : o.op = .convert 9 22 x) (s : ByteArray) (hx : a.eval x = .string s)
    (h : ∀ c w', Bts w' (some ⟨w.heap.size, 0, none⟩) s.size s.data.toList → s.size ≤ c → Below w.heap.size w w' → wpList Try.prog ops Q' rest (a.put o.dst (.slice (some ⟨w.heap.size, 0, none⟩) s.size c)) w') :
    wpList Try.prog ops Q' (o :: rest) a w := by
  refine wpList_plain hgd fun K hK => ?_
  obtain ⟨c, w', hr, h1, h2, h3⟩ := run_to_bytes2 s w
  unfold Oper.wp execOp
  simp only [ho, hx, Sem.run_bind, hr, Result.andThen_ok]
  exact hK _ _ (h c w' h1 h2 h3)
end
/-- A snapshot as a value, its slices' bytes and numbers in memory. -/
def SnapIs (w : World) (v : Value) (p : Q.Snp) : Prop :=
  ∃ Am cm Ad cd, v = .agg #[.int .u64 p.index, .int .u64 p.term, .slice Am p.members.length cm, .slice Ad p.data.length cd] ∧ Its w Am p.members.length p.members ∧ p.members.length ≤ cm ∧ Bts w Ad p.data.length p.data ∧ p.data.length ≤ cd
/-- Its rows lie in blocks from B on. -/
def SnFresh (B : Nat) (v : Value) : Prop := ∃ i t Am nm cm Ad nd cd, v = .agg #[i, t, .slice Am nm cm, .slice Ad nd cd] ∧ (∀ ad, Am = some ad → B ≤ ad.block) ∧ (∀ ad, Ad = some ad → B ≤ ad.block) ∧ (Ad = none → cd = 0)
theorem SnFresh.mono {B C : Nat} {v : Value} (h : SnFresh B v) (hc : C ≤ B) : SnFresh C v := by
  obtain ⟨i, t, Am, nm, cm, Ad, nd, cd, e, h1, h2, h3⟩ := h
  exact ⟨i, t, Am, nm, cm, Ad, nd, cd, e, fun ad q => Nat.le_trans hc (h1 ad q), fun ad q => Nat.le_trans hc (h2 ad q), h3⟩
theorem own_from {w : World} {base n n2 c : Nat} {A : Option Addr} {xs : List Value} {e : TypeId} {size : Nat} (h : w.ownsRow base e size (.slice A n c) n2 xs) : ∀ ad, A = some ad → base ≤ ad.block := by
  intro ad q
  subst q
  rcases h.2 with ⟨k, _⟩ | ⟨g, cap, cur, k, hb, _⟩
  · injection k with k _ _
    cases k
  · injection k with k _ _
    injection k with k
    subst k
    exact hb
def GetGives (w : World) (g : Nat) (p : Q.Snp) (s : Q.St) (e : Ending) (w' : World) : Prop := ∃ v, e = .returned v ∧ SnapIs w' v p ∧ SnFresh w.heap.size v ∧ RrLeft w g s w'

theorem IsRr.upto {w w' : World} {g : Nat} {s : Q.St} (h : IsRr w g s) (hk : ∀ k, k ≤ g → w'.heap[k]? = w.heap[k]?) : IsRr w' g s := by
  obtain ⟨A, n, c, hb, hB, hnc, hA, hlo⟩ := h
  refine ⟨A, n, c, (hk g (Nat.le_refl _)).trans hb, hB.keep (fun ad j e hj => World.cell?_of_block (w := w) (hk _ (by rw [block_of_add]; exact Nat.le_of_lt (hlo ad e)))), hnc, hA, hlo⟩

set_option maxRecDepth 100000 in
set_option maxHeartbeats 4000000 in
theorem refget_calls (g : Nat) (s : Q.St) (w : World) (h : IsRr w g s) (hs : s.1.length ≤ 140737488355328) :
    Calls Try.prog 68 #[.pointer (some ⟨g, 0, none⟩)] w (GetGives w g (Q.get 6 s).1 (Q.get 6 s).2) := by
  have hgw : g < w.heap.size := by obtain ⟨A, n, c, hb, _⟩ := h; exact blk_lt hb
  obtain ⟨w1, hw1⟩ : ∃ w1, w1 = (w.alloc (.cells #[.int .u64 0, .int .u64 0, .slice none 0 0, .slice none 0 0] 27)).alloc (.cells #[.int .u64 0, .int .u64 0, .slice none 0 0, .slice none 0 0] 27) := ⟨_, rfl⟩
  have hb1 : Below w.heap.size w w1 := by rw [hw1]; exact al2 _ _ _
  have hr1 : w1.heap[w.heap.size]? = some (.cells #[.int .u64 0, .int .u64 0, .slice none 0 0, .slice none 0 0] 27 (0, 0)) := by rw [hw1]; exact blk_alloc (blk_new w _) _
  have hx1 : w1.heap[w.heap.size + 1]? = some (.cells #[.int .u64 0, .int .u64 0, .slice none 0 0, .slice none 0 0] 27 (0, 0)) := by rw [hw1]; exact blk_new1 w _ _
  have hR1 := h.below hb1
  go_enter Try.func68, Try.ntmps68
  go_upto_region 2 with fail
  rw [← hw1]
  have b0 := blk_cell hx1 0
  have f0 := blk_frozen hx1 0
  obtain ⟨a1, ha1⟩ : ∃ a1, a1 = (Q.num 576460752303423488 s).1 := ⟨_, rfl⟩
  obtain ⟨s1, hs1⟩ : ∃ s1, s1 = (Q.num 576460752303423488 s).2 := ⟨_, rfl⟩
  obtain ⟨a2, ha2⟩ : ∃ a2, a2 = (Q.num 1152921504606846976 s1).1 := ⟨_, rfl⟩
  obtain ⟨s2, hs2⟩ : ∃ s2, s2 = (Q.num 1152921504606846976 s1).2 := ⟨_, rfl⟩
  obtain ⟨n3, hn3⟩ : ∃ n3, n3 = (Q.num 7 s2).1 := ⟨_, rfl⟩
  obtain ⟨s3, hs3⟩ : ∃ s3, s3 = (Q.num 7 s2).2 := ⟨_, rfl⟩
  have hn7 : n3 ≤ 7 := by rw [hn3]; exact Q.num_le _ _
  have hl1 : s1.1.length ≤ 140737488355328 := by rw [hs1]; exact Nat.le_trans (Q.num_len _ _) hs
  have hl2 : s2.1.length ≤ 140737488355328 := by rw [hs2]; exact Nat.le_trans (Q.num_len _ _) hl1
  have hl3 : s3.1.length ≤ 140737488355328 := by rw [hs3]; exact Nat.le_trans (Q.num_len _ _) hl2
  have Hget := Lib.hid (show Q.get 6 s = (⟨a1, a2, (Q.nums 6 n3 s3).1, (Q.text 32768 (Q.nums 6 n3 s3).2).1⟩, (Q.text 32768 (Q.nums 6 n3 s3).2).2) by rw [ha2, hs3, hn3, hs2, ha1, hs1]; rfl)
  have hN1 := rrnum_calls g 576460752303423488 s w1 hR1 hs (by omega)
  rw [← ha1, ← hs1] at hN1
  have HN1 := Lib.hid hN1
  have Hb1 := Lib.hid hb1
  have Hx1 := Lib.hid hx1
  have Hr1 := Lib.hid hr1
  have HN2 := Lib.hid (fun W (hW : IsRr W g s1) => rrnum_calls g 1152921504606846976 s1 W hW hl1 (by omega))
  rw [← ha2, ← hs2] at HN2
  have HN3 := Lib.hid (fun W (hW : IsRr W g s2) => rrnum_calls g 7 s2 W hW hl2 (by omega))
  rw [← hn3, ← hs3] at HN3
  obtain ⟨g2, hg2⟩ : ∃ g2, g2 = w.heap.size + 1 := ⟨_, rfl⟩
  rw [← hg2] at Hx1 b0 f0 ⊢
  have Hg2 := Lib.hid hg2
  clear hw1 hb1 hr1 hx1 hR1 ha1 hs1 ha2 hs2 hn3 hs3 hN1 hg2 h
  go_upto_region 3 with (go_at_call 118; refine HN1.out.mono ?_; rintro e w2 ⟨rfl, hL2⟩; have hx2 := hL2.ext.obj Hx1.out (by have := Hg2.out; simp; omega); clear b0 f0; have b0 := blk_cell hx2 0; have f0 := blk_frozen hx2 0)
  obtain ⟨w3, hw3⟩ : ∃ w3, w3 = w2.setCell ⟨g2, 0, none⟩ (.int .u64 a1) := ⟨_, rfl⟩
  rw [← hw3]
  have hE3 : Ext [g2] w2 w3 := by rw [hw3]; exact (Ext.refl _ _).setCell (Or.inl (by simp)) _
  have hx3 : w3.heap[g2]? = some (.cells #[.int .u64 a1, .int .u64 0, .slice none 0 0, .slice none 0 0] 27 (0, 0)) := by rw [hw3]; exact blk_set hx2 0 _
  have hR3 : IsRr w3 g s1 := hL2.rd.ext hE3 (by have := Hg2.out; simp; omega) (fun q hq => by rw [List.mem_singleton.1 hq]; exact .of_cells hx2 (fun j x => by rcases j with _ | _ | _ | _ | j <;> simp))
  have hG3 : Ext [g] w w3 := ((Ext.of_below (S := [g]) Hb1.out).trans hL2.ext).then_ hE3 (fun i hi => Or.inr (by rw [List.mem_singleton.1 hi]; have := Hg2.out; omega))
  have hr3 := hE3.obj (hL2.ext.obj Hr1.out (by simp; omega)) (by have := Hg2.out; simp; omega)
  clear b0 f0
  have b1 := blk_cell hx3 1
  have f1 := blk_frozen hx3 1
  have Hx3 := Lib.hid hx3
  have HR3 := Lib.hid hR3
  have HG3 := Lib.hid hG3
  have Hr3 := Lib.hid hr3
  clear hw3 hE3 hx2 hL2 hx3 hR3 hG3 hr3
  go_upto_region 4 with (go_at_call 118; refine (HN2.out w3 HR3.out).mono ?_; rintro e w4 ⟨rfl, hL4⟩; have hx4 := hL4.ext.obj Hx3.out (by have := Hg2.out; simp; omega); clear b1 f1; have b1 := blk_cell hx4 1; have f1 := blk_frozen hx4 1)
  obtain ⟨w5, hw5⟩ : ∃ w5, w5 = w4.setCell ⟨g2, 1, none⟩ (.int .u64 a2) := ⟨_, rfl⟩
  rw [← hw5]
  have hE5 : Ext [g2] w4 w5 := by rw [hw5]; exact (Ext.refl _ _).setCell (Or.inl (by simp)) _
  have hx5 : w5.heap[g2]? = some (.cells #[.int .u64 a1, .int .u64 a2, .slice none 0 0, .slice none 0 0] 27 (0, 0)) := by rw [hw5]; exact blk_set hx4 1 _
  have hR5 : IsRr w5 g s2 := hL4.rd.ext hE5 (by have := Hg2.out; simp; omega) (fun q hq => by rw [List.mem_singleton.1 hq]; exact .of_cells hx4 (fun j x => by rcases j with _ | _ | _ | _ | j <;> simp))
  have hG5 : Ext [g] w w5 := (HG3.out.trans hL4.ext).then_ hE5 (fun i hi => Or.inr (by rw [List.mem_singleton.1 hi]; have := Hg2.out; omega))
  have hr5 := hE5.obj (hL4.ext.obj Hr3.out (by simp; omega)) (by have := Hg2.out; simp; omega)
  have hw7 : IntKind.i64.wrap (n3 : Int) = (n3 : Int) := IntWalk.i64_in _ (by omega)
  have Hx5 := Lib.hid hx5
  have HR5 := Lib.hid hR5
  have HG5 := Lib.hid hG5
  have Hr5 := Lib.hid hr5
  clear hw5 hE5 hx4 hL4 hx5 hR5 hG5 hr5 b1 f1
  go_upto_region 5 with (go_at_call 118; refine (HN3.out w5 HR5.out).mono ?_; rintro e w6 ⟨rfl, hL6⟩)
  have Hx6 := Lib.hid (hL6.ext.obj Hx5.out (by have := Hg2.out; simp; omega))
  have Hr6 := Lib.hid (hL6.ext.obj Hr5.out (by simp; omega))
  have HG6 := Lib.hid (HG5.out.trans hL6.ext)
  have HR6 := Lib.hid hL6.rd
  clear hL6
  go_wp2_with fail
  go_loopw [5] (fun i wr => ∃ (k : Nat) (v : Value), i = .int .i64 k ∧ k ≤ n3 ∧ IsRr wr g (Q.nums 6 k s3).2 ∧ wr.heap[g2]? = some (.cells #[.int .u64 a1, .int .u64 a2, v, .slice none 0 0] 27 (0, 0)) ∧ wr.heap[w.heap.size]? = some (.cells #[.int .u64 0, .int .u64 0, .slice none 0 0, .slice none 0 0] 27 (0, 0)) ∧ wr.ownsRow (w.heap.size + 2) 3 1 v k (ivals (Q.nums 6 k s3).1) ∧ Ext [g] w wr ∧ w.heap.size + 2 ≤ wr.heap.size) (fun i _ => n3 - (intOf i).toNat)
  case atStart => exact ⟨0, .slice none 0 0, rfl, Nat.zero_le _, HR6.out, Hx6.out, Hr6.out, World.ownsRow_nil _ _ _ _, HG6.out, by have := blk_lt Hx6.out; have := Hg2.out; omega⟩
  case round =>
    obtain ⟨k, v, rfl, hk, hRk, hbx, hrx, hown, hG, hsz⟩ := hrel
    have HRk := Lib.hid hRk
    have Hbx := Lib.hid hbx
    have Hrx := Lib.hid hrx
    have Hown := Lib.hid hown
    have HG := Lib.hid hG
    have b2 : wr.cell? ⟨g2, 2, none⟩ = some v := blk_cell hbx 2
    clear hRk hbx hrx hown hG
    by_cases hkn : k < n3
    · have hwk : IntKind.i64.wrap ((k : Int) + 1) = (k : Int) + 1 := IntWalk.i64_in _ (by omega)
      have hu6 := Q.num_le 6 (Q.nums 6 k s3).2
      have hN := fun W (hW : IsRr W g (Q.nums 6 k s3).2) => rrnum_calls g 6 (Q.nums 6 k s3).2 W hW (Nat.le_trans (Q.nums_len 6 s3 k) hl3) (by omega)
      obtain ⟨u, hu⟩ : ∃ u, u = (Q.num 6 (Q.nums 6 k s3).2).1 := ⟨_, rfl⟩
      rw [← hu] at hN hu6
      have Hu := Lib.hid hu
      have HN := Lib.hid hN
      clear hu hN
      have hwu : IntKind.i64.wrap (u : Int) = (u : Int) := IntWalk.i64_in _ (by omega)
      go_upto_region 8 with fail
      refine wp_region_last (fun w' => w'.cell? ⟨g2, 2, none⟩ = some v) 8 (by kernel_rfl) b2 (fun hHeld => ?_)
      refine wpAnyL_take 0 (v := ?_) rfl (by kernel_rfl) (fun _ _ _ h => h) (Or.inl ⟨by kernel_rfl, ?_⟩) hHeld ?_
      rotate_left
      · (intro w hSw; (try dsimp only at hSw); go_simp; try with_reducible rfl)
      try simp only [Act.put, List.setIfInBounds_toArray, List.set_cons_zero, List.set_cons_succ]
      refine wpAnyL_take 1 (v := ?_) rfl (by kernel_rfl) (fun _ _ _ h => h) (Or.inl ⟨by kernel_rfl, ?_⟩) hHeld ?_
      rotate_left
      · (intro w hSw; (try dsimp only at hSw); go_simp; try with_reducible rfl)
      try simp only [Act.put, List.setIfInBounds_toArray, List.set_cons_zero, List.set_cons_succ]
      refine wpAnyL_take 2 (v := ?_) rfl (by kernel_rfl) (fun _ _ _ h => h) (Or.inl ⟨by kernel_rfl, ?_⟩) hHeld ?_
      rotate_left
      · (intro w hSw; (try dsimp only at hSw); go_simp; try with_reducible rfl)
      try simp only [Act.put, List.setIfInBounds_toArray, List.set_cons_zero, List.set_cons_succ]
      refine wpAnyL_one 3 (by kernel_rfl) rfl (fun K hK => ?_)
      go_simp
      go_at_call 118
      refine (HN.out _ (HRk.out.below ((Below.refl wr.heap.size wr).drew))).mono ?_
      rintro e w5 ⟨rfl, hL5⟩
      have hE5 : Ext [g] wr w5 := (Ext.of_below ((Below.refl wr.heap.size wr).drew)).trans hL5.ext
      have hx5 := hE5.obj Hbx.out (by have := Hg2.out; simp; omega)
      have hr5 := hE5.obj Hrx.out (by simp; omega)
      have hx5c : w5.cell? ⟨g2, 2, none⟩ = some v := blk_cell hx5 2
      clear hHeld
      have hHeld := hx5c
      refine hK.out _ _ (fun _ => hx5c) ?_
      clear hK K
      try simp only [Act.put, List.setIfInBounds_toArray, List.set_cons_zero, List.set_cons_succ]
      refine wpAnyL_take 4 (v := ?_) rfl (by kernel_rfl) (fun _ _ _ h => h) (Or.inl ⟨by kernel_rfl, ?_⟩) hHeld ?_
      rotate_left
      · (intro w hSw; (try dsimp only at hSw); go_simp; try with_reducible rfl)
      try simp only [Act.put, List.setIfInBounds_toArray, List.set_cons_zero, List.set_cons_succ]
      refine wpAnyL_one 5 (by kernel_rfl) rfl (fun K hK => ?_)
      go_simp
      refine hK.out _ _ (fun _ => ((al1 w5 _).cell (p := ⟨g2, 2, none⟩) (blk_lt hx5)).trans hx5c) ?_
      clear hK K
      try simp only [Act.put, List.setIfInBounds_toArray, List.set_cons_zero, List.set_cons_succ]
      refine wpAnyL_one 6 (by kernel_rfl) rfl (fun K hK => ?_)
      have hown5 : (w5.alloc (.cells #[.int .i64 (u : Int)] 3)).ownsRow (w.heap.size + 2) 3 1 v k (ivals (Q.nums 6 k s3).1) := (Hown.out.kept_ext hE5 (fun q hq => by rw [List.mem_singleton.1 hq]; omega)).alloc _
      refine step_append_int _ (by rfl) _ _ (by rfl) (w.heap.size + 2) v k _ (by rfl) hown5 w5.heap.size 1 u (by rfl) (blk_new w5 _) (by omega) (by have := hE5.size; simp; omega) ?_
      intro v6 w6 hown6 hgr6
      obtain ⟨A6, c6, rfl⟩ := own_shape hown6
      have hE6 : Ext [] (w5.alloc (.cells #[.int .i64 (u : Int)] 3)) w6 ∨ True := Or.inr trivial
      have hne2 : some g2 ≠ v.ownBlock := fun e => by have := (hown5.lt g2 e.symm).1; have := Hg2.out; omega
      have hne0 : some w.heap.size ≠ v.ownBlock := fun e => by have := (hown5.lt w.heap.size e.symm).1; omega
      have hneg : some g ≠ v.ownBlock := fun e => by have := (hown5.lt g e.symm).1; omega
      have hx6 := (hgr6.block g2 (by have := blk_lt hx5; simp; omega) hne2).trans (blk_alloc hx5 _)
      have hr6 := (hgr6.block w.heap.size (by have := blk_lt hr5; simp; omega) hne0).trans (blk_alloc hr5 _)
      have g6 := blk_frozen hx6 2
      have hx6c : w6.cell? ⟨g2, 2, none⟩ = some v := blk_cell hx6 2
      clear hHeld
      have hHeld := hx6c
      refine hK.out _ _ (fun _ => hx6c) ?_
      clear hK K
      try simp only [Act.put, List.setIfInBounds_toArray, List.set_cons_zero, List.set_cons_succ]
      refine wpAnyL_take 7 (v := ?_) rfl (by kernel_rfl) (fun _ _ _ h => h) (Or.inl ⟨by kernel_rfl, ?_⟩) hHeld ?_
      rotate_left
      · (intro w hSw; (try dsimp only at hSw); go_simp; try with_reducible rfl)
      try simp only [Act.put, List.setIfInBounds_toArray, List.set_cons_zero, List.set_cons_succ]
      refine wpAnyL_one 8 (by kernel_rfl) rfl (fun K hK => ?_)
      go_simp
      refine hK.out _ _ (fun h => absurd rfl h) ?_
      clear hK K
      try simp only [Act.put, List.setIfInBounds_toArray, List.set_cons_zero, List.set_cons_succ]
      refine wpAnyL_done (by kernel_rfl) ?_ _
      obtain ⟨w7, hw7⟩ : ∃ w7, w7 = w6.setCell ⟨g2, 2, none⟩ (.slice A6 (k + 1) c6) := ⟨_, rfl⟩
      rw [← hw7]
      have hx7 : w7.heap[g2]? = some (.cells #[.int .u64 a1, .int .u64 a2, .slice A6 (k + 1) c6, .slice none 0 0] 27 (0, 0)) := by rw [hw7]; exact blk_set hx6 2 _
      have hE7 : Ext [g2] w6 w7 := by rw [hw7]; exact (Ext.refl _ _).setCell (Or.inl (by simp)) _
      have hr7 := hE7.obj hr6 (by have := Hg2.out; simp; omega)
      have Hx7 := Lib.hid hx7
      have Hr7 := Lib.hid hr7
      have HE7 := Lib.hid hE7
      have Hx6 := Lib.hid hx6
      clear hw7 hx7 hr7 hE7 hx6 hr6
      have hkeep : ∀ q, q ≤ g → w7.heap[q]? = w5.heap[q]? := fun q hq => by
        have h1 : q < w5.heap.size := Nat.lt_of_le_of_lt hq (by have := hE5.size; omega)
        have h2 : (w5.alloc (.cells #[.int .i64 (u : Int)] 3)).heap[q]? = w5.heap[q]? := Below.heap_alloc _ _ _ h1
        have h3 : w6.heap[q]? = (w5.alloc (.cells #[.int .i64 (u : Int)] 3)).heap[q]? := hgr6.block q (by simp; omega) (fun e => by have := (hown5.lt q e.symm).1; omega)
        have h4 : w7.heap[q]? = w6.heap[q]? := HE7.out.block q (by have := hgr6.size; simp at this; omega) (by have := Hg2.out; simp; omega)
        rw [h4, h3, h2]
      have HR7 := Lib.hid (hL5.rd.upto hkeep)
      have hG7 : Ext [g] w w7 := by
        have e1 : Ext [g] w (w5.alloc (.cells #[.int .i64 (u : Int)] 3)) := (HG.out.trans hE5).alloc _
        have e2 : Ext [g] w w6 := e1.grown hgr6 (fun q hq => Or.inr (by have := (hown5.lt q hq).1; omega))
        exact e2.then_ HE7.out (fun i hi => Or.inr (by rw [List.mem_singleton.1 hi]; have := Hg2.out; omega))
      have HG7 := Lib.hid hG7
      have Hown7 := Lib.hid (hown6.kept_ext HE7.out (fun q hq => by rw [List.mem_singleton.1 hq]; have := Hg2.out; omega))
      have hsz7 : w.heap.size + 2 ≤ w7.heap.size := by have h1 := HE7.out.size; have h2 := hgr6.size; have h3 := hE5.size; simp at h2; omega
      clear hkeep hG7 hown6 hgr6 hown5 hE5 hL5 hx5 hr5 hx5c hx6c g6 hHeld
      go_wp2_with fail
      go_roundw
      case rel => exact ⟨k + 1, .slice A6 (k + 1) c6, by go_num, by omega, HR7.out, Hx7.out, Hr7.out, by rw [Hu.out] at Hown7; exact Hown7.out, HG7.out, hsz7⟩
      case measure => simp [intOf]; omega
    · have hkn2 : k = n3 := by omega
      have htx := rrtext_calls g 32768 (Q.nums 6 k s3).2 wr HRk.out (Nat.le_trans (Q.nums_len 6 s3 k) hl3) (by omega)
      obtain ⟨ms, hms⟩ : ∃ ms, ms = (Q.nums 6 k s3).1 := ⟨_, rfl⟩
      obtain ⟨y, hy⟩ : ∃ y, y = (Q.text 32768 (Q.nums 6 k s3).2).1 := ⟨_, rfl⟩
      obtain ⟨s5, hs5⟩ : ∃ s5, s5 = (Q.text 32768 (Q.nums 6 k s3).2).2 := ⟨_, rfl⟩
      obtain ⟨sy, hsy⟩ : ∃ sy, encStr y = .string sy := ⟨_, rfl⟩
      have hlm : ms.length = k := by rw [hms]; exact Q.nums_count _ _ _
      rw [← hy, ← hs5, hsy] at htx
      have hget : Q.get 6 s = (⟨a1, a2, ms, y⟩, s5) := by rw [Hget.out, hms, hy, hs5, hkn2]
      have Hget2 := Lib.hid hget
      have Htx := Lib.hid htx
      have Hlm := Lib.hid hlm
      have Hsy := Lib.hid hsy
      obtain ⟨Am, cm, rfl, _, hcm⟩ := Its.of_own Hown.out
      rw [← hms] at Hown
      clear htx hms hy hs5 hsy hkn2 hget hlm b2
      go_upto_region 10 with (first
        | (go_at_call 119; refine Htx.out.mono ?_; rintro e w8 ⟨rfl, hL8⟩)
        | (refine wpList_to_bytes2 _ rfl _ rfl sy rfl ?_; intro cd w9 hbt hcd hb9; obtain ⟨Ad, hAd⟩ : ∃ Ad, Ad = (some ⟨w8.heap.size, 0, none⟩ : Option Addr) := ⟨_, rfl⟩; have hAf : Hid ((∀ ad, Ad = some ad → w.heap.size ≤ ad.block) ∧ (Ad = none → cd = 0)) := Lib.hid ⟨fun ad q => (by rw [hAd] at q; cases q; have h1 := HG.out.size; have h2 := hL8.ext.size; show _ ≤ w8.heap.size; omega), fun q => (by rw [hAd] at q; cases q)⟩; rw [← hAd] at hbt; rw [← hAd]; clear hAd; have hE9 := hL8.ext.trans (Ext.of_below (S := [g]) hb9); have hx9 := hE9.obj Hbx.out (by have := Hg2.out; simp; omega); have hr9 := hE9.obj Hrx.out (by simp; omega); have x3 := blk_cell hx9 3; have f3 := blk_frozen hx9 3))
      obtain ⟨w10, hw10⟩ : ∃ w10, w10 = w9.setCell ⟨g2, 3, none⟩ (.slice Ad sy.size cd) := ⟨_, rfl⟩
      rw [← hw10]
      have hE10 : Ext [g2] w9 w10 := by rw [hw10]; exact (Ext.refl _ _).setCell (Or.inl (by simp)) _
      have hx10 : w10.heap[g2]? = some (.cells #[.int .u64 a1, .int .u64 a2, .slice Am k cm, .slice Ad sy.size cd] 27 (0, 0)) := by rw [hw10]; exact blk_set hx9 3 _
      have hr10 := hE10.obj hr9 (by have := Hg2.out; simp; omega)
      clear x3 f3 hw10
      have x0 := blk_cell hx10 0
      have x1 := blk_cell hx10 1
      have x2 := blk_cell hx10 2
      have x3 := blk_cell hx10 3
      have r0 := blk_cell hr10 0
      have r1 := blk_cell hr10 1
      have r2 := blk_cell hr10 2
      have r3 := blk_cell hr10 3
      have z0 := blk_frozen hr10 0
      have z1 := blk_frozen hr10 1
      have z2 := blk_frozen hr10 2
      have z3 := blk_frozen hr10 3
      obtain ⟨w11, hw11⟩ : ∃ w11, w11 = (((w10.setCell ⟨w.heap.size, 0, none⟩ (.int .u64 a1)).setCell ⟨w.heap.size, 1, none⟩ (.int .u64 a2)).setCell ⟨w.heap.size, 2, none⟩ (.slice Am k cm)).setCell ⟨w.heap.size, 3, none⟩ (.slice Ad sy.size cd) := ⟨_, rfl⟩
      have hE11 : Ext [w.heap.size] w10 w11 := by rw [hw11]; exact ((((Ext.refl _ _).setCell (Or.inl (by simp)) _).setCell (Or.inl (by simp)) _).setCell (Or.inl (by simp)) _).setCell (Or.inl (by simp)) _
      have hx11 : w11.heap[w.heap.size]? = some (.cells #[.int .u64 a1, .int .u64 a2, .slice Am k cm, .slice Ad sy.size cd] 27 (0, 0)) := by rw [hw11]; exact blk_set (blk_set (blk_set (blk_set hr10 0 _) 1 _) 2 _) 3 _
      have y0 := blk_cell hx11 0
      have y1 := blk_cell hx11 1
      have y2 := blk_cell hx11 2
      have y3 := blk_cell hx11 3
      have HE10 := Lib.hid hE10
      have HE11 := Lib.hid hE11
      have Hw11 := Lib.hid hw11
      have Hx9 := Lib.hid hx9
      have Hr10 := Lib.hid hr10
      clear hE10 hE11 hw11 hx9 hr9 hx10 hr10 hx11
      go_wp2_with fail
      rw [← Hw11.out]
      have hyl : y.length = sy.size := enc_size Hsy.out
      have hys : sy.data.toList = y := enc_list Hsy.out
      have hnu2 : ∀ q, q ∈ [g2] → NoU8 w9 q := fun q hq => by rw [List.mem_singleton.1 hq]; exact .of_cells Hx9.out (fun j x => by rcases j with _ | _ | _ | _ | j <;> simp)
      have hnu0 : ∀ q, q ∈ [w.heap.size] → NoU8 w10 q := fun q hq => by rw [List.mem_singleton.1 hq]; exact .of_cells Hr10.out (fun j x => by rcases j with _ | _ | _ | _ | j <;> simp)
      have hown11 := ((Hown.out.kept_ext hE9 (fun q hq => by rw [List.mem_singleton.1 hq]; omega)).kept_ext HE10.out (fun q hq => by rw [List.mem_singleton.1 hq]; have := Hg2.out; omega)).kept_ext HE11.out (fun q hq => by rw [List.mem_singleton.1 hq]; omega)
      obtain ⟨A3, c3, e3, hits, _⟩ := Its.of_own hown11
      injection e3 with e4 _ _
      subst e4
      have hrd9 := hL8.rd.below hb9
      have hrd11 := (hrd9.ext HE10.out (by have := Hg2.out; simp; omega) hnu2).ext HE11.out (by simp; omega) hnu0
      have hG11 : Ext [g] w w11 := ((HG.out.trans hE9).then_ HE10.out (fun i hi => Or.inr (by rw [List.mem_singleton.1 hi]; have := Hg2.out; omega))).then_ HE11.out (fun i hi => Or.inr (by rw [List.mem_singleton.1 hi]; exact Nat.le_refl _))
      rw [Hget2.out]
      refine bodyPost_ret (v := .agg #[.int .u64 a1, .int .u64 a2, .slice Am k cm, .slice Ad sy.size cd]) (by simp [results, Try.results68, go_sem, y0, y1, y2, y3]) rfl ⟨_, rfl, ⟨Am, cm, Ad, cd, ?_, ?_, ?_, ?_, ?_⟩, ⟨_, _, Am, k, cm, Ad, sy.size, cd, rfl, fun ad q => Nat.le_trans (by omega) (own_from Hown.out ad q), hAf.out.1, hAf.out.2⟩, hrd11, hG11⟩
      · show _ = Value.agg #[.int .u64 a1, .int .u64 a2, .slice Am ms.length cm, .slice Ad y.length cd]
        rw [Hlm.out, hyl]
      · show Its w11 Am ms.length ms
        rw [Hlm.out]
        exact hits
      · show ms.length ≤ cm
        rw [Hlm.out]
        exact hcm
      · show Bts w11 Ad y.length y
        have h1 := (hbt.ext HE10.out hnu2).ext HE11.out hnu0
        rw [hys, ← hyl] at h1
        exact h1
      · show y.length ≤ cd
        rw [hyl]
        exact hcd
end Go.Proofs.Ytcfgdlpdnpnhmaa
