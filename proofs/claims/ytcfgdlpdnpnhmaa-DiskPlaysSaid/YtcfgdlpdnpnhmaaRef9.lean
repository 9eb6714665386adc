/- Contracts of the document's disk (curfewref23): Append. -/
import Derived.Test.YtcfgdlpdnpnhmaaRef8
set_option linter.unusedVariables false
set_option linter.unusedSimpArgs false
namespace Go.Proofs.Ytcfgdlpdnpnhmaa
open Go.RowKit Go.Maps

theorem below_next {w w1 w2 : World} (h : Below w.heap.size w w1) (k : Below w1.heap.size w1 w2) : Below w.heap.size w w2 := h.trans (k.mono h.size)
theorem run_str_add (x y : ByteArray) (h : x.size + y.size ≤ 9223372036854775807) (W : World) : (binOp .add 9 (.string x) (.string y)).run Try.prog W = .ok (.string (x ++ y)) W := by
  have : ¬ ((x.size : Int) + (y.size : Int) > IntKind.i64.max) := by simp [IntKind.max, IntKind.bits, IntKind.signed]; omega
  simp [binOp, Op.stringOp, Sem.run_pure, IntKind.max, IntKind.bits, IntKind.signed]
  omega
theorem run_str_add2 (x y : ByteArray) (h : x.size + y.size ≤ 9223372036854775807) (W : World) : (Op.stringOp .add x y).run Try.prog W = .ok (.string (x ++ y)) W := by
  simp [Op.stringOp, Sem.run_pure, IntKind.max, IntKind.bits, IntKind.signed]
  omega
theorem enc_append {l : Bs} {x : ByteArray} (h : encStr l = .string x) (y : ByteArray) : encStr (l ++ y.data.toList) = .string (x ++ y) := by
  injection h with h
  subst h
  show Value.string _ = _
  congr 1

set_option maxRecDepth 100000 in
set_option maxHeartbeats 2000000 in
theorem refappend_calls (D : Dsk) (A : Option Addr) (n c : Nat) (s bt : ByteArray) (w : World) (h : RFiles w A n D.files) (hnc : n ≤ c) (hn : n ≤ 1048000) (hs : D.steps < 4611686018427387904) (ha : -1 ≤ D.armed) (ha2 : D.armed ≤ 9223372036854775807)
    (hlen : ∀ f ∈ D.files, f.all.length ≤ 1048576) (hss : s.size ≤ 9223372036854775807) (hbt : bt.size ≤ 140737488355328) (hr0 : 0 ≤ D.room) (hr1 : D.room ≤ 1048576) (hsum : Dsk.sum D.files ≤ 1048576) :
    Calls Try.prog 92 #[refV D A n c, .string s, .string bt] w (RefPair w (D.append s.data.toList bt.data.toList).1 (D.append s.data.toList bt.data.toList).2) := by
  have Hf := Lib.hid (fun w1 (hb : Below w.heap.size w w1) => reffind_calls D A n c s w1 (h.below hb) (by omega))
  have Hfr := Lib.hid (fun w1 (hb : Below w.heap.size w w1) => reffree_calls D A n c w1 (h.below hb) (by omega) hr0 hr1 hsum)
  have Hnm := Lib.hid (fun w1 => refnamed_calls s w1 hss)
  have hbl : bt.data.toList.length = bt.size := by rw [Array.length_toList]; rfl
  have H := Lib.hid h
  have hl := Lib.hid h.1
  unfold refV at Hf Hfr
  unfold refV
  cases hd : D.down
  · rw [hd] at Hf Hfr
    cases hn2 : Dsk.named s.data.toList
    · rw [show D.append s.data.toList bt.data.toList = (D, 2) by unfold Dsk.append; rw [hd, hn2]; simp]
      rw [hn2] at Hnm
      clear h hbl
      go_enter Try.func92, Try.ntmps92
      go_wp2_with (go_at_call 130; refine (Hnm.out _).mono ?_; rintro e w1' ⟨rfl, rfl⟩)
      exact bodyPost_ret (v := .tuple #[.agg #[.int .i64 D.room, .slice A n c, .bool false, .int .i64 D.armed, .int .u64 D.steps], .int .i64 2]) (by simp [results, Try.results92, go_sem]) rfl ⟨A, n, c, by first | rfl | (unfold refV; rw [hd]), keep2 H.out hnc (al2 w _ _)⟩
    · rw [hn2] at Hnm
      cases hfd : Dsk.find D.files s.data.toList with
      | none =>
        rw [place_none hfd] at Hf
        have hap : D.append s.data.toList bt.data.toList = if 128 ≤ D.files.length ∨ D.free < (bt.size : Int) then (D, 30) else ({ D with files := Dsk.put D.files ⟨s.data.toList, [] ++ bt.data.toList, 0⟩ } : Dsk).step := by
          unfold Dsk.append
          rw [hd, hn2, hfd, hbl]
          simp
        rw [hap]
        clear hap hfd h hbl hn2
        by_cases h128 : 128 ≤ n
        · rw [if_pos (Or.inl (by have := hl.out; omega))]
          have g1 : decide ((128 : Int) ≤ (n : Int)) = true := decide_eq_true (by omega)
          go_enter Try.func92, Try.ntmps92
          go_wp2_with (first
            | (go_at_call 130; refine (Hnm.out _).mono ?_; rintro e w1' ⟨rfl, rfl⟩)
            | (go_at_call 126; refine (Hf.out _ (al2 w _ _)).mono ?_; rintro e w2 ⟨rfl, rfl⟩))
          exact bodyPost_ret (v := .tuple #[.agg #[.int .i64 D.room, .slice A n c, .bool false, .int .i64 D.armed, .int .u64 D.steps], .int .i64 30]) (by simp [results, Try.results92, go_sem]) rfl ⟨A, n, c, by first | rfl | (unfold refV; rw [hd]), keep2 H.out hnc (al3 w _ _ _)⟩
        · have g1 : decide ((128 : Int) ≤ (n : Int)) = false := decide_eq_false (by omega)
          by_cases hfre : D.free < (bt.size : Int)
          · rw [if_pos (Or.inr hfre)]
            have g2 : decide (D.free < (bt.size : Int)) = true := decide_eq_true hfre
            go_enter Try.func92, Try.ntmps92
            go_wp2_with (first
              | (go_at_call 130; refine (Hnm.out _).mono ?_; rintro e w1' ⟨rfl, rfl⟩)
              | (go_at_call 126; refine (Hf.out _ (al2 w _ _)).mono ?_; rintro e w2 ⟨rfl, rfl⟩)
              | (go_at_call 34; refine (Hfr.out _ (al3 w _ _ _)).mono ?_; rintro e w2' ⟨rfl, rfl⟩))
            exact bodyPost_ret (v := .tuple #[.agg #[.int .i64 D.room, .slice A n c, .bool false, .int .i64 D.armed, .int .u64 D.steps], .int .i64 30]) (by simp [results, Try.results92, go_sem]) rfl ⟨A, n, c, by first | rfl | (unfold refV; rw [hd]), keep2 H.out hnc (al4 w _ _ _ _)⟩
          · rw [if_neg (by have := hl.out; omega)]
            have g2 : decide (D.free < (bt.size : Int)) = false := decide_eq_false hfre
            obtain ⟨D1, hD1⟩ : ∃ D1 : Dsk, D1 = { D with files := Dsk.put D.files ⟨s.data.toList, [] ++ bt.data.toList, 0⟩ } := ⟨_, rfl⟩
            have hs1 : D1.steps < 4611686018427387904 := by rw [hD1]; exact hs
            have ha1 : -1 ≤ D1.armed := by rw [hD1]; exact ha
            have ha21 : D1.armed ≤ 9223372036854775807 := by rw [hD1]; exact ha2
            have hst1 : ∀ A6 n6 c6 W, Calls Try.prog 127 #[.agg #[.int .i64 D.room, .slice A6 n6 c6, .bool false, .int .i64 D.armed, .int .u64 D.steps]] W (StepGives W D1 A6 n6 c6) := fun A6 n6 c6 W => by
              have := refstep_calls D1 A6 n6 c6 W hs1 ha1 ha21
              unfold refV at this
              rw [show D1.room = D.room by rw [hD1], show D1.down = false by rw [hD1]; exact hd, show D1.armed = D.armed by rw [hD1], show D1.steps = D.steps by rw [hD1]] at this
              exact this
            have Hst1 := Lib.hid hst1
            rw [← hD1]
            have HD1 := Lib.hid hD1
            clear hD1 hfre h128 hst1
            go_enter Try.func92, Try.ntmps92
            go_upto_region 9 with (first
              | (go_at_call 130; refine (Hnm.out _).mono ?_; rintro e w1' ⟨rfl, rfl⟩)
              | (go_at_call 126; refine (Hf.out _ (al2 w _ _)).mono ?_; rintro e w2 ⟨rfl, rfl⟩)
              | (go_at_call 34; refine (Hfr.out _ (al3 w _ _ _)).mono ?_; rintro e w2 ⟨rfl, hw2⟩; have hb2 : Below w.heap.size w w2 := (by rw [hw2]; exact al4 w _ _ _ _); have hx2 : w2.heap[w.heap.size]? = some (.cells #[.int .i64 D.room, .slice A n c, .bool false, .int .i64 D.armed, .int .u64 D.steps] 45 (0, 0)) := (by rw [hw2]; exact blk_alloc (blk_alloc (blk_alloc (blk_new w _) _) _) _); have hr2 : w2.heap[w.heap.size + 1]? = some (.cells #[.int .i64 0, .slice none 0 0, .bool false, .int .i64 0, .int .u64 0] 45 (0, 0)) := (by rw [hw2]; exact blk_alloc (blk_alloc (blk_new1 w _ _) _) _); clear hw2))
            obtain ⟨w3, hw3⟩ : ∃ w3, w3 = w2.alloc (.cells #[.string s, .string ⟨#[]⟩, .int .i64 0] 60) := ⟨_, rfl⟩
            rw [← hw3]
            have hb23 : Below w2.heap.size w2 w3 := by rw [hw3]; exact al1 _ _
            have hb3 : Below w.heap.size w w3 := hb2.trans (hb23.mono hb2.size)
            have hx3 := (hb23.block _ (blk_lt hx2)).trans hx2
            have hr3 := (hb23.block _ (blk_lt hr2)).trans hr2
            have hy3 : w3.heap[w2.heap.size]? = some (.cells #[.string s, .string ⟨#[]⟩, .int .i64 0] 60 (0, 0)) := by rw [hw3]; exact blk_new w2 _
            have hyl : w.heap.size + 2 ≤ w2.heap.size := by have := blk_lt hr2; omega
            have Hb3 := Lib.hid hb3
            have Hx3 := Lib.hid hx3
            have Hr3 := Lib.hid hr3
            have Hy3 := Lib.hid hy3
            have hadd := run_str_add ⟨#[]⟩ bt (by show 0 + bt.size ≤ _; omega)
            clear hw3 hb23 hb2 hx2 hr2 hb3
            have b0 := blk_cell hx3 0
            have b1 := blk_cell hx3 1
            have b2 := blk_cell hx3 2
            have b3 := blk_cell hx3 3
            have b4 := blk_cell hx3 4
            have y0 := blk_cell hy3 0
            have y1 := blk_cell hy3 1
            have y2 := blk_cell hy3 2
            have u0 := blk_frozen hy3 0
            have u1 := blk_frozen hy3 1
            have u2 := blk_frozen hy3 2
            clear hx3 hr3 hy3
            go_upto_region 12 with fail
            obtain ⟨w4, hw4⟩ : ∃ w4, w4 = w3.setCell ⟨w2.heap.size, 1, none⟩ (.string (⟨#[]⟩ ++ bt)) := ⟨_, rfl⟩
            rw [← hw4]
            have hE4 : Ext [w2.heap.size] w3 w4 := by rw [hw4]; exact (Ext.refl _ _).setCell (Or.inl (by simp)) _
            have hy4 : w4.heap[w2.heap.size]? = some (.cells #[.string s, .string (⟨#[]⟩ ++ bt), .int .i64 0] 60 (0, 0)) := by rw [hw4]; exact blk_set Hy3.out 1 _
            have hx4 := hE4.obj Hx3.out (by simp; omega)
            have Hx4 := Lib.hid hx4
            have Hr4 := Lib.hid (hE4.obj Hr3.out (by simp; omega))
            have hb4 : Below w.heap.size w w4 := Hb3.out.trans (hE4.below (by have := Hb3.out.size; omega) (fun q hq => by rw [List.mem_singleton.1 hq]; omega))
            have Hb4 := Lib.hid hb4
            have hwc := refwith_calls D A n c ⟨s.data.toList, ([] : Bs) ++ bt.data.toList, (0 : Nat)⟩ w4 (H.out.below hb4) (by omega)
            have e1 : (Value.agg #[encStr s.data.toList, encStr (([] : Bs) ++ bt.data.toList), .int .i64 ((0 : Nat) : Nat)]) = .agg #[.string s, .string (⟨#[]⟩ ++ bt), .int .i64 0] := by rw [enc_append (l := []) (x := ⟨#[]⟩) rfl]; rfl
            dsimp only at hwc
            rw [e1] at hwc
            unfold refV at hwc
            rw [hd] at hwc
            have Hwc := Lib.hid hwc
            clear hwc e1 hw4 hE4 hb4  b0 b1 b2 b3 b4 y0 y1 y2 u0 u1 u2
            have b0 := blk_cell hx4 0
            have b1 := blk_cell hx4 1
            have b2 := blk_cell hx4 2
            have b3 := blk_cell hx4 3
            have b4 := blk_cell hx4 4
            have y0 := blk_cell hy4 0
            have y1 := blk_cell hy4 1
            have y2 := blk_cell hy4 2
            clear hx4 hy4
            go_upto_region 13 with (first
              | (go_at_call 128; refine Hwc.out.mono ?_; rintro e w5 ⟨A6, n6, c6, rfl, hf6, hc6, hb5⟩; unfold refV)
              | (go_at_call 127; refine (Hst1.out A6 n6 c6 _).mono ?_; rintro e w6 ⟨rfl, hw6⟩; have hb6 : Below w5.heap.size w5 w6 := (by rw [hw6]; exact al2 w5 _ _); clear hw6; have hx6 := (hb6.block _ (Nat.lt_of_lt_of_le (blk_lt Hx4.out) hb5.size)).trans ((hb5.block _ (blk_lt Hx4.out)).trans Hx4.out); have b0 := blk_cell hx6 0; have b1 := blk_cell hx6 1; have b2 := blk_cell hx6 2; have b3 := blk_cell hx6 3; have b4 := blk_cell hx6 4; have g0 := blk_frozen hx6 0; have g1 := blk_frozen hx6 1; have g2 := blk_frozen hx6 2; have g3 := blk_frozen hx6 3; have g4 := blk_frozen hx6 4))
            obtain ⟨w7, hw7, hx7, hE7, hRF7⟩ := res_done (by rfl) hx6 (.int .i64 D1.step.1.room) (.slice A6 n6 c6) (.bool D1.step.1.down) (.int .i64 D1.step.1.armed) (.int .u64 D1.step.1.steps) (fun j x => by rcases j with _ | _ | _ | _ | _ | j <;> simp)
            rw [← hw7]
            have hr5 := (hb5.block _ (blk_lt Hr4.out)).trans Hr4.out
            have hr6 := (hb6.block _ (blk_lt hr5)).trans hr5
            have hr7 := hE7.obj hr6 (by simp)
            have hf7 := hRF7 _ _ _ (hf6.below hb6)
            have hb57 : Below w.heap.size w w6 := below_next (below_next Hb4.out hb5) hb6
            have hb7 : Below w.heap.size w w7 := hb57.trans (hE7.below (by have := hb57.size; omega) (fun q hq => by rw [List.mem_singleton.1 hq]; exact Nat.le_refl _))
            have Hf7 := Lib.hid hf7
            have Hb7 := Lib.hid hb7
            have Hr7 := Lib.hid hr7
            clear hw7 hE7 hRF7 hr5 hr6 hf7 hb57 hb7 hx6 hf6 hb5 hb6 b0 b1 b2 b3 b4 g0 g1 g2 g3 g4 y0 y1 y2
            have b0 := blk_cell hx7 0
            have b1 := blk_cell hx7 1
            have b2 := blk_cell hx7 2
            have b3 := blk_cell hx7 3
            have b4 := blk_cell hx7 4
            have r0 := blk_cell hr7 0
            have r1 := blk_cell hr7 1
            have r2 := blk_cell hr7 2
            have r3 := blk_cell hr7 3
            have r4 := blk_cell hr7 4
            have v0 := blk_frozen hr7 0
            have v1 := blk_frozen hr7 1
            have v2 := blk_frozen hr7 2
            have v3 := blk_frozen hr7 3
            have v4 := blk_frozen hr7 4
            clear hx7 hr7
            cases hst2 : D1.step.2 == 0
            · have hcode := Lib.hid (step_code D1 hst2)
              go_wp2
              obtain ⟨w8, hw8, hx8, hE8, hRF8⟩ := res_done (by rfl) Hr7.out (.int .i64 D1.step.1.room) (.slice A6 n6 c6) (.bool D1.step.1.down) (.int .i64 D1.step.1.armed) (.int .u64 D1.step.1.steps) (fun j x => by rcases j with _ | _ | _ | _ | _ | j <;> simp)
              rw [← hw8]
              have x0 := blk_cell hx8 0
              have x1 := blk_cell hx8 1
              have x2 := blk_cell hx8 2
              have x3 := blk_cell hx8 3
              have x4 := blk_cell hx8 4
              have hb8 : Below w.heap.size w w8 := Hb7.out.trans (hE8.below (by have := Hb7.out.size; omega) (fun q hq => by rw [List.mem_singleton.1 hq]; omega))
              exact bodyPost_ret (v := .tuple #[.agg #[.int .i64 D1.step.1.room, .slice A6 n6 c6, .bool D1.step.1.down, .int .i64 D1.step.1.armed, .int .u64 D1.step.1.steps], .int .i64 50]) (by simp [results, Try.results92, go_sem, x0, x1, x2, x3, x4]) rfl ⟨A6, n6, c6, by rw [hcode.out]; rfl, by rw [step_files, HD1.out]; exact hRF8 _ _ _ Hf7.out, hc6, hb8⟩
            · have hcode := Lib.hid ((by simpa using hst2 : D1.step.2 = 0))
              go_wp2
              obtain ⟨w8, hw8, hx8, hE8, hRF8⟩ := res_done (by rfl) Hr7.out (.int .i64 D1.step.1.room) (.slice A6 n6 c6) (.bool D1.step.1.down) (.int .i64 D1.step.1.armed) (.int .u64 D1.step.1.steps) (fun j x => by rcases j with _ | _ | _ | _ | _ | j <;> simp)
              rw [← hw8]
              have x0 := blk_cell hx8 0
              have x1 := blk_cell hx8 1
              have x2 := blk_cell hx8 2
              have x3 := blk_cell hx8 3
              have x4 := blk_cell hx8 4
              have hb8 : Below w.heap.size w w8 := Hb7.out.trans (hE8.below (by have := Hb7.out.size; omega) (fun q hq => by rw [List.mem_singleton.1 hq]; omega))
              exact bodyPost_ret (v := .tuple #[.agg #[.int .i64 D1.step.1.room, .slice A6 n6 c6, .bool D1.step.1.down, .int .i64 D1.step.1.armed, .int .u64 D1.step.1.steps], .int .i64 0]) (by simp [results, Try.results92, go_sem, x0, x1, x2, x3, x4]) rfl ⟨A6, n6, c6, by rw [hcode.out]; rfl, by rw [step_files, HD1.out]; exact hRF8 _ _ _ Hf7.out, hc6, hb8⟩
      | some f =>
        obtain ⟨i, hi, hp, hfi⟩ := place_some hfd
        rw [hp] at Hf
        have hap : D.append s.data.toList bt.data.toList = if D.free < (bt.size : Int) then (D, 30) else ({ D with files := Dsk.put D.files ⟨s.data.toList, f.all ++ bt.data.toList, f.kept⟩ } : Dsk).step := by
          unfold Dsk.append
          rw [hd, hn2, hfd, hbl]
          simp
        have hfl : f.all.length ≤ 1048576 := hlen f (mem_find hfd).1
        have hii : i < n := by have := h.1; omega
        have Hfi := Lib.hid hfi
        have Hfn := Lib.hid (mem_find hfd).2
        rw [hap]
        clear hap hfd h hbl hn2 hp hfi hlen
        by_cases hfre : D.free < (bt.size : Int)
        · rw [if_pos hfre]
          have g2 : decide (D.free < (bt.size : Int)) = true := decide_eq_true hfre
          go_enter Try.func92, Try.ntmps92
          go_wp2_with (first
            | (go_at_call 130; refine (Hnm.out _).mono ?_; rintro e w1' ⟨rfl, rfl⟩)
            | (go_at_call 126; refine (Hf.out _ (al2 w _ _)).mono ?_; rintro e w2 ⟨rfl, rfl⟩)
            | (go_at_call 34; refine (Hfr.out _ (al3 w _ _ _)).mono ?_; rintro e w2' ⟨rfl, rfl⟩))
          exact bodyPost_ret (v := .tuple #[.agg #[.int .i64 D.room, .slice A n c, .bool false, .int .i64 D.armed, .int .u64 D.steps], .int .i64 30]) (by simp [results, Try.results92, go_sem]) rfl ⟨A, n, c, by first | rfl | (unfold refV; rw [hd]), keep2 H.out hnc (al4 w _ _ _ _)⟩
        · rw [if_neg hfre]
          have g2 : decide (D.free < (bt.size : Int)) = false := decide_eq_false hfre
          obtain ⟨D1, hD1⟩ : ∃ D1 : Dsk, D1 = { D with files := Dsk.put D.files ⟨s.data.toList, f.all ++ bt.data.toList, f.kept⟩ } := ⟨_, rfl⟩
          have hs1 : D1.steps < 4611686018427387904 := by rw [hD1]; exact hs
          have ha1 : -1 ≤ D1.armed := by rw [hD1]; exact ha
          have ha21 : D1.armed ≤ 9223372036854775807 := by rw [hD1]; exact ha2
          have hst1 : ∀ A6 n6 c6 W, Calls Try.prog 127 #[.agg #[.int .i64 D.room, .slice A6 n6 c6, .bool false, .int .i64 D.armed, .int .u64 D.steps]] W (StepGives W D1 A6 n6 c6) := fun A6 n6 c6 W => by
            have := refstep_calls D1 A6 n6 c6 W hs1 ha1 ha21
            unfold refV at this
            rw [show D1.room = D.room by rw [hD1], show D1.down = false by rw [hD1]; exact hd, show D1.armed = D.armed by rw [hD1], show D1.steps = D.steps by rw [hD1]] at this
            exact this
          have Hst1 := Lib.hid hst1
          rw [← hD1]
          have HD1 := Lib.hid hD1
          clear hD1 hfre hst1
          go_enter Try.func92, Try.ntmps92
          go_upto_region 9 with (first
            | (go_at_call 130; refine (Hnm.out _).mono ?_; rintro e w1' ⟨rfl, rfl⟩)
            | (go_at_call 126; refine (Hf.out _ (al2 w _ _)).mono ?_; rintro e w2 ⟨rfl, rfl⟩)
            | (go_at_call 34; refine (Hfr.out _ (al3 w _ _ _)).mono ?_; rintro e w2 ⟨rfl, hw2⟩; have hb2 : Below w.heap.size w w2 := (by rw [hw2]; exact al4 w _ _ _ _); have hx2 : w2.heap[w.heap.size]? = some (.cells #[.int .i64 D.room, .slice A n c, .bool false, .int .i64 D.armed, .int .u64 D.steps] 45 (0, 0)) := (by rw [hw2]; exact blk_alloc (blk_alloc (blk_alloc (blk_new w _) _) _) _); have hr2 : w2.heap[w.heap.size + 1]? = some (.cells #[.int .i64 0, .slice none 0 0, .bool false, .int .i64 0, .int .u64 0] 45 (0, 0)) := (by rw [hw2]; exact blk_alloc (blk_alloc (blk_new1 w _ _) _) _); clear hw2))
          obtain ⟨w3, hw3⟩ : ∃ w3, w3 = w2.alloc (.cells #[.string s, .string ⟨#[]⟩, .int .i64 0] 60) := ⟨_, rfl⟩
          rw [← hw3]
          have hb23 : Below w2.heap.size w2 w3 := by rw [hw3]; exact al1 _ _
          have hb3 : Below w.heap.size w w3 := hb2.trans (hb23.mono hb2.size)
          have hx3 := (hb23.block _ (blk_lt hx2)).trans hx2
          have hr3 := (hb23.block _ (blk_lt hr2)).trans hr2
          have hy3 : w3.heap[w2.heap.size]? = some (.cells #[.string s, .string ⟨#[]⟩, .int .i64 0] 60 (0, 0)) := by rw [hw3]; exact blk_new w2 _
          have hyl : w.heap.size + 2 ≤ w2.heap.size := by have := blk_lt hr2; omega
          have Hb3 := Lib.hid hb3
          have Hx3 := Lib.hid hx3
          have Hr3 := Lib.hid hr3
          have Hy3 := Lib.hid hy3
          obtain ⟨ad, b, o, nm, al, hA, had, q0, q1, q2, e0, e1, z0, z1, en, ea⟩ := (H.out.below hb3).at2 hi
          rw [Hfi.out] at q2 en ea z1
          have hix := fun W => run_file_index ad n c i hii W
          simp only [had] at hix
          rw [← hA] at hix
          have Hen := Lib.hid en
          have Hea := Lib.hid ea
          have hadd := run_str_add2 al bt (by omega)
          clear had hA e0 e1 z0 z1 en ea
          clear hw3 hb23 hb2 hx2 hr2 hb3
          have b0 := blk_cell hx3 0
          have b1 := blk_cell hx3 1
          have b2 := blk_cell hx3 2
          have b3 := blk_cell hx3 3
          have b4 := blk_cell hx3 4
          have y0 := blk_cell hy3 0
          have y1 := blk_cell hy3 1
          have y2 := blk_cell hy3 2
          have u0 := blk_frozen hy3 0
          have u1 := blk_frozen hy3 1
          have u2 := blk_frozen hy3 2
          clear hx3 hr3 hy3
          go_upto_region 12 with fail
          obtain ⟨w4, hw4⟩ : ∃ w4, w4 = (((w3.setCell ⟨w2.heap.size, 0, none⟩ (.string nm)).setCell ⟨w2.heap.size, 1, none⟩ (.string al)).setCell ⟨w2.heap.size, 2, none⟩ (.int .i64 f.kept)).setCell ⟨w2.heap.size, 1, none⟩ (.string (al ++ bt)) := ⟨_, rfl⟩
          rw [← hw4]
          have hE4 : Ext [w2.heap.size] w3 w4 := by rw [hw4]; exact ((((Ext.refl _ _).setCell (Or.inl (by simp)) _).setCell (Or.inl (by simp)) _).setCell (Or.inl (by simp)) _).setCell (Or.inl (by simp)) _
          have hy4 : w4.heap[w2.heap.size]? = some (.cells #[.string nm, .string (al ++ bt), .int .i64 f.kept] 60 (0, 0)) := by rw [hw4]; exact blk_set (blk_set (blk_set (blk_set Hy3.out 0 _) 1 _) 2 _) 1 _
          have hx4 := hE4.obj Hx3.out (by simp; omega)
          have Hx4 := Lib.hid hx4
          have Hr4 := Lib.hid (hE4.obj Hr3.out (by simp; omega))
          have hb4 : Below w.heap.size w w4 := Hb3.out.trans (hE4.below (by have := Hb3.out.size; omega) (fun q hq => by rw [List.mem_singleton.1 hq]; omega))
          have Hb4 := Lib.hid hb4
          have hwc := refwith_calls D A n c ⟨s.data.toList, f.all ++ bt.data.toList, f.kept⟩ w4 (H.out.below hb4) (by omega)
          have e1 : (Value.agg #[encStr s.data.toList, encStr (f.all ++ bt.data.toList), .int .i64 (f.kept : Nat)]) = .agg #[.string nm, .string (al ++ bt), .int .i64 f.kept] := by rw [← Hfn.out, Hen.out, enc_append Hea.out]
          dsimp only at hwc
          rw [e1] at hwc
          unfold refV at hwc
          rw [hd] at hwc
          have Hwc := Lib.hid hwc
          clear hwc e1 hw4 hE4 hb4 q0 q1 q2 hix b0 b1 b2 b3 b4 y0 y1 y2 u0 u1 u2
          have b0 := blk_cell hx4 0
          have b1 := blk_cell hx4 1
          have b2 := blk_cell hx4 2
          have b3 := blk_cell hx4 3
          have b4 := blk_cell hx4 4
          have y0 := blk_cell hy4 0
          have y1 := blk_cell hy4 1
          have y2 := blk_cell hy4 2
          clear hx4 hy4
          go_upto_region 13 with (first
            | (go_at_call 128; refine Hwc.out.mono ?_; rintro e w5 ⟨A6, n6, c6, rfl, hf6, hc6, hb5⟩; unfold refV)
            | (go_at_call 127; refine (Hst1.out A6 n6 c6 _).mono ?_; rintro e w6 ⟨rfl, hw6⟩; have hb6 : Below w5.heap.size w5 w6 := (by rw [hw6]; exact al2 w5 _ _); clear hw6; have hx6 := (hb6.block _ (Nat.lt_of_lt_of_le (blk_lt Hx4.out) hb5.size)).trans ((hb5.block _ (blk_lt Hx4.out)).trans Hx4.out); have b0 := blk_cell hx6 0; have b1 := blk_cell hx6 1; have b2 := blk_cell hx6 2; have b3 := blk_cell hx6 3; have b4 := blk_cell hx6 4; have g0 := blk_frozen hx6 0; have g1 := blk_frozen hx6 1; have g2 := blk_frozen hx6 2; have g3 := blk_frozen hx6 3; have g4 := blk_frozen hx6 4))
          obtain ⟨w7, hw7, hx7, hE7, hRF7⟩ := res_done (by rfl) hx6 (.int .i64 D1.step.1.room) (.slice A6 n6 c6) (.bool D1.step.1.down) (.int .i64 D1.step.1.armed) (.int .u64 D1.step.1.steps) (fun j x => by rcases j with _ | _ | _ | _ | _ | j <;> simp)
          rw [← hw7]
          have hr5 := (hb5.block _ (blk_lt Hr4.out)).trans Hr4.out
          have hr6 := (hb6.block _ (blk_lt hr5)).trans hr5
          have hr7 := hE7.obj hr6 (by simp)
          have hf7 := hRF7 _ _ _ (hf6.below hb6)
          have hb57 : Below w.heap.size w w6 := below_next (below_next Hb4.out hb5) hb6
          have hb7 : Below w.heap.size w w7 := hb57.trans (hE7.below (by have := hb57.size; omega) (fun q hq => by rw [List.mem_singleton.1 hq]; exact Nat.le_refl _))
          have Hf7 := Lib.hid hf7
          have Hb7 := Lib.hid hb7
          have Hr7 := Lib.hid hr7
          clear hw7 hE7 hRF7 hr5 hr6 hf7 hb57 hb7 hx6 hf6 hb5 hb6 b0 b1 b2 b3 b4 g0 g1 g2 g3 g4 y0 y1 y2
          have b0 := blk_cell hx7 0
          have b1 := blk_cell hx7 1
          have b2 := blk_cell hx7 2
          have b3 := blk_cell hx7 3
          have b4 := blk_cell hx7 4
          have r0 := blk_cell hr7 0
          have r1 := blk_cell hr7 1
          have r2 := blk_cell hr7 2
          have r3 := blk_cell hr7 3
          have r4 := blk_cell hr7 4
          have v0 := blk_frozen hr7 0
          have v1 := blk_frozen hr7 1
          have v2 := blk_frozen hr7 2
          have v3 := blk_frozen hr7 3
          have v4 := blk_frozen hr7 4
          clear hx7 hr7
          cases hst2 : D1.step.2 == 0
          · have hcode := Lib.hid (step_code D1 hst2)
            go_wp2
            obtain ⟨w8, hw8, hx8, hE8, hRF8⟩ := res_done (by rfl) Hr7.out (.int .i64 D1.step.1.room) (.slice A6 n6 c6) (.bool D1.step.1.down) (.int .i64 D1.step.1.armed) (.int .u64 D1.step.1.steps) (fun j x => by rcases j with _ | _ | _ | _ | _ | j <;> simp)
            rw [← hw8]
            have x0 := blk_cell hx8 0
            have x1 := blk_cell hx8 1
            have x2 := blk_cell hx8 2
            have x3 := blk_cell hx8 3
            have x4 := blk_cell hx8 4
            have hb8 : Below w.heap.size w w8 := Hb7.out.trans (hE8.below (by have := Hb7.out.size; omega) (fun q hq => by rw [List.mem_singleton.1 hq]; omega))
            exact bodyPost_ret (v := .tuple #[.agg #[.int .i64 D1.step.1.room, .slice A6 n6 c6, .bool D1.step.1.down, .int .i64 D1.step.1.armed, .int .u64 D1.step.1.steps], .int .i64 50]) (by simp [results, Try.results92, go_sem, x0, x1, x2, x3, x4]) rfl ⟨A6, n6, c6, by rw [hcode.out]; rfl, by rw [step_files, HD1.out]; exact hRF8 _ _ _ Hf7.out, hc6, hb8⟩
          · have hcode := Lib.hid ((by simpa using hst2 : D1.step.2 = 0))
            go_wp2
            obtain ⟨w8, hw8, hx8, hE8, hRF8⟩ := res_done (by rfl) Hr7.out (.int .i64 D1.step.1.room) (.slice A6 n6 c6) (.bool D1.step.1.down) (.int .i64 D1.step.1.armed) (.int .u64 D1.step.1.steps) (fun j x => by rcases j with _ | _ | _ | _ | _ | j <;> simp)
            rw [← hw8]
            have x0 := blk_cell hx8 0
            have x1 := blk_cell hx8 1
            have x2 := blk_cell hx8 2
            have x3 := blk_cell hx8 3
            have x4 := blk_cell hx8 4
            have hb8 : Below w.heap.size w w8 := Hb7.out.trans (hE8.below (by have := Hb7.out.size; omega) (fun q hq => by rw [List.mem_singleton.1 hq]; omega))
            exact bodyPost_ret (v := .tuple #[.agg #[.int .i64 D1.step.1.room, .slice A6 n6 c6, .bool D1.step.1.down, .int .i64 D1.step.1.armed, .int .u64 D1.step.1.steps], .int .i64 0]) (by simp [results, Try.results92, go_sem, x0, x1, x2, x3, x4]) rfl ⟨A6, n6, c6, by rw [hcode.out]; rfl, by rw [step_files, HD1.out]; exact hRF8 _ _ _ Hf7.out, hc6, hb8⟩
  · rw [show D.append s.data.toList bt.data.toList = (D, 50) by unfold Dsk.append; rw [hd]; rfl]
    clear h
    go_enter Try.func92, Try.ntmps92
    go_wp2
    exact bodyPost_ret (v := .tuple #[.agg #[.int .i64 D.room, .slice A n c, .bool true, .int .i64 D.armed, .int .u64 D.steps], .int .i64 50]) (by simp [results, Try.results92, go_sem]) rfl ⟨A, n, c, by first | rfl | (unfold refV; rw [hd]), keep2 H.out hnc (al2 w _ _)⟩
end Go.Proofs.Ytcfgdlpdnpnhmaa
