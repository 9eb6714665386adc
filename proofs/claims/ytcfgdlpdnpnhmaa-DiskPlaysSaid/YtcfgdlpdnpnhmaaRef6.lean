/- Contracts of the document's disk (curfewref23): Remove, Cut, Move. -/
import Derived.Test.YtcfgdlpdnpnhmaaRef5
set_option linter.unusedVariables false
set_option linter.unusedSimpArgs false
namespace Go.Proofs.Ytcfgdlpdnpnhmaa
open Go.RowKit Go.Maps

set_option maxRecDepth 100000 in
set_option maxHeartbeats 2000000 in
theorem refremove_calls (D : Dsk) (A : Option Addr) (n c : Nat) (s : ByteArray) (w : World) (h : RFiles w A n D.files) (hnc : n ≤ c) (hn : n ≤ 1048000) (hs : D.steps < 4611686018427387904) (ha : -1 ≤ D.armed) (ha2 : D.armed ≤ 9223372036854775807) :
    Calls Try.prog 84 #[refV D A n c, .string s] w (RefPair w (D.remove s.data.toList).1 (D.remove s.data.toList).2) := by
  have Hf := Lib.hid (fun w1 (hb : Below w.heap.size w w1) => reffind_calls D A n c s w1 (h.below hb) (by omega))
  have Hst := Lib.hid (fun w1 => refstep_calls D A n c w1 hs ha ha2)
  have H := Lib.hid h
  have hl := Lib.hid h.1
  unfold refV at Hf Hst
  unfold refV
  cases hd : D.down
  · rw [hd] at Hf Hst
    cases hfd : Dsk.find D.files s.data.toList with
    | none =>
      rw [show D.remove s.data.toList = (D, 31) by unfold Dsk.remove; rw [hd, hfd]; rfl]
      rw [place_none hfd] at Hf
      clear h hfd
      go_enter Try.func84, Try.ntmps84
      go_wp2_with (go_at_call 126; refine (Hf.out _ (al2 w _ _)).mono ?_; rintro e w2 ⟨rfl, rfl⟩)
      exact bodyPost_ret (v := .tuple #[.agg #[.int .i64 D.room, .slice A n c, .bool false, .int .i64 D.armed, .int .u64 D.steps], .int .i64 31]) (by simp [results, Try.results84, go_sem]) rfl ⟨A, n, c, by first | rfl | (unfold refV; rw [hd]), keep2 H.out hnc (al3 w _ _ _)⟩
    | some f =>
      obtain ⟨i, hi, hp, hfi⟩ := place_some hfd
      rw [hp] at Hf
      cases hst2 : D.step.2 == 0
      · rw [show D.remove s.data.toList = D.step by unfold Dsk.remove; rw [hd, hfd]; simp at hst2; simp [hst2]]
        have h50 := Lib.hid (step_code D hst2)
        clear h hfd hfi hp
        go_enter Try.func84, Try.ntmps84
        go_wp2_with (first
          | (go_at_call 126; refine (Hf.out _ (al2 w _ _)).mono ?_; rintro e w2 ⟨rfl, rfl⟩)
          | (go_at_call 127; refine (Hst.out _).mono ?_; rintro e w3 ⟨rfl, rfl⟩))
        exact bodyPost_ret (v := .tuple #[.agg #[.int .i64 D.step.1.room, .slice A n c, .bool D.step.1.down, .int .i64 D.step.1.armed, .int .u64 D.step.1.steps], .int .i64 50]) (by simp [results, Try.results84, go_sem]) rfl ⟨A, n, c, by unfold refV; rw [h50.out], by rw [step_files]; exact keep2 H.out hnc (al5 w _ _ _ _ _)⟩
      · have h0 : D.step.2 = 0 := by simpa using hst2
        rw [show D.remove s.data.toList = ({ D.step.1 with files := Dsk.del D.step.1.files s.data.toList }, 0) by unfold Dsk.remove; rw [hd, hfd]; simp [h0]]
        clear h hfd h0 hfi hp
        go_enter Try.func84, Try.ntmps84
        go_upto_region 8 with (first
          | (go_at_call 126; refine (Hf.out _ (al2 w _ _)).mono ?_; rintro e w2 ⟨rfl, rfl⟩)
          | (go_at_call 127; refine (Hst.out _).mono ?_; rintro e w3 ⟨rfl, hw3⟩; have hb3 : Below w.heap.size w w3 := (by rw [hw3]; exact al5 w _ _ _ _ _); have hx3 : w3.heap[w.heap.size]? = some (.cells #[.int .i64 D.room, .slice A n c, .bool false, .int .i64 D.armed, .int .u64 D.steps] 45 (0, 0)) := (by rw [hw3]; exact blk_alloc (blk_alloc (blk_alloc (blk_alloc (blk_new w _) _) _) _) _); have hr3 : w3.heap[w.heap.size + 1]? = some (.cells #[.int .i64 0, .slice none 0 0, .bool false, .int .i64 0, .int .u64 0] 45 (0, 0)) := (by rw [hw3]; exact blk_alloc (blk_alloc (blk_alloc (blk_new1 w _ _) _) _) _); clear hw3; have b0 := blk_cell hx3 0; have b1 := blk_cell hx3 1; have b2 := blk_cell hx3 2; have b3 := blk_cell hx3 3; have b4 := blk_cell hx3 4; have g0 := blk_frozen hx3 0; have g1 := blk_frozen hx3 1; have g2 := blk_frozen hx3 2; have g3 := blk_frozen hx3 3; have g4 := blk_frozen hx3 4))
        obtain ⟨w4, hw4, hx4, hE4, hRF4⟩ := res_done (by rfl) hx3 (.int .i64 D.step.1.room) (.slice A n c) (.bool D.step.1.down) (.int .i64 D.step.1.armed) (.int .u64 D.step.1.steps) (fun j x => by rcases j with _ | _ | _ | _ | _ | j <;> simp)
        rw [← hw4]
        have hf4 : RFiles w4 A n D.files := hRF4 _ _ _ (H.out.below hb3)
        have hr4 := hE4.obj hr3 (by simp)
        have hlt := blk_lt hr3
        have hb4 : Below w.heap.size w w4 := hb3.trans (hE4.below (by omega) (fun q hq => by rw [List.mem_singleton.1 hq]; exact Nat.le_refl _))
        have Hf4 := Lib.hid hf4
        have Hx4 := Lib.hid hx4
        have Hr4 := Lib.hid hr4
        have Hb4 := Lib.hid hb4
        clear hw4 hE4 hRF4 hb3 hx3 hr3 b0 b1 b2 b3 b4 g0 g1 g2 g3 g4 hf4 hr4 hb4
        have b0 := blk_cell hx4 0
        have b1 := blk_cell hx4 1
        have b2 := blk_cell hx4 2
        have b3 := blk_cell hx4 3
        have b4 := blk_cell hx4 4
        clear hx4
        have hwc := refwithout_calls D.step.1 A n c s w4 (by rw [step_files]; exact Hf4.out) (by omega)
        unfold refV at hwc
        have Hwc := Lib.hid hwc
        clear hwc
        go_wp2_with (go_at_call 129; refine Hwc.out.mono ?_; rintro e w6 ⟨A6, n6, c6, rfl, hf6, hc6, hb6, _⟩; unfold refV; have hr6 := (hb6.block (w.heap.size + 1) (blk_lt Hr4.out)).trans Hr4.out; have r0 := blk_cell hr6 0; have r1 := blk_cell hr6 1; have r2 := blk_cell hr6 2; have r3 := blk_cell hr6 3; have r4 := blk_cell hr6 4; have g0 := blk_frozen hr6 0; have g1 := blk_frozen hr6 1; have g2 := blk_frozen hr6 2; have g3 := blk_frozen hr6 3; have g4 := blk_frozen hr6 4)
        obtain ⟨w7, hw7, hx7, hE7, hRF7⟩ := res_done (by rfl) hr6 (.int .i64 D.step.1.room) (.slice A6 n6 c6) (.bool D.step.1.down) (.int .i64 D.step.1.armed) (.int .u64 D.step.1.steps) (fun j x => by rcases j with _ | _ | _ | _ | _ | j <;> simp)
        rw [← hw7]
        have x0 := blk_cell hx7 0
        have x1 := blk_cell hx7 1
        have x2 := blk_cell hx7 2
        have x3 := blk_cell hx7 3
        have x4 := blk_cell hx7 4
        have hb64 : Below w.heap.size w w6 := Hb4.out.trans (hb6.mono (by have := Hb4.out.size; omega))
        have hb7 : Below w.heap.size w w7 := hb64.trans (hE7.below (by have := hb64.size; omega) (fun q hq => by rw [List.mem_singleton.1 hq]; omega))
        exact bodyPost_ret (v := .tuple #[.agg #[.int .i64 D.step.1.room, .slice A6 n6 c6, .bool D.step.1.down, .int .i64 D.step.1.armed, .int .u64 D.step.1.steps], .int .i64 0]) (by simp [results, Try.results84, go_sem, x0, x1, x2, x3, x4]) rfl ⟨A6, n6, c6, rfl, hRF7 _ _ _ hf6, hc6, hb7⟩
  · rw [show D.remove s.data.toList = (D, 50) by unfold Dsk.remove; rw [hd]; rfl]
    clear h
    go_enter Try.func84, Try.ntmps84
    go_wp2
    exact bodyPost_ret (v := .tuple #[.agg #[.int .i64 D.room, .slice A n c, .bool true, .int .i64 D.armed, .int .u64 D.steps], .int .i64 50]) (by simp [results, Try.results84, go_sem]) rfl ⟨A, n, c, by first | rfl | (unfold refV; rw [hd]), keep2 H.out hnc (al2 w _ _)⟩
end Go.Proofs.Ytcfgdlpdnpnhmaa
