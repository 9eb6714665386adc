/- Contracts of the document's disk (curfewref23): Move. -/
import Derived.Test.YtcfgdlpdnpnhmaaRef7
set_option linter.unusedVariables false
set_option linter.unusedSimpArgs false
namespace Go.Proofs.Ytcfgdlpdnpnhmaa
open Go.RowKit Go.Maps

set_option maxRecDepth 100000 in
set_option maxHeartbeats 2000000 in
theorem refmove_calls (D : Dsk) (A : Option Addr) (n c : Nat) (s : ByteArray) (t : ByteArray) (w : World) (h : RFiles w A n D.files) (hnc : n ≤ c) (hn : n ≤ 1048000) (hs : D.steps < 4611686018427387904) (ha : -1 ≤ D.armed) (ha2 : D.armed ≤ 9223372036854775807) (ht : t.size ≤ 9223372036854775807) (hlen : ∀ f ∈ D.files, f.all.length ≤ 1048576) :
    Calls Try.prog 85 #[refV D A n c, .string s, .string t] w (RefPair w (D.move s.data.toList t.data.toList).1 (D.move s.data.toList t.data.toList).2) := by
  have Hf := Lib.hid (fun w1 (hb : Below w.heap.size w w1) => reffind_calls D A n c s w1 (h.below hb) (by omega))
  have Hst := Lib.hid (fun w1 => refstep_calls D A n c w1 hs ha ha2)
  have H := Lib.hid h
  have hl := Lib.hid h.1
  unfold refV at Hf Hst
  unfold refV
  have Hnm := Lib.hid (fun w1 => refnamed_calls t w1 ht)
  cases hd : D.down
  · rw [hd] at Hf Hst
    cases hfd : Dsk.find D.files s.data.toList with
    | none =>
      rw [show D.move s.data.toList t.data.toList = (D, 31) by unfold Dsk.move; rw [hd, hfd]; rfl]
      rw [place_none hfd] at Hf
      clear h hfd
      go_enter Try.func85, Try.ntmps85
      go_wp2_with (go_at_call 126; refine (Hf.out _ (al2 w _ _)).mono ?_; rintro e w2 ⟨rfl, rfl⟩)
      exact bodyPost_ret (v := .tuple #[.agg #[.int .i64 D.room, .slice A n c, .bool false, .int .i64 D.armed, .int .u64 D.steps], .int .i64 31]) (by simp [results, Try.results85, go_sem]) rfl ⟨A, n, c, by first | rfl | (unfold refV; rw [hd]), keep2 H.out hnc (al3 w _ _ _)⟩
    | some f =>
      obtain ⟨i, hi, hp, hfi⟩ := place_some hfd
      rw [hp] at Hf
      have hfl : f.all.length ≤ 1048576 := hlen f (mem_find hfd).1
      have hii : i < n := by have := h.1; omega
      have Hfi := Lib.hid hfi
      have Hfd := Lib.hid hfd
      clear h hfd hfi hp hlen
      cases hn2 : Dsk.named t.data.toList
      · rw [show D.move s.data.toList t.data.toList = (D, 2) by unfold Dsk.move; rw [hd, Hfd.out]; simp [hn2]]
        rw [hn2] at Hnm
        go_enter Try.func85, Try.ntmps85
        go_wp2_with (first
          | (go_at_call 126; refine (Hf.out _ (al2 w _ _)).mono ?_; rintro e w2 ⟨rfl, rfl⟩)
          | (go_at_call 130; refine (Hnm.out _).mono ?_; rintro e w2' ⟨rfl, rfl⟩))
        exact bodyPost_ret (v := .tuple #[.agg #[.int .i64 D.room, .slice A n c, .bool false, .int .i64 D.armed, .int .u64 D.steps], .int .i64 2]) (by simp [results, Try.results85, go_sem]) rfl ⟨A, n, c, by first | rfl | (unfold refV; rw [hd]), keep2 H.out hnc (al3 w _ _ _)⟩
      · rw [hn2] at Hnm
        cases hst2 : D.step.2 == 0
        · rw [show D.move s.data.toList t.data.toList = D.step by unfold Dsk.move; rw [hd, Hfd.out]; simp at hst2; simp [hn2, hst2]]
          have h50 := Lib.hid (step_code D hst2)
          go_enter Try.func85, Try.ntmps85
          go_wp2_with (first
            | (go_at_call 126; refine (Hf.out _ (al2 w _ _)).mono ?_; rintro e w2 ⟨rfl, rfl⟩)
            | (go_at_call 130; refine (Hnm.out _).mono ?_; rintro e w2' ⟨rfl, rfl⟩)
            | (go_at_call 127; refine (Hst.out _).mono ?_; rintro e w3 ⟨rfl, rfl⟩))
          exact bodyPost_ret (v := .tuple #[.agg #[.int .i64 D.step.1.room, .slice A n c, .bool D.step.1.down, .int .i64 D.step.1.armed, .int .u64 D.step.1.steps], .int .i64 50]) (by simp [results, Try.results85, go_sem]) rfl ⟨A, n, c, by unfold refV; rw [h50.out], by rw [step_files]; exact keep2 H.out hnc (al5 w _ _ _ _ _)⟩
        · have h0 : D.step.2 = 0 := by simpa using hst2
          rw [show D.move s.data.toList t.data.toList = ({ D.step.1 with files := Dsk.put (Dsk.del D.step.1.files s.data.toList) ⟨t.data.toList, f.all, f.kept⟩ }, 0) by unfold Dsk.move; rw [hd, Hfd.out]; simp [hn2, h0]]
          clear h0 hn2
          go_enter Try.func85, Try.ntmps85
          go_upto_region 11 with (first
            | (go_at_call 126; refine (Hf.out _ (al2 w _ _)).mono ?_; rintro e w2 ⟨rfl, rfl⟩)
            | (go_at_call 130; refine (Hnm.out _).mono ?_; rintro e w2' ⟨rfl, rfl⟩)
            | (go_at_call 127; refine (Hst.out _).mono ?_; rintro e w3 ⟨rfl, hw3⟩; have hb3 : Below w.heap.size w w3 := (by rw [hw3]; exact al5 w _ _ _ _ _); have hx3 : w3.heap[w.heap.size]? = some (.cells #[.int .i64 D.room, .slice A n c, .bool false, .int .i64 D.armed, .int .u64 D.steps] 45 (0, 0)) := (by rw [hw3]; exact blk_alloc (blk_alloc (blk_alloc (blk_alloc (blk_new w _) _) _) _) _); have hr3 : w3.heap[w.heap.size + 1]? = some (.cells #[.int .i64 0, .slice none 0 0, .bool false, .int .i64 0, .int .u64 0] 45 (0, 0)) := (by rw [hw3]; exact blk_alloc (blk_alloc (blk_alloc (blk_new1 w _ _) _) _) _); clear hw3; have b0 := blk_cell hx3 0; have b1 := blk_cell hx3 1; have b2 := blk_cell hx3 2; have b3 := blk_cell hx3 3; have b4 := blk_cell hx3 4; have g0 := blk_frozen hx3 0; have g1 := blk_frozen hx3 1; have g2 := blk_frozen hx3 2; have g3 := blk_frozen hx3 3; have g4 := blk_frozen hx3 4))
          obtain ⟨w4, hw4, hx4, hE4, hRF4⟩ := res_done (by rfl) hx3 (.int .i64 D.step.1.room) (.slice A n c) (.bool D.step.1.down) (.int .i64 D.step.1.armed) (.int .u64 D.step.1.steps) (fun j x => by rcases j with _ | _ | _ | _ | _ | j <;> simp)
          rw [← hw4]
          have hf4 : RFiles w4 A n D.files := hRF4 _ _ _ (H.out.below hb3)
          have hr4 := hE4.obj hr3 (by simp)
          have hlt := blk_lt hr3
          have hb4 : Below w.heap.size w w4 := hb3.trans (hE4.below (by omega) (fun q hq => by rw [List.mem_singleton.1 hq]; exact Nat.le_refl _))
          have Hf4 := Lib.hid hf4
          have Hx4 := Lib.hid hx4
          have Hr4 := Lib.hid hr4
          have Hb4 := Lib.hid hb4
          clear hw4 hE4 hRF4 hb3 hx3 hr3 b0 b1 b2 b3 b4 g0 g1 g2 g3 g4 hf4 hr4 hb4
          have b0 := blk_cell hx4 0
          have b1 := blk_cell hx4 1
          have b2 := blk_cell hx4 2
          have b3 := blk_cell hx4 3
          have b4 := blk_cell hx4 4
          clear hx4
          obtain ⟨ad, b, o, nm, al, hA, had, q0, q1, q2, e0, e1, z0, z1, en, ea⟩ := Hf4.out.at2 hi
          rw [Hfi.out] at q2 ea
          have hix := fun W => run_file_index ad n c i hii W
          simp only [had] at hix
          rw [← hA] at hix
          have Hea := Lib.hid ea
          clear had hA e0 e1 z0 z1 en ea
          go_upto_region 12 with fail
          obtain ⟨w5, hw5⟩ : ∃ w5, w5 = w4.alloc (.cells #[.string nm, .string al, .int .i64 f.kept] 60) := ⟨_, rfl⟩
          rw [← hw5]
          have hb5 : Below w4.heap.size w4 w5 := by rw [hw5]; exact al1 _ _
          have hx5 := (hb5.block _ (blk_lt Hx4.out)).trans Hx4.out
          have hr5 := (hb5.block _ (blk_lt Hr4.out)).trans Hr4.out
          have hy5 : w5.heap[w4.heap.size]? = some (.cells #[.string nm, .string al, .int .i64 f.kept] 60 (0, 0)) := by rw [hw5]; exact blk_new w4 _
          have Hb5 := Lib.hid (Hb4.out.trans (hb5.mono Hb4.out.size))
          have hyl : w.heap.size + 2 ≤ w4.heap.size := by have := blk_lt Hr4.out; omega
          have hwo := refwithout_calls D.step.1 A n c s w5 (by rw [step_files]; exact H.out.below Hb5.out) (by omega)
          unfold refV at hwo
          have Hwo := Lib.hid hwo
          have Hx5 := Lib.hid hx5
          have Hr5 := Lib.hid hr5
          have Hy5 := Lib.hid hy5
          clear hw5 hb5 hwo hr5 hy5 b0 b1 b2 b3 b4 q0 q1 q2 hix
          have b0 := blk_cell hx5 0
          have b1 := blk_cell hx5 1
          have b2 := blk_cell hx5 2
          have b3 := blk_cell hx5 3
          have b4 := blk_cell hx5 4
          clear hx5
          go_upto_region 13 with (go_at_call 129; refine Hwo.out.mono ?_; rintro e w6 ⟨A6, n6, c6, rfl, hf6, hc6, hb6, hfr6⟩; unfold refV; have hx6 := (hb6.block _ (blk_lt Hx5.out)).trans Hx5.out; have b0 := blk_cell hx6 0; have b1 := blk_cell hx6 1; have b2 := blk_cell hx6 2; have b3 := blk_cell hx6 3; have b4 := blk_cell hx6 4; have g0 := blk_frozen hx6 0; have g1 := blk_frozen hx6 1; have g2 := blk_frozen hx6 2; have g3 := blk_frozen hx6 3; have g4 := blk_frozen hx6 4)
          have hr6 := (hb6.block _ (blk_lt Hr5.out)).trans Hr5.out
          have hy6 := (hb6.block _ (blk_lt Hy5.out)).trans Hy5.out
          obtain ⟨w7, hw7, hx7, hE7, hRF7⟩ := res_done (by rfl) hx6 (.int .i64 D.step.1.room) (.slice A6 n6 c6) (.bool D.step.1.down) (.int .i64 D.step.1.armed) (.int .u64 D.step.1.steps) (fun j x => by rcases j with _ | _ | _ | _ | _ | j <;> simp)
          rw [← hw7]
          have hf7 := hRF7 _ _ _ hf6
          have hr7 := hE7.obj hr6 (by simp)
          have hy7 := hE7.obj hy6 (by simp; omega)
          have hb6' : Below w.heap.size w w6 := Hb5.out.trans (hb6.mono Hb5.out.size)
          have hb7 : Below w.heap.size w w7 := hb6'.trans (hE7.below (by have := hb6'.size; omega) (fun q hq => by rw [List.mem_singleton.1 hq]; exact Nat.le_refl _))
          have hn6 : n6 ≤ n := by
            have h1 := hf6.1
            have h2 := del_length D.step.1.files s.data.toList
            rw [step_files] at h2
            have h3 := hl.out
            rw [step_files] at h1
            omega
          have Hf7 := Lib.hid hf7
          have Hx7 := Lib.hid hx7
          have Hr7 := Lib.hid hr7
          have Hy7 := Lib.hid hy7
          have Hb7 := Lib.hid hb7
          clear hw7 hE7 hRF7 hf7 hr7 hb7 hb6' hx6 hr6 hy6 hf6 b0 b1 b2 b3 b4 g0 g1 g2 g3 g4 hb6
          have b0 := blk_cell hx7 0
          have b1 := blk_cell hx7 1
          have b2 := blk_cell hx7 2
          have b3 := blk_cell hx7 3
          have b4 := blk_cell hx7 4
          have y0 := blk_cell hy7 0
          have y1 := blk_cell hy7 1
          have y2 := blk_cell hy7 2
          have u0 := blk_frozen hy7 0
          have u1 := blk_frozen hy7 1
          have u2 := blk_frozen hy7 2
          clear hx7 hy7
          go_upto_region 14 with fail
          obtain ⟨w8, hw8⟩ : ∃ w8, w8 = w7.setCell ⟨w4.heap.size, 0, none⟩ (.string t) := ⟨_, rfl⟩
          rw [← hw8]
          have hE8 : Ext [w4.heap.size] w7 w8 := by rw [hw8]; exact (Ext.refl _ _).setCell (Or.inl (by simp)) _
          have hy8 : w8.heap[w4.heap.size]? = some (.cells #[.string t, .string al, .int .i64 f.kept] 60 (0, 0)) := by rw [hw8]; exact blk_set Hy7.out 0 _
          have hx8 := hE8.obj Hx7.out (by simp; omega)
          have hr8 := Lib.hid (hE8.obj Hr7.out (by simp; omega))
          have hlt5 := blk_lt Hy5.out
          have hf8 := Hf7.out.far hE8 (fun ad he => by have := hfr6 ad he; simp; omega)
          have Hb8 := Lib.hid (Hb7.out.trans (hE8.below (by have := Hb7.out.size; omega) (fun q hq => by rw [List.mem_singleton.1 hq]; omega)))
          have hwc := refwith_calls { D.step.1 with files := Dsk.del D.step.1.files s.data.toList } A6 n6 c6 ⟨t.data.toList, f.all, f.kept⟩ w8 hf8 (by omega)
          have e1 : (Value.agg #[encStr t.data.toList, encStr f.all, .int .i64 (f.kept : Int)]) = .agg #[.string t, .string al, .int .i64 f.kept] := by rw [Hea.out]
          dsimp only at hwc
          rw [e1] at hwc
          unfold refV at hwc
          have Hwc := Lib.hid hwc
          clear hwc e1 hw8 hE8 b0 b1 b2 b3 b4 y0 y1 y2 u0 u1 u2 hf8 hfr6
          have b0 := blk_cell hx8 0
          have b1 := blk_cell hx8 1
          have b2 := blk_cell hx8 2
          have b3 := blk_cell hx8 3
          have b4 := blk_cell hx8 4
          have y0 := blk_cell hy8 0
          have y1 := blk_cell hy8 1
          have y2 := blk_cell hy8 2
          clear hx8 hy8
          go_wp2_with (go_at_call 128; refine Hwc.out.mono ?_; rintro e w9 ⟨A6, n6, c6, rfl, hf6, hc6, hb9⟩; unfold refV; have hr6 := (hb9.block (w.heap.size + 1) (blk_lt hr8.out)).trans hr8.out; have r0 := blk_cell hr6 0; have r1 := blk_cell hr6 1; have r2 := blk_cell hr6 2; have r3 := blk_cell hr6 3; have r4 := blk_cell hr6 4; have g0 := blk_frozen hr6 0; have g1 := blk_frozen hr6 1; have g2 := blk_frozen hr6 2; have g3 := blk_frozen hr6 3; have g4 := blk_frozen hr6 4)
          obtain ⟨w7, hw7, hx7, hE7, hRF7⟩ := res_done (by rfl) hr6 (.int .i64 D.step.1.room) (.slice A6 n6 c6) (.bool D.step.1.down) (.int .i64 D.step.1.armed) (.int .u64 D.step.1.steps) (fun j x => by rcases j with _ | _ | _ | _ | _ | j <;> simp)
          rw [← hw7]
          have x0 := blk_cell hx7 0
          have x1 := blk_cell hx7 1
          have x2 := blk_cell hx7 2
          have x3 := blk_cell hx7 3
          have x4 := blk_cell hx7 4
          have hb64 : Below w.heap.size w w9 := Hb8.out.trans (hb9.mono Hb8.out.size)
          have hb7 : Below w.heap.size w w7 := hb64.trans (hE7.below (by have := hb64.size; omega) (fun q hq => by rw [List.mem_singleton.1 hq]; omega))
          exact bodyPost_ret (v := .tuple #[.agg #[.int .i64 D.step.1.room, .slice A6 n6 c6, .bool D.step.1.down, .int .i64 D.step.1.armed, .int .u64 D.step.1.steps], .int .i64 0]) (by simp [results, Try.results85, go_sem, x0, x1, x2, x3, x4]) rfl ⟨A6, n6, c6, rfl, hRF7 _ _ _ hf6, hc6, hb7⟩
  · rw [show D.move s.data.toList t.data.toList = (D, 50) by unfold Dsk.move; rw [hd]; rfl]
    rw [hd] at Hf
    clear h
    go_enter Try.func85, Try.ntmps85
    go_wp2_with (go_at_call 126; refine (Hf.out _ (al2 w _ _)).mono ?_; rintro e w2 ⟨rfl, rfl⟩)
    exact bodyPost_ret (v := .tuple #[.agg #[.int .i64 D.room, .slice A n c, .bool true, .int .i64 D.armed, .int .u64 D.steps], .int .i64 50]) (by simp [results, Try.results85, go_sem]) rfl ⟨A, n, c, by first | rfl | (unfold refV; rw [hd]), keep2 H.out hnc (al3 w _ _ _)⟩
end Go.Proofs.Ytcfgdlpdnpnhmaa
