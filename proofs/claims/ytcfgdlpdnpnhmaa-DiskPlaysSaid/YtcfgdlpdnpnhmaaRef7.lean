/- Contracts of the document's disk (curfewref23): Cut. -/
import Derived.Test.YtcfgdlpdnpnhmaaRef6
set_option linter.unusedVariables false
set_option linter.unusedSimpArgs false
namespace Go.Proofs.Ytcfgdlpdnpnhmaa
open Go.RowKit Go.Maps

theorem run_str_cut (al : ByteArray) (kn : Nat) (h : kn ≤ al.size) (W : World) : (Instr.slice 9 (.string al) none (some (.int .i64 (kn : Int))) none).run Try.prog W = .ok (.string (al.extract 0 kn)) W := by
  simp [Instr.slice, run_underlying Try.underlying9, Instr.sliceBounds, Instr.sliceBound, Result.andThen, asIntOf, h]
theorem enc_take {l : Bs} {al : ByteArray} (h : encStr l = .string al) (kn : Nat) : encStr (l.take kn) = .string (al.extract 0 kn) := by
  injection h with h
  subst h
  show Value.string _ = _
  congr 1
  apply ByteArray.ext
  apply Array.toList_inj.1
  rw [Lib.extract_data]
  simp

set_option maxRecDepth 100000 in
set_option maxHeartbeats 2000000 in
theorem refcut_calls (D : Dsk) (A : Option Addr) (n c : Nat) (s : ByteArray) (k : Int) (w : World) (h : RFiles w A n D.files) (hnc : n ≤ c) (hn : n ≤ 1048000) (hs : D.steps < 4611686018427387904) (ha : -1 ≤ D.armed) (ha2 : D.armed ≤ 9223372036854775807) (hlen : ∀ f ∈ D.files, f.all.length ≤ 1048576) :
    Calls Try.prog 83 #[refV D A n c, .string s, .int .i64 k] w (RefPair w (D.cut s.data.toList k).1 (D.cut s.data.toList k).2) := by
  have Hf := Lib.hid (fun w1 (hb : Below w.heap.size w w1) => reffind_calls D A n c s w1 (h.below hb) (by omega))
  have Hst := Lib.hid (fun w1 => refstep_calls D A n c w1 hs ha ha2)
  have H := Lib.hid h
  have hl := Lib.hid h.1
  unfold refV at Hf Hst
  unfold refV
  cases hd : D.down
  · rw [hd] at Hf Hst
    cases hfd : Dsk.find D.files s.data.toList with
    | none =>
      rw [show D.cut s.data.toList k = (D, 31) by unfold Dsk.cut; rw [hd, hfd]; rfl]
      rw [place_none hfd] at Hf
      clear h hfd
      go_enter Try.func83, Try.ntmps83
      go_wp2_with (go_at_call 126; refine (Hf.out _ (al2 w _ _)).mono ?_; rintro e w2 ⟨rfl, rfl⟩)
      exact bodyPost_ret (v := .tuple #[.agg #[.int .i64 D.room, .slice A n c, .bool false, .int .i64 D.armed, .int .u64 D.steps], .int .i64 31]) (by simp [results, Try.results83, go_sem]) rfl ⟨A, n, c, by first | rfl | (unfold refV; rw [hd]), keep2 H.out hnc (al3 w _ _ _)⟩
    | some f =>
      obtain ⟨i, hi, hp, hfi⟩ := place_some hfd
      rw [hp] at Hf
      have hfn : f.name = s.data.toList := (mem_find hfd).2
      have hfl : f.all.length ≤ 1048576 := hlen f (mem_find hfd).1
      have hii : i < n := by have := h.1; omega
      have Hfi := Lib.hid hfi
      have Hfn := Lib.hid hfn
      have Hfd := Lib.hid hfd
      clear h hfd hfi hp hfn hlen
      by_cases hk0 : k < 0
      · rw [show D.cut s.data.toList k = (D, 2) by unfold Dsk.cut; rw [hd, Hfd.out]; simp [hk0]]
        have g0 : decide (k < 0) = true := decide_eq_true hk0
        clear hk0
        go_enter Try.func83, Try.ntmps83
        go_upto_region 6 with (go_at_call 126; refine (Hf.out _ (al2 w _ _)).mono ?_; rintro e w2 ⟨rfl, hw2⟩; have hb2 : Below w.heap.size w w2 := (by rw [hw2]; exact al3 w _ _ _); have hx2 : w2.heap[w.heap.size]? = some (.cells #[.int .i64 D.room, .slice A n c, .bool false, .int .i64 D.armed, .int .u64 D.steps] 45 (0, 0)) := (by rw [hw2]; exact blk_alloc (blk_alloc (blk_new w _) _) _); have hr2 : w2.heap[w.heap.size + 1]? = some (.cells #[.int .i64 0, .slice none 0 0, .bool false, .int .i64 0, .int .u64 0] 45 (0, 0)) := (by rw [hw2]; exact blk_alloc (blk_new1 w _ _) _); clear hw2; have b1 := blk_cell hx2 1; have b2 := blk_cell hx2 2)
        obtain ⟨ad, b, o, nm, al, hA, had, q0, q1, q2, e0, e1, z0, z1, en, ea⟩ := (H.out.below hb2).at2 hi
        rw [Hfi.out] at q2 en ea z1 e1
        have hix := fun W => run_file_index ad n c i hii W
        simp only [had] at hix
        rw [← hA] at hix
        have Hen := Lib.hid en
        have Hea := Lib.hid ea
        have Hz1 := Lib.hid z1
        have He1 := Lib.hid e1
        have hal : al.size ≤ 1048576 := by omega
        clear Hfd
        clear had hA e0 e1 z0 z1 en ea
        go_upto_region 7 with fail
        obtain ⟨w3, hw3⟩ : ∃ w3, w3 = w2.alloc (.cells #[.string nm, .string al, .int .i64 f.kept] 60) := ⟨_, rfl⟩
        rw [← hw3]
        have hb23 : Below w2.heap.size w2 w3 := by rw [hw3]; exact al1 _ _
        have hb3 : Below w.heap.size w w3 := hb2.trans (hb23.mono hb2.size)
        have hx3 := (hb23.block _ (blk_lt hx2)).trans hx2
        have hr3 := (hb23.block _ (blk_lt hr2)).trans hr2
        have hy3 : w3.heap[w2.heap.size]? = some (.cells #[.string nm, .string al, .int .i64 f.kept] 60 (0, 0)) := by rw [hw3]; exact blk_new w2 _
        have hyl : w.heap.size + 2 ≤ w2.heap.size := by have := blk_lt hr2; omega
        have Hb3 := Lib.hid hb3
        have Hx3 := Lib.hid hx3
        have Hr3 := Lib.hid hr3
        have Hy3 := Lib.hid hy3
        clear hw3 hb23 b1 b2 hb2 hx2 hr2 q0 q1 q2 hix hb3
        have b0 := blk_cell hx3 0
        have b1 := blk_cell hx3 1
        have b2 := blk_cell hx3 2
        have b3 := blk_cell hx3 3
        have b4 := blk_cell hx3 4
        have r0 := blk_cell hr3 0
        have r1 := blk_cell hr3 1
        have r2 := blk_cell hr3 2
        have r3 := blk_cell hr3 3
        have r4 := blk_cell hr3 4
        have v0 := blk_frozen hr3 0
        have v1 := blk_frozen hr3 1
        have v2 := blk_frozen hr3 2
        have v3 := blk_frozen hr3 3
        have v4 := blk_frozen hr3 4
        have y0 := blk_cell hy3 0
        have y1 := blk_cell hy3 1
        have y2 := blk_cell hy3 2
        clear hx3 hr3 hy3
        go_wp2
        obtain ⟨w7, hw7, hx7, hE7, hRF7⟩ := res_done (by rfl) Hr3.out (.int .i64 D.room) (.slice A n c) (.bool false) (.int .i64 D.armed) (.int .u64 D.steps) (fun j x => by rcases j with _ | _ | _ | _ | _ | j <;> simp)
        rw [← hw7]
        have x0 := blk_cell hx7 0
        have x1 := blk_cell hx7 1
        have x2 := blk_cell hx7 2
        have x3 := blk_cell hx7 3
        have x4 := blk_cell hx7 4
        have hb64 : Below w.heap.size w w3 := Hb3.out
        have hb7 : Below w.heap.size w w7 := hb64.trans (hE7.below (by have := hb64.size; omega) (fun q hq => by rw [List.mem_singleton.1 hq]; omega))
        exact bodyPost_ret (v := .tuple #[.agg #[.int .i64 D.room, .slice A n c, .bool false, .int .i64 D.armed, .int .u64 D.steps], .int .i64 2]) (by simp [results, Try.results83, go_sem, x0, x1, x2, x3, x4]) rfl ⟨A, n, c, (by first | rfl | (unfold refV; rw [hd])), (by first | exact hRF7 _ _ _ (H.out.below Hb3.out) | exact hRF7 _ _ _ (by rw [step_files]; exact H.out.below Hb3.out)), hnc, hb7⟩
      · have g0 : decide (k < 0) = false := decide_eq_false hk0
        by_cases hk1 : (f.all.length : Int) < k
        · rw [show D.cut s.data.toList k = (D, 2) by unfold Dsk.cut; rw [hd, Hfd.out]; simp [hk1]]
          go_enter Try.func83, Try.ntmps83
          go_upto_region 6 with (go_at_call 126; refine (Hf.out _ (al2 w _ _)).mono ?_; rintro e w2 ⟨rfl, hw2⟩; have hb2 : Below w.heap.size w w2 := (by rw [hw2]; exact al3 w _ _ _); have hx2 : w2.heap[w.heap.size]? = some (.cells #[.int .i64 D.room, .slice A n c, .bool false, .int .i64 D.armed, .int .u64 D.steps] 45 (0, 0)) := (by rw [hw2]; exact blk_alloc (blk_alloc (blk_new w _) _) _); have hr2 : w2.heap[w.heap.size + 1]? = some (.cells #[.int .i64 0, .slice none 0 0, .bool false, .int .i64 0, .int .u64 0] 45 (0, 0)) := (by rw [hw2]; exact blk_alloc (blk_new1 w _ _) _); clear hw2; have b1 := blk_cell hx2 1; have b2 := blk_cell hx2 2)
          obtain ⟨ad, b, o, nm, al, hA, had, q0, q1, q2, e0, e1, z0, z1, en, ea⟩ := (H.out.below hb2).at2 hi
          rw [Hfi.out] at q2 en ea z1 e1
          have hix := fun W => run_file_index ad n c i hii W
          simp only [had] at hix
          rw [← hA] at hix
          have Hen := Lib.hid en
          have Hea := Lib.hid ea
          have Hz1 := Lib.hid z1
          have He1 := Lib.hid e1
          have hal : al.size ≤ 1048576 := by omega
          have gbig : decide ((al.size : Int) < k) = true := decide_eq_true (by omega)
          clear had hA e0 e1 z0 z1 en ea
          go_upto_region 7 with fail
          obtain ⟨w3, hw3⟩ : ∃ w3, w3 = w2.alloc (.cells #[.string nm, .string al, .int .i64 f.kept] 60) := ⟨_, rfl⟩
          rw [← hw3]
          have hb23 : Below w2.heap.size w2 w3 := by rw [hw3]; exact al1 _ _
          have hb3 : Below w.heap.size w w3 := hb2.trans (hb23.mono hb2.size)
          have hx3 := (hb23.block _ (blk_lt hx2)).trans hx2
          have hr3 := (hb23.block _ (blk_lt hr2)).trans hr2
          have hy3 : w3.heap[w2.heap.size]? = some (.cells #[.string nm, .string al, .int .i64 f.kept] 60 (0, 0)) := by rw [hw3]; exact blk_new w2 _
          have hyl : w.heap.size + 2 ≤ w2.heap.size := by have := blk_lt hr2; omega
          have Hb3 := Lib.hid hb3
          have Hx3 := Lib.hid hx3
          have Hr3 := Lib.hid hr3
          have Hy3 := Lib.hid hy3
          clear hw3 hb23 b1 b2 hb2 hx2 hr2 q0 q1 q2 hix hb3
          have b0 := blk_cell hx3 0
          have b1 := blk_cell hx3 1
          have b2 := blk_cell hx3 2
          have b3 := blk_cell hx3 3
          have b4 := blk_cell hx3 4
          have r0 := blk_cell hr3 0
          have r1 := blk_cell hr3 1
          have r2 := blk_cell hr3 2
          have r3 := blk_cell hr3 3
          have r4 := blk_cell hr3 4
          have v0 := blk_frozen hr3 0
          have v1 := blk_frozen hr3 1
          have v2 := blk_frozen hr3 2
          have v3 := blk_frozen hr3 3
          have v4 := blk_frozen hr3 4
          have y0 := blk_cell hy3 0
          have y1 := blk_cell hy3 1
          have y2 := blk_cell hy3 2
          clear hx3 hr3 hy3
          go_wp2
          obtain ⟨w7, hw7, hx7, hE7, hRF7⟩ := res_done (by rfl) Hr3.out (.int .i64 D.room) (.slice A n c) (.bool false) (.int .i64 D.armed) (.int .u64 D.steps) (fun j x => by rcases j with _ | _ | _ | _ | _ | j <;> simp)
          rw [← hw7]
          have x0 := blk_cell hx7 0
          have x1 := blk_cell hx7 1
          have x2 := blk_cell hx7 2
          have x3 := blk_cell hx7 3
          have x4 := blk_cell hx7 4
          have hb64 : Below w.heap.size w w3 := Hb3.out
          have hb7 : Below w.heap.size w w7 := hb64.trans (hE7.below (by have := hb64.size; omega) (fun q hq => by rw [List.mem_singleton.1 hq]; omega))
          exact bodyPost_ret (v := .tuple #[.agg #[.int .i64 D.room, .slice A n c, .bool false, .int .i64 D.armed, .int .u64 D.steps], .int .i64 2]) (by simp [results, Try.results83, go_sem, x0, x1, x2, x3, x4]) rfl ⟨A, n, c, (by first | rfl | (unfold refV; rw [hd])), (by first | exact hRF7 _ _ _ (H.out.below Hb3.out) | exact hRF7 _ _ _ (by rw [step_files]; exact H.out.below Hb3.out)), hnc, hb7⟩
        · cases hst2 : D.step.2 == 0
          · rw [show D.cut s.data.toList k = D.step by unfold Dsk.cut; rw [hd, Hfd.out]; simp at hst2; simp [hk0, hk1, hst2]]
            have h50 := Lib.hid (step_code D hst2)
            go_enter Try.func83, Try.ntmps83
            go_upto_region 6 with (go_at_call 126; refine (Hf.out _ (al2 w _ _)).mono ?_; rintro e w2 ⟨rfl, hw2⟩; have hb2 : Below w.heap.size w w2 := (by rw [hw2]; exact al3 w _ _ _); have hx2 : w2.heap[w.heap.size]? = some (.cells #[.int .i64 D.room, .slice A n c, .bool false, .int .i64 D.armed, .int .u64 D.steps] 45 (0, 0)) := (by rw [hw2]; exact blk_alloc (blk_alloc (blk_new w _) _) _); have hr2 : w2.heap[w.heap.size + 1]? = some (.cells #[.int .i64 0, .slice none 0 0, .bool false, .int .i64 0, .int .u64 0] 45 (0, 0)) := (by rw [hw2]; exact blk_alloc (blk_new1 w _ _) _); clear hw2; have b1 := blk_cell hx2 1; have b2 := blk_cell hx2 2)
            obtain ⟨ad, b, o, nm, al, hA, had, q0, q1, q2, e0, e1, z0, z1, en, ea⟩ := (H.out.below hb2).at2 hi
            rw [Hfi.out] at q2 en ea z1 e1
            have hix := fun W => run_file_index ad n c i hii W
            simp only [had] at hix
            rw [← hA] at hix
            have Hen := Lib.hid en
            have Hea := Lib.hid ea
            have Hz1 := Lib.hid z1
            have He1 := Lib.hid e1
            have hal : al.size ≤ 1048576 := by omega
            have gbig : decide ((al.size : Int) < k) = false := decide_eq_false (by omega)
            clear had hA e0 e1 z0 z1 en ea
            go_upto_region 7 with fail
            obtain ⟨w3, hw3⟩ : ∃ w3, w3 = w2.alloc (.cells #[.string nm, .string al, .int .i64 f.kept] 60) := ⟨_, rfl⟩
            rw [← hw3]
            have hb23 : Below w2.heap.size w2 w3 := by rw [hw3]; exact al1 _ _
            have hb3 : Below w.heap.size w w3 := hb2.trans (hb23.mono hb2.size)
            have hx3 := (hb23.block _ (blk_lt hx2)).trans hx2
            have hr3 := (hb23.block _ (blk_lt hr2)).trans hr2
            have hy3 : w3.heap[w2.heap.size]? = some (.cells #[.string nm, .string al, .int .i64 f.kept] 60 (0, 0)) := by rw [hw3]; exact blk_new w2 _
            have hyl : w.heap.size + 2 ≤ w2.heap.size := by have := blk_lt hr2; omega
            have Hb3 := Lib.hid hb3
            have Hx3 := Lib.hid hx3
            have Hr3 := Lib.hid hr3
            have Hy3 := Lib.hid hy3
            clear hw3 hb23 b1 b2 hb2 hx2 hr2 q0 q1 q2 hix hb3
            have b0 := blk_cell hx3 0
            have b1 := blk_cell hx3 1
            have b2 := blk_cell hx3 2
            have b3 := blk_cell hx3 3
            have b4 := blk_cell hx3 4
            have r0 := blk_cell hr3 0
            have r1 := blk_cell hr3 1
            have r2 := blk_cell hr3 2
            have r3 := blk_cell hr3 3
            have r4 := blk_cell hr3 4
            have v0 := blk_frozen hr3 0
            have v1 := blk_frozen hr3 1
            have v2 := blk_frozen hr3 2
            have v3 := blk_frozen hr3 3
            have v4 := blk_frozen hr3 4
            have y0 := blk_cell hy3 0
            have y1 := blk_cell hy3 1
            have y2 := blk_cell hy3 2
            clear hx3 hr3 hy3
            go_upto_region 11 with (go_at_call 127; refine (Hst.out _).mono ?_; rintro e w4 ⟨rfl, hw4⟩; have hb34 : Below w3.heap.size w3 w4 := (by rw [hw4]; exact al2 w3 _ _); clear hw4; have hx4 := (hb34.block _ (blk_lt Hx3.out)).trans Hx3.out; have b0 := blk_cell hx4 0; have b1 := blk_cell hx4 1; have b2 := blk_cell hx4 2; have b3 := blk_cell hx4 3; have b4 := blk_cell hx4 4; have g0 := blk_frozen hx4 0; have g1 := blk_frozen hx4 1; have g2 := blk_frozen hx4 2; have g3 := blk_frozen hx4 3; have g4 := blk_frozen hx4 4)
            have hr4 := (hb34.block _ (blk_lt Hr3.out)).trans Hr3.out
            have hy4 := (hb34.block _ (blk_lt Hy3.out)).trans Hy3.out
            obtain ⟨w5, hw5, hx5, hE5, hRF5⟩ := res_done (by rfl) hx4 (.int .i64 D.step.1.room) (.slice A n c) (.bool D.step.1.down) (.int .i64 D.step.1.armed) (.int .u64 D.step.1.steps) (fun j x => by rcases j with _ | _ | _ | _ | _ | j <;> simp)
            rw [← hw5]
            have hb4 : Below w.heap.size w w4 := Hb3.out.trans (hb34.mono Hb3.out.size)
            have hf5 : RFiles w5 A n D.files := hRF5 _ _ _ (H.out.below hb4)
            have hr5 := hE5.obj hr4 (by simp)
            have hy5 := hE5.obj hy4 (by simp; omega)
            have hlt := blk_lt hr4
            have hb5 : Below w.heap.size w w5 := hb4.trans (hE5.below (by omega) (fun q hq => by rw [List.mem_singleton.1 hq]; exact Nat.le_refl _))
            have Hf5 := Lib.hid hf5
            have Hr5 := Lib.hid hr5
            have Hy5 := Lib.hid hy5
            have Hx5 := Lib.hid hx5
            have Hb5 := Lib.hid hb5
            clear hw5 hE5 hRF5 hb34 hx4 hr4 hy4 b0 b1 b2 b3 b4 g0 g1 g2 g3 g4 r0 r1 r2 r3 r4 v0 v1 v2 v3 v4 y0 y1 y2 hf5 hb4 hb5
            have b0 := blk_cell hx5 0
            have b1 := blk_cell hx5 1
            have b2 := blk_cell hx5 2
            have b3 := blk_cell hx5 3
            have b4 := blk_cell hx5 4
            have r0 := blk_cell hr5 0
            have r1 := blk_cell hr5 1
            have r2 := blk_cell hr5 2
            have r3 := blk_cell hr5 3
            have r4 := blk_cell hr5 4
            have v0 := blk_frozen hr5 0
            have v1 := blk_frozen hr5 1
            have v2 := blk_frozen hr5 2
            have v3 := blk_frozen hr5 3
            have v4 := blk_frozen hr5 4
            clear hx5 hr5 hy5
            go_wp2
            obtain ⟨w7, hw7, hx7, hE7, hRF7⟩ := res_done (by rfl) Hr5.out (.int .i64 D.step.1.room) (.slice A n c) (.bool D.step.1.down) (.int .i64 D.step.1.armed) (.int .u64 D.step.1.steps) (fun j x => by rcases j with _ | _ | _ | _ | _ | j <;> simp)
            rw [← hw7]
            have x0 := blk_cell hx7 0
            have x1 := blk_cell hx7 1
            have x2 := blk_cell hx7 2
            have x3 := blk_cell hx7 3
            have x4 := blk_cell hx7 4
            have hb64 : Below w.heap.size w w5 := Hb5.out
            have hb7 : Below w.heap.size w w7 := hb64.trans (hE7.below (by have := hb64.size; omega) (fun q hq => by rw [List.mem_singleton.1 hq]; omega))
            exact bodyPost_ret (v := .tuple #[.agg #[.int .i64 D.step.1.room, .slice A n c, .bool D.step.1.down, .int .i64 D.step.1.armed, .int .u64 D.step.1.steps], .int .i64 50]) (by simp [results, Try.results83, go_sem, x0, x1, x2, x3, x4]) rfl ⟨A, n, c, (by unfold refV; rw [h50.out]), (by first | exact hRF7 _ _ _ (Hf5.out) | exact hRF7 _ _ _ (by rw [step_files]; exact Hf5.out)), hnc, hb7⟩
          · have h0 : D.step.2 = 0 := by simpa using hst2
            obtain ⟨kn, rfl⟩ : ∃ kn : Nat, k = kn := ⟨k.toNat, by omega⟩
            rw [show D.cut s.data.toList (kn : Int) = ({ D.step.1 with files := Dsk.put D.step.1.files ⟨s.data.toList, f.all.take kn, min f.kept kn⟩ }, 0) by unfold Dsk.cut; rw [hd, Hfd.out]; simp [hk1, h0]]
            go_enter Try.func83, Try.ntmps83
            go_upto_region 6 with (go_at_call 126; refine (Hf.out _ (al2 w _ _)).mono ?_; rintro e w2 ⟨rfl, hw2⟩; have hb2 : Below w.heap.size w w2 := (by rw [hw2]; exact al3 w _ _ _); have hx2 : w2.heap[w.heap.size]? = some (.cells #[.int .i64 D.room, .slice A n c, .bool false, .int .i64 D.armed, .int .u64 D.steps] 45 (0, 0)) := (by rw [hw2]; exact blk_alloc (blk_alloc (blk_new w _) _) _); have hr2 : w2.heap[w.heap.size + 1]? = some (.cells #[.int .i64 0, .slice none 0 0, .bool false, .int .i64 0, .int .u64 0] 45 (0, 0)) := (by rw [hw2]; exact blk_alloc (blk_new1 w _ _) _); clear hw2; have b1 := blk_cell hx2 1; have b2 := blk_cell hx2 2)
            obtain ⟨ad, b, o, nm, al, hA, had, q0, q1, q2, e0, e1, z0, z1, en, ea⟩ := (H.out.below hb2).at2 hi
            rw [Hfi.out] at q2 en ea z1 e1
            have hix := fun W => run_file_index ad n c i hii W
            simp only [had] at hix
            rw [← hA] at hix
            have Hen := Lib.hid en
            have Hea := Lib.hid ea
            have Hz1 := Lib.hid z1
            have He1 := Lib.hid e1
            have hal : al.size ≤ 1048576 := by omega
            have gbig : decide (al.size < kn) = false := decide_eq_false (by omega)
            have hsc := run_str_cut al kn (by omega)
            clear had hA e0 e1 z0 z1 en ea
            go_upto_region 7 with fail
            obtain ⟨w3, hw3⟩ : ∃ w3, w3 = w2.alloc (.cells #[.string nm, .string al, .int .i64 f.kept] 60) := ⟨_, rfl⟩
            rw [← hw3]
            have hb23 : Below w2.heap.size w2 w3 := by rw [hw3]; exact al1 _ _
            have hb3 : Below w.heap.size w w3 := hb2.trans (hb23.mono hb2.size)
            have hx3 := (hb23.block _ (blk_lt hx2)).trans hx2
            have hr3 := (hb23.block _ (blk_lt hr2)).trans hr2
            have hy3 : w3.heap[w2.heap.size]? = some (.cells #[.string nm, .string al, .int .i64 f.kept] 60 (0, 0)) := by rw [hw3]; exact blk_new w2 _
            have hyl : w.heap.size + 2 ≤ w2.heap.size := by have := blk_lt hr2; omega
            have Hb3 := Lib.hid hb3
            have Hx3 := Lib.hid hx3
            have Hr3 := Lib.hid hr3
            have Hy3 := Lib.hid hy3
            clear hw3 hb23 b1 b2 hb2 hx2 hr2 q0 q1 q2 hix hb3
            have b0 := blk_cell hx3 0
            have b1 := blk_cell hx3 1
            have b2 := blk_cell hx3 2
            have b3 := blk_cell hx3 3
            have b4 := blk_cell hx3 4
            have r0 := blk_cell hr3 0
            have r1 := blk_cell hr3 1
            have r2 := blk_cell hr3 2
            have r3 := blk_cell hr3 3
            have r4 := blk_cell hr3 4
            have v0 := blk_frozen hr3 0
            have v1 := blk_frozen hr3 1
            have v2 := blk_frozen hr3 2
            have v3 := blk_frozen hr3 3
            have v4 := blk_frozen hr3 4
            have y0 := blk_cell hy3 0
            have y1 := blk_cell hy3 1
            have y2 := blk_cell hy3 2
            clear hx3 hr3 hy3
            go_upto_region 12 with (go_at_call 127; refine (Hst.out _).mono ?_; rintro e w4 ⟨rfl, hw4⟩; have hb34 : Below w3.heap.size w3 w4 := (by rw [hw4]; exact al2 w3 _ _); clear hw4; have hx4 := (hb34.block _ (blk_lt Hx3.out)).trans Hx3.out; have b0 := blk_cell hx4 0; have b1 := blk_cell hx4 1; have b2 := blk_cell hx4 2; have b3 := blk_cell hx4 3; have b4 := blk_cell hx4 4; have g0 := blk_frozen hx4 0; have g1 := blk_frozen hx4 1; have g2 := blk_frozen hx4 2; have g3 := blk_frozen hx4 3; have g4 := blk_frozen hx4 4)
            have hr4 := (hb34.block _ (blk_lt Hr3.out)).trans Hr3.out
            have hy4 := (hb34.block _ (blk_lt Hy3.out)).trans Hy3.out
            obtain ⟨w5, hw5, hx5, hE5, hRF5⟩ := res_done (by rfl) hx4 (.int .i64 D.step.1.room) (.slice A n c) (.bool D.step.1.down) (.int .i64 D.step.1.armed) (.int .u64 D.step.1.steps) (fun j x => by rcases j with _ | _ | _ | _ | _ | j <;> simp)
            rw [← hw5]
            have hb4 : Below w.heap.size w w4 := Hb3.out.trans (hb34.mono Hb3.out.size)
            have hf5 : RFiles w5 A n D.files := hRF5 _ _ _ (H.out.below hb4)
            have hr5 := hE5.obj hr4 (by simp)
            have hy5 := hE5.obj hy4 (by simp; omega)
            have hlt := blk_lt hr4
            have hb5 : Below w.heap.size w w5 := hb4.trans (hE5.below (by omega) (fun q hq => by rw [List.mem_singleton.1 hq]; exact Nat.le_refl _))
            have Hf5 := Lib.hid hf5
            have Hr5 := Lib.hid hr5
            have Hy5 := Lib.hid hy5
            have Hx5 := Lib.hid hx5
            have Hb5 := Lib.hid hb5
            clear hw5 hE5 hRF5 hb34 hx4 hr4 hy4 b0 b1 b2 b3 b4 g0 g1 g2 g3 g4 r0 r1 r2 r3 r4 v0 v1 v2 v3 v4 y0 y1 y2 hf5 hb4 hb5
            have b0 := blk_cell hx5 0
            have b1 := blk_cell hx5 1
            have b2 := blk_cell hx5 2
            have b3 := blk_cell hx5 3
            have b4 := blk_cell hx5 4
            have y0 := blk_cell hy5 0
            have y1 := blk_cell hy5 1
            have y2 := blk_cell hy5 2
            have u0 := blk_frozen hy5 0
            have u1 := blk_frozen hy5 1
            have u2 := blk_frozen hy5 2
            clear hx5 hr5 hy5
            by_cases hk2 : kn < f.kept
            · have gk : decide (kn < f.kept) = true := decide_eq_true hk2
              have hmin := Lib.hid (show min f.kept kn = kn by omega)
              clear hk2
              go_upto_region 15 with fail
              obtain ⟨w6, hw6⟩ : ∃ w6, w6 = (w5.setCell ⟨w2.heap.size, 1, none⟩ (.string (al.extract 0 kn))).setCell ⟨w2.heap.size, 2, none⟩ (.int .i64 (kn : Int)) := ⟨_, rfl⟩
              rw [← hw6]
              have hE6 : Ext [w2.heap.size] w5 w6 := by rw [hw6]; exact ((Ext.refl _ _).setCell (Or.inl (by simp)) _).setCell (Or.inl (by simp)) _
              have hy6 : w6.heap[w2.heap.size]? = some (.cells #[.string nm, .string (al.extract 0 kn), .int .i64 (kn : Nat)] 60 (0, 0)) := by rw [hw6]; exact blk_set (blk_set Hy5.out 1 _) 2 _
              have hx6 := hE6.obj Hx5.out (by simp; omega)
              have hr6' := Lib.hid (hE6.obj Hr5.out (by simp; omega))
              have hb6' : Below w.heap.size w w6 := Hb5.out.trans (hE6.below (by have := Hb5.out.size; omega) (fun q hq => by rw [List.mem_singleton.1 hq]; omega))
              have Hb6' := Lib.hid hb6'
              have hwc := refwith_calls D.step.1 A n c ⟨s.data.toList, f.all.take kn, min f.kept kn⟩ w6 (by rw [step_files]; exact H.out.below hb6') (by omega)
              have e1 : (Value.agg #[encStr s.data.toList, encStr (f.all.take kn), .int .i64 ((min f.kept kn : Nat) : Int)]) = .agg #[.string nm, .string (al.extract 0 kn), .int .i64 (kn : Nat)] := by rw [← Hfn.out, Hen.out, enc_take Hea.out, hmin.out]
              dsimp only at hwc
              rw [e1] at hwc
              unfold refV at hwc
              have Hwc := Lib.hid hwc
              clear hwc e1 hw6 hE6 hb6' b0 b1 b2 b3 b4 y0 y1 y2 u0 u1 u2
              have b0 := blk_cell hx6 0
              have b1 := blk_cell hx6 1
              have b2 := blk_cell hx6 2
              have b3 := blk_cell hx6 3
              have b4 := blk_cell hx6 4
              have y0 := blk_cell hy6 0
              have y1 := blk_cell hy6 1
              have y2 := blk_cell hy6 2
              clear hx6 hy6
              go_wp2_with (go_at_call 128; refine Hwc.out.mono ?_; rintro e w8 ⟨A6, n6, c6, rfl, hf6, hc6, hb8⟩; unfold refV; have hr6 := (hb8.block (w.heap.size + 1) (blk_lt hr6'.out)).trans hr6'.out; have r0 := blk_cell hr6 0; have r1 := blk_cell hr6 1; have r2 := blk_cell hr6 2; have r3 := blk_cell hr6 3; have r4 := blk_cell hr6 4; have g0 := blk_frozen hr6 0; have g1 := blk_frozen hr6 1; have g2 := blk_frozen hr6 2; have g3 := blk_frozen hr6 3; have g4 := blk_frozen hr6 4)
              obtain ⟨w7, hw7, hx7, hE7, hRF7⟩ := res_done (by rfl) hr6 (.int .i64 D.step.1.room) (.slice A6 n6 c6) (.bool D.step.1.down) (.int .i64 D.step.1.armed) (.int .u64 D.step.1.steps) (fun j x => by rcases j with _ | _ | _ | _ | _ | j <;> simp)
              rw [← hw7]
              have x0 := blk_cell hx7 0
              have x1 := blk_cell hx7 1
              have x2 := blk_cell hx7 2
              have x3 := blk_cell hx7 3
              have x4 := blk_cell hx7 4
              have hb64 : Below w.heap.size w w8 := Hb6'.out.trans (hb8.mono Hb6'.out.size)
              have hb7 : Below w.heap.size w w7 := hb64.trans (hE7.below (by have := hb64.size; omega) (fun q hq => by rw [List.mem_singleton.1 hq]; omega))
              exact bodyPost_ret (v := .tuple #[.agg #[.int .i64 D.step.1.room, .slice A6 n6 c6, .bool D.step.1.down, .int .i64 D.step.1.armed, .int .u64 D.step.1.steps], .int .i64 0]) (by simp [results, Try.results83, go_sem, x0, x1, x2, x3, x4]) rfl ⟨A6, n6, c6, rfl, hRF7 _ _ _ hf6, hc6, hb7⟩
            · have gk : decide (kn < f.kept) = false := decide_eq_false hk2
              have hmin := Lib.hid (show min f.kept kn = f.kept by omega)
              clear hk2
              go_upto_region 15 with fail
              obtain ⟨w6, hw6⟩ : ∃ w6, w6 = w5.setCell ⟨w2.heap.size, 1, none⟩ (.string (al.extract 0 kn)) := ⟨_, rfl⟩
              rw [← hw6]
              have hE6 : Ext [w2.heap.size] w5 w6 := by rw [hw6]; exact (Ext.refl _ _).setCell (Or.inl (by simp)) _
              have hy6 : w6.heap[w2.heap.size]? = some (.cells #[.string nm, .string (al.extract 0 kn), .int .i64 (f.kept : Nat)] 60 (0, 0)) := by rw [hw6]; exact blk_set Hy5.out 1 _
              have hx6 := hE6.obj Hx5.out (by simp; omega)
              have hr6' := Lib.hid (hE6.obj Hr5.out (by simp; omega))
              have hb6' : Below w.heap.size w w6 := Hb5.out.trans (hE6.below (by have := Hb5.out.size; omega) (fun q hq => by rw [List.mem_singleton.1 hq]; omega))
              have Hb6' := Lib.hid hb6'
              have hwc := refwith_calls D.step.1 A n c ⟨s.data.toList, f.all.take kn, min f.kept kn⟩ w6 (by rw [step_files]; exact H.out.below hb6') (by omega)
              have e1 : (Value.agg #[encStr s.data.toList, encStr (f.all.take kn), .int .i64 ((min f.kept kn : Nat) : Int)]) = .agg #[.string nm, .string (al.extract 0 kn), .int .i64 (f.kept : Nat)] := by rw [← Hfn.out, Hen.out, enc_take Hea.out, hmin.out]
              dsimp only at hwc
              rw [e1] at hwc
              unfold refV at hwc
              have Hwc := Lib.hid hwc
              clear hwc e1 hw6 hE6 hb6' b0 b1 b2 b3 b4 y0 y1 y2 u0 u1 u2
              have b0 := blk_cell hx6 0
              have b1 := blk_cell hx6 1
              have b2 := blk_cell hx6 2
              have b3 := blk_cell hx6 3
              have b4 := blk_cell hx6 4
              have y0 := blk_cell hy6 0
              have y1 := blk_cell hy6 1
              have y2 := blk_cell hy6 2
              clear hx6 hy6
              go_wp2_with (go_at_call 128; refine Hwc.out.mono ?_; rintro e w8 ⟨A6, n6, c6, rfl, hf6, hc6, hb8⟩; unfold refV; have hr6 := (hb8.block (w.heap.size + 1) (blk_lt hr6'.out)).trans hr6'.out; have r0 := blk_cell hr6 0; have r1 := blk_cell hr6 1; have r2 := blk_cell hr6 2; have r3 := blk_cell hr6 3; have r4 := blk_cell hr6 4; have g0 := blk_frozen hr6 0; have g1 := blk_frozen hr6 1; have g2 := blk_frozen hr6 2; have g3 := blk_frozen hr6 3; have g4 := blk_frozen hr6 4)
              obtain ⟨w7, hw7, hx7, hE7, hRF7⟩ := res_done (by rfl) hr6 (.int .i64 D.step.1.room) (.slice A6 n6 c6) (.bool D.step.1.down) (.int .i64 D.step.1.armed) (.int .u64 D.step.1.steps) (fun j x => by rcases j with _ | _ | _ | _ | _ | j <;> simp)
              rw [← hw7]
              have x0 := blk_cell hx7 0
              have x1 := blk_cell hx7 1
              have x2 := blk_cell hx7 2
              have x3 := blk_cell hx7 3
              have x4 := blk_cell hx7 4
              have hb64 : Below w.heap.size w w8 := Hb6'.out.trans (hb8.mono Hb6'.out.size)
              have hb7 : Below w.heap.size w w7 := hb64.trans (hE7.below (by have := hb64.size; omega) (fun q hq => by rw [List.mem_singleton.1 hq]; omega))
              exact bodyPost_ret (v := .tuple #[.agg #[.int .i64 D.step.1.room, .slice A6 n6 c6, .bool D.step.1.down, .int .i64 D.step.1.armed, .int .u64 D.step.1.steps], .int .i64 0]) (by simp [results, Try.results83, go_sem, x0, x1, x2, x3, x4]) rfl ⟨A6, n6, c6, rfl, hRF7 _ _ _ hf6, hc6, hb7⟩
  · rw [show D.cut s.data.toList k = (D, 50) by unfold Dsk.cut; rw [hd]; rfl]
    rw [hd] at Hf
    clear h
    go_enter Try.func83, Try.ntmps83
    go_wp2_with (go_at_call 126; refine (Hf.out _ (al2 w _ _)).mono ?_; rintro e w2 ⟨rfl, rfl⟩)
    exact bodyPost_ret (v := .tuple #[.agg #[.int .i64 D.room, .slice A n c, .bool true, .int .i64 D.armed, .int .u64 D.steps], .int .i64 50]) (by simp [results, Try.results83, go_sem]) rfl ⟨A, n, c, by first | rfl | (unfold refV; rw [hd]), keep2 H.out hnc (al3 w _ _ _)⟩
end Go.Proofs.Ytcfgdlpdnpnhmaa
