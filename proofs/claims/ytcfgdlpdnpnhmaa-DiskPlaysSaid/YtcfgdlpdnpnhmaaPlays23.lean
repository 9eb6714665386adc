/- The walk of curfewlaw23.DiskPlays: it answers true. Written by wip/gen_plays23.py. -/
import Derived.Test.YtcfgdlpdnpnhmaaLaw23
set_option linter.unusedVariables false
set_option linter.unusedSimpArgs false
namespace Go.Proofs.Ytcfgdlpdnpnhmaa
open Go.RowKit Go.Maps

set_option maxRecDepth 100000 in
set_option maxHeartbeats 8000000 in
theorem plays23_calls (room : Int) (A0 : Option Addr) (n0 c0 : Nat) (l : List Opp) (w : World) (ho : Ops w A0 n0 l) (hn0 : n0 ≤ 140737488355328) (hr0 : -9223372036854775808 ≤ room) (hr1 : room ≤ 9223372036854775807) :
    Calls Try.prog 5 #[.int .i64 room, .slice A0 n0 c0] w fun e w' => e = .returned (.bool true) ∧ Below w.heap.size w w' := by
  have Hlight := Lib.hid (light_calls A0 n0 c0 l w ho hn0)
  have Hlv := Lib.hid lives23_calls
  have HO := Lib.hid ho
  have hl := Lib.hid ho.1
  clear ho
  by_cases hroom : 0 ≤ room ∧ room ≤ 1048576
  · obtain ⟨h0, h1⟩ := hroom
    cases hlb : lightB l
    · rw [hlb] at Hlight
      clear hlb
      go_enter Try.func5, Try.ntmps5
      go_wp2_with (first
        | (go_at_call 26; refine Hlight.out.mono ?_; rintro e w1 ⟨rfl, hb1⟩)
        | (go_at_call 27; refine (new_no _ _ (by omega)).mono ?_; rintro e w2 ⟨rfl, rfl⟩)
        | (go_at_call 28; refine (Hlv.out _).mono ?_; rintro e w3 ⟨rfl, hb3⟩))
      go_ret
      exact ⟨rfl, below_next hb1 hb3⟩
    · have Hlt := Lib.hid hlb
      rw [hlb] at Hlight
      clear hlb
      go_enter Try.func5, Try.ntmps5
      go_upto_region 4 with (first
        | (go_at_call 26; refine Hlight.out.mono ?_; rintro e w1 ⟨rfl, hb1⟩)
        | (go_at_call 27; refine (new_calls room _ h0 h1).mono ?_; rintro e w2 ⟨rfl, hD2, hb2⟩)
        | (go_at_call 29; refine (refnew_calls room _).mono ?_; rintro e w3 ⟨A3, n3, c3, rfl, hf3, hc3, hb3⟩; unfold refV))
      obtain ⟨w4, hw4⟩ : ∃ w4, w4 = w3.alloc (.cells (refCells (Dsk.new room) A3 n3 c3) 45) := ⟨_, rfl⟩
      unfold refCells at hw4
      rw [← hw4]
      have hP : PlAt w w4 (w1.heap.size + 2) w1.heap.size (w1.heap.size + 1) w3.heap.size (Dsk.new room) A3 n3 c3 := by
        have hb34 : Below w3.heap.size w3 w4 := by rw [hw4]; exact al1 _ _
        have hb4 := below_next (below_next (below_next hb1 hb2) hb3) hb34
        have z1 := hb1.size
        have z2 := hb2.size
        have z3 := hb3.size
        exact ⟨(hD2.below hb3).below hb34, by rw [hw4]; exact blk_new _ _, hf3.below hb34, hc3, new_ok room h0 h1, hb4, by omega, by omega, by omega, by omega⟩
      obtain ⟨d, hd⟩ : ∃ d, d = w1.heap.size + 2 := ⟨_, rfl⟩
      obtain ⟨mp, hmp⟩ : ∃ mp, mp = w1.heap.size := ⟨_, rfl⟩
      obtain ⟨mt, hmt⟩ : ∃ mt, mt = w1.heap.size + 1 := ⟨_, rfl⟩
      obtain ⟨g, hg⟩ : ∃ g, g = w3.heap.size := ⟨_, rfl⟩
      rw [← hd, ← hmt, ← hmp, ← hg] at hP
      rw [← hd, ← hg]
      have HP := Lib.hid hP
      clear hw4 hP hd hmp hmt hg hb1 hb2 hb3 hD2 hf3 hc3
      go_wp2_with fail
      go_loopw [39] (fun i wr => ∃ (k : Nat) (A : Option Addr) (n c : Nat), i = .int .i64 k ∧ k ≤ n0 ∧ PlAt w wr d mp mt g ((Dsk.new room).run (l.take k)) A n c ∧ ((Dsk.new room).run (l.take k)).steps ≤ k) (fun i _ => n0 - (intOf i).toNat)
      case atStart => exact ⟨0, A3, n3, c3, rfl, Nat.zero_le _, HP.out, Nat.le_refl _⟩
      case round =>
        obtain ⟨k, A, n, c, rfl, hk, hP, hst⟩ := hrel
        clear HP
        have h200 := lightB_len Hlt.out
        rw [hl.out] at h200
        by_cases hlt : k < n0
        · have hkl : k < l.length := by rw [hl.out]; exact hlt
          have hrun := Dsk.run_succ (Dsk.new room) l k hkl
          obtain ⟨D, hD⟩ : ∃ D, D = (Dsk.new room).run (l.take k) := ⟨_, rfl⟩
          rw [← hD] at hP hst hrun
          obtain ⟨ad, b, o, At, m, ct, rfl, had, q0, q1, q2, q3, q4, q5, hT, hmc, _⟩ := (HO.out.below hP.below).at hlt
          have hfit := HO.out.fits hlt
          have hlo := lightB_at Hlt.out hkl
          obtain ⟨op, hop⟩ : ∃ op, op = l.getD k default := ⟨_, rfl⟩
          rw [← hop] at q0 q1 q2 q3 q4 hT hrun hfit hlo
          have hix := fun W => run_op_index ad n0 c0 k hlt W
          simp only [had] at hix
          have hwk : IntKind.i64.wrap ((k : Int) + 1) = (k : Int) + 1 := IntWalk.i64_in _ (by omega)
          have Hrun := Lib.hid hrun
          have HP := Lib.hid hP
          have HT := Lib.hid hT
          have Hfit := Lib.hid hfit
          have Hlo := Lib.hid hlo
          clear hD hop had hP hT hrun hfit hlo
          go_upto_region 7 with fail
          obtain ⟨w5, hw5⟩ : ∃ w5, w5 = wr.alloc (.cells #[.int .i64 op.kind, .int .i64 op.n, .string op.name, .string op.to_, .string op.text, .slice At m ct] 49) := ⟨_, rfl⟩
          rw [← hw5]
          have hb5 : Below wr.heap.size wr w5 := by rw [hw5]; exact al1 _ _
          have hx5 : w5.heap[wr.heap.size]? = some (.cells #[.int .i64 op.kind, .int .i64 op.n, .string op.name, .string op.to_, .string op.text, .slice At m ct] 49 (0, 0)) := by rw [hw5]; exact blk_new _ _
          have hP5 := HP.out.later hb5
          have hdo := do_calls d mp mt D A n c op At m ct w5 hP5.disk hP5.files hP5.cap hP5.ok (by omega) (HT.out.below hb5) hmc Hlo.out
          obtain ⟨b0, b1, b2, b3, b4⟩ := hP5.cells
          have x0 := blk_cell hx5 0
          have x1 := blk_cell hx5 1
          have x2 := blk_cell hx5 2
          have x3 := blk_cell hx5 3
          have x4 := blk_cell hx5 4
          have x5 := blk_cell hx5 5
          obtain ⟨D', hD'⟩ : ∃ D', D' = D.doOp op := ⟨_, rfl⟩
          rw [← hD'] at hdo
          have hok' : D'.Ok := by rw [hD']; exact HP.out.ok.doOp op Hfit.out
          have hst' : D'.steps ≤ k + 1 := by have := Dsk.steps_doOp D op; rw [hD']; omega
          have HD' := Lib.hid hD'
          have HP5 := Lib.hid hP5
          have Hdo := Lib.hid hdo
          have Hok' := Lib.hid hok'
          unfold refV at Hdo
          clear hw5 hx5 hb5 hP5 hdo hD' hok' q0 q1 q2 q3 q4 q5 hix
          go_upto_region 8 with (go_at_call 30; refine Hdo.out.mono ?_; rintro e w6 ⟨A', n', c', rfl, hf6, hc6, hL6⟩; unfold refV)
          obtain ⟨w7, hw7⟩ : ∃ w7, w7 = w6.alloc (.cells #[.int .i64 D'.room, .slice A' n' c', .bool D'.down, .int .i64 D'.armed, .int .u64 D'.steps] 45) := ⟨_, rfl⟩
          rw [← hw7]
          have hb7 : Below w6.heap.size w6 w7 := by rw [hw7]; exact al1 _ _
          have hx7 : w7.heap[w6.heap.size]? = some (.cells #[.int .i64 D'.room, .slice A' n' c', .bool D'.down, .int .i64 D'.armed, .int .u64 D'.steps] 45 (0, 0)) := by rw [hw7]; exact blk_new _ _
          clear b0 b1 b2 b3 b4 x0 x1 x2 x3 x4 x5
          obtain ⟨⟨b0, b1, b2, b3, b4⟩, ⟨g0, g1, g2, g3, g4⟩⟩ := HP5.out.open_ hL6 hb7
          have x0 := blk_cell hx7 0
          have x1 := blk_cell hx7 1
          have x2 := blk_cell hx7 2
          have x3 := blk_cell hx7 3
          have x4 := blk_cell hx7 4
          obtain ⟨w8, hw8, hP8, _⟩ := HP5.out.turn hL6 hf6 hc6 Hok'.out hb7
          have HP8 := Lib.hid hP8
          have Hw8 := Lib.hid hw8
          clear hw7 hb7 hx7 hf6 hc6 hL6 hP8 hw8
          go_upto_region 9 with fail
          rw [← Hw8.out]
          clear b0 b1 b2 b3 b4 g0 g1 g2 g3 g4 x0 x1 x2 x3 x4 Hw8
          go_upto_region 10 with (go_at_call 31; refine (names_calls d mp mt D' _ HP8.out.disk HP8.out.ok.rising (by have := HP8.out.ok.many; omega)).mono ?_; rintro e wq ⟨v9, rfl, hrow9, hb9⟩; obtain ⟨An, cn, rfl, hS⟩ := Strs.of_own hrow9; rw [List.length_map] at hS)
          have hP := HP8.out.later hb9
          have hnn := hP.n_le.1
          have hn128 := hP.n_le.2
          rw [← hnn]
          rw [← hnn] at hS
          have HS := Lib.hid hS
          have Hnn := Lib.hid hnn
          have Hq := Lib.hid (Below.refl wq.heap.size wq)
          clear hrow9 hb9 hS hnn HP8
          refine wp_region_last (fun w' => w'.cell? ⟨g, 0, none⟩ = some (.int .i64 D'.room) ∧ w'.cell? ⟨g, 1, none⟩ = some (.slice A' n' c') ∧ w'.cell? ⟨g, 2, none⟩ = some (.bool D'.down) ∧ w'.cell? ⟨g, 3, none⟩ = some (.int .i64 D'.armed) ∧ w'.cell? ⟨g, 4, none⟩ = some (.int .u64 D'.steps)) 38 (by kernel_rfl) hP.cells (fun hHeld => ?_)
          replace hP := hP.later ((Below.refl wq.heap.size wq).drew)
          clear Hq
          have Hq := Lib.hid ((Below.refl wq.heap.size wq).drew)
          refine wpAnyL_take 0 (v := ?_) rfl (by kernel_rfl) (fun _ _ _ h => h) (Or.inl ⟨by kernel_rfl, ?_⟩) hHeld ?_
          rotate_left
          · (intro w hSw; (try dsimp only at hSw); go_simp; try with_reducible rfl)
          try simp only [Act.put, List.setIfInBounds_toArray, List.set_cons_zero, List.set_cons_succ]
          refine wpAnyL_take 1 (v := ?_) rfl (by kernel_rfl) (fun _ _ _ h => h) (Or.inl ⟨by kernel_rfl, ?_⟩) hHeld ?_
          rotate_left
          · (intro w hSw; (try dsimp only at hSw); go_simp; try with_reducible rfl)
          try simp only [Act.put, List.setIfInBounds_toArray, List.set_cons_zero, List.set_cons_succ]
          refine wpAnyL_take 2 (v := ?_) rfl (by kernel_rfl) (fun _ _ _ h => h) (Or.inl ⟨by kernel_rfl, ?_⟩) hHeld ?_
          rotate_left
          · (intro w hSw; (try dsimp only at hSw); go_simp; try with_reducible rfl)
          try simp only [Act.put, List.setIfInBounds_toArray, List.set_cons_zero, List.set_cons_succ]
          refine wpAnyL_take 3 (v := ?_) rfl (by kernel_rfl) (fun _ _ _ h => h) (Or.inl ⟨by kernel_rfl, ?_⟩) hHeld ?_
          rotate_left
          · (intro w hSw; (try dsimp only at hSw); go_simp; try with_reducible rfl)
          try simp only [Act.put, List.setIfInBounds_toArray, List.set_cons_zero, List.set_cons_succ]
          refine wpAnyL_take 5 (v := ?_) rfl (by kernel_rfl) (fun _ _ _ h => h) (Or.inl ⟨by kernel_rfl, ?_⟩) hHeld ?_
          rotate_left
          · (intro w hSw; (try dsimp only at hSw); go_simp; try with_reducible rfl)
          try simp only [Act.put, List.setIfInBounds_toArray, List.set_cons_zero, List.set_cons_succ]
          refine wpAnyL_take 6 (v := ?_) rfl (by kernel_rfl) (fun _ _ _ h => h) (Or.inl ⟨by kernel_rfl, ?_⟩) hHeld ?_
          rotate_left
          · (intro w hSw; (try dsimp only at hSw); go_simp; try with_reducible rfl)
          try simp only [Act.put, List.setIfInBounds_toArray, List.set_cons_zero, List.set_cons_succ]
          refine wpAnyL_one 4 (by kernel_rfl) rfl (fun K hK => ?_)
          go_simp
          go_at_call 32
          refine (down_calls d mp mt D' _ hP.disk).mono ?_
          rintro e w' ⟨rfl, rfl⟩
          refine hK.out _ _ (fun _ => hHeld) ?_
          clear hK K
          try simp only [Act.put, List.setIfInBounds_toArray, List.set_cons_zero, List.set_cons_succ]
          refine wpAnyL_take 7 (v := ?_) rfl (by kernel_rfl) (fun _ _ _ h => h) (Or.inl ⟨by kernel_rfl, ?_⟩) hHeld ?_
          rotate_left
          · (intro w hSw; (try dsimp only at hSw); go_simp; try with_reducible rfl)
          try simp only [Act.put, List.setIfInBounds_toArray, List.set_cons_zero, List.set_cons_succ]
          refine wpAnyL_take 8 (v := ?_) rfl (by kernel_rfl) (fun _ _ _ h => h) (Or.inl ⟨by kernel_rfl, ?_⟩) hHeld ?_
          rotate_left
          · (intro w hSw; (try dsimp only at hSw); go_simp; try with_reducible rfl)
          try simp only [Act.put, List.setIfInBounds_toArray, List.set_cons_zero, List.set_cons_succ]
          refine wpAnyL_take 9 (v := ?_) rfl (by kernel_rfl) (fun _ _ _ h => h) (Or.inl ⟨by kernel_rfl, ?_⟩) hHeld ?_
          rotate_left
          · (intro w hSw; (try dsimp only at hSw); go_simp; try with_reducible rfl)
          try simp only [Act.put, List.setIfInBounds_toArray, List.set_cons_zero, List.set_cons_succ]
          refine wpAnyL_take 10 (v := ?_) rfl (by kernel_rfl) (fun _ _ _ h => h) (Or.inl ⟨by kernel_rfl, ?_⟩) hHeld ?_
          rotate_left
          · (intro w hSw; (try dsimp only at hSw); go_simp; try with_reducible rfl)
          try simp only [Act.put, List.setIfInBounds_toArray, List.set_cons_zero, List.set_cons_succ]
          refine wpAnyL_take 12 (v := ?_) rfl (by kernel_rfl) (fun _ _ _ h => h) (Or.inl ⟨by kernel_rfl, ?_⟩) hHeld ?_
          rotate_left
          · (intro w hSw; (try dsimp only at hSw); go_simp; try with_reducible rfl)
          try simp only [Act.put, List.setIfInBounds_toArray, List.set_cons_zero, List.set_cons_succ]
          refine wpAnyL_one 11 (by kernel_rfl) rfl (fun K hK => ?_)
          go_simp
          go_at_call 33
          refine (free_calls d mp mt D' _ hP.disk hP.ok.room0 hP.ok.room1 hP.ok.sum (by have := hP.ok.many; omega)).mono ?_
          rintro e w11 ⟨rfl, hb11⟩
          replace hP := hP.later hb11
          have hq11 := Hq.out.trans (hb11.mono Hq.out.size)
          clear Hq
          have Hq := Lib.hid hq11
          clear hq11
          clear hHeld
          have hHeld := hP.cells
          refine hK.out _ _ (fun _ => hHeld) ?_
          clear hK K
          try simp only [Act.put, List.setIfInBounds_toArray, List.set_cons_zero, List.set_cons_succ]
          refine wpAnyL_one 13 (by kernel_rfl) rfl (fun K hK => ?_)
          go_simp
          have hf13 := reffree_calls D' A' n' c' w11 hP.files (by have := hP.n_le; omega) hP.ok.room0 hP.ok.room1 hP.ok.sum
          unfold refV at hf13
          go_at_call 34
          refine (hf13).mono ?_
          rintro e w13 ⟨rfl, ew13⟩
          replace hP := hP.later (show Below w11.heap.size w11 w13 by rw [ew13]; exact al1 _ _)
          have hq13 : Below wq.heap.size wq w13 := Hq.out.trans ((show Below w11.heap.size w11 w13 by rw [ew13]; exact al1 _ _).mono Hq.out.size)
          clear Hq ew13 hf13
          have Hq := Lib.hid hq13
          clear hq13
          clear hHeld
          have hHeld := hP.cells
          refine hK.out _ _ (fun _ => hHeld) ?_
          clear hK K
          try simp only [Act.put, List.setIfInBounds_toArray, List.set_cons_zero, List.set_cons_succ]
          refine wpAnyL_take 14 (v := ?_) rfl (by kernel_rfl) (fun _ _ _ h => h) (Or.inl ⟨by kernel_rfl, ?_⟩) hHeld ?_
          rotate_left
          · (intro w hSw; (try dsimp only at hSw); go_simp; try with_reducible rfl)
          try simp only [Act.put, List.setIfInBounds_toArray, List.set_cons_zero, List.set_cons_succ]
          refine wpAnyL_take 15 (v := ?_) rfl (by kernel_rfl) (fun _ _ _ h => h) (Or.inl ⟨by kernel_rfl, ?_⟩) hHeld ?_
          rotate_left
          · (intro w hSw; (try dsimp only at hSw); go_simp; try with_reducible rfl)
          try simp only [Act.put, List.setIfInBounds_toArray, List.set_cons_zero, List.set_cons_succ]
          refine wpAnyL_take 16 (v := ?_) rfl (by kernel_rfl) (fun _ _ _ h => h) (Or.inl ⟨by kernel_rfl, ?_⟩) hHeld ?_
          rotate_left
          · (intro w hSw; (try dsimp only at hSw); go_simp; try with_reducible rfl)
          try simp only [Act.put, List.setIfInBounds_toArray, List.set_cons_zero, List.set_cons_succ]
          refine wpAnyL_take 17 (v := ?_) rfl (by kernel_rfl) (fun _ _ _ h => h) (Or.inl ⟨by kernel_rfl, ?_⟩) hHeld ?_
          rotate_left
          · (intro w hSw; (try dsimp only at hSw); go_simp; try with_reducible rfl)
          try simp only [Act.put, List.setIfInBounds_toArray, List.set_cons_zero, List.set_cons_succ]
          refine wpAnyL_take 19 (v := ?_) rfl (by kernel_rfl) (fun _ _ _ h => h) (Or.inl ⟨by kernel_rfl, ?_⟩) hHeld ?_
          rotate_left
          · (intro w hSw; (try dsimp only at hSw); go_simp; try with_reducible rfl)
          try simp only [Act.put, List.setIfInBounds_toArray, List.set_cons_zero, List.set_cons_succ]
          refine wpAnyL_take 20 (v := ?_) rfl (by kernel_rfl) (fun _ _ _ h => h) (Or.inl ⟨by kernel_rfl, ?_⟩) hHeld ?_
          rotate_left
          · (intro w hSw; (try dsimp only at hSw); go_simp; try with_reducible rfl)
          try simp only [Act.put, List.setIfInBounds_toArray, List.set_cons_zero, List.set_cons_succ]
          refine wpAnyL_one 18 (by kernel_rfl) rfl (fun K hK => ?_)
          go_simp
          go_at_call 35
          refine (steps_calls d mp mt D' _ hP.disk).mono ?_
          rintro e w' ⟨rfl, rfl⟩
          refine hK.out _ _ (fun _ => hHeld) ?_
          clear hK K
          try simp only [Act.put, List.setIfInBounds_toArray, List.set_cons_zero, List.set_cons_succ]
          refine wpAnyL_take 21 (v := ?_) rfl (by kernel_rfl) (fun _ _ _ h => h) (Or.inl ⟨by kernel_rfl, ?_⟩) hHeld ?_
          rotate_left
          · (intro w hSw; (try dsimp only at hSw); go_simp; try with_reducible rfl)
          try simp only [Act.put, List.setIfInBounds_toArray, List.set_cons_zero, List.set_cons_succ]
          refine wpAnyL_take 22 (v := ?_) rfl (by kernel_rfl) (fun _ _ _ h => h) (Or.inl ⟨by kernel_rfl, ?_⟩) hHeld ?_
          rotate_left
          · (intro w hSw; (try dsimp only at hSw); go_simp; try with_reducible rfl)
          try simp only [Act.put, List.setIfInBounds_toArray, List.set_cons_zero, List.set_cons_succ]
          refine wpAnyL_take 23 (v := ?_) rfl (by kernel_rfl) (fun _ _ _ h => h) (Or.inl ⟨by kernel_rfl, ?_⟩) hHeld ?_
          rotate_left
          · (intro w hSw; (try dsimp only at hSw); go_simp; try with_reducible rfl)
          try simp only [Act.put, List.setIfInBounds_toArray, List.set_cons_zero, List.set_cons_succ]
          refine wpAnyL_take 24 (v := ?_) rfl (by kernel_rfl) (fun _ _ _ h => h) (Or.inl ⟨by kernel_rfl, ?_⟩) hHeld ?_
          rotate_left
          · (intro w hSw; (try dsimp only at hSw); go_simp; try with_reducible rfl)
          try simp only [Act.put, List.setIfInBounds_toArray, List.set_cons_zero, List.set_cons_succ]
          refine wpAnyL_take 26 (v := ?_) rfl (by kernel_rfl) (fun _ _ _ h => h) (Or.inl ⟨by kernel_rfl, ?_⟩) hHeld ?_
          rotate_left
          · (intro w hSw; (try dsimp only at hSw); go_simp; try with_reducible rfl)
          try simp only [Act.put, List.setIfInBounds_toArray, List.set_cons_zero, List.set_cons_succ]
          refine wpAnyL_take 27 (v := ?_) rfl (by kernel_rfl) (fun _ _ _ h => h) (Or.inl ⟨by kernel_rfl, ?_⟩) hHeld ?_
          rotate_left
          · (intro w hSw; (try dsimp only at hSw); go_simp; try with_reducible rfl)
          try simp only [Act.put, List.setIfInBounds_toArray, List.set_cons_zero, List.set_cons_succ]
          refine wpAnyL_one 25 (by kernel_rfl) rfl (fun K hK => ?_)
          go_simp
          go_at_call 37
          refine (files23_calls d mp mt D' _ hP.disk hP.ok).mono ?_
          rintro e w25 ⟨A5, n5, c5, rfl, hf5, hc5, hb5⟩
          replace hP := hP.later hb5
          have hq25 := Hq.out.trans (hb5.mono Hq.out.size)
          clear Hq
          have Hq := Lib.hid hq25
          clear hq25
          obtain rfl : n5 = n' := by have h1 := hf5.1; have h2 := hP.files.1; omega
          clear hHeld
          have hHeld := hP.cells
          refine hK.out _ _ (fun _ => hHeld) ?_
          clear hK K
          try simp only [Act.put, List.setIfInBounds_toArray, List.set_cons_zero, List.set_cons_succ]
          refine wpAnyL_one 28 (by kernel_rfl) rfl (fun K hK => ?_)
          go_simp
          go_at_call 36
          refine (refsame_calls A5 A' n5 c5 c' D'.files _ hf5 hP.files (by have := hP.n_le; omega)).mono ?_
          rintro e w28 ⟨rfl, hb28⟩
          replace hP := hP.later hb28
          have hq28 := Hq.out.trans (hb28.mono Hq.out.size)
          clear Hq
          have Hq := Lib.hid hq28
          clear hq28
          clear hHeld
          have hHeld := hP.cells
          refine hK.out _ _ (fun _ => hHeld) ?_
          clear hK K
          try simp only [Act.put, List.setIfInBounds_toArray, List.set_cons_zero, List.set_cons_succ]
          refine wpAnyL_take 29 (v := ?_) rfl (by kernel_rfl) (fun _ _ _ h => h) (Or.inl ⟨by kernel_rfl, ?_⟩) hHeld ?_
          rotate_left
          · (intro w hSw; (try dsimp only at hSw); go_simp; try with_reducible rfl)
          try simp only [Act.put, List.setIfInBounds_toArray, List.set_cons_zero, List.set_cons_succ]
          refine wpAnyL_take 30 (v := ?_) rfl (by kernel_rfl) (fun _ _ _ h => h) (Or.inl ⟨by kernel_rfl, ?_⟩) hHeld ?_
          rotate_left
          · (intro w hSw; (try dsimp only at hSw); go_simp; try with_reducible rfl)
          try simp only [Act.put, List.setIfInBounds_toArray, List.set_cons_zero, List.set_cons_succ]
          refine wpAnyL_take 31 (v := ?_) rfl (by kernel_rfl) (fun _ _ _ h => h) (Or.inl ⟨by kernel_rfl, ?_⟩) hHeld ?_
          rotate_left
          · (intro w hSw; (try dsimp only at hSw); go_simp; try with_reducible rfl)
          try simp only [Act.put, List.setIfInBounds_toArray, List.set_cons_zero, List.set_cons_succ]
          refine wpAnyL_take 32 (v := ?_) rfl (by kernel_rfl) (fun _ _ _ h => h) (Or.inl ⟨by kernel_rfl, ?_⟩) hHeld ?_
          rotate_left
          · (intro w hSw; (try dsimp only at hSw); go_simp; try with_reducible rfl)
          try simp only [Act.put, List.setIfInBounds_toArray, List.set_cons_zero, List.set_cons_succ]
          refine wpAnyL_take 33 (v := ?_) rfl (by kernel_rfl) (fun _ _ _ h => h) (Or.inl ⟨by kernel_rfl, ?_⟩) hHeld ?_
          rotate_left
          · (intro w hSw; (try dsimp only at hSw); go_simp; try with_reducible rfl)
          try simp only [Act.put, List.setIfInBounds_toArray, List.set_cons_zero, List.set_cons_succ]
          refine wpAnyL_take 34 (v := ?_) rfl (by kernel_rfl) (fun _ _ _ h => h) (Or.inl ⟨by kernel_rfl, ?_⟩) hHeld ?_
          rotate_left
          · (intro w hSw; (try dsimp only at hSw); go_simp; try with_reducible rfl)
          try simp only [Act.put, List.setIfInBounds_toArray, List.set_cons_zero, List.set_cons_succ]
          refine wpAnyL_take 35 (v := ?_) rfl (by kernel_rfl) (fun _ _ _ h => h) (Or.inl ⟨by kernel_rfl, ?_⟩) hHeld ?_
          rotate_left
          · (intro w hSw; (try dsimp only at hSw); go_simp; try with_reducible rfl)
          try simp only [Act.put, List.setIfInBounds_toArray, List.set_cons_zero, List.set_cons_succ]
          refine wpAnyL_take 36 (v := ?_) rfl (by kernel_rfl) (fun _ _ _ h => h) (Or.inl ⟨by kernel_rfl, ?_⟩) hHeld ?_
          rotate_left
          · (intro w hSw; (try dsimp only at hSw); go_simp; try with_reducible rfl)
          try simp only [Act.put, List.setIfInBounds_toArray, List.set_cons_zero, List.set_cons_succ]
          refine wpAnyL_take 37 (v := ?_) rfl (by kernel_rfl) (fun _ _ _ h => h) (Or.inl ⟨by kernel_rfl, ?_⟩) hHeld ?_
          rotate_left
          · (intro w hSw; (try dsimp only at hSw); go_simp; try with_reducible rfl)
          try simp only [Act.put, List.setIfInBounds_toArray, List.set_cons_zero, List.set_cons_succ]
          refine wpAnyL_one 38 (by kernel_rfl) rfl (fun K hK => ?_)
          go_simp
          refine hK.out _ _ (fun h => absurd rfl h) ?_
          clear hK K
          try simp only [Act.put, List.setIfInBounds_toArray, List.set_cons_zero, List.set_cons_succ]
          refine wpAnyL_done (by kernel_rfl) ?_ _
          have HP := Lib.hid hP
          have HSq := Lib.hid (HS.out.below Hq.out)
          have hn5 : n5 ≤ 128 := hn128
          clear hP hHeld hn128
          obtain ⟨wo, hwo⟩ : ∃ wo, wo = wr.heap.size := ⟨_, rfl⟩
          rw [← hwo]
          have Hwo := Lib.hid hwo
          clear hwo
          go_wp2_with fail
          go_loopw [94] (fun i wi => ∃ j : Nat, i = .int .i64 j ∧ j ≤ n5 ∧ Below w28.heap.size w28 wi) (fun i _ => n5 - (intOf i).toNat)
          case atStart => exact ⟨0, rfl, Nat.zero_le _, Below.refl _ _⟩
          case round =>
            obtain ⟨j, rfl, hj, hbi⟩ := hrel
            by_cases hjn : j < n5
            · have hPi := HP.out.later hbi
              have hjl : j < D'.files.length := by rw [← Hnn.out]; exact hjn
              obtain ⟨ad2, b2, o2, nm, al, rfl, had2, p0, p1, p2, e0, e1, z0, z1, en, ea⟩ := hPi.files.at2 hjl
              have hix2 := fun W => run_file_index ad2 n5 c' j hjn W
              simp only [had2] at hix2
              obtain ⟨ads, hads, hcs⟩ := (HSq.out.below hbi).2 (by omega)
              have hnm := hcs j hjn
              have hnm2 : (D'.files.map (·.name)).getD j [] = D'.files[j].name := by simp [List.getD_eq_getElem?_getD, hjl]
              rw [hnm2, en] at hnm
              have hpa : ads.add j = ⟨(ads.add j).block, (ads.add j).off, none⟩ := cell_spot hnm
              obtain ⟨pb, po, hpbo⟩ : ∃ pb po, ads.add j = ⟨pb, po, none⟩ := ⟨_, _, hpa⟩
              rw [hpbo] at hnm
              have hixs := fun W => (run_str_index ads n5 cn j hjn W).trans (by rw [hpbo])
              rw [← hads] at hixs
              obtain ⟨b0, b1, _, _, _⟩ := hPi.cells
              have hwj : IntKind.i64.wrap ((j : Int) + 1) = (j : Int) + 1 := IntWalk.i64_in _ (by omega)
              have Hbi := Lib.hid hbi
              clear hPi had2 e0 e1 z0 z1 en ea hads hcs hnm2 hpa hpbo p1 p2 hbi b0
              go_wp2_with fail
              go_quiet (fail)
              go_wp2_with fail
              go_roundw
              case rel => exact ⟨j + 1, by go_num, by omega, (by have h := Hbi.out; exact ⟨h.os, h.tape, h.output, h.size, h.block⟩)⟩
              case measure => simp [intOf]; omega
            · have Hbi := Lib.hid hbi
              clear hbi
              go_wp2_with fail
              go_roundw
              case rel => exact ⟨k + 1, A', n5, c', by go_num, by omega, by rw [Hrun.out, ← HD'.out]; exact HP.out.later Hbi.out, by rw [Hrun.out, ← HD'.out]; omega⟩
              case measure => simp [intOf]; omega
        · have hkn : k = n0 := by omega
          have hb := hP.below
          clear hP hst
          go_wp2_with (go_at_call 28; refine (Hlv.out _).mono ?_; rintro e w3 ⟨rfl, hb3⟩)
          go_ret
          exact ⟨rfl, below_next hb hb3⟩
  · by_cases h0 : room < 0
    · go_enter Try.func5, Try.ntmps5
      go_wp2_with (first
        | (go_at_call 27; refine (new_no _ _ (by omega)).mono ?_; rintro e w2 ⟨rfl, rfl⟩)
        | (go_at_call 28; refine (Hlv.out _).mono ?_; rintro e w3 ⟨rfl, hb3⟩))
      go_ret
      exact ⟨rfl, hb3⟩
    · have h1 : 1048576 < room := by omega
      have h0' : 0 ≤ room := by omega
      clear hroom h0
      go_enter Try.func5, Try.ntmps5
      go_wp2_with (first
        | (go_at_call 27; refine (new_no _ _ (by omega)).mono ?_; rintro e w2 ⟨rfl, rfl⟩)
        | (go_at_call 28; refine (Hlv.out _).mono ?_; rintro e w3 ⟨rfl, hb3⟩))
      go_ret
      exact ⟨rfl, hb3⟩
end Go.Proofs.Ytcfgdlpdnpnhmaa
