/- Contracts and words (several texts merged by wip/merge.py). The walk of curfewlaw23.DiskArmed: it answers true. Written by wip/gen_armed23.py. -/
import Derived.Test.YtcfgdlpdnpnhmaaArAN
import Derived.Test.YtcfgdlpdnpnhmaaArAL
import Derived.Deep.Slices
set_option linter.unusedVariables false
set_option linter.unusedSimpArgs false
namespace Go.Proofs.Ytcfgdlpdnpnhmaa
open Go.RowKit Go.Maps

set_option maxRecDepth 100000 in
set_option maxHeartbeats 16000000 in
theorem armed23_calls (A0 : Option Addr) (n0 c0 : Nat) (l : List Opp) (S : Nat) (o : Opp) (Ao : Option Addr) (mo co : Nat) (w : World) (ho : Ops w A0 n0 l) (hn0 : n0 ≤ 140737488355328) (hS : S ≤ 255) (hoc : OpCells w [.int .i64 o.kind, .int .i64 o.n, .string o.name, .string o.to_, .string o.text, .slice Ao mo co] o) :
    Calls Try.prog 7 #[.slice A0 n0 c0, .int .u8 S, .agg #[.int .i64 o.kind, .int .i64 o.n, .string o.name, .string o.to_, .string o.text, .slice Ao mo co]] w fun e w' => e = .returned (.bool true) ∧ Below w.heap.size w w' := by
  obtain ⟨w1, hw1⟩ : ∃ w1, w1 = w.alloc (.cells #[.int .i64 o.kind, .int .i64 o.n, .string o.name, .string o.to_, .string o.text, .slice Ao mo co] 49) := ⟨_, rfl⟩
  have hbw1 : Below w.heap.size w w1 := by rw [hw1]; exact al1 _ _
  have hbx1 : w1.heap[w.heap.size]? = some (.cells #[.int .i64 o.kind, .int .i64 o.n, .string o.name, .string o.to_, .string o.text, .slice Ao mo co] 49 (0, 0)) := by rw [hw1]; exact blk_new _ _
  have Hlight := Lib.hid (light_calls A0 n0 c0 l w1 (ho.below hbw1) hn0)
  have Hlight2 := Lib.hid (fun (w2 : World) (hb : Below w.heap.size w w2) => light_calls (some ⟨w2.heap.size, 0, none⟩) 1 1 [o] (w2.alloc (.cells #[.int .i64 o.kind, .int .i64 o.n, .string o.name, .string o.to_, .string o.text, .slice Ao mo co] 49)) (ops_one (blk_new _ _) ((hoc.below hb).below (al1 _ _))) (by omega))
  have Hlv := Lib.hid lives23_calls
  have HO := Lib.hid ho
  have hl := Lib.hid ho.1
  have Hoc := Lib.hid hoc
  have Hbw1 := Lib.hid hbw1
  have Hbx1 := Lib.hid hbx1
  clear ho hoc hbw1 hbx1
  go_enter Try.func7, Try.ntmps7
  go_upto_region 1 with fail
  rw [← hw1]
  clear hw1
  obtain ⟨b0, b1, b2, b3, b4, b5⟩ := op_cells Hbx1.out (Below.refl _ _)
  cases hlb : lightB l
  · rw [hlb] at Hlight
    clear hlb
    go_wp2_with (first
      | (go_at_call 26; refine Hlight.out.mono ?_; rintro e w2 ⟨rfl, hb2⟩)
      | (go_at_call 28; refine (Hlv.out _).mono ?_; rintro e w3 ⟨rfl, hb3⟩))
    go_ret
    exact ⟨rfl, below_next (below_next Hbw1.out hb2) hb3⟩
  have Hlt := Lib.hid hlb
  rw [hlb] at Hlight
  clear hlb
  go_wp2_with fail
  refine Hlight.out.mono ?_
  rintro e w2 ⟨rfl, hb2⟩
  clear b0 b1 b2 b3 b4 b5
  obtain ⟨b0, b1, b2, b3, b4, b5⟩ := op_cells Hbx1.out hb2
  go_wp2_with fail
  cases hlb : lightB [o]
  · rw [hlb] at Hlight2
    clear hlb
    refine (Hlight2.out w2 (below_next Hbw1.out hb2)).mono ?_
    rintro e w3 ⟨rfl, hb3⟩
    go_wp2_with (go_at_call 28; refine (Hlv.out _).mono ?_; rintro e w4 ⟨rfl, hb4⟩)
    go_ret
    exact ⟨rfl, below_next (below_next (below_next (below_next Hbw1.out hb2) (al1 _ _)) hb3) hb4⟩
  have Hlo1 := Lib.hid (lightB_at hlb (k := 0) (by simp))
  rw [hlb] at Hlight2
  clear hlb
  refine (Hlight2.out w2 (below_next Hbw1.out hb2)).mono ?_
  rintro e w3 ⟨rfl, hb3⟩
  have hb13 : Below w1.heap.size w1 w3 := below_next (below_next hb2 (al1 _ _)) hb3
  clear hb2 hb3 b0 b1 b2 b3 b4 b5
  go_upto_region 4 with (first
    | (go_at_call 27; refine (new_calls 4000 _ (by omega) (by omega)).mono ?_; rintro e w4 ⟨rfl, hD2, hb4⟩)
    | (go_at_call 29; refine (refnew_calls 4000 _).mono ?_; rintro e w5 ⟨A3, n3, c3, rfl, hf3, hc3, hb5⟩; unfold refV))
  obtain ⟨w6, hw6⟩ : ∃ w6, w6 = w5.alloc (.cells (refCells (Dsk.new 4000) A3 n3 c3) 45) := ⟨_, rfl⟩
  unfold refCells at hw6
  rw [← hw6]
  have hP : PlAt2 w1 w6 (w3.heap.size + 2) w3.heap.size (w3.heap.size + 1) w5.heap.size (Dsk.new 4000) (Dsk.new 4000) A3 n3 c3 := by
    have hb56 : Below w5.heap.size w5 w6 := by rw [hw6]; exact al1 _ _
    have hb6 := below_next (below_next (below_next hb13 hb4) hb5) hb56
    have z1 := hb13.size
    have z2 := hb4.size
    have z3 := hb5.size
    exact ⟨(hD2.below hb5).below hb56, by rw [hw6]; exact blk_new _ _, hf3.below hb56, hc3, new_ok 4000 (by omega) (by omega), new_ok 4000 (by omega) (by omega), hb6, by omega, by omega, by omega, by omega⟩
  obtain ⟨d, hd⟩ : ∃ d, d = w3.heap.size + 2 := ⟨_, rfl⟩
  obtain ⟨mp, hmp⟩ : ∃ mp, mp = w3.heap.size := ⟨_, rfl⟩
  obtain ⟨mt, hmt⟩ : ∃ mt, mt = w3.heap.size + 1 := ⟨_, rfl⟩
  obtain ⟨g, hg⟩ : ∃ g, g = w5.heap.size := ⟨_, rfl⟩
  rw [← hd, ← hmt, ← hmp, ← hg] at hP
  rw [← hd, ← hg]
  have HP := Lib.hid hP
  have hwS : IntKind.i64.wrap (S : Int) = (S : Int) := IntWalk.i64_in _ (by omega)
  have harm := arm_calls d mp mt (Dsk.new 4000) S w6 hP.disk
  rw [(Dsk.arm_start S 4000).2] at harm
  have Harm := Lib.hid harm
  clear hw6 hP hd hmp hmt hg hb4 hb5 hb13 hD2 hf3 hc3 harm
  go_upto_region 6 with (go_at_call 40; refine Harm.out.mono ?_; rintro e w7 ⟨rfl, hL7⟩)
  have hP7 := HP.out.left hL7 ((new_ok 4000 (by omega) (by omega)).arm S (by omega))
  have HP7 := Lib.hid hP7
  clear hP7 hL7 HP Harm
  go_wp2_with fail
  go_loopw [9, 37] (fun nv i wr => ∃ (k nn : Nat) (A : Option Addr) (n c : Nat) (D R : Dsk), i = .int .i64 k ∧ nv = .int .i64 nn ∧ k ≤ n0 ∧ PlAt2 w1 wr d mp mt g D R A n c ∧ D.steps ≤ k ∧ R.steps ≤ k ∧ Dsk.ArmInv S nn D ∧ (D.down = false → Dsk.Like D R)) (fun _ i _ => n0 - (intOf i).toNat)
  case atStart => exact ⟨0, 0, A3, n3, c3, _, _, rfl, rfl, Nat.zero_le _, HP7.out, by rw [Dsk.steps_arm]; exact Nat.le_refl _, Nat.le_refl _, (Dsk.arm_start S 4000).1, fun _ => Dsk.like_start S 4000⟩
  case round =>
    obtain ⟨k, nn, A, n, c, D, R, rfl, rfl, hk, hP, hst, hstr, hA0, hL⟩ := hrel
    clear HP7
    have h200 := lightB_len Hlt.out
    rw [hl.out] at h200
    have hnnS : nn ≤ S + 1 := by rcases hA0 with ⟨_, h, _⟩ | ⟨_, h⟩ <;> omega
    have HL := Lib.hid hL
    have HA0 := Lib.hid hA0
    have HP := Lib.hid hP
    clear hL hA0 hP
    by_cases hlt : k < n0
    · have hkl : k < l.length := by rw [hl.out]; exact hlt
      obtain ⟨ad, b, oo, At, m, ct, rfl, had, q0, q1, q2, q3, q4, q5, _, _, _⟩ := (HO.out.below (below_next Hbw1.out HP.out.below)).at hlt
      have hfit := HO.out.fits hlt
      have hlo := lightB_at Hlt.out hkl
      obtain ⟨op, hop⟩ : ∃ op, op = l.getD k default := ⟨_, rfl⟩
      rw [← hop] at q0 q1 q2 q3 q4 hfit hlo
      clear hop
      obtain ⟨kd, on, nm, to_, tx, ts⟩ := op
      dsimp only at q0 q1 q2 q3 q4 hfit
      have hix := fun W => run_op_index ad n0 c0 k hlt W
      simp only [had] at hix
      have hwk : IntKind.i64.wrap ((k : Int) + 1) = (k : Int) + 1 := IntWalk.i64_in _ (by omega)
      have Hlo := Lib.hid hlo
      have Hfit := Lib.hid hfit
      clear had hlo hfit
      go_upto_region 10 with fail
      obtain ⟨w5', hw5⟩ : ∃ w5', w5' = wr.alloc (.cells #[.int .i64 kd, .int .i64 on, .string nm, .string to_, .string tx, .slice At m ct] 49) := ⟨_, rfl⟩
      rw [← hw5]
      have hb5 : Below wr.heap.size wr w5' := by rw [hw5]; exact al1 _ _
      have hx5 : w5'.heap[wr.heap.size]? = some (.cells #[.int .i64 kd, .int .i64 on, .string nm, .string to_, .string tx, .slice At m ct] 49 (0, 0)) := by rw [hw5]; exact blk_new _ _
      obtain ⟨ob, hob⟩ : ∃ ob, ob = wr.heap.size := ⟨_, rfl⟩
      rw [← hob] at hx5 ⊢
      have HP5 := Lib.hid (HP.out.later hb5)
      obtain ⟨x0, x1, x2, x3, x4, x5⟩ := op_cells hx5 (Below.refl _ _)
      obtain ⟨D', hD'⟩ : ∃ D', D' = D.doOp ⟨kd, on, nm, to_, tx, ts⟩ := ⟨_, rfl⟩
      obtain ⟨R', hR'⟩ : ∃ R', R' = R.doOp ⟨kd, on, nm, to_, tx, ts⟩ := ⟨_, rfl⟩
      have Hok' := Lib.hid (show D'.Ok by rw [hD']; exact HP.out.ok.doOp _ Hfit.out)
      have Hokr' := Lib.hid (show R'.Ok by rw [hR']; exact HP.out.okr.doOp _ Hfit.out)
      have hst' : D'.steps ≤ k + 1 := by have := Dsk.steps_doOp D ⟨kd, on, nm, to_, tx, ts⟩; rw [hD']; omega
      have hstr' : R'.steps ≤ k + 1 := by have := Dsk.steps_doOp R ⟨kd, on, nm, to_, tx, ts⟩; rw [hR']; omega
      have HD' := Lib.hid hD'
      have HR' := Lib.hid hR'
      have Hx5 := Lib.hid hx5
      have Hob := Lib.hid hob
      clear hw5 hx5 hb5 hD' hR' hob q0 q1 q2 q3 q4 q5 hix
      by_cases hsk : 6 ≤ kd ∧ kd ≤ 9
      · have g6 : decide ((6 : Int) ≤ kd) = true := decide_eq_true hsk.1
        have g9 : decide (kd ≤ (9 : Int)) = true := decide_eq_true hsk.2
        clear hsk
        go_wp2_with fail
        go_roundw
        case rel => exact ⟨k + 1, nn, A, n, c, D, R, by go_num, rfl, by omega, HP5.out, by omega, by omega, HA0.out, HL.out⟩
        case measure => simp [intOf]; omega
      · cases hdn : D.down
        · have Hdn := Lib.hid hdn
          clear hdn
          by_cases h6 : 6 ≤ kd
          · have h9 : 9 < kd := by omega
            have g6 : decide ((6 : Int) ≤ kd) = true := decide_eq_true h6
            have g9 : decide (kd ≤ (9 : Int)) = false := decide_eq_false (by omega)
            clear hsk
            go_upto_region 11 with (go_at_call 32; refine (down_calls d mp mt D _ HP5.out.disk).mono ?_; rintro e w' ⟨rfl, rfl⟩; rw [Hdn.out])
            go_upto_region 12 with (first
              | (go_at_call 35; refine (steps_calls d mp mt D _ HP5.out.disk).mono ?_; rintro e w' ⟨rfl, rfl⟩)
              | (go_at_call 37; refine (files23_calls d mp mt D _ HP5.out.disk HP5.out.ok).mono ?_; rintro e w6 ⟨A5, n5, c5, rfl, hf5, hc5, hb6⟩))
            have hP6 := HP5.out.later hb6
            obtain ⟨b0, b1, b2, b3, b4⟩ := hP6.cells
            have hx6 := (hb6.block _ (blk_lt Hx5.out)).trans Hx5.out
            have Hx6 := Lib.hid hx6
            clear x0 x1 x2 x3 x4 x5
            have x0 := blk_cell hx6 0
            have x1 := blk_cell hx6 1
            have x2 := blk_cell hx6 2
            have x3 := blk_cell hx6 3
            have x4 := blk_cell hx6 4
            have x5 := blk_cell hx6 5
            have hdo := do2_calls d mp mt D R A n c ⟨kd, on, nm, to_, tx, ts⟩ At m ct w6 hP6.disk hP6.files hP6.cap hP6.ok (by omega) hP6.okr (by omega) (HL.out Hdn.out) Hdn.out (by show ¬ (6 ≤ kd ∧ kd ≤ 9); omega) Hlo.out
            rw [← HD'.out, ← HR'.out] at hdo
            have Hmv := Lib.hid (show Dsk.Moved D D' (Dsk.isApp kd) by rw [HD'.out]; exact Dsk.moved_doOp D ⟨kd, on, nm, to_, tx, ts⟩ (by show ¬ (6 ≤ kd ∧ kd ≤ 9); omega) (by rcases HA0.out with ⟨_, h1, h2⟩ | ⟨h1, _⟩; omega; rw [Hdn.out] at h1; cases h1) Hdn.out)
            have Hlk' := Lib.hid (show (D'.down = false → Dsk.Like D' R') ∧ (Dsk.isApp kd = true → D'.files = R'.files) by rw [HD'.out, HR'.out]; exact Dsk.like_doOp (HL.out Hdn.out) Hdn.out ⟨kd, on, nm, to_, tx, ts⟩ (by show ¬ (6 ≤ kd ∧ kd ≤ 9); omega))
            have HP6 := Lib.hid hP6
            have Hdo := Lib.hid hdo
            have Hf5 := Lib.hid hf5
            unfold refV at Hdo
            clear hP6 hdo hf5 hb6 hx6 hc5
            go_upto_region 13 with (go_at_call 30; refine Hdo.out.mono ?_; rintro e w7 ⟨A', n', c', bb, rfl, hf7, hc7, hL7⟩; unfold refV)
            have hM := Mid.of HP6.out Hf5.out hL7 hf7 hc7
            have hx7 := hL7.ext.obj Hx6.out (by have h1 := HP.out.disk.lt_d; have h2 := HP.out.disk.lt_mp; have h3 := HP.out.disk.lt_mt; have h4 := Hob.out; simp; omega)
            unfold refCells at hM
            obtain ⟨wq, hwq⟩ : ∃ wq, wq = w7.alloc (.cells #[.int .i64 R'.room, .slice A' n' c', .bool R'.down, .int .i64 R'.armed, .int .u64 R'.steps] 45) := ⟨_, rfl⟩
            have hxq : wq.heap[ob]? = some (.cells #[.int .i64 kd, .int .i64 on, .string nm, .string to_, .string tx, .slice At m ct] 49 (0, 0)) := by rw [hwq]; exact blk_alloc hx7 _
            rw [← hwq] at hM ⊢
            obtain ⟨g2, hg2⟩ : ∃ g2, g2 = w7.heap.size := ⟨_, rfl⟩
            rw [← hg2] at hM ⊢
            have hdn := Hdn.out
            have Hst' := Lib.hid hst'
            clear hwq hg2 hf7 hc7 hL7 hx7 b0 b1 b2 b3 b4 x0 x1 x2 x3 x4 x5
            have x0 := blk_cell hxq 0
            clear hxq
            rcases Dsk.arm_ways HA0.out hdn Hmv.out with hsame | ⟨hs', hdn', hnS, hA⟩ | ⟨hs', hdn', hnS, hA, hfil⟩
            · have gs : decide (D.steps < D'.steps) = false := decide_eq_false (by rw [hsame]; omega)
              have gn : decide ((S : Int) < (nn : Int)) = false := decide_eq_false (by rcases HA0.out with ⟨_, h, _⟩ | ⟨h, _⟩; omega; rw [hdn] at h; cases h)
              have hdn' : D'.down = false := by rw [hsame]; exact hdn
              have HA := Lib.hid (show Dsk.ArmInv S nn D' by rw [hsame]; exact HA0.out)
              have Hsame := Lib.hid hsame
              have Hdn' := Lib.hid hdn'
              have gnn : decide (S < nn) = false := decide_eq_false (by have := of_decide_eq_false gn; omega)
              clear hsame hdn'
              go_upto_region 21 with (first
                | (go_at_call 35; refine (steps_calls d mp mt D' _ hM.disk).mono ?_; rintro e w' ⟨rfl, rfl⟩)
                | (go_at_call 32; refine (down_calls d mp mt D' _ hM.disk).mono ?_; rintro e w' ⟨rfl, rfl⟩; rw [Hdn'.out]))
              obtain ⟨⟨b0, b1, b2, b3, b4⟩, ⟨f0, f1, f2, f3, f4⟩, ⟨z0, z1, z2, z3, z4⟩⟩ := hM.cells
              obtain ⟨w11, hw11, hP11⟩ := hM.done HP6.out Hok'.out Hokr'.out
              have HP11 := Lib.hid hP11
              clear hM hP11
              go_wp2_with fail
              rw [← hw11]
              go_roundw
              case rel => exact ⟨k + 1, nn, A', n', c', D', R', by go_num, rfl, by omega, HP11.out, by omega, by omega, HA.out, fun h => Hlk'.out.1 h⟩
              case measure => simp [intOf]; omega
            · have gs : decide (D.steps < D'.steps) = true := decide_eq_true (by omega)
              have gn : decide ((S : Int) < (nn : Int) + 1) = false := decide_eq_false (by omega)
              have HA := Lib.hid hA
              have Hdn' := Lib.hid hdn'
              have hwn : IntKind.i64.wrap ((nn : Int) + 1) = (nn : Int) + 1 := IntWalk.i64_in _ (by omega)
              clear hs' hdn' hA
              go_upto_region 21 with (first
                | (go_at_call 35; refine (steps_calls d mp mt D' _ hM.disk).mono ?_; rintro e w' ⟨rfl, rfl⟩)
                | (go_at_call 32; refine (down_calls d mp mt D' _ hM.disk).mono ?_; rintro e w' ⟨rfl, rfl⟩; rw [Hdn'.out]))
              obtain ⟨⟨b0, b1, b2, b3, b4⟩, ⟨f0, f1, f2, f3, f4⟩, ⟨z0, z1, z2, z3, z4⟩⟩ := hM.cells
              obtain ⟨w11, hw11, hP11⟩ := hM.done HP6.out Hok'.out Hokr'.out
              have HP11 := Lib.hid hP11
              clear hM hP11
              go_wp2_with fail
              rw [← hw11]
              go_roundw
              case rel => exact ⟨k + 1, nn + 1, A', n', c', D', R', by go_num, by go_num, by omega, HP11.out, by omega, by omega, HA.out, fun h => Hlk'.out.1 h⟩
              case measure => simp [intOf]; omega
            · have gs : decide (D.steps < D'.steps) = true := decide_eq_true (by omega)
              have gn : decide ((S : Int) < (nn : Int) + 1) = true := decide_eq_true (by omega)
              have HA := Lib.hid hA
              have Hdn' := Lib.hid hdn'
              have Hfil := Lib.hid hfil
              have hwn : IntKind.i64.wrap ((nn : Int) + 1) = (nn : Int) + 1 := IntWalk.i64_in _ (by omega)
              clear hs' hdn' hA hfil
              have e0 : ((kd : Int) == 0) = false := beq_false_of_ne (by omega)
              have e9 : decide ((9 : Int) < kd) = true := decide_eq_true (by omega)
              have hF : D'.files = R'.files := Hlk'.out.2 (by unfold Dsk.isApp; simp; omega)
              have HF := Lib.hid hF
              clear hF
              go_upto_region 19 with (first
                | (go_at_call 35; refine (steps_calls d mp mt D' _ hM.disk).mono ?_; rintro e w' ⟨rfl, rfl⟩)
                | (go_at_call 32; refine (down_calls d mp mt D' _ hM.disk).mono ?_; rintro e w' ⟨rfl, rfl⟩; rw [Hdn'.out]))
              obtain ⟨z0, z1, z2, z3, z4⟩ := hM.cells.2.2
              have hF := HF.out
              refine wp_region_last (fun w' => w'.cell? ⟨g2, 0, none⟩ = some (.int .i64 R'.room) ∧ w'.cell? ⟨g2, 1, none⟩ = some (.slice A' n' c') ∧ w'.cell? ⟨g2, 2, none⟩ = some (.bool R'.down) ∧ w'.cell? ⟨g2, 3, none⟩ = some (.int .i64 R'.armed) ∧ w'.cell? ⟨g2, 4, none⟩ = some (.int .u64 R'.steps)) 19 (by kernel_rfl) hM.cells.2.2 (fun hHeld => ?_)
              replace hM := hM.later ((Below.refl wq.heap.size wq).drew)
              refine wpAnyL_take 0 (v := ?_) rfl (by kernel_rfl) (fun _ _ _ h => h) (Or.inl ⟨by kernel_rfl, ?_⟩) hHeld ?_
              rotate_left
              · (intro w hSw; (try dsimp only at hSw); go_simp; try with_reducible rfl)
              try simp only [Act.put, List.setIfInBounds_toArray, List.set_cons_zero, List.set_cons_succ]
              refine wpAnyL_take 1 (v := ?_) rfl (by kernel_rfl) (fun _ _ _ h => h) (Or.inl ⟨by kernel_rfl, ?_⟩) hHeld ?_
              rotate_left
              · (intro w hSw; (try dsimp only at hSw); go_simp; try with_reducible rfl)
              try simp only [Act.put, List.setIfInBounds_toArray, List.set_cons_zero, List.set_cons_succ]
              refine wpAnyL_take 2 (v := ?_) rfl (by kernel_rfl) (fun _ _ _ h => h) (Or.inl ⟨by kernel_rfl, ?_⟩) hHeld ?_
              rotate_left
              · (intro w hSw; (try dsimp only at hSw); go_simp; try with_reducible rfl)
              try simp only [Act.put, List.setIfInBounds_toArray, List.set_cons_zero, List.set_cons_succ]
              refine wpAnyL_take 4 (v := ?_) rfl (by kernel_rfl) (fun _ _ _ h => h) (Or.inl ⟨by kernel_rfl, ?_⟩) hHeld ?_
              rotate_left
              · (intro w hSw; (try dsimp only at hSw); go_simp; try with_reducible rfl)
              try simp only [Act.put, List.setIfInBounds_toArray, List.set_cons_zero, List.set_cons_succ]
              refine wpAnyL_take 5 (v := ?_) rfl (by kernel_rfl) (fun _ _ _ h => h) (Or.inl ⟨by kernel_rfl, ?_⟩) hHeld ?_
              rotate_left
              · (intro w hSw; (try dsimp only at hSw); go_simp; try with_reducible rfl)
              try simp only [Act.put, List.setIfInBounds_toArray, List.set_cons_zero, List.set_cons_succ]
              refine wpAnyL_one 3 (by kernel_rfl) rfl (fun K hK => ?_)
              go_simp
              go_at_call 37
              refine (files23_calls d mp mt D' _ hM.disk Hok'.out).mono ?_
              rintro e w9 ⟨A9, n9, c9, rfl, hf9, hc9, hb9⟩
              replace hM := hM.later hb9
              clear hHeld
              have hHeld := hM.cells.2.2
              refine hK.out _ _ (fun _ => hHeld) ?_
              clear hK K
              try simp only [Act.put, List.setIfInBounds_toArray, List.set_cons_zero, List.set_cons_succ]
              refine wpAnyL_one 6 (by kernel_rfl) rfl (fun K hK => ?_)
              go_simp
              obtain rfl : n' = n9 := by have h1 := hf9.1; have h2 := hM.files.1; rw [hF] at h1; omega
              rw [hF] at hf9
              go_at_call 36
              refine (refsame_calls A9 A' n' c9 c' R'.files _ hf9 hM.files (by have h1 := hf9.1; have h2 := Hokr'.out.many; omega)).mono ?_
              rintro e w10 ⟨rfl, hb10⟩
              replace hM := hM.later hb10
              clear hHeld
              have hHeld := hM.cells.2.2
              refine hK.out _ _ (fun _ => hHeld) ?_
              clear hK K
              try simp only [Act.put, List.setIfInBounds_toArray, List.set_cons_zero, List.set_cons_succ]
              refine wpAnyL_take 7 (v := ?_) rfl (by kernel_rfl) (fun _ _ _ h => h) (Or.inl ⟨by kernel_rfl, ?_⟩) hHeld ?_
              rotate_left
              · (intro w hSw; (try dsimp only at hSw); go_simp; try with_reducible rfl)
              try simp only [Act.put, List.setIfInBounds_toArray, List.set_cons_zero, List.set_cons_succ]
              refine wpAnyL_take 8 (v := ?_) rfl (by kernel_rfl) (fun _ _ _ h => h) (Or.inl ⟨by kernel_rfl, ?_⟩) hHeld ?_
              rotate_left
              · (intro w hSw; (try dsimp only at hSw); go_simp; try with_reducible rfl)
              try simp only [Act.put, List.setIfInBounds_toArray, List.set_cons_zero, List.set_cons_succ]
              refine wpAnyL_take 9 (v := ?_) rfl (by kernel_rfl) (fun _ _ _ h => h) (Or.inl ⟨by kernel_rfl, ?_⟩) hHeld ?_
              rotate_left
              · (intro w hSw; (try dsimp only at hSw); go_simp; try with_reducible rfl)
              try simp only [Act.put, List.setIfInBounds_toArray, List.set_cons_zero, List.set_cons_succ]
              refine wpAnyL_take 10 (v := ?_) rfl (by kernel_rfl) (fun _ _ _ h => h) (Or.inl ⟨by kernel_rfl, ?_⟩) hHeld ?_
              rotate_left
              · (intro w hSw; (try dsimp only at hSw); go_simp; try with_reducible rfl)
              try simp only [Act.put, List.setIfInBounds_toArray, List.set_cons_zero, List.set_cons_succ]
              refine wpAnyL_take 11 (v := ?_) rfl (by kernel_rfl) (fun _ _ _ h => h) (Or.inl ⟨by kernel_rfl, ?_⟩) hHeld ?_
              rotate_left
              · (intro w hSw; (try dsimp only at hSw); go_simp; try with_reducible rfl)
              try simp only [Act.put, List.setIfInBounds_toArray, List.set_cons_zero, List.set_cons_succ]
              refine wpAnyL_take 12 (v := ?_) rfl (by kernel_rfl) (fun _ _ _ h => h) (Or.inl ⟨by kernel_rfl, ?_⟩) hHeld ?_
              rotate_left
              · (intro w hSw; (try dsimp only at hSw); go_simp; try with_reducible rfl)
              try simp only [Act.put, List.setIfInBounds_toArray, List.set_cons_zero, List.set_cons_succ]
              refine wpAnyL_take 13 (v := ?_) rfl (by kernel_rfl) (fun _ _ _ h => h) (Or.inr ⟨by kernel_rfl, ?_⟩) hHeld ?_
              rotate_left
              · rfl
              try simp only [Act.put, List.setIfInBounds_toArray, List.set_cons_zero, List.set_cons_succ]
              refine wpAnyL_take 14 (v := ?_) rfl (by kernel_rfl) (fun _ _ _ h => h) (Or.inr ⟨by kernel_rfl, ?_⟩) hHeld ?_
              rotate_left
              · rfl
              try simp only [Act.put, List.setIfInBounds_toArray, List.set_cons_zero, List.set_cons_succ]
              refine wpAnyL_take 15 (v := ?_) rfl (by kernel_rfl) (fun _ _ _ h => h) (Or.inr ⟨by kernel_rfl, ?_⟩) hHeld ?_
              rotate_left
              · rfl
              try simp only [Act.put, List.setIfInBounds_toArray, List.set_cons_zero, List.set_cons_succ]
              refine wpAnyL_take 16 (v := ?_) rfl (by kernel_rfl) (fun _ _ _ h => h) (Or.inr ⟨by kernel_rfl, ?_⟩) hHeld ?_
              rotate_left
              · rfl
              try simp only [Act.put, List.setIfInBounds_toArray, List.set_cons_zero, List.set_cons_succ]
              refine wpAnyL_take 17 (v := ?_) rfl (by kernel_rfl) (fun _ _ _ h => h) (Or.inr ⟨by kernel_rfl, ?_⟩) hHeld ?_
              rotate_left
              · rfl
              try simp only [Act.put, List.setIfInBounds_toArray, List.set_cons_zero, List.set_cons_succ]
              refine wpAnyL_take 18 (v := ?_) rfl (by kernel_rfl) (fun _ _ _ h => h) (Or.inl ⟨by kernel_rfl, ?_⟩) hHeld ?_
              rotate_left
              · (intro w hSw; (try dsimp only at hSw); go_simp; try with_reducible rfl)
              try simp only [Act.put, List.setIfInBounds_toArray, List.set_cons_zero, List.set_cons_succ]
              refine wpAnyL_one 19 (by kernel_rfl) rfl (fun K hK => ?_)
              go_simp
              refine hK.out _ _ (fun h => absurd rfl h) ?_
              clear hK K
              try simp only [Act.put, List.setIfInBounds_toArray, List.set_cons_zero, List.set_cons_succ]
              refine wpAnyL_done (by kernel_rfl) ?_ _
              clear hHeld hF
              obtain ⟨⟨b0, b1, b2, b3, b4⟩, ⟨f0, f1, f2, f3, f4⟩, ⟨z0, z1, z2, z3, z4⟩⟩ := hM.cells
              obtain ⟨w11, hw11, hP11⟩ := hM.done HP6.out Hok'.out Hokr'.out
              have HP11 := Lib.hid hP11
              clear hM hP11
              go_wp2_with fail
              rw [← hw11]
              go_roundw
              case rel => exact ⟨k + 1, nn + 1, A', n', c', D', R', by go_num, by go_num, by omega, HP11.out, by omega, by omega, HA.out, fun h => (by rw [Hdn'.out] at h; cases h)⟩
              case measure => simp [intOf]; omega
          · have g6 : decide ((6 : Int) ≤ kd) = false := decide_eq_false h6
            clear hsk
            go_upto_region 11 with (go_at_call 32; refine (down_calls d mp mt D _ HP5.out.disk).mono ?_; rintro e w' ⟨rfl, rfl⟩; rw [Hdn.out])
            go_upto_region 12 with (first
              | (go_at_call 35; refine (steps_calls d mp mt D _ HP5.out.disk).mono ?_; rintro e w' ⟨rfl, rfl⟩)
              | (go_at_call 37; refine (files23_calls d mp mt D _ HP5.out.disk HP5.out.ok).mono ?_; rintro e w6 ⟨A5, n5, c5, rfl, hf5, hc5, hb6⟩))
            have hP6 := HP5.out.later hb6
            obtain ⟨b0, b1, b2, b3, b4⟩ := hP6.cells
            have hx6 := (hb6.block _ (blk_lt Hx5.out)).trans Hx5.out
            have Hx6 := Lib.hid hx6
            clear x0 x1 x2 x3 x4 x5
            have x0 := blk_cell hx6 0
            have x1 := blk_cell hx6 1
            have x2 := blk_cell hx6 2
            have x3 := blk_cell hx6 3
            have x4 := blk_cell hx6 4
            have x5 := blk_cell hx6 5
            have hdo := do2_calls d mp mt D R A n c ⟨kd, on, nm, to_, tx, ts⟩ At m ct w6 hP6.disk hP6.files hP6.cap hP6.ok (by omega) hP6.okr (by omega) (HL.out Hdn.out) Hdn.out (by show ¬ (6 ≤ kd ∧ kd ≤ 9); omega) Hlo.out
            rw [← HD'.out, ← HR'.out] at hdo
            have Hmv := Lib.hid (show Dsk.Moved D D' (Dsk.isApp kd) by rw [HD'.out]; exact Dsk.moved_doOp D ⟨kd, on, nm, to_, tx, ts⟩ (by show ¬ (6 ≤ kd ∧ kd ≤ 9); omega) (by rcases HA0.out with ⟨_, h1, h2⟩ | ⟨h1, _⟩; omega; rw [Hdn.out] at h1; cases h1) Hdn.out)
            have Hlk' := Lib.hid (show (D'.down = false → Dsk.Like D' R') ∧ (Dsk.isApp kd = true → D'.files = R'.files) by rw [HD'.out, HR'.out]; exact Dsk.like_doOp (HL.out Hdn.out) Hdn.out ⟨kd, on, nm, to_, tx, ts⟩ (by show ¬ (6 ≤ kd ∧ kd ≤ 9); omega))
            have HP6 := Lib.hid hP6
            have Hdo := Lib.hid hdo
            have Hf5 := Lib.hid hf5
            unfold refV at Hdo
            clear hP6 hdo hf5 hb6 hx6 hc5
            go_upto_region 13 with (go_at_call 30; refine Hdo.out.mono ?_; rintro e w7 ⟨A', n', c', bb, rfl, hf7, hc7, hL7⟩; unfold refV)
            have hM := Mid.of HP6.out Hf5.out hL7 hf7 hc7
            have hx7 := hL7.ext.obj Hx6.out (by have h1 := HP.out.disk.lt_d; have h2 := HP.out.disk.lt_mp; have h3 := HP.out.disk.lt_mt; have h4 := Hob.out; simp; omega)
            unfold refCells at hM
            obtain ⟨wq, hwq⟩ : ∃ wq, wq = w7.alloc (.cells #[.int .i64 R'.room, .slice A' n' c', .bool R'.down, .int .i64 R'.armed, .int .u64 R'.steps] 45) := ⟨_, rfl⟩
            have hxq : wq.heap[ob]? = some (.cells #[.int .i64 kd, .int .i64 on, .string nm, .string to_, .string tx, .slice At m ct] 49 (0, 0)) := by rw [hwq]; exact blk_alloc hx7 _
            rw [← hwq] at hM ⊢
            obtain ⟨g2, hg2⟩ : ∃ g2, g2 = w7.heap.size := ⟨_, rfl⟩
            rw [← hg2] at hM ⊢
            have hdn := Hdn.out
            have Hst' := Lib.hid hst'
            clear hwq hg2 hf7 hc7 hL7 hx7 b0 b1 b2 b3 b4 x0 x1 x2 x3 x4 x5
            have x0 := blk_cell hxq 0
            clear hxq
            rcases Dsk.arm_ways HA0.out hdn Hmv.out with hsame | ⟨hs', hdn', hnS, hA⟩ | ⟨hs', hdn', hnS, hA, hfil⟩
            · have gs : decide (D.steps < D'.steps) = false := decide_eq_false (by rw [hsame]; omega)
              have gn : decide ((S : Int) < (nn : Int)) = false := decide_eq_false (by rcases HA0.out with ⟨_, h, _⟩ | ⟨h, _⟩; omega; rw [hdn] at h; cases h)
              have hdn' : D'.down = false := by rw [hsame]; exact hdn
              have HA := Lib.hid (show Dsk.ArmInv S nn D' by rw [hsame]; exact HA0.out)
              have Hsame := Lib.hid hsame
              have Hdn' := Lib.hid hdn'
              have gnn : decide (S < nn) = false := decide_eq_false (by have := of_decide_eq_false gn; omega)
              clear hsame hdn'
              go_upto_region 21 with (first
                | (go_at_call 35; refine (steps_calls d mp mt D' _ hM.disk).mono ?_; rintro e w' ⟨rfl, rfl⟩)
                | (go_at_call 32; refine (down_calls d mp mt D' _ hM.disk).mono ?_; rintro e w' ⟨rfl, rfl⟩; rw [Hdn'.out]))
              obtain ⟨⟨b0, b1, b2, b3, b4⟩, ⟨f0, f1, f2, f3, f4⟩, ⟨z0, z1, z2, z3, z4⟩⟩ := hM.cells
              obtain ⟨w11, hw11, hP11⟩ := hM.done HP6.out Hok'.out Hokr'.out
              have HP11 := Lib.hid hP11
              clear hM hP11
              go_wp2_with fail
              rw [← hw11]
              go_roundw
              case rel => exact ⟨k + 1, nn, A', n', c', D', R', by go_num, rfl, by omega, HP11.out, by omega, by omega, HA.out, fun h => Hlk'.out.1 h⟩
              case measure => simp [intOf]; omega
            · have gs : decide (D.steps < D'.steps) = true := decide_eq_true (by omega)
              have gn : decide ((S : Int) < (nn : Int) + 1) = false := decide_eq_false (by omega)
              have HA := Lib.hid hA
              have Hdn' := Lib.hid hdn'
              have hwn : IntKind.i64.wrap ((nn : Int) + 1) = (nn : Int) + 1 := IntWalk.i64_in _ (by omega)
              clear hs' hdn' hA
              go_upto_region 21 with (first
                | (go_at_call 35; refine (steps_calls d mp mt D' _ hM.disk).mono ?_; rintro e w' ⟨rfl, rfl⟩)
                | (go_at_call 32; refine (down_calls d mp mt D' _ hM.disk).mono ?_; rintro e w' ⟨rfl, rfl⟩; rw [Hdn'.out]))
              obtain ⟨⟨b0, b1, b2, b3, b4⟩, ⟨f0, f1, f2, f3, f4⟩, ⟨z0, z1, z2, z3, z4⟩⟩ := hM.cells
              obtain ⟨w11, hw11, hP11⟩ := hM.done HP6.out Hok'.out Hokr'.out
              have HP11 := Lib.hid hP11
              clear hM hP11
              go_wp2_with fail
              rw [← hw11]
              go_roundw
              case rel => exact ⟨k + 1, nn + 1, A', n', c', D', R', by go_num, by go_num, by omega, HP11.out, by omega, by omega, HA.out, fun h => Hlk'.out.1 h⟩
              case measure => simp [intOf]; omega
            · have gs : decide (D.steps < D'.steps) = true := decide_eq_true (by omega)
              have gn : decide ((S : Int) < (nn : Int) + 1) = true := decide_eq_true (by omega)
              have HA := Lib.hid hA
              have Hdn' := Lib.hid hdn'
              have Hfil := Lib.hid hfil
              have hwn : IntKind.i64.wrap ((nn : Int) + 1) = (nn : Int) + 1 := IntWalk.i64_in _ (by omega)
              clear hs' hdn' hA hfil
              by_cases h0 : kd = 0
              · have e0 : ((kd : Int) == 0) = true := beq_iff_eq.2 h0
                have H0 := Lib.hid h0
                clear h0
                have hF : D'.files = R'.files := Hlk'.out.2 (by have h0 := H0.out; unfold Dsk.isApp; simp; omega)
                have HF := Lib.hid hF
                clear hF
                go_upto_region 19 with (first
                  | (go_at_call 35; refine (steps_calls d mp mt D' _ hM.disk).mono ?_; rintro e w' ⟨rfl, rfl⟩)
                  | (go_at_call 32; refine (down_calls d mp mt D' _ hM.disk).mono ?_; rintro e w' ⟨rfl, rfl⟩; rw [Hdn'.out]))
                obtain ⟨z0, z1, z2, z3, z4⟩ := hM.cells.2.2
                have hF := HF.out
                refine wp_region_last (fun w' => w'.cell? ⟨g2, 0, none⟩ = some (.int .i64 R'.room) ∧ w'.cell? ⟨g2, 1, none⟩ = some (.slice A' n' c') ∧ w'.cell? ⟨g2, 2, none⟩ = some (.bool R'.down) ∧ w'.cell? ⟨g2, 3, none⟩ = some (.int .i64 R'.armed) ∧ w'.cell? ⟨g2, 4, none⟩ = some (.int .u64 R'.steps)) 19 (by kernel_rfl) hM.cells.2.2 (fun hHeld => ?_)
                replace hM := hM.later ((Below.refl wq.heap.size wq).drew)
                refine wpAnyL_take 0 (v := ?_) rfl (by kernel_rfl) (fun _ _ _ h => h) (Or.inl ⟨by kernel_rfl, ?_⟩) hHeld ?_
                rotate_left
                · (intro w hSw; (try dsimp only at hSw); go_simp; try with_reducible rfl)
                try simp only [Act.put, List.setIfInBounds_toArray, List.set_cons_zero, List.set_cons_succ]
                refine wpAnyL_take 1 (v := ?_) rfl (by kernel_rfl) (fun _ _ _ h => h) (Or.inl ⟨by kernel_rfl, ?_⟩) hHeld ?_
                rotate_left
                · (intro w hSw; (try dsimp only at hSw); go_simp; try with_reducible rfl)
                try simp only [Act.put, List.setIfInBounds_toArray, List.set_cons_zero, List.set_cons_succ]
                refine wpAnyL_take 2 (v := ?_) rfl (by kernel_rfl) (fun _ _ _ h => h) (Or.inl ⟨by kernel_rfl, ?_⟩) hHeld ?_
                rotate_left
                · (intro w hSw; (try dsimp only at hSw); go_simp; try with_reducible rfl)
                try simp only [Act.put, List.setIfInBounds_toArray, List.set_cons_zero, List.set_cons_succ]
                refine wpAnyL_take 4 (v := ?_) rfl (by kernel_rfl) (fun _ _ _ h => h) (Or.inl ⟨by kernel_rfl, ?_⟩) hHeld ?_
                rotate_left
                · (intro w hSw; (try dsimp only at hSw); go_simp; try with_reducible rfl)
                try simp only [Act.put, List.setIfInBounds_toArray, List.set_cons_zero, List.set_cons_succ]
                refine wpAnyL_take 5 (v := ?_) rfl (by kernel_rfl) (fun _ _ _ h => h) (Or.inl ⟨by kernel_rfl, ?_⟩) hHeld ?_
                rotate_left
                · (intro w hSw; (try dsimp only at hSw); go_simp; try with_reducible rfl)
                try simp only [Act.put, List.setIfInBounds_toArray, List.set_cons_zero, List.set_cons_succ]
                refine wpAnyL_one 3 (by kernel_rfl) rfl (fun K hK => ?_)
                go_simp
                go_at_call 37
                refine (files23_calls d mp mt D' _ hM.disk Hok'.out).mono ?_
                rintro e w9 ⟨A9, n9, c9, rfl, hf9, hc9, hb9⟩
                replace hM := hM.later hb9
                clear hHeld
                have hHeld := hM.cells.2.2
                refine hK.out _ _ (fun _ => hHeld) ?_
                clear hK K
                try simp only [Act.put, List.setIfInBounds_toArray, List.set_cons_zero, List.set_cons_succ]
                refine wpAnyL_one 6 (by kernel_rfl) rfl (fun K hK => ?_)
                go_simp
                obtain rfl : n' = n9 := by have h1 := hf9.1; have h2 := hM.files.1; rw [hF] at h1; omega
                rw [hF] at hf9
                go_at_call 36
                refine (refsame_calls A9 A' n' c9 c' R'.files _ hf9 hM.files (by have h1 := hf9.1; have h2 := Hokr'.out.many; omega)).mono ?_
                rintro e w10 ⟨rfl, hb10⟩
                replace hM := hM.later hb10
                clear hHeld
                have hHeld := hM.cells.2.2
                refine hK.out _ _ (fun _ => hHeld) ?_
                clear hK K
                try simp only [Act.put, List.setIfInBounds_toArray, List.set_cons_zero, List.set_cons_succ]
                refine wpAnyL_take 7 (v := ?_) rfl (by kernel_rfl) (fun _ _ _ h => h) (Or.inl ⟨by kernel_rfl, ?_⟩) hHeld ?_
                rotate_left
                · (intro w hSw; (try dsimp only at hSw); go_simp; try with_reducible rfl)
                try simp only [Act.put, List.setIfInBounds_toArray, List.set_cons_zero, List.set_cons_succ]
                refine wpAnyL_take 8 (v := ?_) rfl (by kernel_rfl) (fun _ _ _ h => h) (Or.inl ⟨by kernel_rfl, ?_⟩) hHeld ?_
                rotate_left
                · (intro w hSw; (try dsimp only at hSw); go_simp; try with_reducible rfl)
                try simp only [Act.put, List.setIfInBounds_toArray, List.set_cons_zero, List.set_cons_succ]
                refine wpAnyL_take 9 (v := ?_) rfl (by kernel_rfl) (fun _ _ _ h => h) (Or.inl ⟨by kernel_rfl, ?_⟩) hHeld ?_
                rotate_left
                · (intro w hSw; (try dsimp only at hSw); go_simp; try with_reducible rfl)
                try simp only [Act.put, List.setIfInBounds_toArray, List.set_cons_zero, List.set_cons_succ]
                refine wpAnyL_take 10 (v := ?_) rfl (by kernel_rfl) (fun _ _ _ h => h) (Or.inl ⟨by kernel_rfl, ?_⟩) hHeld ?_
                rotate_left
                · (intro w hSw; (try dsimp only at hSw); go_simp; try with_reducible rfl)
                try simp only [Act.put, List.setIfInBounds_toArray, List.set_cons_zero, List.set_cons_succ]
                refine wpAnyL_take 11 (v := ?_) rfl (by kernel_rfl) (fun _ _ _ h => h) (Or.inl ⟨by kernel_rfl, ?_⟩) hHeld ?_
                rotate_left
                · (intro w hSw; (try dsimp only at hSw); go_simp; try with_reducible rfl)
                try simp only [Act.put, List.setIfInBounds_toArray, List.set_cons_zero, List.set_cons_succ]
                refine wpAnyL_take 12 (v := ?_) rfl (by kernel_rfl) (fun _ _ _ h => h) (Or.inl ⟨by kernel_rfl, ?_⟩) hHeld ?_
                rotate_left
                · (intro w hSw; (try dsimp only at hSw); go_simp; try with_reducible rfl)
                try simp only [Act.put, List.setIfInBounds_toArray, List.set_cons_zero, List.set_cons_succ]
                refine wpAnyL_take 13 (v := ?_) rfl (by kernel_rfl) (fun _ _ _ h => h) (Or.inr ⟨by kernel_rfl, ?_⟩) hHeld ?_
                rotate_left
                · rfl
                try simp only [Act.put, List.setIfInBounds_toArray, List.set_cons_zero, List.set_cons_succ]
                refine wpAnyL_take 14 (v := ?_) rfl (by kernel_rfl) (fun _ _ _ h => h) (Or.inr ⟨by kernel_rfl, ?_⟩) hHeld ?_
                rotate_left
                · rfl
                try simp only [Act.put, List.setIfInBounds_toArray, List.set_cons_zero, List.set_cons_succ]
                refine wpAnyL_take 15 (v := ?_) rfl (by kernel_rfl) (fun _ _ _ h => h) (Or.inr ⟨by kernel_rfl, ?_⟩) hHeld ?_
                rotate_left
                · rfl
                try simp only [Act.put, List.setIfInBounds_toArray, List.set_cons_zero, List.set_cons_succ]
                refine wpAnyL_take 16 (v := ?_) rfl (by kernel_rfl) (fun _ _ _ h => h) (Or.inr ⟨by kernel_rfl, ?_⟩) hHeld ?_
                rotate_left
                · rfl
                try simp only [Act.put, List.setIfInBounds_toArray, List.set_cons_zero, List.set_cons_succ]
                refine wpAnyL_take 17 (v := ?_) rfl (by kernel_rfl) (fun _ _ _ h => h) (Or.inr ⟨by kernel_rfl, ?_⟩) hHeld ?_
                rotate_left
                · rfl
                try simp only [Act.put, List.setIfInBounds_toArray, List.set_cons_zero, List.set_cons_succ]
                refine wpAnyL_take 18 (v := ?_) rfl (by kernel_rfl) (fun _ _ _ h => h) (Or.inl ⟨by kernel_rfl, ?_⟩) hHeld ?_
                rotate_left
                · (intro w hSw; (try dsimp only at hSw); go_simp; try with_reducible rfl)
                try simp only [Act.put, List.setIfInBounds_toArray, List.set_cons_zero, List.set_cons_succ]
                refine wpAnyL_one 19 (by kernel_rfl) rfl (fun K hK => ?_)
                go_simp
                refine hK.out _ _ (fun h => absurd rfl h) ?_
                clear hK K
                try simp only [Act.put, List.setIfInBounds_toArray, List.set_cons_zero, List.set_cons_succ]
                refine wpAnyL_done (by kernel_rfl) ?_ _
                clear hHeld hF
                obtain ⟨⟨b0, b1, b2, b3, b4⟩, ⟨f0, f1, f2, f3, f4⟩, ⟨z0, z1, z2, z3, z4⟩⟩ := hM.cells
                obtain ⟨w11, hw11, hP11⟩ := hM.done HP6.out Hok'.out Hokr'.out
                have HP11 := Lib.hid hP11
                clear hM hP11
                go_wp2_with fail
                rw [← hw11]
                go_roundw
                case rel => exact ⟨k + 1, nn + 1, A', n', c', D', R', by go_num, by go_num, by omega, HP11.out, by omega, by omega, HA.out, fun h => (by rw [Hdn'.out] at h; cases h)⟩
                case measure => simp [intOf]; omega
              · have e0 : ((kd : Int) == 0) = false := beq_false_of_ne h0
                have e9 : decide ((9 : Int) < kd) = false := decide_eq_false (by omega)
                by_cases hneg : kd < 0
                · have en : decide (kd < (0 : Int)) = true := decide_eq_true hneg
                  have hF : D'.files = R'.files := Hlk'.out.2 (by unfold Dsk.isApp; simp; omega)
                  have HF := Lib.hid hF
                  clear hF
                  go_upto_region 19 with (first
                    | (go_at_call 35; refine (steps_calls d mp mt D' _ hM.disk).mono ?_; rintro e w' ⟨rfl, rfl⟩)
                    | (go_at_call 32; refine (down_calls d mp mt D' _ hM.disk).mono ?_; rintro e w' ⟨rfl, rfl⟩; rw [Hdn'.out]))
                  obtain ⟨z0, z1, z2, z3, z4⟩ := hM.cells.2.2
                  have hF := HF.out
                  refine wp_region_last (fun w' => w'.cell? ⟨g2, 0, none⟩ = some (.int .i64 R'.room) ∧ w'.cell? ⟨g2, 1, none⟩ = some (.slice A' n' c') ∧ w'.cell? ⟨g2, 2, none⟩ = some (.bool R'.down) ∧ w'.cell? ⟨g2, 3, none⟩ = some (.int .i64 R'.armed) ∧ w'.cell? ⟨g2, 4, none⟩ = some (.int .u64 R'.steps)) 19 (by kernel_rfl) hM.cells.2.2 (fun hHeld => ?_)
                  replace hM := hM.later ((Below.refl wq.heap.size wq).drew)
                  refine wpAnyL_take 0 (v := ?_) rfl (by kernel_rfl) (fun _ _ _ h => h) (Or.inl ⟨by kernel_rfl, ?_⟩) hHeld ?_
                  rotate_left
                  · (intro w hSw; (try dsimp only at hSw); go_simp; try with_reducible rfl)
                  try simp only [Act.put, List.setIfInBounds_toArray, List.set_cons_zero, List.set_cons_succ]
                  refine wpAnyL_take 1 (v := ?_) rfl (by kernel_rfl) (fun _ _ _ h => h) (Or.inl ⟨by kernel_rfl, ?_⟩) hHeld ?_
                  rotate_left
                  · (intro w hSw; (try dsimp only at hSw); go_simp; try with_reducible rfl)
                  try simp only [Act.put, List.setIfInBounds_toArray, List.set_cons_zero, List.set_cons_succ]
                  refine wpAnyL_take 2 (v := ?_) rfl (by kernel_rfl) (fun _ _ _ h => h) (Or.inl ⟨by kernel_rfl, ?_⟩) hHeld ?_
                  rotate_left
                  · (intro w hSw; (try dsimp only at hSw); go_simp; try with_reducible rfl)
                  try simp only [Act.put, List.setIfInBounds_toArray, List.set_cons_zero, List.set_cons_succ]
                  refine wpAnyL_take 4 (v := ?_) rfl (by kernel_rfl) (fun _ _ _ h => h) (Or.inl ⟨by kernel_rfl, ?_⟩) hHeld ?_
                  rotate_left
                  · (intro w hSw; (try dsimp only at hSw); go_simp; try with_reducible rfl)
                  try simp only [Act.put, List.setIfInBounds_toArray, List.set_cons_zero, List.set_cons_succ]
                  refine wpAnyL_take 5 (v := ?_) rfl (by kernel_rfl) (fun _ _ _ h => h) (Or.inl ⟨by kernel_rfl, ?_⟩) hHeld ?_
                  rotate_left
                  · (intro w hSw; (try dsimp only at hSw); go_simp; try with_reducible rfl)
                  try simp only [Act.put, List.setIfInBounds_toArray, List.set_cons_zero, List.set_cons_succ]
                  refine wpAnyL_one 3 (by kernel_rfl) rfl (fun K hK => ?_)
                  go_simp
                  go_at_call 37
                  refine (files23_calls d mp mt D' _ hM.disk Hok'.out).mono ?_
                  rintro e w9 ⟨A9, n9, c9, rfl, hf9, hc9, hb9⟩
                  replace hM := hM.later hb9
                  clear hHeld
                  have hHeld := hM.cells.2.2
                  refine hK.out _ _ (fun _ => hHeld) ?_
                  clear hK K
                  try simp only [Act.put, List.setIfInBounds_toArray, List.set_cons_zero, List.set_cons_succ]
                  refine wpAnyL_one 6 (by kernel_rfl) rfl (fun K hK => ?_)
                  go_simp
                  obtain rfl : n' = n9 := by have h1 := hf9.1; have h2 := hM.files.1; rw [hF] at h1; omega
                  rw [hF] at hf9
                  go_at_call 36
                  refine (refsame_calls A9 A' n' c9 c' R'.files _ hf9 hM.files (by have h1 := hf9.1; have h2 := Hokr'.out.many; omega)).mono ?_
                  rintro e w10 ⟨rfl, hb10⟩
                  replace hM := hM.later hb10
                  clear hHeld
                  have hHeld := hM.cells.2.2
                  refine hK.out _ _ (fun _ => hHeld) ?_
                  clear hK K
                  try simp only [Act.put, List.setIfInBounds_toArray, List.set_cons_zero, List.set_cons_succ]
                  refine wpAnyL_take 7 (v := ?_) rfl (by kernel_rfl) (fun _ _ _ h => h) (Or.inl ⟨by kernel_rfl, ?_⟩) hHeld ?_
                  rotate_left
                  · (intro w hSw; (try dsimp only at hSw); go_simp; try with_reducible rfl)
                  try simp only [Act.put, List.setIfInBounds_toArray, List.set_cons_zero, List.set_cons_succ]
                  refine wpAnyL_take 8 (v := ?_) rfl (by kernel_rfl) (fun _ _ _ h => h) (Or.inl ⟨by kernel_rfl, ?_⟩) hHeld ?_
                  rotate_left
                  · (intro w hSw; (try dsimp only at hSw); go_simp; try with_reducible rfl)
                  try simp only [Act.put, List.setIfInBounds_toArray, List.set_cons_zero, List.set_cons_succ]
                  refine wpAnyL_take 9 (v := ?_) rfl (by kernel_rfl) (fun _ _ _ h => h) (Or.inl ⟨by kernel_rfl, ?_⟩) hHeld ?_
                  rotate_left
                  · (intro w hSw; (try dsimp only at hSw); go_simp; try with_reducible rfl)
                  try simp only [Act.put, List.setIfInBounds_toArray, List.set_cons_zero, List.set_cons_succ]
                  refine wpAnyL_take 10 (v := ?_) rfl (by kernel_rfl) (fun _ _ _ h => h) (Or.inl ⟨by kernel_rfl, ?_⟩) hHeld ?_
                  rotate_left
                  · (intro w hSw; (try dsimp only at hSw); go_simp; try with_reducible rfl)
                  try simp only [Act.put, List.setIfInBounds_toArray, List.set_cons_zero, List.set_cons_succ]
                  refine wpAnyL_take 11 (v := ?_) rfl (by kernel_rfl) (fun _ _ _ h => h) (Or.inl ⟨by kernel_rfl, ?_⟩) hHeld ?_
                  rotate_left
                  · (intro w hSw; (try dsimp only at hSw); go_simp; try with_reducible rfl)
                  try simp only [Act.put, List.setIfInBounds_toArray, List.set_cons_zero, List.set_cons_succ]
                  refine wpAnyL_take 12 (v := ?_) rfl (by kernel_rfl) (fun _ _ _ h => h) (Or.inl ⟨by kernel_rfl, ?_⟩) hHeld ?_
                  rotate_left
                  · (intro w hSw; (try dsimp only at hSw); go_simp; try with_reducible rfl)
                  try simp only [Act.put, List.setIfInBounds_toArray, List.set_cons_zero, List.set_cons_succ]
                  refine wpAnyL_take 13 (v := ?_) rfl (by kernel_rfl) (fun _ _ _ h => h) (Or.inr ⟨by kernel_rfl, ?_⟩) hHeld ?_
                  rotate_left
                  · rfl
                  try simp only [Act.put, List.setIfInBounds_toArray, List.set_cons_zero, List.set_cons_succ]
                  refine wpAnyL_take 14 (v := ?_) rfl (by kernel_rfl) (fun _ _ _ h => h) (Or.inr ⟨by kernel_rfl, ?_⟩) hHeld ?_
                  rotate_left
                  · rfl
                  try simp only [Act.put, List.setIfInBounds_toArray, List.set_cons_zero, List.set_cons_succ]
                  refine wpAnyL_take 15 (v := ?_) rfl (by kernel_rfl) (fun _ _ _ h => h) (Or.inr ⟨by kernel_rfl, ?_⟩) hHeld ?_
                  rotate_left
                  · rfl
                  try simp only [Act.put, List.setIfInBounds_toArray, List.set_cons_zero, List.set_cons_succ]
                  refine wpAnyL_take 16 (v := ?_) rfl (by kernel_rfl) (fun _ _ _ h => h) (Or.inr ⟨by kernel_rfl, ?_⟩) hHeld ?_
                  rotate_left
                  · rfl
                  try simp only [Act.put, List.setIfInBounds_toArray, List.set_cons_zero, List.set_cons_succ]
                  refine wpAnyL_take 17 (v := ?_) rfl (by kernel_rfl) (fun _ _ _ h => h) (Or.inr ⟨by kernel_rfl, ?_⟩) hHeld ?_
                  rotate_left
                  · rfl
                  try simp only [Act.put, List.setIfInBounds_toArray, List.set_cons_zero, List.set_cons_succ]
                  refine wpAnyL_take 18 (v := ?_) rfl (by kernel_rfl) (fun _ _ _ h => h) (Or.inl ⟨by kernel_rfl, ?_⟩) hHeld ?_
                  rotate_left
                  · (intro w hSw; (try dsimp only at hSw); go_simp; try with_reducible rfl)
                  try simp only [Act.put, List.setIfInBounds_toArray, List.set_cons_zero, List.set_cons_succ]
                  refine wpAnyL_one 19 (by kernel_rfl) rfl (fun K hK => ?_)
                  go_simp
                  refine hK.out _ _ (fun h => absurd rfl h) ?_
                  clear hK K
                  try simp only [Act.put, List.setIfInBounds_toArray, List.set_cons_zero, List.set_cons_succ]
                  refine wpAnyL_done (by kernel_rfl) ?_ _
                  clear hHeld hF
                  obtain ⟨⟨b0, b1, b2, b3, b4⟩, ⟨f0, f1, f2, f3, f4⟩, ⟨z0, z1, z2, z3, z4⟩⟩ := hM.cells
                  obtain ⟨w11, hw11, hP11⟩ := hM.done HP6.out Hok'.out Hokr'.out
                  have HP11 := Lib.hid hP11
                  clear hM hP11
                  go_wp2_with fail
                  rw [← hw11]
                  go_roundw
                  case rel => exact ⟨k + 1, nn + 1, A', n', c', D', R', by go_num, by go_num, by omega, HP11.out, by omega, by omega, HA.out, fun h => (by rw [Hdn'.out] at h; cases h)⟩
                  case measure => simp [intOf]; omega
                · have en : decide (kd < (0 : Int)) = false := decide_eq_false hneg
                  have hF : D'.files = D.files := Hfil.out (by unfold Dsk.isApp; simp; omega)
                  have HF := Lib.hid hF
                  clear hF
                  go_upto_region 19 with (first
                    | (go_at_call 35; refine (steps_calls d mp mt D' _ hM.disk).mono ?_; rintro e w' ⟨rfl, rfl⟩)
                    | (go_at_call 32; refine (down_calls d mp mt D' _ hM.disk).mono ?_; rintro e w' ⟨rfl, rfl⟩; rw [Hdn'.out]))
                  obtain ⟨z0, z1, z2, z3, z4⟩ := hM.cells.2.2
                  have hF := HF.out
                  refine wp_region_last (fun w' => w'.cell? ⟨g2, 0, none⟩ = some (.int .i64 R'.room) ∧ w'.cell? ⟨g2, 1, none⟩ = some (.slice A' n' c') ∧ w'.cell? ⟨g2, 2, none⟩ = some (.bool R'.down) ∧ w'.cell? ⟨g2, 3, none⟩ = some (.int .i64 R'.armed) ∧ w'.cell? ⟨g2, 4, none⟩ = some (.int .u64 R'.steps)) 19 (by kernel_rfl) hM.cells.2.2 (fun hHeld => ?_)
                  replace hM := hM.later ((Below.refl wq.heap.size wq).drew)
                  refine wpAnyL_take 0 (v := ?_) rfl (by kernel_rfl) (fun _ _ _ h => h) (Or.inl ⟨by kernel_rfl, ?_⟩) hHeld ?_
                  rotate_left
                  · (intro w hSw; (try dsimp only at hSw); go_simp; try with_reducible rfl)
                  try simp only [Act.put, List.setIfInBounds_toArray, List.set_cons_zero, List.set_cons_succ]
                  refine wpAnyL_take 1 (v := ?_) rfl (by kernel_rfl) (fun _ _ _ h => h) (Or.inl ⟨by kernel_rfl, ?_⟩) hHeld ?_
                  rotate_left
                  · (intro w hSw; (try dsimp only at hSw); go_simp; try with_reducible rfl)
                  try simp only [Act.put, List.setIfInBounds_toArray, List.set_cons_zero, List.set_cons_succ]
                  refine wpAnyL_take 2 (v := ?_) rfl (by kernel_rfl) (fun _ _ _ h => h) (Or.inr ⟨by kernel_rfl, ?_⟩) hHeld ?_
                  rotate_left
                  · rfl
                  try simp only [Act.put, List.setIfInBounds_toArray, List.set_cons_zero, List.set_cons_succ]
                  refine wpAnyL_take 3 (v := ?_) rfl (by kernel_rfl) (fun _ _ _ h => h) (Or.inr ⟨by kernel_rfl, ?_⟩) hHeld ?_
                  rotate_left
                  · rfl
                  try simp only [Act.put, List.setIfInBounds_toArray, List.set_cons_zero, List.set_cons_succ]
                  refine wpAnyL_take 4 (v := ?_) rfl (by kernel_rfl) (fun _ _ _ h => h) (Or.inr ⟨by kernel_rfl, ?_⟩) hHeld ?_
                  rotate_left
                  · rfl
                  try simp only [Act.put, List.setIfInBounds_toArray, List.set_cons_zero, List.set_cons_succ]
                  refine wpAnyL_take 5 (v := ?_) rfl (by kernel_rfl) (fun _ _ _ h => h) (Or.inr ⟨by kernel_rfl, ?_⟩) hHeld ?_
                  rotate_left
                  · rfl
                  try simp only [Act.put, List.setIfInBounds_toArray, List.set_cons_zero, List.set_cons_succ]
                  refine wpAnyL_take 6 (v := ?_) rfl (by kernel_rfl) (fun _ _ _ h => h) (Or.inr ⟨by kernel_rfl, ?_⟩) hHeld ?_
                  rotate_left
                  · rfl
                  try simp only [Act.put, List.setIfInBounds_toArray, List.set_cons_zero, List.set_cons_succ]
                  refine wpAnyL_take 7 (v := ?_) rfl (by kernel_rfl) (fun _ _ _ h => h) (Or.inr ⟨by kernel_rfl, ?_⟩) hHeld ?_
                  rotate_left
                  · rfl
                  try simp only [Act.put, List.setIfInBounds_toArray, List.set_cons_zero, List.set_cons_succ]
                  refine wpAnyL_take 8 (v := ?_) rfl (by kernel_rfl) (fun _ _ _ h => h) (Or.inl ⟨by kernel_rfl, ?_⟩) hHeld ?_
                  rotate_left
                  · (intro w hSw; (try dsimp only at hSw); go_simp; try with_reducible rfl)
                  try simp only [Act.put, List.setIfInBounds_toArray, List.set_cons_zero, List.set_cons_succ]
                  refine wpAnyL_take 9 (v := ?_) rfl (by kernel_rfl) (fun _ _ _ h => h) (Or.inl ⟨by kernel_rfl, ?_⟩) hHeld ?_
                  rotate_left
                  · (intro w hSw; (try dsimp only at hSw); go_simp; try with_reducible rfl)
                  try simp only [Act.put, List.setIfInBounds_toArray, List.set_cons_zero, List.set_cons_succ]
                  refine wpAnyL_take 10 (v := ?_) rfl (by kernel_rfl) (fun _ _ _ h => h) (Or.inl ⟨by kernel_rfl, ?_⟩) hHeld ?_
                  rotate_left
                  · (intro w hSw; (try dsimp only at hSw); go_simp; try with_reducible rfl)
                  try simp only [Act.put, List.setIfInBounds_toArray, List.set_cons_zero, List.set_cons_succ]
                  refine wpAnyL_take 11 (v := ?_) rfl (by kernel_rfl) (fun _ _ _ h => h) (Or.inl ⟨by kernel_rfl, ?_⟩) hHeld ?_
                  rotate_left
                  · (intro w hSw; (try dsimp only at hSw); go_simp; try with_reducible rfl)
                  try simp only [Act.put, List.setIfInBounds_toArray, List.set_cons_zero, List.set_cons_succ]
                  refine wpAnyL_take 12 (v := ?_) rfl (by kernel_rfl) (fun _ _ _ h => h) (Or.inl ⟨by kernel_rfl, ?_⟩) hHeld ?_
                  rotate_left
                  · (intro w hSw; (try dsimp only at hSw); go_simp; try with_reducible rfl)
                  try simp only [Act.put, List.setIfInBounds_toArray, List.set_cons_zero, List.set_cons_succ]
                  refine wpAnyL_take 13 (v := ?_) rfl (by kernel_rfl) (fun _ _ _ h => h) (Or.inl ⟨by kernel_rfl, ?_⟩) hHeld ?_
                  rotate_left
                  · (intro w hSw; (try dsimp only at hSw); go_simp; try with_reducible rfl)
                  try simp only [Act.put, List.setIfInBounds_toArray, List.set_cons_zero, List.set_cons_succ]
                  refine wpAnyL_take 15 (v := ?_) rfl (by kernel_rfl) (fun _ _ _ h => h) (Or.inl ⟨by kernel_rfl, ?_⟩) hHeld ?_
                  rotate_left
                  · (intro w hSw; (try dsimp only at hSw); go_simp; try with_reducible rfl)
                  try simp only [Act.put, List.setIfInBounds_toArray, List.set_cons_zero, List.set_cons_succ]
                  refine wpAnyL_one 14 (by kernel_rfl) rfl (fun K hK => ?_)
                  go_simp
                  go_at_call 37
                  refine (files23_calls d mp mt D' _ hM.disk Hok'.out).mono ?_
                  rintro e w9 ⟨A9, n9, c9, rfl, hf9, hc9, hb9⟩
                  replace hM := hM.later hb9
                  clear hHeld
                  have hHeld := hM.cells.2.2
                  refine hK.out _ _ (fun _ => hHeld) ?_
                  clear hK K
                  try simp only [Act.put, List.setIfInBounds_toArray, List.set_cons_zero, List.set_cons_succ]
                  refine wpAnyL_one 16 (by kernel_rfl) rfl (fun K hK => ?_)
                  go_simp
                  obtain rfl : n5 = n9 := by have h1 := hf9.1; have h2 := hM.bef.1; rw [hF] at h1; omega
                  rw [hF] at hf9
                  go_at_call 36
                  refine (refsame_calls A9 A5 n5 c9 c5 D.files _ hf9 hM.bef (by have h1 := hf9.1; have h2 := HP6.out.ok.many; omega)).mono ?_
                  rintro e w10 ⟨rfl, hb10⟩
                  replace hM := hM.later hb10
                  clear hHeld
                  have hHeld := hM.cells.2.2
                  refine hK.out _ _ (fun _ => hHeld) ?_
                  clear hK K
                  try simp only [Act.put, List.setIfInBounds_toArray, List.set_cons_zero, List.set_cons_succ]
                  refine wpAnyL_take 17 (v := ?_) rfl (by kernel_rfl) (fun _ _ _ h => h) (Or.inl ⟨by kernel_rfl, ?_⟩) hHeld ?_
                  rotate_left
                  · (intro w hSw; (try dsimp only at hSw); go_simp; try with_reducible rfl)
                  try simp only [Act.put, List.setIfInBounds_toArray, List.set_cons_zero, List.set_cons_succ]
                  refine wpAnyL_take 18 (v := ?_) rfl (by kernel_rfl) (fun _ _ _ h => h) (Or.inl ⟨by kernel_rfl, ?_⟩) hHeld ?_
                  rotate_left
                  · (intro w hSw; (try dsimp only at hSw); go_simp; try with_reducible rfl)
                  try simp only [Act.put, List.setIfInBounds_toArray, List.set_cons_zero, List.set_cons_succ]
                  refine wpAnyL_one 19 (by kernel_rfl) rfl (fun K hK => ?_)
                  go_simp
                  refine hK.out _ _ (fun h => absurd rfl h) ?_
                  clear hK K
                  try simp only [Act.put, List.setIfInBounds_toArray, List.set_cons_zero, List.set_cons_succ]
                  refine wpAnyL_done (by kernel_rfl) ?_ _
                  clear hHeld hF
                  obtain ⟨⟨b0, b1, b2, b3, b4⟩, ⟨f0, f1, f2, f3, f4⟩, ⟨z0, z1, z2, z3, z4⟩⟩ := hM.cells
                  obtain ⟨w11, hw11, hP11⟩ := hM.done HP6.out Hok'.out Hokr'.out
                  have HP11 := Lib.hid hP11
                  clear hM hP11
                  go_wp2_with fail
                  rw [← hw11]
                  go_roundw
                  case rel => exact ⟨k + 1, nn + 1, A', n', c', D', R', by go_num, by go_num, by omega, HP11.out, by omega, by omega, HA.out, fun h => (by rw [Hdn'.out] at h; cases h)⟩
                  case measure => simp [intOf]; omega
        · have Hdn := Lib.hid hdn
          clear hdn
          by_cases h6 : 6 ≤ kd
          · have g6 : decide ((6 : Int) ≤ kd) = true := decide_eq_true h6
            have g9 : decide (kd ≤ (9 : Int)) = false := decide_eq_false (by omega)
            clear hsk
            go_wp2_with (go_at_call 32; refine (down_calls d mp mt D _ HP5.out.disk).mono ?_; rintro e w' ⟨rfl, rfl⟩; rw [Hdn.out])
            go_roundw
            case rel => exact ⟨k + 1, nn, A, n, c, D, R, by go_num, rfl, by omega, HP5.out, by omega, by omega, HA0.out, HL.out⟩
            case measure => simp [intOf]; omega
          · have g6 : decide ((6 : Int) ≤ kd) = false := decide_eq_false h6
            clear hsk
            go_wp2_with (go_at_call 32; refine (down_calls d mp mt D _ HP5.out.disk).mono ?_; rintro e w' ⟨rfl, rfl⟩; rw [Hdn.out])
            go_roundw
            case rel => exact ⟨k + 1, nn, A, n, c, D, R, by go_num, rfl, by omega, HP5.out, by omega, by omega, HA0.out, HL.out⟩
            case measure => simp [intOf]; omega
    · cases hdn : D.down
      · have Hdn := Lib.hid hdn
        clear hdn
        go_wp2_with (first
          | (go_at_call 32; refine (down_calls d mp mt D _ HP.out.disk).mono ?_; rintro e w' ⟨rfl, rfl⟩; rw [Hdn.out])
          | (go_at_call 28; refine (Hlv.out _).mono ?_; rintro e w3 ⟨rfl, hb3⟩))
        go_ret
        exact ⟨rfl, below_next (below_next Hbw1.out HP.out.below) hb3⟩
      · have Hdn := Lib.hid hdn
        clear hdn
        have hl1 := Hlo1.out
        simp only [lightOp, List.getD_cons_zero, Bool.and_eq_true, decide_eq_true_eq] at hl1
        have hs1 : o.name.size ≤ 9223372036854775807 := by omega
        have hs2 : o.to_.size ≤ 9223372036854775807 := by omega
        have hs3 : o.text.size ≤ 9223372036854775807 := by omega
        clear hl1
        go_upto_region 26 with (first
          | (go_at_call 32; refine (down_calls d mp mt D _ HP.out.disk).mono ?_; rintro e w' ⟨rfl, rfl⟩; rw [Hdn.out])
          | (go_at_call 37; refine (files23_calls d mp mt D _ HP.out.disk HP.out.ok).mono ?_; rintro e w9 ⟨A5, n5, c5, rfl, hf5, hc5, hb5⟩))
        have hF : Fin2 w1 w9 d mp mt D A5 n5 D.files := ⟨HP.out.disk.below hb5, hf5, below_next HP.out.below hb5, HP.out.hd, HP.out.hmp, HP.out.hmt⟩
        have hok := HP.out.ok
        have hn5 : n5 ≤ 128 := by have h1 := hf5.1; have h2 := hok.many; omega
        have hst2 : D.steps < 4611686018427387904 := by omega
        clear hf5 hc5 hb5
        obtain ⟨x0, x1, x2, x3, x4, x5⟩ := op_cells Hbx1.out hF.below
        go_upto_region 28 with (first
          | (refine wpList_to_bytes _ rfl _ rfl o.text rfl ?_; intro At2 ct2 wt hbt2 hne2 hbl2; replace hF := hF.later hbl2; clear x0 x1 x2 x3 x4 x5; obtain ⟨x0, x1, x2, x3, x4, x5⟩ := op_cells Hbx1.out hF.below)
          | (go_at_call 41; refine (append_down hF.disk Hdn.out hok hst2 o.name hs1 At2 o.text.size ct2 o.text.data.toList hbt2 hs3).mono ?_; rintro e wt1 ⟨rfl, hL⟩; replace hF := hF.left hL; clear hL hbt2 x0 x1 x2 x3 x4 x5; obtain ⟨x0, x1, x2, x3, x4, x5⟩ := op_cells Hbx1.out hF.below)
          | (go_at_call 42; refine (sync_down hF.disk Hdn.out hok hst2 o.name hs1).mono ?_; rintro e wt2 ⟨rfl, hL⟩; replace hF := hF.left hL; clear hL x0 x1 x2 x3 x4 x5; obtain ⟨x0, x1, x2, x3, x4, x5⟩ := op_cells Hbx1.out hF.below)
          | (go_at_call 43; refine (cut_down hF.disk Hdn.out hok hst2 o.name hs1 _).mono ?_; rintro e wt3 ⟨rfl, hL⟩; replace hF := hF.left hL; clear hL x0 x1 x2 x3 x4 x5; obtain ⟨x0, x1, x2, x3, x4, x5⟩ := op_cells Hbx1.out hF.below)
          | (go_at_call 44; refine (remove_down hF.disk Hdn.out hok hst2 o.name hs1).mono ?_; rintro e wt4 ⟨rfl, hL⟩; replace hF := hF.left hL; clear hL x0 x1 x2 x3 x4 x5; obtain ⟨x0, x1, x2, x3, x4, x5⟩ := op_cells Hbx1.out hF.below)
          | (go_at_call 45; refine (move_down hF.disk Hdn.out hok hst2 o.name o.to_ hs1 hs2).mono ?_; rintro e wt5 ⟨rfl, hL⟩; replace hF := hF.left hL; clear hL x0 x1 x2 x3 x4 x5; obtain ⟨x0, x1, x2, x3, x4, x5⟩ := op_cells Hbx1.out hF.below)
          | (go_at_call 40; refine (arm_down hF.disk Hdn.out _).mono ?_; rintro e wt6 ⟨rfl, hL⟩; replace hF := hF.left hL; clear hL x0 x1 x2 x3 x4 x5; obtain ⟨x0, x1, x2, x3, x4, x5⟩ := op_cells Hbx1.out hF.below)
          | (go_at_call 46; refine (resize_down hF.disk Hdn.out _).mono ?_; rintro e wt7 ⟨rfl, hL⟩; replace hF := hF.left hL; clear hL x0 x1 x2 x3 x4 x5; obtain ⟨x0, x1, x2, x3, x4, x5⟩ := op_cells Hbx1.out hF.below))
        clear x0 x1 x2 x3 x4 x5
        have hsame : ∀ W (A9 : Option Addr) (c9 : Nat), RFiles W A9 n5 D.files → RFiles W A5 n5 D.files → Calls Try.prog 36 #[.slice A9 n5 c9, .slice A5 n5 c5] W fun e w' => e = .returned (.bool true) ∧ Below W.heap.size W w' := fun W A9 c9 h1 h2 => refsame_calls A9 A5 n5 c9 c5 D.files W h1 h2 (by omega)
        have Hsame := Lib.hid hsame
        clear hsame
        go_wp2_with (first
          | (go_at_call 37; refine (files23_calls d mp mt _ _ hF.disk hok).mono ?_; rintro e wu1 ⟨A9, n9, c9, rfl, hf9, hc9, hb9⟩; replace hf9 : RFiles wu1 A9 n9 D.files := hf9; obtain rfl : n5 = n9 := (by have h1 := hf9.1; have h2 := hF.files.1; omega); replace hF := hF.later hb9)
          | (go_at_call 36; refine (Hsame.out _ _ _ hf9 hF.files).mono ?_; rintro e wu2 ⟨rfl, hbs⟩; replace hF := hF.later hbs)
          | (go_at_call 47; refine (boot_calls d mp mt D _ hF.disk).mono ?_; rintro e wu3 ⟨rfl, hL⟩; replace hF := hF.left hL; replace hok := hok.boot; clear hL)
          | (go_at_call 32; refine (down_calls d mp mt D.boot _ hF.disk).mono ?_; rintro e w' ⟨rfl, rfl⟩; rw [show D.boot.down = false from rfl])
          | (go_at_call 28; refine (Hlv.out _).mono ?_; rintro e wu4 ⟨rfl, hb3⟩))
        go_ret
        exact ⟨rfl, below_next (below_next Hbw1.out hF.below) hb3⟩
end Go.Proofs.Ytcfgdlpdnpnhmaa
set_option linter.unusedVariables false
set_option linter.unusedSimpArgs false
namespace Go.Proofs.Ytcfgdlpdnpnhmaa
open Go.Deep

theorem mapM_at {α β : Type} (f : α → Option β) : ∀ (l : List α) (cs : List β), l.mapM f = some cs → cs.length = l.length ∧ ∀ i (h : i < l.length), f l[i] = cs[i]?
  | [], cs, h => by
    simp at h
    subst h
    exact ⟨rfl, fun i hi => absurd hi (by simp)⟩
  | a :: l, cs, h => by
    simp only [List.mapM_cons, Option.bind_eq_bind, Option.bind_eq_some_iff, Option.pure_def, Option.some.injEq] at h
    obtain ⟨r, hr, rs, hrs, rfl⟩ := h
    obtain ⟨h1, h2⟩ := mapM_at f l rs hrs
    refine ⟨by simp [h1], fun i hi => ?_⟩
    cases i with
    | zero => simpa using hr
    | succ i => simpa using h2 i (by simpa using hi)
theorem cells?_at {w : World} {base n : Nat} {a : Addr} {cs : List Value} (h : w.cells? base a n = some cs) : cs.length = n ∧ ∀ i, i < n → w.cell? (a.add i) = cs[i]? := by
  unfold World.cells? at h
  split at h
  · obtain ⟨h1, h2⟩ := mapM_at _ _ _ h
    rw [List.length_range] at h1
    refine ⟨h1, fun i hi => ?_⟩
    have := h2 i (by simpa using hi)
    simpa using this
  · cases h

section
variable {H : Type} {enc : TypeId × Value → H} {w : World} {base : Nat} {spare : Nat → Bool} {held : Bool}
theorem ops_open {fuel : Nat} {cs : List Value} {x : DataW H × List MemPlace} (h : DataW.trod enc Try.prog w base spare held fuel 39 cs = some x) :
    ∃ A n c l, cs = [.slice A n c] ∧ Ops w A n l ∧ n ≤ c ∧ (n = 0 ∨ ∃ el sp, x.1 = .slice el sp ∧ el.length = n) := by
  rcases open_slice Try.underlying39 h with ⟨rfl, _⟩ | ⟨a, len, cap, m, n, V, P, rfl, _, hl, _, hm, hx, hel⟩
  · exact ⟨none, 0, 0, [], rfl, ⟨rfl, fun h => absurd h (by omega)⟩, Nat.le_refl _, Or.inl rfl⟩
  · have hlm : len ≤ m := by rw [hm]; split <;> omega
    have each : ∀ i, i < len → ∃ o : Opp, ∃ cs, OpCells w cs o ∧ ∀ j, j < 6 → w.cell? (a.add (i * 6 + j)) = cs[j]? := by
      intro i hi
      obtain ⟨cs', h1, h2⟩ := hel i (by omega)
      rw [cells_op] at h1
      obtain ⟨o, ho⟩ := op_open h2
      obtain ⟨h3, h4⟩ := cells?_at h1
      refine ⟨o, cs', ho, fun j hj => ?_⟩
      rw [← h4 j hj, add_of_add]
    obtain ⟨f, hf⟩ := choose_lt each
    refine ⟨some a, len, cap, (List.range len).map f, rfl, ⟨by simp, fun hn => ⟨a, rfl, fun j hj => ?_⟩⟩, hl, Or.inr ⟨_, _, by rw [hx], by simp⟩⟩
    have hg : ((List.range len).map f).getD j default = f j := by simp [List.getD_eq_getElem?_getD, hj]
    rw [hg]
    exact hf j hj
end
end Go.Proofs.Ytcfgdlpdnpnhmaa
