/- Contracts of the document's disk (curfewref23): Sync, Remove. -/
import Derived.Test.YtcfgdlpdnpnhmaaRef3
set_option linter.unusedVariables false
set_option linter.unusedSimpArgs false
namespace Go.Proofs.Ytcfgdlpdnpnhmaa
open Go.RowKit Go.Maps

theorem place_none {l : List File} {s : Bs} (h : Dsk.find l s = none) : place l s = -1 := by
  unfold place
  have : l.findIdx? (fun f => f.name == s) = none := by
    rw [List.findIdx?_eq_none_iff]
    exact fun x hx => by have := List.find?_eq_none.1 h x hx; simpa using this
  rw [this]
theorem place_some {l : List File} {s : Bs} {f : File} (h : Dsk.find l s = some f) : ∃ (i : Nat) (hi : i < l.length), place l s = i ∧ l[i] = f := by
  unfold place
  obtain ⟨hf, i, hi, he, hlt⟩ := List.find?_eq_some_iff_getElem.1 h
  refine ⟨i, hi, ?_, he⟩
  have : l.findIdx? (fun f => f.name == s) = some i := by
    rw [List.findIdx?_eq_some_iff_getElem]
    exact ⟨hi, by rw [he]; exact hf, fun j hj => by simpa using hlt j hj⟩
  rw [this]
theorem step_code (D : Dsk) (h : (D.step.2 == 0) = false) : D.step.2 = 50 := by
  unfold Dsk.step at *
  split
  · rfl
  · split <;> simp_all
theorem step_room (D : Dsk) : D.step.1.room = D.room := by
  unfold Dsk.step
  split
  · rfl
  · split <;> rfl

/-- A call that answers a disk and an error's number. -/
def RefPair (w : World) (D : Dsk) (code : Int) (e : Ending) (w' : World) : Prop := ∃ A n c, e = .returned (.tuple #[refV D A n c, .int .i64 code]) ∧ RFiles w' A n D.files ∧ n ≤ c ∧ Below w.heap.size w w'

theorem blk_new1 (w : World) (X R : Obj) : ((w.alloc X).alloc R).heap[w.heap.size + 1]? = some R := by simpa using blk_new (w.alloc X) R
theorem al1 (w : World) (a : Obj) : Below w.heap.size w (w.alloc a) := (Below.refl _ _).alloc (Nat.le_refl _) _
theorem al2 (w : World) (a b : Obj) : Below w.heap.size w ((w.alloc a).alloc b) := (al1 w a).alloc (by simp) _
theorem al3 (w : World) (a b c : Obj) : Below w.heap.size w (((w.alloc a).alloc b).alloc c) := (al2 w a b).alloc (by simp; omega) _
theorem al4 (w : World) (a b c d : Obj) : Below w.heap.size w ((((w.alloc a).alloc b).alloc c).alloc d) := (al3 w a b c).alloc (by simp; omega) _
theorem al5 (w : World) (a b c d e : Obj) : Below w.heap.size w (((((w.alloc a).alloc b).alloc c).alloc d).alloc e) := (al4 w a b c d).alloc (by simp; omega) _
theorem al6 (w : World) (a b c d e f : Obj) : Below w.heap.size w ((((((w.alloc a).alloc b).alloc c).alloc d).alloc e).alloc f) := (al5 w a b c d e).alloc (by simp; omega) _
theorem res_done {W : World} {g : Nat} {t : TypeId} {z : Array Value} (hz : z.size = 5) (hr : W.heap[g]? = some (.cells z t (0, 0))) (v0 v1 v2 v3 v4 : Value) (hs : ∀ (j : Nat) (s : ByteArray), z[j]? ≠ some (Value.string s)) :
    ∃ W', W' = ((((W.setCell ⟨g, 0, none⟩ v0).setCell ⟨g, 1, none⟩ v1).setCell ⟨g, 2, none⟩ v2).setCell ⟨g, 3, none⟩ v3).setCell ⟨g, 4, none⟩ v4 ∧ W'.heap[g]? = some (.cells #[v0, v1, v2, v3, v4] t (0, 0)) ∧ Ext [g] W W' ∧ ∀ A n l, RFiles W A n l → RFiles W' A n l := by
  have hE : Ext [g] W (((((W.setCell ⟨g, 0, none⟩ v0).setCell ⟨g, 1, none⟩ v1).setCell ⟨g, 2, none⟩ v2).setCell ⟨g, 3, none⟩ v3).setCell ⟨g, 4, none⟩ v4) :=
    (((((Ext.refl _ _).setCell (Or.inl (by simp)) _).setCell (Or.inl (by simp)) _).setCell (Or.inl (by simp)) _).setCell (Or.inl (by simp)) _).setCell (Or.inl (by simp)) _
  refine ⟨_, rfl, ?_, hE, fun A n l h => h.ext hE (fun q hq => by rw [List.mem_singleton.1 hq]; exact .of_cells hr hs)⟩
  obtain ⟨z0, z1, z2, z3, z4, rfl⟩ : ∃ z0 z1 z2 z3 z4, z = #[z0, z1, z2, z3, z4] := by
    rcases z with ⟨l⟩
    rcases l with _ | ⟨a, _ | ⟨b, _ | ⟨c, _ | ⟨d, _ | ⟨e, _ | ⟨f, l⟩⟩⟩⟩⟩⟩ <;> simp at hz
    exact ⟨a, b, c, d, e, rfl⟩
  exact blk_set (blk_set (blk_set (blk_set (blk_set hr 0 v0) 1 v1) 2 v2) 3 v3) 4 v4
theorem keep2 {w w' : World} {A : Option Addr} {n c : Nat} {l : List File} (h : RFiles w A n l) (hnc : n ≤ c) (hB : Below w.heap.size w w') : RFiles w' A n l ∧ n ≤ c ∧ Below w.heap.size w w' := ⟨h.below hB, hnc, hB⟩

set_option maxRecDepth 100000 in
set_option maxHeartbeats 4000000 in
theorem refsync_calls (D : Dsk) (A : Option Addr) (n c : Nat) (s : ByteArray) (w : World) (h : RFiles w A n D.files) (hnc : n ≤ c) (hn : n ≤ 1048000) (hs : D.steps < 4611686018427387904) (ha : -1 ≤ D.armed) (ha2 : D.armed ≤ 9223372036854775807) (hlen : ∀ f ∈ D.files, f.all.length ≤ 1048576) :
    Calls Try.prog 82 #[refV D A n c, .string s] w (RefPair w (D.sync s.data.toList).1 (D.sync s.data.toList).2) := by
  have Hf := Lib.hid (fun w1 (hb : Below w.heap.size w w1) => reffind_calls D A n c s w1 (h.below hb) (by omega))
  have Hst := Lib.hid (fun w1 => refstep_calls D A n c w1 hs ha ha2)
  have H := Lib.hid h
  have hl := Lib.hid h.1
  unfold refV at Hf Hst
  cases hd : D.down
  · unfold refV
    rw [hd] at Hf Hst
    cases hfd : Dsk.find D.files s.data.toList with
    | none =>
      rw [show D.sync s.data.toList = (D, 31) by unfold Dsk.sync; rw [hd, hfd]; rfl]
      rw [place_none hfd] at Hf
      rw [hd]
      clear h hfd
      go_enter Try.func82, Try.ntmps82
      go_wp2_with (go_at_call 126; refine (Hf.out _ (al2 w _ _)).mono ?_; rintro e w2 ⟨rfl, rfl⟩)
      exact bodyPost_ret (v := .tuple #[.agg #[.int .i64 D.room, .slice A n c, .bool false, .int .i64 D.armed, .int .u64 D.steps], .int .i64 31]) (by simp [results, Try.results82, go_sem]) rfl ⟨A, n, c, by unfold refV; rw [hd], keep2 H.out hnc (al3 w _ _ _)⟩
    | some f =>
      obtain ⟨i, hi, hp, hfi⟩ := place_some hfd
      rw [hp] at Hf
      have hsf := step_files D
      cases hst2 : D.step.2 == 0
      · rw [show D.sync s.data.toList = D.step by unfold Dsk.sync; rw [hd, hfd]; simp at hst2; simp [hst2]]
        have h50 := Lib.hid (step_code D hst2)
        rw [hd]
        clear h hfd
        go_enter Try.func82, Try.ntmps82
        go_wp2_with (first
          | (go_at_call 126; refine (Hf.out _ (al2 w _ _)).mono ?_; rintro e w2 ⟨rfl, rfl⟩)
          | (go_at_call 127; refine (Hst.out _).mono ?_; rintro e w3 ⟨rfl, rfl⟩))
        exact bodyPost_ret (v := .tuple #[.agg #[.int .i64 D.step.1.room, .slice A n c, .bool D.step.1.down, .int .i64 D.step.1.armed, .int .u64 D.step.1.steps], .int .i64 50]) (by simp [results, Try.results82, go_sem]) rfl ⟨A, n, c, by unfold refV; rw [h50.out], by rw [hsf]; exact keep2 H.out hnc (al5 w _ _ _ _ _)⟩
      · have h0 : D.step.2 = 0 := by simpa using hst2
        rw [show D.sync s.data.toList = ({ D.step.1 with files := Dsk.put D.step.1.files ⟨s.data.toList, f.all, f.all.length⟩ }, 0) by unfold Dsk.sync; rw [hd, hfd]; simp [h0]]
        have hfn : f.name = s.data.toList := (mem_find hfd).2
        have hfl : f.all.length ≤ 1048576 := hlen f (mem_find hfd).1
        have Hfi := Lib.hid hfi
        clear hfi hp
        have Hsf := Lib.hid hsf
        rw [hd]
        have hii : i < n := by have := h.1; omega
        have Hfn := Lib.hid hfn
        clear h hfd h0 hsf hlen hfn
        go_enter Try.func82, Try.ntmps82
        go_upto_region 9 with (first
          | (go_at_call 126; refine (Hf.out _ (al2 w _ _)).mono ?_; rintro e w2 ⟨rfl, rfl⟩)
          | (go_at_call 127; refine (Hst.out _).mono ?_; rintro e w3 ⟨rfl, hw3⟩; have hb3 : Below w.heap.size w w3 := (by rw [hw3]; exact al5 w _ _ _ _ _); have hx3 : w3.heap[w.heap.size]? = some (.cells #[.int .i64 D.room, .slice A n c, .bool false, .int .i64 D.armed, .int .u64 D.steps] 45 (0, 0)) := (by rw [hw3]; exact blk_alloc (blk_alloc (blk_alloc (blk_alloc (blk_new w _) _) _) _) _); have hr3 : w3.heap[w.heap.size + 1]? = some (.cells #[.int .i64 0, .slice none 0 0, .bool false, .int .i64 0, .int .u64 0] 45 (0, 0)) := (by rw [hw3]; exact blk_alloc (blk_alloc (blk_alloc (blk_new1 w _ _) _) _) _); clear hw3; have b0 := blk_cell hx3 0; have b1 := blk_cell hx3 1; have b2 := blk_cell hx3 2; have b3 := blk_cell hx3 3; have b4 := blk_cell hx3 4; have g0 := blk_frozen hx3 0; have g1 := blk_frozen hx3 1; have g2 := blk_frozen hx3 2; have g3 := blk_frozen hx3 3; have g4 := blk_frozen hx3 4))
        obtain ⟨w4, hw4, hx4, hE4, hRF4⟩ := res_done (by rfl) hx3 (.int .i64 D.step.1.room) (.slice A n c) (.bool D.step.1.down) (.int .i64 D.step.1.armed) (.int .u64 D.step.1.steps) (fun j x => by rcases j with _ | _ | _ | _ | _ | j <;> simp)
        rw [← hw4]
        have hf4 : RFiles w4 A n D.files := hRF4 _ _ _ (H.out.below hb3)
        have hr4 := hE4.obj hr3 (by simp)
        have hlt := blk_lt hr3
        have hb4 : Below w.heap.size w w4 := hb3.trans (hE4.below (by omega) (fun q hq => by rw [List.mem_singleton.1 hq]; exact Nat.le_refl _))
        obtain ⟨ad, b, o, nm, al, rfl, had, q0, q1, q2, e0, e1, z0, z1, en, ea⟩ := hf4.at2 hi
        rw [Hfi.out] at q2 en ea z1
        have hix := fun W => run_file_index ad n c i hii W
        simp only [had] at hix
        have b1' := blk_cell hx4 1
        have b0' := blk_cell hx4 0
        have b2' := blk_cell hx4 2
        have b3' := blk_cell hx4 3
        have b4' := blk_cell hx4 4
        have Hf4 := Lib.hid hf4
        have Hx4 := Lib.hid hx4
        have Hr4 := Lib.hid hr4
        have Hb4 := Lib.hid hb4
        have Hen := Lib.hid en
        have Hea := Lib.hid ea
        have Hz1 := Lib.hid z1
        clear hw4 hE4 hRF4 hb3 hx3 hr3 b0 b1 b2 b3 b4 g0 g1 g2 g3 g4 hf4 hx4 hr4 hb4 e0 e1 z0 had en ea z1
        go_upto_region 11 with fail
        obtain ⟨w5, hw5⟩ : ∃ w5, w5 = w4.alloc (.cells #[.string nm, .string al, .int .i64 al.size] 60) := ⟨_, rfl⟩
        rw [← hw5]
        have hb5 : Below w4.heap.size w4 w5 := by rw [hw5]; exact al1 _ _
        have hx5 := (hb5.block _ (blk_lt Hx4.out)).trans Hx4.out
        have hr5 := (hb5.block _ (blk_lt Hr4.out)).trans Hr4.out
        have hy5 : w5.heap[w4.heap.size]? = some (.cells #[.string nm, .string al, .int .i64 al.size] 60 (0, 0)) := by rw [hw5]; exact blk_new w4 _
        have b0 := blk_cell hx5 0
        have b1 := blk_cell hx5 1
        have b2 := blk_cell hx5 2
        have b3 := blk_cell hx5 3
        have b4 := blk_cell hx5 4
        have y0 := blk_cell hy5 0
        have y1 := blk_cell hy5 1
        have y2 := blk_cell hy5 2
        have Hb5 := Lib.hid hb5
        have Hr5 := Lib.hid hr5
        have hwc := refwith_calls D.step.1 (some ad) n c ⟨s.data.toList, f.all, f.all.length⟩ w5 (by rw [Hsf.out]; exact Hf4.out.below hb5) (by omega)
        clear hw5 hb5 hx5 hr5 hy5 b0' b1' b2' b3' b4' q0 q1 q2
        have e1 : (Value.agg #[encStr s.data.toList, encStr f.all, .int .i64 ((f.all.length : Nat) : Int)]) = .agg #[.string nm, .string al, .int .i64 al.size] := by rw [← Hfn.out, Hen.out, Hea.out, Hz1.out]
        dsimp only at hwc
        rw [e1] at hwc
        unfold refV at hwc
        have Hwc := Lib.hid hwc
        clear hwc e1
        go_wp2_with (go_at_call 128; refine Hwc.out.mono ?_; rintro e w6 ⟨A6, n6, c6, rfl, hf6, hc6, hb6⟩; unfold refV; have hr6 := (hb6.block (w.heap.size + 1) (blk_lt Hr5.out)).trans Hr5.out; have r0 := blk_cell hr6 0; have r1 := blk_cell hr6 1; have r2 := blk_cell hr6 2; have r3 := blk_cell hr6 3; have r4 := blk_cell hr6 4; have g0 := blk_frozen hr6 0; have g1 := blk_frozen hr6 1; have g2 := blk_frozen hr6 2; have g3 := blk_frozen hr6 3; have g4 := blk_frozen hr6 4)
        obtain ⟨w7, hw7, hx7, hE7, hRF7⟩ := res_done (by rfl) hr6 (.int .i64 D.step.1.room) (.slice A6 n6 c6) (.bool D.step.1.down) (.int .i64 D.step.1.armed) (.int .u64 D.step.1.steps) (fun j x => by rcases j with _ | _ | _ | _ | _ | j <;> simp)
        rw [← hw7]
        have x0 := blk_cell hx7 0
        have x1 := blk_cell hx7 1
        have x2 := blk_cell hx7 2
        have x3 := blk_cell hx7 3
        have x4 := blk_cell hx7 4
        have hb64 : Below w.heap.size w w6 := Hb4.out.trans ((Hb5.out.mono Hb4.out.size).trans (hb6.mono (by have := Hb4.out.size; have := Hb5.out.size; omega)))
        have hb7 : Below w.heap.size w w7 := hb64.trans (hE7.below (by have := hb64.size; omega) (fun q hq => by rw [List.mem_singleton.1 hq]; omega))
        exact bodyPost_ret (v := .tuple #[.agg #[.int .i64 D.step.1.room, .slice A6 n6 c6, .bool D.step.1.down, .int .i64 D.step.1.armed, .int .u64 D.step.1.steps], .int .i64 0]) (by simp [results, Try.results82, go_sem, x0, x1, x2, x3, x4]) rfl ⟨A6, n6, c6, rfl, hRF7 _ _ _ hf6, hc6, hb7⟩
  · rw [show D.sync s.data.toList = (D, 50) by unfold Dsk.sync; rw [hd]; rfl]
    clear h
    unfold refV
    rw [hd]
    rw [hd] at Hf
    go_enter Try.func82, Try.ntmps82
    go_wp2_with (go_at_call 126; refine (Hf.out _ (al2 w _ _)).mono ?_; rintro e w2 ⟨rfl, rfl⟩)
    exact bodyPost_ret (v := .tuple #[.agg #[.int .i64 D.room, .slice A n c, .bool true, .int .i64 D.armed, .int .u64 D.steps], .int .i64 50]) (by simp [results, Try.results82, go_sem]) rfl ⟨A, n, c, by unfold refV; rw [hd], keep2 H.out hnc (al3 w _ _ _)⟩
end Go.Proofs.Ytcfgdlpdnpnhmaa
