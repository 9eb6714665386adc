/- Contracts and words (several texts merged by wip/merge.py). Contracts of package disk: Remove, Sync. -/
import Derived.Test.YtcfgdlpdnpnhmaaSkAE
import Derived.StillTailTactics
import Derived.BigQuiet
import Derived.Deep.QuietTactic
set_option linter.unusedVariables false
set_option linter.unusedSimpArgs false
namespace Go.Proofs.Ytcfgdlpdnpnhmaa
open Go.RowKit Go.Maps

theorem Left.then_below {w w1 w' : World} {d mp mt : Nat} {D D' : Dsk} (h : Below w.heap.size w w1) (k : Left w1 d mp mt D' w') : Left w d mp mt D' w' :=
  ⟨k.disk, (Ext.of_below h).then_ k.ext (fun i hi => Or.inl hi)⟩

/-- A box for a local content. -/
theorem box_no {w : World} {b : Nat} {A : Option Addr} {n c : Nat} {k : Int} (h : w.heap[b]? = some (.cells #[.slice A n c, .int .i64 k] 159 (0, 0))) : NoU8 w b :=
  .of_cells h (fun j x => by rcases j with _ | _ | j <;> simp)

theorem remove_calls (d mp mt : Nat) (D : Dsk) (s : ByteArray) (w : World) (h : IsDisk w d mp mt D) (hs : s.size ≤ 9223372036854775807) (hst : D.steps < 4611686018427387904) (ha : -1 ≤ D.armed) (ha2 : D.armed ≤ 9223372036854775807) :
    Calls Try.prog 44 #[.pointer (some ⟨d, 0, none⟩), .string s] w fun e w' => e = .returned (.int .i64 (D.remove s.data.toList).2) ∧ Left w d mp mt (D.remove s.data.toList).1 w' := by
  cases hd : D.down
  · cases hf : Dsk.find D.files s.data.toList with
    | none =>
      rw [show D.remove s.data.toList = (D, 31) by unfold Dsk.remove; rw [hd, hf]; rfl]
      have hc := Lib.hid (file_none d mp mt D s w h hs hd hf)
      have H := Lib.hid h
      clear h hd hf
      go_enter Try.func44, Try.ntmps44
      go_wp2_with (go_at_call 100; refine hc.out.mono ?_; rintro e w' ⟨rfl, hb⟩)
      go_ret
      exact ⟨rfl, H.out.below (hb.alloc hb.size _), Ext.of_below (hb.alloc hb.size _)⟩
    | some f =>
      have hr : D.remove s.data.toList = if D.step.2 ≠ 0 then D.step else ({ D.step.1 with files := Dsk.del D.step.1.files s.data.toList }, 0) := by unfold Dsk.remove; rw [hd, hf]; rfl
      have hc := Lib.hid (file_some d mp mt D s f w h hs hd hf)
      have hstep := fun (w1 : World) (hb : Below w.heap.size w w1) => step_calls d mp mt D w1 (h.below hb) hst ha ha2
      have Hs := Lib.hid hstep
      clear h hd hf hstep
      by_cases h0 : D.step.2 = 0
      · rw [hr, if_neg (by simpa using h0)]
        rw [h0] at Hs
        clear h0 hr
        go_enter Try.func44, Try.ntmps44
        go_wp2_with (first
          | (go_at_call 100; refine hc.out.mono ?_; rintro e w1 ⟨A, n, c, rfl, hb, hnc, hA, hbl⟩; have HA := Lib.hid hA; clear hA)
          | (go_at_call 102; refine (Hs.out _ (hbl.alloc hbl.size _)).mono ?_; rintro e w2 ⟨rfl, hL⟩; have c0 := hL.disk.c0)
          | (at_delete; refine wpList_disk_strike _ rfl _ _ rfl rfl s rfl hL.disk hs ?_; intro w3 hD3 he3))
        go_ret
        exact ⟨rfl, hD3, ((Ext.of_below (hbl.alloc hbl.size _)).then_ hL.ext (fun i hi => Or.inl hi)).then_ he3 (fun i hi => Or.inl (by rw [List.mem_singleton.1 hi]; simp))⟩
      · rw [hr, if_pos h0]
        have h0b : (D.step.2 == 0) = false := beq_eq_false_iff_ne.2 h0
        clear h0 hr
        go_enter Try.func44, Try.ntmps44
        go_wp2_with (first
          | (go_at_call 100; refine hc.out.mono ?_; rintro e w1 ⟨A, n, c, rfl, hb, hnc, hA, hbl⟩; have HA := Lib.hid hA; clear hA)
          | (go_at_call 102; refine (Hs.out _ (hbl.alloc hbl.size _)).mono ?_; rintro e w2 ⟨rfl, hL⟩; have c0 := hL.disk.c0))
        go_ret
        exact ⟨rfl, hL.disk, (Ext.of_below (hbl.alloc hbl.size _)).then_ hL.ext (fun i hi => Or.inl hi)⟩
  · rw [show D.remove s.data.toList = (D, 50) by unfold Dsk.remove; rw [hd]; rfl]
    have hc := Lib.hid (file_down d mp mt D s w h hd)
    have H := Lib.hid h
    clear h hd
    go_enter Try.func44, Try.ntmps44
    go_wp2_with (go_at_call 100; refine hc.out.mono ?_; rintro e w' ⟨rfl, hb⟩)
    go_ret
    exact ⟨rfl, H.out.below (hb.alloc hb.size _), Ext.of_below (hb.alloc hb.size _)⟩

set_option maxRecDepth 100000 in
theorem sync_calls (d mp mt : Nat) (D : Dsk) (s : ByteArray) (w : World) (h : IsDisk w d mp mt D) (hs : s.size ≤ 9223372036854775807) (hst : D.steps < 4611686018427387904) (ha : -1 ≤ D.armed) (ha2 : D.armed ≤ 9223372036854775807)
    (hlen : D.files.length ≤ 1048576) (hsum : ∀ f ∈ D.files, f.all.length ≤ 1048576) :
    Calls Try.prog 42 #[.pointer (some ⟨d, 0, none⟩), .string s] w fun e w' => e = .returned (.int .i64 (D.sync s.data.toList).2) ∧ Left w d mp mt (D.sync s.data.toList).1 w' := by
  cases hd : D.down
  · cases hf : Dsk.find D.files s.data.toList with
    | none =>
      rw [show D.sync s.data.toList = (D, 31) by unfold Dsk.sync; rw [hd, hf]; rfl]
      have hc := Lib.hid (file_none d mp mt D s w h hs hd hf)
      have H := Lib.hid h
      clear h hd hf hsum
      go_enter Try.func42, Try.ntmps42
      go_wp2_with (go_at_call 100; refine hc.out.mono ?_; rintro e w' ⟨rfl, hb⟩)
      go_ret
      exact ⟨rfl, H.out.below (hb.alloc hb.size _), Ext.of_below (hb.alloc hb.size _)⟩
    | some f =>
      have hr : D.sync s.data.toList = if D.step.2 ≠ 0 then D.step else ({ D.step.1 with files := Dsk.put D.step.1.files ⟨s.data.toList, f.all, f.all.length⟩ }, 0) := by unfold Dsk.sync; rw [hd, hf]; rfl
      have hc := Lib.hid (file_some d mp mt D s f w h hs hd hf)
      have hstep := fun (w1 : World) (hb : Below w.heap.size w w1) => step_calls d mp mt D w1 (h.below hb) hst ha ha2
      have Hs := Lib.hid hstep
      have H := Lib.hid h
      have hl := hsum f (mem_find hf).1
      have hdl := h.lt_d
      have hmpl := h.lt_mp
      have hmtl := h.lt_mt
      clear h hd hf hstep hsum
      by_cases h0 : D.step.2 = 0
      · rw [hr, if_neg (by simpa using h0)]
        rw [h0] at Hs
        have hfl : D.step.1.files.length ≤ 1048576 := by unfold Dsk.step; split; exact hlen; split <;> exact hlen
        clear h0 hr
        go_enter Try.func42, Try.ntmps42
        go_wp2_with (first
          | (go_at_call 100; refine hc.out.mono ?_; rintro e w1 ⟨A, n, c, rfl, hb, hnc, hA, hbl⟩; have HA := Lib.hid hA; clear hA; have hsz := hbl.size)
          | (go_at_call 102; refine (Hs.out _ (hbl.alloc hbl.size _)).mono ?_; rintro e w2 ⟨rfl, hL⟩; have hbx := hL.ext.obj (blk_new w1 _) (by simp; omega); have b0 := blk_cell hbx 0; have b1 := blk_cell hbx 1; have bf := blk_frozen hbx 1))
        obtain ⟨w3, hw3⟩ : ∃ w3, w3 = w2.setCell ⟨w1.heap.size, 1, none⟩ (.int .i64 n) := ⟨_, rfl⟩
        rw [← hw3]
        have hb3 : w3.heap[w1.heap.size]? = some (.cells #[.slice A n c, .int .i64 n] 159 (0, 0)) := by rw [hw3]; exact blk_set hbx 1 _
        have e3 : Ext [w1.heap.size] w2 w3 := by rw [hw3]; exact (Ext.refl _ _).setCell (Or.inl (by simp)) _
        have hno : ∀ k, k ∈ [w1.heap.size] → NoU8 w2 k := fun k hk => by rw [List.mem_singleton.1 hk]; exact box_no hbx
        have hD3 : IsDisk w3 d mp mt D.step.1 := hL.disk.ext e3 hno (by simp; omega) (by simp; omega) (by simp; omega)
        have hB3 : Bts w3 A n f.all := ((hb.below (hbl.alloc hbl.size _)).ext hL.ext (H.out.below (hbl.alloc hbl.size _)).no).ext e3 hno
        have hC3 : Cont w3 (.agg #[.slice A n c, .int .i64 n]) ⟨s.data.toList, f.all, f.all.length⟩ := ⟨A, n, c, by rw [hb.1], hB3, hnc, HA.out⟩
        have hW3 : Ext [d, mp, mt] w w3 := ((Ext.of_below (hbl.alloc hbl.size _)).then_ hL.ext (fun i hi => Or.inl hi)).then_ e3 (fun i hi => Or.inr (by rw [List.mem_singleton.1 hi]; exact hsz))
        have c0 := hD3.c0
        have k0 := blk_cell hb3 0
        have k1 := blk_cell hb3 1
        clear hw3 hno e3 hbx b0 b1 bf hL hB3
        go_still_tail 6, (by kernel_rfl)
        change wpList _ _ _ _ _ w3.drew
        go_wp2_with (first | (refine wpList_disk_store _ rfl _ _ _ rfl rfl s rfl _ rfl hD3.drew hs _ rfl hC3 hfl ?_; intro w4 hD4 he4))
        go_ret
        exact ⟨rfl, hD4, hW3.drew.then_ he4 (fun i hi => Or.inl (by rw [List.mem_singleton.1 hi]; simp))⟩
      · rw [hr, if_pos h0]
        have h0b : (D.step.2 == 0) = false := beq_eq_false_iff_ne.2 h0
        clear h0 hr
        go_enter Try.func42, Try.ntmps42
        go_wp2_with (first
          | (go_at_call 100; refine hc.out.mono ?_; rintro e w1 ⟨A, n, c, rfl, hb, hnc, hA, hbl⟩; have HA := Lib.hid hA; clear hA)
          | (go_at_call 102; refine (Hs.out _ (hbl.alloc hbl.size _)).mono ?_; rintro e w2 ⟨rfl, hL⟩; have c0 := hL.disk.c0))
        go_ret
        exact ⟨rfl, hL.disk, (Ext.of_below (hbl.alloc hbl.size _)).then_ hL.ext (fun i hi => Or.inl hi)⟩
  · rw [show D.sync s.data.toList = (D, 50) by unfold Dsk.sync; rw [hd]; rfl]
    have hc := Lib.hid (file_down d mp mt D s w h hd)
    have H := Lib.hid h
    clear h hd hsum
    go_enter Try.func42, Try.ntmps42
    go_wp2_with (go_at_call 100; refine hc.out.mono ?_; rintro e w' ⟨rfl, hb⟩)
    go_ret
    exact ⟨rfl, H.out.below (hb.alloc hb.size _), Ext.of_below (hb.alloc hb.size _)⟩

end Go.Proofs.Ytcfgdlpdnpnhmaa
set_option linter.unusedVariables false
set_option linter.unusedSimpArgs false
namespace Go.Proofs.Ytcfgdlpdnpnhmaa
open Go.RowKit Go.Maps

theorem step_files (D : Dsk) : D.step.1.files = D.files := by unfold Dsk.step; split; rfl; split <;> rfl


set_option maxRecDepth 100000 in
theorem move_calls (d mp mt : Nat) (D : Dsk) (s t : ByteArray) (w : World) (h : IsDisk w d mp mt D) (hs : s.size ≤ 9223372036854775807) (ht : t.size ≤ 9223372036854775807) (hst : D.steps < 4611686018427387904) (ha : -1 ≤ D.armed) (ha2 : D.armed ≤ 9223372036854775807)
    (hlen : D.files.length ≤ 1048576) :
    Calls Try.prog 45 #[.pointer (some ⟨d, 0, none⟩), .string s, .string t] w fun e w' => e = .returned (.int .i64 (D.move s.data.toList t.data.toList).2) ∧ Left w d mp mt (D.move s.data.toList t.data.toList).1 w' := by
  cases hd : D.down
  · cases hf : Dsk.find D.files s.data.toList with
    | none =>
      rw [show D.move s.data.toList t.data.toList = (D, 31) by unfold Dsk.move; rw [hd, hf]; rfl]
      have hc := Lib.hid (file_none d mp mt D s w h hs hd hf)
      have H := Lib.hid h
      clear h hd hf
      go_enter Try.func45, Try.ntmps45
      go_wp2_with (go_at_call 100; refine hc.out.mono ?_; rintro e w' ⟨rfl, hb⟩)
      go_ret
      exact ⟨rfl, H.out.below (hb.alloc hb.size _), Ext.of_below (hb.alloc hb.size _)⟩
    | some f =>
      have hr : D.move s.data.toList t.data.toList = if Dsk.named t.data.toList = false then (D, 2) else if D.step.2 ≠ 0 then D.step else ({ D.step.1 with files := Dsk.put (Dsk.del D.step.1.files s.data.toList) ⟨t.data.toList, f.all, f.kept⟩ }, 0) := by unfold Dsk.move; rw [hd, hf]; rfl
      have hc := Lib.hid (file_some d mp mt D s f w h hs hd hf)
      have hstep := fun (w1 : World) (hb : Below w.heap.size w w1) => step_calls d mp mt D w1 (h.below hb) hst ha ha2
      have Hs := Lib.hid hstep
      have H := Lib.hid h
      have hdl := h.lt_d
      have hmpl := h.lt_mp
      have hmtl := h.lt_mt
      clear h hd hf hstep
      cases hn : Dsk.named t.data.toList
      · rw [hr, if_pos hn]
        have hnm := fun W => named_calls t W ht
        rw [hn] at hnm
        have Hn := Lib.hid hnm
        clear hnm hn hr
        go_enter Try.func45, Try.ntmps45
        go_wp2_with (first
          | (go_at_call 100; refine hc.out.mono ?_; rintro e w1 ⟨A, n, c, rfl, hb, hnc, hA, hbl⟩; have HA := Lib.hid hA; clear hA; have hsz := hbl.size)
          | (go_at_call 101; refine (Hn.out _).mono ?_; rintro e w2 ⟨rfl, rfl⟩))
        go_ret
        exact ⟨rfl, H.out.below (hbl.alloc hbl.size _), Ext.of_below (hbl.alloc hbl.size _)⟩
      · rw [hr, if_neg (by simp [hn])]
        have hnm := fun W => named_calls t W ht
        rw [hn] at hnm
        have Hn := Lib.hid hnm
        clear hnm hn hr
        by_cases h0 : D.step.2 = 0
        · rw [if_neg (by simpa using h0)]
          rw [h0] at Hs
          have hfl : (Dsk.del D.step.1.files s.data.toList).length ≤ 1048576 := by rw [step_files]; exact Nat.le_trans (List.length_filter_le _ _) hlen
          clear h0
          go_enter Try.func45, Try.ntmps45
          go_wp2_with (first
            | (go_at_call 100; refine hc.out.mono ?_; rintro e w1 ⟨A, n, c, rfl, hb, hnc, hA, hbl⟩; have HA := Lib.hid hA; clear hA; have hsz := hbl.size)
            | (go_at_call 101; refine (Hn.out _).mono ?_; rintro e w2 ⟨rfl, rfl⟩)
            | (go_at_call 102; refine (Hs.out _ (hbl.alloc hbl.size _)).mono ?_; rintro e w2 ⟨rfl, hL⟩; have hbx := hL.ext.obj (blk_new w1 _) (by simp; omega); have c0 := hL.disk.c0)
            | (at_delete; refine wpList_disk_strike _ rfl _ _ rfl rfl s rfl hL.disk hs ?_; intro w3 hD3 e3))
          have hb3 := e3.obj hbx (by simp; omega)
          have hB3 : Bts w3 A n f.all := ((hb.below (hbl.alloc hbl.size _)).ext hL.ext (H.out.below (hbl.alloc hbl.size _)).no).ext e3 (fun k hk => by rw [List.mem_singleton.1 hk]; exact hL.disk.nomp)
          have hC3 : Cont w3 (.agg #[.slice A n c, .int .i64 f.kept]) ⟨t.data.toList, f.all, f.kept⟩ := ⟨A, n, c, rfl, hB3, hnc, HA.out⟩
          have hW3 : Ext [d, mp, mt] w w3 := ((Ext.of_below (hbl.alloc hbl.size _)).then_ hL.ext (fun i hi => Or.inl hi)).then_ e3 (fun i hi => Or.inl (by rw [List.mem_singleton.1 hi]; simp))
          clear c0
          have c0 := hD3.c0
          have k0 := blk_cell hb3 0
          have k1 := blk_cell hb3 1
          clear hbx hL hB3
          go_still_tail 6, (by kernel_rfl)
          change wpList _ _ _ _ _ w3.drew
          go_wp2_with (first | (refine wpList_disk_store _ rfl _ _ _ rfl rfl t rfl _ rfl hD3.drew ht _ rfl hC3 hfl ?_; intro w4 hD4 he4))
          go_ret
          exact ⟨rfl, hD4, hW3.drew.then_ he4 (fun i hi => Or.inl (by rw [List.mem_singleton.1 hi]; simp))⟩
        · rw [if_pos h0]
          have h0b : (D.step.2 == 0) = false := beq_eq_false_iff_ne.2 h0
          clear h0
          go_enter Try.func45, Try.ntmps45
          go_wp2_with (first
            | (go_at_call 100; refine hc.out.mono ?_; rintro e w1 ⟨A, n, c, rfl, hb, hnc, hA, hbl⟩; have HA := Lib.hid hA; clear hA)
            | (go_at_call 101; refine (Hn.out _).mono ?_; rintro e w2 ⟨rfl, rfl⟩)
            | (go_at_call 102; refine (Hs.out _ (hbl.alloc hbl.size _)).mono ?_; rintro e w2 ⟨rfl, hL⟩; have c0 := hL.disk.c0))
          go_ret
          exact ⟨rfl, hL.disk, (Ext.of_below (hbl.alloc hbl.size _)).then_ hL.ext (fun i hi => Or.inl hi)⟩
  · rw [show D.move s.data.toList t.data.toList = (D, 50) by unfold Dsk.move; rw [hd]; rfl]
    have hc := Lib.hid (file_down d mp mt D s w h hd)
    have H := Lib.hid h
    clear h hd
    go_enter Try.func45, Try.ntmps45
    go_wp2_with (go_at_call 100; refine hc.out.mono ?_; rintro e w' ⟨rfl, hb⟩)
    go_ret
    exact ⟨rfl, H.out.below (hb.alloc hb.size _), Ext.of_below (hb.alloc hb.size _)⟩

set_option maxRecDepth 100000 in
theorem cut_calls (d mp mt : Nat) (D : Dsk) (s : ByteArray) (k : Int) (w : World) (h : IsDisk w d mp mt D) (hs : s.size ≤ 9223372036854775807) (hst : D.steps < 4611686018427387904) (ha : -1 ≤ D.armed) (ha2 : D.armed ≤ 9223372036854775807)
    (hlen : D.files.length ≤ 1048576) (hsum : ∀ f ∈ D.files, f.all.length ≤ 1048576) (hkept : ∀ f ∈ D.files, f.kept ≤ f.all.length) :
    Calls Try.prog 43 #[.pointer (some ⟨d, 0, none⟩), .string s, .int .i64 k] w fun e w' => e = .returned (.int .i64 (D.cut s.data.toList k).2) ∧ Left w d mp mt (D.cut s.data.toList k).1 w' := by
  cases hd : D.down
  · cases hf : Dsk.find D.files s.data.toList with
    | none =>
      rw [show D.cut s.data.toList k = (D, 31) by unfold Dsk.cut; rw [hd, hf]; rfl]
      have hc := Lib.hid (file_none d mp mt D s w h hs hd hf)
      have H := Lib.hid h
      clear h hd hf hsum hkept
      go_enter Try.func43, Try.ntmps43
      go_wp2_with (go_at_call 100; refine hc.out.mono ?_; rintro e w' ⟨rfl, hb⟩)
      go_ret
      exact ⟨rfl, H.out.below (hb.alloc hb.size _), Ext.of_below (hb.alloc hb.size _)⟩
    | some f =>
      have hr : D.cut s.data.toList k = if k < 0 ∨ (f.all.length : Int) < k then (D, 2) else if D.step.2 ≠ 0 then D.step else ({ D.step.1 with files := Dsk.put D.step.1.files ⟨s.data.toList, f.all.take k.toNat, min f.kept k.toNat⟩ }, 0) := by unfold Dsk.cut; rw [hd, hf]; rfl
      have hc := Lib.hid (file_some d mp mt D s f w h hs hd hf)
      have hstep := fun (w1 : World) (hb : Below w.heap.size w w1) => step_calls d mp mt D w1 (h.below hb) hst ha ha2
      have Hs := Lib.hid hstep
      have H := Lib.hid h
      have hl := hsum f (mem_find hf).1
      have hkk := hkept f (mem_find hf).1
      have hdl := h.lt_d
      have hmpl := h.lt_mp
      have hmtl := h.lt_mt
      clear h hd hf hstep hsum hkept
      by_cases hk0 : k < 0
      · rw [hr, if_pos (Or.inl hk0)]
        clear hr
        go_enter Try.func43, Try.ntmps43
        go_wp2_with (first
          | (go_at_call 100; refine hc.out.mono ?_; rintro e w1 ⟨A, n, c, rfl, hb, hnc, hA, hbl⟩; have HA := Lib.hid hA; clear hA; have hsz := hbl.size))
        go_ret
        exact ⟨rfl, H.out.below (hbl.alloc hbl.size _), Ext.of_below (hbl.alloc hbl.size _)⟩
      · by_cases hk1 : (f.all.length : Int) < k
        · rw [hr, if_pos (Or.inr hk1)]
          clear hr
          go_enter Try.func43, Try.ntmps43
          go_wp2_with (first
            | (go_at_call 100; refine hc.out.mono ?_; rintro e w1 ⟨A, n, c, rfl, hb, hnc, hA, hbl⟩; have HA := Lib.hid hA; clear hA; have hsz := hbl.size; have hkn : (n : Int) < k := by (have := hb.1; omega)))
          go_ret
          exact ⟨rfl, H.out.below (hbl.alloc hbl.size _), Ext.of_below (hbl.alloc hbl.size _)⟩
        · rw [hr, if_neg (by omega)]
          obtain ⟨j, rfl⟩ := Int.eq_ofNat_of_zero_le (show 0 ≤ k by omega)
          rw [Int.toNat_natCast]
          have g1 : decide ((j : Int) < 0) = false := decide_eq_false (by omega)
          clear hr hk0
          by_cases h0 : D.step.2 = 0
          · rw [if_neg (by simpa using h0)]
            rw [h0] at Hs
            have hfl : D.step.1.files.length ≤ 1048576 := by rw [step_files]; exact hlen
            clear h0
            go_enter Try.func43, Try.ntmps43
            go_wp2_with (first
              | (go_at_call 100; refine hc.out.mono ?_; rintro e w1 ⟨A, n, c, rfl, hb, hnc, hA, hbl⟩; have HA := Lib.hid hA; clear hA; have hsz := hbl.size; have hjn : j ≤ n := (by (have := hb.1; omega)); have g2 : decide (n < j) = false := decide_eq_false (by omega))
              | (go_at_call 102; refine (Hs.out _ (hbl.alloc hbl.size _)).mono ?_; rintro e w3 ⟨rfl, hL⟩; have hb3 := hL.ext.obj (blk_new w1 _) (by simp; omega); have c0 := hL.disk.c0))
            have hD3 := hL.disk
            have hB3 : Bts w3 A n f.all := ((hb.below (hbl.alloc hbl.size _)).ext hL.ext (H.out.below (hbl.alloc hbl.size _)).no)
            have hC3 : ∀ z : Int, z = ((min f.kept j : Nat) : Int) → Cont w3 (.agg #[.slice A j j, .int .i64 z]) ⟨s.data.toList, f.all.take j, min f.kept j⟩ := fun z hz => ⟨A, j, j, by rw [hz], hB3.take j hjn, Nat.le_refl _, fun e => by
              rcases Nat.eq_zero_or_pos j with h1 | h1
              · exact h1
              · obtain ⟨ad, he, _⟩ := hB3.2 (by omega)
                rw [e] at he
                cases he⟩
            have hW3 : Ext [d, mp, mt] w w3 := ((Ext.of_below (hbl.alloc hbl.size _)).then_ hL.ext (fun i hi => Or.inl hi))
            have k0 := blk_cell hb3 0
            have k1 := blk_cell hb3 1
            have hsl := run_cut3 A n c j (by omega)
            clear hL hB3
            go_still_tail 15, (by kernel_rfl)
            change wpList _ _ _ _ _ w3.drew
            refine wpList_disk_store _ rfl _ _ _ rfl rfl s rfl (.agg #[.slice A j j, .int .i64 _]) rfl hD3.drew hs _ rfl (hC3 _ (by split <;> omega)) hfl ?_
            intro w4 hD4 he4
            go_wp2
            all_goals
              go_ret
              exact ⟨rfl, hD4, hW3.drew.then_ he4 (fun i hi => Or.inl (by rw [List.mem_singleton.1 hi]; simp))⟩
          · rw [if_pos h0]
            have h0b : (D.step.2 == 0) = false := beq_eq_false_iff_ne.2 h0
            clear h0
            go_enter Try.func43, Try.ntmps43
            go_wp2_with (first
              | (go_at_call 100; refine hc.out.mono ?_; rintro e w1 ⟨A, n, c, rfl, hb, hnc, hA, hbl⟩; have HA := Lib.hid hA; clear hA; have hsz := hbl.size; have hjn : j ≤ n := (by (have := hb.1; omega)); have g2 : decide (n < j) = false := decide_eq_false (by omega))
              | (go_at_call 102; refine (Hs.out _ (hbl.alloc hbl.size _)).mono ?_; rintro e w2 ⟨rfl, hL⟩; have c0 := hL.disk.c0))
            go_ret
            exact ⟨rfl, hL.disk, (Ext.of_below (hbl.alloc hbl.size _)).then_ hL.ext (fun i hi => Or.inl hi)⟩
  · rw [show D.cut s.data.toList k = (D, 50) by unfold Dsk.cut; rw [hd]; rfl]
    have hc := Lib.hid (file_down d mp mt D s w h hd)
    have H := Lib.hid h
    clear h hd hsum hkept
    go_enter Try.func43, Try.ntmps43
    go_wp2_with (go_at_call 100; refine hc.out.mono ?_; rintro e w' ⟨rfl, hb⟩)
    go_ret
    exact ⟨rfl, H.out.below (hb.alloc hb.size _), Ext.of_below (hb.alloc hb.size _)⟩

end Go.Proofs.Ytcfgdlpdnpnhmaa
