/- Contract of curfewlaw23.do: the disk and the document's disk take a call alike. Written by wip/gen_do.py. -/
import Derived.Test.YtcfgdlpdnpnhmaaDo0
set_option linter.unusedVariables false
set_option linter.unusedSimpArgs false
namespace Go.Proofs.Ytcfgdlpdnpnhmaa
open Go.RowKit Go.Maps

set_option maxRecDepth 100000 in
set_option maxHeartbeats 4000000 in
theorem do_sync (d mp mt : Nat) (D : Dsk) (A : Option Addr) (n c : Nat) (on : Int) (nm to_ tx : ByteArray) (At : Option Addr) (m ct : Nat) (w : World) (h : IsDisk w d mp mt D) (hr : RFiles w A n D.files) (hnc : n ≤ c) (hok : D.Ok) (hst : D.steps < 4611686018427387904) (hnm : nm.size ≤ 9223372036854775807) (hto : to_.size ≤ 9223372036854775807) (htx : tx.size ≤ 140737488355328) :
    Calls Try.prog 30 #[.pointer (some ⟨d, 0, none⟩), refV D A n c, .agg #[.int .i64 1, .int .i64 on, .string nm, .string to_, .string tx, .slice At m ct]] w (DoGives w d mp mt (D.sync nm.data.toList).1) := by
  have Hr := Lib.hid (fun w1 (hb : Below w.heap.size w w1) => refsync_calls D A n c nm w1 (hr.below hb) hnc (by have := n_le hok hr; omega) hst hok.armed0 hok.armed1 (len_all hok))
  have Hd := Lib.hid (fun w1 (hd : IsDisk w1 d mp mt D) => sync_calls d mp mt D nm w1 hd hnm hst hok.armed0 hok.armed1 (by have := hok.many; omega) (len_all hok))
  have H := Lib.hid h
  have hld := h.lt_d
  have hlm := h.lt_mp
  have hlt := h.lt_mt
  obtain ⟨D', hD'⟩ : ∃ D', D' = (D.sync nm.data.toList).1 := ⟨_, rfl⟩
  obtain ⟨code, hcode⟩ : ∃ code, code = (D.sync nm.data.toList).2 := ⟨_, rfl⟩
  rw [← hD', ← hcode] at Hr Hd
  rw [← hD']
  unfold refV at Hr
  unfold refV
  have Hl := Lib.hid (And.intro hld (And.intro hlm hlt))
  clear h hr hok hst hnm hto htx hD' hcode hld hlm hlt
  go_enter Try.func30, Try.ntmps30
  go_upto_region 8 with (go_at_call 82; refine (Hr.out _ (al3 w _ _ _)).mono ?_; rintro e w2 ⟨A2, n2, c2, rfl, hf2, hc2, hb2⟩; unfold refV; have hB2 := (DoBlk.start w _ _ _ _ _ _ _ _ _ _ _ _ _).below hb2; obtain ⟨⟨b0, b1, b2, b3, b4⟩, ⟨g0, g1, g2, g3, g4⟩, ⟨o0, o1, o2, o3, o4, o5⟩, ⟨z0, z1, z2, z3, z4⟩, ⟨r0, r1, r2, r3, r4⟩⟩ := hB2.facts)
  obtain ⟨w3, hw3, hB3, hE3, hF3⟩ := hB2.store (.int .i64 D'.room) (.slice A2 n2 c2) (.bool D'.down) (.int .i64 D'.armed) (.int .u64 D'.steps) (refcells_noStr _ _ _ _ _ _ _)
  rw [← hw3]
  have hb02 : Below w.heap.size w w2 := below_next (al3 w _ _ _) hb2
  have hD2 : IsDisk w2 d mp mt D := H.out.below hb02
  have hD3 : IsDisk w3 d mp mt D := hD2.ext hE3 (fun k hk => by rw [List.mem_singleton.1 hk]; exact refcells_noU8 hB2.disk) (by have := Hl.out; simp; omega) (by have := Hl.out; simp; omega) (by have := Hl.out; simp; omega)
  have hb03 : Below w.heap.size w w3 := hb02.trans (hE3.below hb02.size (fun q hq => by rw [List.mem_singleton.1 hq]; exact Nat.le_refl _))
  have hf3 := hF3 _ _ _ hf2
  have HB3 := Lib.hid hB3
  have HD3 := Lib.hid hD3
  have Hb03 := Lib.hid hb03
  have Hf3 := Lib.hid hf3
  clear hw3 hE3 hF3 hB2 hb2 hf2 b0 b1 b2 b3 b4 g0 g1 g2 g3 g4 o0 o1 o2 o3 o4 o5 z0 z1 z2 z3 z4 r0 r1 r2 r3 r4 hb02 hD2 hD3 hb03 hf3
  obtain ⟨⟨b0, b1, b2, b3, b4⟩, ⟨g0, g1, g2, g3, g4⟩, ⟨o0, o1, o2, o3, o4, o5⟩, ⟨z0, z1, z2, z3, z4⟩, ⟨r0, r1, r2, r3, r4⟩⟩ := hB3.facts
  clear hB3
  go_upto_region 34 with (go_at_call 42; refine (Hd.out w3 HD3.out).mono ?_; rintro e w4 ⟨rfl, hL4⟩; have hB4 := HB3.out.ext hL4.ext (fun q hq => by have := Hl.out; simp only [List.mem_cons, List.mem_nil_iff, or_false] at hq; omega); clear b0 b1 b2 b3 b4 g0 g1 g2 g3 g4 o0 o1 o2 o3 o4 o5 z0 z1 z2 z3 z4 r0 r1 r2 r3 r4; obtain ⟨⟨b0, b1, b2, b3, b4⟩, ⟨g0, g1, g2, g3, g4⟩, ⟨o0, o1, o2, o3, o4, o5⟩, ⟨z0, z1, z2, z3, z4⟩, ⟨r0, r1, r2, r3, r4⟩⟩ := hB4.facts)
  have hf4 := dsk_noStr HD3.out hL4 Hf3.out
  obtain ⟨w5, hw5, ⟨x0, x1, x2, x3, x4⟩, hE5, hF5, hI5⟩ := hB4.done (.int .i64 D'.room) (.slice A2 n2 c2) (.bool D'.down) (.int .i64 D'.armed) (.int .u64 D'.steps)
  have Hfin := Lib.hid (show RFiles w5 A2 n2 D'.files ∧ n2 ≤ c2 ∧ Left w d mp mt D' w5 from ⟨hF5 _ _ _ hf4, hc2, hI5 _ _ _ _ Hl.out.1 Hl.out.2.1 Hl.out.2.2 hL4.disk, (Ext.of_below Hb03.out).trans (hL4.ext.mono (fun k hk => Or.inl hk)) |>.then_ hE5 (fun i hi => Or.inr (by rw [List.mem_singleton.1 hi]; omega))⟩)
  clear hf4 hE5 hF5 hI5 hL4 hB4
  go_wp2_with fail
  rw [← hw5]
  exact bodyPost_ret (v := .tuple #[.agg #[.int .i64 D'.room, .slice A2 n2 c2, .bool D'.down, .int .i64 D'.armed, .int .u64 D'.steps], .bool true]) (by simp [results, Try.results30, go_sem, x0, x1, x2, x3, x4]) rfl ⟨A2, n2, c2, rfl, Hfin.out⟩

set_option maxRecDepth 100000 in
set_option maxHeartbeats 4000000 in
theorem do_cut (d mp mt : Nat) (D : Dsk) (A : Option Addr) (n c : Nat) (on : Int) (nm to_ tx : ByteArray) (At : Option Addr) (m ct : Nat) (w : World) (h : IsDisk w d mp mt D) (hr : RFiles w A n D.files) (hnc : n ≤ c) (hok : D.Ok) (hst : D.steps < 4611686018427387904) (hnm : nm.size ≤ 9223372036854775807) (hto : to_.size ≤ 9223372036854775807) (htx : tx.size ≤ 140737488355328) :
    Calls Try.prog 30 #[.pointer (some ⟨d, 0, none⟩), refV D A n c, .agg #[.int .i64 2, .int .i64 on, .string nm, .string to_, .string tx, .slice At m ct]] w (DoGives w d mp mt (D.cut nm.data.toList on).1) := by
  have Hr := Lib.hid (fun w1 (hb : Below w.heap.size w w1) => refcut_calls D A n c nm on w1 (hr.below hb) hnc (by have := n_le hok hr; omega) hst hok.armed0 hok.armed1 (len_all hok))
  have Hd := Lib.hid (fun w1 (hd : IsDisk w1 d mp mt D) => cut_calls d mp mt D nm on w1 hd hnm hst hok.armed0 hok.armed1 (by have := hok.many; omega) (len_all hok) hok.kept)
  have H := Lib.hid h
  have hld := h.lt_d
  have hlm := h.lt_mp
  have hlt := h.lt_mt
  obtain ⟨D', hD'⟩ : ∃ D', D' = (D.cut nm.data.toList on).1 := ⟨_, rfl⟩
  obtain ⟨code, hcode⟩ : ∃ code, code = (D.cut nm.data.toList on).2 := ⟨_, rfl⟩
  rw [← hD', ← hcode] at Hr Hd
  rw [← hD']
  unfold refV at Hr
  unfold refV
  have Hl := Lib.hid (And.intro hld (And.intro hlm hlt))
  clear h hr hok hst hnm hto htx hD' hcode hld hlm hlt
  go_enter Try.func30, Try.ntmps30
  go_upto_region 11 with (go_at_call 83; refine (Hr.out _ (al3 w _ _ _)).mono ?_; rintro e w2 ⟨A2, n2, c2, rfl, hf2, hc2, hb2⟩; unfold refV; have hB2 := (DoBlk.start w _ _ _ _ _ _ _ _ _ _ _ _ _).below hb2; obtain ⟨⟨b0, b1, b2, b3, b4⟩, ⟨g0, g1, g2, g3, g4⟩, ⟨o0, o1, o2, o3, o4, o5⟩, ⟨z0, z1, z2, z3, z4⟩, ⟨r0, r1, r2, r3, r4⟩⟩ := hB2.facts)
  obtain ⟨w3, hw3, hB3, hE3, hF3⟩ := hB2.store (.int .i64 D'.room) (.slice A2 n2 c2) (.bool D'.down) (.int .i64 D'.armed) (.int .u64 D'.steps) (refcells_noStr _ _ _ _ _ _ _)
  rw [← hw3]
  have hb02 : Below w.heap.size w w2 := below_next (al3 w _ _ _) hb2
  have hD2 : IsDisk w2 d mp mt D := H.out.below hb02
  have hD3 : IsDisk w3 d mp mt D := hD2.ext hE3 (fun k hk => by rw [List.mem_singleton.1 hk]; exact refcells_noU8 hB2.disk) (by have := Hl.out; simp; omega) (by have := Hl.out; simp; omega) (by have := Hl.out; simp; omega)
  have hb03 : Below w.heap.size w w3 := hb02.trans (hE3.below hb02.size (fun q hq => by rw [List.mem_singleton.1 hq]; exact Nat.le_refl _))
  have hf3 := hF3 _ _ _ hf2
  have HB3 := Lib.hid hB3
  have HD3 := Lib.hid hD3
  have Hb03 := Lib.hid hb03
  have Hf3 := Lib.hid hf3
  clear hw3 hE3 hF3 hB2 hb2 hf2 b0 b1 b2 b3 b4 g0 g1 g2 g3 g4 o0 o1 o2 o3 o4 o5 z0 z1 z2 z3 z4 r0 r1 r2 r3 r4 hb02 hD2 hD3 hb03 hf3
  obtain ⟨⟨b0, b1, b2, b3, b4⟩, ⟨g0, g1, g2, g3, g4⟩, ⟨o0, o1, o2, o3, o4, o5⟩, ⟨z0, z1, z2, z3, z4⟩, ⟨r0, r1, r2, r3, r4⟩⟩ := hB3.facts
  clear hB3
  go_upto_region 34 with (go_at_call 43; refine (Hd.out w3 HD3.out).mono ?_; rintro e w4 ⟨rfl, hL4⟩; have hB4 := HB3.out.ext hL4.ext (fun q hq => by have := Hl.out; simp only [List.mem_cons, List.mem_nil_iff, or_false] at hq; omega); clear b0 b1 b2 b3 b4 g0 g1 g2 g3 g4 o0 o1 o2 o3 o4 o5 z0 z1 z2 z3 z4 r0 r1 r2 r3 r4; obtain ⟨⟨b0, b1, b2, b3, b4⟩, ⟨g0, g1, g2, g3, g4⟩, ⟨o0, o1, o2, o3, o4, o5⟩, ⟨z0, z1, z2, z3, z4⟩, ⟨r0, r1, r2, r3, r4⟩⟩ := hB4.facts)
  have hf4 := dsk_noStr HD3.out hL4 Hf3.out
  obtain ⟨w5, hw5, ⟨x0, x1, x2, x3, x4⟩, hE5, hF5, hI5⟩ := hB4.done (.int .i64 D'.room) (.slice A2 n2 c2) (.bool D'.down) (.int .i64 D'.armed) (.int .u64 D'.steps)
  have Hfin := Lib.hid (show RFiles w5 A2 n2 D'.files ∧ n2 ≤ c2 ∧ Left w d mp mt D' w5 from ⟨hF5 _ _ _ hf4, hc2, hI5 _ _ _ _ Hl.out.1 Hl.out.2.1 Hl.out.2.2 hL4.disk, (Ext.of_below Hb03.out).trans (hL4.ext.mono (fun k hk => Or.inl hk)) |>.then_ hE5 (fun i hi => Or.inr (by rw [List.mem_singleton.1 hi]; omega))⟩)
  clear hf4 hE5 hF5 hI5 hL4 hB4
  go_wp2_with fail
  rw [← hw5]
  exact bodyPost_ret (v := .tuple #[.agg #[.int .i64 D'.room, .slice A2 n2 c2, .bool D'.down, .int .i64 D'.armed, .int .u64 D'.steps], .bool true]) (by simp [results, Try.results30, go_sem, x0, x1, x2, x3, x4]) rfl ⟨A2, n2, c2, rfl, Hfin.out⟩

set_option maxRecDepth 100000 in
set_option maxHeartbeats 4000000 in
theorem do_remove (d mp mt : Nat) (D : Dsk) (A : Option Addr) (n c : Nat) (on : Int) (nm to_ tx : ByteArray) (At : Option Addr) (m ct : Nat) (w : World) (h : IsDisk w d mp mt D) (hr : RFiles w A n D.files) (hnc : n ≤ c) (hok : D.Ok) (hst : D.steps < 4611686018427387904) (hnm : nm.size ≤ 9223372036854775807) (hto : to_.size ≤ 9223372036854775807) (htx : tx.size ≤ 140737488355328) :
    Calls Try.prog 30 #[.pointer (some ⟨d, 0, none⟩), refV D A n c, .agg #[.int .i64 3, .int .i64 on, .string nm, .string to_, .string tx, .slice At m ct]] w (DoGives w d mp mt (D.remove nm.data.toList).1) := by
  have Hr := Lib.hid (fun w1 (hb : Below w.heap.size w w1) => refremove_calls D A n c nm w1 (hr.below hb) hnc (by have := n_le hok hr; omega) hst hok.armed0 hok.armed1)
  have Hd := Lib.hid (fun w1 (hd : IsDisk w1 d mp mt D) => remove_calls d mp mt D nm w1 hd hnm hst hok.armed0 hok.armed1)
  have H := Lib.hid h
  have hld := h.lt_d
  have hlm := h.lt_mp
  have hlt := h.lt_mt
  obtain ⟨D', hD'⟩ : ∃ D', D' = (D.remove nm.data.toList).1 := ⟨_, rfl⟩
  obtain ⟨code, hcode⟩ : ∃ code, code = (D.remove nm.data.toList).2 := ⟨_, rfl⟩
  rw [← hD', ← hcode] at Hr Hd
  rw [← hD']
  unfold refV at Hr
  unfold refV
  have Hl := Lib.hid (And.intro hld (And.intro hlm hlt))
  clear h hr hok hst hnm hto htx hD' hcode hld hlm hlt
  go_enter Try.func30, Try.ntmps30
  go_upto_region 14 with (go_at_call 84; refine (Hr.out _ (al3 w _ _ _)).mono ?_; rintro e w2 ⟨A2, n2, c2, rfl, hf2, hc2, hb2⟩; unfold refV; have hB2 := (DoBlk.start w _ _ _ _ _ _ _ _ _ _ _ _ _).below hb2; obtain ⟨⟨b0, b1, b2, b3, b4⟩, ⟨g0, g1, g2, g3, g4⟩, ⟨o0, o1, o2, o3, o4, o5⟩, ⟨z0, z1, z2, z3, z4⟩, ⟨r0, r1, r2, r3, r4⟩⟩ := hB2.facts)
  obtain ⟨w3, hw3, hB3, hE3, hF3⟩ := hB2.store (.int .i64 D'.room) (.slice A2 n2 c2) (.bool D'.down) (.int .i64 D'.armed) (.int .u64 D'.steps) (refcells_noStr _ _ _ _ _ _ _)
  rw [← hw3]
  have hb02 : Below w.heap.size w w2 := below_next (al3 w _ _ _) hb2
  have hD2 : IsDisk w2 d mp mt D := H.out.below hb02
  have hD3 : IsDisk w3 d mp mt D := hD2.ext hE3 (fun k hk => by rw [List.mem_singleton.1 hk]; exact refcells_noU8 hB2.disk) (by have := Hl.out; simp; omega) (by have := Hl.out; simp; omega) (by have := Hl.out; simp; omega)
  have hb03 : Below w.heap.size w w3 := hb02.trans (hE3.below hb02.size (fun q hq => by rw [List.mem_singleton.1 hq]; exact Nat.le_refl _))
  have hf3 := hF3 _ _ _ hf2
  have HB3 := Lib.hid hB3
  have HD3 := Lib.hid hD3
  have Hb03 := Lib.hid hb03
  have Hf3 := Lib.hid hf3
  clear hw3 hE3 hF3 hB2 hb2 hf2 b0 b1 b2 b3 b4 g0 g1 g2 g3 g4 o0 o1 o2 o3 o4 o5 z0 z1 z2 z3 z4 r0 r1 r2 r3 r4 hb02 hD2 hD3 hb03 hf3
  obtain ⟨⟨b0, b1, b2, b3, b4⟩, ⟨g0, g1, g2, g3, g4⟩, ⟨o0, o1, o2, o3, o4, o5⟩, ⟨z0, z1, z2, z3, z4⟩, ⟨r0, r1, r2, r3, r4⟩⟩ := hB3.facts
  clear hB3
  go_upto_region 34 with (go_at_call 44; refine (Hd.out w3 HD3.out).mono ?_; rintro e w4 ⟨rfl, hL4⟩; have hB4 := HB3.out.ext hL4.ext (fun q hq => by have := Hl.out; simp only [List.mem_cons, List.mem_nil_iff, or_false] at hq; omega); clear b0 b1 b2 b3 b4 g0 g1 g2 g3 g4 o0 o1 o2 o3 o4 o5 z0 z1 z2 z3 z4 r0 r1 r2 r3 r4; obtain ⟨⟨b0, b1, b2, b3, b4⟩, ⟨g0, g1, g2, g3, g4⟩, ⟨o0, o1, o2, o3, o4, o5⟩, ⟨z0, z1, z2, z3, z4⟩, ⟨r0, r1, r2, r3, r4⟩⟩ := hB4.facts)
  have hf4 := dsk_noStr HD3.out hL4 Hf3.out
  obtain ⟨w5, hw5, ⟨x0, x1, x2, x3, x4⟩, hE5, hF5, hI5⟩ := hB4.done (.int .i64 D'.room) (.slice A2 n2 c2) (.bool D'.down) (.int .i64 D'.armed) (.int .u64 D'.steps)
  have Hfin := Lib.hid (show RFiles w5 A2 n2 D'.files ∧ n2 ≤ c2 ∧ Left w d mp mt D' w5 from ⟨hF5 _ _ _ hf4, hc2, hI5 _ _ _ _ Hl.out.1 Hl.out.2.1 Hl.out.2.2 hL4.disk, (Ext.of_below Hb03.out).trans (hL4.ext.mono (fun k hk => Or.inl hk)) |>.then_ hE5 (fun i hi => Or.inr (by rw [List.mem_singleton.1 hi]; omega))⟩)
  clear hf4 hE5 hF5 hI5 hL4 hB4
  go_wp2_with fail
  rw [← hw5]
  exact bodyPost_ret (v := .tuple #[.agg #[.int .i64 D'.room, .slice A2 n2 c2, .bool D'.down, .int .i64 D'.armed, .int .u64 D'.steps], .bool true]) (by simp [results, Try.results30, go_sem, x0, x1, x2, x3, x4]) rfl ⟨A2, n2, c2, rfl, Hfin.out⟩

set_option maxRecDepth 100000 in
set_option maxHeartbeats 4000000 in
theorem do_move (d mp mt : Nat) (D : Dsk) (A : Option Addr) (n c : Nat) (on : Int) (nm to_ tx : ByteArray) (At : Option Addr) (m ct : Nat) (w : World) (h : IsDisk w d mp mt D) (hr : RFiles w A n D.files) (hnc : n ≤ c) (hok : D.Ok) (hst : D.steps < 4611686018427387904) (hnm : nm.size ≤ 9223372036854775807) (hto : to_.size ≤ 9223372036854775807) (htx : tx.size ≤ 140737488355328) :
    Calls Try.prog 30 #[.pointer (some ⟨d, 0, none⟩), refV D A n c, .agg #[.int .i64 4, .int .i64 on, .string nm, .string to_, .string tx, .slice At m ct]] w (DoGives w d mp mt (D.move nm.data.toList to_.data.toList).1) := by
  have Hr := Lib.hid (fun w1 (hb : Below w.heap.size w w1) => refmove_calls D A n c nm to_ w1 (hr.below hb) hnc (by have := n_le hok hr; omega) hst hok.armed0 hok.armed1 hto (len_all hok))
  have Hd := Lib.hid (fun w1 (hd : IsDisk w1 d mp mt D) => move_calls d mp mt D nm to_ w1 hd hnm hto hst hok.armed0 hok.armed1 (by have := hok.many; omega))
  have H := Lib.hid h
  have hld := h.lt_d
  have hlm := h.lt_mp
  have hlt := h.lt_mt
  obtain ⟨D', hD'⟩ : ∃ D', D' = (D.move nm.data.toList to_.data.toList).1 := ⟨_, rfl⟩
  obtain ⟨code, hcode⟩ : ∃ code, code = (D.move nm.data.toList to_.data.toList).2 := ⟨_, rfl⟩
  rw [← hD', ← hcode] at Hr Hd
  rw [← hD']
  unfold refV at Hr
  unfold refV
  have Hl := Lib.hid (And.intro hld (And.intro hlm hlt))
  clear h hr hok hst hnm hto htx hD' hcode hld hlm hlt
  go_enter Try.func30, Try.ntmps30
  go_upto_region 17 with (go_at_call 85; refine (Hr.out _ (al3 w _ _ _)).mono ?_; rintro e w2 ⟨A2, n2, c2, rfl, hf2, hc2, hb2⟩; unfold refV; have hB2 := (DoBlk.start w _ _ _ _ _ _ _ _ _ _ _ _ _).below hb2; obtain ⟨⟨b0, b1, b2, b3, b4⟩, ⟨g0, g1, g2, g3, g4⟩, ⟨o0, o1, o2, o3, o4, o5⟩, ⟨z0, z1, z2, z3, z4⟩, ⟨r0, r1, r2, r3, r4⟩⟩ := hB2.facts)
  obtain ⟨w3, hw3, hB3, hE3, hF3⟩ := hB2.store (.int .i64 D'.room) (.slice A2 n2 c2) (.bool D'.down) (.int .i64 D'.armed) (.int .u64 D'.steps) (refcells_noStr _ _ _ _ _ _ _)
  rw [← hw3]
  have hb02 : Below w.heap.size w w2 := below_next (al3 w _ _ _) hb2
  have hD2 : IsDisk w2 d mp mt D := H.out.below hb02
  have hD3 : IsDisk w3 d mp mt D := hD2.ext hE3 (fun k hk => by rw [List.mem_singleton.1 hk]; exact refcells_noU8 hB2.disk) (by have := Hl.out; simp; omega) (by have := Hl.out; simp; omega) (by have := Hl.out; simp; omega)
  have hb03 : Below w.heap.size w w3 := hb02.trans (hE3.below hb02.size (fun q hq => by rw [List.mem_singleton.1 hq]; exact Nat.le_refl _))
  have hf3 := hF3 _ _ _ hf2
  have HB3 := Lib.hid hB3
  have HD3 := Lib.hid hD3
  have Hb03 := Lib.hid hb03
  have Hf3 := Lib.hid hf3
  clear hw3 hE3 hF3 hB2 hb2 hf2 b0 b1 b2 b3 b4 g0 g1 g2 g3 g4 o0 o1 o2 o3 o4 o5 z0 z1 z2 z3 z4 r0 r1 r2 r3 r4 hb02 hD2 hD3 hb03 hf3
  obtain ⟨⟨b0, b1, b2, b3, b4⟩, ⟨g0, g1, g2, g3, g4⟩, ⟨o0, o1, o2, o3, o4, o5⟩, ⟨z0, z1, z2, z3, z4⟩, ⟨r0, r1, r2, r3, r4⟩⟩ := hB3.facts
  clear hB3
  go_upto_region 34 with (go_at_call 45; refine (Hd.out w3 HD3.out).mono ?_; rintro e w4 ⟨rfl, hL4⟩; have hB4 := HB3.out.ext hL4.ext (fun q hq => by have := Hl.out; simp only [List.mem_cons, List.mem_nil_iff, or_false] at hq; omega); clear b0 b1 b2 b3 b4 g0 g1 g2 g3 g4 o0 o1 o2 o3 o4 o5 z0 z1 z2 z3 z4 r0 r1 r2 r3 r4; obtain ⟨⟨b0, b1, b2, b3, b4⟩, ⟨g0, g1, g2, g3, g4⟩, ⟨o0, o1, o2, o3, o4, o5⟩, ⟨z0, z1, z2, z3, z4⟩, ⟨r0, r1, r2, r3, r4⟩⟩ := hB4.facts)
  have hf4 := dsk_noStr HD3.out hL4 Hf3.out
  obtain ⟨w5, hw5, ⟨x0, x1, x2, x3, x4⟩, hE5, hF5, hI5⟩ := hB4.done (.int .i64 D'.room) (.slice A2 n2 c2) (.bool D'.down) (.int .i64 D'.armed) (.int .u64 D'.steps)
  have Hfin := Lib.hid (show RFiles w5 A2 n2 D'.files ∧ n2 ≤ c2 ∧ Left w d mp mt D' w5 from ⟨hF5 _ _ _ hf4, hc2, hI5 _ _ _ _ Hl.out.1 Hl.out.2.1 Hl.out.2.2 hL4.disk, (Ext.of_below Hb03.out).trans (hL4.ext.mono (fun k hk => Or.inl hk)) |>.then_ hE5 (fun i hi => Or.inr (by rw [List.mem_singleton.1 hi]; omega))⟩)
  clear hf4 hE5 hF5 hI5 hL4 hB4
  go_wp2_with fail
  rw [← hw5]
  exact bodyPost_ret (v := .tuple #[.agg #[.int .i64 D'.room, .slice A2 n2 c2, .bool D'.down, .int .i64 D'.armed, .int .u64 D'.steps], .bool true]) (by simp [results, Try.results30, go_sem, x0, x1, x2, x3, x4]) rfl ⟨A2, n2, c2, rfl, Hfin.out⟩

set_option maxRecDepth 100000 in
set_option maxHeartbeats 4000000 in
theorem do_arm (d mp mt : Nat) (D : Dsk) (A : Option Addr) (n c : Nat) (on : Int) (nm to_ tx : ByteArray) (At : Option Addr) (m ct : Nat) (w : World) (h : IsDisk w d mp mt D) (hr : RFiles w A n D.files) (hnc : n ≤ c) (hok : D.Ok) (hst : D.steps < 4611686018427387904) (hnm : nm.size ≤ 9223372036854775807) (hto : to_.size ≤ 9223372036854775807) (htx : tx.size ≤ 140737488355328) :
    Calls Try.prog 30 #[.pointer (some ⟨d, 0, none⟩), refV D A n c, .agg #[.int .i64 6, .int .i64 on, .string nm, .string to_, .string tx, .slice At m ct]] w (DoGives w d mp mt (D.arm on).1) := by
  have Hr := Lib.hid (fun w1 (hb : Below w.heap.size w w1) => refarm_calls D A n c on w1 (hr.below hb) hnc)
  have Hd := Lib.hid (fun w1 (hd : IsDisk w1 d mp mt D) => arm_calls d mp mt D on w1 hd)
  have H := Lib.hid h
  have hld := h.lt_d
  have hlm := h.lt_mp
  have hlt := h.lt_mt
  obtain ⟨D', hD'⟩ : ∃ D', D' = (D.arm on).1 := ⟨_, rfl⟩
  obtain ⟨code, hcode⟩ : ∃ code, code = (D.arm on).2 := ⟨_, rfl⟩
  rw [← hD', ← hcode] at Hr Hd
  rw [← hD']
  unfold refV at Hr
  unfold refV
  have Hl := Lib.hid (And.intro hld (And.intro hlm hlt))
  clear h hr hok hst hnm hto htx hD' hcode hld hlm hlt
  go_enter Try.func30, Try.ntmps30
  go_upto_region 24 with (go_at_call 87; refine (Hr.out _ (al3 w _ _ _)).mono ?_; rintro e w2 ⟨A2, n2, c2, rfl, hf2, hc2, hb2⟩; unfold refV; have hB2 := (DoBlk.start w _ _ _ _ _ _ _ _ _ _ _ _ _).below hb2; obtain ⟨⟨b0, b1, b2, b3, b4⟩, ⟨g0, g1, g2, g3, g4⟩, ⟨o0, o1, o2, o3, o4, o5⟩, ⟨z0, z1, z2, z3, z4⟩, ⟨r0, r1, r2, r3, r4⟩⟩ := hB2.facts)
  obtain ⟨w3, hw3, hB3, hE3, hF3⟩ := hB2.store (.int .i64 D'.room) (.slice A2 n2 c2) (.bool D'.down) (.int .i64 D'.armed) (.int .u64 D'.steps) (refcells_noStr _ _ _ _ _ _ _)
  rw [← hw3]
  have hb02 : Below w.heap.size w w2 := below_next (al3 w _ _ _) hb2
  have hD2 : IsDisk w2 d mp mt D := H.out.below hb02
  have hD3 : IsDisk w3 d mp mt D := hD2.ext hE3 (fun k hk => by rw [List.mem_singleton.1 hk]; exact refcells_noU8 hB2.disk) (by have := Hl.out; simp; omega) (by have := Hl.out; simp; omega) (by have := Hl.out; simp; omega)
  have hb03 : Below w.heap.size w w3 := hb02.trans (hE3.below hb02.size (fun q hq => by rw [List.mem_singleton.1 hq]; exact Nat.le_refl _))
  have hf3 := hF3 _ _ _ hf2
  have HB3 := Lib.hid hB3
  have HD3 := Lib.hid hD3
  have Hb03 := Lib.hid hb03
  have Hf3 := Lib.hid hf3
  clear hw3 hE3 hF3 hB2 hb2 hf2 b0 b1 b2 b3 b4 g0 g1 g2 g3 g4 o0 o1 o2 o3 o4 o5 z0 z1 z2 z3 z4 r0 r1 r2 r3 r4 hb02 hD2 hD3 hb03 hf3
  obtain ⟨⟨b0, b1, b2, b3, b4⟩, ⟨g0, g1, g2, g3, g4⟩, ⟨o0, o1, o2, o3, o4, o5⟩, ⟨z0, z1, z2, z3, z4⟩, ⟨r0, r1, r2, r3, r4⟩⟩ := hB3.facts
  clear hB3
  go_upto_region 34 with (go_at_call 40; refine (Hd.out w3 HD3.out).mono ?_; rintro e w4 ⟨rfl, hL4⟩; have hB4 := HB3.out.ext hL4.ext (fun q hq => by have := Hl.out; simp only [List.mem_cons, List.mem_nil_iff, or_false] at hq; omega); clear b0 b1 b2 b3 b4 g0 g1 g2 g3 g4 o0 o1 o2 o3 o4 o5 z0 z1 z2 z3 z4 r0 r1 r2 r3 r4; obtain ⟨⟨b0, b1, b2, b3, b4⟩, ⟨g0, g1, g2, g3, g4⟩, ⟨o0, o1, o2, o3, o4, o5⟩, ⟨z0, z1, z2, z3, z4⟩, ⟨r0, r1, r2, r3, r4⟩⟩ := hB4.facts)
  have hf4 := dsk_noStr HD3.out hL4 Hf3.out
  obtain ⟨w5, hw5, ⟨x0, x1, x2, x3, x4⟩, hE5, hF5, hI5⟩ := hB4.done (.int .i64 D'.room) (.slice A2 n2 c2) (.bool D'.down) (.int .i64 D'.armed) (.int .u64 D'.steps)
  have Hfin := Lib.hid (show RFiles w5 A2 n2 D'.files ∧ n2 ≤ c2 ∧ Left w d mp mt D' w5 from ⟨hF5 _ _ _ hf4, hc2, hI5 _ _ _ _ Hl.out.1 Hl.out.2.1 Hl.out.2.2 hL4.disk, (Ext.of_below Hb03.out).trans (hL4.ext.mono (fun k hk => Or.inl hk)) |>.then_ hE5 (fun i hi => Or.inr (by rw [List.mem_singleton.1 hi]; omega))⟩)
  clear hf4 hE5 hF5 hI5 hL4 hB4
  go_wp2_with fail
  rw [← hw5]
  exact bodyPost_ret (v := .tuple #[.agg #[.int .i64 D'.room, .slice A2 n2 c2, .bool D'.down, .int .i64 D'.armed, .int .u64 D'.steps], .bool true]) (by simp [results, Try.results30, go_sem, x0, x1, x2, x3, x4]) rfl ⟨A2, n2, c2, rfl, Hfin.out⟩

set_option maxRecDepth 100000 in
set_option maxHeartbeats 4000000 in
theorem do_resize (d mp mt : Nat) (D : Dsk) (A : Option Addr) (n c : Nat) (on : Int) (nm to_ tx : ByteArray) (At : Option Addr) (m ct : Nat) (w : World) (h : IsDisk w d mp mt D) (hr : RFiles w A n D.files) (hnc : n ≤ c) (hok : D.Ok) (hst : D.steps < 4611686018427387904) (hnm : nm.size ≤ 9223372036854775807) (hto : to_.size ≤ 9223372036854775807) (htx : tx.size ≤ 140737488355328) :
    Calls Try.prog 30 #[.pointer (some ⟨d, 0, none⟩), refV D A n c, .agg #[.int .i64 9, .int .i64 on, .string nm, .string to_, .string tx, .slice At m ct]] w (DoGives w d mp mt (D.resize on).1) := by
  have Hr := Lib.hid (fun w1 (hb : Below w.heap.size w w1) => refresize_calls D A n c on w1 (hr.below hb) hnc)
  have Hd := Lib.hid (fun w1 (hd : IsDisk w1 d mp mt D) => resize_calls d mp mt D on w1 hd)
  have H := Lib.hid h
  have hld := h.lt_d
  have hlm := h.lt_mp
  have hlt := h.lt_mt
  obtain ⟨D', hD'⟩ : ∃ D', D' = (D.resize on).1 := ⟨_, rfl⟩
  obtain ⟨code, hcode⟩ : ∃ code, code = (D.resize on).2 := ⟨_, rfl⟩
  rw [← hD', ← hcode] at Hr Hd
  rw [← hD']
  unfold refV at Hr
  unfold refV
  have Hl := Lib.hid (And.intro hld (And.intro hlm hlt))
  clear h hr hok hst hnm hto htx hD' hcode hld hlm hlt
  go_enter Try.func30, Try.ntmps30
  go_upto_region 33 with (go_at_call 91; refine (Hr.out _ (al3 w _ _ _)).mono ?_; rintro e w2 ⟨A2, n2, c2, rfl, hf2, hc2, hb2⟩; unfold refV; have hB2 := (DoBlk.start w _ _ _ _ _ _ _ _ _ _ _ _ _).below hb2; obtain ⟨⟨b0, b1, b2, b3, b4⟩, ⟨g0, g1, g2, g3, g4⟩, ⟨o0, o1, o2, o3, o4, o5⟩, ⟨z0, z1, z2, z3, z4⟩, ⟨r0, r1, r2, r3, r4⟩⟩ := hB2.facts)
  obtain ⟨w3, hw3, hB3, hE3, hF3⟩ := hB2.store (.int .i64 D'.room) (.slice A2 n2 c2) (.bool D'.down) (.int .i64 D'.armed) (.int .u64 D'.steps) (refcells_noStr _ _ _ _ _ _ _)
  rw [← hw3]
  have hb02 : Below w.heap.size w w2 := below_next (al3 w _ _ _) hb2
  have hD2 : IsDisk w2 d mp mt D := H.out.below hb02
  have hD3 : IsDisk w3 d mp mt D := hD2.ext hE3 (fun k hk => by rw [List.mem_singleton.1 hk]; exact refcells_noU8 hB2.disk) (by have := Hl.out; simp; omega) (by have := Hl.out; simp; omega) (by have := Hl.out; simp; omega)
  have hb03 : Below w.heap.size w w3 := hb02.trans (hE3.below hb02.size (fun q hq => by rw [List.mem_singleton.1 hq]; exact Nat.le_refl _))
  have hf3 := hF3 _ _ _ hf2
  have HB3 := Lib.hid hB3
  have HD3 := Lib.hid hD3
  have Hb03 := Lib.hid hb03
  have Hf3 := Lib.hid hf3
  clear hw3 hE3 hF3 hB2 hb2 hf2 b0 b1 b2 b3 b4 g0 g1 g2 g3 g4 o0 o1 o2 o3 o4 o5 z0 z1 z2 z3 z4 r0 r1 r2 r3 r4 hb02 hD2 hD3 hb03 hf3
  obtain ⟨⟨b0, b1, b2, b3, b4⟩, ⟨g0, g1, g2, g3, g4⟩, ⟨o0, o1, o2, o3, o4, o5⟩, ⟨z0, z1, z2, z3, z4⟩, ⟨r0, r1, r2, r3, r4⟩⟩ := hB3.facts
  clear hB3
  go_upto_region 34 with (go_at_call 46; refine (Hd.out w3 HD3.out).mono ?_; rintro e w4 ⟨rfl, hL4⟩; have hB4 := HB3.out.ext hL4.ext (fun q hq => by have := Hl.out; simp only [List.mem_cons, List.mem_nil_iff, or_false] at hq; omega); clear b0 b1 b2 b3 b4 g0 g1 g2 g3 g4 o0 o1 o2 o3 o4 o5 z0 z1 z2 z3 z4 r0 r1 r2 r3 r4; obtain ⟨⟨b0, b1, b2, b3, b4⟩, ⟨g0, g1, g2, g3, g4⟩, ⟨o0, o1, o2, o3, o4, o5⟩, ⟨z0, z1, z2, z3, z4⟩, ⟨r0, r1, r2, r3, r4⟩⟩ := hB4.facts)
  have hf4 := dsk_noStr HD3.out hL4 Hf3.out
  obtain ⟨w5, hw5, ⟨x0, x1, x2, x3, x4⟩, hE5, hF5, hI5⟩ := hB4.done (.int .i64 D'.room) (.slice A2 n2 c2) (.bool D'.down) (.int .i64 D'.armed) (.int .u64 D'.steps)
  have Hfin := Lib.hid (show RFiles w5 A2 n2 D'.files ∧ n2 ≤ c2 ∧ Left w d mp mt D' w5 from ⟨hF5 _ _ _ hf4, hc2, hI5 _ _ _ _ Hl.out.1 Hl.out.2.1 Hl.out.2.2 hL4.disk, (Ext.of_below Hb03.out).trans (hL4.ext.mono (fun k hk => Or.inl hk)) |>.then_ hE5 (fun i hi => Or.inr (by rw [List.mem_singleton.1 hi]; omega))⟩)
  clear hf4 hE5 hF5 hI5 hL4 hB4
  go_wp2_with fail
  rw [← hw5]
  exact bodyPost_ret (v := .tuple #[.agg #[.int .i64 D'.room, .slice A2 n2 c2, .bool D'.down, .int .i64 D'.armed, .int .u64 D'.steps], .bool true]) (by simp [results, Try.results30, go_sem, x0, x1, x2, x3, x4]) rfl ⟨A2, n2, c2, rfl, Hfin.out⟩

set_option maxRecDepth 100000 in
set_option maxHeartbeats 4000000 in
theorem do_boot (d mp mt : Nat) (D : Dsk) (A : Option Addr) (n c : Nat) (on : Int) (nm to_ tx : ByteArray) (At : Option Addr) (m ct : Nat) (w : World) (h : IsDisk w d mp mt D) (hr : RFiles w A n D.files) (hnc : n ≤ c) (hok : D.Ok) (hst : D.steps < 4611686018427387904) (hnm : nm.size ≤ 9223372036854775807) (hto : to_.size ≤ 9223372036854775807) (htx : tx.size ≤ 140737488355328) :
    Calls Try.prog 30 #[.pointer (some ⟨d, 0, none⟩), refV D A n c, .agg #[.int .i64 8, .int .i64 on, .string nm, .string to_, .string tx, .slice At m ct]] w (DoGives w d mp mt D.boot) := by
  have Hr := Lib.hid (fun w1 (hb : Below w.heap.size w w1) => refboot_calls D A n c w1 (hr.below hb) hnc)
  have Hd := Lib.hid (fun w1 (hd : IsDisk w1 d mp mt D) => boot_calls d mp mt D w1 hd)
  have H := Lib.hid h
  have hld := h.lt_d
  have hlm := h.lt_mp
  have hlt := h.lt_mt
  obtain ⟨D', hD'⟩ : ∃ D', D' = D.boot := ⟨_, rfl⟩
  rw [← hD'] at Hr Hd
  rw [← hD']
  unfold refV at Hr
  unfold refV
  have Hl := Lib.hid (And.intro hld (And.intro hlm hlt))
  clear h hr hok hst hnm hto htx hD' hld hlm hlt
  go_enter Try.func30, Try.ntmps30
  go_upto_region 30 with (go_at_call 90; refine (Hr.out _ (al3 w _ _ _)).mono ?_; rintro e w2 ⟨A2, n2, c2, rfl, hf2, hc2, hb2⟩; unfold refV; have hB2 := (DoBlk.start w _ _ _ _ _ _ _ _ _ _ _ _ _).below hb2; obtain ⟨⟨b0, b1, b2, b3, b4⟩, ⟨g0, g1, g2, g3, g4⟩, ⟨o0, o1, o2, o3, o4, o5⟩, ⟨z0, z1, z2, z3, z4⟩, ⟨r0, r1, r2, r3, r4⟩⟩ := hB2.facts)
  obtain ⟨w3, hw3, hB3, hE3, hF3⟩ := hB2.store (.int .i64 D'.room) (.slice A2 n2 c2) (.bool D'.down) (.int .i64 D'.armed) (.int .u64 D'.steps) (refcells_noStr _ _ _ _ _ _ _)
  rw [← hw3]
  have hb02 : Below w.heap.size w w2 := below_next (al3 w _ _ _) hb2
  have hD2 : IsDisk w2 d mp mt D := H.out.below hb02
  have hD3 : IsDisk w3 d mp mt D := hD2.ext hE3 (fun k hk => by rw [List.mem_singleton.1 hk]; exact refcells_noU8 hB2.disk) (by have := Hl.out; simp; omega) (by have := Hl.out; simp; omega) (by have := Hl.out; simp; omega)
  have hb03 : Below w.heap.size w w3 := hb02.trans (hE3.below hb02.size (fun q hq => by rw [List.mem_singleton.1 hq]; exact Nat.le_refl _))
  have hf3 := hF3 _ _ _ hf2
  have HB3 := Lib.hid hB3
  have HD3 := Lib.hid hD3
  have Hb03 := Lib.hid hb03
  have Hf3 := Lib.hid hf3
  clear hw3 hE3 hF3 hB2 hb2 hf2 b0 b1 b2 b3 b4 g0 g1 g2 g3 g4 o0 o1 o2 o3 o4 o5 z0 z1 z2 z3 z4 r0 r1 r2 r3 r4 hb02 hD2 hD3 hb03 hf3
  obtain ⟨⟨b0, b1, b2, b3, b4⟩, ⟨g0, g1, g2, g3, g4⟩, ⟨o0, o1, o2, o3, o4, o5⟩, ⟨z0, z1, z2, z3, z4⟩, ⟨r0, r1, r2, r3, r4⟩⟩ := hB3.facts
  clear hB3
  go_upto_region 34 with (go_at_call 47; refine (Hd.out w3 HD3.out).mono ?_; rintro e w4 ⟨rfl, hL4⟩; have hB4 := HB3.out.ext hL4.ext (fun q hq => by have := Hl.out; simp only [List.mem_cons, List.mem_nil_iff, or_false] at hq; omega); clear b0 b1 b2 b3 b4 g0 g1 g2 g3 g4 o0 o1 o2 o3 o4 o5 z0 z1 z2 z3 z4 r0 r1 r2 r3 r4; obtain ⟨⟨b0, b1, b2, b3, b4⟩, ⟨g0, g1, g2, g3, g4⟩, ⟨o0, o1, o2, o3, o4, o5⟩, ⟨z0, z1, z2, z3, z4⟩, ⟨r0, r1, r2, r3, r4⟩⟩ := hB4.facts)
  have hf4 := dsk_noStr HD3.out hL4 Hf3.out
  obtain ⟨w5, hw5, ⟨x0, x1, x2, x3, x4⟩, hE5, hF5, hI5⟩ := hB4.done (.int .i64 D'.room) (.slice A2 n2 c2) (.bool D'.down) (.int .i64 D'.armed) (.int .u64 D'.steps)
  have Hfin := Lib.hid (show RFiles w5 A2 n2 D'.files ∧ n2 ≤ c2 ∧ Left w d mp mt D' w5 from ⟨hF5 _ _ _ hf4, hc2, hI5 _ _ _ _ Hl.out.1 Hl.out.2.1 Hl.out.2.2 hL4.disk, (Ext.of_below Hb03.out).trans (hL4.ext.mono (fun k hk => Or.inl hk)) |>.then_ hE5 (fun i hi => Or.inr (by rw [List.mem_singleton.1 hi]; omega))⟩)
  clear hf4 hE5 hF5 hI5 hL4 hB4
  go_wp2_with fail
  rw [← hw5]
  exact bodyPost_ret (v := .tuple #[.agg #[.int .i64 D'.room, .slice A2 n2 c2, .bool D'.down, .int .i64 D'.armed, .int .u64 D'.steps], .bool true]) (by simp [results, Try.results30, go_sem, x0, x1, x2, x3, x4]) rfl ⟨A2, n2, c2, rfl, Hfin.out⟩

set_option maxRecDepth 100000 in
set_option maxHeartbeats 4000000 in
theorem do_append (d mp mt : Nat) (D : Dsk) (A : Option Addr) (n c : Nat) (kd : Int) (on : Int) (nm to_ tx : ByteArray) (At : Option Addr) (m ct : Nat) (w : World) (h : IsDisk w d mp mt D) (hr : RFiles w A n D.files) (hnc : n ≤ c) (hok : D.Ok) (hst : D.steps < 4611686018427387904) (hnm : nm.size ≤ 9223372036854775807) (hto : to_.size ≤ 9223372036854775807) (htx : tx.size ≤ 140737488355328) (k1 : ((kd : Int) == 1) = false) (k2 : ((kd : Int) == 2) = false) (k3 : ((kd : Int) == 3) = false) (k4 : ((kd : Int) == 4) = false) (k5 : ((kd : Int) == 5) = false) (k6 : ((kd : Int) == 6) = false) (k7 : ((kd : Int) == 7) = false) (k8 : ((kd : Int) == 8) = false) (k9 : ((kd : Int) == 9) = false) :
    Calls Try.prog 30 #[.pointer (some ⟨d, 0, none⟩), refV D A n c, .agg #[.int .i64 kd, .int .i64 on, .string nm, .string to_, .string tx, .slice At m ct]] w (DoGives w d mp mt (D.append nm.data.toList tx.data.toList).1) := by
  have Hr := Lib.hid (fun w1 (hb : Below w.heap.size w w1) => refappend_calls D A n c nm tx w1 (hr.below hb) hnc (by have := n_le hok hr; omega) hst hok.armed0 hok.armed1 (len_all hok) hnm htx hok.room0 hok.room1 hok.sum)
  have Hd := Lib.hid (fun w1 A' c' (hd : IsDisk w1 d mp mt D) (hb' : Bts w1 A' tx.size tx.data.toList) => append_calls d mp mt D nm A' tx.size c' tx.data.toList w1 hd hnm hb' (by omega) hok hst)
  have H := Lib.hid h
  have hld := h.lt_d
  have hlm := h.lt_mp
  have hlt := h.lt_mt
  obtain ⟨D', hD'⟩ : ∃ D', D' = (D.append nm.data.toList tx.data.toList).1 := ⟨_, rfl⟩
  obtain ⟨code, hcode⟩ : ∃ code, code = (D.append nm.data.toList tx.data.toList).2 := ⟨_, rfl⟩
  rw [← hD', ← hcode] at Hr Hd
  rw [← hD']
  unfold refV at Hr
  unfold refV
  have Hl := Lib.hid (And.intro hld (And.intro hlm hlt))
  clear h hr hok hst hnm hto htx hD' hcode hld hlm hlt
  go_enter Try.func30, Try.ntmps30
  go_upto_region 5 with (go_at_call 92; refine (Hr.out _ (al3 w _ _ _)).mono ?_; rintro e w2 ⟨A2, n2, c2, rfl, hf2, hc2, hb2⟩; unfold refV; have hB2 := (DoBlk.start w _ _ _ _ _ _ _ _ _ _ _ _ _).below hb2; obtain ⟨⟨b0, b1, b2, b3, b4⟩, ⟨g0, g1, g2, g3, g4⟩, ⟨o0, o1, o2, o3, o4, o5⟩, ⟨z0, z1, z2, z3, z4⟩, ⟨r0, r1, r2, r3, r4⟩⟩ := hB2.facts)
  obtain ⟨w3, hw3, hB3, hE3, hF3⟩ := hB2.store (.int .i64 D'.room) (.slice A2 n2 c2) (.bool D'.down) (.int .i64 D'.armed) (.int .u64 D'.steps) (refcells_noStr _ _ _ _ _ _ _)
  rw [← hw3]
  have hb02 : Below w.heap.size w w2 := below_next (al3 w _ _ _) hb2
  have hD2 : IsDisk w2 d mp mt D := H.out.below hb02
  have hD3 : IsDisk w3 d mp mt D := hD2.ext hE3 (fun k hk => by rw [List.mem_singleton.1 hk]; exact refcells_noU8 hB2.disk) (by have := Hl.out; simp; omega) (by have := Hl.out; simp; omega) (by have := Hl.out; simp; omega)
  have hb03 : Below w.heap.size w w3 := hb02.trans (hE3.below hb02.size (fun q hq => by rw [List.mem_singleton.1 hq]; exact Nat.le_refl _))
  have hf3 := hF3 _ _ _ hf2
  have HB3 := Lib.hid hB3
  have HD3 := Lib.hid hD3
  have Hb03 := Lib.hid hb03
  have Hf3 := Lib.hid hf3
  clear hw3 hE3 hF3 hB2 hb2 hf2 b0 b1 b2 b3 b4 g0 g1 g2 g3 g4 o0 o1 o2 o3 o4 o5 z0 z1 z2 z3 z4 r0 r1 r2 r3 r4 hb02 hD2 hD3 hb03 hf3
  obtain ⟨⟨b0, b1, b2, b3, b4⟩, ⟨g0, g1, g2, g3, g4⟩, ⟨o0, o1, o2, o3, o4, o5⟩, ⟨z0, z1, z2, z3, z4⟩, ⟨r0, r1, r2, r3, r4⟩⟩ := hB3.facts
  clear hB3
  go_upto_region 34 with (first | (refine wpList_to_bytes _ rfl _ rfl tx rfl ?_; intro At2 ct2 w3' hbt2 hne2 hbl2; have hBx := HB3.out.below hbl2; clear b0 b1 b2 b3 b4 g0 g1 g2 g3 g4 o0 o1 o2 o3 o4 o5 z0 z1 z2 z3 z4 r0 r1 r2 r3 r4; obtain ⟨⟨b0, b1, b2, b3, b4⟩, ⟨g0, g1, g2, g3, g4⟩, ⟨o0, o1, o2, o3, o4, o5⟩, ⟨z0, z1, z2, z3, z4⟩, ⟨r0, r1, r2, r3, r4⟩⟩ := hBx.facts) | (go_at_call 41; refine (Hd.out w3' At2 ct2 (HD3.out.below hbl2) hbt2).mono ?_; rintro e w4 ⟨rfl, hL4'⟩; have hL4 := Left.then_below (D := D) hbl2 hL4'; have hB4 := HB3.out.ext hL4.ext (fun q hq => by have := Hl.out; simp only [List.mem_cons, List.mem_nil_iff, or_false] at hq; omega); clear b0 b1 b2 b3 b4 g0 g1 g2 g3 g4 o0 o1 o2 o3 o4 o5 z0 z1 z2 z3 z4 r0 r1 r2 r3 r4; obtain ⟨⟨b0, b1, b2, b3, b4⟩, ⟨g0, g1, g2, g3, g4⟩, ⟨o0, o1, o2, o3, o4, o5⟩, ⟨z0, z1, z2, z3, z4⟩, ⟨r0, r1, r2, r3, r4⟩⟩ := hB4.facts))
  have hf4 := dsk_noStr HD3.out hL4 Hf3.out
  obtain ⟨w5, hw5, ⟨x0, x1, x2, x3, x4⟩, hE5, hF5, hI5⟩ := hB4.done (.int .i64 D'.room) (.slice A2 n2 c2) (.bool D'.down) (.int .i64 D'.armed) (.int .u64 D'.steps)
  have Hfin := Lib.hid (show RFiles w5 A2 n2 D'.files ∧ n2 ≤ c2 ∧ Left w d mp mt D' w5 from ⟨hF5 _ _ _ hf4, hc2, hI5 _ _ _ _ Hl.out.1 Hl.out.2.1 Hl.out.2.2 hL4.disk, (Ext.of_below Hb03.out).trans (hL4.ext.mono (fun k hk => Or.inl hk)) |>.then_ hE5 (fun i hi => Or.inr (by rw [List.mem_singleton.1 hi]; omega))⟩)
  clear hf4 hE5 hF5 hI5 hL4 hB4
  go_wp2_with fail
  rw [← hw5]
  exact bodyPost_ret (v := .tuple #[.agg #[.int .i64 D'.room, .slice A2 n2 c2, .bool D'.down, .int .i64 D'.armed, .int .u64 D'.steps], .bool true]) (by simp [results, Try.results30, go_sem, x0, x1, x2, x3, x4]) rfl ⟨A2, n2, c2, rfl, Hfin.out⟩

end Go.Proofs.Ytcfgdlpdnpnhmaa
