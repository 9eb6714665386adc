/- Contracts and words (several texts merged by wip/merge.py). What curfewlaw23.do leaves: words, and blocks. -/
import Derived.Test.YtcfgdlpdnpnhmaaSkAK
import Derived.Test.YtcfgdlpdnpnhmaaSkAL
import Derived.Test.YtcfgdlpdnpnhmaaSkAM
import Derived.Deep.RegionWith
import Derived.Test.YtcfgdlpdnpnhmaaSkAJ
import Derived.Deep.QuietTactic
import Derived.BigQuiet
set_option linter.unusedVariables false
set_option linter.unusedSimpArgs false
namespace Go.Proofs.Ytcfgdlpdnpnhmaa
open Go.RowKit Go.Maps

/-- What do leaves: both disks stand as D'. -/
def DoGives (w : World) (d mp mt : Nat) (D : Dsk) (e : Ending) (w' : World) : Prop :=
  ∃ A n c, e = .returned (.tuple #[refV D A n c, .bool true]) ∧ RFiles w' A n D.files ∧ n ≤ c ∧ Left w d mp mt D w'
theorem Left.of_below {w w1 : World} {d mp mt : Nat} {D : Dsk} (h : IsDisk w d mp mt D) (hb : Below w.heap.size w w1) : Left w d mp mt D w1 := ⟨h.below hb, Ext.of_below hb⟩
theorem len_all {D : Dsk} (h : D.Ok) : ∀ f ∈ D.files, f.all.length ≤ 1048576 := fun f hf => by have := sum_le_mem D.files f hf; have := h.sum; omega
theorem n_le {D : Dsk} {w : World} {A : Option Addr} {n : Nat} (h : D.Ok) (hr : RFiles w A n D.files) : n ≤ 128 := by have := hr.1; have := h.many; omega
theorem blk_new2 (w : World) (X Y R : Obj) : (((w.alloc X).alloc Y).alloc R).heap[w.heap.size + 1 + 1]? = some R := by
  have := blk_new ((w.alloc X).alloc Y) R
  rw [show ((w.alloc X).alloc Y).heap.size = w.heap.size + 1 + 1 by simp] at this
  exact this
/-- The three blocks of do: the document's disk, the call, the result. -/
structure DoBlk (w : World) (g : Nat) (v0 v1 v2 v3 v4 : Value) (kd on : Int) (nm to_ tx : ByteArray) (At : Option Addr) (m ct : Nat) : Prop where
  disk : w.heap[g]? = some (.cells #[v0, v1, v2, v3, v4] 45 (0, 0))
  op : w.heap[g + 1]? = some (.cells #[.int .i64 kd, .int .i64 on, .string nm, .string to_, .string tx, .slice At m ct] 49 (0, 0))
  res : w.heap[g + 1 + 1]? = some (.cells #[.int .i64 0, .slice none 0 0, .bool false, .int .i64 0, .int .u64 0] 45 (0, 0))
section
variable {w w' : World} {g : Nat} {v0 v1 v2 v3 v4 : Value} {kd on : Int} {nm to_ tx : ByteArray} {At : Option Addr} {m ct : Nat}
theorem DoBlk.start (w : World) (v0 v1 v2 v3 v4 : Value) (kd on : Int) (nm to_ tx : ByteArray) (At : Option Addr) (m ct : Nat) :
    DoBlk (((w.alloc (.cells #[v0, v1, v2, v3, v4] 45)).alloc (.cells #[.int .i64 kd, .int .i64 on, .string nm, .string to_, .string tx, .slice At m ct] 49)).alloc (.cells #[.int .i64 0, .slice none 0 0, .bool false, .int .i64 0, .int .u64 0] 45)) w.heap.size v0 v1 v2 v3 v4 kd on nm to_ tx At m ct :=
  ⟨blk_alloc (blk_alloc (blk_new w _) _) _, blk_alloc (blk_new1 w _ _) _, blk_new2 w _ _ _⟩
theorem DoBlk.ext {S : List Nat} (h : DoBlk w g v0 v1 v2 v3 v4 kd on nm to_ tx At m ct) (e : Ext S w w') (hs : ∀ q, q ∈ S → q < g) : DoBlk w' g v0 v1 v2 v3 v4 kd on nm to_ tx At m ct :=
  ⟨e.obj h.disk (fun hm => by have := hs _ hm; omega), e.obj h.op (fun hm => by have := hs _ hm; omega), e.obj h.res (fun hm => by have := hs _ hm; omega)⟩
theorem DoBlk.below (h : DoBlk w g v0 v1 v2 v3 v4 kd on nm to_ tx At m ct) (e : Below w.heap.size w w') : DoBlk w' g v0 v1 v2 v3 v4 kd on nm to_ tx At m ct :=
  h.ext (S := []) (Ext.of_below e) (fun k hk => by cases hk)
/-- The cells that a walk reads and writes. -/
theorem DoBlk.facts (h : DoBlk w g v0 v1 v2 v3 v4 kd on nm to_ tx At m ct) :
    (w.cell? ⟨g, 0, none⟩ = some v0 ∧ w.cell? ⟨g, 1, none⟩ = some v1 ∧ w.cell? ⟨g, 2, none⟩ = some v2 ∧ w.cell? ⟨g, 3, none⟩ = some v3 ∧ w.cell? ⟨g, 4, none⟩ = some v4) ∧
    (w.frozen? ⟨g, 0, none⟩ = false ∧ w.frozen? ⟨g, 1, none⟩ = false ∧ w.frozen? ⟨g, 2, none⟩ = false ∧ w.frozen? ⟨g, 3, none⟩ = false ∧ w.frozen? ⟨g, 4, none⟩ = false) ∧
    (w.cell? ⟨g + 1, 0, none⟩ = some (.int .i64 kd) ∧ w.cell? ⟨g + 1, 1, none⟩ = some (.int .i64 on) ∧ w.cell? ⟨g + 1, 2, none⟩ = some (.string nm) ∧ w.cell? ⟨g + 1, 3, none⟩ = some (.string to_) ∧ w.cell? ⟨g + 1, 4, none⟩ = some (.string tx) ∧ w.cell? ⟨g + 1, 5, none⟩ = some (.slice At m ct)) ∧
    (w.cell? ⟨g + 1 + 1, 0, none⟩ = some (.int .i64 0) ∧ w.cell? ⟨g + 1 + 1, 1, none⟩ = some (.slice none 0 0) ∧ w.cell? ⟨g + 1 + 1, 2, none⟩ = some (.bool false) ∧ w.cell? ⟨g + 1 + 1, 3, none⟩ = some (.int .i64 0) ∧ w.cell? ⟨g + 1 + 1, 4, none⟩ = some (.int .u64 0)) ∧
    (w.frozen? ⟨g + 1 + 1, 0, none⟩ = false ∧ w.frozen? ⟨g + 1 + 1, 1, none⟩ = false ∧ w.frozen? ⟨g + 1 + 1, 2, none⟩ = false ∧ w.frozen? ⟨g + 1 + 1, 3, none⟩ = false ∧ w.frozen? ⟨g + 1 + 1, 4, none⟩ = false) :=
  ⟨⟨blk_cell h.disk 0, blk_cell h.disk 1, blk_cell h.disk 2, blk_cell h.disk 3, blk_cell h.disk 4⟩,
   ⟨blk_frozen h.disk 0, blk_frozen h.disk 1, blk_frozen h.disk 2, blk_frozen h.disk 3, blk_frozen h.disk 4⟩,
   ⟨blk_cell h.op 0, blk_cell h.op 1, blk_cell h.op 2, blk_cell h.op 3, blk_cell h.op 4, blk_cell h.op 5⟩,
   ⟨blk_cell h.res 0, blk_cell h.res 1, blk_cell h.res 2, blk_cell h.res 3, blk_cell h.res 4⟩,
   ⟨blk_frozen h.res 0, blk_frozen h.res 1, blk_frozen h.res 2, blk_frozen h.res 3, blk_frozen h.res 4⟩⟩
/-- A store of a disk's five cells into the first block. -/
theorem DoBlk.store (h : DoBlk w g v0 v1 v2 v3 v4 kd on nm to_ tx At m ct) (u0 u1 u2 u3 u4 : Value) (hs : ∀ (j : Nat) (s : ByteArray), #[v0, v1, v2, v3, v4][j]? ≠ some (Value.string s)) :
    ∃ W', W' = ((((w.setCell ⟨g, 0, none⟩ u0).setCell ⟨g, 1, none⟩ u1).setCell ⟨g, 2, none⟩ u2).setCell ⟨g, 3, none⟩ u3).setCell ⟨g, 4, none⟩ u4 ∧ DoBlk W' g u0 u1 u2 u3 u4 kd on nm to_ tx At m ct ∧ Ext [g] w W' ∧ ∀ A n l, RFiles w A n l → RFiles W' A n l := by
  obtain ⟨W', e, hx, hE, hF⟩ := res_done (by rfl) h.disk u0 u1 u2 u3 u4 hs
  exact ⟨W', e, ⟨hx, hE.obj h.op (by simp), hE.obj h.res (by simp; omega)⟩, hE, hF⟩
/-- A store of a disk's five cells into the result. -/
theorem DoBlk.done (h : DoBlk w g v0 v1 v2 v3 v4 kd on nm to_ tx At m ct) (u0 u1 u2 u3 u4 : Value) :
    ∃ W', W' = ((((w.setCell ⟨g + 1 + 1, 0, none⟩ u0).setCell ⟨g + 1 + 1, 1, none⟩ u1).setCell ⟨g + 1 + 1, 2, none⟩ u2).setCell ⟨g + 1 + 1, 3, none⟩ u3).setCell ⟨g + 1 + 1, 4, none⟩ u4 ∧
      (W'.cell? ⟨g + 1 + 1, 0, none⟩ = some u0 ∧ W'.cell? ⟨g + 1 + 1, 1, none⟩ = some u1 ∧ W'.cell? ⟨g + 1 + 1, 2, none⟩ = some u2 ∧ W'.cell? ⟨g + 1 + 1, 3, none⟩ = some u3 ∧ W'.cell? ⟨g + 1 + 1, 4, none⟩ = some u4) ∧ Ext [g + 1 + 1] w W' ∧ (∀ A n l, RFiles w A n l → RFiles W' A n l) ∧ (∀ d mp mt D, d < g → mp < g → mt < g → IsDisk w d mp mt D → IsDisk W' d mp mt D) := by
  obtain ⟨W', e, hx, hE, hF⟩ := res_done (by rfl) h.res u0 u1 u2 u3 u4 (fun j x => by rcases j with _ | _ | _ | _ | _ | j <;> simp)
  refine ⟨W', e, ⟨blk_cell hx 0, blk_cell hx 1, blk_cell hx 2, blk_cell hx 3, blk_cell hx 4⟩, hE, hF, fun d mp mt D h1 h2 h3 hD => ?_⟩
  refine hD.ext hE (fun k hk => ?_) (by simp; omega) (by simp; omega) (by simp; omega)
  rw [List.mem_singleton.1 hk]
  exact .of_cells h.res (fun j x => by rcases j with _ | _ | _ | _ | _ | j <;> simp)
end
theorem refcells_noStr (r : Int) (A : Option Addr) (n c : Nat) (b : Bool) (a : Int) (s : Int) : ∀ (j : Nat) (x : ByteArray), #[Value.int .i64 r, .slice A n c, .bool b, .int .i64 a, .int .u64 s][j]? ≠ some (Value.string x) :=
  fun j x => by rcases j with _ | _ | _ | _ | _ | j <;> simp
theorem refcells_noU8 {w : World} {g : Nat} {r a s : Int} {A : Option Addr} {n c : Nat} {b : Bool} {t : TypeId} (h : w.heap[g]? = some (.cells #[.int .i64 r, .slice A n c, .bool b, .int .i64 a, .int .u64 s] t (0, 0))) : NoU8 w g :=
  .of_cells h (fun j x => by rcases j with _ | _ | _ | _ | _ | j <;> simp)
theorem dsk_noStr {w : World} {d mp mt : Nat} {D : Dsk} (h : IsDisk w d mp mt D) {A : Option Addr} {n : Nat} {l : List File} {w' : World} {D' : Dsk} (hl : Left w d mp mt D' w') (hr : RFiles w A n l) : RFiles w' A n l := hr.ext hl.ext h.noStr
end Go.Proofs.Ytcfgdlpdnpnhmaa
set_option linter.unusedVariables false
set_option linter.unusedSimpArgs false
namespace Go.Proofs.Ytcfgdlpdnpnhmaa
open Go.RowKit Go.Maps

set_option maxRecDepth 100000 in
set_option maxHeartbeats 4000000 in
theorem do_sync (d mp mt : Nat) (D : Dsk) (A : Option Addr) (n c : Nat) (on : Int) (nm to_ tx : ByteArray) (At : Option Addr) (m ct : Nat) (w : World) (h : IsDisk w d mp mt D) (hr : RFiles w A n D.files) (hnc : n ≤ c) (hok : D.Ok) (hst : D.steps < 4611686018427387904) (hnm : nm.size ≤ 9223372036854775807) (hto : to_.size ≤ 9223372036854775807) (htx : tx.size ≤ 140737488355328) :
    Calls Try.prog 30 #[.pointer (some ⟨d, 0, none⟩), refV D A n c, .agg #[.int .i64 1, .int .i64 on, .string nm, .string to_, .string tx, .slice At m ct]] w (DoGives w d mp mt (D.sync nm.data.toList).1) := by
  have Hr := Lib.hid (fun w1 (hb : Below w.heap.size w w1) => refsync_calls D A n c nm w1 (hr.below hb) hnc (by have := n_le hok hr; omega) hst hok.armed0 hok.armed1 (len_all hok))
  have Hd := Lib.hid (fun w1 (hd : IsDisk w1 d mp mt D) => sync_calls d mp mt D nm w1 hd hnm hst hok.armed0 hok.armed1 (by have := hok.many; omega) (len_all hok))
  have H := Lib.hid h
  have hld := h.lt_d
  have hlm := h.lt_mp
  have hlt := h.lt_mt
  obtain ⟨D', hD'⟩ : ∃ D', D' = (D.sync nm.data.toList).1 := ⟨_, rfl⟩
  obtain ⟨code, hcode⟩ : ∃ code, code = (D.sync nm.data.toList).2 := ⟨_, rfl⟩
  rw [← hD', ← hcode] at Hr Hd
  rw [← hD']
  unfold refV at Hr
  unfold refV
  have Hl := Lib.hid (And.intro hld (And.intro hlm hlt))
  clear h hr hok hst hnm hto htx hD' hcode hld hlm hlt
  go_enter Try.func30, Try.ntmps30
  go_upto_region 8 with (go_at_call 82; refine (Hr.out _ (al3 w _ _ _)).mono ?_; rintro e w2 ⟨A2, n2, c2, rfl, hf2, hc2, hb2⟩; unfold refV; have hB2 := (DoBlk.start w _ _ _ _ _ _ _ _ _ _ _ _ _).below hb2; obtain ⟨⟨b0, b1, b2, b3, b4⟩, ⟨g0, g1, g2, g3, g4⟩, ⟨o0, o1, o2, o3, o4, o5⟩, ⟨z0, z1, z2, z3, z4⟩, ⟨r0, r1, r2, r3, r4⟩⟩ := hB2.facts)
  obtain ⟨w3, hw3, hB3, hE3, hF3⟩ := hB2.store (.int .i64 D'.room) (.slice A2 n2 c2) (.bool D'.down) (.int .i64 D'.armed) (.int .u64 D'.steps) (refcells_noStr _ _ _ _ _ _ _)
  rw [← hw3]
  have hb02 : Below w.heap.size w w2 := below_next (al3 w _ _ _) hb2
  have hD2 : IsDisk w2 d mp mt D := H.out.below hb02
  have hD3 : IsDisk w3 d mp mt D := hD2.ext hE3 (fun k hk => by rw [List.mem_singleton.1 hk]; exact refcells_noU8 hB2.disk) (by have := Hl.out; simp; omega) (by have := Hl.out; simp; omega) (by have := Hl.out; simp; omega)
  have hb03 : Below w.heap.size w w3 := hb02.trans (hE3.below hb02.size (fun q hq => by rw [List.mem_singleton.1 hq]; exact Nat.le_refl _))
  have hf3 := hF3 _ _ _ hf2
  have HB3 := Lib.hid hB3
  have HD3 := Lib.hid hD3
  have Hb03 := Lib.hid hb03
  have Hf3 := Lib.hid hf3
  clear hw3 hE3 hF3 hB2 hb2 hf2 b0 b1 b2 b3 b4 g0 g1 g2 g3 g4 o0 o1 o2 o3 o4 o5 z0 z1 z2 z3 z4 r0 r1 r2 r3 r4 hb02 hD2 hD3 hb03 hf3
  obtain ⟨⟨b0, b1, b2, b3, b4⟩, ⟨g0, g1, g2, g3, g4⟩, ⟨o0, o1, o2, o3, o4, o5⟩, ⟨z0, z1, z2, z3, z4⟩, ⟨r0, r1, r2, r3, r4⟩⟩ := hB3.facts
  clear hB3
  go_upto_region 34 with (go_at_call 42; refine (Hd.out w3 HD3.out).mono ?_; rintro e w4 ⟨rfl, hL4⟩; have hB4 := HB3.out.ext hL4.ext (fun q hq => by have := Hl.out; simp only [List.mem_cons, List.mem_nil_iff, or_false] at hq; omega); clear b0 b1 b2 b3 b4 g0 g1 g2 g3 g4 o0 o1 o2 o3 o4 o5 z0 z1 z2 z3 z4 r0 r1 r2 r3 r4; obtain ⟨⟨b0, b1, b2, b3, b4⟩, ⟨g0, g1, g2, g3, g4⟩, ⟨o0, o1, o2, o3, o4, o5⟩, ⟨z0, z1, z2, z3, z4⟩, ⟨r0, r1, r2, r3, r4⟩⟩ := hB4.facts)
  have hf4 := dsk_noStr HD3.out hL4 Hf3.out
  obtain ⟨w5, hw5, ⟨x0, x1, x2, x3, x4⟩, hE5, hF5, hI5⟩ := hB4.done (.int .i64 D'.room) (.slice A2 n2 c2) (.bool D'.down) (.int .i64 D'.armed) (.int .u64 D'.steps)
  have Hfin := Lib.hid (show RFiles w5 A2 n2 D'.files ∧ n2 ≤ c2 ∧ Left w d mp mt D' w5 from ⟨hF5 _ _ _ hf4, hc2, hI5 _ _ _ _ Hl.out.1 Hl.out.2.1 Hl.out.2.2 hL4.disk, (Ext.of_below Hb03.out).trans (hL4.ext.mono (fun k hk => Or.inl hk)) |>.then_ hE5 (fun i hi => Or.inr (by rw [List.mem_singleton.1 hi]; omega))⟩)
  clear hf4 hE5 hF5 hI5 hL4 hB4
  go_wp2_with fail
  rw [← hw5]
  exact bodyPost_ret (v := .tuple #[.agg #[.int .i64 D'.room, .slice A2 n2 c2, .bool D'.down, .int .i64 D'.armed, .int .u64 D'.steps], .bool true]) (by simp [results, Try.results30, go_sem, x0, x1, x2, x3, x4]) rfl ⟨A2, n2, c2, rfl, Hfin.out⟩

set_option maxRecDepth 100000 in
set_option maxHeartbeats 4000000 in
theorem do_cut (d mp mt : Nat) (D : Dsk) (A : Option Addr) (n c : Nat) (on : Int) (nm to_ tx : ByteArray) (At : Option Addr) (m ct : Nat) (w : World) (h : IsDisk w d mp mt D) (hr : RFiles w A n D.files) (hnc : n ≤ c) (hok : D.Ok) (hst : D.steps < 4611686018427387904) (hnm : nm.size ≤ 9223372036854775807) (hto : to_.size ≤ 9223372036854775807) (htx : tx.size ≤ 140737488355328) :
    Calls Try.prog 30 #[.pointer (some ⟨d, 0, none⟩), refV D A n c, .agg #[.int .i64 2, .int .i64 on, .string nm, .string to_, .string tx, .slice At m ct]] w (DoGives w d mp mt (D.cut nm.data.toList on).1) := by
  have Hr := Lib.hid (fun w1 (hb : Below w.heap.size w w1) => refcut_calls D A n c nm on w1 (hr.below hb) hnc (by have := n_le hok hr; omega) hst hok.armed0 hok.armed1 (len_all hok))
  have Hd := Lib.hid (fun w1 (hd : IsDisk w1 d mp mt D) => cut_calls d mp mt D nm on w1 hd hnm hst hok.armed0 hok.armed1 (by have := hok.many; omega) (len_all hok) hok.kept)
  have H := Lib.hid h
  have hld := h.lt_d
  have hlm := h.lt_mp
  have hlt := h.lt_mt
  obtain ⟨D', hD'⟩ : ∃ D', D' = (D.cut nm.data.toList on).1 := ⟨_, rfl⟩
  obtain ⟨code, hcode⟩ : ∃ code, code = (D.cut nm.data.toList on).2 := ⟨_, rfl⟩
  rw [← hD', ← hcode] at Hr Hd
  rw [← hD']
  unfold refV at Hr
  unfold refV
  have Hl := Lib.hid (And.intro hld (And.intro hlm hlt))
  clear h hr hok hst hnm hto htx hD' hcode hld hlm hlt
  go_enter Try.func30, Try.ntmps30
  go_upto_region 11 with (go_at_call 83; refine (Hr.out _ (al3 w _ _ _)).mono ?_; rintro e w2 ⟨A2, n2, c2, rfl, hf2, hc2, hb2⟩; unfold refV; have hB2 := (DoBlk.start w _ _ _ _ _ _ _ _ _ _ _ _ _).below hb2; obtain ⟨⟨b0, b1, b2, b3, b4⟩, ⟨g0, g1, g2, g3, g4⟩, ⟨o0, o1, o2, o3, o4, o5⟩, ⟨z0, z1, z2, z3, z4⟩, ⟨r0, r1, r2, r3, r4⟩⟩ := hB2.facts)
  obtain ⟨w3, hw3, hB3, hE3, hF3⟩ := hB2.store (.int .i64 D'.room) (.slice A2 n2 c2) (.bool D'.down) (.int .i64 D'.armed) (.int .u64 D'.steps) (refcells_noStr _ _ _ _ _ _ _)
  rw [← hw3]
  have hb02 : Below w.heap.size w w2 := below_next (al3 w _ _ _) hb2
  have hD2 : IsDisk w2 d mp mt D := H.out.below hb02
  have hD3 : IsDisk w3 d mp mt D := hD2.ext hE3 (fun k hk => by rw [List.mem_singleton.1 hk]; exact refcells_noU8 hB2.disk) (by have := Hl.out; simp; omega) (by have := Hl.out; simp; omega) (by have := Hl.out; simp; omega)
  have hb03 : Below w.heap.size w w3 := hb02.trans (hE3.below hb02.size (fun q hq => by rw [List.mem_singleton.1 hq]; exact Nat.le_refl _))
  have hf3 := hF3 _ _ _ hf2
  have HB3 := Lib.hid hB3
  have HD3 := Lib.hid hD3
  have Hb03 := Lib.hid hb03
  have Hf3 := Lib.hid hf3
  clear hw3 hE3 hF3 hB2 hb2 hf2 b0 b1 b2 b3 b4 g0 g1 g2 g3 g4 o0 o1 o2 o3 o4 o5 z0 z1 z2 z3 z4 r0 r1 r2 r3 r4 hb02 hD2 hD3 hb03 hf3
  obtain ⟨⟨b0, b1, b2, b3, b4⟩, ⟨g0, g1, g2, g3, g4⟩, ⟨o0, o1, o2, o3, o4, o5⟩, ⟨z0, z1, z2, z3, z4⟩, ⟨r0, r1, r2, r3, r4⟩⟩ := hB3.facts
  clear hB3
  go_upto_region 34 with (go_at_call 43; refine (Hd.out w3 HD3.out).mono ?_; rintro e w4 ⟨rfl, hL4⟩; have hB4 := HB3.out.ext hL4.ext (fun q hq => by have := Hl.out; simp only [List.mem_cons, List.mem_nil_iff, or_false] at hq; omega); clear b0 b1 b2 b3 b4 g0 g1 g2 g3 g4 o0 o1 o2 o3 o4 o5 z0 z1 z2 z3 z4 r0 r1 r2 r3 r4; obtain ⟨⟨b0, b1, b2, b3, b4⟩, ⟨g0, g1, g2, g3, g4⟩, ⟨o0, o1, o2, o3, o4, o5⟩, ⟨z0, z1, z2, z3, z4⟩, ⟨r0, r1, r2, r3, r4⟩⟩ := hB4.facts)
  have hf4 := dsk_noStr HD3.out hL4 Hf3.out
  obtain ⟨w5, hw5, ⟨x0, x1, x2, x3, x4⟩, hE5, hF5, hI5⟩ := hB4.done (.int .i64 D'.room) (.slice A2 n2 c2) (.bool D'.down) (.int .i64 D'.armed) (.int .u64 D'.steps)
  have Hfin := Lib.hid (show RFiles w5 A2 n2 D'.files ∧ n2 ≤ c2 ∧ Left w d mp mt D' w5 from ⟨hF5 _ _ _ hf4, hc2, hI5 _ _ _ _ Hl.out.1 Hl.out.2.1 Hl.out.2.2 hL4.disk, (Ext.of_below Hb03.out).trans (hL4.ext.mono (fun k hk => Or.inl hk)) |>.then_ hE5 (fun i hi => Or.inr (by rw [List.mem_singleton.1 hi]; omega))⟩)
  clear hf4 hE5 hF5 hI5 hL4 hB4
  go_wp2_with fail
  rw [← hw5]
  exact bodyPost_ret (v := .tuple #[.agg #[.int .i64 D'.room, .slice A2 n2 c2, .bool D'.down, .int .i64 D'.armed, .int .u64 D'.steps], .bool true]) (by simp [results, Try.results30, go_sem, x0, x1, x2, x3, x4]) rfl ⟨A2, n2, c2, rfl, Hfin.out⟩

set_option maxRecDepth 100000 in
set_option maxHeartbeats 4000000 in
theorem do_remove (d mp mt : Nat) (D : Dsk) (A : Option Addr) (n c : Nat) (on : Int) (nm to_ tx : ByteArray) (At : Option Addr) (m ct : Nat) (w : World) (h : IsDisk w d mp mt D) (hr : RFiles w A n D.files) (hnc : n ≤ c) (hok : D.Ok) (hst : D.steps < 4611686018427387904) (hnm : nm.size ≤ 9223372036854775807) (hto : to_.size ≤ 9223372036854775807) (htx : tx.size ≤ 140737488355328) :
    Calls Try.prog 30 #[.pointer (some ⟨d, 0, none⟩), refV D A n c, .agg #[.int .i64 3, .int .i64 on, .string nm, .string to_, .string tx, .slice At m ct]] w (DoGives w d mp mt (D.remove nm.data.toList).1) := by
  have Hr := Lib.hid (fun w1 (hb : Below w.heap.size w w1) => refremove_calls D A n c nm w1 (hr.below hb) hnc (by have := n_le hok hr; omega) hst hok.armed0 hok.armed1)
  have Hd := Lib.hid (fun w1 (hd : IsDisk w1 d mp mt D) => remove_calls d mp mt D nm w1 hd hnm hst hok.armed0 hok.armed1)
  have H := Lib.hid h
  have hld := h.lt_d
  have hlm := h.lt_mp
  have hlt := h.lt_mt
  obtain ⟨D', hD'⟩ : ∃ D', D' = (D.remove nm.data.toList).1 := ⟨_, rfl⟩
  obtain ⟨code, hcode⟩ : ∃ code, code = (D.remove nm.data.toList).2 := ⟨_, rfl⟩
  rw [← hD', ← hcode] at Hr Hd
  rw [← hD']
  unfold refV at Hr
  unfold refV
  have Hl := Lib.hid (And.intro hld (And.intro hlm hlt))
  clear h hr hok hst hnm hto htx hD' hcode hld hlm hlt
  go_enter Try.func30, Try.ntmps30
  go_upto_region 14 with (go_at_call 84; refine (Hr.out _ (al3 w _ _ _)).mono ?_; rintro e w2 ⟨A2, n2, c2, rfl, hf2, hc2, hb2⟩; unfold refV; have hB2 := (DoBlk.start w _ _ _ _ _ _ _ _ _ _ _ _ _).below hb2; obtain ⟨⟨b0, b1, b2, b3, b4⟩, ⟨g0, g1, g2, g3, g4⟩, ⟨o0, o1, o2, o3, o4, o5⟩, ⟨z0, z1, z2, z3, z4⟩, ⟨r0, r1, r2, r3, r4⟩⟩ := hB2.facts)
  obtain ⟨w3, hw3, hB3, hE3, hF3⟩ := hB2.store (.int .i64 D'.room) (.slice A2 n2 c2) (.bool D'.down) (.int .i64 D'.armed) (.int .u64 D'.steps) (refcells_noStr _ _ _ _ _ _ _)
  rw [← hw3]
  have hb02 : Below w.heap.size w w2 := below_next (al3 w _ _ _) hb2
  have hD2 : IsDisk w2 d mp mt D := H.out.below hb02
  have hD3 : IsDisk w3 d mp mt D := hD2.ext hE3 (fun k hk => by rw [List.mem_singleton.1 hk]; exact refcells_noU8 hB2.disk) (by have := Hl.out; simp; omega) (by have := Hl.out; simp; omega) (by have := Hl.out; simp; omega)
  have hb03 : Below w.heap.size w w3 := hb02.trans (hE3.below hb02.size (fun q hq => by rw [List.mem_singleton.1 hq]; exact Nat.le_refl _))
  have hf3 := hF3 _ _ _ hf2
  have HB3 := Lib.hid hB3
  have HD3 := Lib.hid hD3
  have Hb03 := Lib.hid hb03
  have Hf3 := Lib.hid hf3
  clear hw3 hE3 hF3 hB2 hb2 hf2 b0 b1 b2 b3 b4 g0 g1 g2 g3 g4 o0 o1 o2 o3 o4 o5 z0 z1 z2 z3 z4 r0 r1 r2 r3 r4 hb02 hD2 hD3 hb03 hf3
  obtain ⟨⟨b0, b1, b2, b3, b4⟩, ⟨g0, g1, g2, g3, g4⟩, ⟨o0, o1, o2, o3, o4, o5⟩, ⟨z0, z1, z2, z3, z4⟩, ⟨r0, r1, r2, r3, r4⟩⟩ := hB3.facts
  clear hB3
  go_upto_region 34 with (go_at_call 44; refine (Hd.out w3 HD3.out).mono ?_; rintro e w4 ⟨rfl, hL4⟩; have hB4 := HB3.out.ext hL4.ext (fun q hq => by have := Hl.out; simp only [List.mem_cons, List.mem_nil_iff, or_false] at hq; omega); clear b0 b1 b2 b3 b4 g0 g1 g2 g3 g4 o0 o1 o2 o3 o4 o5 z0 z1 z2 z3 z4 r0 r1 r2 r3 r4; obtain ⟨⟨b0, b1, b2, b3, b4⟩, ⟨g0, g1, g2, g3, g4⟩, ⟨o0, o1, o2, o3, o4, o5⟩, ⟨z0, z1, z2, z3, z4⟩, ⟨r0, r1, r2, r3, r4⟩⟩ := hB4.facts)
  have hf4 := dsk_noStr HD3.out hL4 Hf3.out
  obtain ⟨w5, hw5, ⟨x0, x1, x2, x3, x4⟩, hE5, hF5, hI5⟩ := hB4.done (.int .i64 D'.room) (.slice A2 n2 c2) (.bool D'.down) (.int .i64 D'.armed) (.int .u64 D'.steps)
  have Hfin := Lib.hid (show RFiles w5 A2 n2 D'.files ∧ n2 ≤ c2 ∧ Left w d mp mt D' w5 from ⟨hF5 _ _ _ hf4, hc2, hI5 _ _ _ _ Hl.out.1 Hl.out.2.1 Hl.out.2.2 hL4.disk, (Ext.of_below Hb03.out).trans (hL4.ext.mono (fun k hk => Or.inl hk)) |>.then_ hE5 (fun i hi => Or.inr (by rw [List.mem_singleton.1 hi]; omega))⟩)
  clear hf4 hE5 hF5 hI5 hL4 hB4
  go_wp2_with fail
  rw [← hw5]
  exact bodyPost_ret (v := .tuple #[.agg #[.int .i64 D'.room, .slice A2 n2 c2, .bool D'.down, .int .i64 D'.armed, .int .u64 D'.steps], .bool true]) (by simp [results, Try.results30, go_sem, x0, x1, x2, x3, x4]) rfl ⟨A2, n2, c2, rfl, Hfin.out⟩

set_option maxRecDepth 100000 in
set_option maxHeartbeats 4000000 in
theorem do_move (d mp mt : Nat) (D : Dsk) (A : Option Addr) (n c : Nat) (on : Int) (nm to_ tx : ByteArray) (At : Option Addr) (m ct : Nat) (w : World) (h : IsDisk w d mp mt D) (hr : RFiles w A n D.files) (hnc : n ≤ c) (hok : D.Ok) (hst : D.steps < 4611686018427387904) (hnm : nm.size ≤ 9223372036854775807) (hto : to_.size ≤ 9223372036854775807) (htx : tx.size ≤ 140737488355328) :
    Calls Try.prog 30 #[.pointer (some ⟨d, 0, none⟩), refV D A n c, .agg #[.int .i64 4, .int .i64 on, .string nm, .string to_, .string tx, .slice At m ct]] w (DoGives w d mp mt (D.move nm.data.toList to_.data.toList).1) := by
  have Hr := Lib.hid (fun w1 (hb : Below w.heap.size w w1) => refmove_calls D A n c nm to_ w1 (hr.below hb) hnc (by have := n_le hok hr; omega) hst hok.armed0 hok.armed1 hto (len_all hok))
  have Hd := Lib.hid (fun w1 (hd : IsDisk w1 d mp mt D) => move_calls d mp mt D nm to_ w1 hd hnm hto hst hok.armed0 hok.armed1 (by have := hok.many; omega))
  have H := Lib.hid h
  have hld := h.lt_d
  have hlm := h.lt_mp
  have hlt := h.lt_mt
  obtain ⟨D', hD'⟩ : ∃ D', D' = (D.move nm.data.toList to_.data.toList).1 := ⟨_, rfl⟩
  obtain ⟨code, hcode⟩ : ∃ code, code = (D.move nm.data.toList to_.data.toList).2 := ⟨_, rfl⟩
  rw [← hD', ← hcode] at Hr Hd
  rw [← hD']
  unfold refV at Hr
  unfold refV
  have Hl := Lib.hid (And.intro hld (And.intro hlm hlt))
  clear h hr hok hst hnm hto htx hD' hcode hld hlm hlt
  go_enter Try.func30, Try.ntmps30
  go_upto_region 17 with (go_at_call 85; refine (Hr.out _ (al3 w _ _ _)).mono ?_; rintro e w2 ⟨A2, n2, c2, rfl, hf2, hc2, hb2⟩; unfold refV; have hB2 := (DoBlk.start w _ _ _ _ _ _ _ _ _ _ _ _ _).below hb2; obtain ⟨⟨b0, b1, b2, b3, b4⟩, ⟨g0, g1, g2, g3, g4⟩, ⟨o0, o1, o2, o3, o4, o5⟩, ⟨z0, z1, z2, z3, z4⟩, ⟨r0, r1, r2, r3, r4⟩⟩ := hB2.facts)
  obtain ⟨w3, hw3, hB3, hE3, hF3⟩ := hB2.store (.int .i64 D'.room) (.slice A2 n2 c2) (.bool D'.down) (.int .i64 D'.armed) (.int .u64 D'.steps) (refcells_noStr _ _ _ _ _ _ _)
  rw [← hw3]
  have hb02 : Below w.heap.size w w2 := below_next (al3 w _ _ _) hb2
  have hD2 : IsDisk w2 d mp mt D := H.out.below hb02
  have hD3 : IsDisk w3 d mp mt D := hD2.ext hE3 (fun k hk => by rw [List.mem_singleton.1 hk]; exact refcells_noU8 hB2.disk) (by have := Hl.out; simp; omega) (by have := Hl.out; simp; omega) (by have := Hl.out; simp; omega)
  have hb03 : Below w.heap.size w w3 := hb02.trans (hE3.below hb02.size (fun q hq => by rw [List.mem_singleton.1 hq]; exact Nat.le_refl _))
  have hf3 := hF3 _ _ _ hf2
  have HB3 := Lib.hid hB3
  have HD3 := Lib.hid hD3
  have Hb03 := Lib.hid hb03
  have Hf3 := Lib.hid hf3
  clear hw3 hE3 hF3 hB2 hb2 hf2 b0 b1 b2 b3 b4 g0 g1 g2 g3 g4 o0 o1 o2 o3 o4 o5 z0 z1 z2 z3 z4 r0 r1 r2 r3 r4 hb02 hD2 hD3 hb03 hf3
  obtain ⟨⟨b0, b1, b2, b3, b4⟩, ⟨g0, g1, g2, g3, g4⟩, ⟨o0, o1, o2, o3, o4, o5⟩, ⟨z0, z1, z2, z3, z4⟩, ⟨r0, r1, r2, r3, r4⟩⟩ := hB3.facts
  clear hB3
  go_upto_region 34 with (go_at_call 45; refine (Hd.out w3 HD3.out).mono ?_; rintro e w4 ⟨rfl, hL4⟩; have hB4 := HB3.out.ext hL4.ext (fun q hq => by have := Hl.out; simp only [List.mem_cons, List.mem_nil_iff, or_false] at hq; omega); clear b0 b1 b2 b3 b4 g0 g1 g2 g3 g4 o0 o1 o2 o3 o4 o5 z0 z1 z2 z3 z4 r0 r1 r2 r3 r4; obtain ⟨⟨b0, b1, b2, b3, b4⟩, ⟨g0, g1, g2, g3, g4⟩, ⟨o0, o1, o2, o3, o4, o5⟩, ⟨z0, z1, z2, z3, z4⟩, ⟨r0, r1, r2, r3, r4⟩⟩ := hB4.facts)
  have hf4 := dsk_noStr HD3.out hL4 Hf3.out
  obtain ⟨w5, hw5, ⟨x0, x1, x2, x3, x4⟩, hE5, hF5, hI5⟩ := hB4.done (.int .i64 D'.room) (.slice A2 n2 c2) (.bool D'.down) (.int .i64 D'.armed) (.int .u64 D'.steps)
  have Hfin := Lib.hid (show RFiles w5 A2 n2 D'.files ∧ n2 ≤ c2 ∧ Left w d mp mt D' w5 from ⟨hF5 _ _ _ hf4, hc2, hI5 _ _ _ _ Hl.out.1 Hl.out.2.1 Hl.out.2.2 hL4.disk, (Ext.of_below Hb03.out).trans (hL4.ext.mono (fun k hk => Or.inl hk)) |>.then_ hE5 (fun i hi => Or.inr (by rw [List.mem_singleton.1 hi]; omega))⟩)
  clear hf4 hE5 hF5 hI5 hL4 hB4
  go_wp2_with fail
  rw [← hw5]
  exact bodyPost_ret (v := .tuple #[.agg #[.int .i64 D'.room, .slice A2 n2 c2, .bool D'.down, .int .i64 D'.armed, .int .u64 D'.steps], .bool true]) (by simp [results, Try.results30, go_sem, x0, x1, x2, x3, x4]) rfl ⟨A2, n2, c2, rfl, Hfin.out⟩

set_option maxRecDepth 100000 in
set_option maxHeartbeats 4000000 in
theorem do_arm (d mp mt : Nat) (D : Dsk) (A : Option Addr) (n c : Nat) (on : Int) (nm to_ tx : ByteArray) (At : Option Addr) (m ct : Nat) (w : World) (h : IsDisk w d mp mt D) (hr : RFiles w A n D.files) (hnc : n ≤ c) (hok : D.Ok) (hst : D.steps < 4611686018427387904) (hnm : nm.size ≤ 9223372036854775807) (hto : to_.size ≤ 9223372036854775807) (htx : tx.size ≤ 140737488355328) :
    Calls Try.prog 30 #[.pointer (some ⟨d, 0, none⟩), refV D A n c, .agg #[.int .i64 6, .int .i64 on, .string nm, .string to_, .string tx, .slice At m ct]] w (DoGives w d mp mt (D.arm on).1) := by
  have Hr := Lib.hid (fun w1 (hb : Below w.heap.size w w1) => refarm_calls D A n c on w1 (hr.below hb) hnc)
  have Hd := Lib.hid (fun w1 (hd : IsDisk w1 d mp mt D) => arm_calls d mp mt D on w1 hd)
  have H := Lib.hid h
  have hld := h.lt_d
  have hlm := h.lt_mp
  have hlt := h.lt_mt
  obtain ⟨D', hD'⟩ : ∃ D', D' = (D.arm on).1 := ⟨_, rfl⟩
  obtain ⟨code, hcode⟩ : ∃ code, code = (D.arm on).2 := ⟨_, rfl⟩
  rw [← hD', ← hcode] at Hr Hd
  rw [← hD']
  unfold refV at Hr
  unfold refV
  have Hl := Lib.hid (And.intro hld (And.intro hlm hlt))
  clear h hr hok hst hnm hto htx hD' hcode hld hlm hlt
  go_enter Try.func30, Try.ntmps30
  go_upto_region 24 with (go_at_call 87; refine (Hr.out _ (al3 w _ _ _)).mono ?_; rintro e w2 ⟨A2, n2, c2, rfl, hf2, hc2, hb2⟩; unfold refV; have hB2 := (DoBlk.start w _ _ _ _ _ _ _ _ _ _ _ _ _).below hb2; obtain ⟨⟨b0, b1, b2, b3, b4⟩, ⟨g0, g1, g2, g3, g4⟩, ⟨o0, o1, o2, o3, o4, o5⟩, ⟨z0, z1, z2, z3, z4⟩, ⟨r0, r1, r2, r3, r4⟩⟩ := hB2.facts)
  obtain ⟨w3, hw3, hB3, hE3, hF3⟩ := hB2.store (.int .i64 D'.room) (.slice A2 n2 c2) (.bool D'.down) (.int .i64 D'.armed) (.int .u64 D'.steps) (refcells_noStr _ _ _ _ _ _ _)
  rw [← hw3]
  have hb02 : Below w.heap.size w w2 := below_next (al3 w _ _ _) hb2
  have hD2 : IsDisk w2 d mp mt D := H.out.below hb02
  have hD3 : IsDisk w3 d mp mt D := hD2.ext hE3 (fun k hk => by rw [List.mem_singleton.1 hk]; exact refcells_noU8 hB2.disk) (by have := Hl.out; simp; omega) (by have := Hl.out; simp; omega) (by have := Hl.out; simp; omega)
  have hb03 : Below w.heap.size w w3 := hb02.trans (hE3.below hb02.size (fun q hq => by rw [List.mem_singleton.1 hq]; exact Nat.le_refl _))
  have hf3 := hF3 _ _ _ hf2
  have HB3 := Lib.hid hB3
  have HD3 := Lib.hid hD3
  have Hb03 := Lib.hid hb03
  have Hf3 := Lib.hid hf3
  clear hw3 hE3 hF3 hB2 hb2 hf2 b0 b1 b2 b3 b4 g0 g1 g2 g3 g4 o0 o1 o2 o3 o4 o5 z0 z1 z2 z3 z4 r0 r1 r2 r3 r4 hb02 hD2 hD3 hb03 hf3
  obtain ⟨⟨b0, b1, b2, b3, b4⟩, ⟨g0, g1, g2, g3, g4⟩, ⟨o0, o1, o2, o3, o4, o5⟩, ⟨z0, z1, z2, z3, z4⟩, ⟨r0, r1, r2, r3, r4⟩⟩ := hB3.facts
  clear hB3
  go_upto_region 34 with (go_at_call 40; refine (Hd.out w3 HD3.out).mono ?_; rintro e w4 ⟨rfl, hL4⟩; have hB4 := HB3.out.ext hL4.ext (fun q hq => by have := Hl.out; simp only [List.mem_cons, List.mem_nil_iff, or_false] at hq; omega); clear b0 b1 b2 b3 b4 g0 g1 g2 g3 g4 o0 o1 o2 o3 o4 o5 z0 z1 z2 z3 z4 r0 r1 r2 r3 r4; obtain ⟨⟨b0, b1, b2, b3, b4⟩, ⟨g0, g1, g2, g3, g4⟩, ⟨o0, o1, o2, o3, o4, o5⟩, ⟨z0, z1, z2, z3, z4⟩, ⟨r0, r1, r2, r3, r4⟩⟩ := hB4.facts)
  have hf4 := dsk_noStr HD3.out hL4 Hf3.out
  obtain ⟨w5, hw5, ⟨x0, x1, x2, x3, x4⟩, hE5, hF5, hI5⟩ := hB4.done (.int .i64 D'.room) (.slice A2 n2 c2) (.bool D'.down) (.int .i64 D'.armed) (.int .u64 D'.steps)
  have Hfin := Lib.hid (show RFiles w5 A2 n2 D'.files ∧ n2 ≤ c2 ∧ Left w d mp mt D' w5 from ⟨hF5 _ _ _ hf4, hc2, hI5 _ _ _ _ Hl.out.1 Hl.out.2.1 Hl.out.2.2 hL4.disk, (Ext.of_below Hb03.out).trans (hL4.ext.mono (fun k hk => Or.inl hk)) |>.then_ hE5 (fun i hi => Or.inr (by rw [List.mem_singleton.1 hi]; omega))⟩)
  clear hf4 hE5 hF5 hI5 hL4 hB4
  go_wp2_with fail
  rw [← hw5]
  exact bodyPost_ret (v := .tuple #[.agg #[.int .i64 D'.room, .slice A2 n2 c2, .bool D'.down, .int .i64 D'.armed, .int .u64 D'.steps], .bool true]) (by simp [results, Try.results30, go_sem, x0, x1, x2, x3, x4]) rfl ⟨A2, n2, c2, rfl, Hfin.out⟩

set_option maxRecDepth 100000 in
set_option maxHeartbeats 4000000 in
theorem do_resize (d mp mt : Nat) (D : Dsk) (A : Option Addr) (n c : Nat) (on : Int) (nm to_ tx : ByteArray) (At : Option Addr) (m ct : Nat) (w : World) (h : IsDisk w d mp mt D) (hr : RFiles w A n D.files) (hnc : n ≤ c) (hok : D.Ok) (hst : D.steps < 4611686018427387904) (hnm : nm.size ≤ 9223372036854775807) (hto : to_.size ≤ 9223372036854775807) (htx : tx.size ≤ 140737488355328) :
    Calls Try.prog 30 #[.pointer (some ⟨d, 0, none⟩), refV D A n c, .agg #[.int .i64 9, .int .i64 on, .string nm, .string to_, .string tx, .slice At m ct]] w (DoGives w d mp mt (D.resize on).1) := by
  have Hr := Lib.hid (fun w1 (hb : Below w.heap.size w w1) => refresize_calls D A n c on w1 (hr.below hb) hnc)
  have Hd := Lib.hid (fun w1 (hd : IsDisk w1 d mp mt D) => resize_calls d mp mt D on w1 hd)
  have H := Lib.hid h
  have hld := h.lt_d
  have hlm := h.lt_mp
  have hlt := h.lt_mt
  obtain ⟨D', hD'⟩ : ∃ D', D' = (D.resize on).1 := ⟨_, rfl⟩
  obtain ⟨code, hcode⟩ : ∃ code, code = (D.resize on).2 := ⟨_, rfl⟩
  rw [← hD', ← hcode] at Hr Hd
  rw [← hD']
  unfold refV at Hr
  unfold refV
  have Hl := Lib.hid (And.intro hld (And.intro hlm hlt))
  clear h hr hok hst hnm hto htx hD' hcode hld hlm hlt
  go_enter Try.func30, Try.ntmps30
  go_upto_region 33 with (go_at_call 91; refine (Hr.out _ (al3 w _ _ _)).mono ?_; rintro e w2 ⟨A2, n2, c2, rfl, hf2, hc2, hb2⟩; unfold refV; have hB2 := (DoBlk.start w _ _ _ _ _ _ _ _ _ _ _ _ _).below hb2; obtain ⟨⟨b0, b1, b2, b3, b4⟩, ⟨g0, g1, g2, g3, g4⟩, ⟨o0, o1, o2, o3, o4, o5⟩, ⟨z0, z1, z2, z3, z4⟩, ⟨r0, r1, r2, r3, r4⟩⟩ := hB2.facts)
  obtain ⟨w3, hw3, hB3, hE3, hF3⟩ := hB2.store (.int .i64 D'.room) (.slice A2 n2 c2) (.bool D'.down) (.int .i64 D'.armed) (.int .u64 D'.steps) (refcells_noStr _ _ _ _ _ _ _)
  rw [← hw3]
  have hb02 : Below w.heap.size w w2 := below_next (al3 w _ _ _) hb2
  have hD2 : IsDisk w2 d mp mt D := H.out.below hb02
  have hD3 : IsDisk w3 d mp mt D := hD2.ext hE3 (fun k hk => by rw [List.mem_singleton.1 hk]; exact refcells_noU8 hB2.disk) (by have := Hl.out; simp; omega) (by have := Hl.out; simp; omega) (by have := Hl.out; simp; omega)
  have hb03 : Below w.heap.size w w3 := hb02.trans (hE3.below hb02.size (fun q hq => by rw [List.mem_singleton.1 hq]; exact Nat.le_refl _))
  have hf3 := hF3 _ _ _ hf2
  have HB3 := Lib.hid hB3
  have HD3 := Lib.hid hD3
  have Hb03 := Lib.hid hb03
  have Hf3 := Lib.hid hf3
  clear hw3 hE3 hF3 hB2 hb2 hf2 b0 b1 b2 b3 b4 g0 g1 g2 g3 g4 o0 o1 o2 o3 o4 o5 z0 z1 z2 z3 z4 r0 r1 r2 r3 r4 hb02 hD2 hD3 hb03 hf3
  obtain ⟨⟨b0, b1, b2, b3, b4⟩, ⟨g0, g1, g2, g3, g4⟩, ⟨o0, o1, o2, o3, o4, o5⟩, ⟨z0, z1, z2, z3, z4⟩, ⟨r0, r1, r2, r3, r4⟩⟩ := hB3.facts
  clear hB3
  go_upto_region 34 with (go_at_call 46; refine (Hd.out w3 HD3.out).mono ?_; rintro e w4 ⟨rfl, hL4⟩; have hB4 := HB3.out.ext hL4.ext (fun q hq => by have := Hl.out; simp only [List.mem_cons, List.mem_nil_iff, or_false] at hq; omega); clear b0 b1 b2 b3 b4 g0 g1 g2 g3 g4 o0 o1 o2 o3 o4 o5 z0 z1 z2 z3 z4 r0 r1 r2 r3 r4; obtain ⟨⟨b0, b1, b2, b3, b4⟩, ⟨g0, g1, g2, g3, g4⟩, ⟨o0, o1, o2, o3, o4, o5⟩, ⟨z0, z1, z2, z3, z4⟩, ⟨r0, r1, r2, r3, r4⟩⟩ := hB4.facts)
  have hf4 := dsk_noStr HD3.out hL4 Hf3.out
  obtain ⟨w5, hw5, ⟨x0, x1, x2, x3, x4⟩, hE5, hF5, hI5⟩ := hB4.done (.int .i64 D'.room) (.slice A2 n2 c2) (.bool D'.down) (.int .i64 D'.armed) (.int .u64 D'.steps)
  have Hfin := Lib.hid (show RFiles w5 A2 n2 D'.files ∧ n2 ≤ c2 ∧ Left w d mp mt D' w5 from ⟨hF5 _ _ _ hf4, hc2, hI5 _ _ _ _ Hl.out.1 Hl.out.2.1 Hl.out.2.2 hL4.disk, (Ext.of_below Hb03.out).trans (hL4.ext.mono (fun k hk => Or.inl hk)) |>.then_ hE5 (fun i hi => Or.inr (by rw [List.mem_singleton.1 hi]; omega))⟩)
  clear hf4 hE5 hF5 hI5 hL4 hB4
  go_wp2_with fail
  rw [← hw5]
  exact bodyPost_ret (v := .tuple #[.agg #[.int .i64 D'.room, .slice A2 n2 c2, .bool D'.down, .int .i64 D'.armed, .int .u64 D'.steps], .bool true]) (by simp [results, Try.results30, go_sem, x0, x1, x2, x3, x4]) rfl ⟨A2, n2, c2, rfl, Hfin.out⟩

set_option maxRecDepth 100000 in
set_option maxHeartbeats 4000000 in
theorem do_boot (d mp mt : Nat) (D : Dsk) (A : Option Addr) (n c : Nat) (on : Int) (nm to_ tx : ByteArray) (At : Option Addr) (m ct : Nat) (w : World) (h : IsDisk w d mp mt D) (hr : RFiles w A n D.files) (hnc : n ≤ c) (hok : D.Ok) (hst : D.steps < 4611686018427387904) (hnm : nm.size ≤ 9223372036854775807) (hto : to_.size ≤ 9223372036854775807) (htx : tx.size ≤ 140737488355328) :
    Calls Try.prog 30 #[.pointer (some ⟨d, 0, none⟩), refV D A n c, .agg #[.int .i64 8, .int .i64 on, .string nm, .string to_, .string tx, .slice At m ct]] w (DoGives w d mp mt D.boot) := by
  have Hr := Lib.hid (fun w1 (hb : Below w.heap.size w w1) => refboot_calls D A n c w1 (hr.below hb) hnc)
  have Hd := Lib.hid (fun w1 (hd : IsDisk w1 d mp mt D) => boot_calls d mp mt D w1 hd)
  have H := Lib.hid h
  have hld := h.lt_d
  have hlm := h.lt_mp
  have hlt := h.lt_mt
  obtain ⟨D', hD'⟩ : ∃ D', D' = D.boot := ⟨_, rfl⟩
  rw [← hD'] at Hr Hd
  rw [← hD']
  unfold refV at Hr
  unfold refV
  have Hl := Lib.hid (And.intro hld (And.intro hlm hlt))
  clear h hr hok hst hnm hto htx hD' hld hlm hlt
  go_enter Try.func30, Try.ntmps30
  go_upto_region 30 with (go_at_call 90; refine (Hr.out _ (al3 w _ _ _)).mono ?_; rintro e w2 ⟨A2, n2, c2, rfl, hf2, hc2, hb2⟩; unfold refV; have hB2 := (DoBlk.start w _ _ _ _ _ _ _ _ _ _ _ _ _).below hb2; obtain ⟨⟨b0, b1, b2, b3, b4⟩, ⟨g0, g1, g2, g3, g4⟩, ⟨o0, o1, o2, o3, o4, o5⟩, ⟨z0, z1, z2, z3, z4⟩, ⟨r0, r1, r2, r3, r4⟩⟩ := hB2.facts)
  obtain ⟨w3, hw3, hB3, hE3, hF3⟩ := hB2.store (.int .i64 D'.room) (.slice A2 n2 c2) (.bool D'.down) (.int .i64 D'.armed) (.int .u64 D'.steps) (refcells_noStr _ _ _ _ _ _ _)
  rw [← hw3]
  have hb02 : Below w.heap.size w w2 := below_next (al3 w _ _ _) hb2
  have hD2 : IsDisk w2 d mp mt D := H.out.below hb02
  have hD3 : IsDisk w3 d mp mt D := hD2.ext hE3 (fun k hk => by rw [List.mem_singleton.1 hk]; exact refcells_noU8 hB2.disk) (by have := Hl.out; simp; omega) (by have := Hl.out; simp; omega) (by have := Hl.out; simp; omega)
  have hb03 : Below w.heap.size w w3 := hb02.trans (hE3.below hb02.size (fun q hq => by rw [List.mem_singleton.1 hq]; exact Nat.le_refl _))
  have hf3 := hF3 _ _ _ hf2
  have HB3 := Lib.hid hB3
  have HD3 := Lib.hid hD3
  have Hb03 := Lib.hid hb03
  have Hf3 := Lib.hid hf3
  clear hw3 hE3 hF3 hB2 hb2 hf2 b0 b1 b2 b3 b4 g0 g1 g2 g3 g4 o0 o1 o2 o3 o4 o5 z0 z1 z2 z3 z4 r0 r1 r2 r3 r4 hb02 hD2 hD3 hb03 hf3
  obtain ⟨⟨b0, b1, b2, b3, b4⟩, ⟨g0, g1, g2, g3, g4⟩, ⟨o0, o1, o2, o3, o4, o5⟩, ⟨z0, z1, z2, z3, z4⟩, ⟨r0, r1, r2, r3, r4⟩⟩ := hB3.facts
  clear hB3
  go_upto_region 34 with (go_at_call 47; refine (Hd.out w3 HD3.out).mono ?_; rintro e w4 ⟨rfl, hL4⟩; have hB4 := HB3.out.ext hL4.ext (fun q hq => by have := Hl.out; simp only [List.mem_cons, List.mem_nil_iff, or_false] at hq; omega); clear b0 b1 b2 b3 b4 g0 g1 g2 g3 g4 o0 o1 o2 o3 o4 o5 z0 z1 z2 z3 z4 r0 r1 r2 r3 r4; obtain ⟨⟨b0, b1, b2, b3, b4⟩, ⟨g0, g1, g2, g3, g4⟩, ⟨o0, o1, o2, o3, o4, o5⟩, ⟨z0, z1, z2, z3, z4⟩, ⟨r0, r1, r2, r3, r4⟩⟩ := hB4.facts)
  have hf4 := dsk_noStr HD3.out hL4 Hf3.out
  obtain ⟨w5, hw5, ⟨x0, x1, x2, x3, x4⟩, hE5, hF5, hI5⟩ := hB4.done (.int .i64 D'.room) (.slice A2 n2 c2) (.bool D'.down) (.int .i64 D'.armed) (.int .u64 D'.steps)
  have Hfin := Lib.hid (show RFiles w5 A2 n2 D'.files ∧ n2 ≤ c2 ∧ Left w d mp mt D' w5 from ⟨hF5 _ _ _ hf4, hc2, hI5 _ _ _ _ Hl.out.1 Hl.out.2.1 Hl.out.2.2 hL4.disk, (Ext.of_below Hb03.out).trans (hL4.ext.mono (fun k hk => Or.inl hk)) |>.then_ hE5 (fun i hi => Or.inr (by rw [List.mem_singleton.1 hi]; omega))⟩)
  clear hf4 hE5 hF5 hI5 hL4 hB4
  go_wp2_with fail
  rw [← hw5]
  exact bodyPost_ret (v := .tuple #[.agg #[.int .i64 D'.room, .slice A2 n2 c2, .bool D'.down, .int .i64 D'.armed, .int .u64 D'.steps], .bool true]) (by simp [results, Try.results30, go_sem, x0, x1, x2, x3, x4]) rfl ⟨A2, n2, c2, rfl, Hfin.out⟩

set_option maxRecDepth 100000 in
set_option maxHeartbeats 4000000 in
theorem do_append (d mp mt : Nat) (D : Dsk) (A : Option Addr) (n c : Nat) (kd : Int) (on : Int) (nm to_ tx : ByteArray) (At : Option Addr) (m ct : Nat) (w : World) (h : IsDisk w d mp mt D) (hr : RFiles w A n D.files) (hnc : n ≤ c) (hok : D.Ok) (hst : D.steps < 4611686018427387904) (hnm : nm.size ≤ 9223372036854775807) (hto : to_.size ≤ 9223372036854775807) (htx : tx.size ≤ 140737488355328) (k1 : ((kd : Int) == 1) = false) (k2 : ((kd : Int) == 2) = false) (k3 : ((kd : Int) == 3) = false) (k4 : ((kd : Int) == 4) = false) (k5 : ((kd : Int) == 5) = false) (k6 : ((kd : Int) == 6) = false) (k7 : ((kd : Int) == 7) = false) (k8 : ((kd : Int) == 8) = false) (k9 : ((kd : Int) == 9) = false) :
    Calls Try.prog 30 #[.pointer (some ⟨d, 0, none⟩), refV D A n c, .agg #[.int .i64 kd, .int .i64 on, .string nm, .string to_, .string tx, .slice At m ct]] w (DoGives w d mp mt (D.append nm.data.toList tx.data.toList).1) := by
  have Hr := Lib.hid (fun w1 (hb : Below w.heap.size w w1) => refappend_calls D A n c nm tx w1 (hr.below hb) hnc (by have := n_le hok hr; omega) hst hok.armed0 hok.armed1 (len_all hok) hnm htx hok.room0 hok.room1 hok.sum)
  have Hd := Lib.hid (fun w1 A' c' (hd : IsDisk w1 d mp mt D) (hb' : Bts w1 A' tx.size tx.data.toList) => append_calls d mp mt D nm A' tx.size c' tx.data.toList w1 hd hnm hb' (by omega) hok hst)
  have H := Lib.hid h
  have hld := h.lt_d
  have hlm := h.lt_mp
  have hlt := h.lt_mt
  obtain ⟨D', hD'⟩ : ∃ D', D' = (D.append nm.data.toList tx.data.toList).1 := ⟨_, rfl⟩
  obtain ⟨code, hcode⟩ : ∃ code, code = (D.append nm.data.toList tx.data.toList).2 := ⟨_, rfl⟩
  rw [← hD', ← hcode] at Hr Hd
  rw [← hD']
  unfold refV at Hr
  unfold refV
  have Hl := Lib.hid (And.intro hld (And.intro hlm hlt))
  clear h hr hok hst hnm hto htx hD' hcode hld hlm hlt
  go_enter Try.func30, Try.ntmps30
  go_upto_region 5 with (go_at_call 92; refine (Hr.out _ (al3 w _ _ _)).mono ?_; rintro e w2 ⟨A2, n2, c2, rfl, hf2, hc2, hb2⟩; unfold refV; have hB2 := (DoBlk.start w _ _ _ _ _ _ _ _ _ _ _ _ _).below hb2; obtain ⟨⟨b0, b1, b2, b3, b4⟩, ⟨g0, g1, g2, g3, g4⟩, ⟨o0, o1, o2, o3, o4, o5⟩, ⟨z0, z1, z2, z3, z4⟩, ⟨r0, r1, r2, r3, r4⟩⟩ := hB2.facts)
  obtain ⟨w3, hw3, hB3, hE3, hF3⟩ := hB2.store (.int .i64 D'.room) (.slice A2 n2 c2) (.bool D'.down) (.int .i64 D'.armed) (.int .u64 D'.steps) (refcells_noStr _ _ _ _ _ _ _)
  rw [← hw3]
  have hb02 : Below w.heap.size w w2 := below_next (al3 w _ _ _) hb2
  have hD2 : IsDisk w2 d mp mt D := H.out.below hb02
  have hD3 : IsDisk w3 d mp mt D := hD2.ext hE3 (fun k hk => by rw [List.mem_singleton.1 hk]; exact refcells_noU8 hB2.disk) (by have := Hl.out; simp; omega) (by have := Hl.out; simp; omega) (by have := Hl.out; simp; omega)
  have hb03 : Below w.heap.size w w3 := hb02.trans (hE3.below hb02.size (fun q hq => by rw [List.mem_singleton.1 hq]; exact Nat.le_refl _))
  have hf3 := hF3 _ _ _ hf2
  have HB3 := Lib.hid hB3
  have HD3 := Lib.hid hD3
  have Hb03 := Lib.hid hb03
  have Hf3 := Lib.hid hf3
  clear hw3 hE3 hF3 hB2 hb2 hf2 b0 b1 b2 b3 b4 g0 g1 g2 g3 g4 o0 o1 o2 o3 o4 o5 z0 z1 z2 z3 z4 r0 r1 r2 r3 r4 hb02 hD2 hD3 hb03 hf3
  obtain ⟨⟨b0, b1, b2, b3, b4⟩, ⟨g0, g1, g2, g3, g4⟩, ⟨o0, o1, o2, o3, o4, o5⟩, ⟨z0, z1, z2, z3, z4⟩, ⟨r0, r1, r2, r3, r4⟩⟩ := hB3.facts
  clear hB3
  go_upto_region 34 with (first | (refine wpList_to_bytes _ rfl _ rfl tx rfl ?_; intro At2 ct2 w3' hbt2 hne2 hbl2; have hBx := HB3.out.below hbl2; clear b0 b1 b2 b3 b4 g0 g1 g2 g3 g4 o0 o1 o2 o3 o4 o5 z0 z1 z2 z3 z4 r0 r1 r2 r3 r4; obtain ⟨⟨b0, b1, b2, b3, b4⟩, ⟨g0, g1, g2, g3, g4⟩, ⟨o0, o1, o2, o3, o4, o5⟩, ⟨z0, z1, z2, z3, z4⟩, ⟨r0, r1, r2, r3, r4⟩⟩ := hBx.facts) | (go_at_call 41; refine (Hd.out w3' At2 ct2 (HD3.out.below hbl2) hbt2).mono ?_; rintro e w4 ⟨rfl, hL4'⟩; have hL4 := Left.then_below (D := D) hbl2 hL4'; have hB4 := HB3.out.ext hL4.ext (fun q hq => by have := Hl.out; simp only [List.mem_cons, List.mem_nil_iff, or_false] at hq; omega); clear b0 b1 b2 b3 b4 g0 g1 g2 g3 g4 o0 o1 o2 o3 o4 o5 z0 z1 z2 z3 z4 r0 r1 r2 r3 r4; obtain ⟨⟨b0, b1, b2, b3, b4⟩, ⟨g0, g1, g2, g3, g4⟩, ⟨o0, o1, o2, o3, o4, o5⟩, ⟨z0, z1, z2, z3, z4⟩, ⟨r0, r1, r2, r3, r4⟩⟩ := hB4.facts))
  have hf4 := dsk_noStr HD3.out hL4 Hf3.out
  obtain ⟨w5, hw5, ⟨x0, x1, x2, x3, x4⟩, hE5, hF5, hI5⟩ := hB4.done (.int .i64 D'.room) (.slice A2 n2 c2) (.bool D'.down) (.int .i64 D'.armed) (.int .u64 D'.steps)
  have Hfin := Lib.hid (show RFiles w5 A2 n2 D'.files ∧ n2 ≤ c2 ∧ Left w d mp mt D' w5 from ⟨hF5 _ _ _ hf4, hc2, hI5 _ _ _ _ Hl.out.1 Hl.out.2.1 Hl.out.2.2 hL4.disk, (Ext.of_below Hb03.out).trans (hL4.ext.mono (fun k hk => Or.inl hk)) |>.then_ hE5 (fun i hi => Or.inr (by rw [List.mem_singleton.1 hi]; omega))⟩)
  clear hf4 hE5 hF5 hI5 hL4 hB4
  go_wp2_with fail
  rw [← hw5]
  exact bodyPost_ret (v := .tuple #[.agg #[.int .i64 D'.room, .slice A2 n2 c2, .bool D'.down, .int .i64 D'.armed, .int .u64 D'.steps], .bool true]) (by simp [results, Try.results30, go_sem, x0, x1, x2, x3, x4]) rfl ⟨A2, n2, c2, rfl, Hfin.out⟩

end Go.Proofs.Ytcfgdlpdnpnhmaa
set_option linter.unusedVariables false
set_option linter.unusedSimpArgs false
namespace Go.Proofs.Ytcfgdlpdnpnhmaa
open Go.RowKit Go.Maps

/-- Block g holds the bytes l ahead of its mark. -/
def RawB (w : World) (g : Nat) (l : Bs) : Prop :=
  ∃ (C : Array Value) (t : TypeId), w.heap[g]? = some (.cells C t (C.size, C.size + 1)) ∧ l.length ≤ C.size ∧ ∀ j, j < l.length → C[j]? = some (.int .u8 (u8 l j))
theorem RawB.cell {w : World} {g : Nat} {l : Bs} (h : RawB w g l) {j : Nat} (hj : j < l.length) : w.cell? ⟨g, j, none⟩ = some (.int .u8 (u8 l j)) ∧ w.frozen? ⟨g, j, none⟩ = false := by
  obtain ⟨C, t, hb, hl, hc⟩ := h
  refine ⟨(blk_cell hb j).trans (hc j hj), ?_⟩
  simp [World.frozen?, hb]
  omega
theorem RawB.bts {w : World} {g : Nat} {l : Bs} (h : RawB w g l) : Bts w (some ⟨g, 0, none⟩) l.length l :=
  ⟨rfl, fun _ => ⟨_, rfl, fun j hj => by rw [add0, Nat.zero_add]; exact (h.cell hj).1⟩⟩
theorem RawB.set {w : World} {g : Nat} {l : Bs} (h : RawB w g l) {j : Nat} (hj : j < l.length) (b : UInt8) : RawB (w.setCell ⟨g, j, none⟩ (.int .u8 (b.toNat : Int))) g (l.set j b) := by
  obtain ⟨C, t, hb, hl, hc⟩ := h
  refine ⟨C.setIfInBounds j (.int .u8 (b.toNat : Int)), t, ?_, by simpa using hl, fun i hi => ?_⟩
  · have := blk_set hb j (.int .u8 (b.toNat : Int))
    simpa using this
  · rw [List.length_set] at hi
    by_cases hij : j = i
    · subst hij
      rw [Array.getElem?_setIfInBounds_self_of_lt (by omega)]
      simp [u8, List.getD_eq_getElem?_getD, hi]
    · rw [Array.getElem?_setIfInBounds_ne hij, hc i hi]
      simp [u8, List.getD_eq_getElem?_getD, List.getElem?_set, hij]

theorem run_to_raw (s : ByteArray) (w : World) : ∃ c w', (convert 9 22 (.string s)).run Try.prog w = .ok (.slice (some ⟨w.heap.size, 0, none⟩) s.size c) w' ∧ RawB w' w.heap.size s.data.toList ∧ Below w.heap.size w w' := by
  have hr := run_bytes_of_string w 9 22 5 s Try.underlying9 Try.underlying22 Try.underlying5
  refine ⟨_, _, hr, ⟨_, _, blk_new w.drew _, ?_, ?_⟩, ((Below.refl _ _).drew).alloc (Nat.le_refl _) _⟩
  · have hl : s.data.toList.length = s.size := by rw [Array.length_toList]; rfl
    rw [hl]
    unfold bytesRow
    rw [Array.size_append, Array.size_map]
    show s.size ≤ s.size + _
    omega
  · intro j hj
    have hj' : j < s.data.size := by rw [Array.length_toList] at hj; exact hj
    unfold bytesRow
    rw [Array.getElem?_append_left (by simpa using hj')]
    simp [u8, List.getD_eq_getElem?_getD, Array.getElem?_eq_getElem hj']
section
variable {P : Program} (w : World) {ops : Array Oper} {rest : List Oper} {o : Oper} {a : Act} {Q : Exit → Act → World → Prop}
theorem wpList_to_raw (hgd : o.guard = none) (x : Operand) (ho : o.op = .convert 9 22 x) (s : ByteArray) (hx : a.eval x = .string s)
    (h : ∀ c w', RawB w' w.heap.size s.data.toList → Below w.heap.size w w' → wpList Try.prog ops Q rest (a.put o.dst (.slice (some ⟨w.heap.size, 0, none⟩) s.size c)) w') :
    wpList Try.prog ops Q (o :: rest) a w := by
  refine wpList_plain hgd fun K hK => ?_
  obtain ⟨c, w', hr, h1, h3⟩ := run_to_raw s w
  unfold Oper.wp execOp
  simp only [ho, hx, Sem.run_bind, hr, Result.andThen_ok]
  exact hK _ _ (h c w' h1 h3)
end
end Go.Proofs.Ytcfgdlpdnpnhmaa
set_option linter.unusedVariables false
set_option linter.unusedSimpArgs false
namespace Go.Proofs.Ytcfgdlpdnpnhmaa
open Go.RowKit Go.Maps

set_option maxRecDepth 100000 in
set_option maxHeartbeats 2000000 in
theorem reftorn_calls (s : ByteArray) (keep turn : Nat) (w : World) (hs : s.size ≤ 1048576) (hk : keep < 65536) (ht : turn < 4294967296) :
    Calls Try.prog 131 #[.string s, .agg #[.int .u16 keep, .int .u32 turn]] w fun e w' => e = .returned (encStr (Dsk.torn s.data.toList (keep, turn))) ∧ Below w.heap.size w w' := by
  have hsl : s.data.toList.length = s.size := by rw [Array.length_toList]; rfl
  obtain ⟨k, ek0⟩ : ∃ k, k = keep % (s.size + 1) := ⟨_, rfl⟩
  have hkl : k ≤ s.size := by have := Nat.mod_lt keep (show 0 < s.size + 1 by omega); omega
  have hcut := run_str_cut s k hkl
  have ek : (keep : Int) % ((s.size : Int) + 1) = (k : Int) := by rw [ek0]; simp
  have htorn : Dsk.torn s.data.toList (keep, turn) = if 3 ≤ k then
      (((s.data.toList.take k).set (k - 3) ((s.data.toList.take k).getD (k - 3) 0 ^^^ UInt8.ofNat (turn / 65536))).set (k - 2) ((s.data.toList.take k).getD (k - 2) 0 ^^^ UInt8.ofNat (turn / 256))).set (k - 1) ((s.data.toList.take k).getD (k - 1) 0 ^^^ UInt8.ofNat turn)
      else s.data.toList.take k := by
    have h2 : (s.data.toList.take k).length = k := by rw [List.length_take, hsl]; omega
    unfold Dsk.torn
    dsimp only
    rw [hsl, ← ek0, h2]
  obtain ⟨x, hx⟩ : ∃ x, x = s.extract 0 k := ⟨_, rfl⟩
  have hxl : x.data.toList = s.data.toList.take k := by rw [hx, Lib.extract_data]; simp
  have hxs : x.size = k := by
    have : x.data.toList.length = x.size := by rw [Array.length_toList]; rfl
    rw [← this, hxl, List.length_take, hsl]; omega
  rw [← hx] at hcut
  have Ht := Lib.hid htorn
  have Hxl := Lib.hid hxl
  have Hxs := Lib.hid hxs
  clear htorn hxl hxs hx ek0 hsl
  by_cases h3 : 3 ≤ k
  · have H3 := Lib.hid h3
    have g3 : decide ((3 : Int) ≤ (k : Int)) = true := decide_eq_true (by omega)
    go_enter Try.func131, Try.ntmps131
    go_upto_region 4 with (refine wpList_to_raw _ rfl _ rfl x rfl ?_; intro c w2 hraw hb2; rw [Hxs.out]; have hbx2 := (hb2.block w.heap.size (by simp)).trans (blk_new w _))
    have x3 : IntKind.i64.wrap ((k : Int) - 3) = (k : Int) - 3 := IntWalk.i64_in _ (by omega)
    have x2 : IntKind.i64.wrap ((k : Int) - 2) = (k : Int) - 2 := IntWalk.i64_in _ (by omega)
    have x1 : IntKind.i64.wrap ((k : Int) - 1) = (k : Int) - 1 := IntWalk.i64_in _ (by omega)
    have hxl3 : x.data.toList.length = k := by rw [← Hxs.out, Array.length_toList]; rfl
    obtain ⟨l0, hl0⟩ : ∃ l0, l0 = x.data.toList := ⟨_, rfl⟩
    rw [← hl0] at hraw hxl3
    have Hl0 := Lib.hid hl0
    have Hxl3 := Lib.hid hxl3
    obtain ⟨g, hg⟩ : ∃ g, g = (w.alloc (.cells #[.int .u16 keep, .int .u32 turn] 198)).heap.size := ⟨_, rfl⟩
    have hg2 : g = w.heap.size + 1 := by rw [hg]; simp
    rw [← hg] at hraw
    rw [← hg2]
    have i3 := fun W => (run_index ⟨g, 0, none⟩ k c ((k : Int) - 3) (by omega) (by omega) W).trans (by rw [add0, show ((k : Int) - 3).toNat = k - 3 by omega, Nat.zero_add])
    have i2 := fun W => (run_index ⟨g, 0, none⟩ k c ((k : Int) - 2) (by omega) (by omega) W).trans (by rw [add0, show ((k : Int) - 2).toNat = k - 2 by omega, Nat.zero_add])
    have i1 := fun W => (run_index ⟨g, 0, none⟩ k c ((k : Int) - 1) (by omega) (by omega) W).trans (by rw [add0, show ((k : Int) - 1).toNat = k - 1 by omega, Nat.zero_add])
    have t1 := blk_cell hbx2 1
    obtain ⟨u3, z3⟩ := hraw.cell (j := k - 3) (by omega)
    have Hg2 := Lib.hid hg2
    clear hl0 hg hg2
    go_still_tail 14, (by kernel_rfl)
    change wpList _ _ _ _ _ w2.drew
    go_wp2_with fail
    have hb12 : Below w.heap.size w w2 := below_next (al1 w _) hb2
    obtain ⟨w3, ew3⟩ : ∃ w3, w3 = (w2.setCell ⟨g, k - 3, none⟩ (.int .u8 (bits BinOp.xor IntKind.u8 (u8 l0 (k - 3)) ((turn : Int) / 65536 % 256)))).drew := ⟨_, rfl⟩
    rw [← ew3]
    rw [show (turn : Int) / 65536 = ((turn / 65536 : Nat) : Int) by simp, xor_turn] at ew3
    obtain ⟨l1, el1⟩ : ∃ l1, l1 = l0.set (k - 3) (l0.getD (k - 3) 0 ^^^ UInt8.ofNat (turn / 65536)) := ⟨_, rfl⟩
    have hraw3 : RawB w3 g l1 := by
      rw [ew3, el1]
      exact hraw.set (j := k - 3) (by have := Hxl3.out; omega) _
    have hb13 : Below w.heap.size w w3 := by
      rw [ew3]
      exact (hb12.setCell (by have := Hg2.out; show w.heap.size ≤ g; omega) _).drew
    have E3 := Lib.hid el1
    have hl1 : l1.length = k := by rw [el1, List.length_set]; exact Hxl3.out
    have hbx3 : w3.heap[w.heap.size]? = some (.cells #[.int .u16 keep, .int .u32 turn] 198 (0, 0)) := by
      rw [ew3]
      exact (Below.heap_setCell w2 _ _ _ (by show w.heap.size ≠ g; have := Hg2.out; omega)).trans hbx2
    have Hl1 := Lib.hid hl1
    clear t1 u3 z3 hb12 hraw hbx2 ew3 el1 hl1
    have t1 := blk_cell hbx3 1
    obtain ⟨u3, z3⟩ := hraw3.cell (j := k - 2) (by have := Hl1.out; omega)
    go_still_tail 14, (by kernel_rfl)
    change wpList _ _ _ _ _ w3.drew
    go_wp2_with fail
    obtain ⟨w4, ew4⟩ : ∃ w4, w4 = (w3.setCell ⟨g, k - 2, none⟩ (.int .u8 (bits BinOp.xor IntKind.u8 (u8 l1 (k - 2)) ((turn : Int) / 256 % 256)))).drew := ⟨_, rfl⟩
    rw [← ew4]
    rw [show (turn : Int) / 256 = ((turn / 256 : Nat) : Int) by simp, xor_turn] at ew4
    obtain ⟨l2, el2⟩ : ∃ l2, l2 = l1.set (k - 2) (l1.getD (k - 2) 0 ^^^ UInt8.ofNat (turn / 256)) := ⟨_, rfl⟩
    have hraw4 : RawB w4 g l2 := by
      rw [ew4, el2]
      exact hraw3.set (j := k - 2) (by have := Hl1.out; omega) _
    have hb14 : Below w.heap.size w w4 := by
      rw [ew4]
      exact (hb13.setCell (by have := Hg2.out; show w.heap.size ≤ g; omega) _).drew
    have hl2 : l2.length = k := by rw [el2, List.length_set]; exact Hl1.out
    have E4 := Lib.hid el2
    have hbx4 : w4.heap[w.heap.size]? = some (.cells #[.int .u16 keep, .int .u32 turn] 198 (0, 0)) := by
      rw [ew4]
      exact (Below.heap_setCell w3 _ _ _ (by show w.heap.size ≠ g; have := Hg2.out; omega)).trans hbx3
    have Hl2 := Lib.hid hl2
    clear t1 u3 z3 hb13 hraw3 hbx3 ew4 el2 hl2
    have t1 := blk_cell hbx4 1
    obtain ⟨u3, z3⟩ := hraw4.cell (j := k - 1) (by have := Hl2.out; omega)
    obtain ⟨l3, el3⟩ : ∃ l3, l3 = l2.set (k - 1) (l2.getD (k - 1) 0 ^^^ UInt8.ofNat turn) := ⟨_, rfl⟩
    have hraw5 : RawB (w4.setCell ⟨g, k - 1, none⟩ (.int .u8 (bits BinOp.xor IntKind.u8 (u8 l2 (k - 1)) ((turn : Int) % 256)))).drew g l3 := by
      rw [xor_turn, el3]
      exact hraw4.set (j := k - 1) (by have := Hl2.out; omega) _
    have hl3 : l3.length = k := by rw [el3, List.length_set]; exact Hl2.out
    have hcv := run_to_str hraw5.bts c
    rw [hl3] at hcv
    have hb15 : Below w.heap.size w (w4.setCell ⟨g, k - 1, none⟩ (.int .u8 (bits BinOp.xor IntKind.u8 (u8 l2 (k - 1)) ((turn : Int) % 256)))).drew :=
      (hb14.setCell (by have := Hg2.out; show w.heap.size ≤ g; omega) _).drew
    have Hb15 := Lib.hid hb15
    have E5 := Lib.hid el3
    clear hb15 hl3 hraw5 el3
    go_still_tail 13, (by kernel_rfl)
    change wpList _ _ _ _ _ w4.drew
    go_wp2_with fail
    go_ret
    refine ⟨?_, Hb15.out⟩
    have gd : ∀ (l : Bs) (i j : Nat) (b : UInt8), i ≠ j → (l.set i b).getD j 0 = l.getD j 0 := fun l i j b hij => by
      simp [List.getD_eq_getElem?_getD, List.getElem?_set_ne hij]
    have q2 : l1.getD (k - 2) 0 = l0.getD (k - 2) 0 := by rw [E3.out]; exact gd _ _ _ _ (by have := H3.out; omega)
    have q1 : l2.getD (k - 1) 0 = l0.getD (k - 1) 0 := by
      rw [E4.out, gd _ _ _ _ (by have := H3.out; omega), E3.out]
      exact gd _ _ _ _ (by have := H3.out; omega)
    have q3 : l3 = Dsk.torn s.data.toList (keep, turn) := by
      rw [Ht.out, if_pos H3.out, ← Hxl.out, ← Hl0.out, ← E3.out, ← q2, ← E4.out, ← q1, ← E5.out]
    rw [← q3]
    try rfl
  · have H3 := Lib.hid h3
    have g3 : decide ((3 : Int) ≤ (k : Int)) = false := decide_eq_false (by omega)
    clear h3
    go_enter Try.func131, Try.ntmps131
    go_wp2_with (refine wpList_to_raw _ rfl _ rfl x rfl ?_; intro c w2 hraw hb2; rw [Hxs.out]; have hbt := hraw.bts; have hcv := run_to_str hbt c; rw [show x.data.toList.length = k by rw [← Hxs.out, Array.length_toList]; rfl] at hcv; simp only [World.size_alloc] at hcv)
    go_ret
    refine ⟨?_, below_next (al1 w _) hb2⟩
    rw [Ht.out, if_neg H3.out, ← Hxl.out]
    rfl
end Go.Proofs.Ytcfgdlpdnpnhmaa
set_option linter.unusedVariables false
set_option linter.unusedSimpArgs false
namespace Go.Proofs.Ytcfgdlpdnpnhmaa
open Go.RowKit Go.Maps

def tvals (l : List (Nat × Nat)) : List Value := l.flatMap fun p => [.int .u16 p.1, .int .u32 p.2]
theorem tvals_append (l m : List (Nat × Nat)) : tvals (l ++ m) = tvals l ++ tvals m := by simp [tvals]
theorem tvals_length (l : List (Nat × Nat)) : (tvals l).length = l.length * 2 := by
  induction l with
  | nil => rfl
  | cons f r ih =>
    have e : tvals (f :: r) = [.int .u16 f.1, .int .u32 f.2] ++ tvals r := by simp [tvals]
    rw [e, List.length_append, ih]
    simp; omega
theorem tvals_get : ∀ (l : List (Nat × Nat)) (j : Nat) (hj : j < l.length), (tvals l)[j * 2]? = some (.int .u16 (l.getD j (0, 0)).1) ∧ (tvals l)[j * 2 + 1]? = some (.int .u32 (l.getD j (0, 0)).2) := by
  intro l
  induction l with
  | nil => intro j hj; simp at hj
  | cons f r ih =>
    intro j hj
    have e : tvals (f :: r) = [.int .u16 f.1, .int .u32 f.2] ++ tvals r := by simp [tvals]
    rw [e]
    cases j with
    | zero => exact ⟨rfl, rfl⟩
    | succ j =>
      have h := ih j (by simpa using hj)
      constructor
      · rw [List.getElem?_append_right (by simp; omega), show (j + 1) * 2 - [Value.int .u16 f.1, Value.int .u32 f.2].length = j * 2 by simp; omega, h.1]
        simp
      · rw [List.getElem?_append_right (by simp; omega), show (j + 1) * 2 + 1 - [Value.int .u16 f.1, Value.int .u32 f.2].length = j * 2 + 1 by simp; omega, h.2]
        simp
theorem Tears.of_own {w : World} {base n : Nat} {e : TypeId} {v : Value} {l : List (Nat × Nat)} (h : w.ownsRow base e 2 v n (tvals l)) (hb : ∀ p ∈ l, p.1 < 65536 ∧ p.2 < 4294967296) :
    ∃ A c, v = .slice A n c ∧ Tears w A n l ∧ n ≤ c := by
  have hl : l.length = n := by have := h.1; rw [tvals_length] at this; omega
  rcases h.2 with ⟨rfl, rfl⟩ | ⟨g, cap, cur, rfl, _, _, hnc, _, _, htake⟩
  · exact ⟨none, 0, rfl, ⟨hl, hb, fun h => absurd h (by omega)⟩, Nat.le_refl _⟩
  · refine ⟨_, cap, rfl, ⟨hl, hb, fun _ => ⟨_, rfl, fun j hj => ?_⟩⟩, hnc⟩
    have h3 := tvals_get l j (by omega)
    exact ⟨h.cells (g := g) rfl _ _ h3.1, h.cells (g := g) rfl _ _ h3.2⟩
theorem infoT : (Try.prog.info? 198).map (fun i => (i.zero, i.size, i.bytes)) = some (some (.agg #[.int .u16 0, .int .u32 0]), 2, 8) := by kernel_rfl
theorem run_tear_at (ad : Addr) (n c k : Nat) (h : k < n) (w : World) : (Instr.indexAt 47 (.slice (some ad) n c) (.int .i64 k)).run Try.prog w = .ok (.pointer (some (ad.add (k * 2)))) w := by
  obtain ⟨i0, hi, hz1⟩ := Option.map_eq_some_iff.1 info142
  simp [Instr.indexAt, run_underlying Try.underlying47, sizeOf, typeInfo, hi, hz1, h, Result.andThen, asIntOf]
theorem Tears.at {w : World} {A : Option Addr} {n : Nat} {ts : List (Nat × Nat)} (h : Tears w A n ts) {k : Nat} (hk : k < n) :
    ∃ ad b o, A = some ad ∧ ad.add (k * 2) = ⟨b, o, none⟩ ∧ w.cell? ⟨b, o, none⟩ = some (.int .u16 (ts.getD k (0, 0)).1) ∧ w.cell? ⟨b, o + 1, none⟩ = some (.int .u32 (ts.getD k (0, 0)).2) := by
  obtain ⟨ad, rfl, hc⟩ := h.2.2 (by omega)
  obtain ⟨h1, h2⟩ := hc k hk
  obtain ⟨b, o, hbo⟩ : ∃ b o, ad.add (k * 2) = ⟨b, o, none⟩ := ⟨_, _, cell_spot h1⟩
  rw [← add_of_add, hbo, add0] at h2
  rw [hbo] at h1
  exact ⟨ad, b, o, rfl, hbo, h1, h2⟩

section
variable {P : Program} (w : World) {ops : Array Oper} {rest : List Oper} {o : Oper} {a : Act} {Q : Exit → Act → World → Prop}
theorem wpList_append_tear (hgd : o.guard = none) (s x : Operand) (ho : o.op = .call { callee := .builtin .append, args := #[s, x], argTypes := #[151, 151] })
    (base : Nat) (v : Value) (n : Nat) (l : List (Nat × Nat)) (hs : a.eval s = v) (hown : w.ownsRow base 198 2 v n (tvals l)) (g c : Nat) (p : Nat × Nat) (hx : a.eval x = .slice (some ⟨g, 0, none⟩) 1 c)
    (hb : w.heap[g]? = some (.cells #[.int .u16 p.1, .int .u32 p.2] 198 (0, 0))) (hn : n ≤ 1048576) (hbase : base ≤ w.heap.size)
    (h : ∀ v' w', w'.ownsRow base 198 2 v' (n + 1) (tvals (l ++ [p])) → w.grownBy w' v.ownBlock → wpList Try.prog ops Q rest (a.put o.dst v') w') :
    wpList Try.prog ops Q (o :: rest) a w := by
  obtain ⟨i0, hi, hz0, hz1, hz2⟩ := info_parts infoT
  refine wpList_append_own_at (P := Try.prog) w hgd s x 151 ho base 198 i0 _ 2 8 Try.underlying151 hi hz0 hz1 hz2 rfl (by omega) v n (tvals l) hs hown ⟨g, 0, none⟩ 1 c [.int .u16 p.1, .int .u32 p.2] hx rfl ?_ ?_ (by unfold maxLen; omega) (by omega) hbase ?_
  · intro j u hu
    rw [add0, blk_cell hb, Nat.zero_add]
    rw [← hu]
    rcases j with _ | _ | j <;> rfl
  · intro u hu
    simp only [List.mem_cons, List.mem_nil_iff, or_false] at hu
    rcases hu with rfl | rfl <;> rfl
  · intro v' w' h1 h2 _ _
    rw [show ([.int .u16 p.1, .int .u32 p.2] : List Value) = tvals [p] by simp [tvals], ← tvals_append] at h1
    exact h v' w' h1 h2
end

def TearsGive (w : World) (ts : List (Nat × Nat)) (e : Ending) (w' : World) : Prop := ∃ A n c, e = .returned (.slice A n c) ∧ Tears w' A n ts ∧ n ≤ c ∧ Below w.heap.size w w'
set_option maxRecDepth 100000 in
set_option maxHeartbeats 2000000 in
theorem tears_calls (A : Option Addr) (n c : Nat) (ts : List (Nat × Nat)) (w : World) (h : Tears w A n ts) (hn : n ≤ 1048000) :
    Calls Try.prog 89 #[.slice A n c] w (TearsGive w ts) := by
  have H := Lib.hid h
  have hl := Lib.hid h.1
  clear h
  go_enter Try.func89, Try.ntmps89
  go_wp2
  go_loopw [3, 8] (fun v i wr => ∃ (k : Nat), i = .int .i64 k ∧ k ≤ n ∧ wr.ownsRow w.heap.size 198 2 v k (tvals (ts.take k)) ∧ Below w.heap.size w wr) (fun _ i _ => n - (intOf i).toNat)
  case atStart => exact ⟨0, rfl, Nat.zero_le _, World.ownsRow_nil _ _ _ _, Below.refl _ _⟩
  case round =>
    obtain ⟨k, rfl, hkn, hown, hbl⟩ := hrel
    have Hown := Lib.hid hown
    have Hbl := Lib.hid hbl
    have hle : w.heap.size ≤ wr.heap.size := hbl.size
    clear hown hbl
    by_cases hlt : k < n
    · have hk : k < ts.length := by rw [hl.out]; exact hlt
      obtain ⟨ad, b, o, rfl, had, q0, q1⟩ := (H.out.below Hbl.out).at hlt
      obtain ⟨p, hp⟩ : ∃ p, ts.getD k (0, 0) = p := ⟨_, rfl⟩
      rw [hp] at q0 q1
      have htk : ts.take (k + 1) = ts.take k ++ [p] := by
        rw [List.take_succ_eq_append_getElem hk, ← hp]
        simp [List.getD_eq_getElem?_getD, hk]
      have Htk := Lib.hid htk
      have hix := fun W => run_tear_at ad n c k hlt W
      simp only [had] at hix
      have hwk : IntKind.i64.wrap ((k : Int) + 1) = (k : Int) + 1 := IntWalk.i64_in _ (by omega)
      clear had hp htk
      go_wp2_with (at_builtin; refine wpList_append_tear _ rfl _ _ rfl w.heap.size _ k (ts.take k) rfl ((Hown.out.alloc _).alloc _) (wr.heap.size + 1) 1 p rfl (by have := blk_new (wr.alloc (.cells #[.int .u16 p.1, .int .u32 p.2] 142)) (.cells #[.int .u16 p.1, .int .u32 p.2] 198); simpa using this) (by omega) (by simp; omega) ?_; intro v' w2 hown2 hgr2)
      go_roundw
      case rel =>
        have hb2 : Below w.heap.size w w2 := ((Hbl.out.alloc hle _).alloc (by simp; omega) _).grown hgr2 (by simp; omega) (fun q hq => (Hown.out.lt q hq).1)
        exact ⟨k + 1, by simp, hlt, by rw [Htk.out]; exact hown2, hb2⟩
      case measure => simp [intOf]; omega
    · have hkn2 : k = n := by omega
      have ht : ts.take k = ts := List.take_of_length_le (by rw [hl.out]; omega)
      have Ht := Lib.hid ht
      clear hkn2 ht
      go_wp2
      go_ret
      have := Hown.out
      rw [Ht.out] at this
      obtain ⟨A2, c2, rfl, hT, hc⟩ := Tears.of_own this H.out.2.1
      exact ⟨A2, k, c2, rfl, hT, hc, Hbl.out⟩
end Go.Proofs.Ytcfgdlpdnpnhmaa
set_option linter.unusedVariables false
set_option linter.unusedSimpArgs false
namespace Go.Proofs.Ytcfgdlpdnpnhmaa
open Go.RowKit Go.Maps

theorem infoRT : (Try.prog.info? 198).map (fun i => (i.size)) = some 2 := by kernel_rfl
theorem run_rtear_at (ad : Addr) (n c k : Nat) (h : k < n) (w : World) : (Instr.indexAt 151 (.slice (some ad) n c) (.int .i64 k)).run Try.prog w = .ok (.pointer (some (ad.add (k * 2)))) w := by
  obtain ⟨i0, hi, hz1⟩ := Option.map_eq_some_iff.1 infoRT
  simp [Instr.indexAt, run_underlying Try.underlying151, sizeOf, typeInfo, hi, hz1, h, Result.andThen, asIntOf]
theorem run_str_from (al : ByteArray) (kn : Nat) (h : kn ≤ al.size) (W : World) : (Instr.slice 9 (.string al) (some (.int .i64 (kn : Int))) none none).run Try.prog W = .ok (.string (al.extract kn al.size)) W := by
  simp [Instr.slice, run_underlying Try.underlying9, Instr.sliceBounds, Instr.sliceBound, Result.andThen, asIntOf, h]

/-- How far Crash has come: k files are done, u tears used, l is what is left of the k files. -/
structure RCr (D : Dsk) (ts : List (Nat × Nat)) (w1 wr : World) (v : Value) (k u m : Nat) (l : List File) : Prop where
  le : k ≤ D.files.length
  used : u ≤ k
  own : wr.ownsRow w1.heap.size 60 3 v m (fvals l)
  len : m = l.length
  few : m ≤ k
  below : Below w1.heap.size w1 wr
  goes : Dsk.crashGo D.files ts = l ++ Dsk.crashGo (D.files.drop k) (ts.drop u)
/-- The file that a round has ends with. -/
def NewB (wr W : World) (nm : Value) (v : Value) (kept : Int) : Prop := W.heap[wr.heap.size]? = some (.cells #[nm, v, .int .i64 kept] 60 (0, 0))
theorem crashFile_lone {f : File} {ts : List (Nat × Nat)} (h : ¬ f.kept < f.all.length) : Dsk.crashFile f ts = (f, ts) := by unfold Dsk.crashFile; rw [if_neg h]
theorem crash_step {D : Dsk} {ts : List (Nat × Nat)} {k u u' : Nat} {l : List File} {f' : File} (hk : k < D.files.length) (hg : Dsk.crashGo D.files ts = l ++ Dsk.crashGo (D.files.drop k) (ts.drop u)) (hcf : Dsk.crashFile D.files[k] (ts.drop u) = (f', ts.drop u')) :
    Dsk.crashGo D.files ts = (l ++ if f'.all = [] then [] else [f']) ++ Dsk.crashGo (D.files.drop (k + 1)) (ts.drop u') := by
  rw [hg, List.drop_eq_getElem_cons hk]
  show l ++ ((if (Dsk.crashFile D.files[k] (ts.drop u)).1.all = [] then [] else [(Dsk.crashFile D.files[k] (ts.drop u)).1]) ++ Dsk.crashGo (D.files.drop (k + 1)) (Dsk.crashFile D.files[k] (ts.drop u)).2) = _
  rw [hcf]
  simp
theorem head_drop (ts : List (Nat × Nat)) (u : Nat) : (ts.drop u).headD (0, 0) = ts.getD u (0, 0) := by
  rw [List.headD_eq_head?_getD, List.head?_drop, List.getD_eq_getElem?_getD]
theorem tail_drop (ts : List (Nat × Nat)) (u : Nat) : (ts.drop u).tail = ts.drop (u + 1) := by simp
theorem enc_eq {l : Bs} {x : ByteArray} (h : encStr l = .string x) : x = ⟨l.toArray⟩ := by
  have : (Value.string ⟨l.toArray⟩) = .string x := h
  injection this with this
  exact this.symm
theorem enc_list {l : Bs} {x : ByteArray} (h : encStr l = .string x) : x.data.toList = l := by have e := enc_eq h; subst e; simp
theorem ByteArray_len (x : ByteArray) : x.data.toList.length = x.size := by rw [Array.length_toList]; rfl
theorem enc_size {l : Bs} {x : ByteArray} (h : encStr l = .string x) : l.length = x.size := by rw [← ByteArray_len x, enc_list h]
theorem enc_nil {l : Bs} {x : ByteArray} (h : encStr l = .string x) : l = [] ↔ x.size = 0 := by rw [← enc_size h]; exact List.length_eq_zero_iff.symm
theorem enc_of {l : Bs} {x : ByteArray} (h : x.data.toList = l) : encStr l = .string x := by
  rw [← h]

set_option maxRecDepth 100000 in
set_option maxHeartbeats 4000000 in
theorem refcrash_calls (D : Dsk) (A : Option Addr) (n c : Nat) (At : Option Addr) (nt ct : Nat) (ts : List (Nat × Nat)) (w : World) (h : RFiles w A n D.files) (hnc : n ≤ c) (hn : n ≤ 1048000) (hT : Tears w At nt ts) (hnt : nt ≤ 1048000) (hlen : ∀ f ∈ D.files, f.all.length ≤ 1048576) (hkept : ∀ f ∈ D.files, f.kept ≤ f.all.length) :
    Calls Try.prog 88 #[refV D A n c, .slice At nt ct] w (RefNew w (D.crash ts)) := by
  obtain ⟨w0, hw0⟩ : ∃ w0, w0 = (w.alloc (.cells #[.int .i64 D.room, .slice A n c, .bool D.down, .int .i64 D.armed, .int .u64 D.steps] 45)).alloc (.cells #[.int .i64 0, .slice none 0 0, .bool false, .int .i64 0, .int .u64 0] 45) := ⟨_, rfl⟩
  have hbw0 : Below w.heap.size w w0 := by rw [hw0]; exact al2 w _ _
  have hbx0 : w0.heap[w.heap.size]? = some (.cells #[.int .i64 D.room, .slice A n c, .bool D.down, .int .i64 D.armed, .int .u64 D.steps] 45 (0, 0)) := by rw [hw0]; exact blk_alloc (blk_new w _) _
  have hrx0 : w0.heap[w.heap.size + 1]? = some (.cells #[.int .i64 0, .slice none 0 0, .bool false, .int .i64 0, .int .u64 0] 45 (0, 0)) := by rw [hw0]; exact blk_new1 w _ _
  obtain ⟨w1, hw1⟩ : ∃ w1, w1 = (w0.setCell ⟨w.heap.size, 2, none⟩ (.bool true)).setCell ⟨w.heap.size, 3, none⟩ (.int .i64 (-1)) := ⟨_, rfl⟩
  have hE1 : Ext [w.heap.size] w0 w1 := by rw [hw1]; exact ((Ext.refl _ _).setCell (Or.inl (by simp)) _).setCell (Or.inl (by simp)) _
  have hbw : Below w.heap.size w w1 := hbw0.trans (hE1.below hbw0.size (fun q hq => by rw [List.mem_singleton.1 hq]; exact Nat.le_refl _))
  have hbx : w1.heap[w.heap.size]? = some (.cells #[.int .i64 D.room, .slice A n c, .bool true, .int .i64 (-1), .int .u64 D.steps] 45 (0, 0)) := by
    rw [hw1]
    exact blk_set (blk_set hbx0 2 (.bool true)) 3 (.int .i64 (-1))
  have hrx : w1.heap[w.heap.size + 1]? = some (.cells #[.int .i64 0, .slice none 0 0, .bool false, .int .i64 0, .int .u64 0] 45 (0, 0)) := hE1.obj hrx0 (by simp)
  have hs1 : w.heap.size + 2 ≤ w1.heap.size := by have := hE1.size; rw [hw0] at this; simp at this; omega
  have H := Lib.hid (h.below hbw)
  have HT := Lib.hid (hT.below hbw)
  have hl := Lib.hid h.1
  have Hlen := Lib.hid hlen
  have Hkept := Lib.hid hkept
  have Hbw := Lib.hid hbw
  have Hbx := Lib.hid hbx
  have Hrx := Lib.hid hrx
  have Hs1 := Lib.hid hs1
  have b2 := blk_cell hbx0 2
  have b3 := blk_cell hbx0 3
  have f2 := blk_frozen hbx0 2
  have f3 := blk_frozen hbx0 3
  clear h hT hbw0 hbw hbx hrx hs1 hE1 hlen hkept hbx0 hrx0
  unfold refV
  go_enter Try.func88, Try.ntmps88
  go_upto_region 1 with fail
  rw [← hw0]
  clear hw0
  go_wp2_with fail
  rw [← hw1]
  clear hw1 b2 b3 f2 f3
  go_loopw [5, 6, 7] (fun v us i wr => ∃ (k u m : Nat) (l : List File), i = .int .i64 k ∧ us = .int .i64 u ∧ RCr D ts w1 wr v k u m l) (fun _ _ i _ => n - (intOf i).toNat)
  case atStart => exact ⟨0, 0, 0, [], rfl, rfl, Nat.zero_le _, Nat.le_refl _, World.ownsRow_nil _ _ _ _, rfl, Nat.le_refl _, Below.refl _ _, by simp⟩
  case round =>
    obtain ⟨k, u, m, l, rfl, rfl, hC⟩ := hrel
    have hkl := hC.le
    have hul := hC.used
    have hbl := hC.below
    have hbxr := (hbl.block _ (blk_lt Hbx.out)).trans Hbx.out
    have b1 := blk_cell hbxr 1
    have HC := Lib.hid hC
    have Hbxr := Lib.hid hbxr
    rw [hl.out] at hkl
    have hBr := hbl.size
    clear hC hbxr
    by_cases hlt : k < n
    · have hk : k < D.files.length := by rw [hl.out]; exact hlt
      obtain ⟨ad, b, o, nm, al, rfl, had, q0, q1, q2, e0, e1, z0, z1, en, ea⟩ := (H.out.below hbl).at2 hk
      have hix := fun W => run_file_index ad n c k hlt W
      simp only [had] at hix
      have hwk : IntKind.i64.wrap ((k : Int) + 1) = (k : Int) + 1 := IntWalk.i64_in _ (by omega)
      have hwu : IntKind.i64.wrap ((u : Int) + 1) = (u : Int) + 1 := IntWalk.i64_in _ (by omega)
      have hal : al.size ≤ 1048576 := by rw [z1]; exact Hlen.out _ (List.getElem_mem hk)
      have hkp : D.files[k].kept ≤ al.size := by rw [z1]; exact Hkept.out _ (List.getElem_mem hk)
      obtain ⟨kp, hkp0⟩ : ∃ kp, kp = D.files[k].kept := ⟨_, rfl⟩
      rw [← hkp0] at q2 hkp
      have Hen := Lib.hid en
      have Hea := Lib.hid ea
      have Hz1 := Lib.hid z1
      have Hkp0 := Lib.hid hkp0
      have Hbl := Lib.hid hbl
      clear e0 e1 z0 z1 had en ea hkp0 hbl
      by_cases hlo : kp < al.size
      · have hloose : Dsk.crashFile D.files[k] (ts.drop u) = (⟨D.files[k].name, D.files[k].all.take kp ++ Dsk.torn (D.files[k].all.drop kp) (ts.getD u (0, 0)), (D.files[k].all.take kp ++ Dsk.torn (D.files[k].all.drop kp) (ts.getD u (0, 0))).length⟩, ts.drop (u + 1)) := by
          unfold Dsk.crashFile
          rw [← Hkp0.out, ← Hz1.out, if_pos hlo, head_drop, tail_drop]
        have Hloose := Lib.hid hloose
        clear hloose
        have hsc := run_str_cut al kp hkp
        have hsf := run_str_from al kp hkp
        by_cases hu : u < nt
        · obtain ⟨adt, bt, ot, rfl, hadt, qt0, qt1⟩ := (HT.out.below Hbl.out).at hu
          have hixt := fun W => run_rtear_at adt nt ct u hu W
          simp only [hadt] at hixt
          have htb : (ts.getD u (0, 0)).1 < 65536 ∧ (ts.getD u (0, 0)).2 < 4294967296 := by
            have := HT.out.1
            rw [List.getD_eq_getElem?_getD, List.getElem?_eq_getElem (by omega)]
            exact HT.out.2.1 _ (List.getElem_mem _)
          obtain ⟨tk, htk⟩ : ∃ tk, tk = (ts.getD u (0, 0)).1 := ⟨_, rfl⟩
          obtain ⟨tt, htt⟩ : ∃ tt, tt = (ts.getD u (0, 0)).2 := ⟨_, rfl⟩
          rw [← htk, ← htt] at htb
          rw [← htk] at qt0
          rw [← htt] at qt1
          have Htk := Lib.hid htk
          have Htt := Lib.hid htt
          clear hadt htk htt
          go_upto_region 12 with fail
          obtain ⟨w4, hw4⟩ : ∃ w4, w4 = (wr.alloc (.cells #[.string nm, .string al, .int .i64 kp] 60)).alloc (.cells #[.int .u16 0, .int .u32 0] 198) := ⟨_, rfl⟩
          rw [← hw4]
          have hb4 : Below wr.heap.size wr w4 := by rw [hw4]; exact al2 _ _ _
          have hx4 : w4.heap[wr.heap.size]? = some (.cells #[.string nm, .string al, .int .i64 kp] 60 (0, 0)) := by rw [hw4]; exact blk_alloc (blk_new wr _) _
          have ht4 : w4.heap[wr.heap.size + 1]? = some (.cells #[.int .u16 0, .int .u32 0] 198 (0, 0)) := by rw [hw4]; exact blk_new1 wr _ _
          have p0 := (hb4.cell (p := ⟨bt, ot, none⟩) (cell_lt qt0)).trans qt0
          have p1 := (hb4.cell (p := ⟨bt, ot + 1, none⟩) (cell_lt qt1)).trans qt1
          have y0 := blk_cell ht4 0
          have y1 := blk_cell ht4 1
          have y2 := blk_frozen ht4 0
          have y3 := blk_frozen ht4 1
          clear hw4 qt0 qt1
          go_upto_region 14 with fail
          obtain ⟨w5, hw5⟩ : ∃ w5, w5 = (w4.setCell ⟨wr.heap.size + 1, 0, none⟩ (.int .u16 tk)).setCell ⟨wr.heap.size + 1, 1, none⟩ (.int .u32 tt) := ⟨_, rfl⟩
          rw [← hw5]
          have hE5 : Ext [wr.heap.size + 1] w4 w5 := by rw [hw5]; exact ((Ext.refl _ _).setCell (Or.inl (by simp)) _).setCell (Or.inl (by simp)) _
          have hx5 := hE5.obj hx4 (by simp)
          have ht5 : w5.heap[wr.heap.size + 1]? = some (.cells #[.int .u16 tk, .int .u32 tt] 198 (0, 0)) := by rw [hw5]; exact blk_set (blk_set ht4 0 _) 1 _
          have hb5 : Below wr.heap.size wr w5 := hb4.trans (hE5.below hb4.size (fun q hq => by rw [List.mem_singleton.1 hq]; omega))
          clear p0 p1 y0 y1 y2 y3 hx4 ht4 hb4 hw5 hE5 hixt
          clear q0 q1 q2 hix
          have b0 := blk_cell hx5 0
          have b1' := blk_cell hx5 1
          have b2' := blk_cell hx5 2
          have t0 := blk_cell ht5 0
          have t1 := blk_cell ht5 1
          obtain ⟨s1, hs1⟩ : ∃ s1, s1 = al.extract 0 kp := ⟨_, rfl⟩
          obtain ⟨s2, hs2⟩ : ∃ s2, s2 = al.extract kp al.size := ⟨_, rfl⟩
          rw [← hs1] at hsc
          rw [← hs2] at hsf
          have hl1 : s1.data.toList = D.files[k].all.take kp := by rw [hs1, Lib.extract_data, enc_list Hea.out]; simp
          have hl2 : s2.data.toList = D.files[k].all.drop kp := by rw [hs2, Lib.extract_data, enc_list Hea.out]; exact List.take_of_length_le (by rw [List.length_drop]; have := Hz1.out; omega)
          have hz1 : s1.size ≤ 1048576 := by rw [← ByteArray_len s1, hl1, List.length_take]; omega
          have hz2 : s2.size ≤ 1048576 := by rw [← ByteArray_len s2, hl2, List.length_drop]; have := Hz1.out; omega
          have Htorn := Lib.hid (fun W => reftorn_calls s2 tk tt W hz2 htb.1 htb.2)
          obtain ⟨y, hy⟩ : ∃ y : ByteArray, encStr (Dsk.torn s2.data.toList (tk, tt)) = .string y := ⟨_, rfl⟩
          rw [hy] at Htorn
          have hyl : y.size ≤ 1048576 := by have h1 := enc_size hy; have h2 := Dsk.torn_length s2.data.toList (tk, tt); rw [ByteArray_len s2] at h2; omega
          have hadd := run_str_add2 s1 y (by omega)
          have Hl1 := Lib.hid hl1
          have Hl2 := Lib.hid hl2
          have Hy := Lib.hid hy
          have Hx5 := Lib.hid hx5
          have Hb5 := Lib.hid hb5
          have hlt5 : wr.heap.size < w5.heap.size := blk_lt hx5
          clear hs1 hs2 hl1 hl2 hy hx5 hb5 ht5
          refine wp_region_last (fun w' => w'.cell? ⟨wr.heap.size, 1, none⟩ = some (.string al) ∧ w'.cell? ⟨wr.heap.size, 2, none⟩ = some (.int .i64 kp) ∧ w'.cell? ⟨wr.heap.size + 1, 0, none⟩ = some (.int .u16 tk) ∧ w'.cell? ⟨wr.heap.size + 1, 1, none⟩ = some (.int .u32 tt)) 14 (by kernel_rfl) ⟨b1', b2', t0, t1⟩ (fun hHeld => ?_)
          refine wpAnyL_take 0 (v := ?_) rfl (by kernel_rfl) (fun _ _ _ h => h) (Or.inl ⟨by rfl, ?_⟩) hHeld ?_
          rotate_left
          · (intro w hSw; (try dsimp only at hSw); go_simp; try with_reducible rfl)
          try simp only [Act.put, List.setIfInBounds_toArray, List.set_cons_zero, List.set_cons_succ]
          refine wpAnyL_take 1 (v := ?_) rfl (by kernel_rfl) (fun _ _ _ h => h) (Or.inl ⟨by rfl, ?_⟩) hHeld ?_
          rotate_left
          · (intro w hSw; (try dsimp only at hSw); go_simp; try with_reducible rfl)
          try simp only [Act.put, List.setIfInBounds_toArray, List.set_cons_zero, List.set_cons_succ]
          refine wpAnyL_take 2 (v := ?_) rfl (by kernel_rfl) (fun _ _ _ h => h) (Or.inl ⟨by rfl, ?_⟩) hHeld ?_
          rotate_left
          · (intro w hSw; (try dsimp only at hSw); go_simp; try with_reducible rfl)
          try simp only [Act.put, List.setIfInBounds_toArray, List.set_cons_zero, List.set_cons_succ]
          refine wpAnyL_take 3 (v := ?_) rfl (by kernel_rfl) (fun _ _ _ h => h) (Or.inl ⟨by rfl, ?_⟩) hHeld ?_
          rotate_left
          · (intro w hSw; (try dsimp only at hSw); go_simp; try with_reducible rfl)
          try simp only [Act.put, List.setIfInBounds_toArray, List.set_cons_zero, List.set_cons_succ]
          refine wpAnyL_take 4 (v := ?_) rfl (by kernel_rfl) (fun _ _ _ h => h) (Or.inl ⟨by rfl, ?_⟩) hHeld ?_
          rotate_left
          · (intro w hSw; (try dsimp only at hSw); go_simp; try with_reducible rfl)
          try simp only [Act.put, List.setIfInBounds_toArray, List.set_cons_zero, List.set_cons_succ]
          refine wpAnyL_take 5 (v := ?_) rfl (by kernel_rfl) (fun _ _ _ h => h) (Or.inl ⟨by rfl, ?_⟩) hHeld ?_
          rotate_left
          · (intro w hSw; (try dsimp only at hSw); go_simp; try with_reducible rfl)
          try simp only [Act.put, List.setIfInBounds_toArray, List.set_cons_zero, List.set_cons_succ]
          refine wpAnyL_take 6 (v := ?_) rfl (by kernel_rfl) (fun _ _ _ h => h) (Or.inl ⟨by rfl, ?_⟩) hHeld ?_
          rotate_left
          · (intro w hSw; (try dsimp only at hSw); go_simp; try with_reducible rfl)
          try simp only [Act.put, List.setIfInBounds_toArray, List.set_cons_zero, List.set_cons_succ]
          refine wpAnyL_take 7 (v := ?_) rfl (by kernel_rfl) (fun _ _ _ h => h) (Or.inl ⟨by rfl, ?_⟩) hHeld ?_
          rotate_left
          · (intro w hSw; (try dsimp only at hSw); go_simp; try with_reducible rfl)
          try simp only [Act.put, List.setIfInBounds_toArray, List.set_cons_zero, List.set_cons_succ]
          refine wpAnyL_take 8 (v := ?_) rfl (by kernel_rfl) (fun _ _ _ h => h) (Or.inl ⟨by rfl, ?_⟩) hHeld ?_
          rotate_left
          · (intro w hSw; (try dsimp only at hSw); go_simp; try with_reducible rfl)
          try simp only [Act.put, List.setIfInBounds_toArray, List.set_cons_zero, List.set_cons_succ]
          refine wpAnyL_take 9 (v := ?_) rfl (by kernel_rfl) (fun _ _ _ h => h) (Or.inl ⟨by rfl, ?_⟩) hHeld ?_
          rotate_left
          · (intro w hSw; (try dsimp only at hSw); go_simp; try with_reducible rfl)
          try simp only [Act.put, List.setIfInBounds_toArray, List.set_cons_zero, List.set_cons_succ]
          refine wpAnyL_take 10 (v := ?_) rfl (by kernel_rfl) (fun _ _ _ h => h) (Or.inl ⟨by rfl, ?_⟩) hHeld ?_
          rotate_left
          · (intro w hSw; (try dsimp only at hSw); go_simp; try with_reducible rfl)
          try simp only [Act.put, List.setIfInBounds_toArray, List.set_cons_zero, List.set_cons_succ]
          refine wpAnyL_one 11 (by kernel_rfl) rfl (fun K hK => ?_)
          go_simp
          go_at_call 131
          refine (Htorn.out _).mono ?_
          rintro e w6 ⟨rfl, hb6⟩
          replace hb6 : Below w5.heap.size w5 w6 := ((Below.refl w5.heap.size w5).drew).trans hb6
          have r1 : w6.cell? ⟨wr.heap.size, 1, none⟩ = some (.string al) := (hb6.cell (p := ⟨wr.heap.size, 1, none⟩) hlt5).trans b1'
          have r2 : w6.cell? ⟨wr.heap.size, 2, none⟩ = some (.int .i64 kp) := (hb6.cell (p := ⟨wr.heap.size, 2, none⟩) hlt5).trans b2'
          have r3 : w6.cell? ⟨wr.heap.size + 1, 0, none⟩ = some (.int .u16 tk) := (hb6.cell (p := ⟨wr.heap.size + 1, 0, none⟩) (cell_lt t0)).trans t0
          have r4 : w6.cell? ⟨wr.heap.size + 1, 1, none⟩ = some (.int .u32 tt) := (hb6.cell (p := ⟨wr.heap.size + 1, 1, none⟩) (cell_lt t1)).trans t1
          refine hK.out _ _ (fun _ => ⟨r1, r2, r3, r4⟩) ?_
          clear hK K
          try simp only [Act.put, List.setIfInBounds_toArray, List.set_cons_zero, List.set_cons_succ]
          have hx6 := (hb6.block _ hlt5).trans Hx5.out
          have g1 := blk_frozen hx6 1
          refine wpAnyL_one 12 (by kernel_rfl) rfl (fun K hK => ?_)
          go_simp
          refine hK.out _ _ (fun _ => ⟨r1, r2, r3, r4⟩) ?_
          clear hK K
          try simp only [Act.put, List.setIfInBounds_toArray, List.set_cons_zero, List.set_cons_succ]
          clear hHeld
          have hHeld := And.intro r1 (And.intro r2 (And.intro r3 r4))
          refine wpAnyL_take 13 (v := ?_) rfl (by kernel_rfl) (fun _ _ _ h => h) (Or.inl ⟨by rfl, ?_⟩) hHeld ?_
          rotate_left
          · (intro w hSw; (try dsimp only at hSw); go_simp; try with_reducible rfl)
          try simp only [Act.put, List.setIfInBounds_toArray, List.set_cons_zero, List.set_cons_succ]
          refine wpAnyL_one 14 (by kernel_rfl) rfl (fun K hK => ?_)
          go_simp
          refine hK.out _ _ (fun h => absurd rfl h) ?_
          clear hK K
          refine wpAnyL_done (by kernel_rfl) ?_ _
          obtain ⟨w7, hw7⟩ : ∃ w7, w7 = w6.setCell ⟨wr.heap.size, 1, none⟩ (.string (s1 ++ y)) := ⟨_, rfl⟩
          rw [← hw7]
          have hx7 : w7.heap[wr.heap.size]? = some (.cells #[.string nm, .string (s1 ++ y), .int .i64 kp] 60 (0, 0)) := by rw [hw7]; exact blk_set hx6 1 _
          have hE7 : Ext [wr.heap.size] w6 w7 := by rw [hw7]; exact (Ext.refl _ _).setCell (Or.inl (by simp)) _
          have hb7 : Below wr.heap.size wr w7 := (Hb5.out.trans (hb6.mono Hb5.out.size)).trans (hE7.below (by have := Hb5.out.size; have := hb6.size; omega) (fun q hq => by rw [List.mem_singleton.1 hq]; exact Nat.le_refl _))
          have i0 := blk_cell hx7 0
          have i1 := blk_cell hx7 1
          have i2 := blk_cell hx7 2
          have j2 := blk_frozen hx7 2
          have Hx7 := Lib.hid hx7
          have Hb7 := Lib.hid hb7
          clear hw7 hx7 hE7 hb7 g1 hx6 r1 r2 r3 r4 b0 b1' b2' t0 t1
          obtain ⟨r, hr⟩ : ∃ r, r = s1 ++ y := ⟨_, rfl⟩
          have hrz : r.size = s1.size + y.size := by rw [hr, ByteArray.size_append]
          have hrl : r.data.toList = D.files[k].all.take kp ++ Dsk.torn (D.files[k].all.drop kp) (ts.getD u (0, 0)) := by
            have h1 := enc_list Hy.out
            rw [Hl2.out] at h1
            have h2 : (tk, tt) = ts.getD u (0, 0) := by rw [Htk.out, Htt.out]
            rw [h2] at h1
            rw [hr, ← h1, ← Hl1.out]
            simp [ByteArray.data_append]
          have Hrl := Lib.hid hrl
          rw [← hr] at i1
          rw [← hr] at Hx7
          clear hr hrl hrz
          go_upto_region 16 with fail
          obtain ⟨w8, hw8⟩ : ∃ w8, w8 = w7.setCell ⟨wr.heap.size, 2, none⟩ (.int .i64 r.size) := ⟨_, rfl⟩
          rw [← hw8]
          have hx8 : w8.heap[wr.heap.size]? = some (.cells #[.string nm, .string r, .int .i64 r.size] 60 (0, 0)) := by rw [hw8]; exact blk_set Hx7.out 2 _
          have hE8 : Ext [wr.heap.size] w7 w8 := by rw [hw8]; exact (Ext.refl _ _).setCell (Or.inl (by simp)) _
          have hb8 : Below wr.heap.size wr w8 := Hb7.out.trans (hE8.below Hb7.out.size (fun q hq => by rw [List.mem_singleton.1 hq]; exact Nat.le_refl _))
          have hcf : Dsk.crashFile D.files[k] (ts.drop u) = (⟨D.files[k].name, r.data.toList, r.size⟩, ts.drop (u + 1)) := by rw [Hloose.out, Hrl.out, ← ByteArray_len r, Hrl.out]
          obtain ⟨f', hf'⟩ : ∃ f' : File, f' = ⟨D.files[k].name, r.data.toList, r.size⟩ := ⟨_, rfl⟩
          rw [← hf'] at hcf
          have Hfn := Lib.hid (show encStr f'.name = .string nm by rw [hf']; exact Hen.out)
          have Hfa := Lib.hid (show encStr f'.all = .string r by rw [hf']; try exact enc_of rfl)
          have Hfk := Lib.hid (show (Value.int .i64 r.size) = .int .i64 f'.kept by rw [hf'])
          clear hw8 i0 i1 i2 j2 hE8 hf'
          have Hcf := Lib.hid hcf
          have Hx8 := Lib.hid hx8
          have Hb8 := Lib.hid hb8
          have i0 := blk_cell hx8 0
          have i1 := blk_cell hx8 1
          have i2 := blk_cell hx8 2
          clear hcf hx8 hb8
          by_cases hr0 : r.size = 0
          · have g0 : decide ((0 : Int) < (r.size : Int)) = false := decide_eq_false (by omega)
            have g0n : decide (0 < r.size) = false := decide_eq_false (by omega)
            have hfe : f'.all = [] := (enc_nil Hfa.out).2 hr0
            have Hfe := Lib.hid hfe
            have Hr0 := Lib.hid hr0
            clear hfe hr0
            go_wp2_with fail
            go_roundw
            case rel =>
              have hg := crash_step hk HC.out.goes Hcf.out
              rw [if_pos Hfe.out, List.append_nil] at hg
              exact ⟨k + 1, u + 1, m, l, by simp, by go_num, by have := hl.out; omega, by omega, HC.out.own.kept_ext (Ext.of_below (S := []) (Hb8.out.mono (Nat.le_refl _))) (fun q hq => by cases hq), HC.out.len, by have := HC.out.few; omega, Hbl.out.trans (Hb8.out.mono hBr), hg⟩
            case measure => simp [intOf]; omega
          · have g0 : decide ((0 : Int) < (r.size : Int)) = true := decide_eq_true (by omega)
            have g0n : decide (0 < r.size) = true := decide_eq_true (by omega)
            have Hfe := Lib.hid (show ¬ f'.all = [] from fun h => hr0 ((enc_nil Hfa.out).1 h))
            have Hr0 := Lib.hid hr0
            clear hr0
            have hown8 := HC.out.own.kept_ext (Ext.of_below (S := []) Hb8.out) (fun q hq => by cases hq)
            have Hown8 := Lib.hid hown8
            have hm1 : m ≤ 1048576 := by have := HC.out.few; omega
            have hsz8 : w1.heap.size ≤ w8.heap.size := by have := Hb8.out.size; omega
            clear hown8
            go_wp2_with (at_builtin; refine wpList_append_file _ rfl _ _ rfl w1.heap.size _ m _ rfl (Hown8.out.alloc _) w8.heap.size 1 f' rfl (by rw [Hfn.out, Hfa.out, ← Hfk.out]; exact blk_new w8 _) hm1 (Nat.le_trans hsz8 (by simp)) ?_; intro v' w9 hown9 hgr9)
            go_roundw
            case rel =>
              have hg := crash_step hk HC.out.goes Hcf.out
              rw [if_neg Hfe.out] at hg
              have hb9 : Below w1.heap.size w1 w9 := ((Hbl.out.trans (Hb8.out.mono hBr)).alloc hsz8 _).grown hgr9 (by simp; omega) (fun q hq => (Hown8.out.lt q hq).1)
              exact ⟨k + 1, u + 1, m + 1, l ++ [f'], by simp, by go_num, by have := hl.out; omega, by omega, hown9, by rw [List.length_append, ← HC.out.len]; rfl, by have := HC.out.few; omega, hb9, hg⟩
            case measure => simp [intOf]; omega

        · have hz0 : ts.getD u (0, 0) = (0, 0) := by
            have := HT.out.1
            rw [List.getD_eq_getElem?_getD, List.getElem?_eq_none (by omega)]
            rfl
          obtain ⟨tk, htk⟩ : ∃ tk : Nat, tk = 0 := ⟨_, rfl⟩
          obtain ⟨tt, htt⟩ : ∃ tt : Nat, tt = 0 := ⟨_, rfl⟩
          have htb : tk < 65536 ∧ tt < 4294967296 := by omega
          have Htk := Lib.hid (show tk = (ts.getD u (0, 0)).1 by rw [hz0, htk])
          have Htt := Lib.hid (show tt = (ts.getD u (0, 0)).2 by rw [hz0, htt])
          have Htk0 := Lib.hid htk
          have Htt0 := Lib.hid htt
          clear htk htt hz0
          go_upto_region 14 with fail
          obtain ⟨w5, hw5⟩ : ∃ w5, w5 = (wr.alloc (.cells #[.string nm, .string al, .int .i64 kp] 60)).alloc (.cells #[.int .u16 0, .int .u32 0] 198) := ⟨_, rfl⟩
          rw [← hw5]
          have hb5 : Below wr.heap.size wr w5 := by rw [hw5]; exact al2 _ _ _
          have hx5 : w5.heap[wr.heap.size]? = some (.cells #[.string nm, .string al, .int .i64 kp] 60 (0, 0)) := by rw [hw5]; exact blk_alloc (blk_new wr _) _
          have ht5 : w5.heap[wr.heap.size + 1]? = some (.cells #[.int .u16 tk, .int .u32 tt] 198 (0, 0)) := by rw [hw5, Htk0.out, Htt0.out]; exact blk_new1 wr _ _
          clear hw5
          clear q0 q1 q2 hix
          have b0 := blk_cell hx5 0
          have b1' := blk_cell hx5 1
          have b2' := blk_cell hx5 2
          have t0 := blk_cell ht5 0
          have t1 := blk_cell ht5 1
          obtain ⟨s1, hs1⟩ : ∃ s1, s1 = al.extract 0 kp := ⟨_, rfl⟩
          obtain ⟨s2, hs2⟩ : ∃ s2, s2 = al.extract kp al.size := ⟨_, rfl⟩
          rw [← hs1] at hsc
          rw [← hs2] at hsf
          have hl1 : s1.data.toList = D.files[k].all.take kp := by rw [hs1, Lib.extract_data, enc_list Hea.out]; simp
          have hl2 : s2.data.toList = D.files[k].all.drop kp := by rw [hs2, Lib.extract_data, enc_list Hea.out]; exact List.take_of_length_le (by rw [List.length_drop]; have := Hz1.out; omega)
          have hz1 : s1.size ≤ 1048576 := by rw [← ByteArray_len s1, hl1, List.length_take]; omega
          have hz2 : s2.size ≤ 1048576 := by rw [← ByteArray_len s2, hl2, List.length_drop]; have := Hz1.out; omega
          have Htorn := Lib.hid (fun W => reftorn_calls s2 tk tt W hz2 htb.1 htb.2)
          obtain ⟨y, hy⟩ : ∃ y : ByteArray, encStr (Dsk.torn s2.data.toList (tk, tt)) = .string y := ⟨_, rfl⟩
          rw [hy] at Htorn
          have hyl : y.size ≤ 1048576 := by have h1 := enc_size hy; have h2 := Dsk.torn_length s2.data.toList (tk, tt); rw [ByteArray_len s2] at h2; omega
          have hadd := run_str_add2 s1 y (by omega)
          have Hl1 := Lib.hid hl1
          have Hl2 := Lib.hid hl2
          have Hy := Lib.hid hy
          have Hx5 := Lib.hid hx5
          have Hb5 := Lib.hid hb5
          have hlt5 : wr.heap.size < w5.heap.size := blk_lt hx5
          clear hs1 hs2 hl1 hl2 hy hx5 hb5 ht5
          refine wp_region_last (fun w' => w'.cell? ⟨wr.heap.size, 1, none⟩ = some (.string al) ∧ w'.cell? ⟨wr.heap.size, 2, none⟩ = some (.int .i64 kp) ∧ w'.cell? ⟨wr.heap.size + 1, 0, none⟩ = some (.int .u16 tk) ∧ w'.cell? ⟨wr.heap.size + 1, 1, none⟩ = some (.int .u32 tt)) 14 (by kernel_rfl) ⟨b1', b2', t0, t1⟩ (fun hHeld => ?_)
          refine wpAnyL_take 0 (v := ?_) rfl (by kernel_rfl) (fun _ _ _ h => h) (Or.inl ⟨by rfl, ?_⟩) hHeld ?_
          rotate_left
          · (intro w hSw; (try dsimp only at hSw); go_simp; try with_reducible rfl)
          try simp only [Act.put, List.setIfInBounds_toArray, List.set_cons_zero, List.set_cons_succ]
          refine wpAnyL_take 1 (v := ?_) rfl (by kernel_rfl) (fun _ _ _ h => h) (Or.inl ⟨by rfl, ?_⟩) hHeld ?_
          rotate_left
          · (intro w hSw; (try dsimp only at hSw); go_simp; try with_reducible rfl)
          try simp only [Act.put, List.setIfInBounds_toArray, List.set_cons_zero, List.set_cons_succ]
          refine wpAnyL_take 2 (v := ?_) rfl (by kernel_rfl) (fun _ _ _ h => h) (Or.inl ⟨by rfl, ?_⟩) hHeld ?_
          rotate_left
          · (intro w hSw; (try dsimp only at hSw); go_simp; try with_reducible rfl)
          try simp only [Act.put, List.setIfInBounds_toArray, List.set_cons_zero, List.set_cons_succ]
          refine wpAnyL_take 3 (v := ?_) rfl (by kernel_rfl) (fun _ _ _ h => h) (Or.inl ⟨by rfl, ?_⟩) hHeld ?_
          rotate_left
          · (intro w hSw; (try dsimp only at hSw); go_simp; try with_reducible rfl)
          try simp only [Act.put, List.setIfInBounds_toArray, List.set_cons_zero, List.set_cons_succ]
          refine wpAnyL_take 4 (v := ?_) rfl (by kernel_rfl) (fun _ _ _ h => h) (Or.inl ⟨by rfl, ?_⟩) hHeld ?_
          rotate_left
          · (intro w hSw; (try dsimp only at hSw); go_simp; try with_reducible rfl)
          try simp only [Act.put, List.setIfInBounds_toArray, List.set_cons_zero, List.set_cons_succ]
          refine wpAnyL_take 5 (v := ?_) rfl (by kernel_rfl) (fun _ _ _ h => h) (Or.inl ⟨by rfl, ?_⟩) hHeld ?_
          rotate_left
          · (intro w hSw; (try dsimp only at hSw); go_simp; try with_reducible rfl)
          try simp only [Act.put, List.setIfInBounds_toArray, List.set_cons_zero, List.set_cons_succ]
          refine wpAnyL_take 6 (v := ?_) rfl (by kernel_rfl) (fun _ _ _ h => h) (Or.inl ⟨by rfl, ?_⟩) hHeld ?_
          rotate_left
          · (intro w hSw; (try dsimp only at hSw); go_simp; try with_reducible rfl)
          try simp only [Act.put, List.setIfInBounds_toArray, List.set_cons_zero, List.set_cons_succ]
          refine wpAnyL_take 7 (v := ?_) rfl (by kernel_rfl) (fun _ _ _ h => h) (Or.inl ⟨by rfl, ?_⟩) hHeld ?_
          rotate_left
          · (intro w hSw; (try dsimp only at hSw); go_simp; try with_reducible rfl)
          try simp only [Act.put, List.setIfInBounds_toArray, List.set_cons_zero, List.set_cons_succ]
          refine wpAnyL_take 8 (v := ?_) rfl (by kernel_rfl) (fun _ _ _ h => h) (Or.inl ⟨by rfl, ?_⟩) hHeld ?_
          rotate_left
          · (intro w hSw; (try dsimp only at hSw); go_simp; try with_reducible rfl)
          try simp only [Act.put, List.setIfInBounds_toArray, List.set_cons_zero, List.set_cons_succ]
          refine wpAnyL_take 9 (v := ?_) rfl (by kernel_rfl) (fun _ _ _ h => h) (Or.inl ⟨by rfl, ?_⟩) hHeld ?_
          rotate_left
          · (intro w hSw; (try dsimp only at hSw); go_simp; try with_reducible rfl)
          try simp only [Act.put, List.setIfInBounds_toArray, List.set_cons_zero, List.set_cons_succ]
          refine wpAnyL_take 10 (v := ?_) rfl (by kernel_rfl) (fun _ _ _ h => h) (Or.inl ⟨by rfl, ?_⟩) hHeld ?_
          rotate_left
          · (intro w hSw; (try dsimp only at hSw); go_simp; try with_reducible rfl)
          try simp only [Act.put, List.setIfInBounds_toArray, List.set_cons_zero, List.set_cons_succ]
          refine wpAnyL_one 11 (by kernel_rfl) rfl (fun K hK => ?_)
          go_simp
          go_at_call 131
          refine (Htorn.out _).mono ?_
          rintro e w6 ⟨rfl, hb6⟩
          replace hb6 : Below w5.heap.size w5 w6 := ((Below.refl w5.heap.size w5).drew).trans hb6
          have r1 : w6.cell? ⟨wr.heap.size, 1, none⟩ = some (.string al) := (hb6.cell (p := ⟨wr.heap.size, 1, none⟩) hlt5).trans b1'
          have r2 : w6.cell? ⟨wr.heap.size, 2, none⟩ = some (.int .i64 kp) := (hb6.cell (p := ⟨wr.heap.size, 2, none⟩) hlt5).trans b2'
          have r3 : w6.cell? ⟨wr.heap.size + 1, 0, none⟩ = some (.int .u16 tk) := (hb6.cell (p := ⟨wr.heap.size + 1, 0, none⟩) (cell_lt t0)).trans t0
          have r4 : w6.cell? ⟨wr.heap.size + 1, 1, none⟩ = some (.int .u32 tt) := (hb6.cell (p := ⟨wr.heap.size + 1, 1, none⟩) (cell_lt t1)).trans t1
          refine hK.out _ _ (fun _ => ⟨r1, r2, r3, r4⟩) ?_
          clear hK K
          try simp only [Act.put, List.setIfInBounds_toArray, List.set_cons_zero, List.set_cons_succ]
          have hx6 := (hb6.block _ hlt5).trans Hx5.out
          have g1 := blk_frozen hx6 1
          refine wpAnyL_one 12 (by kernel_rfl) rfl (fun K hK => ?_)
          go_simp
          refine hK.out _ _ (fun _ => ⟨r1, r2, r3, r4⟩) ?_
          clear hK K
          try simp only [Act.put, List.setIfInBounds_toArray, List.set_cons_zero, List.set_cons_succ]
          clear hHeld
          have hHeld := And.intro r1 (And.intro r2 (And.intro r3 r4))
          refine wpAnyL_take 13 (v := ?_) rfl (by kernel_rfl) (fun _ _ _ h => h) (Or.inl ⟨by rfl, ?_⟩) hHeld ?_
          rotate_left
          · (intro w hSw; (try dsimp only at hSw); go_simp; try with_reducible rfl)
          try simp only [Act.put, List.setIfInBounds_toArray, List.set_cons_zero, List.set_cons_succ]
          refine wpAnyL_one 14 (by kernel_rfl) rfl (fun K hK => ?_)
          go_simp
          refine hK.out _ _ (fun h => absurd rfl h) ?_
          clear hK K
          refine wpAnyL_done (by kernel_rfl) ?_ _
          obtain ⟨w7, hw7⟩ : ∃ w7, w7 = w6.setCell ⟨wr.heap.size, 1, none⟩ (.string (s1 ++ y)) := ⟨_, rfl⟩
          rw [← hw7]
          have hx7 : w7.heap[wr.heap.size]? = some (.cells #[.string nm, .string (s1 ++ y), .int .i64 kp] 60 (0, 0)) := by rw [hw7]; exact blk_set hx6 1 _
          have hE7 : Ext [wr.heap.size] w6 w7 := by rw [hw7]; exact (Ext.refl _ _).setCell (Or.inl (by simp)) _
          have hb7 : Below wr.heap.size wr w7 := (Hb5.out.trans (hb6.mono Hb5.out.size)).trans (hE7.below (by have := Hb5.out.size; have := hb6.size; omega) (fun q hq => by rw [List.mem_singleton.1 hq]; exact Nat.le_refl _))
          have i0 := blk_cell hx7 0
          have i1 := blk_cell hx7 1
          have i2 := blk_cell hx7 2
          have j2 := blk_frozen hx7 2
          have Hx7 := Lib.hid hx7
          have Hb7 := Lib.hid hb7
          clear hw7 hx7 hE7 hb7 g1 hx6 r1 r2 r3 r4 b0 b1' b2' t0 t1
          obtain ⟨r, hr⟩ : ∃ r, r = s1 ++ y := ⟨_, rfl⟩
          have hrz : r.size = s1.size + y.size := by rw [hr, ByteArray.size_append]
          have hrl : r.data.toList = D.files[k].all.take kp ++ Dsk.torn (D.files[k].all.drop kp) (ts.getD u (0, 0)) := by
            have h1 := enc_list Hy.out
            rw [Hl2.out] at h1
            have h2 : (tk, tt) = ts.getD u (0, 0) := by rw [Htk.out, Htt.out]
            rw [h2] at h1
            rw [hr, ← h1, ← Hl1.out]
            simp [ByteArray.data_append]
          have Hrl := Lib.hid hrl
          rw [← hr] at i1
          rw [← hr] at Hx7
          clear hr hrl hrz
          go_upto_region 16 with fail
          obtain ⟨w8, hw8⟩ : ∃ w8, w8 = w7.setCell ⟨wr.heap.size, 2, none⟩ (.int .i64 r.size) := ⟨_, rfl⟩
          rw [← hw8]
          have hx8 : w8.heap[wr.heap.size]? = some (.cells #[.string nm, .string r, .int .i64 r.size] 60 (0, 0)) := by rw [hw8]; exact blk_set Hx7.out 2 _
          have hE8 : Ext [wr.heap.size] w7 w8 := by rw [hw8]; exact (Ext.refl _ _).setCell (Or.inl (by simp)) _
          have hb8 : Below wr.heap.size wr w8 := Hb7.out.trans (hE8.below Hb7.out.size (fun q hq => by rw [List.mem_singleton.1 hq]; exact Nat.le_refl _))
          have hcf : Dsk.crashFile D.files[k] (ts.drop u) = (⟨D.files[k].name, r.data.toList, r.size⟩, ts.drop (u + 1)) := by rw [Hloose.out, Hrl.out, ← ByteArray_len r, Hrl.out]
          obtain ⟨f', hf'⟩ : ∃ f' : File, f' = ⟨D.files[k].name, r.data.toList, r.size⟩ := ⟨_, rfl⟩
          rw [← hf'] at hcf
          have Hfn := Lib.hid (show encStr f'.name = .string nm by rw [hf']; exact Hen.out)
          have Hfa := Lib.hid (show encStr f'.all = .string r by rw [hf']; try exact enc_of rfl)
          have Hfk := Lib.hid (show (Value.int .i64 r.size) = .int .i64 f'.kept by rw [hf'])
          clear hw8 i0 i1 i2 j2 hE8 hf'
          have Hcf := Lib.hid hcf
          have Hx8 := Lib.hid hx8
          have Hb8 := Lib.hid hb8
          have i0 := blk_cell hx8 0
          have i1 := blk_cell hx8 1
          have i2 := blk_cell hx8 2
          clear hcf hx8 hb8
          by_cases hr0 : r.size = 0
          · have g0 : decide ((0 : Int) < (r.size : Int)) = false := decide_eq_false (by omega)
            have g0n : decide (0 < r.size) = false := decide_eq_false (by omega)
            have hfe : f'.all = [] := (enc_nil Hfa.out).2 hr0
            have Hfe := Lib.hid hfe
            have Hr0 := Lib.hid hr0
            clear hfe hr0
            go_wp2_with fail
            go_roundw
            case rel =>
              have hg := crash_step hk HC.out.goes Hcf.out
              rw [if_pos Hfe.out, List.append_nil] at hg
              exact ⟨k + 1, u + 1, m, l, by simp, by go_num, by have := hl.out; omega, by omega, HC.out.own.kept_ext (Ext.of_below (S := []) (Hb8.out.mono (Nat.le_refl _))) (fun q hq => by cases hq), HC.out.len, by have := HC.out.few; omega, Hbl.out.trans (Hb8.out.mono hBr), hg⟩
            case measure => simp [intOf]; omega
          · have g0 : decide ((0 : Int) < (r.size : Int)) = true := decide_eq_true (by omega)
            have g0n : decide (0 < r.size) = true := decide_eq_true (by omega)
            have Hfe := Lib.hid (show ¬ f'.all = [] from fun h => hr0 ((enc_nil Hfa.out).1 h))
            have Hr0 := Lib.hid hr0
            clear hr0
            have hown8 := HC.out.own.kept_ext (Ext.of_below (S := []) Hb8.out) (fun q hq => by cases hq)
            have Hown8 := Lib.hid hown8
            have hm1 : m ≤ 1048576 := by have := HC.out.few; omega
            have hsz8 : w1.heap.size ≤ w8.heap.size := by have := Hb8.out.size; omega
            clear hown8
            go_wp2_with (at_builtin; refine wpList_append_file _ rfl _ _ rfl w1.heap.size _ m _ rfl (Hown8.out.alloc _) w8.heap.size 1 f' rfl (by rw [Hfn.out, Hfa.out, ← Hfk.out]; exact blk_new w8 _) hm1 (Nat.le_trans hsz8 (by simp)) ?_; intro v' w9 hown9 hgr9)
            go_roundw
            case rel =>
              have hg := crash_step hk HC.out.goes Hcf.out
              rw [if_neg Hfe.out] at hg
              have hb9 : Below w1.heap.size w1 w9 := ((Hbl.out.trans (Hb8.out.mono hBr)).alloc hsz8 _).grown hgr9 (by simp; omega) (fun q hq => (Hown8.out.lt q hq).1)
              exact ⟨k + 1, u + 1, m + 1, l ++ [f'], by simp, by go_num, by have := hl.out; omega, by omega, hown9, by rw [List.length_append, ← HC.out.len]; rfl, by have := HC.out.few; omega, hb9, hg⟩
            case measure => simp [intOf]; omega

      · have hcf0 : Dsk.crashFile D.files[k] (ts.drop u) = (D.files[k], ts.drop u) := crashFile_lone (by rw [← Hkp0.out, ← Hz1.out]; exact hlo)
        have glo : decide (kp < al.size) = false := decide_eq_false hlo
        go_upto_region 16 with fail
        obtain ⟨w8, hw8⟩ : ∃ w8, w8 = wr.alloc (.cells #[.string nm, .string al, .int .i64 kp] 60) := ⟨_, rfl⟩
        rw [← hw8]
        have hx8 : w8.heap[wr.heap.size]? = some (.cells #[.string nm, .string al, .int .i64 kp] 60 (0, 0)) := by rw [hw8]; exact blk_new wr _
        have hb8 : Below wr.heap.size wr w8 := by rw [hw8]; exact al1 _ _
        obtain ⟨f', hf'⟩ : ∃ f' : File, f' = D.files[k] := ⟨_, rfl⟩
        have hcf : Dsk.crashFile D.files[k] (ts.drop u) = (f', ts.drop u) := by rw [hf']; exact hcf0
        have Hfn := Lib.hid (show encStr f'.name = .string nm by rw [hf']; exact Hen.out)
        have Hfa := Lib.hid (show encStr f'.all = .string al by rw [hf']; exact Hea.out)
        have Hfk := Lib.hid (show (Value.int .i64 kp) = .int .i64 f'.kept by rw [hf', Hkp0.out])
        have Hcf0 := Lib.hid hcf
        clear q0 q1 q2 hix hw8 hf' hcf hcf0
        have hcf := Hcf0.out
        have Hcf := Lib.hid hcf
        have Hx8 := Lib.hid hx8
        have Hb8 := Lib.hid hb8
        have i0 := blk_cell hx8 0
        have i1 := blk_cell hx8 1
        have i2 := blk_cell hx8 2
        clear hcf hx8 hb8
        by_cases hr0 : al.size = 0
        · have g0 : decide ((0 : Int) < (al.size : Int)) = false := decide_eq_false (by omega)
          have g0n : decide (0 < al.size) = false := decide_eq_false (by omega)
          have hfe : f'.all = [] := (enc_nil Hfa.out).2 hr0
          have Hfe := Lib.hid hfe
          have Hr0 := Lib.hid hr0
          clear hfe hr0
          go_wp2_with fail
          go_roundw
          case rel =>
            have hg := crash_step hk HC.out.goes Hcf.out
            rw [if_pos Hfe.out, List.append_nil] at hg
            exact ⟨k + 1, u, m, l, by simp, by go_num, by have := hl.out; omega, by omega, HC.out.own.kept_ext (Ext.of_below (S := []) (Hb8.out.mono (Nat.le_refl _))) (fun q hq => by cases hq), HC.out.len, by have := HC.out.few; omega, Hbl.out.trans (Hb8.out.mono hBr), hg⟩
          case measure => simp [intOf]; omega
        · have g0 : decide ((0 : Int) < (al.size : Int)) = true := decide_eq_true (by omega)
          have g0n : decide (0 < al.size) = true := decide_eq_true (by omega)
          have Hfe := Lib.hid (show ¬ f'.all = [] from fun h => hr0 ((enc_nil Hfa.out).1 h))
          have Hr0 := Lib.hid hr0
          clear hr0
          have hown8 := HC.out.own.kept_ext (Ext.of_below (S := []) Hb8.out) (fun q hq => by cases hq)
          have Hown8 := Lib.hid hown8
          have hm1 : m ≤ 1048576 := by have := HC.out.few; omega
          have hsz8 : w1.heap.size ≤ w8.heap.size := by have := Hb8.out.size; omega
          clear hown8
          go_wp2_with (at_builtin; refine wpList_append_file _ rfl _ _ rfl w1.heap.size _ m _ rfl (Hown8.out.alloc _) w8.heap.size 1 f' rfl (by rw [Hfn.out, Hfa.out, ← Hfk.out]; exact blk_new w8 _) hm1 (Nat.le_trans hsz8 (by simp)) ?_; intro v' w9 hown9 hgr9)
          go_roundw
          case rel =>
            have hg := crash_step hk HC.out.goes Hcf.out
            rw [if_neg Hfe.out] at hg
            have hb9 : Below w1.heap.size w1 w9 := ((Hbl.out.trans (Hb8.out.mono hBr)).alloc hsz8 _).grown hgr9 (by simp; omega) (fun q hq => (Hown8.out.lt q hq).1)
            exact ⟨k + 1, u, m + 1, l ++ [f'], by simp, by go_num, by have := hl.out; omega, by omega, hown9, by rw [List.length_append, ← HC.out.len]; rfl, by have := HC.out.few; omega, hb9, hg⟩
          case measure => simp [intOf]; omega

    · have hkn2 : k = n := by omega
      have hg := HC.out.goes
      rw [hkn2, ← hl.out, List.drop_length] at hg
      have hg : Dsk.crashGo D.files ts = l := by rw [hg]; exact List.append_nil l
      have Hg := Lib.hid hg
      obtain ⟨A2, c2, rfl, hf2, hc2⟩ := RFiles.of_own HC.out.own
      have hrxr := (hbl.block _ (blk_lt Hrx.out)).trans Hrx.out
      have hbxr := Hbxr.out
      have b0 := blk_cell hbxr 0
      have b2 := blk_cell hbxr 2
      have b3 := blk_cell hbxr 3
      have b4 := blk_cell hbxr 4
      have f1 := blk_frozen hbxr 1
      have r0 := blk_cell hrxr 0
      have r1 := blk_cell hrxr 1
      have r2 := blk_cell hrxr 2
      have r3 := blk_cell hrxr 3
      have r4 := blk_cell hrxr 4
      have g0 := blk_frozen hrxr 0
      have g1 := blk_frozen hrxr 1
      have g2 := blk_frozen hrxr 2
      have g3 := blk_frozen hrxr 3
      have g4 := blk_frozen hrxr 4
      have Hrxr := Lib.hid hrxr
      have Hbl := Lib.hid hbl
      clear hkn2 hg hf2 hbxr hrxr hbl
      go_wp2
      obtain ⟨w3, hw3⟩ : ∃ w3, w3 = (((((wr.setCell ⟨w.heap.size, 1, none⟩ (.slice A2 m c2)).setCell ⟨w.heap.size + 1, 0, none⟩ (.int .i64 D.room)).setCell ⟨w.heap.size + 1, 1, none⟩ (.slice A2 m c2)).setCell ⟨w.heap.size + 1, 2, none⟩ (.bool true)).setCell ⟨w.heap.size + 1, 3, none⟩ (.int .i64 (-1))).setCell ⟨w.heap.size + 1, 4, none⟩ (.int .u64 D.steps) := ⟨_, rfl⟩
      rw [← hw3]
      have hne : w.heap.size + 1 ≠ w.heap.size := by omega
      have hx3 : w3.heap[w.heap.size + 1]? = some (.cells #[.int .i64 D.room, .slice A2 m c2, .bool true, .int .i64 (-1), .int .u64 D.steps] 45 (0, 0)) := by
        rw [hw3]
        exact blk_set (blk_set (blk_set (blk_set (blk_set (blk_far Hrxr.out (p := ⟨w.heap.size, 1, none⟩) hne _) 0 _) 1 _) 2 _) 3 _) 4 _
      have hE3 : Ext [w.heap.size, w.heap.size + 1] wr w3 := by
        rw [hw3]
        exact (((((Ext.refl _ _).setCell (Or.inl (by simp)) _).setCell (Or.inl (by simp)) _).setCell (Or.inl (by simp)) _).setCell (Or.inl (by simp)) _).setCell (Or.inl (by simp)) _ |>.setCell (Or.inl (by simp)) _
      have hs1 := Hs1.out
      have hown3 : w3.ownsRow w1.heap.size 60 3 (.slice A2 m c2) m (fvals (Dsk.crashGo D.files ts)) := by
        have := HC.out.own
        rw [← Hg.out] at this
        exact this.kept_ext hE3 (fun q hq => by simp at hq; omega)
      have hfr : ∀ ad, A2 = some ad → w.heap.size ≤ ad.block := fun ad he => by
        have := (hown3.lt ad.block (by rw [he]; rfl)).1
        omega
      obtain ⟨A3, c3, e3, hf3, hc3⟩ := RFiles.of_own hown3
      injection e3 with e3 _ e4
      subst e3 e4
      have x0 := blk_cell hx3 0
      have x1 := blk_cell hx3 1
      have x2 := blk_cell hx3 2
      have x3 := blk_cell hx3 3
      have x4 := blk_cell hx3 4
      clear hw3
      refine bodyPost_ret (v := refV (D.crash ts) A2 m c2) (by simp [results, Try.results88, go_sem, refV, Dsk.crash, x0, x1, x2, x3, x4]) rfl ⟨A2, m, c2, rfl, hf3, hc3, ?_, hfr⟩
      exact Hbw.out.trans ((Hbl.out.mono (by omega)).trans (hE3.below (by have := Hbl.out.size; omega) (fun q hq => by simp at hq; omega)))
end Go.Proofs.Ytcfgdlpdnpnhmaa
set_option linter.unusedVariables false
set_option linter.unusedSimpArgs false
namespace Go.Proofs.Ytcfgdlpdnpnhmaa
open Go.RowKit Go.Maps

set_option maxRecDepth 100000 in
set_option maxHeartbeats 4000000 in
theorem do_crash (d mp mt : Nat) (D : Dsk) (A : Option Addr) (n c : Nat) (on : Int) (nm to_ tx : ByteArray) (At : Option Addr) (m ct : Nat) (ts : List (Nat × Nat)) (w : World) (h : IsDisk w d mp mt D) (hr : RFiles w A n D.files) (hnc : n ≤ c) (hok : D.Ok) (hT : Tears w At m ts) (hmc : m ≤ ct) (hm : m ≤ 1048000) :
    Calls Try.prog 30 #[.pointer (some ⟨d, 0, none⟩), refV D A n c, .agg #[.int .i64 7, .int .i64 on, .string nm, .string to_, .string tx, .slice At m ct]] w (DoGives w d mp mt (D.crash ts)) := by
  have Ht := Lib.hid (fun w1 (hb : Below w.heap.size w w1) => tears_calls At m ct ts w1 (hT.below hb) hm)
  have Hr := Lib.hid (fun w1 (A' : Option Addr) (c' : Nat) (hb : Below w.heap.size w w1) (hT' : Tears w1 A' m ts) => refcrash_calls D A n c A' m c' ts w1 (hr.below hb) hnc (by have := n_le hok hr; omega) hT' hm (len_all hok) hok.kept)
  have Hd := Lib.hid (fun w1 (hd : IsDisk w1 d mp mt D) (hT' : Tears w1 At m ts) => crash_calls d mp mt D At m ct ts w1 hd hok hT' hmc)
  have H := Lib.hid h
  have HT := Lib.hid hT
  have hld := h.lt_d
  have hlm := h.lt_mp
  have hlt := h.lt_mt
  obtain ⟨D', hD'⟩ : ∃ D', D' = D.crash ts := ⟨_, rfl⟩
  rw [← hD'] at Hr Hd
  rw [← hD']
  unfold refV at Hr
  unfold refV
  have Hl := Lib.hid (And.intro hld (And.intro hlm hlt))
  clear h hr hok hT hD' hld hlm hlt
  go_enter Try.func30, Try.ntmps30
  go_upto_region 26 with fail
  obtain ⟨w1, hw1⟩ : ∃ w1, w1 = ((w.alloc (.cells #[.int .i64 D.room, .slice A n c, .bool D.down, .int .i64 D.armed, .int .u64 D.steps] 45)).alloc (.cells #[.int .i64 7, .int .i64 on, .string nm, .string to_, .string tx, .slice At m ct] 49)).alloc (.cells #[.int .i64 0, .slice none 0 0, .bool false, .int .i64 0, .int .u64 0] 45) := ⟨_, rfl⟩
  rw [← hw1]
  have hb1 : Below w.heap.size w w1 := by rw [hw1]; exact al3 _ _ _ _
  have hB1 : DoBlk w1 w.heap.size (.int .i64 D.room) (.slice A n c) (.bool D.down) (.int .i64 D.armed) (.int .u64 D.steps) 7 on nm to_ tx At m ct := by rw [hw1]; exact DoBlk.start _ _ _ _ _ _ _ _ _ _ _ _ _ _
  clear hw1
  obtain ⟨⟨b0, b1, b2, b3, b4⟩, _, ⟨_, _, _, _, _, o5⟩, _, _⟩ := hB1.facts
  have HB1 := Lib.hid hB1
  have Hb1 := Lib.hid hb1
  clear hB1 hb1
  refine wp_region_last (fun w' => w'.cell? ⟨w.heap.size, 0, none⟩ = some (.int .i64 D.room) ∧ w'.cell? ⟨w.heap.size, 1, none⟩ = some (.slice A n c) ∧ w'.cell? ⟨w.heap.size, 2, none⟩ = some (.bool D.down) ∧ w'.cell? ⟨w.heap.size, 3, none⟩ = some (.int .i64 D.armed) ∧ w'.cell? ⟨w.heap.size, 4, none⟩ = some (.int .u64 D.steps) ∧ w'.cell? ⟨w.heap.size + 1, 5, none⟩ = some (.slice At m ct)) 5 (by kernel_rfl) ⟨b0, b1, b2, b3, b4, o5⟩ (fun hHeld => ?_)
  refine wpAnyL_take 0 (v := ?_) rfl (by kernel_rfl) (fun _ _ _ h => h) (Or.inl ⟨by rfl, ?_⟩) hHeld ?_
  rotate_left
  · (intro w hSw; (try dsimp only at hSw); go_simp; try with_reducible rfl)
  try simp only [Act.put, List.setIfInBounds_toArray, List.set_cons_zero, List.set_cons_succ]
  refine wpAnyL_take 1 (v := ?_) rfl (by kernel_rfl) (fun _ _ _ h => h) (Or.inl ⟨by rfl, ?_⟩) hHeld ?_
  rotate_left
  · (intro w hSw; (try dsimp only at hSw); go_simp; try with_reducible rfl)
  try simp only [Act.put, List.setIfInBounds_toArray, List.set_cons_zero, List.set_cons_succ]
  refine wpAnyL_take 2 (v := ?_) rfl (by kernel_rfl) (fun _ _ _ h => h) (Or.inl ⟨by rfl, ?_⟩) hHeld ?_
  rotate_left
  · (intro w hSw; (try dsimp only at hSw); go_simp; try with_reducible rfl)
  try simp only [Act.put, List.setIfInBounds_toArray, List.set_cons_zero, List.set_cons_succ]
  refine wpAnyL_one 3 (by kernel_rfl) rfl (fun K hK => ?_)
  go_simp
  go_at_call 89
  refine (Ht.out w1.drew Hb1.out.drew).mono ?_
  rintro e w2 ⟨At2, nt2, ct2, rfl, hT2, hct2, hbt2⟩
  have hnt2 : nt2 = m := by have h1 := hT2.1; have h2 := HT.out.1; omega
  subst hnt2
  have hb12 : Below w1.heap.size w1 w2 := ((Below.refl w1.heap.size w1).drew).trans hbt2
  have hB2 := HB1.out.below hb12
  have hb02 : Below w.heap.size w w2 := below_next Hb1.out hb12
  clear b0 b1 b2 b3 b4 o5 hHeld hbt2 hb12
  obtain ⟨⟨b0, b1, b2, b3, b4⟩, _, ⟨_, _, _, _, _, o5⟩, _, _⟩ := hB2.facts
  refine hK.out _ _ (fun _ => ⟨b0, b1, b2, b3, b4, o5⟩) ?_
  clear hK K
  try simp only [Act.put, List.setIfInBounds_toArray, List.set_cons_zero, List.set_cons_succ]
  refine wpAnyL_one 4 (by kernel_rfl) rfl (fun K hK => ?_)
  go_simp
  go_at_call 88
  refine (Hr.out w2 At2 ct2 hb02 hT2).mono ?_
  rintro e w2' ⟨A2, n2, c2, rfl, hf2, hc2, hb2, _⟩
  unfold refV
  replace hB2 := hB2.below hb2
  replace hb02 := below_next hb02 hb2
  clear b0 b1 b2 b3 b4 o5 hT2 hb2
  obtain ⟨w2, rfl⟩ : ∃ w2, w2 = w2' := ⟨_, rfl⟩
  obtain ⟨⟨b0, b1, b2, b3, b4⟩, ⟨g0, g1, g2, g3, g4⟩, ⟨_, _, _, _, _, o5⟩, _, _⟩ := hB2.facts
  refine hK.out _ _ (fun _ => ⟨b0, b1, b2, b3, b4, o5⟩) ?_
  clear hK K
  try simp only [Act.put, List.setIfInBounds_toArray, List.set_cons_zero, List.set_cons_succ]
  refine wpAnyL_one 5 (by kernel_rfl) rfl (fun K hK => ?_)
  go_simp
  refine hK.out _ _ (fun h => absurd rfl h) ?_
  clear hK K
  refine wpAnyL_done (by kernel_rfl) ?_ _
  clear b0 b1 b2 b3 b4 g0 g1 g2 g3 g4 o5
  obtain ⟨w3, hw3, hB3, hE3, hF3⟩ := hB2.store (.int .i64 D'.room) (.slice A2 n2 c2) (.bool D'.down) (.int .i64 D'.armed) (.int .u64 D'.steps) (refcells_noStr _ _ _ _ _ _ _)
  rw [← hw3]
  have hD2 : IsDisk w2 d mp mt D := H.out.below hb02
  have hD3 : IsDisk w3 d mp mt D := hD2.ext hE3 (fun k hk => by rw [List.mem_singleton.1 hk]; exact refcells_noU8 hB2.disk) (by have := Hl.out; simp; omega) (by have := Hl.out; simp; omega) (by have := Hl.out; simp; omega)
  have hb03 : Below w.heap.size w w3 := hb02.trans (hE3.below hb02.size (fun q hq => by rw [List.mem_singleton.1 hq]; exact Nat.le_refl _))
  have hf3 := hF3 _ _ _ hf2
  have HB3 := Lib.hid hB3
  have HD3 := Lib.hid hD3
  have Hb03 := Lib.hid hb03
  have Hf3 := Lib.hid hf3
  clear hw3 hE3 hF3 hB2 hf2 hb02 hD2 hD3 hb03 hf3
  obtain ⟨⟨b0, b1, b2, b3, b4⟩, ⟨g0, g1, g2, g3, g4⟩, ⟨o0, o1, o2, o3, o4, o5⟩, ⟨z0, z1, z2, z3, z4⟩, ⟨r0, r1, r2, r3, r4⟩⟩ := hB3.facts
  clear hB3
  go_upto_region 34 with (go_at_call 39; refine (Hd.out w3 HD3.out (HT.out.below Hb03.out)).mono ?_; rintro e w4 ⟨rfl, hL4⟩; have hB4 := HB3.out.ext hL4.ext (fun q hq => by have := Hl.out; simp only [List.mem_cons, List.mem_nil_iff, or_false] at hq; omega); clear b0 b1 b2 b3 b4 g0 g1 g2 g3 g4 o0 o1 o2 o3 o4 o5 z0 z1 z2 z3 z4 r0 r1 r2 r3 r4; obtain ⟨⟨b0, b1, b2, b3, b4⟩, ⟨g0, g1, g2, g3, g4⟩, ⟨o0, o1, o2, o3, o4, o5⟩, ⟨z0, z1, z2, z3, z4⟩, ⟨r0, r1, r2, r3, r4⟩⟩ := hB4.facts)
  have hf4 := dsk_noStr HD3.out hL4 Hf3.out
  obtain ⟨w5, hw5, ⟨x0, x1, x2, x3, x4⟩, hE5, hF5, hI5⟩ := hB4.done (.int .i64 D'.room) (.slice A2 n2 c2) (.bool D'.down) (.int .i64 D'.armed) (.int .u64 D'.steps)
  have Hfin := Lib.hid (show RFiles w5 A2 n2 D'.files ∧ n2 ≤ c2 ∧ Left w d mp mt D' w5 from ⟨hF5 _ _ _ hf4, hc2, hI5 _ _ _ _ Hl.out.1 Hl.out.2.1 Hl.out.2.2 hL4.disk, (Ext.of_below Hb03.out).trans (hL4.ext.mono (fun k hk => Or.inl hk)) |>.then_ hE5 (fun i hi => Or.inr (by rw [List.mem_singleton.1 hi]; omega))⟩)
  clear hf4 hE5 hF5 hI5 hL4 hB4
  go_wp2_with fail
  rw [← hw5]
  exact bodyPost_ret (v := .tuple #[.agg #[.int .i64 D'.room, .slice A2 n2 c2, .bool D'.down, .int .i64 D'.armed, .int .u64 D'.steps], .bool true]) (by simp [results, Try.results30, go_sem, x0, x1, x2, x3, x4]) rfl ⟨A2, n2, c2, rfl, Hfin.out⟩

set_option maxRecDepth 100000 in
set_option maxHeartbeats 4000000 in
theorem do_read (d mp mt : Nat) (D : Dsk) (A : Option Addr) (n c : Nat) (on : Int) (nm to_ tx : ByteArray) (At : Option Addr) (m ct : Nat) (w : World) (h : IsDisk w d mp mt D) (hr : RFiles w A n D.files) (hnc : n ≤ c) (hok : D.Ok) (hnm : nm.size ≤ 9223372036854775807) :
    Calls Try.prog 30 #[.pointer (some ⟨d, 0, none⟩), refV D A n c, .agg #[.int .i64 5, .int .i64 on, .string nm, .string to_, .string tx, .slice At m ct]] w (DoGives w d mp mt D) := by
  have Hr := Lib.hid (fun w1 (hb : Below w.heap.size w w1) => refread_calls D A n c nm w1 (hr.below hb) (by have := n_le hok hr; omega))
  have Hd := Lib.hid (fun w1 (hd : IsDisk w1 d mp mt D) => read_calls d mp mt D nm w1 hd hnm (len_all hok))
  have H := Lib.hid h
  have HR := Lib.hid hr
  have hld := h.lt_d
  have hlm := h.lt_mp
  have hlt := h.lt_mt
  obtain ⟨lr, hlr⟩ : ∃ lr, lr = (D.read nm.data.toList).1 := ⟨_, rfl⟩
  obtain ⟨code, hcode⟩ : ∃ code, code = (D.read nm.data.toList).2 := ⟨_, rfl⟩
  rw [← hlr, ← hcode] at Hr Hd
  obtain ⟨sr, hsr⟩ : ∃ sr, encStr lr = .string sr := ⟨_, rfl⟩
  unfold refV at Hr
  unfold refV
  unfold RefRead at Hr
  rw [hsr] at Hr
  have Hl := Lib.hid (And.intro hld (And.intro hlm hlt))
  have Hsr := Lib.hid hsr
  clear h hr hok hnm hlr hcode hld hlm hlt hsr
  go_enter Try.func30, Try.ntmps30
  go_upto_region 20 with (go_at_call 86; refine (Hr.out _ (al3 w _ _ _)).mono ?_; rintro e w2 ⟨rfl, hb2⟩; have hB2 := (DoBlk.start w _ _ _ _ _ _ _ _ _ _ _ _ _).below hb2; obtain ⟨⟨b0, b1, b2, b3, b4⟩, ⟨g0, g1, g2, g3, g4⟩, ⟨o0, o1, o2, o3, o4, o5⟩, ⟨z0, z1, z2, z3, z4⟩, ⟨r0, r1, r2, r3, r4⟩⟩ := hB2.facts)
  have hb02 : Below w.heap.size w w2 := below_next (al3 w _ _ _) hb2
  have HB2 := Lib.hid hB2
  have Hb02 := Lib.hid hb02
  clear hB2 hb2 hb02
  go_upto_region 21 with (go_at_call 48; refine (Hd.out w2 (H.out.below Hb02.out)).mono ?_; rintro e w4 ⟨A4, c4, rfl, hown4, hb4⟩; have hB4 := HB2.out.below hb4; clear b0 b1 b2 b3 b4 g0 g1 g2 g3 g4 o0 o1 o2 o3 o4 o5 z0 z1 z2 z3 z4 r0 r1 r2 r3 r4; obtain ⟨⟨b0, b1, b2, b3, b4⟩, ⟨g0, g1, g2, g3, g4⟩, ⟨o0, o1, o2, o3, o4, o5⟩, ⟨z0, z1, z2, z3, z4⟩, ⟨r0, r1, r2, r3, r4⟩⟩ := hB4.facts)
  have hcv : (convert 22 9 (.slice A4 lr.length c4)).run Try.prog w4 = .ok (.string sr) w4 := by
    obtain ⟨A5, c5, hv, hb5, _⟩ := Bts.of_own hown4
    injection hv with e1 e2 e3
    subst e1 e3
    rw [run_to_str hb5 c4]
    have : (Value.string ⟨lr.toArray⟩) = .string sr := Hsr.out
    rw [this]
  have hb04 : Below w.heap.size w w4 := below_next Hb02.out hb4
  obtain ⟨w5, hw5, ⟨x0, x1, x2, x3, x4⟩, hE5, hF5, hI5⟩ := hB4.done (.int .i64 D.room) (.slice A n c) (.bool D.down) (.int .i64 D.armed) (.int .u64 D.steps)
  have Hfin := Lib.hid (show RFiles w5 A n D.files ∧ n ≤ c ∧ Left w d mp mt D w5 from ⟨hF5 _ _ _ (HR.out.below hb04), hnc, hI5 _ _ _ _ Hl.out.1 Hl.out.2.1 Hl.out.2.2 (H.out.below hb04), (Ext.of_below hb04).then_ hE5 (fun i hi => Or.inr (by rw [List.mem_singleton.1 hi]; omega))⟩)
  clear hE5 hF5 hI5 hB4 hown4 hb4 hb04
  go_wp2_with fail
  rw [← hw5]
  exact bodyPost_ret (v := .tuple #[.agg #[.int .i64 D.room, .slice A n c, .bool D.down, .int .i64 D.armed, .int .u64 D.steps], .bool true]) (by simp [results, Try.results30, go_sem, x0, x1, x2, x3, x4]) rfl ⟨A, n, c, rfl, Hfin.out⟩

end Go.Proofs.Ytcfgdlpdnpnhmaa
set_option linter.unusedVariables false
set_option linter.unusedSimpArgs false
namespace Go.Proofs.Ytcfgdlpdnpnhmaa
open Go

/-- What a call makes of a disk. -/
def Dsk.doOp (D : Dsk) (o : Opp) : Dsk :=
  if o.kind = 1 then (D.sync o.name.data.toList).1
  else if o.kind = 2 then (D.cut o.name.data.toList o.n).1
  else if o.kind = 3 then (D.remove o.name.data.toList).1
  else if o.kind = 4 then (D.move o.name.data.toList o.to_.data.toList).1
  else if o.kind = 5 then D
  else if o.kind = 6 then (D.arm o.n).1
  else if o.kind = 7 then D.crash o.tears
  else if o.kind = 8 then D.boot
  else if o.kind = 9 then (D.resize o.n).1
  else (D.append o.name.data.toList o.text.data.toList).1
namespace Dsk
theorem Ok.doOp {D : Dsk} (h : D.Ok) (o : Opp) (hn : o.n ≤ 9223372036854775807) : (D.doOp o).Ok := by
  unfold Dsk.doOp
  split
  · exact h.sync _
  split
  · exact h.cut _ _
  split
  · exact h.remove _
  split
  · exact h.move _ _
  split
  · exact h
  split
  · exact h.arm _ hn
  split
  · exact h.crash _
  split
  · exact h.boot
  split
  · exact h.resize _
  · exact h.append _ _
theorem step_steps (D : Dsk) : D.step.1.steps = D.steps + 1 := by unfold Dsk.step; split; rfl; split <;> rfl
theorem le_self (n : Nat) : n ≤ n + 1 := by omega
theorem steps_step (D : Dsk) : D.step.1.steps ≤ D.steps + 1 := by rw [step_steps]; exact Nat.le_refl _
theorem steps_sync (D : Dsk) (n : Bs) : (D.sync n).1.steps ≤ D.steps + 1 := by
  unfold Dsk.sync
  repeat' split
  all_goals first
    | exact le_self D.steps
    | exact steps_step D
theorem steps_cut (D : Dsk) (n : Bs) (k : Int) : (D.cut n k).1.steps ≤ D.steps + 1 := by
  unfold Dsk.cut
  repeat' split
  all_goals first
    | exact le_self D.steps
    | exact steps_step D
theorem steps_remove (D : Dsk) (n : Bs) : (D.remove n).1.steps ≤ D.steps + 1 := by
  unfold Dsk.remove
  repeat' split
  all_goals first
    | exact le_self D.steps
    | exact steps_step D
theorem steps_move (D : Dsk) (n m : Bs) : (D.move n m).1.steps ≤ D.steps + 1 := by
  unfold Dsk.move
  repeat' split
  all_goals first
    | exact le_self D.steps
    | exact steps_step D
theorem steps_append (D : Dsk) (n b : Bs) : (D.append n b).1.steps ≤ D.steps + 1 := by
  unfold Dsk.append
  repeat' split
  all_goals first
    | exact le_self D.steps
    | exact steps_step _
theorem steps_arm (D : Dsk) (k : Int) : (D.arm k).1.steps = D.steps := by unfold Dsk.arm; split; rfl; split <;> rfl
theorem steps_resize (D : Dsk) (k : Int) : (D.resize k).1.steps = D.steps := by unfold Dsk.resize; split; rfl; split <;> rfl
theorem steps_doOp (D : Dsk) (o : Opp) : (D.doOp o).steps ≤ D.steps + 1 := by
  unfold Dsk.doOp
  split
  · exact steps_sync _ _
  split
  · exact steps_cut _ _ _
  split
  · exact steps_remove _ _
  split
  · exact steps_move _ _ _
  split
  · omega
  split
  · rw [steps_arm]; omega
  split
  · show D.steps ≤ _; omega
  split
  · show D.steps ≤ _; omega
  split
  · rw [steps_resize]; omega
  · exact steps_append _ _ _
end Dsk
end Go.Proofs.Ytcfgdlpdnpnhmaa
set_option linter.unusedVariables false
set_option linter.unusedSimpArgs false
namespace Go.Proofs.Ytcfgdlpdnpnhmaa
open Go.RowKit Go.Maps

theorem do_calls (d mp mt : Nat) (D : Dsk) (A : Option Addr) (n c : Nat) (o : Opp) (At : Option Addr) (m ct : Nat) (w : World) (h : IsDisk w d mp mt D) (hr : RFiles w A n D.files) (hnc : n ≤ c) (hok : D.Ok) (hst : D.steps < 4611686018427387904) (hT : Tears w At m o.tears) (hmc : m ≤ ct) (hl : lightOp o = true) :
    Calls Try.prog 30 #[.pointer (some ⟨d, 0, none⟩), refV D A n c, .agg #[.int .i64 o.kind, .int .i64 o.n, .string o.name, .string o.to_, .string o.text, .slice At m ct]] w (DoGives w d mp mt (D.doOp o)) := by
  simp only [lightOp, Bool.and_eq_true, decide_eq_true_eq] at hl
  obtain ⟨l1, l2, l3, l4⟩ := hl
  have hm : m ≤ 1048000 := by have := hT.1; omega
  obtain ⟨kd, on, nm, to_, tx, ts⟩ := o
  dsimp only at *
  unfold Dsk.doOp
  dsimp only
  by_cases k1 : kd = 1
  · subst k1; exact do_sync d mp mt D A n c on nm to_ tx At m ct w h hr hnc hok hst (by omega) (by omega) (by omega)
  rw [if_neg k1]
  by_cases k2 : kd = 2
  · subst k2; exact do_cut d mp mt D A n c on nm to_ tx At m ct w h hr hnc hok hst (by omega) (by omega) (by omega)
  rw [if_neg k2]
  by_cases k3 : kd = 3
  · subst k3; exact do_remove d mp mt D A n c on nm to_ tx At m ct w h hr hnc hok hst (by omega) (by omega) (by omega)
  rw [if_neg k3]
  by_cases k4 : kd = 4
  · subst k4; exact do_move d mp mt D A n c on nm to_ tx At m ct w h hr hnc hok hst (by omega) (by omega) (by omega)
  rw [if_neg k4]
  by_cases k5 : kd = 5
  · subst k5; exact do_read d mp mt D A n c on nm to_ tx At m ct w h hr hnc hok (by omega)
  rw [if_neg k5]
  by_cases k6 : kd = 6
  · subst k6; exact do_arm d mp mt D A n c on nm to_ tx At m ct w h hr hnc hok hst (by omega) (by omega) (by omega)
  rw [if_neg k6]
  by_cases k7 : kd = 7
  · subst k7; exact do_crash d mp mt D A n c on nm to_ tx At m ct ts w h hr hnc hok hT hmc hm
  rw [if_neg k7]
  by_cases k8 : kd = 8
  · subst k8; exact do_boot d mp mt D A n c on nm to_ tx At m ct w h hr hnc hok hst (by omega) (by omega) (by omega)
  rw [if_neg k8]
  by_cases k9 : kd = 9
  · subst k9; exact do_resize d mp mt D A n c on nm to_ tx At m ct w h hr hnc hok hst (by omega) (by omega) (by omega)
  rw [if_neg k9]
  exact do_append d mp mt D A n c kd on nm to_ tx At m ct w h hr hnc hok hst (by omega) (by omega) (by omega) (beq_false_of_ne k1) (beq_false_of_ne k2) (beq_false_of_ne k3) (beq_false_of_ne k4) (beq_false_of_ne k5) (beq_false_of_ne k6) (beq_false_of_ne k7) (beq_false_of_ne k8) (beq_false_of_ne k9)

end Go.Proofs.Ytcfgdlpdnpnhmaa
set_option linter.unusedVariables false
set_option linter.unusedSimpArgs false
namespace Go.Proofs.Ytcfgdlpdnpnhmaa
open Go.RowKit Go.Maps

/-- v is no disk: nil, or a Disk that no call made. -/
def Nob (w : World) (v : Value) : Prop :=
  v = .pointer none ∨ ∃ d, v = .pointer (some ⟨d, 0, none⟩) ∧ w.heap[d]? = some (.cells #[.map none, .int .i64 0, .bool false, .int .i64 0, .pointer none] 78 (0, 0))
theorem Nob.below {w w' : World} {v : Value} (h : Nob w v) (e : Below w.heap.size w w') : Nob w' v := by
  rcases h with rfl | ⟨d, rfl, hb⟩
  · exact Or.inl rfl
  · exact Or.inr ⟨d, rfl, (e.block _ (blk_lt hb)).trans hb⟩

theorem none_no (v : Value) (w : World) (h : Nob w v) :
    Calls Try.prog 93 #[v] w fun e w' => e = .returned (.bool true) ∧ w = w' := by
  rcases h with rfl | ⟨d, rfl, hb⟩
  · go_enter Try.func93, Try.ntmps93
    go_wp2
    go_ret
    exact ⟨rfl, rfl⟩
  · have c0 := blk_cell hb 0
    have hq := fun w' => run_eql_map_nil (P := Try.prog) w' 75 _ _ none Try.underlying75
    go_enter Try.func93, Try.ntmps93
    go_wp2
    go_ret
    exact ⟨rfl, rfl⟩

theorem up_no (v : Value) (w : World) (h : Nob w v) :
    Calls Try.prog 99 #[v] w fun e w' => e = .returned (.int .i64 1) ∧ w = w' := by
  have Hn := Lib.hid (fun w1 (hb : Below w.heap.size w w1) => none_no v w1 (h.below hb))
  clear h
  go_enter Try.func99, Try.ntmps99
  go_wp2_with (go_at_call 93; refine (Hn.out _ (Below.refl _ _)).mono ?_; rintro e w' ⟨rfl, rfl⟩)
  go_ret
  exact ⟨rfl, rfl⟩

theorem down_no (v : Value) (w : World) (h : Nob w v) :
    Calls Try.prog 32 #[v] w fun e w' => e = .returned (.bool false) ∧ w = w' := by
  have Hn := Lib.hid (fun w1 (hb : Below w.heap.size w w1) => none_no v w1 (h.below hb))
  clear h
  go_enter Try.func32, Try.ntmps32
  go_wp2_with (go_at_call 93; refine (Hn.out _ (Below.refl _ _)).mono ?_; rintro e w' ⟨rfl, rfl⟩)
  go_ret
  exact ⟨rfl, rfl⟩

theorem steps_no (v : Value) (w : World) (h : Nob w v) :
    Calls Try.prog 35 #[v] w fun e w' => e = .returned (.int .u64 0) ∧ w = w' := by
  have Hn := Lib.hid (fun w1 (hb : Below w.heap.size w w1) => none_no v w1 (h.below hb))
  clear h
  go_enter Try.func35, Try.ntmps35
  go_wp2_with (go_at_call 93; refine (Hn.out _ (Below.refl _ _)).mono ?_; rintro e w' ⟨rfl, rfl⟩)
  go_ret
  exact ⟨rfl, rfl⟩

theorem free_no (v : Value) (w : World) (h : Nob w v) :
    Calls Try.prog 33 #[v] w fun e w' => e = .returned (.int .i64 0) ∧ w = w' := by
  have Hn := Lib.hid (fun w1 (hb : Below w.heap.size w w1) => none_no v w1 (h.below hb))
  clear h
  go_enter Try.func33, Try.ntmps33
  go_wp2_with (go_at_call 93; refine (Hn.out _ (Below.refl _ _)).mono ?_; rintro e w' ⟨rfl, rfl⟩)
  go_ret
  exact ⟨rfl, rfl⟩

theorem names_no (v : Value) (w : World) (h : Nob w v) :
    Calls Try.prog 31 #[v] w fun e w' => e = .returned (.slice none 0 0) ∧ w = w' := by
  have Hn := Lib.hid (fun w1 (hb : Below w.heap.size w w1) => none_no v w1 (h.below hb))
  clear h
  go_enter Try.func31, Try.ntmps31
  go_wp2_with (go_at_call 93; refine (Hn.out _ (Below.refl _ _)).mono ?_; rintro e w' ⟨rfl, rfl⟩)
  go_ret
  exact ⟨rfl, rfl⟩

theorem boot_no (v : Value) (w : World) (h : Nob w v) :
    Calls Try.prog 47 #[v] w fun e w' => e = .returned (.int .i64 1) ∧ w = w' := by
  have Hn := Lib.hid (fun w1 (hb : Below w.heap.size w w1) => none_no v w1 (h.below hb))
  clear h
  go_enter Try.func47, Try.ntmps47
  go_wp2_with (go_at_call 93; refine (Hn.out _ (Below.refl _ _)).mono ?_; rintro e w' ⟨rfl, rfl⟩)
  go_ret
  exact ⟨rfl, rfl⟩

theorem crash_no (v : Value) (A : Option Addr) (n c : Nat) (w : World) (h : Nob w v) :
    Calls Try.prog 39 #[v, .slice A n c] w fun e w' => e = .returned (.int .i64 1) ∧ Below w.heap.size w w' := by
  have Hn := Lib.hid (fun w1 (hb : Below w.heap.size w w1) => none_no v w1 (h.below hb))
  clear h
  go_enter Try.func39, Try.ntmps39
  go_wp2_with (go_at_call 93; refine (Hn.out _ ((Below.refl _ _).alloc (Nat.le_refl _) _)).mono ?_; rintro e w' ⟨rfl, rfl⟩)
  go_ret
  exact ⟨rfl, ((Below.refl _ _).alloc (Nat.le_refl _) _)⟩

theorem arm_no (v : Value) (k : Int) (w : World) (h : Nob w v) :
    Calls Try.prog 40 #[v, .int .i64 k] w fun e w' => e = .returned (.int .i64 1) ∧ w = w' := by
  have Hn := Lib.hid (fun w1 (hb : Below w.heap.size w w1) => up_no v w1 (h.below hb))
  clear h
  go_enter Try.func40, Try.ntmps40
  go_wp2_with (go_at_call 99; refine (Hn.out _ (Below.refl _ _)).mono ?_; rintro e w' ⟨rfl, rfl⟩)
  go_ret
  exact ⟨rfl, rfl⟩

theorem resize_no (v : Value) (k : Int) (w : World) (h : Nob w v) :
    Calls Try.prog 46 #[v, .int .i64 k] w fun e w' => e = .returned (.int .i64 1) ∧ w = w' := by
  have Hn := Lib.hid (fun w1 (hb : Below w.heap.size w w1) => up_no v w1 (h.below hb))
  clear h
  go_enter Try.func46, Try.ntmps46
  go_wp2_with (go_at_call 99; refine (Hn.out _ (Below.refl _ _)).mono ?_; rintro e w' ⟨rfl, rfl⟩)
  go_ret
  exact ⟨rfl, rfl⟩

theorem file_no (v : Value) (s : ByteArray) (w : World) (h : Nob w v) :
    Calls Try.prog 100 #[v, .string s] w (FileNo w 1) := by
  have Hn := Lib.hid (fun w1 (hb : Below w.heap.size w w1) => up_no v w1 (h.below hb))
  clear h
  go_enter Try.func100, Try.ntmps100
  go_wp2_with (go_at_call 99; refine (Hn.out (w.alloc (.cells #[.slice none 0 0, .int .i64 0] 159)) ((Below.refl _ _).alloc (Nat.le_refl _) _)).mono ?_; rintro e w' ⟨rfl, rfl⟩)
  exact bodyPost_ret (v := .tuple #[.agg #[.slice none 0 0, .int .i64 0], .int .i64 1]) (by simp [results, Try.results100, go_sem]) rfl ⟨rfl, ((Below.refl _ _).alloc (Nat.le_refl _) _)⟩

theorem append_no (v : Value) (s : ByteArray) (A : Option Addr) (n c : Nat) (w : World) (h : Nob w v) :
    Calls Try.prog 41 #[v, .string s, .slice A n c] w fun e w' => e = .returned (.int .i64 1) ∧ Below w.heap.size w w' := by
  have hc := Lib.hid (file_no v s w h)
  clear h
  go_enter Try.func41, Try.ntmps41
  go_wp2_with (go_at_call 100; refine hc.out.mono ?_; rintro e w' ⟨rfl, hb⟩)
  go_ret
  exact ⟨rfl, hb.alloc hb.size _⟩

theorem sync_no (v : Value) (s : ByteArray) (w : World) (h : Nob w v) :
    Calls Try.prog 42 #[v, .string s] w fun e w' => e = .returned (.int .i64 1) ∧ Below w.heap.size w w' := by
  have hc := Lib.hid (file_no v s w h)
  clear h
  go_enter Try.func42, Try.ntmps42
  go_wp2_with (go_at_call 100; refine hc.out.mono ?_; rintro e w' ⟨rfl, hb⟩)
  go_ret
  exact ⟨rfl, hb.alloc hb.size _⟩

theorem cut_no (v : Value) (s : ByteArray) (k : Int) (w : World) (h : Nob w v) :
    Calls Try.prog 43 #[v, .string s, .int .i64 k] w fun e w' => e = .returned (.int .i64 1) ∧ Below w.heap.size w w' := by
  have hc := Lib.hid (file_no v s w h)
  clear h
  go_enter Try.func43, Try.ntmps43
  go_wp2_with (go_at_call 100; refine hc.out.mono ?_; rintro e w' ⟨rfl, hb⟩)
  go_ret
  exact ⟨rfl, hb.alloc hb.size _⟩

theorem remove_no (v : Value) (s : ByteArray) (w : World) (h : Nob w v) :
    Calls Try.prog 44 #[v, .string s] w fun e w' => e = .returned (.int .i64 1) ∧ Below w.heap.size w w' := by
  have hc := Lib.hid (file_no v s w h)
  clear h
  go_enter Try.func44, Try.ntmps44
  go_wp2_with (go_at_call 100; refine hc.out.mono ?_; rintro e w' ⟨rfl, hb⟩)
  go_ret
  exact ⟨rfl, hb.alloc hb.size _⟩

theorem move_no (v : Value) (s : ByteArray) (s2 : ByteArray) (w : World) (h : Nob w v) :
    Calls Try.prog 45 #[v, .string s, .string s2] w fun e w' => e = .returned (.int .i64 1) ∧ Below w.heap.size w w' := by
  have hc := Lib.hid (file_no v s w h)
  clear h
  go_enter Try.func45, Try.ntmps45
  go_wp2_with (go_at_call 100; refine hc.out.mono ?_; rintro e w' ⟨rfl, hb⟩)
  go_ret
  exact ⟨rfl, hb.alloc hb.size _⟩

theorem read_no (v : Value) (s : ByteArray) (w : World) (h : Nob w v) :
    Calls Try.prog 48 #[v, .string s] w fun e w' => e = .returned (.tuple #[.slice none 0 0, .int .i64 1]) ∧ Below w.heap.size w w' := by
  have hc := Lib.hid (file_no v s w h)
  clear h
  go_enter Try.func48, Try.ntmps48
  go_wp2_with (go_at_call 100; refine hc.out.mono ?_; rintro e w' ⟨rfl, hb⟩)
  go_ret2
  exact ⟨rfl, hb.alloc hb.size _⟩

theorem files_no (v : Value) (w : World) (h : Nob w v) :
    Calls Try.prog 38 #[v] w fun e w' => e = .returned (.slice none 0 0) ∧ Below w.heap.size w w' := by
  have Hn := Lib.hid (fun w1 (hb : Below w.heap.size w w1) => names_no v w1 (h.below hb))
  clear h
  go_enter Try.func38, Try.ntmps38
  go_wp2_with (go_at_call 31; refine (Hn.out _ (Below.refl _ _)).mono ?_; rintro e w' ⟨rfl, rfl⟩)
  refine wp_loop_rounds 1 ?_
  rw [rounds_succ]
  go_wp2
  go_ret
  exact ⟨rfl, Below.refl _ _⟩

end Go.Proofs.Ytcfgdlpdnpnhmaa
set_option linter.unusedVariables false
set_option linter.unusedSimpArgs false
namespace Go.Proofs.Ytcfgdlpdnpnhmaa
open Go.RowKit Go.Maps

section
def lv0 : Dsk := ⟨100, [], false, -1, 0⟩
def lv1 : Dsk := ⟨100, [⟨[97], [120, 121, 122], 0⟩], false, -1, 1⟩
def lv2 : Dsk := ⟨100, [⟨[97], [120, 121, 122], 3⟩], false, -1, 2⟩
def lv3 : Dsk := ⟨100, [⟨[97], [120, 121, 122, 117, 118], 3⟩], false, -1, 3⟩
def lv4 : Dsk := ⟨100, [⟨[97], [120, 121, 122, 117], 4⟩], true, -1, 3⟩
def lv5 : Dsk := ⟨100, [⟨[97], [120, 121, 122, 117], 4⟩], false, -1, 3⟩
theorem one_ok (r : Int) (f : File) (dn : Bool) (st : Nat) (h0 : 0 ≤ r) (h1 : r ≤ 1048576) (h2 : f.all.length ≤ 1048576) (h3 : 1 ≤ f.name.length ∧ f.name.length ≤ 16) (h4 : f.kept ≤ f.all.length) : Dsk.Ok ⟨r, [f], dn, -1, st⟩ :=
  ⟨h0, h1, by simpa [Dsk.sum] using h2, by simp, fun g hg => by rw [List.mem_singleton.1 hg]; exact h3, fun g hg => by rw [List.mem_singleton.1 hg]; exact h4, by simp [Dsk.Rising], by simp, by simp⟩
theorem new_ok (r : Int) (h0 : 0 ≤ r) (h1 : r ≤ 1048576) : (Dsk.new r).Ok :=
  ⟨h0, h1, by simp [Dsk.new, Dsk.sum], by simp [Dsk.new], fun g hg => by simp [Dsk.new] at hg, fun g hg => by simp [Dsk.new] at hg, by simp [Dsk.new, Dsk.Rising], by simp [Dsk.new], by simp [Dsk.new]⟩
theorem lv0_app : lv0.append [97] [120, 121, 122] = (lv1, 0) := rfl
theorem lv1_sync : lv1.sync [97] = (lv2, 0) := rfl
theorem lv2_app : lv2.append [97] [117, 118] = (lv3, 0) := rfl
theorem lv3_crash : lv3.crash [(1, 0)] = lv4 := rfl
theorem lv4_boot : lv4.boot = lv5 := rfl
theorem lv5_read : lv5.read [97] = ([120, 121, 122, 117], 0) := rfl
theorem lv5_free : lv5.free = 96 := rfl

/-- The disk at a stage of the example, beside a world in which the example began. -/
structure LvAt (w : World) (d mp mt : Nat) (D : Dsk) (w1 : World) : Prop where
  disk : IsDisk w1 d mp mt D
  below : Below w.heap.size w w1
  hd : w.heap.size ≤ d
  hmp : w.heap.size ≤ mp
  hmt : w.heap.size ≤ mt
theorem LvAt.step {w : World} {d mp mt : Nat} {D D' : Dsk} {w1 w2 : World} (h : LvAt w d mp mt D w1) (k : Left w1 d mp mt D' w2) : LvAt w d mp mt D' w2 :=
  ⟨k.disk, h.below.trans (k.ext.below (Nat.le_trans (Nat.le_refl _) h.below.size) (fun i hi => by
    simp only [List.mem_cons, List.mem_nil_iff, or_false] at hi
    rcases hi with rfl | rfl | rfl
    · exact h.hd
    · exact h.hmp
    · exact h.hmt)), h.hd, h.hmp, h.hmt⟩
theorem LvAt.later {w : World} {d mp mt : Nat} {D : Dsk} {w1 w2 : World} (h : LvAt w d mp mt D w1) (k : Below w1.heap.size w1 w2) : LvAt w d mp mt D w2 :=
  ⟨h.disk.below k, h.below.trans (k.mono h.below.size), h.hd, h.hmp, h.hmt⟩

def lvName : ByteArray := { data := #[97] }
theorem lv_append (w : World) (d mp mt : Nat) (D D' : Dsk) (b : Bs) (c : Nat) (A : Option Addr) (n : Nat) (w1 : World) (h : LvAt w d mp mt D w1) (hok : D.Ok) (hst : D.steps < 4611686018427387904) (hn : n ≤ 9223372036854775807) (hb : Bts w1 A n b) (he : D.append [97] b = (D', 0)) :
    Calls Try.prog 41 #[.pointer (some ⟨d, 0, none⟩), .string { data := #[97] }, .slice A n c] w1 fun e w' => e = .returned (.int .i64 0) ∧ LvAt w d mp mt D' w' := by
  refine (append_calls d mp mt D { data := #[97] } A n c b w1 h.disk (by decide) hb hn hok hst).mono ?_
  rintro e w' ⟨rfl, hl⟩
  rw [show ({ data := #[97] } : ByteArray).data.toList = [97] from rfl, he] at hl ⊢
  exact ⟨rfl, h.step hl⟩

theorem lv_bytes (w1 : World) (l : Bs) {fr : Nat × Nat} : Bts (w1.alloc (.cells (vals l).toArray 5 fr)) (some ⟨w1.heap.size, 0, none⟩) l.length l :=
  Bts.of_block (blk_new w1 _) l (fun j hj => by rw [List.getElem?_toArray]; exact vals_get l j hj)
theorem lv_tears (w1 : World) : Tears (w1.alloc (.cells #[.int .u16 1, .int .u32 0] 142)) (some ⟨w1.heap.size, 0, none⟩) 1 [(1, 0)] :=
  ⟨rfl, fun p hp => by rw [List.mem_singleton.1 hp]; exact ⟨by decide, by decide⟩, fun _ => ⟨_, rfl, fun j hj => by
    obtain rfl : j = 0 := by omega
    exact ⟨by rw [add0, blk_cell (blk_new w1 _)]; rfl, by rw [add0, blk_cell (blk_new w1 _)]; rfl⟩⟩⟩
theorem below_new (w1 : World) (o : Obj) : Below w1.heap.size w1 (w1.alloc o) := (Below.refl _ _).alloc (Nat.le_refl _) o

def LvRead (w : World) (d mp mt : Nat) (e : Ending) (w' : World) : Prop :=
  ∃ A k, e = .returned (.tuple #[.slice A 4 k, .int .i64 0]) ∧ (convert 22 9 (.slice A 4 k)).run Try.prog w' = .ok (.string { data := #[120, 121, 122, 117] }) w' ∧ LvAt w d mp mt lv5 w'
theorem lv_read (w : World) (d mp mt : Nat) (w1 : World) (h : LvAt w d mp mt lv5 w1) :
    Calls Try.prog 48 #[.pointer (some ⟨d, 0, none⟩), .string { data := #[97] }] w1 (LvRead w d mp mt) := by
  refine (read_calls _ _ _ lv5 { data := #[97] } _ h.disk (by decide) (by decide)).mono ?_
  rintro e w7 ⟨A, k, rfl, hown, hb7⟩
  rw [show ({ data := #[97] } : ByteArray).data.toList = [97] from rfl, lv5_read] at hown ⊢
  obtain ⟨A', c', hv, hb, _, _⟩ := Bts.of_own hown
  injection hv with e1 e2 e3
  subst e1
  exact ⟨A, k, rfl, run_to_str hb k, h.later hb7⟩
theorem lv_sync (w : World) (d mp mt : Nat) (w1 : World) (h : LvAt w d mp mt lv1 w1) :
    Calls Try.prog 42 #[.pointer (some ⟨d, 0, none⟩), .string { data := #[97] }] w1 fun e w' => e = .returned (.int .i64 0) ∧ LvAt w d mp mt lv2 w' := by
  refine (sync_calls _ _ _ lv1 { data := #[97] } _ h.disk (by decide) (by decide) (by decide) (by decide) (by decide) (by decide)).mono ?_
  rintro e w3 ⟨rfl, hl⟩
  rw [show ({ data := #[97] } : ByteArray).data.toList = [97] from rfl, lv1_sync] at hl ⊢
  exact ⟨rfl, h.step hl⟩
theorem lv_free (w : World) (d mp mt : Nat) (w1 : World) (h : LvAt w d mp mt lv5 w1) :
    Calls Try.prog 33 #[.pointer (some ⟨d, 0, none⟩)] w1 fun e w' => e = .returned (.int .i64 96) ∧ LvAt w d mp mt lv5 w' := by
  refine (free_calls _ _ _ lv5 _ h.disk (by decide) (by decide) (by decide) (by decide)).mono ?_
  rintro e w8 ⟨rfl, hb⟩
  exact ⟨rfl, h.later hb⟩
theorem lv_steps (w : World) (d mp mt : Nat) (w1 : World) (h : LvAt w d mp mt lv5 w1) :
    Calls Try.prog 35 #[.pointer (some ⟨d, 0, none⟩)] w1 fun e w' => e = .returned (.int .u64 3) ∧ w1 = w' := by
  refine (steps_calls _ _ _ lv5 _ h.disk).mono ?_
  rintro e w8 ⟨rfl, rfl⟩
  exact ⟨rfl, rfl⟩

set_option maxRecDepth 100000 in
theorem lives23_calls (w : World) :
    Calls Try.prog 28 #[] w fun e w' => e = .returned (.bool true) ∧ Below w.heap.size w w' := by
  have hnew := new_calls 100 w (by omega) (by omega)
  have Hnew := Lib.hid hnew
  have ok0 := Lib.hid (new_ok 100 (by omega) (by omega))
  have ok1 := Lib.hid (one_ok 100 ⟨[97], [120, 121, 122], 0⟩ false 1 (by omega) (by omega) (by decide) (by decide) (by decide))
  have ok2 := Lib.hid (one_ok 100 ⟨[97], [120, 121, 122], 3⟩ false 2 (by omega) (by omega) (by decide) (by decide) (by decide))
  have ok3 := Lib.hid (one_ok 100 ⟨[97], [120, 121, 122, 117, 118], 3⟩ false 3 (by omega) (by omega) (by decide) (by decide) (by decide))
  have hcs := run_conv_const
  clear hnew
  go_enter Try.func28, Try.ntmps28
  go_wp2_with (first
    | (go_at_call 27; refine Hnew.out.mono ?_; rintro e w1 ⟨rfl, hd, hb⟩; have hL0 := LvAt.mk hd hb (by omega) (Nat.le_refl _) (by omega); clear hd hb)
    | (go_at_call 41; refine (lv_append w _ _ _ lv2 lv3 [117, 118] _ _ _ _ (hL2.later (below_new _ _)) ok2.out (by decide) (by decide) (lv_bytes _ [117, 118]) lv2_app).mono ?_; rintro e w4 ⟨rfl, hL3⟩)
    | (go_at_call 41; refine (lv_append w _ _ _ lv0 lv1 [120, 121, 122] _ _ _ _ (hL0.later (below_new _ _)) ok0.out (by decide) (by decide) (lv_bytes _ [120, 121, 122]) lv0_app).mono ?_; rintro e w2 ⟨rfl, hL1⟩)
    | (go_at_call 42; refine (lv_sync w _ _ _ _ hL1).mono ?_; rintro e w3 ⟨rfl, hL2⟩)
    | (go_at_call 39; refine (crash_calls _ _ _ lv3 _ 1 1 [(1, 0)] _ (hL3.disk.alloc _) ok3.out (lv_tears _) (Nat.le_refl _)).mono ?_; rintro e w5 ⟨rfl, hl5⟩; have hL4 := (hL3.later (below_new _ _)).step (D' := lv4) hl5; clear hl5)
    | (go_at_call 47; refine (boot_calls _ _ _ lv4 _ hL4.disk).mono ?_; rintro e w6 ⟨rfl, hl6⟩; have hL5 := hL4.step (D' := lv5) hl6; clear hl6)
    | (go_at_call 48; refine (lv_read w _ _ _ _ hL5).mono ?_; rintro e w7 ⟨A, k, rfl, hcv, hL6⟩)
    | (go_at_call 33; refine (lv_free w _ _ _ _ hL6).mono ?_; rintro e w8 ⟨rfl, hL7⟩)
    | (go_at_call 35; refine (lv_steps w _ _ _ _ hL7).mono ?_; rintro e w9 ⟨rfl, rfl⟩))
  go_ret
  exact ⟨rfl, hL7.below⟩
end
end Go.Proofs.Ytcfgdlpdnpnhmaa
set_option linter.unusedVariables false
set_option linter.unusedSimpArgs false
namespace Go.Proofs.Ytcfgdlpdnpnhmaa
open Go.RowKit Go.Maps

theorem below_then {w w1 w2 : World} (h : Below w.heap.size w w1) (k : Below w1.heap.size w1 w2) : Below w.heap.size w w2 := h.trans (k.mono h.size)
theorem run_bytes_at (s : ByteArray) (W : World) : (convert 9 22 (.string s)).run Try.prog W = .ok (.slice (some ⟨W.heap.size, 0, none⟩) s.size (grownCap W s.size 0 5))
      (W.drew.alloc (.cells (bytesRow s (grownCap W s.size 0 5)) 5 ((bytesRow s (grownCap W s.size 0 5)).size, (bytesRow s (grownCap W s.size 0 5)).size + 1))) :=
  run_bytes_of_string W _ _ _ s Try.underlying9 Try.underlying22 Try.underlying5
theorem below_bytes (s : ByteArray) (W : World) (fr : Nat × Nat) (C : Array Value) : Below W.heap.size W (W.drew.alloc (.cells C 5 fr)) := ((Below.refl _ _).drew).alloc (Nat.le_refl _) _
theorem ops_one {w : World} {g : Nat} {cs : Array Value} {fr : Nat × Nat} {o : Opp} (hb : w.heap[g]? = some (.cells cs 49 fr)) (h : OpCells w cs.toList o) : Ops w (some ⟨g, 0, none⟩) 1 [o] :=
  ⟨rfl, fun _ => ⟨_, rfl, fun j hj => ⟨cs.toList, by obtain rfl : j = 0 := by omega
                                                     exact h, fun i hi => by obtain rfl : j = 0 := by omega
                                                                             rw [Nat.zero_mul, Nat.zero_add, add0, Nat.zero_add, blk_cell hb, Array.getElem?_toList]⟩⟩⟩

set_option maxRecDepth 100000 in
set_option maxHeartbeats 4000000 in
theorem nobody23_calls (kind n : Int) (name to_ text : ByteArray) (At : Option Addr) (m ct : Nat) (o : Opp) (w : World) (h : OpCells w [.int .i64 kind, .int .i64 n, .string name, .string to_, .string text, .slice At m ct] o) :
    Calls Try.prog 8 #[.agg #[.int .i64 kind, .int .i64 n, .string name, .string to_, .string text, .slice At m ct]] w fun e w' => e = .returned (.bool true) ∧ Below w.heap.size w w' := by
  have H := Lib.hid h
  have Hlv := Lib.hid lives23_calls
  clear h
  obtain ⟨w1, hw1⟩ : ∃ w1, w1 = w.alloc (.cells #[.int .i64 kind, .int .i64 n, .string name, .string to_, .string text, .slice At m ct] 49) := ⟨_, rfl⟩
  have hbw1 : Below w.heap.size w w1 := by rw [hw1]; exact below_new _ _
  have hbx1 : w1.heap[w.heap.size]? = some (.cells #[.int .i64 kind, .int .i64 n, .string name, .string to_, .string text, .slice At m ct] 49 (0, 0)) := by rw [hw1]; exact blk_new _ _
  have hcells1 : ∀ W, Below w1.heap.size w1 W → W.cell? ⟨w.heap.size, 0, none⟩ = some (.int .i64 kind) ∧ W.cell? ⟨w.heap.size, 1, none⟩ = some (.int .i64 n) ∧ W.cell? ⟨w.heap.size, 2, none⟩ = some (.string name) ∧ W.cell? ⟨w.heap.size, 3, none⟩ = some (.string to_) ∧ W.cell? ⟨w.heap.size, 4, none⟩ = some (.string text) ∧ W.cell? ⟨w.heap.size, 5, none⟩ = some (.slice At m ct) := fun W hb => by
    have := (hb.block _ (blk_lt hbx1)).trans hbx1
    exact ⟨blk_cell this 0, blk_cell this 1, blk_cell this 2, blk_cell this 3, blk_cell this 4, blk_cell this 5⟩
  have Hcells1 := Lib.hid hcells1
  obtain ⟨i0, i1, i2, i3, i4, i5⟩ := hcells1 w1 (Below.refl _ _)
  have Hbx1 := Lib.hid hbx1
  have Hbw1 := Lib.hid hbw1
  clear hcells1 hbx1 hbw1
  go_enter Try.func8, Try.ntmps8
  have hs1 : w1.heap.size = w.heap.size + 1 := by rw [hw1]; simp
  have hop1 : Ops (w1.alloc (.cells #[.int .i64 kind, .int .i64 n, .string name, .string to_, .string text, .slice At m ct] 49)) (some ⟨w1.heap.size, 0, none⟩) 1 [o] := ops_one (blk_new _ _) (((H.out.below Hbw1.out).below (below_new _ _)))
  rw [hs1] at hop1
  have hlight := light_calls _ 1 1 [o] _ hop1 (by omega)
  have Hlight := Lib.hid hlight
  clear hop1 hlight
  go_wp2_with fail
  rw [← hw1]
  have Hw1 := Lib.hid hw1
  have Hs1 := Lib.hid hs1
  clear hw1 hs1
  cases hlb : lightB [o]
  · rw [hlb] at Hlight
    clear hlb
    go_wp2_with (first
      | (go_at_call 26; refine Hlight.out.mono ?_; rintro e w3 ⟨rfl, hb3⟩)
      | (go_at_call 28; refine (Hlv.out _).mono ?_; rintro e w4 ⟨rfl, hb4⟩))
    go_ret
    have hb4' := below_then (below_then (Hbw1.out.alloc Hbw1.out.size _) hb3) hb4
    exact ⟨rfl, hb4'⟩
  · rw [hlb] at Hlight
    clear hlb
    go_wp2_with (go_at_call 26; refine Hlight.out.mono ?_; rintro e w3 ⟨rfl, hb3⟩)
    have hb5 := below_then hb3 (below_then (below_new w3 (.cells #[.map none, .int .i64 0, .bool false, .int .i64 0, .pointer none] 78)) (below_new _ (.cells #[.pointer none, .pointer (some ⟨w3.heap.size, 0, none⟩)] 41)))
    obtain ⟨w5, hw5⟩ : ∃ w5, w5 = (w3.alloc (.cells #[.map none, .int .i64 0, .bool false, .int .i64 0, .pointer none] 78)).alloc (.cells #[.pointer none, .pointer (some ⟨w3.heap.size, 0, none⟩)] 41) := ⟨_, rfl⟩
    have hz5 : w5.heap[w3.heap.size]? = some (.cells #[.map none, .int .i64 0, .bool false, .int .i64 0, .pointer none] 78 (0, 0)) := by rw [hw5]; exact blk_alloc (blk_new w3 _) _
    have hs5 : w5.heap[w3.heap.size + 1]? = some (.cells #[.pointer none, .pointer (some ⟨w3.heap.size, 0, none⟩)] 41 (0, 0)) := by
      have := blk_new (w3.alloc (.cells #[.map none, .int .i64 0, .bool false, .int .i64 0, .pointer none] 78)) (.cells #[.pointer none, .pointer (some ⟨w3.heap.size, 0, none⟩)] 41)
      rw [hw5]
      rw [show (w3.alloc (.cells #[.map none, .int .i64 0, .bool false, .int .i64 0, .pointer none] 78)).heap.size = w3.heap.size + 1 by simp] at this
      exact this
    rw [← hw5] at hb5 ⊢
    have hb15 := below_then (below_new w1 (.cells #[.int .i64 kind, .int .i64 n, .string name, .string to_, .string text, .slice At m ct] 49)) hb5
    have Hb15 := Lib.hid hb15
    have Hz5 := Lib.hid hz5
    have Hs5 := Lib.hid hs5
    clear hb5 hb15 hz5 hs5 hw5 hb3 i0 i1 i2 i3 i4 i5
    go_loopw [18] (fun i wr => ∃ (k : Nat), i = .int .i64 k ∧ k ≤ 2 ∧ Below w5.heap.size w5 wr) (fun i _ => 2 - (intOf i).toNat)
    case atStart => exact ⟨0, rfl, by omega, Below.refl _ _⟩
    case round =>
      obtain ⟨k, rfl, hk, hbr⟩ := hrel
      have Hbr := Lib.hid hbr
      have hz := Lib.hid ((hbr.block _ (blk_lt Hz5.out)).trans Hz5.out)
      have Hsl := Lib.hid ((hbr.block _ (blk_lt Hs5.out)).trans Hs5.out)
      have hC := fun W (hb : Below wr.heap.size wr W) => Hcells1.out W (below_then Hb15.out (below_then hbr hb))
      clear hbr
      by_cases hlt : k < 2
      · have hk01 : k = 0 ∨ k = 1 := by omega
        clear hlt hk
        rcases hk01 with rfl | rfl
        · have hv := blk_cell Hsl.out 0
          have hN : ∀ W, Below wr.heap.size wr W → Nob W (.pointer none) := fun W hb => Or.inl rfl
          have HN := Lib.hid hN
          clear hN
          obtain ⟨c0, c1, c2, c3, c4, c5⟩ := hC wr (Below.refl _ _)
          have HC := Lib.hid hC
          have hcv := run_bytes_at text
          clear hC
          go_wp2_with (first
            | (go_at_call 48; refine (read_no _ _ _ (HN.out _ (Below.refl _ _))).mono ?_; rintro e v1 ⟨rfl, k1⟩; have b1 := below_then (Below.refl _ _) k1; clear k1; have hc := HC.out _ b1; obtain ⟨c0, c1, c2, c3, c4, c5⟩ := hc)
            | (go_at_call 41; refine (append_no _ _ _ _ _ _ (HN.out _ (below_then b1 (below_bytes text _ _ _)))).mono ?_; rintro e v2 ⟨rfl, k2⟩; have b2 := below_then (below_then b1 (below_bytes text _ _ _)) k2; clear k2; have hc := HC.out _ b2; obtain ⟨c0, c1, c2, c3, c4, c5⟩ := hc)
            | (go_at_call 42; refine (sync_no _ _ _ (HN.out _ b2)).mono ?_; rintro e v3 ⟨rfl, k3⟩; have b3 := below_then b2 k3; clear k3; have hc := HC.out _ b3; obtain ⟨c0, c1, c2, c3, c4, c5⟩ := hc)
            | (go_at_call 43; refine (cut_no _ _ _ _ (HN.out _ b3)).mono ?_; rintro e v4 ⟨rfl, k4⟩; have b4 := below_then b3 k4; clear k4; have hc := HC.out _ b4; obtain ⟨c0, c1, c2, c3, c4, c5⟩ := hc)
            | (go_at_call 44; refine (remove_no _ _ _ (HN.out _ b4)).mono ?_; rintro e v5 ⟨rfl, k5⟩; have b5 := below_then b4 k5; clear k5; have hc := HC.out _ b5; obtain ⟨c0, c1, c2, c3, c4, c5⟩ := hc)
            | (go_at_call 45; refine (move_no _ _ _ _ (HN.out _ b5)).mono ?_; rintro e v6 ⟨rfl, k6⟩; have b6 := below_then b5 k6; clear k6; have hc := HC.out _ b6; obtain ⟨c0, c1, c2, c3, c4, c5⟩ := hc)
            | (go_at_call 40; refine (arm_no _ _ _ (HN.out _ b6)).mono ?_; rintro e w' ⟨rfl, rfl⟩)
            | (go_at_call 39; refine (crash_no _ _ _ _ _ (HN.out _ b6)).mono ?_; rintro e v7 ⟨rfl, k7⟩; have b7 := below_then b6 k7; clear k7; have hc := HC.out _ b7; obtain ⟨c0, c1, c2, c3, c4, c5⟩ := hc)
            | (go_at_call 47; refine (boot_no _ _ (HN.out _ b7)).mono ?_; rintro e w' ⟨rfl, rfl⟩)
            | (go_at_call 46; refine (resize_no _ _ _ (HN.out _ b7)).mono ?_; rintro e w' ⟨rfl, rfl⟩)
            | (go_at_call 32; refine (down_no _ _ (HN.out _ b7)).mono ?_; rintro e w' ⟨rfl, rfl⟩)
            | (go_at_call 33; refine (free_no _ _ (HN.out _ b7)).mono ?_; rintro e w' ⟨rfl, rfl⟩)
            | (go_at_call 35; refine (steps_no _ _ (HN.out _ b7)).mono ?_; rintro e w' ⟨rfl, rfl⟩)
            | (go_at_call 31; refine (names_no _ _ (HN.out _ b7)).mono ?_; rintro e w' ⟨rfl, rfl⟩)
            | (go_at_call 38; refine (files_no _ _ (HN.out _ b7)).mono ?_; rintro e v8 ⟨rfl, k8⟩; have b8 := below_then b7 k8; clear k8; have hc := HC.out _ b8; obtain ⟨c0, c1, c2, c3, c4, c5⟩ := hc))
          go_roundw
          case rel => exact ⟨1, rfl, by omega, below_then Hbr.out b8⟩
          case measure => simp [intOf]
        · have hv := blk_cell Hsl.out 1
          have hN : ∀ W, Below wr.heap.size wr W → Nob W (.pointer (some ⟨w3.heap.size, 0, none⟩)) := fun W hb => (show Nob wr (.pointer (some ⟨w3.heap.size, 0, none⟩)) from Or.inr ⟨_, rfl, hz.out⟩).below hb
          have HN := Lib.hid hN
          clear hN
          obtain ⟨c0, c1, c2, c3, c4, c5⟩ := hC wr (Below.refl _ _)
          have HC := Lib.hid hC
          have hcv := run_bytes_at text
          clear hC
          go_wp2_with (first
            | (go_at_call 48; refine (read_no _ _ _ (HN.out _ (Below.refl _ _))).mono ?_; rintro e v1 ⟨rfl, k1⟩; have b1 := below_then (Below.refl _ _) k1; clear k1; have hc := HC.out _ b1; obtain ⟨c0, c1, c2, c3, c4, c5⟩ := hc)
            | (go_at_call 41; refine (append_no _ _ _ _ _ _ (HN.out _ (below_then b1 (below_bytes text _ _ _)))).mono ?_; rintro e v2 ⟨rfl, k2⟩; have b2 := below_then (below_then b1 (below_bytes text _ _ _)) k2; clear k2; have hc := HC.out _ b2; obtain ⟨c0, c1, c2, c3, c4, c5⟩ := hc)
            | (go_at_call 42; refine (sync_no _ _ _ (HN.out _ b2)).mono ?_; rintro e v3 ⟨rfl, k3⟩; have b3 := below_then b2 k3; clear k3; have hc := HC.out _ b3; obtain ⟨c0, c1, c2, c3, c4, c5⟩ := hc)
            | (go_at_call 43; refine (cut_no _ _ _ _ (HN.out _ b3)).mono ?_; rintro e v4 ⟨rfl, k4⟩; have b4 := below_then b3 k4; clear k4; have hc := HC.out _ b4; obtain ⟨c0, c1, c2, c3, c4, c5⟩ := hc)
            | (go_at_call 44; refine (remove_no _ _ _ (HN.out _ b4)).mono ?_; rintro e v5 ⟨rfl, k5⟩; have b5 := below_then b4 k5; clear k5; have hc := HC.out _ b5; obtain ⟨c0, c1, c2, c3, c4, c5⟩ := hc)
            | (go_at_call 45; refine (move_no _ _ _ _ (HN.out _ b5)).mono ?_; rintro e v6 ⟨rfl, k6⟩; have b6 := below_then b5 k6; clear k6; have hc := HC.out _ b6; obtain ⟨c0, c1, c2, c3, c4, c5⟩ := hc)
            | (go_at_call 40; refine (arm_no _ _ _ (HN.out _ b6)).mono ?_; rintro e w' ⟨rfl, rfl⟩)
            | (go_at_call 39; refine (crash_no _ _ _ _ _ (HN.out _ b6)).mono ?_; rintro e v7 ⟨rfl, k7⟩; have b7 := below_then b6 k7; clear k7; have hc := HC.out _ b7; obtain ⟨c0, c1, c2, c3, c4, c5⟩ := hc)
            | (go_at_call 47; refine (boot_no _ _ (HN.out _ b7)).mono ?_; rintro e w' ⟨rfl, rfl⟩)
            | (go_at_call 46; refine (resize_no _ _ _ (HN.out _ b7)).mono ?_; rintro e w' ⟨rfl, rfl⟩)
            | (go_at_call 32; refine (down_no _ _ (HN.out _ b7)).mono ?_; rintro e w' ⟨rfl, rfl⟩)
            | (go_at_call 33; refine (free_no _ _ (HN.out _ b7)).mono ?_; rintro e w' ⟨rfl, rfl⟩)
            | (go_at_call 35; refine (steps_no _ _ (HN.out _ b7)).mono ?_; rintro e w' ⟨rfl, rfl⟩)
            | (go_at_call 31; refine (names_no _ _ (HN.out _ b7)).mono ?_; rintro e w' ⟨rfl, rfl⟩)
            | (go_at_call 38; refine (files_no _ _ (HN.out _ b7)).mono ?_; rintro e v8 ⟨rfl, k8⟩; have b8 := below_then b7 k8; clear k8; have hc := HC.out _ b8; obtain ⟨c0, c1, c2, c3, c4, c5⟩ := hc))
          go_roundw
          case rel => exact ⟨2, rfl, by omega, below_then Hbr.out b8⟩
          case measure => simp [intOf]
      · have hk2 : k = 2 := by omega
        clear hlt hk
        subst hk2
        go_wp2_with (go_at_call 28; refine (Hlv.out _).mono ?_; rintro e w6 ⟨rfl, hb6⟩)
        go_ret
        have hb6' := below_then (below_then (below_then Hbw1.out Hb15.out) Hbr.out) hb6
        exact ⟨rfl, hb6'⟩
end Go.Proofs.Ytcfgdlpdnpnhmaa
set_option linter.unusedVariables false
set_option linter.unusedSimpArgs false
namespace Go.Proofs.Ytcfgdlpdnpnhmaa
open Go.RowKit Go.Maps

/-- The cells of the document's disk. -/
def refCells (D : Dsk) (A : Option Addr) (n c : Nat) : Array Value := #[.int .i64 D.room, .slice A n c, .bool D.down, .int .i64 D.armed, .int .u64 D.steps]
/-- A disk at blocks d, mp, mt; the document's, in a variable of its own at block g; both stand as D; all of it is newer than world w. -/
structure PlAt (w wr : World) (d mp mt g : Nat) (D : Dsk) (A : Option Addr) (n c : Nat) : Prop where
  disk : IsDisk wr d mp mt D
  box : wr.heap[g]? = some (.cells (refCells D A n c) 45 (0, 0))
  files : RFiles wr A n D.files
  cap : n ≤ c
  ok : D.Ok
  below : Below w.heap.size w wr
  hd : w.heap.size ≤ d
  hmp : w.heap.size ≤ mp
  hmt : w.heap.size ≤ mt
  hg : w.heap.size ≤ g
section
variable {w wr w' : World} {d mp mt g : Nat} {D : Dsk} {A : Option Addr} {n c : Nat}
theorem PlAt.later (h : PlAt w wr d mp mt g D A n c) (hb : Below wr.heap.size wr w') : PlAt w w' d mp mt g D A n c :=
  ⟨h.disk.below hb, (hb.block _ (blk_lt h.box)).trans h.box, h.files.below hb, h.cap, h.ok, below_next h.below hb, h.hd, h.hmp, h.hmt, h.hg⟩
theorem PlAt.cells (h : PlAt w wr d mp mt g D A n c) :
    wr.cell? ⟨g, 0, none⟩ = some (.int .i64 D.room) ∧ wr.cell? ⟨g, 1, none⟩ = some (.slice A n c) ∧ wr.cell? ⟨g, 2, none⟩ = some (.bool D.down) ∧ wr.cell? ⟨g, 3, none⟩ = some (.int .i64 D.armed) ∧ wr.cell? ⟨g, 4, none⟩ = some (.int .u64 D.steps) :=
  ⟨blk_cell h.box 0, blk_cell h.box 1, blk_cell h.box 2, blk_cell h.box 3, blk_cell h.box 4⟩
theorem PlAt.free (h : PlAt w wr d mp mt g D A n c) :
    wr.frozen? ⟨g, 0, none⟩ = false ∧ wr.frozen? ⟨g, 1, none⟩ = false ∧ wr.frozen? ⟨g, 2, none⟩ = false ∧ wr.frozen? ⟨g, 3, none⟩ = false ∧ wr.frozen? ⟨g, 4, none⟩ = false :=
  ⟨blk_frozen h.box 0, blk_frozen h.box 1, blk_frozen h.box 2, blk_frozen h.box 3, blk_frozen h.box 4⟩
theorem PlAt.ne (h : PlAt w wr d mp mt g D A n c) : g ≠ d ∧ g ≠ mp ∧ g ≠ mt := by
  refine ⟨?_, ?_, ?_⟩
  · rintro rfl
    have h1 := h.disk.blk
    rw [h.box] at h1
    simp only [Option.some.injEq, Obj.cells.injEq] at h1
    exact absurd h1.2.1 (by decide)
  · rintro rfl
    obtain ⟨es, c', hb⟩ := h.disk.mapObj
    rw [h.box] at hb
    cases hb
  · rintro rfl
    have h1 : wr.heap[g]? = _ := h.disk.met
    rw [h.box] at h1
    simp only [Option.some.injEq, Obj.cells.injEq] at h1
    exact absurd h1.2.1 (by decide)
theorem PlAt.n_le (h : PlAt w wr d mp mt g D A n c) : n = D.files.length ∧ n ≤ 128 := ⟨h.files.1.symm, by have := h.files.1; have := h.ok.many; omega⟩
theorem refCells_noStr : ∀ (j : Nat) (x : ByteArray), (refCells D A n c)[j]? ≠ some (Value.string x) :=
  fun j x => by rcases j with _ | _ | _ | _ | _ | j <;> simp [refCells]
theorem refCells_noU8 (h : PlAt w wr d mp mt g D A n c) : NoU8 wr g := .of_cells h.box (fun j x => by rcases j with _ | _ | _ | _ | _ | j <;> simp [refCells])
/-- A call has turned the disk (Left), the document's answer is stored into its variable. -/
theorem PlAt.turn (h : PlAt w wr d mp mt g D A n c) {D' : Dsk} {A' : Option Addr} {n' c' : Nat} {w2 w3 : World} (hl : Left wr d mp mt D' w2) (hf : RFiles w2 A' n' D'.files) (hc : n' ≤ c') (hok : D'.Ok) (hb : Below w2.heap.size w2 w3) :
    ∃ W', W' = ((((w3.setCell ⟨g, 0, none⟩ (.int .i64 D'.room)).setCell ⟨g, 1, none⟩ (.slice A' n' c')).setCell ⟨g, 2, none⟩ (.bool D'.down)).setCell ⟨g, 3, none⟩ (.int .i64 D'.armed)).setCell ⟨g, 4, none⟩ (.int .u64 D'.steps) ∧
      PlAt w W' d mp mt g D' A' n' c' ∧ Ext [d, mp, mt, g] wr W' := by
  obtain ⟨h1, h2, h3⟩ := h.ne
  have hbx2 := hl.ext.obj h.box (by simp; omega)
  have hbx3 := (hb.block _ (blk_lt hbx2)).trans hbx2
  obtain ⟨W', e, hx, hE, hF⟩ := res_done (by rfl) hbx3 (.int .i64 D'.room) (.slice A' n' c') (.bool D'.down) (.int .i64 D'.armed) (.int .u64 D'.steps) refCells_noStr
  have hno : ∀ k, k ∈ [g] → NoU8 w3 k := fun k hk => by rw [List.mem_singleton.1 hk]; exact .of_cells hbx3 (fun j x => by rcases j with _ | _ | _ | _ | _ | j <;> simp [refCells])
  have hd3 : IsDisk w3 d mp mt D' := hl.disk.below hb
  have hEx : Ext [d, mp, mt, g] wr W' := ((hl.ext.mono (S' := [d, mp, mt, g]) (fun k hk => Or.inl (by simp at hk ⊢; omega))).trans (Ext.of_below hb)).trans (hE.mono (fun k hk => Or.inl (by simp at hk ⊢; omega)))
  refine ⟨W', e, ⟨hd3.ext hE hno (by simp; omega) (by simp; omega) (by simp; omega), hx, hF _ _ _ (hf.below hb), hc, hok, ?_, h.hd, h.hmp, h.hmt, h.hg⟩, hEx⟩
  exact h.below.trans (hEx.below h.below.size (fun k hk => by have := h.hd; have := h.hmp; have := h.hmt; have := h.hg; simp at hk; omega))
/-- The cells that a store into the document's variable asks of. -/
theorem PlAt.open_ (h : PlAt w wr d mp mt g D A n c) {D' : Dsk} {w2 w3 : World} (hl : Left wr d mp mt D' w2) (hb : Below w2.heap.size w2 w3) :
    (w3.cell? ⟨g, 0, none⟩ = some (.int .i64 D.room) ∧ w3.cell? ⟨g, 1, none⟩ = some (.slice A n c) ∧ w3.cell? ⟨g, 2, none⟩ = some (.bool D.down) ∧ w3.cell? ⟨g, 3, none⟩ = some (.int .i64 D.armed) ∧ w3.cell? ⟨g, 4, none⟩ = some (.int .u64 D.steps)) ∧
    (w3.frozen? ⟨g, 0, none⟩ = false ∧ w3.frozen? ⟨g, 1, none⟩ = false ∧ w3.frozen? ⟨g, 2, none⟩ = false ∧ w3.frozen? ⟨g, 3, none⟩ = false ∧ w3.frozen? ⟨g, 4, none⟩ = false) := by
  obtain ⟨h1, h2, h3⟩ := h.ne
  have hbx2 := hl.ext.obj h.box (by simp; omega)
  have hbx3 := (hb.block _ (blk_lt hbx2)).trans hbx2
  exact ⟨⟨blk_cell hbx3 0, blk_cell hbx3 1, blk_cell hbx3 2, blk_cell hbx3 3, blk_cell hbx3 4⟩, blk_frozen hbx3 0, blk_frozen hbx3 1, blk_frozen hbx3 2, blk_frozen hbx3 3, blk_frozen hbx3 4⟩
end
/-- The disk behind some calls. -/
def Dsk.run (D : Dsk) (l : List Opp) : Dsk := l.foldl Dsk.doOp D
theorem Dsk.run_succ (D : Dsk) (l : List Opp) (k : Nat) (hk : k < l.length) : D.run (l.take (k + 1)) = (D.run (l.take k)).doOp (l.getD k default) := by
  unfold Dsk.run
  rw [List.take_succ_eq_append_getElem hk, List.foldl_append, List.getD_eq_getElem?_getD, List.getElem?_eq_getElem hk]
  rfl
theorem lightB_at {l : List Opp} (h : lightB l = true) {k : Nat} (hk : k < l.length) : lightOp (l.getD k default) = true := by
  simp only [lightB, Bool.and_eq_true, decide_eq_true_eq, List.all_eq_true] at h
  rw [List.getD_eq_getElem?_getD, List.getElem?_eq_getElem hk]
  exact h.1 _ (List.getElem_mem hk)
theorem lightB_len {l : List Opp} (h : lightB l = true) : l.length ≤ 200 := by
  simp only [lightB, Bool.and_eq_true, decide_eq_true_eq] at h
  exact h.2
/-- Each call's number fits. -/
theorem Ops.fits {w : World} {A : Option Addr} {n : Nat} {l : List Opp} (h : Ops w A n l) {k : Nat} (hk : k < n) : (l.getD k default).n ≤ 9223372036854775807 := by
  obtain ⟨ad, _, hc⟩ := h.2 (by omega)
  obtain ⟨cs, h1, _⟩ := hc k hk
  have h2 := h1.n
  obtain ⟨x, hx⟩ : ∃ x, x = (l.getD k default).n := ⟨_, rfl⟩
  rw [← hx] at h2 ⊢
  simp [Lit.wf, IntKind.min, IntKind.max, IntKind.bits, IntKind.signed] at h2
  omega
end Go.Proofs.Ytcfgdlpdnpnhmaa
