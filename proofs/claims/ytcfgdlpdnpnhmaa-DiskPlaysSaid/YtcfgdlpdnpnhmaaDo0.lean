/- What curfewlaw23.do leaves: words, and blocks. -/
import Derived.Test.YtcfgdlpdnpnhmaaRef10
import Derived.Test.YtcfgdlpdnpnhmaaLight
import Derived.Test.YtcfgdlpdnpnhmaaFiles23
import Derived.Test.YtcfgdlpdnpnhmaaPure4
import Derived.Deep.RegionWith
set_option linter.unusedVariables false
set_option linter.unusedSimpArgs false
namespace Go.Proofs.Ytcfgdlpdnpnhmaa
open Go.RowKit Go.Maps

/-- What do leaves: both disks stand as D'. -/
def DoGives (w : World) (d mp mt : Nat) (D : Dsk) (e : Ending) (w' : World) : Prop :=
  ∃ A n c, e = .returned (.tuple #[refV D A n c, .bool true]) ∧ RFiles w' A n D.files ∧ n ≤ c ∧ Left w d mp mt D w'
theorem Left.of_below {w w1 : World} {d mp mt : Nat} {D : Dsk} (h : IsDisk w d mp mt D) (hb : Below w.heap.size w w1) : Left w d mp mt D w1 := ⟨h.below hb, Ext.of_below hb⟩
theorem len_all {D : Dsk} (h : D.Ok) : ∀ f ∈ D.files, f.all.length ≤ 1048576 := fun f hf => by have := sum_le_mem D.files f hf; have := h.sum; omega
theorem n_le {D : Dsk} {w : World} {A : Option Addr} {n : Nat} (h : D.Ok) (hr : RFiles w A n D.files) : n ≤ 128 := by have := hr.1; have := h.many; omega
theorem blk_new2 (w : World) (X Y R : Obj) : (((w.alloc X).alloc Y).alloc R).heap[w.heap.size + 1 + 1]? = some R := by
  have := blk_new ((w.alloc X).alloc Y) R
  rw [show ((w.alloc X).alloc Y).heap.size = w.heap.size + 1 + 1 by simp] at this
  exact this
/-- The three blocks of do: the document's disk, the call, the result. -/
structure DoBlk (w : World) (g : Nat) (v0 v1 v2 v3 v4 : Value) (kd on : Int) (nm to_ tx : ByteArray) (At : Option Addr) (m ct : Nat) : Prop where
  disk : w.heap[g]? = some (.cells #[v0, v1, v2, v3, v4] 45 (0, 0))
  op : w.heap[g + 1]? = some (.cells #[.int .i64 kd, .int .i64 on, .string nm, .string to_, .string tx, .slice At m ct] 49 (0, 0))
  res : w.heap[g + 1 + 1]? = some (.cells #[.int .i64 0, .slice none 0 0, .bool false, .int .i64 0, .int .u64 0] 45 (0, 0))
section
variable {w w' : World} {g : Nat} {v0 v1 v2 v3 v4 : Value} {kd on : Int} {nm to_ tx : ByteArray} {At : Option Addr} {m ct : Nat}
theorem DoBlk.start (w : World) (v0 v1 v2 v3 v4 : Value) (kd on : Int) (nm to_ tx : ByteArray) (At : Option Addr) (m ct : Nat) :
    DoBlk (((w.alloc (.cells #[v0, v1, v2, v3, v4] 45)).alloc (.cells #[.int .i64 kd, .int .i64 on, .string nm, .string to_, .string tx, .slice At m ct] 49)).alloc (.cells #[.int .i64 0, .slice none 0 0, .bool false, .int .i64 0, .int .u64 0] 45)) w.heap.size v0 v1 v2 v3 v4 kd on nm to_ tx At m ct :=
  ⟨blk_alloc (blk_alloc (blk_new w _) _) _, blk_alloc (blk_new1 w _ _) _, blk_new2 w _ _ _⟩
theorem DoBlk.ext {S : List Nat} (h : DoBlk w g v0 v1 v2 v3 v4 kd on nm to_ tx At m ct) (e : Ext S w w') (hs : ∀ q, q ∈ S → q < g) : DoBlk w' g v0 v1 v2 v3 v4 kd on nm to_ tx At m ct :=
  ⟨e.obj h.disk (fun hm => by have := hs _ hm; omega), e.obj h.op (fun hm => by have := hs _ hm; omega), e.obj h.res (fun hm => by have := hs _ hm; omega)⟩
theorem DoBlk.below (h : DoBlk w g v0 v1 v2 v3 v4 kd on nm to_ tx At m ct) (e : Below w.heap.size w w') : DoBlk w' g v0 v1 v2 v3 v4 kd on nm to_ tx At m ct :=
  h.ext (S := []) (Ext.of_below e) (fun k hk => by cases hk)
/-- The cells that a walk reads and writes. -/
theorem DoBlk.facts (h : DoBlk w g v0 v1 v2 v3 v4 kd on nm to_ tx At m ct) :
    (w.cell? ⟨g, 0, none⟩ = some v0 ∧ w.cell? ⟨g, 1, none⟩ = some v1 ∧ w.cell? ⟨g, 2, none⟩ = some v2 ∧ w.cell? ⟨g, 3, none⟩ = some v3 ∧ w.cell? ⟨g, 4, none⟩ = some v4) ∧
    (w.frozen? ⟨g, 0, none⟩ = false ∧ w.frozen? ⟨g, 1, none⟩ = false ∧ w.frozen? ⟨g, 2, none⟩ = false ∧ w.frozen? ⟨g, 3, none⟩ = false ∧ w.frozen? ⟨g, 4, none⟩ = false) ∧
    (w.cell? ⟨g + 1, 0, none⟩ = some (.int .i64 kd) ∧ w.cell? ⟨g + 1, 1, none⟩ = some (.int .i64 on) ∧ w.cell? ⟨g + 1, 2, none⟩ = some (.string nm) ∧ w.cell? ⟨g + 1, 3, none⟩ = some (.string to_) ∧ w.cell? ⟨g + 1, 4, none⟩ = some (.string tx) ∧ w.cell? ⟨g + 1, 5, none⟩ = some (.slice At m ct)) ∧
    (w.cell? ⟨g + 1 + 1, 0, none⟩ = some (.int .i64 0) ∧ w.cell? ⟨g + 1 + 1, 1, none⟩ = some (.slice none 0 0) ∧ w.cell? ⟨g + 1 + 1, 2, none⟩ = some (.bool false) ∧ w.cell? ⟨g + 1 + 1, 3, none⟩ = some (.int .i64 0) ∧ w.cell? ⟨g + 1 + 1, 4, none⟩ = some (.int .u64 0)) ∧
    (w.frozen? ⟨g + 1 + 1, 0, none⟩ = false ∧ w.frozen? ⟨g + 1 + 1, 1, none⟩ = false ∧ w.frozen? ⟨g + 1 + 1, 2, none⟩ = false ∧ w.frozen? ⟨g + 1 + 1, 3, none⟩ = false ∧ w.frozen? ⟨g + 1 + 1, 4, none⟩ = false) :=
  ⟨⟨blk_cell h.disk 0, blk_cell h.disk 1, blk_cell h.disk 2, blk_cell h.disk 3, blk_cell h.disk 4⟩,
   ⟨blk_frozen h.disk 0, blk_frozen h.disk 1, blk_frozen h.disk 2, blk_frozen h.disk 3, blk_frozen h.disk 4⟩,
   ⟨blk_cell h.op 0, blk_cell h.op 1, blk_cell h.op 2, blk_cell h.op 3, blk_cell h.op 4, blk_cell h.op 5⟩,
   ⟨blk_cell h.res 0, blk_cell h.res 1, blk_cell h.res 2, blk_cell h.res 3, blk_cell h.res 4⟩,
   ⟨blk_frozen h.res 0, blk_frozen h.res 1, blk_frozen h.res 2, blk_frozen h.res 3, blk_frozen h.res 4⟩⟩
/-- A store of a disk's five cells into the first block. -/
theorem DoBlk.store (h : DoBlk w g v0 v1 v2 v3 v4 kd on nm to_ tx At m ct) (u0 u1 u2 u3 u4 : Value) (hs : ∀ (j : Nat) (s : ByteArray), #[v0, v1, v2, v3, v4][j]? ≠ some (Value.string s)) :
    ∃ W', W' = ((((w.setCell ⟨g, 0, none⟩ u0).setCell ⟨g, 1, none⟩ u1).setCell ⟨g, 2, none⟩ u2).setCell ⟨g, 3, none⟩ u3).setCell ⟨g, 4, none⟩ u4 ∧ DoBlk W' g u0 u1 u2 u3 u4 kd on nm to_ tx At m ct ∧ Ext [g] w W' ∧ ∀ A n l, RFiles w A n l → RFiles W' A n l := by
  obtain ⟨W', e, hx, hE, hF⟩ := res_done (by rfl) h.disk u0 u1 u2 u3 u4 hs
  exact ⟨W', e, ⟨hx, hE.obj h.op (by simp), hE.obj h.res (by simp; omega)⟩, hE, hF⟩
/-- A store of a disk's five cells into the result. -/
theorem DoBlk.done (h : DoBlk w g v0 v1 v2 v3 v4 kd on nm to_ tx At m ct) (u0 u1 u2 u3 u4 : Value) :
    ∃ W', W' = ((((w.setCell ⟨g + 1 + 1, 0, none⟩ u0).setCell ⟨g + 1 + 1, 1, none⟩ u1).setCell ⟨g + 1 + 1, 2, none⟩ u2).setCell ⟨g + 1 + 1, 3, none⟩ u3).setCell ⟨g + 1 + 1, 4, none⟩ u4 ∧
      (W'.cell? ⟨g + 1 + 1, 0, none⟩ = some u0 ∧ W'.cell? ⟨g + 1 + 1, 1, none⟩ = some u1 ∧ W'.cell? ⟨g + 1 + 1, 2, none⟩ = some u2 ∧ W'.cell? ⟨g + 1 + 1, 3, none⟩ = some u3 ∧ W'.cell? ⟨g + 1 + 1, 4, none⟩ = some u4) ∧ Ext [g + 1 + 1] w W' ∧ (∀ A n l, RFiles w A n l → RFiles W' A n l) ∧ (∀ d mp mt D, d < g → mp < g → mt < g → IsDisk w d mp mt D → IsDisk W' d mp mt D) := by
  obtain ⟨W', e, hx, hE, hF⟩ := res_done (by rfl) h.res u0 u1 u2 u3 u4 (fun j x => by rcases j with _ | _ | _ | _ | _ | j <;> simp)
  refine ⟨W', e, ⟨blk_cell hx 0, blk_cell hx 1, blk_cell hx 2, blk_cell hx 3, blk_cell hx 4⟩, hE, hF, fun d mp mt D h1 h2 h3 hD => ?_⟩
  refine hD.ext hE (fun k hk => ?_) (by simp; omega) (by simp; omega) (by simp; omega)
  rw [List.mem_singleton.1 hk]
  exact .of_cells h.res (fun j x => by rcases j with _ | _ | _ | _ | _ | j <;> simp)
end
theorem refcells_noStr (r : Int) (A : Option Addr) (n c : Nat) (b : Bool) (a : Int) (s : Int) : ∀ (j : Nat) (x : ByteArray), #[Value.int .i64 r, .slice A n c, .bool b, .int .i64 a, .int .u64 s][j]? ≠ some (Value.string x) :=
  fun j x => by rcases j with _ | _ | _ | _ | _ | j <;> simp
theorem refcells_noU8 {w : World} {g : Nat} {r a s : Int} {A : Option Addr} {n c : Nat} {b : Bool} {t : TypeId} (h : w.heap[g]? = some (.cells #[.int .i64 r, .slice A n c, .bool b, .int .i64 a, .int .u64 s] t (0, 0))) : NoU8 w g :=
  .of_cells h (fun j x => by rcases j with _ | _ | _ | _ | _ | j <;> simp)
theorem dsk_noStr {w : World} {d mp mt : Nat} {D : Dsk} (h : IsDisk w d mp mt D) {A : Option Addr} {n : Nat} {l : List File} {w' : World} {D' : Dsk} (hl : Left w d mp mt D' w') (hr : RFiles w A n l) : RFiles w' A n l := hr.ext hl.ext h.noStr
end Go.Proofs.Ytcfgdlpdnpnhmaa
