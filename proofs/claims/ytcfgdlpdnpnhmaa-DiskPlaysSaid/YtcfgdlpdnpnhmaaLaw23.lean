/- Words for the walks of curfewlaw23's statements: where both disks lie. -/
import Derived.Test.YtcfgdlpdnpnhmaaDo3
import Derived.Test.YtcfgdlpdnpnhmaaLast
import Derived.Test.YtcfgdlpdnpnhmaaNobody23
import Derived.Deep.QuietTactic
import Derived.BigQuiet
set_option linter.unusedVariables false
set_option linter.unusedSimpArgs false
namespace Go.Proofs.Ytcfgdlpdnpnhmaa
open Go.RowKit Go.Maps

/-- The cells of the document's disk. -/
def refCells (D : Dsk) (A : Option Addr) (n c : Nat) : Array Value := #[.int .i64 D.room, .slice A n c, .bool D.down, .int .i64 D.armed, .int .u64 D.steps]
/-- A disk at blocks d, mp, mt; the document's, in a variable of its own at block g; both stand as D; all of it is newer than world w. -/
structure PlAt (w wr : World) (d mp mt g : Nat) (D : Dsk) (A : Option Addr) (n c : Nat) : Prop where
  disk : IsDisk wr d mp mt D
  box : wr.heap[g]? = some (.cells (refCells D A n c) 45 (0, 0))
  files : RFiles wr A n D.files
  cap : n ≤ c
  ok : D.Ok
  below : Below w.heap.size w wr
  hd : w.heap.size ≤ d
  hmp : w.heap.size ≤ mp
  hmt : w.heap.size ≤ mt
  hg : w.heap.size ≤ g
section
variable {w wr w' : World} {d mp mt g : Nat} {D : Dsk} {A : Option Addr} {n c : Nat}
theorem PlAt.later (h : PlAt w wr d mp mt g D A n c) (hb : Below wr.heap.size wr w') : PlAt w w' d mp mt g D A n c :=
  ⟨h.disk.below hb, (hb.block _ (blk_lt h.box)).trans h.box, h.files.below hb, h.cap, h.ok, below_next h.below hb, h.hd, h.hmp, h.hmt, h.hg⟩
theorem PlAt.cells (h : PlAt w wr d mp mt g D A n c) :
    wr.cell? ⟨g, 0, none⟩ = some (.int .i64 D.room) ∧ wr.cell? ⟨g, 1, none⟩ = some (.slice A n c) ∧ wr.cell? ⟨g, 2, none⟩ = some (.bool D.down) ∧ wr.cell? ⟨g, 3, none⟩ = some (.int .i64 D.armed) ∧ wr.cell? ⟨g, 4, none⟩ = some (.int .u64 D.steps) :=
  ⟨blk_cell h.box 0, blk_cell h.box 1, blk_cell h.box 2, blk_cell h.box 3, blk_cell h.box 4⟩
theorem PlAt.free (h : PlAt w wr d mp mt g D A n c) :
    wr.frozen? ⟨g, 0, none⟩ = false ∧ wr.frozen? ⟨g, 1, none⟩ = false ∧ wr.frozen? ⟨g, 2, none⟩ = false ∧ wr.frozen? ⟨g, 3, none⟩ = false ∧ wr.frozen? ⟨g, 4, none⟩ = false :=
  ⟨blk_frozen h.box 0, blk_frozen h.box 1, blk_frozen h.box 2, blk_frozen h.box 3, blk_frozen h.box 4⟩
theorem PlAt.ne (h : PlAt w wr d mp mt g D A n c) : g ≠ d ∧ g ≠ mp ∧ g ≠ mt := by
  refine ⟨?_, ?_, ?_⟩
  · rintro rfl
    have h1 := h.disk.blk
    rw [h.box] at h1
    simp only [Option.some.injEq, Obj.cells.injEq] at h1
    exact absurd h1.2.1 (by decide)
  · rintro rfl
    obtain ⟨es, c', hb⟩ := h.disk.mapObj
    rw [h.box] at hb
    cases hb
  · rintro rfl
    have h1 : wr.heap[g]? = _ := h.disk.met
    rw [h.box] at h1
    simp only [Option.some.injEq, Obj.cells.injEq] at h1
    exact absurd h1.2.1 (by decide)
theorem PlAt.n_le (h : PlAt w wr d mp mt g D A n c) : n = D.files.length ∧ n ≤ 128 := ⟨h.files.1.symm, by have := h.files.1; have := h.ok.many; omega⟩
theorem refCells_noStr : ∀ (j : Nat) (x : ByteArray), (refCells D A n c)[j]? ≠ some (Value.string x) :=
  fun j x => by rcases j with _ | _ | _ | _ | _ | j <;> simp [refCells]
theorem refCells_noU8 (h : PlAt w wr d mp mt g D A n c) : NoU8 wr g := .of_cells h.box (fun j x => by rcases j with _ | _ | _ | _ | _ | j <;> simp [refCells])
/-- A call has turned the disk (Left), the document's answer is stored into its variable. -/
theorem PlAt.turn (h : PlAt w wr d mp mt g D A n c) {D' : Dsk} {A' : Option Addr} {n' c' : Nat} {w2 w3 : World} (hl : Left wr d mp mt D' w2) (hf : RFiles w2 A' n' D'.files) (hc : n' ≤ c') (hok : D'.Ok) (hb : Below w2.heap.size w2 w3) :
    ∃ W', W' = ((((w3.setCell ⟨g, 0, none⟩ (.int .i64 D'.room)).setCell ⟨g, 1, none⟩ (.slice A' n' c')).setCell ⟨g, 2, none⟩ (.bool D'.down)).setCell ⟨g, 3, none⟩ (.int .i64 D'.armed)).setCell ⟨g, 4, none⟩ (.int .u64 D'.steps) ∧
      PlAt w W' d mp mt g D' A' n' c' ∧ Ext [d, mp, mt, g] wr W' := by
  obtain ⟨h1, h2, h3⟩ := h.ne
  have hbx2 := hl.ext.obj h.box (by simp; omega)
  have hbx3 := (hb.block _ (blk_lt hbx2)).trans hbx2
  obtain ⟨W', e, hx, hE, hF⟩ := res_done (by rfl) hbx3 (.int .i64 D'.room) (.slice A' n' c') (.bool D'.down) (.int .i64 D'.armed) (.int .u64 D'.steps) refCells_noStr
  have hno : ∀ k, k ∈ [g] → NoU8 w3 k := fun k hk => by rw [List.mem_singleton.1 hk]; exact .of_cells hbx3 (fun j x => by rcases j with _ | _ | _ | _ | _ | j <;> simp [refCells])
  have hd3 : IsDisk w3 d mp mt D' := hl.disk.below hb
  have hEx : Ext [d, mp, mt, g] wr W' := ((hl.ext.mono (S' := [d, mp, mt, g]) (fun k hk => Or.inl (by simp at hk ⊢; omega))).trans (Ext.of_below hb)).trans (hE.mono (fun k hk => Or.inl (by simp at hk ⊢; omega)))
  refine ⟨W', e, ⟨hd3.ext hE hno (by simp; omega) (by simp; omega) (by simp; omega), hx, hF _ _ _ (hf.below hb), hc, hok, ?_, h.hd, h.hmp, h.hmt, h.hg⟩, hEx⟩
  exact h.below.trans (hEx.below h.below.size (fun k hk => by have := h.hd; have := h.hmp; have := h.hmt; have := h.hg; simp at hk; omega))
/-- The cells that a store into the document's variable asks of. -/
theorem PlAt.open_ (h : PlAt w wr d mp mt g D A n c) {D' : Dsk} {w2 w3 : World} (hl : Left wr d mp mt D' w2) (hb : Below w2.heap.size w2 w3) :
    (w3.cell? ⟨g, 0, none⟩ = some (.int .i64 D.room) ∧ w3.cell? ⟨g, 1, none⟩ = some (.slice A n c) ∧ w3.cell? ⟨g, 2, none⟩ = some (.bool D.down) ∧ w3.cell? ⟨g, 3, none⟩ = some (.int .i64 D.armed) ∧ w3.cell? ⟨g, 4, none⟩ = some (.int .u64 D.steps)) ∧
    (w3.frozen? ⟨g, 0, none⟩ = false ∧ w3.frozen? ⟨g, 1, none⟩ = false ∧ w3.frozen? ⟨g, 2, none⟩ = false ∧ w3.frozen? ⟨g, 3, none⟩ = false ∧ w3.frozen? ⟨g, 4, none⟩ = false) := by
  obtain ⟨h1, h2, h3⟩ := h.ne
  have hbx2 := hl.ext.obj h.box (by simp; omega)
  have hbx3 := (hb.block _ (blk_lt hbx2)).trans hbx2
  exact ⟨⟨blk_cell hbx3 0, blk_cell hbx3 1, blk_cell hbx3 2, blk_cell hbx3 3, blk_cell hbx3 4⟩, blk_frozen hbx3 0, blk_frozen hbx3 1, blk_frozen hbx3 2, blk_frozen hbx3 3, blk_frozen hbx3 4⟩
end
/-- The disk behind some calls. -/
def Dsk.run (D : Dsk) (l : List Opp) : Dsk := l.foldl Dsk.doOp D
theorem Dsk.run_succ (D : Dsk) (l : List Opp) (k : Nat) (hk : k < l.length) : D.run (l.take (k + 1)) = (D.run (l.take k)).doOp (l.getD k default) := by
  unfold Dsk.run
  rw [List.take_succ_eq_append_getElem hk, List.foldl_append, List.getD_eq_getElem?_getD, List.getElem?_eq_getElem hk]
  rfl
theorem lightB_at {l : List Opp} (h : lightB l = true) {k : Nat} (hk : k < l.length) : lightOp (l.getD k default) = true := by
  simp only [lightB, Bool.and_eq_true, decide_eq_true_eq, List.all_eq_true] at h
  rw [List.getD_eq_getElem?_getD, List.getElem?_eq_getElem hk]
  exact h.1 _ (List.getElem_mem hk)
theorem lightB_len {l : List Opp} (h : lightB l = true) : l.length ≤ 200 := by
  simp only [lightB, Bool.and_eq_true, decide_eq_true_eq] at h
  exact h.2
/-- Each call's number fits. -/
theorem Ops.fits {w : World} {A : Option Addr} {n : Nat} {l : List Opp} (h : Ops w A n l) {k : Nat} (hk : k < n) : (l.getD k default).n ≤ 9223372036854775807 := by
  obtain ⟨ad, _, hc⟩ := h.2 (by omega)
  obtain ⟨cs, h1, _⟩ := hc k hk
  have h2 := h1.n
  obtain ⟨x, hx⟩ : ∃ x, x = (l.getD k default).n := ⟨_, rfl⟩
  rw [← hx] at h2 ⊢
  simp [Lit.wf, IntKind.min, IntKind.max, IntKind.bits, IntKind.signed] at h2
  omega
end Go.Proofs.Ytcfgdlpdnpnhmaa
