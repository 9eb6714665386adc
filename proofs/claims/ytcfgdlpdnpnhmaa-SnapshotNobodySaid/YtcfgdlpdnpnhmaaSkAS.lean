/- Contracts and words (several texts merged by wip/merge.py). Contract of snapshot.Copy. -/
import Derived.Test.YtcfgdlpdnpnhmaaSkAR
import Derived.Laws.CopyOwn
import Derived.Test.YtcfgdlpdnpnhmaaSkAK
import Derived.StillTailTactics
set_option linter.unusedVariables false
set_option linter.unusedSimpArgs false
namespace Go.Proofs.Ytcfgdlpdnpnhmaa
open Go.RowKit Go.Maps

def zvals (l : List Int) : List Value := l.map fun (x : Int) => .int .i64 x
theorem zvals_length (l : List Int) : (zvals l).length = l.length := by simp [zvals]
theorem run_mk_ints (k : Nat) (hk : k ≤ 1048576) : ∃ C : List Value, C.length = k ∧ ∀ W : World, (Instr.makeSlice 25 (.int .i64 (k : Int)) (.int .i64 (k : Int))).run Try.prog W = .ok (.slice (some ⟨W.heap.size, 0, none⟩) k k) (W.alloc (.cells C.toArray 3)) := by
  obtain ⟨i0, hi, hz0, hz1, hz2⟩ := info_parts infoI
  refine ⟨(madeCells (Value.int .i64 0).cells (k * i0.size)).toList, ?_, fun W => ?_⟩
  · rw [hz1, Nat.mul_one, Array.length_toList]
    have := size_madeCells (Value.int .i64 0).cells k
    simpa using this
  · have := run_make (P := Try.prog) W 25 3 i0 (.int .i64 0) Try.underlying25 hi hz0 .i64 .i64 k k (by omega) (Int.le_refl _) (by rw [hz2]; omega) (by omega)
    simpa using this
theorem infoI1 : (Try.prog.info? 3).map (·.size) = some 1 := by kernel_rfl
theorem splice_all (cur cs : List Value) (h : cs.length = cur.length) : splice cur 0 cs = cs := by
  unfold splice
  simp [h]
theorem Itz.of_block {w : World} {g : Nat} {l : List Int} {t : TypeId} {fr : Nat × Nat} (h : w.heap[g]? = some (.cells (zvals l).toArray t fr)) : Itz w (some ⟨g, 0, none⟩) l.length l := by
  refine ⟨rfl, fun _ => ⟨_, rfl, fun j hj => ?_⟩⟩
  rw [add0, blk_cell h, Nat.zero_add]
  simp [zvals, List.getD_eq_getElem?_getD, hj]

/-- The same, in new memory. -/
def CopyGives (w : World) (p : Q.Sn) (e : Ending) (w' : World) : Prop := ∃ v, e = .returned v ∧ SnIs w' v p ∧ SnFresh w.heap.size v ∧ Below w.heap.size w w'
/-- And in rows that may be written. -/
def CopyOwns (w : World) (p : Q.Sn) (e : Ending) (w' : World) : Prop := ∃ g A c, e = .returned (.agg #[.int .u64 p.index, .int .u64 p.term, .slice (some ⟨g, 0, none⟩) p.members.length p.members.length, .slice A p.data.length c]) ∧ w'.heap[g]? = some (.cells (zvals p.members).toArray 3 (0, 0)) ∧ w.heap.size ≤ g ∧ w'.ownsRow w.heap.size 5 1 (.slice A p.data.length c) p.data.length (vals p.data) ∧ Below w.heap.size w w'
theorem CopyOwns.gives {w : World} {p : Q.Sn} {e : Ending} {w' : World} (h : CopyOwns w p e w') : CopyGives w p e w' := by
  obtain ⟨g, A, c, h1, h2, h3, h4, h5⟩ := h
  obtain ⟨o1, o2, o3, o4⟩ := own_all h4
  exact ⟨_, h1, ⟨_, p.members.length, A, c, rfl, Itz.of_block h2, Nat.le_refl _, o1, o2⟩, ⟨_, _, _, _, _, A, _, c, rfl, fun ad e => by cases e; exact h3, fun ad e => (o4 ad e).1, o3⟩, h5⟩
set_option maxRecDepth 100000 in
set_option maxHeartbeats 4000000 in
theorem sncopy_owns (i t : Nat) (Am : Option Addr) (nm cm : Nat) (Ad : Option Addr) (nd cd : Nat) (ms : List Int) (ds : Bs) (w : World) (hI : Itz w Am nm ms) (hmc : nm ≤ cm) (hD : Bts w Ad nd ds) (hdc : nd ≤ cd) (hAd : Ad = none → cd = 0) (hnm : nm ≤ 1048576) (hnd : nd ≤ 140737488355328) :
    Calls Try.prog 25 #[.agg #[.int .u64 i, .int .u64 t, .slice Am nm cm, .slice Ad nd cd]] w (CopyOwns w ⟨i, t, ms, ds⟩) := by
  obtain ⟨C, hC, hmk⟩ := run_mk_ints nm hnm
  obtain ⟨w2, hw2⟩ : ∃ w2, w2 = (w.alloc (.cells #[.int .u64 (i : Int), .int .u64 (t : Int), .slice Am nm cm, .slice Ad nd cd] 27)).alloc (.cells #[.int .u64 0, .int .u64 0, .slice none 0 0, .slice none 0 0] 27) := ⟨_, rfl⟩
  have hb2 : Below w.heap.size w w2 := by rw [hw2]; exact below2 w _ _
  have hs2 : w2.heap.size = w.heap.size + 2 := by rw [hw2]; simp
  have hx1 : w2.heap[w.heap.size]? = some (.cells #[.int .u64 (i : Int), .int .u64 (t : Int), .slice Am nm cm, .slice Ad nd cd] 27 (0, 0)) := by rw [hw2]; exact blk_alloc (blk_new w _) _
  have hx2 : w2.heap[w.heap.size + 1]? = some (.cells #[.int .u64 0, .int .u64 0, .slice none 0 0, .slice none 0 0] 27 (0, 0)) := by rw [hw2]; exact blk_new1 w _ _
  have a2 := blk_cell hx1 2
  obtain ⟨w3, hw3⟩ : ∃ w3, w3 = w2.alloc (.cells C.toArray 3) := ⟨_, rfl⟩
  have hb3 : Below w.heap.size w w3 := by rw [hw3]; exact hb2.trans ((al1 w2 _).mono hb2.size)
  have hg3 : w3.heap[w2.heap.size]? = some (.cells C.toArray 3 (0, 0)) := by rw [hw3]; exact blk_new _ _
  have hy1 : w3.heap[w.heap.size]? = some (.cells #[.int .u64 (i : Int), .int .u64 (t : Int), .slice Am nm cm, .slice Ad nd cd] 27 (0, 0)) := by rw [hw3]; exact blk_alloc hx1 _
  have hy2 : w3.heap[w.heap.size + 1]? = some (.cells #[.int .u64 0, .int .u64 0, .slice none 0 0, .slice none 0 0] 27 (0, 0)) := by rw [hw3]; exact blk_alloc hx2 _
  have hml := hI.1
  have hcs : (zvals ms).length = Nat.min nm nm := by rw [zvals_length, hml]; simp
  have hpos : 0 < (zvals ms).length → (some (⟨w2.heap.size, 0, none⟩ : Addr)) = some ⟨w2.heap.size, 0, none⟩ ∧ ∃ ad, Am = some ad ∧ ∀ j v, (zvals ms)[j]? = some v → w3.cell? (ad.add j) = some v := fun h => by
    refine ⟨rfl, ?_⟩
    rw [zvals_length, hml] at h
    obtain ⟨ad, e, hc⟩ := (hI.below hb3).2 h
    refine ⟨ad, e, fun j v hv => ?_⟩
    have hj : j < ms.length := by
      rcases Nat.lt_or_ge j ms.length with h1 | h1
      · exact h1
      · rw [List.getElem?_eq_none (by rw [zvals_length]; exact h1)] at hv; cases hv
    rw [hc j (by omega), ← hv]
    simp [zvals, List.getD_eq_getElem?_getD, hj]
  have hone : ∀ v ∈ zvals ms, v.oneCell' = true := by
    intro v hv
    simp only [zvals, List.mem_map] at hv
    obtain ⟨x, _, rfl⟩ := hv
    rfl
  have Hpos := Lib.hid hpos
  have Hone := Lib.hid hone
  have Hcs := Lib.hid hcs
  have Hw2 := Lib.hid hw2
  have Hw3 := Lib.hid hw3
  have Hb3 := Lib.hid hb3
  have Hg3 := Lib.hid hg3
  have Hy1 := Lib.hid hy1
  have Hy2 := Lib.hid hy2
  have HD := Lib.hid hD
  have HC := Lib.hid hC
  have HI := Lib.hid hI
  have Hs2 := Lib.hid hs2
  have hlt2 : w.heap.size + 1 < w2.heap.size := by omega
  have Hdl := Lib.hid hD.1
  have Hml := Lib.hid hml
  have HAd := Lib.hid hAd
  clear hpos hone hcs hw2 hw3 hb3 hg3 hy1 hy2 hx1 hx2 hD hC hI hs2 hb2 hml hAd
  go_enter Try.func25, Try.ntmps25
  go_upto_region 1 with (fail)
  rw [← Hw2.out]
  go_upto_region 2 with (fail)
  rw [← Hw3.out]
  have b2 := blk_cell Hy1.out 2
  have b3 := blk_cell Hy1.out 3
  have hfit : 0 + (zvals ms).length ≤ C.length := by rw [Hcs.out, HC.out]; simp
  have hspl : splice C 0 (zvals ms) = zvals ms := splice_all C (zvals ms) (by rw [Hcs.out, HC.out]; simp)
  have Hspl := Lib.hid hspl
  clear hspl
  go_upto_region 3 with (with_reducible refine wpList_copy_splice rfl (.tmp 8) (.tmp 10) 25 25 rfl 3 Try.underlying25 infoI1 (some ⟨w2.heap.size, 0, none⟩) Am nm nm nm cm rfl rfl w2.heap.size 0 C 3 Hg3.out (zvals ms) Hcs.out Hpos.out hfit Hone.out w2.heap.size w3 (Below.refl _ _) (Nat.le_refl _) ?_; intro w4 hg4 hb4)
  rw [Hspl.out] at hg4
  have hs3 : w2.heap.size < w3.heap.size := blk_lt Hg3.out
  have hy14 := (hb4.block w.heap.size (by omega)).trans Hy1.out
  have hy24 := (hb4.block (w.heap.size + 1) (by omega)).trans Hy2.out
  have hb04 : Below w.heap.size w w4 := Hb3.out.trans (hb4.mono (by omega))
  have Hy14 := Lib.hid hy14
  have Hy24 := Lib.hid hy24
  have Hb04 := Lib.hid hb04
  have Hb4 := Lib.hid hb4
  clear b2 b3 a2
  have b3 := blk_cell hy14 3
  clear hy14 hy24 hb04 hb4
  have hs4 : w.heap.size + 1 < w4.heap.size := by have := Hb4.out.size; omega
  go_upto_region 4 with (go_at_call 80; refine (clone_calls Ad nd cd ds w4 (HD.out.below Hb04.out) hnd HAd.out).mono ?_; rintro e w5 ⟨A5, c5, rfl, hown5, hb5⟩; have hy15 := (hb5.block _ (blk_lt Hy14.out)).trans Hy14.out; have d2 := blk_cell hy15 2; have d3 := blk_cell hy15 3; have f2 := blk_frozen hy15 2; have f3 := blk_frozen hy15 3)
  obtain ⟨w6, hw6⟩ : ∃ w6, w6 = (w5.setCell ⟨w.heap.size, 2, none⟩ (.slice (some ⟨w2.heap.size, 0, none⟩) nm nm)).setCell ⟨w.heap.size, 3, none⟩ (.slice A5 nd c5) := ⟨_, rfl⟩
  rw [← hw6]
  have hE6 : Ext [w.heap.size] w5 w6 := by rw [hw6]; exact ((Ext.refl _ _).setCell (Or.inl (by simp)) _).setCell (Or.inl (by simp)) _
  have hx6 : w6.heap[w.heap.size]? = some (.cells #[.int .u64 (i : Int), .int .u64 (t : Int), .slice (some ⟨w2.heap.size, 0, none⟩) nm nm, .slice A5 nd c5] 27 (0, 0)) := by rw [hw6]; exact blk_set (blk_set hy15 2 _) 3 _
  have hy25 := (hb5.block _ (blk_lt Hy24.out)).trans Hy24.out
  have hy26 := hE6.obj hy25 (by simp)
  have hg5 := (hb5.block _ (blk_lt hg4)).trans hg4
  have hg6 := hE6.obj hg5 (by simp; omega)
  obtain ⟨o1, o2, o3, o4⟩ := own_all hown5
  have hnu : ∀ q, q ∈ [w.heap.size] → NoU8 w5 q := fun q hq => by rw [List.mem_singleton.1 hq]; exact .of_cells hy15 (fun j x => by rcases j with _ | _ | _ | _ | j <;> simp)
  have o16 := o1.ext hE6 hnu
  have x0 := blk_cell hx6 0
  have x1 := blk_cell hx6 1
  have x2 := blk_cell hx6 2
  have x3 := blk_cell hx6 3
  have r0 := blk_cell hy26 0
  have r1 := blk_cell hy26 1
  have r2 := blk_cell hy26 2
  have r3 := blk_cell hy26 3
  have z0 := blk_frozen hy26 0
  have z1 := blk_frozen hy26 1
  have z2 := blk_frozen hy26 2
  have z3 := blk_frozen hy26 3
  obtain ⟨w7, hw7⟩ : ∃ w7, w7 = (((w6.setCell ⟨w.heap.size + 1, 0, none⟩ (.int .u64 (i : Int))).setCell ⟨w.heap.size + 1, 1, none⟩ (.int .u64 (t : Int))).setCell ⟨w.heap.size + 1, 2, none⟩ (.slice (some ⟨w2.heap.size, 0, none⟩) nm nm)).setCell ⟨w.heap.size + 1, 3, none⟩ (.slice A5 nd c5) := ⟨_, rfl⟩
  have hE7 : Ext [w.heap.size + 1] w6 w7 := by rw [hw7]; exact ((((Ext.refl _ _).setCell (Or.inl (by simp)) _).setCell (Or.inl (by simp)) _).setCell (Or.inl (by simp)) _).setCell (Or.inl (by simp)) _
  have hx7 : w7.heap[w.heap.size + 1]? = some (.cells #[.int .u64 (i : Int), .int .u64 (t : Int), .slice (some ⟨w2.heap.size, 0, none⟩) nm nm, .slice A5 nd c5] 27 (0, 0)) := by rw [hw7]; exact blk_set (blk_set (blk_set (blk_set hy26 0 _) 1 _) 2 _) 3 _
  have hnu7 : ∀ q, q ∈ [w.heap.size + 1] → NoU8 w6 q := fun q hq => by rw [List.mem_singleton.1 hq]; exact .of_cells hy26 (fun j x => by rcases j with _ | _ | _ | _ | j <;> simp)
  have o17 := (hown5.kept_ext hE6 (fun q hq => by rw [List.mem_singleton.1 hq]; omega)).kept_ext hE7 (fun q hq => by rw [List.mem_singleton.1 hq]; omega)
  have o18 := own_base (base' := w.heap.size) o17 (by omega)
  have hg7 := hE7.obj hg6 (by simp; omega)
  have hb07 : Below w.heap.size w w7 := by
    have e5 : Below w.heap.size w w5 := Hb04.out.trans (hb5.mono Hb04.out.size)
    have e6 : Below w.heap.size w w6 := e5.trans (hE6.below (B := w.heap.size) e5.size (fun q hq => by rw [List.mem_singleton.1 hq]; exact Nat.le_refl _))
    exact e6.trans (hE7.below (B := w.heap.size) e6.size (fun q hq => by rw [List.mem_singleton.1 hq]; omega))
  have y0 := blk_cell hx7 0
  have y1 := blk_cell hx7 1
  have y2 := blk_cell hx7 2
  have y3 := blk_cell hx7 3
  have Hw7 := Lib.hid hw7
  have Hits := Lib.hid hg7
  have Ho17 := Lib.hid o18
  have Hb07 := Lib.hid hb07
  have Ho4 := Lib.hid o4
  have Ho3 := Lib.hid o3
  have Hb04s : w.heap.size ≤ w4.heap.size := by omega
  clear hw6 hE6 hx6 hy25 hy26 hg5 hg6 hnu o16 hw7 hE7 hx7 hnu7 o17 o18 hg7 hb07 o1 o3 o4 hown5 hb5 hy15 d2 d3 f2 f3 b3 hg4
  go_wp2_with fail
  rw [← Hw7.out]
  refine bodyPost_ret (v := .agg #[.int .u64 (i : Int), .int .u64 (t : Int), .slice (some ⟨w2.heap.size, 0, none⟩) nm nm, .slice A5 nd c5]) (by simp [results, Try.results25, go_sem, y0, y1, y2, y3]) rfl ?_
  refine ⟨w2.heap.size, A5, c5, ?_, Hits.out, by omega, ?_, Hb07.out⟩
  · show _ = Ending.returned (Value.agg #[.int .u64 (i : Int), .int .u64 (t : Int), .slice (some ⟨w2.heap.size, 0, none⟩) ms.length ms.length, .slice A5 ds.length c5])
    rw [Hml.out, Hdl.out]
  · show w7.ownsRow w.heap.size _ 1 (.slice A5 ds.length c5) ds.length (vals ds)
    rw [Hdl.out]; exact Ho17.out

theorem sncopy_calls (i t : Nat) (Am : Option Addr) (nm cm : Nat) (Ad : Option Addr) (nd cd : Nat) (ms : List Int) (ds : Bs) (w : World) (hI : Itz w Am nm ms) (hmc : nm ≤ cm) (hD : Bts w Ad nd ds) (hdc : nd ≤ cd) (hAd : Ad = none → cd = 0) (hnm : nm ≤ 1048576) (hnd : nd ≤ 140737488355328) :
    Calls Try.prog 25 #[.agg #[.int .u64 i, .int .u64 t, .slice Am nm cm, .slice Ad nd cd]] w (CopyGives w ⟨i, t, ms, ds⟩) :=
  (sncopy_owns i t Am nm cm Ad nd cd ms ds w hI hmc hD hdc hAd hnm hnd).mono fun _ _ h => h.gives
end Go.Proofs.Ytcfgdlpdnpnhmaa
set_option linter.unusedVariables false
set_option linter.unusedSimpArgs false
namespace Go.Proofs.Ytcfgdlpdnpnhmaa
open Go.RowKit Go.Maps

/-- Block t is a store of the disk d, that has S. -/
structure IsStore (w : World) (t d mp mt : Nat) (S : Q.Sn) : Prop where
  at_ : ∃ Am cm Ad cd, w.heap[t]? = some (.cells #[.pointer (some ⟨d, 0, none⟩), .int .u64 (S.index : Int), .int .u64 (S.term : Int), .slice Am S.members.length cm, .slice Ad S.data.length cd] 99 (0, 0)) ∧
    Itz w Am S.members.length S.members ∧ S.members.length ≤ cm ∧ Bts w Ad S.data.length S.data ∧ S.data.length ≤ cd ∧ (Ad = none → cd = 0) ∧ (∀ ad, Am = some ad → ad.block ≠ d ∧ ad.block ≠ mp ∧ ad.block ≠ mt ∧ ad.block ≠ t)
  ned : t ≠ d
  nem : t ≠ mp
  net : t ≠ mt
theorem IsStore.lt {w : World} {t d mp mt : Nat} {S : Q.Sn} (h : IsStore w t d mp mt S) : t < w.heap.size := by
  obtain ⟨_, _, _, _, hb, _⟩ := h.at_; exact blk_lt hb
theorem IsStore.noU8 {w : World} {t d mp mt : Nat} {S : Q.Sn} (h : IsStore w t d mp mt S) : NoU8 w t := by
  obtain ⟨_, _, _, _, hb, _⟩ := h.at_
  exact .of_cells hb (fun j x => by rcases j with _ | _ | _ | _ | _ | j <;> simp)
/-- A snapshot's rows stay where none of the blocks that are written is theirs. -/
theorem Itz.away {S : List Nat} {w w' : World} {A : Option Addr} {n : Nat} {l : List Int} (h : Itz w A n l) (e : Ext S w w') (hs : ∀ ad, A = some ad → ad.block ∉ S) : Itz w' A n l := by
  refine ⟨h.1, fun hn => ?_⟩
  obtain ⟨ad, ea, hc⟩ := h.2 hn
  refine ⟨ad, ea, fun j hj => ?_⟩
  have hcj := hc j hj
  have hlt := World.block_lt_of_cell? w _ hcj
  rw [e.cell hlt (by rw [block_of_add]; exact hs ad ea)]
  exact hcj
theorem Itz.away2 {S : List Nat} {w w' : World} {A : Option Addr} {n : Nat} {l : List Int} (h : Itz w A n l) (e : Ext S w w') (hs : 0 < n → ∀ ad, A = some ad → ad.block ∉ S) : Itz w' A n l := by
  by_cases hn : 0 < n
  · exact h.away e (hs hn)
  · exact ⟨h.1, fun c => absurd c hn⟩
theorem IsStore.left {w w' : World} {t d mp mt : Nat} {S : Q.Sn} {D : Dsk} (h : IsStore w t d mp mt S) (hd : IsDisk w d mp mt D) (e : Ext [d, mp, mt] w w') : IsStore w' t d mp mt S := by
  obtain ⟨Am, cm, Ad, cd, hb, h1, h2, h3, h4, h5, h6⟩ := h.at_
  refine ⟨⟨Am, cm, Ad, cd, e.obj hb (by simp [h.ned, h.nem, h.net]), h1.away e (fun ad q => ?_), h2, h3.ext e hd.no, h4, h5, h6⟩, h.ned, h.nem, h.net⟩
  obtain ⟨a, b, c, _⟩ := h6 ad q
  simp [a, b, c]
theorem IsStore.below {w w' : World} {t d mp mt : Nat} {S : Q.Sn} (h : IsStore w t d mp mt S) (e : Below w.heap.size w w') : IsStore w' t d mp mt S := by
  obtain ⟨Am, cm, Ad, cd, hb, h1, h2, h3, h4, h5, h6⟩ := h.at_
  exact ⟨⟨Am, cm, Ad, cd, (e.block _ (blk_lt hb)).trans hb, h1.below e, h2, h3.below e, h4, h5, h6⟩, h.ned, h.nem, h.net⟩

theorem snone_calls (t d mp mt : Nat) (S : Q.Sn) (w : World) (h : IsStore w t d mp mt S) :
    Calls Try.prog 108 #[.pointer (some ⟨t, 0, none⟩)] w fun e w' => e = .returned (.bool false) ∧ w = w' := by
  obtain ⟨Am, cm, Ad, cd, hb, _⟩ := h.at_
  have c0 := blk_cell hb 0
  clear h hb
  go_enter Try.func108, Try.ntmps108
  go_wp2
  go_ret
  exact ⟨rfl, rfl⟩
theorem snapW_eq : ({ data := #[115, 110, 97, 112, 46, 110, 101, 119] } : ByteArray).data.toList = Q.snapW := rfl
theorem snapN_eq : ({ data := #[115, 110, 97, 112] } : ByteArray).data.toList = Q.snapN := rfl
/-- A store, of whatever it has. -/
def StoreOf (w : World) (t d : Nat) : Prop := ∃ a b c e, w.heap[t]? = some (.cells #[.pointer (some ⟨d, 0, none⟩), a, b, c, e] 99 (0, 0))
theorem IsStore.of {w : World} {t d mp mt : Nat} {S : Q.Sn} (h : IsStore w t d mp mt S) : StoreOf w t d := by
  obtain ⟨Am, cm, Ad, cd, hb, _⟩ := h.at_
  exact ⟨_, _, _, _, hb⟩
theorem sgone_calls (t d mp mt : Nat) (D : Dsk) (w : World) (h : StoreOf w t d) (hd : IsDisk w d mp mt D) (hok : D.Ok) (hst : D.steps < 4611686018427387904) :
    Calls Try.prog 109 #[.pointer (some ⟨t, 0, none⟩)] w fun e w' => e = .returned (.int .i64 (Q.gone D Q.snapW).2) ∧ Left w d mp mt (Q.gone D Q.snapW).1 w' := by
  obtain ⟨a, b, c, e, hb⟩ := h
  have c0 := blk_cell hb 0
  have hrm := remove_calls d mp mt D { data := #[115, 110, 97, 112, 46, 110, 101, 119] } w hd (by decide) hst hok.armed0 hok.armed1
  rw [snapW_eq] at hrm
  have he := Q.remove_err D Q.snapW
  unfold Q.gone
  generalize D.remove Q.snapW = r at *
  obtain ⟨E, c⟩ := r
  dsimp only at hrm he ⊢
  have Hrm := Lib.hid hrm
  clear hb hrm hd
  rcases he with rfl | rfl | rfl
  · rw [if_neg (by decide)]
    go_enter Try.func109, Try.ntmps109
    go_wp2_with (go_at_call 44; refine Hrm.out.mono ?_; rintro e w1 ⟨rfl, hL⟩)
    go_ret
    exact ⟨rfl, hL⟩
  · rw [if_pos rfl]
    go_enter Try.func109, Try.ntmps109
    go_wp2_with (go_at_call 44; refine Hrm.out.mono ?_; rintro e w1 ⟨rfl, hL⟩)
    go_ret
    exact ⟨rfl, hL⟩
  · rw [if_neg (by decide)]
    go_enter Try.func109, Try.ntmps109
    go_wp2_with (go_at_call 44; refine Hrm.out.mono ?_; rintro e w1 ⟨rfl, hL⟩)
    go_ret
    exact ⟨rfl, hL⟩

def GetNo (w : World) (e : Ending) (w' : World) : Prop := e = .returned (.tuple #[.agg #[.int .u64 0, .int .u64 0, .slice none 0 0, .slice none 0 0], .bool false]) ∧ Below w.heap.size w w'
def GetYes (w : World) (S : Q.Sn) (e : Ending) (w' : World) : Prop := ∃ v, e = .returned (.tuple #[v, .bool true]) ∧ SnIs w' v S ∧ SnFresh w.heap.size v ∧ Below w.heap.size w w'
def zsnap : Obj := .cells #[.int .u64 0, .int .u64 0, .slice none 0 0, .slice none 0 0] 27
set_option maxRecDepth 100000 in
set_option maxHeartbeats 1000000 in
theorem sget_no (t d mp mt : Nat) (S : Q.Sn) (w : World) (h : IsStore w t d mp mt S) (h0 : S.index = 0) :
    Calls Try.prog 57 #[.pointer (some ⟨t, 0, none⟩)] w (GetNo w) := by
  obtain ⟨w1, hw1⟩ : ∃ w1, w1 = w.alloc (.cells #[.int .u64 0, .int .u64 0, .slice none 0 0, .slice none 0 0] 27) := ⟨_, rfl⟩
  have hb1 : Below w.heap.size w w1 := by rw [hw1]; exact al1 _ _
  have hr1 : w1.heap[w.heap.size]? = some (.cells #[.int .u64 0, .int .u64 0, .slice none 0 0, .slice none 0 0] 27 (0, 0)) := by rw [hw1]; exact blk_new _ _
  have h1 := h.below hb1
  have Hn := Lib.hid (snone_calls t d mp mt S w1 h1)
  obtain ⟨Am, cm, Ad, cd, hb, _⟩ := h1.at_
  rw [h0] at hb
  have c1 : w1.cell? ⟨t, 1, none⟩ = some (.int .u64 0) := blk_cell hb 1
  obtain ⟨w2, hw2⟩ : ∃ w2, w2 = (((w1.setCell ⟨w.heap.size, 0, none⟩ (.int .u64 0)).setCell ⟨w.heap.size, 1, none⟩ (.int .u64 0)).setCell ⟨w.heap.size, 2, none⟩ (.slice none 0 0)).setCell ⟨w.heap.size, 3, none⟩ (.slice none 0 0) := ⟨_, rfl⟩
  have hx2 : w2.heap[w.heap.size]? = some (.cells #[.int .u64 0, .int .u64 0, .slice none 0 0, .slice none 0 0] 27 (0, 0)) := by rw [hw2]; exact blk_set (blk_set (blk_set (blk_set hr1 0 _) 1 _) 2 _) 3 _
  have hE2 : Ext [w.heap.size] w1 w2 := by rw [hw2]; exact ((((Ext.refl _ _).setCell (Or.inl (by simp)) _).setCell (Or.inl (by simp)) _).setCell (Or.inl (by simp)) _).setCell (Or.inl (by simp)) _
  have r0 := blk_cell hr1 0
  have r1 := blk_cell hr1 1
  have r2 := blk_cell hr1 2
  have r3 := blk_cell hr1 3
  have z0 := blk_frozen hr1 0
  have z1 := blk_frozen hr1 1
  have z2 := blk_frozen hr1 2
  have z3 := blk_frozen hr1 3
  have y0 := blk_cell hx2 0
  have y1 := blk_cell hx2 1
  have y2 := blk_cell hx2 2
  have y3 := blk_cell hx2 3
  have Hw1 := Lib.hid hw1
  have Hw2 := Lib.hid hw2
  have hbel := hb1.trans (hE2.below (B := w.heap.size) hb1.size (fun q hq => by rw [List.mem_singleton.1 hq]; exact Nat.le_refl _))
  have Hbel := Lib.hid hbel
  clear hw1 hb1 hr1 h1 hb hw2 hx2 hE2 hbel h h0
  go_enter Try.func57, Try.ntmps57
  go_upto_region 1 with (fail)
  rw [← Hw1.out]
  go_wp2_with (go_at_call 108; refine Hn.out.mono ?_; rintro e w' ⟨rfl, rfl⟩)
  rw [← Hw2.out]
  refine bodyPost_ret (v := .tuple #[.agg #[.int .u64 0, .int .u64 0, .slice none 0 0, .slice none 0 0], .bool false]) (by simp [results, Try.results57, go_sem, y0, y1, y2, y3]) rfl ?_
  exact ⟨rfl, Hbel.out⟩
set_option maxRecDepth 100000 in
set_option maxHeartbeats 1000000 in
theorem sget_yes (t d mp mt : Nat) (S : Q.Sn) (w : World) (h : IsStore w t d mp mt S) (h0 : S.index ≠ 0) (hm : S.members.length ≤ 1048576) (hd : S.data.length ≤ 140737488355328) :
    Calls Try.prog 57 #[.pointer (some ⟨t, 0, none⟩)] w (GetYes w S) := by
  obtain ⟨w1, hw1⟩ : ∃ w1, w1 = w.alloc (.cells #[.int .u64 0, .int .u64 0, .slice none 0 0, .slice none 0 0] 27) := ⟨_, rfl⟩
  have hb1 : Below w.heap.size w w1 := by rw [hw1]; exact al1 _ _
  have hr1 : w1.heap[w.heap.size]? = some (.cells #[.int .u64 0, .int .u64 0, .slice none 0 0, .slice none 0 0] 27 (0, 0)) := by rw [hw1]; exact blk_new _ _
  have h1 := h.below hb1
  have Hn := Lib.hid (snone_calls t d mp mt S w1 h1)
  obtain ⟨i, tm, ms, ds⟩ := S
  obtain ⟨Am, cm, Ad, cd, hb, q1, q2, q3, q4, q5, _⟩ := h1.at_
  dsimp only at hb q1 q2 q3 q4 q5 h0 hm hd
  have Hcp := Lib.hid (sncopy_calls i tm Am ms.length cm Ad ds.length cd ms ds w1 q1 q2 q3 q4 q5 hm hd)
  have g0 : ((i : Int) == 0) = false := beq_eq_false_iff_ne.2 (by omega)
  obtain ⟨nm, hnm⟩ : ∃ n, n = ms.length := ⟨_, rfl⟩
  obtain ⟨nd, hnd⟩ : ∃ n, n = ds.length := ⟨_, rfl⟩
  rw [← hnm, ← hnd] at hb Hcp
  have c1 := blk_cell hb 1
  have c2 := blk_cell hb 2
  have c3 := blk_cell hb 3
  have c4 := blk_cell hb 4
  have Hw1 := Lib.hid hw1
  have Hb1 := Lib.hid hb1
  have Hr1 := Lib.hid hr1
  clear hw1 hb1 hr1 h1 hb h h0 q1 q2 q3 q4 q5 hnm hnd
  go_enter Try.func57, Try.ntmps57
  go_upto_region 1 with (fail)
  rw [← Hw1.out]
  go_wp2_with (first
    | (go_at_call 108; refine Hn.out.mono ?_; rintro e w' ⟨rfl, rfl⟩)
    | (go_at_call 25; refine Hcp.out.mono ?_; rintro e w2 ⟨v, rfl, hsn, hfr, hb2⟩; obtain ⟨A2, cm2, B2, cd2, rfl, s1, s2, s3, s4⟩ := hsn; dsimp only at s1 s2 s3 s4; dsimp only; have hrr := (hb2.block _ (blk_lt Hr1.out)).trans Hr1.out; have r0 := blk_cell hrr 0; have r1 := blk_cell hrr 1; have r2 := blk_cell hrr 2; have r3 := blk_cell hrr 3; have z0 := blk_frozen hrr 0; have z1 := blk_frozen hrr 1; have z2 := blk_frozen hrr 2; have z3 := blk_frozen hrr 3))
  have hsz : w.heap.size ≤ w1.heap.size := Hb1.out.size
  have hE : Ext [w.heap.size] w2 ((((w2.setCell ⟨w.heap.size, 0, none⟩ (.int .u64 (i : Int))).setCell ⟨w.heap.size, 1, none⟩ (.int .u64 (tm : Int))).setCell ⟨w.heap.size, 2, none⟩ (.slice A2 ms.length cm2)).setCell ⟨w.heap.size, 3, none⟩ (.slice B2 ds.length cd2)) := ((((Ext.refl _ _).setCell (Or.inl (by simp)) _).setCell (Or.inl (by simp)) _).setCell (Or.inl (by simp)) _).setCell (Or.inl (by simp)) _
  have hx : ((((w2.setCell ⟨w.heap.size, 0, none⟩ (.int .u64 (i : Int))).setCell ⟨w.heap.size, 1, none⟩ (.int .u64 (tm : Int))).setCell ⟨w.heap.size, 2, none⟩ (.slice A2 ms.length cm2)).setCell ⟨w.heap.size, 3, none⟩ (.slice B2 ds.length cd2)).heap[w.heap.size]? = some (.cells #[.int .u64 (i : Int), .int .u64 (tm : Int), .slice A2 ms.length cm2, .slice B2 ds.length cd2] 27 (0, 0)) := blk_set (blk_set (blk_set (blk_set hrr 0 _) 1 _) 2 _) 3 _
  obtain ⟨w3, hw3⟩ : ∃ w3, w3 = (((w2.setCell ⟨w.heap.size, 0, none⟩ (.int .u64 (i : Int))).setCell ⟨w.heap.size, 1, none⟩ (.int .u64 (tm : Int))).setCell ⟨w.heap.size, 2, none⟩ (.slice A2 ms.length cm2)).setCell ⟨w.heap.size, 3, none⟩ (.slice B2 ds.length cd2) := ⟨_, rfl⟩
  rw [← hw3] at hE hx ⊢
  have y0 := blk_cell hx 0
  have y1 := blk_cell hx 1
  have y2 := blk_cell hx 2
  have y3 := blk_cell hx 3
  refine bodyPost_ret (v := .tuple #[.agg #[.int .u64 (i : Int), .int .u64 (tm : Int), .slice A2 ms.length cm2, .slice B2 ds.length cd2], .bool true]) (by simp [results, Try.results57, go_sem, y0, y1, y2, y3]) rfl ?_
  have hnu : ∀ q, q ∈ [w.heap.size] → NoU8 w2 q := fun q hq => by rw [List.mem_singleton.1 hq]; exact .of_cells hrr (fun j x => by rcases j with _ | _ | _ | _ | j <;> simp)
  have hni : ∀ q, q ∈ [w.heap.size] → NoI64 w2 q := fun q hq => by rw [List.mem_singleton.1 hq]; exact .of_cells hrr (fun j x => by rcases j with _ | _ | _ | _ | j <;> simp)
  have e2 : Below w.heap.size w w2 := Hb1.out.trans (hb2.mono hsz)
  exact ⟨_, rfl, ⟨A2, cm2, B2, cd2, rfl, s1.ext hE hni, s2, s3.ext hE hnu, s4⟩, hfr.mono hsz, e2.trans (hE.below (B := w.heap.size) e2.size (fun q hq => by rw [List.mem_singleton.1 hq]; exact Nat.le_refl _))⟩
end Go.Proofs.Ytcfgdlpdnpnhmaa
set_option linter.unusedVariables false
set_option linter.unusedSimpArgs false
namespace Go.Proofs.Ytcfgdlpdnpnhmaa
open Go.RowKit Go.Maps

set_option maxRecDepth 100000 in
set_option maxHeartbeats 1000000 in
theorem save1_calls (bt bb t d mp mt : Nat) (D : Dsk) (A : Option Addr) (n c : Nat) (l : Bs) (w : World) (ht : w.heap[bt]? = some (.cells #[.pointer (some ⟨t, 0, none⟩)] 97 (0, 0))) (hb : w.heap[bb]? = some (.cells #[.slice A n c] 22 (0, 0)))
    (hs : StoreOf w t d) (hd : IsDisk w d mp mt D) (hB : Bts w A n l) (hn : n ≤ 9223372036854775807) (hok : D.Ok) (hst : D.steps < 4611686018427387904) :
    Calls Try.prog 110 #[.pointer (some ⟨bt, 0, none⟩), .pointer (some ⟨bb, 0, none⟩)] w fun e w' => e = .returned (.int .i64 (D.append Q.snapW l).2) ∧ Left w d mp mt (D.append Q.snapW l).1 w' := by
  obtain ⟨x1, x2, x3, x4, hx⟩ := hs
  have c0 := blk_cell ht 0
  have c1 := blk_cell hb 0
  have c2 := blk_cell hx 0
  have happ := append_calls d mp mt D { data := #[115, 110, 97, 112, 46, 110, 101, 119] } A n c l w.drew hd.drew (by decide) (hB.below (Below.refl _ _).drew) hn hok hst
  rw [snapW_eq] at happ
  have Happ := Lib.hid happ
  clear ht hb hx hd hB happ
  go_enter Try.func110, Try.ntmps110
  go_upto_region 1 with (fail)
  go_still_tail 5, (by kernel_rfl)
  change wpList _ _ _ _ _ w.drew
  go_wp2_with (go_at_call 41; refine Happ.out.mono ?_; rintro e w2 ⟨rfl, hL⟩)
  go_ret
  exact ⟨rfl, hL.disk, (Ext.refl _ _).drew.trans hL.ext⟩
set_option maxRecDepth 100000 in
theorem save2_calls (bt t d mp mt : Nat) (D : Dsk) (w : World) (ht : w.heap[bt]? = some (.cells #[.pointer (some ⟨t, 0, none⟩)] 97 (0, 0)))
    (hs : StoreOf w t d) (hd : IsDisk w d mp mt D) (hok : D.Ok) (hst : D.steps < 4611686018427387904) :
    Calls Try.prog 111 #[.pointer (some ⟨bt, 0, none⟩)] w fun e w' => e = .returned (.int .i64 (D.sync Q.snapW).2) ∧ Left w d mp mt (D.sync Q.snapW).1 w' := by
  obtain ⟨x1, x2, x3, x4, hx⟩ := hs
  have c0 := blk_cell ht 0
  have c2 := blk_cell hx 0
  have happ := sync_calls d mp mt D { data := #[115, 110, 97, 112, 46, 110, 101, 119] } w hd (by decide) hst hok.armed0 hok.armed1 (by have := hok.many; omega) (fun f hf => Nat.le_trans (sum_le_mem _ f hf) hok.sum)
  rw [snapW_eq] at happ
  have Happ := Lib.hid happ
  clear ht hx hd happ
  go_enter Try.func111, Try.ntmps111
  go_wp2_with (go_at_call 42; refine Happ.out.mono ?_; rintro e w2 ⟨rfl, hL⟩)
  go_ret
  exact ⟨rfl, hL⟩
set_option maxRecDepth 100000 in
theorem save3_calls (bt t d mp mt : Nat) (D : Dsk) (w : World) (ht : w.heap[bt]? = some (.cells #[.pointer (some ⟨t, 0, none⟩)] 97 (0, 0)))
    (hs : StoreOf w t d) (hd : IsDisk w d mp mt D) (hok : D.Ok) (hst : D.steps < 4611686018427387904) :
    Calls Try.prog 112 #[.pointer (some ⟨bt, 0, none⟩)] w fun e w' => e = .returned (.int .i64 (D.move Q.snapW Q.snapN).2) ∧ Left w d mp mt (D.move Q.snapW Q.snapN).1 w' := by
  obtain ⟨x1, x2, x3, x4, hx⟩ := hs
  have c0 := blk_cell ht 0
  have c2 := blk_cell hx 0
  have happ := move_calls d mp mt D { data := #[115, 110, 97, 112, 46, 110, 101, 119] } { data := #[115, 110, 97, 112] } w hd (by decide) (by decide) hst hok.armed0 hok.armed1 (by have := hok.many; omega)
  rw [snapW_eq, snapN_eq] at happ
  have Happ := Lib.hid happ
  clear ht hx hd happ
  go_enter Try.func112, Try.ntmps112
  go_wp2_with (go_at_call 45; refine Happ.out.mono ?_; rintro e w2 ⟨rfl, hL⟩)
  go_ret
  exact ⟨rfl, hL⟩
end Go.Proofs.Ytcfgdlpdnpnhmaa
