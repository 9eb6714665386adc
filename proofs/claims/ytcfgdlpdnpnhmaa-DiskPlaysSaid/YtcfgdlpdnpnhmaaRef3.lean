/- Contract of the document's disk (curfewref23): with. -/
import Derived.Test.YtcfgdlpdnpnhmaaRef2
set_option linter.unusedVariables false
set_option linter.unusedSimpArgs false
namespace Go.Proofs.Ytcfgdlpdnpnhmaa
open Go.RowKit Go.Maps

theorem RFiles.ext {S : List Nat} {w w' : World} {A : Option Addr} {n : Nat} {l : List File} (h : RFiles w A n l) (e : Ext S w w') (hs : ∀ k, k ∈ S → NoStr w k) : RFiles w' A n l := by
  refine ⟨h.1, fun hn => ?_⟩
  obtain ⟨ad, ea, hc⟩ := h.2 hn
  refine ⟨ad, ea, fun j hj i hi => ?_⟩
  have h3 := hc j hj i hi
  have h0 : w.cell? (ad.add (j * 3)) = some (encStr l[j].name) := hc j hj 0 (by omega)
  have hne : (ad.add (j * 3 + i)).block ∉ S := fun hm => by
    rw [block_of_add] at hm
    rw [← block_of_add ad (j * 3)] at hm
    have h4 := cell_spot h0
    rw [h4] at h0
    exact hs _ hm _ _ h0
  have : ∃ v, w.cell? (ad.add (j * 3 + i)) = some v := by
    rw [h3]
    rcases i with _ | _ | _ | i <;> first | exact ⟨_, rfl⟩ | omega
  obtain ⟨v, hv⟩ := this
  rw [← h3]
  exact e.cell (cell_lt hv) hne
theorem ins_length (f : File) (l : List File) : (Dsk.ins f l).length = l.length + 1 := by
  induction l with
  | nil => rfl
  | cons y r ih => unfold Dsk.ins; split <;> simp [ih]

/-- How the loop of 'with' stands behind k files: what is laid, whether the file is in. -/
def WithAt (f : File) (l : List File) (k : Nat) (done : Bool) (acc : List File) : Prop :=
  match done with
  | true => Dsk.ins f l = acc ++ l.drop k
  | false => acc = l.take k ∧ Dsk.ins f l = l.take k ++ Dsk.ins f (l.drop k)
theorem WithAt.start (f : File) (l : List File) : WithAt f l 0 false [] := ⟨by simp, by simp⟩
theorem WithAt.kept {f : File} {l : List File} {k : Nat} {acc : List File} (h : WithAt f l k true acc) (hk : k < l.length) : WithAt f l (k + 1) true (acc ++ [l[k]]) := by
  unfold WithAt at *
  rw [h, List.drop_eq_getElem_cons hk]
  simp
theorem WithAt.over {f : File} {l : List File} {k : Nat} {acc : List File} (h : WithAt f l k false acc) (hk : k < l.length) (hb : bytesBefore f.name l[k].name = false) : WithAt f l (k + 1) false (acc ++ [l[k]]) := by
  obtain ⟨rfl, h2⟩ := h
  refine ⟨by rw [List.take_succ_eq_append_getElem hk], ?_⟩
  rw [h2, List.drop_eq_getElem_cons hk]
  simp only [Dsk.ins, hb, if_false, Bool.false_eq_true]
  rw [List.take_succ_eq_append_getElem hk, List.append_assoc]
  rfl
theorem WithAt.laid {f : File} {l : List File} {k : Nat} {acc : List File} (h : WithAt f l k false acc) (hk : k < l.length) (hb : bytesBefore f.name l[k].name = true) : WithAt f l (k + 1) true (acc ++ [f] ++ [l[k]]) := by
  obtain ⟨rfl, h2⟩ := h
  show Dsk.ins f l = _
  rw [h2, List.drop_eq_getElem_cons hk]
  simp [Dsk.ins, hb]
theorem WithAt.end_true {f : File} {l : List File} {acc : List File} (h : WithAt f l l.length true acc) : Dsk.ins f l = acc := by
  have : Dsk.ins f l = acc ++ l.drop l.length := h
  rw [this]; simp
theorem WithAt.end_false {f : File} {l : List File} {acc : List File} (h : WithAt f l l.length false acc) : Dsk.ins f l = acc ++ [f] := by
  obtain ⟨rfl, h2⟩ := h
  rw [h2]; simp [Dsk.ins]

set_option maxRecDepth 100000 in
set_option maxHeartbeats 2000000 in
theorem refwith_calls (D : Dsk) (A : Option Addr) (n c : Nat) (f : File) (w : World) (h : RFiles w A n D.files) (hn : n ≤ 1048500) :
    Calls Try.prog 128 #[refV D A n c, .agg #[encStr f.name, encStr f.all, .int .i64 f.kept]] w (RefIs w { D with files := Dsk.put D.files f }) := by
  obtain ⟨fn, hfn⟩ : ∃ fn : ByteArray, encStr f.name = .string fn ∧ fn.toList = f.name ∧ fn.data.toList = f.name := ⟨⟨f.name.toArray⟩, rfl, str_list _, rfl⟩
  obtain ⟨fa, hfa⟩ : ∃ fa : ByteArray, encStr f.all = .string fa := ⟨⟨f.all.toArray⟩, rfl⟩
  obtain ⟨hfn, hfl, hfd⟩ := hfn
  obtain ⟨w1, hw1⟩ : ∃ w1, w1 = ((w.alloc (.cells #[.int .i64 D.room, .slice A n c, .bool D.down, .int .i64 D.armed, .int .u64 D.steps] 45)).alloc (.cells #[.string fn, .string fa, .int .i64 f.kept] 60)).alloc (.cells #[.int .i64 0, .slice none 0 0, .bool false, .int .i64 0, .int .u64 0] 45) := ⟨_, rfl⟩
  have hs1 : w1.heap.size = w.heap.size + 3 := by rw [hw1]; simp
  have hbw : Below w.heap.size w w1 := by rw [hw1]; exact (((Below.refl _ _).alloc (Nat.le_refl _) _).alloc (by simp) _).alloc (by simp; omega) _
  have hbx : w1.heap[w.heap.size]? = some (.cells #[.int .i64 D.room, .slice A n c, .bool D.down, .int .i64 D.armed, .int .u64 D.steps] 45 (0, 0)) := by rw [hw1]; exact blk_alloc (blk_alloc (blk_new w _) _) _
  have hfx : w1.heap[w.heap.size + 1]? = some (.cells #[.string fn, .string fa, .int .i64 f.kept] 60 (0, 0)) := by
    rw [hw1]
    refine blk_alloc ?_ _
    have := blk_new (w.alloc (.cells #[.int .i64 D.room, .slice A n c, .bool D.down, .int .i64 D.armed, .int .u64 D.steps] 45)) (.cells #[.string fn, .string fa, .int .i64 f.kept] 60)
    simpa using this
  have hrx : w1.heap[w.heap.size + 2]? = some (.cells #[.int .i64 0, .slice none 0 0, .bool false, .int .i64 0, .int .u64 0] 45 (0, 0)) := by
    rw [hw1]
    have := blk_new ((w.alloc (.cells #[.int .i64 D.room, .slice A n c, .bool D.down, .int .i64 D.armed, .int .u64 D.steps] 45)).alloc (.cells #[.string fn, .string fa, .int .i64 f.kept] 60)) (.cells #[.int .i64 0, .slice none 0 0, .bool false, .int .i64 0, .int .u64 0] 45)
    simpa using this
  have hwo := refwithout_calls D A n c fn w1 (h.below hbw) (by omega)
  rw [hfd] at hwo
  unfold refV at hwo
  have Hwo := Lib.hid hwo
  have Hbw := Lib.hid hbw
  have Hbx := Lib.hid hbx
  have Hfx := Lib.hid hfx
  have Hrx := Lib.hid hrx
  have Hs1 := Lib.hid hs1
  have Hfl := Lib.hid hfl
  have hdl := Lib.hid (show (Dsk.del D.files f.name).length ≤ n by have := del_length D.files f.name; have := h.1; omega)
  clear hwo hbw hbx hfx hrx hs1 hfl hfd h
  rw [hfn, hfa]
  unfold refV
  go_enter Try.func128, Try.ntmps128
  go_wp2_with fail
  rw [← hw1]
  clear hw1
  refine Hwo.out.mono ?_
  rintro e w2 ⟨A2, n2, c2, rfl, hf2, hc2, hb2, _⟩
  unfold refV
  have hn2 := Lib.hid hf2.1
  have Hf2 := Lib.hid hf2
  have hbx2 := (hb2.block _ (blk_lt Hbx.out)).trans Hbx.out
  have b0 := blk_cell hbx2 0
  have b1 := blk_cell hbx2 1
  have b2 := blk_cell hbx2 2
  have b3 := blk_cell hbx2 3
  have b4 := blk_cell hbx2 4
  have g0 := blk_frozen hbx2 0
  have g1 := blk_frozen hbx2 1
  have g2 := blk_frozen hbx2 2
  have g3 := blk_frozen hbx2 3
  have g4 := blk_frozen hbx2 4
  have Hb2 := Lib.hid hb2
  have Hbx2 := Lib.hid hbx2
  clear hb2 hbx2 hf2
  go_wp2
  obtain ⟨w3, hw3⟩ : ∃ w3, w3 = ((((w2.setCell ⟨w.heap.size, 0, none⟩ (.int .i64 D.room)).setCell ⟨w.heap.size, 1, none⟩ (.slice A2 n2 c2)).setCell ⟨w.heap.size, 2, none⟩ (.bool D.down)).setCell ⟨w.heap.size, 3, none⟩ (.int .i64 D.armed)).setCell ⟨w.heap.size, 4, none⟩ (.int .u64 D.steps) := ⟨_, rfl⟩
  rw [← hw3]
  have hx3 : w3.heap[w.heap.size]? = some (.cells #[.int .i64 D.room, .slice A2 n2 c2, .bool D.down, .int .i64 D.armed, .int .u64 D.steps] 45 (0, 0)) := by
    rw [hw3]
    exact blk_set (blk_set (blk_set (blk_set (blk_set Hbx2.out 0 _) 1 _) 2 _) 3 _) 4 _
  have hE3 : Ext [w.heap.size] w2 w3 := by
    rw [hw3]
    exact ((((Ext.refl _ _).setCell (Or.inl (by simp)) _).setCell (Or.inl (by simp)) _).setCell (Or.inl (by simp)) _).setCell (Or.inl (by simp)) _ |>.setCell (Or.inl (by simp)) _
  have hs1 := Hs1.out
  have hf3 : RFiles w3 A2 n2 (Dsk.del D.files f.name) := Hf2.out.ext hE3 (fun q hq => by
    rw [List.mem_singleton.1 hq]
    exact .of_cells Hbx2.out (fun j x => by rcases j with _ | _ | _ | _ | _ | j <;> simp))
  have hfx3 := hE3.obj ((Hb2.out.block _ (blk_lt Hfx.out)).trans Hfx.out) (by simp)
  have hrx3 := hE3.obj ((Hb2.out.block _ (blk_lt Hrx.out)).trans Hrx.out) (by simp)
  have hb3 : Below w.heap.size w w3 := Hbw.out.trans ((Hb2.out.mono (by omega)).trans (hE3.below (by have := Hb2.out.size; omega) (fun q hq => by rw [List.mem_singleton.1 hq]; exact Nat.le_refl _)))
  have hn2' : (Dsk.del D.files f.name).length = n2 := hn2.out
  have hn3 : n2 ≤ n := by have := hdl.out; omega
  have hsz3 : w.heap.size + 3 ≤ w3.heap.size := by have := Hb2.out.size; have := hE3.size; omega
  have Hx3 := Lib.hid hx3
  have Hf3 := Lib.hid hf3
  have Hfx3 := Lib.hid hfx3
  have Hrx3 := Lib.hid hrx3
  have Hb3 := Lib.hid hb3
  have Hn2' := Lib.hid hn2'
  clear hw3 hx3 hE3 hf3 hfx3 hrx3 hb3 hs1 hn2' b0 b1 b2 b3 b4 g0 g1 g2 g3 g4 Hbx2 Hf2 hn2 Hb2
  obtain ⟨L, hL⟩ : ∃ L, L = Dsk.del D.files f.name := ⟨_, rfl⟩
  rw [← hL] at Hf3 Hn2'
  have HL := Lib.hid hL
  clear hL
  go_loopw [5, 6, 7] (fun v dn i wr => ∃ (k m : Nat) (done : Bool) (acc : List File), i = .int .i64 k ∧ dn = .bool done ∧ k ≤ n2 ∧ wr.ownsRow w3.heap.size 60 3 v m (fvals acc) ∧ m = acc.length ∧ m ≤ k + 1 ∧ WithAt f L k done acc ∧ Below w3.heap.size w3 wr) (fun _ _ i _ => n2 - (intOf i).toNat)
  case atStart => exact ⟨0, 0, false, [], rfl, rfl, Nat.zero_le _, World.ownsRow_nil _ _ _ _, rfl, by omega, .start f L, Below.refl _ _⟩
  case round =>
    obtain ⟨k, m, done, acc, rfl, rfl, hkn, hown, hm, hmk, hwa, hbl⟩ := hrel
    have Hown := Lib.hid hown
    have Hm := Lib.hid hm
    have Hwa := Lib.hid hwa
    have Hbl := Lib.hid hbl
    have hbxr := (hbl.block _ (blk_lt Hx3.out)).trans Hx3.out
    have hfxr := (hbl.block _ (blk_lt Hfx3.out)).trans Hfx3.out
    have hrxr := (hbl.block _ (blk_lt Hrx3.out)).trans Hrx3.out
    have b1 := blk_cell hbxr 1
    have k0 := blk_cell hfxr 0
    have k1 := blk_cell hfxr 1
    have k2 := blk_cell hfxr 2
    have hle : w3.heap.size ≤ wr.heap.size := Hbl.out.size
    clear hown hm hwa hbl
    have hcx : ∀ W, Below w3.heap.size w3 W → W.cell? ⟨w.heap.size, 0, none⟩ = some (.int .i64 D.room) ∧ W.cell? ⟨w.heap.size, 1, none⟩ = some (.slice A2 n2 c2) ∧ W.cell? ⟨w.heap.size, 2, none⟩ = some (.bool D.down) ∧ W.cell? ⟨w.heap.size, 3, none⟩ = some (.int .i64 D.armed) ∧ W.cell? ⟨w.heap.size, 4, none⟩ = some (.int .u64 D.steps) ∧ W.cell? ⟨w.heap.size + 1, 0, none⟩ = some (.string fn) ∧ W.cell? ⟨w.heap.size + 1, 1, none⟩ = some (.string fa) ∧ W.cell? ⟨w.heap.size + 1, 2, none⟩ = some (.int .i64 f.kept) := fun W hb => by
      have x := (hb.block _ (blk_lt Hx3.out)).trans Hx3.out
      have y := (hb.block _ (blk_lt Hfx3.out)).trans Hfx3.out
      exact ⟨blk_cell x 0, blk_cell x 1, blk_cell x 2, blk_cell x 3, blk_cell x 4, blk_cell y 0, blk_cell y 1, blk_cell y 2⟩
    have Hcx := Lib.hid hcx
    have hownd : wr.drew.ownsRow w3.heap.size 60 3 u5 m (fvals acc) := Hown.out
    have hbld : Below w3.heap.size w3 wr.drew := Hbl.out.drew
    have hmn : m ≤ 1048576 := by omega
    clear hcx
    by_cases hlt : k < n2
    · have hk : k < L.length := by rw [Hn2'.out]; exact hlt
      obtain ⟨ad, b, o, nm, al, rfl, had, q0, q1, q2, e0, e1, z0, z1, en, ea⟩ := Hf3.out.at2 hk
      have hq : ∀ W, Below w3.heap.size w3 W → W.cell? ⟨b, o, none⟩ = some (.string nm) ∧ W.cell? ⟨b, o + 1, none⟩ = some (.string al) ∧ W.cell? ⟨b, o + 2, none⟩ = some (.int .i64 L[k].kept) := fun W hb =>
        ⟨(hb.cell (cell_lt q0)).trans q0, (hb.cell (cell_lt q1)).trans q1, (hb.cell (cell_lt q2)).trans q2⟩
      have Hq := Lib.hid hq
      obtain ⟨p0, p1, p2⟩ := hq wr Hbl.out
      have hix := fun W => run_file_index ad n2 c2 k hlt W
      simp only [had] at hix
      have hwk : IntKind.i64.wrap ((k : Int) + 1) = (k : Int) + 1 := IntWalk.i64_in _ (by omega)
      have Hen := Lib.hid en
      have Hea := Lib.hid ea
      clear hq q0 q1 q2
      cases done
      · cases hbf : bytesBefore f.name L[k].name
        · have hg : Op.bytesLess fn.toList nm.toList = false := by rw [less_before, e0, Hfl.out, hbf]
          have hwa' := Hwa.out.over hk hbf
          have Hwa' := Lib.hid hwa'
          clear e0 e1 z0 z1 had en ea hbf hwa'
          go_wp2
          go_region
          go_wp2_with (at_builtin; refine wpList_append_file _ rfl _ _ rfl w3.heap.size _ m acc rfl (hownd.alloc _) wr.heap.size 1 L[k] rfl (by rw [Hen.out, Hea.out]; exact blk_new wr.drew _) hmn (by simp; omega) ?_; intro v' w5 hown5 hgr5)
          go_roundw
          case rel =>
            have hb5 : Below w3.heap.size w3 w5 := (hbld.alloc hle _).grown hgr5 (by simp; omega) (fun q hq => (Hown.out.lt q hq).1)
            exact ⟨k + 1, m + 1, false, acc ++ [L[k]], by simp, rfl, hlt, hown5, by rw [List.length_append, ← Hm.out]; rfl, by omega, Hwa'.out, hb5⟩
          case measure => simp [intOf]; omega
        · have hg : Op.bytesLess fn.toList nm.toList = true := by rw [less_before, e0, Hfl.out, hbf]
          have hwa' := Hwa.out.laid hk hbf
          have hm2 : m ≤ k := by
            obtain ⟨h1, _⟩ := Hwa.out
            rw [Hm.out, h1, List.length_take]; omega
          have Hwa' := Lib.hid hwa'
          clear e0 e1 z0 z1 had en ea hbf hwa'
          go_wp2
          go_region
          go_wp2_with (first
            | (at_builtin; refine wpList_append_file _ rfl _ _ rfl w3.heap.size _ (m + 1) (acc ++ [f]) rfl (hown5.alloc _) w5.heap.size 1 L[k] rfl (by rw [Hen.out, Hea.out]; exact blk_new w5 _) (by omega) (by have := hb5.size; simp; omega) ?_; intro v'' w6 hown6 hgr6)
            | (at_builtin; refine wpList_append_file _ rfl _ _ rfl w3.heap.size _ m acc rfl (hownd.alloc _) wr.heap.size 1 f rfl (by rw [hfn, hfa]; exact blk_new wr.drew _) hmn (by simp; omega) ?_; intro v' w5 hown5 hgr5; have hb5 : Below w3.heap.size w3 w5 := (hbld.alloc hle _).grown hgr5 (by simp; omega) (fun q hq => (Hown.out.lt q hq).1); obtain ⟨s0, s1, s2⟩ := Hq.out w5 hb5; obtain ⟨t0, t1, t2, t3, t4, _⟩ := Hcx.out w5 hb5))
          go_roundw
          case rel =>
            have hb6 : Below w3.heap.size w3 w6 := (hb5.alloc hb5.size _).grown hgr6 (by have := hb5.size; simp; omega) (fun q hq => (hown5.lt q hq).1)
            exact ⟨k + 1, m + 1 + 1, true, acc ++ [f] ++ [L[k]], by simp, rfl, hlt, hown6, by rw [List.length_append, List.length_append, ← Hm.out]; rfl, by omega, Hwa'.out, hb6⟩
          case measure => simp [intOf]; omega
      · have hwa' := Hwa.out.kept hk
        have Hwa' := Lib.hid hwa'
        clear e0 e1 z0 z1 had en ea hwa'
        go_wp2
        go_region
        go_wp2_with (at_builtin; refine wpList_append_file _ rfl _ _ rfl w3.heap.size _ m acc rfl (hownd.alloc _) wr.heap.size 1 L[k] rfl (by rw [Hen.out, Hea.out]; exact blk_new wr.drew _) hmn (by simp; omega) ?_; intro v' w5 hown5 hgr5)
        go_roundw
        case rel =>
          have hb5 : Below w3.heap.size w3 w5 := (hbld.alloc hle _).grown hgr5 (by simp; omega) (fun q hq => (Hown.out.lt q hq).1)
          exact ⟨k + 1, m + 1, true, acc ++ [L[k]], by simp, rfl, hlt, hown5, by rw [List.length_append, ← Hm.out]; rfl, by omega, Hwa'.out, hb5⟩
        case measure => simp [intOf]; omega
    · have hkn2 : k = n2 := by omega
      have hkl : k = L.length := by rw [Hn2'.out]; exact hkn2
      have Hkl := Lib.hid hkl
      clear hkl hkn2
      have hrs : ∀ W (l : List File) (A5 : Option Addr) (m5 c5 : Nat), Below w3.heap.size w3 W → W.ownsRow w3.heap.size 60 3 (.slice A5 m5 c5) m5 (fvals l) → Dsk.ins f L = l →
          ∃ w7, w7 = (((((W.setCell ⟨w.heap.size, 1, none⟩ (.slice A5 m5 c5)).setCell ⟨w.heap.size + 2, 0, none⟩ (.int .i64 D.room)).setCell ⟨w.heap.size + 2, 1, none⟩ (.slice A5 m5 c5)).setCell ⟨w.heap.size + 2, 2, none⟩ (.bool D.down)).setCell ⟨w.heap.size + 2, 3, none⟩ (.int .i64 D.armed)).setCell ⟨w.heap.size + 2, 4, none⟩ (.int .u64 D.steps) ∧
            w7.heap[w.heap.size + 2]? = some (.cells #[.int .i64 D.room, .slice A5 m5 c5, .bool D.down, .int .i64 D.armed, .int .u64 D.steps] 45 (0, 0)) ∧ RFiles w7 A5 m5 (Dsk.put D.files f) ∧ m5 ≤ c5 ∧ Below w.heap.size w w7 := fun W l A5 m5 c5 hb ho he => by
        refine ⟨_, rfl, ?_, ?_, ?_, ?_⟩
        · have hr := (hb.block _ (blk_lt Hrx3.out)).trans Hrx3.out
          exact blk_set (blk_set (blk_set (blk_set (blk_set (blk_far hr (p := ⟨w.heap.size, 1, none⟩) (by simp) _) 0 _) 1 _) 2 _) 3 _) 4 _
        · have hE : Ext [w.heap.size, w.heap.size + 2] W ((((((W.setCell ⟨w.heap.size, 1, none⟩ (.slice A5 m5 c5)).setCell ⟨w.heap.size + 2, 0, none⟩ (.int .i64 D.room)).setCell ⟨w.heap.size + 2, 1, none⟩ (.slice A5 m5 c5)).setCell ⟨w.heap.size + 2, 2, none⟩ (.bool D.down)).setCell ⟨w.heap.size + 2, 3, none⟩ (.int .i64 D.armed)).setCell ⟨w.heap.size + 2, 4, none⟩ (.int .u64 D.steps)) :=
            ((((((Ext.refl _ _).setCell (Or.inl (by simp)) _).setCell (Or.inl (by simp)) _).setCell (Or.inl (by simp)) _).setCell (Or.inl (by simp)) _).setCell (Or.inl (by simp)) _).setCell (Or.inl (by simp)) _
          obtain ⟨A6, c6, e6, hf6, hc6⟩ := RFiles.of_own (ho.kept_ext hE (fun q hq => by simp at hq; omega))
          injection e6 with e6 _ _
          subst e6
          rw [show Dsk.put D.files f = l by unfold Dsk.put; rw [← HL.out, he]]
          exact hf6
        · obtain ⟨A6, c6, e6, hf6, hc6⟩ := RFiles.of_own ho
          injection e6 with _ _ e7
          subst e7
          exact hc6
        · have hE : Ext [w.heap.size, w.heap.size + 2] W ((((((W.setCell ⟨w.heap.size, 1, none⟩ (.slice A5 m5 c5)).setCell ⟨w.heap.size + 2, 0, none⟩ (.int .i64 D.room)).setCell ⟨w.heap.size + 2, 1, none⟩ (.slice A5 m5 c5)).setCell ⟨w.heap.size + 2, 2, none⟩ (.bool D.down)).setCell ⟨w.heap.size + 2, 3, none⟩ (.int .i64 D.armed)).setCell ⟨w.heap.size + 2, 4, none⟩ (.int .u64 D.steps)) :=
            ((((((Ext.refl _ _).setCell (Or.inl (by simp)) _).setCell (Or.inl (by simp)) _).setCell (Or.inl (by simp)) _).setCell (Or.inl (by simp)) _).setCell (Or.inl (by simp)) _).setCell (Or.inl (by simp)) _
          exact Hb3.out.trans ((hb.mono (by omega)).trans (hE.below (by have := hb.size; omega) (fun q hq => by simp at hq; omega)))
      have hrf : ∀ W, Below w3.heap.size w3 W → W.frozen? ⟨w.heap.size, 1, none⟩ = false ∧ W.cell? ⟨w.heap.size + 2, 0, none⟩ = some (.int .i64 0) ∧ W.cell? ⟨w.heap.size + 2, 1, none⟩ = some (.slice none 0 0) ∧ W.cell? ⟨w.heap.size + 2, 2, none⟩ = some (.bool false) ∧ W.cell? ⟨w.heap.size + 2, 3, none⟩ = some (.int .i64 0) ∧ W.cell? ⟨w.heap.size + 2, 4, none⟩ = some (.int .u64 0) ∧
          W.frozen? ⟨w.heap.size + 2, 0, none⟩ = false ∧ W.frozen? ⟨w.heap.size + 2, 1, none⟩ = false ∧ W.frozen? ⟨w.heap.size + 2, 2, none⟩ = false ∧ W.frozen? ⟨w.heap.size + 2, 3, none⟩ = false ∧ W.frozen? ⟨w.heap.size + 2, 4, none⟩ = false := fun W hb => by
        have x := (hb.block _ (blk_lt Hx3.out)).trans Hx3.out
        have r := (hb.block _ (blk_lt Hrx3.out)).trans Hrx3.out
        exact ⟨blk_frozen x 1, blk_cell r 0, blk_cell r 1, blk_cell r 2, blk_cell r 3, blk_cell r 4, blk_frozen r 0, blk_frozen r 1, blk_frozen r 2, blk_frozen r 3, blk_frozen r 4⟩
      have Hrs := Lib.hid hrs
      have Hrf := Lib.hid hrf
      clear hrs hrf b1 k0 k1 k2 hbxr hfxr hrxr
      obtain ⟨b0, b1, b2, b3, b4, k0, k1, k2⟩ := Hcx.out wr Hbl.out
      obtain ⟨z0, r0, r1, r2, r3, r4, f0, f1, f2, f3, f4⟩ := Hrf.out wr Hbl.out
      cases done
      · have hi : Dsk.ins f L = acc ++ [f] := (Hkl.out ▸ Hwa.out : WithAt f L L.length false acc).end_false
        have Hi := Lib.hid hi
        clear hi
        go_wp2_with (at_builtin; refine wpList_append_file _ rfl _ _ rfl w3.heap.size _ m acc rfl (Hown.out.alloc _) wr.heap.size 1 f rfl (by rw [hfn, hfa]; exact blk_new wr _) hmn (by simp; omega) ?_; intro v' w5 hown5 hgr5; have hb5 : Below w3.heap.size w3 w5 := (Hbl.out.alloc hle _).grown hgr5 (by simp; omega) (fun q hq => (Hown.out.lt q hq).1); obtain ⟨A5, c5, rfl, _, _⟩ := RFiles.of_own hown5; obtain ⟨b0, b1, b2, b3, b4, _⟩ := Hcx.out w5 hb5; obtain ⟨z0, r0, r1, r2, r3, r4, f0, f1, f2, f3, f4⟩ := Hrf.out w5 hb5)
        obtain ⟨w7, hw7, hx7, hf7, hc7, hb7⟩ := Hrs.out w5 _ A5 (m + 1) c5 hb5 hown5 Hi.out
        rw [← hw7]
        have x0 := blk_cell hx7 0
        have x1 := blk_cell hx7 1
        have x2 := blk_cell hx7 2
        have x3 := blk_cell hx7 3
        have x4 := blk_cell hx7 4
        exact bodyPost_ret (v := refV { D with files := Dsk.put D.files f } A5 (m + 1) c5) (by simp [results, Try.results128, go_sem, refV, x0, x1, x2, x3, x4]) rfl ⟨A5, m + 1, c5, rfl, hf7, hc7, hb7⟩
      · have hi : Dsk.ins f L = acc := (Hkl.out ▸ Hwa.out : WithAt f L L.length true acc).end_true
        have Hi := Lib.hid hi
        obtain ⟨A5, c5, rfl, _, _⟩ := RFiles.of_own Hown.out
        clear hi
        go_wp2
        obtain ⟨w7, hw7, hx7, hf7, hc7, hb7⟩ := Hrs.out wr _ A5 m c5 Hbl.out Hown.out Hi.out
        rw [← hw7]
        have x0 := blk_cell hx7 0
        have x1 := blk_cell hx7 1
        have x2 := blk_cell hx7 2
        have x3 := blk_cell hx7 3
        have x4 := blk_cell hx7 4
        exact bodyPost_ret (v := refV { D with files := Dsk.put D.files f } A5 m c5) (by simp [results, Try.results128, go_sem, refV, x0, x1, x2, x3, x4]) rfl ⟨A5, m, c5, rfl, hf7, hc7, hb7⟩
end Go.Proofs.Ytcfgdlpdnpnhmaa
