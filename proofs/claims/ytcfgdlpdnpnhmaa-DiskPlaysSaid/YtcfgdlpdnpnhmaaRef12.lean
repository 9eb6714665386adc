/- Contract of the document's disk (curfewref23): Crash. Written by wip/gen_ref12.py. -/
import Derived.Test.YtcfgdlpdnpnhmaaRef11
import Derived.Test.YtcfgdlpdnpnhmaaLast
import Derived.Test.YtcfgdlpdnpnhmaaTears23
set_option linter.unusedVariables false
set_option linter.unusedSimpArgs false
namespace Go.Proofs.Ytcfgdlpdnpnhmaa
open Go.RowKit Go.Maps

theorem infoRT : (Try.prog.info? 198).map (fun i => (i.size)) = some 2 := by kernel_rfl
theorem run_rtear_at (ad : Addr) (n c k : Nat) (h : k < n) (w : World) : (Instr.indexAt 151 (.slice (some ad) n c) (.int .i64 k)).run Try.prog w = .ok (.pointer (some (ad.add (k * 2)))) w := by
  obtain ⟨i0, hi, hz1⟩ := Option.map_eq_some_iff.1 infoRT
  simp [Instr.indexAt, run_underlying Try.underlying151, sizeOf, typeInfo, hi, hz1, h, Result.andThen, asIntOf]
theorem run_str_from (al : ByteArray) (kn : Nat) (h : kn ≤ al.size) (W : World) : (Instr.slice 9 (.string al) (some (.int .i64 (kn : Int))) none none).run Try.prog W = .ok (.string (al.extract kn al.size)) W := by
  simp [Instr.slice, run_underlying Try.underlying9, Instr.sliceBounds, Instr.sliceBound, Result.andThen, asIntOf, h]

/-- How far Crash has come: k files are done, u tears used, l is what is left of the k files. -/
structure RCr (D : Dsk) (ts : List (Nat × Nat)) (w1 wr : World) (v : Value) (k u m : Nat) (l : List File) : Prop where
  le : k ≤ D.files.length
  used : u ≤ k
  own : wr.ownsRow w1.heap.size 60 3 v m (fvals l)
  len : m = l.length
  few : m ≤ k
  below : Below w1.heap.size w1 wr
  goes : Dsk.crashGo D.files ts = l ++ Dsk.crashGo (D.files.drop k) (ts.drop u)
/-- The file that a round has ends with. -/
def NewB (wr W : World) (nm : Value) (v : Value) (kept : Int) : Prop := W.heap[wr.heap.size]? = some (.cells #[nm, v, .int .i64 kept] 60 (0, 0))
theorem crashFile_lone {f : File} {ts : List (Nat × Nat)} (h : ¬ f.kept < f.all.length) : Dsk.crashFile f ts = (f, ts) := by unfold Dsk.crashFile; rw [if_neg h]
theorem crash_step {D : Dsk} {ts : List (Nat × Nat)} {k u u' : Nat} {l : List File} {f' : File} (hk : k < D.files.length) (hg : Dsk.crashGo D.files ts = l ++ Dsk.crashGo (D.files.drop k) (ts.drop u)) (hcf : Dsk.crashFile D.files[k] (ts.drop u) = (f', ts.drop u')) :
    Dsk.crashGo D.files ts = (l ++ if f'.all = [] then [] else [f']) ++ Dsk.crashGo (D.files.drop (k + 1)) (ts.drop u') := by
  rw [hg, List.drop_eq_getElem_cons hk]
  show l ++ ((if (Dsk.crashFile D.files[k] (ts.drop u)).1.all = [] then [] else [(Dsk.crashFile D.files[k] (ts.drop u)).1]) ++ Dsk.crashGo (D.files.drop (k + 1)) (Dsk.crashFile D.files[k] (ts.drop u)).2) = _
  rw [hcf]
  simp
theorem head_drop (ts : List (Nat × Nat)) (u : Nat) : (ts.drop u).headD (0, 0) = ts.getD u (0, 0) := by
  rw [List.headD_eq_head?_getD, List.head?_drop, List.getD_eq_getElem?_getD]
theorem tail_drop (ts : List (Nat × Nat)) (u : Nat) : (ts.drop u).tail = ts.drop (u + 1) := by simp
theorem enc_eq {l : Bs} {x : ByteArray} (h : encStr l = .string x) : x = ⟨l.toArray⟩ := by
  have : (Value.string ⟨l.toArray⟩) = .string x := h
  injection this with this
  exact this.symm
theorem enc_list {l : Bs} {x : ByteArray} (h : encStr l = .string x) : x.data.toList = l := by have e := enc_eq h; subst e; simp
theorem ByteArray_len (x : ByteArray) : x.data.toList.length = x.size := by rw [Array.length_toList]; rfl
theorem enc_size {l : Bs} {x : ByteArray} (h : encStr l = .string x) : l.length = x.size := by rw [← ByteArray_len x, enc_list h]
theorem enc_nil {l : Bs} {x : ByteArray} (h : encStr l = .string x) : l = [] ↔ x.size = 0 := by rw [← enc_size h]; exact List.length_eq_zero_iff.symm
theorem enc_of {l : Bs} {x : ByteArray} (h : x.data.toList = l) : encStr l = .string x := by
  rw [← h]

set_option maxRecDepth 100000 in
set_option maxHeartbeats 4000000 in
theorem refcrash_calls (D : Dsk) (A : Option Addr) (n c : Nat) (At : Option Addr) (nt ct : Nat) (ts : List (Nat × Nat)) (w : World) (h : RFiles w A n D.files) (hnc : n ≤ c) (hn : n ≤ 1048000) (hT : Tears w At nt ts) (hnt : nt ≤ 1048000) (hlen : ∀ f ∈ D.files, f.all.length ≤ 1048576) (hkept : ∀ f ∈ D.files, f.kept ≤ f.all.length) :
    Calls Try.prog 88 #[refV D A n c, .slice At nt ct] w (RefNew w (D.crash ts)) := by
  obtain ⟨w0, hw0⟩ : ∃ w0, w0 = (w.alloc (.cells #[.int .i64 D.room, .slice A n c, .bool D.down, .int .i64 D.armed, .int .u64 D.steps] 45)).alloc (.cells #[.int .i64 0, .slice none 0 0, .bool false, .int .i64 0, .int .u64 0] 45) := ⟨_, rfl⟩
  have hbw0 : Below w.heap.size w w0 := by rw [hw0]; exact al2 w _ _
  have hbx0 : w0.heap[w.heap.size]? = some (.cells #[.int .i64 D.room, .slice A n c, .bool D.down, .int .i64 D.armed, .int .u64 D.steps] 45 (0, 0)) := by rw [hw0]; exact blk_alloc (blk_new w _) _
  have hrx0 : w0.heap[w.heap.size + 1]? = some (.cells #[.int .i64 0, .slice none 0 0, .bool false, .int .i64 0, .int .u64 0] 45 (0, 0)) := by rw [hw0]; exact blk_new1 w _ _
  obtain ⟨w1, hw1⟩ : ∃ w1, w1 = (w0.setCell ⟨w.heap.size, 2, none⟩ (.bool true)).setCell ⟨w.heap.size, 3, none⟩ (.int .i64 (-1)) := ⟨_, rfl⟩
  have hE1 : Ext [w.heap.size] w0 w1 := by rw [hw1]; exact ((Ext.refl _ _).setCell (Or.inl (by simp)) _).setCell (Or.inl (by simp)) _
  have hbw : Below w.heap.size w w1 := hbw0.trans (hE1.below hbw0.size (fun q hq => by rw [List.mem_singleton.1 hq]; exact Nat.le_refl _))
  have hbx : w1.heap[w.heap.size]? = some (.cells #[.int .i64 D.room, .slice A n c, .bool true, .int .i64 (-1), .int .u64 D.steps] 45 (0, 0)) := by
    rw [hw1]
    exact blk_set (blk_set hbx0 2 (.bool true)) 3 (.int .i64 (-1))
  have hrx : w1.heap[w.heap.size + 1]? = some (.cells #[.int .i64 0, .slice none 0 0, .bool false, .int .i64 0, .int .u64 0] 45 (0, 0)) := hE1.obj hrx0 (by simp)
  have hs1 : w.heap.size + 2 ≤ w1.heap.size := by have := hE1.size; rw [hw0] at this; simp at this; omega
  have H := Lib.hid (h.below hbw)
  have HT := Lib.hid (hT.below hbw)
  have hl := Lib.hid h.1
  have Hlen := Lib.hid hlen
  have Hkept := Lib.hid hkept
  have Hbw := Lib.hid hbw
  have Hbx := Lib.hid hbx
  have Hrx := Lib.hid hrx
  have Hs1 := Lib.hid hs1
  have b2 := blk_cell hbx0 2
  have b3 := blk_cell hbx0 3
  have f2 := blk_frozen hbx0 2
  have f3 := blk_frozen hbx0 3
  clear h hT hbw0 hbw hbx hrx hs1 hE1 hlen hkept hbx0 hrx0
  unfold refV
  go_enter Try.func88, Try.ntmps88
  go_upto_region 1 with fail
  rw [← hw0]
  clear hw0
  go_wp2_with fail
  rw [← hw1]
  clear hw1 b2 b3 f2 f3
  go_loopw [5, 6, 7] (fun v us i wr => ∃ (k u m : Nat) (l : List File), i = .int .i64 k ∧ us = .int .i64 u ∧ RCr D ts w1 wr v k u m l) (fun _ _ i _ => n - (intOf i).toNat)
  case atStart => exact ⟨0, 0, 0, [], rfl, rfl, Nat.zero_le _, Nat.le_refl _, World.ownsRow_nil _ _ _ _, rfl, Nat.le_refl _, Below.refl _ _, by simp⟩
  case round =>
    obtain ⟨k, u, m, l, rfl, rfl, hC⟩ := hrel
    have hkl := hC.le
    have hul := hC.used
    have hbl := hC.below
    have hbxr := (hbl.block _ (blk_lt Hbx.out)).trans Hbx.out
    have b1 := blk_cell hbxr 1
    have HC := Lib.hid hC
    have Hbxr := Lib.hid hbxr
    rw [hl.out] at hkl
    have hBr := hbl.size
    clear hC hbxr
    by_cases hlt : k < n
    · have hk : k < D.files.length := by rw [hl.out]; exact hlt
      obtain ⟨ad, b, o, nm, al, rfl, had, q0, q1, q2, e0, e1, z0, z1, en, ea⟩ := (H.out.below hbl).at2 hk
      have hix := fun W => run_file_index ad n c k hlt W
      simp only [had] at hix
      have hwk : IntKind.i64.wrap ((k : Int) + 1) = (k : Int) + 1 := IntWalk.i64_in _ (by omega)
      have hwu : IntKind.i64.wrap ((u : Int) + 1) = (u : Int) + 1 := IntWalk.i64_in _ (by omega)
      have hal : al.size ≤ 1048576 := by rw [z1]; exact Hlen.out _ (List.getElem_mem hk)
      have hkp : D.files[k].kept ≤ al.size := by rw [z1]; exact Hkept.out _ (List.getElem_mem hk)
      obtain ⟨kp, hkp0⟩ : ∃ kp, kp = D.files[k].kept := ⟨_, rfl⟩
      rw [← hkp0] at q2 hkp
      have Hen := Lib.hid en
      have Hea := Lib.hid ea
      have Hz1 := Lib.hid z1
      have Hkp0 := Lib.hid hkp0
      have Hbl := Lib.hid hbl
      clear e0 e1 z0 z1 had en ea hkp0 hbl
      by_cases hlo : kp < al.size
      · have hloose : Dsk.crashFile D.files[k] (ts.drop u) = (⟨D.files[k].name, D.files[k].all.take kp ++ Dsk.torn (D.files[k].all.drop kp) (ts.getD u (0, 0)), (D.files[k].all.take kp ++ Dsk.torn (D.files[k].all.drop kp) (ts.getD u (0, 0))).length⟩, ts.drop (u + 1)) := by
          unfold Dsk.crashFile
          rw [← Hkp0.out, ← Hz1.out, if_pos hlo, head_drop, tail_drop]
        have Hloose := Lib.hid hloose
        clear hloose
        have hsc := run_str_cut al kp hkp
        have hsf := run_str_from al kp hkp
        by_cases hu : u < nt
        · obtain ⟨adt, bt, ot, rfl, hadt, qt0, qt1⟩ := (HT.out.below Hbl.out).at hu
          have hixt := fun W => run_rtear_at adt nt ct u hu W
          simp only [hadt] at hixt
          have htb : (ts.getD u (0, 0)).1 < 65536 ∧ (ts.getD u (0, 0)).2 < 4294967296 := by
            have := HT.out.1
            rw [List.getD_eq_getElem?_getD, List.getElem?_eq_getElem (by omega)]
            exact HT.out.2.1 _ (List.getElem_mem _)
          obtain ⟨tk, htk⟩ : ∃ tk, tk = (ts.getD u (0, 0)).1 := ⟨_, rfl⟩
          obtain ⟨tt, htt⟩ : ∃ tt, tt = (ts.getD u (0, 0)).2 := ⟨_, rfl⟩
          rw [← htk, ← htt] at htb
          rw [← htk] at qt0
          rw [← htt] at qt1
          have Htk := Lib.hid htk
          have Htt := Lib.hid htt
          clear hadt htk htt
          go_upto_region 12 with fail
          obtain ⟨w4, hw4⟩ : ∃ w4, w4 = (wr.alloc (.cells #[.string nm, .string al, .int .i64 kp] 60)).alloc (.cells #[.int .u16 0, .int .u32 0] 198) := ⟨_, rfl⟩
          rw [← hw4]
          have hb4 : Below wr.heap.size wr w4 := by rw [hw4]; exact al2 _ _ _
          have hx4 : w4.heap[wr.heap.size]? = some (.cells #[.string nm, .string al, .int .i64 kp] 60 (0, 0)) := by rw [hw4]; exact blk_alloc (blk_new wr _) _
          have ht4 : w4.heap[wr.heap.size + 1]? = some (.cells #[.int .u16 0, .int .u32 0] 198 (0, 0)) := by rw [hw4]; exact blk_new1 wr _ _
          have p0 := (hb4.cell (p := ⟨bt, ot, none⟩) (cell_lt qt0)).trans qt0
          have p1 := (hb4.cell (p := ⟨bt, ot + 1, none⟩) (cell_lt qt1)).trans qt1
          have y0 := blk_cell ht4 0
          have y1 := blk_cell ht4 1
          have y2 := blk_frozen ht4 0
          have y3 := blk_frozen ht4 1
          clear hw4 qt0 qt1
          go_upto_region 14 with fail
          obtain ⟨w5, hw5⟩ : ∃ w5, w5 = (w4.setCell ⟨wr.heap.size + 1, 0, none⟩ (.int .u16 tk)).setCell ⟨wr.heap.size + 1, 1, none⟩ (.int .u32 tt) := ⟨_, rfl⟩
          rw [← hw5]
          have hE5 : Ext [wr.heap.size + 1] w4 w5 := by rw [hw5]; exact ((Ext.refl _ _).setCell (Or.inl (by simp)) _).setCell (Or.inl (by simp)) _
          have hx5 := hE5.obj hx4 (by simp)
          have ht5 : w5.heap[wr.heap.size + 1]? = some (.cells #[.int .u16 tk, .int .u32 tt] 198 (0, 0)) := by rw [hw5]; exact blk_set (blk_set ht4 0 _) 1 _
          have hb5 : Below wr.heap.size wr w5 := hb4.trans (hE5.below hb4.size (fun q hq => by rw [List.mem_singleton.1 hq]; omega))
          clear p0 p1 y0 y1 y2 y3 hx4 ht4 hb4 hw5 hE5 hixt
          clear q0 q1 q2 hix
          have b0 := blk_cell hx5 0
          have b1' := blk_cell hx5 1
          have b2' := blk_cell hx5 2
          have t0 := blk_cell ht5 0
          have t1 := blk_cell ht5 1
          obtain ⟨s1, hs1⟩ : ∃ s1, s1 = al.extract 0 kp := ⟨_, rfl⟩
          obtain ⟨s2, hs2⟩ : ∃ s2, s2 = al.extract kp al.size := ⟨_, rfl⟩
          rw [← hs1] at hsc
          rw [← hs2] at hsf
          have hl1 : s1.data.toList = D.files[k].all.take kp := by rw [hs1, Lib.extract_data, enc_list Hea.out]; simp
          have hl2 : s2.data.toList = D.files[k].all.drop kp := by rw [hs2, Lib.extract_data, enc_list Hea.out]; exact List.take_of_length_le (by rw [List.length_drop]; have := Hz1.out; omega)
          have hz1 : s1.size ≤ 1048576 := by rw [← ByteArray_len s1, hl1, List.length_take]; omega
          have hz2 : s2.size ≤ 1048576 := by rw [← ByteArray_len s2, hl2, List.length_drop]; have := Hz1.out; omega
          have Htorn := Lib.hid (fun W => reftorn_calls s2 tk tt W hz2 htb.1 htb.2)
          obtain ⟨y, hy⟩ : ∃ y : ByteArray, encStr (Dsk.torn s2.data.toList (tk, tt)) = .string y := ⟨_, rfl⟩
          rw [hy] at Htorn
          have hyl : y.size ≤ 1048576 := by have h1 := enc_size hy; have h2 := Dsk.torn_length s2.data.toList (tk, tt); rw [ByteArray_len s2] at h2; omega
          have hadd := run_str_add2 s1 y (by omega)
          have Hl1 := Lib.hid hl1
          have Hl2 := Lib.hid hl2
          have Hy := Lib.hid hy
          have Hx5 := Lib.hid hx5
          have Hb5 := Lib.hid hb5
          have hlt5 : wr.heap.size < w5.heap.size := blk_lt hx5
          clear hs1 hs2 hl1 hl2 hy hx5 hb5 ht5
          refine wp_region_last (fun w' => w'.cell? ⟨wr.heap.size, 1, none⟩ = some (.string al) ∧ w'.cell? ⟨wr.heap.size, 2, none⟩ = some (.int .i64 kp) ∧ w'.cell? ⟨wr.heap.size + 1, 0, none⟩ = some (.int .u16 tk) ∧ w'.cell? ⟨wr.heap.size + 1, 1, none⟩ = some (.int .u32 tt)) 14 (by kernel_rfl) ⟨b1', b2', t0, t1⟩ (fun hHeld => ?_)
          refine wpAnyL_take 0 (v := ?_) rfl (by kernel_rfl) (fun _ _ _ h => h) (Or.inl ⟨by rfl, ?_⟩) hHeld ?_
          rotate_left
          · (intro w hSw; (try dsimp only at hSw); go_simp; try with_reducible rfl)
          try simp only [Act.put, List.setIfInBounds_toArray, List.set_cons_zero, List.set_cons_succ]
          refine wpAnyL_take 1 (v := ?_) rfl (by kernel_rfl) (fun _ _ _ h => h) (Or.inl ⟨by rfl, ?_⟩) hHeld ?_
          rotate_left
          · (intro w hSw; (try dsimp only at hSw); go_simp; try with_reducible rfl)
          try simp only [Act.put, List.setIfInBounds_toArray, List.set_cons_zero, List.set_cons_succ]
          refine wpAnyL_take 2 (v := ?_) rfl (by kernel_rfl) (fun _ _ _ h => h) (Or.inl ⟨by rfl, ?_⟩) hHeld ?_
          rotate_left
          · (intro w hSw; (try dsimp only at hSw); go_simp; try with_reducible rfl)
          try simp only [Act.put, List.setIfInBounds_toArray, List.set_cons_zero, List.set_cons_succ]
          refine wpAnyL_take 3 (v := ?_) rfl (by kernel_rfl) (fun _ _ _ h => h) (Or.inl ⟨by rfl, ?_⟩) hHeld ?_
          rotate_left
          · (intro w hSw; (try dsimp only at hSw); go_simp; try with_reducible rfl)
          try simp only [Act.put, List.setIfInBounds_toArray, List.set_cons_zero, List.set_cons_succ]
          refine wpAnyL_take 4 (v := ?_) rfl (by kernel_rfl) (fun _ _ _ h => h) (Or.inl ⟨by rfl, ?_⟩) hHeld ?_
          rotate_left
          · (intro w hSw; (try dsimp only at hSw); go_simp; try with_reducible rfl)
          try simp only [Act.put, List.setIfInBounds_toArray, List.set_cons_zero, List.set_cons_succ]
          refine wpAnyL_take 5 (v := ?_) rfl (by kernel_rfl) (fun _ _ _ h => h) (Or.inl ⟨by rfl, ?_⟩) hHeld ?_
          rotate_left
          · (intro w hSw; (try dsimp only at hSw); go_simp; try with_reducible rfl)
          try simp only [Act.put, List.setIfInBounds_toArray, List.set_cons_zero, List.set_cons_succ]
          refine wpAnyL_take 6 (v := ?_) rfl (by kernel_rfl) (fun _ _ _ h => h) (Or.inl ⟨by rfl, ?_⟩) hHeld ?_
          rotate_left
          · (intro w hSw; (try dsimp only at hSw); go_simp; try with_reducible rfl)
          try simp only [Act.put, List.setIfInBounds_toArray, List.set_cons_zero, List.set_cons_succ]
          refine wpAnyL_take 7 (v := ?_) rfl (by kernel_rfl) (fun _ _ _ h => h) (Or.inl ⟨by rfl, ?_⟩) hHeld ?_
          rotate_left
          · (intro w hSw; (try dsimp only at hSw); go_simp; try with_reducible rfl)
          try simp only [Act.put, List.setIfInBounds_toArray, List.set_cons_zero, List.set_cons_succ]
          refine wpAnyL_take 8 (v := ?_) rfl (by kernel_rfl) (fun _ _ _ h => h) (Or.inl ⟨by rfl, ?_⟩) hHeld ?_
          rotate_left
          · (intro w hSw; (try dsimp only at hSw); go_simp; try with_reducible rfl)
          try simp only [Act.put, List.setIfInBounds_toArray, List.set_cons_zero, List.set_cons_succ]
          refine wpAnyL_take 9 (v := ?_) rfl (by kernel_rfl) (fun _ _ _ h => h) (Or.inl ⟨by rfl, ?_⟩) hHeld ?_
          rotate_left
          · (intro w hSw; (try dsimp only at hSw); go_simp; try with_reducible rfl)
          try simp only [Act.put, List.setIfInBounds_toArray, List.set_cons_zero, List.set_cons_succ]
          refine wpAnyL_take 10 (v := ?_) rfl (by kernel_rfl) (fun _ _ _ h => h) (Or.inl ⟨by rfl, ?_⟩) hHeld ?_
          rotate_left
          · (intro w hSw; (try dsimp only at hSw); go_simp; try with_reducible rfl)
          try simp only [Act.put, List.setIfInBounds_toArray, List.set_cons_zero, List.set_cons_succ]
          refine wpAnyL_one 11 (by kernel_rfl) rfl (fun K hK => ?_)
          go_simp
          go_at_call 131
          refine (Htorn.out _).mono ?_
          rintro e w6 ⟨rfl, hb6⟩
          replace hb6 : Below w5.heap.size w5 w6 := ((Below.refl w5.heap.size w5).drew).trans hb6
          have r1 : w6.cell? ⟨wr.heap.size, 1, none⟩ = some (.string al) := (hb6.cell (p := ⟨wr.heap.size, 1, none⟩) hlt5).trans b1'
          have r2 : w6.cell? ⟨wr.heap.size, 2, none⟩ = some (.int .i64 kp) := (hb6.cell (p := ⟨wr.heap.size, 2, none⟩) hlt5).trans b2'
          have r3 : w6.cell? ⟨wr.heap.size + 1, 0, none⟩ = some (.int .u16 tk) := (hb6.cell (p := ⟨wr.heap.size + 1, 0, none⟩) (cell_lt t0)).trans t0
          have r4 : w6.cell? ⟨wr.heap.size + 1, 1, none⟩ = some (.int .u32 tt) := (hb6.cell (p := ⟨wr.heap.size + 1, 1, none⟩) (cell_lt t1)).trans t1
          refine hK.out _ _ (fun _ => ⟨r1, r2, r3, r4⟩) ?_
          clear hK K
          try simp only [Act.put, List.setIfInBounds_toArray, List.set_cons_zero, List.set_cons_succ]
          have hx6 := (hb6.block _ hlt5).trans Hx5.out
          have g1 := blk_frozen hx6 1
          refine wpAnyL_one 12 (by kernel_rfl) rfl (fun K hK => ?_)
          go_simp
          refine hK.out _ _ (fun _ => ⟨r1, r2, r3, r4⟩) ?_
          clear hK K
          try simp only [Act.put, List.setIfInBounds_toArray, List.set_cons_zero, List.set_cons_succ]
          clear hHeld
          have hHeld := And.intro r1 (And.intro r2 (And.intro r3 r4))
          refine wpAnyL_take 13 (v := ?_) rfl (by kernel_rfl) (fun _ _ _ h => h) (Or.inl ⟨by rfl, ?_⟩) hHeld ?_
          rotate_left
          · (intro w hSw; (try dsimp only at hSw); go_simp; try with_reducible rfl)
          try simp only [Act.put, List.setIfInBounds_toArray, List.set_cons_zero, List.set_cons_succ]
          refine wpAnyL_one 14 (by kernel_rfl) rfl (fun K hK => ?_)
          go_simp
          refine hK.out _ _ (fun h => absurd rfl h) ?_
          clear hK K
          refine wpAnyL_done (by kernel_rfl) ?_ _
          obtain ⟨w7, hw7⟩ : ∃ w7, w7 = w6.setCell ⟨wr.heap.size, 1, none⟩ (.string (s1 ++ y)) := ⟨_, rfl⟩
          rw [← hw7]
          have hx7 : w7.heap[wr.heap.size]? = some (.cells #[.string nm, .string (s1 ++ y), .int .i64 kp] 60 (0, 0)) := by rw [hw7]; exact blk_set hx6 1 _
          have hE7 : Ext [wr.heap.size] w6 w7 := by rw [hw7]; exact (Ext.refl _ _).setCell (Or.inl (by simp)) _
          have hb7 : Below wr.heap.size wr w7 := (Hb5.out.trans (hb6.mono Hb5.out.size)).trans (hE7.below (by have := Hb5.out.size; have := hb6.size; omega) (fun q hq => by rw [List.mem_singleton.1 hq]; exact Nat.le_refl _))
          have i0 := blk_cell hx7 0
          have i1 := blk_cell hx7 1
          have i2 := blk_cell hx7 2
          have j2 := blk_frozen hx7 2
          have Hx7 := Lib.hid hx7
          have Hb7 := Lib.hid hb7
          clear hw7 hx7 hE7 hb7 g1 hx6 r1 r2 r3 r4 b0 b1' b2' t0 t1
          obtain ⟨r, hr⟩ : ∃ r, r = s1 ++ y := ⟨_, rfl⟩
          have hrz : r.size = s1.size + y.size := by rw [hr, ByteArray.size_append]
          have hrl : r.data.toList = D.files[k].all.take kp ++ Dsk.torn (D.files[k].all.drop kp) (ts.getD u (0, 0)) := by
            have h1 := enc_list Hy.out
            rw [Hl2.out] at h1
            have h2 : (tk, tt) = ts.getD u (0, 0) := by rw [Htk.out, Htt.out]
            rw [h2] at h1
            rw [hr, ← h1, ← Hl1.out]
            simp [ByteArray.data_append]
          have Hrl := Lib.hid hrl
          rw [← hr] at i1
          rw [← hr] at Hx7
          clear hr hrl hrz
          go_upto_region 16 with fail
          obtain ⟨w8, hw8⟩ : ∃ w8, w8 = w7.setCell ⟨wr.heap.size, 2, none⟩ (.int .i64 r.size) := ⟨_, rfl⟩
          rw [← hw8]
          have hx8 : w8.heap[wr.heap.size]? = some (.cells #[.string nm, .string r, .int .i64 r.size] 60 (0, 0)) := by rw [hw8]; exact blk_set Hx7.out 2 _
          have hE8 : Ext [wr.heap.size] w7 w8 := by rw [hw8]; exact (Ext.refl _ _).setCell (Or.inl (by simp)) _
          have hb8 : Below wr.heap.size wr w8 := Hb7.out.trans (hE8.below Hb7.out.size (fun q hq => by rw [List.mem_singleton.1 hq]; exact Nat.le_refl _))
          have hcf : Dsk.crashFile D.files[k] (ts.drop u) = (⟨D.files[k].name, r.data.toList, r.size⟩, ts.drop (u + 1)) := by rw [Hloose.out, Hrl.out, ← ByteArray_len r, Hrl.out]
          obtain ⟨f', hf'⟩ : ∃ f' : File, f' = ⟨D.files[k].name, r.data.toList, r.size⟩ := ⟨_, rfl⟩
          rw [← hf'] at hcf
          have Hfn := Lib.hid (show encStr f'.name = .string nm by rw [hf']; exact Hen.out)
          have Hfa := Lib.hid (show encStr f'.all = .string r by rw [hf']; try exact enc_of rfl)
          have Hfk := Lib.hid (show (Value.int .i64 r.size) = .int .i64 f'.kept by rw [hf'])
          clear hw8 i0 i1 i2 j2 hE8 hf'
          have Hcf := Lib.hid hcf
          have Hx8 := Lib.hid hx8
          have Hb8 := Lib.hid hb8
          have i0 := blk_cell hx8 0
          have i1 := blk_cell hx8 1
          have i2 := blk_cell hx8 2
          clear hcf hx8 hb8
          by_cases hr0 : r.size = 0
          · have g0 : decide ((0 : Int) < (r.size : Int)) = false := decide_eq_false (by omega)
            have g0n : decide (0 < r.size) = false := decide_eq_false (by omega)
            have hfe : f'.all = [] := (enc_nil Hfa.out).2 hr0
            have Hfe := Lib.hid hfe
            have Hr0 := Lib.hid hr0
            clear hfe hr0
            go_wp2_with fail
            go_roundw
            case rel =>
              have hg := crash_step hk HC.out.goes Hcf.out
              rw [if_pos Hfe.out, List.append_nil] at hg
              exact ⟨k + 1, u + 1, m, l, by simp, by go_num, by have := hl.out; omega, by omega, HC.out.own.kept_ext (Ext.of_below (S := []) (Hb8.out.mono (Nat.le_refl _))) (fun q hq => by cases hq), HC.out.len, by have := HC.out.few; omega, Hbl.out.trans (Hb8.out.mono hBr), hg⟩
            case measure => simp [intOf]; omega
          · have g0 : decide ((0 : Int) < (r.size : Int)) = true := decide_eq_true (by omega)
            have g0n : decide (0 < r.size) = true := decide_eq_true (by omega)
            have Hfe := Lib.hid (show ¬ f'.all = [] from fun h => hr0 ((enc_nil Hfa.out).1 h))
            have Hr0 := Lib.hid hr0
            clear hr0
            have hown8 := HC.out.own.kept_ext (Ext.of_below (S := []) Hb8.out) (fun q hq => by cases hq)
            have Hown8 := Lib.hid hown8
            have hm1 : m ≤ 1048576 := by have := HC.out.few; omega
            have hsz8 : w1.heap.size ≤ w8.heap.size := by have := Hb8.out.size; omega
            clear hown8
            go_wp2_with (at_builtin; refine wpList_append_file _ rfl _ _ rfl w1.heap.size _ m _ rfl (Hown8.out.alloc _) w8.heap.size 1 f' rfl (by rw [Hfn.out, Hfa.out, ← Hfk.out]; exact blk_new w8 _) hm1 (Nat.le_trans hsz8 (by simp)) ?_; intro v' w9 hown9 hgr9)
            go_roundw
            case rel =>
              have hg := crash_step hk HC.out.goes Hcf.out
              rw [if_neg Hfe.out] at hg
              have hb9 : Below w1.heap.size w1 w9 := ((Hbl.out.trans (Hb8.out.mono hBr)).alloc hsz8 _).grown hgr9 (by simp; omega) (fun q hq => (Hown8.out.lt q hq).1)
              exact ⟨k + 1, u + 1, m + 1, l ++ [f'], by simp, by go_num, by have := hl.out; omega, by omega, hown9, by rw [List.length_append, ← HC.out.len]; rfl, by have := HC.out.few; omega, hb9, hg⟩
            case measure => simp [intOf]; omega

        · have hz0 : ts.getD u (0, 0) = (0, 0) := by
            have := HT.out.1
            rw [List.getD_eq_getElem?_getD, List.getElem?_eq_none (by omega)]
            rfl
          obtain ⟨tk, htk⟩ : ∃ tk : Nat, tk = 0 := ⟨_, rfl⟩
          obtain ⟨tt, htt⟩ : ∃ tt : Nat, tt = 0 := ⟨_, rfl⟩
          have htb : tk < 65536 ∧ tt < 4294967296 := by omega
          have Htk := Lib.hid (show tk = (ts.getD u (0, 0)).1 by rw [hz0, htk])
          have Htt := Lib.hid (show tt = (ts.getD u (0, 0)).2 by rw [hz0, htt])
          have Htk0 := Lib.hid htk
          have Htt0 := Lib.hid htt
          clear htk htt hz0
          go_upto_region 14 with fail
          obtain ⟨w5, hw5⟩ : ∃ w5, w5 = (wr.alloc (.cells #[.string nm, .string al, .int .i64 kp] 60)).alloc (.cells #[.int .u16 0, .int .u32 0] 198) := ⟨_, rfl⟩
          rw [← hw5]
          have hb5 : Below wr.heap.size wr w5 := by rw [hw5]; exact al2 _ _ _
          have hx5 : w5.heap[wr.heap.size]? = some (.cells #[.string nm, .string al, .int .i64 kp] 60 (0, 0)) := by rw [hw5]; exact blk_alloc (blk_new wr _) _
          have ht5 : w5.heap[wr.heap.size + 1]? = some (.cells #[.int .u16 tk, .int .u32 tt] 198 (0, 0)) := by rw [hw5, Htk0.out, Htt0.out]; exact blk_new1 wr _ _
          clear hw5
          clear q0 q1 q2 hix
          have b0 := blk_cell hx5 0
          have b1' := blk_cell hx5 1
          have b2' := blk_cell hx5 2
          have t0 := blk_cell ht5 0
          have t1 := blk_cell ht5 1
          obtain ⟨s1, hs1⟩ : ∃ s1, s1 = al.extract 0 kp := ⟨_, rfl⟩
          obtain ⟨s2, hs2⟩ : ∃ s2, s2 = al.extract kp al.size := ⟨_, rfl⟩
          rw [← hs1] at hsc
          rw [← hs2] at hsf
          have hl1 : s1.data.toList = D.files[k].all.take kp := by rw [hs1, Lib.extract_data, enc_list Hea.out]; simp
          have hl2 : s2.data.toList = D.files[k].all.drop kp := by rw [hs2, Lib.extract_data, enc_list Hea.out]; exact List.take_of_length_le (by rw [List.length_drop]; have := Hz1.out; omega)
          have hz1 : s1.size ≤ 1048576 := by rw [← ByteArray_len s1, hl1, List.length_take]; omega
          have hz2 : s2.size ≤ 1048576 := by rw [← ByteArray_len s2, hl2, List.length_drop]; have := Hz1.out; omega
          have Htorn := Lib.hid (fun W => reftorn_calls s2 tk tt W hz2 htb.1 htb.2)
          obtain ⟨y, hy⟩ : ∃ y : ByteArray, encStr (Dsk.torn s2.data.toList (tk, tt)) = .string y := ⟨_, rfl⟩
          rw [hy] at Htorn
          have hyl : y.size ≤ 1048576 := by have h1 := enc_size hy; have h2 := Dsk.torn_length s2.data.toList (tk, tt); rw [ByteArray_len s2] at h2; omega
          have hadd := run_str_add2 s1 y (by omega)
          have Hl1 := Lib.hid hl1
          have Hl2 := Lib.hid hl2
          have Hy := Lib.hid hy
          have Hx5 := Lib.hid hx5
          have Hb5 := Lib.hid hb5
          have hlt5 : wr.heap.size < w5.heap.size := blk_lt hx5
          clear hs1 hs2 hl1 hl2 hy hx5 hb5 ht5
          refine wp_region_last (fun w' => w'.cell? ⟨wr.heap.size, 1, none⟩ = some (.string al) ∧ w'.cell? ⟨wr.heap.size, 2, none⟩ = some (.int .i64 kp) ∧ w'.cell? ⟨wr.heap.size + 1, 0, none⟩ = some (.int .u16 tk) ∧ w'.cell? ⟨wr.heap.size + 1, 1, none⟩ = some (.int .u32 tt)) 14 (by kernel_rfl) ⟨b1', b2', t0, t1⟩ (fun hHeld => ?_)
          refine wpAnyL_take 0 (v := ?_) rfl (by kernel_rfl) (fun _ _ _ h => h) (Or.inl ⟨by rfl, ?_⟩) hHeld ?_
          rotate_left
          · (intro w hSw; (try dsimp only at hSw); go_simp; try with_reducible rfl)
          try simp only [Act.put, List.setIfInBounds_toArray, List.set_cons_zero, List.set_cons_succ]
          refine wpAnyL_take 1 (v := ?_) rfl (by kernel_rfl) (fun _ _ _ h => h) (Or.inl ⟨by rfl, ?_⟩) hHeld ?_
          rotate_left
          · (intro w hSw; (try dsimp only at hSw); go_simp; try with_reducible rfl)
          try simp only [Act.put, List.setIfInBounds_toArray, List.set_cons_zero, List.set_cons_succ]
          refine wpAnyL_take 2 (v := ?_) rfl (by kernel_rfl) (fun _ _ _ h => h) (Or.inl ⟨by rfl, ?_⟩) hHeld ?_
          rotate_left
          · (intro w hSw; (try dsimp only at hSw); go_simp; try with_reducible rfl)
          try simp only [Act.put, List.setIfInBounds_toArray, List.set_cons_zero, List.set_cons_succ]
          refine wpAnyL_take 3 (v := ?_) rfl (by kernel_rfl) (fun _ _ _ h => h) (Or.inl ⟨by rfl, ?_⟩) hHeld ?_
          rotate_left
          · (intro w hSw; (try dsimp only at hSw); go_simp; try with_reducible rfl)
          try simp only [Act.put, List.setIfInBounds_toArray, List.set_cons_zero, List.set_cons_succ]
          refine wpAnyL_take 4 (v := ?_) rfl (by kernel_rfl) (fun _ _ _ h => h) (Or.inl ⟨by rfl, ?_⟩) hHeld ?_
          rotate_left
          · (intro w hSw; (try dsimp only at hSw); go_simp; try with_reducible rfl)
          try simp only [Act.put, List.setIfInBounds_toArray, List.set_cons_zero, List.set_cons_succ]
          refine wpAnyL_take 5 (v := ?_) rfl (by kernel_rfl) (fun _ _ _ h => h) (Or.inl ⟨by rfl, ?_⟩) hHeld ?_
          rotate_left
          · (intro w hSw; (try dsimp only at hSw); go_simp; try with_reducible rfl)
          try simp only [Act.put, List.setIfInBounds_toArray, List.set_cons_zero, List.set_cons_succ]
          refine wpAnyL_take 6 (v := ?_) rfl (by kernel_rfl) (fun _ _ _ h => h) (Or.inl ⟨by rfl, ?_⟩) hHeld ?_
          rotate_left
          · (intro w hSw; (try dsimp only at hSw); go_simp; try with_reducible rfl)
          try simp only [Act.put, List.setIfInBounds_toArray, List.set_cons_zero, List.set_cons_succ]
          refine wpAnyL_take 7 (v := ?_) rfl (by kernel_rfl) (fun _ _ _ h => h) (Or.inl ⟨by rfl, ?_⟩) hHeld ?_
          rotate_left
          · (intro w hSw; (try dsimp only at hSw); go_simp; try with_reducible rfl)
          try simp only [Act.put, List.setIfInBounds_toArray, List.set_cons_zero, List.set_cons_succ]
          refine wpAnyL_take 8 (v := ?_) rfl (by kernel_rfl) (fun _ _ _ h => h) (Or.inl ⟨by rfl, ?_⟩) hHeld ?_
          rotate_left
          · (intro w hSw; (try dsimp only at hSw); go_simp; try with_reducible rfl)
          try simp only [Act.put, List.setIfInBounds_toArray, List.set_cons_zero, List.set_cons_succ]
          refine wpAnyL_take 9 (v := ?_) rfl (by kernel_rfl) (fun _ _ _ h => h) (Or.inl ⟨by rfl, ?_⟩) hHeld ?_
          rotate_left
          · (intro w hSw; (try dsimp only at hSw); go_simp; try with_reducible rfl)
          try simp only [Act.put, List.setIfInBounds_toArray, List.set_cons_zero, List.set_cons_succ]
          refine wpAnyL_take 10 (v := ?_) rfl (by kernel_rfl) (fun _ _ _ h => h) (Or.inl ⟨by rfl, ?_⟩) hHeld ?_
          rotate_left
          · (intro w hSw; (try dsimp only at hSw); go_simp; try with_reducible rfl)
          try simp only [Act.put, List.setIfInBounds_toArray, List.set_cons_zero, List.set_cons_succ]
          refine wpAnyL_one 11 (by kernel_rfl) rfl (fun K hK => ?_)
          go_simp
          go_at_call 131
          refine (Htorn.out _).mono ?_
          rintro e w6 ⟨rfl, hb6⟩
          replace hb6 : Below w5.heap.size w5 w6 := ((Below.refl w5.heap.size w5).drew).trans hb6
          have r1 : w6.cell? ⟨wr.heap.size, 1, none⟩ = some (.string al) := (hb6.cell (p := ⟨wr.heap.size, 1, none⟩) hlt5).trans b1'
          have r2 : w6.cell? ⟨wr.heap.size, 2, none⟩ = some (.int .i64 kp) := (hb6.cell (p := ⟨wr.heap.size, 2, none⟩) hlt5).trans b2'
          have r3 : w6.cell? ⟨wr.heap.size + 1, 0, none⟩ = some (.int .u16 tk) := (hb6.cell (p := ⟨wr.heap.size + 1, 0, none⟩) (cell_lt t0)).trans t0
          have r4 : w6.cell? ⟨wr.heap.size + 1, 1, none⟩ = some (.int .u32 tt) := (hb6.cell (p := ⟨wr.heap.size + 1, 1, none⟩) (cell_lt t1)).trans t1
          refine hK.out _ _ (fun _ => ⟨r1, r2, r3, r4⟩) ?_
          clear hK K
          try simp only [Act.put, List.setIfInBounds_toArray, List.set_cons_zero, List.set_cons_succ]
          have hx6 := (hb6.block _ hlt5).trans Hx5.out
          have g1 := blk_frozen hx6 1
          refine wpAnyL_one 12 (by kernel_rfl) rfl (fun K hK => ?_)
          go_simp
          refine hK.out _ _ (fun _ => ⟨r1, r2, r3, r4⟩) ?_
          clear hK K
          try simp only [Act.put, List.setIfInBounds_toArray, List.set_cons_zero, List.set_cons_succ]
          clear hHeld
          have hHeld := And.intro r1 (And.intro r2 (And.intro r3 r4))
          refine wpAnyL_take 13 (v := ?_) rfl (by kernel_rfl) (fun _ _ _ h => h) (Or.inl ⟨by rfl, ?_⟩) hHeld ?_
          rotate_left
          · (intro w hSw; (try dsimp only at hSw); go_simp; try with_reducible rfl)
          try simp only [Act.put, List.setIfInBounds_toArray, List.set_cons_zero, List.set_cons_succ]
          refine wpAnyL_one 14 (by kernel_rfl) rfl (fun K hK => ?_)
          go_simp
          refine hK.out _ _ (fun h => absurd rfl h) ?_
          clear hK K
          refine wpAnyL_done (by kernel_rfl) ?_ _
          obtain ⟨w7, hw7⟩ : ∃ w7, w7 = w6.setCell ⟨wr.heap.size, 1, none⟩ (.string (s1 ++ y)) := ⟨_, rfl⟩
          rw [← hw7]
          have hx7 : w7.heap[wr.heap.size]? = some (.cells #[.string nm, .string (s1 ++ y), .int .i64 kp] 60 (0, 0)) := by rw [hw7]; exact blk_set hx6 1 _
          have hE7 : Ext [wr.heap.size] w6 w7 := by rw [hw7]; exact (Ext.refl _ _).setCell (Or.inl (by simp)) _
          have hb7 : Below wr.heap.size wr w7 := (Hb5.out.trans (hb6.mono Hb5.out.size)).trans (hE7.below (by have := Hb5.out.size; have := hb6.size; omega) (fun q hq => by rw [List.mem_singleton.1 hq]; exact Nat.le_refl _))
          have i0 := blk_cell hx7 0
          have i1 := blk_cell hx7 1
          have i2 := blk_cell hx7 2
          have j2 := blk_frozen hx7 2
          have Hx7 := Lib.hid hx7
          have Hb7 := Lib.hid hb7
          clear hw7 hx7 hE7 hb7 g1 hx6 r1 r2 r3 r4 b0 b1' b2' t0 t1
          obtain ⟨r, hr⟩ : ∃ r, r = s1 ++ y := ⟨_, rfl⟩
          have hrz : r.size = s1.size + y.size := by rw [hr, ByteArray.size_append]
          have hrl : r.data.toList = D.files[k].all.take kp ++ Dsk.torn (D.files[k].all.drop kp) (ts.getD u (0, 0)) := by
            have h1 := enc_list Hy.out
            rw [Hl2.out] at h1
            have h2 : (tk, tt) = ts.getD u (0, 0) := by rw [Htk.out, Htt.out]
            rw [h2] at h1
            rw [hr, ← h1, ← Hl1.out]
            simp [ByteArray.data_append]
          have Hrl := Lib.hid hrl
          rw [← hr] at i1
          rw [← hr] at Hx7
          clear hr hrl hrz
          go_upto_region 16 with fail
          obtain ⟨w8, hw8⟩ : ∃ w8, w8 = w7.setCell ⟨wr.heap.size, 2, none⟩ (.int .i64 r.size) := ⟨_, rfl⟩
          rw [← hw8]
          have hx8 : w8.heap[wr.heap.size]? = some (.cells #[.string nm, .string r, .int .i64 r.size] 60 (0, 0)) := by rw [hw8]; exact blk_set Hx7.out 2 _
          have hE8 : Ext [wr.heap.size] w7 w8 := by rw [hw8]; exact (Ext.refl _ _).setCell (Or.inl (by simp)) _
          have hb8 : Below wr.heap.size wr w8 := Hb7.out.trans (hE8.below Hb7.out.size (fun q hq => by rw [List.mem_singleton.1 hq]; exact Nat.le_refl _))
          have hcf : Dsk.crashFile D.files[k] (ts.drop u) = (⟨D.files[k].name, r.data.toList, r.size⟩, ts.drop (u + 1)) := by rw [Hloose.out, Hrl.out, ← ByteArray_len r, Hrl.out]
          obtain ⟨f', hf'⟩ : ∃ f' : File, f' = ⟨D.files[k].name, r.data.toList, r.size⟩ := ⟨_, rfl⟩
          rw [← hf'] at hcf
          have Hfn := Lib.hid (show encStr f'.name = .string nm by rw [hf']; exact Hen.out)
          have Hfa := Lib.hid (show encStr f'.all = .string r by rw [hf']; try exact enc_of rfl)
          have Hfk := Lib.hid (show (Value.int .i64 r.size) = .int .i64 f'.kept by rw [hf'])
          clear hw8 i0 i1 i2 j2 hE8 hf'
          have Hcf := Lib.hid hcf
          have Hx8 := Lib.hid hx8
          have Hb8 := Lib.hid hb8
          have i0 := blk_cell hx8 0
          have i1 := blk_cell hx8 1
          have i2 := blk_cell hx8 2
          clear hcf hx8 hb8
          by_cases hr0 : r.size = 0
          · have g0 : decide ((0 : Int) < (r.size : Int)) = false := decide_eq_false (by omega)
            have g0n : decide (0 < r.size) = false := decide_eq_false (by omega)
            have hfe : f'.all = [] := (enc_nil Hfa.out).2 hr0
            have Hfe := Lib.hid hfe
            have Hr0 := Lib.hid hr0
            clear hfe hr0
            go_wp2_with fail
            go_roundw
            case rel =>
              have hg := crash_step hk HC.out.goes Hcf.out
              rw [if_pos Hfe.out, List.append_nil] at hg
              exact ⟨k + 1, u + 1, m, l, by simp, by go_num, by have := hl.out; omega, by omega, HC.out.own.kept_ext (Ext.of_below (S := []) (Hb8.out.mono (Nat.le_refl _))) (fun q hq => by cases hq), HC.out.len, by have := HC.out.few; omega, Hbl.out.trans (Hb8.out.mono hBr), hg⟩
            case measure => simp [intOf]; omega
          · have g0 : decide ((0 : Int) < (r.size : Int)) = true := decide_eq_true (by omega)
            have g0n : decide (0 < r.size) = true := decide_eq_true (by omega)
            have Hfe := Lib.hid (show ¬ f'.all = [] from fun h => hr0 ((enc_nil Hfa.out).1 h))
            have Hr0 := Lib.hid hr0
            clear hr0
            have hown8 := HC.out.own.kept_ext (Ext.of_below (S := []) Hb8.out) (fun q hq => by cases hq)
            have Hown8 := Lib.hid hown8
            have hm1 : m ≤ 1048576 := by have := HC.out.few; omega
            have hsz8 : w1.heap.size ≤ w8.heap.size := by have := Hb8.out.size; omega
            clear hown8
            go_wp2_with (at_builtin; refine wpList_append_file _ rfl _ _ rfl w1.heap.size _ m _ rfl (Hown8.out.alloc _) w8.heap.size 1 f' rfl (by rw [Hfn.out, Hfa.out, ← Hfk.out]; exact blk_new w8 _) hm1 (Nat.le_trans hsz8 (by simp)) ?_; intro v' w9 hown9 hgr9)
            go_roundw
            case rel =>
              have hg := crash_step hk HC.out.goes Hcf.out
              rw [if_neg Hfe.out] at hg
              have hb9 : Below w1.heap.size w1 w9 := ((Hbl.out.trans (Hb8.out.mono hBr)).alloc hsz8 _).grown hgr9 (by simp; omega) (fun q hq => (Hown8.out.lt q hq).1)
              exact ⟨k + 1, u + 1, m + 1, l ++ [f'], by simp, by go_num, by have := hl.out; omega, by omega, hown9, by rw [List.length_append, ← HC.out.len]; rfl, by have := HC.out.few; omega, hb9, hg⟩
            case measure => simp [intOf]; omega

      · have hcf0 : Dsk.crashFile D.files[k] (ts.drop u) = (D.files[k], ts.drop u) := crashFile_lone (by rw [← Hkp0.out, ← Hz1.out]; exact hlo)
        have glo : decide (kp < al.size) = false := decide_eq_false hlo
        go_upto_region 16 with fail
        obtain ⟨w8, hw8⟩ : ∃ w8, w8 = wr.alloc (.cells #[.string nm, .string al, .int .i64 kp] 60) := ⟨_, rfl⟩
        rw [← hw8]
        have hx8 : w8.heap[wr.heap.size]? = some (.cells #[.string nm, .string al, .int .i64 kp] 60 (0, 0)) := by rw [hw8]; exact blk_new wr _
        have hb8 : Below wr.heap.size wr w8 := by rw [hw8]; exact al1 _ _
        obtain ⟨f', hf'⟩ : ∃ f' : File, f' = D.files[k] := ⟨_, rfl⟩
        have hcf : Dsk.crashFile D.files[k] (ts.drop u) = (f', ts.drop u) := by rw [hf']; exact hcf0
        have Hfn := Lib.hid (show encStr f'.name = .string nm by rw [hf']; exact Hen.out)
        have Hfa := Lib.hid (show encStr f'.all = .string al by rw [hf']; exact Hea.out)
        have Hfk := Lib.hid (show (Value.int .i64 kp) = .int .i64 f'.kept by rw [hf', Hkp0.out])
        have Hcf0 := Lib.hid hcf
        clear q0 q1 q2 hix hw8 hf' hcf hcf0
        have hcf := Hcf0.out
        have Hcf := Lib.hid hcf
        have Hx8 := Lib.hid hx8
        have Hb8 := Lib.hid hb8
        have i0 := blk_cell hx8 0
        have i1 := blk_cell hx8 1
        have i2 := blk_cell hx8 2
        clear hcf hx8 hb8
        by_cases hr0 : al.size = 0
        · have g0 : decide ((0 : Int) < (al.size : Int)) = false := decide_eq_false (by omega)
          have g0n : decide (0 < al.size) = false := decide_eq_false (by omega)
          have hfe : f'.all = [] := (enc_nil Hfa.out).2 hr0
          have Hfe := Lib.hid hfe
          have Hr0 := Lib.hid hr0
          clear hfe hr0
          go_wp2_with fail
          go_roundw
          case rel =>
            have hg := crash_step hk HC.out.goes Hcf.out
            rw [if_pos Hfe.out, List.append_nil] at hg
            exact ⟨k + 1, u, m, l, by simp, by go_num, by have := hl.out; omega, by omega, HC.out.own.kept_ext (Ext.of_below (S := []) (Hb8.out.mono (Nat.le_refl _))) (fun q hq => by cases hq), HC.out.len, by have := HC.out.few; omega, Hbl.out.trans (Hb8.out.mono hBr), hg⟩
          case measure => simp [intOf]; omega
        · have g0 : decide ((0 : Int) < (al.size : Int)) = true := decide_eq_true (by omega)
          have g0n : decide (0 < al.size) = true := decide_eq_true (by omega)
          have Hfe := Lib.hid (show ¬ f'.all = [] from fun h => hr0 ((enc_nil Hfa.out).1 h))
          have Hr0 := Lib.hid hr0
          clear hr0
          have hown8 := HC.out.own.kept_ext (Ext.of_below (S := []) Hb8.out) (fun q hq => by cases hq)
          have Hown8 := Lib.hid hown8
          have hm1 : m ≤ 1048576 := by have := HC.out.few; omega
          have hsz8 : w1.heap.size ≤ w8.heap.size := by have := Hb8.out.size; omega
          clear hown8
          go_wp2_with (at_builtin; refine wpList_append_file _ rfl _ _ rfl w1.heap.size _ m _ rfl (Hown8.out.alloc _) w8.heap.size 1 f' rfl (by rw [Hfn.out, Hfa.out, ← Hfk.out]; exact blk_new w8 _) hm1 (Nat.le_trans hsz8 (by simp)) ?_; intro v' w9 hown9 hgr9)
          go_roundw
          case rel =>
            have hg := crash_step hk HC.out.goes Hcf.out
            rw [if_neg Hfe.out] at hg
            have hb9 : Below w1.heap.size w1 w9 := ((Hbl.out.trans (Hb8.out.mono hBr)).alloc hsz8 _).grown hgr9 (by simp; omega) (fun q hq => (Hown8.out.lt q hq).1)
            exact ⟨k + 1, u, m + 1, l ++ [f'], by simp, by go_num, by have := hl.out; omega, by omega, hown9, by rw [List.length_append, ← HC.out.len]; rfl, by have := HC.out.few; omega, hb9, hg⟩
          case measure => simp [intOf]; omega

    · have hkn2 : k = n := by omega
      have hg := HC.out.goes
      rw [hkn2, ← hl.out, List.drop_length] at hg
      have hg : Dsk.crashGo D.files ts = l := by rw [hg]; exact List.append_nil l
      have Hg := Lib.hid hg
      obtain ⟨A2, c2, rfl, hf2, hc2⟩ := RFiles.of_own HC.out.own
      have hrxr := (hbl.block _ (blk_lt Hrx.out)).trans Hrx.out
      have hbxr := Hbxr.out
      have b0 := blk_cell hbxr 0
      have b2 := blk_cell hbxr 2
      have b3 := blk_cell hbxr 3
      have b4 := blk_cell hbxr 4
      have f1 := blk_frozen hbxr 1
      have r0 := blk_cell hrxr 0
      have r1 := blk_cell hrxr 1
      have r2 := blk_cell hrxr 2
      have r3 := blk_cell hrxr 3
      have r4 := blk_cell hrxr 4
      have g0 := blk_frozen hrxr 0
      have g1 := blk_frozen hrxr 1
      have g2 := blk_frozen hrxr 2
      have g3 := blk_frozen hrxr 3
      have g4 := blk_frozen hrxr 4
      have Hrxr := Lib.hid hrxr
      have Hbl := Lib.hid hbl
      clear hkn2 hg hf2 hbxr hrxr hbl
      go_wp2
      obtain ⟨w3, hw3⟩ : ∃ w3, w3 = (((((wr.setCell ⟨w.heap.size, 1, none⟩ (.slice A2 m c2)).setCell ⟨w.heap.size + 1, 0, none⟩ (.int .i64 D.room)).setCell ⟨w.heap.size + 1, 1, none⟩ (.slice A2 m c2)).setCell ⟨w.heap.size + 1, 2, none⟩ (.bool true)).setCell ⟨w.heap.size + 1, 3, none⟩ (.int .i64 (-1))).setCell ⟨w.heap.size + 1, 4, none⟩ (.int .u64 D.steps) := ⟨_, rfl⟩
      rw [← hw3]
      have hne : w.heap.size + 1 ≠ w.heap.size := by omega
      have hx3 : w3.heap[w.heap.size + 1]? = some (.cells #[.int .i64 D.room, .slice A2 m c2, .bool true, .int .i64 (-1), .int .u64 D.steps] 45 (0, 0)) := by
        rw [hw3]
        exact blk_set (blk_set (blk_set (blk_set (blk_set (blk_far Hrxr.out (p := ⟨w.heap.size, 1, none⟩) hne _) 0 _) 1 _) 2 _) 3 _) 4 _
      have hE3 : Ext [w.heap.size, w.heap.size + 1] wr w3 := by
        rw [hw3]
        exact (((((Ext.refl _ _).setCell (Or.inl (by simp)) _).setCell (Or.inl (by simp)) _).setCell (Or.inl (by simp)) _).setCell (Or.inl (by simp)) _).setCell (Or.inl (by simp)) _ |>.setCell (Or.inl (by simp)) _
      have hs1 := Hs1.out
      have hown3 : w3.ownsRow w1.heap.size 60 3 (.slice A2 m c2) m (fvals (Dsk.crashGo D.files ts)) := by
        have := HC.out.own
        rw [← Hg.out] at this
        exact this.kept_ext hE3 (fun q hq => by simp at hq; omega)
      have hfr : ∀ ad, A2 = some ad → w.heap.size ≤ ad.block := fun ad he => by
        have := (hown3.lt ad.block (by rw [he]; rfl)).1
        omega
      obtain ⟨A3, c3, e3, hf3, hc3⟩ := RFiles.of_own hown3
      injection e3 with e3 _ e4
      subst e3 e4
      have x0 := blk_cell hx3 0
      have x1 := blk_cell hx3 1
      have x2 := blk_cell hx3 2
      have x3 := blk_cell hx3 3
      have x4 := blk_cell hx3 4
      clear hw3
      refine bodyPost_ret (v := refV (D.crash ts) A2 m c2) (by simp [results, Try.results88, go_sem, refV, Dsk.crash, x0, x1, x2, x3, x4]) rfl ⟨A2, m, c2, rfl, hf3, hc3, ?_, hfr⟩
      exact Hbw.out.trans ((Hbl.out.mono (by omega)).trans (hE3.below (by have := Hbl.out.size; omega) (fun q hq => by simp at hq; omega)))
end Go.Proofs.Ytcfgdlpdnpnhmaa
