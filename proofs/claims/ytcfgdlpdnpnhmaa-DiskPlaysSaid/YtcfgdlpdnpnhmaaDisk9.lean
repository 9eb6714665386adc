/- Contract of package disk: Append. -/
import Derived.Test.YtcfgdlpdnpnhmaaDisk8
set_option linter.unusedVariables false
set_option linter.unusedSimpArgs false
namespace Go.Proofs.Ytcfgdlpdnpnhmaa
open Go.RowKit Go.Maps

/-- What 'file' answers where the file is there, or a new one begins. -/
def FileAny (w : World) (f : File) (code : Int) (e : Ending) (w' : World) : Prop :=
  ∃ A n c, e = .returned (.tuple #[.agg #[.slice A n c, .int .i64 f.kept], .int .i64 code]) ∧ Bts w A n f.all ∧ n ≤ c ∧ (A = none → c = 0) ∧ Below w.heap.size w w'

theorem sum_le_mem : ∀ (l : List File) (f : File), f ∈ l → f.all.length ≤ Dsk.sum l
  | [], f, h => by cases h
  | x :: r, f, h => by
    unfold Dsk.sum
    rcases List.mem_cons.1 h with rfl | h
    · omega
    · have := sum_le_mem r f h
      omega

set_option maxRecDepth 100000 in
theorem append_ok (d mp mt : Nat) (D : Dsk) (s : ByteArray) (f : File) (code : Int) (A' : Option Addr) (m c' : Nat) (b : Bs) (w : World) (h : IsDisk w d mp mt D) (hs : s.size ≤ 9223372036854775807) (hb : Bts w A' m b) (hok : D.Ok)
    (hst : D.steps < 4611686018427387904) (hn : Dsk.named s.data.toList = true) (hname : f.name = s.data.toList) (hcode : code = 0 ∨ code = 31 ∧ D.files.length < 128) (hfit : (m : Int) ≤ D.free) (hfl : f.all.length ≤ 1048576)
    (hfile : Calls Try.prog 100 #[.pointer (some ⟨d, 0, none⟩), .string s] w (FileAny w f code)) :
    Calls Try.prog 41 #[.pointer (some ⟨d, 0, none⟩), .string s, .slice A' m c'] w fun e w' => e = .returned (.int .i64 ({ D with files := Dsk.put D.files ⟨s.data.toList, f.all ++ b, f.kept⟩ } : Dsk).step.2) ∧
      Left w d mp mt ({ D with files := Dsk.put D.files ⟨s.data.toList, f.all ++ b, f.kept⟩ } : Dsk).step.1 w' := by
  have hc := Lib.hid hfile
  have H := Lib.hid h
  have hm2 : (m : Int) ≤ 1048576 := by
    have := hok.room1
    unfold Dsk.free at hfit
    split at hfit <;> omega
  have hnm := fun W => named_calls s W hs
  rw [hn] at hnm
  have Hn := Lib.hid hnm
  have Hfree := Lib.hid (fun (w1 : World) (hb : Below w.heap.size w w1) => free_calls d mp mt D w1 (h.below hb) hok.room0 hok.room1 hok.sum (by have := hok.many; omega))
  have Hstep := Lib.hid (fun (w1 : World) (h1 : IsDisk w1 d mp mt { D with files := Dsk.put D.files ⟨s.data.toList, f.all ++ b, f.kept⟩ }) => step_calls d mp mt _ w1 h1 hst hok.armed0 hok.armed1)
  have hdl := h.lt_d
  have hmpl := h.lt_mp
  have hmtl := h.lt_mt
  have hlen : D.files.length ≤ 1048576 := by have := hok.many; omega
  have hg1 : decide (D.free < (m : Int)) = false := decide_eq_false (by omega)
  have Hname := Lib.hid hname
  clear hfile h hnm hn hok hst hname hfit
  rcases hcode with rfl | ⟨rfl, hmany⟩
  all_goals
    go_enter Try.func41, Try.ntmps41
    go_wp2_with (first
      | (go_at_call 100; refine hc.out.mono ?_; rintro e w1 ⟨A, n, c, rfl, hbf, hnc, hA, hbl⟩; have HA := Lib.hid hA; clear hA; have hsz := hbl.size; have hbl1 := hbl.alloc hbl.size (.cells #[.slice A n c, .int .i64 f.kept] 159); have c0 := (H.out.below hbl1).c0; have hml := (H.out.below hbl1).len; have hbx1 := blk_new w1 (.cells #[.slice A n c, .int .i64 f.kept] 159))
      | (go_at_call 101; refine (Hn.out _).mono ?_; rintro e w2 ⟨rfl, rfl⟩)
      | (go_at_call 33; refine (Hfree.out _ hbl1).mono ?_; rintro e w2 ⟨rfl, hbl2⟩; have hbx2 := (hbl2.block w1.heap.size (by simp)).trans hbx1; have b0 := blk_cell hbx2 0; have b1 := blk_cell hbx2 1; have bf := blk_frozen hbx2 0; have hsz2 := hbl2.size; have hsl := run_cut3 A n c n hnc; have hw2 := hbl1.trans (hbl2.mono (Nat.le_trans hsz (by simp))))
      | (at_builtin; refine wpList_append_cut _ rfl _ _ rfl A n f.all rfl (hbf.below hw2) A' m c' b rfl (hb.below hw2) (by have := hbf.1; omega) ?_; intro A2 c2 w3 hB3 hnc3 hA3 hbl3; have HA3 := Lib.hid hA3; clear hA3; have hbx3 := (hbl3.block w1.heap.size (Nat.lt_of_lt_of_le (by simp) hsz2)).trans hbx2; have b0' := blk_cell hbx3 0; have b1' := blk_cell hbx3 1; have bf' := blk_frozen hbx3 0))
    have hw3 : Below w.heap.size w w3 := hw2.trans (hbl3.mono hw2.size)
    obtain ⟨w4, e4⟩ : ∃ w4, w4 = w3.setCell ⟨w1.heap.size, 0, none⟩ (.slice A2 (n + m) c2) := ⟨_, rfl⟩
    rw [← e4]
    have hbx4 : w4.heap[w1.heap.size]? = some (.cells #[.slice A2 (n + m) c2, .int .i64 f.kept] 159 (0, 0)) := by rw [e4]; exact blk_set hbx3 0 _
    have he4 : Ext [w1.heap.size] w3 w4 := by rw [e4]; exact (Ext.refl _ _).setCell (Or.inl (by simp)) _
    have hno : ∀ k, k ∈ [w1.heap.size] → NoU8 w3 k := fun k hk => by rw [List.mem_singleton.1 hk]; exact box_no hbx3
    have hD4 : IsDisk w4 d mp mt D := (H.out.below hw3).ext he4 hno (by simp; omega) (by simp; omega) (by simp; omega)
    have hC4 : Cont w4 (.agg #[.slice A2 (n + m) c2, .int .i64 f.kept]) ⟨s.data.toList, f.all ++ b, f.kept⟩ := ⟨A2, n + m, c2, rfl, hB3.ext he4 hno, hnc3, HA3.out⟩
    have hW4 : Ext [d, mp, mt] w w4 := (Ext.of_below hw3).then_ he4 (fun i hi => Or.inr (by rw [List.mem_singleton.1 hi]; exact hsz))
    clear e4 hno he4 hbx3 hbx2 hbx1 b0 b1 bf b0' b1' bf' hB3 hw3 hw2 hbl3 hbl2 hbl1 hml c0 hsl
    have c0 := hD4.c0
    have k0 := blk_cell hbx4 0
    have k1 := blk_cell hbx4 1
    go_still_tail 6, (by kernel_rfl)
    change wpList _ _ _ _ _ w4.drew
    go_wp2_with (first
      | (refine wpList_disk_store _ rfl _ _ _ rfl rfl s rfl _ rfl hD4.drew hs _ rfl hC4 hlen ?_; intro w5 hD5 he5)
      | (go_at_call 102; refine (Hstep.out _ hD5).mono ?_; rintro e w6 ⟨rfl, hL⟩))
    go_ret
    exact ⟨rfl, hL.disk, (hW4.drew.then_ he5 (fun i hi => Or.inl (by rw [List.mem_singleton.1 hi]; simp))).then_ hL.ext (fun i hi => Or.inl hi)⟩

set_option maxRecDepth 100000 in
theorem append_full (d mp mt : Nat) (D : Dsk) (s : ByteArray) (f : File) (code : Int) (A' : Option Addr) (m c' : Nat) (w : World) (h : IsDisk w d mp mt D) (hs : s.size ≤ 9223372036854775807) (hm : m ≤ 9223372036854775807) (hok : D.Ok)
    (hn : Dsk.named s.data.toList = true) (hcode : code = 0 ∧ D.free < (m : Int) ∨ code = 31 ∧ D.files.length < 128 ∧ D.free < (m : Int) ∨ code = 31 ∧ 128 ≤ D.files.length)
    (hfile : Calls Try.prog 100 #[.pointer (some ⟨d, 0, none⟩), .string s] w (FileAny w f code)) :
    Calls Try.prog 41 #[.pointer (some ⟨d, 0, none⟩), .string s, .slice A' m c'] w fun e w' => e = .returned (.int .i64 30) ∧ Left w d mp mt D w' := by
  have hc := Lib.hid hfile
  have H := Lib.hid h
  have hnm := fun W => named_calls s W hs
  rw [hn] at hnm
  have Hn := Lib.hid hnm
  have Hfree := Lib.hid (fun (w1 : World) (hb : Below w.heap.size w w1) => free_calls d mp mt D w1 (h.below hb) hok.room0 hok.room1 hok.sum (by have := hok.many; omega))
  have hlen : D.files.length ≤ 1048576 := by have := hok.many; omega
  clear hfile h hnm hn hok
  rcases hcode with ⟨rfl, hf⟩ | ⟨rfl, hmany, hf⟩ | ⟨rfl, hmany⟩
  · have hg1 : decide (D.free < (m : Int)) = true := decide_eq_true hf
    go_enter Try.func41, Try.ntmps41
    go_wp2_with (first
      | (go_at_call 100; refine hc.out.mono ?_; rintro e w1 ⟨A, n, c, rfl, hbf, hnc, hA, hbl⟩; have HA := Lib.hid hA; clear hA; have hsz := hbl.size; have hbl1 := hbl.alloc hbl.size (.cells #[.slice A n c, .int .i64 f.kept] 159); have c0 := (H.out.below hbl1).c0; have hml := (H.out.below hbl1).len)
      | (go_at_call 101; refine (Hn.out _).mono ?_; rintro e w2 ⟨rfl, rfl⟩)
      | (go_at_call 33; refine (Hfree.out _ hbl1).mono ?_; rintro e w2 ⟨rfl, hbl2⟩; have hw2 := hbl1.trans (hbl2.mono (Nat.le_trans hsz (by simp)))))
    go_ret
    exact ⟨rfl, H.out.below hw2, Ext.of_below hw2⟩
  · have hg1 : decide (D.free < (m : Int)) = true := decide_eq_true hf
    go_enter Try.func41, Try.ntmps41
    go_wp2_with (first
      | (go_at_call 100; refine hc.out.mono ?_; rintro e w1 ⟨A, n, c, rfl, hbf, hnc, hA, hbl⟩; have HA := Lib.hid hA; clear hA; have hsz := hbl.size; have hbl1 := hbl.alloc hbl.size (.cells #[.slice A n c, .int .i64 f.kept] 159); have c0 := (H.out.below hbl1).c0; have hml := (H.out.below hbl1).len)
      | (go_at_call 101; refine (Hn.out _).mono ?_; rintro e w2 ⟨rfl, rfl⟩)
      | (go_at_call 33; refine (Hfree.out _ hbl1).mono ?_; rintro e w2 ⟨rfl, hbl2⟩; have hw2 := hbl1.trans (hbl2.mono (Nat.le_trans hsz (by simp)))))
    go_ret
    exact ⟨rfl, H.out.below hw2, Ext.of_below hw2⟩
  · go_enter Try.func41, Try.ntmps41
    go_wp2_with (first
      | (go_at_call 100; refine hc.out.mono ?_; rintro e w1 ⟨A, n, c, rfl, hbf, hnc, hA, hbl⟩; have HA := Lib.hid hA; clear hA; have hsz := hbl.size; have hbl1 := hbl.alloc hbl.size (.cells #[.slice A n c, .int .i64 f.kept] 159); have c0 := (H.out.below hbl1).c0; have hml := (H.out.below hbl1).len)
      | (go_at_call 101; refine (Hn.out _).mono ?_; rintro e w2 ⟨rfl, rfl⟩))
    go_ret
    exact ⟨rfl, H.out.below hbl1, Ext.of_below hbl1⟩

theorem append_calls (d mp mt : Nat) (D : Dsk) (s : ByteArray) (A' : Option Addr) (m c' : Nat) (b : Bs) (w : World) (h : IsDisk w d mp mt D) (hs : s.size ≤ 9223372036854775807) (hb : Bts w A' m b) (hm : m ≤ 9223372036854775807) (hok : D.Ok)
    (hst : D.steps < 4611686018427387904) :
    Calls Try.prog 41 #[.pointer (some ⟨d, 0, none⟩), .string s, .slice A' m c'] w fun e w' => e = .returned (.int .i64 (D.append s.data.toList b).2) ∧ Left w d mp mt (D.append s.data.toList b).1 w' := by
  cases hd : D.down
  · have hsum : ∀ f ∈ D.files, f.all.length ≤ 1048576 := fun f hf => Nat.le_trans (sum_le_mem _ f hf) hok.sum
    cases hn : Dsk.named s.data.toList
    · rw [show D.append s.data.toList b = (D, 2) by unfold Dsk.append; rw [hd, if_neg (by simp), if_pos hn]]
      have H := Lib.hid h
      have hnm := fun W => named_calls s W hs
      rw [hn] at hnm
      have Hn := Lib.hid hnm
      cases hf : Dsk.find D.files s.data.toList with
      | none =>
        have hc := Lib.hid (file_none d mp mt D s w h hs hd hf)
        clear h hd hf hsum hok hnm hn hb
        go_enter Try.func41, Try.ntmps41
        go_wp2_with (first
          | (go_at_call 100; refine hc.out.mono ?_; rintro e w1 ⟨rfl, hbl⟩)
          | (go_at_call 101; refine (Hn.out _).mono ?_; rintro e w2 ⟨rfl, rfl⟩))
        go_ret
        exact ⟨rfl, H.out.below (hbl.alloc hbl.size _), Ext.of_below (hbl.alloc hbl.size _)⟩
      | some f =>
        have hc := Lib.hid (file_some d mp mt D s f w h hs hd hf)
        clear h hd hf hsum hok hnm hn hb
        go_enter Try.func41, Try.ntmps41
        go_wp2_with (first
          | (go_at_call 100; refine hc.out.mono ?_; rintro e w1 ⟨A, n, c, rfl, _, hnc, hA, hbl⟩; have HA := Lib.hid hA; clear hA)
          | (go_at_call 101; refine (Hn.out _).mono ?_; rintro e w2 ⟨rfl, rfl⟩))
        go_ret
        exact ⟨rfl, H.out.below (hbl.alloc hbl.size _), Ext.of_below (hbl.alloc hbl.size _)⟩
    · have hbl := hb.1
      cases hf : Dsk.find D.files s.data.toList with
      | none =>
        have hr : D.append s.data.toList b = if 128 ≤ D.files.length ∨ D.free < b.length then (D, 30) else ({ D with files := Dsk.put D.files ⟨s.data.toList, b, 0⟩ } : Dsk).step := by unfold Dsk.append; rw [hd, if_neg (by simp), if_neg (by simp [hn]), hf]
        have hc := file_none d mp mt D s w h hs hd hf
        have hc' : Calls Try.prog 100 #[.pointer (some ⟨d, 0, none⟩), .string s] w (FileAny w ⟨s.data.toList, [], 0⟩ 31) := hc.mono fun e w' ⟨a, b⟩ => ⟨none, 0, 0, a, Bts.nil _ _, Nat.le_refl _, fun _ => rfl, b⟩
        by_cases h1 : 128 ≤ D.files.length
        · rw [hr, if_pos (Or.inl h1)]
          exact append_full d mp mt D s _ 31 A' m c' w h hs hm hok hn (Or.inr (Or.inr ⟨rfl, h1⟩)) hc'
        · by_cases h2 : D.free < b.length
          · rw [hr, if_pos (Or.inr h2)]
            exact append_full d mp mt D s _ 31 A' m c' w h hs hm hok hn (Or.inr (Or.inl ⟨rfl, by omega, by omega⟩)) hc'
          · rw [hr, if_neg (by omega)]
            exact append_ok d mp mt D s ⟨s.data.toList, [], 0⟩ 31 A' m c' b w h hs hb hok hst hn rfl (Or.inr ⟨rfl, by omega⟩) (by omega) (by simp) hc'
      | some f =>
        have hr : D.append s.data.toList b = if D.free < b.length then (D, 30) else ({ D with files := Dsk.put D.files ⟨s.data.toList, f.all ++ b, f.kept⟩ } : Dsk).step := by unfold Dsk.append; rw [hd, if_neg (by simp), if_neg (by simp [hn]), hf]
        have hc := file_some d mp mt D s f w h hs hd hf
        by_cases h2 : D.free < b.length
        · rw [hr, if_pos h2]
          exact append_full d mp mt D s f 0 A' m c' w h hs hm hok hn (Or.inl ⟨rfl, by omega⟩) hc
        · rw [hr, if_neg h2]
          exact append_ok d mp mt D s f 0 A' m c' b w h hs hb hok hst hn (mem_find hf).2 (Or.inl rfl) (by omega) (hsum f (mem_find hf).1) hc
  · rw [show D.append s.data.toList b = (D, 50) by unfold Dsk.append; rw [hd]; rfl]
    have hc := Lib.hid (file_down d mp mt D s w h hd)
    have H := Lib.hid h
    clear h hd hok hb
    go_enter Try.func41, Try.ntmps41
    go_wp2_with (go_at_call 100; refine hc.out.mono ?_; rintro e w' ⟨rfl, hbl⟩)
    go_ret
    exact ⟨rfl, H.out.below (hbl.alloc hbl.size _), Ext.of_below (hbl.alloc hbl.size _)⟩

end Go.Proofs.Ytcfgdlpdnpnhmaa
