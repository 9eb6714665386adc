/- Contract of curfewlaw23.do: Crash, Read; all kinds together. -/
import Derived.Test.YtcfgdlpdnpnhmaaDo1
import Derived.Test.YtcfgdlpdnpnhmaaRef12
set_option linter.unusedVariables false
set_option linter.unusedSimpArgs false
namespace Go.Proofs.Ytcfgdlpdnpnhmaa
open Go.RowKit Go.Maps

set_option maxRecDepth 100000 in
set_option maxHeartbeats 4000000 in
theorem do_crash (d mp mt : Nat) (D : Dsk) (A : Option Addr) (n c : Nat) (on : Int) (nm to_ tx : ByteArray) (At : Option Addr) (m ct : Nat) (ts : List (Nat × Nat)) (w : World) (h : IsDisk w d mp mt D) (hr : RFiles w A n D.files) (hnc : n ≤ c) (hok : D.Ok) (hT : Tears w At m ts) (hmc : m ≤ ct) (hm : m ≤ 1048000) :
    Calls Try.prog 30 #[.pointer (some ⟨d, 0, none⟩), refV D A n c, .agg #[.int .i64 7, .int .i64 on, .string nm, .string to_, .string tx, .slice At m ct]] w (DoGives w d mp mt (D.crash ts)) := by
  have Ht := Lib.hid (fun w1 (hb : Below w.heap.size w w1) => tears_calls At m ct ts w1 (hT.below hb) hm)
  have Hr := Lib.hid (fun w1 (A' : Option Addr) (c' : Nat) (hb : Below w.heap.size w w1) (hT' : Tears w1 A' m ts) => refcrash_calls D A n c A' m c' ts w1 (hr.below hb) hnc (by have := n_le hok hr; omega) hT' hm (len_all hok) hok.kept)
  have Hd := Lib.hid (fun w1 (hd : IsDisk w1 d mp mt D) (hT' : Tears w1 At m ts) => crash_calls d mp mt D At m ct ts w1 hd hok hT' hmc)
  have H := Lib.hid h
  have HT := Lib.hid hT
  have hld := h.lt_d
  have hlm := h.lt_mp
  have hlt := h.lt_mt
  obtain ⟨D', hD'⟩ : ∃ D', D' = D.crash ts := ⟨_, rfl⟩
  rw [← hD'] at Hr Hd
  rw [← hD']
  unfold refV at Hr
  unfold refV
  have Hl := Lib.hid (And.intro hld (And.intro hlm hlt))
  clear h hr hok hT hD' hld hlm hlt
  go_enter Try.func30, Try.ntmps30
  go_upto_region 26 with fail
  obtain ⟨w1, hw1⟩ : ∃ w1, w1 = ((w.alloc (.cells #[.int .i64 D.room, .slice A n c, .bool D.down, .int .i64 D.armed, .int .u64 D.steps] 45)).alloc (.cells #[.int .i64 7, .int .i64 on, .string nm, .string to_, .string tx, .slice At m ct] 49)).alloc (.cells #[.int .i64 0, .slice none 0 0, .bool false, .int .i64 0, .int .u64 0] 45) := ⟨_, rfl⟩
  rw [← hw1]
  have hb1 : Below w.heap.size w w1 := by rw [hw1]; exact al3 _ _ _ _
  have hB1 : DoBlk w1 w.heap.size (.int .i64 D.room) (.slice A n c) (.bool D.down) (.int .i64 D.armed) (.int .u64 D.steps) 7 on nm to_ tx At m ct := by rw [hw1]; exact DoBlk.start _ _ _ _ _ _ _ _ _ _ _ _ _ _
  clear hw1
  obtain ⟨⟨b0, b1, b2, b3, b4⟩, _, ⟨_, _, _, _, _, o5⟩, _, _⟩ := hB1.facts
  have HB1 := Lib.hid hB1
  have Hb1 := Lib.hid hb1
  clear hB1 hb1
  refine wp_region_last (fun w' => w'.cell? ⟨w.heap.size, 0, none⟩ = some (.int .i64 D.room) ∧ w'.cell? ⟨w.heap.size, 1, none⟩ = some (.slice A n c) ∧ w'.cell? ⟨w.heap.size, 2, none⟩ = some (.bool D.down) ∧ w'.cell? ⟨w.heap.size, 3, none⟩ = some (.int .i64 D.armed) ∧ w'.cell? ⟨w.heap.size, 4, none⟩ = some (.int .u64 D.steps) ∧ w'.cell? ⟨w.heap.size + 1, 5, none⟩ = some (.slice At m ct)) 5 (by kernel_rfl) ⟨b0, b1, b2, b3, b4, o5⟩ (fun hHeld => ?_)
  refine wpAnyL_take 0 (v := ?_) rfl (by kernel_rfl) (fun _ _ _ h => h) (Or.inl ⟨by rfl, ?_⟩) hHeld ?_
  rotate_left
  · (intro w hSw; (try dsimp only at hSw); go_simp; try with_reducible rfl)
  try simp only [Act.put, List.setIfInBounds_toArray, List.set_cons_zero, List.set_cons_succ]
  refine wpAnyL_take 1 (v := ?_) rfl (by kernel_rfl) (fun _ _ _ h => h) (Or.inl ⟨by rfl, ?_⟩) hHeld ?_
  rotate_left
  · (intro w hSw; (try dsimp only at hSw); go_simp; try with_reducible rfl)
  try simp only [Act.put, List.setIfInBounds_toArray, List.set_cons_zero, List.set_cons_succ]
  refine wpAnyL_take 2 (v := ?_) rfl (by kernel_rfl) (fun _ _ _ h => h) (Or.inl ⟨by rfl, ?_⟩) hHeld ?_
  rotate_left
  · (intro w hSw; (try dsimp only at hSw); go_simp; try with_reducible rfl)
  try simp only [Act.put, List.setIfInBounds_toArray, List.set_cons_zero, List.set_cons_succ]
  refine wpAnyL_one 3 (by kernel_rfl) rfl (fun K hK => ?_)
  go_simp
  go_at_call 89
  refine (Ht.out w1.drew Hb1.out.drew).mono ?_
  rintro e w2 ⟨At2, nt2, ct2, rfl, hT2, hct2, hbt2⟩
  have hnt2 : nt2 = m := by have h1 := hT2.1; have h2 := HT.out.1; omega
  subst hnt2
  have hb12 : Below w1.heap.size w1 w2 := ((Below.refl w1.heap.size w1).drew).trans hbt2
  have hB2 := HB1.out.below hb12
  have hb02 : Below w.heap.size w w2 := below_next Hb1.out hb12
  clear b0 b1 b2 b3 b4 o5 hHeld hbt2 hb12
  obtain ⟨⟨b0, b1, b2, b3, b4⟩, _, ⟨_, _, _, _, _, o5⟩, _, _⟩ := hB2.facts
  refine hK.out _ _ (fun _ => ⟨b0, b1, b2, b3, b4, o5⟩) ?_
  clear hK K
  try simp only [Act.put, List.setIfInBounds_toArray, List.set_cons_zero, List.set_cons_succ]
  refine wpAnyL_one 4 (by kernel_rfl) rfl (fun K hK => ?_)
  go_simp
  go_at_call 88
  refine (Hr.out w2 At2 ct2 hb02 hT2).mono ?_
  rintro e w2' ⟨A2, n2, c2, rfl, hf2, hc2, hb2, _⟩
  unfold refV
  replace hB2 := hB2.below hb2
  replace hb02 := below_next hb02 hb2
  clear b0 b1 b2 b3 b4 o5 hT2 hb2
  obtain ⟨w2, rfl⟩ : ∃ w2, w2 = w2' := ⟨_, rfl⟩
  obtain ⟨⟨b0, b1, b2, b3, b4⟩, ⟨g0, g1, g2, g3, g4⟩, ⟨_, _, _, _, _, o5⟩, _, _⟩ := hB2.facts
  refine hK.out _ _ (fun _ => ⟨b0, b1, b2, b3, b4, o5⟩) ?_
  clear hK K
  try simp only [Act.put, List.setIfInBounds_toArray, List.set_cons_zero, List.set_cons_succ]
  refine wpAnyL_one 5 (by kernel_rfl) rfl (fun K hK => ?_)
  go_simp
  refine hK.out _ _ (fun h => absurd rfl h) ?_
  clear hK K
  refine wpAnyL_done (by kernel_rfl) ?_ _
  clear b0 b1 b2 b3 b4 g0 g1 g2 g3 g4 o5
  obtain ⟨w3, hw3, hB3, hE3, hF3⟩ := hB2.store (.int .i64 D'.room) (.slice A2 n2 c2) (.bool D'.down) (.int .i64 D'.armed) (.int .u64 D'.steps) (refcells_noStr _ _ _ _ _ _ _)
  rw [← hw3]
  have hD2 : IsDisk w2 d mp mt D := H.out.below hb02
  have hD3 : IsDisk w3 d mp mt D := hD2.ext hE3 (fun k hk => by rw [List.mem_singleton.1 hk]; exact refcells_noU8 hB2.disk) (by have := Hl.out; simp; omega) (by have := Hl.out; simp; omega) (by have := Hl.out; simp; omega)
  have hb03 : Below w.heap.size w w3 := hb02.trans (hE3.below hb02.size (fun q hq => by rw [List.mem_singleton.1 hq]; exact Nat.le_refl _))
  have hf3 := hF3 _ _ _ hf2
  have HB3 := Lib.hid hB3
  have HD3 := Lib.hid hD3
  have Hb03 := Lib.hid hb03
  have Hf3 := Lib.hid hf3
  clear hw3 hE3 hF3 hB2 hf2 hb02 hD2 hD3 hb03 hf3
  obtain ⟨⟨b0, b1, b2, b3, b4⟩, ⟨g0, g1, g2, g3, g4⟩, ⟨o0, o1, o2, o3, o4, o5⟩, ⟨z0, z1, z2, z3, z4⟩, ⟨r0, r1, r2, r3, r4⟩⟩ := hB3.facts
  clear hB3
  go_upto_region 34 with (go_at_call 39; refine (Hd.out w3 HD3.out (HT.out.below Hb03.out)).mono ?_; rintro e w4 ⟨rfl, hL4⟩; have hB4 := HB3.out.ext hL4.ext (fun q hq => by have := Hl.out; simp only [List.mem_cons, List.mem_nil_iff, or_false] at hq; omega); clear b0 b1 b2 b3 b4 g0 g1 g2 g3 g4 o0 o1 o2 o3 o4 o5 z0 z1 z2 z3 z4 r0 r1 r2 r3 r4; obtain ⟨⟨b0, b1, b2, b3, b4⟩, ⟨g0, g1, g2, g3, g4⟩, ⟨o0, o1, o2, o3, o4, o5⟩, ⟨z0, z1, z2, z3, z4⟩, ⟨r0, r1, r2, r3, r4⟩⟩ := hB4.facts)
  have hf4 := dsk_noStr HD3.out hL4 Hf3.out
  obtain ⟨w5, hw5, ⟨x0, x1, x2, x3, x4⟩, hE5, hF5, hI5⟩ := hB4.done (.int .i64 D'.room) (.slice A2 n2 c2) (.bool D'.down) (.int .i64 D'.armed) (.int .u64 D'.steps)
  have Hfin := Lib.hid (show RFiles w5 A2 n2 D'.files ∧ n2 ≤ c2 ∧ Left w d mp mt D' w5 from ⟨hF5 _ _ _ hf4, hc2, hI5 _ _ _ _ Hl.out.1 Hl.out.2.1 Hl.out.2.2 hL4.disk, (Ext.of_below Hb03.out).trans (hL4.ext.mono (fun k hk => Or.inl hk)) |>.then_ hE5 (fun i hi => Or.inr (by rw [List.mem_singleton.1 hi]; omega))⟩)
  clear hf4 hE5 hF5 hI5 hL4 hB4
  go_wp2_with fail
  rw [← hw5]
  exact bodyPost_ret (v := .tuple #[.agg #[.int .i64 D'.room, .slice A2 n2 c2, .bool D'.down, .int .i64 D'.armed, .int .u64 D'.steps], .bool true]) (by simp [results, Try.results30, go_sem, x0, x1, x2, x3, x4]) rfl ⟨A2, n2, c2, rfl, Hfin.out⟩

set_option maxRecDepth 100000 in
set_option maxHeartbeats 4000000 in
theorem do_read (d mp mt : Nat) (D : Dsk) (A : Option Addr) (n c : Nat) (on : Int) (nm to_ tx : ByteArray) (At : Option Addr) (m ct : Nat) (w : World) (h : IsDisk w d mp mt D) (hr : RFiles w A n D.files) (hnc : n ≤ c) (hok : D.Ok) (hnm : nm.size ≤ 9223372036854775807) :
    Calls Try.prog 30 #[.pointer (some ⟨d, 0, none⟩), refV D A n c, .agg #[.int .i64 5, .int .i64 on, .string nm, .string to_, .string tx, .slice At m ct]] w (DoGives w d mp mt D) := by
  have Hr := Lib.hid (fun w1 (hb : Below w.heap.size w w1) => refread_calls D A n c nm w1 (hr.below hb) (by have := n_le hok hr; omega))
  have Hd := Lib.hid (fun w1 (hd : IsDisk w1 d mp mt D) => read_calls d mp mt D nm w1 hd hnm (len_all hok))
  have H := Lib.hid h
  have HR := Lib.hid hr
  have hld := h.lt_d
  have hlm := h.lt_mp
  have hlt := h.lt_mt
  obtain ⟨lr, hlr⟩ : ∃ lr, lr = (D.read nm.data.toList).1 := ⟨_, rfl⟩
  obtain ⟨code, hcode⟩ : ∃ code, code = (D.read nm.data.toList).2 := ⟨_, rfl⟩
  rw [← hlr, ← hcode] at Hr Hd
  obtain ⟨sr, hsr⟩ : ∃ sr, encStr lr = .string sr := ⟨_, rfl⟩
  unfold refV at Hr
  unfold refV
  unfold RefRead at Hr
  rw [hsr] at Hr
  have Hl := Lib.hid (And.intro hld (And.intro hlm hlt))
  have Hsr := Lib.hid hsr
  clear h hr hok hnm hlr hcode hld hlm hlt hsr
  go_enter Try.func30, Try.ntmps30
  go_upto_region 20 with (go_at_call 86; refine (Hr.out _ (al3 w _ _ _)).mono ?_; rintro e w2 ⟨rfl, hb2⟩; have hB2 := (DoBlk.start w _ _ _ _ _ _ _ _ _ _ _ _ _).below hb2; obtain ⟨⟨b0, b1, b2, b3, b4⟩, ⟨g0, g1, g2, g3, g4⟩, ⟨o0, o1, o2, o3, o4, o5⟩, ⟨z0, z1, z2, z3, z4⟩, ⟨r0, r1, r2, r3, r4⟩⟩ := hB2.facts)
  have hb02 : Below w.heap.size w w2 := below_next (al3 w _ _ _) hb2
  have HB2 := Lib.hid hB2
  have Hb02 := Lib.hid hb02
  clear hB2 hb2 hb02
  go_upto_region 21 with (go_at_call 48; refine (Hd.out w2 (H.out.below Hb02.out)).mono ?_; rintro e w4 ⟨A4, c4, rfl, hown4, hb4⟩; have hB4 := HB2.out.below hb4; clear b0 b1 b2 b3 b4 g0 g1 g2 g3 g4 o0 o1 o2 o3 o4 o5 z0 z1 z2 z3 z4 r0 r1 r2 r3 r4; obtain ⟨⟨b0, b1, b2, b3, b4⟩, ⟨g0, g1, g2, g3, g4⟩, ⟨o0, o1, o2, o3, o4, o5⟩, ⟨z0, z1, z2, z3, z4⟩, ⟨r0, r1, r2, r3, r4⟩⟩ := hB4.facts)
  have hcv : (convert 22 9 (.slice A4 lr.length c4)).run Try.prog w4 = .ok (.string sr) w4 := by
    obtain ⟨A5, c5, hv, hb5, _⟩ := Bts.of_own hown4
    injection hv with e1 e2 e3
    subst e1 e3
    rw [run_to_str hb5 c4]
    have : (Value.string ⟨lr.toArray⟩) = .string sr := Hsr.out
    rw [this]
  have hb04 : Below w.heap.size w w4 := below_next Hb02.out hb4
  obtain ⟨w5, hw5, ⟨x0, x1, x2, x3, x4⟩, hE5, hF5, hI5⟩ := hB4.done (.int .i64 D.room) (.slice A n c) (.bool D.down) (.int .i64 D.armed) (.int .u64 D.steps)
  have Hfin := Lib.hid (show RFiles w5 A n D.files ∧ n ≤ c ∧ Left w d mp mt D w5 from ⟨hF5 _ _ _ (HR.out.below hb04), hnc, hI5 _ _ _ _ Hl.out.1 Hl.out.2.1 Hl.out.2.2 (H.out.below hb04), (Ext.of_below hb04).then_ hE5 (fun i hi => Or.inr (by rw [List.mem_singleton.1 hi]; omega))⟩)
  clear hE5 hF5 hI5 hB4 hown4 hb4 hb04
  go_wp2_with fail
  rw [← hw5]
  exact bodyPost_ret (v := .tuple #[.agg #[.int .i64 D.room, .slice A n c, .bool D.down, .int .i64 D.armed, .int .u64 D.steps], .bool true]) (by simp [results, Try.results30, go_sem, x0, x1, x2, x3, x4]) rfl ⟨A, n, c, rfl, Hfin.out⟩

end Go.Proofs.Ytcfgdlpdnpnhmaa
