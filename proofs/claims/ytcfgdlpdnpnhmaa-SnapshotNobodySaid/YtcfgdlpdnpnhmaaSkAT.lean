/- Contracts and words (several texts merged by wip/merge.py). Contract of snapshot.Store's Save. Written by wip/gen_store3.py. -/
import Derived.Test.YtcfgdlpdnpnhmaaSkAS
import Derived.Test.YtcfgdlpdnpnhmaaSkAQ
import Derived.Test.YtcfgdlpdnpnhmaaSkAN
import Derived.Laws.EntriesVeiled
import Derived.Test.YtcfgdlpdnpnhmaaSkAL
import Derived.Deep.Slices
set_option linter.unusedVariables false
set_option linter.unusedSimpArgs false
namespace Go.Proofs.Ytcfgdlpdnpnhmaa
open Go.RowKit Go.Maps

/-- What Save leaves: the store, the disk, and all else. -/
def SaveLeft (w : World) (t d mp mt : Nat) (r : Dsk × Q.Sn × Int) (e : Ending) (w' : World) : Prop :=
  e = .returned (.int .i64 r.2.2) ∧ IsStore w' t d mp mt r.2.1 ∧ IsDisk w' d mp mt r.1 ∧ Ext [d, mp, mt, t] w w'
/-- Its rows are none of the blocks of S. -/
def SnAway (S : List Nat) (v : Value) : Prop := ∃ i t Am nm cm Ad nd cd, v = .agg #[i, t, .slice Am nm cm, .slice Ad nd cd] ∧ (0 < nm → ∀ ad, Am = some ad → ad.block ∉ S) ∧ (Ad = none → cd = 0)
theorem SnFresh.away {B : Nat} {v : Value} (h : SnFresh B v) {S : List Nat} (hs : ∀ k, k ∈ S → k < B) : SnAway S v := by
  obtain ⟨i, t, Am, nm, cm, Ad, nd, cd, e, h1, h2, h3⟩ := h
  exact ⟨i, t, Am, nm, cm, Ad, nd, cd, e, fun _ ad q m => by have := h1 ad q; have := hs _ m; omega, h3⟩
theorem SnAway.parts {S : List Nat} {i t : Value} {Am Ad : Option Addr} {n c m e : Nat} (h : SnAway S (.agg #[i, t, .slice Am n c, .slice Ad m e])) : (0 < n → ∀ ad, Am = some ad → ad.block ∉ S) ∧ (Ad = none → e = 0) := by
  obtain ⟨_, _, _, _, _, _, _, _, hve, hAm, hAd⟩ := h
  simp only [Value.agg.injEq, Array.mk.injEq, List.cons.injEq, Value.slice.injEq] at hve
  obtain ⟨_, _, ⟨h1, h4, _⟩, ⟨h2, _, h3⟩, _⟩ := hve
  subst h1 h2 h3 h4
  exact ⟨hAm, hAd⟩
theorem SnFresh.parts2 {B : Nat} {i t : Value} {Am Ad : Option Addr} {n c m e : Nat} (h : SnFresh B (.agg #[i, t, .slice Am n c, .slice Ad m e])) : (∀ ad, Am = some ad → B ≤ ad.block) ∧ (Ad = none → e = 0) := by
  obtain ⟨_, _, _, _, _, _, _, _, hve, h1, h2, h3⟩ := h
  simp only [Value.agg.injEq, Array.mk.injEq, List.cons.injEq, Value.slice.injEq] at hve
  obtain ⟨_, _, ⟨e1, _, _⟩, ⟨e2, _, e3⟩, _⟩ := hve
  subst e1 e2 e3
  exact ⟨h1, h3⟩
theorem ext4 {w w6 w7 : World} {d mp mt : Nat} (t : Nat) (h : Below w.heap.size w w6) (k : Ext [d, mp, mt] w6 w7) : Ext [d, mp, mt, t] w w7 := (Ext.of_below h).trans (k.mono (fun i hi => Or.inl (by simp at hi ⊢; omega)))
theorem two_ext {w w1 w2 : World} {S : List Nat} (h : Below w.heap.size w w1) (k : Ext S w1 w2) : Ext S w w2 := (Ext.of_below h).trans k

namespace Q
variable {D E1 E2 E3 E4 : Dsk} {w t b : Bs} {c1 c2 c3 c4 : Int}
theorem into_1 (h1 : gone D w = (E1, c1)) (n : c1 ≠ 0) : into D w t b = (E1, c1) := by unfold into; rw [h1, if_pos n]
theorem into_2 (h1 : gone D w = (E1, 0)) (h2 : E1.append w b = (E2, c2)) (n : c2 ≠ 0) : into D w t b = (E2, c2) := by
  unfold into; rw [h1, if_neg (fun c => c rfl)]; dsimp only; rw [h2, if_pos n]
theorem into_3 (h1 : gone D w = (E1, 0)) (h2 : E1.append w b = (E2, 0)) (h3 : E2.sync w = (E3, c3)) (n : c3 ≠ 0) : into D w t b = (E3, c3) := by
  unfold into; rw [h1, if_neg (fun c => c rfl)]; dsimp only; rw [h2, if_neg (fun c => c rfl)]; dsimp only; rw [h3, if_pos n]
theorem into_4 (h1 : gone D w = (E1, 0)) (h2 : E1.append w b = (E2, 0)) (h3 : E2.sync w = (E3, 0)) (h4 : E3.move w t = (E4, c4)) : into D w t b = (E4, c4) := by
  unfold into; rw [h1, if_neg (fun c => c rfl)]; dsimp only; rw [h2, if_neg (fun c => c rfl)]; dsimp only; rw [h3, if_neg (fun c => c rfl)]; dsimp only; rw [h4]
theorem save_no {S s : Sn} (hs : sound s = true) (hl : ¬ s.index ≤ S.index) (h : into D snapW snapN (bytesOf s.down) = (E1, c1)) (n : c1 ≠ 0) : sSave D S s = (E1, S, c1) := by
  unfold sSave; rw [if_neg (by rw [hs]; decide), if_neg hl, h, if_pos n]
theorem save_yes {S s : Sn} (hs : sound s = true) (hl : ¬ s.index ≤ S.index) (h : into D snapW snapN (bytesOf s.down) = (E1, 0)) : sSave D S s = (E1, s, 0) := by
  unfold sSave; rw [if_neg (by rw [hs]; decide), if_neg hl, h, if_neg (fun c => c rfl)]
end Q
theorem idx4_0 (x0 x1 x2 x3 : Value) (W : World) : (Instr.index 171 (.agg #[x0, x1, x2, x3]) (.int .i64 0)).run Try.prog W = .ok x0 W := by kernel_rfl
theorem idx4_1 (x0 x1 x2 x3 : Value) (W : World) : (Instr.index 171 (.agg #[x0, x1, x2, x3]) (.int .i64 1)).run Try.prog W = .ok x1 W := by kernel_rfl
theorem idx4_2 (x0 x1 x2 x3 : Value) (W : World) : (Instr.index 171 (.agg #[x0, x1, x2, x3]) (.int .i64 2)).run Try.prog W = .ok x2 W := by kernel_rfl
theorem idx4_3 (x0 x1 x2 x3 : Value) (W : World) : (Instr.index 171 (.agg #[x0, x1, x2, x3]) (.int .i64 3)).run Try.prog W = .ok x3 W := by kernel_rfl
set_option maxRecDepth 100000 in
set_option maxHeartbeats 2000000 in
theorem save_bad (v : Value) (s : Q.Sn) (t d mp mt : Nat) (S : Q.Sn) (D : Dsk) (w : World) (hv : SnIs w v s) (hi : s.index < 18446744073709551616) (ht : s.term < 18446744073709551616) (hnm : s.members.length ≤ 140737488355328) (hnd : s.data.length ≤ 140737488355328) (h : IsStore w t d mp mt S) (hd : IsDisk w d mp mt D) (hs : Q.sound s = false) :
    Calls Try.prog 58 #[.pointer (some ⟨t, 0, none⟩), v] w (SaveLeft w t d mp mt (D, S, 2)) := by
  have hv0 := hv
  obtain ⟨Am, cm, Ad, cd, rfl, h1, h2, h3, h4⟩ := hv
  obtain ⟨nm, hnm'⟩ : ∃ n, n = s.members.length := ⟨_, rfl⟩
  obtain ⟨nd, hnd'⟩ : ∃ n, n = s.data.length := ⟨_, rfl⟩
  obtain ⟨w2, hw2⟩ : ∃ w2, w2 = (w.alloc (.cells #[.pointer (some ⟨t, 0, none⟩)] 97)).alloc (.cells #[.int .u64 (s.index : Int), .int .u64 (s.term : Int), .slice Am nm cm, .slice Ad nd cd] 27) := ⟨_, rfl⟩
  have hb2 : Below w.heap.size w w2 := by rw [hw2]; exact below2 w _ _
  have hx1 : w2.heap[w.heap.size]? = some (.cells #[.pointer (some ⟨t, 0, none⟩)] 97 (0, 0)) := by rw [hw2]; exact blk_alloc (blk_new w _) _
  have hx2 : w2.heap[w.heap.size + 1]? = some (.cells #[.int .u64 (s.index : Int), .int .u64 (s.term : Int), .slice Am nm cm, .slice Ad nd cd] 27 (0, 0)) := by rw [hw2]; exact blk_new1 w _ _
  have hby := snbytes_no _ s w2 (hv0.below hb2) hi ht hnm hnd hs
  rw [← hnm', ← hnd'] at hby
  have Hby := Lib.hid hby
  have Hn := Lib.hid (snone_calls t d mp mt S w2 (h.below hb2))
  have c0 := blk_cell hx1 0
  have x0 := blk_cell hx2 0
  have x1 := blk_cell hx2 1
  have x2 := blk_cell hx2 2
  have x3 := blk_cell hx2 3
  have H := Lib.hid h
  have Hd := Lib.hid hd
  have Hb2 := Lib.hid hb2
  have Hw2 := Lib.hid hw2
  clear hv0 h1 h2 h3 h4 hby hx1 hx2 h hd hb2 hw2 hs
  rw [← hnm', ← hnd']
  clear hnm' hnd'
  go_enter Try.func58, Try.ntmps58
  go_upto_region 1 with (fail)
  rw [← Hw2.out]
  go_wp2_with (first
    | (go_at_call 108; refine Hn.out.mono ?_; rintro e w' ⟨rfl, rfl⟩)
    | (go_at_call 23; refine Hby.out.mono ?_; rintro e w3 ⟨rfl, hb3⟩))
  go_ret
  have e3 : Below w.heap.size w (w3.alloc (.cells #[.slice none 0 0] 22)) := (Hb2.out.trans (hb3.mono Hb2.out.size)).alloc (Nat.le_trans Hb2.out.size hb3.size) _
  exact ⟨rfl, H.out.below e3, Hd.out.below e3, Ext.of_below e3⟩

set_option maxRecDepth 100000 in
set_option maxHeartbeats 4000000 in
theorem save_good (v : Value) (s : Q.Sn) (t d mp mt : Nat) (S : Q.Sn) (D : Dsk) (w : World) (hv : SnIs w v s) (hvd : SnAway [d, mp, mt] v) (hi : s.index < 18446744073709551616) (hS : S.index < 18446744073709551616) (h : IsStore w t d mp mt S) (hd : IsDisk w d mp mt D) (hs : Q.sound s = true) (hok : D.Ok) (hst : D.steps < 4611686018427387000) :
    Calls Try.prog 58 #[.pointer (some ⟨t, 0, none⟩), v] w (SaveLeft w t d mp mt (Q.sSave D S s)) := by
  obtain ⟨k1, k2, k3, k4, k5⟩ := Q.sound_le (p := s.down) (by rw [Q.down_up hs]; exact hs)
  have hml : s.members.length ≤ 7 := by rw [← Q.down_len]; exact k3
  have hdl : s.data.length ≤ 32768 := k5
  have hblen := Q.body_len s.down k1 k2 k3 k4 k5
  have hv0 := hv
  obtain ⟨Am, cm, Ad, cd, rfl, h1, h2, h3, h4⟩ := hv
  obtain ⟨hAm, hAd⟩ := hvd.parts
  obtain ⟨nm, hnm'⟩ : ∃ n, n = s.members.length := ⟨_, rfl⟩
  obtain ⟨nd, hnd'⟩ : ∃ n, n = s.data.length := ⟨_, rfl⟩
  obtain ⟨si, hsi⟩ : ∃ n, n = s.index := ⟨_, rfl⟩
  obtain ⟨tm, htm⟩ : ∃ n, n = s.term := ⟨_, rfl⟩
  obtain ⟨ti, hti⟩ : ∃ n, n = S.index := ⟨_, rfl⟩
  obtain ⟨w2, hw2⟩ : ∃ w2, w2 = (w.alloc (.cells #[.pointer (some ⟨t, 0, none⟩)] 97)).alloc (.cells #[.int .u64 (si : Int), .int .u64 (tm : Int), .slice Am nm cm, .slice Ad nd cd] 27) := ⟨_, rfl⟩
  have hb2 : Below w.heap.size w w2 := by rw [hw2]; exact below2 w _ _
  have hx1 : w2.heap[w.heap.size]? = some (.cells #[.pointer (some ⟨t, 0, none⟩)] 97 (0, 0)) := by rw [hw2]; exact blk_alloc (blk_new w _) _
  have hx2 : w2.heap[w.heap.size + 1]? = some (.cells #[.int .u64 (si : Int), .int .u64 (tm : Int), .slice Am nm cm, .slice Ad nd cd] 27 (0, 0)) := by rw [hw2]; exact blk_new1 w _ _
  have hby := snbytes_yes _ s w2 (hv0.below hb2) hs
  unfold WrapGives at hby
  obtain ⟨bs, hbs⟩ : ∃ bs, bs = Q.bytesOf s.down := ⟨_, rfl⟩
  have hbl : bs.length ≤ 40000 := by rw [hbs]; unfold Q.bytesOf; rw [Q.frame_len]; omega
  obtain ⟨nb, hnb⟩ : ∃ nb, nb = bs.length := ⟨_, rfl⟩
  rw [← hnm', ← hnd', ← hbs, ← hnb, ← hsi, ← htm] at hby
  rw [← hnm', ← hnd', ← hsi, ← htm]
  have Hby := Lib.hid hby
  have Hn := Lib.hid (snone_calls t d mp mt S w2 (h.below hb2))
  have htl : t < w.heap.size := h.lt
  have c0 := blk_cell hx1 0
  have x0 := blk_cell hx2 0
  have x1 := blk_cell hx2 1
  have x2 := blk_cell hx2 2
  have x3 := blk_cell hx2 3
  have H := Lib.hid h
  have Hd := Lib.hid hd
  have Hb2 := Lib.hid hb2
  have Hw2 := Lib.hid hw2
  have Hx1 := Lib.hid hx1
  have Hx2 := Lib.hid hx2
  have HI := Lib.hid h1
  have HD := Lib.hid h3
  have Hcm := Lib.hid (show nm ≤ cm by rw [hnm']; exact h2)
  have Hcd := Lib.hid (show nd ≤ cd by rw [hnd']; exact h4)
  have HAd := Lib.hid hAd
  have HAm := Lib.hid hAm
  have Hnb := Lib.hid hnb
  have Hbs := Lib.hid hbs
  have Hs := Lib.hid hs
  have Hsi := Lib.hid hsi
  have Htm := Lib.hid htm
  have Hti := Lib.hid hti
  have Hnm := Lib.hid hnm'
  have Hnd := Lib.hid hnd'
  rw [← hnm'] at hml
  rw [← hnd'] at hdl
  rw [← hsi] at hi
  rw [← hti] at hS
  rw [← hnb] at hbl
  have hok' := Lib.hid hok
  clear hv0 h1 h2 h3 h4 hby hx1 hx2 h hd hb2 hw2 hs hAd hAm hvd hnb hbs hsi htm hti hnm' hnd' k1 k2 k3 k4 k5 hblen hok
  go_enter Try.func58, Try.ntmps58
  go_upto_region 1 with (fail)
  rw [← Hw2.out]
  go_upto_region 4 with (first
    | (go_at_call 108; refine Hn.out.mono ?_; rintro e w' ⟨rfl, rfl⟩)
    | (go_at_call 23; refine Hby.out.mono ?_; rintro e w3 ⟨A3, c3, rfl, hown3, hb3⟩))
  obtain ⟨w4, hw4⟩ : ∃ w4, w4 = w3.alloc (.cells #[.slice A3 nb c3] 22) := ⟨_, rfl⟩
  rw [← hw4]
  obtain ⟨o1, o2, o3, o4⟩ := (show _ from own_all (by rw [Hnb.out] at hown3; exact hown3))
  rw [← Hnb.out] at o1
  have hb34 : Below w3.heap.size w3 w4 := by rw [hw4]; exact al1 _ _
  have hb24 : Below w2.heap.size w2 w4 := hb3.trans (hb34.mono hb3.size)
  have hb4 : Below w.heap.size w w4 := Hb2.out.trans (hb24.mono Hb2.out.size)
  have hx31 : w4.heap[w3.heap.size]? = some (.cells #[.slice A3 nb c3] 22 (0, 0)) := by rw [hw4]; exact blk_new _ _
  have hx14 := (hb24.block _ (blk_lt Hx1.out)).trans Hx1.out
  have hx24 := (hb24.block _ (blk_lt Hx2.out)).trans Hx2.out
  have hB4 := o1.below hb34
  have hs4 := H.out.below hb4
  have hd4 := Hd.out.below hb4
  obtain ⟨bb, hbb⟩ : ∃ bb, bb = w3.heap.size := ⟨_, rfl⟩
  rw [← hbb] at hx31 ⊢
  have hbbw : w.heap.size + 1 < bb := by have := blk_lt Hx2.out; have := hb3.size; omega
  obtain ⟨p1, p2, p3, p4, hst4⟩ := hs4.at_
  clear c0 x0 x1 x2 x3
  have c0 := blk_cell hx14 0
  have x0 := blk_cell hx24 0
  rw [← Hti.out] at hst4
  have t0 := blk_cell hst4.1 1
  have hwq : ∀ q, Below w4.heap.size w4 (w4.drewN q) := fun q => ((Ext.refl [] w4).drewN q).nil_below
  have Hwq := Lib.hid hwq
  have Hx31 := Lib.hid hx31
  have Hx14 := Lib.hid hx14
  have Hx24 := Lib.hid hx24
  have HB4 := Lib.hid hB4
  have Hs4 := Lib.hid hs4
  have Hd4 := Lib.hid hd4
  have Hb4 := Lib.hid hb4
  clear hw4 o1 o2 o3 o4 hb34 hb24 hb4 hx31 hx14 hx24 hB4 hs4 hd4 hbb hst4 hwq hown3 hb3 Hby Hn
  by_cases hle : si ≤ ti
  · have gle : decide ((si : Int) ≤ (ti : Int)) = true := decide_eq_true (by omega)
    have gln : decide (si ≤ ti) = true := decide_eq_true hle
    have hr : Q.sSave D S s = (D, S, 34) := by
      unfold Q.sSave
      rw [if_neg (by rw [Hs.out]; decide), if_pos (by rw [← Hsi.out, ← Hti.out]; exact hle)]
    have Hr := Lib.hid hr
    clear hr hle
    go_upto_region 6 with (fail)
    go_quiet (fail)
    go_wp2_with fail
    go_ret
    rw [Hr.out]
    exact ⟨rfl, Hs4.out.below (Hwq.out _), Hd4.out.below (Hwq.out _), Ext.of_below (Hb4.out.trans ((Hwq.out _).mono Hb4.out.size))⟩
  · have gle : decide ((si : Int) ≤ (ti : Int)) = false := decide_eq_false (by omega)
    have gln : decide (si ≤ ti) = false := decide_eq_false hle
    go_upto_region 6 with (fail)
    go_quiet (fail)
    obtain ⟨w5, hw5⟩ : ∃ w5, w5 = w4.drewN nq := ⟨_, rfl⟩
    rw [← hw5]
    have hb45 : Below w4.heap.size w4 w5 := by rw [hw5]; exact Hwq.out _
    have c05 := (hb45.cell (p := ⟨w.heap.size, 0, none⟩) (blk_lt Hx14.out)).trans c0
    have Hb45 := Lib.hid hb45
    clear hw5 hb45 c0 x0 t0
    go_upto_region 9 with (fail)
    obtain ⟨w6, hw6⟩ : ∃ w6, w6 = w5.alloc (.cells #[.func (.func 109) #[.pointer (some ⟨t, 0, none⟩)] #[], .func (.func 110) #[] #[.pointer (some ⟨w.heap.size, 0, none⟩), .pointer (some ⟨bb, 0, none⟩)], .func (.func 111) #[] #[.pointer (some ⟨w.heap.size, 0, none⟩)], .func (.func 112) #[] #[.pointer (some ⟨w.heap.size, 0, none⟩)]] 171) := ⟨_, rfl⟩
    rw [← hw6]
    have hx6 : w6.heap[w5.heap.size]? = some (.cells #[.func (.func 109) #[.pointer (some ⟨t, 0, none⟩)] #[], .func (.func 110) #[] #[.pointer (some ⟨w.heap.size, 0, none⟩), .pointer (some ⟨bb, 0, none⟩)], .func (.func 111) #[] #[.pointer (some ⟨w.heap.size, 0, none⟩)], .func (.func 112) #[] #[.pointer (some ⟨w.heap.size, 0, none⟩)]] 171 (0, 0)) := by rw [hw6]; exact blk_new _ _
    have hb46 : Below w4.heap.size w4 w6 := by rw [hw6]; exact Hb45.out.trans ((al1 w5 _).mono Hb45.out.size)
    have hb6 : Below w.heap.size w w6 := Hb4.out.trans (hb46.mono Hb4.out.size)
    have q0 := blk_cell hx6 0
    have q1 := blk_cell hx6 1
    have q2 := blk_cell hx6 2
    have q3 := blk_cell hx6 3
    have HT6 := Lib.hid ((hb46.block _ (blk_lt Hx14.out)).trans Hx14.out)
    have HX6 := Lib.hid ((hb46.block _ (blk_lt Hx24.out)).trans Hx24.out)
    have HB6 := Lib.hid ((hb46.block _ (blk_lt Hx31.out)).trans Hx31.out)
    have HR6 := Lib.hid (HB4.out.below hb46)
    have Hs6 := Lib.hid (Hs4.out.below hb46)
    have Hd6 := Lib.hid (Hd4.out.below hb46)
    have Hb6 := Lib.hid hb6
    clear hw6 hx6 hb46 hb6 c05
    go_wp2_with fail
    clear q0 q1 q2 q3
    have hltd : d < w.heap.size := Hd.out.lt_d
    have hltm : mp < w.heap.size := Hd.out.lt_mp
    have hltt : mt < w.heap.size := Hd.out.lt_mt
    obtain ⟨E1, c1, hg1⟩ : ∃ E c, Q.gone D Q.snapW = (E, c) := ⟨_, _, rfl⟩
    have ho1 : E1.Ok := by have := Q.gone_ok hok'.out Q.snapW; rw [hg1] at this; exact this
    have hs1 : E1.steps ≤ D.steps + 1 := by have := Dsk.steps_remove D Q.snapW; have e : (D.remove Q.snapW).1 = E1 := congrArg Prod.fst hg1; rw [e] at this; exact this
    have hst1 := sgone_calls t d mp mt D w6 Hs6.out.of Hd6.out hok'.out (by omega)
    rw [hg1] at hst1
    have Hst1 := Lib.hid hst1
    have Hg1 := Lib.hid hg1
    clear hst1 hg1
    have i0 := idx4_0
    have i1 := idx4_1
    have i2 := idx4_2
    have i3 := idx4_3
    refine wp_loop_rounds 5 ?_
    rw [rounds_succ]
    by_cases hc1 : c1 = 0
    · rw [hc1] at Hst1 Hg1
      clear hc1 c1
      go_wp2_with (go_at_call 109; refine Hst1.out.mono ?_; rintro e w7 ⟨rfl, hL7⟩)
      have HT7 := Lib.hid (hL7.ext.obj HT6.out (by simp; omega))
      have HX7 := Lib.hid (hL7.ext.obj HX6.out (by simp; omega))
      have HB7 := Lib.hid (hL7.ext.obj HB6.out (by simp; omega))
      have HR7 := Lib.hid (HR6.out.ext hL7.ext Hd6.out.no)
      have Hs7 := Lib.hid (Hs6.out.left Hd6.out hL7.ext)
      have Hd7 := Lib.hid hL7.disk
      have Hx7 := Lib.hid hL7.ext
      obtain ⟨E2, c2, hg2⟩ : ∃ E c, E1.append Q.snapW bs = (E, c) := ⟨_, _, rfl⟩
      have ho2 : E2.Ok := by have := ho1.append Q.snapW bs; rw [hg2] at this; exact this
      have hs2 : E2.steps ≤ E1.steps + 1 := by have := Dsk.steps_append E1 Q.snapW bs; rw [hg2] at this; exact this
      have hst2 := save1_calls w.heap.size bb t d mp mt E1 A3 nb c3 bs w7 HT7.out HB7.out Hs7.out.of Hd7.out HR7.out (by omega) ho1 (by omega)
      rw [hg2] at hst2
      have Hst2 := Lib.hid hst2
      have Hg2 := Lib.hid hg2
      clear hst2 hg2 hL7
      rw [rounds_succ]
      by_cases hc2 : c2 = 0
      · rw [hc2] at Hst2 Hg2
        clear hc2 c2
        go_wp2_with (go_at_call 110; refine Hst2.out.mono ?_; rintro e w8 ⟨rfl, hL8⟩)
        have HT8 := Lib.hid (hL8.ext.obj HT7.out (by simp; omega))
        have HX8 := Lib.hid (hL8.ext.obj HX7.out (by simp; omega))
        have Hs8 := Lib.hid (Hs7.out.left Hd7.out hL8.ext)
        have Hd8 := Lib.hid hL8.disk
        have Hx8 := Lib.hid (Hx7.out.trans hL8.ext)
        obtain ⟨E3, c3', hg3⟩ : ∃ E c, E2.sync Q.snapW = (E, c) := ⟨_, _, rfl⟩
        have ho3 : E3.Ok := by have := ho2.sync Q.snapW; rw [hg3] at this; exact this
        have hs3 : E3.steps ≤ E2.steps + 1 := by have := Dsk.steps_sync E2 Q.snapW; rw [hg3] at this; exact this
        have hst3 := save2_calls w.heap.size t d mp mt E2 w8 HT8.out Hs8.out.of Hd8.out ho2 (by omega)
        rw [hg3] at hst3
        have Hst3 := Lib.hid hst3
        have Hg3 := Lib.hid hg3
        clear hst3 hg3 hL8
        rw [rounds_succ]
        by_cases hc3 : c3' = 0
        · rw [hc3] at Hst3 Hg3
          clear hc3 c3'
          go_wp2_with (go_at_call 111; refine Hst3.out.mono ?_; rintro e w9 ⟨rfl, hL9⟩)
          have HT9 := Lib.hid (hL9.ext.obj HT8.out (by simp; omega))
          have HX9 := Lib.hid (hL9.ext.obj HX8.out (by simp; omega))
          have Hs9 := Lib.hid (Hs8.out.left Hd8.out hL9.ext)
          have Hd9 := Lib.hid hL9.disk
          have Hx9 := Lib.hid (Hx8.out.trans hL9.ext)
          obtain ⟨E4, c4, hg4⟩ : ∃ E c, E3.move Q.snapW Q.snapN = (E, c) := ⟨_, _, rfl⟩
          have hst4 := save3_calls w.heap.size t d mp mt E3 w9 HT9.out Hs9.out.of Hd9.out ho3 (by omega)
          rw [hg4] at hst4
          have Hst4 := Lib.hid hst4
          have Hg4 := Lib.hid hg4
          clear hst4 hg4 hL9
          rw [rounds_succ]
          by_cases hc4 : c4 = 0
          · rw [hc4] at Hst4 Hg4
            clear hc4 c4
            have hr := Q.save_yes (S := S) Hs.out (by rw [← Hsi.out, ← Hti.out]; exact hle) (by rw [← Hbs.out]; exact Q.into_4 Hg1.out Hg2.out Hg3.out Hg4.out)
            have Hr := Lib.hid hr
            clear hr hle
            go_wp2_with (go_at_call 112; refine Hst4.out.mono ?_; rintro e w10 ⟨rfl, hL10⟩)
            have HT10 := hL10.ext.obj HT9.out (by simp; omega)
            have HX10 := hL10.ext.obj HX9.out (by simp; omega)
            have Hs10 := Lib.hid (Hs9.out.left Hd9.out hL10.ext)
            have Hd10 := Lib.hid hL10.disk
            have Hx10 := Lib.hid (Hx9.out.trans hL10.ext)
            rw [rounds_succ]
            go_upto_region 16 with (fail)
            have hS : ∀ w', Below w10.heap.size w10 w' → (w'.cell? ⟨w.heap.size, 0, none⟩ = some (.pointer (some ⟨t, 0, none⟩)) ∧ w'.cell? ⟨w.heap.size + 1, 0, none⟩ = some (.int .u64 (si : Int)) ∧ w'.cell? ⟨w.heap.size + 1, 1, none⟩ = some (.int .u64 (tm : Int)) ∧ w'.cell? ⟨w.heap.size + 1, 2, none⟩ = some (.slice Am nm cm) ∧ w'.cell? ⟨w.heap.size + 1, 3, none⟩ = some (.slice Ad nd cd)) := fun w' hb => by
              have e1 := (hb.block _ (blk_lt HT10)).trans HT10
              have e2 := (hb.block _ (blk_lt HX10)).trans HX10
              exact ⟨blk_cell e1 0, blk_cell e2 0, blk_cell e2 1, blk_cell e2 2, blk_cell e2 3⟩
            have HS := Lib.hid hS
            have hext10 : Ext [d, mp, mt] w6 w10 := Hx10.out
            have hI10 : Itz w10 Am s.members.length s.members := (HI.out.below Hb6.out).away2 hext10 (fun hp ad q => HAm.out hp ad q)
            have hD10 : Bts w10 Ad s.data.length s.data := (HD.out.below Hb6.out).ext hext10 Hd6.out.no
            have hcp := fun W (hW : Below w10.heap.size w10 W) => sncopy_calls si tm Am s.members.length cm Ad s.data.length cd s.members s.data W (hI10.below hW) (by rw [← Hnm.out]; exact Hcm.out) (hD10.below hW) (by rw [← Hnd.out]; exact Hcd.out) HAd.out (by rw [← Hnm.out]; omega) (by rw [← Hnd.out]; omega)
            rw [← Hnm.out, ← Hnd.out] at hcp
            have Hcp := Lib.hid hcp
            clear hS hI10 hD10 hcp HT10 HX10 hext10
            refine wp_region_last (fun w' => w'.cell? ⟨w.heap.size, 0, none⟩ = some (.pointer (some ⟨t, 0, none⟩)) ∧ w'.cell? ⟨w.heap.size + 1, 0, none⟩ = some (.int .u64 (si : Int)) ∧ w'.cell? ⟨w.heap.size + 1, 1, none⟩ = some (.int .u64 (tm : Int)) ∧ w'.cell? ⟨w.heap.size + 1, 2, none⟩ = some (.slice Am nm cm) ∧ w'.cell? ⟨w.heap.size + 1, 3, none⟩ = some (.slice Ad nd cd)) 5 (by kernel_rfl) (HS.out _ (Below.refl _ _).drew) (fun hHeld => ?_)
            refine wpAnyL_take 0 (v := ?_) rfl (by kernel_rfl) (fun _ _ _ h => h) (Or.inl ⟨by kernel_rfl, ?_⟩) hHeld ?_
            rotate_left
            · (intro w hSw; (try dsimp only at hSw); go_simp; try with_reducible rfl)
            try simp only [Act.put, List.setIfInBounds_toArray, List.set_cons_zero, List.set_cons_succ]
            refine wpAnyL_take 1 (v := ?_) rfl (by kernel_rfl) (fun _ _ _ h => h) (Or.inl ⟨by kernel_rfl, ?_⟩) hHeld ?_
            rotate_left
            · (intro w hSw; (try dsimp only at hSw); go_simp; try with_reducible rfl)
            try simp only [Act.put, List.setIfInBounds_toArray, List.set_cons_zero, List.set_cons_succ]
            refine wpAnyL_one 2 (by kernel_rfl) rfl (fun K hK => ?_)
            go_simp
            go_at_call 25
            refine (Hcp.out w10.drew (Below.refl _ _).drew).mono ?_
            rintro e w11 ⟨v11, rfl, hsn11, hfr11, hb11⟩
            obtain ⟨A2, cm2, B2, cd2, rfl, s1, s2, s3, s4⟩ := hsn11
            dsimp only at s1 s2 s3 s4
            dsimp only
            have hb1011 : Below w10.heap.size w10 w11 := (Below.refl _ _).drew.trans hb11
            rw [← Hnm.out, ← Hnd.out]
            rw [← Hnm.out] at s1 s2
            rw [← Hnd.out] at s3 s4
            rw [← Hnm.out, ← Hnd.out] at hfr11
            obtain ⟨st1, st2, st3, st4, hst11, _⟩ := (Hs10.out.below hb1011).at_
            have f1 := blk_frozen hst11 1
            have f2 := blk_frozen hst11 2
            have f3 := blk_frozen hst11 3
            have f4 := blk_frozen hst11 4
            have t1 := blk_cell hst11 1
            have t2 := blk_cell hst11 2
            have t3 := blk_cell hst11 3
            have t4 := blk_cell hst11 4
            clear hHeld
            have hHeld := HS.out w11 hb1011
            refine hK.out _ _ (fun _ => hHeld) ?_
            clear hK K
            try simp only [Act.put, List.setIfInBounds_toArray, List.set_cons_zero, List.set_cons_succ]
            refine wpAnyL_take 3 (v := ?_) rfl (by kernel_rfl) (fun _ _ _ h => h) (Or.inl ⟨by kernel_rfl, ?_⟩) hHeld ?_
            rotate_left
            · (intro w hSw; (try dsimp only at hSw); go_simp; try with_reducible rfl)
            try simp only [Act.put, List.setIfInBounds_toArray, List.set_cons_zero, List.set_cons_succ]
            refine wpAnyL_take 4 (v := ?_) rfl (by kernel_rfl) (fun _ _ _ h => h) (Or.inl ⟨by kernel_rfl, ?_⟩) hHeld ?_
            rotate_left
            · (intro w hSw; (try dsimp only at hSw); go_simp; try with_reducible rfl)
            try simp only [Act.put, List.setIfInBounds_toArray, List.set_cons_zero, List.set_cons_succ]
            refine wpAnyL_one 5 (by kernel_rfl) rfl (fun K hK => ?_)
            go_simp
            refine hK.out _ _ (fun h => absurd rfl h) ?_
            clear hK K
            try simp only [Act.put, List.setIfInBounds_toArray, List.set_cons_zero, List.set_cons_succ]
            refine wpAnyL_done (by kernel_rfl) ?_ _
            obtain ⟨w12, hw12⟩ : ∃ w12, w12 = (((w11.setCell ⟨t, 1, none⟩ (.int .u64 (si : Int))).setCell ⟨t, 2, none⟩ (.int .u64 (tm : Int))).setCell ⟨t, 3, none⟩ (.slice A2 nm cm2)).setCell ⟨t, 4, none⟩ (.slice B2 nd cd2) := ⟨_, rfl⟩
            rw [← hw12]
            have hE12 : Ext [t] w11 w12 := by rw [hw12]; exact ((((Ext.refl _ _).setCell (Or.inl (by simp)) _).setCell (Or.inl (by simp)) _).setCell (Or.inl (by simp)) _).setCell (Or.inl (by simp)) _
            have hx12 : w12.heap[t]? = some (.cells #[.pointer (some ⟨d, 0, none⟩), .int .u64 (si : Int), .int .u64 (tm : Int), .slice A2 nm cm2, .slice B2 nd cd2] 99 (0, 0)) := by rw [hw12]; exact blk_set (blk_set (blk_set (blk_set hst11 1 _) 2 _) 3 _) 4 _
            have hnu : ∀ q, q ∈ [t] → NoU8 w11 q := fun q hq => by rw [List.mem_singleton.1 hq]; exact (Hs10.out.below hb1011).noU8
            have hni : ∀ q, q ∈ [t] → NoI64 w11 q := fun q hq => by rw [List.mem_singleton.1 hq]; exact .of_cells hst11 (fun j x => by rcases j with _ | _ | _ | _ | _ | j <;> simp)
            have s112 := s1.ext hE12 hni
            have s312 := s3.ext hE12 hnu
            have hd12 : IsDisk w12 d mp mt E4 := (Hd10.out.below hb1011).ext hE12 hnu (by simp; exact fun e => Hs10.out.ned e.symm) (by simp; exact fun e => Hs10.out.nem e.symm) (by simp; exact fun e => Hs10.out.net e.symm)
            obtain ⟨fa, fb⟩ := hfr11.parts2
            have hsz10 : w.heap.size ≤ w10.drew.heap.size := Nat.le_trans Hb6.out.size Hx10.out.size
            have hdm : d < w.heap.size ∧ mp < w.heap.size ∧ mt < w.heap.size := ⟨hltd, hltm, hltt⟩
            have hstore : IsStore w12 t d mp mt s := by
              refine ⟨⟨A2, cm2, B2, cd2, ?_, ?_, ?_, ?_, ?_, fb, fun ad q => ?_⟩, Hs10.out.ned, Hs10.out.nem, Hs10.out.net⟩
              · rw [← Hnm.out, ← Hnd.out, ← Hsi.out, ← Htm.out]; exact hx12
              · rw [← Hnm.out]; exact s112
              · rw [← Hnm.out]; exact s2
              · rw [← Hnd.out]; exact s312
              · rw [← Hnd.out]; exact s4
              · have := fa ad q
                refine ⟨?_, ?_, ?_, ?_⟩ <;> omega
            have hext : Ext [d, mp, mt, t] w w12 := ((ext4 t Hb6.out Hx10.out).trans (Ext.of_below hb1011)).trans (hE12.mono (fun i hi => Or.inl (by simp at hi ⊢; omega)))
            have Hstore := Lib.hid hstore
            have Hd12 := Lib.hid hd12
            have Hext := Lib.hid hext
            clear hw12 hE12 hx12 hnu hni s112 s312 hd12 fa fb hstore hext hHeld hfr11 s1 s2 s3 s4 hst11 f1 f2 f3 f4 t1 t2 t3 t4 hb11 hb1011
            go_wp2_with fail
            go_ret
            rw [Hr.out]
            exact ⟨rfl, Hstore.out, Hd12.out, Hext.out⟩
          · have gc : (c4 != 0) = true := by rw [bne_iff_ne]; exact hc4
            have hr := Q.save_no (S := S) Hs.out (by rw [← Hsi.out, ← Hti.out]; exact hle) (by rw [← Hbs.out]; exact Q.into_4 Hg1.out Hg2.out Hg3.out Hg4.out) hc4
            have Hr := Lib.hid hr
            clear hr hle hc4
            go_wp2_with (go_at_call 112; refine Hst4.out.mono ?_; rintro e w10 ⟨rfl, hL10⟩)
            go_ret
            rw [Hr.out]
            exact ⟨rfl, Hs9.out.left Hd9.out hL10.ext, hL10.disk, ext4 t Hb6.out (Hx9.out.trans hL10.ext)⟩
        · have gc : (c3' != 0) = true := by rw [bne_iff_ne]; exact hc3
          have hr := Q.save_no (S := S) Hs.out (by rw [← Hsi.out, ← Hti.out]; exact hle) (by rw [← Hbs.out]; exact Q.into_3 Hg1.out Hg2.out Hg3.out hc3) hc3
          have Hr := Lib.hid hr
          clear hr hle hc3
          go_wp2_with (go_at_call 111; refine Hst3.out.mono ?_; rintro e w9 ⟨rfl, hL9⟩)
          go_ret
          rw [Hr.out]
          exact ⟨rfl, Hs8.out.left Hd8.out hL9.ext, hL9.disk, ext4 t Hb6.out (Hx8.out.trans hL9.ext)⟩
      · have gc : (c2 != 0) = true := by rw [bne_iff_ne]; exact hc2
        have hr := Q.save_no (S := S) Hs.out (by rw [← Hsi.out, ← Hti.out]; exact hle) (by rw [← Hbs.out]; exact Q.into_2 Hg1.out Hg2.out hc2) hc2
        have Hr := Lib.hid hr
        clear hr hle hc2
        go_wp2_with (go_at_call 110; refine Hst2.out.mono ?_; rintro e w8 ⟨rfl, hL8⟩)
        go_ret
        rw [Hr.out]
        exact ⟨rfl, Hs7.out.left Hd7.out hL8.ext, hL8.disk, ext4 t Hb6.out (Hx7.out.trans hL8.ext)⟩
    · have gc : (c1 != 0) = true := by rw [bne_iff_ne]; exact hc1
      have hr := Q.save_no (S := S) Hs.out (by rw [← Hsi.out, ← Hti.out]; exact hle) (by rw [← Hbs.out]; exact Q.into_1 Hg1.out hc1) hc1
      have Hr := Lib.hid hr
      clear hr hle hc1
      go_wp2_with (go_at_call 109; refine Hst1.out.mono ?_; rintro e w7 ⟨rfl, hL7⟩)
      go_ret
      rw [Hr.out]
      exact ⟨rfl, Hs6.out.left Hd6.out hL7.ext, hL7.disk, ext4 t Hb6.out hL7.ext⟩
end Go.Proofs.Ytcfgdlpdnpnhmaa
set_option linter.unusedVariables false
set_option linter.unusedSimpArgs false
namespace Go.Proofs.Ytcfgdlpdnpnhmaa
open Go.RowKit Go.Maps

theorem save_calls (v : Value) (s : Q.Sn) (t d mp mt : Nat) (S : Q.Sn) (D : Dsk) (w : World) (hv : SnIs w v s) (hvd : SnAway [d, mp, mt] v) (hi : s.index < 18446744073709551616) (ht : s.term < 18446744073709551616) (hnm : s.members.length ≤ 140737488355328) (hnd : s.data.length ≤ 140737488355328) (hS : S.index < 18446744073709551616) (h : IsStore w t d mp mt S) (hd : IsDisk w d mp mt D) (hok : D.Ok) (hst : D.steps < 4611686018427387000) :
    Calls Try.prog 58 #[.pointer (some ⟨t, 0, none⟩), v] w (SaveLeft w t d mp mt (Q.sSave D S s)) := by
  by_cases hs : Q.sound s = true
  · exact save_good v s t d mp mt S D w hv hvd hi hS h hd hs hok hst
  · have hs' : Q.sound s = false := by simpa using hs
    have hr : Q.sSave D S s = (D, S, 2) := by unfold Q.sSave; rw [if_pos hs']
    rw [hr]
    exact save_bad v s t d mp mt S D w hv hi ht hnm hnd h hd hs'

/-- What Open answers. -/
def OpenIs (w : World) (d mp mt : Nat) (r : Dsk × Q.Sn × Int) (e : Ending) (w' : World) : Prop :=
  if r.2.2 = 0 then ∃ t, e = .returned (.tuple #[.pointer (some ⟨t, 0, none⟩), .int .i64 0]) ∧ IsStore w' t d mp mt r.2.1 ∧ w.heap.size ≤ t ∧ Left w d mp mt r.1 w'
  else e = .returned (.tuple #[.pointer none, .int .i64 r.2.2]) ∧ Left w d mp mt r.1 w'
theorem OpenIs.no {w : World} {d mp mt : Nat} {r : Dsk × Q.Sn × Int} {E : Dsk} {S : Q.Sn} {c : Int} (hr : r = (E, S, c)) (hc : c ≠ 0) {e : Ending} {w' : World} (h : e = .returned (.tuple #[.pointer none, .int .i64 c]) ∧ Left w d mp mt E w') : OpenIs w d mp mt r e w' := by
  subst hr; unfold OpenIs; rw [if_neg hc]; exact h
theorem OpenIs.yes {w : World} {d mp mt : Nat} {r : Dsk × Q.Sn × Int} {E : Dsk} {S : Q.Sn} (hr : r = (E, S, 0)) {e : Ending} {w' : World} (h : ∃ t, e = .returned (.tuple #[.pointer (some ⟨t, 0, none⟩), .int .i64 0]) ∧ IsStore w' t d mp mt S ∧ w.heap.size ≤ t ∧ Left w d mp mt E w') : OpenIs w d mp mt r e w' := by
  subst hr; unfold OpenIs; rw [if_pos rfl]; exact h
namespace Q
variable {D E1 : Dsk} {c1 c : Int} {b : Bs}
theorem open_1 (h1 : gone D snapW = (E1, c1)) (n : c1 ≠ 0) : sOpen D = (E1, noSn, c1) := by unfold sOpen; rw [h1, if_pos n]
theorem open_2 (h1 : gone D snapW = (E1, 0)) (h2 : E1.read snapN = (b, 31)) : sOpen D = (E1, noSn, 0) := by
  unfold sOpen; rw [h1, if_neg (fun c => c rfl)]; dsimp only; unfold sOpen2; rw [h2, if_pos rfl]
theorem open_3 (h1 : gone D snapW = (E1, 0)) (h2 : E1.read snapN = (b, c)) (n : c ≠ 31) (m : c ≠ 0) : sOpen D = (E1, noSn, c) := by
  unfold sOpen; rw [h1, if_neg (fun c => c rfl)]; dsimp only; unfold sOpen2; rw [h2, if_neg n, if_pos m]
theorem open_4 (h1 : gone D snapW = (E1, 0)) (h2 : E1.read snapN = (b, 0)) (h3 : read 7 b = none) : sOpen D = (E1, noSn, 20) := by
  unfold sOpen; rw [h1, if_neg (fun c => c rfl)]; dsimp only; unfold sOpen2; rw [h2, if_neg (show ¬ ((0 : Int) = 31) by decide), if_neg (fun c => c rfl)]; dsimp only; rw [h3]
theorem open_5 (h1 : gone D snapW = (E1, 0)) (h2 : E1.read snapN = (b, 0)) {p : Snp} (h3 : read 7 b = some p) : sOpen D = (E1, p.up, 0) := by
  unfold sOpen; rw [h1, if_neg (fun c => c rfl)]; dsimp only; unfold sOpen2; rw [h2, if_neg (show ¬ ((0 : Int) = 31) by decide), if_neg (fun c => c rfl)]; dsimp only; rw [h3]
end Q
theorem read_len {D : Dsk} (h : D.Ok) (n : Bs) : (D.read n).1.length ≤ 1048576 := by
  unfold Dsk.read
  split
  · exact Nat.zero_le _
  · split
    · exact Nat.zero_le _
    · rename_i f hf
      exact Nat.le_trans (sum_le_mem _ f (List.mem_of_find?_eq_some hf)) h.sum

set_option maxRecDepth 100000 in
set_option maxHeartbeats 4000000 in
theorem snopen_calls (d mp mt : Nat) (D : Dsk) (w : World) (hd : IsDisk w d mp mt D) (hok : D.Ok) (hst : D.steps < 4611686018427387000) :
    Calls Try.prog 59 #[.pointer (some ⟨d, 0, none⟩)] w (OpenIs w d mp mt (Q.sOpen D)) := by
  obtain ⟨w1, hw1⟩ : ∃ w1, w1 = w.alloc (.cells #[.pointer (some ⟨d, 0, none⟩), .int .u64 0, .int .u64 0, .slice none 0 0, .slice none 0 0] 99) := ⟨_, rfl⟩
  have hb1 : Below w.heap.size w w1 := by rw [hw1]; exact al1 _ _
  have hx1 : w1.heap[w.heap.size]? = some (.cells #[.pointer (some ⟨d, 0, none⟩), .int .u64 0, .int .u64 0, .slice none 0 0, .slice none 0 0] 99 (0, 0)) := by rw [hw1]; exact blk_new _ _
  have hd1 := hd.below hb1
  have hltd : d < w.heap.size := hd.lt_d
  have hltm : mp < w.heap.size := hd.lt_mp
  have hltt : mt < w.heap.size := hd.lt_mt
  obtain ⟨E1, c1, hg1⟩ : ∃ E c, Q.gone D Q.snapW = (E, c) := ⟨_, _, rfl⟩
  have ho1 : E1.Ok := by have := Q.gone_ok hok Q.snapW; rw [hg1] at this; exact this
  have hst1 := sgone_calls w.heap.size d mp mt D w1 ⟨_, _, _, _, hx1⟩ hd1 hok (by omega)
  rw [hg1] at hst1
  have hs1 : IsStore w1 w.heap.size d mp mt Q.noSn := ⟨⟨none, 0, none, 0, hx1, ⟨rfl, fun h => absurd h (by decide)⟩, Nat.le_refl _, Bts.nil _ _, Nat.le_refl _, fun _ => rfl, fun ad e => by cases e⟩, by omega, by omega, by omega⟩
  have Hst1 := Lib.hid hst1
  have Hg1 := Lib.hid hg1
  have Hw1 := Lib.hid hw1
  have Hb1 := Lib.hid hb1
  have Hx1 := Lib.hid hx1
  have Hd1 := Lib.hid hd1
  have Hs1 := Lib.hid hs1
  clear hw1 hb1 hx1 hd1 hst1 hg1 hd hs1
  have hlf : ∀ (E : Dsk) (w2 : World), Left w1 d mp mt E w2 → Left w d mp mt E w2 := fun _ _ h => ⟨h.disk, (Ext.of_below Hb1.out).trans h.ext⟩
  have Hlf := Lib.hid hlf
  clear hlf
  go_enter Try.func59, Try.ntmps59
  go_upto_region 2 with (fail)
  rw [← Hw1.out]
  by_cases hc1 : c1 = 0
  · rw [hc1] at Hst1 Hg1
    clear hc1 c1
    obtain ⟨b, c2, hg2⟩ : ∃ b c, E1.read Q.snapN = (b, c) := ⟨_, _, rfl⟩
    have hbl : b.length ≤ 1048576 := by have := read_len ho1 Q.snapN; rw [hg2] at this; exact this
    have hrd := fun W (hW : IsDisk W d mp mt E1) => read_calls d mp mt E1 { data := #[115, 110, 97, 112] } W hW (by decide) (fun f hf => Nat.le_trans (sum_le_mem _ f hf) ho1.sum)
    rw [snapN_eq, hg2] at hrd
    unfold ReadGives at hrd
    dsimp only at hrd
    obtain ⟨nb, hnb⟩ : ∃ nb, nb = b.length := ⟨_, rfl⟩
    rw [← hnb] at hrd hbl
    have Hnb := Lib.hid hnb
    have Hrd := Lib.hid hrd
    have Hg2 := Lib.hid hg2
    clear hrd hg2 hnb
    by_cases hc31 : c2 = 31
    · rw [hc31] at Hrd Hg2
      have hr := Q.open_2 Hg1.out Hg2.out
      have Hr := Lib.hid hr
      clear hc31 c2 hr
      go_wp2_with (first
        | (go_at_call 109; refine Hst1.out.mono ?_; rintro e w2 ⟨rfl, hL2⟩)
        | (go_at_call 48; refine (Hrd.out w2 hL2.disk).mono ?_; rintro e w3 ⟨A3, k3, rfl, hown3, hb3⟩))
      go_ret2
      have hs2 := (Hs1.out.left Hd1.out hL2.ext).below hb3
      exact OpenIs.yes Hr.out ⟨_, rfl, hs2, Nat.le_refl _, Hlf.out _ _ ⟨hL2.disk.below hb3, hL2.ext.trans (Ext.of_below hb3)⟩⟩
    · have gc31 : (c2 == 31) = false := beq_eq_false_iff_ne.2 hc31
      by_cases hc0 : c2 = 0
      · rw [hc0] at Hrd Hg2
        clear hc31 hc0 gc31 c2
        have hsr := fun (W : World) (A : Option Addr) (k : Nat) (hW : W.ownsRow 0 5 1 (.slice A nb k) nb (vals b)) => show Calls Try.prog 16 #[.slice A nb k] W (SnReads W (Q.read 7 b)) by
          obtain ⟨o1, o2, o3, o4⟩ := own_all (by rw [Hnb.out] at hW; exact hW)
          exact snread_calls A nb k b W (by rw [Hnb.out]; exact o1) (by omega) (by rw [Hnb.out]; exact o2) o3
        have Hsr := Lib.hid hsr
        clear hsr
        cases hp : Q.read 7 b with
        | none =>
          have hr := Q.open_4 Hg1.out Hg2.out hp
          rw [hp] at Hsr
          have Hr := Lib.hid hr
          clear hr hp
          go_wp2_with (first
            | (go_at_call 109; refine Hst1.out.mono ?_; rintro e w2 ⟨rfl, hL2⟩)
            | (go_at_call 48; refine (Hrd.out w2 hL2.disk).mono ?_; rintro e w3 ⟨A3, k3, rfl, hown3, hb3⟩)
            | (go_at_call 16; refine (Hsr.out w3 A3 k3 (own_base hown3 (Nat.zero_le _))).mono ?_; rintro e w4 ⟨rfl, hb4⟩))
          go_ret2
          have hb34 : Below w2.heap.size w2 (w4.alloc (.cells #[.int .u64 0, .int .u64 0, .slice none 0 0, .slice none 0 0] 27)) := (hb3.trans (hb4.mono hb3.size)).alloc (Nat.le_trans hb3.size hb4.size) _
          exact OpenIs.no Hr.out (by decide) ⟨rfl, Hlf.out _ _ ⟨hL2.disk.below hb34, hL2.ext.trans (Ext.of_below hb34)⟩⟩
        | some p =>
          have hr := Q.open_5 Hg1.out Hg2.out hp
          rw [hp] at Hsr
          have Hr := Lib.hid hr
          clear hr hp
          go_upto_region 11 with (first
            | (go_at_call 109; refine Hst1.out.mono ?_; rintro e w2 ⟨rfl, hL2⟩)
            | (go_at_call 48; refine (Hrd.out w2 hL2.disk).mono ?_; rintro e w3 ⟨A3, k3, rfl, hown3, hb3⟩)
            | (go_at_call 16; refine (Hsr.out w3 A3 k3 (own_base hown3 (Nat.zero_le _))).mono ?_; rintro e w4 ⟨v4, rfl, hsn4, hfr4, hb4⟩; obtain ⟨A2, cm2, B2, cd2, rfl, s1, s2, s3, s4⟩ := hsn4.up; dsimp only))
          obtain ⟨P, hP⟩ : ∃ P, P = p.up := ⟨_, rfl⟩
          rw [← hP] at s1 s2 s3 s4 hfr4 Hr ⊢
          obtain ⟨pi, hpi⟩ : ∃ x, x = P.index := ⟨_, rfl⟩
          obtain ⟨pt, hpt⟩ : ∃ x, x = P.term := ⟨_, rfl⟩
          obtain ⟨pm, hpm⟩ : ∃ x, x = P.members.length := ⟨_, rfl⟩
          obtain ⟨pd, hpd⟩ : ∃ x, x = P.data.length := ⟨_, rfl⟩
          rw [← hpi, ← hpt, ← hpm, ← hpd] at hfr4 ⊢
          obtain ⟨w5, hw5⟩ : ∃ w5, w5 = w4.alloc (.cells #[.int .u64 (pi : Int), .int .u64 (pt : Int), .slice A2 pm cm2, .slice B2 pd cd2] 27) := ⟨_, rfl⟩
          rw [← hw5]
          have hb45 : Below w4.heap.size w4 w5 := by rw [hw5]; exact al1 _ _
          have hb25 : Below w2.heap.size w2 w5 := (hb3.trans (hb4.mono hb3.size)).trans (hb45.mono (Nat.le_trans hb3.size hb4.size))
          have hx5 : w5.heap[w4.heap.size]? = some (.cells #[.int .u64 (pi : Int), .int .u64 (pt : Int), .slice A2 pm cm2, .slice B2 pd cd2] 27 (0, 0)) := by rw [hw5]; exact blk_new _ _
          have ht2 := hL2.ext.obj Hx1.out (by simp; omega)
          have ht5 := (hb25.block _ (blk_lt ht2)).trans ht2
          have hd5 := hL2.disk.below hb25
          obtain ⟨w6, hw6⟩ : ∃ w6, w6 = (((w5.setCell ⟨w.heap.size, 1, none⟩ (.int .u64 (pi : Int))).setCell ⟨w.heap.size, 2, none⟩ (.int .u64 (pt : Int))).setCell ⟨w.heap.size, 3, none⟩ (.slice A2 pm cm2)).setCell ⟨w.heap.size, 4, none⟩ (.slice B2 pd cd2) := ⟨_, rfl⟩
          have hE6 : Ext [w.heap.size] w5 w6 := by rw [hw6]; exact ((((Ext.refl _ _).setCell (Or.inl (by simp)) _).setCell (Or.inl (by simp)) _).setCell (Or.inl (by simp)) _).setCell (Or.inl (by simp)) _
          have hx6 : w6.heap[w.heap.size]? = some (.cells #[.pointer (some ⟨d, 0, none⟩), .int .u64 (pi : Int), .int .u64 (pt : Int), .slice A2 pm cm2, .slice B2 pd cd2] 99 (0, 0)) := by rw [hw6]; exact blk_set (blk_set (blk_set (blk_set ht5 1 _) 2 _) 3 _) 4 _
          have hnu : ∀ q, q ∈ [w.heap.size] → NoU8 w5 q := fun q hq => by rw [List.mem_singleton.1 hq]; exact .of_cells ht5 (fun j x => by rcases j with _ | _ | _ | _ | _ | j <;> simp)
          have hni : ∀ q, q ∈ [w.heap.size] → NoI64 w5 q := fun q hq => by rw [List.mem_singleton.1 hq]; exact .of_cells ht5 (fun j x => by rcases j with _ | _ | _ | _ | _ | j <;> simp)
          have hd6 : IsDisk w6 d mp mt E1 := hd5.ext hE6 hnu (by simp; omega) (by simp; omega) (by simp; omega)
          obtain ⟨fa, fb⟩ := hfr4.parts2
          have hw23 : w.heap.size < w3.heap.size := by have := blk_lt ht2; have := hb3.size; omega
          have hstore : IsStore w6 w.heap.size d mp mt P := by
            refine ⟨⟨A2, cm2, B2, cd2, ?_, (s1.below hb45).ext hE6 hni, s2, (s3.below hb45).ext hE6 hnu, s4, fb, fun ad q => ?_⟩, by omega, by omega, by omega⟩
            · rw [← hpi, ← hpt, ← hpm, ← hpd]; exact hx6
            · have := fa ad q
              refine ⟨?_, ?_, ?_, ?_⟩ <;> omega
          have hext : Ext [d, mp, mt] w w6 := (((Ext.of_below Hb1.out).trans hL2.ext).trans (Ext.of_below hb25)).then_ hE6 (fun i hi => Or.inr (by rw [List.mem_singleton.1 hi]; exact Nat.le_refl _))
          have x0 := blk_cell hx5 0
          have x1 := blk_cell hx5 1
          have x2 := blk_cell hx5 2
          have x3 := blk_cell hx5 3
          have t1 := blk_cell ht5 1
          have t2 := blk_cell ht5 2
          have t3 := blk_cell ht5 3
          have t4 := blk_cell ht5 4
          have f1 := blk_frozen ht5 1
          have f2 := blk_frozen ht5 2
          have f3 := blk_frozen ht5 3
          have f4 := blk_frozen ht5 4
          have Hstore := Lib.hid hstore
          have Hd6 := Lib.hid hd6
          have Hext := Lib.hid hext
          have Hw6 := Lib.hid hw6
          clear hP hpi hpt hpm hpd hw5 hb45 hb25 hx5 ht2 ht5 hd5 hw6 hE6 hx6 hnu hni hd6 fa fb hw23 hstore hext s1 s2 s3 s4 hfr4 hsn4 hb4 hb3 hown3 hL2
          go_wp2_with fail
          rw [← Hw6.out]
          go_ret2
          exact OpenIs.yes Hr.out ⟨_, rfl, Hstore.out, Nat.le_refl _, Hd6.out, Hext.out⟩
      · have gc0 : (c2 != 0) = true := by rw [bne_iff_ne]; exact hc0
        have hr := Q.open_3 Hg1.out Hg2.out hc31 hc0
        have Hr := Lib.hid hr
        have Hc0 := Lib.hid hc0
        clear hr hc31 hc0
        go_wp2_with (first
          | (go_at_call 109; refine Hst1.out.mono ?_; rintro e w2 ⟨rfl, hL2⟩)
          | (go_at_call 48; refine (Hrd.out w2 hL2.disk).mono ?_; rintro e w3 ⟨A3, k3, rfl, hown3, hb3⟩))
        go_ret2
        exact OpenIs.no Hr.out Hc0.out ⟨rfl, Hlf.out _ _ ⟨hL2.disk.below hb3, hL2.ext.trans (Ext.of_below hb3)⟩⟩
  · have gc : (c1 != 0) = true := by rw [bne_iff_ne]; exact hc1
    have hr := Q.open_1 Hg1.out hc1
    have Hr := Lib.hid hr
    have Hc1 := Lib.hid hc1
    clear hr hc1
    go_wp2_with (go_at_call 109; refine Hst1.out.mono ?_; rintro e w2 ⟨rfl, hL2⟩)
    go_ret2
    exact OpenIs.no Hr.out Hc1.out ⟨rfl, Hlf.out _ _ hL2⟩
end Go.Proofs.Ytcfgdlpdnpnhmaa
set_option linter.unusedVariables false
set_option linter.unusedSimpArgs false
namespace Go.Proofs.Ytcfgdlpdnpnhmaa
open Go
namespace Q
theorem into_fresh (r : Int) (b : Bs) (hr : (b.length : Int) ≤ r) : (into (Dsk.new r) snapW snapN b).2 = 0 := by
  have h1 : gone (Dsk.new r) snapW = (Dsk.new r, 0) := rfl
  have h2 : (Dsk.new r).append snapW b = (⟨r, [⟨snapW, b, 0⟩], false, -1, 1⟩, 0) := by
    have hf : (Dsk.new r).free = r := by unfold Dsk.free Dsk.new Dsk.sum; simp; omega
    unfold Dsk.append
    rw [if_neg (show ¬ (Dsk.new r).down = true from fun h => by cases h), if_neg (show ¬ Dsk.named snapW = false by decide)]
    rw [show Dsk.find (Dsk.new r).files snapW = none from rfl]
    dsimp only
    rw [if_neg (by rw [hf]; rintro (h | h); exact absurd h (by show ¬ 128 ≤ 0; omega); omega)]
    rfl
  have h3 : (⟨r, [⟨snapW, b, 0⟩], false, -1, 1⟩ : Dsk).sync snapW = (⟨r, [⟨snapW, b, b.length⟩], false, -1, 2⟩, 0) := rfl
  have h4 : ((⟨r, [⟨snapW, b, b.length⟩], false, -1, 2⟩ : Dsk).move snapW snapN).2 = 0 := rfl
  unfold into
  rw [h1, if_neg (fun c => c rfl)]
  dsimp only
  rw [h2, if_neg (fun c => c rfl)]
  dsimp only
  rw [h3, if_neg (fun c => c rfl)]
  dsimp only
  rw [h4]
theorem gone_steps (D : Dsk) (n : Bs) : (gone D n).1.steps ≤ D.steps + 1 := Dsk.steps_remove D n
theorem into_steps (D : Dsk) (w t b : Bs) : (into D w t b).1.steps ≤ D.steps + 4 := by
  have h1 := gone_steps D w
  have h2 := Dsk.steps_append (gone D w).1 w b
  have h3 := Dsk.steps_sync ((gone D w).1.append w b).1 w
  have h4 := Dsk.steps_move (((gone D w).1.append w b).1.sync w).1 w t
  unfold into
  split
  · omega
  · split
    · omega
    · split <;> omega
theorem sSave_steps (D : Dsk) (was s : Sn) : (sSave D was s).1.steps ≤ D.steps + 4 := by
  have h1 := into_steps D snapW snapN (bytesOf s.down)
  unfold sSave
  split
  · dsimp only; omega
  · split
    · dsimp only; omega
    · split <;> (dsimp only; omega)
theorem sOpen_steps (D : Dsk) : (sOpen D).1.steps ≤ D.steps + 1 := by
  have h1 := gone_steps D snapW
  unfold sOpen
  split <;> exact h1
/-- The example's snapshot. -/
def plain (i : Nat) : Sn := ⟨i, 1, [0], [97]⟩
theorem plain_sound : sound (plain 5) = true := by decide
theorem plain_first : (sSave (Dsk.new 1000) noSn (plain 5)).2 = (plain 5, 0) := by
  have hd : (bytesOf (plain 5).down).length ≤ 1000 := by
    obtain ⟨k1, k2, k3, k4, k5⟩ := sound_le (p := (plain 5).down) (by rw [down_up plain_sound]; exact plain_sound)
    unfold bytesOf
    rw [frame_len]
    have a1 := numB_len (n := 5) (by omega)
    have a2 := numB_len (n := 1) (by omega)
    have a3 := numB_len (n := 0) (by omega)
    have e : body (plain 5).down = numB 5 ++ (numB 1 ++ (numB 1 ++ (numB 0 ++ (numB 1 ++ [97])))) := by
      unfold body numsB textB
      simp [plain, Sn.down]
    rw [e]
    simp only [List.length_append]
    simp
    omega
  have hi := into_fresh 1000 (bytesOf (plain 5).down) (by omega)
  unfold sSave
  rw [if_neg (by rw [plain_sound]; decide), if_neg (show ¬ (plain 5).index ≤ noSn.index by decide), if_neg (by rw [hi]; exact fun c => c rfl)]
theorem plain_again (D : Dsk) : sSave D (plain 5) (plain 5) = (D, plain 5, 34) := by
  unfold sSave
  rw [if_neg (by rw [plain_sound]; decide), if_pos (Nat.le_refl _)]
theorem plain_open : sOpen (Dsk.new 1000) = (Dsk.new 1000, noSn, 0) := rfl
end Q
end Go.Proofs.Ytcfgdlpdnpnhmaa
set_option linter.unusedVariables false
set_option linter.unusedSimpArgs false
namespace Go.Proofs.Ytcfgdlpdnpnhmaa
open Go.RowKit Go.Maps

def PlainIs (w : World) (i : Nat) (e : Ending) (w' : World) : Prop := ∃ v, e = .returned v ∧ SnIs w' v (Q.plain i) ∧ SnFresh w.heap.size v ∧ Below w.heap.size w w'
set_option maxRecDepth 100000 in
theorem plain_calls (i : Nat) (w : World) :
    Calls Try.prog 61 #[.int .u64 (i : Int)] w (PlainIs w i) := by
  obtain ⟨w2, hw2⟩ : ∃ w2, w2 = (w.alloc (.cells #[.int .u64 0, .int .u64 0, .slice none 0 0, .slice none 0 0] 27)).alloc (.cells #[.int .i64 0] 3) := ⟨_, rfl⟩
  have hs2 : w2.heap.size = w.heap.size + 1 + 1 := by rw [hw2]; simp
  have hcs := run_conv_const #[.int .u8 97] 1 1 w2
  rw [hs2] at hcs
  obtain ⟨w3, hw3⟩ : ∃ w3, w3 = w2.alloc (.cells #[.int .u8 97] 5 (1, 2)) := ⟨_, rfl⟩
  have hb2 : Below w.heap.size w w2 := by rw [hw2]; exact below2 w _ _
  have hb3 : Below w.heap.size w w3 := by rw [hw3]; exact hb2.trans ((al1 w2 _).mono hb2.size)
  have hr3 : w3.heap[w.heap.size]? = some (.cells #[.int .u64 0, .int .u64 0, .slice none 0 0, .slice none 0 0] 27 (0, 0)) := by rw [hw3, hw2]; exact blk_alloc (blk_alloc (blk_new w _) _) _
  have hi3 : w3.heap[w.heap.size + 1]? = some (.cells #[.int .i64 0] 3 (0, 0)) := by rw [hw3, hw2]; exact blk_alloc (blk_new1 w _ _) _
  have hc3 : w3.heap[w.heap.size + 1 + 1]? = some (.cells #[.int .u8 97] 5 (1, 2)) := by rw [hw3, ← hs2]; exact blk_new w2 _
  have hcs' : (convert 22 22 (.slice (some ⟨w.heap.size + 1 + 1, 0, none⟩) 1 1)).run Try.prog (((w.alloc (.cells #[.int .u64 0, .int .u64 0, .slice none 0 0, .slice none 0 0] 27)).alloc (.cells #[.int .i64 0] 3)).alloc (.cells #[.int .u8 97] 5)) = .ok (.slice (some ⟨w.heap.size + 1 + 1, 0, none⟩) 1 1) w3 := by
    rw [hw3, ← hw2]; exact hcs
  have r0 := blk_cell hr3 0
  have r1 := blk_cell hr3 1
  have r2 := blk_cell hr3 2
  have r3 := blk_cell hr3 3
  have z0 := blk_frozen hr3 0
  have z1 := blk_frozen hr3 1
  have z2 := blk_frozen hr3 2
  have z3 := blk_frozen hr3 3
  obtain ⟨w4, hw4⟩ : ∃ w4, w4 = (((w3.setCell ⟨w.heap.size, 0, none⟩ (.int .u64 (i : Int))).setCell ⟨w.heap.size, 1, none⟩ (.int .u64 1)).setCell ⟨w.heap.size, 2, none⟩ (.slice (some ⟨w.heap.size + 1, 0, none⟩) 1 1)).setCell ⟨w.heap.size, 3, none⟩ (.slice (some ⟨w.heap.size + 1 + 1, 0, none⟩) 1 1) := ⟨_, rfl⟩
  have hE4 : Ext [w.heap.size] w3 w4 := by rw [hw4]; exact ((((Ext.refl _ _).setCell (Or.inl (by simp)) _).setCell (Or.inl (by simp)) _).setCell (Or.inl (by simp)) _).setCell (Or.inl (by simp)) _
  have hx4 : w4.heap[w.heap.size]? = some (.cells #[.int .u64 (i : Int), .int .u64 1, .slice (some ⟨w.heap.size + 1, 0, none⟩) 1 1, .slice (some ⟨w.heap.size + 1 + 1, 0, none⟩) 1 1] 27 (0, 0)) := by rw [hw4]; exact blk_set (blk_set (blk_set (blk_set hr3 0 _) 1 _) 2 _) 3 _
  have hi4 := hE4.obj hi3 (by simp)
  have hc4 := hE4.obj hc3 (by simp; omega)
  have y0 := blk_cell hx4 0
  have y1 := blk_cell hx4 1
  have y2 := blk_cell hx4 2
  have y3 := blk_cell hx4 3
  have hits : Itz w4 (some ⟨w.heap.size + 1, 0, none⟩) 1 [0] := Itz.of_block (l := [0]) hi4
  have hbt : Bts w4 (some ⟨w.heap.size + 1 + 1, 0, none⟩) 1 [97] := Bts.of_block hc4 [97] (fun j hj => by rcases j with _ | j; rfl; simp at hj)
  have hbel : Below w.heap.size w w4 := hb3.trans (hE4.below (B := w.heap.size) hb3.size (fun q hq => by rw [List.mem_singleton.1 hq]; exact Nat.le_refl _))
  have Hits := Lib.hid hits
  have Hbt := Lib.hid hbt
  have Hbel := Lib.hid hbel
  have Hw4 := Lib.hid hw4
  clear hw2 hs2 hcs hw3 hb2 hb3 hr3 hi3 hc3 hw4 hE4 hx4 hi4 hc4 hits hbt hbel
  go_enter Try.func61, Try.ntmps61
  go_wp2_with fail
  rw [← Hw4.out]
  refine bodyPost_ret (v := .agg #[.int .u64 (i : Int), .int .u64 1, .slice (some ⟨w.heap.size + 1, 0, none⟩) 1 1, .slice (some ⟨w.heap.size + 1 + 1, 0, none⟩) 1 1]) (by simp [results, Try.results61, go_sem, y0, y1, y2, y3]) rfl ?_
  exact ⟨_, rfl, ⟨_, 1, _, 1, rfl, Hits.out, Nat.le_refl _, Hbt.out, Nat.le_refl _⟩, ⟨_, _, _, 1, 1, _, 1, 1, rfl, fun ad e => by cases e; show w.heap.size ≤ w.heap.size + 1; omega, fun ad e => by cases e; show w.heap.size ≤ w.heap.size + 1 + 1; omega, fun e => by cases e⟩, Hbel.out⟩

theorem plain_num : ∀ W : World, Calls Try.prog 61 #[.int .u64 5] W (PlainIs W 5) := fun W => plain_calls 5 W
theorem plain_eight : (Q.plain 5).members.length = 1 ∧ (Q.plain 5).data.length = 1 := ⟨rfl, rfl⟩
theorem save_one (D E : Dsk) (S s : Q.Sn) (c : Int) (h : Q.sSave D S s = (E, s, c)) : True := trivial
set_option maxRecDepth 100000 in
set_option maxHeartbeats 2000000 in
theorem lives27_calls (w : World) :
    Calls Try.prog 15 #[] w fun e w' => e = .returned (.bool true) ∧ Below w.heap.size w w' := by
  have hnew := new_calls 1000 w (by omega) (by omega)
  have Hnew := Lib.hid hnew
  have hok0 := new_ok 1000 (by omega) (by omega)
  have Hok := Lib.hid hok0
  have Hpl := Lib.hid plain_num
  obtain ⟨D1, hD1⟩ : ∃ D1, Q.sSave (Dsk.new 1000) Q.noSn (Q.plain 5) = (D1, Q.plain 5, 0) := ⟨(Q.sSave (Dsk.new 1000) Q.noSn (Q.plain 5)).1, by rw [← Q.plain_first]⟩
  have hok1 : D1.Ok := by have := Q.sSave_ok (was := Q.noSn) (Q.plain 5) hok0; rw [hD1] at this; exact this
  have hst1 : D1.steps < 4611686018427387000 := by
    have h := Q.sSave_steps (Dsk.new 1000) Q.noSn (Q.plain 5)
    rw [hD1] at h
    have : (Dsk.new 1000).steps = 0 := rfl
    dsimp only at h
    omega
  have HD1 := Lib.hid hD1
  have Hok1 := Lib.hid hok1
  clear hnew hok0 hD1 hok1
  go_enter Try.func15, Try.ntmps15
  go_wp2_with fail
  refine Hnew.out.mono ?_
  rintro e w1 ⟨rfl, hd1, hb1⟩
  have Hop := Lib.hid (snopen_calls _ _ _ _ w1 hd1 Hok.out (by decide))
  have Hb1 := Lib.hid hb1
  have hsz1 : w.heap.size + 2 < w1.heap.size := hd1.lt_d
  clear hd1 hb1
  go_wp2_with fail
  refine Hop.out.mono ?_
  rintro e w2 hop
  rw [Q.plain_open] at hop
  unfold OpenIs at hop
  rw [if_pos rfl] at hop
  obtain ⟨t, rfl, hs2, ht, hL2⟩ := hop
  dsimp only at hs2 hL2
  have Hs2 := Lib.hid hs2
  have HL2 := Lib.hid hL2
  have hb2 : Below w.heap.size w w2 := Hb1.out.trans (hL2.ext.below (B := w.heap.size) Hb1.out.size (fun q hq => by simp at hq; omega))
  have hsz2 : w1.heap.size ≤ w2.heap.size := hL2.ext.size
  have htl : t < w2.heap.size := hs2.lt
  have Hb2 := Lib.hid hb2
  clear hs2 hL2 hb2
  go_wp2_with fail
  refine (Hpl.out w2).mono ?_
  rintro e w3 ⟨v3, rfl, hsn3, hfr3, hb3⟩
  have hsz3 : w2.heap.size ≤ w3.heap.size := hb3.size
  have hsv := save_calls v3 (Q.plain 5) t _ _ _ Q.noSn (Dsk.new 1000) w3 hsn3 (hfr3.away (fun k hk => by simp at hk; omega)) (by decide) (by decide) (by decide) (by decide) (by decide) (Hs2.out.below hb3) (HL2.out.disk.below hb3) Hok.out (by decide)
  rw [HD1.out] at hsv
  have Hsv := Lib.hid hsv
  have Hb3 := Lib.hid (Hb2.out.trans (hb3.mono Hb2.out.size))
  clear hsn3 hfr3 hb3 hsv
  go_wp2_with fail
  refine Hsv.out.mono ?_
  rintro e w4 ⟨rfl, hs4, hd4, hx4⟩
  dsimp only at hs4 hd4
  dsimp only
  have hb4 : Below w.heap.size w w4 := Hb3.out.trans (hx4.below (B := w.heap.size) Hb3.out.size (fun q hq => by simp at hq; omega))
  have hsz4 : w3.heap.size ≤ w4.heap.size := hx4.size
  have Hs4 := Lib.hid hs4
  have Hd4 := Lib.hid hd4
  have Hb4 := Lib.hid hb4
  clear hs4 hd4 hx4 hb4
  go_wp2_with fail
  refine (Hpl.out w4).mono ?_
  rintro e w5 ⟨v5, rfl, hsn5, hfr5, hb5⟩
  have hsz5 : w4.heap.size ≤ w5.heap.size := hb5.size
  have hsv := save_calls v5 (Q.plain 5) t _ _ _ (Q.plain 5) D1 w5 hsn5 (hfr5.away (fun k hk => by simp at hk; omega)) (by decide) (by decide) (by decide) (by decide) (by decide) (Hs4.out.below hb5) (Hd4.out.below hb5) Hok1.out hst1
  rw [Q.plain_again] at hsv
  have Hsv2 := Lib.hid hsv
  have Hb5 := Lib.hid (Hb4.out.trans (hb5.mono Hb4.out.size))
  clear hsn5 hfr5 hb5 hsv
  go_wp2_with fail
  refine Hsv2.out.mono ?_
  rintro e w6 ⟨rfl, hs6, hd6, hx6⟩
  dsimp only at hs6 hd6
  dsimp only
  have hb6 : Below w.heap.size w w6 := Hb5.out.trans (hx6.below (B := w.heap.size) Hb5.out.size (fun q hq => by simp at hq; omega))
  have Hget := Lib.hid (sget_yes t _ _ _ (Q.plain 5) w6 hs6 (by decide) (by decide) (by decide))
  have Hb6 := Lib.hid hb6
  clear hs6 hd6 hx6 hb6
  go_upto_region 5 with (go_at_call 57; refine Hget.out.mono ?_; rintro e w8 ⟨v8, rfl, hsn8, hfr8, hb8⟩; have hsn8' := hsn8; obtain ⟨A8, c8, B8, d8, rfl, s1, s2, s3, s4⟩ := hsn8; rw [plain_eight.1, plain_eight.2, show (((Q.plain 5).index : Nat) : Int) = 5 from rfl, show (((Q.plain 5).term : Nat) : Int) = 1 from rfl] at hsn8' ⊢)
  obtain ⟨w9, hw9⟩ : ∃ w9, w9 = w8.alloc (.cells #[.int .u64 5, .int .u64 1, .slice A8 1 c8, .slice B8 1 d8] 27) := ⟨_, rfl⟩
  rw [← hw9]
  have hb89 : Below w8.heap.size w8 w9 := by rw [hw9]; exact al1 _ _
  have hx9 : w9.heap[w8.heap.size]? = some (.cells #[.int .u64 5, .int .u64 1, .slice A8 1 c8, .slice B8 1 d8] 27 (0, 0)) := by rw [hw9]; exact blk_new _ _
  have Hsn9 := Lib.hid (hsn8'.below hb89)
  have hb9 : Below w.heap.size w w9 := (Hb6.out.trans (hb8.mono Hb6.out.size)).trans (hb89.mono (Nat.le_trans Hb6.out.size hb8.size))
  obtain ⟨g, hg⟩ : ∃ g, g = w8.heap.size := ⟨_, rfl⟩
  rw [← hg] at hx9 ⊢
  have hS : ∀ w', Below w9.heap.size w9 w' → (w'.cell? ⟨g, 0, none⟩ = some (.int .u64 5) ∧ w'.cell? ⟨g, 1, none⟩ = some (.int .u64 1) ∧ w'.cell? ⟨g, 2, none⟩ = some (.slice A8 1 c8) ∧ w'.cell? ⟨g, 3, none⟩ = some (.slice B8 1 d8)) := fun w' hb => by
    have e1 := (hb.block _ (blk_lt hx9)).trans hx9
    exact ⟨blk_cell e1 0, blk_cell e1 1, blk_cell e1 2, blk_cell e1 3⟩
  have HS := Lib.hid hS
  have Hb9 := Lib.hid hb9
  clear hw9 hb89 hx9 hsn8' hb8 hb9 hg hS s1 s2 s3 s4 hfr8
  refine wp_region_last (fun w' => w'.cell? ⟨g, 0, none⟩ = some (.int .u64 5) ∧ w'.cell? ⟨g, 1, none⟩ = some (.int .u64 1) ∧ w'.cell? ⟨g, 2, none⟩ = some (.slice A8 1 c8) ∧ w'.cell? ⟨g, 3, none⟩ = some (.slice B8 1 d8)) 20 (by kernel_rfl) (HS.out _ (Below.refl _ _).drew) (fun hHeld => ?_)
  refine wpAnyL_take 0 (v := ?_) rfl (by kernel_rfl) (fun _ _ _ h => h) (Or.inl ⟨by kernel_rfl, ?_⟩) hHeld ?_
  rotate_left
  · (intro w hSw; (try dsimp only at hSw); go_simp; try with_reducible rfl)
  try simp only [Act.put, List.setIfInBounds_toArray, List.set_cons_zero, List.set_cons_succ]
  refine wpAnyL_take 1 (v := ?_) rfl (by kernel_rfl) (fun _ _ _ h => h) (Or.inl ⟨by kernel_rfl, ?_⟩) hHeld ?_
  rotate_left
  · (intro w hSw; (try dsimp only at hSw); go_simp; try with_reducible rfl)
  try simp only [Act.put, List.setIfInBounds_toArray, List.set_cons_zero, List.set_cons_succ]
  refine wpAnyL_take 2 (v := ?_) rfl (by kernel_rfl) (fun _ _ _ h => h) (Or.inl ⟨by kernel_rfl, ?_⟩) hHeld ?_
  rotate_left
  · (intro w hSw; (try dsimp only at hSw); go_simp; try with_reducible rfl)
  try simp only [Act.put, List.setIfInBounds_toArray, List.set_cons_zero, List.set_cons_succ]
  refine wpAnyL_take 3 (v := ?_) rfl (by kernel_rfl) (fun _ _ _ h => h) (Or.inl ⟨by kernel_rfl, ?_⟩) hHeld ?_
  rotate_left
  · (intro w hSw; (try dsimp only at hSw); go_simp; try with_reducible rfl)
  try simp only [Act.put, List.setIfInBounds_toArray, List.set_cons_zero, List.set_cons_succ]
  refine wpAnyL_take 4 (v := ?_) rfl (by kernel_rfl) (fun _ _ _ h => h) (Or.inl ⟨by kernel_rfl, ?_⟩) hHeld ?_
  rotate_left
  · (intro w hSw; (try dsimp only at hSw); go_simp; try with_reducible rfl)
  try simp only [Act.put, List.setIfInBounds_toArray, List.set_cons_zero, List.set_cons_succ]
  refine wpAnyL_take 5 (v := ?_) rfl (by kernel_rfl) (fun _ _ _ h => h) (Or.inl ⟨by kernel_rfl, ?_⟩) hHeld ?_
  rotate_left
  · (intro w hSw; (try dsimp only at hSw); go_simp; try with_reducible rfl)
  try simp only [Act.put, List.setIfInBounds_toArray, List.set_cons_zero, List.set_cons_succ]
  refine wpAnyL_take 6 (v := ?_) rfl (by kernel_rfl) (fun _ _ _ h => h) (Or.inl ⟨by kernel_rfl, ?_⟩) hHeld ?_
  rotate_left
  · (intro w hSw; (try dsimp only at hSw); go_simp; try with_reducible rfl)
  try simp only [Act.put, List.setIfInBounds_toArray, List.set_cons_zero, List.set_cons_succ]
  refine wpAnyL_take 7 (v := ?_) rfl (by kernel_rfl) (fun _ _ _ h => h) (Or.inl ⟨by kernel_rfl, ?_⟩) hHeld ?_
  rotate_left
  · (intro w hSw; (try dsimp only at hSw); go_simp; try with_reducible rfl)
  try simp only [Act.put, List.setIfInBounds_toArray, List.set_cons_zero, List.set_cons_succ]
  refine wpAnyL_take 8 (v := ?_) rfl (by kernel_rfl) (fun _ _ _ h => h) (Or.inl ⟨by kernel_rfl, ?_⟩) hHeld ?_
  rotate_left
  · (intro w hSw; (try dsimp only at hSw); go_simp; try with_reducible rfl)
  try simp only [Act.put, List.setIfInBounds_toArray, List.set_cons_zero, List.set_cons_succ]
  refine wpAnyL_take 9 (v := ?_) rfl (by kernel_rfl) (fun _ _ _ h => h) (Or.inl ⟨by kernel_rfl, ?_⟩) hHeld ?_
  rotate_left
  · (intro w hSw; (try dsimp only at hSw); go_simp; try with_reducible rfl)
  try simp only [Act.put, List.setIfInBounds_toArray, List.set_cons_zero, List.set_cons_succ]
  refine wpAnyL_take 10 (v := ?_) rfl (by kernel_rfl) (fun _ _ _ h => h) (Or.inl ⟨by kernel_rfl, ?_⟩) hHeld ?_
  rotate_left
  · (intro w hSw; (try dsimp only at hSw); go_simp; try with_reducible rfl)
  try simp only [Act.put, List.setIfInBounds_toArray, List.set_cons_zero, List.set_cons_succ]
  refine wpAnyL_take 11 (v := ?_) rfl (by kernel_rfl) (fun _ _ _ h => h) (Or.inl ⟨by kernel_rfl, ?_⟩) hHeld ?_
  rotate_left
  · (intro w hSw; (try dsimp only at hSw); go_simp; try with_reducible rfl)
  try simp only [Act.put, List.setIfInBounds_toArray, List.set_cons_zero, List.set_cons_succ]
  refine wpAnyL_take 12 (v := ?_) rfl (by kernel_rfl) (fun _ _ _ h => h) (Or.inl ⟨by kernel_rfl, ?_⟩) hHeld ?_
  rotate_left
  · (intro w hSw; (try dsimp only at hSw); go_simp; try with_reducible rfl)
  try simp only [Act.put, List.setIfInBounds_toArray, List.set_cons_zero, List.set_cons_succ]
  refine wpAnyL_take 13 (v := ?_) rfl (by kernel_rfl) (fun _ _ _ h => h) (Or.inl ⟨by kernel_rfl, ?_⟩) hHeld ?_
  rotate_left
  · (intro w hSw; (try dsimp only at hSw); go_simp; try with_reducible rfl)
  try simp only [Act.put, List.setIfInBounds_toArray, List.set_cons_zero, List.set_cons_succ]
  refine wpAnyL_take 14 (v := ?_) rfl (by kernel_rfl) (fun _ _ _ h => h) (Or.inl ⟨by kernel_rfl, ?_⟩) hHeld ?_
  rotate_left
  · (intro w hSw; (try dsimp only at hSw); go_simp; try with_reducible rfl)
  try simp only [Act.put, List.setIfInBounds_toArray, List.set_cons_zero, List.set_cons_succ]
  refine wpAnyL_one 15 (by kernel_rfl) rfl (fun K hK => ?_)
  go_simp
  go_at_call 61
  refine (Hpl.out w9.drew).mono ?_
  rintro e w10 ⟨v10, rfl, hsn10, hfr10, hb10⟩
  have hb910 : Below w9.heap.size w9 w10 := (Below.refl _ _).drew.trans hb10
  have hHeld := HS.out w10 hb910
  refine hK.out _ _ (fun _ => hHeld) ?_
  clear hK K
  try simp only [Act.put, List.setIfInBounds_toArray, List.set_cons_zero, List.set_cons_succ]
  refine wpAnyL_one 16 (by kernel_rfl) rfl (fun K hK => ?_)
  go_simp
  go_at_call 18
  refine (refsame27_calls _ _ (Q.plain 5) (Q.plain 5) w10 (Hsn9.out.below hb910) hsn10 (by decide) (by decide)).mono ?_
  rintro e w11 ⟨b, rfl, hiff, hb11⟩
  obtain rfl : b = true := hiff.2 rfl
  have hb911 : Below w9.heap.size w9 w11 := hb910.trans (hb11.mono hb910.size)
  have hHeld := HS.out w11 hb911
  refine hK.out _ _ (fun _ => hHeld) ?_
  clear hK K
  try simp only [Act.put, List.setIfInBounds_toArray, List.set_cons_zero, List.set_cons_succ]
  refine wpAnyL_take 17 (v := ?_) rfl (by kernel_rfl) (fun _ _ _ h => h) (Or.inl ⟨by kernel_rfl, ?_⟩) hHeld ?_
  rotate_left
  · (intro w hSw; (try dsimp only at hSw); go_simp; try with_reducible rfl)
  try simp only [Act.put, List.setIfInBounds_toArray, List.set_cons_zero, List.set_cons_succ]
  refine wpAnyL_take 18 (v := ?_) rfl (by kernel_rfl) (fun _ _ _ h => h) (Or.inl ⟨by kernel_rfl, ?_⟩) hHeld ?_
  rotate_left
  · (intro w hSw; (try dsimp only at hSw); go_simp; try with_reducible rfl)
  try simp only [Act.put, List.setIfInBounds_toArray, List.set_cons_zero, List.set_cons_succ]
  refine wpAnyL_take 19 (v := ?_) rfl (by kernel_rfl) (fun _ _ _ h => h) (Or.inl ⟨by kernel_rfl, ?_⟩) hHeld ?_
  rotate_left
  · (intro w hSw; (try dsimp only at hSw); go_simp; try with_reducible rfl)
  try simp only [Act.put, List.setIfInBounds_toArray, List.set_cons_zero, List.set_cons_succ]
  refine wpAnyL_one 20 (by kernel_rfl) rfl (fun K hK => ?_)
  go_simp
  refine hK.out _ _ (fun h => absurd rfl h) ?_
  clear hK K
  try simp only [Act.put, List.setIfInBounds_toArray, List.set_cons_zero, List.set_cons_succ]
  refine wpAnyL_done (by kernel_rfl) ?_ _
  go_wp2_with fail
  go_ret
  exact ⟨rfl, Hb9.out.trans (hb911.mono Hb9.out.size)⟩
end Go.Proofs.Ytcfgdlpdnpnhmaa
set_option linter.unusedVariables false
set_option linter.unusedSimpArgs false
namespace Go.Proofs.Ytcfgdlpdnpnhmaa
open Go.RowKit Go.Maps

theorem SnIs.zero (w : World) : SnIs w (.agg #[.int .u64 0, .int .u64 0, .slice none 0 0, .slice none 0 0]) Q.noSn := ⟨none, 0, none, 0, rfl, ⟨rfl, fun h => absurd h (by decide)⟩, Nat.le_refl _, Bts.nil _ _, Nat.le_refl _⟩
/-- What a read snapshot is: a value that stands for it. -/
def upOf : Option Q.Snp → Q.Sn
  | none => Q.noSn
  | some p => p.up
def SnReads2 (w : World) (o : Option Q.Snp) (e : Ending) (w' : World) : Prop := ∃ (i t : Nat) (Am : Option Addr) (nm cm : Nat) (Ad : Option Addr) (nd cd : Nat), e = .returned (.tuple #[.agg #[.int .u64 (i : Int), .int .u64 (t : Int), .slice Am nm cm, .slice Ad nd cd], .bool o.isSome]) ∧ SnIs w' (.agg #[.int .u64 (i : Int), .int .u64 (t : Int), .slice Am nm cm, .slice Ad nd cd]) (upOf o) ∧ Below w.heap.size w w'
theorem SnReads.two {w : World} {o : Option Q.Snp} {e : Ending} {w' : World} (h : SnReads w o e w') : SnReads2 w o e w' := by
  cases o with
  | none => exact ⟨0, 0, _, 0, 0, _, 0, 0, h.1, SnIs.zero w', h.2⟩
  | some p =>
    obtain ⟨v, h1, h2, h3, h4⟩ := h
    obtain ⟨Am, cm, Ad, cd, rfl, _⟩ := id h2
    exact ⟨_, _, Am, _, cm, Ad, _, cd, h1, h2.up, h4⟩
theorem upOf_len {b : Bs} {o : Option Q.Snp} (h : Q.read 7 b = o) : (upOf o).members.length ≤ 140737488355328 := by
  cases o with
  | none => exact Nat.zero_le _
  | some p =>
    unfold Q.read at h
    split at h
    · cases h
    · unfold Q.readBody at h
      split at h
      · rename_i hc
        injection h with h
        obtain ⟨_, _, k3, _, _⟩ := Q.sound_le hc.2
        rw [← h]
        show (List.map _ _).length ≤ _
        rw [List.length_map]
        omega
      · cases h

set_option maxRecDepth 100000 in
set_option maxHeartbeats 2000000 in
theorem snapreads_calls (A : Option Addr) (n c : Nat) (l : Bs) (w : World) (hB : Bts w A n l) (hn : n ≤ 140737488355328) (hnc : n ≤ c) (hA : A = none → c = 0) :
    Calls Try.prog 3 #[.slice A n c] w fun e w' => e = .returned (.bool true) ∧ Below w.heap.size w w' := by
  have Hlv := Lib.hid lives27_calls
  by_cases hbig : 40000 < n
  · have gb : decide ((40000 : Int) < (n : Int)) = true := decide_eq_true (by omega)
    clear hB hA hbig
    go_enter Try.func3, Try.ntmps3
    go_wp2_with (go_at_call 15; refine (Hlv.out w).mono ?_; rintro e w1 ⟨rfl, hb1⟩)
    go_ret
    exact ⟨rfl, hb1⟩
  · have gb : decide ((40000 : Int) < (n : Int)) = false := decide_eq_false (by omega)
    have Hr1 := Lib.hid ((snread_calls A n c l w hB hn hnc hA).mono (fun e w' k => SnReads.two k))
    have Hr2 := Lib.hid (fun W (hW : Bts W A n l) => (refread27_calls A n c l W hW hn hnc).mono (fun e w' k => SnReads.two k))
    obtain ⟨o, ho⟩ : ∃ o, o = Q.read 7 l := ⟨_, rfl⟩
    rw [← ho] at Hr1 Hr2
    have Hln := Lib.hid (upOf_len ho.symm)
    obtain ⟨b, hbo⟩ : ∃ b, b = o.isSome := ⟨_, rfl⟩
    have HB := Lib.hid hB
    unfold SnReads2 at Hr1 Hr2
    rw [← hbo] at Hr1 Hr2
    have gbb : (b == b) = true := beq_self_eq_true b
    clear hB hA hbig ho hbo
    go_enter Try.func3, Try.ntmps3
    go_upto_region 4 with (go_at_call 16; refine Hr1.out.mono ?_; rintro e w1 ⟨i, t, Am, nm, cm, Ad, nd, cd, rfl, hs1, hb1⟩)
    obtain ⟨w2, hw2⟩ : ∃ w2, w2 = w1.alloc (.cells #[.int .u64 (i : Int), .int .u64 (t : Int), .slice Am nm cm, .slice Ad nd cd] 27) := ⟨_, rfl⟩
    rw [← hw2]
    have hb12 : Below w1.heap.size w1 w2 := by rw [hw2]; exact al1 _ _
    have hx2 : w2.heap[w1.heap.size]? = some (.cells #[.int .u64 (i : Int), .int .u64 (t : Int), .slice Am nm cm, .slice Ad nd cd] 27 (0, 0)) := by rw [hw2]; exact blk_new _ _
    have hb2 : Below w.heap.size w w2 := hb1.trans (hb12.mono hb1.size)
    have Hs2 := Lib.hid (hs1.below hb12)
    have Hx2 := Lib.hid hx2
    have Hb2 := Lib.hid hb2
    clear hw2 hb12 hx2 hb2 hs1 hb1
    go_upto_region 5 with (go_at_call 17; refine (Hr2.out w2 (HB.out.below Hb2.out)).mono ?_; rintro e w3 ⟨i2, t2, Am2, nm2, cm2, Ad2, nd2, cd2, rfl, hs3, hb3⟩)
    obtain ⟨w4, hw4⟩ : ∃ w4, w4 = w3.alloc (.cells #[.int .u64 (i2 : Int), .int .u64 (t2 : Int), .slice Am2 nm2 cm2, .slice Ad2 nd2 cd2] 27) := ⟨_, rfl⟩
    rw [← hw4]
    have hb34 : Below w3.heap.size w3 w4 := by rw [hw4]; exact al1 _ _
    have hb24 : Below w2.heap.size w2 w4 := hb3.trans (hb34.mono hb3.size)
    have hx4 : w4.heap[w3.heap.size]? = some (.cells #[.int .u64 (i2 : Int), .int .u64 (t2 : Int), .slice Am2 nm2 cm2, .slice Ad2 nd2 cd2] 27 (0, 0)) := by rw [hw4]; exact blk_new _ _
    have hx24 := (hb24.block _ (blk_lt Hx2.out)).trans Hx2.out
    have hb4 : Below w.heap.size w w4 := Hb2.out.trans (hb24.mono Hb2.out.size)
    have Hsame := Lib.hid (refsame27_calls _ _ (upOf o) (upOf o) w4 (Hs2.out.below hb24) (hs3.below hb34) Hln.out Hln.out)
    have a0 := blk_cell hx24 0
    have a1 := blk_cell hx24 1
    have a2 := blk_cell hx24 2
    have a3 := blk_cell hx24 3
    have b0 := blk_cell hx4 0
    have b1 := blk_cell hx4 1
    have b2 := blk_cell hx4 2
    have b3 := blk_cell hx4 3
    have Hb4 := Lib.hid hb4
    clear hw4 hb34 hb24 hx4 hx24 hb4 hs3 hb3
    go_wp2_with (first
      | (go_at_call 18; refine Hsame.out.mono ?_; rintro e w5 ⟨b5, rfl, hiff, hb5⟩; obtain rfl : b5 = true := hiff.2 rfl; clear hiff)
      | (go_at_call 15; refine (Hlv.out w5).mono ?_; rintro e w6 ⟨rfl, hb6⟩))
    go_ret
    have hb5' := Hb4.out.trans (hb5.mono Hb4.out.size)
    exact ⟨rfl, hb5'.trans (hb6.mono hb5'.size)⟩
end Go.Proofs.Ytcfgdlpdnpnhmaa
set_option linter.unusedVariables false
set_option linter.unusedSimpArgs false
namespace Go.Proofs.Ytcfgdlpdnpnhmaa
open Go.Deep

theorem mapM_at {α β : Type} (f : α → Option β) : ∀ (l : List α) (cs : List β), l.mapM f = some cs → cs.length = l.length ∧ ∀ i (h : i < l.length), f l[i] = cs[i]?
  | [], cs, h => by
    simp at h
    subst h
    exact ⟨rfl, fun i hi => absurd hi (by simp)⟩
  | a :: l, cs, h => by
    simp only [List.mapM_cons, Option.bind_eq_bind, Option.bind_eq_some_iff, Option.pure_def, Option.some.injEq] at h
    obtain ⟨r, hr, rs, hrs, rfl⟩ := h
    obtain ⟨h1, h2⟩ := mapM_at f l rs hrs
    refine ⟨by simp [h1], fun i hi => ?_⟩
    cases i with
    | zero => simpa using hr
    | succ i => simpa using h2 i (by simpa using hi)
theorem cells?_at {w : World} {base n : Nat} {a : Addr} {cs : List Value} (h : w.cells? base a n = some cs) : cs.length = n ∧ ∀ i, i < n → w.cell? (a.add i) = cs[i]? := by
  unfold World.cells? at h
  split at h
  · obtain ⟨h1, h2⟩ := mapM_at _ _ _ h
    rw [List.length_range] at h1
    refine ⟨h1, fun i hi => ?_⟩
    have := h2 i (by simpa using hi)
    simpa using this
  · cases h

section
variable {H : Type} {enc : TypeId × Value → H} {w : World} {base : Nat} {spare : Nat → Bool} {held : Bool}
theorem ops_open {fuel : Nat} {cs : List Value} {x : DataW H × List MemPlace} (h : DataW.trod enc Try.prog w base spare held fuel 39 cs = some x) :
    ∃ A n c l, cs = [.slice A n c] ∧ Ops w A n l ∧ n ≤ c ∧ (n = 0 ∨ ∃ el sp, x.1 = .slice el sp ∧ el.length = n) := by
  rcases open_slice Try.underlying39 h with ⟨rfl, _⟩ | ⟨a, len, cap, m, n, V, P, rfl, _, hl, _, hm, hx, hel⟩
  · exact ⟨none, 0, 0, [], rfl, ⟨rfl, fun h => absurd h (by omega)⟩, Nat.le_refl _, Or.inl rfl⟩
  · have hlm : len ≤ m := by rw [hm]; split <;> omega
    have each : ∀ i, i < len → ∃ o : Opp, ∃ cs, OpCells w cs o ∧ ∀ j, j < 6 → w.cell? (a.add (i * 6 + j)) = cs[j]? := by
      intro i hi
      obtain ⟨cs', h1, h2⟩ := hel i (by omega)
      rw [cells_op] at h1
      obtain ⟨o, ho⟩ := op_open h2
      obtain ⟨h3, h4⟩ := cells?_at h1
      refine ⟨o, cs', ho, fun j hj => ?_⟩
      rw [← h4 j hj, add_of_add]
    obtain ⟨f, hf⟩ := choose_lt each
    refine ⟨some a, len, cap, (List.range len).map f, rfl, ⟨by simp, fun hn => ⟨a, rfl, fun j hj => ?_⟩⟩, hl, Or.inr ⟨_, _, by rw [hx], by simp⟩⟩
    have hg : ((List.range len).map f).getD j default = f j := by simp [List.getD_eq_getElem?_getD, hj]
    rw [hg]
    exact hf j hj
end
end Go.Proofs.Ytcfgdlpdnpnhmaa
set_option linter.unusedVariables false
set_option linter.unusedSimpArgs false
namespace Go.Proofs.Ytcfgdlpdnpnhmaa
open Go.RowKit Go.Maps Go.Deep Go.ChangeShapes Go.WideShapes

theorem cells_u8 : Try.prog.cellsOf 5 = 1 := by kernel_rfl
theorem cells_u64 : Try.prog.cellsOf 24 = 1 := by kernel_rfl
section
variable {H : Type} {enc : TypeId × Value → H} {w : World} {base : Nat} {spare : Nat → Bool} {held : Bool}
theorem bytes_open {fuel : Nat} {cs : List Value} {x : DataW H × List MemPlace} (h : DataW.trod enc Try.prog w base spare held fuel 22 cs = some x) :
    ∃ A n c l, cs = [.slice A n c] ∧ Bts w A n l ∧ n ≤ c ∧ c ≤ maxLen ∧ (A = none → c = 0) ∧ (n = 0 ∨ ∃ el sp, x.1 = .slice el sp ∧ el.length = n) := by
  rcases open_slice1 Try.underlying22 cells_u8 h with ⟨rfl, _⟩ | ⟨a, len, cap, m, n, V, D, P, rfl, _, hl, hm, hmm, hxx, hx⟩
  · exact ⟨none, 0, 0, [], rfl, Bts.nil _ _, Nat.le_refl _, Nat.zero_le _, fun _ => rfl, Or.inl rfl⟩
  · have hlm : len ≤ m := by rw [hmm]; split <;> omega
    have each : ∀ i, i < len → ∃ b : UInt8, w.cell? (a.add i) = some (.int .u8 (b.toNat : Int)) := by
      intro i hi
      obtain ⟨h0, h2⟩ := hx i (by omega)
      obtain ⟨k0, e0, _, w0⟩ := DataW.trod_int Try.underlying5 h2
      injection e0 with e0
      simp [Lit.wf, IntKind.min, IntKind.max, IntKind.bits, IntKind.signed] at w0
      refine ⟨UInt8.ofNat k0.toNat, ?_⟩
      rw [h0, e0]
      congr 2
      simp only [UInt8.toNat_ofNat']
      omega
    obtain ⟨f, hf⟩ := choose_lt each
    refine ⟨some a, len, cap, (List.range len).map f, rfl, ⟨by simp, fun hn => ⟨a, rfl, fun j hj => ?_⟩⟩, hl, hm, (fun e => by cases e), Or.inr ⟨_, _, by rw [hxx], by simp⟩⟩
    rw [hf j hj]
    simp [u8, List.getD_eq_getElem?_getD, hj]
theorem ints_open {fuel : Nat} {cs : List Value} {x : DataW H × List MemPlace} (h : DataW.trod enc Try.prog w base spare held fuel 25 cs = some x) :
    ∃ A n c l, cs = [.slice A n c] ∧ Itz w A n l ∧ n ≤ c ∧ c ≤ maxLen ∧ (n = 0 ∨ ∃ el sp, x.1 = .slice el sp ∧ el.length = n) := by
  rcases open_slice1 Try.underlying25 cells_int h with ⟨rfl, _⟩ | ⟨a, len, cap, m, n, V, D, P, rfl, _, hl, hm, hmm, hxx, hx⟩
  · exact ⟨none, 0, 0, [], rfl, ⟨rfl, fun h => absurd h (by omega)⟩, Nat.le_refl _, Nat.zero_le _, Or.inl rfl⟩
  · have hlm : len ≤ m := by rw [hmm]; split <;> omega
    have each : ∀ i, i < len → ∃ b : Int, w.cell? (a.add i) = some (.int .i64 b) := by
      intro i hi
      obtain ⟨h0, h2⟩ := hx i (by omega)
      obtain ⟨k0, e0, _, w0⟩ := DataW.trod_int Try.underlying3 h2
      injection e0 with e0
      exact ⟨k0, by rw [h0, e0]⟩
    obtain ⟨f, hf⟩ := choose_lt each
    refine ⟨some a, len, cap, (List.range len).map f, rfl, ⟨by simp, fun hn => ⟨a, rfl, fun j hj => ?_⟩⟩, hl, hm, Or.inr ⟨_, _, by rw [hxx], by simp⟩⟩
    rw [hf j hj]
    simp [List.getD_eq_getElem?_getD, hj]
end
end Go.Proofs.Ytcfgdlpdnpnhmaa
set_option linter.unusedVariables false
set_option linter.unusedSimpArgs false
namespace Go.Proofs.Ytcfgdlpdnpnhmaa
open Go.RowKit Go.Maps Go.Deep Go.ChangeShapes Go.WideShapes

theorem lightSn_le {s : Q.Sn} (h : decide (s.members.length ≤ 30 ∧ s.data.length ≤ 33000) = true) : s.members.length ≤ 30 ∧ s.data.length ≤ 33000 := of_decide_eq_true h
def lightSn (s : Q.Sn) : Bool := decide (s.members.length ≤ 30 ∧ s.data.length ≤ 33000)
set_option maxRecDepth 100000 in
theorem light27_calls (v : Value) (s : Q.Sn) (w : World) (hv : SnIs w v s) :
    Calls Try.prog 19 #[v] w fun e w' => e = .returned (.bool (lightSn s)) ∧ Below w.heap.size w w' := by
  obtain ⟨Am, cm, Ad, cd, rfl, _⟩ := hv
  unfold lightSn
  obtain ⟨nm, hnm⟩ : ∃ n, n = s.members.length := ⟨_, rfl⟩
  obtain ⟨nd, hnd⟩ : ∃ n, n = s.data.length := ⟨_, rfl⟩
  rw [← hnm, ← hnd]
  clear hnm hnd
  obtain ⟨w1, hw1⟩ : ∃ w1, w1 = w.alloc (.cells #[.int .u64 (s.index : Int), .int .u64 (s.term : Int), .slice Am nm cm, .slice Ad nd cd] 27) := ⟨_, rfl⟩
  have hb1 : Below w.heap.size w w1 := by rw [hw1]; exact al1 _ _
  have hx1 : w1.heap[w.heap.size]? = some (.cells #[.int .u64 (s.index : Int), .int .u64 (s.term : Int), .slice Am nm cm, .slice Ad nd cd] 27 (0, 0)) := by rw [hw1]; exact blk_new _ _
  have x2 := blk_cell hx1 2
  have x3 := blk_cell hx1 3
  have Hb1 := Lib.hid hb1
  have Hw1 := Lib.hid hw1
  clear hw1 hb1 hx1
  by_cases h1 : nm ≤ 30
  · have g1 : decide ((nm : Int) ≤ 30) = true := decide_eq_true (by omega)
    by_cases h2 : nd ≤ 33000
    · have g2 : decide ((nd : Int) ≤ 33000) = true := decide_eq_true (by omega)
      rw [decide_eq_true (show nm ≤ 30 ∧ nd ≤ 33000 from ⟨h1, h2⟩)]
      go_enter Try.func19, Try.ntmps19
      go_upto_region 1 with (fail)
      rw [← Hw1.out]
      go_wp2
      go_ret
      exact ⟨rfl, Hb1.out⟩
    · have g2 : decide ((nd : Int) ≤ 33000) = false := decide_eq_false (by omega)
      rw [decide_eq_false (show ¬ (nm ≤ 30 ∧ nd ≤ 33000) from fun c => h2 c.2)]
      go_enter Try.func19, Try.ntmps19
      go_upto_region 1 with (fail)
      rw [← Hw1.out]
      go_wp2
      go_ret
      exact ⟨rfl, Hb1.out⟩
  · have g1 : decide ((nm : Int) ≤ 30) = false := decide_eq_false (by omega)
    rw [decide_eq_false (show ¬ (nm ≤ 30 ∧ nd ≤ 33000) from fun c => h1 c.1)]
    go_enter Try.func19, Try.ntmps19
    go_upto_region 1 with (fail)
    rw [← Hw1.out]
    go_wp2
    go_ret
    exact ⟨rfl, Hb1.out⟩

theorem cells_snap : Try.prog.cellsOf 27 = 4 := by kernel_rfl
theorem cells_ints : Try.prog.cellsOf 25 = 1 := by kernel_rfl
theorem cells_bytes : Try.prog.cellsOf 22 = 1 := by kernel_rfl
/-- Four cells that stand for a snapshot. -/
def SnCells (w : World) (cs : List Value) (s : Q.Sn) : Prop :=
  ∃ Am cm Ad cd, cs = [.int .u64 s.index, .int .u64 s.term, .slice Am s.members.length cm, .slice Ad s.data.length cd] ∧ Itz w Am s.members.length s.members ∧ s.members.length ≤ cm ∧ Bts w Ad s.data.length s.data ∧ s.data.length ≤ cd ∧ (Ad = none → cd = 0) ∧ cm ≤ maxLen ∧ cd ≤ maxLen ∧ s.index < 18446744073709551616 ∧ s.term < 18446744073709551616
theorem SnCells.is {w : World} {cs : List Value} {s : Q.Sn} (h : SnCells w cs s) : ∃ Am cm Ad cd, cs = [.int .u64 s.index, .int .u64 s.term, .slice Am s.members.length cm, .slice Ad s.data.length cd] ∧ SnIs w (.agg #[.int .u64 s.index, .int .u64 s.term, .slice Am s.members.length cm, .slice Ad s.data.length cd]) s := by
  obtain ⟨Am, cm, Ad, cd, h0, h1, h2, h3, h4, _⟩ := h
  exact ⟨Am, cm, Ad, cd, h0, Am, cm, Ad, cd, rfl, h1, h2, h3, h4⟩
theorem SnCells.fits {w : World} {cs : List Value} {s : Q.Sn} (h : SnCells w cs s) : s.index < 18446744073709551616 ∧ s.term < 18446744073709551616 := by
  obtain ⟨Am, cm, Ad, cd, h0, h1, h2, h3, h4, h5, h6, h7, h8, h9⟩ := h
  exact ⟨h8, h9⟩
/-- None of the blocks that a call makes is among its rows. -/
theorem SnCells.away {w : World} {v0 v1 v2 v3 : Value} {s : Q.Sn} (h : SnCells w [v0, v1, v2, v3] s) (S : List Nat) (hs : ∀ k, k ∈ S → w.heap.size ≤ k) : SnAway S (.agg #[v0, v1, v2, v3]) := by
  obtain ⟨Am, cm, Ad, cd, h0, h1, h2, h3, h4, h5, _⟩ := h
  injection h0 with e0 h0
  injection h0 with e1 h0
  injection h0 with e2 h0
  injection h0 with e3 h0
  subst e0 e1 e2 e3
  refine ⟨_, _, Am, _, cm, Ad, _, cd, rfl, fun hn ad q m => ?_, h5⟩
  obtain ⟨ad', ea, hc⟩ := h1.2 hn
  rw [q] at ea
  cases ea
  have h6 := World.block_lt_of_cell? w _ (hc 0 hn)
  rw [block_of_add] at h6
  have h7 := hs _ m
  omega
/-- From address A on n snapshots stand: l. -/
def Snaps (w : World) (A : Option Addr) (n : Nat) (l : List Q.Sn) : Prop :=
  l.length = n ∧ (0 < n → ∃ ad, A = some ad ∧ ∀ j, j < n → ∃ cs, SnCells w cs (l.getD j Q.noSn) ∧ ∀ i, i < 4 → w.cell? (ad.add (j * 4 + i)) = cs[i]?)
theorem Snaps.at {w : World} {A : Option Addr} {n : Nat} {l : List Q.Sn} (h : Snaps w A n l) {k : Nat} (hk : k < n) : ∃ ad b o Am cm Ad cd, A = some ad ∧ ad.add (k * 4) = ⟨b, o, none⟩ ∧ SnCells w [.int .u64 (l.getD k Q.noSn).index, .int .u64 (l.getD k Q.noSn).term, .slice Am (l.getD k Q.noSn).members.length cm, .slice Ad (l.getD k Q.noSn).data.length cd] (l.getD k Q.noSn) ∧
    w.cell? ⟨b, o, none⟩ = some (.int .u64 (l.getD k Q.noSn).index) ∧ w.cell? ⟨b, o + 1, none⟩ = some (.int .u64 (l.getD k Q.noSn).term) ∧ w.cell? ⟨b, o + 2, none⟩ = some (.slice Am (l.getD k Q.noSn).members.length cm) ∧ w.cell? ⟨b, o + 3, none⟩ = some (.slice Ad (l.getD k Q.noSn).data.length cd) := by
  obtain ⟨ad, ea, hc⟩ := h.2 (by omega)
  obtain ⟨cs, h1, h2⟩ := hc k hk
  obtain ⟨Am, cm, Ad, cd, h0, _⟩ := id h1
  rw [h0] at h1 h2
  have e0 := h2 0 (by omega)
  have hs : ad.add (k * 4) = ⟨(ad.add (k * 4)).block, (ad.add (k * 4)).off, none⟩ := cell_spot (v := .int .u64 (l.getD k Q.noSn).index) (by simpa using e0)
  obtain ⟨b, o, hbo⟩ : ∃ b o, ad.add (k * 4) = ⟨b, o, none⟩ := ⟨_, _, hs⟩
  have hi : ∀ i, ad.add (k * 4 + i) = ⟨b, o + i, none⟩ := fun i => by rw [← add_of_add, hbo, add0]
  refine ⟨ad, b, o, Am, cm, Ad, cd, ea, hbo, h1, ?_, ?_, ?_, ?_⟩
  · have := h2 0 (by omega); rw [hi] at this; simpa using this
  · have := h2 1 (by omega); rw [hi] at this; simpa using this
  · have := h2 2 (by omega); rw [hi] at this; simpa using this
  · have := h2 3 (by omega); rw [hi] at this; simpa using this
theorem infoSn : (Try.prog.info? 27).map (fun i => (i.size)) = some 4 := by kernel_rfl
theorem run_snap_index (ad : Addr) (n c k : Nat) (h : k < n) (w : World) : (Instr.indexAt 112 (.slice (some ad) n c) (.int .i64 k)).run Try.prog w = .ok (.pointer (some (ad.add (k * 4)))) w := by
  obtain ⟨i0, hi, hz1⟩ := Option.map_eq_some_iff.1 infoSn
  simp [Instr.indexAt, run_underlying Try.underlying112, sizeOf, typeInfo, hi, hz1, h, Result.andThen, asIntOf]

instance : Inhabited Q.Sn := ⟨Q.noSn⟩
section
variable {H : Type} {enc : TypeId × Value → H} {w : World} {base : Nat} {spare : Nat → Bool} {held : Bool}
theorem snap_open {fuel : Nat} {cs : List Value} {x : DataW H × List MemPlace} (h : DataW.trod enc Try.prog w base spare held fuel 27 cs = some x) : ∃ s, SnCells w cs s := by
  obtain ⟨xs, k, hk, hxy, hlen, hxl, hf⟩ := DataW.trod_struct Try.underlying27 h
  rw [cells_snap] at hlen
  obtain ⟨v0, v1, v2, v3, rfl⟩ : ∃ v0 v1 v2 v3, cs = [v0, v1, v2, v3] := by
    rcases cs with _ | ⟨a, _ | ⟨b, _ | ⟨c, _ | ⟨d, _ | ⟨e, cs⟩⟩⟩⟩⟩ <;> simp at hlen
    exact ⟨a, b, c, d, rfl⟩
  ·
    have hxs : ∀ i, i < 4 → ∃ y, xs[i]? = some y := fun i hi => ⟨xs[i]'(by rw [hxl]; simpa using hi), List.getElem?_eq_getElem _⟩
    obtain ⟨y0, e0⟩ := hxs 0 (by omega)
    obtain ⟨y1, e1⟩ := hxs 1 (by omega)
    obtain ⟨y2, e2⟩ := hxs 2 (by omega)
    obtain ⟨y3, e3⟩ := hxs 3 (by omega)
    have g0 : DataW.trod enc Try.prog w base spare held k 24 [v0] = some y0 := by
      have h1 : DataW.trod enc Try.prog w base spare held k 24 (List.take (Try.prog.cellsOf 24) (List.drop 0 [v0, v1, v2, v3])) = some y0 := (hf 0 _ rfl).trans e0
      rw [cells_u64] at h1
      exact h1
    have g1 : DataW.trod enc Try.prog w base spare held k 24 [v1] = some y1 := by
      have h1 : DataW.trod enc Try.prog w base spare held k 24 (List.take (Try.prog.cellsOf 24) (List.drop 1 [v0, v1, v2, v3])) = some y1 := (hf 1 _ rfl).trans e1
      rw [cells_u64] at h1
      exact h1
    have g2 : DataW.trod enc Try.prog w base spare held k 25 [v2] = some y2 := by
      have h1 : DataW.trod enc Try.prog w base spare held k 25 (List.take (Try.prog.cellsOf 25) (List.drop 2 [v0, v1, v2, v3])) = some y2 := (hf 2 _ rfl).trans e2
      rw [cells_ints] at h1
      exact h1
    have g3 : DataW.trod enc Try.prog w base spare held k 22 [v3] = some y3 := by
      have h1 : DataW.trod enc Try.prog w base spare held k 22 (List.take (Try.prog.cellsOf 22) (List.drop 3 [v0, v1, v2, v3])) = some y3 := (hf 3 _ rfl).trans e3
      rw [cells_bytes] at h1
      exact h1
    obtain ⟨k0, q0, _, w0⟩ := DataW.trod_int Try.underlying24 g0
    obtain ⟨k1, q1, _, w1⟩ := DataW.trod_int Try.underlying24 g1
    obtain ⟨Am, nm, cm, lm, q2, hI, h1, h2, _⟩ := ints_open g2
    obtain ⟨Ad, nd, cd, ld, q3, hB, h3, h4, h5, _⟩ := bytes_open g3
    simp at q0 q1 q2 q3
    simp [Lit.wf, IntKind.min, IntKind.max, IntKind.bits, IntKind.signed] at w0 w1
    refine ⟨⟨k0.toNat, k1.toNat, lm, ld⟩, Am, cm, Ad, cd, ?_, ?_, ?_, ?_, ?_, h5, h2, h4, ?_, ?_⟩
    · have e0 : ((k0.toNat : Nat) : Int) = k0 := by omega
      have e1 : ((k1.toNat : Nat) : Int) = k1 := by omega
      rw [q0, q1, q2, q3]
      dsimp only
      rw [e0, e1, hI.1, hB.1]
    · dsimp only; rw [hI.1]; exact hI
    · dsimp only; rw [hI.1]; exact h1
    · dsimp only; rw [hB.1]; exact hB
    · dsimp only; rw [hB.1]; exact h3
    · show k0.toNat < _; omega
    · show k1.toNat < _; omega
theorem snaps_open {fuel : Nat} {cs : List Value} {x : DataW H × List MemPlace} (h : DataW.trod enc Try.prog w base spare held fuel 112 cs = some x) :
    ∃ A n c l, cs = [.slice A n c] ∧ Snaps w A n l ∧ n ≤ c ∧ c ≤ maxLen := by
  rcases open_slice Try.underlying112 h with ⟨rfl, _⟩ | ⟨a, len, cap, m, n, V, P, rfl, _, hl, hmx, hm, hx, hel⟩
  · exact ⟨none, 0, 0, [], rfl, ⟨rfl, fun h => absurd h (by omega)⟩, Nat.le_refl _, Nat.zero_le _⟩
  · have hlm : len ≤ m := by rw [hm]; split <;> omega
    have each : ∀ i, i < len → ∃ o : Q.Sn, ∃ cs, SnCells w cs o ∧ ∀ j, j < 4 → w.cell? (a.add (i * 4 + j)) = cs[j]? := by
      intro i hi
      obtain ⟨cs', h1, h2⟩ := hel i (by omega)
      rw [cells_snap] at h1
      obtain ⟨o, ho⟩ := snap_open h2
      obtain ⟨h3, h4⟩ := cells?_at h1
      refine ⟨o, cs', ho, fun j hj => ?_⟩
      rw [← h4 j hj, add_of_add]
    obtain ⟨f, hf⟩ := choose_lt each
    refine ⟨some a, len, cap, (List.range len).map f, rfl, ⟨by simp, fun hn => ⟨a, rfl, fun j hj => ?_⟩⟩, hl, hmx⟩
    have hg : ((List.range len).map f).getD j Q.noSn = f j := by simp [List.getD_eq_getElem?_getD, hj]
    rw [hg]
    exact hf j hj
end
end Go.Proofs.Ytcfgdlpdnpnhmaa
set_option linter.unusedVariables false
set_option linter.unusedSimpArgs false
namespace Go.Proofs.Ytcfgdlpdnpnhmaa
open Go.RowKit Go.Maps

/-- v is no store: nil, or a Store that no call made. -/
def NobS (w : World) (v : Value) : Prop :=
  v = .pointer none ∨ ∃ t, v = .pointer (some ⟨t, 0, none⟩) ∧ w.heap[t]? = some (.cells #[.pointer none, .int .u64 0, .int .u64 0, .slice none 0 0, .slice none 0 0] 99 (0, 0))
theorem NobS.below {w w' : World} {v : Value} (h : NobS w v) (e : Below w.heap.size w w') : NobS w' v := by
  rcases h with rfl | ⟨d, rfl, hb⟩
  · exact Or.inl rfl
  · exact Or.inr ⟨d, rfl, (e.block _ (blk_lt hb)).trans hb⟩
theorem snone_no (v : Value) (w : World) (h : NobS w v) :
    Calls Try.prog 108 #[v] w fun e w' => e = .returned (.bool true) ∧ w = w' := by
  rcases h with rfl | ⟨d, rfl, hb⟩
  · go_enter Try.func108, Try.ntmps108
    go_wp2
    go_ret
    exact ⟨rfl, rfl⟩
  · have c0 := blk_cell hb 0
    go_enter Try.func108, Try.ntmps108
    go_wp2
    go_ret
    exact ⟨rfl, rfl⟩
set_option maxRecDepth 100000 in
theorem sget_nob (v : Value) (w : World) (h : NobS w v) :
    Calls Try.prog 57 #[v] w (GetNo w) := by
  obtain ⟨w1, hw1⟩ : ∃ w1, w1 = w.alloc (.cells #[.int .u64 0, .int .u64 0, .slice none 0 0, .slice none 0 0] 27) := ⟨_, rfl⟩
  have hb1 : Below w.heap.size w w1 := by rw [hw1]; exact al1 _ _
  have hr1 : w1.heap[w.heap.size]? = some (.cells #[.int .u64 0, .int .u64 0, .slice none 0 0, .slice none 0 0] 27 (0, 0)) := by rw [hw1]; exact blk_new _ _
  have Hn := Lib.hid (snone_no v w1 (h.below hb1))
  obtain ⟨w2, hw2⟩ : ∃ w2, w2 = (((w1.setCell ⟨w.heap.size, 0, none⟩ (.int .u64 0)).setCell ⟨w.heap.size, 1, none⟩ (.int .u64 0)).setCell ⟨w.heap.size, 2, none⟩ (.slice none 0 0)).setCell ⟨w.heap.size, 3, none⟩ (.slice none 0 0) := ⟨_, rfl⟩
  have hx2 : w2.heap[w.heap.size]? = some (.cells #[.int .u64 0, .int .u64 0, .slice none 0 0, .slice none 0 0] 27 (0, 0)) := by rw [hw2]; exact blk_set (blk_set (blk_set (blk_set hr1 0 _) 1 _) 2 _) 3 _
  have hE2 : Ext [w.heap.size] w1 w2 := by rw [hw2]; exact ((((Ext.refl _ _).setCell (Or.inl (by simp)) _).setCell (Or.inl (by simp)) _).setCell (Or.inl (by simp)) _).setCell (Or.inl (by simp)) _
  have r0 := blk_cell hr1 0
  have r1 := blk_cell hr1 1
  have r2 := blk_cell hr1 2
  have r3 := blk_cell hr1 3
  have z0 := blk_frozen hr1 0
  have z1 := blk_frozen hr1 1
  have z2 := blk_frozen hr1 2
  have z3 := blk_frozen hr1 3
  have y0 := blk_cell hx2 0
  have y1 := blk_cell hx2 1
  have y2 := blk_cell hx2 2
  have y3 := blk_cell hx2 3
  have Hw1 := Lib.hid hw1
  have Hw2 := Lib.hid hw2
  have hbel := hb1.trans (hE2.below (B := w.heap.size) hb1.size (fun q hq => by rw [List.mem_singleton.1 hq]; exact Nat.le_refl _))
  have Hbel := Lib.hid hbel
  clear hw1 hb1 hr1 hw2 hx2 hE2 hbel h
  go_enter Try.func57, Try.ntmps57
  go_upto_region 1 with (fail)
  rw [← Hw1.out]
  go_wp2_with (go_at_call 108; refine Hn.out.mono ?_; rintro e w' ⟨rfl, rfl⟩)
  rw [← Hw2.out]
  refine bodyPost_ret (v := .tuple #[.agg #[.int .u64 0, .int .u64 0, .slice none 0 0, .slice none 0 0], .bool false]) (by simp [results, Try.results57, go_sem, y0, y1, y2, y3]) rfl ?_
  exact ⟨rfl, Hbel.out⟩
set_option maxRecDepth 100000 in
theorem ssave_nob (v a b c d : Value) (w : World) (h : NobS w v) :
    Calls Try.prog 58 #[v, .agg #[a, b, c, d]] w fun e w' => e = .returned (.int .i64 1) ∧ Below w.heap.size w w' := by
  obtain ⟨w2, hw2⟩ : ∃ w2, w2 = (w.alloc (.cells #[v] 97)).alloc (.cells #[a, b, c, d] 27) := ⟨_, rfl⟩
  have hb2 : Below w.heap.size w w2 := by rw [hw2]; exact below2 w _ _
  have hx1 : w2.heap[w.heap.size]? = some (.cells #[v] 97 (0, 0)) := by rw [hw2]; exact blk_alloc (blk_new w _) _
  have Hn := Lib.hid (snone_no v w2 (h.below hb2))
  have Hw2 := Lib.hid hw2
  have Hb2 := Lib.hid hb2
  have c0 := blk_cell hx1 0
  rcases h with rfl | ⟨t, rfl, _⟩
  · clear hw2 hb2 hx1
    go_enter Try.func58, Try.ntmps58
    go_upto_region 1 with (fail)
    rw [← Hw2.out]
    go_wp2_with (go_at_call 108; refine Hn.out.mono ?_; rintro e w' ⟨rfl, rfl⟩)
    go_ret
    exact ⟨rfl, Hb2.out⟩
  · clear hw2 hb2 hx1
    go_enter Try.func58, Try.ntmps58
    go_upto_region 1 with (fail)
    rw [← Hw2.out]
    go_wp2_with (go_at_call 108; refine Hn.out.mono ?_; rintro e w' ⟨rfl, rfl⟩)
    go_ret
    exact ⟨rfl, Hb2.out⟩
theorem sgone_no (t : Nat) (dv : Value) (w : World) (h : ∃ a b c e, w.heap[t]? = some (.cells #[dv, a, b, c, e] 99 (0, 0))) (hd : Nob w dv) :
    Calls Try.prog 109 #[.pointer (some ⟨t, 0, none⟩)] w fun e w' => e = .returned (.int .i64 1) ∧ Below w.heap.size w w' := by
  obtain ⟨a, b, c, e, hb⟩ := h
  have c0 := blk_cell hb 0
  have Hrm := Lib.hid (remove_no dv { data := #[115, 110, 97, 112, 46, 110, 101, 119] } w hd)
  clear hb
  rcases hd with rfl | ⟨d, rfl, _⟩
  · go_enter Try.func109, Try.ntmps109
    go_wp2_with (go_at_call 44; refine Hrm.out.mono ?_; rintro e w1 ⟨rfl, hL⟩)
    go_ret
    exact ⟨rfl, hL⟩
  · go_enter Try.func109, Try.ntmps109
    go_wp2_with (go_at_call 44; refine Hrm.out.mono ?_; rintro e w1 ⟨rfl, hL⟩)
    go_ret
    exact ⟨rfl, hL⟩
theorem snopen_no (dv : Value) (w : World) (hd : Nob w dv) :
    Calls Try.prog 59 #[dv] w fun e w' => e = .returned (.tuple #[.pointer none, .int .i64 1]) ∧ Below w.heap.size w w' := by
  obtain ⟨w1, hw1⟩ : ∃ w1, w1 = w.alloc (.cells #[dv, .int .u64 0, .int .u64 0, .slice none 0 0, .slice none 0 0] 99) := ⟨_, rfl⟩
  have hb1 : Below w.heap.size w w1 := by rw [hw1]; exact al1 _ _
  have hx1 : w1.heap[w.heap.size]? = some (.cells #[dv, .int .u64 0, .int .u64 0, .slice none 0 0, .slice none 0 0] 99 (0, 0)) := by rw [hw1]; exact blk_new _ _
  have Hg := Lib.hid (sgone_no w.heap.size dv w1 ⟨_, _, _, _, hx1⟩ (hd.below hb1))
  have Hw1 := Lib.hid hw1
  have Hb1 := Lib.hid hb1
  clear hw1 hb1 hx1
  rcases hd with rfl | ⟨d, rfl, _⟩
  · go_enter Try.func59, Try.ntmps59
    go_upto_region 2 with (fail)
    rw [← Hw1.out]
    go_wp2_with (go_at_call 109; refine Hg.out.mono ?_; rintro e w2 ⟨rfl, hb2⟩)
    go_ret2
    exact ⟨rfl, Hb1.out.trans (hb2.mono Hb1.out.size)⟩
  · go_enter Try.func59, Try.ntmps59
    go_upto_region 2 with (fail)
    rw [← Hw1.out]
    go_wp2_with (go_at_call 109; refine Hg.out.mono ?_; rintro e w2 ⟨rfl, hb2⟩)
    go_ret2
    exact ⟨rfl, Hb1.out.trans (hb2.mono Hb1.out.size)⟩
theorem open_down : ∃ E, Q.sOpen ((Dsk.new 100).crash []) = (E, Q.noSn, 50) := ⟨_, rfl⟩
end Go.Proofs.Ytcfgdlpdnpnhmaa
set_option linter.unusedVariables false
set_option linter.unusedSimpArgs false
namespace Go.Proofs.Ytcfgdlpdnpnhmaa
open Go.RowKit Go.Maps

set_option maxRecDepth 100000 in
set_option maxHeartbeats 8000000 in
theorem snapnobody_calls (Am : Option Addr) (cm : Nat) (Ad : Option Addr) (cd : Nat) (s : Q.Sn) (w : World)
    (hs : SnCells w [.int .u64 s.index, .int .u64 s.term, .slice Am s.members.length cm, .slice Ad s.data.length cd] s) :
    Calls Try.prog 11 #[.agg #[.int .u64 s.index, .int .u64 s.term, .slice Am s.members.length cm, .slice Ad s.data.length cd]] w fun e w' => e = .returned (.bool true) ∧ Below w.heap.size w w' := by
  have Hlv := Lib.hid lives27_calls
  obtain ⟨_, _, _, _, _, hsis⟩ := hs.is
  have hsi0 : SnIs w (.agg #[.int .u64 s.index, .int .u64 s.term, .slice Am s.members.length cm, .slice Ad s.data.length cd]) s := by
    obtain ⟨Am', cm', Ad', cd', h0, h1⟩ := hs.is
    injection h0 with e0 h0
    injection h0 with e1 h0
    injection h0 with e2 h0
    injection h0 with e3 h0
    rw [e2, e3]
    exact h1
  clear hsis
  obtain ⟨si, hsi⟩ : ∃ si, si = s.index := ⟨_, rfl⟩
  obtain ⟨st, hst⟩ : ∃ st, st = s.term := ⟨_, rfl⟩
  obtain ⟨nm, hnm⟩ : ∃ nm, nm = s.members.length := ⟨_, rfl⟩
  obtain ⟨nd, hnd⟩ : ∃ nd, nd = s.data.length := ⟨_, rfl⟩
  rw [← hsi, ← hst, ← hnm, ← hnd] at hsi0
  rw [← hsi, ← hst, ← hnm, ← hnd]
  obtain ⟨w1, hw1⟩ : ∃ w1, w1 = w.alloc (.cells #[.int .u64 (si : Int), .int .u64 (st : Int), .slice Am nm cm, .slice Ad nd cd] 27) := ⟨_, rfl⟩
  have hb1 : Below w.heap.size w w1 := by rw [hw1]; exact al1 _ _
  have hx1 : w1.heap[w.heap.size]? = some (.cells #[.int .u64 (si : Int), .int .u64 (st : Int), .slice Am nm cm, .slice Ad nd cd] 27 (0, 0)) := by rw [hw1]; exact blk_new _ _
  have Hli := Lib.hid (light27_calls _ s w1 (hsi0.below hb1))
  have x0 := blk_cell hx1 0
  have x1 := blk_cell hx1 1
  have x2 := blk_cell hx1 2
  have x3 := blk_cell hx1 3
  have Hw1 := Lib.hid hw1
  have Hb1 := Lib.hid hb1
  have Hx1 := Lib.hid hx1
  clear hs hsi0 hw1 hb1 hx1 hsi hst hnm hnd
  go_enter Try.func11, Try.ntmps11
  go_upto_region 1 with fail
  rw [← Hw1.out]
  obtain ⟨b1, hbb1⟩ : ∃ b, b = w.heap.size := ⟨_, rfl⟩
  rw [← hbb1] at Hx1 x0 x1 x2 x3
  rw [← hbb1]
  clear hbb1
  cases hl : lightSn s
  · rw [hl] at Hli
    clear hl
    go_wp2_with (first
      | (go_at_call 19; refine Hli.out.mono ?_; rintro e w2 ⟨rfl, hb2⟩)
      | (go_at_call 15; refine (Hlv.out w2).mono ?_; rintro e w3 ⟨rfl, hb3⟩))
    go_ret
    have hb02 := Hb1.out.trans (hb2.mono Hb1.out.size)
    exact ⟨rfl, hb02.trans (hb3.mono hb02.size)⟩
  rw [hl] at Hli
  clear hl
  go_upto_region 4 with (go_at_call 19; refine Hli.out.mono ?_; rintro e w2 ⟨rfl, hb2⟩)
  go_wp2_with fail
  obtain ⟨w4, hw4⟩ : ∃ w4, w4 = (w2.alloc (.cells #[.pointer none, .int .u64 0, .int .u64 0, .slice none 0 0, .slice none 0 0] 99)).alloc (.cells #[.pointer none, .pointer (some ⟨w2.heap.size, 0, none⟩)] 97) := ⟨_, rfl⟩
  rw [← hw4]
  have hb24 : Below w2.heap.size w2 w4 := by rw [hw4]; exact below2 w2 _ _
  have hz4 : w4.heap[w2.heap.size]? = some (.cells #[.pointer none, .int .u64 0, .int .u64 0, .slice none 0 0, .slice none 0 0] 99 (0, 0)) := by rw [hw4]; exact blk_alloc (blk_new w2 _) _
  have hs4 : w4.heap[w2.heap.size + 1]? = some (.cells #[.pointer none, .pointer (some ⟨w2.heap.size, 0, none⟩)] 97 (0, 0)) := by rw [hw4]; exact blk_new1 w2 _ _
  have hb14 : Below w1.heap.size w1 w4 := hb2.trans (hb24.mono hb2.size)
  have hx14 := (hb14.block _ (blk_lt Hx1.out)).trans Hx1.out
  have Hz4 := Lib.hid hz4
  have Hs4 := Lib.hid hs4
  have Hx14 := Lib.hid hx14
  have Hb4 := Lib.hid (Hb1.out.trans (hb14.mono Hb1.out.size))
  clear hw4 hb24 hz4 hs4 hb14 hx14 hb2 x0 x1 x2 x3
  obtain ⟨zs, hzs⟩ : ∃ z, z = w2.heap.size := ⟨_, rfl⟩
  rw [← hzs] at Hz4 Hs4 ⊢
  clear hzs
  go_loopw [24] (fun i wr => ∃ (k : Nat), i = .int .i64 k ∧ k ≤ 2 ∧ Below w4.heap.size w4 wr) (fun i _ => 2 - (intOf i).toNat)
  case atStart => exact ⟨0, rfl, by omega, Below.refl _ _⟩
  case round =>
    obtain ⟨k, rfl, hk, hbr⟩ := hrel
    have Hbr := Lib.hid hbr
    have hz := (hbr.block _ (blk_lt Hz4.out)).trans Hz4.out
    have Hsl := Lib.hid ((hbr.block _ (blk_lt Hs4.out)).trans Hs4.out)
    have hx1r := (hbr.block _ (blk_lt Hx14.out)).trans Hx14.out
    clear hbr
    by_cases hlt : k < 2
    · have hk01 : k = 0 ∨ k = 1 := by omega
      clear hlt hk
      rcases hk01 with rfl | rfl
      · clear hz
        have hN : ∀ W, Below wr.heap.size wr W → NobS W (.pointer none) := fun W hb => Or.inl rfl
        have hv := blk_cell Hsl.out 0
        have x0 := blk_cell hx1r 0
        have x1 := blk_cell hx1r 1
        have x2 := blk_cell hx1r 2
        have x3 := blk_cell hx1r 3
        have HN := Lib.hid hN
        have Hx1r := Lib.hid hx1r
        clear hN hx1r
        go_upto_region 8 with (go_at_call 57; refine (sget_nob _ wr (HN.out wr (Below.refl _ _))).mono ?_; rintro e wa ⟨rfl, hba⟩; clear x0 x1 x2 x3)
        obtain ⟨wc, hwc⟩ : ∃ wc, wc = wa.alloc (.cells #[.int .u64 0, .int .u64 0, .slice none 0 0, .slice none 0 0] 27) := ⟨_, rfl⟩
        rw [← hwc]
        have hbac : Below wa.heap.size wa wc := by rw [hwc]; exact al1 _ _
        have hxc : wc.heap[wa.heap.size]? = some (.cells #[.int .u64 0, .int .u64 0, .slice none 0 0, .slice none 0 0] 27 (0, 0)) := by rw [hwc]; exact blk_new _ _
        have hbc : Below wr.heap.size wr wc := hba.trans (hbac.mono hba.size)
        have hx1c := (hbc.block _ (blk_lt Hx1r.out)).trans Hx1r.out
        have x0 := blk_cell hx1c 0
        have x1 := blk_cell hx1c 1
        have x2 := blk_cell hx1c 2
        have x3 := blk_cell hx1c 3
        obtain ⟨ga, hga⟩ : ∃ ga, ga = wa.heap.size := ⟨_, rfl⟩
        rw [← hga] at hxc ⊢
        have Hbc := Lib.hid hbc
        have Hxc := Lib.hid hxc
        clear hwc hbac hxc hbc hx1c hga hba
        go_wp2_with fail
        refine (ssave_nob _ _ _ _ _ wc (HN.out wc Hbc.out)).mono ?_
        rintro e wd ⟨rfl, hbd⟩
        have hxd := (hbd.block _ (blk_lt Hxc.out)).trans Hxc.out
        have a0 := blk_cell hxd 0
        have a1 := blk_cell hxd 1
        have a2 := blk_cell hxd 2
        have a3 := blk_cell hxd 3
        have Hbd := Lib.hid (Hbc.out.trans (hbd.mono Hbc.out.size))
        have Hsame := Lib.hid (refsame27_calls _ _ Q.noSn Q.noSn wd (SnIs.zero wd) (SnIs.zero wd) (by decide) (by decide))
        clear hbd hxd x0 x1 x2 x3
        go_wp2_with (go_at_call 18; refine Hsame.out.mono ?_; rintro e we ⟨b7, rfl, hif7, hbe⟩; obtain rfl : b7 = true := hif7.2 (by trivial); clear hif7)
        have Hbe := Lib.hid (Hbd.out.trans (hbe.mono Hbd.out.size))
        clear hbe
        go_roundw
        case rel => exact ⟨1, rfl, by omega, Hbr.out.trans (Hbe.out.mono Hbr.out.size)⟩
        case measure => simp [intOf]
      ·
        have hN : ∀ W, Below wr.heap.size wr W → NobS W (.pointer (some ⟨zs, 0, none⟩)) := fun W hb => (show NobS wr _ from Or.inr ⟨zs, rfl, hz⟩).below hb
        have hv := blk_cell Hsl.out 1
        have x0 := blk_cell hx1r 0
        have x1 := blk_cell hx1r 1
        have x2 := blk_cell hx1r 2
        have x3 := blk_cell hx1r 3
        have HN := Lib.hid hN
        have Hx1r := Lib.hid hx1r
        clear hN hx1r
        go_upto_region 8 with (go_at_call 57; refine (sget_nob _ wr (HN.out wr (Below.refl _ _))).mono ?_; rintro e wa ⟨rfl, hba⟩; clear x0 x1 x2 x3)
        obtain ⟨wc, hwc⟩ : ∃ wc, wc = wa.alloc (.cells #[.int .u64 0, .int .u64 0, .slice none 0 0, .slice none 0 0] 27) := ⟨_, rfl⟩
        rw [← hwc]
        have hbac : Below wa.heap.size wa wc := by rw [hwc]; exact al1 _ _
        have hxc : wc.heap[wa.heap.size]? = some (.cells #[.int .u64 0, .int .u64 0, .slice none 0 0, .slice none 0 0] 27 (0, 0)) := by rw [hwc]; exact blk_new _ _
        have hbc : Below wr.heap.size wr wc := hba.trans (hbac.mono hba.size)
        have hx1c := (hbc.block _ (blk_lt Hx1r.out)).trans Hx1r.out
        have x0 := blk_cell hx1c 0
        have x1 := blk_cell hx1c 1
        have x2 := blk_cell hx1c 2
        have x3 := blk_cell hx1c 3
        obtain ⟨ga, hga⟩ : ∃ ga, ga = wa.heap.size := ⟨_, rfl⟩
        rw [← hga] at hxc ⊢
        have Hbc := Lib.hid hbc
        have Hxc := Lib.hid hxc
        clear hwc hbac hxc hbc hx1c hga hba
        go_wp2_with fail
        refine (ssave_nob _ _ _ _ _ wc (HN.out wc Hbc.out)).mono ?_
        rintro e wd ⟨rfl, hbd⟩
        have hxd := (hbd.block _ (blk_lt Hxc.out)).trans Hxc.out
        have a0 := blk_cell hxd 0
        have a1 := blk_cell hxd 1
        have a2 := blk_cell hxd 2
        have a3 := blk_cell hxd 3
        have Hbd := Lib.hid (Hbc.out.trans (hbd.mono Hbc.out.size))
        have Hsame := Lib.hid (refsame27_calls _ _ Q.noSn Q.noSn wd (SnIs.zero wd) (SnIs.zero wd) (by decide) (by decide))
        clear hbd hxd x0 x1 x2 x3
        go_wp2_with (go_at_call 18; refine Hsame.out.mono ?_; rintro e we ⟨b7, rfl, hif7, hbe⟩; obtain rfl : b7 = true := hif7.2 (by trivial); clear hif7)
        have Hbe := Lib.hid (Hbd.out.trans (hbe.mono Hbd.out.size))
        clear hbe
        go_roundw
        case rel => exact ⟨2, rfl, by omega, Hbr.out.trans (Hbe.out.mono Hbr.out.size)⟩
        case measure => simp [intOf]
    · obtain rfl : k = 2 := by omega
      have hb0r := Hb4.out.trans (Hbr.out.mono Hb4.out.size)
      have Hb0r := Lib.hid hb0r
      obtain ⟨E, hE⟩ := open_down
      have HE := Lib.hid hE
      clear hE hz hx1r hb0r hk hlt
      go_upto_region 12 with (go_at_call 59; refine (snopen_no _ wr (Or.inl rfl)).mono ?_; rintro e wa ⟨rfl, hba⟩)
      obtain ⟨wb, hwb⟩ : ∃ wb, wb = wa.alloc (.cells #[.map none, .int .i64 0, .bool false, .int .i64 0, .pointer none] 78) := ⟨_, rfl⟩
      have hbab : Below wa.heap.size wa wb := by rw [hwb]; exact al1 _ _
      have hzb : wb.heap[wa.heap.size]? = some (.cells #[.map none, .int .i64 0, .bool false, .int .i64 0, .pointer none] 78 (0, 0)) := by rw [hwb]; exact blk_new _ _
      have Hob := Lib.hid (snopen_no (.pointer (some ⟨wa.heap.size, 0, none⟩)) wb (Or.inr ⟨_, rfl, hzb⟩))
      have hb0a := Hb0r.out.trans (hba.mono Hb0r.out.size)
      have Hb0b := Lib.hid (hb0a.trans (hbab.mono hb0a.size))
      have Hwb := Lib.hid hwb
      clear hwb hbab hzb hb0a hba
      go_wp2_with fail
      rw [← Hwb.out]
      refine Hob.out.mono ?_
      rintro e wc ⟨rfl, hbc⟩
      have Hb0c := Lib.hid (Hb0b.out.trans (hbc.mono Hb0b.out.size))
      clear hbc
      go_upto_region 14 with (go_at_call 27; refine (new_calls 100 _ (by omega) (by omega)).mono ?_; rintro e wd ⟨rfl, hD, hbd⟩)
      have hcr := crash_calls (wc.heap.size + 2) wc.heap.size (wc.heap.size + 1) (Dsk.new 100) none 0 0 [] wd hD (new_ok 100 (by omega) (by omega)) ⟨rfl, fun p hp => (by cases hp), fun h => absurd h (by omega)⟩ (Nat.le_refl _)
      have Hcr := Lib.hid hcr
      have Hb0d := Lib.hid (Hb0c.out.trans (hbd.mono Hb0c.out.size))
      have hcd := hbd.size
      obtain ⟨dd, hdd⟩ : ∃ d, d = wc.heap.size + 2 := ⟨_, rfl⟩
      obtain ⟨mp, hmp⟩ : ∃ d, d = wc.heap.size := ⟨_, rfl⟩
      obtain ⟨mt, hmt⟩ : ∃ d, d = wc.heap.size + 1 := ⟨_, rfl⟩
      have Hge := Lib.hid (show w.heap.size ≤ mp ∧ w.heap.size ≤ mt ∧ w.heap.size ≤ dd by have := Hb0c.out.size; omega)
      rw [← hdd, ← hmt, ← hmp] at Hcr
      rw [← hdd]
      clear hcr hD hbd hdd hmp hmt hcd
      go_upto_region 15 with (go_at_call 39; refine Hcr.out.mono ?_; rintro e we ⟨rfl, hL⟩)
      have hop := snopen_calls dd mp mt _ we hL.disk ((new_ok 100 (by omega) (by omega)).crash []) (by decide)
      rw [HE.out] at hop
      have Hop := Lib.hid hop
      have Hb0e := Lib.hid (Hb0d.out.trans (hL.ext.below (B := w.heap.size) Hb0d.out.size (fun q hq => by have := Hge.out; simp at hq; omega)))
      clear hL hop
      go_wp2_with (first
        | (go_at_call 59; refine Hop.out.mono ?_; rintro e wf hop; unfold OpenIs at hop; (try dsimp only at hop); rw [if_neg (show ¬ ((50 : Int) = 0) by decide)] at hop; obtain ⟨rfl, hL2⟩ := hop; (try dsimp only at hL2); have Hb0f := Lib.hid (Hb0e.out.trans (hL2.ext.below (B := w.heap.size) Hb0e.out.size (fun q hq => by have := Hge.out; simp at hq; omega))); clear hL2)
        | (go_at_call 15; refine (Hlv.out wf).mono ?_; rintro e wg ⟨rfl, hbg⟩))
      go_ret
      exact ⟨rfl, Hb0f.out.trans (hbg.mono Hb0f.out.size)⟩
end Go.Proofs.Ytcfgdlpdnpnhmaa
