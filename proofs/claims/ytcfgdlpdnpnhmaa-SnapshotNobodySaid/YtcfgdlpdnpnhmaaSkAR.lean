/- Contracts and words (several texts merged by wip/merge.py). Contracts of quill.Writer: Num, Raw, Text, Bytes. -/
import Derived.Test.YtcfgdlpdnpnhmaaSkAQ
set_option linter.unusedVariables false
set_option linter.unusedSimpArgs false
namespace Go.Proofs.Ytcfgdlpdnpnhmaa
open Go.RowKit Go.Maps

/-- Numbers of 64 bits as cells. -/
def uvals (l : List Nat) : List Value := l.map fun (x : Nat) => .int .u64 (x : Int)
theorem infoU : (Try.prog.info? 24).map (fun i => (i.zero, i.size, i.bytes)) = some (some (.int .u64 0), 1, 8) := by kernel_rfl
theorem run_index_u64 (ad : Addr) (n c : Nat) (i : Int) (h0 : 0 ≤ i) (h : i < n) (w : World) : (Instr.indexAt 180 (.slice (some ad) n c) (.int .i64 i)).run Try.prog w = .ok (.pointer (some (ad.add i.toNat))) w := by
  obtain ⟨i0, hi, hz0, hz1, hz2⟩ := info_parts infoU
  simp [Instr.indexAt, run_underlying Try.underlying180, sizeOf, typeInfo, hi, hz1, h, h0, Result.andThen, asIntOf]
theorem Q.numsB_take (ns : List Nat) (k : Nat) (h : k < ns.length) : Q.numsB (ns.take (k + 1)) = Q.numsB (ns.take k) ++ Q.numB (ns.getD k 0) := by
  unfold Q.numsB
  rw [List.take_succ_eq_append_getElem h, List.flatMap_append, List.getD_eq_getElem?_getD, List.getElem?_eq_getElem h]
  simp only [List.flatMap_cons, List.flatMap_nil, List.append_nil]
  rfl
theorem Q.numsB_len9 (ns : List Nat) (h : ∀ x ∈ ns, x < 18446744073709551616) : (Q.numsB ns).length ≤ 9 * ns.length := by
  induction ns with
  | nil => exact Nat.le_refl _
  | cons x r ih =>
    have h1 := ih (fun y hy => h y (List.mem_cons_of_mem _ hy))
    have h2 := Q.numB_len (h x (List.mem_cons_self ..))
    have e : Q.numsB (x :: r) = Q.numB x ++ Q.numsB r := rfl
    rw [e, List.length_append, List.length_cons]
    omega
set_option maxRecDepth 100000 in
set_option maxHeartbeats 1000000 in
theorem wrnum_calls (g B : Nat) (l : Bs) (ns : List Nat) (ga c : Nat) (w : World) (h : IsWr w g B l) (hga : w.heap[ga]? = some (.cells (uvals ns).toArray 24 (0, 0))) (hgg : ga ≠ g)
    (hns : ∀ x ∈ ns, x < 18446744073709551616) (hl : l.length + 9 * ns.length ≤ 140737488000000) (hc : ns.length ≤ c) :
    Calls Try.prog 74 #[.pointer (some ⟨g, 0, none⟩), .slice (some ⟨ga, 0, none⟩) ns.length c] w fun e w' => e = .returned (.tuple #[]) ∧ WrLeft w g B (l ++ Q.numsB ns) w' := by
  have hnb : NotBytes w ga := .of hga (by decide)
  obtain ⟨m, hm⟩ : ∃ m, m = ns.length := ⟨_, rfl⟩
  have Hm := Lib.hid hm
  rw [← hm] at hl hc ⊢
  have H := Lib.hid h
  have Hga := Lib.hid hga
  have Hns := Lib.hid hns
  have Hnb := Lib.hid hnb
  have Hgg := Lib.hid hgg
  clear h hga hm hns hnb hgg
  go_enter Try.func74, Try.ntmps74
  go_wp2_with fail
  go_loopw [10] (fun i wr => ∃ k : Nat, k ≤ m ∧ i = .int .i64 k ∧ WrLeft w g B (l ++ Q.numsB (ns.take k)) wr) (fun i _ => m - (intOf i).toNat)
  case atStart => exact ⟨0, Nat.zero_le _, rfl, by rw [List.take_zero]; exact ⟨by simpa [Q.numsB] using H.out, WrExt.refl _ _ _⟩⟩
  case round =>
    obtain ⟨k, hk, rfl, hL⟩ := hrel
    by_cases hkm : k < m
    · have hga2 := hL.ext.obj Hga.out Hgg.out (Or.inr Hnb.out)
      obtain ⟨x, hx⟩ : ∃ x, x = ns.getD k 0 := ⟨_, rfl⟩
      have hxm : x ∈ ns := by
        rw [hx, List.getD_eq_getElem?_getD, List.getElem?_eq_getElem (by rw [← Hm.out]; exact hkm)]
        exact List.getElem_mem _
      have hx64 := Hns.out x hxm
      have hck : wr.cell? ⟨ga, k, none⟩ = some (.int .u64 (x : Int)) := by
        rw [blk_cell hga2, hx]
        unfold uvals
        simp [List.getD_eq_getElem?_getD, show k < ns.length by rw [← Hm.out]; exact hkm]
      have hix : ∀ W, (Instr.indexAt 180 (.slice (some ⟨ga, 0, none⟩) m c) (.int .i64 (k : Int))).run Try.prog W = .ok (.pointer (some ⟨ga, k, none⟩)) W := fun W => by
        rw [run_index_u64 ⟨ga, 0, none⟩ m c k (by omega) (by omega) W, add0, Int.toNat_natCast, Nat.zero_add]
      have hlen : (l ++ Q.numsB (ns.take k)).length ≤ 140737488000000 := by
        have h1 := Q.numsB_len9 (ns.take k) (fun y hy => Hns.out y (List.mem_of_mem_take hy))
        rw [List.length_take] at h1
        rw [List.length_append]
        omega
      have Hnum := Lib.hid (wrnumber_calls g B (l ++ Q.numsB (ns.take k)) x wr hL.wr hx64 hlen)
      have hst : l ++ Q.numsB (ns.take (k + 1)) = l ++ Q.numsB (ns.take k) ++ Q.numB x := by rw [Q.numsB_take ns k (by rw [← Hm.out]; exact hkm), ← hx, List.append_assoc]
      have Hst := Lib.hid hst
      have HE := Lib.hid hL.ext
      have hwk : IntKind.i64.wrap ((k : Int) + 1) = (k : Int) + 1 := IntWalk.i64_in _ (by omega)
      clear hga2 hx hxm hlen hst hL
      go_wp2_with (go_at_call 120; refine Hnum.out.mono ?_; rintro e w2 ⟨rfl, hL2⟩)
      go_roundw
      case rel => exact ⟨k + 1, by omega, by go_num, by rw [Hst.out]; exact ⟨hL2.wr, HE.out.trans hL2.ext⟩⟩
      case measure => simp [intOf]; omega
    · have hfull : ns.take k = ns := List.take_of_length_le (by rw [← Hm.out]; omega)
      rw [hfull] at hL
      have HL := Lib.hid hL
      clear hL hfull
      go_wp2_with fail
      go_end0
      exact ⟨rfl, HL.out⟩

set_option maxRecDepth 100000 in
set_option maxHeartbeats 1000000 in
theorem wrraw_calls (g B : Nat) (l : Bs) (A : Option Addr) (n c : Nat) (x : Bs) (w : World) (h : IsWr w g B l) (hB : Bts w A n x) (hl : l.length + n ≤ 140737488000000) :
    Calls Try.prog 121 #[.pointer (some ⟨g, 0, none⟩), .slice A n c] w fun e w' => e = .returned (.tuple #[]) ∧ WrLeft w g B (l ++ x) w' := by
  obtain ⟨v, hx, hown⟩ := h.at_
  have hgB := h.lt
  have hBw := h.sz
  obtain ⟨L0, hL0⟩ : ∃ L0, L0 = l.length := ⟨_, rfl⟩
  rw [← hL0] at hown hl
  have HL0 := Lib.hid hL0
  have c0 : w.cell? ⟨g, 0, none⟩ = some v := blk_cell hx 0
  have f0 := blk_frozen hx 0
  have Hx := Lib.hid hx
  have HBx := Lib.hid hB
  have Hown := Lib.hid hown
  have hxl := hB.1
  have Hxl := Lib.hid hxl
  clear hx hown hL0 hB hxl h
  go_enter Try.func121, Try.ntmps121
  go_wp2_with (at_builtin; refine wpList_append_bts _ rfl (.tmp 10) (.tmp 11) rfl B v L0 l rfl Hown.out A n c x rfl HBx.out (by omega) hBw ?_; intro v2 w2 hown2 hgr2 _; have hx2 := (hgr2.block g (blk_lt Hx.out) (fun e => by have := (Hown.out.lt g e.symm).1; omega)).trans Hx.out; have Hgr2 := Lib.hid hgr2; have f2 := blk_frozen hx2 0; have k2 : w2.cell? ⟨g, 0, none⟩ = some v := blk_cell hx2 0; obtain ⟨A2, c2, rfl⟩ := own_shape hown2)
  go_end0
  have hE3 : Ext [g] w2 (w2.setCell ⟨g, 0, none⟩ (.slice A2 (L0 + n) c2)) := (Ext.refl _ _).setCell (Or.inl (by simp)) _
  have hx3 : (w2.setCell ⟨g, 0, none⟩ (.slice A2 (L0 + n) c2)).heap[g]? = some (.cells #[.slice A2 (L0 + n) c2] 131 (0, 0)) := blk_set hx2 0 _
  have hext : WrExt g B w (w2.setCell ⟨g, 0, none⟩ (.slice A2 (L0 + n) c2)) := (WrExt.of_grown Hown.out Hgr2.out).trans (WrExt.of_set hE3)
  have hown3 := hown2.kept_ext hE3 (fun q hq => by rw [List.mem_singleton.1 hq]; omega)
  have hlen : (l ++ x).length = L0 + n := by rw [List.length_append, HL0.out, Hxl.out]
  exact ⟨rfl, ⟨⟨hgB, ⟨_, hx3, by rw [hlen]; exact hown3⟩, Nat.le_trans hBw hext.size⟩, hext⟩⟩

set_option maxRecDepth 100000 in
set_option maxHeartbeats 1000000 in
theorem wrtext_calls (g B : Nat) (l : Bs) (s : ByteArray) (w : World) (h : IsWr w g B l) (hl : l.length + s.size ≤ 140737480000000) :
    Calls Try.prog 75 #[.pointer (some ⟨g, 0, none⟩), .string s] w fun e w' => e = .returned (.tuple #[]) ∧ WrLeft w g B (l ++ Q.textB s.data.toList) w' := by
  have hss : s.data.toList.length = s.size := by rw [Array.length_toList]; rfl
  have hnum := wrnum_calls g B l [s.size] w.heap.size 1 (w.alloc (.cells #[.int .u64 (s.size : Int)] 24)) (h.below (al1 w _)) (blk_new w _) (fun e => by have := h.lt; have := h.sz; omega) (fun x hx => by rw [List.mem_singleton.1 hx]; omega) (by simp; omega) (by simp)
  have Hnum := Lib.hid hnum
  have hbt : l ++ Q.textB s.data.toList = (l ++ Q.numsB [s.size]) ++ s.data.toList := by unfold Q.textB Q.numsB; rw [hss]; simp
  have Hbt := Lib.hid hbt
  have hll : (l ++ Q.numsB [s.size]).length + s.size ≤ 140737488000000 := by
    have h1 := Q.numsB_len9 [s.size] (fun x hx => by rw [List.mem_singleton.1 hx]; omega)
    rw [List.length_append]
    simp at h1
    omega
  have Hraw := Lib.hid (fun A c W (hW : IsWr W g B (l ++ Q.numsB [s.size])) (hB : Bts W A s.size s.data.toList) => wrraw_calls g B (l ++ Q.numsB [s.size]) A s.size c s.data.toList W hW hB hll)
  have hwl : IntKind.u64.wrap (s.size : Int) = (s.size : Int) := by
    simp [IntKind.wrap, IntKind.bits, IntKind.signed]
    omega
  clear hss hnum hbt h hll
  go_enter Try.func75, Try.ntmps75
  go_wp2_with (first
    | (go_at_call 74; refine Hnum.out.mono ?_; rintro e w2 ⟨rfl, hL2⟩)
    | (refine wpList_to_bytes2 _ rfl _ rfl s rfl ?_; intro cd w3 hb3 hcd hbl3)
    | (go_at_call 121; refine (Hraw.out _ cd w3 (hL2.wr.below hbl3) hb3).mono ?_; rintro e w4 ⟨rfl, hL4⟩))
  go_end0
  rw [Hbt.out]
  exact ⟨rfl, ⟨hL4.wr, (((WrExt.of_below (al1 w _)).trans hL2.ext).trans (WrExt.of_below hbl3)).trans hL4.ext⟩⟩
theorem wrbytes_calls (g B : Nat) (l : Bs) (w : World) (h : IsWr w g B l) (hl : l.length ≤ 140737488000000) :
    Calls Try.prog 77 #[.pointer (some ⟨g, 0, none⟩)] w (Cloned w l.length l) := by
  obtain ⟨v, hx, hown⟩ := h.at_
  obtain ⟨A, c, rfl⟩ := own_shape hown
  obtain ⟨h1, h2, h3, h4⟩ := own_all hown
  have c0 : w.cell? ⟨g, 0, none⟩ = some (.slice A l.length c) := blk_cell hx 0
  have Hcl := Lib.hid (clone_calls A l.length c l w h1 (by omega) h3)
  unfold Cloned
  obtain ⟨n, hn⟩ : ∃ n, n = l.length := ⟨_, rfl⟩
  rw [← hn] at c0 Hcl ⊢
  clear h hx hown h1 h2 h3 h4 hn
  go_enter Try.func77, Try.ntmps77
  go_wp2_with (go_at_call 80; refine Hcl.out.mono ?_; rintro e w2 ⟨A2, c2, rfl, hown, hb2⟩)
  go_ret
  exact ⟨A2, c2, rfl, hown, hb2⟩
end Go.Proofs.Ytcfgdlpdnpnhmaa
set_option linter.unusedVariables false
set_option linter.unusedSimpArgs false
namespace Go.Proofs.Ytcfgdlpdnpnhmaa
open Go.RowKit Go.Maps

def BytesNo (w : World) (e : Ending) (w' : World) : Prop := e = .returned (.tuple #[.slice none 0 0, .int .i64 2]) ∧ Below w.heap.size w w'
set_option maxRecDepth 100000 in
set_option maxHeartbeats 1000000 in
theorem snbytes_no (v : Value) (p : Q.Sn) (w : World) (h : SnIs w v p) (hi : p.index < 18446744073709551616) (ht : p.term < 18446744073709551616) (hnm : p.members.length ≤ 140737488355328) (hnd : p.data.length ≤ 140737488355328) (hs : Q.sound p = false) :
    Calls Try.prog 23 #[v] w (BytesNo w) := by
  have h0 := h
  obtain ⟨Am, cm, Ad, cd, rfl, h1, h2, h3, h4⟩ := h
  have hsd := snsound_calls _ p (w.alloc (.cells #[.int .u64 (p.index : Int), .int .u64 (p.term : Int), .slice Am p.members.length cm, .slice Ad p.data.length cd] 27)) (h0.below (al1 w _)) hi ht hnm hnd
  rw [hs] at hsd
  have Hsd := Lib.hid hsd
  obtain ⟨nm, hnm'⟩ : ∃ n, n = p.members.length := ⟨_, rfl⟩
  obtain ⟨nd, hnd'⟩ : ∃ n, n = p.data.length := ⟨_, rfl⟩
  rw [← hnm', ← hnd'] at Hsd ⊢
  clear h0 hsd h1 h2 h3 h4 hs hnm' hnd'
  unfold BytesNo
  go_enter Try.func23, Try.ntmps23
  go_wp2_with (go_at_call 20; refine Hsd.out.mono ?_; rintro e w1 ⟨rfl, hb1⟩)
  go_ret2
  exact ⟨rfl, (al1 w _).trans (hb1.mono (by simp))⟩

theorem Q.down_len (p : Q.Sn) : p.down.members.length = p.members.length := by unfold Q.Sn.down; simp
theorem Q.down_get {p : Q.Sn} (h : Q.sound p = true) (k : Nat) (hk : k < p.members.length) : p.members.getD k 0 = ((p.down.members.getD k 0 : Nat) : Int) := by
  have e := Q.down_up h
  have e2 : p.members = p.down.members.map (fun (x : Nat) => (x : Int)) := by
    have := congrArg Q.Sn.members e
    exact this.symm
  have hk2 : k < p.down.members.length := by rw [Q.down_len]; exact hk
  rw [e2]
  simp [List.getD_eq_getElem?_getD, hk2]
set_option maxRecDepth 100000 in
set_option maxHeartbeats 4000000 in
theorem snbytes_yes (v : Value) (p : Q.Sn) (w : World) (h : SnIs w v p) (hs : Q.sound p = true) :
    Calls Try.prog 23 #[v] w (WrapGives w (Q.bytesOf p.down)) := by
  have hup := Q.down_up hs
  obtain ⟨k1, k2, k3, k4, k5⟩ := Q.sound_le (p := p.down) (by rw [hup]; exact hs)
  have hi : p.index ≤ 576460752303423488 := k1
  have ht : p.term ≤ 1152921504606846976 := k2
  have hd : p.data.length ≤ 32768 := k5
  have hm : p.members.length ≤ 7 := by rw [← Q.down_len]; exact k3
  have hget := fun k hk => Q.down_get hs k hk
  have hblen := Q.body_len p.down k1 k2 k3 k4 k5
  have h0 := h
  obtain ⟨Am, cm, Ad, cd, rfl, h1, h2, h3, h4⟩ := h
  obtain ⟨w1, hw1⟩ : ∃ w1, w1 = w.alloc (.cells #[.int .u64 (p.index : Int), .int .u64 (p.term : Int), .slice Am p.members.length cm, .slice Ad p.data.length cd] 27) := ⟨_, rfl⟩
  have hb1 : Below w.heap.size w w1 := by rw [hw1]; exact al1 _ _
  have hx1 : w1.heap[w.heap.size]? = some (.cells #[.int .u64 (p.index : Int), .int .u64 (p.term : Int), .slice Am p.members.length cm, .slice Ad p.data.length cd] 27 (0, 0)) := by rw [hw1]; exact blk_new _ _
  have hsz1 : w.heap.size < w1.heap.size := by rw [hw1]; simp
  have hsd := snsound_calls _ p w1 (h0.below hb1) (by omega) (by omega) (by omega) (by omega)
  rw [hs] at hsd
  obtain ⟨i, hi'⟩ : ∃ i, i = p.index := ⟨_, rfl⟩
  obtain ⟨t, ht'⟩ : ∃ i, i = p.term := ⟨_, rfl⟩
  obtain ⟨ms, hms⟩ : ∃ i, i = p.down.members := ⟨_, rfl⟩
  obtain ⟨nm, hnm⟩ : ∃ n, n = p.members.length := ⟨_, rfl⟩
  obtain ⟨nd, hnd⟩ : ∃ n, n = p.data.length := ⟨_, rfl⟩
  have hmsl : ms.length = nm := by rw [hms, Q.down_len, hnm]
  have hms7 : ∀ x ∈ ms, x ≤ 7 := by rw [hms]; exact k4
  have hbody : Q.body p.down = Q.numsB [i, t, nm] ++ (Q.numsB ms ++ Q.textB p.data) := by
    unfold Q.body
    rw [← hms, hmsl, hi', ht']
    unfold Q.numsB
    simp [Q.Sn.down]
  rw [hbody] at hblen
  have Hbody := Lib.hid hbody
  have Hget := Lib.hid hget
  have Hms := Lib.hid hms
  have Hnm := Lib.hid hnm
  have Hmsl := Lib.hid hmsl
  have Hms7 := Lib.hid hms7
  rw [← hi', ← ht', ← hnm, ← hnd] at hx1 hw1 hsd ⊢
  rw [← hi'] at hi
  rw [← ht'] at ht
  rw [← hnm] at hm h1 h2
  rw [← hnd] at hd h3 h4
  have Hsd := Lib.hid hsd
  have HI := Lib.hid h1
  have HD := Lib.hid h3
  have Hx1 := Lib.hid hx1
  have Hw1 := Lib.hid hw1
  have Hb1 := Lib.hid hb1
  clear h0 hsd h1 h2 h3 h4 hs hup k1 k2 k3 k4 k5 hget hi' ht' hms hnm hnd hmsl hms7 hbody hx1 hw1 hb1
  go_enter Try.func23, Try.ntmps23
  go_upto_region 1 with (fail)
  rw [← Hw1.out]
  have x0 := blk_cell Hx1.out 0
  have x1 := blk_cell Hx1.out 1
  have x2 := blk_cell Hx1.out 2
  have x3 := blk_cell Hx1.out 3
  go_upto_region 4 with (go_at_call 20; refine Hsd.out.mono ?_; rintro e w2 ⟨rfl, hb2⟩)
  obtain ⟨w3, hw3⟩ : ∃ w3, w3 = w2.alloc (.cells #[.slice none 0 0] 131) := ⟨_, rfl⟩
  rw [← hw3]
  have hxg : w3.heap[w2.heap.size]? = some (.cells #[.slice none 0 0] 131 (0, 0)) := by rw [hw3]; exact blk_new _ _
  have hsz3 : w3.heap.size = w2.heap.size + 1 := by rw [hw3]; simp
  have hb23 : Below w2.heap.size w2 w3 := by rw [hw3]; exact al1 _ _
  have hb3 : Below w.heap.size w w3 := (Hb1.out.trans (hb2.mono (by omega))).trans (hb23.mono (by have := hb2.size; omega))
  have hx3 := (hb23.block _ (by have := hb2.size; omega)).trans ((hb2.block _ (blk_lt Hx1.out)).trans Hx1.out)
  have hg : w.heap.size < w2.heap.size := by have := hb2.size; omega
  obtain ⟨g, hge⟩ : ∃ g, g = w2.heap.size := ⟨_, rfl⟩
  rw [← hge] at hxg hsz3 hg ⊢
  have hwr3 : IsWr w3 g (g + 1) [] := ⟨by omega, ⟨_, hxg, World.ownsRow_nil _ _ _ _⟩, by omega⟩
  have hb34 := al1 w3 (.cells #[.int .u64 (i : Int), .int .u64 (t : Int), .int .u64 (nm : Int)] 24)
  have hnum := wrnum_calls g (g + 1) [] [i, t, nm] w3.heap.size 3 (w3.alloc (.cells #[.int .u64 (i : Int), .int .u64 (t : Int), .int .u64 (nm : Int)] 24)) (hwr3.below hb34) (blk_new w3 _) (by omega) (fun x hx => by simp at hx; omega) (by simp) (by simp)
  rw [List.nil_append] at hnum
  have Hnum := Lib.hid hnum
  have Hx3 := Lib.hid hx3
  have Hb3 := Lib.hid hb3
  have hwn : IntKind.u64.wrap (nm : Int) = (nm : Int) := by
    simp [IntKind.wrap, IntKind.bits, IntKind.signed]
    omega
  have hg3 : g < w3.heap.size := by omega
  clear x0 x1 x2 x3
  have x0 := blk_cell Hx3.out 0
  have x1 := blk_cell Hx3.out 1
  have x2 := blk_cell Hx3.out 2
  clear hw3 hxg hsz3 hb23 hb3 hx3 hge hwr3 hb34 hnum hb2
  go_upto_region 5 with (go_at_call 74; refine Hnum.out.mono ?_; rintro e w4 ⟨rfl, hL4⟩)
  have hext4 : WrExt g (g + 1) w3 w4 := (WrExt.of_below (al1 w3 _)).trans hL4.ext
  have hx4 := hext4.obj Hx3.out (by omega) (Or.inl (by omega))
  have Hwr4 := Lib.hid hL4.wr
  have Hext4 := Lib.hid hext4
  have Hx4 := Lib.hid hx4
  clear x0 x1 x2
  have x2 := blk_cell Hx4.out 2
  clear hx4 hext4 hL4 Hnum
  go_wp2_with fail
  go_loopw [23] (fun q wr => ∃ k : Nat, k ≤ nm ∧ q = .int .i64 k ∧ IsWr wr g (g + 1) (Q.numsB [i, t, nm] ++ Q.numsB (ms.take k)) ∧ WrExt g (g + 1) w3 wr) (fun q _ => nm - (intOf q).toNat)
  case atStart => exact ⟨0, Nat.zero_le _, rfl, by rw [List.take_zero]; simpa [Q.numsB] using Hwr4.out, Hext4.out⟩
  case round =>
    obtain ⟨k, hk, rfl, hwr, hext⟩ := hrel
    have hbw : Below w.heap.size w wr := Hb3.out.trans (hext.below (by omega) (by omega) Hb3.out.size)
    have Hbw := Lib.hid hbw
    have Hext := Lib.hid hext
    by_cases hkm : k < nm
    · obtain ⟨pb, po, e1, hcell⟩ := itz_at (HI.out.below hbw) (by omega)
      subst e1
      have hck := hcell k hkm
      rw [Hget.out k (by rw [← Hnm.out]; exact hkm), ← Hms.out] at hck
      have hix : ∀ W, (Instr.indexAt 25 (.slice (some ⟨pb, po, none⟩) nm cm) (.int .i64 (k : Int))).run Try.prog W = .ok (.pointer (some ⟨pb, po + k, none⟩)) W := fun W => by
        rw [run_index_int ⟨pb, po, none⟩ nm cm k (by omega) (by omega) W, add0, Int.toNat_natCast]
      obtain ⟨x, hx⟩ : ∃ x, x = ms.getD k 0 := ⟨_, rfl⟩
      have hxm : x ∈ ms := by
        rw [hx, List.getD_eq_getElem?_getD, List.getElem?_eq_getElem (by rw [Hmsl.out]; exact hkm)]
        exact List.getElem_mem _
      have hx7 := Hms7.out x hxm
      rw [← hx] at hck
      have hwx : IntKind.u64.wrap (x : Int) = (x : Int) := by
        simp [IntKind.wrap, IntKind.bits, IntKind.signed]
        omega
      have hlen : (Q.numsB [i, t, nm] ++ Q.numsB (ms.take k)).length + 9 * 1 ≤ 140737488000000 := by
        have h1 := Q.numsB_len9 [i, t, nm] (fun y hy => by simp at hy; omega)
        have h2 := Q.numsB_len9 (ms.take k) (fun y hy => by have := Hms7.out y (List.mem_of_mem_take hy); omega)
        rw [List.length_take] at h2
        rw [List.length_append]
        simp at h1
        omega
      have hnum := wrnum_calls g (g + 1) (Q.numsB [i, t, nm] ++ Q.numsB (ms.take k)) [x] wr.heap.size 1 (wr.alloc (.cells #[.int .u64 (x : Int)] 24)) (hwr.below (al1 wr _)) (blk_new wr _) (by have := hwr.lt; have := hwr.sz; omega) (fun y hy => by rw [List.mem_singleton.1 hy]; omega) hlen (by simp)
      have Hnum := Lib.hid hnum
      have hst : Q.numsB [i, t, nm] ++ Q.numsB (ms.take (k + 1)) = Q.numsB [i, t, nm] ++ Q.numsB (ms.take k) ++ Q.numsB [x] := by
        rw [Q.numsB_take ms k (by rw [Hmsl.out]; exact hkm), ← hx, List.append_assoc]
        simp [Q.numsB]
      have Hst := Lib.hid hst
      have hwk : IntKind.i64.wrap ((k : Int) + 1) = (k : Int) + 1 := IntWalk.i64_in _ (by omega)
      clear hcell hx hxm hnum hst hlen hbw hext hwr
      go_wp2_with (go_at_call 74; refine Hnum.out.mono ?_; rintro e w6 ⟨rfl, hL6⟩)
      go_roundw
      case rel => exact ⟨k + 1, by omega, by go_num, by rw [Hst.out]; exact hL6.wr, (Hext.out.trans (WrExt.of_below (al1 wr _))).trans hL6.ext⟩
      case measure => simp [intOf]; omega
    · have hfull : ms.take k = ms := List.take_of_length_le (by rw [Hmsl.out]; omega)
      rw [hfull] at hwr
      obtain ⟨S, hS⟩ : ∃ S : ByteArray, S = ⟨p.data.toArray⟩ := ⟨_, rfl⟩
      have hcv := run_to_str (HD.out.below hbw) cd
      rw [← hS] at hcv
      have hSl : S.data.toList = p.data := by rw [hS]
      have hSz : S.size = nd := by rw [← HD.out.1, ← hSl, Array.length_toList]; rfl
      have hx5 := hext.obj Hx3.out (by omega) (Or.inl (by omega))
      have hlen1 : (Q.numsB [i, t, nm] ++ Q.numsB ms).length ≤ 33000 := by
        rw [← List.append_assoc] at hblen
        have := hblen
        rw [List.length_append] at this
        omega
      have htx := wrtext_calls g (g + 1) (Q.numsB [i, t, nm] ++ Q.numsB ms) S wr hwr (by omega)
      rw [hSl, List.append_assoc, ← Hbody.out] at htx
      have Htx := Lib.hid htx
      have hbl2 : (Q.body p.down).length ≤ 33000 := by rw [Hbody.out]; exact hblen
      have Hbl2 := Lib.hid hbl2
      have Hbytes := Lib.hid (fun W (hW : IsWr W g (g + 1) (Q.body p.down)) => wrbytes_calls g (g + 1) (Q.body p.down) W hW (by omega))
      have Hwrap := Lib.hid (fun W A c (hW : Bts W A (Q.body p.down).length (Q.body p.down)) => framewrap_calls 4 A (Q.body p.down).length c (Q.body p.down) W hW (by omega) 4 rfl (by decide))
      clear x2
      have x3 := blk_cell hx5 3
      obtain ⟨bd, hbd⟩ : ∃ bd, bd = Q.body p.down := ⟨_, rfl⟩
      rw [← hbd] at Htx Hbytes Hwrap
      have hbo : Q.bytesOf p.down = Q.frame 4 bd := by rw [hbd]; rfl
      have Hbo := Lib.hid hbo
      obtain ⟨nb, hnb⟩ : ∃ nb, nb = bd.length := ⟨_, rfl⟩
      rw [← hnb] at Hwrap
      have Hnb := Lib.hid hnb
      clear hbd hbo hfull hS hSl hSz hx5 hlen1 htx hbl2 hwr hext hbw hnb
      go_wp2_with (first
        | (go_at_call 75; refine Htx.out.mono ?_; rintro e w7 ⟨rfl, hL7⟩)
        | (go_at_call 77; refine (Hbytes.out w7 hL7.wr).mono ?_; rintro e w8 ⟨A8, c8, rfl, hown8, hb8⟩; rw [← Hnb.out] at hown8 ⊢; obtain ⟨o1, _, _, _⟩ := own_all hown8)
        | (go_at_call 76; refine (Hwrap.out w8 A8 c8 o1).mono ?_; rintro e w9 ⟨A9, c9, rfl, hown9, hb9⟩))
      go_ret2
      have b7 : Below w.heap.size w w7 := Hb3.out.trans ((Hext.out.trans hL7.ext).below (by omega) (by omega) Hb3.out.size)
      have b8 : Below w.heap.size w w8 := b7.trans (hb8.mono b7.size)
      rw [Hbo.out]
      exact ⟨A9, c9, rfl, own_base hown9 b8.size, b8.trans (hb9.mono b8.size)⟩
end Go.Proofs.Ytcfgdlpdnpnhmaa
