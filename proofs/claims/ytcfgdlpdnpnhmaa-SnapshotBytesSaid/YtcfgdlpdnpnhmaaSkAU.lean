/- Contracts and words (several texts merged by wip/merge.py). Contracts of curfewref01.Num, curfewref01.Text: bytes that are written. -/
import Derived.Test.YtcfgdlpdnpnhmaaSkAR
import Derived.Lib.AppendStr
import Derived.Test.YtcfgdlpdnpnhmaaSkAQ
import Derived.Test.YtcfgdlpdnpnhmaaSkAN
import Derived.Test.YtcfgdlpdnpnhmaaSkAT
set_option linter.unusedVariables false
set_option linter.unusedSimpArgs false
namespace Go.Proofs.Ytcfgdlpdnpnhmaa
open Go.RowKit Go.Maps

theorem Q.digits_drop (n k : Nat) (h : k < (Q.digits n).length) : (Q.digits n).drop ((Q.digits n).length - (k + 1)) = UInt8.ofNat (n / 256 ^ k) :: (Q.digits n).drop ((Q.digits n).length - k) := by
  have hg := Q.digits_get k n h
  have hlt : (Q.digits n).length - (k + 1) < (Q.digits n).length := by omega
  rw [List.drop_eq_getElem_cons hlt]
  rw [show (Q.digits n).length - 1 - k = (Q.digits n).length - (k + 1) by omega, List.getD_eq_getElem?_getD, List.getElem?_eq_getElem hlt] at hg
  have hg' : (Q.digits n)[(Q.digits n).length - (k + 1)] = UInt8.ofNat (n / 256 ^ k) := hg
  rw [hg', show (Q.digits n).length - (k + 1) + 1 = (Q.digits n).length - k by omega]
theorem ofNat_mod (x : Nat) : UInt8.ofNat (x % 256) = UInt8.ofNat x := by
  apply UInt8.toNat_inj.1
  simp
set_option maxRecDepth 100000 in
set_option maxHeartbeats 1000000 in
theorem refnum01_calls (n : Nat) (w : World) (hn : n < 18446744073709551616) :
    Calls Try.prog 124 #[.int .u64 (n : Int)] w (NewBytes w (Q.numB n)) := by
  have h8 := Q.digits_len8 hn
  obtain ⟨sz, hsz⟩ : ∃ sz, sz = (Q.digits n).length := ⟨_, rfl⟩
  have Hsz := Lib.hid hsz
  rw [← hsz] at h8
  have h0 : Hid ((Q.digits n).drop (sz - 0) = []) := Lib.hid (by rw [hsz, Nat.sub_zero, List.drop_length])
  clear hsz
  go_enter Try.func124, Try.ntmps124
  go_wp2_with fail
  go_loopw [0, 3] (fun x b wr => ∃ (k : Nat) (A : Option Addr) (c : Nat), k ≤ sz ∧ x = .int .u64 ((n / 256 ^ k : Nat) : Int) ∧ b = .slice A k c ∧ wr.ownsRow w.heap.size 5 1 (.slice A k c) k (vals ((Q.digits n).drop (sz - k))) ∧ Below w.heap.size w wr) (fun x _ _ => (intOf x).toNat)
  case atStart => exact ⟨0, none, 0, Nat.zero_le _, by simp, rfl, by rw [h0.out]; exact World.ownsRow_nil _ _ _ _, Below.refl _ _⟩
  case round =>
    obtain ⟨k, A, c, hk, rfl, rfl, hown, hb⟩ := hrel
    have Hown := Lib.hid hown
    have Hb := Lib.hid hb
    clear hown hb
    have hlt : n / 256 ^ k < 18446744073709551616 := Nat.lt_of_le_of_lt (Nat.div_le_self _ _) hn
    by_cases hks : k < sz
    · have hpos : 0 < n / 256 ^ k := by
        have h1 : ¬ n < 256 ^ k := fun c => by have := (Q.digits_len_lt n k).2 c; rw [← Hsz.out] at this; omega
        exact Nat.div_pos (by omega) (Nat.pow_pos (by decide))
      obtain ⟨x, hx⟩ : ∃ x, x = n / 256 ^ k := ⟨_, rfl⟩
      have hx2 : x / 256 = n / 256 ^ (k + 1) := by rw [hx, Nat.pow_succ, Nat.div_div_eq_div_mul]
      have Hx2 := Lib.hid hx2
      have hdr := Q.digits_drop n k (by rw [← Hsz.out]; exact hks)
      rw [← Hsz.out, ← hx] at hdr
      have Hdr := Lib.hid hdr
      rw [← hx] at hpos hlt ⊢
      clear hx hx2 hdr
      obtain ⟨b, hbb⟩ : ∃ b, b = x % 256 := ⟨_, rfl⟩
      have hb256 : b < 256 := by rw [hbb]; exact Nat.mod_lt _ (by decide)
      have hxb : (x : Int) % 256 = (b : Int) := by omega
      have hob : UInt8.ofNat b = UInt8.ofNat x := by rw [hbb]; exact ofNat_mod x
      have Hob := Lib.hid hob
      obtain ⟨hbt, hkc, hAn, _⟩ := own_all (show wr.ownsRow w.heap.size 5 1 (.slice A ((Q.digits n).drop (sz - k)).length c) ((Q.digits n).drop (sz - k)).length (vals ((Q.digits n).drop (sz - k))) by
        rw [show ((Q.digits n).drop (sz - k)).length = k by rw [List.length_drop, ← Hsz.out]; omega]; exact Hown.out)
      rw [show ((Q.digits n).drop (sz - k)).length = k by rw [List.length_drop, ← Hsz.out]; omega] at hbt
      have hbt1 := hbt.below (al1 wr (.cells #[.int .u8 (b : Int)] 5))
      have Hbt := Lib.hid hbt1
      have hv1 : (#[Value.int .u8 (b : Int)] : Array Value).toList = vals [UInt8.ofNat b] := by simp [vals]; omega
      have hone : (wr.alloc (.cells #[.int .u8 (b : Int)] 5)).ownsRow wr.heap.size 5 1 (.slice (some ⟨wr.heap.size, 0, none⟩) 1 1) 1 (vals [UInt8.ofNat b]) := by
        rw [← hv1]
        exact World.ownsRow_lit wr _ 1 (Nat.le_refl _) (by unfold maxLen; omega) rfl
      have Hone := Lib.hid hone
      clear hbb hob hbt hbt1 hv1 hone hkc hAn
      go_wp2_with (at_builtin; refine wpList_append_bts _ rfl (.tmp 9) (.tmp 10) rfl wr.heap.size _ 1 [UInt8.ofNat b] rfl Hone.out A k c _ rfl Hbt.out (by omega) (by simp) ?_; intro v2 w2 hown2 hgr2 _; obtain ⟨A2, c2, rfl⟩ := own_shape hown2)
      have e2 : Below w.heap.size w w2 := (Hb.out.alloc Hb.out.size _).grown hgr2 (by have := Hb.out.size; simp; omega) (fun q hq => by cases hq; exact Hb.out.size)
      have hdd : [UInt8.ofNat b] ++ (Q.digits n).drop (sz - k) = (Q.digits n).drop (sz - (k + 1)) := by rw [Hdr.out, Hob.out]; rfl
      rw [hdd] at hown2
      have ho2 := own_base hown2 Hb.out.size
      have Ho2 := Lib.hid ho2
      have He2 := Lib.hid e2
      clear hown2 hgr2 e2 hdd ho2
      go_roundw
      case rel => exact ⟨k + 1, A2, c2, by omega, by rw [← Hx2.out]; go_num, by rw [Nat.add_comm], by rw [Nat.add_comm 1 k] at Ho2; exact Ho2.out, He2.out⟩
      case measure => simp [intOf]; omega
    · obtain rfl : k = sz := by omega
      have hz : n / 256 ^ k = 0 := by
        have h1 : n < 256 ^ k := (Q.digits_len_lt n k).1 (by rw [← Hsz.out]; exact Nat.le_refl _)
        exact Nat.div_eq_of_lt h1
      rw [hz]
      rw [Nat.sub_self, List.drop_zero] at Hown
      obtain ⟨hbt, _, _, _⟩ := own_all (show wr.ownsRow w.heap.size 5 1 (.slice A (Q.digits n).length c) (Q.digits n).length (vals (Q.digits n)) by rw [← Hsz.out]; exact Hown.out)
      rw [← Hsz.out] at hbt
      have hbt1 := hbt.below (al1 wr (.cells #[.int .u8 (k : Int)] 5))
      have Hbt := Lib.hid hbt1
      have hv1 : (#[Value.int .u8 (k : Int)] : Array Value).toList = vals [UInt8.ofNat k] := by simp [vals]; omega
      have hone : (wr.alloc (.cells #[.int .u8 (k : Int)] 5)).ownsRow wr.heap.size 5 1 (.slice (some ⟨wr.heap.size, 0, none⟩) 1 1) 1 (vals [UInt8.ofNat k]) := by
        rw [← hv1]
        exact World.ownsRow_lit wr _ 1 (Nat.le_refl _) (by unfold maxLen; omega) rfl
      have Hone := Lib.hid hone
      clear hz hbt hbt1 hv1 hone
      go_wp2_with (at_builtin; refine wpList_append_bts _ rfl (.tmp 17) (.tmp 18) rfl wr.heap.size _ 1 [UInt8.ofNat k] rfl Hone.out A k c _ rfl Hbt.out (by omega) (by simp) ?_; intro v2 w2 hown2 hgr2 _; obtain ⟨A2, c2, rfl⟩ := own_shape hown2)
      go_ret
      have e2 : Below w.heap.size w w2 := (Hb.out.alloc Hb.out.size _).grown hgr2 (by have := Hb.out.size; simp; omega) (fun q hq => by cases hq; exact Hb.out.size)
      have hnb : Q.numB n = [UInt8.ofNat k] ++ Q.digits n := by unfold Q.numB; rw [← Hsz.out]; rfl
      have hnl : (Q.numB n).length = 1 + k := by rw [hnb, List.length_append, ← Hsz.out]; rfl
      unfold NewBytes
      rw [hnl, hnb]
      exact ⟨A2, c2, rfl, own_base hown2 Hb.out.size, e2⟩

set_option maxRecDepth 100000 in
theorem reftext01_calls (s : ByteArray) (w : World) (hs : s.size ≤ 1048576) :
    Calls Try.prog 125 #[.string s] w (NewBytes w (Q.textB s.data.toList)) := by
  have hnum := refnum01_calls s.size w (by omega)
  unfold NewBytes at hnum
  have hnl := Q.numB_len (n := s.size) (by omega)
  obtain ⟨nb, hnb⟩ : ∃ nb, nb = (Q.numB s.size).length := ⟨_, rfl⟩
  rw [← hnb] at hnum hnl
  have Hnum := Lib.hid hnum
  have Hnb := Lib.hid hnb
  have hwl : IntKind.u64.wrap (s.size : Int) = (s.size : Int) := by
    simp [IntKind.wrap, IntKind.bits, IntKind.signed]
    omega
  obtain ⟨i0, hi, hz0, hz1, hz2⟩ := info_parts info5
  have Hi := Lib.hid hi
  have Hz0 := Lib.hid hz0
  have Hz1 := Lib.hid hz1
  have Hz2 := Lib.hid hz2
  clear hnum hnb hi hz0 hz1 hz2
  go_enter Try.func125, Try.ntmps125
  go_wp2_with (first
    | (go_at_call 124; refine Hnum.out.mono ?_; rintro e w1 ⟨A1, c1, rfl, hown1, hb1⟩)
    | (at_builtin; refine Lib.wpList_append_own_string _ rfl (.tmp 6) (.tmp 7) 22 9 rfl w.heap.size 5 i0 Try.underlying22 Try.underlying9 Hi.out Hz0.out Hz1.out Hz2.out _ nb _ rfl hown1 s rfl (by unfold maxLen; omega) (by omega) hb1.size ?_; intro v2 w2 hown2 hgr2 _; obtain ⟨A2, c2, rfl⟩ := own_shape hown2))
  go_ret
  have e2 : Below w.heap.size w w2 := hb1.grown hgr2 hb1.size (fun q hq => (hown1.lt q hq).1)
  have hss : s.data.toList.length = s.size := by rw [Array.length_toList]; rfl
  have htl : (Q.textB s.data.toList).length = nb + s.size := by unfold Q.textB; rw [List.length_append, hss, ← Hnb.out]
  unfold NewBytes
  rw [htl]
  refine ⟨A2, c2, rfl, ?_, e2⟩
  have : vals (Q.textB s.data.toList) = vals (Q.numB s.size) ++ Lib.strCells s := by unfold Q.textB; rw [vals_append, hss]; rfl
  rw [this]
  exact hown2
end Go.Proofs.Ytcfgdlpdnpnhmaa
set_option linter.unusedVariables false
set_option linter.unusedSimpArgs false
namespace Go.Proofs.Ytcfgdlpdnpnhmaa
open Go.RowKit Go.Maps

set_option maxRecDepth 100000 in
set_option maxHeartbeats 4000000 in
theorem refbody27_calls (v : Value) (p : Q.Sn) (w : World) (h : SnIs w v p) (hs : Q.sound p = true) :
    Calls Try.prog 79 #[v] w (NewBytes w (Q.body p.down)) := by
  have hup := Q.down_up hs
  obtain ⟨k1, k2, k3, k4, k5⟩ := Q.sound_le (p := p.down) (by rw [hup]; exact hs)
  have hi : p.index ≤ 576460752303423488 := k1
  have ht : p.term ≤ 1152921504606846976 := k2
  have hd : p.data.length ≤ 32768 := k5
  have hm : p.members.length ≤ 7 := by rw [← Q.down_len]; exact k3
  have hget := fun k hk => Q.down_get hs k hk
  obtain ⟨Am, cm, Ad, cd, rfl, h1, h2, h3, h4⟩ := h
  obtain ⟨i, hi'⟩ : ∃ i, i = p.index := ⟨_, rfl⟩
  obtain ⟨t, ht'⟩ : ∃ i, i = p.term := ⟨_, rfl⟩
  obtain ⟨ms, hms⟩ : ∃ i, i = p.down.members := ⟨_, rfl⟩
  obtain ⟨nm, hnm⟩ : ∃ n, n = p.members.length := ⟨_, rfl⟩
  obtain ⟨nd, hnd⟩ : ∃ n, n = p.data.length := ⟨_, rfl⟩
  have hmsl : ms.length = nm := by rw [hms, Q.down_len, hnm]
  have hms7 : ∀ x ∈ ms, x ≤ 7 := by rw [hms]; exact k4
  have hbody : Q.body p.down = Q.numsB [i, t, nm] ++ Q.numsB ms ++ Q.textB p.data := by
    unfold Q.body
    rw [← hms, hmsl, hi', ht']
    unfold Q.numsB
    simp [Q.Sn.down]
  rw [← hi', ← ht', ← hnm, ← hnd]
  rw [← hi'] at hi
  rw [← ht'] at ht
  rw [← hnm] at hm h1 h2
  rw [← hnd] at hd h3 h4
  obtain ⟨w1, hw1⟩ : ∃ w1, w1 = w.alloc (.cells #[.int .u64 (i : Int), .int .u64 (t : Int), .slice Am nm cm, .slice Ad nd cd] 27) := ⟨_, rfl⟩
  have hb1 : Below w.heap.size w w1 := by rw [hw1]; exact al1 _ _
  have hx1 : w1.heap[w.heap.size]? = some (.cells #[.int .u64 (i : Int), .int .u64 (t : Int), .slice Am nm cm, .slice Ad nd cd] 27 (0, 0)) := by rw [hw1]; exact blk_new _ _
  have hsz1 : w.heap.size < w1.heap.size := by rw [hw1]; simp
  have hS : ∀ w', Below w1.heap.size w1 w' → (w'.cell? ⟨w.heap.size, 0, none⟩ = some (.int .u64 (i : Int)) ∧ w'.cell? ⟨w.heap.size, 1, none⟩ = some (.int .u64 (t : Int))) := fun w' hb => by
    have e1 := (hb.block _ (blk_lt hx1)).trans hx1
    exact ⟨blk_cell e1 0, blk_cell e1 1⟩
  have HS := Lib.hid hS
  have Hnum := Lib.hid (fun n W (hn : n < 18446744073709551616) => refnum01_calls n W hn)
  unfold NewBytes at Hnum
  have HI := Lib.hid (h1.below hb1)
  have HD := Lib.hid (h3.below hb1)
  have Hx1 := Lib.hid hx1
  have Hw1 := Lib.hid hw1
  have Hb1 := Lib.hid hb1
  have Hbody := Lib.hid hbody
  have Hget := Lib.hid hget
  have Hms := Lib.hid hms
  have Hnm := Lib.hid hnm
  have Hmsl := Lib.hid hmsl
  have Hms7 := Lib.hid hms7
  have li := Q.numB_len (n := i) (by omega)
  have lt := Q.numB_len (n := t) (by omega)
  have ln := Q.numB_len (n := nm) (by omega)
  have hwn : IntKind.u64.wrap (nm : Int) = (nm : Int) := by
    simp [IntKind.wrap, IntKind.bits, IntKind.signed]
    omega
  clear h1 h2 h3 h4 hs hup k1 k2 k3 k4 k5 hget hi' ht' hms hnm hnd hmsl hms7 hbody hx1 hw1 hb1 hS
  go_enter Try.func79, Try.ntmps79
  go_upto_region 1 with (fail)
  rw [← Hw1.out]
  refine wp_region_last (fun w' => w'.cell? ⟨w.heap.size, 0, none⟩ = some (.int .u64 (i : Int)) ∧ w'.cell? ⟨w.heap.size, 1, none⟩ = some (.int .u64 (t : Int))) 7 (by kernel_rfl) (HS.out _ (Below.refl _ _).drew) (fun hHeld => ?_)
  refine wpAnyL_take 0 (v := ?_) rfl (by kernel_rfl) (fun _ _ _ h => h) (Or.inl ⟨by kernel_rfl, ?_⟩) hHeld ?_
  rotate_left
  · (intro w hSw; (try dsimp only at hSw); go_simp; try with_reducible rfl)
  try simp only [Act.put, List.setIfInBounds_toArray, List.set_cons_zero, List.set_cons_succ]
  refine wpAnyL_take 1 (v := ?_) rfl (by kernel_rfl) (fun _ _ _ h => h) (Or.inl ⟨by kernel_rfl, ?_⟩) hHeld ?_
  rotate_left
  · (intro w hSw; (try dsimp only at hSw); go_simp; try with_reducible rfl)
  try simp only [Act.put, List.setIfInBounds_toArray, List.set_cons_zero, List.set_cons_succ]
  refine wpAnyL_take 3 (v := ?_) rfl (by kernel_rfl) (fun _ _ _ h => h) (Or.inl ⟨by kernel_rfl, ?_⟩) hHeld ?_
  rotate_left
  · (intro w hSw; (try dsimp only at hSw); go_simp; try with_reducible rfl)
  try simp only [Act.put, List.setIfInBounds_toArray, List.set_cons_zero, List.set_cons_succ]
  refine wpAnyL_take 4 (v := ?_) rfl (by kernel_rfl) (fun _ _ _ h => h) (Or.inl ⟨by kernel_rfl, ?_⟩) hHeld ?_
  rotate_left
  · (intro w hSw; (try dsimp only at hSw); go_simp; try with_reducible rfl)
  try simp only [Act.put, List.setIfInBounds_toArray, List.set_cons_zero, List.set_cons_succ]
  refine wpAnyL_one 2 (by kernel_rfl) rfl (fun K hK => ?_)
  go_simp
  go_at_call 124
  refine (Hnum.out i _ (by omega)).mono ?_
  rintro e w2 ⟨A2, c2, rfl, hown2, hb2⟩
  have hb12 : Below w1.heap.size w1 w2 := (Below.refl _ _).drew.trans hb2
  clear hHeld
  have hHeld := HS.out w2 hb12
  refine hK.out _ _ (fun _ => hHeld) ?_
  clear hK K
  try simp only [Act.put, List.setIfInBounds_toArray, List.set_cons_zero, List.set_cons_succ]
  refine wpAnyL_one 5 (by kernel_rfl) rfl (fun K hK => ?_)
  go_simp
  go_at_call 124
  refine (Hnum.out t _ (by omega)).mono ?_
  rintro e w3 ⟨A3, c3, rfl, hown3, hb3⟩
  have hb13 : Below w1.heap.size w1 w3 := hb12.trans (hb3.mono hb12.size)
  have hown23 := hown2.kept_ext (S := []) (Ext.of_below hb3) (fun q hq => by cases hq)
  obtain ⟨hbt3, _, _, _⟩ := own_all hown3
  clear hHeld
  have hHeld := HS.out w3 hb13
  refine hK.out _ _ (fun _ => hHeld) ?_
  clear hK K
  try simp only [Act.put, List.setIfInBounds_toArray, List.set_cons_zero, List.set_cons_succ]
  refine wpAnyL_one 6 (by kernel_rfl) rfl (fun K hK => ?_)
  refine step_append_bts _ (by rfl) _ _ (by rfl) w1.heap.size _ (Q.numB i).length (Q.numB i) (by rfl) hown23 A3 (Q.numB t).length c3 (Q.numB t) (by rfl) hbt3 (by omega) hb13.size ?_
  intro v4 w4 hown4 hgr4
  obtain ⟨A4, c4, rfl⟩ := own_shape hown4
  have hb14 : Below w1.heap.size w1 w4 := hb13.grown hgr4 hb13.size (fun q hq => (hown23.lt q hq).1)
  clear hHeld
  have hHeld := HS.out w4 hb14
  refine hK.out _ _ (fun _ => hHeld) ?_
  clear hK K
  try simp only [Act.put, List.setIfInBounds_toArray, List.set_cons_zero, List.set_cons_succ]
  refine wpAnyL_one 7 (by kernel_rfl) rfl (fun K hK => ?_)
  go_simp
  refine hK.out _ _ (fun h => absurd rfl h) ?_
  clear hK K
  try simp only [Act.put, List.setIfInBounds_toArray, List.set_cons_zero, List.set_cons_succ]
  refine wpAnyL_done (by kernel_rfl) ?_ _
  obtain ⟨n4, hn4⟩ : ∃ n, n = (Q.numB i).length + (Q.numB t).length := ⟨_, rfl⟩
  rw [← hn4] at hown4 ⊢
  obtain ⟨nn, hnn⟩ : ∃ n, n = (Q.numB nm).length := ⟨_, rfl⟩
  have hnum := Hnum.out nm w4 (by omega)
  rw [← hnn] at hnum ln
  have Hnm4 := Lib.hid hnum
  have hx4 := (hb14.block _ (blk_lt Hx1.out)).trans Hx1.out
  have x2 := blk_cell hx4 2
  have hn18 : n4 ≤ 18 := by omega
  have Hn4 := Lib.hid hn4
  have Hnn := Lib.hid hnn
  clear hn4 hnn hnum hx4 hown2 hown3 hown23 hbt3 hb2 hb3 hb12 hb13 hgr4 li lt hHeld
  go_upto_region 3 with (first
    | (go_at_call 124; refine Hnm4.out.mono ?_; rintro e w5 ⟨A5, c5, rfl, hown5, hb5⟩; have hown45 := hown4.kept_ext (S := []) (Ext.of_below hb5) (fun q hq => by cases hq); obtain ⟨hbt5, _, _, _⟩ := own_all hown5; have hb15 : Below w1.heap.size w1 w5 := hb14.trans (hb5.mono hb14.size))
    | (at_builtin; refine wpList_append_bts _ rfl _ _ rfl w1.heap.size _ n4 (Q.numB i ++ Q.numB t) rfl hown45 A5 nn c5 (Q.numB nm) rfl hbt5 (by omega) hb15.size ?_; intro v6 w6 hown6 hgr6 _; obtain ⟨A6, c6, rfl⟩ := own_shape hown6))
  have hb16 : Below w1.heap.size w1 w6 := hb15.grown hgr6 hb15.size (fun q hq => (hown45.lt q hq).1)
  have hl3 : Q.numsB [i, t, nm] = Q.numB i ++ Q.numB t ++ Q.numB nm := by simp [Q.numsB]
  rw [← hl3] at hown6
  have Hown6 := Lib.hid hown6
  have Hb16 := Lib.hid hb16
  have h27 : n4 + nn ≤ 27 := by omega
  have Hlen3 := Lib.hid (show (Q.numsB [i, t, nm]).length = n4 + nn by rw [hl3, List.length_append, List.length_append, ← Hn4.out, ← Hnn.out])
  clear hown4 hown5 hown45 hbt5 hb5 hb14 hb15 hown6 hgr6 hb16 x2 hl3
  go_wp2_with fail
  go_loopw [3, 4] (fun b q wr => ∃ (k m : Nat) (A : Option Addr) (c : Nat), k ≤ nm ∧ b = .slice A m c ∧ q = .int .i64 k ∧ m ≤ 27 + 9 * k ∧ wr.ownsRow w1.heap.size 5 1 (.slice A m c) m (vals (Q.numsB [i, t, nm] ++ Q.numsB (ms.take k))) ∧ Below w1.heap.size w1 wr) (fun _ q _ => nm - (intOf q).toNat)
  case atStart => exact ⟨0, n4 + nn, A6, c6, Nat.zero_le _, rfl, rfl, by omega, by rw [List.take_zero]; simpa [Q.numsB] using Hown6.out, Hb16.out⟩
  case round =>
    obtain ⟨k, m, A, c, hk, rfl, rfl, hm27, hown, hbw⟩ := hrel
    have hx := (hbw.block _ (blk_lt Hx1.out)).trans Hx1.out
    have x2 := blk_cell hx 2
    have x3 := blk_cell hx 3
    have Hbw := Lib.hid hbw
    have Hown := Lib.hid hown
    clear hx hown
    by_cases hkm : k < nm
    · obtain ⟨pb, po, e1, hcell⟩ := itz_at (HI.out.below hbw) (by omega)
      subst e1
      have hck := hcell k hkm
      rw [Hget.out k (by rw [← Hnm.out]; exact hkm), ← Hms.out] at hck
      have hix : ∀ W, (Instr.indexAt 25 (.slice (some ⟨pb, po, none⟩) nm cm) (.int .i64 (k : Int))).run Try.prog W = .ok (.pointer (some ⟨pb, po + k, none⟩)) W := fun W => by
        rw [run_index_int ⟨pb, po, none⟩ nm cm k (by omega) (by omega) W, add0, Int.toNat_natCast]
      obtain ⟨x, hx⟩ : ∃ x, x = ms.getD k 0 := ⟨_, rfl⟩
      have hxm : x ∈ ms := by
        rw [hx, List.getD_eq_getElem?_getD, List.getElem?_eq_getElem (by rw [Hmsl.out]; exact hkm)]
        exact List.getElem_mem _
      have hx7 := Hms7.out x hxm
      rw [← hx] at hck
      have hwx : IntKind.u64.wrap (x : Int) = (x : Int) := by
        simp [IntKind.wrap, IntKind.bits, IntKind.signed]
        omega
      have hst : Q.numsB [i, t, nm] ++ Q.numsB (ms.take (k + 1)) = Q.numsB [i, t, nm] ++ Q.numsB (ms.take k) ++ Q.numB x := by
        rw [Q.numsB_take ms k (by rw [Hmsl.out]; exact hkm), ← hx, List.append_assoc]
      have lx := Q.numB_len (n := x) (by omega)
      obtain ⟨nx, hnx⟩ : ∃ n, n = (Q.numB x).length := ⟨_, rfl⟩
      have hnum := Hnum.out x wr (by omega)
      rw [← hnx] at hnum lx
      have Hnx := Lib.hid hnum
      have Hst := Lib.hid hst
      have hwk : IntKind.i64.wrap ((k : Int) + 1) = (k : Int) + 1 := IntWalk.i64_in _ (by omega)
      have Hnxx := Lib.hid hnx
      clear hcell hx hxm hnum hst hbw hnx
      go_wp2_with (first
        | (go_at_call 124; refine Hnx.out.mono ?_; rintro e w7 ⟨A7, c7, rfl, hown7, hb7⟩; have hown17 := Hown.out.kept_ext (S := []) (Ext.of_below hb7) (fun q hq => by cases hq); obtain ⟨hbt7, _, _, _⟩ := own_all hown7; have hb17 : Below w1.heap.size w1 w7 := Hbw.out.trans (hb7.mono Hbw.out.size))
        | (at_builtin; refine wpList_append_bts _ rfl _ _ rfl w1.heap.size _ m _ rfl hown17 A7 nx c7 (Q.numB x) rfl hbt7 (by omega) hb17.size ?_; intro v8 w8 hown8 hgr8 _; obtain ⟨A8, c8, rfl⟩ := own_shape hown8))
      have hb18 : Below w1.heap.size w1 w8 := hb17.grown hgr8 hb17.size (fun q hq => (hown17.lt q hq).1)
      rw [← Hst.out] at hown8
      have Hown8 := Lib.hid hown8
      have Hb18 := Lib.hid hb18
      clear hown7 hown17 hbt7 hb7 hb17 hown8 hgr8 hb18
      go_roundw
      case rel => exact ⟨k + 1, m + nx, A8, c8, by omega, rfl, by go_num, by omega, Hown8.out, Hb18.out⟩
      case measure => simp [intOf]; omega
    · have hfull : ms.take k = ms := List.take_of_length_le (by rw [Hmsl.out]; omega)
      rw [hfull] at Hown
      obtain ⟨S, hS⟩ : ∃ S : ByteArray, S = ⟨p.data.toArray⟩ := ⟨_, rfl⟩
      have hcv := run_to_str (HD.out.below hbw) cd
      rw [← hS] at hcv
      have hSl : S.data.toList = p.data := by rw [hS]
      have hSz : S.size = nd := by rw [← HD.out.1, ← hSl, Array.length_toList]; rfl
      have htx := reftext01_calls S wr (by omega)
      rw [hSl] at htx
      unfold NewBytes at htx
      have htl : (Q.textB p.data).length ≤ 9 + nd := by
        have := Q.numB_len (n := p.data.length) (by rw [HD.out.1]; omega)
        unfold Q.textB
        rw [List.length_append, HD.out.1]
        rw [HD.out.1] at this
        omega
      obtain ⟨nt, hnt⟩ : ∃ n, n = (Q.textB p.data).length := ⟨_, rfl⟩
      rw [← hnt] at htx htl
      have Htx := Lib.hid htx
      have Hnt := Lib.hid hnt
      clear hfull hS hSl hSz htx hbw hnt
      go_wp2_with (first
        | (go_at_call 125; refine Htx.out.mono ?_; rintro e w7 ⟨A7, c7, rfl, hown7, hb7⟩; have hown17 := Hown.out.kept_ext (S := []) (Ext.of_below hb7) (fun q hq => by cases hq); obtain ⟨hbt7, _, _, _⟩ := own_all hown7; have hb17 : Below w1.heap.size w1 w7 := Hbw.out.trans (hb7.mono Hbw.out.size))
        | (at_builtin; refine wpList_append_bts _ rfl _ _ rfl w1.heap.size _ m _ rfl hown17 A7 nt c7 (Q.textB p.data) rfl hbt7 (by omega) hb17.size ?_; intro v8 w8 hown8 hgr8 _; obtain ⟨A8, c8, rfl⟩ := own_shape hown8))
      go_ret
      have hb18 : Below w1.heap.size w1 w8 := hb17.grown hgr8 hb17.size (fun q hq => (hown17.lt q hq).1)
      have hb08 : Below w.heap.size w w8 := Hb1.out.trans (hb18.mono Hb1.out.size)
      rw [← Hbody.out] at hown8
      have hl : m + nt = (Q.body p.down).length := by
        have := hown8.1
        rw [vals_length] at this
        omega
      rw [hl] at hown8 ⊢
      exact ⟨A8, c8, rfl, own_base hown8 Hb1.out.size, hb08⟩

set_option maxRecDepth 100000 in
theorem refbytes27_calls (v : Value) (p : Q.Sn) (w : World) (h : SnIs w v p) (hs : Q.sound p = true) :
    Calls Try.prog 24 #[v] w (NewBytes w (Q.bytesOf p.down)) := by
  have hup := Q.down_up hs
  obtain ⟨k1, k2, k3, k4, k5⟩ := Q.sound_le (p := p.down) (by rw [hup]; exact hs)
  have hblen := Q.body_len p.down k1 k2 k3 k4 k5
  have h0 := h
  obtain ⟨Am, cm, Ad, cd, rfl, h1, h2, h3, h4⟩ := h
  obtain ⟨i, hi'⟩ : ∃ i, i = p.index := ⟨_, rfl⟩
  obtain ⟨t, ht'⟩ : ∃ i, i = p.term := ⟨_, rfl⟩
  obtain ⟨nm, hnm⟩ : ∃ n, n = p.members.length := ⟨_, rfl⟩
  obtain ⟨nd, hnd⟩ : ∃ n, n = p.data.length := ⟨_, rfl⟩
  obtain ⟨w1, hw1⟩ : ∃ w1, w1 = w.alloc (.cells #[.int .u64 (p.index : Int), .int .u64 (p.term : Int), .slice Am p.members.length cm, .slice Ad p.data.length cd] 27) := ⟨_, rfl⟩
  have hb1 : Below w.heap.size w w1 := by rw [hw1]; exact al1 _ _
  have hx1 : w1.heap[w.heap.size]? = some (.cells #[.int .u64 (p.index : Int), .int .u64 (p.term : Int), .slice Am p.members.length cm, .slice Ad p.data.length cd] 27 (0, 0)) := by rw [hw1]; exact blk_new _ _
  have hbody := refbody27_calls _ p w1 (h0.below hb1) hs
  unfold NewBytes at hbody
  obtain ⟨bd, hbd⟩ : ∃ bd, bd = Q.body p.down := ⟨_, rfl⟩
  have hbo : Q.bytesOf p.down = Q.frame 4 bd := by rw [hbd]; rfl
  rw [← hbd] at hbody hblen
  rw [hbo]
  rw [← hi', ← ht', ← hnm, ← hnd] at hbody hx1 hw1 ⊢
  obtain ⟨nb, hnb⟩ : ∃ nb, nb = bd.length := ⟨_, rfl⟩
  have hfr := fun W A c (hW : Bts W A nb bd) => refframe_calls 4 A nb c bd W hW (by omega) 4 rfl
  rw [← hnb] at hbody
  have Hbody := Lib.hid hbody
  have Hfr := Lib.hid hfr
  have Hw1 := Lib.hid hw1
  have Hb1 := Lib.hid hb1
  have Hnb := Lib.hid hnb
  have x0 := blk_cell hx1 0
  have x1 := blk_cell hx1 1
  have x2 := blk_cell hx1 2
  have x3 := blk_cell hx1 3
  clear h0 h1 h2 h3 h4 hs hup k1 k2 k3 k4 k5 hi' ht' hnm hnd hbd hbo hnb hbody hfr hw1 hb1 hx1
  go_enter Try.func24, Try.ntmps24
  go_upto_region 1 with (fail)
  rw [← Hw1.out]
  go_wp2_with (first
    | (go_at_call 79; refine Hbody.out.mono ?_; rintro e w2 ⟨A2, c2, rfl, hown2, hb2⟩; obtain ⟨hbt2, _, _, _⟩ := own_all hown2)
    | (go_at_call 78; refine (Hfr.out w2 A2 c2 hbt2).mono ?_; rintro e w3 ⟨A3, c3, rfl, hown3, hb3⟩))
  go_ret
  have b2 : Below w.heap.size w w2 := Hb1.out.trans (hb2.mono Hb1.out.size)
  exact ⟨A3, c3, rfl, own_base hown3 b2.size, b2.trans (hb3.mono b2.size)⟩
end Go.Proofs.Ytcfgdlpdnpnhmaa
set_option linter.unusedVariables false
set_option linter.unusedSimpArgs false
namespace Go.Proofs.Ytcfgdlpdnpnhmaa
open Go.RowKit Go.Maps

theorem ints_eq {ms1 ms2 : List Int} {n : Nat} (h1 : ms1.length = n) (h2 : ms2.length = n) (h : ∀ j, j < n → ms1.getD j 0 = ms2.getD j 0) : ms1 = ms2 := by
  refine List.ext_getElem (by rw [h1, h2]) (fun j k1 k2 => ?_)
  have := h j (by omega)
  simpa [List.getD_eq_getElem?_getD, k1, k2] using this
set_option maxRecDepth 100000 in
set_option maxHeartbeats 1000000 in
theorem slequal_calls (A1 : Option Addr) (n1 c1 : Nat) (A2 : Option Addr) (n2 c2 : Nat) (l1 l2 : List Int) (w : World) (h1 : Itz w A1 n1 l1) (h2 : Itz w A2 n2 l2) (hn1 : n1 ≤ 140737488355328) (hc1 : n1 ≤ c1) (hc2 : n2 ≤ c2) :
    Calls Try.prog 72 #[.slice A1 n1 c1, .slice A2 n2 c2] w fun e w' => ∃ b, e = .returned (.bool b) ∧ (b = true ↔ l1 = l2) ∧ Below w.heap.size w w' := by
  have H1 := Lib.hid h1
  have H2 := Lib.hid h2
  clear h1 h2
  by_cases hn : n1 = n2
  · subst hn
    go_enter Try.func72, Try.ntmps72
    go_wp2
    go_loopw [13] (fun i wr => ∃ k : Nat, i = .int .i64 k ∧ k ≤ n1 ∧ (∀ j, j < k → l1.getD j 0 = l2.getD j 0) ∧ Below w.heap.size w wr) (fun i _ => n1 - (intOf i).toNat)
    case atStart => exact ⟨0, rfl, Nat.zero_le _, fun j hj => absurd hj (by omega), Below.refl _ _⟩
    case round =>
      obtain ⟨k, rfl, hk, hall, hbl⟩ := hrel
      have Hall := Lib.hid hall
      have Hbl := Lib.hid hbl
      have Hwq := Lib.hid (fun q => (show Below w.heap.size w (wr.drewN q) from hbl.trans ((((Ext.refl [] wr).drewN q).nil_below).mono hbl.size)))
      by_cases hkn : k < n1
      · obtain ⟨pb1, po1, e1, hcell1⟩ := itz_at (H1.out.below hbl) (by omega)
        obtain ⟨pb2, po2, e2, hcell2⟩ := itz_at (H2.out.below hbl) (by omega)
        subst e1 e2
        have q1 := hcell1 k hkn
        have q2 := hcell2 k hkn
        have hix1 : ∀ W, (Instr.indexAt 25 (.slice (some ⟨pb1, po1, none⟩) n1 c1) (.int .i64 (k : Int))).run Try.prog W = .ok (.pointer (some ⟨pb1, po1 + k, none⟩)) W := fun W => by
          rw [run_index_int ⟨pb1, po1, none⟩ n1 c1 k (by omega) (by omega) W, add0, Int.toNat_natCast]
        have hix2 : ∀ W, (Instr.indexAt 25 (.slice (some ⟨pb2, po2, none⟩) n1 c2) (.int .i64 (k : Int))).run Try.prog W = .ok (.pointer (some ⟨pb2, po2 + k, none⟩)) W := fun W => by
          rw [run_index_int ⟨pb2, po2, none⟩ n1 c2 k (by omega) (by omega) W, add0, Int.toNat_natCast]
        have hwk : IntKind.i64.wrap ((k : Int) + 1) = (k : Int) + 1 := IntWalk.i64_in _ (by omega)
        obtain ⟨x1, hx1⟩ : ∃ x, x = l1.getD k 0 := ⟨_, rfl⟩
        obtain ⟨x2, hx2⟩ : ∃ x, x = l2.getD k 0 := ⟨_, rfl⟩
        rw [← hx1] at q1
        rw [← hx2] at q2
        have Hx1 := Lib.hid hx1
        have Hx2 := Lib.hid hx2
        clear hcell1 hcell2 hx1 hx2 hall hbl
        by_cases hx : x1 = x2
        · have gx : (x1 != x2) = false := by rw [hx]; exact bne_self_eq_false _
          have Hx := Lib.hid hx
          clear hx
          go_wp2
          go_quiet (fail)
          go_wp2
          go_roundw
          case rel =>
            refine ⟨k + 1, by go_num, by omega, fun j hj => ?_, Hwq.out _⟩
            rcases Nat.lt_or_ge j k with h3 | h3
            · exact Hall.out j h3
            · obtain rfl : j = k := by omega
              rw [← Hx1.out, ← Hx2.out, Hx.out]
          case measure => simp [intOf]; omega
        · have gx : (x1 != x2) = true := by rw [bne_iff_ne]; exact hx
          have Hx := Lib.hid hx
          clear hx
          go_wp2
          go_quiet (fail)
          go_wp2
          go_ret
          refine ⟨false, rfl, ⟨fun c => (by cases c), fun c => ?_⟩, Hwq.out _⟩
          exact absurd (by rw [Hx1.out, Hx2.out, c]) Hx.out
      · obtain rfl : k = n1 := by omega
        go_wp2
        go_ret
        exact ⟨true, rfl, ⟨fun _ => ints_eq H1.out.1 H2.out.1 Hall.out, fun _ => rfl⟩, Hbl.out⟩
  · have gn : ((n1 : Int) != (n2 : Int)) = true := by rw [bne_iff_ne]; omega
    have Hn := Lib.hid hn
    clear hn
    go_enter Try.func72, Try.ntmps72
    go_wp2
    go_ret
    refine ⟨false, rfl, ⟨fun c => (by cases c), fun c => ?_⟩, Below.refl _ _⟩
    have h3 := H1.out.1
    rw [c, H2.out.1] at h3
    exact absurd h3.symm Hn.out

set_option maxRecDepth 100000 in
theorem bequal_calls (A1 : Option Addr) (n1 c1 : Nat) (A2 : Option Addr) (n2 c2 : Nat) (l1 l2 : Bs) (w : World) (h1 : Bts w A1 n1 l1) (h2 : Bts w A2 n2 l2) :
    Calls Try.prog 73 #[.slice A1 n1 c1, .slice A2 n2 c2] w fun e w' => ∃ b, e = .returned (.bool b) ∧ (b = true ↔ l1 = l2) ∧ Below w.heap.size w w' := by
  obtain ⟨S1, hS1⟩ : ∃ S1 : ByteArray, S1 = ⟨l1.toArray⟩ := ⟨_, rfl⟩
  obtain ⟨S2, hS2⟩ : ∃ S2 : ByteArray, S2 = ⟨l2.toArray⟩ := ⟨_, rfl⟩
  have cv1 := run_to_str h1 c1
  have cv2 := run_to_str h2 c2
  rw [← hS1] at cv1
  rw [← hS2] at cv2
  have hss : S1 = S2 ↔ l1 = l2 := by
    rw [hS1, hS2]
    constructor
    · intro h
      have := congrArg (fun b : ByteArray => b.data.toList) h
      simpa using this
    · intro h; rw [h]
  have Hss := Lib.hid hss
  clear h1 h2 hS1 hS2 hss
  by_cases hs : S1 = S2
  · have gs : (S1.toList == S2.toList) = true := by rw [hs]; exact beq_self_eq_true _
    have Hs := Lib.hid hs
    clear hs
    go_enter Try.func73, Try.ntmps73
    go_wp2
    go_ret
    exact ⟨true, rfl, ⟨fun _ => Hss.out.1 Hs.out, fun _ => rfl⟩, Below.refl _ _⟩
  · have gs : (S1.toList == S2.toList) = false := by
      rw [Lib.toList_data, Lib.toList_data]
      exact beq_eq_false_iff_ne.2 (fun h => hs (WideShapes.bytes_inj h))
    have Hs := Lib.hid hs
    clear hs
    go_enter Try.func73, Try.ntmps73
    go_wp2
    go_ret
    exact ⟨false, rfl, ⟨fun c => (by cases c), fun c => absurd (Hss.out.2 c) Hs.out⟩, Below.refl _ _⟩

set_option maxRecDepth 100000 in
set_option maxHeartbeats 2000000 in
theorem snsame_calls (va vb : Value) (p q : Q.Sn) (w : World) (ha : SnIs w va p) (hb : SnIs w vb q) (hp : p.members.length ≤ 140737488355328) (hq : q.members.length ≤ 140737488355328) :
    Calls Try.prog 22 #[va, vb] w (SameIs w (p = q)) := by
  obtain ⟨i1, t1, ms1, ds1⟩ := p
  obtain ⟨i2, t2, ms2, ds2⟩ := q
  obtain ⟨A1, c1, B1, d1, rfl, hm1, hmc1, hd1, hdc1⟩ := ha
  obtain ⟨A2, c2, B2, d2, rfl, hm2, hmc2, hd2, hdc2⟩ := hb
  dsimp only at *
  obtain ⟨n1, hn1⟩ : ∃ n, n = ms1.length := ⟨_, rfl⟩
  obtain ⟨n2, hn2⟩ : ∃ n, n = ms2.length := ⟨_, rfl⟩
  obtain ⟨m1, hl1⟩ : ∃ n, n = ds1.length := ⟨_, rfl⟩
  obtain ⟨m2, hl2⟩ : ∃ n, n = ds2.length := ⟨_, rfl⟩
  rw [← hn1] at hm1 hp hmc1 ⊢
  rw [← hn2] at hm2 hq hmc2 ⊢
  rw [← hl1] at hd1 hdc1 ⊢
  rw [← hl2] at hd2 hdc2 ⊢
  obtain ⟨w2, hw2⟩ : ∃ w2, w2 = (w.alloc (.cells #[.int .u64 (i1 : Int), .int .u64 (t1 : Int), .slice A1 n1 c1, .slice B1 m1 d1] 27)).alloc (.cells #[.int .u64 (i2 : Int), .int .u64 (t2 : Int), .slice A2 n2 c2, .slice B2 m2 d2] 27) := ⟨_, rfl⟩
  have hb2 : Below w.heap.size w w2 := by rw [hw2]; exact below2 w _ _
  have hx1 : w2.heap[w.heap.size]? = some (.cells #[.int .u64 (i1 : Int), .int .u64 (t1 : Int), .slice A1 n1 c1, .slice B1 m1 d1] 27 (0, 0)) := by rw [hw2]; exact blk_alloc (blk_new w _) _
  have hx2 : w2.heap[w.heap.size + 1]? = some (.cells #[.int .u64 (i2 : Int), .int .u64 (t2 : Int), .slice A2 n2 c2, .slice B2 m2 d2] 27 (0, 0)) := by rw [hw2]; exact blk_new1 w _ _
  have hM := slequal_calls A1 n1 c1 A2 n2 c2 ms1 ms2 w2 (hm1.below hb2) (hm2.below hb2) hp hmc1 hmc2
  have hD := fun W (hW : Below w2.heap.size w2 W) => bequal_calls B1 m1 d1 B2 m2 d2 ds1 ds2 W ((hd1.below hb2).below hW) ((hd2.below hb2).below hW)
  have HM := Lib.hid hM
  have HD := Lib.hid hD
  have a0 := blk_cell hx1 0
  have a1 := blk_cell hx1 1
  have a2 := blk_cell hx1 2
  have b0 := blk_cell hx2 0
  have b1 := blk_cell hx2 1
  have b2 := blk_cell hx2 2
  have Hb2 := Lib.hid hb2
  have Hw2 := Lib.hid hw2
  have Hx1 := Lib.hid hx1
  have Hx2 := Lib.hid hx2
  clear hw2 hb2 hx1 hx2 hm1 hm2 hd1 hd2 hn1 hn2 hl1 hl2 hM hD
  by_cases hi : i1 = i2
  · by_cases ht : t1 = t2
    · subst hi ht
      go_enter Try.func22, Try.ntmps22
      go_upto_region 1 with fail
      rw [← Hw2.out]
      go_wp2_with fail
      refine HM.out.mono ?_
      rintro e w3 ⟨b, rfl, hiff, hb3⟩
      have hy1 := (hb3.block _ (blk_lt Hx1.out)).trans Hx1.out
      have hy2 := (hb3.block _ (blk_lt Hx2.out)).trans Hx2.out
      clear a0 a1 a2 b0 b1 b2
      have a3 := blk_cell hy1 3
      have b3 := blk_cell hy2 3
      have Hiff := Lib.hid hiff
      have Hb3 := Lib.hid hb3
      have HD3 := Lib.hid (HD.out w3 hb3)
      clear hy1 hy2 hiff hb3
      cases b
      · go_wp2_with fail
        go_ret
        exact SameIs.no (fun c => by injection c with _ _ c _; have h5 := Hiff.out.2 c; cases h5) ⟨rfl, Hb2.out.trans (Hb3.out.mono Hb2.out.size)⟩
      · go_wp2_with fail
        refine HD3.out.mono ?_
        rintro e w4 ⟨b, rfl, hiff4, hb4⟩
        have Hiff4 := Lib.hid hiff4
        have Hb4 := Lib.hid hb4
        clear hiff4 hb4
        go_wp2_with fail
        go_ret
        have hb03 := Hb2.out.trans (Hb3.out.mono Hb2.out.size)
        refine ⟨b, rfl, Hiff4.out.trans ⟨fun c => (by rw [Hiff.out.1 (by trivial), c]), fun c => (by injection c)⟩, hb03.trans (Hb4.out.mono hb03.size)⟩
    · have gt : ((t1 : Int) == (t2 : Int)) = false := beq_eq_false_iff_ne.2 (by omega)
      have hne : ¬ (Q.Sn.mk i1 t1 ms1 ds1 = Q.Sn.mk i2 t2 ms2 ds2) := fun h => by injection h with _ h3 _ _; exact ht h3
      refine Calls.mono ?_ (fun e w' k => SameIs.no hne k)
      subst hi
      clear ht hne
      go_enter Try.func22, Try.ntmps22
      go_upto_region 1 with fail
      rw [← Hw2.out]
      go_wp2_with fail
      go_ret
      exact ⟨rfl, Hb2.out⟩
  · have gi : ((i1 : Int) == (i2 : Int)) = false := beq_eq_false_iff_ne.2 (by omega)
    have hne : ¬ (Q.Sn.mk i1 t1 ms1 ds1 = Q.Sn.mk i2 t2 ms2 ds2) := fun h => by injection h with h3 _ _ _; exact hi h3
    refine Calls.mono ?_ (fun e w' k => SameIs.no hne k)
    clear hi hne
    go_enter Try.func22, Try.ntmps22
    go_upto_region 1 with fail
    rw [← Hw2.out]
    go_wp2_with fail
    go_ret
    exact ⟨rfl, Hb2.out⟩
end Go.Proofs.Ytcfgdlpdnpnhmaa
set_option linter.unusedVariables false
set_option linter.unusedSimpArgs false
namespace Go.Proofs.Ytcfgdlpdnpnhmaa
open Go.RowKit Go.Maps

/-- What do leaves: the disk stands as D, the document's as R. -/
def DoGives2 (w : World) (d mp mt : Nat) (D R : Dsk) (e : Ending) (w' : World) : Prop :=
  ∃ A n c b, e = .returned (.tuple #[refV R A n c, .bool b]) ∧ RFiles w' A n R.files ∧ n ≤ c ∧ Left w d mp mt D w'

set_option maxRecDepth 100000 in
set_option maxHeartbeats 4000000 in
theorem do2_sync (d mp mt : Nat) (D R : Dsk) (A : Option Addr) (n c : Nat) (on : Int) (nm to_ tx : ByteArray) (At : Option Addr) (m ct : Nat) (w : World) (h : IsDisk w d mp mt D) (hr : RFiles w A n R.files) (hnc : n ≤ c) (hok : D.Ok) (hst : D.steps < 4611686018427387904) (hokr : R.Ok) (hstr : R.steps < 4611686018427387904) (hnm : nm.size ≤ 9223372036854775807) (hto : to_.size ≤ 9223372036854775807) (htx : tx.size ≤ 140737488355328) :
    Calls Try.prog 30 #[.pointer (some ⟨d, 0, none⟩), refV R A n c, .agg #[.int .i64 1, .int .i64 on, .string nm, .string to_, .string tx, .slice At m ct]] w (DoGives2 w d mp mt (D.sync nm.data.toList).1 (R.sync nm.data.toList).1) := by
  have Hr := Lib.hid (fun w1 (hb : Below w.heap.size w w1) => refsync_calls R A n c nm w1 (hr.below hb) hnc (by have := n_le hokr hr; omega) hstr hokr.armed0 hokr.armed1 (len_all hokr))
  have Hd := Lib.hid (fun w1 (hd : IsDisk w1 d mp mt D) => sync_calls d mp mt D nm w1 hd hnm hst hok.armed0 hok.armed1 (by have := hok.many; omega) (len_all hok))
  have H := Lib.hid h
  have hld := h.lt_d
  have hlm := h.lt_mp
  have hlt := h.lt_mt
  obtain ⟨D', hD'⟩ : ∃ D', D' = (D.sync nm.data.toList).1 := ⟨_, rfl⟩
  obtain ⟨R', hR'⟩ : ∃ R', R' = (R.sync nm.data.toList).1 := ⟨_, rfl⟩
  obtain ⟨code, hcode⟩ : ∃ code, code = (D.sync nm.data.toList).2 := ⟨_, rfl⟩
  obtain ⟨coder, hcoder⟩ : ∃ coder, coder = (R.sync nm.data.toList).2 := ⟨_, rfl⟩
  rw [← hR', ← hcoder] at Hr
  rw [← hD', ← hcode] at Hd
  rw [← hD', ← hR']
  unfold refV at Hr
  unfold refV
  have Hl := Lib.hid (And.intro hld (And.intro hlm hlt))
  clear h hr hok hst hokr hstr hnm hto htx hD' hR' hcode hcoder hld hlm hlt
  go_enter Try.func30, Try.ntmps30
  go_upto_region 8 with (go_at_call 82; refine (Hr.out _ (al3 w _ _ _)).mono ?_; rintro e w2 ⟨A2, n2, c2, rfl, hf2, hc2, hb2⟩; unfold refV; have hB2 := (DoBlk.start w _ _ _ _ _ _ _ _ _ _ _ _ _).below hb2; obtain ⟨⟨b0, b1, b2, b3, b4⟩, ⟨g0, g1, g2, g3, g4⟩, ⟨o0, o1, o2, o3, o4, o5⟩, ⟨z0, z1, z2, z3, z4⟩, ⟨r0, r1, r2, r3, r4⟩⟩ := hB2.facts)
  obtain ⟨w3, hw3, hB3, hE3, hF3⟩ := hB2.store (.int .i64 R'.room) (.slice A2 n2 c2) (.bool R'.down) (.int .i64 R'.armed) (.int .u64 R'.steps) (refcells_noStr _ _ _ _ _ _ _)
  rw [← hw3]
  have hb02 : Below w.heap.size w w2 := below_next (al3 w _ _ _) hb2
  have hD2 : IsDisk w2 d mp mt D := H.out.below hb02
  have hD3 : IsDisk w3 d mp mt D := hD2.ext hE3 (fun k hk => by rw [List.mem_singleton.1 hk]; exact refcells_noU8 hB2.disk) (by have := Hl.out; simp; omega) (by have := Hl.out; simp; omega) (by have := Hl.out; simp; omega)
  have hb03 : Below w.heap.size w w3 := hb02.trans (hE3.below hb02.size (fun q hq => by rw [List.mem_singleton.1 hq]; exact Nat.le_refl _))
  have hf3 := hF3 _ _ _ hf2
  have HB3 := Lib.hid hB3
  have HD3 := Lib.hid hD3
  have Hb03 := Lib.hid hb03
  have Hf3 := Lib.hid hf3
  clear hw3 hE3 hF3 hB2 hb2 hf2 b0 b1 b2 b3 b4 g0 g1 g2 g3 g4 o0 o1 o2 o3 o4 o5 z0 z1 z2 z3 z4 r0 r1 r2 r3 r4 hb02 hD2 hD3 hb03 hf3
  obtain ⟨⟨b0, b1, b2, b3, b4⟩, ⟨g0, g1, g2, g3, g4⟩, ⟨o0, o1, o2, o3, o4, o5⟩, ⟨z0, z1, z2, z3, z4⟩, ⟨r0, r1, r2, r3, r4⟩⟩ := hB3.facts
  clear hB3
  go_upto_region 34 with (go_at_call 42; refine (Hd.out w3 HD3.out).mono ?_; rintro e w4 ⟨rfl, hL4⟩; have hB4 := HB3.out.ext hL4.ext (fun q hq => by have := Hl.out; simp only [List.mem_cons, List.mem_nil_iff, or_false] at hq; omega); clear b0 b1 b2 b3 b4 g0 g1 g2 g3 g4 o0 o1 o2 o3 o4 o5 z0 z1 z2 z3 z4 r0 r1 r2 r3 r4; obtain ⟨⟨b0, b1, b2, b3, b4⟩, ⟨g0, g1, g2, g3, g4⟩, ⟨o0, o1, o2, o3, o4, o5⟩, ⟨z0, z1, z2, z3, z4⟩, ⟨r0, r1, r2, r3, r4⟩⟩ := hB4.facts)
  have hf4 := dsk_noStr HD3.out hL4 Hf3.out
  obtain ⟨w5, hw5, ⟨x0, x1, x2, x3, x4⟩, hE5, hF5, hI5⟩ := hB4.done (.int .i64 R'.room) (.slice A2 n2 c2) (.bool R'.down) (.int .i64 R'.armed) (.int .u64 R'.steps)
  have Hfin := Lib.hid (show RFiles w5 A2 n2 R'.files ∧ n2 ≤ c2 ∧ Left w d mp mt D' w5 from ⟨hF5 _ _ _ hf4, hc2, hI5 _ _ _ _ Hl.out.1 Hl.out.2.1 Hl.out.2.2 hL4.disk, (Ext.of_below Hb03.out).trans (hL4.ext.mono (fun k hk => Or.inl hk)) |>.then_ hE5 (fun i hi => Or.inr (by rw [List.mem_singleton.1 hi]; omega))⟩)
  clear hf4 hE5 hF5 hI5 hL4 hB4
  go_wp2_with fail
  rw [← hw5]
  exact bodyPost_ret (v := .tuple #[.agg #[.int .i64 R'.room, .slice A2 n2 c2, .bool R'.down, .int .i64 R'.armed, .int .u64 R'.steps], .bool (code == coder)]) (by simp [results, Try.results30, go_sem, x0, x1, x2, x3, x4]) rfl ⟨A2, n2, c2, _, rfl, Hfin.out⟩

set_option maxRecDepth 100000 in
set_option maxHeartbeats 4000000 in
theorem do2_cut (d mp mt : Nat) (D R : Dsk) (A : Option Addr) (n c : Nat) (on : Int) (nm to_ tx : ByteArray) (At : Option Addr) (m ct : Nat) (w : World) (h : IsDisk w d mp mt D) (hr : RFiles w A n R.files) (hnc : n ≤ c) (hok : D.Ok) (hst : D.steps < 4611686018427387904) (hokr : R.Ok) (hstr : R.steps < 4611686018427387904) (hnm : nm.size ≤ 9223372036854775807) (hto : to_.size ≤ 9223372036854775807) (htx : tx.size ≤ 140737488355328) :
    Calls Try.prog 30 #[.pointer (some ⟨d, 0, none⟩), refV R A n c, .agg #[.int .i64 2, .int .i64 on, .string nm, .string to_, .string tx, .slice At m ct]] w (DoGives2 w d mp mt (D.cut nm.data.toList on).1 (R.cut nm.data.toList on).1) := by
  have Hr := Lib.hid (fun w1 (hb : Below w.heap.size w w1) => refcut_calls R A n c nm on w1 (hr.below hb) hnc (by have := n_le hokr hr; omega) hstr hokr.armed0 hokr.armed1 (len_all hokr))
  have Hd := Lib.hid (fun w1 (hd : IsDisk w1 d mp mt D) => cut_calls d mp mt D nm on w1 hd hnm hst hok.armed0 hok.armed1 (by have := hok.many; omega) (len_all hok) hok.kept)
  have H := Lib.hid h
  have hld := h.lt_d
  have hlm := h.lt_mp
  have hlt := h.lt_mt
  obtain ⟨D', hD'⟩ : ∃ D', D' = (D.cut nm.data.toList on).1 := ⟨_, rfl⟩
  obtain ⟨R', hR'⟩ : ∃ R', R' = (R.cut nm.data.toList on).1 := ⟨_, rfl⟩
  obtain ⟨code, hcode⟩ : ∃ code, code = (D.cut nm.data.toList on).2 := ⟨_, rfl⟩
  obtain ⟨coder, hcoder⟩ : ∃ coder, coder = (R.cut nm.data.toList on).2 := ⟨_, rfl⟩
  rw [← hR', ← hcoder] at Hr
  rw [← hD', ← hcode] at Hd
  rw [← hD', ← hR']
  unfold refV at Hr
  unfold refV
  have Hl := Lib.hid (And.intro hld (And.intro hlm hlt))
  clear h hr hok hst hokr hstr hnm hto htx hD' hR' hcode hcoder hld hlm hlt
  go_enter Try.func30, Try.ntmps30
  go_upto_region 11 with (go_at_call 83; refine (Hr.out _ (al3 w _ _ _)).mono ?_; rintro e w2 ⟨A2, n2, c2, rfl, hf2, hc2, hb2⟩; unfold refV; have hB2 := (DoBlk.start w _ _ _ _ _ _ _ _ _ _ _ _ _).below hb2; obtain ⟨⟨b0, b1, b2, b3, b4⟩, ⟨g0, g1, g2, g3, g4⟩, ⟨o0, o1, o2, o3, o4, o5⟩, ⟨z0, z1, z2, z3, z4⟩, ⟨r0, r1, r2, r3, r4⟩⟩ := hB2.facts)
  obtain ⟨w3, hw3, hB3, hE3, hF3⟩ := hB2.store (.int .i64 R'.room) (.slice A2 n2 c2) (.bool R'.down) (.int .i64 R'.armed) (.int .u64 R'.steps) (refcells_noStr _ _ _ _ _ _ _)
  rw [← hw3]
  have hb02 : Below w.heap.size w w2 := below_next (al3 w _ _ _) hb2
  have hD2 : IsDisk w2 d mp mt D := H.out.below hb02
  have hD3 : IsDisk w3 d mp mt D := hD2.ext hE3 (fun k hk => by rw [List.mem_singleton.1 hk]; exact refcells_noU8 hB2.disk) (by have := Hl.out; simp; omega) (by have := Hl.out; simp; omega) (by have := Hl.out; simp; omega)
  have hb03 : Below w.heap.size w w3 := hb02.trans (hE3.below hb02.size (fun q hq => by rw [List.mem_singleton.1 hq]; exact Nat.le_refl _))
  have hf3 := hF3 _ _ _ hf2
  have HB3 := Lib.hid hB3
  have HD3 := Lib.hid hD3
  have Hb03 := Lib.hid hb03
  have Hf3 := Lib.hid hf3
  clear hw3 hE3 hF3 hB2 hb2 hf2 b0 b1 b2 b3 b4 g0 g1 g2 g3 g4 o0 o1 o2 o3 o4 o5 z0 z1 z2 z3 z4 r0 r1 r2 r3 r4 hb02 hD2 hD3 hb03 hf3
  obtain ⟨⟨b0, b1, b2, b3, b4⟩, ⟨g0, g1, g2, g3, g4⟩, ⟨o0, o1, o2, o3, o4, o5⟩, ⟨z0, z1, z2, z3, z4⟩, ⟨r0, r1, r2, r3, r4⟩⟩ := hB3.facts
  clear hB3
  go_upto_region 34 with (go_at_call 43; refine (Hd.out w3 HD3.out).mono ?_; rintro e w4 ⟨rfl, hL4⟩; have hB4 := HB3.out.ext hL4.ext (fun q hq => by have := Hl.out; simp only [List.mem_cons, List.mem_nil_iff, or_false] at hq; omega); clear b0 b1 b2 b3 b4 g0 g1 g2 g3 g4 o0 o1 o2 o3 o4 o5 z0 z1 z2 z3 z4 r0 r1 r2 r3 r4; obtain ⟨⟨b0, b1, b2, b3, b4⟩, ⟨g0, g1, g2, g3, g4⟩, ⟨o0, o1, o2, o3, o4, o5⟩, ⟨z0, z1, z2, z3, z4⟩, ⟨r0, r1, r2, r3, r4⟩⟩ := hB4.facts)
  have hf4 := dsk_noStr HD3.out hL4 Hf3.out
  obtain ⟨w5, hw5, ⟨x0, x1, x2, x3, x4⟩, hE5, hF5, hI5⟩ := hB4.done (.int .i64 R'.room) (.slice A2 n2 c2) (.bool R'.down) (.int .i64 R'.armed) (.int .u64 R'.steps)
  have Hfin := Lib.hid (show RFiles w5 A2 n2 R'.files ∧ n2 ≤ c2 ∧ Left w d mp mt D' w5 from ⟨hF5 _ _ _ hf4, hc2, hI5 _ _ _ _ Hl.out.1 Hl.out.2.1 Hl.out.2.2 hL4.disk, (Ext.of_below Hb03.out).trans (hL4.ext.mono (fun k hk => Or.inl hk)) |>.then_ hE5 (fun i hi => Or.inr (by rw [List.mem_singleton.1 hi]; omega))⟩)
  clear hf4 hE5 hF5 hI5 hL4 hB4
  go_wp2_with fail
  rw [← hw5]
  exact bodyPost_ret (v := .tuple #[.agg #[.int .i64 R'.room, .slice A2 n2 c2, .bool R'.down, .int .i64 R'.armed, .int .u64 R'.steps], .bool (code == coder)]) (by simp [results, Try.results30, go_sem, x0, x1, x2, x3, x4]) rfl ⟨A2, n2, c2, _, rfl, Hfin.out⟩

set_option maxRecDepth 100000 in
set_option maxHeartbeats 4000000 in
theorem do2_remove (d mp mt : Nat) (D R : Dsk) (A : Option Addr) (n c : Nat) (on : Int) (nm to_ tx : ByteArray) (At : Option Addr) (m ct : Nat) (w : World) (h : IsDisk w d mp mt D) (hr : RFiles w A n R.files) (hnc : n ≤ c) (hok : D.Ok) (hst : D.steps < 4611686018427387904) (hokr : R.Ok) (hstr : R.steps < 4611686018427387904) (hnm : nm.size ≤ 9223372036854775807) (hto : to_.size ≤ 9223372036854775807) (htx : tx.size ≤ 140737488355328) :
    Calls Try.prog 30 #[.pointer (some ⟨d, 0, none⟩), refV R A n c, .agg #[.int .i64 3, .int .i64 on, .string nm, .string to_, .string tx, .slice At m ct]] w (DoGives2 w d mp mt (D.remove nm.data.toList).1 (R.remove nm.data.toList).1) := by
  have Hr := Lib.hid (fun w1 (hb : Below w.heap.size w w1) => refremove_calls R A n c nm w1 (hr.below hb) hnc (by have := n_le hokr hr; omega) hstr hokr.armed0 hokr.armed1)
  have Hd := Lib.hid (fun w1 (hd : IsDisk w1 d mp mt D) => remove_calls d mp mt D nm w1 hd hnm hst hok.armed0 hok.armed1)
  have H := Lib.hid h
  have hld := h.lt_d
  have hlm := h.lt_mp
  have hlt := h.lt_mt
  obtain ⟨D', hD'⟩ : ∃ D', D' = (D.remove nm.data.toList).1 := ⟨_, rfl⟩
  obtain ⟨R', hR'⟩ : ∃ R', R' = (R.remove nm.data.toList).1 := ⟨_, rfl⟩
  obtain ⟨code, hcode⟩ : ∃ code, code = (D.remove nm.data.toList).2 := ⟨_, rfl⟩
  obtain ⟨coder, hcoder⟩ : ∃ coder, coder = (R.remove nm.data.toList).2 := ⟨_, rfl⟩
  rw [← hR', ← hcoder] at Hr
  rw [← hD', ← hcode] at Hd
  rw [← hD', ← hR']
  unfold refV at Hr
  unfold refV
  have Hl := Lib.hid (And.intro hld (And.intro hlm hlt))
  clear h hr hok hst hokr hstr hnm hto htx hD' hR' hcode hcoder hld hlm hlt
  go_enter Try.func30, Try.ntmps30
  go_upto_region 14 with (go_at_call 84; refine (Hr.out _ (al3 w _ _ _)).mono ?_; rintro e w2 ⟨A2, n2, c2, rfl, hf2, hc2, hb2⟩; unfold refV; have hB2 := (DoBlk.start w _ _ _ _ _ _ _ _ _ _ _ _ _).below hb2; obtain ⟨⟨b0, b1, b2, b3, b4⟩, ⟨g0, g1, g2, g3, g4⟩, ⟨o0, o1, o2, o3, o4, o5⟩, ⟨z0, z1, z2, z3, z4⟩, ⟨r0, r1, r2, r3, r4⟩⟩ := hB2.facts)
  obtain ⟨w3, hw3, hB3, hE3, hF3⟩ := hB2.store (.int .i64 R'.room) (.slice A2 n2 c2) (.bool R'.down) (.int .i64 R'.armed) (.int .u64 R'.steps) (refcells_noStr _ _ _ _ _ _ _)
  rw [← hw3]
  have hb02 : Below w.heap.size w w2 := below_next (al3 w _ _ _) hb2
  have hD2 : IsDisk w2 d mp mt D := H.out.below hb02
  have hD3 : IsDisk w3 d mp mt D := hD2.ext hE3 (fun k hk => by rw [List.mem_singleton.1 hk]; exact refcells_noU8 hB2.disk) (by have := Hl.out; simp; omega) (by have := Hl.out; simp; omega) (by have := Hl.out; simp; omega)
  have hb03 : Below w.heap.size w w3 := hb02.trans (hE3.below hb02.size (fun q hq => by rw [List.mem_singleton.1 hq]; exact Nat.le_refl _))
  have hf3 := hF3 _ _ _ hf2
  have HB3 := Lib.hid hB3
  have HD3 := Lib.hid hD3
  have Hb03 := Lib.hid hb03
  have Hf3 := Lib.hid hf3
  clear hw3 hE3 hF3 hB2 hb2 hf2 b0 b1 b2 b3 b4 g0 g1 g2 g3 g4 o0 o1 o2 o3 o4 o5 z0 z1 z2 z3 z4 r0 r1 r2 r3 r4 hb02 hD2 hD3 hb03 hf3
  obtain ⟨⟨b0, b1, b2, b3, b4⟩, ⟨g0, g1, g2, g3, g4⟩, ⟨o0, o1, o2, o3, o4, o5⟩, ⟨z0, z1, z2, z3, z4⟩, ⟨r0, r1, r2, r3, r4⟩⟩ := hB3.facts
  clear hB3
  go_upto_region 34 with (go_at_call 44; refine (Hd.out w3 HD3.out).mono ?_; rintro e w4 ⟨rfl, hL4⟩; have hB4 := HB3.out.ext hL4.ext (fun q hq => by have := Hl.out; simp only [List.mem_cons, List.mem_nil_iff, or_false] at hq; omega); clear b0 b1 b2 b3 b4 g0 g1 g2 g3 g4 o0 o1 o2 o3 o4 o5 z0 z1 z2 z3 z4 r0 r1 r2 r3 r4; obtain ⟨⟨b0, b1, b2, b3, b4⟩, ⟨g0, g1, g2, g3, g4⟩, ⟨o0, o1, o2, o3, o4, o5⟩, ⟨z0, z1, z2, z3, z4⟩, ⟨r0, r1, r2, r3, r4⟩⟩ := hB4.facts)
  have hf4 := dsk_noStr HD3.out hL4 Hf3.out
  obtain ⟨w5, hw5, ⟨x0, x1, x2, x3, x4⟩, hE5, hF5, hI5⟩ := hB4.done (.int .i64 R'.room) (.slice A2 n2 c2) (.bool R'.down) (.int .i64 R'.armed) (.int .u64 R'.steps)
  have Hfin := Lib.hid (show RFiles w5 A2 n2 R'.files ∧ n2 ≤ c2 ∧ Left w d mp mt D' w5 from ⟨hF5 _ _ _ hf4, hc2, hI5 _ _ _ _ Hl.out.1 Hl.out.2.1 Hl.out.2.2 hL4.disk, (Ext.of_below Hb03.out).trans (hL4.ext.mono (fun k hk => Or.inl hk)) |>.then_ hE5 (fun i hi => Or.inr (by rw [List.mem_singleton.1 hi]; omega))⟩)
  clear hf4 hE5 hF5 hI5 hL4 hB4
  go_wp2_with fail
  rw [← hw5]
  exact bodyPost_ret (v := .tuple #[.agg #[.int .i64 R'.room, .slice A2 n2 c2, .bool R'.down, .int .i64 R'.armed, .int .u64 R'.steps], .bool (code == coder)]) (by simp [results, Try.results30, go_sem, x0, x1, x2, x3, x4]) rfl ⟨A2, n2, c2, _, rfl, Hfin.out⟩

set_option maxRecDepth 100000 in
set_option maxHeartbeats 4000000 in
theorem do2_move (d mp mt : Nat) (D R : Dsk) (A : Option Addr) (n c : Nat) (on : Int) (nm to_ tx : ByteArray) (At : Option Addr) (m ct : Nat) (w : World) (h : IsDisk w d mp mt D) (hr : RFiles w A n R.files) (hnc : n ≤ c) (hok : D.Ok) (hst : D.steps < 4611686018427387904) (hokr : R.Ok) (hstr : R.steps < 4611686018427387904) (hnm : nm.size ≤ 9223372036854775807) (hto : to_.size ≤ 9223372036854775807) (htx : tx.size ≤ 140737488355328) :
    Calls Try.prog 30 #[.pointer (some ⟨d, 0, none⟩), refV R A n c, .agg #[.int .i64 4, .int .i64 on, .string nm, .string to_, .string tx, .slice At m ct]] w (DoGives2 w d mp mt (D.move nm.data.toList to_.data.toList).1 (R.move nm.data.toList to_.data.toList).1) := by
  have Hr := Lib.hid (fun w1 (hb : Below w.heap.size w w1) => refmove_calls R A n c nm to_ w1 (hr.below hb) hnc (by have := n_le hokr hr; omega) hstr hokr.armed0 hokr.armed1 hto (len_all hokr))
  have Hd := Lib.hid (fun w1 (hd : IsDisk w1 d mp mt D) => move_calls d mp mt D nm to_ w1 hd hnm hto hst hok.armed0 hok.armed1 (by have := hok.many; omega))
  have H := Lib.hid h
  have hld := h.lt_d
  have hlm := h.lt_mp
  have hlt := h.lt_mt
  obtain ⟨D', hD'⟩ : ∃ D', D' = (D.move nm.data.toList to_.data.toList).1 := ⟨_, rfl⟩
  obtain ⟨R', hR'⟩ : ∃ R', R' = (R.move nm.data.toList to_.data.toList).1 := ⟨_, rfl⟩
  obtain ⟨code, hcode⟩ : ∃ code, code = (D.move nm.data.toList to_.data.toList).2 := ⟨_, rfl⟩
  obtain ⟨coder, hcoder⟩ : ∃ coder, coder = (R.move nm.data.toList to_.data.toList).2 := ⟨_, rfl⟩
  rw [← hR', ← hcoder] at Hr
  rw [← hD', ← hcode] at Hd
  rw [← hD', ← hR']
  unfold refV at Hr
  unfold refV
  have Hl := Lib.hid (And.intro hld (And.intro hlm hlt))
  clear h hr hok hst hokr hstr hnm hto htx hD' hR' hcode hcoder hld hlm hlt
  go_enter Try.func30, Try.ntmps30
  go_upto_region 17 with (go_at_call 85; refine (Hr.out _ (al3 w _ _ _)).mono ?_; rintro e w2 ⟨A2, n2, c2, rfl, hf2, hc2, hb2⟩; unfold refV; have hB2 := (DoBlk.start w _ _ _ _ _ _ _ _ _ _ _ _ _).below hb2; obtain ⟨⟨b0, b1, b2, b3, b4⟩, ⟨g0, g1, g2, g3, g4⟩, ⟨o0, o1, o2, o3, o4, o5⟩, ⟨z0, z1, z2, z3, z4⟩, ⟨r0, r1, r2, r3, r4⟩⟩ := hB2.facts)
  obtain ⟨w3, hw3, hB3, hE3, hF3⟩ := hB2.store (.int .i64 R'.room) (.slice A2 n2 c2) (.bool R'.down) (.int .i64 R'.armed) (.int .u64 R'.steps) (refcells_noStr _ _ _ _ _ _ _)
  rw [← hw3]
  have hb02 : Below w.heap.size w w2 := below_next (al3 w _ _ _) hb2
  have hD2 : IsDisk w2 d mp mt D := H.out.below hb02
  have hD3 : IsDisk w3 d mp mt D := hD2.ext hE3 (fun k hk => by rw [List.mem_singleton.1 hk]; exact refcells_noU8 hB2.disk) (by have := Hl.out; simp; omega) (by have := Hl.out; simp; omega) (by have := Hl.out; simp; omega)
  have hb03 : Below w.heap.size w w3 := hb02.trans (hE3.below hb02.size (fun q hq => by rw [List.mem_singleton.1 hq]; exact Nat.le_refl _))
  have hf3 := hF3 _ _ _ hf2
  have HB3 := Lib.hid hB3
  have HD3 := Lib.hid hD3
  have Hb03 := Lib.hid hb03
  have Hf3 := Lib.hid hf3
  clear hw3 hE3 hF3 hB2 hb2 hf2 b0 b1 b2 b3 b4 g0 g1 g2 g3 g4 o0 o1 o2 o3 o4 o5 z0 z1 z2 z3 z4 r0 r1 r2 r3 r4 hb02 hD2 hD3 hb03 hf3
  obtain ⟨⟨b0, b1, b2, b3, b4⟩, ⟨g0, g1, g2, g3, g4⟩, ⟨o0, o1, o2, o3, o4, o5⟩, ⟨z0, z1, z2, z3, z4⟩, ⟨r0, r1, r2, r3, r4⟩⟩ := hB3.facts
  clear hB3
  go_upto_region 34 with (go_at_call 45; refine (Hd.out w3 HD3.out).mono ?_; rintro e w4 ⟨rfl, hL4⟩; have hB4 := HB3.out.ext hL4.ext (fun q hq => by have := Hl.out; simp only [List.mem_cons, List.mem_nil_iff, or_false] at hq; omega); clear b0 b1 b2 b3 b4 g0 g1 g2 g3 g4 o0 o1 o2 o3 o4 o5 z0 z1 z2 z3 z4 r0 r1 r2 r3 r4; obtain ⟨⟨b0, b1, b2, b3, b4⟩, ⟨g0, g1, g2, g3, g4⟩, ⟨o0, o1, o2, o3, o4, o5⟩, ⟨z0, z1, z2, z3, z4⟩, ⟨r0, r1, r2, r3, r4⟩⟩ := hB4.facts)
  have hf4 := dsk_noStr HD3.out hL4 Hf3.out
  obtain ⟨w5, hw5, ⟨x0, x1, x2, x3, x4⟩, hE5, hF5, hI5⟩ := hB4.done (.int .i64 R'.room) (.slice A2 n2 c2) (.bool R'.down) (.int .i64 R'.armed) (.int .u64 R'.steps)
  have Hfin := Lib.hid (show RFiles w5 A2 n2 R'.files ∧ n2 ≤ c2 ∧ Left w d mp mt D' w5 from ⟨hF5 _ _ _ hf4, hc2, hI5 _ _ _ _ Hl.out.1 Hl.out.2.1 Hl.out.2.2 hL4.disk, (Ext.of_below Hb03.out).trans (hL4.ext.mono (fun k hk => Or.inl hk)) |>.then_ hE5 (fun i hi => Or.inr (by rw [List.mem_singleton.1 hi]; omega))⟩)
  clear hf4 hE5 hF5 hI5 hL4 hB4
  go_wp2_with fail
  rw [← hw5]
  exact bodyPost_ret (v := .tuple #[.agg #[.int .i64 R'.room, .slice A2 n2 c2, .bool R'.down, .int .i64 R'.armed, .int .u64 R'.steps], .bool (code == coder)]) (by simp [results, Try.results30, go_sem, x0, x1, x2, x3, x4]) rfl ⟨A2, n2, c2, _, rfl, Hfin.out⟩

set_option maxRecDepth 100000 in
set_option maxHeartbeats 4000000 in
theorem do2_append (d mp mt : Nat) (D R : Dsk) (A : Option Addr) (n c : Nat) (kd : Int) (on : Int) (nm to_ tx : ByteArray) (At : Option Addr) (m ct : Nat) (w : World) (h : IsDisk w d mp mt D) (hr : RFiles w A n R.files) (hnc : n ≤ c) (hok : D.Ok) (hst : D.steps < 4611686018427387904) (hokr : R.Ok) (hstr : R.steps < 4611686018427387904) (hnm : nm.size ≤ 9223372036854775807) (hto : to_.size ≤ 9223372036854775807) (htx : tx.size ≤ 140737488355328) (k1 : ((kd : Int) == 1) = false) (k2 : ((kd : Int) == 2) = false) (k3 : ((kd : Int) == 3) = false) (k4 : ((kd : Int) == 4) = false) (k5 : ((kd : Int) == 5) = false) (k6 : ((kd : Int) == 6) = false) (k7 : ((kd : Int) == 7) = false) (k8 : ((kd : Int) == 8) = false) (k9 : ((kd : Int) == 9) = false) :
    Calls Try.prog 30 #[.pointer (some ⟨d, 0, none⟩), refV R A n c, .agg #[.int .i64 kd, .int .i64 on, .string nm, .string to_, .string tx, .slice At m ct]] w (DoGives2 w d mp mt (D.append nm.data.toList tx.data.toList).1 (R.append nm.data.toList tx.data.toList).1) := by
  have Hr := Lib.hid (fun w1 (hb : Below w.heap.size w w1) => refappend_calls R A n c nm tx w1 (hr.below hb) hnc (by have := n_le hokr hr; omega) hstr hokr.armed0 hokr.armed1 (len_all hokr) hnm htx hokr.room0 hokr.room1 hokr.sum)
  have Hd := Lib.hid (fun w1 A' c' (hd : IsDisk w1 d mp mt D) (hb' : Bts w1 A' tx.size tx.data.toList) => append_calls d mp mt D nm A' tx.size c' tx.data.toList w1 hd hnm hb' (by omega) hok hst)
  have H := Lib.hid h
  have hld := h.lt_d
  have hlm := h.lt_mp
  have hlt := h.lt_mt
  obtain ⟨D', hD'⟩ : ∃ D', D' = (D.append nm.data.toList tx.data.toList).1 := ⟨_, rfl⟩
  obtain ⟨R', hR'⟩ : ∃ R', R' = (R.append nm.data.toList tx.data.toList).1 := ⟨_, rfl⟩
  obtain ⟨code, hcode⟩ : ∃ code, code = (D.append nm.data.toList tx.data.toList).2 := ⟨_, rfl⟩
  obtain ⟨coder, hcoder⟩ : ∃ coder, coder = (R.append nm.data.toList tx.data.toList).2 := ⟨_, rfl⟩
  rw [← hR', ← hcoder] at Hr
  rw [← hD', ← hcode] at Hd
  rw [← hD', ← hR']
  unfold refV at Hr
  unfold refV
  have Hl := Lib.hid (And.intro hld (And.intro hlm hlt))
  clear h hr hok hst hokr hstr hnm hto htx hD' hR' hcode hcoder hld hlm hlt
  go_enter Try.func30, Try.ntmps30
  go_upto_region 5 with (go_at_call 92; refine (Hr.out _ (al3 w _ _ _)).mono ?_; rintro e w2 ⟨A2, n2, c2, rfl, hf2, hc2, hb2⟩; unfold refV; have hB2 := (DoBlk.start w _ _ _ _ _ _ _ _ _ _ _ _ _).below hb2; obtain ⟨⟨b0, b1, b2, b3, b4⟩, ⟨g0, g1, g2, g3, g4⟩, ⟨o0, o1, o2, o3, o4, o5⟩, ⟨z0, z1, z2, z3, z4⟩, ⟨r0, r1, r2, r3, r4⟩⟩ := hB2.facts)
  obtain ⟨w3, hw3, hB3, hE3, hF3⟩ := hB2.store (.int .i64 R'.room) (.slice A2 n2 c2) (.bool R'.down) (.int .i64 R'.armed) (.int .u64 R'.steps) (refcells_noStr _ _ _ _ _ _ _)
  rw [← hw3]
  have hb02 : Below w.heap.size w w2 := below_next (al3 w _ _ _) hb2
  have hD2 : IsDisk w2 d mp mt D := H.out.below hb02
  have hD3 : IsDisk w3 d mp mt D := hD2.ext hE3 (fun k hk => by rw [List.mem_singleton.1 hk]; exact refcells_noU8 hB2.disk) (by have := Hl.out; simp; omega) (by have := Hl.out; simp; omega) (by have := Hl.out; simp; omega)
  have hb03 : Below w.heap.size w w3 := hb02.trans (hE3.below hb02.size (fun q hq => by rw [List.mem_singleton.1 hq]; exact Nat.le_refl _))
  have hf3 := hF3 _ _ _ hf2
  have HB3 := Lib.hid hB3
  have HD3 := Lib.hid hD3
  have Hb03 := Lib.hid hb03
  have Hf3 := Lib.hid hf3
  clear hw3 hE3 hF3 hB2 hb2 hf2 b0 b1 b2 b3 b4 g0 g1 g2 g3 g4 o0 o1 o2 o3 o4 o5 z0 z1 z2 z3 z4 r0 r1 r2 r3 r4 hb02 hD2 hD3 hb03 hf3
  obtain ⟨⟨b0, b1, b2, b3, b4⟩, ⟨g0, g1, g2, g3, g4⟩, ⟨o0, o1, o2, o3, o4, o5⟩, ⟨z0, z1, z2, z3, z4⟩, ⟨r0, r1, r2, r3, r4⟩⟩ := hB3.facts
  clear hB3
  go_upto_region 34 with (first | (refine wpList_to_bytes _ rfl _ rfl tx rfl ?_; intro At2 ct2 w3' hbt2 hne2 hbl2; have hBx := HB3.out.below hbl2; clear b0 b1 b2 b3 b4 g0 g1 g2 g3 g4 o0 o1 o2 o3 o4 o5 z0 z1 z2 z3 z4 r0 r1 r2 r3 r4; obtain ⟨⟨b0, b1, b2, b3, b4⟩, ⟨g0, g1, g2, g3, g4⟩, ⟨o0, o1, o2, o3, o4, o5⟩, ⟨z0, z1, z2, z3, z4⟩, ⟨r0, r1, r2, r3, r4⟩⟩ := hBx.facts) | (go_at_call 41; refine (Hd.out w3' At2 ct2 (HD3.out.below hbl2) hbt2).mono ?_; rintro e w4 ⟨rfl, hL4'⟩; have hL4 := Left.then_below (D := D) hbl2 hL4'; have hB4 := HB3.out.ext hL4.ext (fun q hq => by have := Hl.out; simp only [List.mem_cons, List.mem_nil_iff, or_false] at hq; omega); clear b0 b1 b2 b3 b4 g0 g1 g2 g3 g4 o0 o1 o2 o3 o4 o5 z0 z1 z2 z3 z4 r0 r1 r2 r3 r4; obtain ⟨⟨b0, b1, b2, b3, b4⟩, ⟨g0, g1, g2, g3, g4⟩, ⟨o0, o1, o2, o3, o4, o5⟩, ⟨z0, z1, z2, z3, z4⟩, ⟨r0, r1, r2, r3, r4⟩⟩ := hB4.facts))
  have hf4 := dsk_noStr HD3.out hL4 Hf3.out
  obtain ⟨w5, hw5, ⟨x0, x1, x2, x3, x4⟩, hE5, hF5, hI5⟩ := hB4.done (.int .i64 R'.room) (.slice A2 n2 c2) (.bool R'.down) (.int .i64 R'.armed) (.int .u64 R'.steps)
  have Hfin := Lib.hid (show RFiles w5 A2 n2 R'.files ∧ n2 ≤ c2 ∧ Left w d mp mt D' w5 from ⟨hF5 _ _ _ hf4, hc2, hI5 _ _ _ _ Hl.out.1 Hl.out.2.1 Hl.out.2.2 hL4.disk, (Ext.of_below Hb03.out).trans (hL4.ext.mono (fun k hk => Or.inl hk)) |>.then_ hE5 (fun i hi => Or.inr (by rw [List.mem_singleton.1 hi]; omega))⟩)
  clear hf4 hE5 hF5 hI5 hL4 hB4
  go_wp2_with fail
  rw [← hw5]
  exact bodyPost_ret (v := .tuple #[.agg #[.int .i64 R'.room, .slice A2 n2 c2, .bool R'.down, .int .i64 R'.armed, .int .u64 R'.steps], .bool (code == coder)]) (by simp [results, Try.results30, go_sem, x0, x1, x2, x3, x4]) rfl ⟨A2, n2, c2, _, rfl, Hfin.out⟩

end Go.Proofs.Ytcfgdlpdnpnhmaa
set_option linter.unusedVariables false
set_option linter.unusedSimpArgs false
namespace Go.Proofs.Ytcfgdlpdnpnhmaa
open Go
namespace Dsk

/-- How a disk stands that was armed with S steps, behind n of them. -/
def ArmInv (S n : Nat) (D : Dsk) : Prop := (D.down = false ∧ n ≤ S ∧ D.armed = ((S : Int) - n)) ∨ (D.down = true ∧ n = S + 1)

/-- What a call that is no Arm, Crash, Boot, Resize leaves: nothing, or one step is taken. -/
def Moved (D D' : Dsk) (app : Bool) : Prop :=
  D' = D ∨ (D'.steps = D.steps + 1 ∧ ((D.armed = 0 ∧ D'.down = true ∧ (app = false → D'.files = D.files)) ∨ (0 < D.armed ∧ D'.down = D.down ∧ D'.armed = D.armed - 1)))
theorem step_zero {D : Dsk} (h : D.armed = 0) : D.step = ({ D with steps := D.steps + 1, down := true, armed := -1 }, 50) := by unfold Dsk.step; rw [if_pos h]
theorem step_pos {D : Dsk} (h : 0 < D.armed) : D.step = ({ D with steps := D.steps + 1, armed := D.armed - 1 }, 0) := by
  unfold Dsk.step
  rw [if_neg (by omega), if_pos h]
theorem Moved.of_step {D : Dsk} (ha : 0 ≤ D.armed) (F : List File) (app : Bool) (g : Dsk → Dsk) (hg : ∀ E, (g E).steps = E.steps ∧ (g E).down = E.down ∧ (g E).armed = E.armed) :
    Moved D (if D.step.2 ≠ 0 then D.step.1 else g D.step.1) app := by
  rcases Int.lt_or_eq_of_le ha with h | h
  · rw [step_pos h, if_neg (by simp)]
    obtain ⟨h1, h2, h3⟩ := hg { D with steps := D.steps + 1, armed := D.armed - 1 }
    exact Or.inr ⟨h1, Or.inr ⟨h, h2, h3⟩⟩
  · rw [step_zero h.symm, if_pos (by simp)]
    exact Or.inr ⟨rfl, Or.inl ⟨h.symm, rfl, fun _ => rfl⟩⟩
theorem if_fst {p : Prop} [Decidable p] {a b : Dsk × Int} : (if p then a else b).1 = if p then a.1 else b.1 := by split <;> rfl
theorem moved_sync (D : Dsk) (n : Bs) (ha : 0 ≤ D.armed) (hd : D.down = false) : Moved D (D.sync n).1 false := by
  unfold Dsk.sync
  rw [if_neg (show ¬ (D.down = true) by simp [hd])]
  split
  · exact Or.inl rfl
  · rename_i f _
    rw [if_fst]
    exact Moved.of_step ha D.files false (fun E => { E with files := put E.files ⟨n, f.all, f.all.length⟩ }) (fun _ => ⟨rfl, rfl, rfl⟩)
theorem moved_cut (D : Dsk) (n : Bs) (k : Int) (ha : 0 ≤ D.armed) (hd : D.down = false) : Moved D (D.cut n k).1 false := by
  unfold Dsk.cut
  rw [if_neg (show ¬ (D.down = true) by simp [hd])]
  split
  · exact Or.inl rfl
  · rename_i f _
    split
    · exact Or.inl rfl
    · rw [if_fst]
      exact Moved.of_step ha D.files false (fun E => { E with files := put E.files ⟨n, f.all.take k.toNat, min f.kept k.toNat⟩ }) (fun _ => ⟨rfl, rfl, rfl⟩)
theorem moved_remove (D : Dsk) (n : Bs) (ha : 0 ≤ D.armed) (hd : D.down = false) : Moved D (D.remove n).1 false := by
  unfold Dsk.remove
  rw [if_neg (show ¬ (D.down = true) by simp [hd])]
  split
  · exact Or.inl rfl
  · rw [if_fst]
    exact Moved.of_step ha D.files false (fun E => { E with files := del E.files n }) (fun _ => ⟨rfl, rfl, rfl⟩)
theorem moved_move (D : Dsk) (n m : Bs) (ha : 0 ≤ D.armed) (hd : D.down = false) : Moved D (D.move n m).1 false := by
  unfold Dsk.move
  rw [if_neg (show ¬ (D.down = true) by simp [hd])]
  split
  · exact Or.inl rfl
  · rename_i f _
    split
    · exact Or.inl rfl
    · rw [if_fst]
      exact Moved.of_step ha D.files false (fun E => { E with files := put (del E.files n) ⟨m, f.all, f.kept⟩ }) (fun _ => ⟨rfl, rfl, rfl⟩)
theorem moved_stepped (D : Dsk) (F : List File) (ha : 0 ≤ D.armed) : Moved D (step { D with files := F }).1 true := by
  rcases Int.lt_or_eq_of_le ha with h | h
  · rw [step_pos (D := { D with files := F }) h]
    exact Or.inr ⟨rfl, Or.inr ⟨h, rfl, rfl⟩⟩
  · rw [step_zero (D := { D with files := F }) h.symm]
    exact Or.inr ⟨rfl, Or.inl ⟨h.symm, rfl, fun h => by cases h⟩⟩
theorem moved_append (D : Dsk) (n b : Bs) (ha : 0 ≤ D.armed) (hd : D.down = false) : Moved D (D.append n b).1 true := by
  unfold Dsk.append
  rw [if_neg (show ¬ (D.down = true) by simp [hd])]
  split
  · exact Or.inl rfl
  · split
    · split
      · exact Or.inl rfl
      · exact moved_stepped D _ ha
    · split
      · exact Or.inl rfl
      · exact moved_stepped D _ ha
/-- Is a call of that kind an Append? -/
def isApp (kd : Int) : Bool := decide (kd = 0) || (decide (9 < kd) || decide (kd < 0))
theorem moved_doOp (D : Dsk) (o : Opp) (hk : ¬ (6 ≤ o.kind ∧ o.kind ≤ 9)) (ha : 0 ≤ D.armed) (hd : D.down = false) : Moved D (D.doOp o) (isApp o.kind) := by
  unfold Dsk.doOp
  split
  · rename_i h; rw [show isApp o.kind = false by rw [h]; decide]; exact moved_sync _ _ ha hd
  split
  · rename_i h; rw [show isApp o.kind = false by rw [h]; decide]; exact moved_cut _ _ _ ha hd
  split
  · rename_i h; rw [show isApp o.kind = false by rw [h]; decide]; exact moved_remove _ _ ha hd
  split
  · rename_i h; rw [show isApp o.kind = false by rw [h]; decide]; exact moved_move _ _ _ ha hd
  split
  · exact Or.inl rfl
  split
  · omega
  split
  · omega
  split
  · omega
  split
  · omega
  · rw [show isApp o.kind = true by unfold isApp; simp; omega]
    exact moved_append _ _ _ ha hd
/-- The three ways on. -/
theorem arm_ways {S n : Nat} {D D' : Dsk} {app : Bool} (h : ArmInv S n D) (hd : D.down = false) (hm : Moved D D' app) :
    (D' = D) ∨ (D'.steps = D.steps + 1 ∧ D'.down = false ∧ n + 1 ≤ S ∧ ArmInv S (n + 1) D') ∨ (D'.steps = D.steps + 1 ∧ D'.down = true ∧ n + 1 = S + 1 ∧ ArmInv S (n + 1) D' ∧ (app = false → D'.files = D.files)) := by
  rcases h with ⟨_, h1, h2⟩ | ⟨h1, _⟩
  · rcases hm with h | ⟨hs, ⟨h3, h4, h5⟩ | ⟨h3, h4, h5⟩⟩
    · exact Or.inl h
    · exact Or.inr (Or.inr ⟨hs, h4, by omega, Or.inr ⟨h4, by omega⟩, h5⟩)
    · exact Or.inr (Or.inl ⟨hs, by rw [h4, hd], by omega, Or.inl ⟨by rw [h4, hd], by omega, by rw [h5, h2]; omega⟩⟩)
  · rw [hd] at h1; cases h1
theorem arm_start (S : Nat) (r : Int) : ArmInv S 0 ((Dsk.new r).arm S).1 ∧ ((Dsk.new r).arm S).2 = 0 := by
  have : (Dsk.new r).arm S = ({ Dsk.new r with armed := S }, 0) := by
    unfold Dsk.arm
    rw [if_neg (by simp [Dsk.new]), if_neg (by omega)]
  rw [this]
  exact ⟨Or.inl ⟨rfl, Nat.zero_le _, by simp⟩, rfl⟩
end Dsk
end Go.Proofs.Ytcfgdlpdnpnhmaa
set_option linter.unusedVariables false
set_option linter.unusedSimpArgs false
namespace Go.Proofs.Ytcfgdlpdnpnhmaa
open Go.RowKit Go.Maps

/-- The program's disk stands as D, the document's, in block g, as R. -/
structure PlAt2 (w wr : World) (d mp mt g : Nat) (D R : Dsk) (A : Option Addr) (n c : Nat) : Prop where
  disk : IsDisk wr d mp mt D
  box : wr.heap[g]? = some (.cells (refCells R A n c) 45 (0, 0))
  files : RFiles wr A n R.files
  cap : n ≤ c
  ok : D.Ok
  okr : R.Ok
  below : Below w.heap.size w wr
  hd : w.heap.size ≤ d
  hmp : w.heap.size ≤ mp
  hmt : w.heap.size ≤ mt
  hg : w.heap.size ≤ g
/-- Behind do, ahead of the store: the document's new disk lies in block g2; lb, what was there before, from A5 on. -/
structure Mid (w W : World) (d mp mt g g2 : Nat) (D' R R' : Dsk) (A : Option Addr) (n c : Nat) (A' : Option Addr) (n' c' : Nat) (A5 : Option Addr) (n5 : Nat) (lb : List File) : Prop where
  disk : IsDisk W d mp mt D'
  box : W.heap[g]? = some (.cells (refCells R A n c) 45 (0, 0))
  box2 : W.heap[g2]? = some (.cells (refCells R' A' n' c') 45 (0, 0))
  files : RFiles W A' n' R'.files
  cap : n' ≤ c'
  bef : RFiles W A5 n5 lb
  below : Below w.heap.size w W
theorem box_ne {w : World} {d mp mt g : Nat} {D : Dsk} {cs : Array Value} (hD : IsDisk w d mp mt D) (hb : w.heap[g]? = some (.cells cs 45 (0, 0))) : g ≠ d ∧ g ≠ mp ∧ g ≠ mt := by
  refine ⟨?_, ?_, ?_⟩
  · rintro rfl
    have h1 := hD.blk
    rw [hb] at h1
    simp only [Option.some.injEq, Obj.cells.injEq] at h1
    exact absurd h1.2.1 (by decide)
  · rintro rfl
    obtain ⟨es, c', hm⟩ := hD.mapObj
    rw [hb] at hm
    cases hm
  · rintro rfl
    have h1 : w.heap[g]? = _ := hD.met
    rw [hb] at h1
    simp only [Option.some.injEq, Obj.cells.injEq] at h1
    exact absurd h1.2.1 (by decide)
section
variable {w wr w' W : World} {d mp mt g g2 : Nat} {D D' R R' : Dsk} {A A' A5 : Option Addr} {n c n' c' n5 : Nat} {lb : List File}
theorem PlAt2.later (h : PlAt2 w wr d mp mt g D R A n c) (hb : Below wr.heap.size wr w') : PlAt2 w w' d mp mt g D R A n c :=
  ⟨h.disk.below hb, (hb.block _ (blk_lt h.box)).trans h.box, h.files.below hb, h.cap, h.ok, h.okr, below_next h.below hb, h.hd, h.hmp, h.hmt, h.hg⟩
theorem PlAt2.cells (h : PlAt2 w wr d mp mt g D R A n c) :
    wr.cell? ⟨g, 0, none⟩ = some (.int .i64 R.room) ∧ wr.cell? ⟨g, 1, none⟩ = some (.slice A n c) ∧ wr.cell? ⟨g, 2, none⟩ = some (.bool R.down) ∧ wr.cell? ⟨g, 3, none⟩ = some (.int .i64 R.armed) ∧ wr.cell? ⟨g, 4, none⟩ = some (.int .u64 R.steps) :=
  ⟨blk_cell h.box 0, blk_cell h.box 1, blk_cell h.box 2, blk_cell h.box 3, blk_cell h.box 4⟩
theorem Mid.of (h : PlAt2 w wr d mp mt g D R A n c) (hbef : RFiles wr A5 n5 lb) {w2 : World} (hl : Left wr d mp mt D' w2) (hf : RFiles w2 A' n' R'.files) (hc : n' ≤ c') :
    Mid w (w2.alloc (.cells (refCells R' A' n' c') 45)) d mp mt g w2.heap.size D' R R' A n c A' n' c' A5 n5 lb := by
  obtain ⟨h1, h2, h3⟩ := box_ne h.disk h.box
  have hbx2 := hl.ext.obj h.box (by simp; omega)
  have hb2 : Below w.heap.size w w2 := h.below.trans (hl.ext.below h.below.size (fun k hk => by have := h.hd; have := h.hmp; have := h.hmt; simp at hk; omega))
  have hn := al1 w2 (.cells (refCells R' A' n' c') 45)
  exact ⟨hl.disk.below hn, (hn.block _ (blk_lt hbx2)).trans hbx2, blk_new _ _, hf.below hn, hc, (dsk_noStr h.disk hl hbef).below hn, below_next hb2 hn⟩
theorem Mid.later (h : Mid w W d mp mt g g2 D' R R' A n c A' n' c' A5 n5 lb) (hb : Below W.heap.size W w') : Mid w w' d mp mt g g2 D' R R' A n c A' n' c' A5 n5 lb :=
  ⟨h.disk.below hb, (hb.block _ (blk_lt h.box)).trans h.box, (hb.block _ (blk_lt h.box2)).trans h.box2, h.files.below hb, h.cap, h.bef.below hb, below_next h.below hb⟩
theorem Mid.cells (h : Mid w W d mp mt g g2 D' R R' A n c A' n' c' A5 n5 lb) :
    (W.cell? ⟨g, 0, none⟩ = some (.int .i64 R.room) ∧ W.cell? ⟨g, 1, none⟩ = some (.slice A n c) ∧ W.cell? ⟨g, 2, none⟩ = some (.bool R.down) ∧ W.cell? ⟨g, 3, none⟩ = some (.int .i64 R.armed) ∧ W.cell? ⟨g, 4, none⟩ = some (.int .u64 R.steps)) ∧
    (W.frozen? ⟨g, 0, none⟩ = false ∧ W.frozen? ⟨g, 1, none⟩ = false ∧ W.frozen? ⟨g, 2, none⟩ = false ∧ W.frozen? ⟨g, 3, none⟩ = false ∧ W.frozen? ⟨g, 4, none⟩ = false) ∧
    (W.cell? ⟨g2, 0, none⟩ = some (.int .i64 R'.room) ∧ W.cell? ⟨g2, 1, none⟩ = some (.slice A' n' c') ∧ W.cell? ⟨g2, 2, none⟩ = some (.bool R'.down) ∧ W.cell? ⟨g2, 3, none⟩ = some (.int .i64 R'.armed) ∧ W.cell? ⟨g2, 4, none⟩ = some (.int .u64 R'.steps)) :=
  ⟨⟨blk_cell h.box 0, blk_cell h.box 1, blk_cell h.box 2, blk_cell h.box 3, blk_cell h.box 4⟩, ⟨blk_frozen h.box 0, blk_frozen h.box 1, blk_frozen h.box 2, blk_frozen h.box 3, blk_frozen h.box 4⟩,
   blk_cell h.box2 0, blk_cell h.box2 1, blk_cell h.box2 2, blk_cell h.box2 3, blk_cell h.box2 4⟩
theorem Mid.done (h : Mid w W d mp mt g g2 D' R R' A n c A' n' c' A5 n5 lb) (hp : PlAt2 w wr d mp mt g D R A n c) (hok : D'.Ok) (hokr : R'.Ok) :
    ∃ W', W' = ((((W.setCell ⟨g, 0, none⟩ (.int .i64 R'.room)).setCell ⟨g, 1, none⟩ (.slice A' n' c')).setCell ⟨g, 2, none⟩ (.bool R'.down)).setCell ⟨g, 3, none⟩ (.int .i64 R'.armed)).setCell ⟨g, 4, none⟩ (.int .u64 R'.steps) ∧
      PlAt2 w W' d mp mt g D' R' A' n' c' := by
  obtain ⟨h1, h2, h3⟩ := box_ne h.disk h.box
  obtain ⟨W', e, hx, hE, hF⟩ := res_done (by rfl) h.box (.int .i64 R'.room) (.slice A' n' c') (.bool R'.down) (.int .i64 R'.armed) (.int .u64 R'.steps) refCells_noStr
  have hno : ∀ k, k ∈ [g] → NoU8 W k := fun k hk => by rw [List.mem_singleton.1 hk]; exact .of_cells h.box (fun j x => by rcases j with _ | _ | _ | _ | _ | j <;> simp [refCells])
  exact ⟨W', e, h.disk.ext hE hno (by simp; omega) (by simp; omega) (by simp; omega), hx, hF _ _ _ h.files, h.cap, hok, hokr, h.below.trans (hE.below h.below.size (fun k hk => by have := hp.hg; simp at hk; omega)), hp.hd, hp.hmp, hp.hmt, hp.hg⟩
end

/-! ### what is refused without power -/
section
variable {w : World} {d mp mt : Nat} {D : Dsk}
theorem append_down (h : IsDisk w d mp mt D) (hd : D.down = true) (hok : D.Ok) (hst : D.steps < 4611686018427387904) (s : ByteArray) (hs : s.size ≤ 9223372036854775807) (A' : Option Addr) (m c' : Nat) (b : Bs) (hb : Bts w A' m b) (hm : m ≤ 9223372036854775807) :
    Calls Try.prog 41 #[.pointer (some ⟨d, 0, none⟩), .string s, .slice A' m c'] w fun e w' => e = .returned (.int .i64 50) ∧ Left w d mp mt D w' := by
  have := append_calls d mp mt D s A' m c' b w h hs hb hm hok hst
  rw [show D.append s.data.toList b = (D, 50) by unfold Dsk.append; rw [if_pos hd]] at this
  exact this
theorem sync_down (h : IsDisk w d mp mt D) (hd : D.down = true) (hok : D.Ok) (hst : D.steps < 4611686018427387904) (s : ByteArray) (hs : s.size ≤ 9223372036854775807) :
    Calls Try.prog 42 #[.pointer (some ⟨d, 0, none⟩), .string s] w fun e w' => e = .returned (.int .i64 50) ∧ Left w d mp mt D w' := by
  have := sync_calls d mp mt D s w h hs hst hok.armed0 hok.armed1 (by have := hok.many; omega) (len_all hok)
  rw [show D.sync s.data.toList = (D, 50) by unfold Dsk.sync; rw [if_pos hd]] at this
  exact this
theorem cut_down (h : IsDisk w d mp mt D) (hd : D.down = true) (hok : D.Ok) (hst : D.steps < 4611686018427387904) (s : ByteArray) (hs : s.size ≤ 9223372036854775807) (k : Int) :
    Calls Try.prog 43 #[.pointer (some ⟨d, 0, none⟩), .string s, .int .i64 k] w fun e w' => e = .returned (.int .i64 50) ∧ Left w d mp mt D w' := by
  have := cut_calls d mp mt D s k w h hs hst hok.armed0 hok.armed1 (by have := hok.many; omega) (len_all hok) hok.kept
  rw [show D.cut s.data.toList k = (D, 50) by unfold Dsk.cut; rw [if_pos hd]] at this
  exact this
theorem remove_down (h : IsDisk w d mp mt D) (hd : D.down = true) (hok : D.Ok) (hst : D.steps < 4611686018427387904) (s : ByteArray) (hs : s.size ≤ 9223372036854775807) :
    Calls Try.prog 44 #[.pointer (some ⟨d, 0, none⟩), .string s] w fun e w' => e = .returned (.int .i64 50) ∧ Left w d mp mt D w' := by
  have := remove_calls d mp mt D s w h hs hst hok.armed0 hok.armed1
  rw [show D.remove s.data.toList = (D, 50) by unfold Dsk.remove; rw [if_pos hd]] at this
  exact this
theorem move_down (h : IsDisk w d mp mt D) (hd : D.down = true) (hok : D.Ok) (hst : D.steps < 4611686018427387904) (s t : ByteArray) (hs : s.size ≤ 9223372036854775807) (ht : t.size ≤ 9223372036854775807) :
    Calls Try.prog 45 #[.pointer (some ⟨d, 0, none⟩), .string s, .string t] w fun e w' => e = .returned (.int .i64 50) ∧ Left w d mp mt D w' := by
  have := move_calls d mp mt D s t w h hs ht hst hok.armed0 hok.armed1 (by have := hok.many; omega)
  rw [show D.move s.data.toList t.data.toList = (D, 50) by unfold Dsk.move; rw [if_pos hd]] at this
  exact this
theorem arm_down (h : IsDisk w d mp mt D) (hd : D.down = true) (k : Int) :
    Calls Try.prog 40 #[.pointer (some ⟨d, 0, none⟩), .int .i64 k] w fun e w' => e = .returned (.int .i64 50) ∧ Left w d mp mt D w' := by
  have := arm_calls d mp mt D k w h
  rw [show D.arm k = (D, 50) by unfold Dsk.arm; rw [if_pos hd]] at this
  exact this
theorem resize_down (h : IsDisk w d mp mt D) (hd : D.down = true) (k : Int) :
    Calls Try.prog 46 #[.pointer (some ⟨d, 0, none⟩), .int .i64 k] w fun e w' => e = .returned (.int .i64 50) ∧ Left w d mp mt D w' := by
  have := resize_calls d mp mt D k w h
  rw [show D.resize k = (D, 50) by unfold Dsk.resize; rw [if_pos hd]] at this
  exact this
end
/-- The end of DiskArmed: the disk stands as D; what was there (lb) lies from A on. -/
structure Fin2 (w W : World) (d mp mt : Nat) (D : Dsk) (A : Option Addr) (n : Nat) (lb : List File) : Prop where
  disk : IsDisk W d mp mt D
  files : RFiles W A n lb
  below : Below w.heap.size w W
  hd : w.heap.size ≤ d
  hmp : w.heap.size ≤ mp
  hmt : w.heap.size ≤ mt
section
variable {w wr W w' : World} {d mp mt g : Nat} {D D' R : Dsk} {A : Option Addr} {n c : Nat} {lb : List File}
theorem Fin2.later (h : Fin2 w W d mp mt D A n lb) (hb : Below W.heap.size W w') : Fin2 w w' d mp mt D A n lb :=
  ⟨h.disk.below hb, h.files.below hb, below_next h.below hb, h.hd, h.hmp, h.hmt⟩
theorem Fin2.left (h : Fin2 w W d mp mt D A n lb) (hl : Left W d mp mt D' w') : Fin2 w w' d mp mt D' A n lb :=
  ⟨hl.disk, dsk_noStr h.disk hl h.files, h.below.trans (hl.ext.below h.below.size (fun k hk => by have := h.hd; have := h.hmp; have := h.hmt; simp at hk; omega)), h.hd, h.hmp, h.hmt⟩
theorem PlAt2.left (h : PlAt2 w wr d mp mt g D R A n c) (hl : Left wr d mp mt D' w') (hok : D'.Ok) : PlAt2 w w' d mp mt g D' R A n c := by
  obtain ⟨h1, h2, h3⟩ := box_ne h.disk h.box
  exact ⟨hl.disk, hl.ext.obj h.box (by simp; omega), dsk_noStr h.disk hl h.files, h.cap, hok, h.okr, h.below.trans (hl.ext.below h.below.size (fun k hk => by have := h.hd; have := h.hmp; have := h.hmt; simp at hk; omega)), h.hd, h.hmp, h.hmt, h.hg⟩
theorem op_cells {b : Nat} {kd on : Int} {nm to_ tx : ByteArray} {Ao : Option Addr} {mo co : Nat} (h : w.heap[b]? = some (.cells #[.int .i64 kd, .int .i64 on, .string nm, .string to_, .string tx, .slice Ao mo co] 49 (0, 0))) (hb : Below w.heap.size w W) :
    W.cell? ⟨b, 0, none⟩ = some (.int .i64 kd) ∧ W.cell? ⟨b, 1, none⟩ = some (.int .i64 on) ∧ W.cell? ⟨b, 2, none⟩ = some (.string nm) ∧ W.cell? ⟨b, 3, none⟩ = some (.string to_) ∧ W.cell? ⟨b, 4, none⟩ = some (.string tx) ∧ W.cell? ⟨b, 5, none⟩ = some (.slice Ao mo co) := by
  have h' := (hb.block _ (blk_lt h)).trans h
  exact ⟨blk_cell h' 0, blk_cell h' 1, blk_cell h' 2, blk_cell h' 3, blk_cell h' 4, blk_cell h' 5⟩
end
end Go.Proofs.Ytcfgdlpdnpnhmaa
set_option linter.unusedVariables false
set_option linter.unusedSimpArgs false
namespace Go.Proofs.Ytcfgdlpdnpnhmaa
open Go.RowKit Go.Maps

theorem SnCells.isv {w : World} {v0 v1 v2 v3 : Value} {s : Q.Sn} (h : SnCells w [v0, v1, v2, v3] s) : SnIs w (.agg #[v0, v1, v2, v3]) s := by
  obtain ⟨Am, cm, Ad, cd, h0, h1⟩ := h.is
  injection h0 with e0 h0
  injection h0 with e1 h0
  injection h0 with e2 h0
  injection h0 with e3 h0
  subst e0 e1 e2 e3
  exact h1
/-- The block of a row of bytes, if it has any. -/
theorem own_block {w : World} {base n c : Nat} {A : Option Addr} {xs : List Value} (h : w.ownsRow base 5 1 (.slice A n c) n xs) {g h' : Nat} {cs ds : Array Value} {T T' : TypeId} (hg : w.heap[g]? = some (.cells cs T (0, 0))) (hT : T ≠ 5) (hh : w.heap[h']? = some (.cells ds T' (0, 0))) (hT' : T' ≠ 5) (hbase : base ≤ w.heap.size) :
    ∃ gr, base ≤ gr ∧ gr ≠ g ∧ gr ≠ h' ∧ (0 < n → A = some ⟨gr, 0, none⟩ ∧ ∃ cur : Array Value, w.heap[gr]? = some (.cells cur 5 (0, 0)) ∧ n ≤ cur.size) := by
  rcases h.2 with ⟨h0, h1⟩ | ⟨gr, cap, cur, h0, hb, hc, hnc, _, hcs, _⟩
  · have l1 := blk_lt hg
    have l2 := blk_lt hh
    injection h0 with _ h0
    exact ⟨w.heap.size, hbase, by omega, by omega, fun c => by omega⟩
  · injection h0 with h0 _ _
    refine ⟨gr, hb, fun e => ?_, fun e => ?_, fun _ => ⟨h0, cur, hc, by omega⟩⟩
    · subst e; rw [hg] at hc; injection hc with hc; injection hc with _ hc; exact hT hc
    · subst e; rw [hh] at hc; injection hc with hc; injection hc with _ hc; exact hT' hc
set_option maxRecDepth 100000 in
set_option maxHeartbeats 8000000 in
theorem snapbytes_calls (Am : Option Addr) (cm : Nat) (Ad : Option Addr) (cd : Nat) (Bm : Option Addr) (dm : Nat) (Bd : Option Addr) (dd : Nat) (s o : Q.Sn) (x : Nat) (w : World)
    (hs : SnCells w [.int .u64 s.index, .int .u64 s.term, .slice Am s.members.length cm, .slice Ad s.data.length cd] s)
    (ho : SnCells w [.int .u64 o.index, .int .u64 o.term, .slice Bm o.members.length dm, .slice Bd o.data.length dd] o) :
    Calls Try.prog 4 #[.agg #[.int .u64 s.index, .int .u64 s.term, .slice Am s.members.length cm, .slice Ad s.data.length cd], .agg #[.int .u64 o.index, .int .u64 o.term, .slice Bm o.members.length dm, .slice Bd o.data.length dd], .int .u8 (x : Int)] w fun e w' => e = .returned (.bool true) ∧ Below w.heap.size w w' := by
  have Hlv := Lib.hid lives27_calls
  have hsi0 := hs.isv
  have hoi0 := ho.isv
  obtain ⟨f1, f2⟩ := hs.fits
  obtain ⟨f3, f4⟩ := ho.fits
  obtain ⟨si, hsi⟩ : ∃ si, si = s.index := ⟨_, rfl⟩
  obtain ⟨st, hst⟩ : ∃ st, st = s.term := ⟨_, rfl⟩
  obtain ⟨nm, hnm⟩ : ∃ nm, nm = s.members.length := ⟨_, rfl⟩
  obtain ⟨nd, hnd⟩ : ∃ nd, nd = s.data.length := ⟨_, rfl⟩
  obtain ⟨oi, hoi⟩ : ∃ si, si = o.index := ⟨_, rfl⟩
  obtain ⟨ot, hot⟩ : ∃ st, st = o.term := ⟨_, rfl⟩
  obtain ⟨om, hom⟩ : ∃ nm, nm = o.members.length := ⟨_, rfl⟩
  obtain ⟨od, hod⟩ : ∃ nd, nd = o.data.length := ⟨_, rfl⟩
  obtain ⟨_, _, _, _, hq, hI, hmc, hD, hdc, hAd, _⟩ := id hs
  injection hq with _ hq
  injection hq with _ hq
  injection hq with hq2 hq
  injection hq with hq3 _
  injection hq2 with q1 _ q2
  injection hq3 with q3 _ q4
  subst q1 q2 q3 q4
  rw [← hsi, ← hst, ← hnm, ← hnd] at hsi0
  rw [← hoi, ← hot, ← hom, ← hod] at hoi0
  rw [← hsi, ← hst, ← hnm, ← hnd, ← hoi, ← hot, ← hom, ← hod]
  rw [← hnm] at hI hmc
  rw [← hnd] at hD hdc
  obtain ⟨w2, hw2⟩ : ∃ w2, w2 = (w.alloc (.cells #[.int .u64 (si : Int), .int .u64 (st : Int), .slice Am nm cm, .slice Ad nd cd] 27)).alloc (.cells #[.int .u64 (oi : Int), .int .u64 (ot : Int), .slice Bm om dm, .slice Bd od dd] 27) := ⟨_, rfl⟩
  have hb2 : Below w.heap.size w w2 := by rw [hw2]; exact below2 w _ _
  have hx1 : w2.heap[w.heap.size]? = some (.cells #[.int .u64 (si : Int), .int .u64 (st : Int), .slice Am nm cm, .slice Ad nd cd] 27 (0, 0)) := by rw [hw2]; exact blk_alloc (blk_new w _) _
  have hx2 : w2.heap[w.heap.size + 1]? = some (.cells #[.int .u64 (oi : Int), .int .u64 (ot : Int), .slice Bm om dm, .slice Bd od dd] 27 (0, 0)) := by rw [hw2]; exact blk_new1 w _ _
  have hls := fun W (hW : Below w.heap.size w W) => light27_calls _ s W (hsi0.below hW)
  have hlo := fun W (hW : Below w.heap.size w W) => light27_calls _ o W (hoi0.below hW)
  have x0 := blk_cell hx1 0
  have x1 := blk_cell hx1 1
  have x2 := blk_cell hx1 2
  have x3 := blk_cell hx1 3
  have y0 := blk_cell hx2 0
  have y1 := blk_cell hx2 1
  have y2 := blk_cell hx2 2
  have y3 := blk_cell hx2 3
  have Hls := Lib.hid hls
  have Hlo := Lib.hid hlo
  have Hw2 := Lib.hid hw2
  have Hb2 := Lib.hid hb2
  have Hx1 := Lib.hid hx1
  have Hx2 := Lib.hid hx2
  have HI := Lib.hid hI
  have HD := Lib.hid hD
  have HAd := Lib.hid hAd
  have Hs0 := Lib.hid hsi0
  have Ho0 := Lib.hid hoi0
  have Hnm := Lib.hid hnm
  have Hnd := Lib.hid hnd
  have Hsi := Lib.hid hsi
  have Hst := Lib.hid hst
  have Hom := Lib.hid hom
  have Hod := Lib.hid hod
  clear hs ho hls hlo hw2 hb2 hx1 hx2 hI hD hAd hsi hst hnm hnd hoi hot hom hod hsi0 hoi0
  go_enter Try.func4, Try.ntmps4
  go_upto_region 1 with fail
  rw [← Hw2.out]
  obtain ⟨b1, hb1⟩ : ∃ b, b = w.heap.size := ⟨_, rfl⟩
  obtain ⟨b2, hb2⟩ : ∃ b, b = w.heap.size + 1 := ⟨_, rfl⟩
  rw [← hb1] at Hx1 x0 x1 x2 x3
  rw [← hb2] at Hx2 y0 y1 y2 y3
  rw [← hb2, ← hb1]
  have Hbb := Lib.hid (show b1 = w.heap.size ∧ b2 = w.heap.size + 1 from ⟨hb1, hb2⟩)
  clear hb1 hb2
  go_wp2_with fail
  refine (Hls.out w2 Hb2.out).mono ?_
  rintro e w3 ⟨rfl, hb3⟩
  have hy1 := (hb3.block _ (blk_lt Hx1.out)).trans Hx1.out
  have hy2 := (hb3.block _ (blk_lt Hx2.out)).trans Hx2.out
  have hb03 : Below w.heap.size w w3 := Hb2.out.trans (hb3.mono Hb2.out.size)
  clear x0 x1 x2 x3 y0 y1 y2 y3
  have x0 := blk_cell hy1 0
  have x1 := blk_cell hy1 1
  have x2 := blk_cell hy1 2
  have x3 := blk_cell hy1 3
  have y0 := blk_cell hy2 0
  have y1 := blk_cell hy2 1
  have y2 := blk_cell hy2 2
  have y3 := blk_cell hy2 3
  have Hy1 := Lib.hid hy1
  have Hy2 := Lib.hid hy2
  have Hb03 := Lib.hid hb03
  clear hy1 hy2 hb03 hb3
  cases hl1 : lightSn s
  · clear hl1
    go_wp2_with (go_at_call 15; refine (Hlv.out w3).mono ?_; rintro e w4 ⟨rfl, hb4⟩)
    go_ret
    exact ⟨rfl, Hb03.out.trans (hb4.mono Hb03.out.size)⟩
  have Hl1 := Lib.hid hl1
  clear hl1
  go_wp2_with fail
  refine (Hlo.out w3 Hb03.out).mono ?_
  rintro e wL ⟨rfl, hbL⟩
  have hz1 := (hbL.block _ (blk_lt Hy1.out)).trans Hy1.out
  have hz2 := (hbL.block _ (blk_lt Hy2.out)).trans Hy2.out
  have hb0L : Below w.heap.size w wL := Hb03.out.trans (hbL.mono Hb03.out.size)
  clear x0 x1 x2 x3 y0 y1 y2 y3 Hb2 Hx1 Hx2 Hy1 Hy2 Hb03
  have Hb2 := Lib.hid hb0L
  have Hx1 := Lib.hid hz1
  have Hx2 := Lib.hid hz2
  clear hz1 hz2 hb0L hbL
  cases hl2 : lightSn o
  · clear hl2
    go_wp2_with (go_at_call 15; refine (Hlv.out wL).mono ?_; rintro e w4 ⟨rfl, hb4⟩)
    go_ret
    exact ⟨rfl, Hb2.out.trans (hb4.mono Hb2.out.size)⟩
  obtain ⟨m1, m2⟩ := lightSn_le Hl1.out
  obtain ⟨m3, m4⟩ := lightSn_le hl2
  have hnm30 : nm ≤ 30 := by rw [Hnm.out]; exact m1
  have hnd33 : nd ≤ 33000 := by rw [Hnd.out]; exact m2
  clear hl2
  have hsd := fun W (hW : Below w.heap.size w W) => snsound_calls _ s W (Hs0.out.below hW) f1 f2 (by omega) (by omega)
  have hrd := fun W (hW : Below w.heap.size w W) => refsound_calls _ s W (Hs0.out.below hW) f1 f2 (by omega) (by omega)
  have hsa := fun W (hW : Below w.heap.size w W) => snsame_calls _ _ s o W (Hs0.out.below hW) (Ho0.out.below hW) (by omega) (by omega)
  have hra := fun W (hW : Below w.heap.size w W) => refsame27_calls _ _ s o W (Hs0.out.below hW) (Ho0.out.below hW) (by omega) (by omega)
  have hss := fun W (hW : Below w.heap.size w W) => snsame_calls _ _ s s W (Hs0.out.below hW) (Hs0.out.below hW) (by omega) (by omega)
  have Hsd := Lib.hid hsd
  have Hrd := Lib.hid hrd
  have Hsa := Lib.hid hsa
  have Hra := Lib.hid hra
  have Hss := Lib.hid hss
  have Hby := Lib.hid (fun W (hW : Below w.heap.size w W) (h : Q.sound s = true) => snbytes_yes _ s W (Hs0.out.below hW) h)
  have Hbn := Lib.hid (fun W (hW : Below w.heap.size w W) (h : Q.sound s = false) => snbytes_no _ s W (Hs0.out.below hW) f1 f2 (by omega) (by omega) h)
  have Hrb := Lib.hid (fun W (hW : Below w.heap.size w W) (h : Q.sound s = true) => refbytes27_calls _ s W (Hs0.out.below hW) h)
  have Hst' := Lib.hid (fun (hr : Q.sound s = true) => Q.read_bytes s.down (by rw [Q.down_up hr]; exact hr))
  obtain ⟨sd, hsdd⟩ : ∃ sd, sd = Q.sound s := ⟨_, rfl⟩
  rw [← hsdd] at Hsd Hrd Hby Hbn Hrb
  have gsd : (sd != sd) = false := bne_self_eq_false _
  have hS3 : ∀ w', Below wL.heap.size wL w' → (w'.cell? ⟨b1, 0, none⟩ = some (.int .u64 (si : Int)) ∧ w'.cell? ⟨b1, 1, none⟩ = some (.int .u64 (st : Int)) ∧ w'.cell? ⟨b1, 2, none⟩ = some (.slice Am nm cm) ∧ w'.cell? ⟨b1, 3, none⟩ = some (.slice Ad nd cd) ∧ w'.cell? ⟨b2, 0, none⟩ = some (.int .u64 (oi : Int)) ∧ w'.cell? ⟨b2, 1, none⟩ = some (.int .u64 (ot : Int)) ∧ w'.cell? ⟨b2, 2, none⟩ = some (.slice Bm om dm) ∧ w'.cell? ⟨b2, 3, none⟩ = some (.slice Bd od dd)) := fun w' hb => by
    have e1 := (hb.block _ (blk_lt Hx1.out)).trans Hx1.out
    have e2 := (hb.block _ (blk_lt Hx2.out)).trans Hx2.out
    exact ⟨blk_cell e1 0, blk_cell e1 1, blk_cell e1 2, blk_cell e1 3, blk_cell e2 0, blk_cell e2 1, blk_cell e2 2, blk_cell e2 3⟩
  have HS3 := Lib.hid hS3
  have Hsdd := Lib.hid hsdd
  clear hsd hrd hsa hra hss hS3 hsdd
  go_upto_region 3 with fail
  refine wp_region_last (fun w' => w'.cell? ⟨b1, 0, none⟩ = some (.int .u64 (si : Int)) ∧ w'.cell? ⟨b1, 1, none⟩ = some (.int .u64 (st : Int)) ∧ w'.cell? ⟨b1, 2, none⟩ = some (.slice Am nm cm) ∧ w'.cell? ⟨b1, 3, none⟩ = some (.slice Ad nd cd) ∧ w'.cell? ⟨b2, 0, none⟩ = some (.int .u64 (oi : Int)) ∧ w'.cell? ⟨b2, 1, none⟩ = some (.int .u64 (ot : Int)) ∧ w'.cell? ⟨b2, 2, none⟩ = some (.slice Bm om dm) ∧ w'.cell? ⟨b2, 3, none⟩ = some (.slice Bd od dd)) 19 (by kernel_rfl) (HS3.out _ (Below.refl _ _).drew) (fun hHeld => ?_)
  refine wpAnyL_take 0 (v := ?_) rfl (by kernel_rfl) (fun _ _ _ h => h) (Or.inl ⟨by kernel_rfl, ?_⟩) hHeld ?_
  rotate_left
  · (intro w hSw; (try dsimp only at hSw); go_simp; try with_reducible rfl)
  try simp only [Act.put, List.setIfInBounds_toArray, List.set_cons_zero, List.set_cons_succ]
  refine wpAnyL_take 2 (v := ?_) rfl (by kernel_rfl) (fun _ _ _ h => h) (Or.inl ⟨by kernel_rfl, ?_⟩) hHeld ?_
  rotate_left
  · (intro w hSw; (try dsimp only at hSw); go_simp; try with_reducible rfl)
  try simp only [Act.put, List.setIfInBounds_toArray, List.set_cons_zero, List.set_cons_succ]
  refine wpAnyL_one 1 (by kernel_rfl) rfl (fun K hK => ?_)
  go_simp
  go_at_call 20
  refine (Hsd.out _ (Hb2.out.trans ((Below.refl _ _).drew.mono Hb2.out.size))).mono ?_
  rintro e wa ⟨rfl, hba⟩
  have hb2a : Below wL.heap.size wL wa := (Below.refl _ _).drew.trans hba
  clear hHeld
  have hHeld := HS3.out wa hb2a
  refine hK.out _ _ (fun _ => hHeld) ?_
  clear hK K
  try simp only [Act.put, List.setIfInBounds_toArray, List.set_cons_zero, List.set_cons_succ]
  refine wpAnyL_one 3 (by kernel_rfl) rfl (fun K hK => ?_)
  go_simp
  go_at_call 21
  refine (Hrd.out _ (Hb2.out.trans (hb2a.mono Hb2.out.size))).mono ?_
  rintro e wb ⟨rfl, hbb⟩
  have hb2b : Below wL.heap.size wL wb := hb2a.trans (hbb.mono hb2a.size)
  clear hHeld
  have hHeld := HS3.out wb hb2b
  refine hK.out _ _ (fun _ => hHeld) ?_
  clear hK K
  try simp only [Act.put, List.setIfInBounds_toArray, List.set_cons_zero, List.set_cons_succ]
  refine wpAnyL_take 4 (v := ?_) rfl (by kernel_rfl) (fun _ _ _ h => h) (Or.inl ⟨by kernel_rfl, ?_⟩) hHeld ?_
  rotate_left
  · (intro w hSw; (try dsimp only at hSw); go_simp; try with_reducible rfl)
  try simp only [Act.put, List.setIfInBounds_toArray, List.set_cons_zero, List.set_cons_succ]
  refine wpAnyL_take 5 (v := ?_) rfl (by kernel_rfl) (fun _ _ _ h => h) (Or.inl ⟨by kernel_rfl, ?_⟩) hHeld ?_
  rotate_left
  · (intro w hSw; (try dsimp only at hSw); go_simp; try with_reducible rfl)
  try simp only [Act.put, List.setIfInBounds_toArray, List.set_cons_zero, List.set_cons_succ]
  refine wpAnyL_take 6 (v := ?_) rfl (by kernel_rfl) (fun _ _ _ h => h) (Or.inl ⟨by kernel_rfl, ?_⟩) hHeld ?_
  rotate_left
  · (intro w hSw; (try dsimp only at hSw); go_simp; try with_reducible rfl)
  try simp only [Act.put, List.setIfInBounds_toArray, List.set_cons_zero, List.set_cons_succ]
  refine wpAnyL_take 7 (v := ?_) rfl (by kernel_rfl) (fun _ _ _ h => h) (Or.inl ⟨by kernel_rfl, ?_⟩) hHeld ?_
  rotate_left
  · (intro w hSw; (try dsimp only at hSw); go_simp; try with_reducible rfl)
  try simp only [Act.put, List.setIfInBounds_toArray, List.set_cons_zero, List.set_cons_succ]
  refine wpAnyL_take 9 (v := ?_) rfl (by kernel_rfl) (fun _ _ _ h => h) (Or.inl ⟨by kernel_rfl, ?_⟩) hHeld ?_
  rotate_left
  · (intro w hSw; (try dsimp only at hSw); go_simp; try with_reducible rfl)
  try simp only [Act.put, List.setIfInBounds_toArray, List.set_cons_zero, List.set_cons_succ]
  refine wpAnyL_take 10 (v := ?_) rfl (by kernel_rfl) (fun _ _ _ h => h) (Or.inl ⟨by kernel_rfl, ?_⟩) hHeld ?_
  rotate_left
  · (intro w hSw; (try dsimp only at hSw); go_simp; try with_reducible rfl)
  try simp only [Act.put, List.setIfInBounds_toArray, List.set_cons_zero, List.set_cons_succ]
  refine wpAnyL_one 8 (by kernel_rfl) rfl (fun K hK => ?_)
  go_simp
  go_at_call 22
  refine (Hsa.out _ (Hb2.out.trans (hb2b.mono Hb2.out.size))).mono ?_
  rintro e wc ⟨b3, rfl, hif3, hbc⟩
  have hb2c : Below wL.heap.size wL wc := hb2b.trans (hbc.mono hb2b.size)
  clear hHeld
  have hHeld := HS3.out wc hb2c
  refine hK.out _ _ (fun _ => hHeld) ?_
  clear hK K
  try simp only [Act.put, List.setIfInBounds_toArray, List.set_cons_zero, List.set_cons_succ]
  refine wpAnyL_one 11 (by kernel_rfl) rfl (fun K hK => ?_)
  go_simp
  go_at_call 18
  refine (Hra.out _ (Hb2.out.trans (hb2c.mono Hb2.out.size))).mono ?_
  rintro e wd ⟨b4, rfl, hif4, hbd⟩
  obtain rfl : b3 = b4 := Bool.eq_iff_iff.2 (hif3.trans hif4.symm)
  have gb3 : (b3 != b3) = false := bne_self_eq_false _
  have hb2d : Below wL.heap.size wL wd := hb2c.trans (hbd.mono hb2c.size)
  clear hHeld
  have hHeld := HS3.out wd hb2d
  refine hK.out _ _ (fun _ => hHeld) ?_
  clear hK K
  try simp only [Act.put, List.setIfInBounds_toArray, List.set_cons_zero, List.set_cons_succ]
  refine wpAnyL_take 12 (v := ?_) rfl (by kernel_rfl) (fun _ _ _ h => h) (Or.inl ⟨by kernel_rfl, ?_⟩) hHeld ?_
  rotate_left
  · (intro w hSw; (try dsimp only at hSw); go_simp; try with_reducible rfl)
  try simp only [Act.put, List.setIfInBounds_toArray, List.set_cons_zero, List.set_cons_succ]
  refine wpAnyL_take 13 (v := ?_) rfl (by kernel_rfl) (fun _ _ _ h => h) (Or.inl ⟨by kernel_rfl, ?_⟩) hHeld ?_
  rotate_left
  · (intro w hSw; (try dsimp only at hSw); go_simp; try with_reducible rfl)
  try simp only [Act.put, List.setIfInBounds_toArray, List.set_cons_zero, List.set_cons_succ]
  refine wpAnyL_take 14 (v := ?_) rfl (by kernel_rfl) (fun _ _ _ h => h) (Or.inl ⟨by kernel_rfl, ?_⟩) hHeld ?_
  rotate_left
  · (intro w hSw; (try dsimp only at hSw); go_simp; try with_reducible rfl)
  try simp only [Act.put, List.setIfInBounds_toArray, List.set_cons_zero, List.set_cons_succ]
  refine wpAnyL_take 15 (v := ?_) rfl (by kernel_rfl) (fun _ _ _ h => h) (Or.inl ⟨by kernel_rfl, ?_⟩) hHeld ?_
  rotate_left
  · (intro w hSw; (try dsimp only at hSw); go_simp; try with_reducible rfl)
  try simp only [Act.put, List.setIfInBounds_toArray, List.set_cons_zero, List.set_cons_succ]
  refine wpAnyL_take 16 (v := ?_) rfl (by kernel_rfl) (fun _ _ _ h => h) (Or.inl ⟨by kernel_rfl, ?_⟩) hHeld ?_
  rotate_left
  · (intro w hSw; (try dsimp only at hSw); go_simp; try with_reducible rfl)
  try simp only [Act.put, List.setIfInBounds_toArray, List.set_cons_zero, List.set_cons_succ]
  refine wpAnyL_one 17 (by kernel_rfl) rfl (fun K hK => ?_)
  go_simp
  go_at_call 22
  refine (Hss.out _ (Hb2.out.trans (hb2d.mono Hb2.out.size))).mono ?_
  rintro e we ⟨b5, rfl, hif5, hbe⟩
  obtain rfl : b5 = true := hif5.2 (by trivial)
  have hb2e : Below wL.heap.size wL we := hb2d.trans (hbe.mono hb2d.size)
  clear hHeld
  have hHeld := HS3.out we hb2e
  refine hK.out _ _ (fun _ => hHeld) ?_
  clear hK K
  try simp only [Act.put, List.setIfInBounds_toArray, List.set_cons_zero, List.set_cons_succ]
  refine wpAnyL_take 18 (v := ?_) rfl (by kernel_rfl) (fun _ _ _ h => h) (Or.inl ⟨by kernel_rfl, ?_⟩) hHeld ?_
  rotate_left
  · (intro w hSw; (try dsimp only at hSw); go_simp; try with_reducible rfl)
  try simp only [Act.put, List.setIfInBounds_toArray, List.set_cons_zero, List.set_cons_succ]
  refine wpAnyL_one 19 (by kernel_rfl) rfl (fun K hK => ?_)
  go_simp
  refine hK.out _ _ (fun h => absurd rfl h) ?_
  clear hK K
  try simp only [Act.put, List.setIfInBounds_toArray, List.set_cons_zero, List.set_cons_succ]
  refine wpAnyL_done (by kernel_rfl) ?_ _
  have hb0e : Below w.heap.size w we := Hb2.out.trans (hb2e.mono Hb2.out.size)
  have hx1e := (hb2e.block _ (blk_lt Hx1.out)).trans Hx1.out
  have Hx1e := Lib.hid hx1e
  have Hb0e := Lib.hid hb0e
  have x0 := blk_cell hx1e 0
  have x1 := blk_cell hx1e 1
  have x2 := blk_cell hx1e 2
  have x3 := blk_cell hx1e 3
  clear hb2e hb2d hb2c hb2b hb2a hba hbb hbc hbd hbe hHeld hif3 hif4 hif5 gb3 hb0e hx1e
  have hhb : sd = Q.sound s := Hsdd.out
  cases sd
  · clear hhb
    go_wp2_with (first
      | (go_at_call 23; refine (Hbn.out we Hb0e.out rfl).mono ?_; rintro e wf ⟨rfl, hbf⟩; have hx1f := (hbf.block _ (blk_lt Hx1e.out)).trans Hx1e.out; clear x0 x1 x2 x3; have x0 := blk_cell hx1f 0; have x1 := blk_cell hx1f 1; have x2 := blk_cell hx1f 2; have x3 := blk_cell hx1f 3; have hb0f : Below w.heap.size w wf := Hb0e.out.trans (hbf.mono Hb0e.out.size))
      | (go_at_call 21; refine (Hrd.out wf hb0f).mono ?_; rintro e wi ⟨rfl, hbi⟩; have hb0i : Below w.heap.size w wi := hb0f.trans (hbi.mono hb0f.size))
      | (go_at_call 15; refine (Hlv.out wi).mono ?_; rintro e w4 ⟨rfl, hb4⟩))
    go_ret
    exact ⟨rfl, hb0i.trans (hb4.mono hb0i.size)⟩
  have hr : Q.sound s = true := hhb.symm
  have hup := Q.down_up hr
  obtain ⟨k1, k2, k3, k4, k5⟩ := Q.sound_le (p := s.down) (by rw [hup]; exact hr)
  have hblen := Q.body_len s.down k1 k2 k3 k4 k5
  obtain ⟨bs, hbs⟩ : ∃ bs, bs = Q.bytesOf s.down := ⟨_, rfl⟩
  have hbl : bs.length ≤ 40000 := by rw [hbs]; unfold Q.bytesOf; rw [Q.frame_len]; omega
  have hrdd := Hst'.out hr
  have hbyy := fun W hW => Hby.out W hW rfl
  have hrbb := fun W hW => Hrb.out W hW rfl
  unfold WrapGives at hbyy
  unfold NewBytes at hrbb
  rw [← hbs] at hrdd hbyy hrbb
  obtain ⟨nb, hnb⟩ : ∃ nb, nb = bs.length := ⟨_, rfl⟩
  rw [← hnb] at hbyy hrbb hbl
  obtain ⟨Sb, hSb⟩ : ∃ S : ByteArray, S = ⟨bs.toArray⟩ := ⟨_, rfl⟩
  have gSb : (Sb.toList == Sb.toList) = true := beq_self_eq_true _
  have gSb2 : (Sb.toList != Sb.toList) = false := bne_self_eq_false _
  have hread := fun W A c (hW : Bts W A nb bs) (hc : nb ≤ c) (hA : A = none → c = 0) => snread_calls A nb c bs W hW (by omega) hc hA
  rw [hrdd] at hread
  clear Hby Hrb
  have Hby := Lib.hid hbyy
  have Hrb := Lib.hid hrbb
  have Hread := Lib.hid hread
  have Hup := Lib.hid hup
  have HSb := Lib.hid hSb
  clear hhb hr hup k1 k2 k3 k4 k5 hblen hbs hrdd hbyy hrbb hnb hSb hread Hst'
  go_upto_region 8 with (first
    | (go_at_call 23; refine (Hby.out we Hb0e.out).mono ?_; rintro e wf ⟨Ab, cb, rfl, hownf, hbf⟩; have hx1f := (hbf.block _ (blk_lt Hx1e.out)).trans Hx1e.out; clear x0 x1 x2 x3; have x0 := blk_cell hx1f 0; have x1 := blk_cell hx1f 1; have x2 := blk_cell hx1f 2; have x3 := blk_cell hx1f 3; have hb0f : Below w.heap.size w wf := Hb0e.out.trans (hbf.mono Hb0e.out.size))
    | (go_at_call 21; refine (Hrd.out wf hb0f).mono ?_; rintro e wi ⟨rfl, hbi⟩; have hb0i : Below w.heap.size w wi := hb0f.trans (hbi.mono hb0f.size)))
  obtain ⟨o1, o2, o3, _⟩ := own_all hownf
  have hx1i := (hbi.block _ (blk_lt hx1f)).trans hx1f
  have hri := Hread.out wi Ab cb (o1.below hbi) o2 o3
  unfold SnReads at hri
  dsimp only at hri
  have Hri := Lib.hid hri
  have Ho1 := Lib.hid (o1.below hbi)
  have Hx1i := Lib.hid hx1i
  have Hb0i := Lib.hid hb0i
  clear x0 x1 x2 x3 hx1i hx1f hri o1 o2 o3 hownf hbf hbi hb0f hb0i
  go_upto_region 9 with (go_at_call 16; refine Hri.out.mono ?_; rintro e wj ⟨vT, rfl, hsnT, hfrT, hbj⟩; have hsT := hsnT.up; rw [Hup.out] at hsT; have hsT' := hsT; obtain ⟨Tm, tm, Td, td, rfl, _⟩ := hsT; rw [← Hsi.out, ← Hst.out, ← Hnm.out, ← Hnd.out] at hsT' ⊢)
  obtain ⟨w8, hw8⟩ : ∃ w8, w8 = wj.alloc (.cells #[.int .u64 (si : Int), .int .u64 (st : Int), .slice Tm nm tm, .slice Td nd td] 27) := ⟨_, rfl⟩
  rw [← hw8]
  have hbj8 : Below wj.heap.size wj w8 := by rw [hw8]; exact al1 _ _
  have hx9 : w8.heap[wj.heap.size]? = some (.cells #[.int .u64 (si : Int), .int .u64 (st : Int), .slice Tm nm tm, .slice Td nd td] 27 (0, 0)) := by rw [hw8]; exact blk_new _ _
  have hbi8 : Below wi.heap.size wi w8 := hbj.trans (hbj8.mono hbj.size)
  have hx18 := (hbi8.block _ (blk_lt Hx1i.out)).trans Hx1i.out
  have hb08 : Below w.heap.size w w8 := Hb0i.out.trans (hbi8.mono Hb0i.out.size)
  have HsT := Lib.hid (hsT'.below hbj8)
  obtain ⟨b9, hb9⟩ : ∃ b, b = wj.heap.size := ⟨_, rfl⟩
  rw [← hb9] at hx9 ⊢
  have hS9 : ∀ w', Below w8.heap.size w8 w' → (w'.cell? ⟨b1, 0, none⟩ = some (.int .u64 (si : Int)) ∧ w'.cell? ⟨b1, 1, none⟩ = some (.int .u64 (st : Int)) ∧ w'.cell? ⟨b1, 2, none⟩ = some (.slice Am nm cm) ∧ w'.cell? ⟨b1, 3, none⟩ = some (.slice Ad nd cd) ∧ w'.cell? ⟨b9, 0, none⟩ = some (.int .u64 (si : Int)) ∧ w'.cell? ⟨b9, 1, none⟩ = some (.int .u64 (st : Int)) ∧ w'.cell? ⟨b9, 2, none⟩ = some (.slice Tm nm tm) ∧ w'.cell? ⟨b9, 3, none⟩ = some (.slice Td nd td) ∧ (convert 22 9 (.slice Ab nb cb)).run Try.prog w' = .ok (.string Sb) w') := fun w' hb => by
    have e1 := (hb.block _ (blk_lt hx18)).trans hx18
    have e2 := (hb.block _ (blk_lt hx9)).trans hx9
    have cv := run_to_str ((Ho1.out.below hbi8).below hb) cb
    rw [← HSb.out] at cv
    exact ⟨blk_cell e1 0, blk_cell e1 1, blk_cell e1 2, blk_cell e1 3, blk_cell e2 0, blk_cell e2 1, blk_cell e2 2, blk_cell e2 3, cv⟩
  have hts := fun W (hW : Below w8.heap.size w8 W) => refsame27_calls _ _ s s W (HsT.out.below hW) (Hs0.out.below (hb08.trans (hW.mono hb08.size))) (by omega) (by omega)
  have HS9 := Lib.hid hS9
  have Hts := Lib.hid hts
  have Hx9 := Lib.hid hx9
  have Hx18 := Lib.hid hx18
  have Hb8 := Lib.hid hb08
  clear hw8 hbj8 hx9 hbi8 hx18 hb08 hb9 hS9 hts hsnT hfrT hsT' hbj
  refine wp_region_last (fun w' => w'.cell? ⟨b1, 0, none⟩ = some (.int .u64 (si : Int)) ∧ w'.cell? ⟨b1, 1, none⟩ = some (.int .u64 (st : Int)) ∧ w'.cell? ⟨b1, 2, none⟩ = some (.slice Am nm cm) ∧ w'.cell? ⟨b1, 3, none⟩ = some (.slice Ad nd cd) ∧ w'.cell? ⟨b9, 0, none⟩ = some (.int .u64 (si : Int)) ∧ w'.cell? ⟨b9, 1, none⟩ = some (.int .u64 (st : Int)) ∧ w'.cell? ⟨b9, 2, none⟩ = some (.slice Tm nm tm) ∧ w'.cell? ⟨b9, 3, none⟩ = some (.slice Td nd td) ∧ (convert 22 9 (.slice Ab nb cb)).run Try.prog w' = .ok (.string Sb) w') 19 (by kernel_rfl) (HS9.out _ (Below.refl _ _).drew) (fun hHeld => ?_)
  refine wpAnyL_take 0 (v := ?_) rfl (by kernel_rfl) (fun _ _ _ h => h) (Or.inl ⟨by kernel_rfl, ?_⟩) hHeld ?_
  rotate_left
  · (intro w hSw; (try dsimp only at hSw); go_simp; try with_reducible rfl)
  try simp only [Act.put, List.setIfInBounds_toArray, List.set_cons_zero, List.set_cons_succ]
  refine wpAnyL_take 1 (v := ?_) rfl (by kernel_rfl) (fun _ _ _ h => h) (Or.inl ⟨by kernel_rfl, ?_⟩) hHeld ?_
  rotate_left
  · (intro w hSw; (try dsimp only at hSw); go_simp; try with_reducible rfl)
  try simp only [Act.put, List.setIfInBounds_toArray, List.set_cons_zero, List.set_cons_succ]
  refine wpAnyL_take 2 (v := ?_) rfl (by kernel_rfl) (fun _ _ _ h => h) (Or.inl ⟨by kernel_rfl, ?_⟩) hHeld ?_
  rotate_left
  · (intro w hSw; (try dsimp only at hSw); go_simp; try with_reducible rfl)
  try simp only [Act.put, List.setIfInBounds_toArray, List.set_cons_zero, List.set_cons_succ]
  refine wpAnyL_take 3 (v := ?_) rfl (by kernel_rfl) (fun _ _ _ h => h) (Or.inl ⟨by kernel_rfl, ?_⟩) hHeld ?_
  rotate_left
  · (intro w hSw; (try dsimp only at hSw); go_simp; try with_reducible rfl)
  try simp only [Act.put, List.setIfInBounds_toArray, List.set_cons_zero, List.set_cons_succ]
  refine wpAnyL_take 4 (v := ?_) rfl (by kernel_rfl) (fun _ _ _ h => h) (Or.inl ⟨by kernel_rfl, ?_⟩) hHeld ?_
  rotate_left
  · (intro w hSw; (try dsimp only at hSw); go_simp; try with_reducible rfl)
  try simp only [Act.put, List.setIfInBounds_toArray, List.set_cons_zero, List.set_cons_succ]
  refine wpAnyL_take 5 (v := ?_) rfl (by kernel_rfl) (fun _ _ _ h => h) (Or.inl ⟨by kernel_rfl, ?_⟩) hHeld ?_
  rotate_left
  · (intro w hSw; (try dsimp only at hSw); go_simp; try with_reducible rfl)
  try simp only [Act.put, List.setIfInBounds_toArray, List.set_cons_zero, List.set_cons_succ]
  refine wpAnyL_one 6 (by kernel_rfl) rfl (fun K hK => ?_)
  go_simp
  go_at_call 24
  refine (Hrb.out _ (Hb8.out.trans ((Below.refl _ _).drew.mono Hb8.out.size))).mono ?_
  rintro e wg ⟨Ag, cg, rfl, howng, hbg⟩
  obtain ⟨hbtg, _, _, _⟩ := own_all howng
  have cvg := run_to_str hbtg cg
  rw [← HSb.out] at cvg
  have hb8g : Below w8.heap.size w8 wg := (Below.refl _ _).drew.trans hbg
  clear hHeld
  have hHeld := HS9.out wg hb8g
  refine hK.out _ _ (fun _ => hHeld) ?_
  clear hK K
  try simp only [Act.put, List.setIfInBounds_toArray, List.set_cons_zero, List.set_cons_succ]
  refine wpAnyL_one 7 (by kernel_rfl) rfl (fun K hK => ?_)
  go_simp
  refine hK.out _ _ (fun _ => hHeld) ?_
  clear hK K
  try simp only [Act.put, List.setIfInBounds_toArray, List.set_cons_zero, List.set_cons_succ]
  refine wpAnyL_take 8 (v := ?_) rfl (by kernel_rfl) (fun _ _ _ h => h) (Or.inl ⟨by kernel_rfl, ?_⟩) hHeld ?_
  rotate_left
  · (intro w hSw; (try dsimp only at hSw); go_simp; try with_reducible rfl)
  try simp only [Act.put, List.setIfInBounds_toArray, List.set_cons_zero, List.set_cons_succ]
  refine wpAnyL_take 9 (v := ?_) rfl (by kernel_rfl) (fun _ _ _ h => h) (Or.inl ⟨by kernel_rfl, ?_⟩) hHeld ?_
  rotate_left
  · (intro w hSw; (try dsimp only at hSw); go_simp; try with_reducible rfl)
  try simp only [Act.put, List.setIfInBounds_toArray, List.set_cons_zero, List.set_cons_succ]
  refine wpAnyL_take 10 (v := ?_) rfl (by kernel_rfl) (fun _ _ _ h => h) (Or.inl ⟨by kernel_rfl, ?_⟩) hHeld ?_
  rotate_left
  · (intro w hSw; (try dsimp only at hSw); go_simp; try with_reducible rfl)
  try simp only [Act.put, List.setIfInBounds_toArray, List.set_cons_zero, List.set_cons_succ]
  refine wpAnyL_take 11 (v := ?_) rfl (by kernel_rfl) (fun _ _ _ h => h) (Or.inl ⟨by kernel_rfl, ?_⟩) hHeld ?_
  rotate_left
  · (intro w hSw; (try dsimp only at hSw); go_simp; try with_reducible rfl)
  try simp only [Act.put, List.setIfInBounds_toArray, List.set_cons_zero, List.set_cons_succ]
  refine wpAnyL_take 12 (v := ?_) rfl (by kernel_rfl) (fun _ _ _ h => h) (Or.inl ⟨by kernel_rfl, ?_⟩) hHeld ?_
  rotate_left
  · (intro w hSw; (try dsimp only at hSw); go_simp; try with_reducible rfl)
  try simp only [Act.put, List.setIfInBounds_toArray, List.set_cons_zero, List.set_cons_succ]
  refine wpAnyL_take 13 (v := ?_) rfl (by kernel_rfl) (fun _ _ _ h => h) (Or.inl ⟨by kernel_rfl, ?_⟩) hHeld ?_
  rotate_left
  · (intro w hSw; (try dsimp only at hSw); go_simp; try with_reducible rfl)
  try simp only [Act.put, List.setIfInBounds_toArray, List.set_cons_zero, List.set_cons_succ]
  refine wpAnyL_take 14 (v := ?_) rfl (by kernel_rfl) (fun _ _ _ h => h) (Or.inl ⟨by kernel_rfl, ?_⟩) hHeld ?_
  rotate_left
  · (intro w hSw; (try dsimp only at hSw); go_simp; try with_reducible rfl)
  try simp only [Act.put, List.setIfInBounds_toArray, List.set_cons_zero, List.set_cons_succ]
  refine wpAnyL_take 15 (v := ?_) rfl (by kernel_rfl) (fun _ _ _ h => h) (Or.inl ⟨by kernel_rfl, ?_⟩) hHeld ?_
  rotate_left
  · (intro w hSw; (try dsimp only at hSw); go_simp; try with_reducible rfl)
  try simp only [Act.put, List.setIfInBounds_toArray, List.set_cons_zero, List.set_cons_succ]
  refine wpAnyL_take 16 (v := ?_) rfl (by kernel_rfl) (fun _ _ _ h => h) (Or.inl ⟨by kernel_rfl, ?_⟩) hHeld ?_
  rotate_left
  · (intro w hSw; (try dsimp only at hSw); go_simp; try with_reducible rfl)
  try simp only [Act.put, List.setIfInBounds_toArray, List.set_cons_zero, List.set_cons_succ]
  refine wpAnyL_one 17 (by kernel_rfl) rfl (fun K hK => ?_)
  go_simp
  go_at_call 18
  refine (Hts.out _ hb8g).mono ?_
  rintro e wq ⟨b6, rfl, hif6, hbh⟩
  obtain rfl : b6 = true := hif6.2 (by trivial)
  have hb8q : Below w8.heap.size w8 wq := hb8g.trans (hbh.mono hb8g.size)
  clear hHeld
  have hHeld := HS9.out wq hb8q
  refine hK.out _ _ (fun _ => hHeld) ?_
  clear hK K
  try simp only [Act.put, List.setIfInBounds_toArray, List.set_cons_zero, List.set_cons_succ]
  refine wpAnyL_take 18 (v := ?_) rfl (by kernel_rfl) (fun _ _ _ h => h) (Or.inl ⟨by kernel_rfl, ?_⟩) hHeld ?_
  rotate_left
  · (intro w hSw; (try dsimp only at hSw); go_simp; try with_reducible rfl)
  try simp only [Act.put, List.setIfInBounds_toArray, List.set_cons_zero, List.set_cons_succ]
  refine wpAnyL_one 19 (by kernel_rfl) rfl (fun K hK => ?_)
  go_simp
  refine hK.out _ _ (fun h => absurd rfl h) ?_
  clear hK K
  try simp only [Act.put, List.setIfInBounds_toArray, List.set_cons_zero, List.set_cons_succ]
  refine wpAnyL_done (by kernel_rfl) ?_ _
  have hcp := sncopy_owns si st Am nm cm Ad nd cd s.members s.data wq (HI.out.below (Hb8.out.trans (hb8q.mono Hb8.out.size))) hmc (HD.out.below (Hb8.out.trans (hb8q.mono Hb8.out.size))) hdc HAd.out (by omega) (by omega)
  unfold CopyOwns at hcp
  dsimp only at hcp
  rw [← Hnm.out, ← Hnd.out] at hcp
  have Hcp := Lib.hid hcp
  have hx1q := (hb8q.block _ (blk_lt Hx18.out)).trans Hx18.out
  have x0 := blk_cell hx1q 0
  have x1 := blk_cell hx1q 1
  have x2 := blk_cell hx1q 2
  have x3 := blk_cell hx1q 3
  have Hb8q := Lib.hid hb8q
  clear hcp hx1q hb8q hb8g hbg hbh hbtg cvg howng hHeld hif6
  go_upto_region 12 with (go_at_call 25; refine Hcp.out.mono ?_; rintro e wk ⟨g, Ac, cc, rfl, hgk, hgw, hownk, hbk⟩)
  obtain ⟨w11, hw11⟩ : ∃ w11, w11 = wk.alloc (.cells #[.int .u64 (si : Int), .int .u64 (st : Int), .slice (some ⟨g, 0, none⟩) nm nm, .slice Ac nd cc] 27) := ⟨_, rfl⟩
  rw [← hw11]
  have hx11 : w11.heap[wk.heap.size]? = some (.cells #[.int .u64 (si : Int), .int .u64 (st : Int), .slice (some ⟨g, 0, none⟩) nm nm, .slice Ac nd cc] 27 (0, 0)) := by rw [hw11]; exact blk_new _ _
  have hbk11 : Below wk.heap.size wk w11 := by rw [hw11]; exact al1 _ _
  have hg11 := (hbk11.block _ (blk_lt hgk)).trans hgk
  have hown11 := hownk.kept_ext (S := []) (Ext.of_below hbk11) (fun q hq => by cases hq)
  have hbq11 : Below wq.heap.size wq w11 := hbk.trans (hbk11.mono hbk.size)
  obtain ⟨gr, hr1, hr2, hr3, hr4⟩ := own_block hown11 hx11 (by decide) hg11 (by decide) hbq11.size
  have hgl := blk_lt hgk
  obtain ⟨b11, hb11⟩ : ∃ b, b = wk.heap.size := ⟨_, rfl⟩
  rw [← hb11] at hx11 hr2 hgl ⊢
  have hgz : g < nm.succ + g := by omega
  have hgn : ∃ cur : Array Value, w11.heap[g]? = some (.cells cur 3 (0, 0)) ∧ nm ≤ cur.size := ⟨_, hg11, by have := zvals_length s.members; rw [Hnm.out]; simp [zvals]⟩
  have y2 := blk_cell hx11 2
  have y3 := blk_cell hx11 3
  have Hx11 := Lib.hid hx11
  have Hgn := Lib.hid hgn
  have Hr4 := Lib.hid hr4
  have Hbq11 := Lib.hid hbq11
  clear x0 x1 x2 x3 hw11 hx11 hbk11 hg11 hown11 hbq11 hb11 hgn hgk hownk hbk hr4 hgz
  go_wp2_with fail
  go_loopw [91] (fun i wr => ∃ k : Nat, i = .int .i64 k ∧ k ≤ nd ∧ Ext [gr] w11 wr ∧ (0 < nd → ∃ cur : Array Value, wr.heap[gr]? = some (.cells cur 5 (0, 0)) ∧ nd ≤ cur.size)) (fun i _ => nd - (intOf i).toNat)
  case atStart => exact ⟨0, rfl, Nat.zero_le _, Ext.refl _ _, fun h => (Hr4.out h).2⟩
  case round =>
    obtain ⟨k, rfl, hk, hext, hcur⟩ := hrel
    have hx := hext.obj Hx11.out (by simp; omega)
    clear y2 y3
    have y2 := blk_cell hx 2
    have y3 := blk_cell hx 3
    have Hext := Lib.hid hext
    have Hcur := Lib.hid hcur
    clear hext hcur hx
    by_cases hkn : k < nd
    · obtain ⟨hA, _⟩ := Hr4.out (by omega)
      obtain ⟨cur, hc1, hc2⟩ := Hcur.out (by omega)
      subst hA
      have hix : ∀ W, (Instr.indexAt 22 (.slice (some ⟨gr, 0, none⟩) nd cc) (.int .i64 (k : Int))).run Try.prog W = .ok (.pointer (some ⟨gr, k, none⟩)) W := fun W => by
        rw [run_index ⟨gr, 0, none⟩ nd cc k (by omega) (by omega) W, add0, Int.toNat_natCast, Nat.zero_add]
      have z1 := blk_cell hc1 k
      have z2 := blk_frozen hc1 k
      rw [Array.getElem?_eq_getElem (show k < cur.size by omega)] at z1
      have hwk : IntKind.i64.wrap ((k : Int) + 1) = (k : Int) + 1 := IntWalk.i64_in _ (by omega)
      have Hc1 := Lib.hid hc1
      clear hc1
      go_wp2_with fail
      go_roundw
      case rel => exact ⟨k + 1, by go_num, by omega, Hext.out.setCell (Or.inl (by simp)) _, fun _ => ⟨_, blk_set Hc1.out k _, by simpa using hc2⟩⟩
      case measure => simp [intOf]; omega
    · obtain ⟨wz, hwz⟩ : ∃ wz, wz = wr := ⟨_, rfl⟩
      rw [← hwz] at Hext Hcur y2 y3 ⊢
      clear hwz Hcur
      go_wp2_with fail
      go_loopw [103] (fun i wr => ∃ k : Nat, i = .int .i64 k ∧ k ≤ nm ∧ Ext [g] wz wr ∧ (∃ cur : Array Value, wr.heap[g]? = some (.cells cur 3 (0, 0)) ∧ nm ≤ cur.size)) (fun i _ => nm - (intOf i).toNat)
      case atStart =>
        obtain ⟨cur, h1, h2⟩ := Hgn.out
        exact ⟨0, rfl, Nat.zero_le _, Ext.refl _ _, cur, Hext.out.obj h1 (by simp; omega), h2⟩
      case round =>
        obtain ⟨k2, rfl, hk2, hext2, cur, hc1, hc2⟩ := hrel
        have hx := hext2.obj (Hext.out.obj Hx11.out (by simp; omega)) (by simp; omega)
        clear y2 y3
        have y2 := blk_cell hx 2
        have Hext2 := Lib.hid hext2
        have Hc1 := Lib.hid hc1
        clear hext2 hx
        by_cases hkm : k2 < nm
        · have hix : ∀ W, (Instr.indexAt 25 (.slice (some ⟨g, 0, none⟩) nm nm) (.int .i64 (k2 : Int))).run Try.prog W = .ok (.pointer (some ⟨g, k2, none⟩)) W := fun W => by
            rw [run_index_int ⟨g, 0, none⟩ nm nm k2 (by omega) (by omega) W, add0, Int.toNat_natCast, Nat.zero_add]
          have z1 := blk_cell hc1 k2
          have z2 := blk_frozen hc1 k2
          rw [Array.getElem?_eq_getElem (show k2 < cur.size by omega)] at z1
          have hwk : IntKind.i64.wrap ((k2 : Int) + 1) = (k2 : Int) + 1 := IntWalk.i64_in _ (by omega)
          clear hc1
          go_wp2_with fail
          go_roundw
          case rel => exact ⟨k2 + 1, by go_num, by omega, Hext2.out.setCell (Or.inl (by simp)) _, _, blk_set Hc1.out k2 _, by simpa using hc2⟩
          case measure => simp [intOf]; omega
        · have hb1 : Below wq.heap.size wq wz := Hbq11.out.trans (Hext.out.below (B := wq.heap.size) Hbq11.out.size (fun q hq => by rw [List.mem_singleton.1 hq]; exact hr1))
          have hb2 : Below wq.heap.size wq wr := hb1.trans (Hext2.out.below (B := wq.heap.size) hb1.size (fun q hq => by rw [List.mem_singleton.1 hq]; exact hgw))
          have hb8r : Below w8.heap.size w8 wr := Hb8q.out.trans (hb2.mono Hb8q.out.size)
          have hx1r := (hb8r.block _ (blk_lt Hx18.out)).trans Hx18.out
          have hx9r := (hb8r.block _ (blk_lt Hx9.out)).trans Hx9.out
          have hb0r := Hb8.out.trans (hb8r.mono Hb8.out.size)
          have Hlast := Lib.hid (refsame27_calls _ _ s s wr (Hs0.out.below hb0r) (HsT.out.below hb8r) (by omega) (by omega))
          have x0 := blk_cell hx1r 0
          have x1 := blk_cell hx1r 1
          have x2 := blk_cell hx1r 2
          have x3 := blk_cell hx1r 3
          have z0 := blk_cell hx9r 0
          have z1 := blk_cell hx9r 1
          have z2 := blk_cell hx9r 2
          have z3 := blk_cell hx9r 3
          have Hb0r := Lib.hid hb0r
          clear hb1 hb2 hb8r hx1r hx9r hb0r hc1 y2
          go_wp2_with (first
            | (go_at_call 18; refine Hlast.out.mono ?_; rintro e wu ⟨b7, rfl, hif7, hbu⟩; obtain rfl : b7 = true := hif7.2 (by trivial); clear hif7)
            | (go_at_call 15; refine (Hlv.out wu).mono ?_; rintro e wv ⟨rfl, hbv⟩))
          go_ret
          have hb0u := Hb0r.out.trans (hbu.mono Hb0r.out.size)
          exact ⟨rfl, hb0u.trans (hbv.mono hb0u.size)⟩
end Go.Proofs.Ytcfgdlpdnpnhmaa
