/- The walk of curfewlaw23.DiskNobody: it answers true. -/
import Derived.Test.YtcfgdlpdnpnhmaaLight
import Derived.Test.YtcfgdlpdnpnhmaaDisk13
import Derived.Test.YtcfgdlpdnpnhmaaLives23
set_option linter.unusedVariables false
set_option linter.unusedSimpArgs false
namespace Go.Proofs.Ytcfgdlpdnpnhmaa
open Go.RowKit Go.Maps

theorem below_then {w w1 w2 : World} (h : Below w.heap.size w w1) (k : Below w1.heap.size w1 w2) : Below w.heap.size w w2 := h.trans (k.mono h.size)
theorem run_bytes_at (s : ByteArray) (W : World) : (convert 9 22 (.string s)).run Try.prog W = .ok (.slice (some ⟨W.heap.size, 0, none⟩) s.size (grownCap W s.size 0 5))
      (W.drew.alloc (.cells (bytesRow s (grownCap W s.size 0 5)) 5 ((bytesRow s (grownCap W s.size 0 5)).size, (bytesRow s (grownCap W s.size 0 5)).size + 1))) :=
  run_bytes_of_string W _ _ _ s Try.underlying9 Try.underlying22 Try.underlying5
theorem below_bytes (s : ByteArray) (W : World) (fr : Nat × Nat) (C : Array Value) : Below W.heap.size W (W.drew.alloc (.cells C 5 fr)) := ((Below.refl _ _).drew).alloc (Nat.le_refl _) _
theorem ops_one {w : World} {g : Nat} {cs : Array Value} {fr : Nat × Nat} {o : Opp} (hb : w.heap[g]? = some (.cells cs 49 fr)) (h : OpCells w cs.toList o) : Ops w (some ⟨g, 0, none⟩) 1 [o] :=
  ⟨rfl, fun _ => ⟨_, rfl, fun j hj => ⟨cs.toList, by obtain rfl : j = 0 := by omega
                                                     exact h, fun i hi => by obtain rfl : j = 0 := by omega
                                                                             rw [Nat.zero_mul, Nat.zero_add, add0, Nat.zero_add, blk_cell hb, Array.getElem?_toList]⟩⟩⟩

set_option maxRecDepth 100000 in
set_option maxHeartbeats 4000000 in
theorem nobody23_calls (kind n : Int) (name to_ text : ByteArray) (At : Option Addr) (m ct : Nat) (o : Opp) (w : World) (h : OpCells w [.int .i64 kind, .int .i64 n, .string name, .string to_, .string text, .slice At m ct] o) :
    Calls Try.prog 8 #[.agg #[.int .i64 kind, .int .i64 n, .string name, .string to_, .string text, .slice At m ct]] w fun e w' => e = .returned (.bool true) ∧ Below w.heap.size w w' := by
  have H := Lib.hid h
  have Hlv := Lib.hid lives23_calls
  clear h
  obtain ⟨w1, hw1⟩ : ∃ w1, w1 = w.alloc (.cells #[.int .i64 kind, .int .i64 n, .string name, .string to_, .string text, .slice At m ct] 49) := ⟨_, rfl⟩
  have hbw1 : Below w.heap.size w w1 := by rw [hw1]; exact below_new _ _
  have hbx1 : w1.heap[w.heap.size]? = some (.cells #[.int .i64 kind, .int .i64 n, .string name, .string to_, .string text, .slice At m ct] 49 (0, 0)) := by rw [hw1]; exact blk_new _ _
  have hcells1 : ∀ W, Below w1.heap.size w1 W → W.cell? ⟨w.heap.size, 0, none⟩ = some (.int .i64 kind) ∧ W.cell? ⟨w.heap.size, 1, none⟩ = some (.int .i64 n) ∧ W.cell? ⟨w.heap.size, 2, none⟩ = some (.string name) ∧ W.cell? ⟨w.heap.size, 3, none⟩ = some (.string to_) ∧ W.cell? ⟨w.heap.size, 4, none⟩ = some (.string text) ∧ W.cell? ⟨w.heap.size, 5, none⟩ = some (.slice At m ct) := fun W hb => by
    have := (hb.block _ (blk_lt hbx1)).trans hbx1
    exact ⟨blk_cell this 0, blk_cell this 1, blk_cell this 2, blk_cell this 3, blk_cell this 4, blk_cell this 5⟩
  have Hcells1 := Lib.hid hcells1
  obtain ⟨i0, i1, i2, i3, i4, i5⟩ := hcells1 w1 (Below.refl _ _)
  have Hbx1 := Lib.hid hbx1
  have Hbw1 := Lib.hid hbw1
  clear hcells1 hbx1 hbw1
  go_enter Try.func8, Try.ntmps8
  have hs1 : w1.heap.size = w.heap.size + 1 := by rw [hw1]; simp
  have hop1 : Ops (w1.alloc (.cells #[.int .i64 kind, .int .i64 n, .string name, .string to_, .string text, .slice At m ct] 49)) (some ⟨w1.heap.size, 0, none⟩) 1 [o] := ops_one (blk_new _ _) (((H.out.below Hbw1.out).below (below_new _ _)))
  rw [hs1] at hop1
  have hlight := light_calls _ 1 1 [o] _ hop1 (by omega)
  have Hlight := Lib.hid hlight
  clear hop1 hlight
  go_wp2_with fail
  rw [← hw1]
  have Hw1 := Lib.hid hw1
  have Hs1 := Lib.hid hs1
  clear hw1 hs1
  cases hlb : lightB [o]
  · rw [hlb] at Hlight
    clear hlb
    go_wp2_with (first
      | (go_at_call 26; refine Hlight.out.mono ?_; rintro e w3 ⟨rfl, hb3⟩)
      | (go_at_call 28; refine (Hlv.out _).mono ?_; rintro e w4 ⟨rfl, hb4⟩))
    go_ret
    have hb4' := below_then (below_then (Hbw1.out.alloc Hbw1.out.size _) hb3) hb4
    exact ⟨rfl, hb4'⟩
  · rw [hlb] at Hlight
    clear hlb
    go_wp2_with (go_at_call 26; refine Hlight.out.mono ?_; rintro e w3 ⟨rfl, hb3⟩)
    have hb5 := below_then hb3 (below_then (below_new w3 (.cells #[.map none, .int .i64 0, .bool false, .int .i64 0, .pointer none] 78)) (below_new _ (.cells #[.pointer none, .pointer (some ⟨w3.heap.size, 0, none⟩)] 41)))
    obtain ⟨w5, hw5⟩ : ∃ w5, w5 = (w3.alloc (.cells #[.map none, .int .i64 0, .bool false, .int .i64 0, .pointer none] 78)).alloc (.cells #[.pointer none, .pointer (some ⟨w3.heap.size, 0, none⟩)] 41) := ⟨_, rfl⟩
    have hz5 : w5.heap[w3.heap.size]? = some (.cells #[.map none, .int .i64 0, .bool false, .int .i64 0, .pointer none] 78 (0, 0)) := by rw [hw5]; exact blk_alloc (blk_new w3 _) _
    have hs5 : w5.heap[w3.heap.size + 1]? = some (.cells #[.pointer none, .pointer (some ⟨w3.heap.size, 0, none⟩)] 41 (0, 0)) := by
      have := blk_new (w3.alloc (.cells #[.map none, .int .i64 0, .bool false, .int .i64 0, .pointer none] 78)) (.cells #[.pointer none, .pointer (some ⟨w3.heap.size, 0, none⟩)] 41)
      rw [hw5]
      rw [show (w3.alloc (.cells #[.map none, .int .i64 0, .bool false, .int .i64 0, .pointer none] 78)).heap.size = w3.heap.size + 1 by simp] at this
      exact this
    rw [← hw5] at hb5 ⊢
    have hb15 := below_then (below_new w1 (.cells #[.int .i64 kind, .int .i64 n, .string name, .string to_, .string text, .slice At m ct] 49)) hb5
    have Hb15 := Lib.hid hb15
    have Hz5 := Lib.hid hz5
    have Hs5 := Lib.hid hs5
    clear hb5 hb15 hz5 hs5 hw5 hb3 i0 i1 i2 i3 i4 i5
    go_loopw [18] (fun i wr => ∃ (k : Nat), i = .int .i64 k ∧ k ≤ 2 ∧ Below w5.heap.size w5 wr) (fun i _ => 2 - (intOf i).toNat)
    case atStart => exact ⟨0, rfl, by omega, Below.refl _ _⟩
    case round =>
      obtain ⟨k, rfl, hk, hbr⟩ := hrel
      have Hbr := Lib.hid hbr
      have hz := Lib.hid ((hbr.block _ (blk_lt Hz5.out)).trans Hz5.out)
      have Hsl := Lib.hid ((hbr.block _ (blk_lt Hs5.out)).trans Hs5.out)
      have hC := fun W (hb : Below wr.heap.size wr W) => Hcells1.out W (below_then Hb15.out (below_then hbr hb))
      clear hbr
      by_cases hlt : k < 2
      · have hk01 : k = 0 ∨ k = 1 := by omega
        clear hlt hk
        rcases hk01 with rfl | rfl
        · have hv := blk_cell Hsl.out 0
          have hN : ∀ W, Below wr.heap.size wr W → Nob W (.pointer none) := fun W hb => Or.inl rfl
          have HN := Lib.hid hN
          clear hN
          obtain ⟨c0, c1, c2, c3, c4, c5⟩ := hC wr (Below.refl _ _)
          have HC := Lib.hid hC
          have hcv := run_bytes_at text
          clear hC
          go_wp2_with (first
            | (go_at_call 48; refine (read_no _ _ _ (HN.out _ (Below.refl _ _))).mono ?_; rintro e v1 ⟨rfl, k1⟩; have b1 := below_then (Below.refl _ _) k1; clear k1; have hc := HC.out _ b1; obtain ⟨c0, c1, c2, c3, c4, c5⟩ := hc)
            | (go_at_call 41; refine (append_no _ _ _ _ _ _ (HN.out _ (below_then b1 (below_bytes text _ _ _)))).mono ?_; rintro e v2 ⟨rfl, k2⟩; have b2 := below_then (below_then b1 (below_bytes text _ _ _)) k2; clear k2; have hc := HC.out _ b2; obtain ⟨c0, c1, c2, c3, c4, c5⟩ := hc)
            | (go_at_call 42; refine (sync_no _ _ _ (HN.out _ b2)).mono ?_; rintro e v3 ⟨rfl, k3⟩; have b3 := below_then b2 k3; clear k3; have hc := HC.out _ b3; obtain ⟨c0, c1, c2, c3, c4, c5⟩ := hc)
            | (go_at_call 43; refine (cut_no _ _ _ _ (HN.out _ b3)).mono ?_; rintro e v4 ⟨rfl, k4⟩; have b4 := below_then b3 k4; clear k4; have hc := HC.out _ b4; obtain ⟨c0, c1, c2, c3, c4, c5⟩ := hc)
            | (go_at_call 44; refine (remove_no _ _ _ (HN.out _ b4)).mono ?_; rintro e v5 ⟨rfl, k5⟩; have b5 := below_then b4 k5; clear k5; have hc := HC.out _ b5; obtain ⟨c0, c1, c2, c3, c4, c5⟩ := hc)
            | (go_at_call 45; refine (move_no _ _ _ _ (HN.out _ b5)).mono ?_; rintro e v6 ⟨rfl, k6⟩; have b6 := below_then b5 k6; clear k6; have hc := HC.out _ b6; obtain ⟨c0, c1, c2, c3, c4, c5⟩ := hc)
            | (go_at_call 40; refine (arm_no _ _ _ (HN.out _ b6)).mono ?_; rintro e w' ⟨rfl, rfl⟩)
            | (go_at_call 39; refine (crash_no _ _ _ _ _ (HN.out _ b6)).mono ?_; rintro e v7 ⟨rfl, k7⟩; have b7 := below_then b6 k7; clear k7; have hc := HC.out _ b7; obtain ⟨c0, c1, c2, c3, c4, c5⟩ := hc)
            | (go_at_call 47; refine (boot_no _ _ (HN.out _ b7)).mono ?_; rintro e w' ⟨rfl, rfl⟩)
            | (go_at_call 46; refine (resize_no _ _ _ (HN.out _ b7)).mono ?_; rintro e w' ⟨rfl, rfl⟩)
            | (go_at_call 32; refine (down_no _ _ (HN.out _ b7)).mono ?_; rintro e w' ⟨rfl, rfl⟩)
            | (go_at_call 33; refine (free_no _ _ (HN.out _ b7)).mono ?_; rintro e w' ⟨rfl, rfl⟩)
            | (go_at_call 35; refine (steps_no _ _ (HN.out _ b7)).mono ?_; rintro e w' ⟨rfl, rfl⟩)
            | (go_at_call 31; refine (names_no _ _ (HN.out _ b7)).mono ?_; rintro e w' ⟨rfl, rfl⟩)
            | (go_at_call 38; refine (files_no _ _ (HN.out _ b7)).mono ?_; rintro e v8 ⟨rfl, k8⟩; have b8 := below_then b7 k8; clear k8; have hc := HC.out _ b8; obtain ⟨c0, c1, c2, c3, c4, c5⟩ := hc))
          go_roundw
          case rel => exact ⟨1, rfl, by omega, below_then Hbr.out b8⟩
          case measure => simp [intOf]
        · have hv := blk_cell Hsl.out 1
          have hN : ∀ W, Below wr.heap.size wr W → Nob W (.pointer (some ⟨w3.heap.size, 0, none⟩)) := fun W hb => (show Nob wr (.pointer (some ⟨w3.heap.size, 0, none⟩)) from Or.inr ⟨_, rfl, hz.out⟩).below hb
          have HN := Lib.hid hN
          clear hN
          obtain ⟨c0, c1, c2, c3, c4, c5⟩ := hC wr (Below.refl _ _)
          have HC := Lib.hid hC
          have hcv := run_bytes_at text
          clear hC
          go_wp2_with (first
            | (go_at_call 48; refine (read_no _ _ _ (HN.out _ (Below.refl _ _))).mono ?_; rintro e v1 ⟨rfl, k1⟩; have b1 := below_then (Below.refl _ _) k1; clear k1; have hc := HC.out _ b1; obtain ⟨c0, c1, c2, c3, c4, c5⟩ := hc)
            | (go_at_call 41; refine (append_no _ _ _ _ _ _ (HN.out _ (below_then b1 (below_bytes text _ _ _)))).mono ?_; rintro e v2 ⟨rfl, k2⟩; have b2 := below_then (below_then b1 (below_bytes text _ _ _)) k2; clear k2; have hc := HC.out _ b2; obtain ⟨c0, c1, c2, c3, c4, c5⟩ := hc)
            | (go_at_call 42; refine (sync_no _ _ _ (HN.out _ b2)).mono ?_; rintro e v3 ⟨rfl, k3⟩; have b3 := below_then b2 k3; clear k3; have hc := HC.out _ b3; obtain ⟨c0, c1, c2, c3, c4, c5⟩ := hc)
            | (go_at_call 43; refine (cut_no _ _ _ _ (HN.out _ b3)).mono ?_; rintro e v4 ⟨rfl, k4⟩; have b4 := below_then b3 k4; clear k4; have hc := HC.out _ b4; obtain ⟨c0, c1, c2, c3, c4, c5⟩ := hc)
            | (go_at_call 44; refine (remove_no _ _ _ (HN.out _ b4)).mono ?_; rintro e v5 ⟨rfl, k5⟩; have b5 := below_then b4 k5; clear k5; have hc := HC.out _ b5; obtain ⟨c0, c1, c2, c3, c4, c5⟩ := hc)
            | (go_at_call 45; refine (move_no _ _ _ _ (HN.out _ b5)).mono ?_; rintro e v6 ⟨rfl, k6⟩; have b6 := below_then b5 k6; clear k6; have hc := HC.out _ b6; obtain ⟨c0, c1, c2, c3, c4, c5⟩ := hc)
            | (go_at_call 40; refine (arm_no _ _ _ (HN.out _ b6)).mono ?_; rintro e w' ⟨rfl, rfl⟩)
            | (go_at_call 39; refine (crash_no _ _ _ _ _ (HN.out _ b6)).mono ?_; rintro e v7 ⟨rfl, k7⟩; have b7 := below_then b6 k7; clear k7; have hc := HC.out _ b7; obtain ⟨c0, c1, c2, c3, c4, c5⟩ := hc)
            | (go_at_call 47; refine (boot_no _ _ (HN.out _ b7)).mono ?_; rintro e w' ⟨rfl, rfl⟩)
            | (go_at_call 46; refine (resize_no _ _ _ (HN.out _ b7)).mono ?_; rintro e w' ⟨rfl, rfl⟩)
            | (go_at_call 32; refine (down_no _ _ (HN.out _ b7)).mono ?_; rintro e w' ⟨rfl, rfl⟩)
            | (go_at_call 33; refine (free_no _ _ (HN.out _ b7)).mono ?_; rintro e w' ⟨rfl, rfl⟩)
            | (go_at_call 35; refine (steps_no _ _ (HN.out _ b7)).mono ?_; rintro e w' ⟨rfl, rfl⟩)
            | (go_at_call 31; refine (names_no _ _ (HN.out _ b7)).mono ?_; rintro e w' ⟨rfl, rfl⟩)
            | (go_at_call 38; refine (files_no _ _ (HN.out _ b7)).mono ?_; rintro e v8 ⟨rfl, k8⟩; have b8 := below_then b7 k8; clear k8; have hc := HC.out _ b8; obtain ⟨c0, c1, c2, c3, c4, c5⟩ := hc))
          go_roundw
          case rel => exact ⟨2, rfl, by omega, below_then Hbr.out b8⟩
          case measure => simp [intOf]
      · have hk2 : k = 2 := by omega
        clear hlt hk
        subst hk2
        go_wp2_with (go_at_call 28; refine (Hlv.out _).mono ?_; rintro e w6 ⟨rfl, hb6⟩)
        go_ret
        have hb6' := below_then (below_then (below_then Hbw1.out Hb15.out) Hbr.out) hb6
        exact ⟨rfl, hb6'⟩
end Go.Proofs.Ytcfgdlpdnpnhmaa
