/- Contracts of the document's disk (curfewref23): Free, step, without. -/
import Derived.Test.YtcfgdlpdnpnhmaaRef1
set_option linter.unusedVariables false
set_option linter.unusedSimpArgs false
namespace Go.Proofs.Ytcfgdlpdnpnhmaa
open Go.RowKit Go.Maps

theorem sum_take_succ (l : List File) (k : Nat) (hk : k < l.length) : Dsk.sum (l.take (k + 1)) = Dsk.sum (l.take k) + l[k].all.length := by
  induction l generalizing k with
  | nil => simp at hk
  | cons f r ih =>
    cases k with
    | zero => simp [Dsk.sum]
    | succ k =>
      have hk' : k < r.length := by simpa using hk
      simp only [List.take_succ_cons, Dsk.sum, List.getElem_cons_succ]
      rw [ih k hk']
      omega
theorem sum_take_le (l : List File) (k : Nat) : Dsk.sum (l.take k) ≤ Dsk.sum l := by
  induction l generalizing k with
  | nil => simp
  | cons f r ih =>
    cases k with
    | zero => simp [Dsk.sum]
    | succ k => simp only [List.take_succ_cons, Dsk.sum]; have := ih k; omega

set_option maxRecDepth 100000 in
theorem reffree_calls (D : Dsk) (A : Option Addr) (n c : Nat) (w : World) (h : RFiles w A n D.files) (hn : n ≤ 1048576) (h0 : 0 ≤ D.room) (h1 : D.room ≤ 1048576) (h2 : Dsk.sum D.files ≤ 1048576) :
    Calls Try.prog 34 #[refV D A n c] w fun e w' => e = .returned (.int .i64 D.free) ∧ w' = w.alloc (.cells #[.int .i64 D.room, .slice A n c, .bool D.down, .int .i64 D.armed, .int .u64 D.steps] 45) := by
  obtain ⟨w1, hw1⟩ : ∃ w1, w1 = w.alloc (.cells #[.int .i64 D.room, .slice A n c, .bool D.down, .int .i64 D.armed, .int .u64 D.steps] 45) := ⟨_, rfl⟩
  have hbw : Below w.heap.size w w1 := by rw [hw1]; exact (Below.refl _ _).alloc (Nat.le_refl _) _
  have hbx : w1.heap[w.heap.size]? = some (.cells #[.int .i64 D.room, .slice A n c, .bool D.down, .int .i64 D.armed, .int .u64 D.steps] 45 (0, 0)) := by rw [hw1]; exact blk_new w _
  have b1 := blk_cell hbx 1
  have hh := h.below hbw
  have H := Lib.hid hh
  have hl := Lib.hid h.1
  have Hw1 := Lib.hid hw1
  have Hs := Lib.hid h2
  have Hf : Hid (D.free = if 0 ≤ D.room - (Dsk.sum D.files : Int) then D.room - (Dsk.sum D.files : Int) else 0) := Lib.hid rfl
  clear h hh hbw hbx h2
  unfold refV
  go_enter Try.func34, Try.ntmps34
  go_wp2
  rw [← hw1]
  clear hw1
  go_loop [3, 4] (fun r i => ∃ (k : Nat), i = .int .i64 k ∧ k ≤ n ∧ r = .int .i64 (D.room - (Dsk.sum (D.files.take k) : Int))) (fun _ i => n - (intOf i).toNat)
  case atStart => exact ⟨0, rfl, Nat.zero_le _, by simp [Dsk.sum]⟩
  case round =>
    obtain ⟨k, rfl, hkn, rfl⟩ := hrel
    by_cases hlt : k < n
    · have hk : k < D.files.length := by rw [hl.out]; exact hlt
      obtain ⟨ad, b, o, nm, al, rfl, had, q0, q1, q2, e0, e1, z0, z1, _, _⟩ := H.out.at2 hk
      have hix := fun W => run_file_index ad n c k hlt W
      simp only [had] at hix
      have hwk : IntKind.i64.wrap ((k : Int) + 1) = (k : Int) + 1 := IntWalk.i64_in _ (by omega)
      have hsk := sum_take_succ D.files k hk
      have hle := sum_take_le D.files (k + 1)
      have hs2 := Hs.out
      obtain ⟨s0, hs0⟩ : ∃ s0, s0 = Dsk.sum (D.files.take k) := ⟨_, rfl⟩
      rw [← hs0] at hsk ⊢
      have hw2 : IntKind.i64.wrap (D.room - (s0 : Int) - (al.size : Int)) = D.room - (s0 : Int) - (al.size : Int) := IntWalk.i64_in _ (by omega)
      have Hsk := Lib.hid (show Dsk.sum (D.files.take (k + 1)) = s0 + al.size by omega)
      clear e0 e1 z0 z1 had hsk hle hs2 hs0
      go_wp2
      go_round
      case rel => exact ⟨k + 1, by simp, hlt, by rw [Hsk.out]; congr 1; omega⟩
      case measure => simp [intOf]; omega
    · have hkn2 : k = n := by omega
      have ht : D.files.take k = D.files := List.take_of_length_le (by rw [hl.out]; omega)
      rw [ht]
      have hs2 := Hs.out
      obtain ⟨s0, hs0⟩ : ∃ s0, s0 = Dsk.sum D.files := ⟨_, rfl⟩
      rw [← hs0] at hs2 ⊢
      have Hs0 := Lib.hid hs0
      clear ht hs0 hkn2
      by_cases hneg : D.room - (s0 : Int) < 0
      · have Hng := Lib.hid hneg
        have g : decide (D.room - (s0 : Int) < 0) = true := decide_eq_true hneg
        clear hneg
        go_wp2
        go_ret
        exact ⟨by rw [Hf.out, ← Hs0.out, if_neg (by have := Hng.out; omega)]; rfl, Hw1.out⟩
      · have Hng := Lib.hid hneg
        have g : decide (D.room - (s0 : Int) < 0) = false := decide_eq_false hneg
        clear hneg
        go_wp2
        go_ret
        exact ⟨by rw [Hf.out, ← Hs0.out, if_pos (by have := Hng.out; omega)]; rfl, Hw1.out⟩

/-- What 'step' answers: the disk, and whether the power is there still. -/
def StepGives (w : World) (D : Dsk) (A : Option Addr) (n c : Nat) (e : Ending) (w' : World) : Prop :=
  e = .returned (.tuple #[.agg #[.int .i64 D.step.1.room, .slice A n c, .bool D.step.1.down, .int .i64 D.step.1.armed, .int .u64 D.step.1.steps], .bool (D.step.2 == 0)]) ∧
  w' = (w.alloc (.cells #[.int .i64 D.step.1.room, .slice A n c, .bool D.step.1.down, .int .i64 D.step.1.armed, .int .u64 D.step.1.steps] 45)).alloc (.cells #[.int .i64 D.step.1.room, .slice A n c, .bool D.step.1.down, .int .i64 D.step.1.armed, .int .u64 D.step.1.steps] 45)
set_option maxRecDepth 100000 in
theorem refstep_calls (D : Dsk) (A : Option Addr) (n c : Nat) (w : World) (hs : D.steps < 4611686018427387904) (ha : -1 ≤ D.armed) (ha2 : D.armed ≤ 9223372036854775807) :
    Calls Try.prog 127 #[refV D A n c] w (StepGives w D A n c) := by
  have hws : IntKind.u64.wrap ((D.steps : Int) + 1) = (D.steps : Int) + 1 := by unfold IntKind.wrap; simp [IntKind.bits, IntKind.signed]; omega
  have Hst : Hid (D.step = if D.armed = 0 then ({ D with steps := D.steps + 1, down := true, armed := -1 }, 50)
    else if 0 < D.armed then ({ D with steps := D.steps + 1, armed := D.armed - 1 }, 0)
    else ({ D with steps := D.steps + 1 }, 0)) := Lib.hid rfl
  unfold refV
  by_cases h0 : D.armed = 0
  · have g0 : (D.armed == 0) = true := by simp [h0]
    have H0 := Lib.hid h0
    clear h0
    go_enter Try.func127, Try.ntmps127
    go_wp2
    refine bodyPost_ret (v := .tuple #[.agg #[.int .i64 D.room, .slice A n c, .bool true, .int .i64 (-1), .int .u64 ((D.steps : Int) + 1)], .bool false]) (by simp [results, Try.results127, go_sem]) rfl ⟨?_, ?_⟩
    all_goals rw [Hst.out, if_pos H0.out]
    all_goals simp
  · have g0 : (D.armed == 0) = false := by simp [h0]
    have H0 := Lib.hid h0
    by_cases h1 : 0 < D.armed
    · have g1 : decide (0 < D.armed) = true := decide_eq_true h1
      have hwa : IntKind.i64.wrap (D.armed - 1) = D.armed - 1 := IntWalk.i64_in _ (by omega)
      have H1 := Lib.hid h1
      clear h0 h1
      go_enter Try.func127, Try.ntmps127
      go_wp2
      refine bodyPost_ret (v := .tuple #[.agg #[.int .i64 D.room, .slice A n c, .bool D.down, .int .i64 (D.armed - 1), .int .u64 ((D.steps : Int) + 1)], .bool true]) (by simp [results, Try.results127, go_sem]) rfl ⟨?_, ?_⟩
      all_goals rw [Hst.out, if_neg H0.out, if_pos H1.out]
      all_goals simp
    · have g1 : decide (0 < D.armed) = false := decide_eq_false h1
      have H1 := Lib.hid h1
      clear h0 h1
      go_enter Try.func127, Try.ntmps127
      go_wp2
      refine bodyPost_ret (v := .tuple #[.agg #[.int .i64 D.room, .slice A n c, .bool D.down, .int .i64 D.armed, .int .u64 ((D.steps : Int) + 1)], .bool true]) (by simp [results, Try.results127, go_sem]) rfl ⟨?_, ?_⟩
      all_goals rw [Hst.out, if_neg H0.out, if_neg (by have := H1.out; omega)]
      all_goals simp

theorem _root_.Go.World.ownsRow.kept_ext {S : List Nat} {w w' : World} {base : Nat} {e : TypeId} {size : Nat} {v : Value} {n : Nat} {xs : List Value} (h : w.ownsRow base e size v n xs) (he : Ext S w w') (hs : ∀ q, q ∈ S → q < base) : w'.ownsRow base e size v n xs := by
  refine ⟨h.1, ?_⟩
  rcases h.2 with hn | ⟨g, cap, cur, rfl, hb, hgg, rest⟩
  · exact .inl hn
  · exact .inr ⟨g, cap, cur, rfl, hb, he.obj hgg (fun hm => by have := hs g hm; omega), rest⟩
theorem del_take_succ (l : List File) (s : Bs) (k : Nat) (hk : k < l.length) : Dsk.del (l.take (k + 1)) s = Dsk.del (l.take k) s ++ (if l[k].name = s then [] else [l[k]]) := by
  rw [List.take_succ_eq_append_getElem hk]
  unfold Dsk.del
  rw [List.filter_append]
  by_cases h : l[k].name = s <;> simp [h]
theorem del_length (l : List File) (s : Bs) : (Dsk.del l s).length ≤ l.length := List.length_filter_le _ _

set_option maxRecDepth 100000 in
theorem refwithout_calls (D : Dsk) (A : Option Addr) (n c : Nat) (s : ByteArray) (w : World) (h : RFiles w A n D.files) (hn : n ≤ 1048576) :
    Calls Try.prog 129 #[refV D A n c, .string s] w (RefNew w { D with files := Dsk.del D.files s.data.toList }) := by
  obtain ⟨w1, hw1⟩ : ∃ w1, w1 = (w.alloc (.cells #[.int .i64 D.room, .slice A n c, .bool D.down, .int .i64 D.armed, .int .u64 D.steps] 45)).alloc (.cells #[.int .i64 0, .slice none 0 0, .bool false, .int .i64 0, .int .u64 0] 45) := ⟨_, rfl⟩
  have hbw : Below w.heap.size w w1 := by rw [hw1]; exact ((Below.refl _ _).alloc (Nat.le_refl _) _).alloc (by simp) _
  have hbx : w1.heap[w.heap.size]? = some (.cells #[.int .i64 D.room, .slice A n c, .bool D.down, .int .i64 D.armed, .int .u64 D.steps] 45 (0, 0)) := by rw [hw1]; exact blk_alloc (blk_new w _) _
  have hrx : w1.heap[w.heap.size + 1]? = some (.cells #[.int .i64 0, .slice none 0 0, .bool false, .int .i64 0, .int .u64 0] 45 (0, 0)) := by
    have := blk_new (w.alloc (.cells #[.int .i64 D.room, .slice A n c, .bool D.down, .int .i64 D.armed, .int .u64 D.steps] 45)) (.cells #[.int .i64 0, .slice none 0 0, .bool false, .int .i64 0, .int .u64 0] 45)
    rw [hw1]
    rw [show (w.alloc (.cells #[.int .i64 D.room, .slice A n c, .bool D.down, .int .i64 D.armed, .int .u64 D.steps] 45)).heap.size = w.heap.size + 1 by simp] at this
    exact this
  have hs1 : w1.heap.size = w.heap.size + 2 := by rw [hw1]; simp
  have hh := h.below hbw
  have H := Lib.hid hh
  have hl := Lib.hid h.1
  have Hbw := Lib.hid hbw
  have Hbx := Lib.hid hbx
  have Hrx := Lib.hid hrx
  have Hs1 := Lib.hid hs1
  clear h hh hbw hbx hrx hs1
  unfold refV
  go_enter Try.func129, Try.ntmps129
  go_wp2
  rw [← hw1]
  clear hw1
  go_loopw [5, 6] (fun v i wr => ∃ (k m : Nat), i = .int .i64 k ∧ k ≤ n ∧ wr.ownsRow w1.heap.size 60 3 v m (fvals (Dsk.del (D.files.take k) s.data.toList)) ∧ m = (Dsk.del (D.files.take k) s.data.toList).length ∧ Below w1.heap.size w1 wr) (fun _ i _ => n - (intOf i).toNat)
  case atStart => exact ⟨0, 0, rfl, Nat.zero_le _, World.ownsRow_nil _ _ _ _, rfl, Below.refl _ _⟩
  case round =>
    obtain ⟨k, m, rfl, hkn, hown, hm, hbl⟩ := hrel
    have Hown := Lib.hid hown
    have Hm := Lib.hid hm
    have Hbl := Lib.hid hbl
    have hbxr := (hbl.block _ (blk_lt Hbx.out)).trans Hbx.out
    have b1 := blk_cell hbxr 1
    clear hown hm hbl
    by_cases hlt : k < n
    · have hk : k < D.files.length := by rw [hl.out]; exact hlt
      obtain ⟨ad, b, o, nm, al, rfl, had, q0, q1, q2, e0, e1, z0, z1, en, ea⟩ := (H.out.below Hbl.out).at2 hk
      have hix := fun W => run_file_index ad n c k hlt W
      simp only [had] at hix
      have hwk : IntKind.i64.wrap ((k : Int) + 1) = (k : Int) + 1 := IntWalk.i64_in _ (by omega)
      have hds := del_take_succ D.files s.data.toList k hk
      have Hen := Lib.hid en
      have Hea := Lib.hid ea
      by_cases hnm : D.files[k].name = s.data.toList
      · have hg : (nm.toList == s.toList) = true := by rw [e0, Lib.toList_data s, hnm]; simp
        rw [if_pos hnm, List.append_nil] at hds
        have Hds := Lib.hid hds
        clear e0 e1 z0 z1 had hnm hds en ea
        go_wp2
        go_roundw
        case rel => exact ⟨k + 1, m, by simp, hlt, by rw [Hds.out]; exact Hown.out, by rw [Hds.out]; exact Hm.out, Hbl.out⟩
        case measure => simp [intOf]; omega
      · have hg : (nm.toList == s.toList) = false := by rw [e0, Lib.toList_data s]; simpa using hnm
        rw [if_neg hnm] at hds
        have Hds := Lib.hid hds
        have hmn : m ≤ 1048576 := by
          have := del_length (D.files.take k) s.data.toList
          rw [List.length_take] at this
          have := Hm.out
          omega
        have hle : w1.heap.size ≤ wr.heap.size := Hbl.out.size
        clear e0 e1 z0 z1 had hnm hds en ea
        go_wp2_with (at_builtin; refine wpList_append_file _ rfl _ _ rfl w1.heap.size _ m _ rfl (Hown.out.alloc _) wr.heap.size 1 D.files[k] rfl (by rw [Hen.out, Hea.out]; exact blk_new wr _) hmn (by simp; omega) ?_; intro v' w2 hown2 hgr2)
        go_roundw
        case rel =>
          have hb2 : Below w1.heap.size w1 w2 := (Hbl.out.alloc hle _).grown hgr2 (by simp; omega) (fun q hq => (Hown.out.lt q hq).1)
          exact ⟨k + 1, m + 1, by simp, hlt, by rw [Hds.out]; exact hown2, by rw [Hds.out, List.length_append, ← Hm.out]; rfl, hb2⟩
        case measure => simp [intOf]; omega
    · have hkn2 : k = n := by omega
      have ht : D.files.take k = D.files := List.take_of_length_le (by rw [hl.out]; omega)
      have Ht := Lib.hid ht
      obtain ⟨A2, c2, rfl, hf2, hc2⟩ := RFiles.of_own Hown.out
      have Hf2 := Lib.hid hf2
      have hrxr := (Hbl.out.block _ (blk_lt Hrx.out)).trans Hrx.out
      have b0 := blk_cell hbxr 0
      have b2 := blk_cell hbxr 2
      have b3 := blk_cell hbxr 3
      have b4 := blk_cell hbxr 4
      have f1 := blk_frozen hbxr 1
      have r0 := blk_cell hrxr 0
      have r1 := blk_cell hrxr 1
      have r2 := blk_cell hrxr 2
      have r3 := blk_cell hrxr 3
      have r4 := blk_cell hrxr 4
      have g0 := blk_frozen hrxr 0
      have g1 := blk_frozen hrxr 1
      have g2 := blk_frozen hrxr 2
      have g3 := blk_frozen hrxr 3
      have g4 := blk_frozen hrxr 4
      have Hbxr := Lib.hid hbxr
      have Hrxr := Lib.hid hrxr
      clear hkn2 ht hf2 hbxr hrxr
      go_wp2
      obtain ⟨w3, hw3⟩ : ∃ w3, w3 = (((((wr.setCell ⟨w.heap.size, 1, none⟩ (.slice A2 m c2)).setCell ⟨w.heap.size + 1, 0, none⟩ (.int .i64 D.room)).setCell ⟨w.heap.size + 1, 1, none⟩ (.slice A2 m c2)).setCell ⟨w.heap.size + 1, 2, none⟩ (.bool D.down)).setCell ⟨w.heap.size + 1, 3, none⟩ (.int .i64 D.armed)).setCell ⟨w.heap.size + 1, 4, none⟩ (.int .u64 D.steps) := ⟨_, rfl⟩
      rw [← hw3]
      have hne : w.heap.size + 1 ≠ w.heap.size := by omega
      have hx3 : w3.heap[w.heap.size + 1]? = some (.cells #[.int .i64 D.room, .slice A2 m c2, .bool D.down, .int .i64 D.armed, .int .u64 D.steps] 45 (0, 0)) := by
        rw [hw3]
        exact blk_set (blk_set (blk_set (blk_set (blk_set (blk_far Hrxr.out (p := ⟨w.heap.size, 1, none⟩) hne _) 0 _) 1 _) 2 _) 3 _) 4 _
      have hE3 : Ext [w.heap.size, w.heap.size + 1] wr w3 := by
        rw [hw3]
        exact (((((Ext.refl _ _).setCell (Or.inl (by simp)) _).setCell (Or.inl (by simp)) _).setCell (Or.inl (by simp)) _).setCell (Or.inl (by simp)) _).setCell (Or.inl (by simp)) _ |>.setCell (Or.inl (by simp)) _
      have hs1 := Hs1.out
      have hown3 : w3.ownsRow w1.heap.size 60 3 (.slice A2 m c2) m (fvals (Dsk.del D.files s.data.toList)) := by
        have := Hown.out
        rw [Ht.out] at this
        exact this.kept_ext hE3 (fun q hq => by simp at hq; omega)
      have hfr : ∀ ad, A2 = some ad → w.heap.size ≤ ad.block := fun ad he => by
        have := (hown3.lt ad.block (by rw [he]; rfl)).1
        omega
      obtain ⟨A3, c3, e3, hf3, hc3⟩ := RFiles.of_own hown3
      injection e3 with e3 _ e4
      subst e3 e4
      have x0 := blk_cell hx3 0
      have x1 := blk_cell hx3 1
      have x2 := blk_cell hx3 2
      have x3 := blk_cell hx3 3
      have x4 := blk_cell hx3 4
      clear hw3
      refine bodyPost_ret (v := refV { D with files := Dsk.del D.files s.data.toList } A2 m c2) (by simp [results, Try.results129, go_sem, refV, x0, x1, x2, x3, x4]) rfl ⟨A2, m, c2, rfl, hf3, hc3, ?_, hfr⟩
      exact Hbw.out.trans ((Hbl.out.mono (by omega)).trans (hE3.below (by have := Hbl.out.size; omega) (fun q hq => by simp at hq; omega)))
end Go.Proofs.Ytcfgdlpdnpnhmaa
