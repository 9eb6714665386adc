/- Contracts of the document's disk (curfewref23): Read, Arm, Boot, Resize, Remove. -/
import Derived.Test.YtcfgdlpdnpnhmaaRef4
set_option linter.unusedVariables false
set_option linter.unusedSimpArgs false
namespace Go.Proofs.Ytcfgdlpdnpnhmaa
open Go.RowKit Go.Maps

theorem refarm_calls (D : Dsk) (A : Option Addr) (n c : Nat) (k : Int) (w : World) (h : RFiles w A n D.files) (hnc : n ≤ c) :
    Calls Try.prog 87 #[refV D A n c, .int .i64 k] w (RefPair w (D.arm k).1 (D.arm k).2) := by
  unfold refV
  cases hd : D.down
  · by_cases hk : k < 0
    · rw [show D.arm k = (D, 2) by unfold Dsk.arm; rw [hd, if_neg (by simp), if_pos hk]]
      go_enter Try.func87, Try.ntmps87
      go_wp2
      exact bodyPost_ret (v := .tuple #[.agg #[.int .i64 D.room, .slice A n c, .bool false, .int .i64 D.armed, .int .u64 D.steps], .int .i64 2]) (by simp [results, Try.results87, go_sem]) rfl ⟨A, n, c, by first | rfl | (unfold refV; rw [hd]), keep2 h hnc (al2 w _ _)⟩
    · rw [show D.arm k = ({ D with armed := k }, 0) by unfold Dsk.arm; rw [hd, if_neg (by simp), if_neg hk]]
      have g : decide (k < 0) = false := decide_eq_false hk
      have Hk := Lib.hid hk
      clear hk
      go_enter Try.func87, Try.ntmps87
      go_wp2
      exact bodyPost_ret (v := .tuple #[.agg #[.int .i64 D.room, .slice A n c, .bool false, .int .i64 k, .int .u64 D.steps], .int .i64 0]) (by simp [results, Try.results87, go_sem]) rfl ⟨A, n, c, by first | rfl | (unfold refV; rw [hd]), keep2 h hnc (al2 w _ _)⟩
  · rw [show D.arm k = (D, 50) by unfold Dsk.arm; rw [hd]; rfl]
    go_enter Try.func87, Try.ntmps87
    go_wp2
    exact bodyPost_ret (v := .tuple #[.agg #[.int .i64 D.room, .slice A n c, .bool true, .int .i64 D.armed, .int .u64 D.steps], .int .i64 50]) (by simp [results, Try.results87, go_sem]) rfl ⟨A, n, c, by first | rfl | (unfold refV; rw [hd]), keep2 h hnc (al2 w _ _)⟩

theorem refresize_calls (D : Dsk) (A : Option Addr) (n c : Nat) (k : Int) (w : World) (h : RFiles w A n D.files) (hnc : n ≤ c) :
    Calls Try.prog 91 #[refV D A n c, .int .i64 k] w (RefPair w (D.resize k).1 (D.resize k).2) := by
  unfold refV
  cases hd : D.down
  · by_cases hk : k < 0
    · rw [show D.resize k = (D, 2) by unfold Dsk.resize; rw [hd, if_neg (by simp), if_pos (Or.inl hk)]]
      go_enter Try.func91, Try.ntmps91
      go_wp2
      exact bodyPost_ret (v := .tuple #[.agg #[.int .i64 D.room, .slice A n c, .bool false, .int .i64 D.armed, .int .u64 D.steps], .int .i64 2]) (by simp [results, Try.results91, go_sem]) rfl ⟨A, n, c, by first | rfl | (unfold refV; rw [hd]), keep2 h hnc (al2 w _ _)⟩
    · have g : decide (k < 0) = false := decide_eq_false hk
      by_cases hk2 : 1048576 < k
      · rw [show D.resize k = (D, 2) by unfold Dsk.resize; rw [hd, if_neg (by simp), if_pos (Or.inr hk2)]]
        have g2 : decide (1048576 < k) = true := decide_eq_true hk2
        clear hk hk2
        go_enter Try.func91, Try.ntmps91
        go_wp2
        exact bodyPost_ret (v := .tuple #[.agg #[.int .i64 D.room, .slice A n c, .bool false, .int .i64 D.armed, .int .u64 D.steps], .int .i64 2]) (by simp [results, Try.results91, go_sem]) rfl ⟨A, n, c, by first | rfl | (unfold refV; rw [hd]), keep2 h hnc (al2 w _ _)⟩
      · rw [show D.resize k = ({ D with room := k }, 0) by unfold Dsk.resize; rw [hd, if_neg (by simp), if_neg (by omega)]]
        have g2 : decide (1048576 < k) = false := decide_eq_false hk2
        clear hk hk2
        go_enter Try.func91, Try.ntmps91
        go_wp2
        exact bodyPost_ret (v := .tuple #[.agg #[.int .i64 k, .slice A n c, .bool false, .int .i64 D.armed, .int .u64 D.steps], .int .i64 0]) (by simp [results, Try.results91, go_sem]) rfl ⟨A, n, c, by first | rfl | (unfold refV; rw [hd]), keep2 h hnc (al2 w _ _)⟩
  · rw [show D.resize k = (D, 50) by unfold Dsk.resize; rw [hd]; rfl]
    go_enter Try.func91, Try.ntmps91
    go_wp2
    exact bodyPost_ret (v := .tuple #[.agg #[.int .i64 D.room, .slice A n c, .bool true, .int .i64 D.armed, .int .u64 D.steps], .int .i64 50]) (by simp [results, Try.results91, go_sem]) rfl ⟨A, n, c, by first | rfl | (unfold refV; rw [hd]), keep2 h hnc (al2 w _ _)⟩

theorem refboot_calls (D : Dsk) (A : Option Addr) (n c : Nat) (w : World) (h : RFiles w A n D.files) (hnc : n ≤ c) :
    Calls Try.prog 90 #[refV D A n c] w (RefIs w D.boot) := by
  unfold refV
  go_enter Try.func90, Try.ntmps90
  go_wp2
  exact bodyPost_ret (v := .agg #[.int .i64 D.room, .slice A n c, .bool false, .int .i64 (-1), .int .u64 D.steps]) (by simp [results, Try.results90, go_sem]) rfl ⟨A, n, c, rfl, keep2 h hnc (al2 w _ _)⟩

def RefRead (w : World) (l : Bs) (code : Int) (e : Ending) (w' : World) : Prop := e = .returned (.tuple #[encStr l, .int .i64 code]) ∧ Below w.heap.size w w'
set_option maxRecDepth 100000 in
theorem refread_calls (D : Dsk) (A : Option Addr) (n c : Nat) (s : ByteArray) (w : World) (h : RFiles w A n D.files) (hn : n ≤ 1048000) :
    Calls Try.prog 86 #[refV D A n c, .string s] w (RefRead w (D.read s.data.toList).1 (D.read s.data.toList).2) := by
  have Hf := Lib.hid (fun w1 (hb : Below w.heap.size w w1) => reffind_calls D A n c s w1 (h.below hb) (by omega))
  unfold refV at Hf
  unfold refV
  cases hd : D.down
  · rw [hd] at Hf
    cases hfd : Dsk.find D.files s.data.toList with
    | none =>
      rw [show D.read s.data.toList = ([], 31) by unfold Dsk.read; rw [hd, hfd]; rfl]
      rw [place_none hfd] at Hf
      clear h hfd
      go_enter Try.func86, Try.ntmps86
      go_wp2_with (go_at_call 126; refine (Hf.out _ (al1 w _)).mono ?_; rintro e w2 ⟨rfl, rfl⟩)
      go_ret2
      exact ⟨rfl, al2 w _ _⟩
    | some f =>
      rw [show D.read s.data.toList = (f.all, 0) by unfold Dsk.read; rw [hd, hfd]; rfl]
      obtain ⟨i, hi, hp, hfi⟩ := place_some hfd
      rw [hp] at Hf
      have hii : i < n := by have := h.1; omega
      have Hfi := Lib.hid hfi
      have H := Lib.hid h
      clear h hfd hfi hp
      go_enter Try.func86, Try.ntmps86
      go_upto_region 6 with (go_at_call 126; refine (Hf.out _ (al1 w _)).mono ?_; rintro e w2 ⟨rfl, hw2⟩; have hb2 : Below w.heap.size w w2 := (by rw [hw2]; exact al2 w _ _); have hx2 : w2.heap[w.heap.size]? = some (.cells #[.int .i64 D.room, .slice A n c, .bool false, .int .i64 D.armed, .int .u64 D.steps] 45 (0, 0)) := (by rw [hw2]; exact blk_alloc (blk_new w _) _); clear hw2)
      obtain ⟨ad, b, o, nm, al, rfl, had, q0, q1, q2, e0, e1, z0, z1, en, ea⟩ := (H.out.below hb2).at2 hi
      rw [Hfi.out] at ea
      have hix := fun W => run_file_index ad n c i hii W
      simp only [had] at hix
      have b1 := blk_cell hx2 1
      have Hb2 := Lib.hid hb2
      have Hea := Lib.hid ea
      clear hb2 hx2 e0 e1 z0 z1 had en ea
      go_wp2
      go_ret2
      exact ⟨by rw [Hea.out]; rfl, Hb2.out⟩
  · rw [show D.read s.data.toList = ([], 50) by unfold Dsk.read; rw [hd]; rfl]
    clear h
    go_enter Try.func86, Try.ntmps86
    go_wp2
    go_ret2
    exact ⟨rfl, al1 w _⟩
end Go.Proofs.Ytcfgdlpdnpnhmaa
