/- Contracts of the document's disk (curfewref23): New, Find, Free, named, step, without. -/
import Derived.Test.YtcfgdlpdnpnhmaaRef0
set_option linter.unusedVariables false
set_option linter.unusedSimpArgs false
namespace Go.Proofs.Ytcfgdlpdnpnhmaa
open Go.RowKit Go.Maps

theorem less_before : ∀ (a b : Bs), Op.bytesLess a b = bytesBefore a b
  | [], [] => rfl
  | _ :: _, [] => rfl
  | [], _ :: _ => rfl
  | a :: x, b :: y => by rw [Op.bytesLess, bytesBefore, less_before x y]

/-- A disk as the document's value: room, files at A, down, armed, steps. -/
def refV (D : Dsk) (A : Option Addr) (n c : Nat) : Value := .agg #[.int .i64 D.room, .slice A n c, .bool D.down, .int .i64 D.armed, .int .u64 D.steps]
/-- A call that answers a disk. -/
def RefIs (w : World) (D : Dsk) (e : Ending) (w' : World) : Prop := ∃ A n c, e = .returned (refV D A n c) ∧ RFiles w' A n D.files ∧ n ≤ c ∧ Below w.heap.size w w'

/-- The same, the files in a row of the call's own. -/
def RefNew (w : World) (D : Dsk) (e : Ending) (w' : World) : Prop := ∃ A n c, e = .returned (refV D A n c) ∧ RFiles w' A n D.files ∧ n ≤ c ∧ Below w.heap.size w w' ∧ ∀ ad, A = some ad → w.heap.size ≤ ad.block
theorem RFiles.far {S : List Nat} {w w' : World} {A : Option Addr} {n : Nat} {l : List File} (h : RFiles w A n l) (e : Ext S w w') (hs : ∀ ad, A = some ad → ad.block ∉ S) : RFiles w' A n l := by
  refine ⟨h.1, fun hn => ?_⟩
  obtain ⟨ad, ea, hc⟩ := h.2 hn
  refine ⟨ad, ea, fun j hj i hi => ?_⟩
  have h3 := hc j hj i hi
  have : ∃ v, w.cell? (ad.add (j * 3 + i)) = some v := by
    rw [h3]
    rcases i with _ | _ | _ | i <;> first | exact ⟨_, rfl⟩ | omega
  obtain ⟨v, hv⟩ := this
  rw [← h3]
  exact e.cell (cell_lt hv) (by rw [block_of_add]; exact hs ad ea)

def place (l : List File) (s : Bs) : Int := match l.findIdx? (fun f => f.name == s) with | none => -1 | some i => i

theorem refnew_calls (r : Int) (w : World) : Calls Try.prog 29 #[.int .i64 r] w (RefIs w (Dsk.new r)) := by
  go_enter Try.func29, Try.ntmps29
  go_wp2
  exact bodyPost_ret (v := refV (Dsk.new r) none 0 0) (by simp [results, Try.results29, go_sem, refV, Dsk.new]) rfl ⟨none, 0, 0, rfl, RFiles.nil _ _, Nat.le_refl _, (Below.refl _ _).alloc (Nat.le_refl _) _⟩

theorem refnamed_calls (s : ByteArray) (w : World) (hs : s.size ≤ 9223372036854775807) :
    Calls Try.prog 130 #[.string s] w fun e w' => e = .returned (.bool (Dsk.named s.data.toList)) ∧ w = w' := by
  have e1 : s.data.toList.length = s.size := by rw [Array.length_toList]; rfl
  have e2 : Dsk.named s.data.toList = decide (1 ≤ s.size ∧ s.size ≤ 16) := by unfold Dsk.named; rw [e1]
  rw [e2]
  clear e1 e2
  by_cases h1 : 1 ≤ s.size
  · by_cases h2 : s.size ≤ 16
    · go_enter Try.func130, Try.ntmps130
      go_wp2
      go_ret
      exact ⟨by simp [h1, h2]; omega, rfl⟩
    · go_enter Try.func130, Try.ntmps130
      go_wp2
      go_ret
      exact ⟨by simp [h1, h2]; omega, rfl⟩
  · go_enter Try.func130, Try.ntmps130
    go_wp2
    go_ret
    exact ⟨by simp [h1], rfl⟩

set_option maxRecDepth 100000 in
theorem reffind_calls (D : Dsk) (A : Option Addr) (n c : Nat) (s : ByteArray) (w : World) (h : RFiles w A n D.files) (hn : n ≤ 1048576) :
    Calls Try.prog 126 #[refV D A n c, .string s] w fun e w' => e = .returned (.int .i64 (place D.files s.data.toList)) ∧ w' = w.alloc (.cells #[.int .i64 D.room, .slice A n c, .bool D.down, .int .i64 D.armed, .int .u64 D.steps] 45) := by
  obtain ⟨w1, hw1⟩ : ∃ w1, w1 = w.alloc (.cells #[.int .i64 D.room, .slice A n c, .bool D.down, .int .i64 D.armed, .int .u64 D.steps] 45) := ⟨_, rfl⟩
  have hbw : Below w.heap.size w w1 := by rw [hw1]; exact (Below.refl _ _).alloc (Nat.le_refl _) _
  have hbx : w1.heap[w.heap.size]? = some (.cells #[.int .i64 D.room, .slice A n c, .bool D.down, .int .i64 D.armed, .int .u64 D.steps] 45 (0, 0)) := by rw [hw1]; exact blk_new w _
  have b1 := blk_cell hbx 1
  have h1 := h.below hbw
  have H := Lib.hid h1
  have hl := Lib.hid h.1
  have Hw1 := Lib.hid hw1
  have Hp : Hid (place D.files s.data.toList = match D.files.findIdx? (fun f => f.name == s.data.toList) with | none => -1 | some i => (i : Int)) := Lib.hid rfl
  clear h h1 hbw hbx
  unfold refV
  go_enter Try.func126, Try.ntmps126
  go_wp2
  rw [← hw1]
  clear hw1
  go_loop [5] (fun i => ∃ (k : Nat), i = .int .i64 k ∧ k ≤ n ∧ ∀ j, (hj : j < D.files.length) → j < k → D.files[j].name ≠ s.data.toList) (fun i => n - (intOf i).toNat)
  case atStart => exact ⟨0, rfl, Nat.zero_le _, fun j _ hj => absurd hj (by omega)⟩
  case round =>
    obtain ⟨k, rfl, hkn, hall⟩ := hrel
    have Hall := Lib.hid hall
    clear hall
    by_cases hlt : k < n
    · have hk : k < D.files.length := by rw [hl.out]; exact hlt
      obtain ⟨ad, b, o, nm, al, rfl, had, q0, q1, q2, e0, e1, z0, z1, _, _⟩ := H.out.at2 hk
      have hix := fun W => run_file_index ad n c k hlt W
      simp only [had] at hix
      have hwk : IntKind.i64.wrap ((k : Int) + 1) = (k : Int) + 1 := IntWalk.i64_in _ (by omega)
      by_cases hnm : D.files[k].name = s.data.toList
      · have hg : (nm.toList == s.toList) = true := by rw [e0, Lib.toList_data s, hnm]; simp
        have hpl : place D.files s.data.toList = k := by
          rw [Hp.out]
          have : D.files.findIdx? (fun f => f.name == s.data.toList) = some k := by
            rw [List.findIdx?_eq_some_iff_getElem]
            exact ⟨hk, by simp [hnm], fun j hj => by simp [Hall.out j (by omega) hj]⟩
          rw [this]
        have Hpl := Lib.hid hpl
        clear e0 e1 z0 z1 had hnm hpl
        go_wp2
        go_ret
        exact ⟨by rw [Hpl.out]; rfl, Hw1.out⟩
      · have hg : (nm.toList == s.toList) = false := by rw [e0, Lib.toList_data s]; simpa using hnm
        have Hnm := Lib.hid hnm
        clear e0 e1 z0 z1 had hnm
        go_wp2
        go_round
        case rel => exact ⟨k + 1, by simp, hlt, fun j hj hjk => by
          by_cases h : j = k
          · subst h; exact Hnm.out
          · exact Hall.out j hj (by omega)⟩
        case measure => simp [intOf]; omega
    · have hkn2 : k = n := by omega
      have hpl : place D.files s.data.toList = -1 := by
        rw [Hp.out]
        have : D.files.findIdx? (fun f => f.name == s.data.toList) = none := by
          rw [List.findIdx?_eq_none_iff]
          intro x hx
          obtain ⟨j, hj, rfl⟩ := List.getElem_of_mem hx
          simpa using Hall.out j hj (by have := hl.out; omega)
        rw [this]
      have Hpl := Lib.hid hpl
      clear hpl hkn2
      go_wp2
      go_ret
      exact ⟨by rw [Hpl.out]; rfl, Hw1.out⟩
end Go.Proofs.Ytcfgdlpdnpnhmaa
