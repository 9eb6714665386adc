/- Plain laws on a disk as a value: Dsk.Ok is kept by each call. -/
import Derived.Test.YtcfgdlpdnpnhmaaPure2
set_option linter.unusedVariables false
set_option linter.unusedSimpArgs false
namespace Go.Proofs.Ytcfgdlpdnpnhmaa
open Go
namespace Dsk

theorem len_ins (f : File) (l : List File) : (ins f l).length = l.length + 1 := by
  induction l with
  | nil => rfl
  | cons y r ih => unfold ins; split <;> simp [ih]
theorem len_del_le (l : List File) (n : Bs) : (del l n).length ≤ l.length := List.length_filter_le _ _
theorem len_del_find {l : List File} {n : Bs} {f : File} (h : find l n = some f) : (del l n).length + 1 ≤ l.length := by
  have hm := List.mem_of_find?_eq_some h
  have hn : f.name = n := by have := List.find?_some h; simpa using this
  have : (del l n).length < l.length := by
    unfold del
    refine List.length_filter_lt_length_iff_exists.2 ⟨f, hm, by simp [hn]⟩
  omega
theorem Ok.step {D : Dsk} (h : D.Ok) : D.step.1.Ok := by
  unfold Dsk.step
  split
  · exact ⟨h.room0, h.room1, h.sum, h.many, h.names, h.kept, h.rising, by simp, by simp⟩
  · split
    · rename_i h0 h1
      have := h.armed1
      exact ⟨h.room0, h.room1, h.sum, h.many, h.names, h.kept, h.rising, by show -1 ≤ D.armed - 1; omega, by show D.armed - 1 ≤ _; omega⟩
    · exact ⟨h.room0, h.room1, h.sum, h.many, h.names, h.kept, h.rising, h.armed0, h.armed1⟩
/-- A file is put. -/
theorem Ok.put {D : Dsk} (h : D.Ok) {f : File} (hs : Dsk.sum (Dsk.put D.files f) ≤ 1048576) (hm : (Dsk.put D.files f).length ≤ 128) (hn : 1 ≤ f.name.length ∧ f.name.length ≤ 16) (hk : f.kept ≤ f.all.length) : ({ D with files := Dsk.put D.files f } : Dsk).Ok :=
  ⟨h.room0, h.room1, hs, hm, fun g hg => by
    rcases mem_put.1 hg with rfl | hg
    · exact hn
    · exact h.names g hg.1, fun g hg => by
    rcases mem_put.1 hg with rfl | hg
    · exact hk
    · exact h.kept g hg.1, rising_put h.rising f, h.armed0, h.armed1⟩
theorem Ok.del {D : Dsk} (h : D.Ok) (n : Bs) : ({ D with files := Dsk.del D.files n } : Dsk).Ok :=
  ⟨h.room0, h.room1, Nat.le_trans (sum_del_le _ _) h.sum, Nat.le_trans (len_del_le _ _) h.many, fun g hg => h.names g (mem_del.1 hg).1, fun g hg => h.kept g (mem_del.1 hg).1, rising_del2 h.rising n, h.armed0, h.armed1⟩
theorem find_name {l : List File} {n : Bs} {f : File} (h : find l n = some f) : f ∈ l ∧ f.name = n := ⟨List.mem_of_find?_eq_some h, by have := List.find?_some h; simpa using this⟩
/-- A file that is there is put anew, not longer. -/
theorem Ok.put_found {D : Dsk} (h : D.Ok) {n : Bs} {f g : File} (hf : find D.files n = some f) (hg : g.name = n) (hl : g.all.length ≤ f.all.length) (hk : g.kept ≤ g.all.length) : ({ D with files := Dsk.put D.files g } : Dsk).Ok := by
  obtain ⟨hm, hfn⟩ := find_name hf
  refine h.put ?_ ?_ (by rw [hg, ← hfn]; exact h.names f hm) hk
  · unfold Dsk.put
    rw [sum_ins, hg]
    have := sum_del_find hf
    have := h.sum
    omega
  · unfold Dsk.put
    rw [len_ins, hg]
    have := len_del_find hf
    have := h.many
    omega
theorem step_files' (D : Dsk) : D.step.1.files = D.files := by unfold Dsk.step; split; rfl; split <;> rfl
theorem Ok.sync {D : Dsk} (h : D.Ok) (n : Bs) : (D.sync n).1.Ok := by
  unfold Dsk.sync
  split
  · exact h
  · split
    · exact h
    · rename_i f hf
      split
      · exact h.step
      · exact h.step.put_found (n := n) (f := f) (by rw [step_files']; exact hf) rfl (Nat.le_refl _) (Nat.le_refl _)
theorem Ok.cut {D : Dsk} (h : D.Ok) (n : Bs) (k : Int) : (D.cut n k).1.Ok := by
  unfold Dsk.cut
  split
  · exact h
  · split
    · exact h
    · rename_i f hf
      split
      · exact h
      · split
        · exact h.step
        · rename_i hk _
          refine h.step.put_found (n := n) (f := f) (by rw [step_files']; exact hf) rfl ?_ ?_
          · show (f.all.take k.toNat).length ≤ _
            rw [List.length_take]; omega
          · show min f.kept k.toNat ≤ (f.all.take k.toNat).length
            have := h.kept f (find_name hf).1
            rw [List.length_take]; omega
theorem Ok.remove {D : Dsk} (h : D.Ok) (n : Bs) : (D.remove n).1.Ok := by
  unfold Dsk.remove
  split
  · exact h
  · split
    · exact h
    · split
      · exact h.step
      · exact h.step.del n
theorem Ok.arm {D : Dsk} (h : D.Ok) (k : Int) (hk : k ≤ 9223372036854775807) : (D.arm k).1.Ok := by
  unfold Dsk.arm
  split
  · exact h
  · split
    · exact h
    · exact ⟨h.room0, h.room1, h.sum, h.many, h.names, h.kept, h.rising, by show -1 ≤ k; omega, hk⟩
theorem Ok.resize {D : Dsk} (h : D.Ok) (k : Int) : (D.resize k).1.Ok := by
  unfold Dsk.resize
  split
  · exact h
  · split
    · exact h
    · exact ⟨by show 0 ≤ k; omega, by show k ≤ 1048576; omega, h.sum, h.many, h.names, h.kept, h.rising, h.armed0, h.armed1⟩
theorem Ok.boot {D : Dsk} (h : D.Ok) : D.boot.Ok := ⟨h.room0, h.room1, h.sum, h.many, h.names, h.kept, h.rising, by simp [Dsk.boot], by simp [Dsk.boot]⟩
theorem Ok.move {D : Dsk} (h : D.Ok) (n m : Bs) : (D.move n m).1.Ok := by
  unfold Dsk.move
  split
  · exact h
  · split
    · exact h
    · rename_i f hf
      split
      · exact h
      · rename_i hnm
        split
        · exact h.step
        · have hfs : find D.step.1.files n = some f := by rw [step_files']; exact hf
          have h1 := h.step
          have hs := sum_del_find hfs
          have hl := len_del_find hfs
          have hs1 := h1.sum
          have hm1 := h1.many
          refine (h1.del n).put (f := ⟨m, f.all, f.kept⟩) ?_ ?_ ?_ (h.kept f (find_name hf).1)
          · unfold Dsk.put
            rw [sum_ins]
            have := sum_del_le (Dsk.del D.step.1.files n) m
            show f.all.length + Dsk.sum (Dsk.del (Dsk.del D.step.1.files n) m) ≤ _
            omega
          · unfold Dsk.put
            rw [len_ins]
            have := len_del_le (Dsk.del D.step.1.files n) m
            show (Dsk.del (Dsk.del D.step.1.files n) m).length + 1 ≤ _
            omega
          · simpa [Dsk.named] using hnm
theorem fits {D : Dsk} {b : Bs} (h : ¬ D.free < (b.length : Int)) : b.length = 0 ∨ (Dsk.sum D.files : Int) + b.length ≤ D.room := by
  unfold Dsk.free at h
  by_cases h0 : 0 ≤ D.room - (Dsk.sum D.files : Int)
  · rw [if_pos h0] at h; omega
  · rw [if_neg h0] at h; omega
theorem Ok.append {D : Dsk} (h : D.Ok) (n b : Bs) : (D.append n b).1.Ok := by
  unfold Dsk.append
  split
  · exact h
  · split
    · exact h
    · rename_i hnm
      have hnm' : 1 ≤ n.length ∧ n.length ≤ 16 := by simpa [Dsk.named] using hnm
      split
      · rename_i hf
        split
        · exact h
        · rename_i hc
          refine Ok.step (h.put (f := ⟨n, b, 0⟩) ?_ ?_ hnm' (Nat.zero_le _))
          · unfold Dsk.put
            rw [sum_ins]
            have := sum_del_le D.files n
            have := h.room1
            have := h.sum
            have hfit := fits (b := b) (D := D) (by omega)
            show b.length + Dsk.sum (Dsk.del D.files n) ≤ _
            omega
          · unfold Dsk.put
            rw [len_ins]
            have := len_del_le D.files n
            show (Dsk.del D.files n).length + 1 ≤ _
            omega
      · rename_i f hf
        split
        · exact h
        · rename_i hc
          refine Ok.step (h.put (f := ⟨n, f.all ++ b, f.kept⟩) ?_ ?_ hnm' ?_)
          · unfold Dsk.put
            rw [sum_ins]
            have := sum_del_find hf
            have := h.room1
            have := h.sum
            have hfit := fits (b := b) (D := D) hc
            show (f.all ++ b).length + Dsk.sum (Dsk.del D.files n) ≤ _
            rw [List.length_append]
            omega
          · unfold Dsk.put
            rw [len_ins]
            have := len_del_find hf
            have := h.many
            show (Dsk.del D.files n).length + 1 ≤ _
            omega
          · have := h.kept f (find_name hf).1
            show f.kept ≤ (f.all ++ b).length
            rw [List.length_append]; omega
end Dsk
end Go.Proofs.Ytcfgdlpdnpnhmaa
