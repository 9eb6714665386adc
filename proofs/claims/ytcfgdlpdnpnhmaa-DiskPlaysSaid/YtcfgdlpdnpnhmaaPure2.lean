/- Plain laws on a disk as a value: what its calls keep to (Dsk.Ok). -/
import Derived.Test.YtcfgdlpdnpnhmaaPure1
set_option linter.unusedVariables false
set_option linter.unusedSimpArgs false
namespace Go.Proofs.Ytcfgdlpdnpnhmaa
open Go
namespace Dsk

theorem mem_ins {f g : File} : ∀ {l : List File}, g ∈ ins f l ↔ g = f ∨ g ∈ l
  | [] => by simp [ins]
  | y :: r => by
    unfold ins
    split
    · simp
    · simp only [List.mem_cons, mem_ins (l := r)]
      constructor
      · rintro (h | h | h) <;> simp [h]
      · rintro (h | h | h) <;> simp [h]
theorem mem_del {g : File} {l : List File} {n : Bs} : g ∈ del l n ↔ g ∈ l ∧ g.name ≠ n := by
  unfold del
  rw [List.mem_filter]
  simp
theorem mem_put {g f : File} {l : List File} : g ∈ put l f ↔ g = f ∨ (g ∈ l ∧ g.name ≠ f.name) := by
  unfold put
  rw [mem_ins, mem_del]
theorem rising_del2 {l : List File} (h : Rising l) (n : Bs) : Rising (del l n) := List.Pairwise.sublist List.filter_sublist h
theorem rising_ins {f : File} : ∀ {l : List File}, Rising l → (∀ y ∈ l, y.name ≠ f.name) → Rising (ins f l)
  | [], _, _ => by simp [ins, Rising]
  | y :: r, h, hn => by
    unfold Rising at h
    rw [List.pairwise_cons] at h
    unfold ins
    split
    · rename_i hb
      unfold Rising
      rw [List.pairwise_cons]
      refine ⟨fun z hz => ?_, by rw [List.pairwise_cons]; exact h⟩
      rcases List.mem_cons.1 hz with rfl | hz
      · exact hb
      · exact WideShapes.bytes_trans _ _ _ hb (h.1 z hz)
    · rename_i hb
      have hyf : bytesBefore y.name f.name = true := (WideAt.bytes_total f.name y.name (fun e => hn y (by simp) e.symm)).resolve_left hb
      unfold Rising
      rw [List.pairwise_cons]
      refine ⟨fun z hz => ?_, rising_ins h.2 (fun z hz => hn z (by simp [hz]))⟩
      rcases mem_ins.1 hz with rfl | hz
      · exact hyf
      · exact h.1 z hz
theorem rising_put {l : List File} (h : Rising l) (f : File) : Rising (put l f) :=
  rising_ins (rising_del2 h _) (fun y hy => (mem_del.1 hy).2)
theorem sum_append (l m : List File) : sum (l ++ m) = sum l + sum m := by
  induction l with
  | nil => simp [sum]
  | cons f r ih => simp only [List.cons_append, sum, ih]; omega
theorem sum_ins (f : File) : ∀ l : List File, sum (ins f l) = f.all.length + sum l
  | [] => by simp [ins, sum]
  | y :: r => by
    unfold ins
    split
    · simp [sum]
    · simp only [sum, sum_ins f r]; omega
theorem sum_del_le (l : List File) (n : Bs) : sum (del l n) ≤ sum l := by
  induction l with
  | nil => simp [del, sum]
  | cons f r ih =>
    unfold del at *
    rw [List.filter_cons]
    split <;> simp only [sum] <;> omega
theorem sum_del_find {l : List File} {n : Bs} {f : File} (h : find l n = some f) : f.all.length + sum (del l n) ≤ sum l := by
  induction l with
  | nil => simp [find] at h
  | cons y r ih =>
    unfold find at h
    rw [List.find?_cons] at h
    by_cases hy : y.name = n
    · simp only [hy, beq_self_eq_true] at h
      cases h
      have := sum_del_le r n
      unfold del at *
      rw [List.filter_cons]
      simp only [hy, beq_self_eq_true, Bool.not_true, Bool.false_eq_true, if_false, sum]
      omega
    · have hyb : (y.name == n) = false := by simpa using hy
      simp only [hyb] at h
      have := ih h
      unfold del at *
      rw [List.filter_cons]
      simp only [hyb, Bool.not_false, if_true, sum]
      omega
end Dsk
end Go.Proofs.Ytcfgdlpdnpnhmaa
