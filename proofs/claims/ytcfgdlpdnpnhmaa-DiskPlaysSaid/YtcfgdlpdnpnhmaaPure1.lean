/- Plain laws on the files of a disk: an element in the middle of a rising list is found, put, struck where it stands. -/
import Derived.Test.YtcfgdlpdnpnhmaaModel
namespace Go.Proofs.Ytcfgdlpdnpnhmaa
open Go
namespace Dsk

theorem before_irr (a : Bs) : bytesBefore a a = false := WideAt.bytes_irrefl a
theorem before_asymm {a b : Bs} (h : bytesBefore a b = true) : bytesBefore b a = false := by
  cases h2 : bytesBefore b a with
  | false => rfl
  | true =>
    have := WideShapes.bytes_trans a b a h h2
    rw [before_irr] at this
    cases this
theorem before_ne {a b : Bs} (h : bytesBefore a b = true) : a ≠ b := by
  rintro rfl
  rw [before_irr] at h
  cases h
theorem rising_mid {done r : List File} {f : File} (h : Rising (done ++ f :: r)) :
    (∀ y ∈ done, bytesBefore y.name f.name = true) ∧ (∀ y ∈ r, bytesBefore f.name y.name = true) := by
  unfold Rising at h
  rw [List.pairwise_append] at h
  obtain ⟨_, h2, h3⟩ := h
  rw [List.pairwise_cons] at h2
  exact ⟨fun y hy => h3 y hy f (by simp), fun y hy => h2.1 y hy⟩
theorem rising_of_names {l l' : List File} (h : Rising l) (e : l'.map (·.name) = l.map (·.name)) : Rising l' := by
  unfold Rising at *
  have h1 : (l.map (·.name)).Pairwise (fun a b => bytesBefore a b = true) := by rw [List.pairwise_map]; exact h
  rw [← e, List.pairwise_map] at h1
  exact h1
theorem rising_del {done r : List File} {f : File} (h : Rising (done ++ f :: r)) : Rising (done ++ r) := by
  unfold Rising at *
  exact h.sublist (List.Sublist.append (List.Sublist.refl _) (List.sublist_cons_self _ _))
theorem find_mid {done r : List File} {f : File} (h : Rising (done ++ f :: r)) : find (done ++ f :: r) f.name = some f := by
  obtain ⟨h1, _⟩ := rising_mid h
  unfold find
  rw [List.find?_append, List.find?_eq_none.2 (fun y hy => by simpa using before_ne (h1 y hy))]
  simp
theorem del_all {l : List File} {n : Bs} (h : ∀ y ∈ l, y.name ≠ n) : del l n = l := by
  unfold del
  rw [List.filter_eq_self]
  intro y hy
  simpa using h y hy
theorem del_mid {done r : List File} {f : File} (h : Rising (done ++ f :: r)) : del (done ++ f :: r) f.name = done ++ r := by
  obtain ⟨h1, h2⟩ := rising_mid h
  have e1 := del_all (l := done) (n := f.name) (fun y hy => before_ne (h1 y hy))
  have e2 := del_all (l := r) (n := f.name) (fun y hy => Ne.symm (before_ne (h2 y hy)))
  unfold del at *
  rw [List.filter_append, e1, List.filter_cons_of_neg (by simp), e2]
theorem ins_mid {f : File} : ∀ {done r : List File}, (∀ y ∈ done, bytesBefore y.name f.name = true) → (∀ y ∈ r, bytesBefore f.name y.name = true) → ins f (done ++ r) = done ++ f :: r
  | [], [], _, _ => rfl
  | [], y :: r, _, h2 => by
    show (if bytesBefore f.name y.name then f :: y :: r else y :: ins f r) = _
    rw [if_pos (h2 y (by simp))]
    rfl
  | x :: done, r, h1, h2 => by
    show (if bytesBefore f.name x.name then f :: x :: (done ++ r) else x :: ins f (done ++ r)) = _
    rw [if_neg (by rw [before_asymm (h1 x (by simp))]; simp), ins_mid (fun y hy => h1 y (by simp [hy])) h2]
    rfl
theorem put_mid {done r : List File} {f f' : File} (h : Rising (done ++ f :: r)) (hn : f'.name = f.name) : put (done ++ f :: r) f' = done ++ f' :: r := by
  unfold put
  rw [hn, del_mid h]
  obtain ⟨h1, h2⟩ := rising_mid h
  exact ins_mid (by rw [hn]; exact h1) (by rw [hn]; exact h2)
theorem torn_length (l : Bs) (t : Nat × Nat) : (torn l t).length ≤ l.length := by
  unfold torn
  dsimp only
  split
  · simp only [List.length_set, List.length_take]; omega
  · simp only [List.length_take]; omega
theorem crashFile_name (f : File) (ts : List (Nat × Nat)) : (crashFile f ts).1.name = f.name := by
  unfold crashFile
  split <;> rfl

end Dsk
end Go.Proofs.Ytcfgdlpdnpnhmaa
