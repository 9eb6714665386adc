/- Contract of package disk: Names. -/
import Derived.Test.YtcfgdlpdnpnhmaaDisk7
import Derived.Test.YtcfgdlpdnpnhmaaIter
set_option linter.unusedVariables false
set_option linter.unusedSimpArgs false
namespace Go.Proofs.Ytcfgdlpdnpnhmaa
open Go.RowKit Go.Maps Go.WideMaps Go.Sort

theorem before_le : ∀ (a b : Bs), bytesBefore a b = true → a ≤ b := by
  intro a
  induction a with
  | nil => intro b _; exact List.nil_le b
  | cons x r ih =>
    intro b h
    cases b with
    | nil => simp [bytesBefore] at h
    | cons y s =>
      simp only [bytesBefore, Bool.or_eq_true, decide_eq_true_eq, Bool.and_eq_true, beq_iff_eq] at h
      rw [List.cons_le_cons_iff]
      rcases h with h | ⟨rfl, h⟩
      · exact Or.inl h
      · exact Or.inr ⟨rfl, ih s h⟩

/-- Strings in a row. -/
def strVals (l : List Bs) : List Value := l.map encStr
/-- What Names answers: the names, rising, in a row of the call's own. -/
def NamesGives (w : World) (l : List Bs) (e : Ending) (w' : World) : Prop :=
  ∃ v, e = .returned v ∧ w'.ownsRow w.heap.size 9 1 v l.length (strVals l) ∧ Below w.heap.size w w'

theorem strKeys_dat (es : Ents) : strKeys (dat es) = es.map fun p => p.1.name := by
  simp only [strKeys, dat, List.map_map]
  rfl

theorem names_calls (d mp mt : Nat) (D : Dsk) (w : World) (h : IsDisk w d mp mt D) (hr : Dsk.Rising D.files) (hlen : D.files.length ≤ 1048576) :
    Calls Try.prog 31 #[.pointer (some ⟨d, 0, none⟩)] w (NamesGives w (D.files.map (·.name))) := by
  have hu := none_calls d mp mt D w h
  have c0 := h.c0
  obtain ⟨es, he, hc, hown⟩ := h.map
  have hl : es.length = D.files.length := by rw [← he, List.length_map]
  have hK := callsIn_wide.1 (Try.maps_Keys_95 (some mp) w)
  have hS := callsIn_wide.1 (Try.slices_Sorted_keys_94_95 mp es.length (dat es) RV w hown (by simp [dat, Maps.size, maxLen]; omega) (by simp [dat, Maps.size]; omega))
  have Hu := Lib.hid hu
  have HK := Lib.hid hK
  have HS := Lib.hid hS
  have He := Lib.hid he
  have Hl := Lib.hid hl
  clear hu hK hS he hl
  go_enter Try.func31, Try.ntmps31
  go_wp2_with (first
    | (go_at_call 93; refine Hu.out.mono ?_; rintro e w' ⟨rfl, rfl⟩)
    | (go_at_call 95; refine HK.out.mono ?_; rintro e w' ⟨rfl, rfl⟩)
    | (go_at_call 94; refine HS.out.mono ?_; rintro e w' ⟨v, ss, rfl, hP, hrow, hnil, hb⟩))
  go_ret
  have hkeys : strKeys (dat es) = D.files.map (·.name) := by
    rw [strKeys_dat, ← He.out, List.map_map]
    rfl
  have hsort : ss.mergeSort (fun x y => decide (x ≤ y)) = D.files.map (·.name) := by
    rw [mergeSort_of_perm hP, hkeys]
    refine List.mergeSort_of_pairwise ?_
    rw [List.pairwise_map]
    exact hr.imp (fun hab => by simpa [leB] using before_le _ _ hab)
  rw [hsort] at hrow
  have hsl : ss.length = D.files.length := by rw [hP.length_eq, hkeys, List.length_map]
  rw [hsl] at hrow
  refine ⟨v, rfl, ?_, ?_⟩
  · rw [List.length_map]
    exact hrow.rebase (by simp)
  · exact ((Below.refl _ _).alloc (Nat.le_refl _) _).trans (hb.mono (by simp))

end Go.Proofs.Ytcfgdlpdnpnhmaa
