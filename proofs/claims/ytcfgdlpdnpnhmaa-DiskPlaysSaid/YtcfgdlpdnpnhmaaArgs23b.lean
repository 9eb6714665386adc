/- What a []Op that came in holds. -/
import Derived.Test.YtcfgdlpdnpnhmaaArgs23
import Derived.Deep.Slices
set_option linter.unusedVariables false
set_option linter.unusedSimpArgs false
namespace Go.Proofs.Ytcfgdlpdnpnhmaa
open Go.Deep

theorem mapM_at {α β : Type} (f : α → Option β) : ∀ (l : List α) (cs : List β), l.mapM f = some cs → cs.length = l.length ∧ ∀ i (h : i < l.length), f l[i] = cs[i]?
  | [], cs, h => by
    simp at h
    subst h
    exact ⟨rfl, fun i hi => absurd hi (by simp)⟩
  | a :: l, cs, h => by
    simp only [List.mapM_cons, Option.bind_eq_bind, Option.bind_eq_some_iff, Option.pure_def, Option.some.injEq] at h
    obtain ⟨r, hr, rs, hrs, rfl⟩ := h
    obtain ⟨h1, h2⟩ := mapM_at f l rs hrs
    refine ⟨by simp [h1], fun i hi => ?_⟩
    cases i with
    | zero => simpa using hr
    | succ i => simpa using h2 i (by simpa using hi)
theorem cells?_at {w : World} {base n : Nat} {a : Addr} {cs : List Value} (h : w.cells? base a n = some cs) : cs.length = n ∧ ∀ i, i < n → w.cell? (a.add i) = cs[i]? := by
  unfold World.cells? at h
  split at h
  · obtain ⟨h1, h2⟩ := mapM_at _ _ _ h
    rw [List.length_range] at h1
    refine ⟨h1, fun i hi => ?_⟩
    have := h2 i (by simpa using hi)
    simpa using this
  · cases h

section
variable {H : Type} {enc : TypeId × Value → H} {w : World} {base : Nat} {spare : Nat → Bool} {held : Bool}
theorem ops_open {fuel : Nat} {cs : List Value} {x : DataW H × List MemPlace} (h : DataW.trod enc Try.prog w base spare held fuel 39 cs = some x) :
    ∃ A n c l, cs = [.slice A n c] ∧ Ops w A n l ∧ n ≤ c ∧ (n = 0 ∨ ∃ el sp, x.1 = .slice el sp ∧ el.length = n) := by
  rcases open_slice Try.underlying39 h with ⟨rfl, _⟩ | ⟨a, len, cap, m, n, V, P, rfl, _, hl, _, hm, hx, hel⟩
  · exact ⟨none, 0, 0, [], rfl, ⟨rfl, fun h => absurd h (by omega)⟩, Nat.le_refl _, Or.inl rfl⟩
  · have hlm : len ≤ m := by rw [hm]; split <;> omega
    have each : ∀ i, i < len → ∃ o : Opp, ∃ cs, OpCells w cs o ∧ ∀ j, j < 6 → w.cell? (a.add (i * 6 + j)) = cs[j]? := by
      intro i hi
      obtain ⟨cs', h1, h2⟩ := hel i (by omega)
      rw [cells_op] at h1
      obtain ⟨o, ho⟩ := op_open h2
      obtain ⟨h3, h4⟩ := cells?_at h1
      refine ⟨o, cs', ho, fun j hj => ?_⟩
      rw [← h4 j hj, add_of_add]
    obtain ⟨f, hf⟩ := choose_lt each
    refine ⟨some a, len, cap, (List.range len).map f, rfl, ⟨by simp, fun hn => ⟨a, rfl, fun j hj => ?_⟩⟩, hl, Or.inr ⟨_, _, by rw [hx], by simp⟩⟩
    have hg : ((List.range len).map f).getD j default = f j := by simp [List.getD_eq_getElem?_getD, hj]
    rw [hg]
    exact hf j hj
end
end Go.Proofs.Ytcfgdlpdnpnhmaa
