/- What package disk's Files answers: a row of files, each with two rows of bytes. -/
import Derived.Test.YtcfgdlpdnpnhmaaDisk12
import Derived.Test.YtcfgdlpdnpnhmaaConv
set_option linter.unusedVariables false
set_option linter.unusedSimpArgs false
namespace Go.Proofs.Ytcfgdlpdnpnhmaa
open Go.RowKit Go.Maps

/-- A row under growth of a row of another element type. -/
theorem _root_.Go.World.ownsRow.kept_type {w w' : World} {base base' : Nat} {e e' : TypeId} {size size' : Nat} {v v' : Value} {n n' : Nat} {xs xs' : List Value} (h : w.ownsRow base e size v n xs) (hr : w.ownsRow base' e' size' v' n' xs') (hne : e ≠ e') (hg : w.grownBy w' v'.ownBlock) : w'.ownsRow base e size v n xs := by
  refine h.kept hg ?_
  rcases h.2 with ⟨rfl, _⟩ | ⟨g, cap, cur, rfl, _, hb, _⟩
  · exact Or.inl rfl
  · right
    intro he
    rcases hr.2 with ⟨rfl, _⟩ | ⟨g', cap', cur', rfl, _, hb', _⟩
    · simp [Value.ownBlock] at he
    · simp only [Value.ownBlock, Option.some.injEq] at he
      subst he
      rw [hb] at hb'
      simp at hb'
      exact hne hb'.2

/-- One answered file: its name, its kept bytes, its loose bytes. -/
structure DEl (w : World) (base : Nat) (u : Value × Value × Value) (f : File) : Prop where
  name : u.1 = encStr f.name
  kept : ∃ A c, u.2.1 = .slice A (f.all.take f.kept).length c ∧ w.ownsRow base 5 1 u.2.1 (f.all.take f.kept).length (vals (f.all.take f.kept))
  loose : ∃ A c, u.2.2 = .slice A (f.all.drop f.kept).length c ∧ w.ownsRow base 5 1 u.2.2 (f.all.drop f.kept).length (vals (f.all.drop f.kept))
theorem _root_.Go.World.ownsRow.below' {w w' : World} {base : Nat} {e : TypeId} {size : Nat} {v : Value} {n : Nat} {xs : List Value} (h : w.ownsRow base e size v n xs) (hb : Below w.heap.size w w') : w'.ownsRow base e size v n xs := by
  refine ⟨h.1, ?_⟩
  rcases h.2 with hn | ⟨g, cap, cur, rfl, hg, hgg, rest⟩
  · exact .inl hn
  · exact .inr ⟨g, cap, cur, rfl, hg, (hb.block _ (blk_lt hgg)).trans hgg, rest⟩
theorem DEl.below {w w' : World} {base : Nat} {u : Value × Value × Value} {f : File} (h : DEl w base u f) (hb : Below w.heap.size w w') : DEl w' base u f := by
  obtain ⟨A, c, h1, h2⟩ := h.kept
  obtain ⟨B, d, h3, h4⟩ := h.loose
  exact ⟨h.name, ⟨A, c, h1, h2.below' hb⟩, ⟨B, d, h3, h4.below' hb⟩⟩
theorem DEl.grown {w w' : World} {base base' : Nat} {u : Value × Value × Value} {f : File} {e' : TypeId} {size' : Nat} {v' : Value} {n' : Nat} {xs' : List Value} (h : DEl w base u f) (hr : w.ownsRow base' e' size' v' n' xs') (hne : 5 ≠ e') (hg : w.grownBy w' v'.ownBlock) : DEl w' base u f := by
  obtain ⟨A, c, h1, h2⟩ := h.kept
  obtain ⟨B, d, h3, h4⟩ := h.loose
  exact ⟨h.name, ⟨A, c, h1, h2.kept_type hr hne hg⟩, ⟨B, d, h3, h4.kept_type hr hne hg⟩⟩
theorem DEl.rebase {w : World} {base base' : Nat} {u : Value × Value × Value} {f : File} (h : DEl w base u f) (hb : base' ≤ base) : DEl w base' u f := by
  obtain ⟨A, c, h1, h2⟩ := h.kept
  obtain ⟨B, d, h3, h4⟩ := h.loose
  exact ⟨h.name, ⟨A, c, h1, h2.rebase hb⟩, ⟨B, d, h3, h4.rebase hb⟩⟩

def dvals (us : List (Value × Value × Value)) : List Value := us.flatMap fun u => [u.1, u.2.1, u.2.2]
theorem dvals_append (l m : List (Value × Value × Value)) : dvals (l ++ m) = dvals l ++ dvals m := by simp [dvals]
theorem dvals_length (l : List (Value × Value × Value)) : (dvals l).length = l.length * 3 := by
  induction l with
  | nil => rfl
  | cons f r ih =>
    have e : dvals (f :: r) = [f.1, f.2.1, f.2.2] ++ dvals r := by simp [dvals]
    rw [e, List.length_append, ih]
    simp; omega
theorem dvals_get : ∀ (l : List (Value × Value × Value)) (j : Nat) (hj : j < l.length) (i : Nat) (hi : i < 3), (dvals l)[j * 3 + i]? = [l[j].1, l[j].2.1, l[j].2.2][i]? := by
  intro l
  induction l with
  | nil => intro j hj; simp at hj
  | cons f r ih =>
    intro j hj i hi
    have e : dvals (f :: r) = [f.1, f.2.1, f.2.2] ++ dvals r := by simp [dvals]
    rw [e]
    cases j with
    | zero =>
      rw [List.getElem?_append_left (by simp; omega)]
      simp
    | succ j =>
      rw [List.getElem?_append_right (by simp; omega)]
      have hj' : j < r.length := by simpa using hj
      rw [show (j + 1) * 3 + i - [f.1, f.2.1, f.2.2].length = j * 3 + i by simp; omega, ih j hj' i hi]
      simp
/-- What Files answers. -/
def DFiles (w : World) (base : Nat) (v : Value) (l : List File) : Prop :=
  ∃ us : List (Value × Value × Value), us.length = l.length ∧ w.ownsRow base 66 3 v l.length (dvals us) ∧ ∀ j (h1 : j < us.length) (h2 : j < l.length), DEl w base us[j] l[j]
theorem infoDF : (Try.prog.info? 66).map (fun i => (i.zero, i.size, i.bytes)) = some (some (.agg #[.string ⟨#[]⟩, .slice none 0 0, .slice none 0 0]), 3, 64) := by kernel_rfl
end Go.Proofs.Ytcfgdlpdnpnhmaa
