/- The document's disk (curfewref23): how its files lie in memory. -/
import Derived.Test.YtcfgdlpdnpnhmaaDisk12
set_option linter.unusedVariables false
set_option linter.unusedSimpArgs false
namespace Go.Proofs.Ytcfgdlpdnpnhmaa
open Go.RowKit Go.Maps

/-- The cells of a file. -/
def encF (f : File) : List Value := [encStr f.name, encStr f.all, .int .i64 f.kept]
def fvals (l : List File) : List Value := l.flatMap encF
theorem fvals_append (l m : List File) : fvals (l ++ m) = fvals l ++ fvals m := by simp [fvals]
theorem fvals_one (f : File) : fvals [f] = encF f := by simp [fvals]
theorem fvals_length (l : List File) : (fvals l).length = l.length * 3 := by
  induction l with
  | nil => rfl
  | cons f r ih =>
    rw [show f :: r = [f] ++ r from rfl, fvals_append, fvals_one, List.length_append, ih]
    simp [encF]; omega
theorem fvals_get : ∀ (l : List File) (j : Nat) (hj : j < l.length) (i : Nat) (hi : i < 3), (fvals l)[j * 3 + i]? = (encF l[j])[i]? := by
  intro l
  induction l with
  | nil => intro j hj; simp at hj
  | cons f r ih =>
    intro j hj i hi
    have e : fvals (f :: r) = encF f ++ fvals r := by rw [show f :: r = [f] ++ r from rfl, fvals_append, fvals_one]
    rw [e]
    cases j with
    | zero =>
      rw [List.getElem?_append_left (by simp [encF]; omega)]
      simp
    | succ j =>
      rw [List.getElem?_append_right (by simp [encF]; omega)]
      have hj' : j < r.length := by simpa using hj
      rw [show (j + 1) * 3 + i - (encF f).length = j * 3 + i by simp [encF]; omega, ih j hj' i hi]
      simp
theorem encF_one (f : File) : ∀ u ∈ encF f, u.oneCell' = true := by
  intro u hu
  simp only [encF, List.mem_cons, List.mem_nil_iff, or_false] at hu
  rcases hu with rfl | rfl | rfl <;> rfl

/-- From address A on n files stand: l. -/
def RFiles (w : World) (A : Option Addr) (n : Nat) (l : List File) : Prop :=
  l.length = n ∧ (0 < n → ∃ ad, A = some ad ∧ ∀ j, (hj : j < l.length) → ∀ i, i < 3 → w.cell? (ad.add (j * 3 + i)) = (encF l[j])[i]?)
theorem RFiles.nil (w : World) (A : Option Addr) : RFiles w A 0 [] := ⟨rfl, fun h => absurd h (by omega)⟩
theorem RFiles.below {w w' : World} {A : Option Addr} {n : Nat} {l : List File} (h : RFiles w A n l) (e : Below w.heap.size w w') : RFiles w' A n l := by
  refine ⟨h.1, fun hn => ?_⟩
  obtain ⟨ad, ea, hc⟩ := h.2 hn
  refine ⟨ad, ea, fun j hj i hi => ?_⟩
  have h3 := hc j hj i hi
  have : ∃ v, w.cell? (ad.add (j * 3 + i)) = some v := by
    rw [h3]
    rcases i with _ | _ | _ | i <;> first | exact ⟨_, rfl⟩ | omega
  obtain ⟨v, hv⟩ := this
  rw [← h3]
  exact e.cell (cell_lt hv)
theorem RFiles.of_own {w : World} {base n : Nat} {v : Value} {l : List File} (h : w.ownsRow base 60 3 v n (fvals l)) :
    ∃ A c, v = .slice A n c ∧ RFiles w A n l ∧ n ≤ c := by
  have hl : l.length = n := by have := h.1; rw [fvals_length] at this; omega
  rcases h.2 with ⟨rfl, rfl⟩ | ⟨g, cap, cur, rfl, _, hb, hnc, _, _, htake⟩
  · exact ⟨none, 0, rfl, ⟨hl, fun h => absurd h (by omega)⟩, Nat.le_refl _⟩
  · refine ⟨_, cap, rfl, ⟨hl, fun _ => ⟨_, rfl, fun j hj i hi => ?_⟩⟩, hnc⟩
    have h3 := fvals_get l j hj i hi
    have : ∃ u, (encF l[j])[i]? = some u := by
      rcases i with _ | _ | _ | i <;> first | exact ⟨_, rfl⟩ | omega
    obtain ⟨u, hu⟩ := this
    rw [hu] at h3 ⊢
    exact h.cells (g := g) rfl _ _ h3
theorem RFiles.at {w : World} {A : Option Addr} {n : Nat} {l : List File} (h : RFiles w A n l) {k : Nat} (hk : k < l.length) :
    ∃ ad b o, A = some ad ∧ ad.add (k * 3) = ⟨b, o, none⟩ ∧ w.cell? ⟨b, o, none⟩ = some (encStr l[k].name) ∧ w.cell? ⟨b, o + 1, none⟩ = some (encStr l[k].all) ∧ w.cell? ⟨b, o + 2, none⟩ = some (.int .i64 l[k].kept) := by
  obtain ⟨ad, rfl, hc⟩ := h.2 (by have := h.1; omega)
  have e0 := hc k hk 0 (by omega)
  have hs : ad.add (k * 3) = ⟨(ad.add (k * 3)).block, (ad.add (k * 3)).off, none⟩ := cell_spot (v := encStr l[k].name) e0
  obtain ⟨b, o, hbo⟩ : ∃ b o, ad.add (k * 3) = ⟨b, o, none⟩ := ⟨_, _, hs⟩
  have hi : ∀ i, ad.add (k * 3 + i) = ⟨b, o + i, none⟩ := fun i => by rw [← add_of_add, hbo, add0]
  refine ⟨ad, b, o, rfl, hbo, ?_, ?_, ?_⟩
  · have := hc k hk 0 (by omega); rw [hi] at this; exact this
  · have := hc k hk 1 (by omega); rw [hi] at this; exact this
  · have := hc k hk 2 (by omega); rw [hi] at this; exact this
theorem str_list (l : Bs) : (⟨l.toArray⟩ : ByteArray).toList = l := Lib.toList_data _
/-- The same, with the texts as strings. -/
theorem RFiles.at2 {w : World} {A : Option Addr} {n : Nat} {l : List File} (h : RFiles w A n l) {k : Nat} (hk : k < l.length) :
    ∃ ad b o nm al, A = some ad ∧ ad.add (k * 3) = ⟨b, o, none⟩ ∧ w.cell? ⟨b, o, none⟩ = some (.string nm) ∧ w.cell? ⟨b, o + 1, none⟩ = some (.string al) ∧ w.cell? ⟨b, o + 2, none⟩ = some (.int .i64 l[k].kept) ∧
      nm.toList = l[k].name ∧ al.toList = l[k].all ∧ nm.size = l[k].name.length ∧ al.size = l[k].all.length ∧ encStr l[k].name = .string nm ∧ encStr l[k].all = .string al := by
  obtain ⟨ad, b, o, h1, h2, h3, h4, h5⟩ := h.at hk
  exact ⟨ad, b, o, ⟨l[k].name.toArray⟩, ⟨l[k].all.toArray⟩, h1, h2, h3, h4, h5, str_list _, str_list _, by show Array.size _ = _; simp, by show Array.size _ = _; simp, rfl, rfl⟩
theorem infoF : (Try.prog.info? 60).map (fun i => (i.zero, i.size, i.bytes)) = some (some (.agg #[.string ⟨#[]⟩, .string ⟨#[]⟩, .int .i64 0]), 3, 40) := by kernel_rfl
theorem run_file_index (ad : Addr) (n c k : Nat) (h : k < n) (w : World) : (Instr.indexAt 43 (.slice (some ad) n c) (.int .i64 k)).run Try.prog w = .ok (.pointer (some (ad.add (k * 3)))) w := by
  obtain ⟨i0, hi, hz0, hz1, hz2⟩ := info_parts infoF
  simp [Instr.indexAt, run_underlying Try.underlying43, sizeOf, typeInfo, hi, hz1, h, Result.andThen, asIntOf]

section
variable {P : Program} (w : World) {ops : Array Oper} {rest : List Oper} {o : Oper} {a : Act} {Q : Exit → Act → World → Prop}
/-- append of one file. -/
theorem wpList_append_file (hgd : o.guard = none) (s x : Operand) (ho : o.op = .call { callee := .builtin .append, args := #[s, x], argTypes := #[43, 43] })
    (base : Nat) (v : Value) (n : Nat) (l : List File) (hs : a.eval s = v) (hown : w.ownsRow base 60 3 v n (fvals l)) (g c : Nat) (f : File) (hx : a.eval x = .slice (some ⟨g, 0, none⟩) 1 c)
    (hb : w.heap[g]? = some (.cells #[encStr f.name, encStr f.all, .int .i64 f.kept] 60 (0, 0))) (hn : n ≤ 1048576) (hbase : base ≤ w.heap.size)
    (h : ∀ v' w', w'.ownsRow base 60 3 v' (n + 1) (fvals (l ++ [f])) → w.grownBy w' v.ownBlock → wpList Try.prog ops Q rest (a.put o.dst v') w') :
    wpList Try.prog ops Q (o :: rest) a w := by
  obtain ⟨i0, hi, hz0, hz1, hz2⟩ := info_parts infoF
  refine wpList_append_own_at (P := Try.prog) w hgd s x 43 ho base 60 i0 _ 3 40 Try.underlying43 hi hz0 hz1 hz2 rfl (by omega) v n (fvals l) hs hown ⟨g, 0, none⟩ 1 c (encF f) hx rfl ?_ (encF_one f) (by unfold maxLen; omega) (by omega) hbase ?_
  · intro j u hu
    rw [add0, blk_cell hb, Nat.zero_add]
    rw [← hu]
    rcases j with _ | _ | _ | j <;> rfl
  · intro v' w' h1 h2 _ _
    rw [← fvals_one, ← fvals_append] at h1
    exact h v' w' h1 h2
end
end Go.Proofs.Ytcfgdlpdnpnhmaa
