/- Plain laws on a disk as a value: Dsk.Ok is kept by a crash. -/
import Derived.Test.YtcfgdlpdnpnhmaaPure3
set_option linter.unusedVariables false
set_option linter.unusedSimpArgs false
namespace Go.Proofs.Ytcfgdlpdnpnhmaa
open Go
namespace Dsk

theorem crashFile_len {f : File} (ts : List (Nat × Nat)) (hk : f.kept ≤ f.all.length) : (crashFile f ts).1.all.length ≤ f.all.length ∧ (crashFile f ts).1.kept ≤ (crashFile f ts).1.all.length := by
  unfold crashFile
  split
  · refine ⟨?_, Nat.le_refl _⟩
    show (f.all.take f.kept ++ torn (f.all.drop f.kept) (ts.headD (0, 0))).length ≤ _
    have := torn_length (f.all.drop f.kept) (ts.headD (0, 0))
    rw [List.length_append, List.length_take]
    rw [List.length_drop] at this
    omega
  · exact ⟨Nat.le_refl _, hk⟩
/-- Each file that a crash leaves was there, not shorter; in the same order. -/
theorem crashGo_spec : ∀ (l : List File) (ts : List (Nat × Nat)), (∀ f ∈ l, f.kept ≤ f.all.length) →
    sum (crashGo l ts) ≤ sum l ∧ (crashGo l ts).length ≤ l.length ∧ (∀ g ∈ crashGo l ts, g.kept ≤ g.all.length ∧ ∃ f ∈ l, g.name = f.name)
  | [], ts, _ => by simp [crashGo, sum]
  | f :: r, ts, h => by
    have hf := crashFile_len ts (h f (by simp))
    have hn := crashFile_name f ts
    obtain ⟨h1, h2, h3⟩ := crashGo_spec r (crashFile f ts).2 (fun g hg => h g (by simp [hg]))
    unfold crashGo
    split
    · refine ⟨?_, ?_, ?_⟩
      · simp only [List.nil_append, sum]; omega
      · simp only [List.nil_append, List.length_cons]; omega
      · intro g hg
        obtain ⟨a, f', hf', e⟩ := h3 g (by simpa using hg)
        exact ⟨a, f', by simp [hf'], e⟩
    · refine ⟨?_, ?_, ?_⟩
      · simp only [List.cons_append, List.nil_append, sum]; omega
      · simp only [List.cons_append, List.nil_append, List.length_cons]; omega
      · intro g hg
        simp only [List.cons_append, List.nil_append, List.mem_cons] at hg
        rcases hg with rfl | hg
        · exact ⟨hf.2, f, by simp, hn⟩
        · obtain ⟨a, f', hf', e⟩ := h3 g hg
          exact ⟨a, f', by simp [hf'], e⟩
theorem crashGo_rising : ∀ (l : List File) (ts : List (Nat × Nat)), (∀ f ∈ l, f.kept ≤ f.all.length) → Rising l → Rising (crashGo l ts)
  | [], ts, _, _ => by simp [crashGo, Rising]
  | f :: r, ts, h, hr => by
    unfold Rising at hr
    rw [List.pairwise_cons] at hr
    have hk := fun g hg => h g (List.mem_cons_of_mem f hg)
    have ih := crashGo_rising r (crashFile f ts).2 hk hr.2
    obtain ⟨_, _, h3⟩ := crashGo_spec r (crashFile f ts).2 hk
    unfold crashGo
    split
    · simpa using ih
    · simp only [List.cons_append, List.nil_append]
      unfold Rising
      rw [List.pairwise_cons]
      refine ⟨fun g hg => ?_, ih⟩
      obtain ⟨_, f', hf', e⟩ := h3 g hg
      rw [crashFile_name, e]
      exact hr.1 f' hf'
theorem Ok.crash {D : Dsk} (h : D.Ok) (ts : List (Nat × Nat)) : (D.crash ts).Ok := by
  obtain ⟨h1, h2, h3⟩ := crashGo_spec D.files ts h.kept
  exact ⟨h.room0, h.room1, Nat.le_trans h1 h.sum, Nat.le_trans h2 h.many, fun g hg => by
    obtain ⟨_, f, hf, e⟩ := h3 g hg
    rw [e]; exact h.names f hf, fun g hg => (h3 g hg).1, crashGo_rising D.files ts h.kept h.rising, by simp [Dsk.crash], by simp [Dsk.crash]⟩
end Dsk
end Go.Proofs.Ytcfgdlpdnpnhmaa
