/- Bytes to a string and back, over bytes that are read (Bts); a new row of bytes. -/
import Derived.Test.YtcfgdlpdnpnhmaaBytes
import Derived.Laws.IdiomStrings
import Derived.Shelf.Bytes.SlSmallAll
import Derived.Lib.SlBytesConst
set_option linter.unusedVariables false
set_option linter.unusedSimpArgs false
namespace Go.Proofs.Ytcfgdlpdnpnhmaa
open Go.RowKit Go.Maps

/-- 'string(b)'. -/
theorem run_to_str {w : World} {A : Option Addr} {n : Nat} {l : Bs} (hb : Bts w A n l) (c : Nat) :
    (convert 22 9 (.slice A n c)).run Try.prog w = .ok (.string ⟨l.toArray⟩) w := by
  rcases Nat.eq_zero_or_pos n with h0 | h0
  · subst h0
    have hl : l = [] := List.eq_nil_of_length_eq_zero hb.1
    subst hl
    exact run_convert_bytes_zero w _ _ Try.underlying22 Try.underlying5 A c _ Try.underlying9
  · obtain ⟨ad, rfl, hc⟩ := hb.2 h0
    have hl := hb.1
    subst hl
    exact run_convert_bytes_back w _ _ _ ad c l Try.underlying22 Try.underlying5 Try.underlying9 (fun j hj => by
      rw [hc j hj]
      simp [u8, List.getD_eq_getElem?_getD, List.getElem?_eq_getElem hj])

theorem Bts.of_block {w : World} {g : Nat} {cs : Array Value} {t : TypeId} {fr : Nat × Nat} (h : w.heap[g]? = some (.cells cs t fr)) (l : Bs) (hl : ∀ j, j < l.length → cs[j]? = some (.int .u8 (u8 l j))) : Bts w (some ⟨g, 0, none⟩) l.length l := by
  refine ⟨rfl, fun _ => ⟨_, rfl, fun j hj => ?_⟩⟩
  rw [add0, blk_cell h, Nat.zero_add]
  exact hl j hj

/-- '[]byte(s)'. -/
theorem run_to_bytes (s : ByteArray) (w : World) : ∃ A c w', (convert 9 22 (.string s)).run Try.prog w = .ok (.slice A s.size c) w' ∧ Bts w' A s.size s.data.toList ∧ A ≠ none ∧ Below w.heap.size w w' := by
  have hr := run_bytes_of_string w 9 22 5 s Try.underlying9 Try.underlying22 Try.underlying5
  refine ⟨_, _, _, hr, ?_, by simp, ((Below.refl _ _).drew).alloc (Nat.le_refl _) _⟩
  have hb := blk_new w.drew (.cells (bytesRow s (grownCap w s.size 0 5)) 5 ((bytesRow s (grownCap w s.size 0 5)).size, (bytesRow s (grownCap w s.size 0 5)).size + 1))
  have hl : s.data.toList.length = s.size := by rw [Array.length_toList]; rfl
  have h1 := Bts.of_block hb s.data.toList (fun j hj => by
    rw [hl] at hj
    have hj' : j < s.data.size := hj
    unfold bytesRow
    rw [Array.getElem?_append_left (by simpa using hj)]
    simp [u8, List.getD_eq_getElem?_getD, Array.getElem?_eq_getElem hj'])
  rw [hl] at h1
  exact h1

/-- '[]byte("..")' of a constant. -/
theorem run_conv_const (C : Array Value) (n c : Nat) (w : World) : (convert 22 22 (.slice (some ⟨w.heap.size, 0, none⟩) n c)).run Try.prog (w.alloc (.cells C 5)) = .ok (.slice (some ⟨w.heap.size, 0, none⟩) n c) (w.alloc (.cells C 5 (C.size, C.size + 1))) :=
  Lib.run_convert_bytes_const w _ _ C n c Try.underlying22 Try.underlying5

section
variable {P : Program} (w : World) {ops : Array Oper} {rest : List Oper} {o : Oper} {a : Act} {Q : Exit → Act → World → Prop}
theorem wpList_to_bytes (hgd : o.guard = none) (x : Operand) (ho : o.op = .convert 9 22 x) (s : ByteArray) (hx : a.eval x = .string s)
    (h : ∀ A c w', Bts w' A s.size s.data.toList → A ≠ none → Below w.heap.size w w' → wpList Try.prog ops Q rest (a.put o.dst (.slice A s.size c)) w') :
    wpList Try.prog ops Q (o :: rest) a w := by
  refine wpList_plain hgd fun K hK => ?_
  obtain ⟨A, c, w', hr, h1, h2, h3⟩ := run_to_bytes s w
  unfold Oper.wp execOp
  simp only [ho, hx, Sem.run_bind, hr, Result.andThen_ok]
  exact hK _ _ (h A c w' h1 h2 h3)
end
end Go.Proofs.Ytcfgdlpdnpnhmaa
