/- A row of bytes that '[]byte(s)' has laid: its block bears a mark behind its last cell. -/
import Derived.Test.YtcfgdlpdnpnhmaaRef10
import Derived.Test.YtcfgdlpdnpnhmaaConv
set_option linter.unusedVariables false
set_option linter.unusedSimpArgs false
namespace Go.Proofs.Ytcfgdlpdnpnhmaa
open Go.RowKit Go.Maps

/-- Block g holds the bytes l ahead of its mark. -/
def RawB (w : World) (g : Nat) (l : Bs) : Prop :=
  ∃ (C : Array Value) (t : TypeId), w.heap[g]? = some (.cells C t (C.size, C.size + 1)) ∧ l.length ≤ C.size ∧ ∀ j, j < l.length → C[j]? = some (.int .u8 (u8 l j))
theorem RawB.cell {w : World} {g : Nat} {l : Bs} (h : RawB w g l) {j : Nat} (hj : j < l.length) : w.cell? ⟨g, j, none⟩ = some (.int .u8 (u8 l j)) ∧ w.frozen? ⟨g, j, none⟩ = false := by
  obtain ⟨C, t, hb, hl, hc⟩ := h
  refine ⟨(blk_cell hb j).trans (hc j hj), ?_⟩
  simp [World.frozen?, hb]
  omega
theorem RawB.bts {w : World} {g : Nat} {l : Bs} (h : RawB w g l) : Bts w (some ⟨g, 0, none⟩) l.length l :=
  ⟨rfl, fun _ => ⟨_, rfl, fun j hj => by rw [add0, Nat.zero_add]; exact (h.cell hj).1⟩⟩
theorem RawB.set {w : World} {g : Nat} {l : Bs} (h : RawB w g l) {j : Nat} (hj : j < l.length) (b : UInt8) : RawB (w.setCell ⟨g, j, none⟩ (.int .u8 (b.toNat : Int))) g (l.set j b) := by
  obtain ⟨C, t, hb, hl, hc⟩ := h
  refine ⟨C.setIfInBounds j (.int .u8 (b.toNat : Int)), t, ?_, by simpa using hl, fun i hi => ?_⟩
  · have := blk_set hb j (.int .u8 (b.toNat : Int))
    simpa using this
  · rw [List.length_set] at hi
    by_cases hij : j = i
    · subst hij
      rw [Array.getElem?_setIfInBounds_self_of_lt (by omega)]
      simp [u8, List.getD_eq_getElem?_getD, hi]
    · rw [Array.getElem?_setIfInBounds_ne hij, hc i hi]
      simp [u8, List.getD_eq_getElem?_getD, List.getElem?_set, hij]

theorem run_to_raw (s : ByteArray) (w : World) : ∃ c w', (convert 9 22 (.string s)).run Try.prog w = .ok (.slice (some ⟨w.heap.size, 0, none⟩) s.size c) w' ∧ RawB w' w.heap.size s.data.toList ∧ Below w.heap.size w w' := by
  have hr := run_bytes_of_string w 9 22 5 s Try.underlying9 Try.underlying22 Try.underlying5
  refine ⟨_, _, hr, ⟨_, _, blk_new w.drew _, ?_, ?_⟩, ((Below.refl _ _).drew).alloc (Nat.le_refl _) _⟩
  · have hl : s.data.toList.length = s.size := by rw [Array.length_toList]; rfl
    rw [hl]
    unfold bytesRow
    rw [Array.size_append, Array.size_map]
    show s.size ≤ s.size + _
    omega
  · intro j hj
    have hj' : j < s.data.size := by rw [Array.length_toList] at hj; exact hj
    unfold bytesRow
    rw [Array.getElem?_append_left (by simpa using hj')]
    simp [u8, List.getD_eq_getElem?_getD, Array.getElem?_eq_getElem hj']
section
variable {P : Program} (w : World) {ops : Array Oper} {rest : List Oper} {o : Oper} {a : Act} {Q : Exit → Act → World → Prop}
theorem wpList_to_raw (hgd : o.guard = none) (x : Operand) (ho : o.op = .convert 9 22 x) (s : ByteArray) (hx : a.eval x = .string s)
    (h : ∀ c w', RawB w' w.heap.size s.data.toList → Below w.heap.size w w' → wpList Try.prog ops Q rest (a.put o.dst (.slice (some ⟨w.heap.size, 0, none⟩) s.size c)) w') :
    wpList Try.prog ops Q (o :: rest) a w := by
  refine wpList_plain hgd fun K hK => ?_
  obtain ⟨c, w', hr, h1, h3⟩ := run_to_raw s w
  unfold Oper.wp execOp
  simp only [ho, hx, Sem.run_bind, hr, Result.andThen_ok]
  exact hK _ _ (h c w' h1 h3)
end
end Go.Proofs.Ytcfgdlpdnpnhmaa
