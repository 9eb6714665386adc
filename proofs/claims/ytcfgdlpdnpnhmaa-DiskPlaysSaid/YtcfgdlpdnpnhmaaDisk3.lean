/- Contracts of package disk: Read, Arm, Boot, Resize, Remove. -/
import Derived.Test.YtcfgdlpdnpnhmaaDisk2
import Derived.Test.YtcfgdlpdnpnhmaaBytes
set_option linter.unusedVariables false
set_option linter.unusedSimpArgs false
namespace Go.Proofs.Ytcfgdlpdnpnhmaa
open Go.RowKit Go.Maps

theorem bcell {W w1 : World} (hb : Below W.heap.size W w1) : (∀ b o, b < W.heap.size → w1.cell? ⟨b, o, none⟩ = W.cell? ⟨b, o, none⟩) ∧ (∀ b o, b < W.heap.size → w1.frozen? ⟨b, o, none⟩ = W.frozen? ⟨b, o, none⟩) :=
  ⟨fun b o h => hb.cell (p := ⟨b, o, none⟩) h, fun b o h => hb.frozen (p := ⟨b, o, none⟩) h⟩

/-- A row of the call's own is one of a caller's that began earlier. -/
theorem _root_.Go.World.ownsRow.rebase {w : World} {base base' : Nat} {e : TypeId} {size : Nat} {v : Value} {n : Nat} {xs : List Value} (h : w.ownsRow base e size v n xs) (hb : base' ≤ base) : w.ownsRow base' e size v n xs := by
  obtain ⟨h1, h2⟩ := h
  refine ⟨h1, ?_⟩
  rcases h2 with h2 | ⟨g, cap, cur, hv, hg, r⟩
  · exact .inl h2
  · exact .inr ⟨g, cap, cur, hv, by omega, r⟩

/-- What Read answers: an error's number; the bytes in a row of the call's own. -/
def ReadGives (w : World) (l : Bs) (c : Int) (e : Ending) (w' : World) : Prop :=
  ∃ A k, e = .returned (.tuple #[.slice A l.length k, .int .i64 c]) ∧ w'.ownsRow w.heap.size 5 1 (.slice A l.length k) l.length (vals l) ∧ Below w.heap.size w w'

theorem read_calls (d mp mt : Nat) (D : Dsk) (s : ByteArray) (w : World) (h : IsDisk w d mp mt D) (hs : s.size ≤ 9223372036854775807) (hsum : ∀ f ∈ D.files, f.all.length ≤ 1048576) :
    Calls Try.prog 48 #[.pointer (some ⟨d, 0, none⟩), .string s] w (ReadGives w (D.read s.data.toList).1 (D.read s.data.toList).2) := by
  cases hd : D.down
  · cases hf : Dsk.find D.files s.data.toList with
    | none =>
      rw [show D.read s.data.toList = ([], 31) by unfold Dsk.read; rw [hd, hf]; rfl]
      have hc := Lib.hid (file_none d mp mt D s w h hs hd hf)
      clear h hd hf hsum
      go_enter Try.func48, Try.ntmps48
      go_wp2_with (go_at_call 100; refine hc.out.mono ?_; rintro e w' ⟨rfl, hb⟩)
      go_ret2
      exact ⟨none, 0, rfl, World.ownsRow_nil _ _ _ _, hb.alloc hb.size _⟩
    | some f =>
      rw [show D.read s.data.toList = (f.all, 0) by unfold Dsk.read; rw [hd, hf]; rfl]
      have hc := Lib.hid (file_some d mp mt D s f w h hs hd hf)
      have hlen := hsum f (mem_find hf).1
      clear h hd hf hsum
      go_enter Try.func48, Try.ntmps48
      go_wp2_with (first
        | (go_at_call 100; refine hc.out.mono ?_; rintro e w1 ⟨A, n, c, rfl, hb, hnc, hA, hbl⟩; have HA := Lib.hid hA; clear hA)
        | (go_at_call 80; refine (clone_calls A n c f.all _ (hb.below (hbl.alloc hbl.size _)) (by have := hb.1; omega) HA.out).mono ?_; rintro e w2 ⟨A2, c2, rfl, hown, hb2⟩))
      go_ret2
      have hn := hb.1
      subst hn
      exact ⟨A2, c2, rfl, hown.rebase (by have := hbl.size; simp; omega), (hbl.alloc hbl.size _).trans (hb2.mono (by have := hbl.size; simp; omega))⟩
  · rw [show D.read s.data.toList = ([], 50) by unfold Dsk.read; rw [hd]; rfl]
    have hc := Lib.hid (file_down d mp mt D s w h hd)
    clear h hd hsum
    go_enter Try.func48, Try.ntmps48
    go_wp2_with (go_at_call 100; refine hc.out.mono ?_; rintro e w' ⟨rfl, hb⟩)
    go_ret2
    exact ⟨none, 0, rfl, World.ownsRow_nil _ _ _ _, hb.alloc hb.size _⟩

end Go.Proofs.Ytcfgdlpdnpnhmaa
