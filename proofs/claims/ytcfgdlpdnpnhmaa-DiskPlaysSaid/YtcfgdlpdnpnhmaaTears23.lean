/- Contract of curfewlaw23.Tears. -/
import Derived.Test.YtcfgdlpdnpnhmaaRef10
set_option linter.unusedVariables false
set_option linter.unusedSimpArgs false
namespace Go.Proofs.Ytcfgdlpdnpnhmaa
open Go.RowKit Go.Maps

def tvals (l : List (Nat × Nat)) : List Value := l.flatMap fun p => [.int .u16 p.1, .int .u32 p.2]
theorem tvals_append (l m : List (Nat × Nat)) : tvals (l ++ m) = tvals l ++ tvals m := by simp [tvals]
theorem tvals_length (l : List (Nat × Nat)) : (tvals l).length = l.length * 2 := by
  induction l with
  | nil => rfl
  | cons f r ih =>
    have e : tvals (f :: r) = [.int .u16 f.1, .int .u32 f.2] ++ tvals r := by simp [tvals]
    rw [e, List.length_append, ih]
    simp; omega
theorem tvals_get : ∀ (l : List (Nat × Nat)) (j : Nat) (hj : j < l.length), (tvals l)[j * 2]? = some (.int .u16 (l.getD j (0, 0)).1) ∧ (tvals l)[j * 2 + 1]? = some (.int .u32 (l.getD j (0, 0)).2) := by
  intro l
  induction l with
  | nil => intro j hj; simp at hj
  | cons f r ih =>
    intro j hj
    have e : tvals (f :: r) = [.int .u16 f.1, .int .u32 f.2] ++ tvals r := by simp [tvals]
    rw [e]
    cases j with
    | zero => exact ⟨rfl, rfl⟩
    | succ j =>
      have h := ih j (by simpa using hj)
      constructor
      · rw [List.getElem?_append_right (by simp; omega), show (j + 1) * 2 - [Value.int .u16 f.1, Value.int .u32 f.2].length = j * 2 by simp; omega, h.1]
        simp
      · rw [List.getElem?_append_right (by simp; omega), show (j + 1) * 2 + 1 - [Value.int .u16 f.1, Value.int .u32 f.2].length = j * 2 + 1 by simp; omega, h.2]
        simp
theorem Tears.of_own {w : World} {base n : Nat} {e : TypeId} {v : Value} {l : List (Nat × Nat)} (h : w.ownsRow base e 2 v n (tvals l)) (hb : ∀ p ∈ l, p.1 < 65536 ∧ p.2 < 4294967296) :
    ∃ A c, v = .slice A n c ∧ Tears w A n l ∧ n ≤ c := by
  have hl : l.length = n := by have := h.1; rw [tvals_length] at this; omega
  rcases h.2 with ⟨rfl, rfl⟩ | ⟨g, cap, cur, rfl, _, _, hnc, _, _, htake⟩
  · exact ⟨none, 0, rfl, ⟨hl, hb, fun h => absurd h (by omega)⟩, Nat.le_refl _⟩
  · refine ⟨_, cap, rfl, ⟨hl, hb, fun _ => ⟨_, rfl, fun j hj => ?_⟩⟩, hnc⟩
    have h3 := tvals_get l j (by omega)
    exact ⟨h.cells (g := g) rfl _ _ h3.1, h.cells (g := g) rfl _ _ h3.2⟩
theorem infoT : (Try.prog.info? 198).map (fun i => (i.zero, i.size, i.bytes)) = some (some (.agg #[.int .u16 0, .int .u32 0]), 2, 8) := by kernel_rfl
theorem run_tear_at (ad : Addr) (n c k : Nat) (h : k < n) (w : World) : (Instr.indexAt 47 (.slice (some ad) n c) (.int .i64 k)).run Try.prog w = .ok (.pointer (some (ad.add (k * 2)))) w := by
  obtain ⟨i0, hi, hz1⟩ := Option.map_eq_some_iff.1 info142
  simp [Instr.indexAt, run_underlying Try.underlying47, sizeOf, typeInfo, hi, hz1, h, Result.andThen, asIntOf]
theorem Tears.at {w : World} {A : Option Addr} {n : Nat} {ts : List (Nat × Nat)} (h : Tears w A n ts) {k : Nat} (hk : k < n) :
    ∃ ad b o, A = some ad ∧ ad.add (k * 2) = ⟨b, o, none⟩ ∧ w.cell? ⟨b, o, none⟩ = some (.int .u16 (ts.getD k (0, 0)).1) ∧ w.cell? ⟨b, o + 1, none⟩ = some (.int .u32 (ts.getD k (0, 0)).2) := by
  obtain ⟨ad, rfl, hc⟩ := h.2.2 (by omega)
  obtain ⟨h1, h2⟩ := hc k hk
  obtain ⟨b, o, hbo⟩ : ∃ b o, ad.add (k * 2) = ⟨b, o, none⟩ := ⟨_, _, cell_spot h1⟩
  rw [← add_of_add, hbo, add0] at h2
  rw [hbo] at h1
  exact ⟨ad, b, o, rfl, hbo, h1, h2⟩

section
variable {P : Program} (w : World) {ops : Array Oper} {rest : List Oper} {o : Oper} {a : Act} {Q : Exit → Act → World → Prop}
theorem wpList_append_tear (hgd : o.guard = none) (s x : Operand) (ho : o.op = .call { callee := .builtin .append, args := #[s, x], argTypes := #[151, 151] })
    (base : Nat) (v : Value) (n : Nat) (l : List (Nat × Nat)) (hs : a.eval s = v) (hown : w.ownsRow base 198 2 v n (tvals l)) (g c : Nat) (p : Nat × Nat) (hx : a.eval x = .slice (some ⟨g, 0, none⟩) 1 c)
    (hb : w.heap[g]? = some (.cells #[.int .u16 p.1, .int .u32 p.2] 198 (0, 0))) (hn : n ≤ 1048576) (hbase : base ≤ w.heap.size)
    (h : ∀ v' w', w'.ownsRow base 198 2 v' (n + 1) (tvals (l ++ [p])) → w.grownBy w' v.ownBlock → wpList Try.prog ops Q rest (a.put o.dst v') w') :
    wpList Try.prog ops Q (o :: rest) a w := by
  obtain ⟨i0, hi, hz0, hz1, hz2⟩ := info_parts infoT
  refine wpList_append_own_at (P := Try.prog) w hgd s x 151 ho base 198 i0 _ 2 8 Try.underlying151 hi hz0 hz1 hz2 rfl (by omega) v n (tvals l) hs hown ⟨g, 0, none⟩ 1 c [.int .u16 p.1, .int .u32 p.2] hx rfl ?_ ?_ (by unfold maxLen; omega) (by omega) hbase ?_
  · intro j u hu
    rw [add0, blk_cell hb, Nat.zero_add]
    rw [← hu]
    rcases j with _ | _ | j <;> rfl
  · intro u hu
    simp only [List.mem_cons, List.mem_nil_iff, or_false] at hu
    rcases hu with rfl | rfl <;> rfl
  · intro v' w' h1 h2 _ _
    rw [show ([.int .u16 p.1, .int .u32 p.2] : List Value) = tvals [p] by simp [tvals], ← tvals_append] at h1
    exact h v' w' h1 h2
end

def TearsGive (w : World) (ts : List (Nat × Nat)) (e : Ending) (w' : World) : Prop := ∃ A n c, e = .returned (.slice A n c) ∧ Tears w' A n ts ∧ n ≤ c ∧ Below w.heap.size w w'
set_option maxRecDepth 100000 in
set_option maxHeartbeats 2000000 in
theorem tears_calls (A : Option Addr) (n c : Nat) (ts : List (Nat × Nat)) (w : World) (h : Tears w A n ts) (hn : n ≤ 1048000) :
    Calls Try.prog 89 #[.slice A n c] w (TearsGive w ts) := by
  have H := Lib.hid h
  have hl := Lib.hid h.1
  clear h
  go_enter Try.func89, Try.ntmps89
  go_wp2
  go_loopw [3, 8] (fun v i wr => ∃ (k : Nat), i = .int .i64 k ∧ k ≤ n ∧ wr.ownsRow w.heap.size 198 2 v k (tvals (ts.take k)) ∧ Below w.heap.size w wr) (fun _ i _ => n - (intOf i).toNat)
  case atStart => exact ⟨0, rfl, Nat.zero_le _, World.ownsRow_nil _ _ _ _, Below.refl _ _⟩
  case round =>
    obtain ⟨k, rfl, hkn, hown, hbl⟩ := hrel
    have Hown := Lib.hid hown
    have Hbl := Lib.hid hbl
    have hle : w.heap.size ≤ wr.heap.size := hbl.size
    clear hown hbl
    by_cases hlt : k < n
    · have hk : k < ts.length := by rw [hl.out]; exact hlt
      obtain ⟨ad, b, o, rfl, had, q0, q1⟩ := (H.out.below Hbl.out).at hlt
      obtain ⟨p, hp⟩ : ∃ p, ts.getD k (0, 0) = p := ⟨_, rfl⟩
      rw [hp] at q0 q1
      have htk : ts.take (k + 1) = ts.take k ++ [p] := by
        rw [List.take_succ_eq_append_getElem hk, ← hp]
        simp [List.getD_eq_getElem?_getD, hk]
      have Htk := Lib.hid htk
      have hix := fun W => run_tear_at ad n c k hlt W
      simp only [had] at hix
      have hwk : IntKind.i64.wrap ((k : Int) + 1) = (k : Int) + 1 := IntWalk.i64_in _ (by omega)
      clear had hp htk
      go_wp2_with (at_builtin; refine wpList_append_tear _ rfl _ _ rfl w.heap.size _ k (ts.take k) rfl ((Hown.out.alloc _).alloc _) (wr.heap.size + 1) 1 p rfl (by have := blk_new (wr.alloc (.cells #[.int .u16 p.1, .int .u32 p.2] 142)) (.cells #[.int .u16 p.1, .int .u32 p.2] 198); simpa using this) (by omega) (by simp; omega) ?_; intro v' w2 hown2 hgr2)
      go_roundw
      case rel =>
        have hb2 : Below w.heap.size w w2 := ((Hbl.out.alloc hle _).alloc (by simp; omega) _).grown hgr2 (by simp; omega) (fun q hq => (Hown.out.lt q hq).1)
        exact ⟨k + 1, by simp, hlt, by rw [Htk.out]; exact hown2, hb2⟩
      case measure => simp [intOf]; omega
    · have hkn2 : k = n := by omega
      have ht : ts.take k = ts := List.take_of_length_le (by rw [hl.out]; omega)
      have Ht := Lib.hid ht
      clear hkn2 ht
      go_wp2
      go_ret
      have := Hown.out
      rw [Ht.out] at this
      obtain ⟨A2, c2, rfl, hT, hc⟩ := Tears.of_own this H.out.2.1
      exact ⟨A2, k, c2, rfl, hT, hc, Hbl.out⟩
end Go.Proofs.Ytcfgdlpdnpnhmaa
