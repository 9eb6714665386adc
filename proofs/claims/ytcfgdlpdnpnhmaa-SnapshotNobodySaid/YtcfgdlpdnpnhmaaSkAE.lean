/- Contracts and words (several texts merged by wip/merge.py). Rows of bytes: append, cuts, and turning into strings, at the operation. -/
import Derived.Test.YtcfgdlpdnpnhmaaSkAC
import Derived.Maps.AppendAt
import Derived.Lib.ConvBytes
import Derived.Laws.BytesArg
import Derived.Deep.OwnRows
import Derived.Deep.AppendLies
import Derived.Test.YtcfgdlpdnpnhmaaSkAD
set_option linter.unusedVariables false
set_option linter.unusedSimpArgs false
namespace Go.Proofs.Ytcfgdlpdnpnhmaa
open Go.RowKit Go.Maps

def vals (l : Bs) : List Value := l.map fun b => .int .u8 (b.toNat : Int)
theorem vals_length (l : Bs) : (vals l).length = l.length := by simp [vals]
theorem vals_append (l m : Bs) : vals (l ++ m) = vals l ++ vals m := by simp [vals]
theorem vals_get (l : Bs) (j : Nat) (hj : j < l.length) : (vals l)[j]? = some (.int .u8 (u8 l j)) := by
  simp [vals, u8, List.getElem?_eq_getElem hj, List.getD_eq_getElem?_getD]
theorem vals_one (l : Bs) : ∀ u ∈ vals l, u.oneCell' = true := by
  intro u hu
  simp only [vals, List.mem_map] at hu
  obtain ⟨b, _, rfl⟩ := hu
  rfl
theorem Bts.cells {w : World} {ad : Addr} {n : Nat} {l : Bs} (h : Bts w (some ad) n l) : ∀ j u, (vals l)[j]? = some u → w.cell? (ad.add j) = some u := by
  intro j u hu
  have hj : j < l.length := by
    rcases Nat.lt_or_ge j (vals l).length with h1 | h1
    · rwa [vals_length] at h1
    · rw [List.getElem?_eq_none h1] at hu
      cases hu
  obtain ⟨ad', e, hc⟩ := h.2 (by have := h.1; omega)
  cases e
  rw [vals_get l j hj] at hu
  cases hu
  exact hc j (by have := h.1; omega)
/-- A row of the call's own is read. -/
theorem Bts.of_own {w : World} {base n : Nat} {v : Value} {l : Bs} (h : w.ownsRow base 5 1 v n (vals l)) :
    ∃ A c, v = .slice A n c ∧ Bts w A n l ∧ n ≤ c ∧ (A = none → c = 0) := by
  have hl : l.length = n := by have := h.1; rw [vals_length] at this; omega
  rcases h.2 with ⟨rfl, rfl⟩ | ⟨g, cap, cur, rfl, _, hb, hnc, hcm, hcs, htake⟩
  · exact ⟨none, 0, rfl, ⟨hl, fun h => absurd h (by omega)⟩, by omega, fun _ => rfl⟩
  · refine ⟨_, cap, rfl, ⟨hl, fun _ => ⟨_, rfl, fun j hj => ?_⟩⟩, hnc, fun h => by cases h⟩
    exact h.cells (g := g) rfl j _ (vals_get l j (by omega))

theorem info5 : (Try.prog.info? 5).map (fun i => (i.zero, i.size, i.bytes)) = some (some (.int .u8 0), 1, 1) := by kernel_rfl

section
variable (w : World)
/-- append onto a row of the call's own, of bytes that are read (nil too). -/
theorem run_append_bts (base : Nat) (ty : TypeId) (v : Value) (n : Nat) (l0 : Bs) (hown : w.ownsRow base 5 1 v n (vals l0)) (A : Option Addr) (m c : Nat) (l : Bs) (hb : Bts w A m l)
    (hsz : n + m ≤ 140737488355328) (hbase : base ≤ w.heap.size) :
    ∃ v' w', (Builtin.append_ #[22, 22] ty #[v, .slice A m c]).run Try.prog w = .ok v' w' ∧ w'.ownsRow base 5 1 v' (n + m) (vals (l0 ++ l)) ∧ w.grownBy w' v.ownBlock ∧
      (v'.ownBlock = v.ownBlock ∨ v'.ownBlock = some w.heap.size) := by
  obtain ⟨i0, hi, hz0, hz1, hz2⟩ := info_parts info5
  rcases A with _ | ad
  · have hm : m = 0 := by
      rcases Nat.eq_zero_or_pos m with h0 | h0
      · exact h0
      · obtain ⟨ad, h, _⟩ := hb.2 h0
        cases h
    subst hm
    have hl : l = [] := List.eq_nil_of_length_eq_zero hb.1
    subst hl
    refine ⟨v, w, ?_, by simpa using hown, ⟨rfl, rfl, rfl, Nat.le_refl _, fun _ _ _ => rfl⟩, .inl rfl⟩
    rcases hown.2 with ⟨rfl, rfl⟩ | ⟨g, cap, cur, rfl, _, _, hnc, _⟩
    · simp [Builtin.append_, run_underlying Try.underlying22, sizeOf, typeInfo, hi, Builtin.lenOf, Builtin.firstCells]
    · simp [Builtin.append_, run_underlying Try.underlying22, sizeOf, typeInfo, hi, Builtin.lenOf, Builtin.firstCells, hnc, storeCells]
  · obtain ⟨v', w', hr, h2, h3, h4, h5⟩ := run_append_own_at (P := Try.prog) w base 22 ty 5 i0 (.int .u8 0) 1 1 Try.underlying22 hi hz0 hz1 hz2 rfl (by omega) v n (vals l0) hown ad m c (vals l)
      (by rw [vals_length, hb.1]; omega) hb.cells (vals_one l) (by unfold maxLen; omega) (by omega) hbase
    exact ⟨v', w', hr, by rw [vals_append]; exact h2, h3, h5⟩

/-- append onto bytes that are read, cut at their length ('x[:n:n]'): what was there stays. -/
theorem run_append_cut (ty : TypeId) (A0 : Option Addr) (n : Nat) (l0 : Bs) (h0 : Bts w A0 n l0) (A : Option Addr) (m c : Nat) (l : Bs) (hb : Bts w A m l) (hsz : n + m ≤ 140737488355328) :
    ∃ A' c' w', (Builtin.append_ #[22, 22] ty #[.slice A0 n n, .slice A m c]).run Try.prog w = .ok (.slice A' (n + m) c') w' ∧ Bts w' A' (n + m) (l0 ++ l) ∧ n + m ≤ c' ∧ (A' = none → c' = 0) ∧ Below w.heap.size w w' := by
  obtain ⟨i0, hi, hz0, hz1, hz2⟩ := info_parts info5
  rcases Nat.eq_zero_or_pos m with hm | hm
  · subst hm
    have hl : l = [] := List.eq_nil_of_length_eq_zero hb.1
    subst hl
    refine ⟨A0, n, w, ?_, by simpa using h0, by omega, fun e => ?_, Below.refl _ _⟩
    · cases A <;> cases A0 <;> simp [Builtin.append_, run_underlying Try.underlying22, sizeOf, typeInfo, hi, Builtin.lenOf, Builtin.firstCells, storeCells, loadCells, loadCellsFrom]
    · rcases Nat.eq_zero_or_pos n with hn | hn
      · exact hn
      · obtain ⟨ad, e', _⟩ := h0.2 hn
        rw [e] at e'
        cases e'
  · obtain ⟨ad, rfl, _⟩ := hb.2 hm
    have hsub : ∀ (r : List Value) (cs : Array Value), cs.toList = vals (l0 ++ l) ++ r → (w.drew.alloc (.cells cs 5)).heap[w.heap.size]? = some (.cells cs 5 (0, 0)) → Bts (w.drew.alloc (.cells cs 5)) (some ⟨w.heap.size, 0, none⟩) (n + m) (l0 ++ l) := by
      intro r cs hcs hh
      have hll : (l0 ++ l).length = n + m := by rw [List.length_append, h0.1, hb.1]
      refine ⟨hll, fun _ => ⟨_, rfl, fun j hj => ?_⟩⟩
      rw [add0, Nat.zero_add, blk_cell hh, ← Array.getElem?_toList, hcs, List.getElem?_append_left (by rw [vals_length]; omega)]
      exact vals_get _ j (by omega)
    rcases A0 with _ | a0
    · have hn : n = 0 := by
        rcases Nat.eq_zero_or_pos n with hn | hn
        · exact hn
        · obtain ⟨ad, e', _⟩ := h0.2 hn
          cases e'
      subst hn
      have hl0 : l0 = [] := List.eq_nil_of_length_eq_zero h0.1
      subst hl0
      have hr := run_append_nil (P := Try.prog) w 22 ty 5 i0 (.int .u8 0) Try.underlying22 hi hz0 ad m c (vals l) (by rw [vals_length, hb.1, hz1]; omega) hb.cells hm (by omega) (by rw [hz2]; omega)
      refine ⟨_, _, _, by rw [Nat.zero_add]; exact hr, hsub ((Builtin.zeroCells (Value.int .u8 0).cells (grownCap w m 0 5 - m)).toList) _ ?_ (heap_alloc_new w.drew _), by rw [Nat.zero_add]; exact grownCap_ge _ _ _ _, (fun e => by cases e), (Below.refl _ _).drew.alloc (Nat.le_refl _) _⟩
      rw [Array.toList_append]
      rfl
    · have hr := run_append_grow (P := Try.prog) w 22 ty 5 i0 (.int .u8 0) Try.underlying22 hi hz0 a0 n n (vals l0) (by rw [vals_length, h0.1, hz1]; omega) h0.cells ad m c (vals l)
        (by rw [vals_length, hb.1, hz1]; omega) hb.cells (by omega) (by omega) (growslice_fits (by omega) (by rw [hz2]; omega))
      refine ⟨_, _, _, hr, hsub ((Builtin.zeroCells (Value.int .u8 0).cells (grownCap w (n + m) n 5 - (n + m))).toList) _ ?_ (heap_alloc_new w.drew _), grownCap_ge _ _ _ _, (fun e => by cases e), (Below.refl _ _).drew.alloc (Nat.le_refl _) _⟩
      rw [vals_append, Array.toList_append, Array.toList_append]
end

section
variable {P : Program} (w : World) {ops : Array Oper} {rest : List Oper} {o : Oper} {a : Act} {Q : Exit → Act → World → Prop}
theorem wpList_append_bts (hgd : o.guard = none) (s x : Operand) (ho : o.op = .call { callee := .builtin .append, args := #[s, x], argTypes := #[22, 22] })
    (base : Nat) (v : Value) (n : Nat) (l0 : Bs) (hs : a.eval s = v) (hown : w.ownsRow base 5 1 v n (vals l0)) (A : Option Addr) (m c : Nat) (l : Bs) (hx : a.eval x = .slice A m c) (hb : Bts w A m l)
    (hsz : n + m ≤ 140737488355328) (hbase : base ≤ w.heap.size)
    (h : ∀ v' w', w'.ownsRow base 5 1 v' (n + m) (vals (l0 ++ l)) → w.grownBy w' v.ownBlock → (v'.ownBlock = v.ownBlock ∨ v'.ownBlock = some w.heap.size) → wpList Try.prog ops Q rest (a.put o.dst v') w') :
    wpList Try.prog ops Q (o :: rest) a w := by
  refine wpList_plain hgd fun K hK => ?_
  obtain ⟨v', w', hr, h2, h3, h4⟩ := run_append_bts w base o.type v n l0 hown A m c l hb hsz hbase
  unfold Oper.wp execOp
  simp only [ho, resolve, invoke, builtin, Sem.run_bind, Sem.run_pure, Result.andThen_ok, List.map_toArray, List.map_cons, List.map_nil, hs, hx, hr]
  exact hK _ _ (h v' w' h2 h3 h4)
theorem wpList_append_cut (hgd : o.guard = none) (s x : Operand) (ho : o.op = .call { callee := .builtin .append, args := #[s, x], argTypes := #[22, 22] })
    (A0 : Option Addr) (n : Nat) (l0 : Bs) (hs : a.eval s = .slice A0 n n) (h0 : Bts w A0 n l0) (A : Option Addr) (m c : Nat) (l : Bs) (hx : a.eval x = .slice A m c) (hb : Bts w A m l)
    (hsz : n + m ≤ 140737488355328)
    (h : ∀ A' c' w', Bts w' A' (n + m) (l0 ++ l) → n + m ≤ c' → (A' = none → c' = 0) → Below w.heap.size w w' → wpList Try.prog ops Q rest (a.put o.dst (.slice A' (n + m) c')) w') :
    wpList Try.prog ops Q (o :: rest) a w := by
  refine wpList_plain hgd fun K hK => ?_
  obtain ⟨A', c', w', hr, h2, h3, h4, h5⟩ := run_append_cut w o.type A0 n l0 h0 A m c l hb hsz
  unfold Oper.wp execOp
  simp only [ho, resolve, invoke, builtin, Sem.run_bind, Sem.run_pure, Result.andThen_ok, List.map_toArray, List.map_cons, List.map_nil, hs, hx, hr]
  exact hK _ _ (h A' c' w' h2 h3 h4 h5)
end

/-- A cut 'x[i:]'. -/
theorem Bts.drop {w : World} {A : Option Addr} {n c : Nat} {l : Bs} (h : Bts w A n l) (i : Nat) (hi : i ≤ n) (hc : n ≤ c) : Bts w (if c = i then A else A.map (·.add i)) (n - i) (l.drop i) := by
  refine ⟨by rw [List.length_drop, h.1], fun hn => ?_⟩
  obtain ⟨ad, rfl, hcell⟩ := h.2 (by omega)
  rw [if_neg (by omega)]
  refine ⟨ad.add i, rfl, fun j hj => ?_⟩
  rw [add_of_add, hcell _ (by omega)]
  simp [u8, List.getD_eq_getElem?_getD, List.getElem?_drop]
/-- A cut 'x[:i]'. -/
theorem Bts.take {w : World} {A : Option Addr} {n : Nat} {l : Bs} (h : Bts w A n l) (i : Nat) (hi : i ≤ n) : Bts w A i (l.take i) := by
  refine ⟨by rw [List.length_take, h.1]; omega, fun hn => ?_⟩
  obtain ⟨ad, rfl, hcell⟩ := h.2 (by omega)
  refine ⟨ad, rfl, fun j hj => ?_⟩
  rw [hcell _ (by omega)]
  simp [u8, List.getD_eq_getElem?_getD, hj]

/-- bytes.Clone: the same bytes in a row of the call's own. -/
def Cloned (w : World) (n : Nat) (l : Bs) (e : Ending) (w' : World) : Prop :=
  ∃ A c, e = .returned (.slice A n c) ∧ w'.ownsRow w.heap.size 5 1 (.slice A n c) n (vals l) ∧ Below w.heap.size w w'
/-- .. where there is a byte. -/
def Cloned1 (w : World) (n : Nat) (l : Bs) (e : Ending) (w' : World) : Prop :=
  ∃ g c, e = .returned (.slice (some ⟨g, 0, none⟩) n c) ∧ w'.ownsRow w.heap.size 5 1 (.slice (some ⟨g, 0, none⟩) n c) n (vals l) ∧ w.heap.size ≤ g ∧ g < w'.heap.size ∧ Below w.heap.size w w'
theorem own_shape {w : World} {base n : Nat} {v : Value} {xs : List Value} {e : TypeId} {size : Nat} (h : w.ownsRow base e size v n xs) : ∃ A c, v = .slice A n c := by
  rcases h.2 with ⟨rfl, rfl⟩ | ⟨g, cap, cur, rfl, _⟩
  · exact ⟨none, 0, rfl⟩
  · exact ⟨_, cap, rfl⟩
theorem clone_calls (A : Option Addr) (n c : Nat) (l : Bs) (w : World) (hb : Bts w A n l) (hn : n ≤ 140737488355328) (hA : A = none → c = 0) :
    Calls Try.prog 80 #[.slice A n c] w (Cloned w n l) := by
  rcases A with _ | ad
  · have hc := hA rfl
    subst hc
    have hn0 : n = 0 := by
      rcases Nat.eq_zero_or_pos n with h0 | h0
      · exact h0
      · obtain ⟨ad, h, _⟩ := hb.2 h0
        cases h
    subst hn0
    have hl : l = [] := List.eq_nil_of_length_eq_zero hb.1
    subst hl
    have hq := fun w' => Lib.run_eql_slice_nil (P := Try.prog) w' 22 5 none 0 0 0 0 Try.underlying22
    clear hA
    go_enter Try.func80, Try.ntmps80
    go_wp2
    go_ret
    exact ⟨none, 0, rfl, World.ownsRow_nil _ _ _ _, Below.refl _ _⟩
  · have hq := fun w' => Lib.run_eql_slice_nil (P := Try.prog) w' 22 5 (some ad) n c 0 0 Try.underlying22
    clear hA
    have hown : (w.alloc (.cells #[] 5)).ownsRow w.heap.size 5 1 (.slice (some ⟨w.heap.size, 0, none⟩) 0 0) 0 (vals []) := World.ownsRow_made w #[] 0 (Nat.le_refl _) (by unfold maxLen; omega) rfl
    have hb1 := hb.below ((Below.refl _ _).alloc (Nat.le_refl _) (.cells #[] 5))
    go_enter Try.func80, Try.ntmps80
    go_wp2_with (first
      | (at_builtin; refine wpList_append_bts _ rfl _ _ rfl w.heap.size _ 0 [] rfl hown _ n c l rfl hb1 (by omega) (by simp) ?_; intro v' w1 hown' hgrow _))
    go_ret
    obtain ⟨A', c', hv⟩ := own_shape hown'
    rw [hv] at hown' ⊢
    refine ⟨A', c', by simp, by simpa using hown', ((Below.refl _ _).alloc (Nat.le_refl _) _).grown hgrow (by simp) (fun k hk => by cases hk; exact Nat.le_refl _)⟩

theorem clone_calls1 (A : Option Addr) (n c : Nat) (l : Bs) (w : World) (hb : Bts w A n l) (hn : n ≤ 140737488355328) (hA : A = none → c = 0) (h0 : 0 < n) :
    Calls Try.prog 80 #[.slice A n c] w (Cloned1 w n l) := by
  refine (clone_calls A n c l w hb hn hA).mono ?_
  rintro e w' ⟨A', c', rfl, hown, hb'⟩
  obtain ⟨g, cap, hv, h1, h2⟩ := World.ownsRow.form hown h0
  injection hv with hv1 hv2 hv3
  subst hv1
  exact ⟨g, c', rfl, hown, h1, h2, hb'⟩

theorem map_add0 (A : Option Addr) : A.map (·.add 0) = A := by
  cases A with
  | none => rfl
  | some a => simp [Addr.add]
/-- 'x[:j:j]', 'x[:j]', 'x[j:]' of bytes. -/
theorem run_cut3 (A : Option Addr) (n c j : Nat) (h : j ≤ c) (w : World) : (Instr.slice 22 (.slice A n c) none (some (.int .i64 j)) (some (.int .i64 j))).run Try.prog w = .ok (.slice A j j) w := by
  obtain ⟨i0, hi, hz0, hz1, hz2⟩ := info_parts info5
  simp [Instr.slice, run_underlying Try.underlying22, Instr.sliceBounds, Instr.sliceBound, sizeOf, typeInfo, hi, hz1, h, map_add0, Result.andThen, asIntOf]
theorem run_cut_to (A : Option Addr) (n c j : Nat) (h : j ≤ c) (w : World) : (Instr.slice 22 (.slice A n c) none (some (.int .i64 j)) none).run Try.prog w = .ok (.slice A j c) w := by
  obtain ⟨i0, hi, hz0, hz1, hz2⟩ := info_parts info5
  simp [Instr.slice, run_underlying Try.underlying22, Instr.sliceBounds, Instr.sliceBound, sizeOf, typeInfo, hi, hz1, h, map_add0, Result.andThen, asIntOf]
theorem run_cut_from (A : Option Addr) (n c j : Nat) (h : j ≤ n) (w : World) : (Instr.slice 22 (.slice A n c) (some (.int .i64 j)) none none).run Try.prog w = .ok (.slice (if c = j then A else A.map (·.add j)) (n - j) (c - j)) w := by
  obtain ⟨i0, hi, hz0, hz1, hz2⟩ := info_parts info5
  simp [Instr.slice, run_underlying Try.underlying22, Instr.sliceBounds, Instr.sliceBound, sizeOf, typeInfo, hi, hz1, h, Result.andThen, asIntOf]

/-- '&x[i]' of bytes. -/
theorem run_index (ad : Addr) (n c : Nat) (i : Int) (h0 : 0 ≤ i) (h : i < n) (w : World) : (Instr.indexAt 22 (.slice (some ad) n c) (.int .i64 i)).run Try.prog w = .ok (.pointer (some (ad.add i.toNat))) w := by
  obtain ⟨i0, hi, hz0, hz1, hz2⟩ := info_parts info5
  simp [Instr.indexAt, run_underlying Try.underlying22, sizeOf, typeInfo, hi, hz1, h, h0, Result.andThen, asIntOf]

end Go.Proofs.Ytcfgdlpdnpnhmaa
set_option linter.unusedVariables false
set_option linter.unusedSimpArgs false
namespace Go.Proofs.Ytcfgdlpdnpnhmaa
open Go.RowKit Go.Maps

theorem bcell {W w1 : World} (hb : Below W.heap.size W w1) : (∀ b o, b < W.heap.size → w1.cell? ⟨b, o, none⟩ = W.cell? ⟨b, o, none⟩) ∧ (∀ b o, b < W.heap.size → w1.frozen? ⟨b, o, none⟩ = W.frozen? ⟨b, o, none⟩) :=
  ⟨fun b o h => hb.cell (p := ⟨b, o, none⟩) h, fun b o h => hb.frozen (p := ⟨b, o, none⟩) h⟩

/-- A row of the call's own is one of a caller's that began earlier. -/
theorem _root_.Go.World.ownsRow.rebase {w : World} {base base' : Nat} {e : TypeId} {size : Nat} {v : Value} {n : Nat} {xs : List Value} (h : w.ownsRow base e size v n xs) (hb : base' ≤ base) : w.ownsRow base' e size v n xs := by
  obtain ⟨h1, h2⟩ := h
  refine ⟨h1, ?_⟩
  rcases h2 with h2 | ⟨g, cap, cur, hv, hg, r⟩
  · exact .inl h2
  · exact .inr ⟨g, cap, cur, hv, by omega, r⟩

/-- What Read answers: an error's number; the bytes in a row of the call's own. -/
def ReadGives (w : World) (l : Bs) (c : Int) (e : Ending) (w' : World) : Prop :=
  ∃ A k, e = .returned (.tuple #[.slice A l.length k, .int .i64 c]) ∧ w'.ownsRow w.heap.size 5 1 (.slice A l.length k) l.length (vals l) ∧ Below w.heap.size w w'

theorem read_calls (d mp mt : Nat) (D : Dsk) (s : ByteArray) (w : World) (h : IsDisk w d mp mt D) (hs : s.size ≤ 9223372036854775807) (hsum : ∀ f ∈ D.files, f.all.length ≤ 1048576) :
    Calls Try.prog 48 #[.pointer (some ⟨d, 0, none⟩), .string s] w (ReadGives w (D.read s.data.toList).1 (D.read s.data.toList).2) := by
  cases hd : D.down
  · cases hf : Dsk.find D.files s.data.toList with
    | none =>
      rw [show D.read s.data.toList = ([], 31) by unfold Dsk.read; rw [hd, hf]; rfl]
      have hc := Lib.hid (file_none d mp mt D s w h hs hd hf)
      clear h hd hf hsum
      go_enter Try.func48, Try.ntmps48
      go_wp2_with (go_at_call 100; refine hc.out.mono ?_; rintro e w' ⟨rfl, hb⟩)
      go_ret2
      exact ⟨none, 0, rfl, World.ownsRow_nil _ _ _ _, hb.alloc hb.size _⟩
    | some f =>
      rw [show D.read s.data.toList = (f.all, 0) by unfold Dsk.read; rw [hd, hf]; rfl]
      have hc := Lib.hid (file_some d mp mt D s f w h hs hd hf)
      have hlen := hsum f (mem_find hf).1
      clear h hd hf hsum
      go_enter Try.func48, Try.ntmps48
      go_wp2_with (first
        | (go_at_call 100; refine hc.out.mono ?_; rintro e w1 ⟨A, n, c, rfl, hb, hnc, hA, hbl⟩; have HA := Lib.hid hA; clear hA)
        | (go_at_call 80; refine (clone_calls A n c f.all _ (hb.below (hbl.alloc hbl.size _)) (by have := hb.1; omega) HA.out).mono ?_; rintro e w2 ⟨A2, c2, rfl, hown, hb2⟩))
      go_ret2
      have hn := hb.1
      subst hn
      exact ⟨A2, c2, rfl, hown.rebase (by have := hbl.size; simp; omega), (hbl.alloc hbl.size _).trans (hb2.mono (by have := hbl.size; simp; omega))⟩
  · rw [show D.read s.data.toList = ([], 50) by unfold Dsk.read; rw [hd]; rfl]
    have hc := Lib.hid (file_down d mp mt D s w h hd)
    clear h hd hsum
    go_enter Try.func48, Try.ntmps48
    go_wp2_with (go_at_call 100; refine hc.out.mono ?_; rintro e w' ⟨rfl, hb⟩)
    go_ret2
    exact ⟨none, 0, rfl, World.ownsRow_nil _ _ _ _, hb.alloc hb.size _⟩

end Go.Proofs.Ytcfgdlpdnpnhmaa
set_option linter.unusedVariables false
set_option linter.unusedSimpArgs false
namespace Go.Proofs.Ytcfgdlpdnpnhmaa
open Go.RowKit Go.Maps Go.WideMaps

def insE (p : File × Value) : Ents → Ents
  | [] => [p]
  | y :: r => if bytesBefore p.1.name y.1.name then p :: y :: r else y :: insE p r
def delE (es : Ents) (n : Bs) : Ents := es.filter (fun p => !(p.1.name == n))
def putE (es : Ents) (p : File × Value) : Ents := insE p (delE es p.1.name)
theorem insE_fst (p : File × Value) : ∀ es : Ents, (insE p es).map (·.1) = Dsk.ins p.1 (es.map (·.1))
  | [] => rfl
  | y :: r => by
    simp only [insE, List.map_cons, Dsk.ins]
    split
    · simp
    · simp [insE_fst p r]
theorem delE_fst (es : Ents) (n : Bs) : (delE es n).map (·.1) = Dsk.del (es.map (·.1)) n := by
  unfold delE Dsk.del
  rw [List.filter_map]
  rfl
theorem putE_fst (es : Ents) (p : File × Value) : (putE es p).map (·.1) = Dsk.put (es.map (·.1)) p.1 := by
  unfold putE Dsk.put
  rw [insE_fst, delE_fst]
theorem mem_insE {p q : File × Value} : ∀ {es : Ents}, q ∈ insE p es → q = p ∨ q ∈ es
  | [], h => by simpa [insE] using h
  | y :: r, h => by
    simp only [insE] at h
    split at h
    · simpa using h
    · rcases List.mem_cons.1 h with h | h
      · exact Or.inr (by simp [h])
      · rcases mem_insE h with h | h
        · exact Or.inl h
        · exact Or.inr (by simp [h])
theorem mem_putE {p q : File × Value} {es : Ents} (h : q ∈ putE es p) : q = p ∨ q ∈ es := by
  rcases mem_insE h with h | h
  · exact Or.inl h
  · exact Or.inr (List.mem_filter.1 h).1
theorem insE_length (p : File × Value) : ∀ es : Ents, (insE p es).length = es.length + 1
  | [] => rfl
  | y :: r => by
    simp only [insE]
    split
    · rfl
    · simp [insE_length p r]
theorem dat_insE (p : File × Value) : ∀ es : Ents, (insE p es).map (fun q => ((Lit.string q.1.name, (.held q.2 : DataW Value)))) = DataW.insert (.string p.1.name, .held p.2) (es.map fun q => (.string q.1.name, .held q.2))
  | [] => rfl
  | y :: r => by
    simp only [insE, List.map_cons, DataW.insert, Lit.before]
    by_cases h : bytesBefore p.1.name y.1.name = true
    · simp [h]
    · simp [h, dat_insE p r]
theorem dat_put (es : Ents) (p : File × Value) : (dat es).put (.string p.1.name) (.held p.2) = dat (putE es p) := by
  unfold dat DataW.put putE
  dsimp only
  rw [dat_insE]
  congr 2
  unfold delE
  rw [List.filter_map]
  rfl
theorem dat_del (es : Ents) (n : Bs) : (dat es).del (.string n) = dat (delE es n) := by
  unfold dat DataW.del delE
  dsimp only
  rw [List.filter_map]
  rfl

theorem tight {w : World} {mp n : Nat} {es : Ents} (h : w.ownsMap Try.prog 9 RV mp n (dat es)) : w.ownsMap Try.prog 9 RV mp es.length (dat es) := by
  obtain ⟨es', c, hb, F, hs, hD⟩ := h
  refine ⟨es', c, hb, F, ?_, hD⟩
  have := congrArg Maps.size hD
  simp [dat, Maps.size, length_sorted] at this
  omega

section
variable {w : World} {d mp mt : Nat} {D : Dsk}
/-- 'd.files[name] = f'. -/
theorem IsDisk.store (h : IsDisk w d mp mt D) {s : ByteArray} (hs : s.size ≤ 9223372036854775807) {f : File} (hn : f.name = s.data.toList) {v : Value} (hv : Cont w v f) (hlen : D.files.length ≤ 1048576) :
    ∃ w', (Instr.mapUpdate 75 (.map (some mp)) (.string s) v).run Try.prog w = .ok () w' ∧ IsDisk w' d mp mt { D with files := Dsk.put D.files f } ∧ Ext [mp] w w' := by
  obtain ⟨es, he, hc, hown⟩ := h.map
  have hkey : keyOf Try.prog 9 (.string s) = some (.string s.data.toList) := keyOf_string_mk Try.underlying9 (by unfold maxLen; omega)
  have hl : es.length = D.files.length := by rw [← he, List.length_map]
  have hRv : RV v = some (.held v, []) := by
    obtain ⟨A, n, c, rfl, _⟩ := hv
    rfl
  obtain ⟨w', hrun, hown', hturn⟩ := hown.store law9 Try.underlying75 (by unfold maxLen; omega) hkey hRv
  have e : Ext [mp] w w' := by
    have := hturn.grown
    exact (Ext.refl _ _).grown this (fun k hk => Or.inl (by cases hk; simp))
  refine ⟨w', hrun, ⟨e.obj h.blk (by simpa using h.ne1), e.obj h.met (by simpa using Ne.symm h.ne3), putE es (f, v), ?_, ?_, ?_⟩, e⟩
  · rw [putE_fst, he]
  · intro p hp
    have hno : ∀ k, k ∈ [mp] → NoU8 w k := fun k hk => by rw [List.mem_singleton.1 hk]; exact h.nomp
    rcases mem_putE hp with rfl | hp
    · exact hv.ext e hno
    · exact (hc p hp).ext e hno
  · rw [← hn, dat_put es (f, v)] at hown'
    exact tight hown'
/-- 'delete(d.files, name)'. -/
theorem IsDisk.strike (h : IsDisk w d mp mt D) {s : ByteArray} (hs : s.size ≤ 9223372036854775807) (ty : TypeId) :
    ∃ w', (Builtin.delete_ #[75, 9] ty #[.map (some mp), .string s]).run Try.prog w = .ok (.tuple #[]) w' ∧ IsDisk w' d mp mt { D with files := Dsk.del D.files s.data.toList } ∧ Ext [mp] w w' := by
  obtain ⟨es, he, hc, hown⟩ := h.map
  have hkey : keyOf Try.prog 9 (.string s) = some (.string s.data.toList) := keyOf_string_mk Try.underlying9 (by unfold maxLen; omega)
  obtain ⟨w', hrun, hown', hturn⟩ := hown.drop law9 Try.underlying75 hkey ty
  have e : Ext [mp] w w' := by
    have := hturn.grown
    exact (Ext.refl _ _).grown this (fun k hk => Or.inl (by cases hk; simp))
  refine ⟨w', hrun, ⟨e.obj h.blk (by simpa using h.ne1), e.obj h.met (by simpa using Ne.symm h.ne3), delE es s.data.toList, ?_, ?_, ?_⟩, e⟩
  · rw [delE_fst, he]
  · intro p hp
    exact (hc p ((List.mem_filter.1 hp).1)).ext e (fun k hk => by rw [List.mem_singleton.1 hk]; exact h.nomp)
  · rw [dat_del] at hown'
    exact tight hown'
theorem IsDisk.len (h : IsDisk w d mp mt D) (ty : TypeId) : (Builtin.len_ #[75] ty #[.map (some mp)]).run Try.prog w = .ok (.int .i64 D.files.length) w := by
  obtain ⟨es, he, hc, hown⟩ := h.map
  have := hown.len Try.underlying75 ty
  rw [this]
  simp [dat, Maps.size, ← he]
end

section
variable {P : Program} (w : World) {ops : Array Oper} {rest : List Oper} {o : Oper} {a : Act} {Q : Exit → Act → World → Prop} {d mp mt : Nat} {D : Dsk}
theorem wpList_disk_store (hg : o.guard = none) (m x v : Operand) (hop : o.op = Op.mapUpdate 75 m x v) (hm : a.eval m = .map (some mp)) (s : ByteArray) (hx : a.eval x = .string s) (u : Value) (hv : a.eval v = u)
    (h : IsDisk w d mp mt D) (hs : s.size ≤ 9223372036854775807) (f : File) (hn : f.name = s.data.toList) (hc : Cont w u f) (hlen : D.files.length ≤ 1048576)
    (hK : ∀ w', IsDisk w' d mp mt { D with files := Dsk.put D.files f } → Ext [mp] w w' → wpList Try.prog ops Q rest (a.put o.dst undef) w') : wpList Try.prog ops Q (o :: rest) a w := by
  refine wpList_plain hg fun K' hK' => ?_
  obtain ⟨w', hrun, r1, r2⟩ := h.store hs hn hc hlen
  unfold Oper.wp
  simp [execOp, hop, hm, hx, hv, hrun, Result.andThen]
  exact hK' _ _ (hK w' r1 r2)
theorem wpList_disk_strike (hg : o.guard = none) (m x : Operand) (hop : o.op = Op.call { callee := Callee.builtin Builtin.delete, args := #[m, x], argTypes := #[75, 9] }) (hm : a.eval m = .map (some mp)) (s : ByteArray) (hx : a.eval x = .string s)
    (h : IsDisk w d mp mt D) (hs : s.size ≤ 9223372036854775807)
    (hK : ∀ w', IsDisk w' d mp mt { D with files := Dsk.del D.files s.data.toList } → Ext [mp] w w' → wpList Try.prog ops Q rest (a.put o.dst (.tuple #[])) w') : wpList Try.prog ops Q (o :: rest) a w := by
  refine wpList_plain hg fun K' hK' => ?_
  obtain ⟨w', hrun, r1, r2⟩ := h.strike hs o.type
  unfold Oper.wp
  simp [execOp, hop, resolve, invoke, builtin, hm, hx, hrun, Result.andThen]
  exact hK' _ _ (hK w' r1 r2)
end

theorem arm_calls (d mp mt : Nat) (D : Dsk) (k : Int) (w : World) (h : IsDisk w d mp mt D) :
    Calls Try.prog 40 #[.pointer (some ⟨d, 0, none⟩), .int .i64 k] w fun e w' => e = .returned (.int .i64 (D.arm k).2) ∧ Left w d mp mt (D.arm k).1 w' := by
  have hu := up_calls d mp mt D w h
  have f3 := h.fz 3
  have c3 := h.c3
  cases hd : D.down
  · rw [show upE D = 0 by unfold upE; rw [hd]; rfl] at hu
    by_cases hk : k < 0
    · rw [show D.arm k = (D, 2) by unfold Dsk.arm; rw [hd, if_neg (by simp), if_pos hk]]
      have HL : Left w d mp mt D w := ⟨h, Ext.refl _ _⟩
      have Hu := Lib.hid hu
      clear hu hd h
      go_enter Try.func40, Try.ntmps40
      go_wp2_with (go_at_call 99; refine Hu.out.mono ?_; rintro e w' ⟨rfl, rfl⟩)
      go_ret
      exact ⟨rfl, HL⟩
    · rw [show D.arm k = ({ D with armed := k }, 0) by unfold Dsk.arm; rw [hd, if_neg (by simp), if_neg hk]]
      have HL : Left w d mp mt { D with armed := k } (w.setCell ⟨d, 3, none⟩ (.int .i64 k)) := ⟨h.setArmed k, (Ext.refl _ _).setCell (Or.inl (by simp)) _⟩
      have Hu := Lib.hid hu
      clear hu hd h
      go_enter Try.func40, Try.ntmps40
      go_wp2_with (go_at_call 99; refine Hu.out.mono ?_; rintro e w' ⟨rfl, rfl⟩)
      go_ret
      exact ⟨rfl, HL⟩
  · rw [show upE D = 50 by unfold upE; rw [hd]; rfl] at hu
    rw [show D.arm k = (D, 50) by unfold Dsk.arm; rw [hd]; rfl]
    have HL : Left w d mp mt D w := ⟨h, Ext.refl _ _⟩
    have Hu := Lib.hid hu
    clear hu hd h
    go_enter Try.func40, Try.ntmps40
    go_wp2_with (go_at_call 99; refine Hu.out.mono ?_; rintro e w' ⟨rfl, rfl⟩)
    go_ret
    exact ⟨rfl, HL⟩

theorem resize_calls (d mp mt : Nat) (D : Dsk) (k : Int) (w : World) (h : IsDisk w d mp mt D) :
    Calls Try.prog 46 #[.pointer (some ⟨d, 0, none⟩), .int .i64 k] w fun e w' => e = .returned (.int .i64 (D.resize k).2) ∧ Left w d mp mt (D.resize k).1 w' := by
  have hu := up_calls d mp mt D w h
  have f3 := h.fz 1
  have c3 := h.c1
  cases hd : D.down
  · rw [show upE D = 0 by unfold upE; rw [hd]; rfl] at hu
    by_cases hk : k < 0
    · rw [show D.resize k = (D, 2) by unfold Dsk.resize; rw [hd, if_neg (by simp), if_pos (Or.inl hk)]]
      have HL : Left w d mp mt D w := ⟨h, Ext.refl _ _⟩
      have Hu := Lib.hid hu
      clear hu hd h
      go_enter Try.func46, Try.ntmps46
      go_wp2_with (go_at_call 99; refine Hu.out.mono ?_; rintro e w' ⟨rfl, rfl⟩)
      go_ret
      exact ⟨rfl, HL⟩
    · by_cases hk2 : 1048576 < k
      · rw [show D.resize k = (D, 2) by unfold Dsk.resize; rw [hd, if_neg (by simp), if_pos (Or.inr hk2)]]
        have HL : Left w d mp mt D w := ⟨h, Ext.refl _ _⟩
        have Hu := Lib.hid hu
        clear hu hd h
        go_enter Try.func46, Try.ntmps46
        go_wp2_with (go_at_call 99; refine Hu.out.mono ?_; rintro e w' ⟨rfl, rfl⟩)
        go_ret
        exact ⟨rfl, HL⟩
      · rw [show D.resize k = ({ D with room := k }, 0) by unfold Dsk.resize; rw [hd, if_neg (by simp), if_neg (by omega)]]
        have HL : Left w d mp mt { D with room := k } (w.setCell ⟨d, 1, none⟩ (.int .i64 k)) := ⟨h.setRoom k, (Ext.refl _ _).setCell (Or.inl (by simp)) _⟩
        have Hu := Lib.hid hu
        clear hu hd h
        go_enter Try.func46, Try.ntmps46
        go_wp2_with (go_at_call 99; refine Hu.out.mono ?_; rintro e w' ⟨rfl, rfl⟩)
        go_ret
        exact ⟨rfl, HL⟩
  · rw [show upE D = 50 by unfold upE; rw [hd]; rfl] at hu
    rw [show D.resize k = (D, 50) by unfold Dsk.resize; rw [hd]; rfl]
    have HL : Left w d mp mt D w := ⟨h, Ext.refl _ _⟩
    have Hu := Lib.hid hu
    clear hu hd h
    go_enter Try.func46, Try.ntmps46
    go_wp2_with (go_at_call 99; refine Hu.out.mono ?_; rintro e w' ⟨rfl, rfl⟩)
    go_ret
    exact ⟨rfl, HL⟩

theorem boot_calls (d mp mt : Nat) (D : Dsk) (w : World) (h : IsDisk w d mp mt D) :
    Calls Try.prog 47 #[.pointer (some ⟨d, 0, none⟩)] w fun e w' => e = .returned (.int .i64 0) ∧ Left w d mp mt D.boot w' := by
  have hu := none_calls d mp mt D w h
  have c2 := h.c2
  have f2 := h.fz 2
  have c3 := h.c3
  have f3 := h.fz 3
  have HL : Left w d mp mt D.boot ((w.setCell ⟨d, 2, none⟩ (.bool false)).setCell ⟨d, 3, none⟩ (.int .i64 (-1))) := ⟨(h.setDown false).setArmed (-1), ((Ext.refl _ _).setCell (Or.inl (by simp)) _).setCell (Or.inl (by simp)) _⟩
  have Hu := Lib.hid hu
  clear hu h
  go_enter Try.func47, Try.ntmps47
  go_wp2_with (go_at_call 93; refine Hu.out.mono ?_; rintro e w' ⟨rfl, rfl⟩)
  go_ret
  exact ⟨rfl, HL⟩

end Go.Proofs.Ytcfgdlpdnpnhmaa
