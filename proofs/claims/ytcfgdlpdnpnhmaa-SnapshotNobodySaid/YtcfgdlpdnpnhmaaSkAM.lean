/- Contracts and words (several texts merged by wip/merge.py). Bytes to a string and back, over bytes that are read (Bts); a new row of bytes. -/
import Derived.Test.YtcfgdlpdnpnhmaaSkAE
import Derived.Laws.IdiomStrings
import Derived.Shelf.Bytes.SlSmallAll
import Derived.Lib.SlBytesConst
import Derived.Test.YtcfgdlpdnpnhmaaSkAK
import Derived.Test.YtcfgdlpdnpnhmaaSkAI
import Derived.Test.YtcfgdlpdnpnhmaaSkAL
set_option linter.unusedVariables false
set_option linter.unusedSimpArgs false
namespace Go.Proofs.Ytcfgdlpdnpnhmaa
open Go.RowKit Go.Maps

/-- 'string(b)'. -/
theorem run_to_str {w : World} {A : Option Addr} {n : Nat} {l : Bs} (hb : Bts w A n l) (c : Nat) :
    (convert 22 9 (.slice A n c)).run Try.prog w = .ok (.string ⟨l.toArray⟩) w := by
  rcases Nat.eq_zero_or_pos n with h0 | h0
  · subst h0
    have hl : l = [] := List.eq_nil_of_length_eq_zero hb.1
    subst hl
    exact run_convert_bytes_zero w _ _ Try.underlying22 Try.underlying5 A c _ Try.underlying9
  · obtain ⟨ad, rfl, hc⟩ := hb.2 h0
    have hl := hb.1
    subst hl
    exact run_convert_bytes_back w _ _ _ ad c l Try.underlying22 Try.underlying5 Try.underlying9 (fun j hj => by
      rw [hc j hj]
      simp [u8, List.getD_eq_getElem?_getD, List.getElem?_eq_getElem hj])

theorem Bts.of_block {w : World} {g : Nat} {cs : Array Value} {t : TypeId} {fr : Nat × Nat} (h : w.heap[g]? = some (.cells cs t fr)) (l : Bs) (hl : ∀ j, j < l.length → cs[j]? = some (.int .u8 (u8 l j))) : Bts w (some ⟨g, 0, none⟩) l.length l := by
  refine ⟨rfl, fun _ => ⟨_, rfl, fun j hj => ?_⟩⟩
  rw [add0, blk_cell h, Nat.zero_add]
  exact hl j hj

/-- '[]byte(s)'. -/
theorem run_to_bytes (s : ByteArray) (w : World) : ∃ A c w', (convert 9 22 (.string s)).run Try.prog w = .ok (.slice A s.size c) w' ∧ Bts w' A s.size s.data.toList ∧ A ≠ none ∧ Below w.heap.size w w' := by
  have hr := run_bytes_of_string w 9 22 5 s Try.underlying9 Try.underlying22 Try.underlying5
  refine ⟨_, _, _, hr, ?_, by simp, ((Below.refl _ _).drew).alloc (Nat.le_refl _) _⟩
  have hb := blk_new w.drew (.cells (bytesRow s (grownCap w s.size 0 5)) 5 ((bytesRow s (grownCap w s.size 0 5)).size, (bytesRow s (grownCap w s.size 0 5)).size + 1))
  have hl : s.data.toList.length = s.size := by rw [Array.length_toList]; rfl
  have h1 := Bts.of_block hb s.data.toList (fun j hj => by
    rw [hl] at hj
    have hj' : j < s.data.size := hj
    unfold bytesRow
    rw [Array.getElem?_append_left (by simpa using hj)]
    simp [u8, List.getD_eq_getElem?_getD, Array.getElem?_eq_getElem hj'])
  rw [hl] at h1
  exact h1

/-- '[]byte("..")' of a constant. -/
theorem run_conv_const (C : Array Value) (n c : Nat) (w : World) : (convert 22 22 (.slice (some ⟨w.heap.size, 0, none⟩) n c)).run Try.prog (w.alloc (.cells C 5)) = .ok (.slice (some ⟨w.heap.size, 0, none⟩) n c) (w.alloc (.cells C 5 (C.size, C.size + 1))) :=
  Lib.run_convert_bytes_const w _ _ C n c Try.underlying22 Try.underlying5

section
variable {P : Program} (w : World) {ops : Array Oper} {rest : List Oper} {o : Oper} {a : Act} {Q : Exit → Act → World → Prop}
theorem wpList_to_bytes (hgd : o.guard = none) (x : Operand) (ho : o.op = .convert 9 22 x) (s : ByteArray) (hx : a.eval x = .string s)
    (h : ∀ A c w', Bts w' A s.size s.data.toList → A ≠ none → Below w.heap.size w w' → wpList Try.prog ops Q rest (a.put o.dst (.slice A s.size c)) w') :
    wpList Try.prog ops Q (o :: rest) a w := by
  refine wpList_plain hgd fun K hK => ?_
  obtain ⟨A, c, w', hr, h1, h2, h3⟩ := run_to_bytes s w
  unfold Oper.wp execOp
  simp only [ho, hx, Sem.run_bind, hr, Result.andThen_ok]
  exact hK _ _ (h A c w' h1 h2 h3)
end
end Go.Proofs.Ytcfgdlpdnpnhmaa
set_option linter.unusedVariables false
set_option linter.unusedSimpArgs false
namespace Go.Proofs.Ytcfgdlpdnpnhmaa
open Go.RowKit Go.Maps

/-- A row under growth of a row of another element type. -/
theorem _root_.Go.World.ownsRow.kept_type {w w' : World} {base base' : Nat} {e e' : TypeId} {size size' : Nat} {v v' : Value} {n n' : Nat} {xs xs' : List Value} (h : w.ownsRow base e size v n xs) (hr : w.ownsRow base' e' size' v' n' xs') (hne : e ≠ e') (hg : w.grownBy w' v'.ownBlock) : w'.ownsRow base e size v n xs := by
  refine h.kept hg ?_
  rcases h.2 with ⟨rfl, _⟩ | ⟨g, cap, cur, rfl, _, hb, _⟩
  · exact Or.inl rfl
  · right
    intro he
    rcases hr.2 with ⟨rfl, _⟩ | ⟨g', cap', cur', rfl, _, hb', _⟩
    · simp [Value.ownBlock] at he
    · simp only [Value.ownBlock, Option.some.injEq] at he
      subst he
      rw [hb] at hb'
      simp at hb'
      exact hne hb'.2

/-- One answered file: its name, its kept bytes, its loose bytes. -/
structure DEl (w : World) (base : Nat) (u : Value × Value × Value) (f : File) : Prop where
  name : u.1 = encStr f.name
  kept : ∃ A c, u.2.1 = .slice A (f.all.take f.kept).length c ∧ w.ownsRow base 5 1 u.2.1 (f.all.take f.kept).length (vals (f.all.take f.kept))
  loose : ∃ A c, u.2.2 = .slice A (f.all.drop f.kept).length c ∧ w.ownsRow base 5 1 u.2.2 (f.all.drop f.kept).length (vals (f.all.drop f.kept))
theorem _root_.Go.World.ownsRow.below' {w w' : World} {base : Nat} {e : TypeId} {size : Nat} {v : Value} {n : Nat} {xs : List Value} (h : w.ownsRow base e size v n xs) (hb : Below w.heap.size w w') : w'.ownsRow base e size v n xs := by
  refine ⟨h.1, ?_⟩
  rcases h.2 with hn | ⟨g, cap, cur, rfl, hg, hgg, rest⟩
  · exact .inl hn
  · exact .inr ⟨g, cap, cur, rfl, hg, (hb.block _ (blk_lt hgg)).trans hgg, rest⟩
theorem DEl.below {w w' : World} {base : Nat} {u : Value × Value × Value} {f : File} (h : DEl w base u f) (hb : Below w.heap.size w w') : DEl w' base u f := by
  obtain ⟨A, c, h1, h2⟩ := h.kept
  obtain ⟨B, d, h3, h4⟩ := h.loose
  exact ⟨h.name, ⟨A, c, h1, h2.below' hb⟩, ⟨B, d, h3, h4.below' hb⟩⟩
theorem DEl.grown {w w' : World} {base base' : Nat} {u : Value × Value × Value} {f : File} {e' : TypeId} {size' : Nat} {v' : Value} {n' : Nat} {xs' : List Value} (h : DEl w base u f) (hr : w.ownsRow base' e' size' v' n' xs') (hne : 5 ≠ e') (hg : w.grownBy w' v'.ownBlock) : DEl w' base u f := by
  obtain ⟨A, c, h1, h2⟩ := h.kept
  obtain ⟨B, d, h3, h4⟩ := h.loose
  exact ⟨h.name, ⟨A, c, h1, h2.kept_type hr hne hg⟩, ⟨B, d, h3, h4.kept_type hr hne hg⟩⟩
theorem DEl.rebase {w : World} {base base' : Nat} {u : Value × Value × Value} {f : File} (h : DEl w base u f) (hb : base' ≤ base) : DEl w base' u f := by
  obtain ⟨A, c, h1, h2⟩ := h.kept
  obtain ⟨B, d, h3, h4⟩ := h.loose
  exact ⟨h.name, ⟨A, c, h1, h2.rebase hb⟩, ⟨B, d, h3, h4.rebase hb⟩⟩

def dvals (us : List (Value × Value × Value)) : List Value := us.flatMap fun u => [u.1, u.2.1, u.2.2]
theorem dvals_append (l m : List (Value × Value × Value)) : dvals (l ++ m) = dvals l ++ dvals m := by simp [dvals]
theorem dvals_length (l : List (Value × Value × Value)) : (dvals l).length = l.length * 3 := by
  induction l with
  | nil => rfl
  | cons f r ih =>
    have e : dvals (f :: r) = [f.1, f.2.1, f.2.2] ++ dvals r := by simp [dvals]
    rw [e, List.length_append, ih]
    simp; omega
theorem dvals_get : ∀ (l : List (Value × Value × Value)) (j : Nat) (hj : j < l.length) (i : Nat) (hi : i < 3), (dvals l)[j * 3 + i]? = [l[j].1, l[j].2.1, l[j].2.2][i]? := by
  intro l
  induction l with
  | nil => intro j hj; simp at hj
  | cons f r ih =>
    intro j hj i hi
    have e : dvals (f :: r) = [f.1, f.2.1, f.2.2] ++ dvals r := by simp [dvals]
    rw [e]
    cases j with
    | zero =>
      rw [List.getElem?_append_left (by simp; omega)]
      simp
    | succ j =>
      rw [List.getElem?_append_right (by simp; omega)]
      have hj' : j < r.length := by simpa using hj
      rw [show (j + 1) * 3 + i - [f.1, f.2.1, f.2.2].length = j * 3 + i by simp; omega, ih j hj' i hi]
      simp
/-- What Files answers. -/
def DFiles (w : World) (base : Nat) (v : Value) (l : List File) : Prop :=
  ∃ us : List (Value × Value × Value), us.length = l.length ∧ w.ownsRow base 66 3 v l.length (dvals us) ∧ ∀ j (h1 : j < us.length) (h2 : j < l.length), DEl w base us[j] l[j]
theorem infoDF : (Try.prog.info? 66).map (fun i => (i.zero, i.size, i.bytes)) = some (some (.agg #[.string ⟨#[]⟩, .slice none 0 0, .slice none 0 0]), 3, 64) := by kernel_rfl
end Go.Proofs.Ytcfgdlpdnpnhmaa
set_option linter.unusedVariables false
set_option linter.unusedSimpArgs false
namespace Go.Proofs.Ytcfgdlpdnpnhmaa
open Go.RowKit Go.Maps

section
variable {P : Program} (w : World) {ops : Array Oper} {rest : List Oper} {o : Oper} {a : Act} {K : Act → World → Prop} {Q : Exit → Act → World → Prop} {E : Prop}
theorem step_append_dfile (hgd : o.guard = none) (s x : Operand) (ho : o.op = .call { callee := .builtin .append, args := #[s, x], argTypes := #[62, 62] })
    (base : Nat) (v : Value) (n : Nat) (us : List (Value × Value × Value)) (hs : a.eval s = v) (hown : w.ownsRow base 66 3 v n (dvals us)) (g c : Nat) (u : Value × Value × Value) (hx : a.eval x = .slice (some ⟨g, 0, none⟩) 1 c)
    (hb : w.heap[g]? = some (.cells #[u.1, u.2.1, u.2.2] 66 (0, 0))) (h1 : ∀ y ∈ [u.1, u.2.1, u.2.2], y.oneCell' = true) (hn : n ≤ 1048576) (hbase : base ≤ w.heap.size)
    (h : ∀ v' w', w'.ownsRow base 66 3 v' (n + 1) (dvals (us ++ [u])) → w.grownBy w' v.ownBlock → K (a.put o.dst v') w') :
    if Region.wanted o (yielded ops a.tmps) = true then Oper.wp Try.prog o a w K Q else E := by
  have hw : Region.wanted o (yielded ops a.tmps) = true := by simp [Region.wanted, hgd]
  rw [if_pos hw]
  obtain ⟨i0, hi, hz0, hz1, hz2⟩ := info_parts infoDF
  obtain ⟨v', w', hr, h2, h3, h4, h5⟩ := run_append_own_at (P := Try.prog) w base 62 o.type 66 i0 _ 3 64 Try.underlying62 hi hz0 hz1 hz2 rfl (by omega) v n (dvals us) hown ⟨g, 0, none⟩ 1 c [u.1, u.2.1, u.2.2] rfl (fun j y hy => by
    rw [add0, blk_cell hb, Nat.zero_add]
    rw [← hy]
    rcases j with _ | _ | _ | j <;> rfl) h1 (by unfold maxLen; omega) (by omega) hbase
  rw [show ([u.1, u.2.1, u.2.2] : List Value) = dvals [u] by simp [dvals], ← dvals_append] at h2
  unfold Oper.wp execOp
  simp only [ho, resolve, invoke, builtin, Sem.run_bind, Sem.run_pure, Result.andThen_ok, List.map_toArray, List.map_cons, List.map_nil, hs, hx, hr]
  exact h v' w' h2 h3
end

theorem al1d (w : World) (a : Obj) : Below w.heap.size w (w.alloc a) := (Below.refl _ _).alloc (Nat.le_refl _) _
def FilesGive (w : World) (l : List File) (e : Ending) (w' : World) : Prop := ∃ v, e = .returned v ∧ DFiles w' w.heap.size v l ∧ Below w.heap.size w w'
set_option maxRecDepth 100000 in
set_option maxHeartbeats 4000000 in
theorem files_calls (d mp mt : Nat) (D : Dsk) (w : World) (h : IsDisk w d mp mt D) (hok : D.Ok) :
    Calls Try.prog 38 #[.pointer (some ⟨d, 0, none⟩)] w (FilesGive w D.files) := by
  have hnm := names_calls d mp mt D w h hok.rising (by have := hok.many; omega)
  have Hnm := Lib.hid hnm
  have Hd := Lib.hid h
  have Hok := Lib.hid hok
  have hmany := hok.many
  clear hnm h hok
  go_enter Try.func38, Try.ntmps38
  go_wp2_with (go_at_call 31; refine Hnm.out.mono ?_; rintro e w3 ⟨v, rfl, hrow, hb3⟩; obtain ⟨An, cn, rfl, hS3⟩ := Strs.of_own hrow; clear hrow)
  have HS3 := Lib.hid hS3
  have Hb3 := Lib.hid hb3
  have hlm : (D.files.map (·.name)).length = D.files.length := by simp
  have hsz3 : w.heap.size ≤ w3.heap.size := hb3.size
  clear hS3 hb3
  go_loopw [2, 9] (fun v i wr => ∃ (k : Nat) (us : List (Value × Value × Value)), i = .int .i64 k ∧ k ≤ D.files.length ∧ us.length = k ∧ wr.ownsRow w3.heap.size 66 3 v k (dvals us) ∧ (∀ j (h1 : j < us.length) (h2 : j < D.files.length), DEl wr w3.heap.size us[j] D.files[j]) ∧ Below w3.heap.size w3 wr) (fun _ i _ => D.files.length - (intOf i).toNat)
  case atStart => exact ⟨0, [], rfl, Nat.zero_le _, rfl, World.ownsRow_nil _ _ _ _, fun j h1 => absurd h1 (by simp), Below.refl _ _⟩
  case round =>
    obtain ⟨k, us, rfl, hkn, hus, hown, hdel, hbl⟩ := hrel
    have Hus := Lib.hid hus
    have Hown := Lib.hid hown
    have Hdel := Lib.hid hdel
    have Hbl := Lib.hid hbl
    have hle : w3.heap.size ≤ wr.heap.size := hbl.size
    clear hus hown hdel hbl
    by_cases hlt : k < D.files.length
    · obtain ⟨f, hfk⟩ : ∃ f, f = D.files[k] := ⟨_, rfl⟩
      have hfm : f ∈ D.files := by rw [hfk]; exact List.getElem_mem hlt
      have hspl : D.files = D.files.take k ++ f :: D.files.drop (k + 1) := by
        rw [hfk, ← List.drop_eq_getElem_cons hlt, List.take_append_drop]
      have hris := Hok.out.rising
      rw [hspl] at hris
      have hfind := Dsk.find_mid hris
      rw [← hspl] at hfind
      have hkept := Hok.out.kept f hfm
      have hfl : f.all.length ≤ 1048576 := Nat.le_trans (sum_le_mem _ f hfm) Hok.out.sum
      have hs16 : (⟨f.name.toArray⟩ : ByteArray).size ≤ 9223372036854775807 := by
        have := (Hok.out.names f hfm).2
        show f.name.toArray.size ≤ _
        rw [List.size_toArray]; omega
      have hwk : IntKind.i64.wrap ((k : Int) + 1) = (k : Int) + 1 := IntWalk.i64_in _ (by omega)
      have hBr : Below w.heap.size w wr := Hb3.out.trans (Hbl.out.mono hsz3)
      have hdisk := Hd.out.below hBr
      obtain ⟨ad, hAn, hcell⟩ := (HS3.out.below Hbl.out).2 (by rw [hlm]; omega)
      rw [hlm] at hcell
      have hname := hcell k hlt
      have hnmk : (D.files.map (·.name)).getD k [] = f.name := by rw [hfk]; simp [List.getD_eq_getElem?_getD, hlt]
      rw [hnmk] at hname
      obtain ⟨pb, po, hpbo⟩ : ∃ pb po, ad.add k = ⟨pb, po, none⟩ := ⟨_, _, cell_spot hname⟩
      rw [hpbo] at hname
      have hix := fun W => (run_str_index ad D.files.length cn k hlt W).trans (by rw [hpbo])
      rw [← hAn] at hix
      obtain ⟨A0, n0, c0, hB0, hnc0, hA0, hlook⟩ := hdisk.look_some (s := ⟨f.name.toArray⟩) (f := f) hs16 hfind
      have hl1 := (hlook wr rfl).2
      have cc0 := hdisk.c0
      have hn0 := hB0.1
      have hkn0 : f.kept ≤ n0 := by omega
      have hn0l : n0 ≤ 1048576 := by omega
      have HA0 := Lib.hid hA0
      have HB0 := Lib.hid hB0
      have Hn0 := Lib.hid hn0
      have Hfk := Lib.hid hfk
      clear hfk hspl hris hfind hdisk hcell hnmk hpbo hAn hlook hA0 hB0 hn0
      obtain ⟨A1, hA1⟩ : ∃ A1, (if c0 = f.kept then A0 else A0.map (·.add f.kept)) = A1 := ⟨_, rfl⟩
      have hs1 := run_cut_to A0 n0 c0 f.kept (by omega)
      have hs2 := run_cut_from A0 n0 c0 f.kept hkn0
      simp only [hA1] at hs2
      have hnone : A1 = none → c0 - f.kept = 0 := by
        intro e
        rw [← hA1] at e
        by_cases hc : c0 = f.kept
        · omega
        · rw [if_neg hc] at e
          have := HA0.out (Option.map_eq_none_iff.1 e)
          omega
      have Hnone := Lib.hid hnone
      have HA1 := Lib.hid hA1
      clear hA1 hnone
      go_upto_region 5 with fail
      obtain ⟨w4, hw4⟩ : ∃ w4, w4 = wr.alloc (.cells #[.slice A0 n0 c0, .int .i64 f.kept] 159) := ⟨_, rfl⟩
      rw [← hw4]
      have hb4 : Below wr.heap.size wr w4 := by rw [hw4]; exact (Below.refl _ _).alloc (Nat.le_refl _) _
      have hx4 : w4.heap[wr.heap.size]? = some (.cells #[.slice A0 n0 c0, .int .i64 f.kept] 159 (0, 0)) := by rw [hw4]; exact blk_new wr _
      have hz4 := Lib.hid (show w4.heap.size = wr.heap.size + 1 by rw [hw4]; simp)
      have b0 := blk_cell hx4 0
      have b1 := blk_cell hx4 1
      clear hw4 hl1 hix hname
      refine wp_region_last (fun w' => w'.cell? ⟨wr.heap.size, 0, none⟩ = some (.slice A0 n0 c0) ∧ w'.cell? ⟨wr.heap.size, 1, none⟩ = some (.int .i64 f.kept)) 17 (by kernel_rfl) ⟨b0, b1⟩ (fun hHeld => ?_)
      refine wpAnyL_take 0 (v := ?_) rfl (by kernel_rfl) (fun _ _ _ h => h) (Or.inl ⟨by rfl, ?_⟩) hHeld ?_
      rotate_left
      · (intro w hSw; (try dsimp only at hSw); go_simp; try with_reducible rfl)
      try simp only [Act.put, List.setIfInBounds_toArray, List.set_cons_zero, List.set_cons_succ]
      refine wpAnyL_take 1 (v := ?_) rfl (by kernel_rfl) (fun _ _ _ h => h) (Or.inl ⟨by rfl, ?_⟩) hHeld ?_
      rotate_left
      · (intro w hSw; (try dsimp only at hSw); go_simp; try with_reducible rfl)
      try simp only [Act.put, List.setIfInBounds_toArray, List.set_cons_zero, List.set_cons_succ]
      refine wpAnyL_take 2 (v := ?_) rfl (by kernel_rfl) (fun _ _ _ h => h) (Or.inl ⟨by rfl, ?_⟩) hHeld ?_
      rotate_left
      · (intro w hSw; (try dsimp only at hSw); go_simp; try with_reducible rfl)
      try simp only [Act.put, List.setIfInBounds_toArray, List.set_cons_zero, List.set_cons_succ]
      refine wpAnyL_take 3 (v := ?_) rfl (by kernel_rfl) (fun _ _ _ h => h) (Or.inl ⟨by rfl, ?_⟩) hHeld ?_
      rotate_left
      · (intro w hSw; (try dsimp only at hSw); go_simp; try with_reducible rfl)
      try simp only [Act.put, List.setIfInBounds_toArray, List.set_cons_zero, List.set_cons_succ]
      refine wpAnyL_take 4 (v := ?_) rfl (by kernel_rfl) (fun _ _ _ h => h) (Or.inl ⟨by rfl, ?_⟩) hHeld ?_
      rotate_left
      · (intro w hSw; (try dsimp only at hSw); go_simp; try with_reducible rfl)
      try simp only [Act.put, List.setIfInBounds_toArray, List.set_cons_zero, List.set_cons_succ]
      refine wpAnyL_take 5 (v := ?_) rfl (by kernel_rfl) (fun _ _ _ h => h) (Or.inl ⟨by rfl, ?_⟩) hHeld ?_
      rotate_left
      · (intro w hSw; (try dsimp only at hSw); go_simp; try with_reducible rfl)
      try simp only [Act.put, List.setIfInBounds_toArray, List.set_cons_zero, List.set_cons_succ]
      refine wpAnyL_take 6 (v := ?_) rfl (by kernel_rfl) (fun _ _ _ h => h) (Or.inl ⟨by rfl, ?_⟩) hHeld ?_
      rotate_left
      · (intro w hSw; (try dsimp only at hSw); go_simp; try with_reducible rfl)
      try simp only [Act.put, List.setIfInBounds_toArray, List.set_cons_zero, List.set_cons_succ]
      refine wpAnyL_take 8 (v := ?_) rfl (by kernel_rfl) (fun _ _ _ h => h) (Or.inl ⟨by rfl, ?_⟩) hHeld ?_
      rotate_left
      · (intro w hSw; (try dsimp only at hSw); go_simp; try with_reducible rfl)
      try simp only [Act.put, List.setIfInBounds_toArray, List.set_cons_zero, List.set_cons_succ]
      refine wpAnyL_take 9 (v := ?_) rfl (by kernel_rfl) (fun _ _ _ h => h) (Or.inl ⟨by rfl, ?_⟩) hHeld ?_
      rotate_left
      · (intro w hSw; (try dsimp only at hSw); go_simp; try with_reducible rfl)
      try simp only [Act.put, List.setIfInBounds_toArray, List.set_cons_zero, List.set_cons_succ]
      refine wpAnyL_take 10 (v := ?_) rfl (by kernel_rfl) (fun _ _ _ h => h) (Or.inl ⟨by rfl, ?_⟩) hHeld ?_
      rotate_left
      · (intro w hSw; (try dsimp only at hSw); go_simp; try with_reducible rfl)
      try simp only [Act.put, List.setIfInBounds_toArray, List.set_cons_zero, List.set_cons_succ]
      refine wpAnyL_take 11 (v := ?_) rfl (by kernel_rfl) (fun _ _ _ h => h) (Or.inl ⟨by rfl, ?_⟩) hHeld ?_
      rotate_left
      · (intro w hSw; (try dsimp only at hSw); go_simp; try with_reducible rfl)
      try simp only [Act.put, List.setIfInBounds_toArray, List.set_cons_zero, List.set_cons_succ]
      refine wpAnyL_take 12 (v := ?_) rfl (by kernel_rfl) (fun _ _ _ h => h) (Or.inl ⟨by rfl, ?_⟩) hHeld ?_
      rotate_left
      · (intro w hSw; (try dsimp only at hSw); go_simp; try with_reducible rfl)
      try simp only [Act.put, List.setIfInBounds_toArray, List.set_cons_zero, List.set_cons_succ]
      have hlx : wr.heap.size < w4.drew.heap.size := by rw [show w4.drew.heap = w4.heap from rfl, hz4.out]; omega
      refine wpAnyL_one 7 (by kernel_rfl) rfl (fun K hK => ?_)
      go_simp
      go_at_call 80
      refine (clone_calls A0 f.kept c0 (f.all.take f.kept) w4.drew ((HB0.out.below hb4.drew).take f.kept hkn0) (by omega) HA0.out).mono ?_
      rintro e w5 ⟨A5, c5, rfl, hown5, hb5⟩
      have q0 : w5.cell? ⟨wr.heap.size, 0, none⟩ = some (.slice A0 n0 c0) := (hb5.cell (p := ⟨wr.heap.size, 0, none⟩) hlx).trans b0
      have q1 : w5.cell? ⟨wr.heap.size, 1, none⟩ = some (.int .i64 f.kept) := (hb5.cell (p := ⟨wr.heap.size, 1, none⟩) hlx).trans b1
      refine hK.out _ _ (fun _ => ⟨q0, q1⟩) ?_
      clear hK K
      try simp only [Act.put, List.setIfInBounds_toArray, List.set_cons_zero, List.set_cons_succ]
      refine wpAnyL_one 13 (by kernel_rfl) rfl (fun K hK => ?_)
      go_simp
      go_at_call 80
      have hBd : Bts w5 A1 (n0 - f.kept) (f.all.drop f.kept) := by
        have := ((HB0.out.below hb4.drew).below hb5).drop (c := c0) f.kept hkn0 hnc0
        rw [HA1.out] at this
        exact this
      refine (clone_calls A1 (n0 - f.kept) (c0 - f.kept) (f.all.drop f.kept) w5 hBd (by omega) Hnone.out).mono ?_
      rintro e w6 ⟨A6, c6, rfl, hown6, hb6⟩
      have hHeld : w6.cell? ⟨wr.heap.size, 0, none⟩ = some (.slice A0 n0 c0) ∧ w6.cell? ⟨wr.heap.size, 1, none⟩ = some (.int .i64 f.kept) := ⟨(hb6.cell (p := ⟨wr.heap.size, 0, none⟩) (Nat.lt_of_lt_of_le hlx hb5.size)).trans q0, (hb6.cell (p := ⟨wr.heap.size, 1, none⟩) (Nat.lt_of_lt_of_le hlx hb5.size)).trans q1⟩
      refine hK.out _ _ (fun _ => hHeld) ?_
      clear hK K
      try simp only [Act.put, List.setIfInBounds_toArray, List.set_cons_zero, List.set_cons_succ]
      refine wpAnyL_take 14 (v := ?_) rfl (by kernel_rfl) (fun _ _ _ h => h) (Or.inl ⟨by rfl, ?_⟩) hHeld ?_
      rotate_left
      · (intro w hSw; (try dsimp only at hSw); go_simp; try with_reducible rfl)
      try simp only [Act.put, List.setIfInBounds_toArray, List.set_cons_zero, List.set_cons_succ]
      refine wpAnyL_one 15 (by kernel_rfl) rfl (fun K hK => ?_)
      go_simp
      have hlx6 : wr.heap.size < w6.heap.size := Nat.lt_of_lt_of_le hlx (Nat.le_trans hb5.size hb6.size)
      have hb7 := al1d w6 (.cells #[encStr f.name, .slice A5 f.kept c5, .slice A6 (n0 - f.kept) c6] 66)
      have hHeld : (w6.alloc (.cells #[encStr f.name, .slice A5 f.kept c5, .slice A6 (n0 - f.kept) c6] 66)).cell? ⟨wr.heap.size, 0, none⟩ = some (.slice A0 n0 c0) ∧ (w6.alloc (.cells #[encStr f.name, .slice A5 f.kept c5, .slice A6 (n0 - f.kept) c6] 66)).cell? ⟨wr.heap.size, 1, none⟩ = some (.int .i64 f.kept) := ⟨(hb7.cell (p := ⟨wr.heap.size, 0, none⟩) hlx6).trans hHeld.1, (hb7.cell (p := ⟨wr.heap.size, 1, none⟩) hlx6).trans hHeld.2⟩
      refine hK.out _ _ (fun _ => hHeld) ?_
      clear hK K
      try simp only [Act.put, List.setIfInBounds_toArray, List.set_cons_zero, List.set_cons_succ]
      obtain ⟨w7, hw7⟩ : ∃ w7, w7 = w6.alloc (.cells #[encStr f.name, .slice A5 f.kept c5, .slice A6 (n0 - f.kept) c6] 66) := ⟨_, rfl⟩
      have hy7 := blk_new w6 (.cells #[encStr f.name, .slice A5 f.kept c5, .slice A6 (n0 - f.kept) c6] 66)
      rw [← hw7] at hb7 hy7 hHeld ⊢
      clear hw7
      have hb47 : Below w4.drew.heap.size w4.drew w7 := hb5.trans ((hb6.mono hb5.size).trans (hb7.mono (Nat.le_trans hb5.size hb6.size)))
      have hbr7 : Below wr.heap.size wr w7 := hb4.drew.trans (hb47.mono (by omega))
      have hown7 := Hown.out.below' hbr7
      have hl7 : wr.heap.size ≤ w7.heap.size := hbr7.size
      refine wpAnyL_one 16 (by kernel_rfl) rfl (fun K hK => ?_)
      refine step_append_dfile _ (by rfl) _ _ (by rfl) w3.heap.size u2 k us (by rfl) hown7 w6.heap.size 1 (encStr f.name, .slice A5 f.kept c5, .slice A6 (n0 - f.kept) c6) (by rfl) hy7 ?_ (by omega) (by omega) ?_
      · intro y hy
        simp only [List.mem_cons, List.mem_nil_iff, or_false] at hy
        rcases hy with rfl | rfl | rfl <;> rfl
      intro v8 w8 hown8 hg8
      have hne8 : ∀ o, some (⟨wr.heap.size, o, none⟩ : Addr).block ≠ u2.ownBlock := fun o he => by
        have := (Hown.out.lt wr.heap.size he.symm).2
        omega
      have hHeld : w8.cell? ⟨wr.heap.size, 0, none⟩ = some (.slice A0 n0 c0) ∧ w8.cell? ⟨wr.heap.size, 1, none⟩ = some (.int .i64 f.kept) := ⟨hg8.cell hHeld.1 (hne8 0), hg8.cell hHeld.2 (hne8 1)⟩
      refine hK.out _ _ (fun _ => hHeld) ?_
      clear hK K
      try simp only [Act.put, List.setIfInBounds_toArray, List.set_cons_zero, List.set_cons_succ]
      refine wpAnyL_one 17 (by kernel_rfl) rfl (fun K hK => ?_)
      go_simp
      refine hK.out _ _ (fun h => absurd rfl h) ?_
      clear hK K
      try simp only [Act.put, List.setIfInBounds_toArray, List.set_cons_zero, List.set_cons_succ]
      refine wpAnyL_done (by kernel_rfl) ?_ _
      have hk5 : f.kept = (f.all.take f.kept).length := by rw [List.length_take]; omega
      have hk6 : n0 - f.kept = (f.all.drop f.kept).length := by rw [List.length_drop, Hn0.out]
      have hdn : DEl w7 w3.heap.size (encStr f.name, .slice A5 f.kept c5, .slice A6 (n0 - f.kept) c6) f := by
        refine ⟨rfl, ⟨A5, c5, by rw [← hk5], ?_⟩, ⟨A6, c6, by rw [← hk6], ?_⟩⟩
        · have := ((hown5.below' hb6).below' hb7).rebase (base' := w3.heap.size) (by omega)
          rw [← hk5]
          exact this
        · have := (hown6.below' hb7).rebase (base' := w3.heap.size) (by have := hb5.size; omega)
          rw [← hk6]
          exact this
      have hdall : ∀ j (h1 : j < (us ++ [(encStr f.name, Value.slice A5 f.kept c5, Value.slice A6 (n0 - f.kept) c6)]).length) (h2 : j < D.files.length), DEl w8 w3.heap.size (us ++ [(encStr f.name, Value.slice A5 f.kept c5, Value.slice A6 (n0 - f.kept) c6)])[j] D.files[j] := fun j h1 h2 => by
        by_cases hj : j < us.length
        · rw [List.getElem_append_left hj]
          exact ((Hdel.out j hj h2).below hbr7).grown hown7 (by decide) hg8
        · have hjk : j = k := by
            rw [List.length_append, List.length_singleton] at h1
            have := Hus.out
            omega
          subst hjk
          rw [List.getElem_append_right (by omega)]
          simp only [Hus.out, Nat.sub_self, List.getElem_singleton]
          rw [← Hfk.out]
          exact hdn.grown hown7 (by decide) hg8
      have Hdall := Lib.hid hdall
      have Hown8 := Lib.hid hown8
      have hb8 : Below w3.heap.size w3 w8 := (Hbl.out.trans (hbr7.mono hle)).grown hg8 (by omega) (fun q hq => (Hown.out.lt q hq).1)
      have Hb8 := Lib.hid hb8
      clear hk5 hk6 hdn hdall hown8 hb8 hown7 hg8 hb47 hbr7 hown5 hown6 hb5 hb6 hb7
      go_wp2_with fail
      go_roundw
      case rel => exact ⟨k + 1, _, by simp, hlt, by rw [List.length_append, Hus.out]; rfl, Hown8.out, Hdall.out, Hb8.out⟩
      case measure => simp [intOf]; omega
    · have hkn2 : k = D.files.length := by omega
      subst hkn2
      go_wp2
      go_ret
      exact ⟨_, rfl, ⟨us, Hus.out, Hown.out.rebase hsz3, fun j h1 h2 => (Hdel.out j h1 h2).rebase hsz3⟩, Hb3.out.trans (Hbl.out.mono hsz3)⟩
end Go.Proofs.Ytcfgdlpdnpnhmaa
set_option linter.unusedVariables false
set_option linter.unusedSimpArgs false
namespace Go.Proofs.Ytcfgdlpdnpnhmaa
open Go.RowKit Go.Maps

theorem infoDS : (Try.prog.info? 66).map (fun i => (i.size)) = some 3 := by kernel_rfl
theorem run_dfile_index (ad : Addr) (n c k : Nat) (h : k < n) (w : World) : (Instr.indexAt 62 (.slice (some ad) n c) (.int .i64 k)).run Try.prog w = .ok (.pointer (some (ad.add (k * 3)))) w := by
  obtain ⟨i0, hi, hz1⟩ := Option.map_eq_some_iff.1 infoDS
  simp [Instr.indexAt, run_underlying Try.underlying62, sizeOf, typeInfo, hi, hz1, h, Result.andThen, asIntOf]

theorem DFiles.at {w : World} {base : Nat} {A : Option Addr} {n c : Nat} {l : List File} (h : DFiles w base (.slice A n c) l) {k : Nat} (hk : k < l.length) :
    ∃ ad b o A1 c1 A2 c2, A = some ad ∧ ad.add (k * 3) = ⟨b, o, none⟩ ∧ w.cell? ⟨b, o, none⟩ = some (encStr l[k].name) ∧ w.cell? ⟨b, o + 1, none⟩ = some (.slice A1 (l[k].all.take l[k].kept).length c1) ∧ w.cell? ⟨b, o + 2, none⟩ = some (.slice A2 (l[k].all.drop l[k].kept).length c2) ∧
      Bts w A1 (l[k].all.take l[k].kept).length (l[k].all.take l[k].kept) ∧ Bts w A2 (l[k].all.drop l[k].kept).length (l[k].all.drop l[k].kept) := by
  obtain ⟨us, hus, hown, hd⟩ := h
  have hku : k < us.length := by omega
  have hel := hd k hku hk
  obtain ⟨A1, c1, e1, o1⟩ := hel.kept
  obtain ⟨A2, c2, e2, o2⟩ := hel.loose
  obtain ⟨g, cap, hv, _, _⟩ := World.ownsRow.form hown (by omega)
  have hblk : (Value.slice A n c).ownBlock = some g := by rw [hv]; rfl
  have hcell := hown.cells hblk
  injection hv with hA hn hc
  have g0 := dvals_get us k hku 0 (by omega)
  have g1 := dvals_get us k hku 1 (by omega)
  have g2 := dvals_get us k hku 2 (by omega)
  have k0 := hcell _ _ g0
  have k1 := hcell _ _ g1
  have k2 := hcell _ _ g2
  rw [add0] at k0 k1 k2
  rw [e1] at o1
  rw [e2] at o2
  obtain ⟨B1, d1, f1, hb1, _⟩ := Bts.of_own o1
  obtain ⟨B2, d2, f2, hb2, _⟩ := Bts.of_own o2
  injection f1 with f1 _ _
  injection f2 with f2 _ _
  subst f1 f2
  refine ⟨⟨g, 0, none⟩, g, k * 3, A1, c1, A2, c2, hA, by rw [add0, Nat.zero_add], ?_, ?_, ?_, hb1, hb2⟩
  · rw [← hel.name, ← k0]; congr 2; omega
  · rw [← e1, ← k1]; congr 2; omega
  · rw [← e2, ← k2]; congr 2; omega
def RefFiles (w : World) (l : List File) (e : Ending) (w' : World) : Prop := ∃ A n c, e = .returned (.slice A n c) ∧ RFiles w' A n l ∧ n ≤ c ∧ Below w.heap.size w w'
set_option maxRecDepth 100000 in
set_option maxHeartbeats 4000000 in
theorem files23_calls (d mp mt : Nat) (D : Dsk) (w : World) (h : IsDisk w d mp mt D) (hok : D.Ok) :
    Calls Try.prog 37 #[.pointer (some ⟨d, 0, none⟩)] w (RefFiles w D.files) := by
  have Hfc := Lib.hid (files_calls d mp mt D w h hok)
  have Hkept := Lib.hid hok.kept
  have Hlen := Lib.hid (fun f (hf : f ∈ D.files) => Nat.le_trans (sum_le_mem _ f hf) hok.sum)
  have hmany := hok.many
  clear h hok
  go_enter Try.func37, Try.ntmps37
  go_wp2_with (go_at_call 38; refine Hfc.out.mono ?_; rintro e w2 ⟨v, rfl, hdf, hb2⟩; obtain ⟨An, cn, rfl⟩ : ∃ An cn, v = .slice An D.files.length cn := (by obtain ⟨us, hu, ho, _⟩ := hdf; exact own_shape ho); have Hdf := Lib.hid hdf; have Hb2 := Lib.hid hb2; clear hdf hb2)
  go_loopw [3, 9] (fun v i wr => ∃ (k : Nat), i = .int .i64 k ∧ k ≤ D.files.length ∧ wr.ownsRow w2.heap.size 60 3 v k (fvals (D.files.take k)) ∧ Below w2.heap.size w2 wr) (fun _ i _ => D.files.length - (intOf i).toNat)
  case atStart => exact ⟨0, rfl, Nat.zero_le _, World.ownsRow_nil _ _ _ _, Below.refl _ _⟩
  case round =>
    obtain ⟨k, rfl, hkn, hown, hbl⟩ := hrel
    have Hown := Lib.hid hown
    have Hbl := Lib.hid hbl
    have hle : w2.heap.size ≤ wr.heap.size := hbl.size
    clear hown hbl
    by_cases hlt : k < D.files.length
    · obtain ⟨ad, b, o, A1, c1, A2, c2, hA, had, q0, q1, q2, hB1, hB2⟩ := Hdf.out.at hlt
      have hx := Hkept.out _ (List.getElem_mem hlt)
      have hfl := Hlen.out _ (List.getElem_mem hlt)
      have htk : D.files.take (k + 1) = D.files.take k ++ [D.files[k]] := List.take_succ_eq_append_getElem hlt
      obtain ⟨f, hf⟩ : ∃ f, D.files[k] = f := ⟨_, rfl⟩
      rw [hf] at q0 q1 q2 hB1 hB2 hx hfl htk
      have Htk := Lib.hid htk
      have hk5 : (f.all.take f.kept).length = f.kept := by rw [List.length_take]; omega
      have hk6 : (f.all.drop f.kept).length = f.all.length - f.kept := List.length_drop
      rw [hk5] at q1 hB1
      rw [hk6] at q2 hB2
      have hix := fun W => run_dfile_index ad D.files.length cn k hlt W
      simp only [had] at hix
      rw [← hA] at hix
      have hwk : IntKind.i64.wrap ((k : Int) + 1) = (k : Int) + 1 := IntWalk.i64_in _ (by omega)
      have p0 := (Hbl.out.cell (cell_lt q0)).trans q0
      have p1 := (Hbl.out.cell (cell_lt q1)).trans q1
      have p2 := (Hbl.out.cell (cell_lt q2)).trans q2
      have hB1' := Lib.hid (hB1.below Hbl.out)
      have hB2' := Lib.hid (hB2.below Hbl.out)
      obtain ⟨n2, hn2⟩ : ∃ n2, f.all.length - f.kept = n2 := ⟨_, rfl⟩
      rw [hn2] at p2 hB2'
      clear htk hk5 hk6 had hA q0 q1 q2 hB1 hB2 hf
      go_upto_region 5 with fail
      obtain ⟨nm, hnm⟩ : ∃ nm : ByteArray, nm = { data := List.toArray f.name } := ⟨_, rfl⟩
      have hen : encStr f.name = .string nm := by rw [hnm]
      rw [hen, ← hnm]
      obtain ⟨w4, hw4⟩ : ∃ w4, w4 = wr.alloc (.cells #[.string nm, .slice A1 f.kept c1, .slice A2 n2 c2] 66) := ⟨_, rfl⟩
      rw [← hw4]
      have hb4 : Below wr.heap.size wr w4 := by rw [hw4]; exact al1 _ _
      have hx4 : w4.heap[wr.heap.size]? = some (.cells #[.string nm, .slice A1 f.kept c1, .slice A2 n2 c2] 66 (0, 0)) := by rw [hw4]; exact blk_new wr _
      have hz4 : w4.heap.size = wr.heap.size + 1 := by rw [hw4]; simp
      have b0 := blk_cell hx4 0
      have b1 := blk_cell hx4 1
      have b2 := blk_cell hx4 2
      have cv1 := run_to_str (hB1'.out.below hb4) c1
      have cv2 := run_to_str (hB2'.out.below hb4) c2
      obtain ⟨s1, hs1⟩ : ∃ s1 : ByteArray, s1 = ⟨(f.all.take f.kept).toArray⟩ := ⟨_, rfl⟩
      obtain ⟨s2, hs2⟩ : ∃ s2 : ByteArray, s2 = ⟨(f.all.drop f.kept).toArray⟩ := ⟨_, rfl⟩
      rw [← hs1] at cv1
      rw [← hs2] at cv2
      have hz1 : s1.size ≤ 1048576 := by rw [hs1]; show Array.size _ ≤ _; rw [List.size_toArray, List.length_take]; omega
      have hz2 : s2.size ≤ 1048576 := by rw [hs2]; show Array.size _ ≤ _; rw [List.size_toArray, List.length_drop]; omega
      have hadd := run_str_add2 s1 s2 (by omega)
      have hea : encStr f.all = .string (s1 ++ s2) := by
        rw [hs1, hs2]
        show Value.string _ = _
        congr 1
        apply ByteArray.ext
        simp
      have Hen := Lib.hid hen
      have Hea := Lib.hid hea
      have Hz4 := Lib.hid hz4
      have Hb4 := Lib.hid hb4
      have hown4 := Lib.hid (Hown.out.below' hb4)
      clear hw4 hb4 hx4 hz4 hs1 hs2 hea hen hnm p0 p1 p2 hix
      go_wp2_with (at_builtin; refine wpList_append_file _ rfl _ _ rfl w2.heap.size _ k (D.files.take k) rfl (hown4.out.alloc _) w4.heap.size 1 f rfl (by rw [Hen.out, Hea.out]; exact blk_new w4 _) (by omega) (by have := Hz4.out; simp; omega) ?_; intro v' w5 hown5 hgr5)
      go_roundw
      case rel =>
        have hb5 : Below w2.heap.size w2 w5 := ((Hbl.out.trans (Hb4.out.mono hle)).alloc (by have := Hz4.out; omega) _).grown hgr5 (by have := Hz4.out; simp; omega) (fun q hq => (Hown.out.lt q hq).1)
        exact ⟨k + 1, by simp, hlt, by rw [Htk.out]; exact hown5, hb5⟩
      case measure => simp [intOf]; omega
    · have hkn2 : k = D.files.length := by omega
      subst hkn2
      have hown := Hown.out
      rw [List.take_length] at hown
      obtain ⟨A3, c3, rfl, hf3, hc3⟩ := RFiles.of_own hown
      have Hf3 := Lib.hid hf3
      clear hown hf3
      go_wp2
      go_ret
      exact ⟨A3, _, c3, rfl, Hf3.out, hc3, Hb2.out.trans (Hbl.out.mono Hb2.out.size)⟩
end Go.Proofs.Ytcfgdlpdnpnhmaa
set_option linter.unusedVariables false
set_option linter.unusedSimpArgs false
namespace Go.Proofs.Ytcfgdlpdnpnhmaa
open Go
namespace Dsk

theorem mem_ins {f g : File} : ∀ {l : List File}, g ∈ ins f l ↔ g = f ∨ g ∈ l
  | [] => by simp [ins]
  | y :: r => by
    unfold ins
    split
    · simp
    · simp only [List.mem_cons, mem_ins (l := r)]
      constructor
      · rintro (h | h | h) <;> simp [h]
      · rintro (h | h | h) <;> simp [h]
theorem mem_del {g : File} {l : List File} {n : Bs} : g ∈ del l n ↔ g ∈ l ∧ g.name ≠ n := by
  unfold del
  rw [List.mem_filter]
  simp
theorem mem_put {g f : File} {l : List File} : g ∈ put l f ↔ g = f ∨ (g ∈ l ∧ g.name ≠ f.name) := by
  unfold put
  rw [mem_ins, mem_del]
theorem rising_del2 {l : List File} (h : Rising l) (n : Bs) : Rising (del l n) := List.Pairwise.sublist List.filter_sublist h
theorem rising_ins {f : File} : ∀ {l : List File}, Rising l → (∀ y ∈ l, y.name ≠ f.name) → Rising (ins f l)
  | [], _, _ => by simp [ins, Rising]
  | y :: r, h, hn => by
    unfold Rising at h
    rw [List.pairwise_cons] at h
    unfold ins
    split
    · rename_i hb
      unfold Rising
      rw [List.pairwise_cons]
      refine ⟨fun z hz => ?_, by rw [List.pairwise_cons]; exact h⟩
      rcases List.mem_cons.1 hz with rfl | hz
      · exact hb
      · exact WideShapes.bytes_trans _ _ _ hb (h.1 z hz)
    · rename_i hb
      have hyf : bytesBefore y.name f.name = true := (WideAt.bytes_total f.name y.name (fun e => hn y (by simp) e.symm)).resolve_left hb
      unfold Rising
      rw [List.pairwise_cons]
      refine ⟨fun z hz => ?_, rising_ins h.2 (fun z hz => hn z (by simp [hz]))⟩
      rcases mem_ins.1 hz with rfl | hz
      · exact hyf
      · exact h.1 z hz
theorem rising_put {l : List File} (h : Rising l) (f : File) : Rising (put l f) :=
  rising_ins (rising_del2 h _) (fun y hy => (mem_del.1 hy).2)
theorem sum_append (l m : List File) : sum (l ++ m) = sum l + sum m := by
  induction l with
  | nil => simp [sum]
  | cons f r ih => simp only [List.cons_append, sum, ih]; omega
theorem sum_ins (f : File) : ∀ l : List File, sum (ins f l) = f.all.length + sum l
  | [] => by simp [ins, sum]
  | y :: r => by
    unfold ins
    split
    · simp [sum]
    · simp only [sum, sum_ins f r]; omega
theorem sum_del_le (l : List File) (n : Bs) : sum (del l n) ≤ sum l := by
  induction l with
  | nil => simp [del, sum]
  | cons f r ih =>
    unfold del at *
    rw [List.filter_cons]
    split <;> simp only [sum] <;> omega
theorem sum_del_find {l : List File} {n : Bs} {f : File} (h : find l n = some f) : f.all.length + sum (del l n) ≤ sum l := by
  induction l with
  | nil => simp [find] at h
  | cons y r ih =>
    unfold find at h
    rw [List.find?_cons] at h
    by_cases hy : y.name = n
    · simp only [hy, beq_self_eq_true] at h
      cases h
      have := sum_del_le r n
      unfold del at *
      rw [List.filter_cons]
      simp only [hy, beq_self_eq_true, Bool.not_true, Bool.false_eq_true, if_false, sum]
      omega
    · have hyb : (y.name == n) = false := by simpa using hy
      simp only [hyb] at h
      have := ih h
      unfold del at *
      rw [List.filter_cons]
      simp only [hyb, Bool.not_false, if_true, sum]
      omega
end Dsk
end Go.Proofs.Ytcfgdlpdnpnhmaa
set_option linter.unusedVariables false
set_option linter.unusedSimpArgs false
namespace Go.Proofs.Ytcfgdlpdnpnhmaa
open Go
namespace Dsk

theorem len_ins (f : File) (l : List File) : (ins f l).length = l.length + 1 := by
  induction l with
  | nil => rfl
  | cons y r ih => unfold ins; split <;> simp [ih]
theorem len_del_le (l : List File) (n : Bs) : (del l n).length ≤ l.length := List.length_filter_le _ _
theorem len_del_find {l : List File} {n : Bs} {f : File} (h : find l n = some f) : (del l n).length + 1 ≤ l.length := by
  have hm := List.mem_of_find?_eq_some h
  have hn : f.name = n := by have := List.find?_some h; simpa using this
  have : (del l n).length < l.length := by
    unfold del
    refine List.length_filter_lt_length_iff_exists.2 ⟨f, hm, by simp [hn]⟩
  omega
theorem Ok.step {D : Dsk} (h : D.Ok) : D.step.1.Ok := by
  unfold Dsk.step
  split
  · exact ⟨h.room0, h.room1, h.sum, h.many, h.names, h.kept, h.rising, by simp, by simp⟩
  · split
    · rename_i h0 h1
      have := h.armed1
      exact ⟨h.room0, h.room1, h.sum, h.many, h.names, h.kept, h.rising, by show -1 ≤ D.armed - 1; omega, by show D.armed - 1 ≤ _; omega⟩
    · exact ⟨h.room0, h.room1, h.sum, h.many, h.names, h.kept, h.rising, h.armed0, h.armed1⟩
/-- A file is put. -/
theorem Ok.put {D : Dsk} (h : D.Ok) {f : File} (hs : Dsk.sum (Dsk.put D.files f) ≤ 1048576) (hm : (Dsk.put D.files f).length ≤ 128) (hn : 1 ≤ f.name.length ∧ f.name.length ≤ 16) (hk : f.kept ≤ f.all.length) : ({ D with files := Dsk.put D.files f } : Dsk).Ok :=
  ⟨h.room0, h.room1, hs, hm, fun g hg => by
    rcases mem_put.1 hg with rfl | hg
    · exact hn
    · exact h.names g hg.1, fun g hg => by
    rcases mem_put.1 hg with rfl | hg
    · exact hk
    · exact h.kept g hg.1, rising_put h.rising f, h.armed0, h.armed1⟩
theorem Ok.del {D : Dsk} (h : D.Ok) (n : Bs) : ({ D with files := Dsk.del D.files n } : Dsk).Ok :=
  ⟨h.room0, h.room1, Nat.le_trans (sum_del_le _ _) h.sum, Nat.le_trans (len_del_le _ _) h.many, fun g hg => h.names g (mem_del.1 hg).1, fun g hg => h.kept g (mem_del.1 hg).1, rising_del2 h.rising n, h.armed0, h.armed1⟩
theorem find_name {l : List File} {n : Bs} {f : File} (h : find l n = some f) : f ∈ l ∧ f.name = n := ⟨List.mem_of_find?_eq_some h, by have := List.find?_some h; simpa using this⟩
/-- A file that is there is put anew, not longer. -/
theorem Ok.put_found {D : Dsk} (h : D.Ok) {n : Bs} {f g : File} (hf : find D.files n = some f) (hg : g.name = n) (hl : g.all.length ≤ f.all.length) (hk : g.kept ≤ g.all.length) : ({ D with files := Dsk.put D.files g } : Dsk).Ok := by
  obtain ⟨hm, hfn⟩ := find_name hf
  refine h.put ?_ ?_ (by rw [hg, ← hfn]; exact h.names f hm) hk
  · unfold Dsk.put
    rw [sum_ins, hg]
    have := sum_del_find hf
    have := h.sum
    omega
  · unfold Dsk.put
    rw [len_ins, hg]
    have := len_del_find hf
    have := h.many
    omega
theorem step_files' (D : Dsk) : D.step.1.files = D.files := by unfold Dsk.step; split; rfl; split <;> rfl
theorem Ok.sync {D : Dsk} (h : D.Ok) (n : Bs) : (D.sync n).1.Ok := by
  unfold Dsk.sync
  split
  · exact h
  · split
    · exact h
    · rename_i f hf
      split
      · exact h.step
      · exact h.step.put_found (n := n) (f := f) (by rw [step_files']; exact hf) rfl (Nat.le_refl _) (Nat.le_refl _)
theorem Ok.cut {D : Dsk} (h : D.Ok) (n : Bs) (k : Int) : (D.cut n k).1.Ok := by
  unfold Dsk.cut
  split
  · exact h
  · split
    · exact h
    · rename_i f hf
      split
      · exact h
      · split
        · exact h.step
        · rename_i hk _
          refine h.step.put_found (n := n) (f := f) (by rw [step_files']; exact hf) rfl ?_ ?_
          · show (f.all.take k.toNat).length ≤ _
            rw [List.length_take]; omega
          · show min f.kept k.toNat ≤ (f.all.take k.toNat).length
            have := h.kept f (find_name hf).1
            rw [List.length_take]; omega
theorem Ok.remove {D : Dsk} (h : D.Ok) (n : Bs) : (D.remove n).1.Ok := by
  unfold Dsk.remove
  split
  · exact h
  · split
    · exact h
    · split
      · exact h.step
      · exact h.step.del n
theorem Ok.arm {D : Dsk} (h : D.Ok) (k : Int) (hk : k ≤ 9223372036854775807) : (D.arm k).1.Ok := by
  unfold Dsk.arm
  split
  · exact h
  · split
    · exact h
    · exact ⟨h.room0, h.room1, h.sum, h.many, h.names, h.kept, h.rising, by show -1 ≤ k; omega, hk⟩
theorem Ok.resize {D : Dsk} (h : D.Ok) (k : Int) : (D.resize k).1.Ok := by
  unfold Dsk.resize
  split
  · exact h
  · split
    · exact h
    · exact ⟨by show 0 ≤ k; omega, by show k ≤ 1048576; omega, h.sum, h.many, h.names, h.kept, h.rising, h.armed0, h.armed1⟩
theorem Ok.boot {D : Dsk} (h : D.Ok) : D.boot.Ok := ⟨h.room0, h.room1, h.sum, h.many, h.names, h.kept, h.rising, by simp [Dsk.boot], by simp [Dsk.boot]⟩
theorem Ok.move {D : Dsk} (h : D.Ok) (n m : Bs) : (D.move n m).1.Ok := by
  unfold Dsk.move
  split
  · exact h
  · split
    · exact h
    · rename_i f hf
      split
      · exact h
      · rename_i hnm
        split
        · exact h.step
        · have hfs : find D.step.1.files n = some f := by rw [step_files']; exact hf
          have h1 := h.step
          have hs := sum_del_find hfs
          have hl := len_del_find hfs
          have hs1 := h1.sum
          have hm1 := h1.many
          refine (h1.del n).put (f := ⟨m, f.all, f.kept⟩) ?_ ?_ ?_ (h.kept f (find_name hf).1)
          · unfold Dsk.put
            rw [sum_ins]
            have := sum_del_le (Dsk.del D.step.1.files n) m
            show f.all.length + Dsk.sum (Dsk.del (Dsk.del D.step.1.files n) m) ≤ _
            omega
          · unfold Dsk.put
            rw [len_ins]
            have := len_del_le (Dsk.del D.step.1.files n) m
            show (Dsk.del (Dsk.del D.step.1.files n) m).length + 1 ≤ _
            omega
          · simpa [Dsk.named] using hnm
theorem fits {D : Dsk} {b : Bs} (h : ¬ D.free < (b.length : Int)) : b.length = 0 ∨ (Dsk.sum D.files : Int) + b.length ≤ D.room := by
  unfold Dsk.free at h
  by_cases h0 : 0 ≤ D.room - (Dsk.sum D.files : Int)
  · rw [if_pos h0] at h; omega
  · rw [if_neg h0] at h; omega
theorem Ok.append {D : Dsk} (h : D.Ok) (n b : Bs) : (D.append n b).1.Ok := by
  unfold Dsk.append
  split
  · exact h
  · split
    · exact h
    · rename_i hnm
      have hnm' : 1 ≤ n.length ∧ n.length ≤ 16 := by simpa [Dsk.named] using hnm
      split
      · rename_i hf
        split
        · exact h
        · rename_i hc
          refine Ok.step (h.put (f := ⟨n, b, 0⟩) ?_ ?_ hnm' (Nat.zero_le _))
          · unfold Dsk.put
            rw [sum_ins]
            have := sum_del_le D.files n
            have := h.room1
            have := h.sum
            have hfit := fits (b := b) (D := D) (by omega)
            show b.length + Dsk.sum (Dsk.del D.files n) ≤ _
            omega
          · unfold Dsk.put
            rw [len_ins]
            have := len_del_le D.files n
            show (Dsk.del D.files n).length + 1 ≤ _
            omega
      · rename_i f hf
        split
        · exact h
        · rename_i hc
          refine Ok.step (h.put (f := ⟨n, f.all ++ b, f.kept⟩) ?_ ?_ hnm' ?_)
          · unfold Dsk.put
            rw [sum_ins]
            have := sum_del_find hf
            have := h.room1
            have := h.sum
            have hfit := fits (b := b) (D := D) hc
            show (f.all ++ b).length + Dsk.sum (Dsk.del D.files n) ≤ _
            rw [List.length_append]
            omega
          · unfold Dsk.put
            rw [len_ins]
            have := len_del_find hf
            have := h.many
            show (Dsk.del D.files n).length + 1 ≤ _
            omega
          · have := h.kept f (find_name hf).1
            show f.kept ≤ (f.all ++ b).length
            rw [List.length_append]; omega
end Dsk
end Go.Proofs.Ytcfgdlpdnpnhmaa
set_option linter.unusedVariables false
set_option linter.unusedSimpArgs false
namespace Go.Proofs.Ytcfgdlpdnpnhmaa
open Go
namespace Dsk

theorem crashFile_len {f : File} (ts : List (Nat × Nat)) (hk : f.kept ≤ f.all.length) : (crashFile f ts).1.all.length ≤ f.all.length ∧ (crashFile f ts).1.kept ≤ (crashFile f ts).1.all.length := by
  unfold crashFile
  split
  · refine ⟨?_, Nat.le_refl _⟩
    show (f.all.take f.kept ++ torn (f.all.drop f.kept) (ts.headD (0, 0))).length ≤ _
    have := torn_length (f.all.drop f.kept) (ts.headD (0, 0))
    rw [List.length_append, List.length_take]
    rw [List.length_drop] at this
    omega
  · exact ⟨Nat.le_refl _, hk⟩
/-- Each file that a crash leaves was there, not shorter; in the same order. -/
theorem crashGo_spec : ∀ (l : List File) (ts : List (Nat × Nat)), (∀ f ∈ l, f.kept ≤ f.all.length) →
    sum (crashGo l ts) ≤ sum l ∧ (crashGo l ts).length ≤ l.length ∧ (∀ g ∈ crashGo l ts, g.kept ≤ g.all.length ∧ ∃ f ∈ l, g.name = f.name)
  | [], ts, _ => by simp [crashGo, sum]
  | f :: r, ts, h => by
    have hf := crashFile_len ts (h f (by simp))
    have hn := crashFile_name f ts
    obtain ⟨h1, h2, h3⟩ := crashGo_spec r (crashFile f ts).2 (fun g hg => h g (by simp [hg]))
    unfold crashGo
    split
    · refine ⟨?_, ?_, ?_⟩
      · simp only [List.nil_append, sum]; omega
      · simp only [List.nil_append, List.length_cons]; omega
      · intro g hg
        obtain ⟨a, f', hf', e⟩ := h3 g (by simpa using hg)
        exact ⟨a, f', by simp [hf'], e⟩
    · refine ⟨?_, ?_, ?_⟩
      · simp only [List.cons_append, List.nil_append, sum]; omega
      · simp only [List.cons_append, List.nil_append, List.length_cons]; omega
      · intro g hg
        simp only [List.cons_append, List.nil_append, List.mem_cons] at hg
        rcases hg with rfl | hg
        · exact ⟨hf.2, f, by simp, hn⟩
        · obtain ⟨a, f', hf', e⟩ := h3 g hg
          exact ⟨a, f', by simp [hf'], e⟩
theorem crashGo_rising : ∀ (l : List File) (ts : List (Nat × Nat)), (∀ f ∈ l, f.kept ≤ f.all.length) → Rising l → Rising (crashGo l ts)
  | [], ts, _, _ => by simp [crashGo, Rising]
  | f :: r, ts, h, hr => by
    unfold Rising at hr
    rw [List.pairwise_cons] at hr
    have hk := fun g hg => h g (List.mem_cons_of_mem f hg)
    have ih := crashGo_rising r (crashFile f ts).2 hk hr.2
    obtain ⟨_, _, h3⟩ := crashGo_spec r (crashFile f ts).2 hk
    unfold crashGo
    split
    · simpa using ih
    · simp only [List.cons_append, List.nil_append]
      unfold Rising
      rw [List.pairwise_cons]
      refine ⟨fun g hg => ?_, ih⟩
      obtain ⟨_, f', hf', e⟩ := h3 g hg
      rw [crashFile_name, e]
      exact hr.1 f' hf'
theorem Ok.crash {D : Dsk} (h : D.Ok) (ts : List (Nat × Nat)) : (D.crash ts).Ok := by
  obtain ⟨h1, h2, h3⟩ := crashGo_spec D.files ts h.kept
  exact ⟨h.room0, h.room1, Nat.le_trans h1 h.sum, Nat.le_trans h2 h.many, fun g hg => by
    obtain ⟨_, f, hf, e⟩ := h3 g hg
    rw [e]; exact h.names f hf, fun g hg => (h3 g hg).1, crashGo_rising D.files ts h.kept h.rising, by simp [Dsk.crash], by simp [Dsk.crash]⟩
end Dsk
end Go.Proofs.Ytcfgdlpdnpnhmaa
