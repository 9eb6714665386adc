/- Contract of package disk: Files. -/
import Derived.Test.YtcfgdlpdnpnhmaaDFiles0
set_option linter.unusedVariables false
set_option linter.unusedSimpArgs false
namespace Go.Proofs.Ytcfgdlpdnpnhmaa
open Go.RowKit Go.Maps

section
variable {P : Program} (w : World) {ops : Array Oper} {rest : List Oper} {o : Oper} {a : Act} {K : Act → World → Prop} {Q : Exit → Act → World → Prop} {E : Prop}
theorem step_append_dfile (hgd : o.guard = none) (s x : Operand) (ho : o.op = .call { callee := .builtin .append, args := #[s, x], argTypes := #[62, 62] })
    (base : Nat) (v : Value) (n : Nat) (us : List (Value × Value × Value)) (hs : a.eval s = v) (hown : w.ownsRow base 66 3 v n (dvals us)) (g c : Nat) (u : Value × Value × Value) (hx : a.eval x = .slice (some ⟨g, 0, none⟩) 1 c)
    (hb : w.heap[g]? = some (.cells #[u.1, u.2.1, u.2.2] 66 (0, 0))) (h1 : ∀ y ∈ [u.1, u.2.1, u.2.2], y.oneCell' = true) (hn : n ≤ 1048576) (hbase : base ≤ w.heap.size)
    (h : ∀ v' w', w'.ownsRow base 66 3 v' (n + 1) (dvals (us ++ [u])) → w.grownBy w' v.ownBlock → K (a.put o.dst v') w') :
    if Region.wanted o (yielded ops a.tmps) = true then Oper.wp Try.prog o a w K Q else E := by
  have hw : Region.wanted o (yielded ops a.tmps) = true := by simp [Region.wanted, hgd]
  rw [if_pos hw]
  obtain ⟨i0, hi, hz0, hz1, hz2⟩ := info_parts infoDF
  obtain ⟨v', w', hr, h2, h3, h4, h5⟩ := run_append_own_at (P := Try.prog) w base 62 o.type 66 i0 _ 3 64 Try.underlying62 hi hz0 hz1 hz2 rfl (by omega) v n (dvals us) hown ⟨g, 0, none⟩ 1 c [u.1, u.2.1, u.2.2] rfl (fun j y hy => by
    rw [add0, blk_cell hb, Nat.zero_add]
    rw [← hy]
    rcases j with _ | _ | _ | j <;> rfl) h1 (by unfold maxLen; omega) (by omega) hbase
  rw [show ([u.1, u.2.1, u.2.2] : List Value) = dvals [u] by simp [dvals], ← dvals_append] at h2
  unfold Oper.wp execOp
  simp only [ho, resolve, invoke, builtin, Sem.run_bind, Sem.run_pure, Result.andThen_ok, List.map_toArray, List.map_cons, List.map_nil, hs, hx, hr]
  exact h v' w' h2 h3
end

theorem al1d (w : World) (a : Obj) : Below w.heap.size w (w.alloc a) := (Below.refl _ _).alloc (Nat.le_refl _) _
def FilesGive (w : World) (l : List File) (e : Ending) (w' : World) : Prop := ∃ v, e = .returned v ∧ DFiles w' w.heap.size v l ∧ Below w.heap.size w w'
set_option maxRecDepth 100000 in
set_option maxHeartbeats 4000000 in
theorem files_calls (d mp mt : Nat) (D : Dsk) (w : World) (h : IsDisk w d mp mt D) (hok : D.Ok) :
    Calls Try.prog 38 #[.pointer (some ⟨d, 0, none⟩)] w (FilesGive w D.files) := by
  have hnm := names_calls d mp mt D w h hok.rising (by have := hok.many; omega)
  have Hnm := Lib.hid hnm
  have Hd := Lib.hid h
  have Hok := Lib.hid hok
  have hmany := hok.many
  clear hnm h hok
  go_enter Try.func38, Try.ntmps38
  go_wp2_with (go_at_call 31; refine Hnm.out.mono ?_; rintro e w3 ⟨v, rfl, hrow, hb3⟩; obtain ⟨An, cn, rfl, hS3⟩ := Strs.of_own hrow; clear hrow)
  have HS3 := Lib.hid hS3
  have Hb3 := Lib.hid hb3
  have hlm : (D.files.map (·.name)).length = D.files.length := by simp
  have hsz3 : w.heap.size ≤ w3.heap.size := hb3.size
  clear hS3 hb3
  go_loopw [2, 9] (fun v i wr => ∃ (k : Nat) (us : List (Value × Value × Value)), i = .int .i64 k ∧ k ≤ D.files.length ∧ us.length = k ∧ wr.ownsRow w3.heap.size 66 3 v k (dvals us) ∧ (∀ j (h1 : j < us.length) (h2 : j < D.files.length), DEl wr w3.heap.size us[j] D.files[j]) ∧ Below w3.heap.size w3 wr) (fun _ i _ => D.files.length - (intOf i).toNat)
  case atStart => exact ⟨0, [], rfl, Nat.zero_le _, rfl, World.ownsRow_nil _ _ _ _, fun j h1 => absurd h1 (by simp), Below.refl _ _⟩
  case round =>
    obtain ⟨k, us, rfl, hkn, hus, hown, hdel, hbl⟩ := hrel
    have Hus := Lib.hid hus
    have Hown := Lib.hid hown
    have Hdel := Lib.hid hdel
    have Hbl := Lib.hid hbl
    have hle : w3.heap.size ≤ wr.heap.size := hbl.size
    clear hus hown hdel hbl
    by_cases hlt : k < D.files.length
    · obtain ⟨f, hfk⟩ : ∃ f, f = D.files[k] := ⟨_, rfl⟩
      have hfm : f ∈ D.files := by rw [hfk]; exact List.getElem_mem hlt
      have hspl : D.files = D.files.take k ++ f :: D.files.drop (k + 1) := by
        rw [hfk, ← List.drop_eq_getElem_cons hlt, List.take_append_drop]
      have hris := Hok.out.rising
      rw [hspl] at hris
      have hfind := Dsk.find_mid hris
      rw [← hspl] at hfind
      have hkept := Hok.out.kept f hfm
      have hfl : f.all.length ≤ 1048576 := Nat.le_trans (sum_le_mem _ f hfm) Hok.out.sum
      have hs16 : (⟨f.name.toArray⟩ : ByteArray).size ≤ 9223372036854775807 := by
        have := (Hok.out.names f hfm).2
        show f.name.toArray.size ≤ _
        rw [List.size_toArray]; omega
      have hwk : IntKind.i64.wrap ((k : Int) + 1) = (k : Int) + 1 := IntWalk.i64_in _ (by omega)
      have hBr : Below w.heap.size w wr := Hb3.out.trans (Hbl.out.mono hsz3)
      have hdisk := Hd.out.below hBr
      obtain ⟨ad, hAn, hcell⟩ := (HS3.out.below Hbl.out).2 (by rw [hlm]; omega)
      rw [hlm] at hcell
      have hname := hcell k hlt
      have hnmk : (D.files.map (·.name)).getD k [] = f.name := by rw [hfk]; simp [List.getD_eq_getElem?_getD, hlt]
      rw [hnmk] at hname
      obtain ⟨pb, po, hpbo⟩ : ∃ pb po, ad.add k = ⟨pb, po, none⟩ := ⟨_, _, cell_spot hname⟩
      rw [hpbo] at hname
      have hix := fun W => (run_str_index ad D.files.length cn k hlt W).trans (by rw [hpbo])
      rw [← hAn] at hix
      obtain ⟨A0, n0, c0, hB0, hnc0, hA0, hlook⟩ := hdisk.look_some (s := ⟨f.name.toArray⟩) (f := f) hs16 hfind
      have hl1 := (hlook wr rfl).2
      have cc0 := hdisk.c0
      have hn0 := hB0.1
      have hkn0 : f.kept ≤ n0 := by omega
      have hn0l : n0 ≤ 1048576 := by omega
      have HA0 := Lib.hid hA0
      have HB0 := Lib.hid hB0
      have Hn0 := Lib.hid hn0
      have Hfk := Lib.hid hfk
      clear hfk hspl hris hfind hdisk hcell hnmk hpbo hAn hlook hA0 hB0 hn0
      obtain ⟨A1, hA1⟩ : ∃ A1, (if c0 = f.kept then A0 else A0.map (·.add f.kept)) = A1 := ⟨_, rfl⟩
      have hs1 := run_cut_to A0 n0 c0 f.kept (by omega)
      have hs2 := run_cut_from A0 n0 c0 f.kept hkn0
      simp only [hA1] at hs2
      have hnone : A1 = none → c0 - f.kept = 0 := by
        intro e
        rw [← hA1] at e
        by_cases hc : c0 = f.kept
        · omega
        · rw [if_neg hc] at e
          have := HA0.out (Option.map_eq_none_iff.1 e)
          omega
      have Hnone := Lib.hid hnone
      have HA1 := Lib.hid hA1
      clear hA1 hnone
      go_upto_region 5 with fail
      obtain ⟨w4, hw4⟩ : ∃ w4, w4 = wr.alloc (.cells #[.slice A0 n0 c0, .int .i64 f.kept] 159) := ⟨_, rfl⟩
      rw [← hw4]
      have hb4 : Below wr.heap.size wr w4 := by rw [hw4]; exact (Below.refl _ _).alloc (Nat.le_refl _) _
      have hx4 : w4.heap[wr.heap.size]? = some (.cells #[.slice A0 n0 c0, .int .i64 f.kept] 159 (0, 0)) := by rw [hw4]; exact blk_new wr _
      have hz4 := Lib.hid (show w4.heap.size = wr.heap.size + 1 by rw [hw4]; simp)
      have b0 := blk_cell hx4 0
      have b1 := blk_cell hx4 1
      clear hw4 hl1 hix hname
      refine wp_region_last (fun w' => w'.cell? ⟨wr.heap.size, 0, none⟩ = some (.slice A0 n0 c0) ∧ w'.cell? ⟨wr.heap.size, 1, none⟩ = some (.int .i64 f.kept)) 17 (by kernel_rfl) ⟨b0, b1⟩ (fun hHeld => ?_)
      refine wpAnyL_take 0 (v := ?_) rfl (by kernel_rfl) (fun _ _ _ h => h) (Or.inl ⟨by rfl, ?_⟩) hHeld ?_
      rotate_left
      · (intro w hSw; (try dsimp only at hSw); go_simp; try with_reducible rfl)
      try simp only [Act.put, List.setIfInBounds_toArray, List.set_cons_zero, List.set_cons_succ]
      refine wpAnyL_take 1 (v := ?_) rfl (by kernel_rfl) (fun _ _ _ h => h) (Or.inl ⟨by rfl, ?_⟩) hHeld ?_
      rotate_left
      · (intro w hSw; (try dsimp only at hSw); go_simp; try with_reducible rfl)
      try simp only [Act.put, List.setIfInBounds_toArray, List.set_cons_zero, List.set_cons_succ]
      refine wpAnyL_take 2 (v := ?_) rfl (by kernel_rfl) (fun _ _ _ h => h) (Or.inl ⟨by rfl, ?_⟩) hHeld ?_
      rotate_left
      · (intro w hSw; (try dsimp only at hSw); go_simp; try with_reducible rfl)
      try simp only [Act.put, List.setIfInBounds_toArray, List.set_cons_zero, List.set_cons_succ]
      refine wpAnyL_take 3 (v := ?_) rfl (by kernel_rfl) (fun _ _ _ h => h) (Or.inl ⟨by rfl, ?_⟩) hHeld ?_
      rotate_left
      · (intro w hSw; (try dsimp only at hSw); go_simp; try with_reducible rfl)
      try simp only [Act.put, List.setIfInBounds_toArray, List.set_cons_zero, List.set_cons_succ]
      refine wpAnyL_take 4 (v := ?_) rfl (by kernel_rfl) (fun _ _ _ h => h) (Or.inl ⟨by rfl, ?_⟩) hHeld ?_
      rotate_left
      · (intro w hSw; (try dsimp only at hSw); go_simp; try with_reducible rfl)
      try simp only [Act.put, List.setIfInBounds_toArray, List.set_cons_zero, List.set_cons_succ]
      refine wpAnyL_take 5 (v := ?_) rfl (by kernel_rfl) (fun _ _ _ h => h) (Or.inl ⟨by rfl, ?_⟩) hHeld ?_
      rotate_left
      · (intro w hSw; (try dsimp only at hSw); go_simp; try with_reducible rfl)
      try simp only [Act.put, List.setIfInBounds_toArray, List.set_cons_zero, List.set_cons_succ]
      refine wpAnyL_take 6 (v := ?_) rfl (by kernel_rfl) (fun _ _ _ h => h) (Or.inl ⟨by rfl, ?_⟩) hHeld ?_
      rotate_left
      · (intro w hSw; (try dsimp only at hSw); go_simp; try with_reducible rfl)
      try simp only [Act.put, List.setIfInBounds_toArray, List.set_cons_zero, List.set_cons_succ]
      refine wpAnyL_take 8 (v := ?_) rfl (by kernel_rfl) (fun _ _ _ h => h) (Or.inl ⟨by rfl, ?_⟩) hHeld ?_
      rotate_left
      · (intro w hSw; (try dsimp only at hSw); go_simp; try with_reducible rfl)
      try simp only [Act.put, List.setIfInBounds_toArray, List.set_cons_zero, List.set_cons_succ]
      refine wpAnyL_take 9 (v := ?_) rfl (by kernel_rfl) (fun _ _ _ h => h) (Or.inl ⟨by rfl, ?_⟩) hHeld ?_
      rotate_left
      · (intro w hSw; (try dsimp only at hSw); go_simp; try with_reducible rfl)
      try simp only [Act.put, List.setIfInBounds_toArray, List.set_cons_zero, List.set_cons_succ]
      refine wpAnyL_take 10 (v := ?_) rfl (by kernel_rfl) (fun _ _ _ h => h) (Or.inl ⟨by rfl, ?_⟩) hHeld ?_
      rotate_left
      · (intro w hSw; (try dsimp only at hSw); go_simp; try with_reducible rfl)
      try simp only [Act.put, List.setIfInBounds_toArray, List.set_cons_zero, List.set_cons_succ]
      refine wpAnyL_take 11 (v := ?_) rfl (by kernel_rfl) (fun _ _ _ h => h) (Or.inl ⟨by rfl, ?_⟩) hHeld ?_
      rotate_left
      · (intro w hSw; (try dsimp only at hSw); go_simp; try with_reducible rfl)
      try simp only [Act.put, List.setIfInBounds_toArray, List.set_cons_zero, List.set_cons_succ]
      refine wpAnyL_take 12 (v := ?_) rfl (by kernel_rfl) (fun _ _ _ h => h) (Or.inl ⟨by rfl, ?_⟩) hHeld ?_
      rotate_left
      · (intro w hSw; (try dsimp only at hSw); go_simp; try with_reducible rfl)
      try simp only [Act.put, List.setIfInBounds_toArray, List.set_cons_zero, List.set_cons_succ]
      have hlx : wr.heap.size < w4.drew.heap.size := by rw [show w4.drew.heap = w4.heap from rfl, hz4.out]; omega
      refine wpAnyL_one 7 (by kernel_rfl) rfl (fun K hK => ?_)
      go_simp
      go_at_call 80
      refine (clone_calls A0 f.kept c0 (f.all.take f.kept) w4.drew ((HB0.out.below hb4.drew).take f.kept hkn0) (by omega) HA0.out).mono ?_
      rintro e w5 ⟨A5, c5, rfl, hown5, hb5⟩
      have q0 : w5.cell? ⟨wr.heap.size, 0, none⟩ = some (.slice A0 n0 c0) := (hb5.cell (p := ⟨wr.heap.size, 0, none⟩) hlx).trans b0
      have q1 : w5.cell? ⟨wr.heap.size, 1, none⟩ = some (.int .i64 f.kept) := (hb5.cell (p := ⟨wr.heap.size, 1, none⟩) hlx).trans b1
      refine hK.out _ _ (fun _ => ⟨q0, q1⟩) ?_
      clear hK K
      try simp only [Act.put, List.setIfInBounds_toArray, List.set_cons_zero, List.set_cons_succ]
      refine wpAnyL_one 13 (by kernel_rfl) rfl (fun K hK => ?_)
      go_simp
      go_at_call 80
      have hBd : Bts w5 A1 (n0 - f.kept) (f.all.drop f.kept) := by
        have := ((HB0.out.below hb4.drew).below hb5).drop (c := c0) f.kept hkn0 hnc0
        rw [HA1.out] at this
        exact this
      refine (clone_calls A1 (n0 - f.kept) (c0 - f.kept) (f.all.drop f.kept) w5 hBd (by omega) Hnone.out).mono ?_
      rintro e w6 ⟨A6, c6, rfl, hown6, hb6⟩
      have hHeld : w6.cell? ⟨wr.heap.size, 0, none⟩ = some (.slice A0 n0 c0) ∧ w6.cell? ⟨wr.heap.size, 1, none⟩ = some (.int .i64 f.kept) := ⟨(hb6.cell (p := ⟨wr.heap.size, 0, none⟩) (Nat.lt_of_lt_of_le hlx hb5.size)).trans q0, (hb6.cell (p := ⟨wr.heap.size, 1, none⟩) (Nat.lt_of_lt_of_le hlx hb5.size)).trans q1⟩
      refine hK.out _ _ (fun _ => hHeld) ?_
      clear hK K
      try simp only [Act.put, List.setIfInBounds_toArray, List.set_cons_zero, List.set_cons_succ]
      refine wpAnyL_take 14 (v := ?_) rfl (by kernel_rfl) (fun _ _ _ h => h) (Or.inl ⟨by rfl, ?_⟩) hHeld ?_
      rotate_left
      · (intro w hSw; (try dsimp only at hSw); go_simp; try with_reducible rfl)
      try simp only [Act.put, List.setIfInBounds_toArray, List.set_cons_zero, List.set_cons_succ]
      refine wpAnyL_one 15 (by kernel_rfl) rfl (fun K hK => ?_)
      go_simp
      have hlx6 : wr.heap.size < w6.heap.size := Nat.lt_of_lt_of_le hlx (Nat.le_trans hb5.size hb6.size)
      have hb7 := al1d w6 (.cells #[encStr f.name, .slice A5 f.kept c5, .slice A6 (n0 - f.kept) c6] 66)
      have hHeld : (w6.alloc (.cells #[encStr f.name, .slice A5 f.kept c5, .slice A6 (n0 - f.kept) c6] 66)).cell? ⟨wr.heap.size, 0, none⟩ = some (.slice A0 n0 c0) ∧ (w6.alloc (.cells #[encStr f.name, .slice A5 f.kept c5, .slice A6 (n0 - f.kept) c6] 66)).cell? ⟨wr.heap.size, 1, none⟩ = some (.int .i64 f.kept) := ⟨(hb7.cell (p := ⟨wr.heap.size, 0, none⟩) hlx6).trans hHeld.1, (hb7.cell (p := ⟨wr.heap.size, 1, none⟩) hlx6).trans hHeld.2⟩
      refine hK.out _ _ (fun _ => hHeld) ?_
      clear hK K
      try simp only [Act.put, List.setIfInBounds_toArray, List.set_cons_zero, List.set_cons_succ]
      obtain ⟨w7, hw7⟩ : ∃ w7, w7 = w6.alloc (.cells #[encStr f.name, .slice A5 f.kept c5, .slice A6 (n0 - f.kept) c6] 66) := ⟨_, rfl⟩
      have hy7 := blk_new w6 (.cells #[encStr f.name, .slice A5 f.kept c5, .slice A6 (n0 - f.kept) c6] 66)
      rw [← hw7] at hb7 hy7 hHeld ⊢
      clear hw7
      have hb47 : Below w4.drew.heap.size w4.drew w7 := hb5.trans ((hb6.mono hb5.size).trans (hb7.mono (Nat.le_trans hb5.size hb6.size)))
      have hbr7 : Below wr.heap.size wr w7 := hb4.drew.trans (hb47.mono (by omega))
      have hown7 := Hown.out.below' hbr7
      have hl7 : wr.heap.size ≤ w7.heap.size := hbr7.size
      refine wpAnyL_one 16 (by kernel_rfl) rfl (fun K hK => ?_)
      refine step_append_dfile _ (by rfl) _ _ (by rfl) w3.heap.size u2 k us (by rfl) hown7 w6.heap.size 1 (encStr f.name, .slice A5 f.kept c5, .slice A6 (n0 - f.kept) c6) (by rfl) hy7 ?_ (by omega) (by omega) ?_
      · intro y hy
        simp only [List.mem_cons, List.mem_nil_iff, or_false] at hy
        rcases hy with rfl | rfl | rfl <;> rfl
      intro v8 w8 hown8 hg8
      have hne8 : ∀ o, some (⟨wr.heap.size, o, none⟩ : Addr).block ≠ u2.ownBlock := fun o he => by
        have := (Hown.out.lt wr.heap.size he.symm).2
        omega
      have hHeld : w8.cell? ⟨wr.heap.size, 0, none⟩ = some (.slice A0 n0 c0) ∧ w8.cell? ⟨wr.heap.size, 1, none⟩ = some (.int .i64 f.kept) := ⟨hg8.cell hHeld.1 (hne8 0), hg8.cell hHeld.2 (hne8 1)⟩
      refine hK.out _ _ (fun _ => hHeld) ?_
      clear hK K
      try simp only [Act.put, List.setIfInBounds_toArray, List.set_cons_zero, List.set_cons_succ]
      refine wpAnyL_one 17 (by kernel_rfl) rfl (fun K hK => ?_)
      go_simp
      refine hK.out _ _ (fun h => absurd rfl h) ?_
      clear hK K
      try simp only [Act.put, List.setIfInBounds_toArray, List.set_cons_zero, List.set_cons_succ]
      refine wpAnyL_done (by kernel_rfl) ?_ _
      have hk5 : f.kept = (f.all.take f.kept).length := by rw [List.length_take]; omega
      have hk6 : n0 - f.kept = (f.all.drop f.kept).length := by rw [List.length_drop, Hn0.out]
      have hdn : DEl w7 w3.heap.size (encStr f.name, .slice A5 f.kept c5, .slice A6 (n0 - f.kept) c6) f := by
        refine ⟨rfl, ⟨A5, c5, by rw [← hk5], ?_⟩, ⟨A6, c6, by rw [← hk6], ?_⟩⟩
        · have := ((hown5.below' hb6).below' hb7).rebase (base' := w3.heap.size) (by omega)
          rw [← hk5]
          exact this
        · have := (hown6.below' hb7).rebase (base' := w3.heap.size) (by have := hb5.size; omega)
          rw [← hk6]
          exact this
      have hdall : ∀ j (h1 : j < (us ++ [(encStr f.name, Value.slice A5 f.kept c5, Value.slice A6 (n0 - f.kept) c6)]).length) (h2 : j < D.files.length), DEl w8 w3.heap.size (us ++ [(encStr f.name, Value.slice A5 f.kept c5, Value.slice A6 (n0 - f.kept) c6)])[j] D.files[j] := fun j h1 h2 => by
        by_cases hj : j < us.length
        · rw [List.getElem_append_left hj]
          exact ((Hdel.out j hj h2).below hbr7).grown hown7 (by decide) hg8
        · have hjk : j = k := by
            rw [List.length_append, List.length_singleton] at h1
            have := Hus.out
            omega
          subst hjk
          rw [List.getElem_append_right (by omega)]
          simp only [Hus.out, Nat.sub_self, List.getElem_singleton]
          rw [← Hfk.out]
          exact hdn.grown hown7 (by decide) hg8
      have Hdall := Lib.hid hdall
      have Hown8 := Lib.hid hown8
      have hb8 : Below w3.heap.size w3 w8 := (Hbl.out.trans (hbr7.mono hle)).grown hg8 (by omega) (fun q hq => (Hown.out.lt q hq).1)
      have Hb8 := Lib.hid hb8
      clear hk5 hk6 hdn hdall hown8 hb8 hown7 hg8 hb47 hbr7 hown5 hown6 hb5 hb6 hb7
      go_wp2_with fail
      go_roundw
      case rel => exact ⟨k + 1, _, by simp, hlt, by rw [List.length_append, Hus.out]; rfl, Hown8.out, Hdall.out, Hb8.out⟩
      case measure => simp [intOf]; omega
    · have hkn2 : k = D.files.length := by omega
      subst hkn2
      go_wp2
      go_ret
      exact ⟨_, rfl, ⟨us, Hus.out, Hown.out.rebase hsz3, fun j h1 h2 => (Hdel.out j h1 h2).rebase hsz3⟩, Hb3.out.trans (Hbl.out.mono hsz3)⟩
end Go.Proofs.Ytcfgdlpdnpnhmaa
