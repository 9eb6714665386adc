/- Contracts and words (several texts merged by wip/merge.py). Contract of package disk: Crash. -/
import Derived.Test.YtcfgdlpdnpnhmaaSkAI
import Derived.Deep.RegionHeld3
import Derived.Test.YtcfgdlpdnpnhmaaSkAJ
set_option linter.unusedVariables false
set_option linter.unusedSimpArgs false
namespace Go.Proofs.Ytcfgdlpdnpnhmaa
open Go.RowKit Go.Maps Go.WideMaps

/-- From address A on n strings stand: l. -/
def Strs (w : World) (A : Option Addr) (n : Nat) (l : List Bs) : Prop :=
  l.length = n ∧ (0 < n → ∃ ad, A = some ad ∧ ∀ j, j < n → w.cell? (ad.add j) = some (encStr (l.getD j [])))
def NoStr (w : World) (k : Nat) : Prop := ∀ o s, w.cell? ⟨k, o, none⟩ ≠ some (.string s)
theorem Strs.ext {S : List Nat} {w w' : World} {A : Option Addr} {n : Nat} {l : List Bs} (h : Strs w A n l) (e : Ext S w w') (hs : ∀ k, k ∈ S → NoStr w k) : Strs w' A n l := by
  refine ⟨h.1, fun hn => ?_⟩
  obtain ⟨ad, ea, hc⟩ := h.2 hn
  refine ⟨ad, ea, fun j hj => ?_⟩
  have h1 := hc j hj
  refine (e.cell (cell_lt h1) (fun hm => ?_)).trans h1
  have h2 := cell_spot h1
  rw [h2] at h1
  exact hs _ hm _ _ h1
theorem Strs.below {w w' : World} {A : Option Addr} {n : Nat} {l : List Bs} (h : Strs w A n l) (e : Below w.heap.size w w') : Strs w' A n l := h.ext (S := []) (Ext.of_below e) (fun k hk => by cases hk)
theorem Strs.of_own {w : World} {base n : Nat} {v : Value} {l : List Bs} (h : w.ownsRow base 9 1 v n (strVals l)) : ∃ A c, v = .slice A n c ∧ Strs w A n l := by
  have hl : l.length = n := by have := h.1; simp [strVals] at this; exact this
  rcases h.2 with ⟨rfl, rfl⟩ | ⟨g, cap, cur, rfl, _, hb, hnc, hcm, hcs, htake⟩
  · exact ⟨none, 0, rfl, hl, fun h => absurd h (by omega)⟩
  · refine ⟨_, cap, rfl, hl, fun _ => ⟨_, rfl, fun j hj => ?_⟩⟩
    refine h.cells (g := g) rfl j _ ?_
    simp [strVals, List.getElem?_eq_getElem (show j < l.length by omega), List.getD_eq_getElem?_getD]
theorem NoStr.of_cells {w : World} {g : Nat} {cs : Array Value} {t : TypeId} {fr : Nat × Nat} (h : w.heap[g]? = some (.cells cs t fr)) (hn : ∀ (j : Nat) (s : ByteArray), cs[j]? ≠ some (Value.string s)) : NoStr w g := by
  intro o x hc
  rw [blk_cell h] at hc
  exact hn o x hc
theorem IsDisk.noStr {w : World} {d mp mt : Nat} {D : Dsk} (h : IsDisk w d mp mt D) : ∀ k, k ∈ [d, mp, mt] → NoStr w k := by
  intro k hk
  simp only [List.mem_cons, List.mem_nil_iff, or_false] at hk
  rcases hk with rfl | rfl | rfl
  · exact .of_cells h.blk (fun j x => by rcases j with _ | _ | _ | _ | _ | j <;> simp)
  · obtain ⟨es, c, hb⟩ := h.mapObj
    intro o x hc
    simp [World.cell?, hb] at hc
  · refine .of_cells h.met (fun j x => ?_)
    rcases Nat.lt_or_ge j 17 with hj | hj
    · have : j = 0 ∨ j = 1 ∨ j = 2 ∨ j = 3 ∨ j = 4 ∨ j = 5 ∨ j = 6 ∨ j = 7 ∨ j = 8 ∨ j = 9 ∨ j = 10 ∨ j = 11 ∨ j = 12 ∨ j = 13 ∨ j = 14 ∨ j = 15 ∨ j = 16 := by omega
      rcases this with rfl | rfl | rfl | rfl | rfl | rfl | rfl | rfl | rfl | rfl | rfl | rfl | rfl | rfl | rfl | rfl | rfl <;> simp [meterCells]
    · rw [Array.getElem?_eq_none (by simpa [meterCells] using hj)]; simp
theorem IsDisk.noT {w : World} {d mp mt : Nat} {D : Dsk} (h : IsDisk w d mp mt D) : ∀ k, k ∈ [d, mp, mt] → NoT w k := by
  intro k hk
  simp only [List.mem_cons, List.mem_nil_iff, or_false] at hk
  rcases hk with rfl | rfl | rfl
  · exact .of_cells h.blk (fun j x => by rcases j with _ | _ | _ | _ | _ | j <;> simp)
  · obtain ⟨es, c, hb⟩ := h.mapObj
    intro o x
    simp [World.cell?, hb]
  · refine .of_cells h.met (fun j x => ?_)
    rcases Nat.lt_or_ge j 17 with hj | hj
    · have : j = 0 ∨ j = 1 ∨ j = 2 ∨ j = 3 ∨ j = 4 ∨ j = 5 ∨ j = 6 ∨ j = 7 ∨ j = 8 ∨ j = 9 ∨ j = 10 ∨ j = 11 ∨ j = 12 ∨ j = 13 ∨ j = 14 ∨ j = 15 ∨ j = 16 := by omega
      rcases this with rfl | rfl | rfl | rfl | rfl | rfl | rfl | rfl | rfl | rfl | rfl | rfl | rfl | rfl | rfl | rfl | rfl <;> simp [meterCells]
    · rw [Array.getElem?_eq_none (by simpa [meterCells] using hj)]; simp

section
variable {P : Program} (w : World) {ops : Array Oper} {rest : List Oper} {o : Oper} {a : Act} {K : Act → World → Prop} {Q : Exit → Act → World → Prop} {E : Prop}
theorem step_append_cut (hgd : o.guard = none) (s x : Operand) (ho : o.op = .call { callee := .builtin .append, args := #[s, x], argTypes := #[22, 22] })
    (A0 : Option Addr) (n : Nat) (l0 : Bs) (hs : a.eval s = .slice A0 n n) (h0 : Bts w A0 n l0) (A : Option Addr) (m c : Nat) (l : Bs) (hx : a.eval x = .slice A m c) (hb : Bts w A m l)
    (hsz : n + m ≤ 140737488355328)
    (h : ∀ A' c' w', Bts w' A' (n + m) (l0 ++ l) → n + m ≤ c' → (A' = none → c' = 0) → Below w.heap.size w w' → K (a.put o.dst (.slice A' (n + m) c')) w') :
    if Region.wanted o (yielded ops a.tmps) = true then Oper.wp Try.prog o a w K Q else E := by
  have hw : Region.wanted o (yielded ops a.tmps) = true := by simp [Region.wanted, hgd]
  rw [if_pos hw]
  obtain ⟨A', c', w', hr, h2, h3, h4, h5⟩ := run_append_cut w o.type A0 n l0 h0 A m c l hb hsz
  unfold Oper.wp execOp
  simp only [ho, resolve, invoke, builtin, Sem.run_bind, Sem.run_pure, Result.andThen_ok, List.map_toArray, List.map_cons, List.map_nil, hs, hx, hr]
  exact h A' c' w' h2 h3 h4 h5
end

theorem info9 : (Try.prog.info? 9).map (fun i => (i.size)) = some 1 := by kernel_rfl
theorem run_str_index (ad : Addr) (n c k : Nat) (h : k < n) (w : World) : (Instr.indexAt 52 (.slice (some ad) n c) (.int .i64 k)).run Try.prog w = .ok (.pointer (some (ad.add k))) w := by
  obtain ⟨i0, hi, hz1⟩ := Option.map_eq_some_iff.1 info9
  simp [Instr.indexAt, run_underlying Try.underlying52, sizeOf, typeInfo, hi, hz1, h, Result.andThen, asIntOf]
theorem str_data (l : Bs) : (⟨l.toArray⟩ : ByteArray).data.toList = l := rfl

/-- How Crash stands behind k files: those that stay, the tears that are left. -/
structure CrashAt (d mp mt bx : Nat) (D : Dsk) (ts : List (Nat × Nat)) (An : Option Addr) (w wr : World) (k : Nat) (done : List File) (tsr : List (Nat × Nat)) (At : Option Addr) (nt ct : Nat) : Prop where
  le : k ≤ D.files.length
  disk : IsDisk wr d mp mt { D with down := true, armed := -1, files := done ++ D.files.drop k }
  rising : Dsk.Rising (done ++ D.files.drop k)
  goes : done ++ Dsk.crashGo (D.files.drop k) tsr = Dsk.crashGo D.files ts
  len : done.length ≤ k
  box : wr.heap[bx]? = some (.cells #[.slice At nt ct] 47 (0, 0))
  tears : Tears wr At nt tsr
  cap : nt ≤ ct
  names : Strs wr An D.files.length (D.files.map (·.name))
  ext : Ext [d, mp, mt] w wr

theorem CrashAt.next {d mp mt : Nat} {D : Dsk} {ts : List (Nat × Nat)} {An : Option Addr} {w wr : World} {k : Nat} {done : List File} {tsr : List (Nat × Nat)} {At : Option Addr} {nt ct : Nat}
    (hC : CrashAt d mp mt w.heap.size D ts An w wr k done tsr At nt ct) (hlt : k < D.files.length) {f : File} (hdrop : D.files.drop k = f :: D.files.drop (k + 1)) {f' : File} {tsr' : List (Nat × Nat)} (hcf : Dsk.crashFile f tsr = (f', tsr'))
    {wz : World} {A5 : Option Addr} {n5 c5 : Nat} {l : List File} (hl : l = done ++ (if f'.all = [] then [] else [f']))
    (hd : IsDisk wz d mp mt { D with down := true, armed := -1, files := l ++ D.files.drop (k + 1) })
    (hb : wz.heap[w.heap.size]? = some (.cells #[.slice A5 n5 c5] 47 (0, 0))) (ht : Tears wz A5 n5 tsr') (hc : n5 ≤ c5) (he : Ext [d, mp, mt, w.heap.size] wr wz) :
    CrashAt d mp mt w.heap.size D ts An w wz (k + 1) l tsr' A5 n5 c5 := by
  have hr := hC.rising
  have hg := hC.goes
  rw [hdrop] at hr hg
  have hfn : f'.name = f.name := by have := Dsk.crashFile_name f tsr; rw [hcf] at this; exact this
  subst hl
  refine ⟨hlt, hd, ?_, ?_, ?_, hb, ht, hc, ?_, ?_⟩
  · by_cases h0 : f'.all = []
    · rw [if_pos h0, List.append_nil]; exact Dsk.rising_del hr
    · rw [if_neg h0, List.append_assoc]
      exact Dsk.rising_of_names hr (by simp [hfn])
  · rw [← hg]
    simp only [Dsk.crashGo, hcf, List.append_assoc]
  · have := hC.len
    rw [List.length_append]
    split <;> simp <;> omega
  · refine hC.names.ext he (fun i hi => ?_)
    simp only [List.mem_cons, List.mem_nil_iff, or_false] at hi
    rcases hi with hi | hi | hi | hi
    · exact hC.disk.noStr i (by simp [hi])
    · exact hC.disk.noStr i (by simp [hi])
    · exact hC.disk.noStr i (by simp [hi])
    · rw [hi]; exact .of_cells hC.box (fun j x => by rcases j with _ | j <;> simp)
  · refine hC.ext.then_ he (fun i hi => ?_)
    simp only [List.mem_cons, List.mem_nil_iff, or_false] at hi
    rcases hi with hi | hi | hi | hi
    · exact Or.inl (by simp [hi])
    · exact Or.inl (by simp [hi])
    · exact Or.inl (by simp [hi])
    · exact Or.inr (by omega)

set_option maxRecDepth 100000 in
set_option maxHeartbeats 4000000 in
theorem crash_calls (d mp mt : Nat) (D : Dsk) (A : Option Addr) (n c : Nat) (ts : List (Nat × Nat)) (w : World) (h : IsDisk w d mp mt D) (hok : D.Ok) (hT : Tears w A n ts) (hnc : n ≤ c) :
    Calls Try.prog 39 #[.pointer (some ⟨d, 0, none⟩), .slice A n c] w fun e w' => e = .returned (.int .i64 0) ∧ Left w d mp mt (D.crash ts) w' := by
  have hmf := mk_func
  obtain ⟨w1, hw1⟩ : ∃ w1, w1 = w.alloc (.cells #[.slice A n c] 47) := ⟨_, rfl⟩
  have hb1 : Below w.heap.size w w1 := by rw [hw1]; exact (Below.refl _ _).alloc (Nat.le_refl _) _
  have h1 := h.below hb1
  have hbx1 : w1.heap[w.heap.size]? = some (.cells #[.slice A n c] 47 (0, 0)) := by rw [hw1]; exact blk_new w _
  have hu := none_calls d mp mt D w1 h1
  have c2 := h1.c2
  have f2 := h1.fz 2
  have c3 := h1.c3
  have f3 := h1.fz 3
  have hdl := h.lt_d
  have hmpl := h.lt_mp
  have hmtl := h.lt_mt
  obtain ⟨w2, hw2⟩ : ∃ w2, w2 = (w1.setCell ⟨d, 2, none⟩ (.bool true)).setCell ⟨d, 3, none⟩ (.int .i64 (-1)) := ⟨_, rfl⟩
  have h2 : IsDisk w2 d mp mt { D with down := true, armed := -1 } := by rw [hw2]; exact (h1.setDown true).setArmed (-1)
  have e2 : Ext [d] w1 w2 := by rw [hw2]; exact ((Ext.refl _ _).setCell (Or.inl (by simp)) _).setCell (Or.inl (by simp)) _
  have hbx2 := e2.obj hbx1 (by simp; omega)
  have hT2 : Tears w2 A n ts := (hT.below hb1).ext e2 (fun k hk => by rw [List.mem_singleton.1 hk]; exact h1.noT d (by simp))
  have hnm := names_calls d mp mt _ w2 h2 hok.rising (by have := hok.many; show D.files.length ≤ _; omega)
  have Hu := Lib.hid hu
  have Hnm := Lib.hid hnm
  clear hu hnm h1 h
  go_enter Try.func39, Try.ntmps39
  go_wp2_with fail
  rw [← hw1]
  clear hw1
  go_wp2_with (first
    | (go_at_call 93; refine Hu.out.mono ?_; rintro e w' ⟨rfl, rfl⟩))
  rw [← hw2]
  clear hw2
  refine Hnm.out.mono ?_
  rintro e w3 ⟨v, rfl, hrow, hb3⟩
  obtain ⟨An, cn, rfl, hS3⟩ := Strs.of_own hrow
  go_wp2_with fail
  have hC3 : CrashAt d mp mt w.heap.size D ts An w w3 0 [] ts A n c := by
    refine ⟨Nat.zero_le _, h2.below hb3, hok.rising, rfl, Nat.le_refl _, (hb3.block _ (blk_lt hbx2)).trans hbx2, hT2.below hb3, hnc, ?_, ?_⟩
    · simpa using hS3
    · exact ((Ext.of_below hb1).then_ e2 (fun i hi => Or.inl (by rw [List.mem_singleton.1 hi]; simp))).then_ (Ext.of_below (S := []) hb3) (fun i hi => by cases hi)
  have hsum : ∀ f ∈ D.files, f.all.length ≤ 1048576 := fun f hf => Nat.le_trans (sum_le_mem _ f hf) hok.sum
  have hmany := hok.many
  have Hk := Lib.hid hok.kept
  have Hn16 := Lib.hid hok.names
  have Hsum := Lib.hid hsum
  clear hok hsum hS3 hrow hb3 hbx2 hT2 h2 e2 f2 f3 c2 c3 hb1 hbx1 hT
  go_loopw [21] (fun i wr => ∃ (k : Nat) (done : List File) (tsr : List (Nat × Nat)) (At : Option Addr) (nt ct : Nat), i = .int .i64 k ∧ CrashAt d mp mt w.heap.size D ts An w wr k done tsr At nt ct) (fun i _ => D.files.length - (intOf i).toNat)
  case atStart => exact ⟨0, [], ts, A, n, c, rfl, hC3⟩
  case round =>
    clear hC3
    obtain ⟨k, done, tsr, At, nt, ct, rfl, hC⟩ := hrel
    have hkl := hC.le
    have HC := Lib.hid hC
    by_cases hlt : k < D.files.length
    · obtain ⟨f, hfk⟩ : ∃ f, f = D.files[k] := ⟨_, rfl⟩
      have hdrop : D.files.drop k = f :: D.files.drop (k + 1) := by rw [hfk]; exact List.drop_eq_getElem_cons hlt
      have hfm : f ∈ D.files := by rw [hfk]; exact List.getElem_mem hlt
      have hkept := Hk.out f hfm
      have hs16 : (⟨f.name.toArray⟩ : ByteArray).size ≤ 9223372036854775807 := by
        have := (Hn16.out f hfm).2
        show f.name.toArray.size ≤ _
        rw [List.size_toArray]; omega
      have hwk : IntKind.i64.wrap ((k : Int) + 1) = (k : Int) + 1 := IntWalk.i64_in _ (by omega)
      have hfl := Hsum.out f hfm
      have hrise := hC.rising
      have hdisk := hC.disk
      have hgoes := hC.goes
      rw [hdrop] at hrise hdisk hgoes
      obtain ⟨ad, hAn, hcell⟩ := hC.names.2 (by omega)
      have hname := hcell k hlt
      have hnmk : (D.files.map (·.name)).getD k [] = f.name := by rw [hfk]; simp [List.getD_eq_getElem?_getD, hlt]
      rw [hnmk] at hname
      have hpa : ad.add k = ⟨(ad.add k).block, (ad.add k).off, none⟩ := cell_spot hname
      obtain ⟨pb, po, hpbo⟩ : ∃ pb po, ad.add k = ⟨pb, po, none⟩ := ⟨_, _, hpa⟩
      rw [hpbo] at hname
      have hix := fun W => (run_str_index ad D.files.length cn k hlt W).trans (by rw [hpbo])
      rw [← hAn] at hix
      obtain ⟨A0, n0, c0, hB0, hnc0, hA0, hlook⟩ := hdisk.look_some (s := ⟨f.name.toArray⟩) (f := f) hs16 (Dsk.find_mid hrise)
      have hl1 := (hlook wr rfl).2
      have cc0 := hdisk.c0
      have hn0 := hB0.1
      have HA0 := Lib.hid hA0
      have HB0 := Lib.hid hB0
      have Hn0 := Lib.hid hn0
      have Hrise := Lib.hid hrise
      have Hdisk := Lib.hid hdisk
      have Hgoes := Lib.hid hgoes
      have Hdrop := Lib.hid hdrop
      have hn0l : n0 ≤ 1048576 := by omega
      have hkn : f.kept ≤ n0 := by omega
      clear hC hfk hdrop hrise hdisk hgoes hcell hnmk hpa hpbo hAn hlook hA0 hB0 hn0
      by_cases hlo : f.kept < n0
      · obtain ⟨A1, hA1⟩ : ∃ A1, (if c0 = f.kept then A0 else A0.map (·.add f.kept)) = A1 := ⟨_, rfl⟩
        have hs1 := run_cut3 A0 n0 c0 f.kept (by omega)
        have hs2 := run_cut_from A0 n0 c0 f.kept hkn
        simp only [hA1] at hs2
        have hnone : A1 = none → c0 - f.kept = 0 := by
          intro e
          rw [← hA1, if_neg (by omega)] at e
          have := HA0.out (Option.map_eq_none_iff.1 e)
          omega
        have Hnone := Lib.hid hnone
        have HA1 := Lib.hid hA1
        obtain ⟨tk, tt, htk⟩ : ∃ tk tt, tsr.headD (0, 0) = (tk, tt) := ⟨_, _, rfl⟩
        have htk2 : tk < 65536 ∧ tt < 4294967296 := by
          cases htsr : tsr with
          | nil => rw [htsr] at htk; cases htk; omega
          | cons p r =>
            rw [htsr] at htk
            have := HC.out.tears.2.1 p (by rw [htsr]; simp)
            have e : p = (tk, tt) := htk
            rw [e] at this
            exact this
        have Htk := Lib.hid htk
        clear hA1 hnone htk
        go_wp2_with fail
        obtain ⟨w4, hw4⟩ : ∃ w4, w4 = wr.alloc (.cells #[.slice A0 n0 c0, .int .i64 f.kept] 159) := ⟨_, rfl⟩
        rw [← hw4]
        have hb4 : Below wr.heap.size wr w4 := by rw [hw4]; exact (Below.refl _ _).alloc (Nat.le_refl _) _
        have hx4 : w4.heap[wr.heap.size]? = some (.cells #[.slice A0 n0 c0, .int .i64 f.kept] 159 (0, 0)) := by rw [hw4]; exact blk_new wr _
        have hz4 : w4.heap.size = wr.heap.size + 1 := by rw [hw4]; simp
        have HZ4 := Lib.hid hz4
        have b0 := blk_cell hx4 0
        have b1 := blk_cell hx4 1
        have hnx := next_calls w.heap.size At nt ct tsr w4.drew ((hb4.block _ (blk_lt HC.out.box)).trans HC.out.box) (HC.out.tears.below hb4.drew) HC.out.cap
        have Hnx := Lib.hid hnx
        clear hnx
        have hltx := blk_lt HC.out.box
        have hlx : wr.heap.size < w4.drew.heap.size := by rw [show w4.drew.heap = w4.heap from rfl, HZ4.out]; omega
        have hnx : wr.heap.size ∉ [w.heap.size] := by simp; omega
        have hnt : ∀ g, g ∈ [w.heap.size] → NoU8 w4.drew g := fun g hg => by
          rw [List.mem_singleton.1 hg]
          exact .of_cells ((hb4.block _ hltx).trans HC.out.box) (fun j x => by rcases j with _ | j <;> simp)
        have hBd : ∀ w5, Ext [w.heap.size] w4.drew w5 → Bts w5 A1 (n0 - f.kept) (f.all.drop f.kept) := fun w5 he => by
          have := ((HB0.out.below hb4.drew).ext he hnt).drop (c := c0) f.kept hkn hnc0
          rw [HA1.out] at this
          exact this
        have hBt : ∀ w5, Ext [w.heap.size] w4.drew w5 → Bts w5 A0 f.kept (f.all.take f.kept) := fun w5 he => ((HB0.out.below hb4.drew).ext he hnt).take f.kept hkn
        have hOwn : ∀ {W : World} {base : Nat} {A6 : Option Addr} {m6 c6 : Nat} {l6 : Bs}, W.ownsRow base 5 1 (.slice A6 m6 c6) m6 (vals l6) → Bts W A6 m6 l6 := fun h => by
          obtain ⟨A', c', hv, hb, _⟩ := Bts.of_own h
          injection hv with e1 e2 e3
          subst e1
          exact hb
        have hX7 : ∀ w5 w6 w7, Ext [w.heap.size] w4.drew w5 → Below w5.heap.size w5 w6 → Below w6.heap.size w6 w7 → w7.heap[wr.heap.size]? = some (.cells #[.slice A0 n0 c0, .int .i64 f.kept] 159 (0, 0)) := fun w5 w6 w7 e5 e6 e7 =>
          (e7.block _ (Nat.lt_of_lt_of_le hlx (Nat.le_trans e5.size e6.size))).trans ((e6.block _ (Nat.lt_of_lt_of_le hlx e5.size)).trans (e5.obj hx4 hnx))
        have htl : (Dsk.torn (f.all.drop f.kept) (tk, tt)).length ≤ 1048576 := Nat.le_trans (Dsk.torn_length _ _) (by rw [List.length_drop]; omega)
        clear hw4 hl1 hix hname hz4
        refine wp_region_last (fun w' => w'.cell? ⟨wr.heap.size, 0, none⟩ = some (.slice A0 n0 c0) ∧ w'.cell? ⟨wr.heap.size, 1, none⟩ = some (.int .i64 f.kept)) 17 (by kernel_rfl) ⟨b0, b1⟩ (fun hHeld => ?_)
        refine wpAnyL_take 0 (v := ?_) rfl (by kernel_rfl) (fun _ _ _ h => h) (Or.inl ⟨by rfl, ?_⟩) hHeld ?_
        rotate_left
        · (intro w hSw; (try dsimp only at hSw); go_simp; try with_reducible rfl)
        try simp only [Act.put, List.setIfInBounds_toArray, List.set_cons_zero, List.set_cons_succ]
        refine wpAnyL_take 1 (v := ?_) rfl (by kernel_rfl) (fun _ _ _ h => h) (Or.inl ⟨by rfl, ?_⟩) hHeld ?_
        rotate_left
        · (intro w hSw; (try dsimp only at hSw); go_simp; try with_reducible rfl)
        try simp only [Act.put, List.setIfInBounds_toArray, List.set_cons_zero, List.set_cons_succ]
        refine wpAnyL_take 2 (v := ?_) rfl (by kernel_rfl) (fun _ _ _ h => h) (Or.inl ⟨by rfl, ?_⟩) hHeld ?_
        rotate_left
        · (intro w hSw; (try dsimp only at hSw); go_simp; try with_reducible rfl)
        try simp only [Act.put, List.setIfInBounds_toArray, List.set_cons_zero, List.set_cons_succ]
        refine wpAnyL_take 3 (v := ?_) rfl (by kernel_rfl) (fun _ _ _ h => h) (Or.inl ⟨by rfl, ?_⟩) hHeld ?_
        rotate_left
        · (intro w hSw; (try dsimp only at hSw); go_simp; try with_reducible rfl)
        try simp only [Act.put, List.setIfInBounds_toArray, List.set_cons_zero, List.set_cons_succ]
        refine wpAnyL_take 4 (v := ?_) rfl (by kernel_rfl) (fun _ _ _ h => h) (Or.inl ⟨by rfl, ?_⟩) hHeld ?_
        rotate_left
        · (intro w hSw; (try dsimp only at hSw); go_simp; try with_reducible rfl)
        try simp only [Act.put, List.setIfInBounds_toArray, List.set_cons_zero, List.set_cons_succ]
        refine wpAnyL_take 5 (v := ?_) rfl (by kernel_rfl) (fun _ _ _ h => h) (Or.inl ⟨by rfl, ?_⟩) hHeld ?_
        rotate_left
        · (intro w hSw; (try dsimp only at hSw); go_simp; try with_reducible rfl)
        try simp only [Act.put, List.setIfInBounds_toArray, List.set_cons_zero, List.set_cons_succ]
        refine wpAnyL_take 6 (v := ?_) rfl (by kernel_rfl) (fun _ _ _ h => h) (Or.inl ⟨by rfl, ?_⟩) hHeld ?_
        rotate_left
        · (intro w hSw; (try dsimp only at hSw); go_simp; try with_reducible rfl)
        try simp only [Act.put, List.setIfInBounds_toArray, List.set_cons_zero, List.set_cons_succ]
        refine wpAnyL_take 7 (v := ?_) rfl (by kernel_rfl) (fun _ _ _ h => h) (Or.inl ⟨by rfl, ?_⟩) hHeld ?_
        rotate_left
        · (intro w hSw; (try dsimp only at hSw); go_simp; try with_reducible rfl)
        try simp only [Act.put, List.setIfInBounds_toArray, List.set_cons_zero, List.set_cons_succ]
        refine wpAnyL_take 8 (v := ?_) rfl (by kernel_rfl) (fun _ _ _ h => h) (Or.inl ⟨by rfl, ?_⟩) hHeld ?_
        rotate_left
        · (intro w hSw; (try dsimp only at hSw); go_simp; try with_reducible rfl)
        try simp only [Act.put, List.setIfInBounds_toArray, List.set_cons_zero, List.set_cons_succ]
        refine wpAnyL_take 9 (v := ?_) rfl (by kernel_rfl) (fun _ _ _ h => h) (Or.inl ⟨by rfl, ?_⟩) hHeld ?_
        rotate_left
        · (intro w hSw; (try dsimp only at hSw); go_simp; try with_reducible rfl)
        try simp only [Act.put, List.setIfInBounds_toArray, List.set_cons_zero, List.set_cons_succ]
        refine wpAnyL_take 10 (v := ?_) rfl (by kernel_rfl) (fun _ _ _ h => h) (Or.inl ⟨by rfl, ?_⟩) hHeld ?_
        rotate_left
        · (intro w hSw; (try dsimp only at hSw); go_simp; try with_reducible rfl)
        try simp only [Act.put, List.setIfInBounds_toArray, List.set_cons_zero, List.set_cons_succ]
        refine wpAnyL_take 11 (v := ?_) rfl (by kernel_rfl) (fun _ _ _ h => h) (Or.inl ⟨by rfl, ?_⟩) hHeld ?_
        rotate_left
        · (intro w hSw; (try dsimp only at hSw); go_simp; try with_reducible rfl)
        try simp only [Act.put, List.setIfInBounds_toArray, List.set_cons_zero, List.set_cons_succ]
        refine wpAnyL_take 12 (v := ?_) rfl (by kernel_rfl) (fun _ _ _ h => h) (Or.inl ⟨by rfl, ?_⟩) hHeld ?_
        rotate_left
        · (intro w hSw; (try dsimp only at hSw); go_simp; try with_reducible rfl)
        try simp only [Act.put, List.setIfInBounds_toArray, List.set_cons_zero, List.set_cons_succ]
        refine wpAnyL_one 13 (by kernel_rfl) rfl (fun K hK => ?_)
        go_simp
        go_at_call 97
        refine Hnx.out.mono ?_
        rintro e w5 ⟨A5, n5, c5, rfl, hbx5, hT5, hc5, he5⟩
        have q0 : w5.cell? ⟨wr.heap.size, 0, none⟩ = some (.slice A0 n0 c0) := (he5.cell (p := ⟨wr.heap.size, 0, none⟩) hlx hnx).trans b0
        have q1 : w5.cell? ⟨wr.heap.size, 1, none⟩ = some (.int .i64 f.kept) := (he5.cell (p := ⟨wr.heap.size, 1, none⟩) hlx hnx).trans b1
        rw [Htk.out]
        refine hK.out _ _ (fun _ => ⟨q0, q1⟩) ?_
        clear hK K
        try simp only [Act.put, List.setIfInBounds_toArray, List.set_cons_zero, List.set_cons_succ]
        refine wpAnyL_one 14 (by kernel_rfl) rfl (fun K hK => ?_)
        go_simp
        go_at_call 98
        refine (torn_calls A1 (n0 - f.kept) (c0 - f.kept) (f.all.drop f.kept) tk tt w5 (hBd w5 he5) (by omega) (by omega) Hnone.out htk2.1 htk2.2).mono ?_
        rintro e w6 ⟨A6, c6, rfl, hown6, hb6⟩
        have r0 : w6.cell? ⟨wr.heap.size, 0, none⟩ = some (.slice A0 n0 c0) := (hb6.cell (p := ⟨wr.heap.size, 0, none⟩) (Nat.lt_of_lt_of_le hlx he5.size)).trans q0
        have r1 : w6.cell? ⟨wr.heap.size, 1, none⟩ = some (.int .i64 f.kept) := (hb6.cell (p := ⟨wr.heap.size, 1, none⟩) (Nat.lt_of_lt_of_le hlx he5.size)).trans q1
        refine hK.out _ _ (fun _ => ⟨r0, r1⟩) ?_
        clear hK K
        try simp only [Act.put, List.setIfInBounds_toArray, List.set_cons_zero, List.set_cons_succ]
        refine wpAnyL_one 15 (by kernel_rfl) rfl (fun K hK => ?_)
        refine step_append_cut _ (by rfl) _ _ (by rfl) A0 f.kept (f.all.take f.kept) (by rfl) ((hBt w5 he5).below hb6) A6 _ c6 (Dsk.torn (f.all.drop f.kept) (tk, tt)) (by rfl) (hOwn hown6) (by omega) ?_
        intro A7 c7 w7 hB7 hc7 hA7 hb7
        have HA7 := Lib.hid hA7
        clear hA7
        have hx7 := hX7 w5 w6 w7 he5 hb6 hb7
        have p0 := blk_cell hx7 0
        have p1 := blk_cell hx7 1
        have p2 := blk_frozen hx7 0
        refine hK.out _ _ (fun _ => ⟨p0, p1⟩) ?_
        clear hK K
        try simp only [Act.put, List.setIfInBounds_toArray, List.set_cons_zero, List.set_cons_succ]
        have hHeld : w7.cell? ⟨wr.heap.size, 0, none⟩ = some (.slice A0 n0 c0) ∧ w7.cell? ⟨wr.heap.size, 1, none⟩ = some (.int .i64 f.kept) := ⟨p0, p1⟩
        refine wpAnyL_take 16 (v := ?_) rfl (by kernel_rfl) (fun _ _ _ h => h) (Or.inl ⟨by rfl, ?_⟩) hHeld ?_
        rotate_left
        · (intro w hSw; (try dsimp only at hSw); go_simp; try with_reducible rfl)
        try simp only [Act.put, List.setIfInBounds_toArray, List.set_cons_zero, List.set_cons_succ]
        refine wpAnyL_one 17 (by kernel_rfl) rfl (fun K hK => ?_)
        go_simp
        refine hK.out _ _ (fun h => absurd rfl h) ?_
        clear hK K
        try simp only [Act.put, List.setIfInBounds_toArray, List.set_cons_zero, List.set_cons_succ]
        refine wpAnyL_done (by kernel_rfl) ?_ _
        have hE7 : Ext [w.heap.size] wr w7 := ((((Ext.of_below (S := [w.heap.size]) hb4).drew).trans he5).trans (Ext.of_below hb6)).trans (Ext.of_below hb7)
        obtain ⟨m, hm⟩ : ∃ m, f.kept + (Dsk.torn (f.all.drop f.kept) (tk, tt)).length = m := ⟨_, rfl⟩
        obtain ⟨l2, hl2⟩ : ∃ l2, f.all.take f.kept ++ Dsk.torn (f.all.drop f.kept) (tk, tt) = l2 := ⟨_, rfl⟩
        rw [hm] at hc7 hB7 ⊢
        rw [hl2] at hB7
        have hcf : Dsk.crashFile f tsr = (⟨f.name, l2, m⟩, tsr.tail) := by
          unfold Dsk.crashFile
          rw [Hn0.out, if_pos hlo, Htk.out, hl2, hB7.1]
        obtain ⟨w9, hw9⟩ : ∃ w9, w9 = (w7.setCell ⟨wr.heap.size, 0, none⟩ (.slice A7 m c7)).setCell ⟨wr.heap.size, 1, none⟩ (.int .i64 m) := ⟨_, rfl⟩
        have hx8 := blk_set hx7 0 (.slice A7 m c7)
        have hx9 : w9.heap[wr.heap.size]? = some (.cells #[.slice A7 m c7, .int .i64 m] 159 (0, 0)) := by rw [hw9]; exact blk_set hx8 1 _
        have hE9 : Ext [wr.heap.size] w7 w9 := by rw [hw9]; exact ((Ext.refl _ _).setCell (Or.inl (by simp)) _).setCell (Or.inl (by simp)) _
        have y0 := blk_cell hx8 0
        have y1 := blk_frozen hx8 1
        have Hw9 := Lib.hid hw9
        clear hx8 hw9
        go_wp2_with fail
        rw [← Hw9.out]
        have hnb : ∀ i, i ∈ [w.heap.size] → NoU8 wr i := fun i hi => by rw [List.mem_singleton.1 hi]; exact .of_cells HC.out.box (fun j x => by rcases j with _ | j <;> simp)
        have hnc7 : ∀ i, i ∈ [wr.heap.size] → NoU8 w7 i := fun i hi => by rw [List.mem_singleton.1 hi]; exact box_no hx7
        have hwr : w.heap.size < wr.heap.size := hltx
        have hdr := Hdisk.out.lt_d
        have hmpr := Hdisk.out.lt_mp
        have hmtr := Hdisk.out.lt_mt
        have hD9 := (Hdisk.out.ext hE7 hnb (by simp; omega) (by simp; omega) (by simp; omega)).ext hE9 hnc7 (by simp; omega) (by simp; omega) (by simp; omega)
        have hC9 : Cont w9 (.agg #[.slice A7 m c7, .int .i64 m]) ⟨f.name, l2, m⟩ := ⟨A7, m, c7, rfl, hB7.ext hE9 hnc7, hc7, HA7.out⟩
        have hR9 : Ext [w.heap.size] wr w9 := hE7.then_ hE9 (fun i hi => Or.inr (by rw [List.mem_singleton.1 hi]; exact Nat.le_refl _))
        have hb9 : w9.heap[w.heap.size]? = some (.cells #[.slice A5 n5 c5] 47 (0, 0)) :=
          hE9.obj ((hb7.block _ (Nat.lt_of_lt_of_le (blk_lt hbx5) hb6.size)).trans ((hb6.block _ (blk_lt hbx5)).trans hbx5)) (by simp; omega)
        have hT9 : Tears w9 A5 n5 tsr.tail := ((hT5.below hb6).below hb7).ext hE9 (fun i hi => by rw [List.mem_singleton.1 hi]; exact .of_cells hx7 (fun j x => by rcases j with _ | _ | j <;> simp))
        have hput := Dsk.put_mid (f' := ⟨f.name, l2, m⟩) Hrise.out rfl
        have hl2m := hB7.1
        have hfl9 : (done ++ f :: D.files.drop (k + 1)).length ≤ 1048576 := by
          have := HC.out.len
          rw [List.length_append, List.length_cons, List.length_drop]
          omega
        have g0 := hD9.c0
        have k0 := blk_cell hx9 0
        have k1 := blk_cell hx9 1
        have HE7 := Lib.hid hE7
        have HE9 := Lib.hid hE9
        have Hcf := Lib.hid hcf
        have Hput := Lib.hid hput
        have Hl2m := Lib.hid hl2m
        clear hE7 hE9 hcf hput hl2m hnb hnc7 hx7 p0 p1 p2 y0 y1 hb6 hb7 he5 q0 q1 r0 r1 hbx5 hT5 hown6 hB7 hOwn hBd hBt hX7 hnt hx4 hb4 b0 b1 hs1 hs2 hm hl2
        by_cases hm0 : m = 0
        · have hz1 : ((m : Int) == 0) = true := by simp [hm0]
          have Hm0 := Lib.hid hm0
          clear hm0
          go_still_tail 6, (by kernel_rfl)
          change wpList _ _ _ _ _ w9.drew
          go_wp2_with (first
            | (refine wpList_disk_store _ rfl _ _ _ rfl rfl ⟨f.name.toArray⟩ rfl _ rfl hD9.drew hs16 ⟨f.name, l2, m⟩ rfl hC9 hfl9 ?_; intro w10 hD10 he10; have he10 := (Ext.refl [mp] w9).drew.trans he10; have hx10 := he10.obj (g := wr.heap.size) hx9 (by simp; omega); have z0 := blk_cell hx10 0; have z1 := blk_cell hx10 1; have g1 := hD10.c0)
            | (refine wpList_disk_strike _ rfl _ _ rfl rfl ⟨f.name.toArray⟩ rfl hD10 hs16 ?_; intro w11 hD11 he11))
          go_roundw
          case rel =>
            have hlz : l2 = [] := List.eq_nil_of_length_eq_zero (Hl2m.out.trans Hm0.out)
            refine ⟨k + 1, done, tsr.tail, A5, n5, c5, by simp, HC.out.next hlt Hdrop.out Hcf.out (by simp [hlz]) ?_ ?_ ?_ hc5 ?_⟩
            · have := hD11
              rw [Hput.out] at this
              rw [show (⟨f.name.toArray⟩ : ByteArray).data.toList = f.name from rfl] at this
              rw [Dsk.del_mid (f := ⟨f.name, l2, m⟩) (Dsk.rising_of_names Hrise.out (by simp))] at this
              exact this
            · exact he11.obj (he10.obj hb9 (by simp; omega)) (by simp; omega)
            · exact (hT9.ext he10 (fun i hi => by rw [List.mem_singleton.1 hi]; exact hD9.noT mp (by simp))).ext he11 (fun i hi => by rw [List.mem_singleton.1 hi]; exact hD10.noT mp (by simp))
            · exact ((hR9.mono (fun i hi => Or.inl (by simp [List.mem_singleton.1 hi]))).then_ he10 (fun i hi => Or.inl (by simp [List.mem_singleton.1 hi]))).then_ he11 (fun i hi => Or.inl (by simp [List.mem_singleton.1 hi]))
          case measure => simp [intOf]; omega
        · have hz1 : ((m : Int) == 0) = false := by simp [hm0]
          have Hm0 := Lib.hid hm0
          clear hm0
          go_still_tail 6, (by kernel_rfl)
          change wpList _ _ _ _ _ w9.drew
          go_wp2_with (first
            | (refine wpList_disk_store _ rfl _ _ _ rfl rfl ⟨f.name.toArray⟩ rfl _ rfl hD9.drew hs16 ⟨f.name, l2, m⟩ rfl hC9 hfl9 ?_; intro w10 hD10 he10; have he10 := (Ext.refl [mp] w9).drew.trans he10; have hx10 := he10.obj (g := wr.heap.size) hx9 (by simp; omega); have z0 := blk_cell hx10 0; have z1 := blk_cell hx10 1; have g1 := hD10.c0))
          go_roundw
          case rel =>
            have hlz : l2 ≠ [] := fun e => Hm0.out (by have := Hl2m.out; rw [e] at this; exact this.symm)
            refine ⟨k + 1, done ++ [⟨f.name, l2, m⟩], tsr.tail, A5, n5, c5, by simp, HC.out.next hlt Hdrop.out Hcf.out (by simp [hlz]) ?_ ?_ ?_ hc5 ?_⟩
            · have := hD10
              rw [Hput.out] at this
              rw [List.append_assoc]
              exact this
            · exact he10.obj hb9 (by simp; omega)
            · exact hT9.ext he10 (fun i hi => by rw [List.mem_singleton.1 hi]; exact hD9.noT mp (by simp))
            · exact (hR9.mono (fun i hi => Or.inl (by simp [List.mem_singleton.1 hi]))).then_ he10 (fun i hi => Or.inl (by simp [List.mem_singleton.1 hi]))
          case measure => simp [intOf]; omega
      · have hkn0 : f.kept = n0 := by omega
        have hcf : Dsk.crashFile f tsr = (f, tsr) := by unfold Dsk.crashFile; rw [Hn0.out, if_neg hlo]
        have Hcf := Lib.hid hcf
        have hb4 : Below wr.heap.size wr (wr.alloc (.cells #[.slice A0 n0 c0, .int .i64 f.kept] 159)) := (Below.refl _ _).alloc (Nat.le_refl _) _
        have hD4 := Hdisk.out.below hb4
        have hwr : w.heap.size < wr.heap.size := blk_lt HC.out.box
        have hgt : decide ((f.kept : Int) < (n0 : Int)) = false := decide_eq_false (by omega)
        have hbx4 := (hb4.block _ hwr).trans HC.out.box
        have hT4 := HC.out.tears.below hb4
        have hR4 : Ext [d, mp, mt, w.heap.size] wr (wr.alloc (.cells #[.slice A0 n0 c0, .int .i64 f.kept] 159)) := Ext.of_below hb4
        have g1 := hD4.c0
        have hcap := HC.out.cap
        have hdr := Hdisk.out.lt_d
        have hmpr := Hdisk.out.lt_mp
        have Hb4 := Lib.hid hb4
        have HbxT := Lib.hid hbx4
        have HR4 := Lib.hid hR4
        clear hkn0 hcf hb4 hbx4 hR4
        by_cases hm0 : n0 = 0
        · have hz1 : ((n0 : Int) == 0) = true := by simp [hm0]
          have Hm0 := Lib.hid hm0
          clear hm0
          go_wp2_with (refine wpList_disk_strike _ rfl _ _ rfl rfl ⟨f.name.toArray⟩ rfl hD4 hs16 ?_; intro w11 hD11 he11)
          go_roundw
          case rel =>
            have hlz : f.all = [] := List.eq_nil_of_length_eq_zero (Hn0.out.trans Hm0.out)
            refine ⟨k + 1, done, tsr, At, nt, ct, by simp, HC.out.next hlt Hdrop.out Hcf.out (by simp [hlz]) ?_ ?_ ?_ hcap ?_⟩
            · have := hD11
              rw [show (⟨f.name.toArray⟩ : ByteArray).data.toList = f.name from rfl] at this
              rw [Dsk.del_mid Hrise.out] at this
              exact this
            · exact he11.obj HbxT.out (by simp; omega)
            · exact hT4.ext he11 (fun i hi => by rw [List.mem_singleton.1 hi]; exact hD4.noT mp (by simp))
            · exact HR4.out.then_ he11 (fun i hi => Or.inl (by simp [List.mem_singleton.1 hi]))
          case measure => simp [intOf]; omega
        · have hz1 : ((n0 : Int) == 0) = false := by simp [hm0]
          have Hm0 := Lib.hid hm0
          clear hm0
          go_wp2_with fail
          go_roundw
          case rel =>
            have hlz : f.all ≠ [] := fun e => Hm0.out (by have := Hn0.out; rw [e] at this; exact this.symm)
            refine ⟨k + 1, done ++ [f], tsr, At, nt, ct, by simp, HC.out.next hlt Hdrop.out Hcf.out (by simp [hlz]) ?_ HbxT.out hT4 hcap HR4.out⟩
            rw [List.append_assoc]
            exact hD4
          case measure => simp [intOf]; omega
    · have hge : k = D.files.length := by omega
      have HGE := Lib.hid hge
      clear hC hge
      go_wp2
      go_ret
      have h9 := HC.out.goes
      have h8 := HC.out.disk
      rw [HGE.out, List.drop_length] at h9 h8
      rw [List.append_nil] at h8
      simp only [Dsk.crashGo, List.append_nil] at h9
      refine ⟨rfl, ?_, HC.out.ext⟩
      rw [h9] at h8
      exact h8

end Go.Proofs.Ytcfgdlpdnpnhmaa
set_option linter.unusedVariables false
set_option linter.unusedSimpArgs false
namespace Go.Proofs.Ytcfgdlpdnpnhmaa
open Go.RowKit Go.Maps

/-- The cells of a file. -/
def encF (f : File) : List Value := [encStr f.name, encStr f.all, .int .i64 f.kept]
def fvals (l : List File) : List Value := l.flatMap encF
theorem fvals_append (l m : List File) : fvals (l ++ m) = fvals l ++ fvals m := by simp [fvals]
theorem fvals_one (f : File) : fvals [f] = encF f := by simp [fvals]
theorem fvals_length (l : List File) : (fvals l).length = l.length * 3 := by
  induction l with
  | nil => rfl
  | cons f r ih =>
    rw [show f :: r = [f] ++ r from rfl, fvals_append, fvals_one, List.length_append, ih]
    simp [encF]; omega
theorem fvals_get : ∀ (l : List File) (j : Nat) (hj : j < l.length) (i : Nat) (hi : i < 3), (fvals l)[j * 3 + i]? = (encF l[j])[i]? := by
  intro l
  induction l with
  | nil => intro j hj; simp at hj
  | cons f r ih =>
    intro j hj i hi
    have e : fvals (f :: r) = encF f ++ fvals r := by rw [show f :: r = [f] ++ r from rfl, fvals_append, fvals_one]
    rw [e]
    cases j with
    | zero =>
      rw [List.getElem?_append_left (by simp [encF]; omega)]
      simp
    | succ j =>
      rw [List.getElem?_append_right (by simp [encF]; omega)]
      have hj' : j < r.length := by simpa using hj
      rw [show (j + 1) * 3 + i - (encF f).length = j * 3 + i by simp [encF]; omega, ih j hj' i hi]
      simp
theorem encF_one (f : File) : ∀ u ∈ encF f, u.oneCell' = true := by
  intro u hu
  simp only [encF, List.mem_cons, List.mem_nil_iff, or_false] at hu
  rcases hu with rfl | rfl | rfl <;> rfl

/-- From address A on n files stand: l. -/
def RFiles (w : World) (A : Option Addr) (n : Nat) (l : List File) : Prop :=
  l.length = n ∧ (0 < n → ∃ ad, A = some ad ∧ ∀ j, (hj : j < l.length) → ∀ i, i < 3 → w.cell? (ad.add (j * 3 + i)) = (encF l[j])[i]?)
theorem RFiles.nil (w : World) (A : Option Addr) : RFiles w A 0 [] := ⟨rfl, fun h => absurd h (by omega)⟩
theorem RFiles.below {w w' : World} {A : Option Addr} {n : Nat} {l : List File} (h : RFiles w A n l) (e : Below w.heap.size w w') : RFiles w' A n l := by
  refine ⟨h.1, fun hn => ?_⟩
  obtain ⟨ad, ea, hc⟩ := h.2 hn
  refine ⟨ad, ea, fun j hj i hi => ?_⟩
  have h3 := hc j hj i hi
  have : ∃ v, w.cell? (ad.add (j * 3 + i)) = some v := by
    rw [h3]
    rcases i with _ | _ | _ | i <;> first | exact ⟨_, rfl⟩ | omega
  obtain ⟨v, hv⟩ := this
  rw [← h3]
  exact e.cell (cell_lt hv)
theorem RFiles.of_own {w : World} {base n : Nat} {v : Value} {l : List File} (h : w.ownsRow base 60 3 v n (fvals l)) :
    ∃ A c, v = .slice A n c ∧ RFiles w A n l ∧ n ≤ c := by
  have hl : l.length = n := by have := h.1; rw [fvals_length] at this; omega
  rcases h.2 with ⟨rfl, rfl⟩ | ⟨g, cap, cur, rfl, _, hb, hnc, _, _, htake⟩
  · exact ⟨none, 0, rfl, ⟨hl, fun h => absurd h (by omega)⟩, Nat.le_refl _⟩
  · refine ⟨_, cap, rfl, ⟨hl, fun _ => ⟨_, rfl, fun j hj i hi => ?_⟩⟩, hnc⟩
    have h3 := fvals_get l j hj i hi
    have : ∃ u, (encF l[j])[i]? = some u := by
      rcases i with _ | _ | _ | i <;> first | exact ⟨_, rfl⟩ | omega
    obtain ⟨u, hu⟩ := this
    rw [hu] at h3 ⊢
    exact h.cells (g := g) rfl _ _ h3
theorem RFiles.at {w : World} {A : Option Addr} {n : Nat} {l : List File} (h : RFiles w A n l) {k : Nat} (hk : k < l.length) :
    ∃ ad b o, A = some ad ∧ ad.add (k * 3) = ⟨b, o, none⟩ ∧ w.cell? ⟨b, o, none⟩ = some (encStr l[k].name) ∧ w.cell? ⟨b, o + 1, none⟩ = some (encStr l[k].all) ∧ w.cell? ⟨b, o + 2, none⟩ = some (.int .i64 l[k].kept) := by
  obtain ⟨ad, rfl, hc⟩ := h.2 (by have := h.1; omega)
  have e0 := hc k hk 0 (by omega)
  have hs : ad.add (k * 3) = ⟨(ad.add (k * 3)).block, (ad.add (k * 3)).off, none⟩ := cell_spot (v := encStr l[k].name) e0
  obtain ⟨b, o, hbo⟩ : ∃ b o, ad.add (k * 3) = ⟨b, o, none⟩ := ⟨_, _, hs⟩
  have hi : ∀ i, ad.add (k * 3 + i) = ⟨b, o + i, none⟩ := fun i => by rw [← add_of_add, hbo, add0]
  refine ⟨ad, b, o, rfl, hbo, ?_, ?_, ?_⟩
  · have := hc k hk 0 (by omega); rw [hi] at this; exact this
  · have := hc k hk 1 (by omega); rw [hi] at this; exact this
  · have := hc k hk 2 (by omega); rw [hi] at this; exact this
theorem str_list (l : Bs) : (⟨l.toArray⟩ : ByteArray).toList = l := Lib.toList_data _
/-- The same, with the texts as strings. -/
theorem RFiles.at2 {w : World} {A : Option Addr} {n : Nat} {l : List File} (h : RFiles w A n l) {k : Nat} (hk : k < l.length) :
    ∃ ad b o nm al, A = some ad ∧ ad.add (k * 3) = ⟨b, o, none⟩ ∧ w.cell? ⟨b, o, none⟩ = some (.string nm) ∧ w.cell? ⟨b, o + 1, none⟩ = some (.string al) ∧ w.cell? ⟨b, o + 2, none⟩ = some (.int .i64 l[k].kept) ∧
      nm.toList = l[k].name ∧ al.toList = l[k].all ∧ nm.size = l[k].name.length ∧ al.size = l[k].all.length ∧ encStr l[k].name = .string nm ∧ encStr l[k].all = .string al := by
  obtain ⟨ad, b, o, h1, h2, h3, h4, h5⟩ := h.at hk
  exact ⟨ad, b, o, ⟨l[k].name.toArray⟩, ⟨l[k].all.toArray⟩, h1, h2, h3, h4, h5, str_list _, str_list _, by show Array.size _ = _; simp, by show Array.size _ = _; simp, rfl, rfl⟩
theorem infoF : (Try.prog.info? 60).map (fun i => (i.zero, i.size, i.bytes)) = some (some (.agg #[.string ⟨#[]⟩, .string ⟨#[]⟩, .int .i64 0]), 3, 40) := by kernel_rfl
theorem run_file_index (ad : Addr) (n c k : Nat) (h : k < n) (w : World) : (Instr.indexAt 43 (.slice (some ad) n c) (.int .i64 k)).run Try.prog w = .ok (.pointer (some (ad.add (k * 3)))) w := by
  obtain ⟨i0, hi, hz0, hz1, hz2⟩ := info_parts infoF
  simp [Instr.indexAt, run_underlying Try.underlying43, sizeOf, typeInfo, hi, hz1, h, Result.andThen, asIntOf]

section
variable {P : Program} (w : World) {ops : Array Oper} {rest : List Oper} {o : Oper} {a : Act} {Q : Exit → Act → World → Prop}
/-- append of one file. -/
theorem wpList_append_file (hgd : o.guard = none) (s x : Operand) (ho : o.op = .call { callee := .builtin .append, args := #[s, x], argTypes := #[43, 43] })
    (base : Nat) (v : Value) (n : Nat) (l : List File) (hs : a.eval s = v) (hown : w.ownsRow base 60 3 v n (fvals l)) (g c : Nat) (f : File) (hx : a.eval x = .slice (some ⟨g, 0, none⟩) 1 c)
    (hb : w.heap[g]? = some (.cells #[encStr f.name, encStr f.all, .int .i64 f.kept] 60 (0, 0))) (hn : n ≤ 1048576) (hbase : base ≤ w.heap.size)
    (h : ∀ v' w', w'.ownsRow base 60 3 v' (n + 1) (fvals (l ++ [f])) → w.grownBy w' v.ownBlock → wpList Try.prog ops Q rest (a.put o.dst v') w') :
    wpList Try.prog ops Q (o :: rest) a w := by
  obtain ⟨i0, hi, hz0, hz1, hz2⟩ := info_parts infoF
  refine wpList_append_own_at (P := Try.prog) w hgd s x 43 ho base 60 i0 _ 3 40 Try.underlying43 hi hz0 hz1 hz2 rfl (by omega) v n (fvals l) hs hown ⟨g, 0, none⟩ 1 c (encF f) hx rfl ?_ (encF_one f) (by unfold maxLen; omega) (by omega) hbase ?_
  · intro j u hu
    rw [add0, blk_cell hb, Nat.zero_add]
    rw [← hu]
    rcases j with _ | _ | _ | j <;> rfl
  · intro v' w' h1 h2 _ _
    rw [← fvals_one, ← fvals_append] at h1
    exact h v' w' h1 h2
end
end Go.Proofs.Ytcfgdlpdnpnhmaa
set_option linter.unusedVariables false
set_option linter.unusedSimpArgs false
namespace Go.Proofs.Ytcfgdlpdnpnhmaa
open Go.RowKit Go.Maps

theorem less_before : ∀ (a b : Bs), Op.bytesLess a b = bytesBefore a b
  | [], [] => rfl
  | _ :: _, [] => rfl
  | [], _ :: _ => rfl
  | a :: x, b :: y => by rw [Op.bytesLess, bytesBefore, less_before x y]

/-- A disk as the document's value: room, files at A, down, armed, steps. -/
def refV (D : Dsk) (A : Option Addr) (n c : Nat) : Value := .agg #[.int .i64 D.room, .slice A n c, .bool D.down, .int .i64 D.armed, .int .u64 D.steps]
/-- A call that answers a disk. -/
def RefIs (w : World) (D : Dsk) (e : Ending) (w' : World) : Prop := ∃ A n c, e = .returned (refV D A n c) ∧ RFiles w' A n D.files ∧ n ≤ c ∧ Below w.heap.size w w'

/-- The same, the files in a row of the call's own. -/
def RefNew (w : World) (D : Dsk) (e : Ending) (w' : World) : Prop := ∃ A n c, e = .returned (refV D A n c) ∧ RFiles w' A n D.files ∧ n ≤ c ∧ Below w.heap.size w w' ∧ ∀ ad, A = some ad → w.heap.size ≤ ad.block
theorem RFiles.far {S : List Nat} {w w' : World} {A : Option Addr} {n : Nat} {l : List File} (h : RFiles w A n l) (e : Ext S w w') (hs : ∀ ad, A = some ad → ad.block ∉ S) : RFiles w' A n l := by
  refine ⟨h.1, fun hn => ?_⟩
  obtain ⟨ad, ea, hc⟩ := h.2 hn
  refine ⟨ad, ea, fun j hj i hi => ?_⟩
  have h3 := hc j hj i hi
  have : ∃ v, w.cell? (ad.add (j * 3 + i)) = some v := by
    rw [h3]
    rcases i with _ | _ | _ | i <;> first | exact ⟨_, rfl⟩ | omega
  obtain ⟨v, hv⟩ := this
  rw [← h3]
  exact e.cell (cell_lt hv) (by rw [block_of_add]; exact hs ad ea)

def place (l : List File) (s : Bs) : Int := match l.findIdx? (fun f => f.name == s) with | none => -1 | some i => i

theorem refnew_calls (r : Int) (w : World) : Calls Try.prog 29 #[.int .i64 r] w (RefIs w (Dsk.new r)) := by
  go_enter Try.func29, Try.ntmps29
  go_wp2
  exact bodyPost_ret (v := refV (Dsk.new r) none 0 0) (by simp [results, Try.results29, go_sem, refV, Dsk.new]) rfl ⟨none, 0, 0, rfl, RFiles.nil _ _, Nat.le_refl _, (Below.refl _ _).alloc (Nat.le_refl _) _⟩

theorem refnamed_calls (s : ByteArray) (w : World) (hs : s.size ≤ 9223372036854775807) :
    Calls Try.prog 130 #[.string s] w fun e w' => e = .returned (.bool (Dsk.named s.data.toList)) ∧ w = w' := by
  have e1 : s.data.toList.length = s.size := by rw [Array.length_toList]; rfl
  have e2 : Dsk.named s.data.toList = decide (1 ≤ s.size ∧ s.size ≤ 16) := by unfold Dsk.named; rw [e1]
  rw [e2]
  clear e1 e2
  by_cases h1 : 1 ≤ s.size
  · by_cases h2 : s.size ≤ 16
    · go_enter Try.func130, Try.ntmps130
      go_wp2
      go_ret
      exact ⟨by simp [h1, h2]; omega, rfl⟩
    · go_enter Try.func130, Try.ntmps130
      go_wp2
      go_ret
      exact ⟨by simp [h1, h2]; omega, rfl⟩
  · go_enter Try.func130, Try.ntmps130
    go_wp2
    go_ret
    exact ⟨by simp [h1], rfl⟩

set_option maxRecDepth 100000 in
theorem reffind_calls (D : Dsk) (A : Option Addr) (n c : Nat) (s : ByteArray) (w : World) (h : RFiles w A n D.files) (hn : n ≤ 1048576) :
    Calls Try.prog 126 #[refV D A n c, .string s] w fun e w' => e = .returned (.int .i64 (place D.files s.data.toList)) ∧ w' = w.alloc (.cells #[.int .i64 D.room, .slice A n c, .bool D.down, .int .i64 D.armed, .int .u64 D.steps] 45) := by
  obtain ⟨w1, hw1⟩ : ∃ w1, w1 = w.alloc (.cells #[.int .i64 D.room, .slice A n c, .bool D.down, .int .i64 D.armed, .int .u64 D.steps] 45) := ⟨_, rfl⟩
  have hbw : Below w.heap.size w w1 := by rw [hw1]; exact (Below.refl _ _).alloc (Nat.le_refl _) _
  have hbx : w1.heap[w.heap.size]? = some (.cells #[.int .i64 D.room, .slice A n c, .bool D.down, .int .i64 D.armed, .int .u64 D.steps] 45 (0, 0)) := by rw [hw1]; exact blk_new w _
  have b1 := blk_cell hbx 1
  have h1 := h.below hbw
  have H := Lib.hid h1
  have hl := Lib.hid h.1
  have Hw1 := Lib.hid hw1
  have Hp : Hid (place D.files s.data.toList = match D.files.findIdx? (fun f => f.name == s.data.toList) with | none => -1 | some i => (i : Int)) := Lib.hid rfl
  clear h h1 hbw hbx
  unfold refV
  go_enter Try.func126, Try.ntmps126
  go_wp2
  rw [← hw1]
  clear hw1
  go_loop [5] (fun i => ∃ (k : Nat), i = .int .i64 k ∧ k ≤ n ∧ ∀ j, (hj : j < D.files.length) → j < k → D.files[j].name ≠ s.data.toList) (fun i => n - (intOf i).toNat)
  case atStart => exact ⟨0, rfl, Nat.zero_le _, fun j _ hj => absurd hj (by omega)⟩
  case round =>
    obtain ⟨k, rfl, hkn, hall⟩ := hrel
    have Hall := Lib.hid hall
    clear hall
    by_cases hlt : k < n
    · have hk : k < D.files.length := by rw [hl.out]; exact hlt
      obtain ⟨ad, b, o, nm, al, rfl, had, q0, q1, q2, e0, e1, z0, z1, _, _⟩ := H.out.at2 hk
      have hix := fun W => run_file_index ad n c k hlt W
      simp only [had] at hix
      have hwk : IntKind.i64.wrap ((k : Int) + 1) = (k : Int) + 1 := IntWalk.i64_in _ (by omega)
      by_cases hnm : D.files[k].name = s.data.toList
      · have hg : (nm.toList == s.toList) = true := by rw [e0, Lib.toList_data s, hnm]; simp
        have hpl : place D.files s.data.toList = k := by
          rw [Hp.out]
          have : D.files.findIdx? (fun f => f.name == s.data.toList) = some k := by
            rw [List.findIdx?_eq_some_iff_getElem]
            exact ⟨hk, by simp [hnm], fun j hj => by simp [Hall.out j (by omega) hj]⟩
          rw [this]
        have Hpl := Lib.hid hpl
        clear e0 e1 z0 z1 had hnm hpl
        go_wp2
        go_ret
        exact ⟨by rw [Hpl.out]; rfl, Hw1.out⟩
      · have hg : (nm.toList == s.toList) = false := by rw [e0, Lib.toList_data s]; simpa using hnm
        have Hnm := Lib.hid hnm
        clear e0 e1 z0 z1 had hnm
        go_wp2
        go_round
        case rel => exact ⟨k + 1, by simp, hlt, fun j hj hjk => by
          by_cases h : j = k
          · subst h; exact Hnm.out
          · exact Hall.out j hj (by omega)⟩
        case measure => simp [intOf]; omega
    · have hkn2 : k = n := by omega
      have hpl : place D.files s.data.toList = -1 := by
        rw [Hp.out]
        have : D.files.findIdx? (fun f => f.name == s.data.toList) = none := by
          rw [List.findIdx?_eq_none_iff]
          intro x hx
          obtain ⟨j, hj, rfl⟩ := List.getElem_of_mem hx
          simpa using Hall.out j hj (by have := hl.out; omega)
        rw [this]
      have Hpl := Lib.hid hpl
      clear hpl hkn2
      go_wp2
      go_ret
      exact ⟨by rw [Hpl.out]; rfl, Hw1.out⟩
end Go.Proofs.Ytcfgdlpdnpnhmaa
set_option linter.unusedVariables false
set_option linter.unusedSimpArgs false
namespace Go.Proofs.Ytcfgdlpdnpnhmaa
open Go.RowKit Go.Maps

theorem sum_take_succ (l : List File) (k : Nat) (hk : k < l.length) : Dsk.sum (l.take (k + 1)) = Dsk.sum (l.take k) + l[k].all.length := by
  induction l generalizing k with
  | nil => simp at hk
  | cons f r ih =>
    cases k with
    | zero => simp [Dsk.sum]
    | succ k =>
      have hk' : k < r.length := by simpa using hk
      simp only [List.take_succ_cons, Dsk.sum, List.getElem_cons_succ]
      rw [ih k hk']
      omega
theorem sum_take_le (l : List File) (k : Nat) : Dsk.sum (l.take k) ≤ Dsk.sum l := by
  induction l generalizing k with
  | nil => simp
  | cons f r ih =>
    cases k with
    | zero => simp [Dsk.sum]
    | succ k => simp only [List.take_succ_cons, Dsk.sum]; have := ih k; omega

set_option maxRecDepth 100000 in
theorem reffree_calls (D : Dsk) (A : Option Addr) (n c : Nat) (w : World) (h : RFiles w A n D.files) (hn : n ≤ 1048576) (h0 : 0 ≤ D.room) (h1 : D.room ≤ 1048576) (h2 : Dsk.sum D.files ≤ 1048576) :
    Calls Try.prog 34 #[refV D A n c] w fun e w' => e = .returned (.int .i64 D.free) ∧ w' = w.alloc (.cells #[.int .i64 D.room, .slice A n c, .bool D.down, .int .i64 D.armed, .int .u64 D.steps] 45) := by
  obtain ⟨w1, hw1⟩ : ∃ w1, w1 = w.alloc (.cells #[.int .i64 D.room, .slice A n c, .bool D.down, .int .i64 D.armed, .int .u64 D.steps] 45) := ⟨_, rfl⟩
  have hbw : Below w.heap.size w w1 := by rw [hw1]; exact (Below.refl _ _).alloc (Nat.le_refl _) _
  have hbx : w1.heap[w.heap.size]? = some (.cells #[.int .i64 D.room, .slice A n c, .bool D.down, .int .i64 D.armed, .int .u64 D.steps] 45 (0, 0)) := by rw [hw1]; exact blk_new w _
  have b1 := blk_cell hbx 1
  have hh := h.below hbw
  have H := Lib.hid hh
  have hl := Lib.hid h.1
  have Hw1 := Lib.hid hw1
  have Hs := Lib.hid h2
  have Hf : Hid (D.free = if 0 ≤ D.room - (Dsk.sum D.files : Int) then D.room - (Dsk.sum D.files : Int) else 0) := Lib.hid rfl
  clear h hh hbw hbx h2
  unfold refV
  go_enter Try.func34, Try.ntmps34
  go_wp2
  rw [← hw1]
  clear hw1
  go_loop [3, 4] (fun r i => ∃ (k : Nat), i = .int .i64 k ∧ k ≤ n ∧ r = .int .i64 (D.room - (Dsk.sum (D.files.take k) : Int))) (fun _ i => n - (intOf i).toNat)
  case atStart => exact ⟨0, rfl, Nat.zero_le _, by simp [Dsk.sum]⟩
  case round =>
    obtain ⟨k, rfl, hkn, rfl⟩ := hrel
    by_cases hlt : k < n
    · have hk : k < D.files.length := by rw [hl.out]; exact hlt
      obtain ⟨ad, b, o, nm, al, rfl, had, q0, q1, q2, e0, e1, z0, z1, _, _⟩ := H.out.at2 hk
      have hix := fun W => run_file_index ad n c k hlt W
      simp only [had] at hix
      have hwk : IntKind.i64.wrap ((k : Int) + 1) = (k : Int) + 1 := IntWalk.i64_in _ (by omega)
      have hsk := sum_take_succ D.files k hk
      have hle := sum_take_le D.files (k + 1)
      have hs2 := Hs.out
      obtain ⟨s0, hs0⟩ : ∃ s0, s0 = Dsk.sum (D.files.take k) := ⟨_, rfl⟩
      rw [← hs0] at hsk ⊢
      have hw2 : IntKind.i64.wrap (D.room - (s0 : Int) - (al.size : Int)) = D.room - (s0 : Int) - (al.size : Int) := IntWalk.i64_in _ (by omega)
      have Hsk := Lib.hid (show Dsk.sum (D.files.take (k + 1)) = s0 + al.size by omega)
      clear e0 e1 z0 z1 had hsk hle hs2 hs0
      go_wp2
      go_round
      case rel => exact ⟨k + 1, by simp, hlt, by rw [Hsk.out]; congr 1; omega⟩
      case measure => simp [intOf]; omega
    · have hkn2 : k = n := by omega
      have ht : D.files.take k = D.files := List.take_of_length_le (by rw [hl.out]; omega)
      rw [ht]
      have hs2 := Hs.out
      obtain ⟨s0, hs0⟩ : ∃ s0, s0 = Dsk.sum D.files := ⟨_, rfl⟩
      rw [← hs0] at hs2 ⊢
      have Hs0 := Lib.hid hs0
      clear ht hs0 hkn2
      by_cases hneg : D.room - (s0 : Int) < 0
      · have Hng := Lib.hid hneg
        have g : decide (D.room - (s0 : Int) < 0) = true := decide_eq_true hneg
        clear hneg
        go_wp2
        go_ret
        exact ⟨by rw [Hf.out, ← Hs0.out, if_neg (by have := Hng.out; omega)]; rfl, Hw1.out⟩
      · have Hng := Lib.hid hneg
        have g : decide (D.room - (s0 : Int) < 0) = false := decide_eq_false hneg
        clear hneg
        go_wp2
        go_ret
        exact ⟨by rw [Hf.out, ← Hs0.out, if_pos (by have := Hng.out; omega)]; rfl, Hw1.out⟩

/-- What 'step' answers: the disk, and whether the power is there still. -/
def StepGives (w : World) (D : Dsk) (A : Option Addr) (n c : Nat) (e : Ending) (w' : World) : Prop :=
  e = .returned (.tuple #[.agg #[.int .i64 D.step.1.room, .slice A n c, .bool D.step.1.down, .int .i64 D.step.1.armed, .int .u64 D.step.1.steps], .bool (D.step.2 == 0)]) ∧
  w' = (w.alloc (.cells #[.int .i64 D.step.1.room, .slice A n c, .bool D.step.1.down, .int .i64 D.step.1.armed, .int .u64 D.step.1.steps] 45)).alloc (.cells #[.int .i64 D.step.1.room, .slice A n c, .bool D.step.1.down, .int .i64 D.step.1.armed, .int .u64 D.step.1.steps] 45)
set_option maxRecDepth 100000 in
theorem refstep_calls (D : Dsk) (A : Option Addr) (n c : Nat) (w : World) (hs : D.steps < 4611686018427387904) (ha : -1 ≤ D.armed) (ha2 : D.armed ≤ 9223372036854775807) :
    Calls Try.prog 127 #[refV D A n c] w (StepGives w D A n c) := by
  have hws : IntKind.u64.wrap ((D.steps : Int) + 1) = (D.steps : Int) + 1 := by unfold IntKind.wrap; simp [IntKind.bits, IntKind.signed]; omega
  have Hst : Hid (D.step = if D.armed = 0 then ({ D with steps := D.steps + 1, down := true, armed := -1 }, 50)
    else if 0 < D.armed then ({ D with steps := D.steps + 1, armed := D.armed - 1 }, 0)
    else ({ D with steps := D.steps + 1 }, 0)) := Lib.hid rfl
  unfold refV
  by_cases h0 : D.armed = 0
  · have g0 : (D.armed == 0) = true := by simp [h0]
    have H0 := Lib.hid h0
    clear h0
    go_enter Try.func127, Try.ntmps127
    go_wp2
    refine bodyPost_ret (v := .tuple #[.agg #[.int .i64 D.room, .slice A n c, .bool true, .int .i64 (-1), .int .u64 ((D.steps : Int) + 1)], .bool false]) (by simp [results, Try.results127, go_sem]) rfl ⟨?_, ?_⟩
    all_goals rw [Hst.out, if_pos H0.out]
    all_goals simp
  · have g0 : (D.armed == 0) = false := by simp [h0]
    have H0 := Lib.hid h0
    by_cases h1 : 0 < D.armed
    · have g1 : decide (0 < D.armed) = true := decide_eq_true h1
      have hwa : IntKind.i64.wrap (D.armed - 1) = D.armed - 1 := IntWalk.i64_in _ (by omega)
      have H1 := Lib.hid h1
      clear h0 h1
      go_enter Try.func127, Try.ntmps127
      go_wp2
      refine bodyPost_ret (v := .tuple #[.agg #[.int .i64 D.room, .slice A n c, .bool D.down, .int .i64 (D.armed - 1), .int .u64 ((D.steps : Int) + 1)], .bool true]) (by simp [results, Try.results127, go_sem]) rfl ⟨?_, ?_⟩
      all_goals rw [Hst.out, if_neg H0.out, if_pos H1.out]
      all_goals simp
    · have g1 : decide (0 < D.armed) = false := decide_eq_false h1
      have H1 := Lib.hid h1
      clear h0 h1
      go_enter Try.func127, Try.ntmps127
      go_wp2
      refine bodyPost_ret (v := .tuple #[.agg #[.int .i64 D.room, .slice A n c, .bool D.down, .int .i64 D.armed, .int .u64 ((D.steps : Int) + 1)], .bool true]) (by simp [results, Try.results127, go_sem]) rfl ⟨?_, ?_⟩
      all_goals rw [Hst.out, if_neg H0.out, if_neg (by have := H1.out; omega)]
      all_goals simp

theorem _root_.Go.World.ownsRow.kept_ext {S : List Nat} {w w' : World} {base : Nat} {e : TypeId} {size : Nat} {v : Value} {n : Nat} {xs : List Value} (h : w.ownsRow base e size v n xs) (he : Ext S w w') (hs : ∀ q, q ∈ S → q < base) : w'.ownsRow base e size v n xs := by
  refine ⟨h.1, ?_⟩
  rcases h.2 with hn | ⟨g, cap, cur, rfl, hb, hgg, rest⟩
  · exact .inl hn
  · exact .inr ⟨g, cap, cur, rfl, hb, he.obj hgg (fun hm => by have := hs g hm; omega), rest⟩
theorem del_take_succ (l : List File) (s : Bs) (k : Nat) (hk : k < l.length) : Dsk.del (l.take (k + 1)) s = Dsk.del (l.take k) s ++ (if l[k].name = s then [] else [l[k]]) := by
  rw [List.take_succ_eq_append_getElem hk]
  unfold Dsk.del
  rw [List.filter_append]
  by_cases h : l[k].name = s <;> simp [h]
theorem del_length (l : List File) (s : Bs) : (Dsk.del l s).length ≤ l.length := List.length_filter_le _ _

set_option maxRecDepth 100000 in
theorem refwithout_calls (D : Dsk) (A : Option Addr) (n c : Nat) (s : ByteArray) (w : World) (h : RFiles w A n D.files) (hn : n ≤ 1048576) :
    Calls Try.prog 129 #[refV D A n c, .string s] w (RefNew w { D with files := Dsk.del D.files s.data.toList }) := by
  obtain ⟨w1, hw1⟩ : ∃ w1, w1 = (w.alloc (.cells #[.int .i64 D.room, .slice A n c, .bool D.down, .int .i64 D.armed, .int .u64 D.steps] 45)).alloc (.cells #[.int .i64 0, .slice none 0 0, .bool false, .int .i64 0, .int .u64 0] 45) := ⟨_, rfl⟩
  have hbw : Below w.heap.size w w1 := by rw [hw1]; exact ((Below.refl _ _).alloc (Nat.le_refl _) _).alloc (by simp) _
  have hbx : w1.heap[w.heap.size]? = some (.cells #[.int .i64 D.room, .slice A n c, .bool D.down, .int .i64 D.armed, .int .u64 D.steps] 45 (0, 0)) := by rw [hw1]; exact blk_alloc (blk_new w _) _
  have hrx : w1.heap[w.heap.size + 1]? = some (.cells #[.int .i64 0, .slice none 0 0, .bool false, .int .i64 0, .int .u64 0] 45 (0, 0)) := by
    have := blk_new (w.alloc (.cells #[.int .i64 D.room, .slice A n c, .bool D.down, .int .i64 D.armed, .int .u64 D.steps] 45)) (.cells #[.int .i64 0, .slice none 0 0, .bool false, .int .i64 0, .int .u64 0] 45)
    rw [hw1]
    rw [show (w.alloc (.cells #[.int .i64 D.room, .slice A n c, .bool D.down, .int .i64 D.armed, .int .u64 D.steps] 45)).heap.size = w.heap.size + 1 by simp] at this
    exact this
  have hs1 : w1.heap.size = w.heap.size + 2 := by rw [hw1]; simp
  have hh := h.below hbw
  have H := Lib.hid hh
  have hl := Lib.hid h.1
  have Hbw := Lib.hid hbw
  have Hbx := Lib.hid hbx
  have Hrx := Lib.hid hrx
  have Hs1 := Lib.hid hs1
  clear h hh hbw hbx hrx hs1
  unfold refV
  go_enter Try.func129, Try.ntmps129
  go_wp2
  rw [← hw1]
  clear hw1
  go_loopw [5, 6] (fun v i wr => ∃ (k m : Nat), i = .int .i64 k ∧ k ≤ n ∧ wr.ownsRow w1.heap.size 60 3 v m (fvals (Dsk.del (D.files.take k) s.data.toList)) ∧ m = (Dsk.del (D.files.take k) s.data.toList).length ∧ Below w1.heap.size w1 wr) (fun _ i _ => n - (intOf i).toNat)
  case atStart => exact ⟨0, 0, rfl, Nat.zero_le _, World.ownsRow_nil _ _ _ _, rfl, Below.refl _ _⟩
  case round =>
    obtain ⟨k, m, rfl, hkn, hown, hm, hbl⟩ := hrel
    have Hown := Lib.hid hown
    have Hm := Lib.hid hm
    have Hbl := Lib.hid hbl
    have hbxr := (hbl.block _ (blk_lt Hbx.out)).trans Hbx.out
    have b1 := blk_cell hbxr 1
    clear hown hm hbl
    by_cases hlt : k < n
    · have hk : k < D.files.length := by rw [hl.out]; exact hlt
      obtain ⟨ad, b, o, nm, al, rfl, had, q0, q1, q2, e0, e1, z0, z1, en, ea⟩ := (H.out.below Hbl.out).at2 hk
      have hix := fun W => run_file_index ad n c k hlt W
      simp only [had] at hix
      have hwk : IntKind.i64.wrap ((k : Int) + 1) = (k : Int) + 1 := IntWalk.i64_in _ (by omega)
      have hds := del_take_succ D.files s.data.toList k hk
      have Hen := Lib.hid en
      have Hea := Lib.hid ea
      by_cases hnm : D.files[k].name = s.data.toList
      · have hg : (nm.toList == s.toList) = true := by rw [e0, Lib.toList_data s, hnm]; simp
        rw [if_pos hnm, List.append_nil] at hds
        have Hds := Lib.hid hds
        clear e0 e1 z0 z1 had hnm hds en ea
        go_wp2
        go_roundw
        case rel => exact ⟨k + 1, m, by simp, hlt, by rw [Hds.out]; exact Hown.out, by rw [Hds.out]; exact Hm.out, Hbl.out⟩
        case measure => simp [intOf]; omega
      · have hg : (nm.toList == s.toList) = false := by rw [e0, Lib.toList_data s]; simpa using hnm
        rw [if_neg hnm] at hds
        have Hds := Lib.hid hds
        have hmn : m ≤ 1048576 := by
          have := del_length (D.files.take k) s.data.toList
          rw [List.length_take] at this
          have := Hm.out
          omega
        have hle : w1.heap.size ≤ wr.heap.size := Hbl.out.size
        clear e0 e1 z0 z1 had hnm hds en ea
        go_wp2_with (at_builtin; refine wpList_append_file _ rfl _ _ rfl w1.heap.size _ m _ rfl (Hown.out.alloc _) wr.heap.size 1 D.files[k] rfl (by rw [Hen.out, Hea.out]; exact blk_new wr _) hmn (by simp; omega) ?_; intro v' w2 hown2 hgr2)
        go_roundw
        case rel =>
          have hb2 : Below w1.heap.size w1 w2 := (Hbl.out.alloc hle _).grown hgr2 (by simp; omega) (fun q hq => (Hown.out.lt q hq).1)
          exact ⟨k + 1, m + 1, by simp, hlt, by rw [Hds.out]; exact hown2, by rw [Hds.out, List.length_append, ← Hm.out]; rfl, hb2⟩
        case measure => simp [intOf]; omega
    · have hkn2 : k = n := by omega
      have ht : D.files.take k = D.files := List.take_of_length_le (by rw [hl.out]; omega)
      have Ht := Lib.hid ht
      obtain ⟨A2, c2, rfl, hf2, hc2⟩ := RFiles.of_own Hown.out
      have Hf2 := Lib.hid hf2
      have hrxr := (Hbl.out.block _ (blk_lt Hrx.out)).trans Hrx.out
      have b0 := blk_cell hbxr 0
      have b2 := blk_cell hbxr 2
      have b3 := blk_cell hbxr 3
      have b4 := blk_cell hbxr 4
      have f1 := blk_frozen hbxr 1
      have r0 := blk_cell hrxr 0
      have r1 := blk_cell hrxr 1
      have r2 := blk_cell hrxr 2
      have r3 := blk_cell hrxr 3
      have r4 := blk_cell hrxr 4
      have g0 := blk_frozen hrxr 0
      have g1 := blk_frozen hrxr 1
      have g2 := blk_frozen hrxr 2
      have g3 := blk_frozen hrxr 3
      have g4 := blk_frozen hrxr 4
      have Hbxr := Lib.hid hbxr
      have Hrxr := Lib.hid hrxr
      clear hkn2 ht hf2 hbxr hrxr
      go_wp2
      obtain ⟨w3, hw3⟩ : ∃ w3, w3 = (((((wr.setCell ⟨w.heap.size, 1, none⟩ (.slice A2 m c2)).setCell ⟨w.heap.size + 1, 0, none⟩ (.int .i64 D.room)).setCell ⟨w.heap.size + 1, 1, none⟩ (.slice A2 m c2)).setCell ⟨w.heap.size + 1, 2, none⟩ (.bool D.down)).setCell ⟨w.heap.size + 1, 3, none⟩ (.int .i64 D.armed)).setCell ⟨w.heap.size + 1, 4, none⟩ (.int .u64 D.steps) := ⟨_, rfl⟩
      rw [← hw3]
      have hne : w.heap.size + 1 ≠ w.heap.size := by omega
      have hx3 : w3.heap[w.heap.size + 1]? = some (.cells #[.int .i64 D.room, .slice A2 m c2, .bool D.down, .int .i64 D.armed, .int .u64 D.steps] 45 (0, 0)) := by
        rw [hw3]
        exact blk_set (blk_set (blk_set (blk_set (blk_set (blk_far Hrxr.out (p := ⟨w.heap.size, 1, none⟩) hne _) 0 _) 1 _) 2 _) 3 _) 4 _
      have hE3 : Ext [w.heap.size, w.heap.size + 1] wr w3 := by
        rw [hw3]
        exact (((((Ext.refl _ _).setCell (Or.inl (by simp)) _).setCell (Or.inl (by simp)) _).setCell (Or.inl (by simp)) _).setCell (Or.inl (by simp)) _).setCell (Or.inl (by simp)) _ |>.setCell (Or.inl (by simp)) _
      have hs1 := Hs1.out
      have hown3 : w3.ownsRow w1.heap.size 60 3 (.slice A2 m c2) m (fvals (Dsk.del D.files s.data.toList)) := by
        have := Hown.out
        rw [Ht.out] at this
        exact this.kept_ext hE3 (fun q hq => by simp at hq; omega)
      have hfr : ∀ ad, A2 = some ad → w.heap.size ≤ ad.block := fun ad he => by
        have := (hown3.lt ad.block (by rw [he]; rfl)).1
        omega
      obtain ⟨A3, c3, e3, hf3, hc3⟩ := RFiles.of_own hown3
      injection e3 with e3 _ e4
      subst e3 e4
      have x0 := blk_cell hx3 0
      have x1 := blk_cell hx3 1
      have x2 := blk_cell hx3 2
      have x3 := blk_cell hx3 3
      have x4 := blk_cell hx3 4
      clear hw3
      refine bodyPost_ret (v := refV { D with files := Dsk.del D.files s.data.toList } A2 m c2) (by simp [results, Try.results129, go_sem, refV, x0, x1, x2, x3, x4]) rfl ⟨A2, m, c2, rfl, hf3, hc3, ?_, hfr⟩
      exact Hbw.out.trans ((Hbl.out.mono (by omega)).trans (hE3.below (by have := Hbl.out.size; omega) (fun q hq => by simp at hq; omega)))
end Go.Proofs.Ytcfgdlpdnpnhmaa
set_option linter.unusedVariables false
set_option linter.unusedSimpArgs false
namespace Go.Proofs.Ytcfgdlpdnpnhmaa
open Go.RowKit Go.Maps

theorem RFiles.ext {S : List Nat} {w w' : World} {A : Option Addr} {n : Nat} {l : List File} (h : RFiles w A n l) (e : Ext S w w') (hs : ∀ k, k ∈ S → NoStr w k) : RFiles w' A n l := by
  refine ⟨h.1, fun hn => ?_⟩
  obtain ⟨ad, ea, hc⟩ := h.2 hn
  refine ⟨ad, ea, fun j hj i hi => ?_⟩
  have h3 := hc j hj i hi
  have h0 : w.cell? (ad.add (j * 3)) = some (encStr l[j].name) := hc j hj 0 (by omega)
  have hne : (ad.add (j * 3 + i)).block ∉ S := fun hm => by
    rw [block_of_add] at hm
    rw [← block_of_add ad (j * 3)] at hm
    have h4 := cell_spot h0
    rw [h4] at h0
    exact hs _ hm _ _ h0
  have : ∃ v, w.cell? (ad.add (j * 3 + i)) = some v := by
    rw [h3]
    rcases i with _ | _ | _ | i <;> first | exact ⟨_, rfl⟩ | omega
  obtain ⟨v, hv⟩ := this
  rw [← h3]
  exact e.cell (cell_lt hv) hne
theorem ins_length (f : File) (l : List File) : (Dsk.ins f l).length = l.length + 1 := by
  induction l with
  | nil => rfl
  | cons y r ih => unfold Dsk.ins; split <;> simp [ih]

/-- How the loop of 'with' stands behind k files: what is laid, whether the file is in. -/
def WithAt (f : File) (l : List File) (k : Nat) (done : Bool) (acc : List File) : Prop :=
  match done with
  | true => Dsk.ins f l = acc ++ l.drop k
  | false => acc = l.take k ∧ Dsk.ins f l = l.take k ++ Dsk.ins f (l.drop k)
theorem WithAt.start (f : File) (l : List File) : WithAt f l 0 false [] := ⟨by simp, by simp⟩
theorem WithAt.kept {f : File} {l : List File} {k : Nat} {acc : List File} (h : WithAt f l k true acc) (hk : k < l.length) : WithAt f l (k + 1) true (acc ++ [l[k]]) := by
  unfold WithAt at *
  rw [h, List.drop_eq_getElem_cons hk]
  simp
theorem WithAt.over {f : File} {l : List File} {k : Nat} {acc : List File} (h : WithAt f l k false acc) (hk : k < l.length) (hb : bytesBefore f.name l[k].name = false) : WithAt f l (k + 1) false (acc ++ [l[k]]) := by
  obtain ⟨rfl, h2⟩ := h
  refine ⟨by rw [List.take_succ_eq_append_getElem hk], ?_⟩
  rw [h2, List.drop_eq_getElem_cons hk]
  simp only [Dsk.ins, hb, if_false, Bool.false_eq_true]
  rw [List.take_succ_eq_append_getElem hk, List.append_assoc]
  rfl
theorem WithAt.laid {f : File} {l : List File} {k : Nat} {acc : List File} (h : WithAt f l k false acc) (hk : k < l.length) (hb : bytesBefore f.name l[k].name = true) : WithAt f l (k + 1) true (acc ++ [f] ++ [l[k]]) := by
  obtain ⟨rfl, h2⟩ := h
  show Dsk.ins f l = _
  rw [h2, List.drop_eq_getElem_cons hk]
  simp [Dsk.ins, hb]
theorem WithAt.end_true {f : File} {l : List File} {acc : List File} (h : WithAt f l l.length true acc) : Dsk.ins f l = acc := by
  have : Dsk.ins f l = acc ++ l.drop l.length := h
  rw [this]; simp
theorem WithAt.end_false {f : File} {l : List File} {acc : List File} (h : WithAt f l l.length false acc) : Dsk.ins f l = acc ++ [f] := by
  obtain ⟨rfl, h2⟩ := h
  rw [h2]; simp [Dsk.ins]

set_option maxRecDepth 100000 in
set_option maxHeartbeats 2000000 in
theorem refwith_calls (D : Dsk) (A : Option Addr) (n c : Nat) (f : File) (w : World) (h : RFiles w A n D.files) (hn : n ≤ 1048500) :
    Calls Try.prog 128 #[refV D A n c, .agg #[encStr f.name, encStr f.all, .int .i64 f.kept]] w (RefIs w { D with files := Dsk.put D.files f }) := by
  obtain ⟨fn, hfn⟩ : ∃ fn : ByteArray, encStr f.name = .string fn ∧ fn.toList = f.name ∧ fn.data.toList = f.name := ⟨⟨f.name.toArray⟩, rfl, str_list _, rfl⟩
  obtain ⟨fa, hfa⟩ : ∃ fa : ByteArray, encStr f.all = .string fa := ⟨⟨f.all.toArray⟩, rfl⟩
  obtain ⟨hfn, hfl, hfd⟩ := hfn
  obtain ⟨w1, hw1⟩ : ∃ w1, w1 = ((w.alloc (.cells #[.int .i64 D.room, .slice A n c, .bool D.down, .int .i64 D.armed, .int .u64 D.steps] 45)).alloc (.cells #[.string fn, .string fa, .int .i64 f.kept] 60)).alloc (.cells #[.int .i64 0, .slice none 0 0, .bool false, .int .i64 0, .int .u64 0] 45) := ⟨_, rfl⟩
  have hs1 : w1.heap.size = w.heap.size + 3 := by rw [hw1]; simp
  have hbw : Below w.heap.size w w1 := by rw [hw1]; exact (((Below.refl _ _).alloc (Nat.le_refl _) _).alloc (by simp) _).alloc (by simp; omega) _
  have hbx : w1.heap[w.heap.size]? = some (.cells #[.int .i64 D.room, .slice A n c, .bool D.down, .int .i64 D.armed, .int .u64 D.steps] 45 (0, 0)) := by rw [hw1]; exact blk_alloc (blk_alloc (blk_new w _) _) _
  have hfx : w1.heap[w.heap.size + 1]? = some (.cells #[.string fn, .string fa, .int .i64 f.kept] 60 (0, 0)) := by
    rw [hw1]
    refine blk_alloc ?_ _
    have := blk_new (w.alloc (.cells #[.int .i64 D.room, .slice A n c, .bool D.down, .int .i64 D.armed, .int .u64 D.steps] 45)) (.cells #[.string fn, .string fa, .int .i64 f.kept] 60)
    simpa using this
  have hrx : w1.heap[w.heap.size + 2]? = some (.cells #[.int .i64 0, .slice none 0 0, .bool false, .int .i64 0, .int .u64 0] 45 (0, 0)) := by
    rw [hw1]
    have := blk_new ((w.alloc (.cells #[.int .i64 D.room, .slice A n c, .bool D.down, .int .i64 D.armed, .int .u64 D.steps] 45)).alloc (.cells #[.string fn, .string fa, .int .i64 f.kept] 60)) (.cells #[.int .i64 0, .slice none 0 0, .bool false, .int .i64 0, .int .u64 0] 45)
    simpa using this
  have hwo := refwithout_calls D A n c fn w1 (h.below hbw) (by omega)
  rw [hfd] at hwo
  unfold refV at hwo
  have Hwo := Lib.hid hwo
  have Hbw := Lib.hid hbw
  have Hbx := Lib.hid hbx
  have Hfx := Lib.hid hfx
  have Hrx := Lib.hid hrx
  have Hs1 := Lib.hid hs1
  have Hfl := Lib.hid hfl
  have hdl := Lib.hid (show (Dsk.del D.files f.name).length ≤ n by have := del_length D.files f.name; have := h.1; omega)
  clear hwo hbw hbx hfx hrx hs1 hfl hfd h
  rw [hfn, hfa]
  unfold refV
  go_enter Try.func128, Try.ntmps128
  go_wp2_with fail
  rw [← hw1]
  clear hw1
  refine Hwo.out.mono ?_
  rintro e w2 ⟨A2, n2, c2, rfl, hf2, hc2, hb2, _⟩
  unfold refV
  have hn2 := Lib.hid hf2.1
  have Hf2 := Lib.hid hf2
  have hbx2 := (hb2.block _ (blk_lt Hbx.out)).trans Hbx.out
  have b0 := blk_cell hbx2 0
  have b1 := blk_cell hbx2 1
  have b2 := blk_cell hbx2 2
  have b3 := blk_cell hbx2 3
  have b4 := blk_cell hbx2 4
  have g0 := blk_frozen hbx2 0
  have g1 := blk_frozen hbx2 1
  have g2 := blk_frozen hbx2 2
  have g3 := blk_frozen hbx2 3
  have g4 := blk_frozen hbx2 4
  have Hb2 := Lib.hid hb2
  have Hbx2 := Lib.hid hbx2
  clear hb2 hbx2 hf2
  go_wp2
  obtain ⟨w3, hw3⟩ : ∃ w3, w3 = ((((w2.setCell ⟨w.heap.size, 0, none⟩ (.int .i64 D.room)).setCell ⟨w.heap.size, 1, none⟩ (.slice A2 n2 c2)).setCell ⟨w.heap.size, 2, none⟩ (.bool D.down)).setCell ⟨w.heap.size, 3, none⟩ (.int .i64 D.armed)).setCell ⟨w.heap.size, 4, none⟩ (.int .u64 D.steps) := ⟨_, rfl⟩
  rw [← hw3]
  have hx3 : w3.heap[w.heap.size]? = some (.cells #[.int .i64 D.room, .slice A2 n2 c2, .bool D.down, .int .i64 D.armed, .int .u64 D.steps] 45 (0, 0)) := by
    rw [hw3]
    exact blk_set (blk_set (blk_set (blk_set (blk_set Hbx2.out 0 _) 1 _) 2 _) 3 _) 4 _
  have hE3 : Ext [w.heap.size] w2 w3 := by
    rw [hw3]
    exact ((((Ext.refl _ _).setCell (Or.inl (by simp)) _).setCell (Or.inl (by simp)) _).setCell (Or.inl (by simp)) _).setCell (Or.inl (by simp)) _ |>.setCell (Or.inl (by simp)) _
  have hs1 := Hs1.out
  have hf3 : RFiles w3 A2 n2 (Dsk.del D.files f.name) := Hf2.out.ext hE3 (fun q hq => by
    rw [List.mem_singleton.1 hq]
    exact .of_cells Hbx2.out (fun j x => by rcases j with _ | _ | _ | _ | _ | j <;> simp))
  have hfx3 := hE3.obj ((Hb2.out.block _ (blk_lt Hfx.out)).trans Hfx.out) (by simp)
  have hrx3 := hE3.obj ((Hb2.out.block _ (blk_lt Hrx.out)).trans Hrx.out) (by simp)
  have hb3 : Below w.heap.size w w3 := Hbw.out.trans ((Hb2.out.mono (by omega)).trans (hE3.below (by have := Hb2.out.size; omega) (fun q hq => by rw [List.mem_singleton.1 hq]; exact Nat.le_refl _)))
  have hn2' : (Dsk.del D.files f.name).length = n2 := hn2.out
  have hn3 : n2 ≤ n := by have := hdl.out; omega
  have hsz3 : w.heap.size + 3 ≤ w3.heap.size := by have := Hb2.out.size; have := hE3.size; omega
  have Hx3 := Lib.hid hx3
  have Hf3 := Lib.hid hf3
  have Hfx3 := Lib.hid hfx3
  have Hrx3 := Lib.hid hrx3
  have Hb3 := Lib.hid hb3
  have Hn2' := Lib.hid hn2'
  clear hw3 hx3 hE3 hf3 hfx3 hrx3 hb3 hs1 hn2' b0 b1 b2 b3 b4 g0 g1 g2 g3 g4 Hbx2 Hf2 hn2 Hb2
  obtain ⟨L, hL⟩ : ∃ L, L = Dsk.del D.files f.name := ⟨_, rfl⟩
  rw [← hL] at Hf3 Hn2'
  have HL := Lib.hid hL
  clear hL
  go_loopw [5, 6, 7] (fun v dn i wr => ∃ (k m : Nat) (done : Bool) (acc : List File), i = .int .i64 k ∧ dn = .bool done ∧ k ≤ n2 ∧ wr.ownsRow w3.heap.size 60 3 v m (fvals acc) ∧ m = acc.length ∧ m ≤ k + 1 ∧ WithAt f L k done acc ∧ Below w3.heap.size w3 wr) (fun _ _ i _ => n2 - (intOf i).toNat)
  case atStart => exact ⟨0, 0, false, [], rfl, rfl, Nat.zero_le _, World.ownsRow_nil _ _ _ _, rfl, by omega, .start f L, Below.refl _ _⟩
  case round =>
    obtain ⟨k, m, done, acc, rfl, rfl, hkn, hown, hm, hmk, hwa, hbl⟩ := hrel
    have Hown := Lib.hid hown
    have Hm := Lib.hid hm
    have Hwa := Lib.hid hwa
    have Hbl := Lib.hid hbl
    have hbxr := (hbl.block _ (blk_lt Hx3.out)).trans Hx3.out
    have hfxr := (hbl.block _ (blk_lt Hfx3.out)).trans Hfx3.out
    have hrxr := (hbl.block _ (blk_lt Hrx3.out)).trans Hrx3.out
    have b1 := blk_cell hbxr 1
    have k0 := blk_cell hfxr 0
    have k1 := blk_cell hfxr 1
    have k2 := blk_cell hfxr 2
    have hle : w3.heap.size ≤ wr.heap.size := Hbl.out.size
    clear hown hm hwa hbl
    have hcx : ∀ W, Below w3.heap.size w3 W → W.cell? ⟨w.heap.size, 0, none⟩ = some (.int .i64 D.room) ∧ W.cell? ⟨w.heap.size, 1, none⟩ = some (.slice A2 n2 c2) ∧ W.cell? ⟨w.heap.size, 2, none⟩ = some (.bool D.down) ∧ W.cell? ⟨w.heap.size, 3, none⟩ = some (.int .i64 D.armed) ∧ W.cell? ⟨w.heap.size, 4, none⟩ = some (.int .u64 D.steps) ∧ W.cell? ⟨w.heap.size + 1, 0, none⟩ = some (.string fn) ∧ W.cell? ⟨w.heap.size + 1, 1, none⟩ = some (.string fa) ∧ W.cell? ⟨w.heap.size + 1, 2, none⟩ = some (.int .i64 f.kept) := fun W hb => by
      have x := (hb.block _ (blk_lt Hx3.out)).trans Hx3.out
      have y := (hb.block _ (blk_lt Hfx3.out)).trans Hfx3.out
      exact ⟨blk_cell x 0, blk_cell x 1, blk_cell x 2, blk_cell x 3, blk_cell x 4, blk_cell y 0, blk_cell y 1, blk_cell y 2⟩
    have Hcx := Lib.hid hcx
    have hownd : wr.drew.ownsRow w3.heap.size 60 3 u5 m (fvals acc) := Hown.out
    have hbld : Below w3.heap.size w3 wr.drew := Hbl.out.drew
    have hmn : m ≤ 1048576 := by omega
    clear hcx
    by_cases hlt : k < n2
    · have hk : k < L.length := by rw [Hn2'.out]; exact hlt
      obtain ⟨ad, b, o, nm, al, rfl, had, q0, q1, q2, e0, e1, z0, z1, en, ea⟩ := Hf3.out.at2 hk
      have hq : ∀ W, Below w3.heap.size w3 W → W.cell? ⟨b, o, none⟩ = some (.string nm) ∧ W.cell? ⟨b, o + 1, none⟩ = some (.string al) ∧ W.cell? ⟨b, o + 2, none⟩ = some (.int .i64 L[k].kept) := fun W hb =>
        ⟨(hb.cell (cell_lt q0)).trans q0, (hb.cell (cell_lt q1)).trans q1, (hb.cell (cell_lt q2)).trans q2⟩
      have Hq := Lib.hid hq
      obtain ⟨p0, p1, p2⟩ := hq wr Hbl.out
      have hix := fun W => run_file_index ad n2 c2 k hlt W
      simp only [had] at hix
      have hwk : IntKind.i64.wrap ((k : Int) + 1) = (k : Int) + 1 := IntWalk.i64_in _ (by omega)
      have Hen := Lib.hid en
      have Hea := Lib.hid ea
      clear hq q0 q1 q2
      cases done
      · cases hbf : bytesBefore f.name L[k].name
        · have hg : Op.bytesLess fn.toList nm.toList = false := by rw [less_before, e0, Hfl.out, hbf]
          have hwa' := Hwa.out.over hk hbf
          have Hwa' := Lib.hid hwa'
          clear e0 e1 z0 z1 had en ea hbf hwa'
          go_wp2
          go_region
          go_wp2_with (at_builtin; refine wpList_append_file _ rfl _ _ rfl w3.heap.size _ m acc rfl (hownd.alloc _) wr.heap.size 1 L[k] rfl (by rw [Hen.out, Hea.out]; exact blk_new wr.drew _) hmn (by simp; omega) ?_; intro v' w5 hown5 hgr5)
          go_roundw
          case rel =>
            have hb5 : Below w3.heap.size w3 w5 := (hbld.alloc hle _).grown hgr5 (by simp; omega) (fun q hq => (Hown.out.lt q hq).1)
            exact ⟨k + 1, m + 1, false, acc ++ [L[k]], by simp, rfl, hlt, hown5, by rw [List.length_append, ← Hm.out]; rfl, by omega, Hwa'.out, hb5⟩
          case measure => simp [intOf]; omega
        · have hg : Op.bytesLess fn.toList nm.toList = true := by rw [less_before, e0, Hfl.out, hbf]
          have hwa' := Hwa.out.laid hk hbf
          have hm2 : m ≤ k := by
            obtain ⟨h1, _⟩ := Hwa.out
            rw [Hm.out, h1, List.length_take]; omega
          have Hwa' := Lib.hid hwa'
          clear e0 e1 z0 z1 had en ea hbf hwa'
          go_wp2
          go_region
          go_wp2_with (first
            | (at_builtin; refine wpList_append_file _ rfl _ _ rfl w3.heap.size _ (m + 1) (acc ++ [f]) rfl (hown5.alloc _) w5.heap.size 1 L[k] rfl (by rw [Hen.out, Hea.out]; exact blk_new w5 _) (by omega) (by have := hb5.size; simp; omega) ?_; intro v'' w6 hown6 hgr6)
            | (at_builtin; refine wpList_append_file _ rfl _ _ rfl w3.heap.size _ m acc rfl (hownd.alloc _) wr.heap.size 1 f rfl (by rw [hfn, hfa]; exact blk_new wr.drew _) hmn (by simp; omega) ?_; intro v' w5 hown5 hgr5; have hb5 : Below w3.heap.size w3 w5 := (hbld.alloc hle _).grown hgr5 (by simp; omega) (fun q hq => (Hown.out.lt q hq).1); obtain ⟨s0, s1, s2⟩ := Hq.out w5 hb5; obtain ⟨t0, t1, t2, t3, t4, _⟩ := Hcx.out w5 hb5))
          go_roundw
          case rel =>
            have hb6 : Below w3.heap.size w3 w6 := (hb5.alloc hb5.size _).grown hgr6 (by have := hb5.size; simp; omega) (fun q hq => (hown5.lt q hq).1)
            exact ⟨k + 1, m + 1 + 1, true, acc ++ [f] ++ [L[k]], by simp, rfl, hlt, hown6, by rw [List.length_append, List.length_append, ← Hm.out]; rfl, by omega, Hwa'.out, hb6⟩
          case measure => simp [intOf]; omega
      · have hwa' := Hwa.out.kept hk
        have Hwa' := Lib.hid hwa'
        clear e0 e1 z0 z1 had en ea hwa'
        go_wp2
        go_region
        go_wp2_with (at_builtin; refine wpList_append_file _ rfl _ _ rfl w3.heap.size _ m acc rfl (hownd.alloc _) wr.heap.size 1 L[k] rfl (by rw [Hen.out, Hea.out]; exact blk_new wr.drew _) hmn (by simp; omega) ?_; intro v' w5 hown5 hgr5)
        go_roundw
        case rel =>
          have hb5 : Below w3.heap.size w3 w5 := (hbld.alloc hle _).grown hgr5 (by simp; omega) (fun q hq => (Hown.out.lt q hq).1)
          exact ⟨k + 1, m + 1, true, acc ++ [L[k]], by simp, rfl, hlt, hown5, by rw [List.length_append, ← Hm.out]; rfl, by omega, Hwa'.out, hb5⟩
        case measure => simp [intOf]; omega
    · have hkn2 : k = n2 := by omega
      have hkl : k = L.length := by rw [Hn2'.out]; exact hkn2
      have Hkl := Lib.hid hkl
      clear hkl hkn2
      have hrs : ∀ W (l : List File) (A5 : Option Addr) (m5 c5 : Nat), Below w3.heap.size w3 W → W.ownsRow w3.heap.size 60 3 (.slice A5 m5 c5) m5 (fvals l) → Dsk.ins f L = l →
          ∃ w7, w7 = (((((W.setCell ⟨w.heap.size, 1, none⟩ (.slice A5 m5 c5)).setCell ⟨w.heap.size + 2, 0, none⟩ (.int .i64 D.room)).setCell ⟨w.heap.size + 2, 1, none⟩ (.slice A5 m5 c5)).setCell ⟨w.heap.size + 2, 2, none⟩ (.bool D.down)).setCell ⟨w.heap.size + 2, 3, none⟩ (.int .i64 D.armed)).setCell ⟨w.heap.size + 2, 4, none⟩ (.int .u64 D.steps) ∧
            w7.heap[w.heap.size + 2]? = some (.cells #[.int .i64 D.room, .slice A5 m5 c5, .bool D.down, .int .i64 D.armed, .int .u64 D.steps] 45 (0, 0)) ∧ RFiles w7 A5 m5 (Dsk.put D.files f) ∧ m5 ≤ c5 ∧ Below w.heap.size w w7 := fun W l A5 m5 c5 hb ho he => by
        refine ⟨_, rfl, ?_, ?_, ?_, ?_⟩
        · have hr := (hb.block _ (blk_lt Hrx3.out)).trans Hrx3.out
          exact blk_set (blk_set (blk_set (blk_set (blk_set (blk_far hr (p := ⟨w.heap.size, 1, none⟩) (by simp) _) 0 _) 1 _) 2 _) 3 _) 4 _
        · have hE : Ext [w.heap.size, w.heap.size + 2] W ((((((W.setCell ⟨w.heap.size, 1, none⟩ (.slice A5 m5 c5)).setCell ⟨w.heap.size + 2, 0, none⟩ (.int .i64 D.room)).setCell ⟨w.heap.size + 2, 1, none⟩ (.slice A5 m5 c5)).setCell ⟨w.heap.size + 2, 2, none⟩ (.bool D.down)).setCell ⟨w.heap.size + 2, 3, none⟩ (.int .i64 D.armed)).setCell ⟨w.heap.size + 2, 4, none⟩ (.int .u64 D.steps)) :=
            ((((((Ext.refl _ _).setCell (Or.inl (by simp)) _).setCell (Or.inl (by simp)) _).setCell (Or.inl (by simp)) _).setCell (Or.inl (by simp)) _).setCell (Or.inl (by simp)) _).setCell (Or.inl (by simp)) _
          obtain ⟨A6, c6, e6, hf6, hc6⟩ := RFiles.of_own (ho.kept_ext hE (fun q hq => by simp at hq; omega))
          injection e6 with e6 _ _
          subst e6
          rw [show Dsk.put D.files f = l by unfold Dsk.put; rw [← HL.out, he]]
          exact hf6
        · obtain ⟨A6, c6, e6, hf6, hc6⟩ := RFiles.of_own ho
          injection e6 with _ _ e7
          subst e7
          exact hc6
        · have hE : Ext [w.heap.size, w.heap.size + 2] W ((((((W.setCell ⟨w.heap.size, 1, none⟩ (.slice A5 m5 c5)).setCell ⟨w.heap.size + 2, 0, none⟩ (.int .i64 D.room)).setCell ⟨w.heap.size + 2, 1, none⟩ (.slice A5 m5 c5)).setCell ⟨w.heap.size + 2, 2, none⟩ (.bool D.down)).setCell ⟨w.heap.size + 2, 3, none⟩ (.int .i64 D.armed)).setCell ⟨w.heap.size + 2, 4, none⟩ (.int .u64 D.steps)) :=
            ((((((Ext.refl _ _).setCell (Or.inl (by simp)) _).setCell (Or.inl (by simp)) _).setCell (Or.inl (by simp)) _).setCell (Or.inl (by simp)) _).setCell (Or.inl (by simp)) _).setCell (Or.inl (by simp)) _
          exact Hb3.out.trans ((hb.mono (by omega)).trans (hE.below (by have := hb.size; omega) (fun q hq => by simp at hq; omega)))
      have hrf : ∀ W, Below w3.heap.size w3 W → W.frozen? ⟨w.heap.size, 1, none⟩ = false ∧ W.cell? ⟨w.heap.size + 2, 0, none⟩ = some (.int .i64 0) ∧ W.cell? ⟨w.heap.size + 2, 1, none⟩ = some (.slice none 0 0) ∧ W.cell? ⟨w.heap.size + 2, 2, none⟩ = some (.bool false) ∧ W.cell? ⟨w.heap.size + 2, 3, none⟩ = some (.int .i64 0) ∧ W.cell? ⟨w.heap.size + 2, 4, none⟩ = some (.int .u64 0) ∧
          W.frozen? ⟨w.heap.size + 2, 0, none⟩ = false ∧ W.frozen? ⟨w.heap.size + 2, 1, none⟩ = false ∧ W.frozen? ⟨w.heap.size + 2, 2, none⟩ = false ∧ W.frozen? ⟨w.heap.size + 2, 3, none⟩ = false ∧ W.frozen? ⟨w.heap.size + 2, 4, none⟩ = false := fun W hb => by
        have x := (hb.block _ (blk_lt Hx3.out)).trans Hx3.out
        have r := (hb.block _ (blk_lt Hrx3.out)).trans Hrx3.out
        exact ⟨blk_frozen x 1, blk_cell r 0, blk_cell r 1, blk_cell r 2, blk_cell r 3, blk_cell r 4, blk_frozen r 0, blk_frozen r 1, blk_frozen r 2, blk_frozen r 3, blk_frozen r 4⟩
      have Hrs := Lib.hid hrs
      have Hrf := Lib.hid hrf
      clear hrs hrf b1 k0 k1 k2 hbxr hfxr hrxr
      obtain ⟨b0, b1, b2, b3, b4, k0, k1, k2⟩ := Hcx.out wr Hbl.out
      obtain ⟨z0, r0, r1, r2, r3, r4, f0, f1, f2, f3, f4⟩ := Hrf.out wr Hbl.out
      cases done
      · have hi : Dsk.ins f L = acc ++ [f] := (Hkl.out ▸ Hwa.out : WithAt f L L.length false acc).end_false
        have Hi := Lib.hid hi
        clear hi
        go_wp2_with (at_builtin; refine wpList_append_file _ rfl _ _ rfl w3.heap.size _ m acc rfl (Hown.out.alloc _) wr.heap.size 1 f rfl (by rw [hfn, hfa]; exact blk_new wr _) hmn (by simp; omega) ?_; intro v' w5 hown5 hgr5; have hb5 : Below w3.heap.size w3 w5 := (Hbl.out.alloc hle _).grown hgr5 (by simp; omega) (fun q hq => (Hown.out.lt q hq).1); obtain ⟨A5, c5, rfl, _, _⟩ := RFiles.of_own hown5; obtain ⟨b0, b1, b2, b3, b4, _⟩ := Hcx.out w5 hb5; obtain ⟨z0, r0, r1, r2, r3, r4, f0, f1, f2, f3, f4⟩ := Hrf.out w5 hb5)
        obtain ⟨w7, hw7, hx7, hf7, hc7, hb7⟩ := Hrs.out w5 _ A5 (m + 1) c5 hb5 hown5 Hi.out
        rw [← hw7]
        have x0 := blk_cell hx7 0
        have x1 := blk_cell hx7 1
        have x2 := blk_cell hx7 2
        have x3 := blk_cell hx7 3
        have x4 := blk_cell hx7 4
        exact bodyPost_ret (v := refV { D with files := Dsk.put D.files f } A5 (m + 1) c5) (by simp [results, Try.results128, go_sem, refV, x0, x1, x2, x3, x4]) rfl ⟨A5, m + 1, c5, rfl, hf7, hc7, hb7⟩
      · have hi : Dsk.ins f L = acc := (Hkl.out ▸ Hwa.out : WithAt f L L.length true acc).end_true
        have Hi := Lib.hid hi
        obtain ⟨A5, c5, rfl, _, _⟩ := RFiles.of_own Hown.out
        clear hi
        go_wp2
        obtain ⟨w7, hw7, hx7, hf7, hc7, hb7⟩ := Hrs.out wr _ A5 m c5 Hbl.out Hown.out Hi.out
        rw [← hw7]
        have x0 := blk_cell hx7 0
        have x1 := blk_cell hx7 1
        have x2 := blk_cell hx7 2
        have x3 := blk_cell hx7 3
        have x4 := blk_cell hx7 4
        exact bodyPost_ret (v := refV { D with files := Dsk.put D.files f } A5 m c5) (by simp [results, Try.results128, go_sem, refV, x0, x1, x2, x3, x4]) rfl ⟨A5, m, c5, rfl, hf7, hc7, hb7⟩
end Go.Proofs.Ytcfgdlpdnpnhmaa
set_option linter.unusedVariables false
set_option linter.unusedSimpArgs false
namespace Go.Proofs.Ytcfgdlpdnpnhmaa
open Go.RowKit Go.Maps

theorem place_none {l : List File} {s : Bs} (h : Dsk.find l s = none) : place l s = -1 := by
  unfold place
  have : l.findIdx? (fun f => f.name == s) = none := by
    rw [List.findIdx?_eq_none_iff]
    exact fun x hx => by have := List.find?_eq_none.1 h x hx; simpa using this
  rw [this]
theorem place_some {l : List File} {s : Bs} {f : File} (h : Dsk.find l s = some f) : ∃ (i : Nat) (hi : i < l.length), place l s = i ∧ l[i] = f := by
  unfold place
  obtain ⟨hf, i, hi, he, hlt⟩ := List.find?_eq_some_iff_getElem.1 h
  refine ⟨i, hi, ?_, he⟩
  have : l.findIdx? (fun f => f.name == s) = some i := by
    rw [List.findIdx?_eq_some_iff_getElem]
    exact ⟨hi, by rw [he]; exact hf, fun j hj => by simpa using hlt j hj⟩
  rw [this]
theorem step_code (D : Dsk) (h : (D.step.2 == 0) = false) : D.step.2 = 50 := by
  unfold Dsk.step at *
  split
  · rfl
  · split <;> simp_all
theorem step_room (D : Dsk) : D.step.1.room = D.room := by
  unfold Dsk.step
  split
  · rfl
  · split <;> rfl

/-- A call that answers a disk and an error's number. -/
def RefPair (w : World) (D : Dsk) (code : Int) (e : Ending) (w' : World) : Prop := ∃ A n c, e = .returned (.tuple #[refV D A n c, .int .i64 code]) ∧ RFiles w' A n D.files ∧ n ≤ c ∧ Below w.heap.size w w'

theorem blk_new1 (w : World) (X R : Obj) : ((w.alloc X).alloc R).heap[w.heap.size + 1]? = some R := by simpa using blk_new (w.alloc X) R
theorem al1 (w : World) (a : Obj) : Below w.heap.size w (w.alloc a) := (Below.refl _ _).alloc (Nat.le_refl _) _
theorem al2 (w : World) (a b : Obj) : Below w.heap.size w ((w.alloc a).alloc b) := (al1 w a).alloc (by simp) _
theorem al3 (w : World) (a b c : Obj) : Below w.heap.size w (((w.alloc a).alloc b).alloc c) := (al2 w a b).alloc (by simp; omega) _
theorem al4 (w : World) (a b c d : Obj) : Below w.heap.size w ((((w.alloc a).alloc b).alloc c).alloc d) := (al3 w a b c).alloc (by simp; omega) _
theorem al5 (w : World) (a b c d e : Obj) : Below w.heap.size w (((((w.alloc a).alloc b).alloc c).alloc d).alloc e) := (al4 w a b c d).alloc (by simp; omega) _
theorem al6 (w : World) (a b c d e f : Obj) : Below w.heap.size w ((((((w.alloc a).alloc b).alloc c).alloc d).alloc e).alloc f) := (al5 w a b c d e).alloc (by simp; omega) _
theorem res_done {W : World} {g : Nat} {t : TypeId} {z : Array Value} (hz : z.size = 5) (hr : W.heap[g]? = some (.cells z t (0, 0))) (v0 v1 v2 v3 v4 : Value) (hs : ∀ (j : Nat) (s : ByteArray), z[j]? ≠ some (Value.string s)) :
    ∃ W', W' = ((((W.setCell ⟨g, 0, none⟩ v0).setCell ⟨g, 1, none⟩ v1).setCell ⟨g, 2, none⟩ v2).setCell ⟨g, 3, none⟩ v3).setCell ⟨g, 4, none⟩ v4 ∧ W'.heap[g]? = some (.cells #[v0, v1, v2, v3, v4] t (0, 0)) ∧ Ext [g] W W' ∧ ∀ A n l, RFiles W A n l → RFiles W' A n l := by
  have hE : Ext [g] W (((((W.setCell ⟨g, 0, none⟩ v0).setCell ⟨g, 1, none⟩ v1).setCell ⟨g, 2, none⟩ v2).setCell ⟨g, 3, none⟩ v3).setCell ⟨g, 4, none⟩ v4) :=
    (((((Ext.refl _ _).setCell (Or.inl (by simp)) _).setCell (Or.inl (by simp)) _).setCell (Or.inl (by simp)) _).setCell (Or.inl (by simp)) _).setCell (Or.inl (by simp)) _
  refine ⟨_, rfl, ?_, hE, fun A n l h => h.ext hE (fun q hq => by rw [List.mem_singleton.1 hq]; exact .of_cells hr hs)⟩
  obtain ⟨z0, z1, z2, z3, z4, rfl⟩ : ∃ z0 z1 z2 z3 z4, z = #[z0, z1, z2, z3, z4] := by
    rcases z with ⟨l⟩
    rcases l with _ | ⟨a, _ | ⟨b, _ | ⟨c, _ | ⟨d, _ | ⟨e, _ | ⟨f, l⟩⟩⟩⟩⟩⟩ <;> simp at hz
    exact ⟨a, b, c, d, e, rfl⟩
  exact blk_set (blk_set (blk_set (blk_set (blk_set hr 0 v0) 1 v1) 2 v2) 3 v3) 4 v4
theorem keep2 {w w' : World} {A : Option Addr} {n c : Nat} {l : List File} (h : RFiles w A n l) (hnc : n ≤ c) (hB : Below w.heap.size w w') : RFiles w' A n l ∧ n ≤ c ∧ Below w.heap.size w w' := ⟨h.below hB, hnc, hB⟩

set_option maxRecDepth 100000 in
set_option maxHeartbeats 4000000 in
theorem refsync_calls (D : Dsk) (A : Option Addr) (n c : Nat) (s : ByteArray) (w : World) (h : RFiles w A n D.files) (hnc : n ≤ c) (hn : n ≤ 1048000) (hs : D.steps < 4611686018427387904) (ha : -1 ≤ D.armed) (ha2 : D.armed ≤ 9223372036854775807) (hlen : ∀ f ∈ D.files, f.all.length ≤ 1048576) :
    Calls Try.prog 82 #[refV D A n c, .string s] w (RefPair w (D.sync s.data.toList).1 (D.sync s.data.toList).2) := by
  have Hf := Lib.hid (fun w1 (hb : Below w.heap.size w w1) => reffind_calls D A n c s w1 (h.below hb) (by omega))
  have Hst := Lib.hid (fun w1 => refstep_calls D A n c w1 hs ha ha2)
  have H := Lib.hid h
  have hl := Lib.hid h.1
  unfold refV at Hf Hst
  cases hd : D.down
  · unfold refV
    rw [hd] at Hf Hst
    cases hfd : Dsk.find D.files s.data.toList with
    | none =>
      rw [show D.sync s.data.toList = (D, 31) by unfold Dsk.sync; rw [hd, hfd]; rfl]
      rw [place_none hfd] at Hf
      rw [hd]
      clear h hfd
      go_enter Try.func82, Try.ntmps82
      go_wp2_with (go_at_call 126; refine (Hf.out _ (al2 w _ _)).mono ?_; rintro e w2 ⟨rfl, rfl⟩)
      exact bodyPost_ret (v := .tuple #[.agg #[.int .i64 D.room, .slice A n c, .bool false, .int .i64 D.armed, .int .u64 D.steps], .int .i64 31]) (by simp [results, Try.results82, go_sem]) rfl ⟨A, n, c, by unfold refV; rw [hd], keep2 H.out hnc (al3 w _ _ _)⟩
    | some f =>
      obtain ⟨i, hi, hp, hfi⟩ := place_some hfd
      rw [hp] at Hf
      have hsf := step_files D
      cases hst2 : D.step.2 == 0
      · rw [show D.sync s.data.toList = D.step by unfold Dsk.sync; rw [hd, hfd]; simp at hst2; simp [hst2]]
        have h50 := Lib.hid (step_code D hst2)
        rw [hd]
        clear h hfd
        go_enter Try.func82, Try.ntmps82
        go_wp2_with (first
          | (go_at_call 126; refine (Hf.out _ (al2 w _ _)).mono ?_; rintro e w2 ⟨rfl, rfl⟩)
          | (go_at_call 127; refine (Hst.out _).mono ?_; rintro e w3 ⟨rfl, rfl⟩))
        exact bodyPost_ret (v := .tuple #[.agg #[.int .i64 D.step.1.room, .slice A n c, .bool D.step.1.down, .int .i64 D.step.1.armed, .int .u64 D.step.1.steps], .int .i64 50]) (by simp [results, Try.results82, go_sem]) rfl ⟨A, n, c, by unfold refV; rw [h50.out], by rw [hsf]; exact keep2 H.out hnc (al5 w _ _ _ _ _)⟩
      · have h0 : D.step.2 = 0 := by simpa using hst2
        rw [show D.sync s.data.toList = ({ D.step.1 with files := Dsk.put D.step.1.files ⟨s.data.toList, f.all, f.all.length⟩ }, 0) by unfold Dsk.sync; rw [hd, hfd]; simp [h0]]
        have hfn : f.name = s.data.toList := (mem_find hfd).2
        have hfl : f.all.length ≤ 1048576 := hlen f (mem_find hfd).1
        have Hfi := Lib.hid hfi
        clear hfi hp
        have Hsf := Lib.hid hsf
        rw [hd]
        have hii : i < n := by have := h.1; omega
        have Hfn := Lib.hid hfn
        clear h hfd h0 hsf hlen hfn
        go_enter Try.func82, Try.ntmps82
        go_upto_region 9 with (first
          | (go_at_call 126; refine (Hf.out _ (al2 w _ _)).mono ?_; rintro e w2 ⟨rfl, rfl⟩)
          | (go_at_call 127; refine (Hst.out _).mono ?_; rintro e w3 ⟨rfl, hw3⟩; have hb3 : Below w.heap.size w w3 := (by rw [hw3]; exact al5 w _ _ _ _ _); have hx3 : w3.heap[w.heap.size]? = some (.cells #[.int .i64 D.room, .slice A n c, .bool false, .int .i64 D.armed, .int .u64 D.steps] 45 (0, 0)) := (by rw [hw3]; exact blk_alloc (blk_alloc (blk_alloc (blk_alloc (blk_new w _) _) _) _) _); have hr3 : w3.heap[w.heap.size + 1]? = some (.cells #[.int .i64 0, .slice none 0 0, .bool false, .int .i64 0, .int .u64 0] 45 (0, 0)) := (by rw [hw3]; exact blk_alloc (blk_alloc (blk_alloc (blk_new1 w _ _) _) _) _); clear hw3; have b0 := blk_cell hx3 0; have b1 := blk_cell hx3 1; have b2 := blk_cell hx3 2; have b3 := blk_cell hx3 3; have b4 := blk_cell hx3 4; have g0 := blk_frozen hx3 0; have g1 := blk_frozen hx3 1; have g2 := blk_frozen hx3 2; have g3 := blk_frozen hx3 3; have g4 := blk_frozen hx3 4))
        obtain ⟨w4, hw4, hx4, hE4, hRF4⟩ := res_done (by rfl) hx3 (.int .i64 D.step.1.room) (.slice A n c) (.bool D.step.1.down) (.int .i64 D.step.1.armed) (.int .u64 D.step.1.steps) (fun j x => by rcases j with _ | _ | _ | _ | _ | j <;> simp)
        rw [← hw4]
        have hf4 : RFiles w4 A n D.files := hRF4 _ _ _ (H.out.below hb3)
        have hr4 := hE4.obj hr3 (by simp)
        have hlt := blk_lt hr3
        have hb4 : Below w.heap.size w w4 := hb3.trans (hE4.below (by omega) (fun q hq => by rw [List.mem_singleton.1 hq]; exact Nat.le_refl _))
        obtain ⟨ad, b, o, nm, al, rfl, had, q0, q1, q2, e0, e1, z0, z1, en, ea⟩ := hf4.at2 hi
        rw [Hfi.out] at q2 en ea z1
        have hix := fun W => run_file_index ad n c i hii W
        simp only [had] at hix
        have b1' := blk_cell hx4 1
        have b0' := blk_cell hx4 0
        have b2' := blk_cell hx4 2
        have b3' := blk_cell hx4 3
        have b4' := blk_cell hx4 4
        have Hf4 := Lib.hid hf4
        have Hx4 := Lib.hid hx4
        have Hr4 := Lib.hid hr4
        have Hb4 := Lib.hid hb4
        have Hen := Lib.hid en
        have Hea := Lib.hid ea
        have Hz1 := Lib.hid z1
        clear hw4 hE4 hRF4 hb3 hx3 hr3 b0 b1 b2 b3 b4 g0 g1 g2 g3 g4 hf4 hx4 hr4 hb4 e0 e1 z0 had en ea z1
        go_upto_region 11 with fail
        obtain ⟨w5, hw5⟩ : ∃ w5, w5 = w4.alloc (.cells #[.string nm, .string al, .int .i64 al.size] 60) := ⟨_, rfl⟩
        rw [← hw5]
        have hb5 : Below w4.heap.size w4 w5 := by rw [hw5]; exact al1 _ _
        have hx5 := (hb5.block _ (blk_lt Hx4.out)).trans Hx4.out
        have hr5 := (hb5.block _ (blk_lt Hr4.out)).trans Hr4.out
        have hy5 : w5.heap[w4.heap.size]? = some (.cells #[.string nm, .string al, .int .i64 al.size] 60 (0, 0)) := by rw [hw5]; exact blk_new w4 _
        have b0 := blk_cell hx5 0
        have b1 := blk_cell hx5 1
        have b2 := blk_cell hx5 2
        have b3 := blk_cell hx5 3
        have b4 := blk_cell hx5 4
        have y0 := blk_cell hy5 0
        have y1 := blk_cell hy5 1
        have y2 := blk_cell hy5 2
        have Hb5 := Lib.hid hb5
        have Hr5 := Lib.hid hr5
        have hwc := refwith_calls D.step.1 (some ad) n c ⟨s.data.toList, f.all, f.all.length⟩ w5 (by rw [Hsf.out]; exact Hf4.out.below hb5) (by omega)
        clear hw5 hb5 hx5 hr5 hy5 b0' b1' b2' b3' b4' q0 q1 q2
        have e1 : (Value.agg #[encStr s.data.toList, encStr f.all, .int .i64 ((f.all.length : Nat) : Int)]) = .agg #[.string nm, .string al, .int .i64 al.size] := by rw [← Hfn.out, Hen.out, Hea.out, Hz1.out]
        dsimp only at hwc
        rw [e1] at hwc
        unfold refV at hwc
        have Hwc := Lib.hid hwc
        clear hwc e1
        go_wp2_with (go_at_call 128; refine Hwc.out.mono ?_; rintro e w6 ⟨A6, n6, c6, rfl, hf6, hc6, hb6⟩; unfold refV; have hr6 := (hb6.block (w.heap.size + 1) (blk_lt Hr5.out)).trans Hr5.out; have r0 := blk_cell hr6 0; have r1 := blk_cell hr6 1; have r2 := blk_cell hr6 2; have r3 := blk_cell hr6 3; have r4 := blk_cell hr6 4; have g0 := blk_frozen hr6 0; have g1 := blk_frozen hr6 1; have g2 := blk_frozen hr6 2; have g3 := blk_frozen hr6 3; have g4 := blk_frozen hr6 4)
        obtain ⟨w7, hw7, hx7, hE7, hRF7⟩ := res_done (by rfl) hr6 (.int .i64 D.step.1.room) (.slice A6 n6 c6) (.bool D.step.1.down) (.int .i64 D.step.1.armed) (.int .u64 D.step.1.steps) (fun j x => by rcases j with _ | _ | _ | _ | _ | j <;> simp)
        rw [← hw7]
        have x0 := blk_cell hx7 0
        have x1 := blk_cell hx7 1
        have x2 := blk_cell hx7 2
        have x3 := blk_cell hx7 3
        have x4 := blk_cell hx7 4
        have hb64 : Below w.heap.size w w6 := Hb4.out.trans ((Hb5.out.mono Hb4.out.size).trans (hb6.mono (by have := Hb4.out.size; have := Hb5.out.size; omega)))
        have hb7 : Below w.heap.size w w7 := hb64.trans (hE7.below (by have := hb64.size; omega) (fun q hq => by rw [List.mem_singleton.1 hq]; omega))
        exact bodyPost_ret (v := .tuple #[.agg #[.int .i64 D.step.1.room, .slice A6 n6 c6, .bool D.step.1.down, .int .i64 D.step.1.armed, .int .u64 D.step.1.steps], .int .i64 0]) (by simp [results, Try.results82, go_sem, x0, x1, x2, x3, x4]) rfl ⟨A6, n6, c6, rfl, hRF7 _ _ _ hf6, hc6, hb7⟩
  · rw [show D.sync s.data.toList = (D, 50) by unfold Dsk.sync; rw [hd]; rfl]
    clear h
    unfold refV
    rw [hd]
    rw [hd] at Hf
    go_enter Try.func82, Try.ntmps82
    go_wp2_with (go_at_call 126; refine (Hf.out _ (al2 w _ _)).mono ?_; rintro e w2 ⟨rfl, rfl⟩)
    exact bodyPost_ret (v := .tuple #[.agg #[.int .i64 D.room, .slice A n c, .bool true, .int .i64 D.armed, .int .u64 D.steps], .int .i64 50]) (by simp [results, Try.results82, go_sem]) rfl ⟨A, n, c, by unfold refV; rw [hd], keep2 H.out hnc (al3 w _ _ _)⟩
end Go.Proofs.Ytcfgdlpdnpnhmaa
set_option linter.unusedVariables false
set_option linter.unusedSimpArgs false
namespace Go.Proofs.Ytcfgdlpdnpnhmaa
open Go.RowKit Go.Maps

theorem refarm_calls (D : Dsk) (A : Option Addr) (n c : Nat) (k : Int) (w : World) (h : RFiles w A n D.files) (hnc : n ≤ c) :
    Calls Try.prog 87 #[refV D A n c, .int .i64 k] w (RefPair w (D.arm k).1 (D.arm k).2) := by
  unfold refV
  cases hd : D.down
  · by_cases hk : k < 0
    · rw [show D.arm k = (D, 2) by unfold Dsk.arm; rw [hd, if_neg (by simp), if_pos hk]]
      go_enter Try.func87, Try.ntmps87
      go_wp2
      exact bodyPost_ret (v := .tuple #[.agg #[.int .i64 D.room, .slice A n c, .bool false, .int .i64 D.armed, .int .u64 D.steps], .int .i64 2]) (by simp [results, Try.results87, go_sem]) rfl ⟨A, n, c, by first | rfl | (unfold refV; rw [hd]), keep2 h hnc (al2 w _ _)⟩
    · rw [show D.arm k = ({ D with armed := k }, 0) by unfold Dsk.arm; rw [hd, if_neg (by simp), if_neg hk]]
      have g : decide (k < 0) = false := decide_eq_false hk
      have Hk := Lib.hid hk
      clear hk
      go_enter Try.func87, Try.ntmps87
      go_wp2
      exact bodyPost_ret (v := .tuple #[.agg #[.int .i64 D.room, .slice A n c, .bool false, .int .i64 k, .int .u64 D.steps], .int .i64 0]) (by simp [results, Try.results87, go_sem]) rfl ⟨A, n, c, by first | rfl | (unfold refV; rw [hd]), keep2 h hnc (al2 w _ _)⟩
  · rw [show D.arm k = (D, 50) by unfold Dsk.arm; rw [hd]; rfl]
    go_enter Try.func87, Try.ntmps87
    go_wp2
    exact bodyPost_ret (v := .tuple #[.agg #[.int .i64 D.room, .slice A n c, .bool true, .int .i64 D.armed, .int .u64 D.steps], .int .i64 50]) (by simp [results, Try.results87, go_sem]) rfl ⟨A, n, c, by first | rfl | (unfold refV; rw [hd]), keep2 h hnc (al2 w _ _)⟩

theorem refresize_calls (D : Dsk) (A : Option Addr) (n c : Nat) (k : Int) (w : World) (h : RFiles w A n D.files) (hnc : n ≤ c) :
    Calls Try.prog 91 #[refV D A n c, .int .i64 k] w (RefPair w (D.resize k).1 (D.resize k).2) := by
  unfold refV
  cases hd : D.down
  · by_cases hk : k < 0
    · rw [show D.resize k = (D, 2) by unfold Dsk.resize; rw [hd, if_neg (by simp), if_pos (Or.inl hk)]]
      go_enter Try.func91, Try.ntmps91
      go_wp2
      exact bodyPost_ret (v := .tuple #[.agg #[.int .i64 D.room, .slice A n c, .bool false, .int .i64 D.armed, .int .u64 D.steps], .int .i64 2]) (by simp [results, Try.results91, go_sem]) rfl ⟨A, n, c, by first | rfl | (unfold refV; rw [hd]), keep2 h hnc (al2 w _ _)⟩
    · have g : decide (k < 0) = false := decide_eq_false hk
      by_cases hk2 : 1048576 < k
      · rw [show D.resize k = (D, 2) by unfold Dsk.resize; rw [hd, if_neg (by simp), if_pos (Or.inr hk2)]]
        have g2 : decide (1048576 < k) = true := decide_eq_true hk2
        clear hk hk2
        go_enter Try.func91, Try.ntmps91
        go_wp2
        exact bodyPost_ret (v := .tuple #[.agg #[.int .i64 D.room, .slice A n c, .bool false, .int .i64 D.armed, .int .u64 D.steps], .int .i64 2]) (by simp [results, Try.results91, go_sem]) rfl ⟨A, n, c, by first | rfl | (unfold refV; rw [hd]), keep2 h hnc (al2 w _ _)⟩
      · rw [show D.resize k = ({ D with room := k }, 0) by unfold Dsk.resize; rw [hd, if_neg (by simp), if_neg (by omega)]]
        have g2 : decide (1048576 < k) = false := decide_eq_false hk2
        clear hk hk2
        go_enter Try.func91, Try.ntmps91
        go_wp2
        exact bodyPost_ret (v := .tuple #[.agg #[.int .i64 k, .slice A n c, .bool false, .int .i64 D.armed, .int .u64 D.steps], .int .i64 0]) (by simp [results, Try.results91, go_sem]) rfl ⟨A, n, c, by first | rfl | (unfold refV; rw [hd]), keep2 h hnc (al2 w _ _)⟩
  · rw [show D.resize k = (D, 50) by unfold Dsk.resize; rw [hd]; rfl]
    go_enter Try.func91, Try.ntmps91
    go_wp2
    exact bodyPost_ret (v := .tuple #[.agg #[.int .i64 D.room, .slice A n c, .bool true, .int .i64 D.armed, .int .u64 D.steps], .int .i64 50]) (by simp [results, Try.results91, go_sem]) rfl ⟨A, n, c, by first | rfl | (unfold refV; rw [hd]), keep2 h hnc (al2 w _ _)⟩

theorem refboot_calls (D : Dsk) (A : Option Addr) (n c : Nat) (w : World) (h : RFiles w A n D.files) (hnc : n ≤ c) :
    Calls Try.prog 90 #[refV D A n c] w (RefIs w D.boot) := by
  unfold refV
  go_enter Try.func90, Try.ntmps90
  go_wp2
  exact bodyPost_ret (v := .agg #[.int .i64 D.room, .slice A n c, .bool false, .int .i64 (-1), .int .u64 D.steps]) (by simp [results, Try.results90, go_sem]) rfl ⟨A, n, c, rfl, keep2 h hnc (al2 w _ _)⟩

def RefRead (w : World) (l : Bs) (code : Int) (e : Ending) (w' : World) : Prop := e = .returned (.tuple #[encStr l, .int .i64 code]) ∧ Below w.heap.size w w'
set_option maxRecDepth 100000 in
theorem refread_calls (D : Dsk) (A : Option Addr) (n c : Nat) (s : ByteArray) (w : World) (h : RFiles w A n D.files) (hn : n ≤ 1048000) :
    Calls Try.prog 86 #[refV D A n c, .string s] w (RefRead w (D.read s.data.toList).1 (D.read s.data.toList).2) := by
  have Hf := Lib.hid (fun w1 (hb : Below w.heap.size w w1) => reffind_calls D A n c s w1 (h.below hb) (by omega))
  unfold refV at Hf
  unfold refV
  cases hd : D.down
  · rw [hd] at Hf
    cases hfd : Dsk.find D.files s.data.toList with
    | none =>
      rw [show D.read s.data.toList = ([], 31) by unfold Dsk.read; rw [hd, hfd]; rfl]
      rw [place_none hfd] at Hf
      clear h hfd
      go_enter Try.func86, Try.ntmps86
      go_wp2_with (go_at_call 126; refine (Hf.out _ (al1 w _)).mono ?_; rintro e w2 ⟨rfl, rfl⟩)
      go_ret2
      exact ⟨rfl, al2 w _ _⟩
    | some f =>
      rw [show D.read s.data.toList = (f.all, 0) by unfold Dsk.read; rw [hd, hfd]; rfl]
      obtain ⟨i, hi, hp, hfi⟩ := place_some hfd
      rw [hp] at Hf
      have hii : i < n := by have := h.1; omega
      have Hfi := Lib.hid hfi
      have H := Lib.hid h
      clear h hfd hfi hp
      go_enter Try.func86, Try.ntmps86
      go_upto_region 6 with (go_at_call 126; refine (Hf.out _ (al1 w _)).mono ?_; rintro e w2 ⟨rfl, hw2⟩; have hb2 : Below w.heap.size w w2 := (by rw [hw2]; exact al2 w _ _); have hx2 : w2.heap[w.heap.size]? = some (.cells #[.int .i64 D.room, .slice A n c, .bool false, .int .i64 D.armed, .int .u64 D.steps] 45 (0, 0)) := (by rw [hw2]; exact blk_alloc (blk_new w _) _); clear hw2)
      obtain ⟨ad, b, o, nm, al, rfl, had, q0, q1, q2, e0, e1, z0, z1, en, ea⟩ := (H.out.below hb2).at2 hi
      rw [Hfi.out] at ea
      have hix := fun W => run_file_index ad n c i hii W
      simp only [had] at hix
      have b1 := blk_cell hx2 1
      have Hb2 := Lib.hid hb2
      have Hea := Lib.hid ea
      clear hb2 hx2 e0 e1 z0 z1 had en ea
      go_wp2
      go_ret2
      exact ⟨by rw [Hea.out]; rfl, Hb2.out⟩
  · rw [show D.read s.data.toList = ([], 50) by unfold Dsk.read; rw [hd]; rfl]
    clear h
    go_enter Try.func86, Try.ntmps86
    go_wp2
    go_ret2
    exact ⟨rfl, al1 w _⟩
end Go.Proofs.Ytcfgdlpdnpnhmaa
set_option linter.unusedVariables false
set_option linter.unusedSimpArgs false
namespace Go.Proofs.Ytcfgdlpdnpnhmaa
open Go.RowKit Go.Maps

set_option maxRecDepth 100000 in
set_option maxHeartbeats 2000000 in
theorem refremove_calls (D : Dsk) (A : Option Addr) (n c : Nat) (s : ByteArray) (w : World) (h : RFiles w A n D.files) (hnc : n ≤ c) (hn : n ≤ 1048000) (hs : D.steps < 4611686018427387904) (ha : -1 ≤ D.armed) (ha2 : D.armed ≤ 9223372036854775807) :
    Calls Try.prog 84 #[refV D A n c, .string s] w (RefPair w (D.remove s.data.toList).1 (D.remove s.data.toList).2) := by
  have Hf := Lib.hid (fun w1 (hb : Below w.heap.size w w1) => reffind_calls D A n c s w1 (h.below hb) (by omega))
  have Hst := Lib.hid (fun w1 => refstep_calls D A n c w1 hs ha ha2)
  have H := Lib.hid h
  have hl := Lib.hid h.1
  unfold refV at Hf Hst
  unfold refV
  cases hd : D.down
  · rw [hd] at Hf Hst
    cases hfd : Dsk.find D.files s.data.toList with
    | none =>
      rw [show D.remove s.data.toList = (D, 31) by unfold Dsk.remove; rw [hd, hfd]; rfl]
      rw [place_none hfd] at Hf
      clear h hfd
      go_enter Try.func84, Try.ntmps84
      go_wp2_with (go_at_call 126; refine (Hf.out _ (al2 w _ _)).mono ?_; rintro e w2 ⟨rfl, rfl⟩)
      exact bodyPost_ret (v := .tuple #[.agg #[.int .i64 D.room, .slice A n c, .bool false, .int .i64 D.armed, .int .u64 D.steps], .int .i64 31]) (by simp [results, Try.results84, go_sem]) rfl ⟨A, n, c, by first | rfl | (unfold refV; rw [hd]), keep2 H.out hnc (al3 w _ _ _)⟩
    | some f =>
      obtain ⟨i, hi, hp, hfi⟩ := place_some hfd
      rw [hp] at Hf
      cases hst2 : D.step.2 == 0
      · rw [show D.remove s.data.toList = D.step by unfold Dsk.remove; rw [hd, hfd]; simp at hst2; simp [hst2]]
        have h50 := Lib.hid (step_code D hst2)
        clear h hfd hfi hp
        go_enter Try.func84, Try.ntmps84
        go_wp2_with (first
          | (go_at_call 126; refine (Hf.out _ (al2 w _ _)).mono ?_; rintro e w2 ⟨rfl, rfl⟩)
          | (go_at_call 127; refine (Hst.out _).mono ?_; rintro e w3 ⟨rfl, rfl⟩))
        exact bodyPost_ret (v := .tuple #[.agg #[.int .i64 D.step.1.room, .slice A n c, .bool D.step.1.down, .int .i64 D.step.1.armed, .int .u64 D.step.1.steps], .int .i64 50]) (by simp [results, Try.results84, go_sem]) rfl ⟨A, n, c, by unfold refV; rw [h50.out], by rw [step_files]; exact keep2 H.out hnc (al5 w _ _ _ _ _)⟩
      · have h0 : D.step.2 = 0 := by simpa using hst2
        rw [show D.remove s.data.toList = ({ D.step.1 with files := Dsk.del D.step.1.files s.data.toList }, 0) by unfold Dsk.remove; rw [hd, hfd]; simp [h0]]
        clear h hfd h0 hfi hp
        go_enter Try.func84, Try.ntmps84
        go_upto_region 8 with (first
          | (go_at_call 126; refine (Hf.out _ (al2 w _ _)).mono ?_; rintro e w2 ⟨rfl, rfl⟩)
          | (go_at_call 127; refine (Hst.out _).mono ?_; rintro e w3 ⟨rfl, hw3⟩; have hb3 : Below w.heap.size w w3 := (by rw [hw3]; exact al5 w _ _ _ _ _); have hx3 : w3.heap[w.heap.size]? = some (.cells #[.int .i64 D.room, .slice A n c, .bool false, .int .i64 D.armed, .int .u64 D.steps] 45 (0, 0)) := (by rw [hw3]; exact blk_alloc (blk_alloc (blk_alloc (blk_alloc (blk_new w _) _) _) _) _); have hr3 : w3.heap[w.heap.size + 1]? = some (.cells #[.int .i64 0, .slice none 0 0, .bool false, .int .i64 0, .int .u64 0] 45 (0, 0)) := (by rw [hw3]; exact blk_alloc (blk_alloc (blk_alloc (blk_new1 w _ _) _) _) _); clear hw3; have b0 := blk_cell hx3 0; have b1 := blk_cell hx3 1; have b2 := blk_cell hx3 2; have b3 := blk_cell hx3 3; have b4 := blk_cell hx3 4; have g0 := blk_frozen hx3 0; have g1 := blk_frozen hx3 1; have g2 := blk_frozen hx3 2; have g3 := blk_frozen hx3 3; have g4 := blk_frozen hx3 4))
        obtain ⟨w4, hw4, hx4, hE4, hRF4⟩ := res_done (by rfl) hx3 (.int .i64 D.step.1.room) (.slice A n c) (.bool D.step.1.down) (.int .i64 D.step.1.armed) (.int .u64 D.step.1.steps) (fun j x => by rcases j with _ | _ | _ | _ | _ | j <;> simp)
        rw [← hw4]
        have hf4 : RFiles w4 A n D.files := hRF4 _ _ _ (H.out.below hb3)
        have hr4 := hE4.obj hr3 (by simp)
        have hlt := blk_lt hr3
        have hb4 : Below w.heap.size w w4 := hb3.trans (hE4.below (by omega) (fun q hq => by rw [List.mem_singleton.1 hq]; exact Nat.le_refl _))
        have Hf4 := Lib.hid hf4
        have Hx4 := Lib.hid hx4
        have Hr4 := Lib.hid hr4
        have Hb4 := Lib.hid hb4
        clear hw4 hE4 hRF4 hb3 hx3 hr3 b0 b1 b2 b3 b4 g0 g1 g2 g3 g4 hf4 hr4 hb4
        have b0 := blk_cell hx4 0
        have b1 := blk_cell hx4 1
        have b2 := blk_cell hx4 2
        have b3 := blk_cell hx4 3
        have b4 := blk_cell hx4 4
        clear hx4
        have hwc := refwithout_calls D.step.1 A n c s w4 (by rw [step_files]; exact Hf4.out) (by omega)
        unfold refV at hwc
        have Hwc := Lib.hid hwc
        clear hwc
        go_wp2_with (go_at_call 129; refine Hwc.out.mono ?_; rintro e w6 ⟨A6, n6, c6, rfl, hf6, hc6, hb6, _⟩; unfold refV; have hr6 := (hb6.block (w.heap.size + 1) (blk_lt Hr4.out)).trans Hr4.out; have r0 := blk_cell hr6 0; have r1 := blk_cell hr6 1; have r2 := blk_cell hr6 2; have r3 := blk_cell hr6 3; have r4 := blk_cell hr6 4; have g0 := blk_frozen hr6 0; have g1 := blk_frozen hr6 1; have g2 := blk_frozen hr6 2; have g3 := blk_frozen hr6 3; have g4 := blk_frozen hr6 4)
        obtain ⟨w7, hw7, hx7, hE7, hRF7⟩ := res_done (by rfl) hr6 (.int .i64 D.step.1.room) (.slice A6 n6 c6) (.bool D.step.1.down) (.int .i64 D.step.1.armed) (.int .u64 D.step.1.steps) (fun j x => by rcases j with _ | _ | _ | _ | _ | j <;> simp)
        rw [← hw7]
        have x0 := blk_cell hx7 0
        have x1 := blk_cell hx7 1
        have x2 := blk_cell hx7 2
        have x3 := blk_cell hx7 3
        have x4 := blk_cell hx7 4
        have hb64 : Below w.heap.size w w6 := Hb4.out.trans (hb6.mono (by have := Hb4.out.size; omega))
        have hb7 : Below w.heap.size w w7 := hb64.trans (hE7.below (by have := hb64.size; omega) (fun q hq => by rw [List.mem_singleton.1 hq]; omega))
        exact bodyPost_ret (v := .tuple #[.agg #[.int .i64 D.step.1.room, .slice A6 n6 c6, .bool D.step.1.down, .int .i64 D.step.1.armed, .int .u64 D.step.1.steps], .int .i64 0]) (by simp [results, Try.results84, go_sem, x0, x1, x2, x3, x4]) rfl ⟨A6, n6, c6, rfl, hRF7 _ _ _ hf6, hc6, hb7⟩
  · rw [show D.remove s.data.toList = (D, 50) by unfold Dsk.remove; rw [hd]; rfl]
    clear h
    go_enter Try.func84, Try.ntmps84
    go_wp2
    exact bodyPost_ret (v := .tuple #[.agg #[.int .i64 D.room, .slice A n c, .bool true, .int .i64 D.armed, .int .u64 D.steps], .int .i64 50]) (by simp [results, Try.results84, go_sem]) rfl ⟨A, n, c, by first | rfl | (unfold refV; rw [hd]), keep2 H.out hnc (al2 w _ _)⟩
end Go.Proofs.Ytcfgdlpdnpnhmaa
set_option linter.unusedVariables false
set_option linter.unusedSimpArgs false
namespace Go.Proofs.Ytcfgdlpdnpnhmaa
open Go.RowKit Go.Maps

theorem run_str_cut (al : ByteArray) (kn : Nat) (h : kn ≤ al.size) (W : World) : (Instr.slice 9 (.string al) none (some (.int .i64 (kn : Int))) none).run Try.prog W = .ok (.string (al.extract 0 kn)) W := by
  simp [Instr.slice, run_underlying Try.underlying9, Instr.sliceBounds, Instr.sliceBound, Result.andThen, asIntOf, h]
theorem enc_take {l : Bs} {al : ByteArray} (h : encStr l = .string al) (kn : Nat) : encStr (l.take kn) = .string (al.extract 0 kn) := by
  injection h with h
  subst h
  show Value.string _ = _
  congr 1
  apply ByteArray.ext
  apply Array.toList_inj.1
  rw [Lib.extract_data]
  simp

set_option maxRecDepth 100000 in
set_option maxHeartbeats 2000000 in
theorem refcut_calls (D : Dsk) (A : Option Addr) (n c : Nat) (s : ByteArray) (k : Int) (w : World) (h : RFiles w A n D.files) (hnc : n ≤ c) (hn : n ≤ 1048000) (hs : D.steps < 4611686018427387904) (ha : -1 ≤ D.armed) (ha2 : D.armed ≤ 9223372036854775807) (hlen : ∀ f ∈ D.files, f.all.length ≤ 1048576) :
    Calls Try.prog 83 #[refV D A n c, .string s, .int .i64 k] w (RefPair w (D.cut s.data.toList k).1 (D.cut s.data.toList k).2) := by
  have Hf := Lib.hid (fun w1 (hb : Below w.heap.size w w1) => reffind_calls D A n c s w1 (h.below hb) (by omega))
  have Hst := Lib.hid (fun w1 => refstep_calls D A n c w1 hs ha ha2)
  have H := Lib.hid h
  have hl := Lib.hid h.1
  unfold refV at Hf Hst
  unfold refV
  cases hd : D.down
  · rw [hd] at Hf Hst
    cases hfd : Dsk.find D.files s.data.toList with
    | none =>
      rw [show D.cut s.data.toList k = (D, 31) by unfold Dsk.cut; rw [hd, hfd]; rfl]
      rw [place_none hfd] at Hf
      clear h hfd
      go_enter Try.func83, Try.ntmps83
      go_wp2_with (go_at_call 126; refine (Hf.out _ (al2 w _ _)).mono ?_; rintro e w2 ⟨rfl, rfl⟩)
      exact bodyPost_ret (v := .tuple #[.agg #[.int .i64 D.room, .slice A n c, .bool false, .int .i64 D.armed, .int .u64 D.steps], .int .i64 31]) (by simp [results, Try.results83, go_sem]) rfl ⟨A, n, c, by first | rfl | (unfold refV; rw [hd]), keep2 H.out hnc (al3 w _ _ _)⟩
    | some f =>
      obtain ⟨i, hi, hp, hfi⟩ := place_some hfd
      rw [hp] at Hf
      have hfn : f.name = s.data.toList := (mem_find hfd).2
      have hfl : f.all.length ≤ 1048576 := hlen f (mem_find hfd).1
      have hii : i < n := by have := h.1; omega
      have Hfi := Lib.hid hfi
      have Hfn := Lib.hid hfn
      have Hfd := Lib.hid hfd
      clear h hfd hfi hp hfn hlen
      by_cases hk0 : k < 0
      · rw [show D.cut s.data.toList k = (D, 2) by unfold Dsk.cut; rw [hd, Hfd.out]; simp [hk0]]
        have g0 : decide (k < 0) = true := decide_eq_true hk0
        clear hk0
        go_enter Try.func83, Try.ntmps83
        go_upto_region 6 with (go_at_call 126; refine (Hf.out _ (al2 w _ _)).mono ?_; rintro e w2 ⟨rfl, hw2⟩; have hb2 : Below w.heap.size w w2 := (by rw [hw2]; exact al3 w _ _ _); have hx2 : w2.heap[w.heap.size]? = some (.cells #[.int .i64 D.room, .slice A n c, .bool false, .int .i64 D.armed, .int .u64 D.steps] 45 (0, 0)) := (by rw [hw2]; exact blk_alloc (blk_alloc (blk_new w _) _) _); have hr2 : w2.heap[w.heap.size + 1]? = some (.cells #[.int .i64 0, .slice none 0 0, .bool false, .int .i64 0, .int .u64 0] 45 (0, 0)) := (by rw [hw2]; exact blk_alloc (blk_new1 w _ _) _); clear hw2; have b1 := blk_cell hx2 1; have b2 := blk_cell hx2 2)
        obtain ⟨ad, b, o, nm, al, hA, had, q0, q1, q2, e0, e1, z0, z1, en, ea⟩ := (H.out.below hb2).at2 hi
        rw [Hfi.out] at q2 en ea z1 e1
        have hix := fun W => run_file_index ad n c i hii W
        simp only [had] at hix
        rw [← hA] at hix
        have Hen := Lib.hid en
        have Hea := Lib.hid ea
        have Hz1 := Lib.hid z1
        have He1 := Lib.hid e1
        have hal : al.size ≤ 1048576 := by omega
        clear Hfd
        clear had hA e0 e1 z0 z1 en ea
        go_upto_region 7 with fail
        obtain ⟨w3, hw3⟩ : ∃ w3, w3 = w2.alloc (.cells #[.string nm, .string al, .int .i64 f.kept] 60) := ⟨_, rfl⟩
        rw [← hw3]
        have hb23 : Below w2.heap.size w2 w3 := by rw [hw3]; exact al1 _ _
        have hb3 : Below w.heap.size w w3 := hb2.trans (hb23.mono hb2.size)
        have hx3 := (hb23.block _ (blk_lt hx2)).trans hx2
        have hr3 := (hb23.block _ (blk_lt hr2)).trans hr2
        have hy3 : w3.heap[w2.heap.size]? = some (.cells #[.string nm, .string al, .int .i64 f.kept] 60 (0, 0)) := by rw [hw3]; exact blk_new w2 _
        have hyl : w.heap.size + 2 ≤ w2.heap.size := by have := blk_lt hr2; omega
        have Hb3 := Lib.hid hb3
        have Hx3 := Lib.hid hx3
        have Hr3 := Lib.hid hr3
        have Hy3 := Lib.hid hy3
        clear hw3 hb23 b1 b2 hb2 hx2 hr2 q0 q1 q2 hix hb3
        have b0 := blk_cell hx3 0
        have b1 := blk_cell hx3 1
        have b2 := blk_cell hx3 2
        have b3 := blk_cell hx3 3
        have b4 := blk_cell hx3 4
        have r0 := blk_cell hr3 0
        have r1 := blk_cell hr3 1
        have r2 := blk_cell hr3 2
        have r3 := blk_cell hr3 3
        have r4 := blk_cell hr3 4
        have v0 := blk_frozen hr3 0
        have v1 := blk_frozen hr3 1
        have v2 := blk_frozen hr3 2
        have v3 := blk_frozen hr3 3
        have v4 := blk_frozen hr3 4
        have y0 := blk_cell hy3 0
        have y1 := blk_cell hy3 1
        have y2 := blk_cell hy3 2
        clear hx3 hr3 hy3
        go_wp2
        obtain ⟨w7, hw7, hx7, hE7, hRF7⟩ := res_done (by rfl) Hr3.out (.int .i64 D.room) (.slice A n c) (.bool false) (.int .i64 D.armed) (.int .u64 D.steps) (fun j x => by rcases j with _ | _ | _ | _ | _ | j <;> simp)
        rw [← hw7]
        have x0 := blk_cell hx7 0
        have x1 := blk_cell hx7 1
        have x2 := blk_cell hx7 2
        have x3 := blk_cell hx7 3
        have x4 := blk_cell hx7 4
        have hb64 : Below w.heap.size w w3 := Hb3.out
        have hb7 : Below w.heap.size w w7 := hb64.trans (hE7.below (by have := hb64.size; omega) (fun q hq => by rw [List.mem_singleton.1 hq]; omega))
        exact bodyPost_ret (v := .tuple #[.agg #[.int .i64 D.room, .slice A n c, .bool false, .int .i64 D.armed, .int .u64 D.steps], .int .i64 2]) (by simp [results, Try.results83, go_sem, x0, x1, x2, x3, x4]) rfl ⟨A, n, c, (by first | rfl | (unfold refV; rw [hd])), (by first | exact hRF7 _ _ _ (H.out.below Hb3.out) | exact hRF7 _ _ _ (by rw [step_files]; exact H.out.below Hb3.out)), hnc, hb7⟩
      · have g0 : decide (k < 0) = false := decide_eq_false hk0
        by_cases hk1 : (f.all.length : Int) < k
        · rw [show D.cut s.data.toList k = (D, 2) by unfold Dsk.cut; rw [hd, Hfd.out]; simp [hk1]]
          go_enter Try.func83, Try.ntmps83
          go_upto_region 6 with (go_at_call 126; refine (Hf.out _ (al2 w _ _)).mono ?_; rintro e w2 ⟨rfl, hw2⟩; have hb2 : Below w.heap.size w w2 := (by rw [hw2]; exact al3 w _ _ _); have hx2 : w2.heap[w.heap.size]? = some (.cells #[.int .i64 D.room, .slice A n c, .bool false, .int .i64 D.armed, .int .u64 D.steps] 45 (0, 0)) := (by rw [hw2]; exact blk_alloc (blk_alloc (blk_new w _) _) _); have hr2 : w2.heap[w.heap.size + 1]? = some (.cells #[.int .i64 0, .slice none 0 0, .bool false, .int .i64 0, .int .u64 0] 45 (0, 0)) := (by rw [hw2]; exact blk_alloc (blk_new1 w _ _) _); clear hw2; have b1 := blk_cell hx2 1; have b2 := blk_cell hx2 2)
          obtain ⟨ad, b, o, nm, al, hA, had, q0, q1, q2, e0, e1, z0, z1, en, ea⟩ := (H.out.below hb2).at2 hi
          rw [Hfi.out] at q2 en ea z1 e1
          have hix := fun W => run_file_index ad n c i hii W
          simp only [had] at hix
          rw [← hA] at hix
          have Hen := Lib.hid en
          have Hea := Lib.hid ea
          have Hz1 := Lib.hid z1
          have He1 := Lib.hid e1
          have hal : al.size ≤ 1048576 := by omega
          have gbig : decide ((al.size : Int) < k) = true := decide_eq_true (by omega)
          clear had hA e0 e1 z0 z1 en ea
          go_upto_region 7 with fail
          obtain ⟨w3, hw3⟩ : ∃ w3, w3 = w2.alloc (.cells #[.string nm, .string al, .int .i64 f.kept] 60) := ⟨_, rfl⟩
          rw [← hw3]
          have hb23 : Below w2.heap.size w2 w3 := by rw [hw3]; exact al1 _ _
          have hb3 : Below w.heap.size w w3 := hb2.trans (hb23.mono hb2.size)
          have hx3 := (hb23.block _ (blk_lt hx2)).trans hx2
          have hr3 := (hb23.block _ (blk_lt hr2)).trans hr2
          have hy3 : w3.heap[w2.heap.size]? = some (.cells #[.string nm, .string al, .int .i64 f.kept] 60 (0, 0)) := by rw [hw3]; exact blk_new w2 _
          have hyl : w.heap.size + 2 ≤ w2.heap.size := by have := blk_lt hr2; omega
          have Hb3 := Lib.hid hb3
          have Hx3 := Lib.hid hx3
          have Hr3 := Lib.hid hr3
          have Hy3 := Lib.hid hy3
          clear hw3 hb23 b1 b2 hb2 hx2 hr2 q0 q1 q2 hix hb3
          have b0 := blk_cell hx3 0
          have b1 := blk_cell hx3 1
          have b2 := blk_cell hx3 2
          have b3 := blk_cell hx3 3
          have b4 := blk_cell hx3 4
          have r0 := blk_cell hr3 0
          have r1 := blk_cell hr3 1
          have r2 := blk_cell hr3 2
          have r3 := blk_cell hr3 3
          have r4 := blk_cell hr3 4
          have v0 := blk_frozen hr3 0
          have v1 := blk_frozen hr3 1
          have v2 := blk_frozen hr3 2
          have v3 := blk_frozen hr3 3
          have v4 := blk_frozen hr3 4
          have y0 := blk_cell hy3 0
          have y1 := blk_cell hy3 1
          have y2 := blk_cell hy3 2
          clear hx3 hr3 hy3
          go_wp2
          obtain ⟨w7, hw7, hx7, hE7, hRF7⟩ := res_done (by rfl) Hr3.out (.int .i64 D.room) (.slice A n c) (.bool false) (.int .i64 D.armed) (.int .u64 D.steps) (fun j x => by rcases j with _ | _ | _ | _ | _ | j <;> simp)
          rw [← hw7]
          have x0 := blk_cell hx7 0
          have x1 := blk_cell hx7 1
          have x2 := blk_cell hx7 2
          have x3 := blk_cell hx7 3
          have x4 := blk_cell hx7 4
          have hb64 : Below w.heap.size w w3 := Hb3.out
          have hb7 : Below w.heap.size w w7 := hb64.trans (hE7.below (by have := hb64.size; omega) (fun q hq => by rw [List.mem_singleton.1 hq]; omega))
          exact bodyPost_ret (v := .tuple #[.agg #[.int .i64 D.room, .slice A n c, .bool false, .int .i64 D.armed, .int .u64 D.steps], .int .i64 2]) (by simp [results, Try.results83, go_sem, x0, x1, x2, x3, x4]) rfl ⟨A, n, c, (by first | rfl | (unfold refV; rw [hd])), (by first | exact hRF7 _ _ _ (H.out.below Hb3.out) | exact hRF7 _ _ _ (by rw [step_files]; exact H.out.below Hb3.out)), hnc, hb7⟩
        · cases hst2 : D.step.2 == 0
          · rw [show D.cut s.data.toList k = D.step by unfold Dsk.cut; rw [hd, Hfd.out]; simp at hst2; simp [hk0, hk1, hst2]]
            have h50 := Lib.hid (step_code D hst2)
            go_enter Try.func83, Try.ntmps83
            go_upto_region 6 with (go_at_call 126; refine (Hf.out _ (al2 w _ _)).mono ?_; rintro e w2 ⟨rfl, hw2⟩; have hb2 : Below w.heap.size w w2 := (by rw [hw2]; exact al3 w _ _ _); have hx2 : w2.heap[w.heap.size]? = some (.cells #[.int .i64 D.room, .slice A n c, .bool false, .int .i64 D.armed, .int .u64 D.steps] 45 (0, 0)) := (by rw [hw2]; exact blk_alloc (blk_alloc (blk_new w _) _) _); have hr2 : w2.heap[w.heap.size + 1]? = some (.cells #[.int .i64 0, .slice none 0 0, .bool false, .int .i64 0, .int .u64 0] 45 (0, 0)) := (by rw [hw2]; exact blk_alloc (blk_new1 w _ _) _); clear hw2; have b1 := blk_cell hx2 1; have b2 := blk_cell hx2 2)
            obtain ⟨ad, b, o, nm, al, hA, had, q0, q1, q2, e0, e1, z0, z1, en, ea⟩ := (H.out.below hb2).at2 hi
            rw [Hfi.out] at q2 en ea z1 e1
            have hix := fun W => run_file_index ad n c i hii W
            simp only [had] at hix
            rw [← hA] at hix
            have Hen := Lib.hid en
            have Hea := Lib.hid ea
            have Hz1 := Lib.hid z1
            have He1 := Lib.hid e1
            have hal : al.size ≤ 1048576 := by omega
            have gbig : decide ((al.size : Int) < k) = false := decide_eq_false (by omega)
            clear had hA e0 e1 z0 z1 en ea
            go_upto_region 7 with fail
            obtain ⟨w3, hw3⟩ : ∃ w3, w3 = w2.alloc (.cells #[.string nm, .string al, .int .i64 f.kept] 60) := ⟨_, rfl⟩
            rw [← hw3]
            have hb23 : Below w2.heap.size w2 w3 := by rw [hw3]; exact al1 _ _
            have hb3 : Below w.heap.size w w3 := hb2.trans (hb23.mono hb2.size)
            have hx3 := (hb23.block _ (blk_lt hx2)).trans hx2
            have hr3 := (hb23.block _ (blk_lt hr2)).trans hr2
            have hy3 : w3.heap[w2.heap.size]? = some (.cells #[.string nm, .string al, .int .i64 f.kept] 60 (0, 0)) := by rw [hw3]; exact blk_new w2 _
            have hyl : w.heap.size + 2 ≤ w2.heap.size := by have := blk_lt hr2; omega
            have Hb3 := Lib.hid hb3
            have Hx3 := Lib.hid hx3
            have Hr3 := Lib.hid hr3
            have Hy3 := Lib.hid hy3
            clear hw3 hb23 b1 b2 hb2 hx2 hr2 q0 q1 q2 hix hb3
            have b0 := blk_cell hx3 0
            have b1 := blk_cell hx3 1
            have b2 := blk_cell hx3 2
            have b3 := blk_cell hx3 3
            have b4 := blk_cell hx3 4
            have r0 := blk_cell hr3 0
            have r1 := blk_cell hr3 1
            have r2 := blk_cell hr3 2
            have r3 := blk_cell hr3 3
            have r4 := blk_cell hr3 4
            have v0 := blk_frozen hr3 0
            have v1 := blk_frozen hr3 1
            have v2 := blk_frozen hr3 2
            have v3 := blk_frozen hr3 3
            have v4 := blk_frozen hr3 4
            have y0 := blk_cell hy3 0
            have y1 := blk_cell hy3 1
            have y2 := blk_cell hy3 2
            clear hx3 hr3 hy3
            go_upto_region 11 with (go_at_call 127; refine (Hst.out _).mono ?_; rintro e w4 ⟨rfl, hw4⟩; have hb34 : Below w3.heap.size w3 w4 := (by rw [hw4]; exact al2 w3 _ _); clear hw4; have hx4 := (hb34.block _ (blk_lt Hx3.out)).trans Hx3.out; have b0 := blk_cell hx4 0; have b1 := blk_cell hx4 1; have b2 := blk_cell hx4 2; have b3 := blk_cell hx4 3; have b4 := blk_cell hx4 4; have g0 := blk_frozen hx4 0; have g1 := blk_frozen hx4 1; have g2 := blk_frozen hx4 2; have g3 := blk_frozen hx4 3; have g4 := blk_frozen hx4 4)
            have hr4 := (hb34.block _ (blk_lt Hr3.out)).trans Hr3.out
            have hy4 := (hb34.block _ (blk_lt Hy3.out)).trans Hy3.out
            obtain ⟨w5, hw5, hx5, hE5, hRF5⟩ := res_done (by rfl) hx4 (.int .i64 D.step.1.room) (.slice A n c) (.bool D.step.1.down) (.int .i64 D.step.1.armed) (.int .u64 D.step.1.steps) (fun j x => by rcases j with _ | _ | _ | _ | _ | j <;> simp)
            rw [← hw5]
            have hb4 : Below w.heap.size w w4 := Hb3.out.trans (hb34.mono Hb3.out.size)
            have hf5 : RFiles w5 A n D.files := hRF5 _ _ _ (H.out.below hb4)
            have hr5 := hE5.obj hr4 (by simp)
            have hy5 := hE5.obj hy4 (by simp; omega)
            have hlt := blk_lt hr4
            have hb5 : Below w.heap.size w w5 := hb4.trans (hE5.below (by omega) (fun q hq => by rw [List.mem_singleton.1 hq]; exact Nat.le_refl _))
            have Hf5 := Lib.hid hf5
            have Hr5 := Lib.hid hr5
            have Hy5 := Lib.hid hy5
            have Hx5 := Lib.hid hx5
            have Hb5 := Lib.hid hb5
            clear hw5 hE5 hRF5 hb34 hx4 hr4 hy4 b0 b1 b2 b3 b4 g0 g1 g2 g3 g4 r0 r1 r2 r3 r4 v0 v1 v2 v3 v4 y0 y1 y2 hf5 hb4 hb5
            have b0 := blk_cell hx5 0
            have b1 := blk_cell hx5 1
            have b2 := blk_cell hx5 2
            have b3 := blk_cell hx5 3
            have b4 := blk_cell hx5 4
            have r0 := blk_cell hr5 0
            have r1 := blk_cell hr5 1
            have r2 := blk_cell hr5 2
            have r3 := blk_cell hr5 3
            have r4 := blk_cell hr5 4
            have v0 := blk_frozen hr5 0
            have v1 := blk_frozen hr5 1
            have v2 := blk_frozen hr5 2
            have v3 := blk_frozen hr5 3
            have v4 := blk_frozen hr5 4
            clear hx5 hr5 hy5
            go_wp2
            obtain ⟨w7, hw7, hx7, hE7, hRF7⟩ := res_done (by rfl) Hr5.out (.int .i64 D.step.1.room) (.slice A n c) (.bool D.step.1.down) (.int .i64 D.step.1.armed) (.int .u64 D.step.1.steps) (fun j x => by rcases j with _ | _ | _ | _ | _ | j <;> simp)
            rw [← hw7]
            have x0 := blk_cell hx7 0
            have x1 := blk_cell hx7 1
            have x2 := blk_cell hx7 2
            have x3 := blk_cell hx7 3
            have x4 := blk_cell hx7 4
            have hb64 : Below w.heap.size w w5 := Hb5.out
            have hb7 : Below w.heap.size w w7 := hb64.trans (hE7.below (by have := hb64.size; omega) (fun q hq => by rw [List.mem_singleton.1 hq]; omega))
            exact bodyPost_ret (v := .tuple #[.agg #[.int .i64 D.step.1.room, .slice A n c, .bool D.step.1.down, .int .i64 D.step.1.armed, .int .u64 D.step.1.steps], .int .i64 50]) (by simp [results, Try.results83, go_sem, x0, x1, x2, x3, x4]) rfl ⟨A, n, c, (by unfold refV; rw [h50.out]), (by first | exact hRF7 _ _ _ (Hf5.out) | exact hRF7 _ _ _ (by rw [step_files]; exact Hf5.out)), hnc, hb7⟩
          · have h0 : D.step.2 = 0 := by simpa using hst2
            obtain ⟨kn, rfl⟩ : ∃ kn : Nat, k = kn := ⟨k.toNat, by omega⟩
            rw [show D.cut s.data.toList (kn : Int) = ({ D.step.1 with files := Dsk.put D.step.1.files ⟨s.data.toList, f.all.take kn, min f.kept kn⟩ }, 0) by unfold Dsk.cut; rw [hd, Hfd.out]; simp [hk1, h0]]
            go_enter Try.func83, Try.ntmps83
            go_upto_region 6 with (go_at_call 126; refine (Hf.out _ (al2 w _ _)).mono ?_; rintro e w2 ⟨rfl, hw2⟩; have hb2 : Below w.heap.size w w2 := (by rw [hw2]; exact al3 w _ _ _); have hx2 : w2.heap[w.heap.size]? = some (.cells #[.int .i64 D.room, .slice A n c, .bool false, .int .i64 D.armed, .int .u64 D.steps] 45 (0, 0)) := (by rw [hw2]; exact blk_alloc (blk_alloc (blk_new w _) _) _); have hr2 : w2.heap[w.heap.size + 1]? = some (.cells #[.int .i64 0, .slice none 0 0, .bool false, .int .i64 0, .int .u64 0] 45 (0, 0)) := (by rw [hw2]; exact blk_alloc (blk_new1 w _ _) _); clear hw2; have b1 := blk_cell hx2 1; have b2 := blk_cell hx2 2)
            obtain ⟨ad, b, o, nm, al, hA, had, q0, q1, q2, e0, e1, z0, z1, en, ea⟩ := (H.out.below hb2).at2 hi
            rw [Hfi.out] at q2 en ea z1 e1
            have hix := fun W => run_file_index ad n c i hii W
            simp only [had] at hix
            rw [← hA] at hix
            have Hen := Lib.hid en
            have Hea := Lib.hid ea
            have Hz1 := Lib.hid z1
            have He1 := Lib.hid e1
            have hal : al.size ≤ 1048576 := by omega
            have gbig : decide (al.size < kn) = false := decide_eq_false (by omega)
            have hsc := run_str_cut al kn (by omega)
            clear had hA e0 e1 z0 z1 en ea
            go_upto_region 7 with fail
            obtain ⟨w3, hw3⟩ : ∃ w3, w3 = w2.alloc (.cells #[.string nm, .string al, .int .i64 f.kept] 60) := ⟨_, rfl⟩
            rw [← hw3]
            have hb23 : Below w2.heap.size w2 w3 := by rw [hw3]; exact al1 _ _
            have hb3 : Below w.heap.size w w3 := hb2.trans (hb23.mono hb2.size)
            have hx3 := (hb23.block _ (blk_lt hx2)).trans hx2
            have hr3 := (hb23.block _ (blk_lt hr2)).trans hr2
            have hy3 : w3.heap[w2.heap.size]? = some (.cells #[.string nm, .string al, .int .i64 f.kept] 60 (0, 0)) := by rw [hw3]; exact blk_new w2 _
            have hyl : w.heap.size + 2 ≤ w2.heap.size := by have := blk_lt hr2; omega
            have Hb3 := Lib.hid hb3
            have Hx3 := Lib.hid hx3
            have Hr3 := Lib.hid hr3
            have Hy3 := Lib.hid hy3
            clear hw3 hb23 b1 b2 hb2 hx2 hr2 q0 q1 q2 hix hb3
            have b0 := blk_cell hx3 0
            have b1 := blk_cell hx3 1
            have b2 := blk_cell hx3 2
            have b3 := blk_cell hx3 3
            have b4 := blk_cell hx3 4
            have r0 := blk_cell hr3 0
            have r1 := blk_cell hr3 1
            have r2 := blk_cell hr3 2
            have r3 := blk_cell hr3 3
            have r4 := blk_cell hr3 4
            have v0 := blk_frozen hr3 0
            have v1 := blk_frozen hr3 1
            have v2 := blk_frozen hr3 2
            have v3 := blk_frozen hr3 3
            have v4 := blk_frozen hr3 4
            have y0 := blk_cell hy3 0
            have y1 := blk_cell hy3 1
            have y2 := blk_cell hy3 2
            clear hx3 hr3 hy3
            go_upto_region 12 with (go_at_call 127; refine (Hst.out _).mono ?_; rintro e w4 ⟨rfl, hw4⟩; have hb34 : Below w3.heap.size w3 w4 := (by rw [hw4]; exact al2 w3 _ _); clear hw4; have hx4 := (hb34.block _ (blk_lt Hx3.out)).trans Hx3.out; have b0 := blk_cell hx4 0; have b1 := blk_cell hx4 1; have b2 := blk_cell hx4 2; have b3 := blk_cell hx4 3; have b4 := blk_cell hx4 4; have g0 := blk_frozen hx4 0; have g1 := blk_frozen hx4 1; have g2 := blk_frozen hx4 2; have g3 := blk_frozen hx4 3; have g4 := blk_frozen hx4 4)
            have hr4 := (hb34.block _ (blk_lt Hr3.out)).trans Hr3.out
            have hy4 := (hb34.block _ (blk_lt Hy3.out)).trans Hy3.out
            obtain ⟨w5, hw5, hx5, hE5, hRF5⟩ := res_done (by rfl) hx4 (.int .i64 D.step.1.room) (.slice A n c) (.bool D.step.1.down) (.int .i64 D.step.1.armed) (.int .u64 D.step.1.steps) (fun j x => by rcases j with _ | _ | _ | _ | _ | j <;> simp)
            rw [← hw5]
            have hb4 : Below w.heap.size w w4 := Hb3.out.trans (hb34.mono Hb3.out.size)
            have hf5 : RFiles w5 A n D.files := hRF5 _ _ _ (H.out.below hb4)
            have hr5 := hE5.obj hr4 (by simp)
            have hy5 := hE5.obj hy4 (by simp; omega)
            have hlt := blk_lt hr4
            have hb5 : Below w.heap.size w w5 := hb4.trans (hE5.below (by omega) (fun q hq => by rw [List.mem_singleton.1 hq]; exact Nat.le_refl _))
            have Hf5 := Lib.hid hf5
            have Hr5 := Lib.hid hr5
            have Hy5 := Lib.hid hy5
            have Hx5 := Lib.hid hx5
            have Hb5 := Lib.hid hb5
            clear hw5 hE5 hRF5 hb34 hx4 hr4 hy4 b0 b1 b2 b3 b4 g0 g1 g2 g3 g4 r0 r1 r2 r3 r4 v0 v1 v2 v3 v4 y0 y1 y2 hf5 hb4 hb5
            have b0 := blk_cell hx5 0
            have b1 := blk_cell hx5 1
            have b2 := blk_cell hx5 2
            have b3 := blk_cell hx5 3
            have b4 := blk_cell hx5 4
            have y0 := blk_cell hy5 0
            have y1 := blk_cell hy5 1
            have y2 := blk_cell hy5 2
            have u0 := blk_frozen hy5 0
            have u1 := blk_frozen hy5 1
            have u2 := blk_frozen hy5 2
            clear hx5 hr5 hy5
            by_cases hk2 : kn < f.kept
            · have gk : decide (kn < f.kept) = true := decide_eq_true hk2
              have hmin := Lib.hid (show min f.kept kn = kn by omega)
              clear hk2
              go_upto_region 15 with fail
              obtain ⟨w6, hw6⟩ : ∃ w6, w6 = (w5.setCell ⟨w2.heap.size, 1, none⟩ (.string (al.extract 0 kn))).setCell ⟨w2.heap.size, 2, none⟩ (.int .i64 (kn : Int)) := ⟨_, rfl⟩
              rw [← hw6]
              have hE6 : Ext [w2.heap.size] w5 w6 := by rw [hw6]; exact ((Ext.refl _ _).setCell (Or.inl (by simp)) _).setCell (Or.inl (by simp)) _
              have hy6 : w6.heap[w2.heap.size]? = some (.cells #[.string nm, .string (al.extract 0 kn), .int .i64 (kn : Nat)] 60 (0, 0)) := by rw [hw6]; exact blk_set (blk_set Hy5.out 1 _) 2 _
              have hx6 := hE6.obj Hx5.out (by simp; omega)
              have hr6' := Lib.hid (hE6.obj Hr5.out (by simp; omega))
              have hb6' : Below w.heap.size w w6 := Hb5.out.trans (hE6.below (by have := Hb5.out.size; omega) (fun q hq => by rw [List.mem_singleton.1 hq]; omega))
              have Hb6' := Lib.hid hb6'
              have hwc := refwith_calls D.step.1 A n c ⟨s.data.toList, f.all.take kn, min f.kept kn⟩ w6 (by rw [step_files]; exact H.out.below hb6') (by omega)
              have e1 : (Value.agg #[encStr s.data.toList, encStr (f.all.take kn), .int .i64 ((min f.kept kn : Nat) : Int)]) = .agg #[.string nm, .string (al.extract 0 kn), .int .i64 (kn : Nat)] := by rw [← Hfn.out, Hen.out, enc_take Hea.out, hmin.out]
              dsimp only at hwc
              rw [e1] at hwc
              unfold refV at hwc
              have Hwc := Lib.hid hwc
              clear hwc e1 hw6 hE6 hb6' b0 b1 b2 b3 b4 y0 y1 y2 u0 u1 u2
              have b0 := blk_cell hx6 0
              have b1 := blk_cell hx6 1
              have b2 := blk_cell hx6 2
              have b3 := blk_cell hx6 3
              have b4 := blk_cell hx6 4
              have y0 := blk_cell hy6 0
              have y1 := blk_cell hy6 1
              have y2 := blk_cell hy6 2
              clear hx6 hy6
              go_wp2_with (go_at_call 128; refine Hwc.out.mono ?_; rintro e w8 ⟨A6, n6, c6, rfl, hf6, hc6, hb8⟩; unfold refV; have hr6 := (hb8.block (w.heap.size + 1) (blk_lt hr6'.out)).trans hr6'.out; have r0 := blk_cell hr6 0; have r1 := blk_cell hr6 1; have r2 := blk_cell hr6 2; have r3 := blk_cell hr6 3; have r4 := blk_cell hr6 4; have g0 := blk_frozen hr6 0; have g1 := blk_frozen hr6 1; have g2 := blk_frozen hr6 2; have g3 := blk_frozen hr6 3; have g4 := blk_frozen hr6 4)
              obtain ⟨w7, hw7, hx7, hE7, hRF7⟩ := res_done (by rfl) hr6 (.int .i64 D.step.1.room) (.slice A6 n6 c6) (.bool D.step.1.down) (.int .i64 D.step.1.armed) (.int .u64 D.step.1.steps) (fun j x => by rcases j with _ | _ | _ | _ | _ | j <;> simp)
              rw [← hw7]
              have x0 := blk_cell hx7 0
              have x1 := blk_cell hx7 1
              have x2 := blk_cell hx7 2
              have x3 := blk_cell hx7 3
              have x4 := blk_cell hx7 4
              have hb64 : Below w.heap.size w w8 := Hb6'.out.trans (hb8.mono Hb6'.out.size)
              have hb7 : Below w.heap.size w w7 := hb64.trans (hE7.below (by have := hb64.size; omega) (fun q hq => by rw [List.mem_singleton.1 hq]; omega))
              exact bodyPost_ret (v := .tuple #[.agg #[.int .i64 D.step.1.room, .slice A6 n6 c6, .bool D.step.1.down, .int .i64 D.step.1.armed, .int .u64 D.step.1.steps], .int .i64 0]) (by simp [results, Try.results83, go_sem, x0, x1, x2, x3, x4]) rfl ⟨A6, n6, c6, rfl, hRF7 _ _ _ hf6, hc6, hb7⟩
            · have gk : decide (kn < f.kept) = false := decide_eq_false hk2
              have hmin := Lib.hid (show min f.kept kn = f.kept by omega)
              clear hk2
              go_upto_region 15 with fail
              obtain ⟨w6, hw6⟩ : ∃ w6, w6 = w5.setCell ⟨w2.heap.size, 1, none⟩ (.string (al.extract 0 kn)) := ⟨_, rfl⟩
              rw [← hw6]
              have hE6 : Ext [w2.heap.size] w5 w6 := by rw [hw6]; exact (Ext.refl _ _).setCell (Or.inl (by simp)) _
              have hy6 : w6.heap[w2.heap.size]? = some (.cells #[.string nm, .string (al.extract 0 kn), .int .i64 (f.kept : Nat)] 60 (0, 0)) := by rw [hw6]; exact blk_set Hy5.out 1 _
              have hx6 := hE6.obj Hx5.out (by simp; omega)
              have hr6' := Lib.hid (hE6.obj Hr5.out (by simp; omega))
              have hb6' : Below w.heap.size w w6 := Hb5.out.trans (hE6.below (by have := Hb5.out.size; omega) (fun q hq => by rw [List.mem_singleton.1 hq]; omega))
              have Hb6' := Lib.hid hb6'
              have hwc := refwith_calls D.step.1 A n c ⟨s.data.toList, f.all.take kn, min f.kept kn⟩ w6 (by rw [step_files]; exact H.out.below hb6') (by omega)
              have e1 : (Value.agg #[encStr s.data.toList, encStr (f.all.take kn), .int .i64 ((min f.kept kn : Nat) : Int)]) = .agg #[.string nm, .string (al.extract 0 kn), .int .i64 (f.kept : Nat)] := by rw [← Hfn.out, Hen.out, enc_take Hea.out, hmin.out]
              dsimp only at hwc
              rw [e1] at hwc
              unfold refV at hwc
              have Hwc := Lib.hid hwc
              clear hwc e1 hw6 hE6 hb6' b0 b1 b2 b3 b4 y0 y1 y2 u0 u1 u2
              have b0 := blk_cell hx6 0
              have b1 := blk_cell hx6 1
              have b2 := blk_cell hx6 2
              have b3 := blk_cell hx6 3
              have b4 := blk_cell hx6 4
              have y0 := blk_cell hy6 0
              have y1 := blk_cell hy6 1
              have y2 := blk_cell hy6 2
              clear hx6 hy6
              go_wp2_with (go_at_call 128; refine Hwc.out.mono ?_; rintro e w8 ⟨A6, n6, c6, rfl, hf6, hc6, hb8⟩; unfold refV; have hr6 := (hb8.block (w.heap.size + 1) (blk_lt hr6'.out)).trans hr6'.out; have r0 := blk_cell hr6 0; have r1 := blk_cell hr6 1; have r2 := blk_cell hr6 2; have r3 := blk_cell hr6 3; have r4 := blk_cell hr6 4; have g0 := blk_frozen hr6 0; have g1 := blk_frozen hr6 1; have g2 := blk_frozen hr6 2; have g3 := blk_frozen hr6 3; have g4 := blk_frozen hr6 4)
              obtain ⟨w7, hw7, hx7, hE7, hRF7⟩ := res_done (by rfl) hr6 (.int .i64 D.step.1.room) (.slice A6 n6 c6) (.bool D.step.1.down) (.int .i64 D.step.1.armed) (.int .u64 D.step.1.steps) (fun j x => by rcases j with _ | _ | _ | _ | _ | j <;> simp)
              rw [← hw7]
              have x0 := blk_cell hx7 0
              have x1 := blk_cell hx7 1
              have x2 := blk_cell hx7 2
              have x3 := blk_cell hx7 3
              have x4 := blk_cell hx7 4
              have hb64 : Below w.heap.size w w8 := Hb6'.out.trans (hb8.mono Hb6'.out.size)
              have hb7 : Below w.heap.size w w7 := hb64.trans (hE7.below (by have := hb64.size; omega) (fun q hq => by rw [List.mem_singleton.1 hq]; omega))
              exact bodyPost_ret (v := .tuple #[.agg #[.int .i64 D.step.1.room, .slice A6 n6 c6, .bool D.step.1.down, .int .i64 D.step.1.armed, .int .u64 D.step.1.steps], .int .i64 0]) (by simp [results, Try.results83, go_sem, x0, x1, x2, x3, x4]) rfl ⟨A6, n6, c6, rfl, hRF7 _ _ _ hf6, hc6, hb7⟩
  · rw [show D.cut s.data.toList k = (D, 50) by unfold Dsk.cut; rw [hd]; rfl]
    rw [hd] at Hf
    clear h
    go_enter Try.func83, Try.ntmps83
    go_wp2_with (go_at_call 126; refine (Hf.out _ (al2 w _ _)).mono ?_; rintro e w2 ⟨rfl, rfl⟩)
    exact bodyPost_ret (v := .tuple #[.agg #[.int .i64 D.room, .slice A n c, .bool true, .int .i64 D.armed, .int .u64 D.steps], .int .i64 50]) (by simp [results, Try.results83, go_sem]) rfl ⟨A, n, c, by first | rfl | (unfold refV; rw [hd]), keep2 H.out hnc (al3 w _ _ _)⟩
end Go.Proofs.Ytcfgdlpdnpnhmaa
set_option linter.unusedVariables false
set_option linter.unusedSimpArgs false
namespace Go.Proofs.Ytcfgdlpdnpnhmaa
open Go.RowKit Go.Maps

set_option maxRecDepth 100000 in
set_option maxHeartbeats 2000000 in
theorem refmove_calls (D : Dsk) (A : Option Addr) (n c : Nat) (s : ByteArray) (t : ByteArray) (w : World) (h : RFiles w A n D.files) (hnc : n ≤ c) (hn : n ≤ 1048000) (hs : D.steps < 4611686018427387904) (ha : -1 ≤ D.armed) (ha2 : D.armed ≤ 9223372036854775807) (ht : t.size ≤ 9223372036854775807) (hlen : ∀ f ∈ D.files, f.all.length ≤ 1048576) :
    Calls Try.prog 85 #[refV D A n c, .string s, .string t] w (RefPair w (D.move s.data.toList t.data.toList).1 (D.move s.data.toList t.data.toList).2) := by
  have Hf := Lib.hid (fun w1 (hb : Below w.heap.size w w1) => reffind_calls D A n c s w1 (h.below hb) (by omega))
  have Hst := Lib.hid (fun w1 => refstep_calls D A n c w1 hs ha ha2)
  have H := Lib.hid h
  have hl := Lib.hid h.1
  unfold refV at Hf Hst
  unfold refV
  have Hnm := Lib.hid (fun w1 => refnamed_calls t w1 ht)
  cases hd : D.down
  · rw [hd] at Hf Hst
    cases hfd : Dsk.find D.files s.data.toList with
    | none =>
      rw [show D.move s.data.toList t.data.toList = (D, 31) by unfold Dsk.move; rw [hd, hfd]; rfl]
      rw [place_none hfd] at Hf
      clear h hfd
      go_enter Try.func85, Try.ntmps85
      go_wp2_with (go_at_call 126; refine (Hf.out _ (al2 w _ _)).mono ?_; rintro e w2 ⟨rfl, rfl⟩)
      exact bodyPost_ret (v := .tuple #[.agg #[.int .i64 D.room, .slice A n c, .bool false, .int .i64 D.armed, .int .u64 D.steps], .int .i64 31]) (by simp [results, Try.results85, go_sem]) rfl ⟨A, n, c, by first | rfl | (unfold refV; rw [hd]), keep2 H.out hnc (al3 w _ _ _)⟩
    | some f =>
      obtain ⟨i, hi, hp, hfi⟩ := place_some hfd
      rw [hp] at Hf
      have hfl : f.all.length ≤ 1048576 := hlen f (mem_find hfd).1
      have hii : i < n := by have := h.1; omega
      have Hfi := Lib.hid hfi
      have Hfd := Lib.hid hfd
      clear h hfd hfi hp hlen
      cases hn2 : Dsk.named t.data.toList
      · rw [show D.move s.data.toList t.data.toList = (D, 2) by unfold Dsk.move; rw [hd, Hfd.out]; simp [hn2]]
        rw [hn2] at Hnm
        go_enter Try.func85, Try.ntmps85
        go_wp2_with (first
          | (go_at_call 126; refine (Hf.out _ (al2 w _ _)).mono ?_; rintro e w2 ⟨rfl, rfl⟩)
          | (go_at_call 130; refine (Hnm.out _).mono ?_; rintro e w2' ⟨rfl, rfl⟩))
        exact bodyPost_ret (v := .tuple #[.agg #[.int .i64 D.room, .slice A n c, .bool false, .int .i64 D.armed, .int .u64 D.steps], .int .i64 2]) (by simp [results, Try.results85, go_sem]) rfl ⟨A, n, c, by first | rfl | (unfold refV; rw [hd]), keep2 H.out hnc (al3 w _ _ _)⟩
      · rw [hn2] at Hnm
        cases hst2 : D.step.2 == 0
        · rw [show D.move s.data.toList t.data.toList = D.step by unfold Dsk.move; rw [hd, Hfd.out]; simp at hst2; simp [hn2, hst2]]
          have h50 := Lib.hid (step_code D hst2)
          go_enter Try.func85, Try.ntmps85
          go_wp2_with (first
            | (go_at_call 126; refine (Hf.out _ (al2 w _ _)).mono ?_; rintro e w2 ⟨rfl, rfl⟩)
            | (go_at_call 130; refine (Hnm.out _).mono ?_; rintro e w2' ⟨rfl, rfl⟩)
            | (go_at_call 127; refine (Hst.out _).mono ?_; rintro e w3 ⟨rfl, rfl⟩))
          exact bodyPost_ret (v := .tuple #[.agg #[.int .i64 D.step.1.room, .slice A n c, .bool D.step.1.down, .int .i64 D.step.1.armed, .int .u64 D.step.1.steps], .int .i64 50]) (by simp [results, Try.results85, go_sem]) rfl ⟨A, n, c, by unfold refV; rw [h50.out], by rw [step_files]; exact keep2 H.out hnc (al5 w _ _ _ _ _)⟩
        · have h0 : D.step.2 = 0 := by simpa using hst2
          rw [show D.move s.data.toList t.data.toList = ({ D.step.1 with files := Dsk.put (Dsk.del D.step.1.files s.data.toList) ⟨t.data.toList, f.all, f.kept⟩ }, 0) by unfold Dsk.move; rw [hd, Hfd.out]; simp [hn2, h0]]
          clear h0 hn2
          go_enter Try.func85, Try.ntmps85
          go_upto_region 11 with (first
            | (go_at_call 126; refine (Hf.out _ (al2 w _ _)).mono ?_; rintro e w2 ⟨rfl, rfl⟩)
            | (go_at_call 130; refine (Hnm.out _).mono ?_; rintro e w2' ⟨rfl, rfl⟩)
            | (go_at_call 127; refine (Hst.out _).mono ?_; rintro e w3 ⟨rfl, hw3⟩; have hb3 : Below w.heap.size w w3 := (by rw [hw3]; exact al5 w _ _ _ _ _); have hx3 : w3.heap[w.heap.size]? = some (.cells #[.int .i64 D.room, .slice A n c, .bool false, .int .i64 D.armed, .int .u64 D.steps] 45 (0, 0)) := (by rw [hw3]; exact blk_alloc (blk_alloc (blk_alloc (blk_alloc (blk_new w _) _) _) _) _); have hr3 : w3.heap[w.heap.size + 1]? = some (.cells #[.int .i64 0, .slice none 0 0, .bool false, .int .i64 0, .int .u64 0] 45 (0, 0)) := (by rw [hw3]; exact blk_alloc (blk_alloc (blk_alloc (blk_new1 w _ _) _) _) _); clear hw3; have b0 := blk_cell hx3 0; have b1 := blk_cell hx3 1; have b2 := blk_cell hx3 2; have b3 := blk_cell hx3 3; have b4 := blk_cell hx3 4; have g0 := blk_frozen hx3 0; have g1 := blk_frozen hx3 1; have g2 := blk_frozen hx3 2; have g3 := blk_frozen hx3 3; have g4 := blk_frozen hx3 4))
          obtain ⟨w4, hw4, hx4, hE4, hRF4⟩ := res_done (by rfl) hx3 (.int .i64 D.step.1.room) (.slice A n c) (.bool D.step.1.down) (.int .i64 D.step.1.armed) (.int .u64 D.step.1.steps) (fun j x => by rcases j with _ | _ | _ | _ | _ | j <;> simp)
          rw [← hw4]
          have hf4 : RFiles w4 A n D.files := hRF4 _ _ _ (H.out.below hb3)
          have hr4 := hE4.obj hr3 (by simp)
          have hlt := blk_lt hr3
          have hb4 : Below w.heap.size w w4 := hb3.trans (hE4.below (by omega) (fun q hq => by rw [List.mem_singleton.1 hq]; exact Nat.le_refl _))
          have Hf4 := Lib.hid hf4
          have Hx4 := Lib.hid hx4
          have Hr4 := Lib.hid hr4
          have Hb4 := Lib.hid hb4
          clear hw4 hE4 hRF4 hb3 hx3 hr3 b0 b1 b2 b3 b4 g0 g1 g2 g3 g4 hf4 hr4 hb4
          have b0 := blk_cell hx4 0
          have b1 := blk_cell hx4 1
          have b2 := blk_cell hx4 2
          have b3 := blk_cell hx4 3
          have b4 := blk_cell hx4 4
          clear hx4
          obtain ⟨ad, b, o, nm, al, hA, had, q0, q1, q2, e0, e1, z0, z1, en, ea⟩ := Hf4.out.at2 hi
          rw [Hfi.out] at q2 ea
          have hix := fun W => run_file_index ad n c i hii W
          simp only [had] at hix
          rw [← hA] at hix
          have Hea := Lib.hid ea
          clear had hA e0 e1 z0 z1 en ea
          go_upto_region 12 with fail
          obtain ⟨w5, hw5⟩ : ∃ w5, w5 = w4.alloc (.cells #[.string nm, .string al, .int .i64 f.kept] 60) := ⟨_, rfl⟩
          rw [← hw5]
          have hb5 : Below w4.heap.size w4 w5 := by rw [hw5]; exact al1 _ _
          have hx5 := (hb5.block _ (blk_lt Hx4.out)).trans Hx4.out
          have hr5 := (hb5.block _ (blk_lt Hr4.out)).trans Hr4.out
          have hy5 : w5.heap[w4.heap.size]? = some (.cells #[.string nm, .string al, .int .i64 f.kept] 60 (0, 0)) := by rw [hw5]; exact blk_new w4 _
          have Hb5 := Lib.hid (Hb4.out.trans (hb5.mono Hb4.out.size))
          have hyl : w.heap.size + 2 ≤ w4.heap.size := by have := blk_lt Hr4.out; omega
          have hwo := refwithout_calls D.step.1 A n c s w5 (by rw [step_files]; exact H.out.below Hb5.out) (by omega)
          unfold refV at hwo
          have Hwo := Lib.hid hwo
          have Hx5 := Lib.hid hx5
          have Hr5 := Lib.hid hr5
          have Hy5 := Lib.hid hy5
          clear hw5 hb5 hwo hr5 hy5 b0 b1 b2 b3 b4 q0 q1 q2 hix
          have b0 := blk_cell hx5 0
          have b1 := blk_cell hx5 1
          have b2 := blk_cell hx5 2
          have b3 := blk_cell hx5 3
          have b4 := blk_cell hx5 4
          clear hx5
          go_upto_region 13 with (go_at_call 129; refine Hwo.out.mono ?_; rintro e w6 ⟨A6, n6, c6, rfl, hf6, hc6, hb6, hfr6⟩; unfold refV; have hx6 := (hb6.block _ (blk_lt Hx5.out)).trans Hx5.out; have b0 := blk_cell hx6 0; have b1 := blk_cell hx6 1; have b2 := blk_cell hx6 2; have b3 := blk_cell hx6 3; have b4 := blk_cell hx6 4; have g0 := blk_frozen hx6 0; have g1 := blk_frozen hx6 1; have g2 := blk_frozen hx6 2; have g3 := blk_frozen hx6 3; have g4 := blk_frozen hx6 4)
          have hr6 := (hb6.block _ (blk_lt Hr5.out)).trans Hr5.out
          have hy6 := (hb6.block _ (blk_lt Hy5.out)).trans Hy5.out
          obtain ⟨w7, hw7, hx7, hE7, hRF7⟩ := res_done (by rfl) hx6 (.int .i64 D.step.1.room) (.slice A6 n6 c6) (.bool D.step.1.down) (.int .i64 D.step.1.armed) (.int .u64 D.step.1.steps) (fun j x => by rcases j with _ | _ | _ | _ | _ | j <;> simp)
          rw [← hw7]
          have hf7 := hRF7 _ _ _ hf6
          have hr7 := hE7.obj hr6 (by simp)
          have hy7 := hE7.obj hy6 (by simp; omega)
          have hb6' : Below w.heap.size w w6 := Hb5.out.trans (hb6.mono Hb5.out.size)
          have hb7 : Below w.heap.size w w7 := hb6'.trans (hE7.below (by have := hb6'.size; omega) (fun q hq => by rw [List.mem_singleton.1 hq]; exact Nat.le_refl _))
          have hn6 : n6 ≤ n := by
            have h1 := hf6.1
            have h2 := del_length D.step.1.files s.data.toList
            rw [step_files] at h2
            have h3 := hl.out
            rw [step_files] at h1
            omega
          have Hf7 := Lib.hid hf7
          have Hx7 := Lib.hid hx7
          have Hr7 := Lib.hid hr7
          have Hy7 := Lib.hid hy7
          have Hb7 := Lib.hid hb7
          clear hw7 hE7 hRF7 hf7 hr7 hb7 hb6' hx6 hr6 hy6 hf6 b0 b1 b2 b3 b4 g0 g1 g2 g3 g4 hb6
          have b0 := blk_cell hx7 0
          have b1 := blk_cell hx7 1
          have b2 := blk_cell hx7 2
          have b3 := blk_cell hx7 3
          have b4 := blk_cell hx7 4
          have y0 := blk_cell hy7 0
          have y1 := blk_cell hy7 1
          have y2 := blk_cell hy7 2
          have u0 := blk_frozen hy7 0
          have u1 := blk_frozen hy7 1
          have u2 := blk_frozen hy7 2
          clear hx7 hy7
          go_upto_region 14 with fail
          obtain ⟨w8, hw8⟩ : ∃ w8, w8 = w7.setCell ⟨w4.heap.size, 0, none⟩ (.string t) := ⟨_, rfl⟩
          rw [← hw8]
          have hE8 : Ext [w4.heap.size] w7 w8 := by rw [hw8]; exact (Ext.refl _ _).setCell (Or.inl (by simp)) _
          have hy8 : w8.heap[w4.heap.size]? = some (.cells #[.string t, .string al, .int .i64 f.kept] 60 (0, 0)) := by rw [hw8]; exact blk_set Hy7.out 0 _
          have hx8 := hE8.obj Hx7.out (by simp; omega)
          have hr8 := Lib.hid (hE8.obj Hr7.out (by simp; omega))
          have hlt5 := blk_lt Hy5.out
          have hf8 := Hf7.out.far hE8 (fun ad he => by have := hfr6 ad he; simp; omega)
          have Hb8 := Lib.hid (Hb7.out.trans (hE8.below (by have := Hb7.out.size; omega) (fun q hq => by rw [List.mem_singleton.1 hq]; omega)))
          have hwc := refwith_calls { D.step.1 with files := Dsk.del D.step.1.files s.data.toList } A6 n6 c6 ⟨t.data.toList, f.all, f.kept⟩ w8 hf8 (by omega)
          have e1 : (Value.agg #[encStr t.data.toList, encStr f.all, .int .i64 (f.kept : Int)]) = .agg #[.string t, .string al, .int .i64 f.kept] := by rw [Hea.out]
          dsimp only at hwc
          rw [e1] at hwc
          unfold refV at hwc
          have Hwc := Lib.hid hwc
          clear hwc e1 hw8 hE8 b0 b1 b2 b3 b4 y0 y1 y2 u0 u1 u2 hf8 hfr6
          have b0 := blk_cell hx8 0
          have b1 := blk_cell hx8 1
          have b2 := blk_cell hx8 2
          have b3 := blk_cell hx8 3
          have b4 := blk_cell hx8 4
          have y0 := blk_cell hy8 0
          have y1 := blk_cell hy8 1
          have y2 := blk_cell hy8 2
          clear hx8 hy8
          go_wp2_with (go_at_call 128; refine Hwc.out.mono ?_; rintro e w9 ⟨A6, n6, c6, rfl, hf6, hc6, hb9⟩; unfold refV; have hr6 := (hb9.block (w.heap.size + 1) (blk_lt hr8.out)).trans hr8.out; have r0 := blk_cell hr6 0; have r1 := blk_cell hr6 1; have r2 := blk_cell hr6 2; have r3 := blk_cell hr6 3; have r4 := blk_cell hr6 4; have g0 := blk_frozen hr6 0; have g1 := blk_frozen hr6 1; have g2 := blk_frozen hr6 2; have g3 := blk_frozen hr6 3; have g4 := blk_frozen hr6 4)
          obtain ⟨w7, hw7, hx7, hE7, hRF7⟩ := res_done (by rfl) hr6 (.int .i64 D.step.1.room) (.slice A6 n6 c6) (.bool D.step.1.down) (.int .i64 D.step.1.armed) (.int .u64 D.step.1.steps) (fun j x => by rcases j with _ | _ | _ | _ | _ | j <;> simp)
          rw [← hw7]
          have x0 := blk_cell hx7 0
          have x1 := blk_cell hx7 1
          have x2 := blk_cell hx7 2
          have x3 := blk_cell hx7 3
          have x4 := blk_cell hx7 4
          have hb64 : Below w.heap.size w w9 := Hb8.out.trans (hb9.mono Hb8.out.size)
          have hb7 : Below w.heap.size w w7 := hb64.trans (hE7.below (by have := hb64.size; omega) (fun q hq => by rw [List.mem_singleton.1 hq]; omega))
          exact bodyPost_ret (v := .tuple #[.agg #[.int .i64 D.step.1.room, .slice A6 n6 c6, .bool D.step.1.down, .int .i64 D.step.1.armed, .int .u64 D.step.1.steps], .int .i64 0]) (by simp [results, Try.results85, go_sem, x0, x1, x2, x3, x4]) rfl ⟨A6, n6, c6, rfl, hRF7 _ _ _ hf6, hc6, hb7⟩
  · rw [show D.move s.data.toList t.data.toList = (D, 50) by unfold Dsk.move; rw [hd]; rfl]
    rw [hd] at Hf
    clear h
    go_enter Try.func85, Try.ntmps85
    go_wp2_with (go_at_call 126; refine (Hf.out _ (al2 w _ _)).mono ?_; rintro e w2 ⟨rfl, rfl⟩)
    exact bodyPost_ret (v := .tuple #[.agg #[.int .i64 D.room, .slice A n c, .bool true, .int .i64 D.armed, .int .u64 D.steps], .int .i64 50]) (by simp [results, Try.results85, go_sem]) rfl ⟨A, n, c, by first | rfl | (unfold refV; rw [hd]), keep2 H.out hnc (al3 w _ _ _)⟩
end Go.Proofs.Ytcfgdlpdnpnhmaa
set_option linter.unusedVariables false
set_option linter.unusedSimpArgs false
namespace Go.Proofs.Ytcfgdlpdnpnhmaa
open Go.RowKit Go.Maps

theorem below_next {w w1 w2 : World} (h : Below w.heap.size w w1) (k : Below w1.heap.size w1 w2) : Below w.heap.size w w2 := h.trans (k.mono h.size)
theorem run_str_add (x y : ByteArray) (h : x.size + y.size ≤ 9223372036854775807) (W : World) : (binOp .add 9 (.string x) (.string y)).run Try.prog W = .ok (.string (x ++ y)) W := by
  have : ¬ ((x.size : Int) + (y.size : Int) > IntKind.i64.max) := by simp [IntKind.max, IntKind.bits, IntKind.signed]; omega
  simp [binOp, Op.stringOp, Sem.run_pure, IntKind.max, IntKind.bits, IntKind.signed]
  omega
theorem run_str_add2 (x y : ByteArray) (h : x.size + y.size ≤ 9223372036854775807) (W : World) : (Op.stringOp .add x y).run Try.prog W = .ok (.string (x ++ y)) W := by
  simp [Op.stringOp, Sem.run_pure, IntKind.max, IntKind.bits, IntKind.signed]
  omega
theorem enc_append {l : Bs} {x : ByteArray} (h : encStr l = .string x) (y : ByteArray) : encStr (l ++ y.data.toList) = .string (x ++ y) := by
  injection h with h
  subst h
  show Value.string _ = _
  congr 1

set_option maxRecDepth 100000 in
set_option maxHeartbeats 2000000 in
theorem refappend_calls (D : Dsk) (A : Option Addr) (n c : Nat) (s bt : ByteArray) (w : World) (h : RFiles w A n D.files) (hnc : n ≤ c) (hn : n ≤ 1048000) (hs : D.steps < 4611686018427387904) (ha : -1 ≤ D.armed) (ha2 : D.armed ≤ 9223372036854775807)
    (hlen : ∀ f ∈ D.files, f.all.length ≤ 1048576) (hss : s.size ≤ 9223372036854775807) (hbt : bt.size ≤ 140737488355328) (hr0 : 0 ≤ D.room) (hr1 : D.room ≤ 1048576) (hsum : Dsk.sum D.files ≤ 1048576) :
    Calls Try.prog 92 #[refV D A n c, .string s, .string bt] w (RefPair w (D.append s.data.toList bt.data.toList).1 (D.append s.data.toList bt.data.toList).2) := by
  have Hf := Lib.hid (fun w1 (hb : Below w.heap.size w w1) => reffind_calls D A n c s w1 (h.below hb) (by omega))
  have Hfr := Lib.hid (fun w1 (hb : Below w.heap.size w w1) => reffree_calls D A n c w1 (h.below hb) (by omega) hr0 hr1 hsum)
  have Hnm := Lib.hid (fun w1 => refnamed_calls s w1 hss)
  have hbl : bt.data.toList.length = bt.size := by rw [Array.length_toList]; rfl
  have H := Lib.hid h
  have hl := Lib.hid h.1
  unfold refV at Hf Hfr
  unfold refV
  cases hd : D.down
  · rw [hd] at Hf Hfr
    cases hn2 : Dsk.named s.data.toList
    · rw [show D.append s.data.toList bt.data.toList = (D, 2) by unfold Dsk.append; rw [hd, hn2]; simp]
      rw [hn2] at Hnm
      clear h hbl
      go_enter Try.func92, Try.ntmps92
      go_wp2_with (go_at_call 130; refine (Hnm.out _).mono ?_; rintro e w1' ⟨rfl, rfl⟩)
      exact bodyPost_ret (v := .tuple #[.agg #[.int .i64 D.room, .slice A n c, .bool false, .int .i64 D.armed, .int .u64 D.steps], .int .i64 2]) (by simp [results, Try.results92, go_sem]) rfl ⟨A, n, c, by first | rfl | (unfold refV; rw [hd]), keep2 H.out hnc (al2 w _ _)⟩
    · rw [hn2] at Hnm
      cases hfd : Dsk.find D.files s.data.toList with
      | none =>
        rw [place_none hfd] at Hf
        have hap : D.append s.data.toList bt.data.toList = if 128 ≤ D.files.length ∨ D.free < (bt.size : Int) then (D, 30) else ({ D with files := Dsk.put D.files ⟨s.data.toList, [] ++ bt.data.toList, 0⟩ } : Dsk).step := by
          unfold Dsk.append
          rw [hd, hn2, hfd, hbl]
          simp
        rw [hap]
        clear hap hfd h hbl hn2
        by_cases h128 : 128 ≤ n
        · rw [if_pos (Or.inl (by have := hl.out; omega))]
          have g1 : decide ((128 : Int) ≤ (n : Int)) = true := decide_eq_true (by omega)
          go_enter Try.func92, Try.ntmps92
          go_wp2_with (first
            | (go_at_call 130; refine (Hnm.out _).mono ?_; rintro e w1' ⟨rfl, rfl⟩)
            | (go_at_call 126; refine (Hf.out _ (al2 w _ _)).mono ?_; rintro e w2 ⟨rfl, rfl⟩))
          exact bodyPost_ret (v := .tuple #[.agg #[.int .i64 D.room, .slice A n c, .bool false, .int .i64 D.armed, .int .u64 D.steps], .int .i64 30]) (by simp [results, Try.results92, go_sem]) rfl ⟨A, n, c, by first | rfl | (unfold refV; rw [hd]), keep2 H.out hnc (al3 w _ _ _)⟩
        · have g1 : decide ((128 : Int) ≤ (n : Int)) = false := decide_eq_false (by omega)
          by_cases hfre : D.free < (bt.size : Int)
          · rw [if_pos (Or.inr hfre)]
            have g2 : decide (D.free < (bt.size : Int)) = true := decide_eq_true hfre
            go_enter Try.func92, Try.ntmps92
            go_wp2_with (first
              | (go_at_call 130; refine (Hnm.out _).mono ?_; rintro e w1' ⟨rfl, rfl⟩)
              | (go_at_call 126; refine (Hf.out _ (al2 w _ _)).mono ?_; rintro e w2 ⟨rfl, rfl⟩)
              | (go_at_call 34; refine (Hfr.out _ (al3 w _ _ _)).mono ?_; rintro e w2' ⟨rfl, rfl⟩))
            exact bodyPost_ret (v := .tuple #[.agg #[.int .i64 D.room, .slice A n c, .bool false, .int .i64 D.armed, .int .u64 D.steps], .int .i64 30]) (by simp [results, Try.results92, go_sem]) rfl ⟨A, n, c, by first | rfl | (unfold refV; rw [hd]), keep2 H.out hnc (al4 w _ _ _ _)⟩
          · rw [if_neg (by have := hl.out; omega)]
            have g2 : decide (D.free < (bt.size : Int)) = false := decide_eq_false hfre
            obtain ⟨D1, hD1⟩ : ∃ D1 : Dsk, D1 = { D with files := Dsk.put D.files ⟨s.data.toList, [] ++ bt.data.toList, 0⟩ } := ⟨_, rfl⟩
            have hs1 : D1.steps < 4611686018427387904 := by rw [hD1]; exact hs
            have ha1 : -1 ≤ D1.armed := by rw [hD1]; exact ha
            have ha21 : D1.armed ≤ 9223372036854775807 := by rw [hD1]; exact ha2
            have hst1 : ∀ A6 n6 c6 W, Calls Try.prog 127 #[.agg #[.int .i64 D.room, .slice A6 n6 c6, .bool false, .int .i64 D.armed, .int .u64 D.steps]] W (StepGives W D1 A6 n6 c6) := fun A6 n6 c6 W => by
              have := refstep_calls D1 A6 n6 c6 W hs1 ha1 ha21
              unfold refV at this
              rw [show D1.room = D.room by rw [hD1], show D1.down = false by rw [hD1]; exact hd, show D1.armed = D.armed by rw [hD1], show D1.steps = D.steps by rw [hD1]] at this
              exact this
            have Hst1 := Lib.hid hst1
            rw [← hD1]
            have HD1 := Lib.hid hD1
            clear hD1 hfre h128 hst1
            go_enter Try.func92, Try.ntmps92
            go_upto_region 9 with (first
              | (go_at_call 130; refine (Hnm.out _).mono ?_; rintro e w1' ⟨rfl, rfl⟩)
              | (go_at_call 126; refine (Hf.out _ (al2 w _ _)).mono ?_; rintro e w2 ⟨rfl, rfl⟩)
              | (go_at_call 34; refine (Hfr.out _ (al3 w _ _ _)).mono ?_; rintro e w2 ⟨rfl, hw2⟩; have hb2 : Below w.heap.size w w2 := (by rw [hw2]; exact al4 w _ _ _ _); have hx2 : w2.heap[w.heap.size]? = some (.cells #[.int .i64 D.room, .slice A n c, .bool false, .int .i64 D.armed, .int .u64 D.steps] 45 (0, 0)) := (by rw [hw2]; exact blk_alloc (blk_alloc (blk_alloc (blk_new w _) _) _) _); have hr2 : w2.heap[w.heap.size + 1]? = some (.cells #[.int .i64 0, .slice none 0 0, .bool false, .int .i64 0, .int .u64 0] 45 (0, 0)) := (by rw [hw2]; exact blk_alloc (blk_alloc (blk_new1 w _ _) _) _); clear hw2))
            obtain ⟨w3, hw3⟩ : ∃ w3, w3 = w2.alloc (.cells #[.string s, .string ⟨#[]⟩, .int .i64 0] 60) := ⟨_, rfl⟩
            rw [← hw3]
            have hb23 : Below w2.heap.size w2 w3 := by rw [hw3]; exact al1 _ _
            have hb3 : Below w.heap.size w w3 := hb2.trans (hb23.mono hb2.size)
            have hx3 := (hb23.block _ (blk_lt hx2)).trans hx2
            have hr3 := (hb23.block _ (blk_lt hr2)).trans hr2
            have hy3 : w3.heap[w2.heap.size]? = some (.cells #[.string s, .string ⟨#[]⟩, .int .i64 0] 60 (0, 0)) := by rw [hw3]; exact blk_new w2 _
            have hyl : w.heap.size + 2 ≤ w2.heap.size := by have := blk_lt hr2; omega
            have Hb3 := Lib.hid hb3
            have Hx3 := Lib.hid hx3
            have Hr3 := Lib.hid hr3
            have Hy3 := Lib.hid hy3
            have hadd := run_str_add ⟨#[]⟩ bt (by show 0 + bt.size ≤ _; omega)
            clear hw3 hb23 hb2 hx2 hr2 hb3
            have b0 := blk_cell hx3 0
            have b1 := blk_cell hx3 1
            have b2 := blk_cell hx3 2
            have b3 := blk_cell hx3 3
            have b4 := blk_cell hx3 4
            have y0 := blk_cell hy3 0
            have y1 := blk_cell hy3 1
            have y2 := blk_cell hy3 2
            have u0 := blk_frozen hy3 0
            have u1 := blk_frozen hy3 1
            have u2 := blk_frozen hy3 2
            clear hx3 hr3 hy3
            go_upto_region 12 with fail
            obtain ⟨w4, hw4⟩ : ∃ w4, w4 = w3.setCell ⟨w2.heap.size, 1, none⟩ (.string (⟨#[]⟩ ++ bt)) := ⟨_, rfl⟩
            rw [← hw4]
            have hE4 : Ext [w2.heap.size] w3 w4 := by rw [hw4]; exact (Ext.refl _ _).setCell (Or.inl (by simp)) _
            have hy4 : w4.heap[w2.heap.size]? = some (.cells #[.string s, .string (⟨#[]⟩ ++ bt), .int .i64 0] 60 (0, 0)) := by rw [hw4]; exact blk_set Hy3.out 1 _
            have hx4 := hE4.obj Hx3.out (by simp; omega)
            have Hx4 := Lib.hid hx4
            have Hr4 := Lib.hid (hE4.obj Hr3.out (by simp; omega))
            have hb4 : Below w.heap.size w w4 := Hb3.out.trans (hE4.below (by have := Hb3.out.size; omega) (fun q hq => by rw [List.mem_singleton.1 hq]; omega))
            have Hb4 := Lib.hid hb4
            have hwc := refwith_calls D A n c ⟨s.data.toList, ([] : Bs) ++ bt.data.toList, (0 : Nat)⟩ w4 (H.out.below hb4) (by omega)
            have e1 : (Value.agg #[encStr s.data.toList, encStr (([] : Bs) ++ bt.data.toList), .int .i64 ((0 : Nat) : Nat)]) = .agg #[.string s, .string (⟨#[]⟩ ++ bt), .int .i64 0] := by rw [enc_append (l := []) (x := ⟨#[]⟩) rfl]; rfl
            dsimp only at hwc
            rw [e1] at hwc
            unfold refV at hwc
            rw [hd] at hwc
            have Hwc := Lib.hid hwc
            clear hwc e1 hw4 hE4 hb4  b0 b1 b2 b3 b4 y0 y1 y2 u0 u1 u2
            have b0 := blk_cell hx4 0
            have b1 := blk_cell hx4 1
            have b2 := blk_cell hx4 2
            have b3 := blk_cell hx4 3
            have b4 := blk_cell hx4 4
            have y0 := blk_cell hy4 0
            have y1 := blk_cell hy4 1
            have y2 := blk_cell hy4 2
            clear hx4 hy4
            go_upto_region 13 with (first
              | (go_at_call 128; refine Hwc.out.mono ?_; rintro e w5 ⟨A6, n6, c6, rfl, hf6, hc6, hb5⟩; unfold refV)
              | (go_at_call 127; refine (Hst1.out A6 n6 c6 _).mono ?_; rintro e w6 ⟨rfl, hw6⟩; have hb6 : Below w5.heap.size w5 w6 := (by rw [hw6]; exact al2 w5 _ _); clear hw6; have hx6 := (hb6.block _ (Nat.lt_of_lt_of_le (blk_lt Hx4.out) hb5.size)).trans ((hb5.block _ (blk_lt Hx4.out)).trans Hx4.out); have b0 := blk_cell hx6 0; have b1 := blk_cell hx6 1; have b2 := blk_cell hx6 2; have b3 := blk_cell hx6 3; have b4 := blk_cell hx6 4; have g0 := blk_frozen hx6 0; have g1 := blk_frozen hx6 1; have g2 := blk_frozen hx6 2; have g3 := blk_frozen hx6 3; have g4 := blk_frozen hx6 4))
            obtain ⟨w7, hw7, hx7, hE7, hRF7⟩ := res_done (by rfl) hx6 (.int .i64 D1.step.1.room) (.slice A6 n6 c6) (.bool D1.step.1.down) (.int .i64 D1.step.1.armed) (.int .u64 D1.step.1.steps) (fun j x => by rcases j with _ | _ | _ | _ | _ | j <;> simp)
            rw [← hw7]
            have hr5 := (hb5.block _ (blk_lt Hr4.out)).trans Hr4.out
            have hr6 := (hb6.block _ (blk_lt hr5)).trans hr5
            have hr7 := hE7.obj hr6 (by simp)
            have hf7 := hRF7 _ _ _ (hf6.below hb6)
            have hb57 : Below w.heap.size w w6 := below_next (below_next Hb4.out hb5) hb6
            have hb7 : Below w.heap.size w w7 := hb57.trans (hE7.below (by have := hb57.size; omega) (fun q hq => by rw [List.mem_singleton.1 hq]; exact Nat.le_refl _))
            have Hf7 := Lib.hid hf7
            have Hb7 := Lib.hid hb7
            have Hr7 := Lib.hid hr7
            clear hw7 hE7 hRF7 hr5 hr6 hf7 hb57 hb7 hx6 hf6 hb5 hb6 b0 b1 b2 b3 b4 g0 g1 g2 g3 g4 y0 y1 y2
            have b0 := blk_cell hx7 0
            have b1 := blk_cell hx7 1
            have b2 := blk_cell hx7 2
            have b3 := blk_cell hx7 3
            have b4 := blk_cell hx7 4
            have r0 := blk_cell hr7 0
            have r1 := blk_cell hr7 1
            have r2 := blk_cell hr7 2
            have r3 := blk_cell hr7 3
            have r4 := blk_cell hr7 4
            have v0 := blk_frozen hr7 0
            have v1 := blk_frozen hr7 1
            have v2 := blk_frozen hr7 2
            have v3 := blk_frozen hr7 3
            have v4 := blk_frozen hr7 4
            clear hx7 hr7
            cases hst2 : D1.step.2 == 0
            · have hcode := Lib.hid (step_code D1 hst2)
              go_wp2
              obtain ⟨w8, hw8, hx8, hE8, hRF8⟩ := res_done (by rfl) Hr7.out (.int .i64 D1.step.1.room) (.slice A6 n6 c6) (.bool D1.step.1.down) (.int .i64 D1.step.1.armed) (.int .u64 D1.step.1.steps) (fun j x => by rcases j with _ | _ | _ | _ | _ | j <;> simp)
              rw [← hw8]
              have x0 := blk_cell hx8 0
              have x1 := blk_cell hx8 1
              have x2 := blk_cell hx8 2
              have x3 := blk_cell hx8 3
              have x4 := blk_cell hx8 4
              have hb8 : Below w.heap.size w w8 := Hb7.out.trans (hE8.below (by have := Hb7.out.size; omega) (fun q hq => by rw [List.mem_singleton.1 hq]; omega))
              exact bodyPost_ret (v := .tuple #[.agg #[.int .i64 D1.step.1.room, .slice A6 n6 c6, .bool D1.step.1.down, .int .i64 D1.step.1.armed, .int .u64 D1.step.1.steps], .int .i64 50]) (by simp [results, Try.results92, go_sem, x0, x1, x2, x3, x4]) rfl ⟨A6, n6, c6, by rw [hcode.out]; rfl, by rw [step_files, HD1.out]; exact hRF8 _ _ _ Hf7.out, hc6, hb8⟩
            · have hcode := Lib.hid ((by simpa using hst2 : D1.step.2 = 0))
              go_wp2
              obtain ⟨w8, hw8, hx8, hE8, hRF8⟩ := res_done (by rfl) Hr7.out (.int .i64 D1.step.1.room) (.slice A6 n6 c6) (.bool D1.step.1.down) (.int .i64 D1.step.1.armed) (.int .u64 D1.step.1.steps) (fun j x => by rcases j with _ | _ | _ | _ | _ | j <;> simp)
              rw [← hw8]
              have x0 := blk_cell hx8 0
              have x1 := blk_cell hx8 1
              have x2 := blk_cell hx8 2
              have x3 := blk_cell hx8 3
              have x4 := blk_cell hx8 4
              have hb8 : Below w.heap.size w w8 := Hb7.out.trans (hE8.below (by have := Hb7.out.size; omega) (fun q hq => by rw [List.mem_singleton.1 hq]; omega))
              exact bodyPost_ret (v := .tuple #[.agg #[.int .i64 D1.step.1.room, .slice A6 n6 c6, .bool D1.step.1.down, .int .i64 D1.step.1.armed, .int .u64 D1.step.1.steps], .int .i64 0]) (by simp [results, Try.results92, go_sem, x0, x1, x2, x3, x4]) rfl ⟨A6, n6, c6, by rw [hcode.out]; rfl, by rw [step_files, HD1.out]; exact hRF8 _ _ _ Hf7.out, hc6, hb8⟩
      | some f =>
        obtain ⟨i, hi, hp, hfi⟩ := place_some hfd
        rw [hp] at Hf
        have hap : D.append s.data.toList bt.data.toList = if D.free < (bt.size : Int) then (D, 30) else ({ D with files := Dsk.put D.files ⟨s.data.toList, f.all ++ bt.data.toList, f.kept⟩ } : Dsk).step := by
          unfold Dsk.append
          rw [hd, hn2, hfd, hbl]
          simp
        have hfl : f.all.length ≤ 1048576 := hlen f (mem_find hfd).1
        have hii : i < n := by have := h.1; omega
        have Hfi := Lib.hid hfi
        have Hfn := Lib.hid (mem_find hfd).2
        rw [hap]
        clear hap hfd h hbl hn2 hp hfi hlen
        by_cases hfre : D.free < (bt.size : Int)
        · rw [if_pos hfre]
          have g2 : decide (D.free < (bt.size : Int)) = true := decide_eq_true hfre
          go_enter Try.func92, Try.ntmps92
          go_wp2_with (first
            | (go_at_call 130; refine (Hnm.out _).mono ?_; rintro e w1' ⟨rfl, rfl⟩)
            | (go_at_call 126; refine (Hf.out _ (al2 w _ _)).mono ?_; rintro e w2 ⟨rfl, rfl⟩)
            | (go_at_call 34; refine (Hfr.out _ (al3 w _ _ _)).mono ?_; rintro e w2' ⟨rfl, rfl⟩))
          exact bodyPost_ret (v := .tuple #[.agg #[.int .i64 D.room, .slice A n c, .bool false, .int .i64 D.armed, .int .u64 D.steps], .int .i64 30]) (by simp [results, Try.results92, go_sem]) rfl ⟨A, n, c, by first | rfl | (unfold refV; rw [hd]), keep2 H.out hnc (al4 w _ _ _ _)⟩
        · rw [if_neg hfre]
          have g2 : decide (D.free < (bt.size : Int)) = false := decide_eq_false hfre
          obtain ⟨D1, hD1⟩ : ∃ D1 : Dsk, D1 = { D with files := Dsk.put D.files ⟨s.data.toList, f.all ++ bt.data.toList, f.kept⟩ } := ⟨_, rfl⟩
          have hs1 : D1.steps < 4611686018427387904 := by rw [hD1]; exact hs
          have ha1 : -1 ≤ D1.armed := by rw [hD1]; exact ha
          have ha21 : D1.armed ≤ 9223372036854775807 := by rw [hD1]; exact ha2
          have hst1 : ∀ A6 n6 c6 W, Calls Try.prog 127 #[.agg #[.int .i64 D.room, .slice A6 n6 c6, .bool false, .int .i64 D.armed, .int .u64 D.steps]] W (StepGives W D1 A6 n6 c6) := fun A6 n6 c6 W => by
            have := refstep_calls D1 A6 n6 c6 W hs1 ha1 ha21
            unfold refV at this
            rw [show D1.room = D.room by rw [hD1], show D1.down = false by rw [hD1]; exact hd, show D1.armed = D.armed by rw [hD1], show D1.steps = D.steps by rw [hD1]] at this
            exact this
          have Hst1 := Lib.hid hst1
          rw [← hD1]
          have HD1 := Lib.hid hD1
          clear hD1 hfre hst1
          go_enter Try.func92, Try.ntmps92
          go_upto_region 9 with (first
            | (go_at_call 130; refine (Hnm.out _).mono ?_; rintro e w1' ⟨rfl, rfl⟩)
            | (go_at_call 126; refine (Hf.out _ (al2 w _ _)).mono ?_; rintro e w2 ⟨rfl, rfl⟩)
            | (go_at_call 34; refine (Hfr.out _ (al3 w _ _ _)).mono ?_; rintro e w2 ⟨rfl, hw2⟩; have hb2 : Below w.heap.size w w2 := (by rw [hw2]; exact al4 w _ _ _ _); have hx2 : w2.heap[w.heap.size]? = some (.cells #[.int .i64 D.room, .slice A n c, .bool false, .int .i64 D.armed, .int .u64 D.steps] 45 (0, 0)) := (by rw [hw2]; exact blk_alloc (blk_alloc (blk_alloc (blk_new w _) _) _) _); have hr2 : w2.heap[w.heap.size + 1]? = some (.cells #[.int .i64 0, .slice none 0 0, .bool false, .int .i64 0, .int .u64 0] 45 (0, 0)) := (by rw [hw2]; exact blk_alloc (blk_alloc (blk_new1 w _ _) _) _); clear hw2))
          obtain ⟨w3, hw3⟩ : ∃ w3, w3 = w2.alloc (.cells #[.string s, .string ⟨#[]⟩, .int .i64 0] 60) := ⟨_, rfl⟩
          rw [← hw3]
          have hb23 : Below w2.heap.size w2 w3 := by rw [hw3]; exact al1 _ _
          have hb3 : Below w.heap.size w w3 := hb2.trans (hb23.mono hb2.size)
          have hx3 := (hb23.block _ (blk_lt hx2)).trans hx2
          have hr3 := (hb23.block _ (blk_lt hr2)).trans hr2
          have hy3 : w3.heap[w2.heap.size]? = some (.cells #[.string s, .string ⟨#[]⟩, .int .i64 0] 60 (0, 0)) := by rw [hw3]; exact blk_new w2 _
          have hyl : w.heap.size + 2 ≤ w2.heap.size := by have := blk_lt hr2; omega
          have Hb3 := Lib.hid hb3
          have Hx3 := Lib.hid hx3
          have Hr3 := Lib.hid hr3
          have Hy3 := Lib.hid hy3
          obtain ⟨ad, b, o, nm, al, hA, had, q0, q1, q2, e0, e1, z0, z1, en, ea⟩ := (H.out.below hb3).at2 hi
          rw [Hfi.out] at q2 en ea z1
          have hix := fun W => run_file_index ad n c i hii W
          simp only [had] at hix
          rw [← hA] at hix
          have Hen := Lib.hid en
          have Hea := Lib.hid ea
          have hadd := run_str_add2 al bt (by omega)
          clear had hA e0 e1 z0 z1 en ea
          clear hw3 hb23 hb2 hx2 hr2 hb3
          have b0 := blk_cell hx3 0
          have b1 := blk_cell hx3 1
          have b2 := blk_cell hx3 2
          have b3 := blk_cell hx3 3
          have b4 := blk_cell hx3 4
          have y0 := blk_cell hy3 0
          have y1 := blk_cell hy3 1
          have y2 := blk_cell hy3 2
          have u0 := blk_frozen hy3 0
          have u1 := blk_frozen hy3 1
          have u2 := blk_frozen hy3 2
          clear hx3 hr3 hy3
          go_upto_region 12 with fail
          obtain ⟨w4, hw4⟩ : ∃ w4, w4 = (((w3.setCell ⟨w2.heap.size, 0, none⟩ (.string nm)).setCell ⟨w2.heap.size, 1, none⟩ (.string al)).setCell ⟨w2.heap.size, 2, none⟩ (.int .i64 f.kept)).setCell ⟨w2.heap.size, 1, none⟩ (.string (al ++ bt)) := ⟨_, rfl⟩
          rw [← hw4]
          have hE4 : Ext [w2.heap.size] w3 w4 := by rw [hw4]; exact ((((Ext.refl _ _).setCell (Or.inl (by simp)) _).setCell (Or.inl (by simp)) _).setCell (Or.inl (by simp)) _).setCell (Or.inl (by simp)) _
          have hy4 : w4.heap[w2.heap.size]? = some (.cells #[.string nm, .string (al ++ bt), .int .i64 f.kept] 60 (0, 0)) := by rw [hw4]; exact blk_set (blk_set (blk_set (blk_set Hy3.out 0 _) 1 _) 2 _) 1 _
          have hx4 := hE4.obj Hx3.out (by simp; omega)
          have Hx4 := Lib.hid hx4
          have Hr4 := Lib.hid (hE4.obj Hr3.out (by simp; omega))
          have hb4 : Below w.heap.size w w4 := Hb3.out.trans (hE4.below (by have := Hb3.out.size; omega) (fun q hq => by rw [List.mem_singleton.1 hq]; omega))
          have Hb4 := Lib.hid hb4
          have hwc := refwith_calls D A n c ⟨s.data.toList, f.all ++ bt.data.toList, f.kept⟩ w4 (H.out.below hb4) (by omega)
          have e1 : (Value.agg #[encStr s.data.toList, encStr (f.all ++ bt.data.toList), .int .i64 (f.kept : Nat)]) = .agg #[.string nm, .string (al ++ bt), .int .i64 f.kept] := by rw [← Hfn.out, Hen.out, enc_append Hea.out]
          dsimp only at hwc
          rw [e1] at hwc
          unfold refV at hwc
          rw [hd] at hwc
          have Hwc := Lib.hid hwc
          clear hwc e1 hw4 hE4 hb4 q0 q1 q2 hix b0 b1 b2 b3 b4 y0 y1 y2 u0 u1 u2
          have b0 := blk_cell hx4 0
          have b1 := blk_cell hx4 1
          have b2 := blk_cell hx4 2
          have b3 := blk_cell hx4 3
          have b4 := blk_cell hx4 4
          have y0 := blk_cell hy4 0
          have y1 := blk_cell hy4 1
          have y2 := blk_cell hy4 2
          clear hx4 hy4
          go_upto_region 13 with (first
            | (go_at_call 128; refine Hwc.out.mono ?_; rintro e w5 ⟨A6, n6, c6, rfl, hf6, hc6, hb5⟩; unfold refV)
            | (go_at_call 127; refine (Hst1.out A6 n6 c6 _).mono ?_; rintro e w6 ⟨rfl, hw6⟩; have hb6 : Below w5.heap.size w5 w6 := (by rw [hw6]; exact al2 w5 _ _); clear hw6; have hx6 := (hb6.block _ (Nat.lt_of_lt_of_le (blk_lt Hx4.out) hb5.size)).trans ((hb5.block _ (blk_lt Hx4.out)).trans Hx4.out); have b0 := blk_cell hx6 0; have b1 := blk_cell hx6 1; have b2 := blk_cell hx6 2; have b3 := blk_cell hx6 3; have b4 := blk_cell hx6 4; have g0 := blk_frozen hx6 0; have g1 := blk_frozen hx6 1; have g2 := blk_frozen hx6 2; have g3 := blk_frozen hx6 3; have g4 := blk_frozen hx6 4))
          obtain ⟨w7, hw7, hx7, hE7, hRF7⟩ := res_done (by rfl) hx6 (.int .i64 D1.step.1.room) (.slice A6 n6 c6) (.bool D1.step.1.down) (.int .i64 D1.step.1.armed) (.int .u64 D1.step.1.steps) (fun j x => by rcases j with _ | _ | _ | _ | _ | j <;> simp)
          rw [← hw7]
          have hr5 := (hb5.block _ (blk_lt Hr4.out)).trans Hr4.out
          have hr6 := (hb6.block _ (blk_lt hr5)).trans hr5
          have hr7 := hE7.obj hr6 (by simp)
          have hf7 := hRF7 _ _ _ (hf6.below hb6)
          have hb57 : Below w.heap.size w w6 := below_next (below_next Hb4.out hb5) hb6
          have hb7 : Below w.heap.size w w7 := hb57.trans (hE7.below (by have := hb57.size; omega) (fun q hq => by rw [List.mem_singleton.1 hq]; exact Nat.le_refl _))
          have Hf7 := Lib.hid hf7
          have Hb7 := Lib.hid hb7
          have Hr7 := Lib.hid hr7
          clear hw7 hE7 hRF7 hr5 hr6 hf7 hb57 hb7 hx6 hf6 hb5 hb6 b0 b1 b2 b3 b4 g0 g1 g2 g3 g4 y0 y1 y2
          have b0 := blk_cell hx7 0
          have b1 := blk_cell hx7 1
          have b2 := blk_cell hx7 2
          have b3 := blk_cell hx7 3
          have b4 := blk_cell hx7 4
          have r0 := blk_cell hr7 0
          have r1 := blk_cell hr7 1
          have r2 := blk_cell hr7 2
          have r3 := blk_cell hr7 3
          have r4 := blk_cell hr7 4
          have v0 := blk_frozen hr7 0
          have v1 := blk_frozen hr7 1
          have v2 := blk_frozen hr7 2
          have v3 := blk_frozen hr7 3
          have v4 := blk_frozen hr7 4
          clear hx7 hr7
          cases hst2 : D1.step.2 == 0
          · have hcode := Lib.hid (step_code D1 hst2)
            go_wp2
            obtain ⟨w8, hw8, hx8, hE8, hRF8⟩ := res_done (by rfl) Hr7.out (.int .i64 D1.step.1.room) (.slice A6 n6 c6) (.bool D1.step.1.down) (.int .i64 D1.step.1.armed) (.int .u64 D1.step.1.steps) (fun j x => by rcases j with _ | _ | _ | _ | _ | j <;> simp)
            rw [← hw8]
            have x0 := blk_cell hx8 0
            have x1 := blk_cell hx8 1
            have x2 := blk_cell hx8 2
            have x3 := blk_cell hx8 3
            have x4 := blk_cell hx8 4
            have hb8 : Below w.heap.size w w8 := Hb7.out.trans (hE8.below (by have := Hb7.out.size; omega) (fun q hq => by rw [List.mem_singleton.1 hq]; omega))
            exact bodyPost_ret (v := .tuple #[.agg #[.int .i64 D1.step.1.room, .slice A6 n6 c6, .bool D1.step.1.down, .int .i64 D1.step.1.armed, .int .u64 D1.step.1.steps], .int .i64 50]) (by simp [results, Try.results92, go_sem, x0, x1, x2, x3, x4]) rfl ⟨A6, n6, c6, by rw [hcode.out]; rfl, by rw [step_files, HD1.out]; exact hRF8 _ _ _ Hf7.out, hc6, hb8⟩
          · have hcode := Lib.hid ((by simpa using hst2 : D1.step.2 = 0))
            go_wp2
            obtain ⟨w8, hw8, hx8, hE8, hRF8⟩ := res_done (by rfl) Hr7.out (.int .i64 D1.step.1.room) (.slice A6 n6 c6) (.bool D1.step.1.down) (.int .i64 D1.step.1.armed) (.int .u64 D1.step.1.steps) (fun j x => by rcases j with _ | _ | _ | _ | _ | j <;> simp)
            rw [← hw8]
            have x0 := blk_cell hx8 0
            have x1 := blk_cell hx8 1
            have x2 := blk_cell hx8 2
            have x3 := blk_cell hx8 3
            have x4 := blk_cell hx8 4
            have hb8 : Below w.heap.size w w8 := Hb7.out.trans (hE8.below (by have := Hb7.out.size; omega) (fun q hq => by rw [List.mem_singleton.1 hq]; omega))
            exact bodyPost_ret (v := .tuple #[.agg #[.int .i64 D1.step.1.room, .slice A6 n6 c6, .bool D1.step.1.down, .int .i64 D1.step.1.armed, .int .u64 D1.step.1.steps], .int .i64 0]) (by simp [results, Try.results92, go_sem, x0, x1, x2, x3, x4]) rfl ⟨A6, n6, c6, by rw [hcode.out]; rfl, by rw [step_files, HD1.out]; exact hRF8 _ _ _ Hf7.out, hc6, hb8⟩
  · rw [show D.append s.data.toList bt.data.toList = (D, 50) by unfold Dsk.append; rw [hd]; rfl]
    clear h
    go_enter Try.func92, Try.ntmps92
    go_wp2
    exact bodyPost_ret (v := .tuple #[.agg #[.int .i64 D.room, .slice A n c, .bool true, .int .i64 D.armed, .int .u64 D.steps], .int .i64 50]) (by simp [results, Try.results92, go_sem]) rfl ⟨A, n, c, by first | rfl | (unfold refV; rw [hd]), keep2 H.out hnc (al2 w _ _)⟩
end Go.Proofs.Ytcfgdlpdnpnhmaa
set_option linter.unusedVariables false
set_option linter.unusedSimpArgs false
namespace Go.Proofs.Ytcfgdlpdnpnhmaa
open Go.RowKit Go.Maps

set_option maxRecDepth 100000 in
set_option maxHeartbeats 2000000 in
theorem refsame_calls (A B : Option Addr) (n c d : Nat) (l : List File) (w : World) (ha : RFiles w A n l) (hb : RFiles w B n l) (hn : n ≤ 1048576) :
    Calls Try.prog 36 #[.slice A n c, .slice B n d] w fun e w' => e = .returned (.bool true) ∧ Below w.heap.size w w' := by
  have HA := Lib.hid ha
  have HB := Lib.hid hb
  have hl := Lib.hid ha.1
  clear ha hb
  go_enter Try.func36, Try.ntmps36
  go_wp2
  go_loopw [5] (fun i wr => ∃ (k : Nat), i = .int .i64 k ∧ k ≤ n ∧ Below w.heap.size w wr) (fun i _ => n - (intOf i).toNat)
  case atStart => exact ⟨0, rfl, Nat.zero_le _, Below.refl _ _⟩
  case round =>
    obtain ⟨k, rfl, hkn, hbl⟩ := hrel
    have Hbl := Lib.hid hbl
    clear hbl
    by_cases hlt : k < n
    · have hk : k < l.length := by rw [hl.out]; exact hlt
      obtain ⟨ad, b, o, nm, al, hA, had, q0, q1, q2, e0, e1, z0, z1, en, ea⟩ := (HA.out.below Hbl.out).at2 hk
      obtain ⟨ad', b', o', nm', al', hB, had', q0', q1', q2', e0', e1', z0', z1', en', ea'⟩ := (HB.out.below Hbl.out).at2 hk
      obtain rfl : nm = nm' := by rw [en] at en'; injection en'
      obtain rfl : al = al' := by rw [ea] at ea'; injection ea'
      have hix := fun W => run_file_index ad n c k hlt W
      simp only [had] at hix
      rw [← hA] at hix
      have hix' := fun W => run_file_index ad' n d k hlt W
      simp only [had'] at hix'
      rw [← hB] at hix'
      have hwk : IntKind.i64.wrap ((k : Int) + 1) = (k : Int) + 1 := IntWalk.i64_in _ (by omega)
      clear had hA had' hB e0 e1 z0 z1 en ea e0' e1' z0' z1' en' ea'
      go_wp2
      go_region
      go_wp2
      go_roundw
      case rel => exact ⟨k + 1, by simp, hlt, Hbl.out.drew⟩
      case measure => simp [intOf]; omega
    · have hkn2 : k = n := by omega
      clear hlt
      go_wp2
      go_ret
      exact ⟨rfl, Hbl.out⟩
end Go.Proofs.Ytcfgdlpdnpnhmaa
