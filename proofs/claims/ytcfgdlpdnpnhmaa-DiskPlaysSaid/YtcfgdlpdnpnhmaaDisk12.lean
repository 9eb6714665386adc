/- Contract of package disk: Crash. -/
import Derived.Test.YtcfgdlpdnpnhmaaDisk11
import Derived.Test.YtcfgdlpdnpnhmaaPure1
import Derived.Deep.RegionHeld3
import Derived.Test.YtcfgdlpdnpnhmaaLast
set_option linter.unusedVariables false
set_option linter.unusedSimpArgs false
namespace Go.Proofs.Ytcfgdlpdnpnhmaa
open Go.RowKit Go.Maps Go.WideMaps

/-- From address A on n strings stand: l. -/
def Strs (w : World) (A : Option Addr) (n : Nat) (l : List Bs) : Prop :=
  l.length = n ∧ (0 < n → ∃ ad, A = some ad ∧ ∀ j, j < n → w.cell? (ad.add j) = some (encStr (l.getD j [])))
def NoStr (w : World) (k : Nat) : Prop := ∀ o s, w.cell? ⟨k, o, none⟩ ≠ some (.string s)
theorem Strs.ext {S : List Nat} {w w' : World} {A : Option Addr} {n : Nat} {l : List Bs} (h : Strs w A n l) (e : Ext S w w') (hs : ∀ k, k ∈ S → NoStr w k) : Strs w' A n l := by
  refine ⟨h.1, fun hn => ?_⟩
  obtain ⟨ad, ea, hc⟩ := h.2 hn
  refine ⟨ad, ea, fun j hj => ?_⟩
  have h1 := hc j hj
  refine (e.cell (cell_lt h1) (fun hm => ?_)).trans h1
  have h2 := cell_spot h1
  rw [h2] at h1
  exact hs _ hm _ _ h1
theorem Strs.below {w w' : World} {A : Option Addr} {n : Nat} {l : List Bs} (h : Strs w A n l) (e : Below w.heap.size w w') : Strs w' A n l := h.ext (S := []) (Ext.of_below e) (fun k hk => by cases hk)
theorem Strs.of_own {w : World} {base n : Nat} {v : Value} {l : List Bs} (h : w.ownsRow base 9 1 v n (strVals l)) : ∃ A c, v = .slice A n c ∧ Strs w A n l := by
  have hl : l.length = n := by have := h.1; simp [strVals] at this; exact this
  rcases h.2 with ⟨rfl, rfl⟩ | ⟨g, cap, cur, rfl, _, hb, hnc, hcm, hcs, htake⟩
  · exact ⟨none, 0, rfl, hl, fun h => absurd h (by omega)⟩
  · refine ⟨_, cap, rfl, hl, fun _ => ⟨_, rfl, fun j hj => ?_⟩⟩
    refine h.cells (g := g) rfl j _ ?_
    simp [strVals, List.getElem?_eq_getElem (show j < l.length by omega), List.getD_eq_getElem?_getD]
theorem NoStr.of_cells {w : World} {g : Nat} {cs : Array Value} {t : TypeId} {fr : Nat × Nat} (h : w.heap[g]? = some (.cells cs t fr)) (hn : ∀ (j : Nat) (s : ByteArray), cs[j]? ≠ some (Value.string s)) : NoStr w g := by
  intro o x hc
  rw [blk_cell h] at hc
  exact hn o x hc
theorem IsDisk.noStr {w : World} {d mp mt : Nat} {D : Dsk} (h : IsDisk w d mp mt D) : ∀ k, k ∈ [d, mp, mt] → NoStr w k := by
  intro k hk
  simp only [List.mem_cons, List.mem_nil_iff, or_false] at hk
  rcases hk with rfl | rfl | rfl
  · exact .of_cells h.blk (fun j x => by rcases j with _ | _ | _ | _ | _ | j <;> simp)
  · obtain ⟨es, c, hb⟩ := h.mapObj
    intro o x hc
    simp [World.cell?, hb] at hc
  · refine .of_cells h.met (fun j x => ?_)
    rcases Nat.lt_or_ge j 17 with hj | hj
    · have : j = 0 ∨ j = 1 ∨ j = 2 ∨ j = 3 ∨ j = 4 ∨ j = 5 ∨ j = 6 ∨ j = 7 ∨ j = 8 ∨ j = 9 ∨ j = 10 ∨ j = 11 ∨ j = 12 ∨ j = 13 ∨ j = 14 ∨ j = 15 ∨ j = 16 := by omega
      rcases this with rfl | rfl | rfl | rfl | rfl | rfl | rfl | rfl | rfl | rfl | rfl | rfl | rfl | rfl | rfl | rfl | rfl <;> simp [meterCells]
    · rw [Array.getElem?_eq_none (by simpa [meterCells] using hj)]; simp
theorem IsDisk.noT {w : World} {d mp mt : Nat} {D : Dsk} (h : IsDisk w d mp mt D) : ∀ k, k ∈ [d, mp, mt] → NoT w k := by
  intro k hk
  simp only [List.mem_cons, List.mem_nil_iff, or_false] at hk
  rcases hk with rfl | rfl | rfl
  · exact .of_cells h.blk (fun j x => by rcases j with _ | _ | _ | _ | _ | j <;> simp)
  · obtain ⟨es, c, hb⟩ := h.mapObj
    intro o x
    simp [World.cell?, hb]
  · refine .of_cells h.met (fun j x => ?_)
    rcases Nat.lt_or_ge j 17 with hj | hj
    · have : j = 0 ∨ j = 1 ∨ j = 2 ∨ j = 3 ∨ j = 4 ∨ j = 5 ∨ j = 6 ∨ j = 7 ∨ j = 8 ∨ j = 9 ∨ j = 10 ∨ j = 11 ∨ j = 12 ∨ j = 13 ∨ j = 14 ∨ j = 15 ∨ j = 16 := by omega
      rcases this with rfl | rfl | rfl | rfl | rfl | rfl | rfl | rfl | rfl | rfl | rfl | rfl | rfl | rfl | rfl | rfl | rfl <;> simp [meterCells]
    · rw [Array.getElem?_eq_none (by simpa [meterCells] using hj)]; simp

section
variable {P : Program} (w : World) {ops : Array Oper} {rest : List Oper} {o : Oper} {a : Act} {K : Act → World → Prop} {Q : Exit → Act → World → Prop} {E : Prop}
theorem step_append_cut (hgd : o.guard = none) (s x : Operand) (ho : o.op = .call { callee := .builtin .append, args := #[s, x], argTypes := #[22, 22] })
    (A0 : Option Addr) (n : Nat) (l0 : Bs) (hs : a.eval s = .slice A0 n n) (h0 : Bts w A0 n l0) (A : Option Addr) (m c : Nat) (l : Bs) (hx : a.eval x = .slice A m c) (hb : Bts w A m l)
    (hsz : n + m ≤ 140737488355328)
    (h : ∀ A' c' w', Bts w' A' (n + m) (l0 ++ l) → n + m ≤ c' → (A' = none → c' = 0) → Below w.heap.size w w' → K (a.put o.dst (.slice A' (n + m) c')) w') :
    if Region.wanted o (yielded ops a.tmps) = true then Oper.wp Try.prog o a w K Q else E := by
  have hw : Region.wanted o (yielded ops a.tmps) = true := by simp [Region.wanted, hgd]
  rw [if_pos hw]
  obtain ⟨A', c', w', hr, h2, h3, h4, h5⟩ := run_append_cut w o.type A0 n l0 h0 A m c l hb hsz
  unfold Oper.wp execOp
  simp only [ho, resolve, invoke, builtin, Sem.run_bind, Sem.run_pure, Result.andThen_ok, List.map_toArray, List.map_cons, List.map_nil, hs, hx, hr]
  exact h A' c' w' h2 h3 h4 h5
end

theorem info9 : (Try.prog.info? 9).map (fun i => (i.size)) = some 1 := by kernel_rfl
theorem run_str_index (ad : Addr) (n c k : Nat) (h : k < n) (w : World) : (Instr.indexAt 52 (.slice (some ad) n c) (.int .i64 k)).run Try.prog w = .ok (.pointer (some (ad.add k))) w := by
  obtain ⟨i0, hi, hz1⟩ := Option.map_eq_some_iff.1 info9
  simp [Instr.indexAt, run_underlying Try.underlying52, sizeOf, typeInfo, hi, hz1, h, Result.andThen, asIntOf]
theorem str_data (l : Bs) : (⟨l.toArray⟩ : ByteArray).data.toList = l := rfl

/-- How Crash stands behind k files: those that stay, the tears that are left. -/
structure CrashAt (d mp mt bx : Nat) (D : Dsk) (ts : List (Nat × Nat)) (An : Option Addr) (w wr : World) (k : Nat) (done : List File) (tsr : List (Nat × Nat)) (At : Option Addr) (nt ct : Nat) : Prop where
  le : k ≤ D.files.length
  disk : IsDisk wr d mp mt { D with down := true, armed := -1, files := done ++ D.files.drop k }
  rising : Dsk.Rising (done ++ D.files.drop k)
  goes : done ++ Dsk.crashGo (D.files.drop k) tsr = Dsk.crashGo D.files ts
  len : done.length ≤ k
  box : wr.heap[bx]? = some (.cells #[.slice At nt ct] 47 (0, 0))
  tears : Tears wr At nt tsr
  cap : nt ≤ ct
  names : Strs wr An D.files.length (D.files.map (·.name))
  ext : Ext [d, mp, mt] w wr

theorem CrashAt.next {d mp mt : Nat} {D : Dsk} {ts : List (Nat × Nat)} {An : Option Addr} {w wr : World} {k : Nat} {done : List File} {tsr : List (Nat × Nat)} {At : Option Addr} {nt ct : Nat}
    (hC : CrashAt d mp mt w.heap.size D ts An w wr k done tsr At nt ct) (hlt : k < D.files.length) {f : File} (hdrop : D.files.drop k = f :: D.files.drop (k + 1)) {f' : File} {tsr' : List (Nat × Nat)} (hcf : Dsk.crashFile f tsr = (f', tsr'))
    {wz : World} {A5 : Option Addr} {n5 c5 : Nat} {l : List File} (hl : l = done ++ (if f'.all = [] then [] else [f']))
    (hd : IsDisk wz d mp mt { D with down := true, armed := -1, files := l ++ D.files.drop (k + 1) })
    (hb : wz.heap[w.heap.size]? = some (.cells #[.slice A5 n5 c5] 47 (0, 0))) (ht : Tears wz A5 n5 tsr') (hc : n5 ≤ c5) (he : Ext [d, mp, mt, w.heap.size] wr wz) :
    CrashAt d mp mt w.heap.size D ts An w wz (k + 1) l tsr' A5 n5 c5 := by
  have hr := hC.rising
  have hg := hC.goes
  rw [hdrop] at hr hg
  have hfn : f'.name = f.name := by have := Dsk.crashFile_name f tsr; rw [hcf] at this; exact this
  subst hl
  refine ⟨hlt, hd, ?_, ?_, ?_, hb, ht, hc, ?_, ?_⟩
  · by_cases h0 : f'.all = []
    · rw [if_pos h0, List.append_nil]; exact Dsk.rising_del hr
    · rw [if_neg h0, List.append_assoc]
      exact Dsk.rising_of_names hr (by simp [hfn])
  · rw [← hg]
    simp only [Dsk.crashGo, hcf, List.append_assoc]
  · have := hC.len
    rw [List.length_append]
    split <;> simp <;> omega
  · refine hC.names.ext he (fun i hi => ?_)
    simp only [List.mem_cons, List.mem_nil_iff, or_false] at hi
    rcases hi with hi | hi | hi | hi
    · exact hC.disk.noStr i (by simp [hi])
    · exact hC.disk.noStr i (by simp [hi])
    · exact hC.disk.noStr i (by simp [hi])
    · rw [hi]; exact .of_cells hC.box (fun j x => by rcases j with _ | j <;> simp)
  · refine hC.ext.then_ he (fun i hi => ?_)
    simp only [List.mem_cons, List.mem_nil_iff, or_false] at hi
    rcases hi with hi | hi | hi | hi
    · exact Or.inl (by simp [hi])
    · exact Or.inl (by simp [hi])
    · exact Or.inl (by simp [hi])
    · exact Or.inr (by omega)

set_option maxRecDepth 100000 in
set_option maxHeartbeats 4000000 in
theorem crash_calls (d mp mt : Nat) (D : Dsk) (A : Option Addr) (n c : Nat) (ts : List (Nat × Nat)) (w : World) (h : IsDisk w d mp mt D) (hok : D.Ok) (hT : Tears w A n ts) (hnc : n ≤ c) :
    Calls Try.prog 39 #[.pointer (some ⟨d, 0, none⟩), .slice A n c] w fun e w' => e = .returned (.int .i64 0) ∧ Left w d mp mt (D.crash ts) w' := by
  have hmf := mk_func
  obtain ⟨w1, hw1⟩ : ∃ w1, w1 = w.alloc (.cells #[.slice A n c] 47) := ⟨_, rfl⟩
  have hb1 : Below w.heap.size w w1 := by rw [hw1]; exact (Below.refl _ _).alloc (Nat.le_refl _) _
  have h1 := h.below hb1
  have hbx1 : w1.heap[w.heap.size]? = some (.cells #[.slice A n c] 47 (0, 0)) := by rw [hw1]; exact blk_new w _
  have hu := none_calls d mp mt D w1 h1
  have c2 := h1.c2
  have f2 := h1.fz 2
  have c3 := h1.c3
  have f3 := h1.fz 3
  have hdl := h.lt_d
  have hmpl := h.lt_mp
  have hmtl := h.lt_mt
  obtain ⟨w2, hw2⟩ : ∃ w2, w2 = (w1.setCell ⟨d, 2, none⟩ (.bool true)).setCell ⟨d, 3, none⟩ (.int .i64 (-1)) := ⟨_, rfl⟩
  have h2 : IsDisk w2 d mp mt { D with down := true, armed := -1 } := by rw [hw2]; exact (h1.setDown true).setArmed (-1)
  have e2 : Ext [d] w1 w2 := by rw [hw2]; exact ((Ext.refl _ _).setCell (Or.inl (by simp)) _).setCell (Or.inl (by simp)) _
  have hbx2 := e2.obj hbx1 (by simp; omega)
  have hT2 : Tears w2 A n ts := (hT.below hb1).ext e2 (fun k hk => by rw [List.mem_singleton.1 hk]; exact h1.noT d (by simp))
  have hnm := names_calls d mp mt _ w2 h2 hok.rising (by have := hok.many; show D.files.length ≤ _; omega)
  have Hu := Lib.hid hu
  have Hnm := Lib.hid hnm
  clear hu hnm h1 h
  go_enter Try.func39, Try.ntmps39
  go_wp2_with fail
  rw [← hw1]
  clear hw1
  go_wp2_with (first
    | (go_at_call 93; refine Hu.out.mono ?_; rintro e w' ⟨rfl, rfl⟩))
  rw [← hw2]
  clear hw2
  refine Hnm.out.mono ?_
  rintro e w3 ⟨v, rfl, hrow, hb3⟩
  obtain ⟨An, cn, rfl, hS3⟩ := Strs.of_own hrow
  go_wp2_with fail
  have hC3 : CrashAt d mp mt w.heap.size D ts An w w3 0 [] ts A n c := by
    refine ⟨Nat.zero_le _, h2.below hb3, hok.rising, rfl, Nat.le_refl _, (hb3.block _ (blk_lt hbx2)).trans hbx2, hT2.below hb3, hnc, ?_, ?_⟩
    · simpa using hS3
    · exact ((Ext.of_below hb1).then_ e2 (fun i hi => Or.inl (by rw [List.mem_singleton.1 hi]; simp))).then_ (Ext.of_below (S := []) hb3) (fun i hi => by cases hi)
  have hsum : ∀ f ∈ D.files, f.all.length ≤ 1048576 := fun f hf => Nat.le_trans (sum_le_mem _ f hf) hok.sum
  have hmany := hok.many
  have Hk := Lib.hid hok.kept
  have Hn16 := Lib.hid hok.names
  have Hsum := Lib.hid hsum
  clear hok hsum hS3 hrow hb3 hbx2 hT2 h2 e2 f2 f3 c2 c3 hb1 hbx1 hT
  go_loopw [21] (fun i wr => ∃ (k : Nat) (done : List File) (tsr : List (Nat × Nat)) (At : Option Addr) (nt ct : Nat), i = .int .i64 k ∧ CrashAt d mp mt w.heap.size D ts An w wr k done tsr At nt ct) (fun i _ => D.files.length - (intOf i).toNat)
  case atStart => exact ⟨0, [], ts, A, n, c, rfl, hC3⟩
  case round =>
    clear hC3
    obtain ⟨k, done, tsr, At, nt, ct, rfl, hC⟩ := hrel
    have hkl := hC.le
    have HC := Lib.hid hC
    by_cases hlt : k < D.files.length
    · obtain ⟨f, hfk⟩ : ∃ f, f = D.files[k] := ⟨_, rfl⟩
      have hdrop : D.files.drop k = f :: D.files.drop (k + 1) := by rw [hfk]; exact List.drop_eq_getElem_cons hlt
      have hfm : f ∈ D.files := by rw [hfk]; exact List.getElem_mem hlt
      have hkept := Hk.out f hfm
      have hs16 : (⟨f.name.toArray⟩ : ByteArray).size ≤ 9223372036854775807 := by
        have := (Hn16.out f hfm).2
        show f.name.toArray.size ≤ _
        rw [List.size_toArray]; omega
      have hwk : IntKind.i64.wrap ((k : Int) + 1) = (k : Int) + 1 := IntWalk.i64_in _ (by omega)
      have hfl := Hsum.out f hfm
      have hrise := hC.rising
      have hdisk := hC.disk
      have hgoes := hC.goes
      rw [hdrop] at hrise hdisk hgoes
      obtain ⟨ad, hAn, hcell⟩ := hC.names.2 (by omega)
      have hname := hcell k hlt
      have hnmk : (D.files.map (·.name)).getD k [] = f.name := by rw [hfk]; simp [List.getD_eq_getElem?_getD, hlt]
      rw [hnmk] at hname
      have hpa : ad.add k = ⟨(ad.add k).block, (ad.add k).off, none⟩ := cell_spot hname
      obtain ⟨pb, po, hpbo⟩ : ∃ pb po, ad.add k = ⟨pb, po, none⟩ := ⟨_, _, hpa⟩
      rw [hpbo] at hname
      have hix := fun W => (run_str_index ad D.files.length cn k hlt W).trans (by rw [hpbo])
      rw [← hAn] at hix
      obtain ⟨A0, n0, c0, hB0, hnc0, hA0, hlook⟩ := hdisk.look_some (s := ⟨f.name.toArray⟩) (f := f) hs16 (Dsk.find_mid hrise)
      have hl1 := (hlook wr rfl).2
      have cc0 := hdisk.c0
      have hn0 := hB0.1
      have HA0 := Lib.hid hA0
      have HB0 := Lib.hid hB0
      have Hn0 := Lib.hid hn0
      have Hrise := Lib.hid hrise
      have Hdisk := Lib.hid hdisk
      have Hgoes := Lib.hid hgoes
      have Hdrop := Lib.hid hdrop
      have hn0l : n0 ≤ 1048576 := by omega
      have hkn : f.kept ≤ n0 := by omega
      clear hC hfk hdrop hrise hdisk hgoes hcell hnmk hpa hpbo hAn hlook hA0 hB0 hn0
      by_cases hlo : f.kept < n0
      · obtain ⟨A1, hA1⟩ : ∃ A1, (if c0 = f.kept then A0 else A0.map (·.add f.kept)) = A1 := ⟨_, rfl⟩
        have hs1 := run_cut3 A0 n0 c0 f.kept (by omega)
        have hs2 := run_cut_from A0 n0 c0 f.kept hkn
        simp only [hA1] at hs2
        have hnone : A1 = none → c0 - f.kept = 0 := by
          intro e
          rw [← hA1, if_neg (by omega)] at e
          have := HA0.out (Option.map_eq_none_iff.1 e)
          omega
        have Hnone := Lib.hid hnone
        have HA1 := Lib.hid hA1
        obtain ⟨tk, tt, htk⟩ : ∃ tk tt, tsr.headD (0, 0) = (tk, tt) := ⟨_, _, rfl⟩
        have htk2 : tk < 65536 ∧ tt < 4294967296 := by
          cases htsr : tsr with
          | nil => rw [htsr] at htk; cases htk; omega
          | cons p r =>
            rw [htsr] at htk
            have := HC.out.tears.2.1 p (by rw [htsr]; simp)
            have e : p = (tk, tt) := htk
            rw [e] at this
            exact this
        have Htk := Lib.hid htk
        clear hA1 hnone htk
        go_wp2_with fail
        obtain ⟨w4, hw4⟩ : ∃ w4, w4 = wr.alloc (.cells #[.slice A0 n0 c0, .int .i64 f.kept] 159) := ⟨_, rfl⟩
        rw [← hw4]
        have hb4 : Below wr.heap.size wr w4 := by rw [hw4]; exact (Below.refl _ _).alloc (Nat.le_refl _) _
        have hx4 : w4.heap[wr.heap.size]? = some (.cells #[.slice A0 n0 c0, .int .i64 f.kept] 159 (0, 0)) := by rw [hw4]; exact blk_new wr _
        have hz4 : w4.heap.size = wr.heap.size + 1 := by rw [hw4]; simp
        have HZ4 := Lib.hid hz4
        have b0 := blk_cell hx4 0
        have b1 := blk_cell hx4 1
        have hnx := next_calls w.heap.size At nt ct tsr w4.drew ((hb4.block _ (blk_lt HC.out.box)).trans HC.out.box) (HC.out.tears.below hb4.drew) HC.out.cap
        have Hnx := Lib.hid hnx
        clear hnx
        have hltx := blk_lt HC.out.box
        have hlx : wr.heap.size < w4.drew.heap.size := by rw [show w4.drew.heap = w4.heap from rfl, HZ4.out]; omega
        have hnx : wr.heap.size ∉ [w.heap.size] := by simp; omega
        have hnt : ∀ g, g ∈ [w.heap.size] → NoU8 w4.drew g := fun g hg => by
          rw [List.mem_singleton.1 hg]
          exact .of_cells ((hb4.block _ hltx).trans HC.out.box) (fun j x => by rcases j with _ | j <;> simp)
        have hBd : ∀ w5, Ext [w.heap.size] w4.drew w5 → Bts w5 A1 (n0 - f.kept) (f.all.drop f.kept) := fun w5 he => by
          have := ((HB0.out.below hb4.drew).ext he hnt).drop (c := c0) f.kept hkn hnc0
          rw [HA1.out] at this
          exact this
        have hBt : ∀ w5, Ext [w.heap.size] w4.drew w5 → Bts w5 A0 f.kept (f.all.take f.kept) := fun w5 he => ((HB0.out.below hb4.drew).ext he hnt).take f.kept hkn
        have hOwn : ∀ {W : World} {base : Nat} {A6 : Option Addr} {m6 c6 : Nat} {l6 : Bs}, W.ownsRow base 5 1 (.slice A6 m6 c6) m6 (vals l6) → Bts W A6 m6 l6 := fun h => by
          obtain ⟨A', c', hv, hb, _⟩ := Bts.of_own h
          injection hv with e1 e2 e3
          subst e1
          exact hb
        have hX7 : ∀ w5 w6 w7, Ext [w.heap.size] w4.drew w5 → Below w5.heap.size w5 w6 → Below w6.heap.size w6 w7 → w7.heap[wr.heap.size]? = some (.cells #[.slice A0 n0 c0, .int .i64 f.kept] 159 (0, 0)) := fun w5 w6 w7 e5 e6 e7 =>
          (e7.block _ (Nat.lt_of_lt_of_le hlx (Nat.le_trans e5.size e6.size))).trans ((e6.block _ (Nat.lt_of_lt_of_le hlx e5.size)).trans (e5.obj hx4 hnx))
        have htl : (Dsk.torn (f.all.drop f.kept) (tk, tt)).length ≤ 1048576 := Nat.le_trans (Dsk.torn_length _ _) (by rw [List.length_drop]; omega)
        clear hw4 hl1 hix hname hz4
        refine wp_region_last (fun w' => w'.cell? ⟨wr.heap.size, 0, none⟩ = some (.slice A0 n0 c0) ∧ w'.cell? ⟨wr.heap.size, 1, none⟩ = some (.int .i64 f.kept)) 17 (by kernel_rfl) ⟨b0, b1⟩ (fun hHeld => ?_)
        refine wpAnyL_take 0 (v := ?_) rfl (by kernel_rfl) (fun _ _ _ h => h) (Or.inl ⟨by rfl, ?_⟩) hHeld ?_
        rotate_left
        · (intro w hSw; (try dsimp only at hSw); go_simp; try with_reducible rfl)
        try simp only [Act.put, List.setIfInBounds_toArray, List.set_cons_zero, List.set_cons_succ]
        refine wpAnyL_take 1 (v := ?_) rfl (by kernel_rfl) (fun _ _ _ h => h) (Or.inl ⟨by rfl, ?_⟩) hHeld ?_
        rotate_left
        · (intro w hSw; (try dsimp only at hSw); go_simp; try with_reducible rfl)
        try simp only [Act.put, List.setIfInBounds_toArray, List.set_cons_zero, List.set_cons_succ]
        refine wpAnyL_take 2 (v := ?_) rfl (by kernel_rfl) (fun _ _ _ h => h) (Or.inl ⟨by rfl, ?_⟩) hHeld ?_
        rotate_left
        · (intro w hSw; (try dsimp only at hSw); go_simp; try with_reducible rfl)
        try simp only [Act.put, List.setIfInBounds_toArray, List.set_cons_zero, List.set_cons_succ]
        refine wpAnyL_take 3 (v := ?_) rfl (by kernel_rfl) (fun _ _ _ h => h) (Or.inl ⟨by rfl, ?_⟩) hHeld ?_
        rotate_left
        · (intro w hSw; (try dsimp only at hSw); go_simp; try with_reducible rfl)
        try simp only [Act.put, List.setIfInBounds_toArray, List.set_cons_zero, List.set_cons_succ]
        refine wpAnyL_take 4 (v := ?_) rfl (by kernel_rfl) (fun _ _ _ h => h) (Or.inl ⟨by rfl, ?_⟩) hHeld ?_
        rotate_left
        · (intro w hSw; (try dsimp only at hSw); go_simp; try with_reducible rfl)
        try simp only [Act.put, List.setIfInBounds_toArray, List.set_cons_zero, List.set_cons_succ]
        refine wpAnyL_take 5 (v := ?_) rfl (by kernel_rfl) (fun _ _ _ h => h) (Or.inl ⟨by rfl, ?_⟩) hHeld ?_
        rotate_left
        · (intro w hSw; (try dsimp only at hSw); go_simp; try with_reducible rfl)
        try simp only [Act.put, List.setIfInBounds_toArray, List.set_cons_zero, List.set_cons_succ]
        refine wpAnyL_take 6 (v := ?_) rfl (by kernel_rfl) (fun _ _ _ h => h) (Or.inl ⟨by rfl, ?_⟩) hHeld ?_
        rotate_left
        · (intro w hSw; (try dsimp only at hSw); go_simp; try with_reducible rfl)
        try simp only [Act.put, List.setIfInBounds_toArray, List.set_cons_zero, List.set_cons_succ]
        refine wpAnyL_take 7 (v := ?_) rfl (by kernel_rfl) (fun _ _ _ h => h) (Or.inl ⟨by rfl, ?_⟩) hHeld ?_
        rotate_left
        · (intro w hSw; (try dsimp only at hSw); go_simp; try with_reducible rfl)
        try simp only [Act.put, List.setIfInBounds_toArray, List.set_cons_zero, List.set_cons_succ]
        refine wpAnyL_take 8 (v := ?_) rfl (by kernel_rfl) (fun _ _ _ h => h) (Or.inl ⟨by rfl, ?_⟩) hHeld ?_
        rotate_left
        · (intro w hSw; (try dsimp only at hSw); go_simp; try with_reducible rfl)
        try simp only [Act.put, List.setIfInBounds_toArray, List.set_cons_zero, List.set_cons_succ]
        refine wpAnyL_take 9 (v := ?_) rfl (by kernel_rfl) (fun _ _ _ h => h) (Or.inl ⟨by rfl, ?_⟩) hHeld ?_
        rotate_left
        · (intro w hSw; (try dsimp only at hSw); go_simp; try with_reducible rfl)
        try simp only [Act.put, List.setIfInBounds_toArray, List.set_cons_zero, List.set_cons_succ]
        refine wpAnyL_take 10 (v := ?_) rfl (by kernel_rfl) (fun _ _ _ h => h) (Or.inl ⟨by rfl, ?_⟩) hHeld ?_
        rotate_left
        · (intro w hSw; (try dsimp only at hSw); go_simp; try with_reducible rfl)
        try simp only [Act.put, List.setIfInBounds_toArray, List.set_cons_zero, List.set_cons_succ]
        refine wpAnyL_take 11 (v := ?_) rfl (by kernel_rfl) (fun _ _ _ h => h) (Or.inl ⟨by rfl, ?_⟩) hHeld ?_
        rotate_left
        · (intro w hSw; (try dsimp only at hSw); go_simp; try with_reducible rfl)
        try simp only [Act.put, List.setIfInBounds_toArray, List.set_cons_zero, List.set_cons_succ]
        refine wpAnyL_take 12 (v := ?_) rfl (by kernel_rfl) (fun _ _ _ h => h) (Or.inl ⟨by rfl, ?_⟩) hHeld ?_
        rotate_left
        · (intro w hSw; (try dsimp only at hSw); go_simp; try with_reducible rfl)
        try simp only [Act.put, List.setIfInBounds_toArray, List.set_cons_zero, List.set_cons_succ]
        refine wpAnyL_one 13 (by kernel_rfl) rfl (fun K hK => ?_)
        go_simp
        go_at_call 97
        refine Hnx.out.mono ?_
        rintro e w5 ⟨A5, n5, c5, rfl, hbx5, hT5, hc5, he5⟩
        have q0 : w5.cell? ⟨wr.heap.size, 0, none⟩ = some (.slice A0 n0 c0) := (he5.cell (p := ⟨wr.heap.size, 0, none⟩) hlx hnx).trans b0
        have q1 : w5.cell? ⟨wr.heap.size, 1, none⟩ = some (.int .i64 f.kept) := (he5.cell (p := ⟨wr.heap.size, 1, none⟩) hlx hnx).trans b1
        rw [Htk.out]
        refine hK.out _ _ (fun _ => ⟨q0, q1⟩) ?_
        clear hK K
        try simp only [Act.put, List.setIfInBounds_toArray, List.set_cons_zero, List.set_cons_succ]
        refine wpAnyL_one 14 (by kernel_rfl) rfl (fun K hK => ?_)
        go_simp
        go_at_call 98
        refine (torn_calls A1 (n0 - f.kept) (c0 - f.kept) (f.all.drop f.kept) tk tt w5 (hBd w5 he5) (by omega) (by omega) Hnone.out htk2.1 htk2.2).mono ?_
        rintro e w6 ⟨A6, c6, rfl, hown6, hb6⟩
        have r0 : w6.cell? ⟨wr.heap.size, 0, none⟩ = some (.slice A0 n0 c0) := (hb6.cell (p := ⟨wr.heap.size, 0, none⟩) (Nat.lt_of_lt_of_le hlx he5.size)).trans q0
        have r1 : w6.cell? ⟨wr.heap.size, 1, none⟩ = some (.int .i64 f.kept) := (hb6.cell (p := ⟨wr.heap.size, 1, none⟩) (Nat.lt_of_lt_of_le hlx he5.size)).trans q1
        refine hK.out _ _ (fun _ => ⟨r0, r1⟩) ?_
        clear hK K
        try simp only [Act.put, List.setIfInBounds_toArray, List.set_cons_zero, List.set_cons_succ]
        refine wpAnyL_one 15 (by kernel_rfl) rfl (fun K hK => ?_)
        refine step_append_cut _ (by rfl) _ _ (by rfl) A0 f.kept (f.all.take f.kept) (by rfl) ((hBt w5 he5).below hb6) A6 _ c6 (Dsk.torn (f.all.drop f.kept) (tk, tt)) (by rfl) (hOwn hown6) (by omega) ?_
        intro A7 c7 w7 hB7 hc7 hA7 hb7
        have HA7 := Lib.hid hA7
        clear hA7
        have hx7 := hX7 w5 w6 w7 he5 hb6 hb7
        have p0 := blk_cell hx7 0
        have p1 := blk_cell hx7 1
        have p2 := blk_frozen hx7 0
        refine hK.out _ _ (fun _ => ⟨p0, p1⟩) ?_
        clear hK K
        try simp only [Act.put, List.setIfInBounds_toArray, List.set_cons_zero, List.set_cons_succ]
        have hHeld : w7.cell? ⟨wr.heap.size, 0, none⟩ = some (.slice A0 n0 c0) ∧ w7.cell? ⟨wr.heap.size, 1, none⟩ = some (.int .i64 f.kept) := ⟨p0, p1⟩
        refine wpAnyL_take 16 (v := ?_) rfl (by kernel_rfl) (fun _ _ _ h => h) (Or.inl ⟨by rfl, ?_⟩) hHeld ?_
        rotate_left
        · (intro w hSw; (try dsimp only at hSw); go_simp; try with_reducible rfl)
        try simp only [Act.put, List.setIfInBounds_toArray, List.set_cons_zero, List.set_cons_succ]
        refine wpAnyL_one 17 (by kernel_rfl) rfl (fun K hK => ?_)
        go_simp
        refine hK.out _ _ (fun h => absurd rfl h) ?_
        clear hK K
        try simp only [Act.put, List.setIfInBounds_toArray, List.set_cons_zero, List.set_cons_succ]
        refine wpAnyL_done (by kernel_rfl) ?_ _
        have hE7 : Ext [w.heap.size] wr w7 := ((((Ext.of_below (S := [w.heap.size]) hb4).drew).trans he5).trans (Ext.of_below hb6)).trans (Ext.of_below hb7)
        obtain ⟨m, hm⟩ : ∃ m, f.kept + (Dsk.torn (f.all.drop f.kept) (tk, tt)).length = m := ⟨_, rfl⟩
        obtain ⟨l2, hl2⟩ : ∃ l2, f.all.take f.kept ++ Dsk.torn (f.all.drop f.kept) (tk, tt) = l2 := ⟨_, rfl⟩
        rw [hm] at hc7 hB7 ⊢
        rw [hl2] at hB7
        have hcf : Dsk.crashFile f tsr = (⟨f.name, l2, m⟩, tsr.tail) := by
          unfold Dsk.crashFile
          rw [Hn0.out, if_pos hlo, Htk.out, hl2, hB7.1]
        obtain ⟨w9, hw9⟩ : ∃ w9, w9 = (w7.setCell ⟨wr.heap.size, 0, none⟩ (.slice A7 m c7)).setCell ⟨wr.heap.size, 1, none⟩ (.int .i64 m) := ⟨_, rfl⟩
        have hx8 := blk_set hx7 0 (.slice A7 m c7)
        have hx9 : w9.heap[wr.heap.size]? = some (.cells #[.slice A7 m c7, .int .i64 m] 159 (0, 0)) := by rw [hw9]; exact blk_set hx8 1 _
        have hE9 : Ext [wr.heap.size] w7 w9 := by rw [hw9]; exact ((Ext.refl _ _).setCell (Or.inl (by simp)) _).setCell (Or.inl (by simp)) _
        have y0 := blk_cell hx8 0
        have y1 := blk_frozen hx8 1
        have Hw9 := Lib.hid hw9
        clear hx8 hw9
        go_wp2_with fail
        rw [← Hw9.out]
        have hnb : ∀ i, i ∈ [w.heap.size] → NoU8 wr i := fun i hi => by rw [List.mem_singleton.1 hi]; exact .of_cells HC.out.box (fun j x => by rcases j with _ | j <;> simp)
        have hnc7 : ∀ i, i ∈ [wr.heap.size] → NoU8 w7 i := fun i hi => by rw [List.mem_singleton.1 hi]; exact box_no hx7
        have hwr : w.heap.size < wr.heap.size := hltx
        have hdr := Hdisk.out.lt_d
        have hmpr := Hdisk.out.lt_mp
        have hmtr := Hdisk.out.lt_mt
        have hD9 := (Hdisk.out.ext hE7 hnb (by simp; omega) (by simp; omega) (by simp; omega)).ext hE9 hnc7 (by simp; omega) (by simp; omega) (by simp; omega)
        have hC9 : Cont w9 (.agg #[.slice A7 m c7, .int .i64 m]) ⟨f.name, l2, m⟩ := ⟨A7, m, c7, rfl, hB7.ext hE9 hnc7, hc7, HA7.out⟩
        have hR9 : Ext [w.heap.size] wr w9 := hE7.then_ hE9 (fun i hi => Or.inr (by rw [List.mem_singleton.1 hi]; exact Nat.le_refl _))
        have hb9 : w9.heap[w.heap.size]? = some (.cells #[.slice A5 n5 c5] 47 (0, 0)) :=
          hE9.obj ((hb7.block _ (Nat.lt_of_lt_of_le (blk_lt hbx5) hb6.size)).trans ((hb6.block _ (blk_lt hbx5)).trans hbx5)) (by simp; omega)
        have hT9 : Tears w9 A5 n5 tsr.tail := ((hT5.below hb6).below hb7).ext hE9 (fun i hi => by rw [List.mem_singleton.1 hi]; exact .of_cells hx7 (fun j x => by rcases j with _ | _ | j <;> simp))
        have hput := Dsk.put_mid (f' := ⟨f.name, l2, m⟩) Hrise.out rfl
        have hl2m := hB7.1
        have hfl9 : (done ++ f :: D.files.drop (k + 1)).length ≤ 1048576 := by
          have := HC.out.len
          rw [List.length_append, List.length_cons, List.length_drop]
          omega
        have g0 := hD9.c0
        have k0 := blk_cell hx9 0
        have k1 := blk_cell hx9 1
        have HE7 := Lib.hid hE7
        have HE9 := Lib.hid hE9
        have Hcf := Lib.hid hcf
        have Hput := Lib.hid hput
        have Hl2m := Lib.hid hl2m
        clear hE7 hE9 hcf hput hl2m hnb hnc7 hx7 p0 p1 p2 y0 y1 hb6 hb7 he5 q0 q1 r0 r1 hbx5 hT5 hown6 hB7 hOwn hBd hBt hX7 hnt hx4 hb4 b0 b1 hs1 hs2 hm hl2
        by_cases hm0 : m = 0
        · have hz1 : ((m : Int) == 0) = true := by simp [hm0]
          have Hm0 := Lib.hid hm0
          clear hm0
          go_still_tail 6, (by kernel_rfl)
          change wpList _ _ _ _ _ w9.drew
          go_wp2_with (first
            | (refine wpList_disk_store _ rfl _ _ _ rfl rfl ⟨f.name.toArray⟩ rfl _ rfl hD9.drew hs16 ⟨f.name, l2, m⟩ rfl hC9 hfl9 ?_; intro w10 hD10 he10; have he10 := (Ext.refl [mp] w9).drew.trans he10; have hx10 := he10.obj (g := wr.heap.size) hx9 (by simp; omega); have z0 := blk_cell hx10 0; have z1 := blk_cell hx10 1; have g1 := hD10.c0)
            | (refine wpList_disk_strike _ rfl _ _ rfl rfl ⟨f.name.toArray⟩ rfl hD10 hs16 ?_; intro w11 hD11 he11))
          go_roundw
          case rel =>
            have hlz : l2 = [] := List.eq_nil_of_length_eq_zero (Hl2m.out.trans Hm0.out)
            refine ⟨k + 1, done, tsr.tail, A5, n5, c5, by simp, HC.out.next hlt Hdrop.out Hcf.out (by simp [hlz]) ?_ ?_ ?_ hc5 ?_⟩
            · have := hD11
              rw [Hput.out] at this
              rw [show (⟨f.name.toArray⟩ : ByteArray).data.toList = f.name from rfl] at this
              rw [Dsk.del_mid (f := ⟨f.name, l2, m⟩) (Dsk.rising_of_names Hrise.out (by simp))] at this
              exact this
            · exact he11.obj (he10.obj hb9 (by simp; omega)) (by simp; omega)
            · exact (hT9.ext he10 (fun i hi => by rw [List.mem_singleton.1 hi]; exact hD9.noT mp (by simp))).ext he11 (fun i hi => by rw [List.mem_singleton.1 hi]; exact hD10.noT mp (by simp))
            · exact ((hR9.mono (fun i hi => Or.inl (by simp [List.mem_singleton.1 hi]))).then_ he10 (fun i hi => Or.inl (by simp [List.mem_singleton.1 hi]))).then_ he11 (fun i hi => Or.inl (by simp [List.mem_singleton.1 hi]))
          case measure => simp [intOf]; omega
        · have hz1 : ((m : Int) == 0) = false := by simp [hm0]
          have Hm0 := Lib.hid hm0
          clear hm0
          go_still_tail 6, (by kernel_rfl)
          change wpList _ _ _ _ _ w9.drew
          go_wp2_with (first
            | (refine wpList_disk_store _ rfl _ _ _ rfl rfl ⟨f.name.toArray⟩ rfl _ rfl hD9.drew hs16 ⟨f.name, l2, m⟩ rfl hC9 hfl9 ?_; intro w10 hD10 he10; have he10 := (Ext.refl [mp] w9).drew.trans he10; have hx10 := he10.obj (g := wr.heap.size) hx9 (by simp; omega); have z0 := blk_cell hx10 0; have z1 := blk_cell hx10 1; have g1 := hD10.c0))
          go_roundw
          case rel =>
            have hlz : l2 ≠ [] := fun e => Hm0.out (by have := Hl2m.out; rw [e] at this; exact this.symm)
            refine ⟨k + 1, done ++ [⟨f.name, l2, m⟩], tsr.tail, A5, n5, c5, by simp, HC.out.next hlt Hdrop.out Hcf.out (by simp [hlz]) ?_ ?_ ?_ hc5 ?_⟩
            · have := hD10
              rw [Hput.out] at this
              rw [List.append_assoc]
              exact this
            · exact he10.obj hb9 (by simp; omega)
            · exact hT9.ext he10 (fun i hi => by rw [List.mem_singleton.1 hi]; exact hD9.noT mp (by simp))
            · exact (hR9.mono (fun i hi => Or.inl (by simp [List.mem_singleton.1 hi]))).then_ he10 (fun i hi => Or.inl (by simp [List.mem_singleton.1 hi]))
          case measure => simp [intOf]; omega
      · have hkn0 : f.kept = n0 := by omega
        have hcf : Dsk.crashFile f tsr = (f, tsr) := by unfold Dsk.crashFile; rw [Hn0.out, if_neg hlo]
        have Hcf := Lib.hid hcf
        have hb4 : Below wr.heap.size wr (wr.alloc (.cells #[.slice A0 n0 c0, .int .i64 f.kept] 159)) := (Below.refl _ _).alloc (Nat.le_refl _) _
        have hD4 := Hdisk.out.below hb4
        have hwr : w.heap.size < wr.heap.size := blk_lt HC.out.box
        have hgt : decide ((f.kept : Int) < (n0 : Int)) = false := decide_eq_false (by omega)
        have hbx4 := (hb4.block _ hwr).trans HC.out.box
        have hT4 := HC.out.tears.below hb4
        have hR4 : Ext [d, mp, mt, w.heap.size] wr (wr.alloc (.cells #[.slice A0 n0 c0, .int .i64 f.kept] 159)) := Ext.of_below hb4
        have g1 := hD4.c0
        have hcap := HC.out.cap
        have hdr := Hdisk.out.lt_d
        have hmpr := Hdisk.out.lt_mp
        have Hb4 := Lib.hid hb4
        have HbxT := Lib.hid hbx4
        have HR4 := Lib.hid hR4
        clear hkn0 hcf hb4 hbx4 hR4
        by_cases hm0 : n0 = 0
        · have hz1 : ((n0 : Int) == 0) = true := by simp [hm0]
          have Hm0 := Lib.hid hm0
          clear hm0
          go_wp2_with (refine wpList_disk_strike _ rfl _ _ rfl rfl ⟨f.name.toArray⟩ rfl hD4 hs16 ?_; intro w11 hD11 he11)
          go_roundw
          case rel =>
            have hlz : f.all = [] := List.eq_nil_of_length_eq_zero (Hn0.out.trans Hm0.out)
            refine ⟨k + 1, done, tsr, At, nt, ct, by simp, HC.out.next hlt Hdrop.out Hcf.out (by simp [hlz]) ?_ ?_ ?_ hcap ?_⟩
            · have := hD11
              rw [show (⟨f.name.toArray⟩ : ByteArray).data.toList = f.name from rfl] at this
              rw [Dsk.del_mid Hrise.out] at this
              exact this
            · exact he11.obj HbxT.out (by simp; omega)
            · exact hT4.ext he11 (fun i hi => by rw [List.mem_singleton.1 hi]; exact hD4.noT mp (by simp))
            · exact HR4.out.then_ he11 (fun i hi => Or.inl (by simp [List.mem_singleton.1 hi]))
          case measure => simp [intOf]; omega
        · have hz1 : ((n0 : Int) == 0) = false := by simp [hm0]
          have Hm0 := Lib.hid hm0
          clear hm0
          go_wp2_with fail
          go_roundw
          case rel =>
            have hlz : f.all ≠ [] := fun e => Hm0.out (by have := Hn0.out; rw [e] at this; exact this.symm)
            refine ⟨k + 1, done ++ [f], tsr, At, nt, ct, by simp, HC.out.next hlt Hdrop.out Hcf.out (by simp [hlz]) ?_ HbxT.out hT4 hcap HR4.out⟩
            rw [List.append_assoc]
            exact hD4
          case measure => simp [intOf]; omega
    · have hge : k = D.files.length := by omega
      have HGE := Lib.hid hge
      clear hC hge
      go_wp2
      go_ret
      have h9 := HC.out.goes
      have h8 := HC.out.disk
      rw [HGE.out, List.drop_length] at h9 h8
      rw [List.append_nil] at h8
      simp only [Dsk.crashGo, List.append_nil] at h9
      refine ⟨rfl, ?_, HC.out.ext⟩
      rw [h9] at h8
      exact h8

end Go.Proofs.Ytcfgdlpdnpnhmaa
