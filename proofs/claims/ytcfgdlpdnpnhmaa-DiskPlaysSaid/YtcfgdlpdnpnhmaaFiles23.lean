/- Contract of curfewlaw23.Files. -/
import Derived.Test.YtcfgdlpdnpnhmaaDFiles1
import Derived.Test.YtcfgdlpdnpnhmaaRef10
set_option linter.unusedVariables false
set_option linter.unusedSimpArgs false
namespace Go.Proofs.Ytcfgdlpdnpnhmaa
open Go.RowKit Go.Maps

theorem infoDS : (Try.prog.info? 66).map (fun i => (i.size)) = some 3 := by kernel_rfl
theorem run_dfile_index (ad : Addr) (n c k : Nat) (h : k < n) (w : World) : (Instr.indexAt 62 (.slice (some ad) n c) (.int .i64 k)).run Try.prog w = .ok (.pointer (some (ad.add (k * 3)))) w := by
  obtain ⟨i0, hi, hz1⟩ := Option.map_eq_some_iff.1 infoDS
  simp [Instr.indexAt, run_underlying Try.underlying62, sizeOf, typeInfo, hi, hz1, h, Result.andThen, asIntOf]

theorem DFiles.at {w : World} {base : Nat} {A : Option Addr} {n c : Nat} {l : List File} (h : DFiles w base (.slice A n c) l) {k : Nat} (hk : k < l.length) :
    ∃ ad b o A1 c1 A2 c2, A = some ad ∧ ad.add (k * 3) = ⟨b, o, none⟩ ∧ w.cell? ⟨b, o, none⟩ = some (encStr l[k].name) ∧ w.cell? ⟨b, o + 1, none⟩ = some (.slice A1 (l[k].all.take l[k].kept).length c1) ∧ w.cell? ⟨b, o + 2, none⟩ = some (.slice A2 (l[k].all.drop l[k].kept).length c2) ∧
      Bts w A1 (l[k].all.take l[k].kept).length (l[k].all.take l[k].kept) ∧ Bts w A2 (l[k].all.drop l[k].kept).length (l[k].all.drop l[k].kept) := by
  obtain ⟨us, hus, hown, hd⟩ := h
  have hku : k < us.length := by omega
  have hel := hd k hku hk
  obtain ⟨A1, c1, e1, o1⟩ := hel.kept
  obtain ⟨A2, c2, e2, o2⟩ := hel.loose
  obtain ⟨g, cap, hv, _, _⟩ := World.ownsRow.form hown (by omega)
  have hblk : (Value.slice A n c).ownBlock = some g := by rw [hv]; rfl
  have hcell := hown.cells hblk
  injection hv with hA hn hc
  have g0 := dvals_get us k hku 0 (by omega)
  have g1 := dvals_get us k hku 1 (by omega)
  have g2 := dvals_get us k hku 2 (by omega)
  have k0 := hcell _ _ g0
  have k1 := hcell _ _ g1
  have k2 := hcell _ _ g2
  rw [add0] at k0 k1 k2
  rw [e1] at o1
  rw [e2] at o2
  obtain ⟨B1, d1, f1, hb1, _⟩ := Bts.of_own o1
  obtain ⟨B2, d2, f2, hb2, _⟩ := Bts.of_own o2
  injection f1 with f1 _ _
  injection f2 with f2 _ _
  subst f1 f2
  refine ⟨⟨g, 0, none⟩, g, k * 3, A1, c1, A2, c2, hA, by rw [add0, Nat.zero_add], ?_, ?_, ?_, hb1, hb2⟩
  · rw [← hel.name, ← k0]; congr 2; omega
  · rw [← e1, ← k1]; congr 2; omega
  · rw [← e2, ← k2]; congr 2; omega
def RefFiles (w : World) (l : List File) (e : Ending) (w' : World) : Prop := ∃ A n c, e = .returned (.slice A n c) ∧ RFiles w' A n l ∧ n ≤ c ∧ Below w.heap.size w w'
set_option maxRecDepth 100000 in
set_option maxHeartbeats 4000000 in
theorem files23_calls (d mp mt : Nat) (D : Dsk) (w : World) (h : IsDisk w d mp mt D) (hok : D.Ok) :
    Calls Try.prog 37 #[.pointer (some ⟨d, 0, none⟩)] w (RefFiles w D.files) := by
  have Hfc := Lib.hid (files_calls d mp mt D w h hok)
  have Hkept := Lib.hid hok.kept
  have Hlen := Lib.hid (fun f (hf : f ∈ D.files) => Nat.le_trans (sum_le_mem _ f hf) hok.sum)
  have hmany := hok.many
  clear h hok
  go_enter Try.func37, Try.ntmps37
  go_wp2_with (go_at_call 38; refine Hfc.out.mono ?_; rintro e w2 ⟨v, rfl, hdf, hb2⟩; obtain ⟨An, cn, rfl⟩ : ∃ An cn, v = .slice An D.files.length cn := (by obtain ⟨us, hu, ho, _⟩ := hdf; exact own_shape ho); have Hdf := Lib.hid hdf; have Hb2 := Lib.hid hb2; clear hdf hb2)
  go_loopw [3, 9] (fun v i wr => ∃ (k : Nat), i = .int .i64 k ∧ k ≤ D.files.length ∧ wr.ownsRow w2.heap.size 60 3 v k (fvals (D.files.take k)) ∧ Below w2.heap.size w2 wr) (fun _ i _ => D.files.length - (intOf i).toNat)
  case atStart => exact ⟨0, rfl, Nat.zero_le _, World.ownsRow_nil _ _ _ _, Below.refl _ _⟩
  case round =>
    obtain ⟨k, rfl, hkn, hown, hbl⟩ := hrel
    have Hown := Lib.hid hown
    have Hbl := Lib.hid hbl
    have hle : w2.heap.size ≤ wr.heap.size := hbl.size
    clear hown hbl
    by_cases hlt : k < D.files.length
    · obtain ⟨ad, b, o, A1, c1, A2, c2, hA, had, q0, q1, q2, hB1, hB2⟩ := Hdf.out.at hlt
      have hx := Hkept.out _ (List.getElem_mem hlt)
      have hfl := Hlen.out _ (List.getElem_mem hlt)
      have htk : D.files.take (k + 1) = D.files.take k ++ [D.files[k]] := List.take_succ_eq_append_getElem hlt
      obtain ⟨f, hf⟩ : ∃ f, D.files[k] = f := ⟨_, rfl⟩
      rw [hf] at q0 q1 q2 hB1 hB2 hx hfl htk
      have Htk := Lib.hid htk
      have hk5 : (f.all.take f.kept).length = f.kept := by rw [List.length_take]; omega
      have hk6 : (f.all.drop f.kept).length = f.all.length - f.kept := List.length_drop
      rw [hk5] at q1 hB1
      rw [hk6] at q2 hB2
      have hix := fun W => run_dfile_index ad D.files.length cn k hlt W
      simp only [had] at hix
      rw [← hA] at hix
      have hwk : IntKind.i64.wrap ((k : Int) + 1) = (k : Int) + 1 := IntWalk.i64_in _ (by omega)
      have p0 := (Hbl.out.cell (cell_lt q0)).trans q0
      have p1 := (Hbl.out.cell (cell_lt q1)).trans q1
      have p2 := (Hbl.out.cell (cell_lt q2)).trans q2
      have hB1' := Lib.hid (hB1.below Hbl.out)
      have hB2' := Lib.hid (hB2.below Hbl.out)
      obtain ⟨n2, hn2⟩ : ∃ n2, f.all.length - f.kept = n2 := ⟨_, rfl⟩
      rw [hn2] at p2 hB2'
      clear htk hk5 hk6 had hA q0 q1 q2 hB1 hB2 hf
      go_upto_region 5 with fail
      obtain ⟨nm, hnm⟩ : ∃ nm : ByteArray, nm = { data := List.toArray f.name } := ⟨_, rfl⟩
      have hen : encStr f.name = .string nm := by rw [hnm]
      rw [hen, ← hnm]
      obtain ⟨w4, hw4⟩ : ∃ w4, w4 = wr.alloc (.cells #[.string nm, .slice A1 f.kept c1, .slice A2 n2 c2] 66) := ⟨_, rfl⟩
      rw [← hw4]
      have hb4 : Below wr.heap.size wr w4 := by rw [hw4]; exact al1 _ _
      have hx4 : w4.heap[wr.heap.size]? = some (.cells #[.string nm, .slice A1 f.kept c1, .slice A2 n2 c2] 66 (0, 0)) := by rw [hw4]; exact blk_new wr _
      have hz4 : w4.heap.size = wr.heap.size + 1 := by rw [hw4]; simp
      have b0 := blk_cell hx4 0
      have b1 := blk_cell hx4 1
      have b2 := blk_cell hx4 2
      have cv1 := run_to_str (hB1'.out.below hb4) c1
      have cv2 := run_to_str (hB2'.out.below hb4) c2
      obtain ⟨s1, hs1⟩ : ∃ s1 : ByteArray, s1 = ⟨(f.all.take f.kept).toArray⟩ := ⟨_, rfl⟩
      obtain ⟨s2, hs2⟩ : ∃ s2 : ByteArray, s2 = ⟨(f.all.drop f.kept).toArray⟩ := ⟨_, rfl⟩
      rw [← hs1] at cv1
      rw [← hs2] at cv2
      have hz1 : s1.size ≤ 1048576 := by rw [hs1]; show Array.size _ ≤ _; rw [List.size_toArray, List.length_take]; omega
      have hz2 : s2.size ≤ 1048576 := by rw [hs2]; show Array.size _ ≤ _; rw [List.size_toArray, List.length_drop]; omega
      have hadd := run_str_add2 s1 s2 (by omega)
      have hea : encStr f.all = .string (s1 ++ s2) := by
        rw [hs1, hs2]
        show Value.string _ = _
        congr 1
        apply ByteArray.ext
        simp
      have Hen := Lib.hid hen
      have Hea := Lib.hid hea
      have Hz4 := Lib.hid hz4
      have Hb4 := Lib.hid hb4
      have hown4 := Lib.hid (Hown.out.below' hb4)
      clear hw4 hb4 hx4 hz4 hs1 hs2 hea hen hnm p0 p1 p2 hix
      go_wp2_with (at_builtin; refine wpList_append_file _ rfl _ _ rfl w2.heap.size _ k (D.files.take k) rfl (hown4.out.alloc _) w4.heap.size 1 f rfl (by rw [Hen.out, Hea.out]; exact blk_new w4 _) (by omega) (by have := Hz4.out; simp; omega) ?_; intro v' w5 hown5 hgr5)
      go_roundw
      case rel =>
        have hb5 : Below w2.heap.size w2 w5 := ((Hbl.out.trans (Hb4.out.mono hle)).alloc (by have := Hz4.out; omega) _).grown hgr5 (by have := Hz4.out; simp; omega) (fun q hq => (Hown.out.lt q hq).1)
        exact ⟨k + 1, by simp, hlt, by rw [Htk.out]; exact hown5, hb5⟩
      case measure => simp [intOf]; omega
    · have hkn2 : k = D.files.length := by omega
      subst hkn2
      have hown := Hown.out
      rw [List.take_length] at hown
      obtain ⟨A3, c3, rfl, hf3, hc3⟩ := RFiles.of_own hown
      have Hf3 := Lib.hid hf3
      clear hown hf3
      go_wp2
      go_ret
      exact ⟨A3, _, c3, rfl, Hf3.out, hc3, Hb2.out.trans (Hbl.out.mono Hb2.out.size)⟩
end Go.Proofs.Ytcfgdlpdnpnhmaa
