/- The disk's map: an element stored, an element struck. -/
import Derived.Test.YtcfgdlpdnpnhmaaDisk3
set_option linter.unusedVariables false
set_option linter.unusedSimpArgs false
namespace Go.Proofs.Ytcfgdlpdnpnhmaa
open Go.RowKit Go.Maps Go.WideMaps

def insE (p : File × Value) : Ents → Ents
  | [] => [p]
  | y :: r => if bytesBefore p.1.name y.1.name then p :: y :: r else y :: insE p r
def delE (es : Ents) (n : Bs) : Ents := es.filter (fun p => !(p.1.name == n))
def putE (es : Ents) (p : File × Value) : Ents := insE p (delE es p.1.name)
theorem insE_fst (p : File × Value) : ∀ es : Ents, (insE p es).map (·.1) = Dsk.ins p.1 (es.map (·.1))
  | [] => rfl
  | y :: r => by
    simp only [insE, List.map_cons, Dsk.ins]
    split
    · simp
    · simp [insE_fst p r]
theorem delE_fst (es : Ents) (n : Bs) : (delE es n).map (·.1) = Dsk.del (es.map (·.1)) n := by
  unfold delE Dsk.del
  rw [List.filter_map]
  rfl
theorem putE_fst (es : Ents) (p : File × Value) : (putE es p).map (·.1) = Dsk.put (es.map (·.1)) p.1 := by
  unfold putE Dsk.put
  rw [insE_fst, delE_fst]
theorem mem_insE {p q : File × Value} : ∀ {es : Ents}, q ∈ insE p es → q = p ∨ q ∈ es
  | [], h => by simpa [insE] using h
  | y :: r, h => by
    simp only [insE] at h
    split at h
    · simpa using h
    · rcases List.mem_cons.1 h with h | h
      · exact Or.inr (by simp [h])
      · rcases mem_insE h with h | h
        · exact Or.inl h
        · exact Or.inr (by simp [h])
theorem mem_putE {p q : File × Value} {es : Ents} (h : q ∈ putE es p) : q = p ∨ q ∈ es := by
  rcases mem_insE h with h | h
  · exact Or.inl h
  · exact Or.inr (List.mem_filter.1 h).1
theorem insE_length (p : File × Value) : ∀ es : Ents, (insE p es).length = es.length + 1
  | [] => rfl
  | y :: r => by
    simp only [insE]
    split
    · rfl
    · simp [insE_length p r]
theorem dat_insE (p : File × Value) : ∀ es : Ents, (insE p es).map (fun q => ((Lit.string q.1.name, (.held q.2 : DataW Value)))) = DataW.insert (.string p.1.name, .held p.2) (es.map fun q => (.string q.1.name, .held q.2))
  | [] => rfl
  | y :: r => by
    simp only [insE, List.map_cons, DataW.insert, Lit.before]
    by_cases h : bytesBefore p.1.name y.1.name = true
    · simp [h]
    · simp [h, dat_insE p r]
theorem dat_put (es : Ents) (p : File × Value) : (dat es).put (.string p.1.name) (.held p.2) = dat (putE es p) := by
  unfold dat DataW.put putE
  dsimp only
  rw [dat_insE]
  congr 2
  unfold delE
  rw [List.filter_map]
  rfl
theorem dat_del (es : Ents) (n : Bs) : (dat es).del (.string n) = dat (delE es n) := by
  unfold dat DataW.del delE
  dsimp only
  rw [List.filter_map]
  rfl

theorem tight {w : World} {mp n : Nat} {es : Ents} (h : w.ownsMap Try.prog 9 RV mp n (dat es)) : w.ownsMap Try.prog 9 RV mp es.length (dat es) := by
  obtain ⟨es', c, hb, F, hs, hD⟩ := h
  refine ⟨es', c, hb, F, ?_, hD⟩
  have := congrArg Maps.size hD
  simp [dat, Maps.size, length_sorted] at this
  omega

section
variable {w : World} {d mp mt : Nat} {D : Dsk}
/-- 'd.files[name] = f'. -/
theorem IsDisk.store (h : IsDisk w d mp mt D) {s : ByteArray} (hs : s.size ≤ 9223372036854775807) {f : File} (hn : f.name = s.data.toList) {v : Value} (hv : Cont w v f) (hlen : D.files.length ≤ 1048576) :
    ∃ w', (Instr.mapUpdate 75 (.map (some mp)) (.string s) v).run Try.prog w = .ok () w' ∧ IsDisk w' d mp mt { D with files := Dsk.put D.files f } ∧ Ext [mp] w w' := by
  obtain ⟨es, he, hc, hown⟩ := h.map
  have hkey : keyOf Try.prog 9 (.string s) = some (.string s.data.toList) := keyOf_string_mk Try.underlying9 (by unfold maxLen; omega)
  have hl : es.length = D.files.length := by rw [← he, List.length_map]
  have hRv : RV v = some (.held v, []) := by
    obtain ⟨A, n, c, rfl, _⟩ := hv
    rfl
  obtain ⟨w', hrun, hown', hturn⟩ := hown.store law9 Try.underlying75 (by unfold maxLen; omega) hkey hRv
  have e : Ext [mp] w w' := by
    have := hturn.grown
    exact (Ext.refl _ _).grown this (fun k hk => Or.inl (by cases hk; simp))
  refine ⟨w', hrun, ⟨e.obj h.blk (by simpa using h.ne1), e.obj h.met (by simpa using Ne.symm h.ne3), putE es (f, v), ?_, ?_, ?_⟩, e⟩
  · rw [putE_fst, he]
  · intro p hp
    have hno : ∀ k, k ∈ [mp] → NoU8 w k := fun k hk => by rw [List.mem_singleton.1 hk]; exact h.nomp
    rcases mem_putE hp with rfl | hp
    · exact hv.ext e hno
    · exact (hc p hp).ext e hno
  · rw [← hn, dat_put es (f, v)] at hown'
    exact tight hown'
/-- 'delete(d.files, name)'. -/
theorem IsDisk.strike (h : IsDisk w d mp mt D) {s : ByteArray} (hs : s.size ≤ 9223372036854775807) (ty : TypeId) :
    ∃ w', (Builtin.delete_ #[75, 9] ty #[.map (some mp), .string s]).run Try.prog w = .ok (.tuple #[]) w' ∧ IsDisk w' d mp mt { D with files := Dsk.del D.files s.data.toList } ∧ Ext [mp] w w' := by
  obtain ⟨es, he, hc, hown⟩ := h.map
  have hkey : keyOf Try.prog 9 (.string s) = some (.string s.data.toList) := keyOf_string_mk Try.underlying9 (by unfold maxLen; omega)
  obtain ⟨w', hrun, hown', hturn⟩ := hown.drop law9 Try.underlying75 hkey ty
  have e : Ext [mp] w w' := by
    have := hturn.grown
    exact (Ext.refl _ _).grown this (fun k hk => Or.inl (by cases hk; simp))
  refine ⟨w', hrun, ⟨e.obj h.blk (by simpa using h.ne1), e.obj h.met (by simpa using Ne.symm h.ne3), delE es s.data.toList, ?_, ?_, ?_⟩, e⟩
  · rw [delE_fst, he]
  · intro p hp
    exact (hc p ((List.mem_filter.1 hp).1)).ext e (fun k hk => by rw [List.mem_singleton.1 hk]; exact h.nomp)
  · rw [dat_del] at hown'
    exact tight hown'
theorem IsDisk.len (h : IsDisk w d mp mt D) (ty : TypeId) : (Builtin.len_ #[75] ty #[.map (some mp)]).run Try.prog w = .ok (.int .i64 D.files.length) w := by
  obtain ⟨es, he, hc, hown⟩ := h.map
  have := hown.len Try.underlying75 ty
  rw [this]
  simp [dat, Maps.size, ← he]
end

section
variable {P : Program} (w : World) {ops : Array Oper} {rest : List Oper} {o : Oper} {a : Act} {Q : Exit → Act → World → Prop} {d mp mt : Nat} {D : Dsk}
theorem wpList_disk_store (hg : o.guard = none) (m x v : Operand) (hop : o.op = Op.mapUpdate 75 m x v) (hm : a.eval m = .map (some mp)) (s : ByteArray) (hx : a.eval x = .string s) (u : Value) (hv : a.eval v = u)
    (h : IsDisk w d mp mt D) (hs : s.size ≤ 9223372036854775807) (f : File) (hn : f.name = s.data.toList) (hc : Cont w u f) (hlen : D.files.length ≤ 1048576)
    (hK : ∀ w', IsDisk w' d mp mt { D with files := Dsk.put D.files f } → Ext [mp] w w' → wpList Try.prog ops Q rest (a.put o.dst undef) w') : wpList Try.prog ops Q (o :: rest) a w := by
  refine wpList_plain hg fun K' hK' => ?_
  obtain ⟨w', hrun, r1, r2⟩ := h.store hs hn hc hlen
  unfold Oper.wp
  simp [execOp, hop, hm, hx, hv, hrun, Result.andThen]
  exact hK' _ _ (hK w' r1 r2)
theorem wpList_disk_strike (hg : o.guard = none) (m x : Operand) (hop : o.op = Op.call { callee := Callee.builtin Builtin.delete, args := #[m, x], argTypes := #[75, 9] }) (hm : a.eval m = .map (some mp)) (s : ByteArray) (hx : a.eval x = .string s)
    (h : IsDisk w d mp mt D) (hs : s.size ≤ 9223372036854775807)
    (hK : ∀ w', IsDisk w' d mp mt { D with files := Dsk.del D.files s.data.toList } → Ext [mp] w w' → wpList Try.prog ops Q rest (a.put o.dst (.tuple #[])) w') : wpList Try.prog ops Q (o :: rest) a w := by
  refine wpList_plain hg fun K' hK' => ?_
  obtain ⟨w', hrun, r1, r2⟩ := h.strike hs o.type
  unfold Oper.wp
  simp [execOp, hop, resolve, invoke, builtin, hm, hx, hrun, Result.andThen]
  exact hK' _ _ (hK w' r1 r2)
end

theorem arm_calls (d mp mt : Nat) (D : Dsk) (k : Int) (w : World) (h : IsDisk w d mp mt D) :
    Calls Try.prog 40 #[.pointer (some ⟨d, 0, none⟩), .int .i64 k] w fun e w' => e = .returned (.int .i64 (D.arm k).2) ∧ Left w d mp mt (D.arm k).1 w' := by
  have hu := up_calls d mp mt D w h
  have f3 := h.fz 3
  have c3 := h.c3
  cases hd : D.down
  · rw [show upE D = 0 by unfold upE; rw [hd]; rfl] at hu
    by_cases hk : k < 0
    · rw [show D.arm k = (D, 2) by unfold Dsk.arm; rw [hd, if_neg (by simp), if_pos hk]]
      have HL : Left w d mp mt D w := ⟨h, Ext.refl _ _⟩
      have Hu := Lib.hid hu
      clear hu hd h
      go_enter Try.func40, Try.ntmps40
      go_wp2_with (go_at_call 99; refine Hu.out.mono ?_; rintro e w' ⟨rfl, rfl⟩)
      go_ret
      exact ⟨rfl, HL⟩
    · rw [show D.arm k = ({ D with armed := k }, 0) by unfold Dsk.arm; rw [hd, if_neg (by simp), if_neg hk]]
      have HL : Left w d mp mt { D with armed := k } (w.setCell ⟨d, 3, none⟩ (.int .i64 k)) := ⟨h.setArmed k, (Ext.refl _ _).setCell (Or.inl (by simp)) _⟩
      have Hu := Lib.hid hu
      clear hu hd h
      go_enter Try.func40, Try.ntmps40
      go_wp2_with (go_at_call 99; refine Hu.out.mono ?_; rintro e w' ⟨rfl, rfl⟩)
      go_ret
      exact ⟨rfl, HL⟩
  · rw [show upE D = 50 by unfold upE; rw [hd]; rfl] at hu
    rw [show D.arm k = (D, 50) by unfold Dsk.arm; rw [hd]; rfl]
    have HL : Left w d mp mt D w := ⟨h, Ext.refl _ _⟩
    have Hu := Lib.hid hu
    clear hu hd h
    go_enter Try.func40, Try.ntmps40
    go_wp2_with (go_at_call 99; refine Hu.out.mono ?_; rintro e w' ⟨rfl, rfl⟩)
    go_ret
    exact ⟨rfl, HL⟩

theorem resize_calls (d mp mt : Nat) (D : Dsk) (k : Int) (w : World) (h : IsDisk w d mp mt D) :
    Calls Try.prog 46 #[.pointer (some ⟨d, 0, none⟩), .int .i64 k] w fun e w' => e = .returned (.int .i64 (D.resize k).2) ∧ Left w d mp mt (D.resize k).1 w' := by
  have hu := up_calls d mp mt D w h
  have f3 := h.fz 1
  have c3 := h.c1
  cases hd : D.down
  · rw [show upE D = 0 by unfold upE; rw [hd]; rfl] at hu
    by_cases hk : k < 0
    · rw [show D.resize k = (D, 2) by unfold Dsk.resize; rw [hd, if_neg (by simp), if_pos (Or.inl hk)]]
      have HL : Left w d mp mt D w := ⟨h, Ext.refl _ _⟩
      have Hu := Lib.hid hu
      clear hu hd h
      go_enter Try.func46, Try.ntmps46
      go_wp2_with (go_at_call 99; refine Hu.out.mono ?_; rintro e w' ⟨rfl, rfl⟩)
      go_ret
      exact ⟨rfl, HL⟩
    · by_cases hk2 : 1048576 < k
      · rw [show D.resize k = (D, 2) by unfold Dsk.resize; rw [hd, if_neg (by simp), if_pos (Or.inr hk2)]]
        have HL : Left w d mp mt D w := ⟨h, Ext.refl _ _⟩
        have Hu := Lib.hid hu
        clear hu hd h
        go_enter Try.func46, Try.ntmps46
        go_wp2_with (go_at_call 99; refine Hu.out.mono ?_; rintro e w' ⟨rfl, rfl⟩)
        go_ret
        exact ⟨rfl, HL⟩
      · rw [show D.resize k = ({ D with room := k }, 0) by unfold Dsk.resize; rw [hd, if_neg (by simp), if_neg (by omega)]]
        have HL : Left w d mp mt { D with room := k } (w.setCell ⟨d, 1, none⟩ (.int .i64 k)) := ⟨h.setRoom k, (Ext.refl _ _).setCell (Or.inl (by simp)) _⟩
        have Hu := Lib.hid hu
        clear hu hd h
        go_enter Try.func46, Try.ntmps46
        go_wp2_with (go_at_call 99; refine Hu.out.mono ?_; rintro e w' ⟨rfl, rfl⟩)
        go_ret
        exact ⟨rfl, HL⟩
  · rw [show upE D = 50 by unfold upE; rw [hd]; rfl] at hu
    rw [show D.resize k = (D, 50) by unfold Dsk.resize; rw [hd]; rfl]
    have HL : Left w d mp mt D w := ⟨h, Ext.refl _ _⟩
    have Hu := Lib.hid hu
    clear hu hd h
    go_enter Try.func46, Try.ntmps46
    go_wp2_with (go_at_call 99; refine Hu.out.mono ?_; rintro e w' ⟨rfl, rfl⟩)
    go_ret
    exact ⟨rfl, HL⟩

theorem boot_calls (d mp mt : Nat) (D : Dsk) (w : World) (h : IsDisk w d mp mt D) :
    Calls Try.prog 47 #[.pointer (some ⟨d, 0, none⟩)] w fun e w' => e = .returned (.int .i64 0) ∧ Left w d mp mt D.boot w' := by
  have hu := none_calls d mp mt D w h
  have c2 := h.c2
  have f2 := h.fz 2
  have c3 := h.c3
  have f3 := h.fz 3
  have HL : Left w d mp mt D.boot ((w.setCell ⟨d, 2, none⟩ (.bool false)).setCell ⟨d, 3, none⟩ (.int .i64 (-1))) := ⟨(h.setDown false).setArmed (-1), ((Ext.refl _ _).setCell (Or.inl (by simp)) _).setCell (Or.inl (by simp)) _⟩
  have Hu := Lib.hid hu
  clear hu h
  go_enter Try.func47, Try.ntmps47
  go_wp2_with (go_at_call 93; refine Hu.out.mono ?_; rintro e w' ⟨rfl, rfl⟩)
  go_ret
  exact ⟨rfl, HL⟩

end Go.Proofs.Ytcfgdlpdnpnhmaa
