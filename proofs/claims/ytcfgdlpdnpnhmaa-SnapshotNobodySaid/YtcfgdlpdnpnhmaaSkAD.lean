/- Contracts and words (several texts merged by wip/merge.py). Contracts of package disk: the look-up of a file. -/
import Derived.Test.YtcfgdlpdnpnhmaaSkAC
import Derived.ProofKit
set_option linter.unusedVariables false
set_option linter.unusedSimpArgs false
namespace Go.Proofs.Ytcfgdlpdnpnhmaa
open Go.RowKit Go.Maps Go.WideMaps

theorem law9 : Keyed Try.prog 9 := string_keyed Try.underlying9
theorem zeroC (w : World) : (zeroValue 159).run Try.prog w = .ok (.agg #[.slice none 0 0, .int .i64 0]) w := by kernel_rfl

theorem mem_find {l : List File} {n : Bs} {f : File} (h : Dsk.find l n = some f) : f ∈ l ∧ f.name = n := by
  unfold Dsk.find at h
  exact ⟨List.mem_of_find?_eq_some h, by simpa using List.find?_some h⟩
theorem find_none {l : List File} {n : Bs} (h : Dsk.find l n = none) : ∀ f ∈ l, f.name ≠ n := by
  unfold Dsk.find at h
  intro f hf e
  have := List.find?_eq_none.1 h f hf
  simp [e] at this

theorem sameKey_str (a b : Bs) : (Lit.string a).sameKey (.string b) = (a == b) := rfl
theorem ents_find (es : Ents) (n : Bs) : (es.map fun p => ((Lit.string p.1.name, (.held p.2 : DataW Value)))).find? (fun p => p.1.sameKey (.string n)) = (es.find? fun p => p.1.name == n).map fun p => (.string p.1.name, .held p.2) := by
  rw [List.find?_map]
  rfl
theorem ents_fst (es : Ents) (n : Bs) : (es.find? fun p => p.1.name == n).map (·.1) = Dsk.find (es.map (·.1)) n := by
  unfold Dsk.find
  rw [List.find?_map]
  rfl
theorem atKey_dat (es : Ents) (n : Bs) (z : DataW Value) : (dat es).atKey (.string n) z = match es.find? (fun p => p.1.name == n) with | some p => .held p.2 | none => z := by
  unfold dat DataW.atKey
  dsimp only
  rw [ents_find]
  cases es.find? fun p => p.1.name == n <;> rfl
theorem has_dat (es : Ents) (n : Bs) : Maps.has (dat es) (.string n) = (Dsk.find (es.map (·.1)) n).isSome := by
  rw [← ents_fst]
  unfold dat
  rw [Maps.has_eq, List.any_map, Option.isSome_map, Bool.eq_iff_iff, List.find?_isSome]
  simp [sameKey_str]

theorem toList_length (s : ByteArray) : s.data.toList.length = s.size := by rw [Array.length_toList]; rfl

section
variable {w : World} {d mp mt : Nat} {D : Dsk}
/-- 'd.files[name]', the file is there: its value, in each world that has the map as it is. -/
theorem IsDisk.look_some (h : IsDisk w d mp mt D) {s : ByteArray} (hs : s.size ≤ 9223372036854775807) {f : File} (hf : Dsk.find D.files s.data.toList = some f) :
    ∃ A n c, Bts w A n f.all ∧ n ≤ c ∧ (A = none → c = 0) ∧ ∀ W : World, W.heap[mp]? = w.heap[mp]? →
      (Instr.lookup 75 (.map (some mp)) (.string s) true).run Try.prog W = .ok (.tuple #[.agg #[.slice A n c, .int .i64 f.kept], .bool true]) W ∧
      (Instr.lookup 75 (.map (some mp)) (.string s) false).run Try.prog W = .ok (.agg #[.slice A n c, .int .i64 f.kept]) W := by
  obtain ⟨es, he, hc, hown⟩ := h.map
  rw [← he, ← ents_fst] at hf
  obtain ⟨p, hp, rfl⟩ := Option.map_eq_some_iff.1 hf
  have hm := List.mem_of_find?_eq_some hp
  obtain ⟨A, n, c, hv, hb, hnc, hA⟩ := hc p hm
  refine ⟨A, n, c, hb, hnc, hA, fun W hW => ?_⟩
  have hownW : W.ownsMap Try.prog 9 RV mp es.length (dat es) := by
    obtain ⟨es', cl, hb', r⟩ := hown
    exact ⟨es', cl, hW.trans hb', r⟩
  have hkey : keyOf Try.prog 9 (.string s) = some (.string s.data.toList) := keyOf_string_mk Try.underlying9 (by unfold maxLen; omega)
  obtain ⟨v, ps, hrun, hR⟩ := hownW.look_ok law9 Try.underlying75 (zeroC W) (zd := .held (.agg #[.slice none 0 0, .int .i64 0])) (zp := []) rfl hkey
  obtain ⟨v', ps', hrun', hR'⟩ := hownW.lookup law9 Try.underlying75 (zeroC W) (zd := .held (.agg #[.slice none 0 0, .int .i64 0])) (zp := []) rfl hkey
  rw [atKey_dat, hp] at hR hR'
  have hvv : v = p.2 := by have := (RV_inv hR).2; simp only [Prod.mk.injEq, DataW.held.injEq] at this; exact this.1.symm
  have hvv' : v' = p.2 := by have := (RV_inv hR').2; simp only [Prod.mk.injEq, DataW.held.injEq] at this; exact this.1.symm
  have hh : Maps.has (dat es) (.string s.data.toList) = true := by rw [has_dat, ← ents_fst, hp]; rfl
  rw [hvv, hv, hh] at hrun
  rw [hvv', hv] at hrun'
  exact ⟨hrun, hrun'⟩
/-- .. the file is not there. -/
theorem IsDisk.look_none (h : IsDisk w d mp mt D) {s : ByteArray} (hs : s.size ≤ 9223372036854775807) (hf : Dsk.find D.files s.data.toList = none) :
    ∀ W : World, W.heap[mp]? = w.heap[mp]? →
      (Instr.lookup 75 (.map (some mp)) (.string s) true).run Try.prog W = .ok (.tuple #[.agg #[.slice none 0 0, .int .i64 0], .bool false]) W := by
  intro W hW
  obtain ⟨es, he, hc, hown⟩ := h.map
  have hp : es.find? (fun p => p.1.name == s.data.toList) = none := by
    rw [← he, ← ents_fst] at hf
    exact Option.map_eq_none_iff.1 hf
  have hownW : W.ownsMap Try.prog 9 RV mp es.length (dat es) := by
    obtain ⟨es', cl, hb', r⟩ := hown
    exact ⟨es', cl, hW.trans hb', r⟩
  have hkey : keyOf Try.prog 9 (.string s) = some (.string s.data.toList) := keyOf_string_mk Try.underlying9 (by unfold maxLen; omega)
  obtain ⟨v, ps, hrun, hR⟩ := hownW.look_ok law9 Try.underlying75 (zeroC W) (zd := .held (.agg #[.slice none 0 0, .int .i64 0])) (zp := []) rfl hkey
  rw [atKey_dat, hp] at hR
  have hvv : v = .agg #[.slice none 0 0, .int .i64 0] := by have := (RV_inv hR).2; simp only [Prod.mk.injEq, DataW.held.injEq] at this; exact this.1.symm
  have hh : Maps.has (dat es) (.string s.data.toList) = false := by rw [has_dat, ← ents_fst, hp]; rfl
  rw [hvv, hh] at hrun
  exact hrun
end

/-- What 'file' answers where the file is there. -/
def FileSome (w : World) (f : File) (e : Ending) (w' : World) : Prop :=
  ∃ A n c, e = .returned (.tuple #[.agg #[.slice A n c, .int .i64 f.kept], .int .i64 0]) ∧ Bts w A n f.all ∧ n ≤ c ∧ (A = none → c = 0) ∧ Below w.heap.size w w'

theorem file_some (d mp mt : Nat) (D : Dsk) (s : ByteArray) (f : File) (w : World) (h : IsDisk w d mp mt D) (hs : s.size ≤ 9223372036854775807) (hd : D.down = false) (hf : Dsk.find D.files s.data.toList = some f) :
    Calls Try.prog 100 #[.pointer (some ⟨d, 0, none⟩), .string s] w (FileSome w f) := by
  obtain ⟨A, n, c, hb, hnc, hA, hl⟩ := h.look_some hs hf
  have h1 := h.alloc (.cells #[.slice none 0 0, .int .i64 0] 159)
  have hu := up_calls d mp mt D _ h1
  rw [show upE D = 0 by unfold upE; rw [hd]; rfl] at hu
  have Hu := Lib.hid hu
  have hl1 := (hl (w.alloc (.cells #[.slice none 0 0, .int .i64 0] 159)) (Below.heap_alloc _ _ _ h.lt_mp)).1
  have c0 := h1.c0
  have HA := Lib.hid hA
  clear hu hl hd hf h hA
  go_enter Try.func100, Try.ntmps100
  go_wp2_with (go_at_call 99; refine Hu.out.mono ?_; rintro e w' ⟨rfl, rfl⟩)
  exact bodyPost_ret (v := .tuple #[.agg #[.slice A n c, .int .i64 f.kept], .int .i64 0]) (by simp [results, Try.results100, go_sem]) rfl ⟨A, n, c, rfl, hb, hnc, HA.out, ((((Below.refl _ _).alloc (Nat.le_refl _) _).alloc (by simp) _).mono (by simp))⟩

/-- What 'file' answers where it has none. -/
def FileNo (w : World) (c : Int) (e : Ending) (w' : World) : Prop :=
  e = .returned (.tuple #[.agg #[.slice none 0 0, .int .i64 0], .int .i64 c]) ∧ Below w.heap.size w w'

theorem file_none (d mp mt : Nat) (D : Dsk) (s : ByteArray) (w : World) (h : IsDisk w d mp mt D) (hs : s.size ≤ 9223372036854775807) (hd : D.down = false) (hf : Dsk.find D.files s.data.toList = none) :
    Calls Try.prog 100 #[.pointer (some ⟨d, 0, none⟩), .string s] w (FileNo w 31) := by
  have hl := h.look_none hs hf
  have h1 := h.alloc (.cells #[.slice none 0 0, .int .i64 0] 159)
  have hu := up_calls d mp mt D _ h1
  rw [show upE D = 0 by unfold upE; rw [hd]; rfl] at hu
  have Hu := Lib.hid hu
  have hl1 := hl (w.alloc (.cells #[.slice none 0 0, .int .i64 0] 159)) (Below.heap_alloc _ _ _ h.lt_mp)
  have c0 := h1.c0
  clear hu hl hd hf h
  go_enter Try.func100, Try.ntmps100
  go_wp2_with (go_at_call 99; refine Hu.out.mono ?_; rintro e w' ⟨rfl, rfl⟩)
  exact bodyPost_ret (v := .tuple #[.agg #[.slice none 0 0, .int .i64 0], .int .i64 31]) (by simp [results, Try.results100, go_sem]) rfl ⟨rfl, ((((Below.refl _ _).alloc (Nat.le_refl _) _).alloc (by simp) _).mono (by simp))⟩

theorem file_down (d mp mt : Nat) (D : Dsk) (s : ByteArray) (w : World) (h : IsDisk w d mp mt D) (hd : D.down = true) :
    Calls Try.prog 100 #[.pointer (some ⟨d, 0, none⟩), .string s] w (FileNo w 50) := by
  have h1 := h.alloc (.cells #[.slice none 0 0, .int .i64 0] 159)
  have hu := up_calls d mp mt D _ h1
  rw [show upE D = 50 by unfold upE; rw [hd]; rfl] at hu
  have Hu := Lib.hid hu
  clear hu hd h
  go_enter Try.func100, Try.ntmps100
  go_wp2_with (go_at_call 99; refine Hu.out.mono ?_; rintro e w' ⟨rfl, rfl⟩)
  exact bodyPost_ret (v := .tuple #[.agg #[.slice none 0 0, .int .i64 0], .int .i64 50]) (by simp [results, Try.results100, go_sem]) rfl ⟨rfl, (Below.refl _ _).alloc (Nat.le_refl _) _⟩

end Go.Proofs.Ytcfgdlpdnpnhmaa
