/- Contracts and words (several texts merged by wip/merge.py). A disk in memory (IsDisk), and the contracts of its smallest functions. -/
import Derived.Test.YtcfgdlpdnpnhmaaSkAB
import Derived.Test.YtcfgdlpdnpnhmaaSkAA
import Derived.Maps.OwnSet
import Derived.Maps.RangeWalk
set_option linter.unusedVariables false
set_option linter.unusedSimpArgs false
namespace Go.Proofs.Ytcfgdlpdnpnhmaa
open Go.RowKit Go.Maps

/-- A byte of a list, as a number. -/
def u8 (l : Bs) (j : Nat) : Int := ((l.getD j 0).toNat : Int)
/-- From address A on n bytes stand: l. -/
def Bts (w : World) (A : Option Addr) (n : Nat) (l : Bs) : Prop :=
  l.length = n ∧ (0 < n → ∃ ad, A = some ad ∧ ∀ j, j < n → w.cell? (ad.add j) = some (.int .u8 (u8 l j)))
theorem block_of_add (a : Addr) (n : Nat) : (a.add n).block = a.block := by unfold Addr.add; split <;> rfl
theorem add_of_add (a : Addr) (i j : Nat) : (a.add i).add j = a.add (i + j) := by
  unfold Addr.add
  by_cases hi : i = 0 <;> by_cases hj : j = 0 <;> simp [hi, hj, Nat.add_assoc]
theorem Bts.nil (w : World) (A : Option Addr) : Bts w A 0 [] := ⟨rfl, fun h => absurd h (by omega)⟩
theorem Bts.keep {w w' : World} {A : Option Addr} {n : Nat} {l : Bs} (h : Bts w A n l) (hk : ∀ ad j, A = some ad → j < n → w'.cell? (ad.add j) = w.cell? (ad.add j)) : Bts w' A n l :=
  ⟨h.1, fun hn => by
    obtain ⟨ad, e, hc⟩ := h.2 hn
    exact ⟨ad, e, fun j hj => (hk ad j e hj).trans (hc j hj)⟩⟩
/-- Block k holds no byte. -/
def NoU8 (w : World) (k : Nat) : Prop := ∀ o x, w.cell? ⟨k, o, none⟩ ≠ some (.int .u8 x)
theorem cell_spot {w : World} {a : Addr} {v : Value} (h : w.cell? a = some v) : a = ⟨a.block, a.off, none⟩ := by
  obtain ⟨b, o, s⟩ := a
  cases s with
  | none => rfl
  | some s =>
    simp only [World.cell?] at h
    split at h <;> simp at h
theorem Bts.ext {S : List Nat} {w w' : World} {A : Option Addr} {n : Nat} {l : Bs} (h : Bts w A n l) (e : Ext S w w') (hs : ∀ k, k ∈ S → NoU8 w k) : Bts w' A n l := by
  refine ⟨h.1, fun hn => ?_⟩
  obtain ⟨ad, ea, hc⟩ := h.2 hn
  refine ⟨ad, ea, fun j hj => ?_⟩
  have h1 := hc j hj
  refine (e.cell (cell_lt h1) (fun hm => ?_)).trans h1
  have h2 := cell_spot h1
  rw [h2] at h1
  exact hs _ hm _ _ h1
theorem Bts.below {w w' : World} {A : Option Addr} {n : Nat} {l : Bs} (h : Bts w A n l) (e : Below w.heap.size w w') : Bts w' A n l :=
  h.ext (S := []) (Ext.of_below e) (fun k hk => by cases hk)
theorem NoU8.of_cells {w : World} {g : Nat} {cs : Array Value} {t : TypeId} {fr : Nat × Nat} (h : w.heap[g]? = some (.cells cs t fr)) (hn : ∀ (j : Nat) (x : Int), cs[j]? ≠ some (Value.int .u8 x)) : NoU8 w g := by
  intro o x hc
  rw [blk_cell h] at hc
  exact hn o x hc
theorem NoU8.of_map {w : World} {g : Nat} {es : Array MapEntry} {c : Nat} (h : w.heap[g]? = some (.map es c)) : NoU8 w g := by
  intro o x hc
  simp [World.cell?, h] at hc

/-- What the map's element at a key holds: the file's bytes, and how many are kept. -/
def Cont (w : World) (v : Value) (f : File) : Prop :=
  ∃ A n c, v = .agg #[.slice A n c, .int .i64 f.kept] ∧ Bts w A n f.all ∧ n ≤ c ∧ (A = none → c = 0)
/-- An element stands for itself. -/
def RV : Value → Option (DataW Value × List MemPlace)
  | .agg cs => match cs.toList with
    | [.slice A n c, .int .i64 k] => some (.held (.agg #[.slice A n c, .int .i64 k]), [])
    | _ => none
  | _ => none
def mkC (x : Option Addr × Nat × Nat × Int) : Value := .agg #[.slice x.1 x.2.1 x.2.2.1, .int .i64 x.2.2.2]
theorem RV_mk (A : Option Addr) (n c : Nat) (k : Int) : RV (.agg #[.slice A n c, .int .i64 k]) = some (.held (.agg #[.slice A n c, .int .i64 k]), []) := rfl
theorem RV_inv {v : Value} {y : DataW Value × List MemPlace} (h : RV v = some y) : (∃ x, v = mkC x) ∧ y = (.held v, []) := by
  unfold RV at h
  split at h
  · rename_i cs
    split at h
    · rename_i A n c k he
      have hv : cs = #[.slice A n c, .int .i64 k] := by apply Array.ext'; simpa using he
      subst hv
      exact ⟨⟨(A, n, c, k), rfl⟩, (Option.some.inj h).symm⟩
    · cases h
  · cases h
abbrev Ents := List (File × Value)
def dat (es : Ents) : DataW Value := .map (es.map fun p => (.string p.1.name, .held p.2))

/-- Block d is a disk that stands as D; its map is block mp, its meter block mt. -/
structure IsDisk (w : World) (d mp mt : Nat) (D : Dsk) : Prop where
  blk : w.heap[d]? = some (.cells #[.map (some mp), .int .i64 D.room, .bool D.down, .int .i64 D.armed, .pointer (some ⟨mt, 0, none⟩)] 78 (0, 0))
  met : IsMeter w mt D.steps
  map : ∃ es : Ents, es.map (·.1) = D.files ∧ (∀ p ∈ es, Cont w p.2 p.1) ∧ w.ownsMap Try.prog 9 RV mp es.length (dat es)

section
variable {w w' : World} {d mp mt : Nat} {D : Dsk}
theorem IsDisk.c0 (h : IsDisk w d mp mt D) : w.cell? ⟨d, 0, none⟩ = some (.map (some mp)) := blk_cell h.blk 0
theorem IsDisk.c1 (h : IsDisk w d mp mt D) : w.cell? ⟨d, 1, none⟩ = some (.int .i64 D.room) := blk_cell h.blk 1
theorem IsDisk.c2 (h : IsDisk w d mp mt D) : w.cell? ⟨d, 2, none⟩ = some (.bool D.down) := blk_cell h.blk 2
theorem IsDisk.c3 (h : IsDisk w d mp mt D) : w.cell? ⟨d, 3, none⟩ = some (.int .i64 D.armed) := blk_cell h.blk 3
theorem IsDisk.c4 (h : IsDisk w d mp mt D) : w.cell? ⟨d, 4, none⟩ = some (.pointer (some ⟨mt, 0, none⟩)) := blk_cell h.blk 4
theorem IsDisk.fz (h : IsDisk w d mp mt D) (i : Nat) : w.frozen? ⟨d, i, none⟩ = false := blk_frozen h.blk i
theorem IsDisk.nod (h : IsDisk w d mp mt D) : NoU8 w d := .of_cells h.blk (fun j x => by rcases j with _ | _ | _ | _ | _ | j <;> simp)
theorem IsDisk.nomt (h : IsDisk w d mp mt D) : NoU8 w mt := .of_cells h.met (fun j x => by
  rcases Nat.lt_or_ge j 17 with hj | hj
  · have : j = 0 ∨ j = 1 ∨ j = 2 ∨ j = 3 ∨ j = 4 ∨ j = 5 ∨ j = 6 ∨ j = 7 ∨ j = 8 ∨ j = 9 ∨ j = 10 ∨ j = 11 ∨ j = 12 ∨ j = 13 ∨ j = 14 ∨ j = 15 ∨ j = 16 := by omega
    rcases this with rfl | rfl | rfl | rfl | rfl | rfl | rfl | rfl | rfl | rfl | rfl | rfl | rfl | rfl | rfl | rfl | rfl <;> simp [meterCells]
  · rw [Array.getElem?_eq_none (by simpa [meterCells] using hj)]; simp)
theorem IsDisk.mapObj (h : IsDisk w d mp mt D) : ∃ es c, w.heap[mp]? = some (.map es c) := by
  obtain ⟨es, _, _, es', c, hb, _⟩ := h.map
  exact ⟨es', c, hb⟩
theorem IsDisk.nomp (h : IsDisk w d mp mt D) : NoU8 w mp := by
  obtain ⟨es, c, hb⟩ := h.mapObj
  exact .of_map hb
theorem IsDisk.no (h : IsDisk w d mp mt D) : ∀ k, k ∈ [d, mp, mt] → NoU8 w k := by
  intro k hk
  simp only [List.mem_cons, List.mem_nil_iff, or_false] at hk
  rcases hk with rfl | rfl | rfl
  · exact h.nod
  · exact h.nomp
  · exact h.nomt
theorem IsDisk.ne1 (h : IsDisk w d mp mt D) : d ≠ mp := by
  rintro rfl
  obtain ⟨es, c, hb⟩ := h.mapObj
  have := h.blk
  rw [hb] at this
  cases this
theorem IsDisk.ne2 (h : IsDisk w d mp mt D) : d ≠ mt := by
  rintro rfl
  have h1 := h.blk
  have h2 : w.heap[d]? = _ := h.met
  rw [h1] at h2
  simp only [Option.some.injEq, Obj.cells.injEq] at h2
  exact absurd h2.2.1 (by decide)
theorem IsDisk.ne3 (h : IsDisk w d mp mt D) : mp ≠ mt := by
  rintro rfl
  obtain ⟨es, c, hb⟩ := h.mapObj
  have h2 : w.heap[mp]? = _ := h.met
  rw [hb] at h2
  cases h2
theorem IsDisk.lt_d (h : IsDisk w d mp mt D) : d < w.heap.size := blk_lt h.blk
theorem IsDisk.lt_mt (h : IsDisk w d mp mt D) : mt < w.heap.size := blk_lt h.met
theorem IsDisk.lt_mp (h : IsDisk w d mp mt D) : mp < w.heap.size := by
  obtain ⟨es, c, hb⟩ := h.mapObj
  exact blk_lt hb
theorem Cont.ext {S : List Nat} {v : Value} {f : File} (h : Cont w v f) (e : Ext S w w') (hs : ∀ k, k ∈ S → NoU8 w k) : Cont w' v f := by
  obtain ⟨A, n, c, hv, hb, hc⟩ := h
  exact ⟨A, n, c, hv, hb.ext e hs, hc⟩
/-- The disk stays what it is while other blocks, which hold no byte, are written. -/
theorem IsDisk.ext {S : List Nat} (h : IsDisk w d mp mt D) (e : Ext S w w') (hs : ∀ k, k ∈ S → NoU8 w k) (h1 : d ∉ S) (h2 : mp ∉ S) (h3 : mt ∉ S) : IsDisk w' d mp mt D := by
  refine ⟨e.obj h.blk h1, e.obj h.met h3, ?_⟩
  obtain ⟨es, he, hc, es', c, hb, r⟩ := h.map
  exact ⟨es, he, fun p hp => (hc p hp).ext e hs, es', c, e.obj hb h2, r⟩
theorem IsDisk.below (h : IsDisk w d mp mt D) (e : Below w.heap.size w w') : IsDisk w' d mp mt D :=
  h.ext (S := []) (Ext.of_below e) (fun k hk => by cases hk) (by simp) (by simp) (by simp)
theorem IsDisk.alloc (h : IsDisk w d mp mt D) (o : Obj) : IsDisk (w.alloc o) d mp mt D := h.below ((Below.refl _ _).alloc (Nat.le_refl _) o)
theorem IsDisk.drew (h : IsDisk w d mp mt D) : IsDisk w.drew d mp mt D := h.below (Below.refl _ _).drew
end

theorem none_calls (d mp mt : Nat) (D : Dsk) (w : World) (h : IsDisk w d mp mt D) :
    Calls Try.prog 93 #[.pointer (some ⟨d, 0, none⟩)] w fun e w' => e = .returned (.bool false) ∧ w = w' := by
  have c0 := h.c0
  have hq := fun w' => run_eql_map_nil (P := Try.prog) w' 75 _ _ (some mp) Try.underlying75
  go_enter Try.func93, Try.ntmps93
  go_wp2
  go_ret
  exact ⟨rfl, rfl⟩

theorem down_calls (d mp mt : Nat) (D : Dsk) (w : World) (h : IsDisk w d mp mt D) :
    Calls Try.prog 32 #[.pointer (some ⟨d, 0, none⟩)] w fun e w' => e = .returned (.bool D.down) ∧ w = w' := by
  have c2 := h.c2
  go_enter Try.func32, Try.ntmps32
  go_wp2_with (go_at_call 93; refine (none_calls d mp mt D _ h).mono ?_; rintro e w' ⟨rfl, rfl⟩)
  go_ret
  exact ⟨rfl, rfl⟩

/-- What up answers. -/
def upE (D : Dsk) : Int := if D.down = true then 50 else 0
theorem up_calls (d mp mt : Nat) (D : Dsk) (w : World) (h : IsDisk w d mp mt D) :
    Calls Try.prog 99 #[.pointer (some ⟨d, 0, none⟩)] w fun e w' => e = .returned (.int .i64 (upE D)) ∧ w = w' := by
  have c2 := h.c2
  cases hd : D.down
  · rw [hd] at c2
    rw [show upE D = 0 by unfold upE; rw [hd]; rfl]
    clear hd
    go_enter Try.func99, Try.ntmps99
    go_wp2_with (go_at_call 93; refine (none_calls d mp mt D _ h).mono ?_; rintro e w' ⟨rfl, rfl⟩)
    go_ret
    exact ⟨rfl, rfl⟩
  · rw [hd] at c2
    rw [show upE D = 50 by unfold upE; rw [hd]; rfl]
    clear hd
    go_enter Try.func99, Try.ntmps99
    go_wp2_with (go_at_call 93; refine (none_calls d mp mt D _ h).mono ?_; rintro e w' ⟨rfl, rfl⟩)
    go_ret
    exact ⟨rfl, rfl⟩

theorem steps_calls (d mp mt : Nat) (D : Dsk) (w : World) (h : IsDisk w d mp mt D) :
    Calls Try.prog 35 #[.pointer (some ⟨d, 0, none⟩)] w fun e w' => e = .returned (.int .u64 D.steps) ∧ w = w' := by
  have c4 := h.c4
  have hm := h.met
  go_enter Try.func35, Try.ntmps35
  go_wp2_with (first
    | (go_at_call 93; refine (none_calls d mp mt D _ h).mono ?_; rintro e w' ⟨rfl, rfl⟩)
    | (go_at_call 96; refine (get_calls mt _ _ hm).mono ?_; rintro e w' ⟨rfl, rfl⟩))
  go_ret
  exact ⟨rfl, rfl⟩

theorem named_calls (s : ByteArray) (w : World) (hs : s.size ≤ 9223372036854775807) :
    Calls Try.prog 101 #[.string s] w fun e w' => e = .returned (.bool (Dsk.named s.data.toList)) ∧ w = w' := by
  have e1 : s.data.toList.length = s.size := by rw [Array.length_toList]; rfl
  have e2 : Dsk.named s.data.toList = decide (1 ≤ s.size ∧ s.size ≤ 16) := by unfold Dsk.named; rw [e1]
  rw [e2]
  clear e1 e2
  by_cases h1 : 1 ≤ s.size
  · by_cases h2 : s.size ≤ 16
    · go_enter Try.func101, Try.ntmps101
      go_wp2
      go_ret
      exact ⟨by simp [h1, h2]; omega, rfl⟩
    · go_enter Try.func101, Try.ntmps101
      go_wp2
      go_ret
      exact ⟨by simp [h1, h2]; omega, rfl⟩
  · go_enter Try.func101, Try.ntmps101
    go_wp2
    go_ret
    exact ⟨by simp, rfl⟩

end Go.Proofs.Ytcfgdlpdnpnhmaa
set_option linter.unusedVariables false
set_option linter.unusedSimpArgs false
namespace Go.Proofs.Ytcfgdlpdnpnhmaa
open Go.RowKit Go.Maps

section
variable {w w' : World} {d mp mt : Nat} {D : Dsk}
/-- The disk, two of its numbers being written. -/
theorem IsDisk.setDown (h : IsDisk w d mp mt D) (b : Bool) : IsDisk (w.setCell ⟨d, 2, none⟩ (.bool b)) d mp mt { D with down := b } := by
  have e : Ext [d] w (w.setCell ⟨d, 2, none⟩ (.bool b)) := (Ext.refl _ _).setCell (Or.inl (by simp)) _
  refine ⟨blk_set h.blk 2 _, e.obj h.met (by simpa using Ne.symm h.ne2), ?_⟩
  obtain ⟨es, he, hc, es', c, hb, r⟩ := h.map
  exact ⟨es, he, fun p hp => (hc p hp).ext e (fun k hk => by rw [List.mem_singleton.1 hk]; exact h.nod), es', c, e.obj hb (by simpa using Ne.symm h.ne1), r⟩
theorem IsDisk.setArmed (h : IsDisk w d mp mt D) (b : Int) : IsDisk (w.setCell ⟨d, 3, none⟩ (.int .i64 b)) d mp mt { D with armed := b } := by
  have e : Ext [d] w (w.setCell ⟨d, 3, none⟩ (.int .i64 b)) := (Ext.refl _ _).setCell (Or.inl (by simp)) _
  refine ⟨blk_set h.blk 3 _, e.obj h.met (by simpa using Ne.symm h.ne2), ?_⟩
  obtain ⟨es, he, hc, es', c, hb, r⟩ := h.map
  exact ⟨es, he, fun p hp => (hc p hp).ext e (fun k hk => by rw [List.mem_singleton.1 hk]; exact h.nod), es', c, e.obj hb (by simpa using Ne.symm h.ne1), r⟩
theorem IsDisk.setRoom (h : IsDisk w d mp mt D) (b : Int) : IsDisk (w.setCell ⟨d, 1, none⟩ (.int .i64 b)) d mp mt { D with room := b } := by
  have e : Ext [d] w (w.setCell ⟨d, 1, none⟩ (.int .i64 b)) := (Ext.refl _ _).setCell (Or.inl (by simp)) _
  refine ⟨blk_set h.blk 1 _, e.obj h.met (by simpa using Ne.symm h.ne2), ?_⟩
  obtain ⟨es, he, hc, es', c, hb, r⟩ := h.map
  exact ⟨es, he, fun p hp => (hc p hp).ext e (fun k hk => by rw [List.mem_singleton.1 hk]; exact h.nod), es', c, e.obj hb (by simpa using Ne.symm h.ne1), r⟩
theorem IsDisk.setSteps (h : IsDisk w d mp mt D) (n : Nat) : IsDisk (w.setCell ⟨mt, 0, none⟩ (.int .u64 n)) d mp mt { D with steps := n } := by
  have e : Ext [mt] w (w.setCell ⟨mt, 0, none⟩ (.int .u64 n)) := (Ext.refl _ _).setCell (Or.inl (by simp)) _
  refine ⟨e.obj h.blk (by simpa using h.ne2), h.met.set _, ?_⟩
  obtain ⟨es, he, hc, es', c, hb, r⟩ := h.map
  exact ⟨es, he, fun p hp => (hc p hp).ext e (fun k hk => by rw [List.mem_singleton.1 hk]; exact h.nomt), es', c, e.obj hb (by simpa using h.ne3), r⟩
end

/-- What a call of the disk leaves: the disk, and all else as it was. -/
structure Left (w : World) (d mp mt : Nat) (D : Dsk) (w' : World) : Prop where
  disk : IsDisk w' d mp mt D
  ext : Ext [d, mp, mt] w w'

theorem step_calls (d mp mt : Nat) (D : Dsk) (w : World) (h : IsDisk w d mp mt D) (hs : D.steps < 4611686018427387904) (ha : -1 ≤ D.armed) (ha2 : D.armed ≤ 9223372036854775807) :
    Calls Try.prog 102 #[.pointer (some ⟨d, 0, none⟩)] w fun e w' => e = .returned (.int .i64 D.step.2) ∧ Left w d mp mt D.step.1 w' := by
  have c4 := h.c4
  have hm := h.met
  have hs' : (D.steps : Int) < 4611686018427387904 := by omega
  -- behind the count
  obtain ⟨w1, hw1⟩ : ∃ w1, w1 = (w.alloc (.cells #[.int .u64 1] 24)).setCell ⟨mt, 0, none⟩ (.int .u64 ((D.steps : Int) + 1)) := ⟨_, rfl⟩
  have h1 : IsDisk w1 d mp mt { D with steps := D.steps + 1 } := by rw [hw1]; exact (h.alloc _).setSteps (D.steps + 1)
  have e1 : Ext [d, mp, mt] w w1 := by rw [hw1]; exact ((Ext.refl _ _).alloc _).setCell (Or.inl (by simp)) _
  have hadd : Calls Try.prog 137 #[.pointer (some ⟨mt, 0, none⟩), .int .i64 0, .int .u64 1] w fun e w' => e = .returned (.tuple #[.int .u64 ((D.steps : Int) + 1), .int .i64 0]) ∧ w1 = w' :=
    (add_calls mt D.steps w hm (by omega) hs').mono fun e w' ⟨a, b⟩ => ⟨a, by rw [hw1, b]⟩
  have Hadd := Lib.hid hadd
  clear hadd hm hs' hw1
  have c3 := h1.c3
  have f2 := h1.fz 2
  have f3 := h1.fz 3
  have c2 := h1.c2
  by_cases h0 : D.armed = 0
  · have hr : D.step = ({ D with steps := D.steps + 1, down := true, armed := -1 }, 50) := by unfold Dsk.step; rw [if_pos h0]
    rw [hr]
    have HL : Left w d mp mt { D with steps := D.steps + 1, down := true, armed := -1 } ((w1.setCell ⟨d, 2, none⟩ (.bool true)).setCell ⟨d, 3, none⟩ (.int .i64 (-1))) :=
      ⟨(h1.setDown true).setArmed (-1), (e1.setCell (Or.inl (by simp)) _).setCell (Or.inl (by simp)) _⟩
    have c3' : w1.cell? ⟨d, 3, none⟩ = some (.int .i64 0) := by rw [c3]; show some (Value.int .i64 D.armed) = _; rw [h0]
    clear c3 hr h0 h1 e1
    go_enter Try.func102, Try.ntmps102
    go_wp2_with (go_at_call 137; refine Hadd.out.mono ?_; rintro e w' ⟨rfl, rfl⟩)
    go_ret
    exact ⟨rfl, HL⟩
  · by_cases h2 : 0 < D.armed
    · have hr : D.step = ({ D with steps := D.steps + 1, armed := D.armed - 1 }, 0) := by unfold Dsk.step; rw [if_neg h0, if_pos h2]
      rw [hr]
      have HL : Left w d mp mt { D with steps := D.steps + 1, armed := D.armed - 1 } (w1.setCell ⟨d, 3, none⟩ (.int .i64 (D.armed - 1))) := ⟨h1.setArmed _, e1.setCell (Or.inl (by simp)) _⟩
      have h0b : (D.armed == 0) = false := beq_eq_false_iff_ne.2 h0
      clear hr h1 e1 h0
      go_enter Try.func102, Try.ntmps102
      go_wp2_with (go_at_call 137; refine Hadd.out.mono ?_; rintro e w' ⟨rfl, rfl⟩)
      go_ret
      exact ⟨rfl, HL⟩
    · have hr : D.step = ({ D with steps := D.steps + 1 }, 0) := by unfold Dsk.step; rw [if_neg h0, if_neg h2]
      rw [hr]
      have HL : Left w d mp mt { D with steps := D.steps + 1 } w1 := ⟨h1, e1⟩
      have h0b : (D.armed == 0) = false := beq_eq_false_iff_ne.2 h0
      clear hr h1 e1 h0
      go_enter Try.func102, Try.ntmps102
      go_wp2_with (go_at_call 137; refine Hadd.out.mono ?_; rintro e w' ⟨rfl, rfl⟩)
      go_ret
      exact ⟨rfl, HL⟩

end Go.Proofs.Ytcfgdlpdnpnhmaa
