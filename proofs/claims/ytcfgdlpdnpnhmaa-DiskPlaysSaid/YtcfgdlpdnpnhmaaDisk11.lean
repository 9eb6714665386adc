/- Contract of package disk: the closure of Crash that gives the next tear. -/
import Derived.Test.YtcfgdlpdnpnhmaaDisk10
set_option linter.unusedVariables false
set_option linter.unusedSimpArgs false
namespace Go.Proofs.Ytcfgdlpdnpnhmaa
open Go.RowKit Go.Maps Go.WideMaps

/-- From address A on n tears stand: ts. -/
def Tears (w : World) (A : Option Addr) (n : Nat) (ts : List (Nat × Nat)) : Prop :=
  ts.length = n ∧ (∀ p ∈ ts, p.1 < 65536 ∧ p.2 < 4294967296) ∧
  (0 < n → ∃ ad, A = some ad ∧ ∀ j, j < n → w.cell? (ad.add (j * 2)) = some (.int .u16 (ts.getD j (0, 0)).1) ∧ w.cell? (ad.add (j * 2 + 1)) = some (.int .u32 (ts.getD j (0, 0)).2))
/-- A block that holds none of a tear's numbers. -/
def NoT (w : World) (k : Nat) : Prop := ∀ o x, w.cell? ⟨k, o, none⟩ ≠ some (.int .u16 x) ∧ w.cell? ⟨k, o, none⟩ ≠ some (.int .u32 x)
theorem Tears.ext {S : List Nat} {w w' : World} {A : Option Addr} {n : Nat} {ts : List (Nat × Nat)} (h : Tears w A n ts) (e : Ext S w w') (hs : ∀ k, k ∈ S → NoT w k) : Tears w' A n ts := by
  refine ⟨h.1, h.2.1, fun hn => ?_⟩
  obtain ⟨ad, ea, hc⟩ := h.2.2 hn
  refine ⟨ad, ea, fun j hj => ?_⟩
  obtain ⟨h1, h2⟩ := hc j hj
  constructor
  · refine (e.cell (cell_lt h1) (fun hm => ?_)).trans h1
    have h3 := cell_spot h1
    rw [h3] at h1
    exact (hs _ hm _ _).1 h1
  · refine (e.cell (cell_lt h2) (fun hm => ?_)).trans h2
    have h3 := cell_spot h2
    rw [h3] at h2
    exact (hs _ hm _ _).2 h2
theorem Tears.below {w w' : World} {A : Option Addr} {n : Nat} {ts : List (Nat × Nat)} (h : Tears w A n ts) (e : Below w.heap.size w w') : Tears w' A n ts := h.ext (S := []) (Ext.of_below e) (fun k hk => by cases hk)
theorem Tears.tail {w : World} {A : Option Addr} {n c : Nat} {ts : List (Nat × Nat)} (h : Tears w A n ts) (h0 : 0 < n) (hc : n ≤ c) : Tears w (if c = 1 then A else A.map (·.add 2)) (n - 1) ts.tail := by
  refine ⟨by rw [List.length_tail, h.1], fun p hp => h.2.1 p (List.mem_of_mem_tail hp), fun hn => ?_⟩
  obtain ⟨ad, rfl, hcell⟩ := h.2.2 h0
  rw [if_neg (by omega)]
  refine ⟨ad.add 2, rfl, fun j hj => ?_⟩
  have := hcell (j + 1) (by omega)
  rw [add_of_add, add_of_add, show 2 + j * 2 = (j + 1) * 2 by omega, show 2 + (j * 2 + 1) = (j + 1) * 2 + 1 by omega]
  have hg : ts.tail.getD j (0, 0) = ts.getD (j + 1) (0, 0) := by cases ts <;> simp
  rw [hg]
  exact this
theorem NoT.of_cells {w : World} {g : Nat} {cs : Array Value} {t : TypeId} {fr : Nat × Nat} (h : w.heap[g]? = some (.cells cs t fr)) (hn : ∀ (j : Nat) (x : Int), cs[j]? ≠ some (Value.int .u16 x) ∧ cs[j]? ≠ some (Value.int .u32 x)) : NoT w g := by
  intro o x
  rw [blk_cell h]
  exact hn o x

theorem info142 : (Try.prog.info? 142).map (fun i => (i.size)) = some 2 := by kernel_rfl
theorem run_tear_index (ad : Addr) (n c : Nat) (h : 0 < n) (w : World) : (Instr.indexAt 47 (.slice (some ad) n c) (.int .i64 0)).run Try.prog w = .ok (.pointer (some ad)) w := by
  obtain ⟨i0, hi, hz1⟩ := Option.map_eq_some_iff.1 info142
  simp [Instr.indexAt, run_underlying Try.underlying47, sizeOf, typeInfo, hi, hz1, h, Result.andThen, asIntOf, Addr.add]
theorem run_tear_tail (A : Option Addr) (n c : Nat) (h : 0 < n) (hc : n ≤ c) (w : World) : (Instr.slice 47 (.slice A n c) (some (.int .i64 1)) none none).run Try.prog w = .ok (.slice (if c = 1 then A else A.map (·.add 2)) (n - 1) (c - 1)) w := by
  obtain ⟨i0, hi, hz1⟩ := Option.map_eq_some_iff.1 info142
  have h1 : (1 : Int) ≤ n := by omega
  simp [Instr.slice, run_underlying Try.underlying47, Instr.sliceBounds, Instr.sliceBound, sizeOf, typeInfo, hi, hz1, h1, Result.andThen, asIntOf]

theorem setCell_same {w : World} {b o : Nat} {v : Value} (h : w.cell? ⟨b, o, none⟩ = some v) : w.setCell ⟨b, o, none⟩ v = w := by
  unfold World.setCell
  have e : w.heap.modify b (fun | .cells c elem frozen => .cells (if (none : Option Nat).isSome then c else c.setIfInBounds o v) elem frozen | x => x) = w.heap := by
    apply Array.ext_getElem?
    intro i
    rw [Array.getElem?_modify]
    split
    · rename_i hb
      subst hb
      simp only [World.cell?] at h
      cases hh : w.heap[b]? with
      | none => rfl
      | some x =>
        rw [hh] at h
        cases x with
        | cells c e f =>
          simp only [Option.isSome_none, Bool.false_eq_true, if_false] at h
          simp only [Option.map_some, Option.isSome_none, Bool.false_eq_true, if_false]
          congr 2
          apply Array.ext_getElem?
          intro j
          rw [Array.getElem?_setIfInBounds]
          split
          · rename_i hj
            subst hj
            split
            · exact h.symm
            · rename_i hsz
              rw [Array.getElem?_eq_none (by omega)]
          · rfl
        | _ => rfl
    · rfl
  exact congrArg (fun hp => ({ w with heap := hp } : World)) e

/-- What 'next' gives: the first of the tears that are left (none: no tear), and what is left behind it. -/
def NextGives (w : World) (bx : Nat) (ts : List (Nat × Nat)) (e : Ending) (w' : World) : Prop :=
  ∃ A n c, e = .returned (.agg #[.int .u16 (ts.headD (0, 0)).1, .int .u32 (ts.headD (0, 0)).2]) ∧ w'.heap[bx]? = some (.cells #[.slice A n c] 47 (0, 0)) ∧ Tears w' A n ts.tail ∧ n ≤ c ∧ Ext [bx] w w'

set_option maxRecDepth 100000 in
theorem next_calls (bx : Nat) (A : Option Addr) (n c : Nat) (ts : List (Nat × Nat)) (w : World) (hb : w.heap[bx]? = some (.cells #[.slice A n c] 47 (0, 0))) (h : Tears w A n ts) (hc : n ≤ c) :
    Calls Try.prog 97 #[.pointer (some ⟨bx, 0, none⟩)] w (NextGives w bx ts) := by
  have c0 := blk_cell hb 0
  have f0 := blk_frozen hb 0
  have hlt := blk_lt hb
  have hbx1 := blk_alloc hb (.cells #[.int .u16 0, .int .u32 0] 142)
  rcases Nat.eq_zero_or_pos n with h0 | h0
  · subst h0
    have hts : ts = [] := List.eq_nil_of_length_eq_zero h.1
    subst hts
    go_enter Try.func97, Try.ntmps97
    go_wp2
    exact bodyPost_ret (v := .agg #[.int .u16 0, .int .u32 0]) (by simp [results, Try.results97, go_sem]) rfl ⟨A, 0, c, rfl, hbx1, h.below ((Below.refl _ _).alloc (Nat.le_refl _) _), hc, (Ext.refl _ _).alloc _⟩
  · obtain ⟨ad, rfl, hcell⟩ := h.2.2 h0
    obtain ⟨k0, k1⟩ := hcell 0 h0
    rw [Nat.zero_mul, show ad.add 0 = ad by simp [Addr.add]] at k0
    rw [Nat.zero_mul, Nat.zero_add] at k1
    obtain ⟨tb, to, rfl⟩ : ∃ tb to, ad = ⟨tb, to, none⟩ := ⟨_, _, cell_spot k0⟩
    rw [add0] at k1
    have htd : ts.getD 0 (0, 0) = ts.headD (0, 0) := by cases ts <;> rfl
    rw [htd] at k0 k1
    obtain ⟨tk, tt, htk⟩ : ∃ tk tt, ts.headD (0, 0) = (tk, tt) := ⟨_, _, rfl⟩
    rw [htk] at k0 k1
    have Htk := Lib.hid htk
    clear htd htk
    dsimp only at k0 k1
    have hsl := run_tear_tail (some ⟨tb, to, none⟩) n c h0 hc
    have hix := fun W => run_tear_index ⟨tb, to, none⟩ n c h0 W
    clear hcell
    have htl := h.tail (c := c) h0 hc
    obtain ⟨A2, hA2⟩ : ∃ A2, (if c = 1 then some (⟨tb, to, none⟩ : Addr) else Option.map (fun x => x.add 2) (some (⟨tb, to, none⟩ : Addr))) = A2 := ⟨_, rfl⟩
    rw [hA2] at htl
    simp only [hA2] at hsl
    clear hA2
    have hnt : NoT w bx := .of_cells hb (fun j x => by rcases j with _ | j <;> simp)
    obtain ⟨w1, hw1⟩ : ∃ w1, w1 = w.alloc (.cells #[.int .u16 0, .int .u32 0] 142) := ⟨_, rfl⟩
    have hbw : Below w.heap.size w w1 := by rw [hw1]; exact (Below.refl _ _).alloc (Nat.le_refl _) _
    have hnew : w1.heap[w.heap.size]? = some (.cells #[.int .u16 0, .int .u32 0] 142 (0, 0)) := by rw [hw1]; exact blk_new w _
    rw [← hw1] at hbx1
    have c1 := blk_cell hbx1 0
    have f1 := blk_frozen hbx1 0
    have r0 := blk_cell hnew 0
    have r1 := blk_cell hnew 1
    have g0 := blk_frozen hnew 0
    have g1 := blk_frozen hnew 1
    have k2 : w1.cell? ⟨tb, to, none⟩ = some (.int .u16 tk) := (hbw.cell (cell_lt k0)).trans k0
    have k3 : w1.cell? ⟨tb, to + 1, none⟩ = some (.int .u32 tt) := (hbw.cell (cell_lt k1)).trans k1
    go_enter Try.func97, Try.ntmps97
    go_wp2
    rw [← hw1]
    have Hw1 := Lib.hid hw1
    clear hw1 c0 f0 k0 k1
    go_region
    obtain ⟨w2, hw2⟩ : ∃ w2, w2 = (((w1.setCell ⟨w.heap.size, 0, none⟩ (.int .u16 tk)).setCell ⟨w.heap.size, 1, none⟩ (.int .u32 tt)).setCell ⟨bx, 0, none⟩
        (.slice A2 (n - 1) (c - 1))).drew := ⟨_, rfl⟩
    rw [← hw2]
    have hne : w.heap.size ≠ bx := by omega
    have q1 : w2.heap[w.heap.size]? = some (.cells #[.int .u16 tk, .int .u32 tt] 142 (0, 0)) := by
      rw [hw2]
      exact blk_far (blk_set (blk_set hnew 0 _) 1 _) hne _
    have q2 : w2.heap[bx]? = some (.cells #[.slice A2 (n - 1) (c - 1)] 47 (0, 0)) := by
      rw [hw2]
      exact blk_set (blk_far (blk_far hbx1 (Ne.symm hne) _) (Ne.symm hne) _) 0 _
    have q3 : Ext [bx] w w2 := by
      rw [hw2]
      exact ((((Ext.of_below hbw).setCell (Or.inr (Nat.le_refl _)) _).setCell (Or.inr (Nat.le_refl _)) _).setCell (Or.inl (by simp)) _).drew
    have d0 := blk_cell q1 0
    have d1 := blk_cell q1 1
    have e0 := blk_frozen q1 0
    have e1 := blk_frozen q1 1
    have s0 : w2.setCell ⟨w.heap.size, 0, none⟩ (.int .u16 tk) = w2 := setCell_same d0
    have s1 : w2.setCell ⟨w.heap.size, 1, none⟩ (.int .u32 tt) = w2 := setCell_same d1
    clear hw2 c1 f1 r0 r1 g0 g1 k2 k3 hbx1 hnew
    go_wp2
    try rw [s0]
    try rw [s1]
    exact bodyPost_ret (v := .agg #[.int .u16 tk, .int .u32 tt]) (by simp [results, Try.results97, go_sem, d0, d1]) rfl ⟨_, _, _, by rw [Htk.out], q2, htl.ext q3 (fun k hk => by rw [List.mem_singleton.1 hk]; exact hnt), by omega, q3⟩

end Go.Proofs.Ytcfgdlpdnpnhmaa
