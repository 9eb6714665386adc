/- Contracts and words (several texts merged by wip/merge.py). Words on memory: what a call leaves as it was (Ext), byte rows that are read (Bts). No condition. -/
import Derived.Test.YtcfgdlpdnpnhmaaProg
import Derived.WalkKit
import Derived.WalkLawsBesides
import Derived.WalkSpells
import Derived.Lib.Hide
import Derived.WalkMore
import Derived.ScopeJumps
import Derived.Outline
import Derived.Test.YtcfgdlpdnpnhmaaSkAA
set_option linter.unusedVariables false
set_option linter.unusedSimpArgs false
namespace Go.Proofs.Ytcfgdlpdnpnhmaa
open Go.RowKit

/-- w' is w but for new blocks and for the blocks of S. -/
structure Ext (S : List Nat) (w w' : World) : Prop where
  os : w'.os = w.os
  tape : w'.tape = w.tape
  output : w'.output = w.output
  size : w.heap.size ≤ w'.heap.size
  block : ∀ k, k < w.heap.size → k ∉ S → w'.heap[k]? = w.heap[k]?

theorem Ext.refl (S : List Nat) (w : World) : Ext S w w := ⟨rfl, rfl, rfl, Nat.le_refl _, fun _ _ _ => rfl⟩
theorem Ext.trans {S : List Nat} {a b c : World} (h : Ext S a b) (k : Ext S b c) : Ext S a c :=
  ⟨k.os.trans h.os, k.tape.trans h.tape, k.output.trans h.output, Nat.le_trans h.size k.size, fun i hi hs => (k.block i (Nat.lt_of_lt_of_le hi h.size) hs).trans (h.block i hi hs)⟩
/-- What is written lies in S', or is new. -/
theorem Ext.mono {S S' : List Nat} {a b : World} (h : Ext S a b) (hs : ∀ k, k ∈ S → k ∈ S' ∨ a.heap.size ≤ k) : Ext S' a b :=
  ⟨h.os, h.tape, h.output, h.size, fun i hi hn => h.block i hi (fun hm => by rcases hs i hm with h1 | h1; exact hn h1; omega)⟩
theorem Ext.then_ {S S' : List Nat} {a b c : World} (h : Ext S a b) (k : Ext S' b c) (hs : ∀ i, i ∈ S' → i ∈ S ∨ a.heap.size ≤ i) : Ext S a c :=
  ⟨k.os.trans h.os, k.tape.trans h.tape, k.output.trans h.output, Nat.le_trans h.size k.size, fun i hi hn =>
    (k.block i (Nat.lt_of_lt_of_le hi h.size) (fun hm => by rcases hs i hm with h1 | h1; exact hn h1; omega)).trans (h.block i hi hn)⟩
theorem Ext.of_below {S : List Nat} {a b : World} (h : Below a.heap.size a b) : Ext S a b := ⟨h.os, h.tape, h.output, h.size, fun i hi _ => h.block i hi⟩
theorem Ext.below {S : List Nat} {a b : World} (h : Ext S a b) {B : Nat} (hB : B ≤ a.heap.size) (hs : ∀ k, k ∈ S → B ≤ k) : Below B a b :=
  ⟨h.os, h.tape, h.output, h.size, fun i hi => h.block i (by omega) (fun hm => by have := hs i hm; omega)⟩
theorem Ext.nil_below {a b : World} (h : Ext [] a b) : Below a.heap.size a b := h.below (Nat.le_refl _) (fun k hk => by cases hk)
theorem Ext.drew {S : List Nat} {a b : World} (h : Ext S a b) : Ext S a b.drew := ⟨h.os, h.tape, h.output, h.size, h.block⟩
theorem Ext.drewN {S : List Nat} {a b : World} (h : Ext S a b) (n : Nat) : Ext S a (b.drewN n) := ⟨h.os, h.tape, h.output, h.size, h.block⟩
theorem Ext.alloc {S : List Nat} {a b : World} (h : Ext S a b) (o : Obj) : Ext S a (b.alloc o) :=
  h.trans ⟨rfl, rfl, rfl, by simp, fun k hk _ => Below.heap_alloc _ _ _ hk⟩
theorem Ext.setCell {S : List Nat} {a b : World} (h : Ext S a b) {p : Addr} (hp : p.block ∈ S ∨ a.heap.size ≤ p.block) (u : Value) : Ext S a (b.setCell p u) :=
  ⟨h.os, h.tape, h.output, Nat.le_trans h.size (by simp [World.setCell]), fun k hk hn =>
    (Below.heap_setCell b p u k (fun e => by subst e; rcases hp with h1 | h1; exact hn h1; omega)).trans (h.block k hk hn)⟩
theorem Ext.grown {S : List Nat} {a b c : World} {row : Option Nat} (h : Ext S a b) (hg : b.grownBy c row) (hr : ∀ k, row = some k → k ∈ S ∨ a.heap.size ≤ k) : Ext S a c :=
  ⟨hg.os.trans h.os, hg.tape.trans h.tape, hg.output.trans h.output, Nat.le_trans h.size hg.size, fun k hk hn =>
    (hg.block k (Nat.lt_of_lt_of_le hk h.size) (fun e => by rcases hr k e.symm with h1 | h1; exact hn h1; omega)).trans (h.block k hk hn)⟩
theorem Ext.cell {S : List Nat} {w w' : World} (h : Ext S w w') {p : Addr} (hp : p.block < w.heap.size) (hs : p.block ∉ S) : w'.cell? p = w.cell? p := World.cell?_of_block (w := w) (h.block p.block hp hs)
theorem Ext.frozen {S : List Nat} {w w' : World} (h : Ext S w w') {p : Addr} (hp : p.block < w.heap.size) (hs : p.block ∉ S) : w'.frozen? p = w.frozen? p := World.frozen?_of_block (w := w) (h.block p.block hp hs)
theorem Ext.obj {S : List Nat} {w w' : World} (h : Ext S w w') {g : Nat} {o : Obj} (hg : w.heap[g]? = some o) (hs : g ∉ S) : w'.heap[g]? = some o :=
  (h.block g (Array.getElem?_eq_some_iff.1 hg).1 hs).trans hg

theorem blk_lt {w : World} {g : Nat} {o : Obj} (h : w.heap[g]? = some o) : g < w.heap.size := (Array.getElem?_eq_some_iff.1 h).1
theorem blk_cell {w : World} {g : Nat} {t : TypeId} {cs : Array Value} {fr : Nat × Nat} (h : w.heap[g]? = some (.cells cs t fr)) (i : Nat) : w.cell? ⟨g, i, none⟩ = cs[i]? := by simp [World.cell?, h]
theorem blk_frozen {w : World} {g : Nat} {t : TypeId} {cs : Array Value} (h : w.heap[g]? = some (.cells cs t (0, 0))) (i : Nat) : w.frozen? ⟨g, i, none⟩ = false := by simp [World.frozen?, h]
theorem blk_set {w : World} {g : Nat} {t : TypeId} {cs : Array Value} {fr : Nat × Nat} (h : w.heap[g]? = some (.cells cs t fr)) (i : Nat) (u : Value) : (w.setCell ⟨g, i, none⟩ u).heap[g]? = some (.cells (cs.setIfInBounds i u) t fr) := by
  simp [World.setCell, Array.getElem?_modify, h]
theorem blk_far {w : World} {g : Nat} {o : Obj} (h : w.heap[g]? = some o) {p : Addr} (hp : g ≠ p.block) (u : Value) : (w.setCell p u).heap[g]? = some o := (Below.heap_setCell w p u g hp).trans h
theorem blk_alloc {w : World} {g : Nat} {o : Obj} (h : w.heap[g]? = some o) (o' : Obj) : (w.alloc o').heap[g]? = some o := (Below.heap_alloc w o' g (blk_lt h)).trans h
theorem blk_new (w : World) (o : Obj) : (w.alloc o).heap[w.heap.size]? = some o := by show (w.heap.push o)[w.heap.size]? = _; simp
theorem size_setCell (w : World) (p : Addr) (u : Value) : (w.setCell p u).heap.size = w.heap.size := by simp [World.setCell]
theorem cell_lt {w : World} {p : Addr} {v : Value} (h : w.cell? p = some v) : p.block < w.heap.size := World.block_lt_of_cell? w p h
theorem add0 (b o j : Nat) : (⟨b, o, none⟩ : Addr).add j = ⟨b, o + j, none⟩ := by unfold Addr.add; split <;> simp_all

end Go.Proofs.Ytcfgdlpdnpnhmaa
set_option linter.unusedVariables false
set_option linter.unusedSimpArgs false
namespace Go.Proofs.Ytcfgdlpdnpnhmaa
open Go.RowKit

/-- Block m is a meter of one count n. -/
def meterCells (n : Int) : Array Value := #[.int .u64 n, .int .u64 0, .int .u64 0, .int .u64 0, .int .u64 0, .int .u64 0, .int .u64 0, .int .u64 0, .int .u64 0, .int .u64 0, .int .u64 0, .int .u64 0, .int .u64 0, .int .u64 0, .int .u64 0, .int .u64 0, .int .i64 1]
def IsMeter (w : World) (m : Nat) (n : Int) : Prop := w.heap[m]? = some (.cells (meterCells n) 193 (0, 0))
theorem IsMeter.c0 {w : World} {m : Nat} {n : Int} (h : IsMeter w m n) : w.cell? ⟨m, 0, none⟩ = some (.int .u64 n) := blk_cell h 0
theorem IsMeter.c16 {w : World} {m : Nat} {n : Int} (h : IsMeter w m n) : w.cell? ⟨m, 16, none⟩ = some (.int .i64 1) := blk_cell h 16
theorem IsMeter.f0 {w : World} {m : Nat} {n : Int} (h : IsMeter w m n) : w.frozen? ⟨m, 0, none⟩ = false := blk_frozen h 0
theorem IsMeter.set {w : World} {m : Nat} {n : Int} (h : IsMeter w m n) (k : Int) : IsMeter (w.setCell ⟨m, 0, none⟩ (.int .u64 k)) m k := blk_set h 0 _

theorem load_calls (m : Nat) (n : Int) (w : World) (h : IsMeter w m n) :
    Calls Try.prog 136 #[.pointer (some ⟨m, 0, none⟩)] w fun e w' => e = .returned (.int .u64 n) ∧ w = w' := by
  have c0 := h.c0
  have hl := run_call_load (P := Try.prog) Try.func151 (by kernel_rfl) (by kernel_rfl) (by kernel_rfl) .u64 (by kernel_rfl) c0
  clear h
  go_enter Try.func136, Try.ntmps136
  go_wp2
  go_ret
  exact ⟨rfl, rfl⟩

theorem len_calls (m : Nat) (n : Int) (w : World) (h : IsMeter w m n) :
    Calls Try.prog 150 #[.pointer (some ⟨m, 0, none⟩)] w fun e w' => e = .returned (.int .i64 1) ∧ w = w' := by
  have c16 := h.c16
  clear h
  go_enter Try.func150, Try.ntmps150
  go_wp2
  go_ret
  exact ⟨rfl, rfl⟩

theorem at_calls (m : Nat) (n : Int) (w : World) (h : IsMeter w m n) :
    Calls Try.prog 135 #[.pointer (some ⟨m, 0, none⟩), .int .i64 0] w fun e w' => e = .returned (.tuple #[.pointer (some ⟨m, 0, none⟩), .int .i64 0]) ∧ w = w' := by
  have c16 := h.c16
  go_enter Try.func135, Try.ntmps135
  go_wp2_with (go_at_call 150; refine (len_calls m n _ h).mono ?_; rintro e w' ⟨rfl, rfl⟩)
  go_ret2
  exact ⟨rfl, rfl⟩

theorem get_calls (m : Nat) (n : Int) (w : World) (h : IsMeter w m n) :
    Calls Try.prog 96 #[.pointer (some ⟨m, 0, none⟩), .int .i64 0] w fun e w' => e = .returned (.int .u64 n) ∧ w = w' := by
  go_enter Try.func96, Try.ntmps96
  go_wp2_with (first
    | (go_at_call 135; refine (at_calls m n _ h).mono ?_; rintro e w' ⟨rfl, rfl⟩)
    | (go_at_call 136; refine (load_calls m n _ h).mono ?_; rintro e w' ⟨rfl, rfl⟩))
  go_ret
  exact ⟨rfl, rfl⟩

theorem room_calls (n : Int) (w : World) (h : n ≤ 4611686018427387904) :
    Calls Try.prog 154 #[.int .u64 n] w fun e w' => e = .returned (.tuple #[.int .u64 n, .int .i64 0]) ∧ w = w' := by
  go_enter Try.func154, Try.ntmps154
  go_wp2
  go_ret2
  exact ⟨rfl, rfl⟩

theorem cas_calls (m : Nat) (n k : Int) (w : World) (h : IsMeter w m n) :
    Calls Try.prog 170 #[.pointer (some ⟨m, 0, none⟩), .int .u64 n, .int .u64 k] w fun e w' => e = .returned (.bool true) ∧ w' = w.setCell ⟨m, 0, none⟩ (.int .u64 k) := by
  have c0 := h.c0
  have f0 := h.f0
  have hl := run_call_cas_hit (P := Try.prog) Try.func179 (by kernel_rfl) (by kernel_rfl) (by kernel_rfl) .u64 (by kernel_rfl) (y := k) c0 f0
  clear h
  go_enter Try.func170, Try.ntmps170
  go_wp2
  go_ret
  exact ⟨rfl, rfl⟩

/-- The closure of Add, called: 1 is added. -/
theorem add1_calls (n : Int) (c : Nat) (w : World) (h0 : 0 ≤ n) (h : n < 4611686018427387904) (hc : w.cell? ⟨c, 0, none⟩ = some (.int .u64 1)) :
    Calls Try.prog 153 #[.int .u64 n, .pointer (some ⟨c, 0, none⟩)] w fun e w' => e = .returned (.tuple #[.int .u64 (n + 1), .int .i64 0]) ∧ w = w' := by
  go_enter Try.func153, Try.ntmps153
  go_wp2_with (go_at_call 154; refine (room_calls _ _ (by omega)).mono ?_; rintro e w' ⟨rfl, rfl⟩)
  go_ret2
  exact ⟨rfl, rfl⟩

theorem turn_calls (m c : Nat) (n : Int) (w : World) (h : IsMeter w m n) (h0 : 0 ≤ n) (hn : n < 4611686018427387904) (hc : w.cell? ⟨c, 0, none⟩ = some (.int .u64 1)) :
    Calls Try.prog 152 #[.pointer (some ⟨m, 0, none⟩), .int .i64 0, .func (.func 153) #[] #[.pointer (some ⟨c, 0, none⟩)]] w
      fun e w' => e = .returned (.tuple #[.int .u64 n, .int .u64 (n + 1), .int .i64 0]) ∧ w' = w.setCell ⟨m, 0, none⟩ (.int .u64 (n + 1)) := by
  go_enter Try.func152, Try.ntmps152
  go_wp2
  go_step3
  go_wp2_with (first
    | (go_at_call 135; refine (at_calls m n _ h).mono ?_; rintro e w' ⟨rfl, rfl⟩)
    | (go_at_call 136; refine (load_calls m n _ h).mono ?_; rintro e w' ⟨rfl, rfl⟩)
    | (go_at_call 153; refine (add1_calls n c _ h0 hn hc).mono ?_; rintro e w' ⟨rfl, rfl⟩)
    | (go_at_call 170; refine (cas_calls m n _ _ h).mono ?_; rintro e w' ⟨rfl, rfl⟩))
  go_step3
  go_wp2_with (first
    | (go_at_call 135; refine (at_calls m n _ h).mono ?_; rintro e w' ⟨rfl, rfl⟩)
    | (go_at_call 136; refine (load_calls m n _ h).mono ?_; rintro e w' ⟨rfl, rfl⟩)
    | (go_at_call 153; refine (add1_calls n c _ h0 hn hc).mono ?_; rintro e w' ⟨rfl, rfl⟩)
    | (go_at_call 170; refine (cas_calls m n _ _ h).mono ?_; rintro e w' ⟨rfl, rfl⟩))
  rw [Exit.noGoto_ret]
  go_ret3
  exact ⟨rfl, rfl⟩

theorem mk_func : ∀ (fn : Fn) (first cap : Array Value) (w : World), (Instr.makeFunc fn first cap).run Try.prog w = .ok (.func fn first cap) w := fun _ _ _ _ => rfl

/-- 1 is added to the count; a box is laid. -/
theorem add_calls (m : Nat) (n : Int) (w : World) (h : IsMeter w m n) (h0 : 0 ≤ n) (hn : n < 4611686018427387904) :
    Calls Try.prog 137 #[.pointer (some ⟨m, 0, none⟩), .int .i64 0, .int .u64 1] w
      fun e w' => e = .returned (.tuple #[.int .u64 (n + 1), .int .i64 0]) ∧ w' = (w.alloc (.cells #[.int .u64 1] 24)).setCell ⟨m, 0, none⟩ (.int .u64 (n + 1)) := by
  have hmf := mk_func
  have hm1 : IsMeter (w.alloc (.cells #[.int .u64 1] 24)) m n := blk_alloc h _
  have hc1 : (w.alloc (.cells #[.int .u64 1] 24)).cell? ⟨w.heap.size, 0, none⟩ = some (.int .u64 1) := blk_cell (blk_new w _) 0
  go_enter Try.func137, Try.ntmps137
  go_wp2_with (go_at_call 152; refine (turn_calls m _ n _ hm1 h0 hn hc1).mono ?_; rintro e w' ⟨rfl, rfl⟩)
  go_ret2
  exact ⟨rfl, rfl⟩

theorem meter_new_calls (w : World) :
    Calls Try.prog 81 #[.int .i64 1] w fun e w' => e = .returned (.pointer (some ⟨w.heap.size, 0, none⟩)) ∧ w' = w.alloc (.cells (meterCells 0) 193) := by
  go_enter Try.func81, Try.ntmps81
  go_wp2
  go_ret
  exact ⟨rfl, rfl⟩

end Go.Proofs.Ytcfgdlpdnpnhmaa
