/- The contracts of package meter for a meter of one count, and of sync/atomic under it. -/
import Derived.Test.YtcfgdlpdnpnhmaaMem
set_option linter.unusedVariables false
set_option linter.unusedSimpArgs false
namespace Go.Proofs.Ytcfgdlpdnpnhmaa
open Go.RowKit

/-- Block m is a meter of one count n. -/
def meterCells (n : Int) : Array Value := #[.int .u64 n, .int .u64 0, .int .u64 0, .int .u64 0, .int .u64 0, .int .u64 0, .int .u64 0, .int .u64 0, .int .u64 0, .int .u64 0, .int .u64 0, .int .u64 0, .int .u64 0, .int .u64 0, .int .u64 0, .int .u64 0, .int .i64 1]
def IsMeter (w : World) (m : Nat) (n : Int) : Prop := w.heap[m]? = some (.cells (meterCells n) 193 (0, 0))
theorem IsMeter.c0 {w : World} {m : Nat} {n : Int} (h : IsMeter w m n) : w.cell? ⟨m, 0, none⟩ = some (.int .u64 n) := blk_cell h 0
theorem IsMeter.c16 {w : World} {m : Nat} {n : Int} (h : IsMeter w m n) : w.cell? ⟨m, 16, none⟩ = some (.int .i64 1) := blk_cell h 16
theorem IsMeter.f0 {w : World} {m : Nat} {n : Int} (h : IsMeter w m n) : w.frozen? ⟨m, 0, none⟩ = false := blk_frozen h 0
theorem IsMeter.set {w : World} {m : Nat} {n : Int} (h : IsMeter w m n) (k : Int) : IsMeter (w.setCell ⟨m, 0, none⟩ (.int .u64 k)) m k := blk_set h 0 _

theorem load_calls (m : Nat) (n : Int) (w : World) (h : IsMeter w m n) :
    Calls Try.prog 136 #[.pointer (some ⟨m, 0, none⟩)] w fun e w' => e = .returned (.int .u64 n) ∧ w = w' := by
  have c0 := h.c0
  have hl := run_call_load (P := Try.prog) Try.func151 (by kernel_rfl) (by kernel_rfl) (by kernel_rfl) .u64 (by kernel_rfl) c0
  clear h
  go_enter Try.func136, Try.ntmps136
  go_wp2
  go_ret
  exact ⟨rfl, rfl⟩

theorem len_calls (m : Nat) (n : Int) (w : World) (h : IsMeter w m n) :
    Calls Try.prog 150 #[.pointer (some ⟨m, 0, none⟩)] w fun e w' => e = .returned (.int .i64 1) ∧ w = w' := by
  have c16 := h.c16
  clear h
  go_enter Try.func150, Try.ntmps150
  go_wp2
  go_ret
  exact ⟨rfl, rfl⟩

theorem at_calls (m : Nat) (n : Int) (w : World) (h : IsMeter w m n) :
    Calls Try.prog 135 #[.pointer (some ⟨m, 0, none⟩), .int .i64 0] w fun e w' => e = .returned (.tuple #[.pointer (some ⟨m, 0, none⟩), .int .i64 0]) ∧ w = w' := by
  have c16 := h.c16
  go_enter Try.func135, Try.ntmps135
  go_wp2_with (go_at_call 150; refine (len_calls m n _ h).mono ?_; rintro e w' ⟨rfl, rfl⟩)
  go_ret2
  exact ⟨rfl, rfl⟩

theorem get_calls (m : Nat) (n : Int) (w : World) (h : IsMeter w m n) :
    Calls Try.prog 96 #[.pointer (some ⟨m, 0, none⟩), .int .i64 0] w fun e w' => e = .returned (.int .u64 n) ∧ w = w' := by
  go_enter Try.func96, Try.ntmps96
  go_wp2_with (first
    | (go_at_call 135; refine (at_calls m n _ h).mono ?_; rintro e w' ⟨rfl, rfl⟩)
    | (go_at_call 136; refine (load_calls m n _ h).mono ?_; rintro e w' ⟨rfl, rfl⟩))
  go_ret
  exact ⟨rfl, rfl⟩

theorem room_calls (n : Int) (w : World) (h : n ≤ 4611686018427387904) :
    Calls Try.prog 154 #[.int .u64 n] w fun e w' => e = .returned (.tuple #[.int .u64 n, .int .i64 0]) ∧ w = w' := by
  go_enter Try.func154, Try.ntmps154
  go_wp2
  go_ret2
  exact ⟨rfl, rfl⟩

theorem cas_calls (m : Nat) (n k : Int) (w : World) (h : IsMeter w m n) :
    Calls Try.prog 170 #[.pointer (some ⟨m, 0, none⟩), .int .u64 n, .int .u64 k] w fun e w' => e = .returned (.bool true) ∧ w' = w.setCell ⟨m, 0, none⟩ (.int .u64 k) := by
  have c0 := h.c0
  have f0 := h.f0
  have hl := run_call_cas_hit (P := Try.prog) Try.func179 (by kernel_rfl) (by kernel_rfl) (by kernel_rfl) .u64 (by kernel_rfl) (y := k) c0 f0
  clear h
  go_enter Try.func170, Try.ntmps170
  go_wp2
  go_ret
  exact ⟨rfl, rfl⟩

/-- The closure of Add, called: 1 is added. -/
theorem add1_calls (n : Int) (c : Nat) (w : World) (h0 : 0 ≤ n) (h : n < 4611686018427387904) (hc : w.cell? ⟨c, 0, none⟩ = some (.int .u64 1)) :
    Calls Try.prog 153 #[.int .u64 n, .pointer (some ⟨c, 0, none⟩)] w fun e w' => e = .returned (.tuple #[.int .u64 (n + 1), .int .i64 0]) ∧ w = w' := by
  go_enter Try.func153, Try.ntmps153
  go_wp2_with (go_at_call 154; refine (room_calls _ _ (by omega)).mono ?_; rintro e w' ⟨rfl, rfl⟩)
  go_ret2
  exact ⟨rfl, rfl⟩

theorem turn_calls (m c : Nat) (n : Int) (w : World) (h : IsMeter w m n) (h0 : 0 ≤ n) (hn : n < 4611686018427387904) (hc : w.cell? ⟨c, 0, none⟩ = some (.int .u64 1)) :
    Calls Try.prog 152 #[.pointer (some ⟨m, 0, none⟩), .int .i64 0, .func (.func 153) #[] #[.pointer (some ⟨c, 0, none⟩)]] w
      fun e w' => e = .returned (.tuple #[.int .u64 n, .int .u64 (n + 1), .int .i64 0]) ∧ w' = w.setCell ⟨m, 0, none⟩ (.int .u64 (n + 1)) := by
  go_enter Try.func152, Try.ntmps152
  go_wp2
  go_step3
  go_wp2_with (first
    | (go_at_call 135; refine (at_calls m n _ h).mono ?_; rintro e w' ⟨rfl, rfl⟩)
    | (go_at_call 136; refine (load_calls m n _ h).mono ?_; rintro e w' ⟨rfl, rfl⟩)
    | (go_at_call 153; refine (add1_calls n c _ h0 hn hc).mono ?_; rintro e w' ⟨rfl, rfl⟩)
    | (go_at_call 170; refine (cas_calls m n _ _ h).mono ?_; rintro e w' ⟨rfl, rfl⟩))
  go_step3
  go_wp2_with (first
    | (go_at_call 135; refine (at_calls m n _ h).mono ?_; rintro e w' ⟨rfl, rfl⟩)
    | (go_at_call 136; refine (load_calls m n _ h).mono ?_; rintro e w' ⟨rfl, rfl⟩)
    | (go_at_call 153; refine (add1_calls n c _ h0 hn hc).mono ?_; rintro e w' ⟨rfl, rfl⟩)
    | (go_at_call 170; refine (cas_calls m n _ _ h).mono ?_; rintro e w' ⟨rfl, rfl⟩))
  rw [Exit.noGoto_ret]
  go_ret3
  exact ⟨rfl, rfl⟩

theorem mk_func : ∀ (fn : Fn) (first cap : Array Value) (w : World), (Instr.makeFunc fn first cap).run Try.prog w = .ok (.func fn first cap) w := fun _ _ _ _ => rfl

/-- 1 is added to the count; a box is laid. -/
theorem add_calls (m : Nat) (n : Int) (w : World) (h : IsMeter w m n) (h0 : 0 ≤ n) (hn : n < 4611686018427387904) :
    Calls Try.prog 137 #[.pointer (some ⟨m, 0, none⟩), .int .i64 0, .int .u64 1] w
      fun e w' => e = .returned (.tuple #[.int .u64 (n + 1), .int .i64 0]) ∧ w' = (w.alloc (.cells #[.int .u64 1] 24)).setCell ⟨m, 0, none⟩ (.int .u64 (n + 1)) := by
  have hmf := mk_func
  have hm1 : IsMeter (w.alloc (.cells #[.int .u64 1] 24)) m n := blk_alloc h _
  have hc1 : (w.alloc (.cells #[.int .u64 1] 24)).cell? ⟨w.heap.size, 0, none⟩ = some (.int .u64 1) := blk_cell (blk_new w _) 0
  go_enter Try.func137, Try.ntmps137
  go_wp2_with (go_at_call 152; refine (turn_calls m _ n _ hm1 h0 hn hc1).mono ?_; rintro e w' ⟨rfl, rfl⟩)
  go_ret2
  exact ⟨rfl, rfl⟩

theorem meter_new_calls (w : World) :
    Calls Try.prog 81 #[.int .i64 1] w fun e w' => e = .returned (.pointer (some ⟨w.heap.size, 0, none⟩)) ∧ w' = w.alloc (.cells (meterCells 0) 193) := by
  go_enter Try.func81, Try.ntmps81
  go_wp2
  go_ret
  exact ⟨rfl, rfl⟩

end Go.Proofs.Ytcfgdlpdnpnhmaa
