/- Contracts of package disk for a disk that is nil, or that no call made: it has nothing and does nothing. -/
import Derived.Test.YtcfgdlpdnpnhmaaDisk12
set_option linter.unusedVariables false
set_option linter.unusedSimpArgs false
namespace Go.Proofs.Ytcfgdlpdnpnhmaa
open Go.RowKit Go.Maps

/-- v is no disk: nil, or a Disk that no call made. -/
def Nob (w : World) (v : Value) : Prop :=
  v = .pointer none ∨ ∃ d, v = .pointer (some ⟨d, 0, none⟩) ∧ w.heap[d]? = some (.cells #[.map none, .int .i64 0, .bool false, .int .i64 0, .pointer none] 78 (0, 0))
theorem Nob.below {w w' : World} {v : Value} (h : Nob w v) (e : Below w.heap.size w w') : Nob w' v := by
  rcases h with rfl | ⟨d, rfl, hb⟩
  · exact Or.inl rfl
  · exact Or.inr ⟨d, rfl, (e.block _ (blk_lt hb)).trans hb⟩

theorem none_no (v : Value) (w : World) (h : Nob w v) :
    Calls Try.prog 93 #[v] w fun e w' => e = .returned (.bool true) ∧ w = w' := by
  rcases h with rfl | ⟨d, rfl, hb⟩
  · go_enter Try.func93, Try.ntmps93
    go_wp2
    go_ret
    exact ⟨rfl, rfl⟩
  · have c0 := blk_cell hb 0
    have hq := fun w' => run_eql_map_nil (P := Try.prog) w' 75 _ _ none Try.underlying75
    go_enter Try.func93, Try.ntmps93
    go_wp2
    go_ret
    exact ⟨rfl, rfl⟩

theorem up_no (v : Value) (w : World) (h : Nob w v) :
    Calls Try.prog 99 #[v] w fun e w' => e = .returned (.int .i64 1) ∧ w = w' := by
  have Hn := Lib.hid (fun w1 (hb : Below w.heap.size w w1) => none_no v w1 (h.below hb))
  clear h
  go_enter Try.func99, Try.ntmps99
  go_wp2_with (go_at_call 93; refine (Hn.out _ (Below.refl _ _)).mono ?_; rintro e w' ⟨rfl, rfl⟩)
  go_ret
  exact ⟨rfl, rfl⟩

theorem down_no (v : Value) (w : World) (h : Nob w v) :
    Calls Try.prog 32 #[v] w fun e w' => e = .returned (.bool false) ∧ w = w' := by
  have Hn := Lib.hid (fun w1 (hb : Below w.heap.size w w1) => none_no v w1 (h.below hb))
  clear h
  go_enter Try.func32, Try.ntmps32
  go_wp2_with (go_at_call 93; refine (Hn.out _ (Below.refl _ _)).mono ?_; rintro e w' ⟨rfl, rfl⟩)
  go_ret
  exact ⟨rfl, rfl⟩

theorem steps_no (v : Value) (w : World) (h : Nob w v) :
    Calls Try.prog 35 #[v] w fun e w' => e = .returned (.int .u64 0) ∧ w = w' := by
  have Hn := Lib.hid (fun w1 (hb : Below w.heap.size w w1) => none_no v w1 (h.below hb))
  clear h
  go_enter Try.func35, Try.ntmps35
  go_wp2_with (go_at_call 93; refine (Hn.out _ (Below.refl _ _)).mono ?_; rintro e w' ⟨rfl, rfl⟩)
  go_ret
  exact ⟨rfl, rfl⟩

theorem free_no (v : Value) (w : World) (h : Nob w v) :
    Calls Try.prog 33 #[v] w fun e w' => e = .returned (.int .i64 0) ∧ w = w' := by
  have Hn := Lib.hid (fun w1 (hb : Below w.heap.size w w1) => none_no v w1 (h.below hb))
  clear h
  go_enter Try.func33, Try.ntmps33
  go_wp2_with (go_at_call 93; refine (Hn.out _ (Below.refl _ _)).mono ?_; rintro e w' ⟨rfl, rfl⟩)
  go_ret
  exact ⟨rfl, rfl⟩

theorem names_no (v : Value) (w : World) (h : Nob w v) :
    Calls Try.prog 31 #[v] w fun e w' => e = .returned (.slice none 0 0) ∧ w = w' := by
  have Hn := Lib.hid (fun w1 (hb : Below w.heap.size w w1) => none_no v w1 (h.below hb))
  clear h
  go_enter Try.func31, Try.ntmps31
  go_wp2_with (go_at_call 93; refine (Hn.out _ (Below.refl _ _)).mono ?_; rintro e w' ⟨rfl, rfl⟩)
  go_ret
  exact ⟨rfl, rfl⟩

theorem boot_no (v : Value) (w : World) (h : Nob w v) :
    Calls Try.prog 47 #[v] w fun e w' => e = .returned (.int .i64 1) ∧ w = w' := by
  have Hn := Lib.hid (fun w1 (hb : Below w.heap.size w w1) => none_no v w1 (h.below hb))
  clear h
  go_enter Try.func47, Try.ntmps47
  go_wp2_with (go_at_call 93; refine (Hn.out _ (Below.refl _ _)).mono ?_; rintro e w' ⟨rfl, rfl⟩)
  go_ret
  exact ⟨rfl, rfl⟩

theorem crash_no (v : Value) (A : Option Addr) (n c : Nat) (w : World) (h : Nob w v) :
    Calls Try.prog 39 #[v, .slice A n c] w fun e w' => e = .returned (.int .i64 1) ∧ Below w.heap.size w w' := by
  have Hn := Lib.hid (fun w1 (hb : Below w.heap.size w w1) => none_no v w1 (h.below hb))
  clear h
  go_enter Try.func39, Try.ntmps39
  go_wp2_with (go_at_call 93; refine (Hn.out _ ((Below.refl _ _).alloc (Nat.le_refl _) _)).mono ?_; rintro e w' ⟨rfl, rfl⟩)
  go_ret
  exact ⟨rfl, ((Below.refl _ _).alloc (Nat.le_refl _) _)⟩

theorem arm_no (v : Value) (k : Int) (w : World) (h : Nob w v) :
    Calls Try.prog 40 #[v, .int .i64 k] w fun e w' => e = .returned (.int .i64 1) ∧ w = w' := by
  have Hn := Lib.hid (fun w1 (hb : Below w.heap.size w w1) => up_no v w1 (h.below hb))
  clear h
  go_enter Try.func40, Try.ntmps40
  go_wp2_with (go_at_call 99; refine (Hn.out _ (Below.refl _ _)).mono ?_; rintro e w' ⟨rfl, rfl⟩)
  go_ret
  exact ⟨rfl, rfl⟩

theorem resize_no (v : Value) (k : Int) (w : World) (h : Nob w v) :
    Calls Try.prog 46 #[v, .int .i64 k] w fun e w' => e = .returned (.int .i64 1) ∧ w = w' := by
  have Hn := Lib.hid (fun w1 (hb : Below w.heap.size w w1) => up_no v w1 (h.below hb))
  clear h
  go_enter Try.func46, Try.ntmps46
  go_wp2_with (go_at_call 99; refine (Hn.out _ (Below.refl _ _)).mono ?_; rintro e w' ⟨rfl, rfl⟩)
  go_ret
  exact ⟨rfl, rfl⟩

theorem file_no (v : Value) (s : ByteArray) (w : World) (h : Nob w v) :
    Calls Try.prog 100 #[v, .string s] w (FileNo w 1) := by
  have Hn := Lib.hid (fun w1 (hb : Below w.heap.size w w1) => up_no v w1 (h.below hb))
  clear h
  go_enter Try.func100, Try.ntmps100
  go_wp2_with (go_at_call 99; refine (Hn.out (w.alloc (.cells #[.slice none 0 0, .int .i64 0] 159)) ((Below.refl _ _).alloc (Nat.le_refl _) _)).mono ?_; rintro e w' ⟨rfl, rfl⟩)
  exact bodyPost_ret (v := .tuple #[.agg #[.slice none 0 0, .int .i64 0], .int .i64 1]) (by simp [results, Try.results100, go_sem]) rfl ⟨rfl, ((Below.refl _ _).alloc (Nat.le_refl _) _)⟩

theorem append_no (v : Value) (s : ByteArray) (A : Option Addr) (n c : Nat) (w : World) (h : Nob w v) :
    Calls Try.prog 41 #[v, .string s, .slice A n c] w fun e w' => e = .returned (.int .i64 1) ∧ Below w.heap.size w w' := by
  have hc := Lib.hid (file_no v s w h)
  clear h
  go_enter Try.func41, Try.ntmps41
  go_wp2_with (go_at_call 100; refine hc.out.mono ?_; rintro e w' ⟨rfl, hb⟩)
  go_ret
  exact ⟨rfl, hb.alloc hb.size _⟩

theorem sync_no (v : Value) (s : ByteArray) (w : World) (h : Nob w v) :
    Calls Try.prog 42 #[v, .string s] w fun e w' => e = .returned (.int .i64 1) ∧ Below w.heap.size w w' := by
  have hc := Lib.hid (file_no v s w h)
  clear h
  go_enter Try.func42, Try.ntmps42
  go_wp2_with (go_at_call 100; refine hc.out.mono ?_; rintro e w' ⟨rfl, hb⟩)
  go_ret
  exact ⟨rfl, hb.alloc hb.size _⟩

theorem cut_no (v : Value) (s : ByteArray) (k : Int) (w : World) (h : Nob w v) :
    Calls Try.prog 43 #[v, .string s, .int .i64 k] w fun e w' => e = .returned (.int .i64 1) ∧ Below w.heap.size w w' := by
  have hc := Lib.hid (file_no v s w h)
  clear h
  go_enter Try.func43, Try.ntmps43
  go_wp2_with (go_at_call 100; refine hc.out.mono ?_; rintro e w' ⟨rfl, hb⟩)
  go_ret
  exact ⟨rfl, hb.alloc hb.size _⟩

theorem remove_no (v : Value) (s : ByteArray) (w : World) (h : Nob w v) :
    Calls Try.prog 44 #[v, .string s] w fun e w' => e = .returned (.int .i64 1) ∧ Below w.heap.size w w' := by
  have hc := Lib.hid (file_no v s w h)
  clear h
  go_enter Try.func44, Try.ntmps44
  go_wp2_with (go_at_call 100; refine hc.out.mono ?_; rintro e w' ⟨rfl, hb⟩)
  go_ret
  exact ⟨rfl, hb.alloc hb.size _⟩

theorem move_no (v : Value) (s : ByteArray) (s2 : ByteArray) (w : World) (h : Nob w v) :
    Calls Try.prog 45 #[v, .string s, .string s2] w fun e w' => e = .returned (.int .i64 1) ∧ Below w.heap.size w w' := by
  have hc := Lib.hid (file_no v s w h)
  clear h
  go_enter Try.func45, Try.ntmps45
  go_wp2_with (go_at_call 100; refine hc.out.mono ?_; rintro e w' ⟨rfl, hb⟩)
  go_ret
  exact ⟨rfl, hb.alloc hb.size _⟩

theorem read_no (v : Value) (s : ByteArray) (w : World) (h : Nob w v) :
    Calls Try.prog 48 #[v, .string s] w fun e w' => e = .returned (.tuple #[.slice none 0 0, .int .i64 1]) ∧ Below w.heap.size w w' := by
  have hc := Lib.hid (file_no v s w h)
  clear h
  go_enter Try.func48, Try.ntmps48
  go_wp2_with (go_at_call 100; refine hc.out.mono ?_; rintro e w' ⟨rfl, hb⟩)
  go_ret2
  exact ⟨rfl, hb.alloc hb.size _⟩

theorem files_no (v : Value) (w : World) (h : Nob w v) :
    Calls Try.prog 38 #[v] w fun e w' => e = .returned (.slice none 0 0) ∧ Below w.heap.size w w' := by
  have Hn := Lib.hid (fun w1 (hb : Below w.heap.size w w1) => names_no v w1 (h.below hb))
  clear h
  go_enter Try.func38, Try.ntmps38
  go_wp2_with (go_at_call 31; refine (Hn.out _ (Below.refl _ _)).mono ?_; rintro e w' ⟨rfl, rfl⟩)
  refine wp_loop_rounds 1 ?_
  rw [rounds_succ]
  go_wp2
  go_ret
  exact ⟨rfl, Below.refl _ _⟩

end Go.Proofs.Ytcfgdlpdnpnhmaa
