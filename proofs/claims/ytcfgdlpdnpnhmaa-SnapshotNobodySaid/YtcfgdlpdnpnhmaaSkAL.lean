/- Contracts and words (several texts merged by wip/merge.py). What an argument of curfewlaw23's types holds: an Op, a slice of Ops, a slice of tears. -/
import Derived.Test.YtcfgdlpdnpnhmaaSkAK
import Derived.ProofKit
import Derived.Lib.SmallJoins
import Derived.Deep.Slices
import Derived.Deep.SlicePairs
set_option linter.unusedVariables false
set_option linter.unusedSimpArgs false
namespace Go.Proofs.Ytcfgdlpdnpnhmaa
open Go.RowKit Go.Maps Go.Deep Go.ChangeShapes Go.WideShapes

theorem cells_tear : Try.prog.cellsOf 142 = 2 := by kernel_rfl
theorem cells_op : Try.prog.cellsOf 49 = 6 := by kernel_rfl
theorem cells_int : Try.prog.cellsOf 3 = 1 := by kernel_rfl
theorem cells_string : Try.prog.cellsOf 9 = 1 := by kernel_rfl
theorem cells_tears : Try.prog.cellsOf 47 = 1 := by kernel_rfl
theorem cells_u16 : Try.prog.cellsOf 139 = 1 := by kernel_rfl
theorem cells_u32 : Try.prog.cellsOf 140 = 1 := by kernel_rfl

/-- A call of curfewlaw23: its numbers, texts and tears. -/
structure Opp where
  kind : Int
  n : Int
  name : ByteArray
  to_ : ByteArray
  text : ByteArray
  tears : List (Nat × Nat)
instance : Inhabited Opp := ⟨⟨0, 0, ⟨#[]⟩, ⟨#[]⟩, ⟨#[]⟩, []⟩⟩

structure OpCells (w : World) (cs : List Value) (o : Opp) : Prop where
  shape : ∃ A m c, cs = [.int .i64 o.kind, .int .i64 o.n, .string o.name, .string o.to_, .string o.text, .slice A m c] ∧ Tears w A m o.tears ∧ m ≤ c ∧ c ≤ maxLen
  kind : (Lit.int .i64 o.kind).wf = true
  n : (Lit.int .i64 o.n).wf = true
  name : o.name.size ≤ maxLen
  to_ : o.to_.size ≤ maxLen
  text : o.text.size ≤ maxLen
theorem OpCells.below {w w' : World} {cs : List Value} {o : Opp} (h : OpCells w cs o) (e : Below w.heap.size w w') : OpCells w' cs o := by
  obtain ⟨A, m, c, h1, h2, h3, h4⟩ := h.shape
  exact ⟨⟨A, m, c, h1, h2.below e, h3, h4⟩, h.kind, h.n, h.name, h.to_, h.text⟩

/-- From address A on n calls stand: l. -/
def Ops (w : World) (A : Option Addr) (n : Nat) (l : List Opp) : Prop :=
  l.length = n ∧ (0 < n → ∃ ad, A = some ad ∧ ∀ j, j < n → ∃ cs, OpCells w cs (l.getD j default) ∧ ∀ i, i < 6 → w.cell? (ad.add (j * 6 + i)) = cs[i]?)
theorem Ops.below {w w' : World} {A : Option Addr} {n : Nat} {l : List Opp} (h : Ops w A n l) (e : Below w.heap.size w w') : Ops w' A n l := by
  refine ⟨h.1, fun hn => ?_⟩
  obtain ⟨ad, ea, hc⟩ := h.2 hn
  refine ⟨ad, ea, fun j hj => ?_⟩
  obtain ⟨cs, h1, h2⟩ := hc j hj
  refine ⟨cs, h1.below e, fun i hi => ?_⟩
  obtain ⟨_, _, _, hs, _⟩ := h1.shape
  have h3 := h2 i hi
  rw [hs] at h3 ⊢
  rw [← h3]
  have : ∃ v, w.cell? (ad.add (j * 6 + i)) = some v := by
    rw [h3]
    rcases i with _ | _ | _ | _ | _ | _ | i <;> first | exact ⟨_, rfl⟩ | omega
  obtain ⟨v, hv⟩ := this
  exact e.cell (cell_lt hv)

section
variable {H : Type} {enc : TypeId × Value → H} {w : World} {base : Nat} {spare : Nat → Bool} {held : Bool}
theorem tears_open {fuel : Nat} {cs : List Value} {x : DataW H × List MemPlace} (h : DataW.trod enc Try.prog w base spare held fuel 47 cs = some x) :
    ∃ A n c ts, cs = [.slice A n c] ∧ Tears w A n ts ∧ n ≤ c ∧ c ≤ maxLen := by
  rcases open_slice_pairs Try.underlying47 Try.underlying142 cells_tear rfl rfl cells_u16 cells_u32 h with ⟨rfl, _⟩ | ⟨a, len, cap, m, n, V0, V1, D0, D1, P0, P1, rfl, _, hl, hm, hmm, _, hx⟩
  · exact ⟨none, 0, 0, [], rfl, ⟨rfl, fun p hp => (by cases hp), fun h => absurd h (by omega)⟩, Nat.le_refl _, Nat.zero_le _⟩
  · have hlm : len ≤ m := by rw [hmm]; split <;> omega
    have each : ∀ i, i < len → ∃ p : Nat × Nat, (p.1 < 65536 ∧ p.2 < 4294967296) ∧ w.cell? (a.add (i * 2)) = some (.int .u16 p.1) ∧ w.cell? (a.add (i * 2 + 1)) = some (.int .u32 p.2) := by
      intro i hi
      obtain ⟨h0, h1, h2, h3⟩ := hx i (by omega)
      obtain ⟨k0, e0, _, w0⟩ := DataW.trod_int Try.underlying139 h2
      obtain ⟨k1, e1, _, w1⟩ := DataW.trod_int Try.underlying140 h3
      injection e0 with e0
      injection e1 with e1
      simp [Lit.wf, IntKind.min, IntKind.max, IntKind.bits, IntKind.signed] at w0 w1
      refine ⟨(k0.toNat, k1.toNat), ?_, ?_, ?_⟩
      · constructor <;> (show Int.toNat _ < _) <;> omega
      · rw [h0, e0]
        congr 2
        show k0 = (k0.toNat : Int)
        omega
      · rw [h1, e1]
        congr 2
        show k1 = (k1.toNat : Int)
        omega
    obtain ⟨f, hf⟩ := choose_lt each
    refine ⟨some a, len, cap, (List.range len).map f, rfl, ⟨by simp, fun p hp => ?_, fun hn => ⟨a, rfl, fun j hj => ?_⟩⟩, hl, hm⟩
    · obtain ⟨i, hi, rfl⟩ := List.mem_map.1 hp
      exact (hf i (List.mem_range.1 hi)).1
    · have hg : ((List.range len).map f).getD j (0, 0) = f j := by simp [List.getD_eq_getElem?_getD, hj]
      rw [hg]
      exact (hf j hj).2

theorem op_open {fuel : Nat} {cs : List Value} {x : DataW H × List MemPlace} (h : DataW.trod enc Try.prog w base spare held fuel 49 cs = some x) : ∃ o, OpCells w cs o := by
  obtain ⟨xs, k, hk, hxy, hlen, hxl, hf⟩ := DataW.trod_struct Try.underlying49 h
  rw [cells_op] at hlen
  obtain ⟨v0, v1, v2, v3, v4, v5, rfl⟩ : ∃ v0 v1 v2 v3 v4 v5, cs = [v0, v1, v2, v3, v4, v5] := by
    rcases cs with _ | ⟨a, _ | ⟨b, _ | ⟨c, _ | ⟨d, _ | ⟨e, _ | ⟨f, _ | ⟨g, cs⟩⟩⟩⟩⟩⟩⟩ <;> simp at hlen
    exact ⟨a, b, c, d, e, f, rfl⟩
  ·
    have hxs : ∀ i, i < 6 → ∃ y, xs[i]? = some y := fun i hi => ⟨xs[i]'(by rw [hxl]; simpa using hi), List.getElem?_eq_getElem _⟩
    obtain ⟨y0, e0⟩ := hxs 0 (by omega)
    obtain ⟨y1, e1⟩ := hxs 1 (by omega)
    obtain ⟨y2, e2⟩ := hxs 2 (by omega)
    obtain ⟨y3, e3⟩ := hxs 3 (by omega)
    obtain ⟨y4, e4⟩ := hxs 4 (by omega)
    obtain ⟨y5, e5⟩ := hxs 5 (by omega)
    have g0 : DataW.trod enc Try.prog w base spare held k 3 [v0] = some y0 := by
      have h1 : DataW.trod enc Try.prog w base spare held k 3 (List.take (Try.prog.cellsOf 3) (List.drop 0 [v0, v1, v2, v3, v4, v5])) = some y0 := (hf 0 _ rfl).trans e0
      rw [cells_int] at h1
      exact h1
    have g1 : DataW.trod enc Try.prog w base spare held k 3 [v1] = some y1 := by
      have h1 : DataW.trod enc Try.prog w base spare held k 3 (List.take (Try.prog.cellsOf 3) (List.drop 1 [v0, v1, v2, v3, v4, v5])) = some y1 := (hf 1 _ rfl).trans e1
      rw [cells_int] at h1
      exact h1
    have g2 : DataW.trod enc Try.prog w base spare held k 9 [v2] = some y2 := by
      have h1 : DataW.trod enc Try.prog w base spare held k 9 (List.take (Try.prog.cellsOf 9) (List.drop 2 [v0, v1, v2, v3, v4, v5])) = some y2 := (hf 2 _ rfl).trans e2
      rw [cells_string] at h1
      exact h1
    have g3 : DataW.trod enc Try.prog w base spare held k 9 [v3] = some y3 := by
      have h1 : DataW.trod enc Try.prog w base spare held k 9 (List.take (Try.prog.cellsOf 9) (List.drop 3 [v0, v1, v2, v3, v4, v5])) = some y3 := (hf 3 _ rfl).trans e3
      rw [cells_string] at h1
      exact h1
    have g4 : DataW.trod enc Try.prog w base spare held k 9 [v4] = some y4 := by
      have h1 : DataW.trod enc Try.prog w base spare held k 9 (List.take (Try.prog.cellsOf 9) (List.drop 4 [v0, v1, v2, v3, v4, v5])) = some y4 := (hf 4 _ rfl).trans e4
      rw [cells_string] at h1
      exact h1
    have g5 : DataW.trod enc Try.prog w base spare held k 47 [v5] = some y5 := by
      have h1 : DataW.trod enc Try.prog w base spare held k 47 (List.take (Try.prog.cellsOf 47) (List.drop 5 [v0, v1, v2, v3, v4, v5])) = some y5 := (hf 5 _ rfl).trans e5
      rw [cells_tears] at h1
      exact h1
    obtain ⟨k0, q0, _, w0⟩ := DataW.trod_int Try.underlying3 g0
    obtain ⟨k1, q1, _, w1⟩ := DataW.trod_int Try.underlying3 g1
    obtain ⟨s2, q2, _, w2⟩ := DataW.trod_string Try.underlying9 g2
    obtain ⟨s3, q3, _, w3⟩ := DataW.trod_string Try.underlying9 g3
    obtain ⟨s4, q4, _, w4⟩ := DataW.trod_string Try.underlying9 g4
    obtain ⟨A, n, c, ts, q5, hT, hnc, hcm⟩ := tears_open g5
    simp at q0 q1 q2 q3 q4 q5
    refine ⟨⟨k0, k1, s2, s3, s4, ts⟩, ⟨A, n, c, ?_, hT, hnc, hcm⟩, w0, w1, w2, w3, w4⟩
    simp [q0, q1, q2, q3, q4, q5]
end
end Go.Proofs.Ytcfgdlpdnpnhmaa
set_option linter.unusedVariables false
set_option linter.unusedSimpArgs false
namespace Go.Proofs.Ytcfgdlpdnpnhmaa
open Go.RowKit Go.Maps

theorem Ops.at {w : World} {A : Option Addr} {n : Nat} {l : List Opp} (h : Ops w A n l) {k : Nat} (hk : k < n) :
    ∃ ad b o At m c, A = some ad ∧ ad.add (k * 6) = ⟨b, o, none⟩ ∧ w.cell? ⟨b, o, none⟩ = some (.int .i64 (l.getD k default).kind) ∧ w.cell? ⟨b, o + 1, none⟩ = some (.int .i64 (l.getD k default).n) ∧
      w.cell? ⟨b, o + 2, none⟩ = some (.string (l.getD k default).name) ∧ w.cell? ⟨b, o + 3, none⟩ = some (.string (l.getD k default).to_) ∧ w.cell? ⟨b, o + 4, none⟩ = some (.string (l.getD k default).text) ∧
      w.cell? ⟨b, o + 5, none⟩ = some (.slice At m c) ∧ Tears w At m (l.getD k default).tears ∧ m ≤ c ∧ c ≤ maxLen := by
  obtain ⟨ad, rfl, hc⟩ := h.2 (by omega)
  obtain ⟨cs, h1, h2⟩ := hc k hk
  obtain ⟨At, m, c, rfl, hT, hmc, hcm⟩ := h1.shape
  have e0 := h2 0 (by omega)
  have hs : ad.add (k * 6) = ⟨(ad.add (k * 6)).block, (ad.add (k * 6)).off, none⟩ := cell_spot (v := .int .i64 (l.getD k default).kind) (by simpa using e0)
  obtain ⟨b, o, hbo⟩ : ∃ b o, ad.add (k * 6) = ⟨b, o, none⟩ := ⟨_, _, hs⟩
  have hi : ∀ i, ad.add (k * 6 + i) = ⟨b, o + i, none⟩ := fun i => by rw [← add_of_add, hbo, add0]
  refine ⟨ad, b, o, At, m, c, rfl, hbo, ?_, ?_, ?_, ?_, ?_, ?_, hT, hmc, hcm⟩
  · have := h2 0 (by omega); rw [hi] at this; simpa using this
  · have := h2 1 (by omega); rw [hi] at this; simpa using this
  · have := h2 2 (by omega); rw [hi] at this; simpa using this
  · have := h2 3 (by omega); rw [hi] at this; simpa using this
  · have := h2 4 (by omega); rw [hi] at this; simpa using this
  · have := h2 5 (by omega); rw [hi] at this; simpa using this
theorem infoOp : (Try.prog.info? 49).map (fun i => (i.size)) = some 6 := by kernel_rfl
theorem run_op_index (ad : Addr) (n c k : Nat) (h : k < n) (w : World) : (Instr.indexAt 39 (.slice (some ad) n c) (.int .i64 k)).run Try.prog w = .ok (.pointer (some (ad.add (k * 6)))) w := by
  obtain ⟨i0, hi, hz1⟩ := Option.map_eq_some_iff.1 infoOp
  simp [Instr.indexAt, run_underlying Try.underlying39, sizeOf, typeInfo, hi, hz1, h, Result.andThen, asIntOf]

def lightOp (o : Opp) : Bool := decide (o.text.size ≤ 2000) && (decide (o.name.size ≤ 100) && (decide (o.to_.size ≤ 100) && decide (o.tears.length ≤ 40)))
def lightB (l : List Opp) : Bool := l.all lightOp && decide (l.length ≤ 200)

set_option maxRecDepth 100000 in
theorem light_calls (A : Option Addr) (n c : Nat) (l : List Opp) (w : World) (h : Ops w A n l) (hn : n ≤ 140737488355328) :
    Calls Try.prog 26 #[.slice A n c] w fun e w' => e = .returned (.bool (lightB l)) ∧ Below w.heap.size w w' := by
  have H := Lib.hid h
  have hl := Lib.hid h.1
  clear h
  go_enter Try.func26, Try.ntmps26
  go_wp2
  go_loopw [7] (fun i wr => ∃ (k : Nat), i = .int .i64 k ∧ k ≤ n ∧ (∀ j, j < k → lightOp (l.getD j default) = true) ∧ Below w.heap.size w wr) (fun i _ => n - (intOf i).toNat)
  case atStart => exact ⟨0, rfl, Nat.zero_le _, fun j hj => absurd hj (by omega), Below.refl _ _⟩
  case round =>
    obtain ⟨k, rfl, hkn, hall, hbl⟩ := hrel
    have Hall := Lib.hid hall
    have Hbl := Lib.hid hbl
    clear hall hbl
    by_cases hlt : k < n
    · obtain ⟨ad, b, o, At, m, ct, rfl, had, q0, q1, q2, q3, q4, q5, hT, hmc, hcm⟩ := (H.out.below Hbl.out).at hlt
      obtain ⟨op, hop⟩ : ∃ op, op = l.getD k default := ⟨_, rfl⟩
      rw [← hop] at q0 q1 q2 q3 q4 hT
      have Hop := Lib.hid hop
      have hm := Lib.hid hT.1
      have hix := fun W => run_op_index ad n c k hlt W
      simp only [had] at hix
      have Had := Lib.hid had
      clear hop had hT
      have hwk : IntKind.i64.wrap ((k : Int) + 1) = (k : Int) + 1 := IntWalk.i64_in _ (by omega)
      have hno : lightOp op = false → lightB l = false := fun he => by
        unfold lightB
        have : l.all lightOp = false := by
          rw [List.all_eq_false]
          refine ⟨op, ?_, by simp [he]⟩
          rw [Hop.out, List.getD_eq_getElem?_getD, List.getElem?_eq_getElem (by rw [hl.out]; exact hlt)]
          exact List.getElem_mem _
        rw [this]; rfl
      have Hno := Lib.hid hno
      clear hno
      by_cases h0 : op.text.size ≤ 2000
      · have g0 : decide ((2000 : Int) < (op.text.size : Int)) = false := decide_eq_false (by omega)
        by_cases h1 : op.name.size ≤ 100
        · have g1 : decide ((100 : Int) < (op.name.size : Int)) = false := decide_eq_false (by omega)
          by_cases h2 : op.to_.size ≤ 100
          · have g2 : decide ((100 : Int) < (op.to_.size : Int)) = false := decide_eq_false (by omega)
            by_cases h3 : m ≤ 40
            · have g3 : decide ((40 : Int) < (m : Int)) = false := decide_eq_false (by omega)
              have hli : lightOp op = true := by
                unfold lightOp
                rw [hm.out]
                simp [h0, h1, h2, h3]
              have Hli := Lib.hid hli
              clear hli h0 h1 h2 h3
              go_wp2
              go_roundw
              case rel =>
                refine ⟨k + 1, by simp, hlt, fun j hj => ?_, Hbl.out.alloc Hbl.out.size _⟩
                by_cases hjk : j = k
                · rw [hjk, ← Hop.out]; exact Hli.out
                · exact Hall.out j (by omega)
              case measure => simp [intOf]; omega
            · have g3 : decide ((40 : Int) < (m : Int)) = true := decide_eq_true (by omega)
              have hli : lightOp op = false := by
                unfold lightOp
                rw [hm.out]
                simp [h0, h1, h2, h3]
              have Hli := Lib.hid hli
              clear hli h0 h1 h2 h3
              go_wp2
              go_ret
              exact ⟨by rw [Hno.out Hli.out]; rfl, Hbl.out.alloc Hbl.out.size _⟩
          · have g2 : decide ((100 : Int) < (op.to_.size : Int)) = true := decide_eq_true (by omega)
            have hli : lightOp op = false := by
              unfold lightOp
              rw [hm.out]
              simp [h0, h1, h2]
              try omega
            have Hli := Lib.hid hli
            clear hli h0 h1 h2
            go_wp2
            go_ret
            exact ⟨by rw [Hno.out Hli.out]; rfl, Hbl.out.alloc Hbl.out.size _⟩
        · have g1 : decide ((100 : Int) < (op.name.size : Int)) = true := decide_eq_true (by omega)
          have hli : lightOp op = false := by
            unfold lightOp
            rw [hm.out]
            simp [h0, h1]
            try omega
          have Hli := Lib.hid hli
          clear hli h0 h1
          go_wp2
          go_ret
          exact ⟨by rw [Hno.out Hli.out]; rfl, Hbl.out.alloc Hbl.out.size _⟩
      · have g0 : decide ((2000 : Int) < (op.text.size : Int)) = true := decide_eq_true (by omega)
        have hli : lightOp op = false := by
          unfold lightOp
          rw [hm.out]
          simp [h0]
          try omega
        have Hli := Lib.hid hli
        clear hli h0
        go_wp2
        go_ret
        exact ⟨by rw [Hno.out Hli.out]; rfl, Hbl.out.alloc Hbl.out.size _⟩
    · have hkn2 : k = n := by omega
      have Hkn := Lib.hid hkn2
      clear hkn2
      have hall : lightB l = decide (n ≤ 200) := by
        unfold lightB
        rw [hl.out]
        have : l.all lightOp = true := by
          rw [List.all_eq_true]
          intro x hx
          obtain ⟨j, hj, rfl⟩ := List.getElem_of_mem hx
          have := Hall.out j (by rw [Hkn.out, ← hl.out]; exact hj)
          rw [List.getD_eq_getElem?_getD, List.getElem?_eq_getElem hj] at this
          exact this
        rw [this, Bool.true_and]
      have Hlb := Lib.hid hall
      clear hall
      go_wp2
      go_ret
      exact ⟨by rw [Hlb.out]; simp; omega, Hbl.out⟩
end Go.Proofs.Ytcfgdlpdnpnhmaa
