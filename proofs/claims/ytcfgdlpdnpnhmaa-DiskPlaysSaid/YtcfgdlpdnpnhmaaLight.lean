/- Contract of curfewlaw23.Light. -/
import Derived.Test.YtcfgdlpdnpnhmaaArgs23
set_option linter.unusedVariables false
set_option linter.unusedSimpArgs false
namespace Go.Proofs.Ytcfgdlpdnpnhmaa
open Go.RowKit Go.Maps

theorem Ops.at {w : World} {A : Option Addr} {n : Nat} {l : List Opp} (h : Ops w A n l) {k : Nat} (hk : k < n) :
    ∃ ad b o At m c, A = some ad ∧ ad.add (k * 6) = ⟨b, o, none⟩ ∧ w.cell? ⟨b, o, none⟩ = some (.int .i64 (l.getD k default).kind) ∧ w.cell? ⟨b, o + 1, none⟩ = some (.int .i64 (l.getD k default).n) ∧
      w.cell? ⟨b, o + 2, none⟩ = some (.string (l.getD k default).name) ∧ w.cell? ⟨b, o + 3, none⟩ = some (.string (l.getD k default).to_) ∧ w.cell? ⟨b, o + 4, none⟩ = some (.string (l.getD k default).text) ∧
      w.cell? ⟨b, o + 5, none⟩ = some (.slice At m c) ∧ Tears w At m (l.getD k default).tears ∧ m ≤ c ∧ c ≤ maxLen := by
  obtain ⟨ad, rfl, hc⟩ := h.2 (by omega)
  obtain ⟨cs, h1, h2⟩ := hc k hk
  obtain ⟨At, m, c, rfl, hT, hmc, hcm⟩ := h1.shape
  have e0 := h2 0 (by omega)
  have hs : ad.add (k * 6) = ⟨(ad.add (k * 6)).block, (ad.add (k * 6)).off, none⟩ := cell_spot (v := .int .i64 (l.getD k default).kind) (by simpa using e0)
  obtain ⟨b, o, hbo⟩ : ∃ b o, ad.add (k * 6) = ⟨b, o, none⟩ := ⟨_, _, hs⟩
  have hi : ∀ i, ad.add (k * 6 + i) = ⟨b, o + i, none⟩ := fun i => by rw [← add_of_add, hbo, add0]
  refine ⟨ad, b, o, At, m, c, rfl, hbo, ?_, ?_, ?_, ?_, ?_, ?_, hT, hmc, hcm⟩
  · have := h2 0 (by omega); rw [hi] at this; simpa using this
  · have := h2 1 (by omega); rw [hi] at this; simpa using this
  · have := h2 2 (by omega); rw [hi] at this; simpa using this
  · have := h2 3 (by omega); rw [hi] at this; simpa using this
  · have := h2 4 (by omega); rw [hi] at this; simpa using this
  · have := h2 5 (by omega); rw [hi] at this; simpa using this
theorem infoOp : (Try.prog.info? 49).map (fun i => (i.size)) = some 6 := by kernel_rfl
theorem run_op_index (ad : Addr) (n c k : Nat) (h : k < n) (w : World) : (Instr.indexAt 39 (.slice (some ad) n c) (.int .i64 k)).run Try.prog w = .ok (.pointer (some (ad.add (k * 6)))) w := by
  obtain ⟨i0, hi, hz1⟩ := Option.map_eq_some_iff.1 infoOp
  simp [Instr.indexAt, run_underlying Try.underlying39, sizeOf, typeInfo, hi, hz1, h, Result.andThen, asIntOf]

def lightOp (o : Opp) : Bool := decide (o.text.size ≤ 2000) && (decide (o.name.size ≤ 100) && (decide (o.to_.size ≤ 100) && decide (o.tears.length ≤ 40)))
def lightB (l : List Opp) : Bool := l.all lightOp && decide (l.length ≤ 200)

set_option maxRecDepth 100000 in
theorem light_calls (A : Option Addr) (n c : Nat) (l : List Opp) (w : World) (h : Ops w A n l) (hn : n ≤ 140737488355328) :
    Calls Try.prog 26 #[.slice A n c] w fun e w' => e = .returned (.bool (lightB l)) ∧ Below w.heap.size w w' := by
  have H := Lib.hid h
  have hl := Lib.hid h.1
  clear h
  go_enter Try.func26, Try.ntmps26
  go_wp2
  go_loopw [7] (fun i wr => ∃ (k : Nat), i = .int .i64 k ∧ k ≤ n ∧ (∀ j, j < k → lightOp (l.getD j default) = true) ∧ Below w.heap.size w wr) (fun i _ => n - (intOf i).toNat)
  case atStart => exact ⟨0, rfl, Nat.zero_le _, fun j hj => absurd hj (by omega), Below.refl _ _⟩
  case round =>
    obtain ⟨k, rfl, hkn, hall, hbl⟩ := hrel
    have Hall := Lib.hid hall
    have Hbl := Lib.hid hbl
    clear hall hbl
    by_cases hlt : k < n
    · obtain ⟨ad, b, o, At, m, ct, rfl, had, q0, q1, q2, q3, q4, q5, hT, hmc, hcm⟩ := (H.out.below Hbl.out).at hlt
      obtain ⟨op, hop⟩ : ∃ op, op = l.getD k default := ⟨_, rfl⟩
      rw [← hop] at q0 q1 q2 q3 q4 hT
      have Hop := Lib.hid hop
      have hm := Lib.hid hT.1
      have hix := fun W => run_op_index ad n c k hlt W
      simp only [had] at hix
      have Had := Lib.hid had
      clear hop had hT
      have hwk : IntKind.i64.wrap ((k : Int) + 1) = (k : Int) + 1 := IntWalk.i64_in _ (by omega)
      have hno : lightOp op = false → lightB l = false := fun he => by
        unfold lightB
        have : l.all lightOp = false := by
          rw [List.all_eq_false]
          refine ⟨op, ?_, by simp [he]⟩
          rw [Hop.out, List.getD_eq_getElem?_getD, List.getElem?_eq_getElem (by rw [hl.out]; exact hlt)]
          exact List.getElem_mem _
        rw [this]; rfl
      have Hno := Lib.hid hno
      clear hno
      by_cases h0 : op.text.size ≤ 2000
      · have g0 : decide ((2000 : Int) < (op.text.size : Int)) = false := decide_eq_false (by omega)
        by_cases h1 : op.name.size ≤ 100
        · have g1 : decide ((100 : Int) < (op.name.size : Int)) = false := decide_eq_false (by omega)
          by_cases h2 : op.to_.size ≤ 100
          · have g2 : decide ((100 : Int) < (op.to_.size : Int)) = false := decide_eq_false (by omega)
            by_cases h3 : m ≤ 40
            · have g3 : decide ((40 : Int) < (m : Int)) = false := decide_eq_false (by omega)
              have hli : lightOp op = true := by
                unfold lightOp
                rw [hm.out]
                simp [h0, h1, h2, h3]
              have Hli := Lib.hid hli
              clear hli h0 h1 h2 h3
              go_wp2
              go_roundw
              case rel =>
                refine ⟨k + 1, by simp, hlt, fun j hj => ?_, Hbl.out.alloc Hbl.out.size _⟩
                by_cases hjk : j = k
                · rw [hjk, ← Hop.out]; exact Hli.out
                · exact Hall.out j (by omega)
              case measure => simp [intOf]; omega
            · have g3 : decide ((40 : Int) < (m : Int)) = true := decide_eq_true (by omega)
              have hli : lightOp op = false := by
                unfold lightOp
                rw [hm.out]
                simp [h0, h1, h2, h3]
              have Hli := Lib.hid hli
              clear hli h0 h1 h2 h3
              go_wp2
              go_ret
              exact ⟨by rw [Hno.out Hli.out]; rfl, Hbl.out.alloc Hbl.out.size _⟩
          · have g2 : decide ((100 : Int) < (op.to_.size : Int)) = true := decide_eq_true (by omega)
            have hli : lightOp op = false := by
              unfold lightOp
              rw [hm.out]
              simp [h0, h1, h2]
              try omega
            have Hli := Lib.hid hli
            clear hli h0 h1 h2
            go_wp2
            go_ret
            exact ⟨by rw [Hno.out Hli.out]; rfl, Hbl.out.alloc Hbl.out.size _⟩
        · have g1 : decide ((100 : Int) < (op.name.size : Int)) = true := decide_eq_true (by omega)
          have hli : lightOp op = false := by
            unfold lightOp
            rw [hm.out]
            simp [h0, h1]
            try omega
          have Hli := Lib.hid hli
          clear hli h0 h1
          go_wp2
          go_ret
          exact ⟨by rw [Hno.out Hli.out]; rfl, Hbl.out.alloc Hbl.out.size _⟩
      · have g0 : decide ((2000 : Int) < (op.text.size : Int)) = true := decide_eq_true (by omega)
        have hli : lightOp op = false := by
          unfold lightOp
          rw [hm.out]
          simp [h0]
          try omega
        have Hli := Lib.hid hli
        clear hli h0
        go_wp2
        go_ret
        exact ⟨by rw [Hno.out Hli.out]; rfl, Hbl.out.alloc Hbl.out.size _⟩
    · have hkn2 : k = n := by omega
      have Hkn := Lib.hid hkn2
      clear hkn2
      have hall : lightB l = decide (n ≤ 200) := by
        unfold lightB
        rw [hl.out]
        have : l.all lightOp = true := by
          rw [List.all_eq_true]
          intro x hx
          obtain ⟨j, hj, rfl⟩ := List.getElem_of_mem hx
          have := Hall.out j (by rw [Hkn.out, ← hl.out]; exact hj)
          rw [List.getD_eq_getElem?_getD, List.getElem?_eq_getElem hj] at this
          exact this
        rw [this, Bool.true_and]
      have Hlb := Lib.hid hall
      clear hall
      go_wp2
      go_ret
      exact ⟨by rw [Hlb.out]; simp; omega, Hbl.out⟩
end Go.Proofs.Ytcfgdlpdnpnhmaa
