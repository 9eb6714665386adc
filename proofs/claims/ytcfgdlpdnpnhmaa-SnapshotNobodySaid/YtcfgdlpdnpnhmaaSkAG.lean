/- Contracts and words (several texts merged by wip/merge.py). Contract of package disk: Free (a loop over the map). -/
import Derived.Test.YtcfgdlpdnpnhmaaSkAF
import Derived.Sort.EncStr
import Derived.Sort.KeysCollected
set_option linter.unusedVariables false
set_option linter.unusedSimpArgs false
namespace Go.Proofs.Ytcfgdlpdnpnhmaa
open Go.RowKit Go.Maps Go.WideMaps

/-- The bytes of those files that have been met. -/
def got (left : Lit → Bool) : Ents → Nat
  | [] => 0
  | p :: r => (if left (.string p.1.name) = true then 0 else p.1.all.length) + got left r
theorem got_start (left : Lit → Bool) : ∀ es : Ents, (∀ p ∈ es, left (.string p.1.name) = true) → got left es = 0
  | [], _ => rfl
  | p :: r, h => by
    unfold got
    rw [if_pos (h p (by simp)), got_start left r (fun q hq => h q (by simp [hq]))]
theorem got_end (left : Lit → Bool) (hl : ∀ kl, left kl = false) : ∀ es : Ents, got left es = Dsk.sum (es.map (·.1))
  | [] => rfl
  | p :: r => by
    unfold got
    rw [if_neg (by simp [hl]), got_end left hl r]
    rfl
theorem got_same (left left' : Lit → Bool) : ∀ es : Ents, (∀ p ∈ es, left (.string p.1.name) = left' (.string p.1.name)) → got left es = got left' es
  | [], _ => rfl
  | p :: r, h => by
    unfold got
    rw [h p (by simp), got_same left left' r (fun q hq => h q (by simp [hq]))]
theorem got_step (left : Lit → Bool) (x : Bs) (hx : left (.string x) = true) : ∀ es : Ents, es.Pairwise (fun p q => p.1.name ≠ q.1.name) → ∀ p, es.find? (fun p => p.1.name == x) = some p →
    got (fun z => left z && !z.sameKey (.string x)) es = got left es + p.1.all.length
  | [], _, p, h => by simp at h
  | q :: r, hp, p, h => by
    rw [List.pairwise_cons] at hp
    by_cases hq : q.1.name = x
    · have hpq : p = q := by
        rw [List.find?_cons_of_pos (by simp [hq])] at h
        exact (Option.some.inj h).symm
      subst hpq
      unfold got
      have hs : got (fun z => left z && !z.sameKey (.string x)) r = got left r := got_same _ _ r (fun p' hp' => by
        have := hp.1 p' hp'
        rw [hq] at this
        have h2 : (p'.1.name == x) = false := beq_eq_false_iff_ne.2 (Ne.symm this)
        simp [sameKey_str, h2])
      rw [hs, hq]
      simp [hx, sameKey_str]
      omega
    · rw [List.find?_cons_of_neg (by simp [hq])] at h
      unfold got
      rw [got_step left x hx r hp.2 p h]
      have h2 : (q.1.name == x) = false := beq_eq_false_iff_ne.2 hq
      simp [sameKey_str, h2]
      omega

theorem got_le (left : Lit → Bool) : ∀ es : Ents, got left es ≤ Dsk.sum (es.map (·.1))
  | [] => Nat.le_refl _
  | p :: r => by
    have := got_le left r
    unfold got
    show _ ≤ p.1.all.length + Dsk.sum (r.map (·.1))
    split <;> omega

theorem dat_apart {w : World} {mp n : Nat} {es : Ents} (h : w.ownsMap Try.prog 9 RV mp n (dat es)) : es.Pairwise (fun p q => p.1.name ≠ q.1.name) := by
  obtain ⟨l, e, hp, _⟩ := h.entries law9
  injection e with e
  rw [← e, List.pairwise_map] at hp
  exact hp.imp (fun hne he => hne (by rw [he]))

set_option maxRecDepth 100000 in
theorem free_calls (d mp mt : Nat) (D : Dsk) (w : World) (h : IsDisk w d mp mt D) (h0 : 0 ≤ D.room) (h1 : D.room ≤ 1048576) (h2 : Dsk.sum D.files ≤ 1048576) (h3 : D.files.length ≤ 1048576) :
    Calls Try.prog 33 #[.pointer (some ⟨d, 0, none⟩)] w fun e w' => e = .returned (.int .i64 D.free) ∧ Below w.heap.size w w' := by
  have hu := none_calls d mp mt D w h
  have c0 := h.c0
  have c1 := h.c1
  obtain ⟨es, he, hc, hown⟩ := h.map
  have hap := dat_apart hown
  have Hu := Lib.hid hu
  have He := Lib.hid he
  have hmx := h.lt_mp
  have h2' : Dsk.sum (es.map (·.1)) ≤ 1048576 := by rw [he]; exact h2
  clear hu he h2
  go_enter Try.func33, Try.ntmps33
  go_wp2_with (first
    | (go_at_call 93; refine Hu.out.mono ?_; rintro e w' ⟨rfl, rfl⟩)
    | (at_range; refine wpList_range_own _ rfl _ 75 rfl 9 159 law9 Try.underlying75 _ mp es.length _ rfl hown ?_; intro w0 hrg0 hg0 hs0))
  go_frame
  go_loopw [3, 5] (fun v _ wr => ∃ (left : Lit → Bool) (cnt : Nat), wr.ranges Try.prog 9 RV mp w.heap.size es.length (dat es) left cnt ∧ v = .int .i64 (D.room - (got left es : Int)) ∧ Below w.heap.size w wr)
    (fun _ _ wr => wr.rangeLeft mp w.heap.size)
  case atStart =>
    refine ⟨_, _, hrg0, ?_, ⟨hg0.os, hg0.tape, hg0.output, hg0.size, fun k hk => hg0.block k hk (by simp)⟩⟩
    rw [got_start _ es (fun p hp => by rw [has_dat, Dsk.find, List.find?_isSome]; exact ⟨p.1, List.mem_map.2 ⟨p, hp, rfl⟩, by simp⟩)]
    simp
  case round =>
    obtain ⟨left, cnt, hrg, rfl, hbw⟩ := hrel
    go_wp2_with (first
      | (at_next; go_must (refine wpList_next_ranges _ rfl _ rfl 9 law9 RV encStr mkC (fun key kl hk => by obtain ⟨x, hx, _⟩ := Maps.keyOf_str Try.underlying9 hk; exact ⟨x, hx⟩) (fun v y hv => (RV_inv hv).1) mp w.heap.size es.length _ _ _ rfl hrg ?_ ?_)))
    · intro _ hl0
      have hge := got_end left hl0 es
      rw [He.out] at hge
      rw [hge]
      have hsm : Dsk.sum D.files ≤ 1048576 := by rw [← hge]; exact Nat.le_trans (got_le left es) h2'
      have Hge := Lib.hid hge
      clear hge
      go_wp2
      all_goals
        go_ret
        refine ⟨?_, hbw⟩
        unfold Dsk.free
        split <;> first | rfl | (exfalso; omega)
    · intro x a0 a1 a2 a3 kl yd yp w1 cnt1 hkey hlk hv hat hrg1 hlt hg1 hs1 hen
      obtain ⟨x', ex, rfl, _⟩ := Maps.keyOf_str Try.underlying9 hkey
      obtain rfl : x = x' := encStr_inj ex
      have hfd : ∃ p, es.find? (fun p => p.1.name == x) = some p ∧ mkC (a0, a1, a2, a3) = p.2 := by
        have h1 := (RV_inv hv).2
        have h2 := hat .nil
        rw [atKey_dat] at h2
        simp only [Prod.mk.injEq] at h1
        rw [h1.1] at h2
        cases hf : es.find? (fun p => p.1.name == x) with
        | none => rw [hf] at h2; cases h2
        | some p =>
          rw [hf] at h2
          simp only [DataW.held.injEq] at h2
          exact ⟨p, rfl, h2.symm⟩
      obtain ⟨p, hf, hp⟩ := hfd
      obtain ⟨A, n, c, hpv, hb, hnc, _⟩ := hc p (List.mem_of_find?_eq_some hf)
      rw [hpv] at hp
      simp only [mkC, Value.agg.injEq, Array.mk.injEq, List.cons.injEq, Value.slice.injEq, Value.int.injEq, true_and, and_true] at hp
      obtain ⟨⟨rfl, rfl, rfl⟩, rfl⟩ := hp
      have hgs := got_step left x hlk es hap p hf
      have hgl := got_le (fun z => left z && !z.sameKey (.string x)) es
      have hn := hb.1
      have hbw1 := hbw.grown hg1 hbw.size (fun k hk => by cases hk; exact Nat.le_refl _)
      have hlen := hrg1.left_eq
      have hle2 := hrg.left_eq
      have hsz : w.heap.size ≤ w1.heap.size := hbw1.size
      have Hgs := Lib.hid hgs
      have Hle := Lib.hid hle2
      have Hln := Lib.hid hlen
      have Hn := Lib.hid hn
      have hnn : a1 ≤ 1048576 := by omega
      have hg2 : got left es ≤ 1048576 := by omega
      clear hgs hlen hle2 hn hs1 hat hkey hv hpv hf
      simp only [mkC] at hen ⊢
      go_wp2
      go_roundw
      case rel =>
        refine ⟨_, cnt1, hrg1.alloc _, ?_, hbw1.alloc (by omega) _⟩
        rw [Hgs.out, ← Hn.out]
        congr 1
        omega
      case measure =>
        rw [(hrg1.alloc _).left_eq, Hle.out]
        exact hlt

end Go.Proofs.Ytcfgdlpdnpnhmaa
