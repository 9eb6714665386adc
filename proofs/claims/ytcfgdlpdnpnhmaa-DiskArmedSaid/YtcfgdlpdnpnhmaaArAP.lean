/- The statement DiskArmed: for every slice l of calls, every number of steps and every call o, curfewlaw23.DiskArmed answers true; all arguments read as they did. No condition. -/
import Derived.Test.YtcfgdlpdnpnhmaaRows
import Derived.Test.YtcfgdlpdnpnhmaaArAO
import Derived.OpenShut
import Derived.ShutString
import Derived.ChangeOld
import Derived.Below
import Derived.SizedLaws
set_option linter.unusedVariables false
set_option linter.unusedSimpArgs false
namespace Go.Proofs.Ytcfgdlpdnpnhmaa
open Go.ChangeShapes Go.WideShapes Go.ChangeAt Go.RowKit

theorem own_knob_ar : ownKnob Try.prog.godebug = none := by kernel_rfl
theorem laid_out_ar : laidOutB Try.prog = true := by kernel_rfl
theorem bytes_op_ar : Try.prog.bytesOf 49 = 88 := by kernel_rfl

set_option maxRecDepth 100000 in
theorem diskArmed_lifted (os : Os) (started : os.Started) (H : Type) (enc : TypeId × Value → H) :
    ReturnsInHanded {} Try.checked os 7 .any (Rows.diskArmedSpec.pre6 enc Try.prog Try.f7 Rows.diskArmedRow.domain false) (Rows.diskArmedSpec.post enc Try.prog Try.f7 false true false false) := by
  refine returnsInHanded_of_change_sized (C := Try.checked) own_knob_ar started (by kernel_rfl) Try.func7
    (ChangeSpec.witness6 (enc := enc) (C := Try.checked) false ⟨#[], #[.slice none 0 0, .int .u8 0, .agg #[.int .i64 0, .int .i64 0, .string ⟨#[]⟩, .string ⟨#[]⟩, .string ⟨#[]⟩, .slice none 0 0]], []⟩ 8 (by kernel_rfl) (by kernel_rfl) (by kernel_rfl) (by kernel_rfl)) ?_
  intro W base args ds gs before hval0 hW hcnd hsz0 _
  have hval : ∀ (j : Nat) t v, Try.f7.params[j]? = some t → args[j]? = some v → Value.okWide Try.prog W .any base t v := hval0
  have hsz : (DataW.weightsEach Try.prog (Try.f7.params.toList ++ Rows.diskArmedSpec.plain.varTypes Try.prog) (ds ++ gs)).all (· ≤ reachBytes) = true := hsz0
  have hW' := hW
  obtain ⟨p, q, hA0, hV, rfl, hfz, hnd⟩ := hW
  have hA : DataW.TrodAll enc Try.prog W 0 (fun _ => true) true Try.f7.params.toList args.toList ds p := hA0
  rw [Try.params7] at hA hval hsz
  obtain ⟨v0, vs0, d0, ds0, p0, q0, hargs, rfl, rfl, h0, r0⟩ := trodAll_cons hA
  obtain ⟨v1, vs1, d1, ds1, p1, q1, rfl, rfl, rfl, h1, r1⟩ := trodAll_cons r0
  obtain ⟨v2, vs2, d2, ds2, p2, q2, rfl, rfl, rfl, h2, r2⟩ := trodAll_cons r1
  obtain ⟨rfl, rfl, rfl⟩ := trodAll_nil r2
  obtain rfl : args = #[v0, v1, v2] := by apply Array.toList_inj.1; exact hargs
  obtain ⟨rfl, rfl⟩ := trodVars_none hV
  obtain ⟨a0, len, cap, rfl⟩ := okWide_slice Try.underlying39 (hval 0 39 v0 rfl rfl)
  obtain ⟨x, rfl, rfl, rfl, wx⟩ := open_int Try.underlying5 (hval 1 5 v1 rfl rfl) h1
  obtain ⟨cs, rfl, _⟩ := okWide_struct Try.underlying49 (hval 2 49 v2 rfl rfl)
  have k0 := h0
  have k2 := h2
  have lt0 : ∀ x ∈ p0, x.block < W.heap.size := by obtain ⟨m, hm⟩ := k0; exact DataW.trod_lt m _ _ _ hm
  have lt2 : ∀ x ∈ p2, x.block < W.heap.size := by obtain ⟨m, hm⟩ := k2; exact DataW.trod_lt m _ _ _ hm
  obtain ⟨fuel, hf⟩ := h0
  obtain ⟨A, n, c, l, hcs, ho, hnc, hrd⟩ := ops_open hf
  have hcs' : (Value.slice a0 len cap) = .slice A n c := by
    have : [Value.slice a0 len cap] = [.slice A n c] := hcs
    injection this
  injection hcs' with e1 e2 e3
  subst e1 e2 e3
  obtain ⟨fuel2, hf2⟩ := h2
  obtain ⟨o, hoc⟩ := op_open hf2
  obtain ⟨Ao, mo, co, hs, hT, hmc, hcm⟩ := hoc.shape
  have hcs2 : cs = #[.int .i64 o.kind, .int .i64 o.n, .string o.name, .string o.to_, .string o.text, .slice Ao mo co] := by
    apply Array.toList_inj.1
    exact hs
  subst hcs2
  have hn : len ≤ 140737488355328 := by
    rcases hrd with rfl | ⟨el, sp, hx, hl⟩
    · omega
    · dsimp only at hx
      subst hx
      have := sized_slice hsz (j := 0) (t := 39) (e := 49) rfl rfl Try.underlying39
      rw [bytes_op_ar] at this
      unfold reachBytes at this
      omega
  have hb0 : 0 ≤ x ∧ x ≤ 255 := by
    have h3 := wx
    simp [Lit.wf, IntKind.min, IntKind.max, IntKind.bits, IntKind.signed] at h3
    omega
  obtain ⟨S, rfl⟩ : ∃ S : Nat, x = (S : Int) := ⟨x.toNat, by omega⟩
  clear hA0 hval0
  refine (armed23_calls a0 len cap l S o Ao mo co W ho hn (by omega) hoc).mono fun e W' ⟨he, bel⟩ => ?_
  subst he
  exact ⟨_, rfl, _, _, _, [], _, [], hW', trodAll_mk1 (shut_bool Try.underlying4 _), (trodAll_cons_mk (Below.trod laid_out_ar (by kernel_rfl) (of_decide_eq_true (by kernel_rfl)) k0 bel lt0) (trodAll_cons_mk (shut_int Try.underlying5 wx) (trodAll_cons_mk (Below.trod laid_out_ar (by kernel_rfl) (of_decide_eq_true (by kernel_rfl)) k2 bel lt2) trodAll_mk0))), rfl, bel.frame _, fun h => by cases h⟩

theorem diskArmed_holds : Rows.DiskArmedSaid :=
  OpenClaim.holds_of_wide 7 Try.f7 rfl rfl rfl rfl rfl rfl rfl ⟨rfl, rfl, rfl, rfl, rfl⟩ rfl rfl rfl rfl rfl (by kernel_rfl) Try.func7 (by kernel_rfl)
    (of_decide_eq_true (by kernel_rfl)) (by unfold Func.isWrapper; first | (rw [if_pos (by decide +kernel)]; kernel_rfl) | (rw [if_neg (by decide +kernel)]; exact ⟨rfl, rfl⟩))
    (fun os started H enc _ => diskArmed_lifted os started H enc)
#print axioms diskArmed_holds
end Go.Proofs.Ytcfgdlpdnpnhmaa
