/- Contracts and words (several texts merged by wip/merge.py). slices.Sorted(maps.Keys(m)) at this translation: the kit's contracts, laid plainly by its own programs. -/
import Derived.Shelf.SlGeneric
import Derived.Shelf.SlIter.Nil
import Derived.Shelf.SortM.Plain
import Derived.Shelf.SortM.SortNone
import Derived.Ground.GgzProg
import Derived.Ground.SlgmProg
import Derived.Test.YtcfgdlpdnpnhmaaProg
import Derived.Test.YtcfgdlpdnpnhmaaSkAG
namespace Go.Proofs
open Go.RowKit Go.Maps Go.Sort Go.Shelf

def Try.keys95_ren : Go.Shelf.Ren := ⟨fun | 7 => 95 | 10 => 134 | n => n, fun | 23 => 75 | 26 => 9 | 3 => 159 | 28 => 156 | 0 => 0 | 27 => 155 | 33 => 165 | 4 => 4 | n => n, fun | n => n⟩
theorem Try.keys95 : Go.Proofs.SlLaysZ.n7 Try.prog Try.keys95_ren := {
  mixed := by kernel_rfl
  f7 := ⟨Try.f95.name, by decide, Try.func95.trans (congrArg some (by kernel_rfl))⟩
  f10 := ⟨Try.f134.name, by decide, Try.func134.trans (congrArg some (by kernel_rfl))⟩
  t0 := Try.underlying0
  a0 := Try.isAgg0
  z0 := Try.sizeOf0
  v0 := Try.zeroValue0
  t4 := Try.underlying4
  a4 := Try.isAgg4
  z4 := Try.sizeOf4
  v4 := Try.zeroValue4
  t23 := Try.underlying75
  a23 := Try.isAgg75
  z23 := Try.sizeOf75
  v23 := Try.zeroValue75
  t26 := Try.underlying9
  a26 := Try.isAgg9
  z26 := Try.sizeOf9
  v26 := Try.zeroValue9
  t27 := Try.underlying155
  a27 := Try.isAgg155
  z27 := Try.sizeOf155
  v27 := Try.zeroValue155
  t28 := Try.underlying156
  a28 := Try.isAgg156
  z28 := Try.sizeOf156
  v28 := Try.zeroValue156
  t33 := Try.underlying165
  a33 := Try.isAgg165
  z33 := Try.sizeOf165
  v33 := Try.zeroValue165 }
def Try.sorted94_ren : Go.Shelf.Ren := ⟨fun | 6 => 94 | 8 => 132 | 9 => 133 | 11 => 147 | 13 => 149 | 12 => 148 | 23 => 168 | 24 => 169 | 14 => 159 | 15 => 160 | 16 => 161 | 17 => 162 | 18 => 163 | 19 => 164 | 20 => 165 | 21 => 166 | 22 => 167 | 25 => 173 | 26 => 174 | 27 => 175 | 28 => 176 | 29 => 177 | 30 => 178 | 31 => 180 | n => n, fun | 26 => 9 | 28 => 156 | 24 => 52 | 0 => 0 | 3 => 3 | 37 => 183 | 48 => 140 | 50 => 24 | 4 => 4 | 40 => 234 | 39 => 233 | 45 => 239 | 5 => 5 | 9 => 9 | 51 => 245 | 55 => 248 | 57 => 251 | 58 => 252 | 33 => 165 | n => n, fun | n => n⟩
theorem Try.sorted94 : Go.Proofs.SlLaysZ.n6 Try.prog Try.sorted94_ren := {
  mixed := by kernel_rfl
  f6 := ⟨Try.f94.name, by decide, Try.func94.trans (congrArg some (by kernel_rfl))⟩
  f8 := ⟨Try.f132.name, by decide, Try.func132.trans (congrArg some (by kernel_rfl))⟩
  f11 := ⟨Try.f147.name, by decide, Try.func147.trans (congrArg some (by kernel_rfl))⟩
  t0 := Try.underlying0
  a0 := Try.isAgg0
  z0 := Try.sizeOf0
  v0 := Try.zeroValue0
  t24 := Try.underlying52
  a24 := Try.isAgg52
  z24 := Try.sizeOf52
  v24 := Try.zeroValue52
  t26 := Try.underlying9
  a26 := Try.isAgg9
  z26 := Try.sizeOf9
  v26 := Try.zeroValue9
  t28 := Try.underlying156
  a28 := Try.isAgg156
  z28 := Try.sizeOf156
  v28 := Try.zeroValue156
  i26 := by kernel_rfl }
def Try.sort133_ren : Go.Shelf.Ren := ⟨fun | 6 => 133 | 8 => 149 | 9 => 148 | 19 => 168 | 20 => 169 | 21 => 159 | 22 => 160 | 23 => 161 | 24 => 162 | 25 => 163 | 26 => 164 | 27 => 165 | 28 => 166 | 29 => 167 | 36 => 173 | 31 => 174 | 32 => 175 | 37 => 176 | 38 => 177 | 39 => 178 | 41 => 180 | n => n, fun | 27 => 52 | 29 => 9 | 3 => 3 | 32 => 183 | 26 => 52 | 0 => 0 | 44 => 140 | 46 => 24 | 4 => 4 | 36 => 234 | 35 => 233 | 41 => 239 | 5 => 5 | 9 => 9 | 53 => 245 | 57 => 248 | 63 => 251 | 64 => 252 | n => n, fun | n => n⟩
theorem Try.sort133 : Go.Proofs.SlLaysM.n6 Try.prog Try.sort133_ren := {
  mixed := by kernel_rfl
  f6 := ⟨Try.f133.name, by decide, Try.func133.trans (congrArg some (by kernel_rfl))⟩
  f8 := Try.func149.trans (congrArg some (by kernel_rfl))
  f9 := ⟨Try.f148.name, by decide, Try.func148.trans (congrArg some (by kernel_rfl))⟩
  f19 := Try.func168.trans (congrArg some (by kernel_rfl))
  f20 := Try.func169.trans (congrArg some (by kernel_rfl))
  f21 := ⟨Try.f159.name, by decide, Try.func159.trans (congrArg some (by kernel_rfl))⟩
  f22 := ⟨Try.f160.name, by decide, Try.func160.trans (congrArg some (by kernel_rfl))⟩
  f23 := ⟨Try.f161.name, by decide, Try.func161.trans (congrArg some (by kernel_rfl))⟩
  f24 := ⟨Try.f162.name, by decide, Try.func162.trans (congrArg some (by kernel_rfl))⟩
  f25 := ⟨Try.f163.name, by decide, Try.func163.trans (congrArg some (by kernel_rfl))⟩
  f26 := ⟨Try.f164.name, by decide, Try.func164.trans (congrArg some (by kernel_rfl))⟩
  f27 := ⟨Try.f165.name, by decide, Try.func165.trans (congrArg some (by kernel_rfl))⟩
  f28 := ⟨Try.f166.name, by decide, Try.func166.trans (congrArg some (by kernel_rfl))⟩
  f29 := ⟨Try.f167.name, by decide, Try.func167.trans (congrArg some (by kernel_rfl))⟩
  f31 := Try.func174.trans (congrArg some (by kernel_rfl))
  f32 := Try.func175.trans (congrArg some (by kernel_rfl))
  f36 := ⟨Try.f173.name, by decide, Try.func173.trans (congrArg some (by kernel_rfl))⟩
  f37 := ⟨Try.f176.name, by decide, Try.func176.trans (congrArg some (by kernel_rfl))⟩
  f38 := ⟨Try.f177.name, by decide, Try.func177.trans (congrArg some (by kernel_rfl))⟩
  f39 := ⟨Try.f178.name, by decide, Try.func178.trans (congrArg some (by kernel_rfl))⟩
  f41 := ⟨Try.f180.name, by decide, Try.func180.trans (congrArg some (by kernel_rfl))⟩
  t0 := Try.underlying0
  a0 := Try.isAgg0
  z0 := Try.sizeOf0
  v0 := Try.zeroValue0
  t3 := Try.underlying3
  a3 := Try.isAgg3
  z3 := Try.sizeOf3
  v3 := Try.zeroValue3
  t4 := Try.underlying4
  a4 := Try.isAgg4
  z4 := Try.sizeOf4
  v4 := Try.zeroValue4
  t5 := Try.underlying5
  a5 := Try.isAgg5
  z5 := Try.sizeOf5
  v5 := Try.zeroValue5
  t9 := Try.underlying9
  a9 := Try.isAgg9
  z9 := Try.sizeOf9
  v9 := Try.zeroValue9
  t26 := Try.underlying52
  a26 := Try.isAgg52
  z26 := Try.sizeOf52
  v26 := Try.zeroValue52
  t27 := Try.underlying52
  a27 := Try.isAgg52
  z27 := Try.sizeOf52
  v27 := Try.zeroValue52
  t29 := Try.underlying9
  a29 := Try.isAgg9
  z29 := Try.sizeOf9
  v29 := Try.zeroValue9
  t32 := Try.underlying183
  a32 := Try.isAgg183
  z32 := Try.sizeOf183
  v32 := Try.zeroValue183
  t35 := Try.underlying233
  a35 := Try.isAgg233
  z35 := Try.sizeOf233
  v35 := Try.zeroValue233
  t36 := Try.underlying234
  a36 := Try.isAgg234
  z36 := Try.sizeOf234
  v36 := Try.zeroValue234
  t41 := Try.underlying239
  a41 := Try.isAgg239
  z41 := Try.sizeOf239
  v41 := Try.zeroValue239
  t44 := Try.underlying140
  a44 := Try.isAgg140
  z44 := Try.sizeOf140
  v44 := Try.zeroValue140
  t46 := Try.underlying24
  a46 := Try.isAgg24
  z46 := Try.sizeOf24
  v46 := Try.zeroValue24
  t53 := Try.underlying245
  a53 := Try.isAgg245
  z53 := Try.sizeOf245
  v53 := Try.zeroValue245
  t57 := Try.underlying248
  a57 := Try.isAgg248
  z57 := Try.sizeOf248
  v57 := Try.zeroValue248
  t63 := Try.underlying251
  a63 := Try.isAgg251
  z63 := Try.sizeOf251
  v63 := Try.zeroValue251
  t64 := Try.underlying252
  a64 := Try.isAgg252
  z64 := Try.sizeOf252
  v64 := Try.zeroValue252 }


/-- slices.Sort's two contracts at this dump, at the fence that asks nothing. -/
theorem Try.sorts94 (m : Nat) : AnyZ.SortsIn Try.prog Try.sorted94_ren Fence.wide m :=
  ⟨fun blk off cap ss W hH hblk hsz => callsIn_wide.2 (AnyM.slices_Sort_string Try.sort133 blk off cap ss W hH hblk hsz),
   fun p cap W => callsIn_wide.2 (AnyM.slices_Sort_string_none Try.sort133 p cap W)⟩

/-- **maps.Keys[map[string]curfew/disk.content,string,curfew/disk.content], at whatever map, the nil one too:** a function value over ONE NEW BLOCK, which holds the map. -/
theorem Try.maps_Keys_95 (mb : Option Nat) (W : World) : CallsIn Fence.wide 5 Try.prog 95 #[.map mb] W fun e w' => e = .returned (.func (.func 134) #[] #[.pointer (some ⟨W.heap.size, 0, none⟩)]) ∧ w' = W.alloc (.cells #[.map mb] 75) :=
  AnyZ.keys_in Try.keys95 Fence.wide 5 trivial rfl mb W

set_option maxHeartbeats 1000000 in
/-- **slices.Sorted[string] AT WHAT maps.Keys[map[string]curfew/disk.content,string,curfew/disk.content] HANDED BACK FOR A MAP THAT IS NOT nil** ('w': the world AHEAD of maps.Keys' call): A NEW SLICE THAT HOLDS THE MAP's KEYS, SORTED; nil just where it has none; nothing that lay before has turned. -/
theorem Try.slices_Sorted_keys_94_95 {H : Type} (b nn : Nat) (D0 : DataW H) (R : Value → Option (DataW H × List MemPlace)) (w : World) (hown : w.ownsMap Try.prog 9 R b nn D0) (hmax : Maps.size D0 ≤ maxLen) (hbytes : Maps.size D0 * 16 ≤ 140737488355328) :
    CallsIn Fence.wide 5 Try.prog 94 #[.func (.func 134) #[] #[.pointer (some ⟨w.heap.size, 0, none⟩)]] (w.alloc (.cells #[.map (some b)] 75)) fun e w' => ∃ (v : Value) (ss : List (List UInt8)), e = .returned v ∧ ss.Perm (strKeys D0) ∧
      w'.ownsRow (w.alloc (.cells #[.map (some b)] 75)).heap.size 9 1 v ss.length ((ss.mergeSort (fun x y => decide (x ≤ y))).map encStr) ∧ (v = .slice none 0 0 ↔ ss = []) ∧ Below (w.alloc (.cells #[.map (some b)] 75)).heap.size (w.alloc (.cells #[.map (some b)] 75)) w' := by
  have hbl := hown.lt
  have hseq : SeqGives Fence.wide 2 Try.prog 134 #[.pointer (some ⟨w.heap.size, 0, none⟩)] encStr (fun ss => ss.Perm (strKeys D0)) (Maps.size D0) (w.alloc (.cells #[.map (some b)] 75)) :=
    AnyZ.keys_gives (ρ := Try.keys95_ren) { Try.keys95 with } Fence.wide _ trivial rfl (by omega) w.heap.size b nn D0 _ (by simp) (by simp) (by
      obtain ⟨es, clock, hb, Ft, hs, hD⟩ := hown
      exact ⟨es, clock, (Below.heap_alloc _ _ b hbl).trans hb, Ft, hs, hD⟩)
  exact AnyZ.sorted_in Try.sorted94 Fence.wide 5 trivial trivial trivial trivial rfl (by omega) (Try.sorts94 _) (enters_of Try.func133 (by kernel_rfl) rfl) 134 #[.pointer (some ⟨w.heap.size, 0, none⟩)] trivial (enters_of Try.func134 (by kernel_rfl) rfl) _ _ hmax hbytes _ hseq

set_option maxHeartbeats 1000000 in
/-- **.. AND FOR THE nil MAP: nil.** -/
theorem Try.slices_Sorted_keys_nil_94_95 (w : World) :
    CallsIn Fence.wide 5 Try.prog 94 #[.func (.func 134) #[] #[.pointer (some ⟨w.heap.size, 0, none⟩)]] (w.alloc (.cells #[.map none] 75)) fun e w' => ∃ (v : Value) (ss : List (List UInt8)), e = .returned v ∧ ss = [] ∧
      w'.ownsRow (w.alloc (.cells #[.map none] 75)).heap.size 9 1 v ss.length ((ss.mergeSort (fun x y => decide (x ≤ y))).map encStr) ∧ (v = .slice none 0 0 ↔ ss = []) ∧ Below (w.alloc (.cells #[.map none] 75)).heap.size (w.alloc (.cells #[.map none] 75)) w' := by
  have hseq : SeqGives Fence.wide 2 Try.prog 134 #[.pointer (some ⟨w.heap.size, 0, none⟩)] encStr (fun ss : List (List UInt8) => ss = []) 0 (w.alloc (.cells #[.map none] 75)) :=
    AnyZ.keys_gives_nil (ρ := Try.keys95_ren) { Try.keys95 with } Fence.wide _ trivial rfl w.heap.size _ (by simp) (by simp)
  exact AnyZ.sorted_in Try.sorted94 Fence.wide 5 trivial trivial trivial trivial rfl (by omega) (Try.sorts94 _) (enters_of Try.func133 (by kernel_rfl) rfl) 134 #[.pointer (some ⟨w.heap.size, 0, none⟩)] trivial (enters_of Try.func134 (by kernel_rfl) rfl) _ 0 (Nat.zero_le _) (by omega) _ hseq



end Go.Proofs
set_option linter.unusedVariables false
set_option linter.unusedSimpArgs false
namespace Go.Proofs.Ytcfgdlpdnpnhmaa
open Go.RowKit Go.Maps Go.WideMaps Go.Sort

theorem before_le : ∀ (a b : Bs), bytesBefore a b = true → a ≤ b := by
  intro a
  induction a with
  | nil => intro b _; exact List.nil_le b
  | cons x r ih =>
    intro b h
    cases b with
    | nil => simp [bytesBefore] at h
    | cons y s =>
      simp only [bytesBefore, Bool.or_eq_true, decide_eq_true_eq, Bool.and_eq_true, beq_iff_eq] at h
      rw [List.cons_le_cons_iff]
      rcases h with h | ⟨rfl, h⟩
      · exact Or.inl h
      · exact Or.inr ⟨rfl, ih s h⟩

/-- Strings in a row. -/
def strVals (l : List Bs) : List Value := l.map encStr
/-- What Names answers: the names, rising, in a row of the call's own. -/
def NamesGives (w : World) (l : List Bs) (e : Ending) (w' : World) : Prop :=
  ∃ v, e = .returned v ∧ w'.ownsRow w.heap.size 9 1 v l.length (strVals l) ∧ Below w.heap.size w w'

theorem strKeys_dat (es : Ents) : strKeys (dat es) = es.map fun p => p.1.name := by
  simp only [strKeys, dat, List.map_map]
  rfl

theorem names_calls (d mp mt : Nat) (D : Dsk) (w : World) (h : IsDisk w d mp mt D) (hr : Dsk.Rising D.files) (hlen : D.files.length ≤ 1048576) :
    Calls Try.prog 31 #[.pointer (some ⟨d, 0, none⟩)] w (NamesGives w (D.files.map (·.name))) := by
  have hu := none_calls d mp mt D w h
  have c0 := h.c0
  obtain ⟨es, he, hc, hown⟩ := h.map
  have hl : es.length = D.files.length := by rw [← he, List.length_map]
  have hK := callsIn_wide.1 (Try.maps_Keys_95 (some mp) w)
  have hS := callsIn_wide.1 (Try.slices_Sorted_keys_94_95 mp es.length (dat es) RV w hown (by simp [dat, Maps.size, maxLen]; omega) (by simp [dat, Maps.size]; omega))
  have Hu := Lib.hid hu
  have HK := Lib.hid hK
  have HS := Lib.hid hS
  have He := Lib.hid he
  have Hl := Lib.hid hl
  clear hu hK hS he hl
  go_enter Try.func31, Try.ntmps31
  go_wp2_with (first
    | (go_at_call 93; refine Hu.out.mono ?_; rintro e w' ⟨rfl, rfl⟩)
    | (go_at_call 95; refine HK.out.mono ?_; rintro e w' ⟨rfl, rfl⟩)
    | (go_at_call 94; refine HS.out.mono ?_; rintro e w' ⟨v, ss, rfl, hP, hrow, hnil, hb⟩))
  go_ret
  have hkeys : strKeys (dat es) = D.files.map (·.name) := by
    rw [strKeys_dat, ← He.out, List.map_map]
    rfl
  have hsort : ss.mergeSort (fun x y => decide (x ≤ y)) = D.files.map (·.name) := by
    rw [mergeSort_of_perm hP, hkeys]
    refine List.mergeSort_of_pairwise ?_
    rw [List.pairwise_map]
    exact hr.imp (fun hab => by simpa [leB] using before_le _ _ hab)
  rw [hsort] at hrow
  have hsl : ss.length = D.files.length := by rw [hP.length_eq, hkeys, List.length_map]
  rw [hsl] at hrow
  refine ⟨v, rfl, ?_, ?_⟩
  · rw [List.length_map]
    exact hrow.rebase (by simp)
  · exact ((Below.refl _ _).alloc (Nat.le_refl _) _).trans (hb.mono (by simp))

end Go.Proofs.Ytcfgdlpdnpnhmaa
set_option linter.unusedVariables false
set_option linter.unusedSimpArgs false
namespace Go.Proofs.Ytcfgdlpdnpnhmaa
open Go.RowKit Go.Maps

/-- What 'file' answers where the file is there, or a new one begins. -/
def FileAny (w : World) (f : File) (code : Int) (e : Ending) (w' : World) : Prop :=
  ∃ A n c, e = .returned (.tuple #[.agg #[.slice A n c, .int .i64 f.kept], .int .i64 code]) ∧ Bts w A n f.all ∧ n ≤ c ∧ (A = none → c = 0) ∧ Below w.heap.size w w'

theorem sum_le_mem : ∀ (l : List File) (f : File), f ∈ l → f.all.length ≤ Dsk.sum l
  | [], f, h => by cases h
  | x :: r, f, h => by
    unfold Dsk.sum
    rcases List.mem_cons.1 h with rfl | h
    · omega
    · have := sum_le_mem r f h
      omega

set_option maxRecDepth 100000 in
theorem append_ok (d mp mt : Nat) (D : Dsk) (s : ByteArray) (f : File) (code : Int) (A' : Option Addr) (m c' : Nat) (b : Bs) (w : World) (h : IsDisk w d mp mt D) (hs : s.size ≤ 9223372036854775807) (hb : Bts w A' m b) (hok : D.Ok)
    (hst : D.steps < 4611686018427387904) (hn : Dsk.named s.data.toList = true) (hname : f.name = s.data.toList) (hcode : code = 0 ∨ code = 31 ∧ D.files.length < 128) (hfit : (m : Int) ≤ D.free) (hfl : f.all.length ≤ 1048576)
    (hfile : Calls Try.prog 100 #[.pointer (some ⟨d, 0, none⟩), .string s] w (FileAny w f code)) :
    Calls Try.prog 41 #[.pointer (some ⟨d, 0, none⟩), .string s, .slice A' m c'] w fun e w' => e = .returned (.int .i64 ({ D with files := Dsk.put D.files ⟨s.data.toList, f.all ++ b, f.kept⟩ } : Dsk).step.2) ∧
      Left w d mp mt ({ D with files := Dsk.put D.files ⟨s.data.toList, f.all ++ b, f.kept⟩ } : Dsk).step.1 w' := by
  have hc := Lib.hid hfile
  have H := Lib.hid h
  have hm2 : (m : Int) ≤ 1048576 := by
    have := hok.room1
    unfold Dsk.free at hfit
    split at hfit <;> omega
  have hnm := fun W => named_calls s W hs
  rw [hn] at hnm
  have Hn := Lib.hid hnm
  have Hfree := Lib.hid (fun (w1 : World) (hb : Below w.heap.size w w1) => free_calls d mp mt D w1 (h.below hb) hok.room0 hok.room1 hok.sum (by have := hok.many; omega))
  have Hstep := Lib.hid (fun (w1 : World) (h1 : IsDisk w1 d mp mt { D with files := Dsk.put D.files ⟨s.data.toList, f.all ++ b, f.kept⟩ }) => step_calls d mp mt _ w1 h1 hst hok.armed0 hok.armed1)
  have hdl := h.lt_d
  have hmpl := h.lt_mp
  have hmtl := h.lt_mt
  have hlen : D.files.length ≤ 1048576 := by have := hok.many; omega
  have hg1 : decide (D.free < (m : Int)) = false := decide_eq_false (by omega)
  have Hname := Lib.hid hname
  clear hfile h hnm hn hok hst hname hfit
  rcases hcode with rfl | ⟨rfl, hmany⟩
  all_goals
    go_enter Try.func41, Try.ntmps41
    go_wp2_with (first
      | (go_at_call 100; refine hc.out.mono ?_; rintro e w1 ⟨A, n, c, rfl, hbf, hnc, hA, hbl⟩; have HA := Lib.hid hA; clear hA; have hsz := hbl.size; have hbl1 := hbl.alloc hbl.size (.cells #[.slice A n c, .int .i64 f.kept] 159); have c0 := (H.out.below hbl1).c0; have hml := (H.out.below hbl1).len; have hbx1 := blk_new w1 (.cells #[.slice A n c, .int .i64 f.kept] 159))
      | (go_at_call 101; refine (Hn.out _).mono ?_; rintro e w2 ⟨rfl, rfl⟩)
      | (go_at_call 33; refine (Hfree.out _ hbl1).mono ?_; rintro e w2 ⟨rfl, hbl2⟩; have hbx2 := (hbl2.block w1.heap.size (by simp)).trans hbx1; have b0 := blk_cell hbx2 0; have b1 := blk_cell hbx2 1; have bf := blk_frozen hbx2 0; have hsz2 := hbl2.size; have hsl := run_cut3 A n c n hnc; have hw2 := hbl1.trans (hbl2.mono (Nat.le_trans hsz (by simp))))
      | (at_builtin; refine wpList_append_cut _ rfl _ _ rfl A n f.all rfl (hbf.below hw2) A' m c' b rfl (hb.below hw2) (by have := hbf.1; omega) ?_; intro A2 c2 w3 hB3 hnc3 hA3 hbl3; have HA3 := Lib.hid hA3; clear hA3; have hbx3 := (hbl3.block w1.heap.size (Nat.lt_of_lt_of_le (by simp) hsz2)).trans hbx2; have b0' := blk_cell hbx3 0; have b1' := blk_cell hbx3 1; have bf' := blk_frozen hbx3 0))
    have hw3 : Below w.heap.size w w3 := hw2.trans (hbl3.mono hw2.size)
    obtain ⟨w4, e4⟩ : ∃ w4, w4 = w3.setCell ⟨w1.heap.size, 0, none⟩ (.slice A2 (n + m) c2) := ⟨_, rfl⟩
    rw [← e4]
    have hbx4 : w4.heap[w1.heap.size]? = some (.cells #[.slice A2 (n + m) c2, .int .i64 f.kept] 159 (0, 0)) := by rw [e4]; exact blk_set hbx3 0 _
    have he4 : Ext [w1.heap.size] w3 w4 := by rw [e4]; exact (Ext.refl _ _).setCell (Or.inl (by simp)) _
    have hno : ∀ k, k ∈ [w1.heap.size] → NoU8 w3 k := fun k hk => by rw [List.mem_singleton.1 hk]; exact box_no hbx3
    have hD4 : IsDisk w4 d mp mt D := (H.out.below hw3).ext he4 hno (by simp; omega) (by simp; omega) (by simp; omega)
    have hC4 : Cont w4 (.agg #[.slice A2 (n + m) c2, .int .i64 f.kept]) ⟨s.data.toList, f.all ++ b, f.kept⟩ := ⟨A2, n + m, c2, rfl, hB3.ext he4 hno, hnc3, HA3.out⟩
    have hW4 : Ext [d, mp, mt] w w4 := (Ext.of_below hw3).then_ he4 (fun i hi => Or.inr (by rw [List.mem_singleton.1 hi]; exact hsz))
    clear e4 hno he4 hbx3 hbx2 hbx1 b0 b1 bf b0' b1' bf' hB3 hw3 hw2 hbl3 hbl2 hbl1 hml c0 hsl
    have c0 := hD4.c0
    have k0 := blk_cell hbx4 0
    have k1 := blk_cell hbx4 1
    go_still_tail 6, (by kernel_rfl)
    change wpList _ _ _ _ _ w4.drew
    go_wp2_with (first
      | (refine wpList_disk_store _ rfl _ _ _ rfl rfl s rfl _ rfl hD4.drew hs _ rfl hC4 hlen ?_; intro w5 hD5 he5)
      | (go_at_call 102; refine (Hstep.out _ hD5).mono ?_; rintro e w6 ⟨rfl, hL⟩))
    go_ret
    exact ⟨rfl, hL.disk, (hW4.drew.then_ he5 (fun i hi => Or.inl (by rw [List.mem_singleton.1 hi]; simp))).then_ hL.ext (fun i hi => Or.inl hi)⟩

set_option maxRecDepth 100000 in
theorem append_full (d mp mt : Nat) (D : Dsk) (s : ByteArray) (f : File) (code : Int) (A' : Option Addr) (m c' : Nat) (w : World) (h : IsDisk w d mp mt D) (hs : s.size ≤ 9223372036854775807) (hm : m ≤ 9223372036854775807) (hok : D.Ok)
    (hn : Dsk.named s.data.toList = true) (hcode : code = 0 ∧ D.free < (m : Int) ∨ code = 31 ∧ D.files.length < 128 ∧ D.free < (m : Int) ∨ code = 31 ∧ 128 ≤ D.files.length)
    (hfile : Calls Try.prog 100 #[.pointer (some ⟨d, 0, none⟩), .string s] w (FileAny w f code)) :
    Calls Try.prog 41 #[.pointer (some ⟨d, 0, none⟩), .string s, .slice A' m c'] w fun e w' => e = .returned (.int .i64 30) ∧ Left w d mp mt D w' := by
  have hc := Lib.hid hfile
  have H := Lib.hid h
  have hnm := fun W => named_calls s W hs
  rw [hn] at hnm
  have Hn := Lib.hid hnm
  have Hfree := Lib.hid (fun (w1 : World) (hb : Below w.heap.size w w1) => free_calls d mp mt D w1 (h.below hb) hok.room0 hok.room1 hok.sum (by have := hok.many; omega))
  have hlen : D.files.length ≤ 1048576 := by have := hok.many; omega
  clear hfile h hnm hn hok
  rcases hcode with ⟨rfl, hf⟩ | ⟨rfl, hmany, hf⟩ | ⟨rfl, hmany⟩
  · have hg1 : decide (D.free < (m : Int)) = true := decide_eq_true hf
    go_enter Try.func41, Try.ntmps41
    go_wp2_with (first
      | (go_at_call 100; refine hc.out.mono ?_; rintro e w1 ⟨A, n, c, rfl, hbf, hnc, hA, hbl⟩; have HA := Lib.hid hA; clear hA; have hsz := hbl.size; have hbl1 := hbl.alloc hbl.size (.cells #[.slice A n c, .int .i64 f.kept] 159); have c0 := (H.out.below hbl1).c0; have hml := (H.out.below hbl1).len)
      | (go_at_call 101; refine (Hn.out _).mono ?_; rintro e w2 ⟨rfl, rfl⟩)
      | (go_at_call 33; refine (Hfree.out _ hbl1).mono ?_; rintro e w2 ⟨rfl, hbl2⟩; have hw2 := hbl1.trans (hbl2.mono (Nat.le_trans hsz (by simp)))))
    go_ret
    exact ⟨rfl, H.out.below hw2, Ext.of_below hw2⟩
  · have hg1 : decide (D.free < (m : Int)) = true := decide_eq_true hf
    go_enter Try.func41, Try.ntmps41
    go_wp2_with (first
      | (go_at_call 100; refine hc.out.mono ?_; rintro e w1 ⟨A, n, c, rfl, hbf, hnc, hA, hbl⟩; have HA := Lib.hid hA; clear hA; have hsz := hbl.size; have hbl1 := hbl.alloc hbl.size (.cells #[.slice A n c, .int .i64 f.kept] 159); have c0 := (H.out.below hbl1).c0; have hml := (H.out.below hbl1).len)
      | (go_at_call 101; refine (Hn.out _).mono ?_; rintro e w2 ⟨rfl, rfl⟩)
      | (go_at_call 33; refine (Hfree.out _ hbl1).mono ?_; rintro e w2 ⟨rfl, hbl2⟩; have hw2 := hbl1.trans (hbl2.mono (Nat.le_trans hsz (by simp)))))
    go_ret
    exact ⟨rfl, H.out.below hw2, Ext.of_below hw2⟩
  · go_enter Try.func41, Try.ntmps41
    go_wp2_with (first
      | (go_at_call 100; refine hc.out.mono ?_; rintro e w1 ⟨A, n, c, rfl, hbf, hnc, hA, hbl⟩; have HA := Lib.hid hA; clear hA; have hsz := hbl.size; have hbl1 := hbl.alloc hbl.size (.cells #[.slice A n c, .int .i64 f.kept] 159); have c0 := (H.out.below hbl1).c0; have hml := (H.out.below hbl1).len)
      | (go_at_call 101; refine (Hn.out _).mono ?_; rintro e w2 ⟨rfl, rfl⟩))
    go_ret
    exact ⟨rfl, H.out.below hbl1, Ext.of_below hbl1⟩

theorem append_calls (d mp mt : Nat) (D : Dsk) (s : ByteArray) (A' : Option Addr) (m c' : Nat) (b : Bs) (w : World) (h : IsDisk w d mp mt D) (hs : s.size ≤ 9223372036854775807) (hb : Bts w A' m b) (hm : m ≤ 9223372036854775807) (hok : D.Ok)
    (hst : D.steps < 4611686018427387904) :
    Calls Try.prog 41 #[.pointer (some ⟨d, 0, none⟩), .string s, .slice A' m c'] w fun e w' => e = .returned (.int .i64 (D.append s.data.toList b).2) ∧ Left w d mp mt (D.append s.data.toList b).1 w' := by
  cases hd : D.down
  · have hsum : ∀ f ∈ D.files, f.all.length ≤ 1048576 := fun f hf => Nat.le_trans (sum_le_mem _ f hf) hok.sum
    cases hn : Dsk.named s.data.toList
    · rw [show D.append s.data.toList b = (D, 2) by unfold Dsk.append; rw [hd, if_neg (by simp), if_pos hn]]
      have H := Lib.hid h
      have hnm := fun W => named_calls s W hs
      rw [hn] at hnm
      have Hn := Lib.hid hnm
      cases hf : Dsk.find D.files s.data.toList with
      | none =>
        have hc := Lib.hid (file_none d mp mt D s w h hs hd hf)
        clear h hd hf hsum hok hnm hn hb
        go_enter Try.func41, Try.ntmps41
        go_wp2_with (first
          | (go_at_call 100; refine hc.out.mono ?_; rintro e w1 ⟨rfl, hbl⟩)
          | (go_at_call 101; refine (Hn.out _).mono ?_; rintro e w2 ⟨rfl, rfl⟩))
        go_ret
        exact ⟨rfl, H.out.below (hbl.alloc hbl.size _), Ext.of_below (hbl.alloc hbl.size _)⟩
      | some f =>
        have hc := Lib.hid (file_some d mp mt D s f w h hs hd hf)
        clear h hd hf hsum hok hnm hn hb
        go_enter Try.func41, Try.ntmps41
        go_wp2_with (first
          | (go_at_call 100; refine hc.out.mono ?_; rintro e w1 ⟨A, n, c, rfl, _, hnc, hA, hbl⟩; have HA := Lib.hid hA; clear hA)
          | (go_at_call 101; refine (Hn.out _).mono ?_; rintro e w2 ⟨rfl, rfl⟩))
        go_ret
        exact ⟨rfl, H.out.below (hbl.alloc hbl.size _), Ext.of_below (hbl.alloc hbl.size _)⟩
    · have hbl := hb.1
      cases hf : Dsk.find D.files s.data.toList with
      | none =>
        have hr : D.append s.data.toList b = if 128 ≤ D.files.length ∨ D.free < b.length then (D, 30) else ({ D with files := Dsk.put D.files ⟨s.data.toList, b, 0⟩ } : Dsk).step := by unfold Dsk.append; rw [hd, if_neg (by simp), if_neg (by simp [hn]), hf]
        have hc := file_none d mp mt D s w h hs hd hf
        have hc' : Calls Try.prog 100 #[.pointer (some ⟨d, 0, none⟩), .string s] w (FileAny w ⟨s.data.toList, [], 0⟩ 31) := hc.mono fun e w' ⟨a, b⟩ => ⟨none, 0, 0, a, Bts.nil _ _, Nat.le_refl _, fun _ => rfl, b⟩
        by_cases h1 : 128 ≤ D.files.length
        · rw [hr, if_pos (Or.inl h1)]
          exact append_full d mp mt D s _ 31 A' m c' w h hs hm hok hn (Or.inr (Or.inr ⟨rfl, h1⟩)) hc'
        · by_cases h2 : D.free < b.length
          · rw [hr, if_pos (Or.inr h2)]
            exact append_full d mp mt D s _ 31 A' m c' w h hs hm hok hn (Or.inr (Or.inl ⟨rfl, by omega, by omega⟩)) hc'
          · rw [hr, if_neg (by omega)]
            exact append_ok d mp mt D s ⟨s.data.toList, [], 0⟩ 31 A' m c' b w h hs hb hok hst hn rfl (Or.inr ⟨rfl, by omega⟩) (by omega) (by simp) hc'
      | some f =>
        have hr : D.append s.data.toList b = if D.free < b.length then (D, 30) else ({ D with files := Dsk.put D.files ⟨s.data.toList, f.all ++ b, f.kept⟩ } : Dsk).step := by unfold Dsk.append; rw [hd, if_neg (by simp), if_neg (by simp [hn]), hf]
        have hc := file_some d mp mt D s f w h hs hd hf
        by_cases h2 : D.free < b.length
        · rw [hr, if_pos h2]
          exact append_full d mp mt D s f 0 A' m c' w h hs hm hok hn (Or.inl ⟨rfl, by omega⟩) hc
        · rw [hr, if_neg h2]
          exact append_ok d mp mt D s f 0 A' m c' b w h hs hb hok hst hn (mem_find hf).2 (Or.inl rfl) (by omega) (hsum f (mem_find hf).1) hc
  · rw [show D.append s.data.toList b = (D, 50) by unfold Dsk.append; rw [hd]; rfl]
    have hc := Lib.hid (file_down d mp mt D s w h hd)
    have H := Lib.hid h
    clear h hd hok hb
    go_enter Try.func41, Try.ntmps41
    go_wp2_with (go_at_call 100; refine hc.out.mono ?_; rintro e w' ⟨rfl, hbl⟩)
    go_ret
    exact ⟨rfl, H.out.below (hbl.alloc hbl.size _), Ext.of_below (hbl.alloc hbl.size _)⟩

end Go.Proofs.Ytcfgdlpdnpnhmaa
