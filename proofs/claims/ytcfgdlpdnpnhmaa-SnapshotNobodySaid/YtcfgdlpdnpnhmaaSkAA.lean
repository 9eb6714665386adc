/- Contracts and words (several texts merged by wip/merge.py). A disk as a plain value: what each of its calls answers and leaves (P23). Plain functions on lists and numbers; no program. -/
import Derived.WideShapes
import Derived.WideAt
set_option linter.unusedVariables false
set_option linter.unusedSimpArgs false
namespace Go.Proofs.Ytcfgdlpdnpnhmaa
open Go

abbrev Bs := List UInt8

/-- A file: its name; all its bytes, of which the first 'kept' are kept. -/
structure File where
  name : Bs
  all : Bs
  kept : Nat

/-- A disk: its files by their names, rising; 'armed': after how many steps the power goes, -1: not. -/
structure Dsk where
  room : Int
  files : List File
  down : Bool
  armed : Int
  steps : Nat

namespace Dsk

def new (room : Int) : Dsk := ⟨room, [], false, -1, 0⟩
def find (l : List File) (n : Bs) : Option File := l.find? (fun f => f.name == n)
def ins (f : File) : List File → List File
  | [] => [f]
  | y :: r => if bytesBefore f.name y.name then f :: y :: r else y :: ins f r
def del (l : List File) (n : Bs) : List File := l.filter (fun f => !(f.name == n))
def put (l : List File) (f : File) : List File := ins f (del l f.name)
def sum : List File → Nat
  | [] => 0
  | f :: r => f.all.length + sum r
def free (D : Dsk) : Int := if 0 ≤ D.room - (sum D.files : Int) then D.room - (sum D.files : Int) else 0
def named (n : Bs) : Bool := decide (1 ≤ n.length ∧ n.length ≤ 16)
def step (D : Dsk) : Dsk × Int :=
  if D.armed = 0 then ({ D with steps := D.steps + 1, down := true, armed := -1 }, 50)
  else if 0 < D.armed then ({ D with steps := D.steps + 1, armed := D.armed - 1 }, 0)
  else ({ D with steps := D.steps + 1 }, 0)
def append (D : Dsk) (n b : Bs) : Dsk × Int :=
  if D.down = true then (D, 50) else if named n = false then (D, 2) else
  match find D.files n with
  | none => if 128 ≤ D.files.length ∨ free D < b.length then (D, 30) else step { D with files := put D.files ⟨n, b, 0⟩ }
  | some f => if free D < b.length then (D, 30) else step { D with files := put D.files ⟨n, f.all ++ b, f.kept⟩ }
def sync (D : Dsk) (n : Bs) : Dsk × Int :=
  if D.down = true then (D, 50) else
  match find D.files n with
  | none => (D, 31)
  | some f => if (step D).2 ≠ 0 then step D else ({ (step D).1 with files := put (step D).1.files ⟨n, f.all, f.all.length⟩ }, 0)
def cut (D : Dsk) (n : Bs) (k : Int) : Dsk × Int :=
  if D.down = true then (D, 50) else
  match find D.files n with
  | none => (D, 31)
  | some f => if k < 0 ∨ (f.all.length : Int) < k then (D, 2) else
    if (step D).2 ≠ 0 then step D else ({ (step D).1 with files := put (step D).1.files ⟨n, f.all.take k.toNat, min f.kept k.toNat⟩ }, 0)
def remove (D : Dsk) (n : Bs) : Dsk × Int :=
  if D.down = true then (D, 50) else
  match find D.files n with
  | none => (D, 31)
  | some _ => if (step D).2 ≠ 0 then step D else ({ (step D).1 with files := del (step D).1.files n }, 0)
def move (D : Dsk) (n m : Bs) : Dsk × Int :=
  if D.down = true then (D, 50) else
  match find D.files n with
  | none => (D, 31)
  | some f => if named m = false then (D, 2) else
    if (step D).2 ≠ 0 then step D else ({ (step D).1 with files := put (del (step D).1.files n) ⟨m, f.all, f.kept⟩ }, 0)
def read (D : Dsk) (n : Bs) : Bs × Int :=
  if D.down = true then ([], 50) else
  match find D.files n with
  | none => ([], 31)
  | some f => (f.all, 0)
def arm (D : Dsk) (k : Int) : Dsk × Int :=
  if D.down = true then (D, 50) else if k < 0 then (D, 2) else ({ D with armed := k }, 0)
def resize (D : Dsk) (k : Int) : Dsk × Int :=
  if D.down = true then (D, 50) else if k < 0 ∨ 1048576 < k then (D, 2) else ({ D with room := k }, 0)
def boot (D : Dsk) : Dsk := { D with down := false, armed := -1 }

/-- What stays of loose bytes: a beginning, whose last three bytes are turned. -/
def torn (loose : Bs) (t : Nat × Nat) : Bs :=
  let b := loose.take (t.1 % (loose.length + 1))
  if 3 ≤ b.length then
    ((b.set (b.length - 3) (b.getD (b.length - 3) 0 ^^^ UInt8.ofNat (t.2 / 65536))).set (b.length - 2) (b.getD (b.length - 2) 0 ^^^ UInt8.ofNat (t.2 / 256))).set (b.length - 1) (b.getD (b.length - 1) 0 ^^^ UInt8.ofNat t.2)
  else b
/-- A file behind a crash, and the tears that are left. -/
def crashFile (f : File) (ts : List (Nat × Nat)) : File × List (Nat × Nat) :=
  if f.kept < f.all.length then
    (⟨f.name, f.all.take f.kept ++ torn (f.all.drop f.kept) (ts.headD (0, 0)), (f.all.take f.kept ++ torn (f.all.drop f.kept) (ts.headD (0, 0))).length⟩, ts.tail)
  else (f, ts)
def crashGo : List File → List (Nat × Nat) → List File
  | [], _ => []
  | f :: r, ts => (if (crashFile f ts).1.all = [] then [] else [(crashFile f ts).1]) ++ crashGo r (crashFile f ts).2
def crash (D : Dsk) (ts : List (Nat × Nat)) : Dsk := { D with down := true, armed := -1, files := crashGo D.files ts }

/-! ### what a disk keeps to -/
def Rising (l : List File) : Prop := l.Pairwise (fun a b => bytesBefore a.name b.name = true)

structure Ok (D : Dsk) : Prop where
  room0 : 0 ≤ D.room
  room1 : D.room ≤ 1048576
  sum : sum D.files ≤ 1048576
  many : D.files.length ≤ 128
  names : ∀ f ∈ D.files, 1 ≤ f.name.length ∧ f.name.length ≤ 16
  kept : ∀ f ∈ D.files, f.kept ≤ f.all.length
  rising : Rising D.files
  armed0 : -1 ≤ D.armed
  armed1 : D.armed ≤ 9223372036854775807

end Dsk
end Go.Proofs.Ytcfgdlpdnpnhmaa
set_option linter.unusedVariables false
set_option linter.unusedSimpArgs false
namespace Go.Proofs.Ytcfgdlpdnpnhmaa
open Go
namespace Q

/-- The number that bytes are, the greatest first. -/
def beGo (n : Nat) : Bs → Nat
  | [] => n
  | c :: r => beGo (n * 256 + c.toNat) r
def be (l : Bs) : Nat := beGo 0 l
/-- What a reader has: the bytes that are left, and whether it is bad. -/
abbrev St := Bs × Bool
def bad : St := ([], true)
/-- A number that is at most 'most', and the reader behind it; a bad one: 0. -/
def num (most : Nat) (s : St) : Nat × St :=
  match s.1 with
  | [] => (0, bad)
  | c :: r =>
    if 8 < c.toNat ∨ r.length < c.toNat ∨ (0 < c.toNat ∧ r.headD 0 = 0) then (0, bad)
    else if most < be (r.take c.toNat) then (0, bad)
    else (be (r.take c.toNat), (r.drop c.toNat, s.2))
/-- So many bytes. -/
def raw (n : Nat) (s : St) : Bs × St := if s.1.length < n then ([], bad) else (s.1.take n, (s.1.drop n, s.2))
/-- A text of at most so many bytes. -/
def text (most : Nat) (s : St) : Bs × St :=
  if (num most s).2.1.length < (num most s).1 then ([], bad) else raw (num most s).1 (num most s).2
/-- Is all read, and nothing bad? -/
def fin (s : St) : Bool := !s.2 && s.1.isEmpty

theorem beGo_lt : ∀ (l : Bs) (n : Nat), beGo n l < (n + 1) * 256 ^ l.length
  | [], n => by simp [beGo]
  | c :: r, n => by
    have h := beGo_lt r (n * 256 + c.toNat)
    have hc := c.toNat_lt
    unfold beGo
    rw [List.length_cons, Nat.pow_succ]
    have h2 : (n * 256 + c.toNat + 1) * 256 ^ r.length ≤ ((n + 1) * 256) * 256 ^ r.length := Nat.mul_le_mul_right _ (by omega)
    have h3 : ((n + 1) * 256) * 256 ^ r.length = (n + 1) * (256 ^ r.length * 256) := by rw [Nat.mul_assoc, Nat.mul_comm 256]
    omega
theorem beGo_append : ∀ (l m : Bs) (n : Nat), beGo n (l ++ m) = beGo (beGo n l) m
  | [], m, n => rfl
  | c :: r, m, n => by show beGo _ (r ++ m) = _; rw [beGo_append r m]; rfl
theorem be_take_succ (l : Bs) (k : Nat) (hk : k < l.length) : be (l.take (k + 1)) = be (l.take k) * 256 + (l.getD k 0).toNat := by
  unfold be
  rw [List.take_succ_eq_append_getElem hk, beGo_append, List.getD_eq_getElem?_getD, List.getElem?_eq_getElem hk]
  rfl
theorem be_lt (l : Bs) (h : l.length ≤ 8) : be l < 18446744073709551616 := by
  have h1 := beGo_lt l 0
  have h2 : (256 : Nat) ^ l.length ≤ 256 ^ 8 := Nat.pow_le_pow_right (by omega) h
  unfold be
  have h3 : (256 : Nat) ^ 8 = 18446744073709551616 := by decide
  omega
theorem be_lt7 (l : Bs) (h : l.length ≤ 7) : be l < 72057594037927936 := by
  have h1 := beGo_lt l 0
  have h2 : (256 : Nat) ^ l.length ≤ 256 ^ 7 := Nat.pow_le_pow_right (by omega) h
  unfold be
  have h3 : (256 : Nat) ^ 7 = 72057594037927936 := by decide
  omega
theorem or_byte (a b : Nat) (hb : b < 256) : a * 256 ||| b = a * 256 + b := by
  have h := Nat.two_pow_add_eq_or_of_lt (i := 8) (b := b) (by omega) a
  rw [show (2 : Nat) ^ 8 = 256 by decide] at h
  rw [Nat.mul_comm a 256]
  exact h.symm
theorem num_le (most : Nat) (s : St) : (num most s).1 ≤ most := by
  unfold num
  split
  · exact Nat.zero_le _
  · split
    · exact Nat.zero_le _
    · split
      · exact Nat.zero_le _
      · dsimp only; omega
theorem num_len (most : Nat) (s : St) : (num most s).2.1.length ≤ s.1.length := by
  obtain ⟨l, b⟩ := s
  unfold num
  cases l with
  | nil => simp [bad]
  | cons c r =>
    dsimp only
    split
    · simp [bad]
    · split
      · simp [bad]
      · simp; omega
end Q
end Go.Proofs.Ytcfgdlpdnpnhmaa
set_option linter.unusedVariables false
set_option linter.unusedSimpArgs false
namespace Go.Proofs.Ytcfgdlpdnpnhmaa
open Go
namespace Q

/-- A turn: the sum is shifted; if the top bit goes out, it is turned. -/
def turn (out : Bool) (s : Nat) : Nat := if out then (s * 2 % 16777216) ^^^ 8801531 else s * 2 % 16777216
/-- The program's step. -/
def step (s : Nat) : Nat := turn (s.testBit 23) s
/-- The document's step with bit i of a byte. -/
def bit (c i s : Nat) : Nat := turn (s.testBit 23 != c.testBit i) s
def crcByte (s c : Nat) : Nat := step (step (step (step (step (step (step (step (s ^^^ c * 65536))))))))
def refByte (s c : Nat) : Nat := bit c 0 (bit c 1 (bit c 2 (bit c 3 (bit c 4 (bit c 5 (bit c 6 (bit c 7 s)))))))
theorem turn_lt (o : Bool) (s : Nat) : turn o s < 16777216 := by
  unfold turn
  have h1 : s * 2 % 16777216 < 2 ^ 24 := Nat.mod_lt _ (by decide)
  split
  · exact Nat.xor_lt_two_pow h1 (by decide)
  · exact h1
theorem dbl_xor (a b : Nat) : (a ^^^ b) * 2 % 16777216 = (a * 2 % 16777216) ^^^ (b * 2 % 16777216) := by
  have h := Nat.xor_mod_two_pow (a := a * 2) (b := b * 2) (n := 24)
  have e : (a ^^^ b) * 2 = (a * 2) ^^^ (b * 2) := by
    have := Nat.shiftLeft_xor_distrib (a := a) (b := b) (i := 1)
    simpa [Nat.shiftLeft_eq] using this
  rw [e]
  exact h
/-- A turn of a sum with a byte laid over it. -/
theorem step_over (s c i : Nat) (hi : i < 8) : step (s ^^^ (c * 2 ^ (23 - i) % 16777216)) = bit c i s ^^^ (c * 2 ^ (24 - i) % 16777216) := by
  have ht : (s ^^^ (c * 2 ^ (23 - i) % 16777216)).testBit 23 = (s.testBit 23 != c.testBit i) := by
    rw [Nat.testBit_xor]
    have h1 : (c * 2 ^ (23 - i) % 16777216).testBit 23 = c.testBit i := by
      rw [show (16777216 : Nat) = 2 ^ 24 by decide, Nat.testBit_mod_two_pow, ← Nat.shiftLeft_eq, Nat.testBit_shiftLeft]
      simp
      rw [show 23 - (23 - i) = i by omega]
    rw [h1]
    try (cases s.testBit 23 <;> cases c.testBit i <;> rfl)
  have hd : (c * 2 ^ (23 - i) % 16777216) * 2 % 16777216 = c * 2 ^ (24 - i) % 16777216 := by
    rw [Nat.mod_mul_mod, Nat.mul_assoc, ← Nat.pow_succ, show (23 - i).succ = 24 - i by omega]
  unfold step bit
  rw [ht]
  unfold turn
  split
  · rw [dbl_xor, hd, Nat.xor_assoc, Nat.xor_assoc, Nat.xor_comm 8801531]
  · rw [dbl_xor, hd]
theorem byte_eq (s c : Nat) (hc : c < 256) : crcByte s c = refByte s c := by
  have h0 : s ^^^ c * 65536 = s ^^^ (c * 2 ^ (23 - 7) % 16777216) := by
    rw [show (2 : Nat) ^ (23 - 7) = 65536 by decide, Nat.mod_eq_of_lt (by omega)]
  have h8 : ∀ x, x ^^^ (c * 2 ^ (24 - 0) % 16777216) = x := fun x => by
    rw [show (2 : Nat) ^ (24 - 0) = 16777216 by decide, Nat.mul_mod_left, Nat.xor_zero]
  unfold crcByte refByte
  rw [h0, step_over _ _ _ (by omega), show 24 - 7 = 23 - 6 by decide, step_over _ _ _ (by omega), show 24 - 6 = 23 - 5 by decide, step_over _ _ _ (by omega), show 24 - 5 = 23 - 4 by decide, step_over _ _ _ (by omega), show 24 - 4 = 23 - 3 by decide, step_over _ _ _ (by omega), show 24 - 3 = 23 - 2 by decide, step_over _ _ _ (by omega), show 24 - 2 = 23 - 1 by decide, step_over _ _ _ (by omega), show 24 - 1 = 23 - 0 by decide, step_over _ _ _ (by omega), h8]
/-- The sum goes on over bytes. -/
def on (s : Nat) (l : Bs) : Nat := l.foldl (fun s c => crcByte s c.toNat) (s % 16777216)
def sum (l : Bs) : Nat := on 11994318 l
def sealed (l : Bs) : Bs := l ++ [UInt8.ofNat (sum l / 65536), UInt8.ofNat (sum l / 256), UInt8.ofNat (sum l)]
end Q
end Go.Proofs.Ytcfgdlpdnpnhmaa
