/- Contracts and words (several texts merged by wip/merge.py). A disk as a plain value: what each of its calls answers and leaves (P23). Plain functions on lists and numbers; no program. -/
import Derived.WideShapes
import Derived.WideAt
import Derived.Test.YtcfgdlpdnpnhmaaArAA
set_option linter.unusedVariables false
set_option linter.unusedSimpArgs false
namespace Go.Proofs.Ytcfgdlpdnpnhmaa
open Go

abbrev Bs := List UInt8

/-- A file: its name; all its bytes, of which the first 'kept' are kept. -/
structure File where
  name : Bs
  all : Bs
  kept : Nat

/-- A disk: its files by their names, rising; 'armed': after how many steps the power goes, -1: not. -/
structure Dsk where
  room : Int
  files : List File
  down : Bool
  armed : Int
  steps : Nat

namespace Dsk

def new (room : Int) : Dsk := ⟨room, [], false, -1, 0⟩
def find (l : List File) (n : Bs) : Option File := l.find? (fun f => f.name == n)
def ins (f : File) : List File → List File
  | [] => [f]
  | y :: r => if bytesBefore f.name y.name then f :: y :: r else y :: ins f r
def del (l : List File) (n : Bs) : List File := l.filter (fun f => !(f.name == n))
def put (l : List File) (f : File) : List File := ins f (del l f.name)
def sum : List File → Nat
  | [] => 0
  | f :: r => f.all.length + sum r
def free (D : Dsk) : Int := if 0 ≤ D.room - (sum D.files : Int) then D.room - (sum D.files : Int) else 0
def named (n : Bs) : Bool := decide (1 ≤ n.length ∧ n.length ≤ 16)
def step (D : Dsk) : Dsk × Int :=
  if D.armed = 0 then ({ D with steps := D.steps + 1, down := true, armed := -1 }, 50)
  else if 0 < D.armed then ({ D with steps := D.steps + 1, armed := D.armed - 1 }, 0)
  else ({ D with steps := D.steps + 1 }, 0)
def append (D : Dsk) (n b : Bs) : Dsk × Int :=
  if D.down = true then (D, 50) else if named n = false then (D, 2) else
  match find D.files n with
  | none => if 128 ≤ D.files.length ∨ free D < b.length then (D, 30) else step { D with files := put D.files ⟨n, b, 0⟩ }
  | some f => if free D < b.length then (D, 30) else step { D with files := put D.files ⟨n, f.all ++ b, f.kept⟩ }
def sync (D : Dsk) (n : Bs) : Dsk × Int :=
  if D.down = true then (D, 50) else
  match find D.files n with
  | none => (D, 31)
  | some f => if (step D).2 ≠ 0 then step D else ({ (step D).1 with files := put (step D).1.files ⟨n, f.all, f.all.length⟩ }, 0)
def cut (D : Dsk) (n : Bs) (k : Int) : Dsk × Int :=
  if D.down = true then (D, 50) else
  match find D.files n with
  | none => (D, 31)
  | some f => if k < 0 ∨ (f.all.length : Int) < k then (D, 2) else
    if (step D).2 ≠ 0 then step D else ({ (step D).1 with files := put (step D).1.files ⟨n, f.all.take k.toNat, min f.kept k.toNat⟩ }, 0)
def remove (D : Dsk) (n : Bs) : Dsk × Int :=
  if D.down = true then (D, 50) else
  match find D.files n with
  | none => (D, 31)
  | some _ => if (step D).2 ≠ 0 then step D else ({ (step D).1 with files := del (step D).1.files n }, 0)
def move (D : Dsk) (n m : Bs) : Dsk × Int :=
  if D.down = true then (D, 50) else
  match find D.files n with
  | none => (D, 31)
  | some f => if named m = false then (D, 2) else
    if (step D).2 ≠ 0 then step D else ({ (step D).1 with files := put (del (step D).1.files n) ⟨m, f.all, f.kept⟩ }, 0)
def read (D : Dsk) (n : Bs) : Bs × Int :=
  if D.down = true then ([], 50) else
  match find D.files n with
  | none => ([], 31)
  | some f => (f.all, 0)
def arm (D : Dsk) (k : Int) : Dsk × Int :=
  if D.down = true then (D, 50) else if k < 0 then (D, 2) else ({ D with armed := k }, 0)
def resize (D : Dsk) (k : Int) : Dsk × Int :=
  if D.down = true then (D, 50) else if k < 0 ∨ 1048576 < k then (D, 2) else ({ D with room := k }, 0)
def boot (D : Dsk) : Dsk := { D with down := false, armed := -1 }

/-- What stays of loose bytes: a beginning, whose last three bytes are turned. -/
def torn (loose : Bs) (t : Nat × Nat) : Bs :=
  let b := loose.take (t.1 % (loose.length + 1))
  if 3 ≤ b.length then
    ((b.set (b.length - 3) (b.getD (b.length - 3) 0 ^^^ UInt8.ofNat (t.2 / 65536))).set (b.length - 2) (b.getD (b.length - 2) 0 ^^^ UInt8.ofNat (t.2 / 256))).set (b.length - 1) (b.getD (b.length - 1) 0 ^^^ UInt8.ofNat t.2)
  else b
/-- A file behind a crash, and the tears that are left. -/
def crashFile (f : File) (ts : List (Nat × Nat)) : File × List (Nat × Nat) :=
  if f.kept < f.all.length then
    (⟨f.name, f.all.take f.kept ++ torn (f.all.drop f.kept) (ts.headD (0, 0)), (f.all.take f.kept ++ torn (f.all.drop f.kept) (ts.headD (0, 0))).length⟩, ts.tail)
  else (f, ts)
def crashGo : List File → List (Nat × Nat) → List File
  | [], _ => []
  | f :: r, ts => (if (crashFile f ts).1.all = [] then [] else [(crashFile f ts).1]) ++ crashGo r (crashFile f ts).2
def crash (D : Dsk) (ts : List (Nat × Nat)) : Dsk := { D with down := true, armed := -1, files := crashGo D.files ts }

/-! ### what a disk keeps to -/
def Rising (l : List File) : Prop := l.Pairwise (fun a b => bytesBefore a.name b.name = true)

structure Ok (D : Dsk) : Prop where
  room0 : 0 ≤ D.room
  room1 : D.room ≤ 1048576
  sum : sum D.files ≤ 1048576
  many : D.files.length ≤ 128
  names : ∀ f ∈ D.files, 1 ≤ f.name.length ∧ f.name.length ≤ 16
  kept : ∀ f ∈ D.files, f.kept ≤ f.all.length
  rising : Rising D.files
  armed0 : -1 ≤ D.armed
  armed1 : D.armed ≤ 9223372036854775807

end Dsk
end Go.Proofs.Ytcfgdlpdnpnhmaa
