/-
  No cell of these rows narrows 'for every input' (looked for: loops, veiled, ifaces, maps, wideKeys, modest, calm, conditions, laid).
  DERIVED. THE GIVEN ROWS OF THIS SEAT. 12 by the template 'for every input the law returns true; each argument reads behind the call as it read before'; 0 by the template 'total and deterministic' (their statements: YtcfgdlpdnpnhmaaTotals.lean).
  GIVEN WITH THE SEED: the statements are not yours to turn. If you find one false, say at which input.
  Laid BY PROGRAM, IN A SANDBOX (cutbox-rows.mjs): the forced cells as the released guide's own fill.sh prints them over the translation bdb5cc57a67279c6… (all of the seat's roots in one cut). By AI agents, Wed Nov 11 2026. No macro, syntax, notation, axiom, sorry.
-/
import Derived.Test.YtcfgdlpdnpnhmaaChecked
import GoSem.Claim
import GoSem.ClaimJoined
import GoSem.ClaimMapViews
import Derived.JoinedTies
import Derived.KernelRfl
namespace Go.Proofs.Ytcfgdlpdnpnhmaa
/- THE CELL 'sum', in the pinned program and in every row, IS THE sha256 OF THE DUMP (.gsa) THAT YtcfgdlpdnpnhmaaProg.lean LOADS. Nothing in Lean hashes anything: it is a label: what it is worth is what the hold of that sum in a sandbox is worth. -/
noncomputable def Try.pinned : Pinned := { name := "ytcfgdlpdnpnhmaa", sum := "bdb5cc57a67279c657f4b9a27f1858b1ae14beb551fdf14f1919deef05ea72e6", checked := Try.checked }
namespace Rows
def none {H : Type} : Left H := { results := [], args := [] }

/-- 'curfewlaw27.SnapshotReads': WHATEVER THE INPUT: true; the input reads as it did. -/
def snapshotReadsSpec : ChangeSpec := { name := "snapshotReads", fn := fun _ => fun
  | [d] => { results := [.lit (.bool true)], args := [d] }
  | _ => none }
def snapshotReadsRow : OpenClaim := { program := "ytcfgdlpdnpnhmaa", sum := "bdb5cc57a67279c657f4b9a27f1858b1ae14beb551fdf14f1919deef05ea72e6", func := "curfew/curfewlaw27.SnapshotReads", spec := "snapshotReads", inPlace := ["sync/atomic.LoadUint64", "sync/atomic.CompareAndSwapUint64"], unfollowed := true, recurses := true, apart := false }
def SnapshotReadsSaid : Prop := snapshotReadsRow.holds Try.pinned (OpenSpec.ofChange snapshotReadsSpec)

/-- ITS FALSE NEIGHBOUR: 'it returns false'. Refute it at one input. -/
def snapshotReadsWrong : ChangeSpec := { name := "snapshotReads", fn := fun _ => fun
  | [d] => { results := [.lit (.bool false)], args := [d] }
  | _ => none }
def SnapshotReadsWrongFalsely : Prop := snapshotReadsRow.holds Try.pinned (OpenSpec.ofChange snapshotReadsWrong)

/-- 'curfewlaw27.SnapshotBytes': WHATEVER THE INPUT: true; the input reads as it did. -/
def snapshotBytesSpec : ChangeSpec := { name := "snapshotBytes", fn := fun _ => fun
  | [d1, d2, d3] => { results := [.lit (.bool true)], args := [d1, d2, d3] }
  | _ => none }
def snapshotBytesRow : OpenClaim := { program := "ytcfgdlpdnpnhmaa", sum := "bdb5cc57a67279c657f4b9a27f1858b1ae14beb551fdf14f1919deef05ea72e6", func := "curfew/curfewlaw27.SnapshotBytes", spec := "snapshotBytes", inPlace := ["sync/atomic.LoadUint64", "sync/atomic.CompareAndSwapUint64"], unfollowed := true, recurses := true, apart := false }
def SnapshotBytesSaid : Prop := snapshotBytesRow.holds Try.pinned (OpenSpec.ofChange snapshotBytesSpec)

/-- ITS FALSE NEIGHBOUR: 'it returns false'. Refute it at one input. -/
def snapshotBytesWrong : ChangeSpec := { name := "snapshotBytes", fn := fun _ => fun
  | [d1, d2, d3] => { results := [.lit (.bool false)], args := [d1, d2, d3] }
  | _ => none }
def SnapshotBytesWrongFalsely : Prop := snapshotBytesRow.holds Try.pinned (OpenSpec.ofChange snapshotBytesWrong)

/-- 'curfewlaw23.DiskPlays': WHATEVER THE INPUT: true; the input reads as it did. -/
def diskPlaysSpec : ChangeSpec := { name := "diskPlays", fn := fun _ => fun
  | [d1, d2] => { results := [.lit (.bool true)], args := [d1, d2] }
  | _ => none }
def diskPlaysRow : OpenClaim := { program := "ytcfgdlpdnpnhmaa", sum := "bdb5cc57a67279c657f4b9a27f1858b1ae14beb551fdf14f1919deef05ea72e6", func := "curfew/curfewlaw23.DiskPlays", spec := "diskPlays", inPlace := ["sync/atomic.LoadUint64", "sync/atomic.CompareAndSwapUint64"], unfollowed := true, recurses := true, apart := false }
def DiskPlaysSaid : Prop := diskPlaysRow.holds Try.pinned (OpenSpec.ofChange diskPlaysSpec)

/-- ITS FALSE NEIGHBOUR: 'it returns false'. Refute it at one input. -/
def diskPlaysWrong : ChangeSpec := { name := "diskPlays", fn := fun _ => fun
  | [d1, d2] => { results := [.lit (.bool false)], args := [d1, d2] }
  | _ => none }
def DiskPlaysWrongFalsely : Prop := diskPlaysRow.holds Try.pinned (OpenSpec.ofChange diskPlaysWrong)

/-- 'curfewlaw23.DiskKeeps': WHATEVER THE INPUT: true; the input reads as it did. -/
def diskKeepsSpec : ChangeSpec := { name := "diskKeeps", fn := fun _ => fun
  | [d1, d2] => { results := [.lit (.bool true)], args := [d1, d2] }
  | _ => none }
def diskKeepsRow : OpenClaim := { program := "ytcfgdlpdnpnhmaa", sum := "bdb5cc57a67279c657f4b9a27f1858b1ae14beb551fdf14f1919deef05ea72e6", func := "curfew/curfewlaw23.DiskKeeps", spec := "diskKeeps", inPlace := ["sync/atomic.LoadUint64", "sync/atomic.CompareAndSwapUint64"], unfollowed := true, recurses := true, apart := false }
def DiskKeepsSaid : Prop := diskKeepsRow.holds Try.pinned (OpenSpec.ofChange diskKeepsSpec)

/-- ITS FALSE NEIGHBOUR: 'it returns false'. Refute it at one input. -/
def diskKeepsWrong : ChangeSpec := { name := "diskKeeps", fn := fun _ => fun
  | [d1, d2] => { results := [.lit (.bool false)], args := [d1, d2] }
  | _ => none }
def DiskKeepsWrongFalsely : Prop := diskKeepsRow.holds Try.pinned (OpenSpec.ofChange diskKeepsWrong)

/-- 'curfewlaw23.DiskArmed': WHATEVER THE INPUT: true; the input reads as it did. -/
def diskArmedSpec : ChangeSpec := { name := "diskArmed", fn := fun _ => fun
  | [d1, d2, d3] => { results := [.lit (.bool true)], args := [d1, d2, d3] }
  | _ => none }
def diskArmedRow : OpenClaim := { program := "ytcfgdlpdnpnhmaa", sum := "bdb5cc57a67279c657f4b9a27f1858b1ae14beb551fdf14f1919deef05ea72e6", func := "curfew/curfewlaw23.DiskArmed", spec := "diskArmed", inPlace := ["sync/atomic.LoadUint64", "sync/atomic.CompareAndSwapUint64"], unfollowed := true, recurses := true, apart := false }
def DiskArmedSaid : Prop := diskArmedRow.holds Try.pinned (OpenSpec.ofChange diskArmedSpec)

/-- ITS FALSE NEIGHBOUR: 'it returns false'. Refute it at one input. -/
def diskArmedWrong : ChangeSpec := { name := "diskArmed", fn := fun _ => fun
  | [d1, d2, d3] => { results := [.lit (.bool false)], args := [d1, d2, d3] }
  | _ => none }
def DiskArmedWrongFalsely : Prop := diskArmedRow.holds Try.pinned (OpenSpec.ofChange diskArmedWrong)

/-- 'curfewlaw23.DiskNobody': WHATEVER THE INPUT: true; the input reads as it did. -/
def diskNobodySpec : ChangeSpec := { name := "diskNobody", fn := fun _ => fun
  | [d] => { results := [.lit (.bool true)], args := [d] }
  | _ => none }
def diskNobodyRow : OpenClaim := { program := "ytcfgdlpdnpnhmaa", sum := "bdb5cc57a67279c657f4b9a27f1858b1ae14beb551fdf14f1919deef05ea72e6", func := "curfew/curfewlaw23.DiskNobody", spec := "diskNobody", inPlace := ["sync/atomic.LoadUint64", "sync/atomic.CompareAndSwapUint64"], unfollowed := true, recurses := true, apart := false }
def DiskNobodySaid : Prop := diskNobodyRow.holds Try.pinned (OpenSpec.ofChange diskNobodySpec)

/-- ITS FALSE NEIGHBOUR: 'it returns false'. Refute it at one input. -/
def diskNobodyWrong : ChangeSpec := { name := "diskNobody", fn := fun _ => fun
  | [d] => { results := [.lit (.bool false)], args := [d] }
  | _ => none }
def DiskNobodyWrongFalsely : Prop := diskNobodyRow.holds Try.pinned (OpenSpec.ofChange diskNobodyWrong)

/-- 'curfewlaw26.VowSays': WHATEVER THE INPUT: true; the input reads as it did. -/
def vowSaysSpec : ChangeSpec := { name := "vowSays", fn := fun _ => fun
  | [d1, d2] => { results := [.lit (.bool true)], args := [d1, d2] }
  | _ => none }
def vowSaysRow : OpenClaim := { program := "ytcfgdlpdnpnhmaa", sum := "bdb5cc57a67279c657f4b9a27f1858b1ae14beb551fdf14f1919deef05ea72e6", func := "curfew/curfewlaw26.VowSays", spec := "vowSays", inPlace := ["sync/atomic.LoadUint64", "sync/atomic.CompareAndSwapUint64"], unfollowed := true, recurses := true, apart := false }
def VowSaysSaid : Prop := vowSaysRow.holds Try.pinned (OpenSpec.ofChange vowSaysSpec)

/-- ITS FALSE NEIGHBOUR: 'it returns false'. Refute it at one input. -/
def vowSaysWrong : ChangeSpec := { name := "vowSays", fn := fun _ => fun
  | [d1, d2] => { results := [.lit (.bool false)], args := [d1, d2] }
  | _ => none }
def VowSaysWrongFalsely : Prop := vowSaysRow.holds Try.pinned (OpenSpec.ofChange vowSaysWrong)

/-- 'curfewlaw26.VowNobody': WHATEVER THE INPUT: true; the input reads as it did. -/
def vowNobodySpec : ChangeSpec := { name := "vowNobody", fn := fun _ => fun
  | [d] => { results := [.lit (.bool true)], args := [d] }
  | _ => none }
def vowNobodyRow : OpenClaim := { program := "ytcfgdlpdnpnhmaa", sum := "bdb5cc57a67279c657f4b9a27f1858b1ae14beb551fdf14f1919deef05ea72e6", func := "curfew/curfewlaw26.VowNobody", spec := "vowNobody", inPlace := ["sync/atomic.LoadUint64", "sync/atomic.CompareAndSwapUint64"], unfollowed := true, recurses := true, apart := false }
def VowNobodySaid : Prop := vowNobodyRow.holds Try.pinned (OpenSpec.ofChange vowNobodySpec)

/-- ITS FALSE NEIGHBOUR: 'it returns false'. Refute it at one input. -/
def vowNobodyWrong : ChangeSpec := { name := "vowNobody", fn := fun _ => fun
  | [d] => { results := [.lit (.bool false)], args := [d] }
  | _ => none }
def VowNobodyWrongFalsely : Prop := vowNobodyRow.holds Try.pinned (OpenSpec.ofChange vowNobodyWrong)

/-- 'curfewlaw27.SnapshotNobody': WHATEVER THE INPUT: true; the input reads as it did. -/
def snapshotNobodySpec : ChangeSpec := { name := "snapshotNobody", fn := fun _ => fun
  | [d] => { results := [.lit (.bool true)], args := [d] }
  | _ => none }
def snapshotNobodyRow : OpenClaim := { program := "ytcfgdlpdnpnhmaa", sum := "bdb5cc57a67279c657f4b9a27f1858b1ae14beb551fdf14f1919deef05ea72e6", func := "curfew/curfewlaw27.SnapshotNobody", spec := "snapshotNobody", inPlace := ["sync/atomic.LoadUint64", "sync/atomic.CompareAndSwapUint64"], unfollowed := true, recurses := true, apart := false }
def SnapshotNobodySaid : Prop := snapshotNobodyRow.holds Try.pinned (OpenSpec.ofChange snapshotNobodySpec)

/-- ITS FALSE NEIGHBOUR: 'it returns false'. Refute it at one input. -/
def snapshotNobodyWrong : ChangeSpec := { name := "snapshotNobody", fn := fun _ => fun
  | [d] => { results := [.lit (.bool false)], args := [d] }
  | _ => none }
def SnapshotNobodyWrongFalsely : Prop := snapshotNobodyRow.holds Try.pinned (OpenSpec.ofChange snapshotNobodyWrong)

/-- 'curfewlaw26.VowKeeps': WHATEVER THE INPUT: true; the input reads as it did. -/
def vowKeepsSpec : ChangeSpec := { name := "vowKeeps", fn := fun _ => fun
  | [d1, d2, d3] => { results := [.lit (.bool true)], args := [d1, d2, d3] }
  | _ => none }
def vowKeepsRow : OpenClaim := { program := "ytcfgdlpdnpnhmaa", sum := "bdb5cc57a67279c657f4b9a27f1858b1ae14beb551fdf14f1919deef05ea72e6", func := "curfew/curfewlaw26.VowKeeps", spec := "vowKeeps", inPlace := ["sync/atomic.LoadUint64", "sync/atomic.CompareAndSwapUint64"], unfollowed := true, recurses := true, apart := false }
def VowKeepsSaid : Prop := vowKeepsRow.holds Try.pinned (OpenSpec.ofChange vowKeepsSpec)

/-- ITS FALSE NEIGHBOUR: 'it returns false'. Refute it at one input. -/
def vowKeepsWrong : ChangeSpec := { name := "vowKeeps", fn := fun _ => fun
  | [d1, d2, d3] => { results := [.lit (.bool false)], args := [d1, d2, d3] }
  | _ => none }
def VowKeepsWrongFalsely : Prop := vowKeepsRow.holds Try.pinned (OpenSpec.ofChange vowKeepsWrong)

/-- 'curfewlaw26.VowNever': WHATEVER THE INPUT: true; the input reads as it did. -/
def vowNeverSpec : ChangeSpec := { name := "vowNever", fn := fun _ => fun
  | [d1, d2] => { results := [.lit (.bool true)], args := [d1, d2] }
  | _ => none }
def vowNeverRow : OpenClaim := { program := "ytcfgdlpdnpnhmaa", sum := "bdb5cc57a67279c657f4b9a27f1858b1ae14beb551fdf14f1919deef05ea72e6", func := "curfew/curfewlaw26.VowNever", spec := "vowNever", inPlace := ["sync/atomic.LoadUint64", "sync/atomic.CompareAndSwapUint64"], unfollowed := true, recurses := true, apart := false }
def VowNeverSaid : Prop := vowNeverRow.holds Try.pinned (OpenSpec.ofChange vowNeverSpec)

/-- ITS FALSE NEIGHBOUR: 'it returns false'. Refute it at one input. -/
def vowNeverWrong : ChangeSpec := { name := "vowNever", fn := fun _ => fun
  | [d1, d2] => { results := [.lit (.bool false)], args := [d1, d2] }
  | _ => none }
def VowNeverWrongFalsely : Prop := vowNeverRow.holds Try.pinned (OpenSpec.ofChange vowNeverWrong)

/-- 'curfewlaw27.SnapshotKeeps': WHATEVER THE INPUT: true; the input reads as it did. -/
def snapshotKeepsSpec : ChangeSpec := { name := "snapshotKeeps", fn := fun _ => fun
  | [d1, d2, d3] => { results := [.lit (.bool true)], args := [d1, d2, d3] }
  | _ => none }
def snapshotKeepsRow : OpenClaim := { program := "ytcfgdlpdnpnhmaa", sum := "bdb5cc57a67279c657f4b9a27f1858b1ae14beb551fdf14f1919deef05ea72e6", func := "curfew/curfewlaw27.SnapshotKeeps", spec := "snapshotKeeps", inPlace := ["sync/atomic.LoadUint64", "sync/atomic.CompareAndSwapUint64"], unfollowed := true, recurses := true, apart := false }
def SnapshotKeepsSaid : Prop := snapshotKeepsRow.holds Try.pinned (OpenSpec.ofChange snapshotKeepsSpec)

/-- ITS FALSE NEIGHBOUR: 'it returns false'. Refute it at one input. -/
def snapshotKeepsWrong : ChangeSpec := { name := "snapshotKeeps", fn := fun _ => fun
  | [d1, d2, d3] => { results := [.lit (.bool false)], args := [d1, d2, d3] }
  | _ => none }
def SnapshotKeepsWrongFalsely : Prop := snapshotKeepsRow.holds Try.pinned (OpenSpec.ofChange snapshotKeepsWrong)

/- THE SECOND FORM. 'bulk': how many values and letters a reading holds, each counted each time it is reached (what is shared counts as often as it is met; a slice's spare places count too). A statement '..UptoSaid' is the law's where the arguments, and the package variables that the reading takes, are together of bulk at most 1048576: NARROWER than '..Said'. Prove '..Said' where nothing that the law and all that it calls make is longer than what came in: it says more and counts as full. Else prove '..UptoSaid'. A law counts once. -/
mutual
def uptoBulk {H : Type} : DataW H → Nat
  | .lit (.string bytes) => bytes.length + 1
  | .lit _ => 1
  | .nil => 1
  | .ptr d => uptoBulk d + 1
  | .slice elems spare => uptoBulkAll elems + uptoBulkAll spare + 1
  | .agg parts => uptoBulkAll parts + 1
  | .iface _ d => uptoBulk d + 1
  | .map entries => uptoBulkEntries entries + 1
  | .held _ => 1
def uptoBulkAll {H : Type} : List (DataW H) → Nat
  | [] => 0
  | d :: r => uptoBulk d + uptoBulkAll r
def uptoBulkEntries {H : Type} : List (Lit × DataW H) → Nat
  | [] => 0
  | x :: r => uptoBulkEntry x + uptoBulkEntries r
def uptoBulkEntry {H : Type} : Lit × DataW H → Nat
  | (.string bytes, d) => bytes.length + uptoBulk d + 1
  | (_, d) => uptoBulk d + 1
 end
def uptoSmall : (H : Type) → List (DataW H) → Bool := fun _ ds => decide (uptoBulkAll ds ≤ 1048576)
def OpenSpec.upto (s : _root_.Go.ChangeSpec) : _root_.Go.OpenSpec := { _root_.Go.OpenSpec.ofChange s with cond := some uptoSmall }

/-- 'curfewlaw27.SnapshotReads', WHERE WHAT IT READS IS OF BULK AT MOST 1048576: true; the input reads as it did. -/
def snapshotReadsUptoRow : OpenClaim := { program := "ytcfgdlpdnpnhmaa", sum := "bdb5cc57a67279c657f4b9a27f1858b1ae14beb551fdf14f1919deef05ea72e6", func := "curfew/curfewlaw27.SnapshotReads", spec := "snapshotReads", inPlace := ["sync/atomic.LoadUint64", "sync/atomic.CompareAndSwapUint64"], unfollowed := true, recurses := true, apart := false, narrowed := true }
def SnapshotReadsUptoSaid : Prop := snapshotReadsUptoRow.holds Try.pinned (OpenSpec.upto snapshotReadsSpec)

/-- 'curfewlaw27.SnapshotBytes', WHERE WHAT IT READS IS OF BULK AT MOST 1048576: true; the input reads as it did. -/
def snapshotBytesUptoRow : OpenClaim := { program := "ytcfgdlpdnpnhmaa", sum := "bdb5cc57a67279c657f4b9a27f1858b1ae14beb551fdf14f1919deef05ea72e6", func := "curfew/curfewlaw27.SnapshotBytes", spec := "snapshotBytes", inPlace := ["sync/atomic.LoadUint64", "sync/atomic.CompareAndSwapUint64"], unfollowed := true, recurses := true, apart := false, narrowed := true }
def SnapshotBytesUptoSaid : Prop := snapshotBytesUptoRow.holds Try.pinned (OpenSpec.upto snapshotBytesSpec)

/-- 'curfewlaw23.DiskPlays', WHERE WHAT IT READS IS OF BULK AT MOST 1048576: true; the input reads as it did. -/
def diskPlaysUptoRow : OpenClaim := { program := "ytcfgdlpdnpnhmaa", sum := "bdb5cc57a67279c657f4b9a27f1858b1ae14beb551fdf14f1919deef05ea72e6", func := "curfew/curfewlaw23.DiskPlays", spec := "diskPlays", inPlace := ["sync/atomic.LoadUint64", "sync/atomic.CompareAndSwapUint64"], unfollowed := true, recurses := true, apart := false, narrowed := true }
def DiskPlaysUptoSaid : Prop := diskPlaysUptoRow.holds Try.pinned (OpenSpec.upto diskPlaysSpec)

/-- 'curfewlaw23.DiskKeeps', WHERE WHAT IT READS IS OF BULK AT MOST 1048576: true; the input reads as it did. -/
def diskKeepsUptoRow : OpenClaim := { program := "ytcfgdlpdnpnhmaa", sum := "bdb5cc57a67279c657f4b9a27f1858b1ae14beb551fdf14f1919deef05ea72e6", func := "curfew/curfewlaw23.DiskKeeps", spec := "diskKeeps", inPlace := ["sync/atomic.LoadUint64", "sync/atomic.CompareAndSwapUint64"], unfollowed := true, recurses := true, apart := false, narrowed := true }
def DiskKeepsUptoSaid : Prop := diskKeepsUptoRow.holds Try.pinned (OpenSpec.upto diskKeepsSpec)

/-- 'curfewlaw23.DiskArmed', WHERE WHAT IT READS IS OF BULK AT MOST 1048576: true; the input reads as it did. -/
def diskArmedUptoRow : OpenClaim := { program := "ytcfgdlpdnpnhmaa", sum := "bdb5cc57a67279c657f4b9a27f1858b1ae14beb551fdf14f1919deef05ea72e6", func := "curfew/curfewlaw23.DiskArmed", spec := "diskArmed", inPlace := ["sync/atomic.LoadUint64", "sync/atomic.CompareAndSwapUint64"], unfollowed := true, recurses := true, apart := false, narrowed := true }
def DiskArmedUptoSaid : Prop := diskArmedUptoRow.holds Try.pinned (OpenSpec.upto diskArmedSpec)

/-- 'curfewlaw23.DiskNobody', WHERE WHAT IT READS IS OF BULK AT MOST 1048576: true; the input reads as it did. -/
def diskNobodyUptoRow : OpenClaim := { program := "ytcfgdlpdnpnhmaa", sum := "bdb5cc57a67279c657f4b9a27f1858b1ae14beb551fdf14f1919deef05ea72e6", func := "curfew/curfewlaw23.DiskNobody", spec := "diskNobody", inPlace := ["sync/atomic.LoadUint64", "sync/atomic.CompareAndSwapUint64"], unfollowed := true, recurses := true, apart := false, narrowed := true }
def DiskNobodyUptoSaid : Prop := diskNobodyUptoRow.holds Try.pinned (OpenSpec.upto diskNobodySpec)

/-- 'curfewlaw26.VowSays', WHERE WHAT IT READS IS OF BULK AT MOST 1048576: true; the input reads as it did. -/
def vowSaysUptoRow : OpenClaim := { program := "ytcfgdlpdnpnhmaa", sum := "bdb5cc57a67279c657f4b9a27f1858b1ae14beb551fdf14f1919deef05ea72e6", func := "curfew/curfewlaw26.VowSays", spec := "vowSays", inPlace := ["sync/atomic.LoadUint64", "sync/atomic.CompareAndSwapUint64"], unfollowed := true, recurses := true, apart := false, narrowed := true }
def VowSaysUptoSaid : Prop := vowSaysUptoRow.holds Try.pinned (OpenSpec.upto vowSaysSpec)

/-- 'curfewlaw26.VowNobody', WHERE WHAT IT READS IS OF BULK AT MOST 1048576: true; the input reads as it did. -/
def vowNobodyUptoRow : OpenClaim := { program := "ytcfgdlpdnpnhmaa", sum := "bdb5cc57a67279c657f4b9a27f1858b1ae14beb551fdf14f1919deef05ea72e6", func := "curfew/curfewlaw26.VowNobody", spec := "vowNobody", inPlace := ["sync/atomic.LoadUint64", "sync/atomic.CompareAndSwapUint64"], unfollowed := true, recurses := true, apart := false, narrowed := true }
def VowNobodyUptoSaid : Prop := vowNobodyUptoRow.holds Try.pinned (OpenSpec.upto vowNobodySpec)

/-- 'curfewlaw27.SnapshotNobody', WHERE WHAT IT READS IS OF BULK AT MOST 1048576: true; the input reads as it did. -/
def snapshotNobodyUptoRow : OpenClaim := { program := "ytcfgdlpdnpnhmaa", sum := "bdb5cc57a67279c657f4b9a27f1858b1ae14beb551fdf14f1919deef05ea72e6", func := "curfew/curfewlaw27.SnapshotNobody", spec := "snapshotNobody", inPlace := ["sync/atomic.LoadUint64", "sync/atomic.CompareAndSwapUint64"], unfollowed := true, recurses := true, apart := false, narrowed := true }
def SnapshotNobodyUptoSaid : Prop := snapshotNobodyUptoRow.holds Try.pinned (OpenSpec.upto snapshotNobodySpec)

/-- 'curfewlaw26.VowKeeps', WHERE WHAT IT READS IS OF BULK AT MOST 1048576: true; the input reads as it did. -/
def vowKeepsUptoRow : OpenClaim := { program := "ytcfgdlpdnpnhmaa", sum := "bdb5cc57a67279c657f4b9a27f1858b1ae14beb551fdf14f1919deef05ea72e6", func := "curfew/curfewlaw26.VowKeeps", spec := "vowKeeps", inPlace := ["sync/atomic.LoadUint64", "sync/atomic.CompareAndSwapUint64"], unfollowed := true, recurses := true, apart := false, narrowed := true }
def VowKeepsUptoSaid : Prop := vowKeepsUptoRow.holds Try.pinned (OpenSpec.upto vowKeepsSpec)

/-- 'curfewlaw26.VowNever', WHERE WHAT IT READS IS OF BULK AT MOST 1048576: true; the input reads as it did. -/
def vowNeverUptoRow : OpenClaim := { program := "ytcfgdlpdnpnhmaa", sum := "bdb5cc57a67279c657f4b9a27f1858b1ae14beb551fdf14f1919deef05ea72e6", func := "curfew/curfewlaw26.VowNever", spec := "vowNever", inPlace := ["sync/atomic.LoadUint64", "sync/atomic.CompareAndSwapUint64"], unfollowed := true, recurses := true, apart := false, narrowed := true }
def VowNeverUptoSaid : Prop := vowNeverUptoRow.holds Try.pinned (OpenSpec.upto vowNeverSpec)

/-- 'curfewlaw27.SnapshotKeeps', WHERE WHAT IT READS IS OF BULK AT MOST 1048576: true; the input reads as it did. -/
def snapshotKeepsUptoRow : OpenClaim := { program := "ytcfgdlpdnpnhmaa", sum := "bdb5cc57a67279c657f4b9a27f1858b1ae14beb551fdf14f1919deef05ea72e6", func := "curfew/curfewlaw27.SnapshotKeeps", spec := "snapshotKeeps", inPlace := ["sync/atomic.LoadUint64", "sync/atomic.CompareAndSwapUint64"], unfollowed := true, recurses := true, apart := false, narrowed := true }
def SnapshotKeepsUptoSaid : Prop := snapshotKeepsUptoRow.holds Try.pinned (OpenSpec.upto snapshotKeepsSpec)

end Rows
end Go.Proofs.Ytcfgdlpdnpnhmaa
