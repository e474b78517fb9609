/-
  No cell of these rows narrows 'for every input' (looked for: loops, veiled, ifaces, maps, wideKeys, modest, calm, conditions, laid).
  DERIVED. THE GIVEN ROWS OF THIS SEAT. 4 by the template 'for every input the law returns true; each argument reads behind the call as it read before'; 0 by the template 'total and deterministic' (their statements: YtoodagohkepcpaaTotals.lean).
  GIVEN WITH THE SEED: the statements are not yours to turn. If you find one false, say at which input.
  Laid BY PROGRAM, IN A SANDBOX (cutbox-rows.mjs): the forced cells as the released guide's own fill.sh prints them over the translation 410e3759579243e4… (all of the seat's roots in one cut). By AI agents, Wed Nov 11 2026. No macro, syntax, notation, axiom, sorry.
-/
import Derived.Test.YtoodagohkepcpaaChecked
import GoSem.Claim
import GoSem.ClaimJoined
import GoSem.ClaimMapViews
import Derived.JoinedTies
import Derived.KernelRfl
namespace Go.Proofs.Ytoodagohkepcpaa
/- THE CELL 'sum', in the pinned program and in every row, IS THE sha256 OF THE DUMP (.gsa) THAT YtoodagohkepcpaaProg.lean LOADS. Nothing in Lean hashes anything: it is a label: what it is worth is what the hold of that sum in a sandbox is worth. -/
noncomputable def Try.pinned : Pinned := { name := "ytoodagohkepcpaa", sum := "410e3759579243e4562eebbec25b8a3f2a83f20da7ee0b16b23b16906ddfb64e", checked := Try.checked }
namespace Rows
def none {H : Type} : Left H := { results := [], args := [] }

/-- 'declaimtop.TopStretched': WHATEVER THE INPUT: true; the input reads as it did. -/
def topStretchedSpec : ChangeSpec := { name := "topStretched", fn := fun _ => fun
  | [d1, d2] => { results := [.lit (.bool true)], args := [d1, d2] }
  | _ => none }
def topStretchedRow : OpenClaim := { program := "ytoodagohkepcpaa", sum := "410e3759579243e4562eebbec25b8a3f2a83f20da7ee0b16b23b16906ddfb64e", func := "declaim/declaimtop.TopStretched", spec := "topStretched", unfollowed := true, recurses := true, apart := false }
def TopStretchedSaid : Prop := topStretchedRow.holds Try.pinned (OpenSpec.ofChange topStretchedSpec)

/-- ITS FALSE NEIGHBOUR: 'it returns false'. Refute it at one input. -/
def topStretchedWrong : ChangeSpec := { name := "topStretched", fn := fun _ => fun
  | [d1, d2] => { results := [.lit (.bool false)], args := [d1, d2] }
  | _ => none }
def TopStretchedWrongFalsely : Prop := topStretchedRow.holds Try.pinned (OpenSpec.ofChange topStretchedWrong)

/-- 'declaimtop.TopPaced': WHATEVER THE INPUT: true; the input reads as it did. -/
def topPacedSpec : ChangeSpec := { name := "topPaced", fn := fun _ => fun
  | [d1, d2, d3] => { results := [.lit (.bool true)], args := [d1, d2, d3] }
  | _ => none }
def topPacedRow : OpenClaim := { program := "ytoodagohkepcpaa", sum := "410e3759579243e4562eebbec25b8a3f2a83f20da7ee0b16b23b16906ddfb64e", func := "declaim/declaimtop.TopPaced", spec := "topPaced", unfollowed := true, recurses := true, apart := false }
def TopPacedSaid : Prop := topPacedRow.holds Try.pinned (OpenSpec.ofChange topPacedSpec)

/-- ITS FALSE NEIGHBOUR: 'it returns false'. Refute it at one input. -/
def topPacedWrong : ChangeSpec := { name := "topPaced", fn := fun _ => fun
  | [d1, d2, d3] => { results := [.lit (.bool false)], args := [d1, d2, d3] }
  | _ => none }
def TopPacedWrongFalsely : Prop := topPacedRow.holds Try.pinned (OpenSpec.ofChange topPacedWrong)

/-- 'declaimtop.TopShared': WHATEVER THE INPUT: true; the input reads as it did. -/
def topSharedSpec : ChangeSpec := { name := "topShared", fn := fun _ => fun
  | [d1, d2] => { results := [.lit (.bool true)], args := [d1, d2] }
  | _ => none }
def topSharedRow : OpenClaim := { program := "ytoodagohkepcpaa", sum := "410e3759579243e4562eebbec25b8a3f2a83f20da7ee0b16b23b16906ddfb64e", func := "declaim/declaimtop.TopShared", spec := "topShared", unfollowed := true, recurses := true, apart := false }
def TopSharedSaid : Prop := topSharedRow.holds Try.pinned (OpenSpec.ofChange topSharedSpec)

/-- ITS FALSE NEIGHBOUR: 'it returns false'. Refute it at one input. -/
def topSharedWrong : ChangeSpec := { name := "topShared", fn := fun _ => fun
  | [d1, d2] => { results := [.lit (.bool false)], args := [d1, d2] }
  | _ => none }
def TopSharedWrongFalsely : Prop := topSharedRow.holds Try.pinned (OpenSpec.ofChange topSharedWrong)

/-- 'declaimtop.TopInTime': WHATEVER THE INPUT: true; the input reads as it did. -/
def topInTimeSpec : ChangeSpec := { name := "topInTime", fn := fun _ => fun
  | [d1, d2] => { results := [.lit (.bool true)], args := [d1, d2] }
  | _ => none }
def topInTimeRow : OpenClaim := { program := "ytoodagohkepcpaa", sum := "410e3759579243e4562eebbec25b8a3f2a83f20da7ee0b16b23b16906ddfb64e", func := "declaim/declaimtop.TopInTime", spec := "topInTime", unfollowed := true, recurses := true, apart := false }
def TopInTimeSaid : Prop := topInTimeRow.holds Try.pinned (OpenSpec.ofChange topInTimeSpec)

/-- ITS FALSE NEIGHBOUR: 'it returns false'. Refute it at one input. -/
def topInTimeWrong : ChangeSpec := { name := "topInTime", fn := fun _ => fun
  | [d1, d2] => { results := [.lit (.bool false)], args := [d1, d2] }
  | _ => none }
def TopInTimeWrongFalsely : Prop := topInTimeRow.holds Try.pinned (OpenSpec.ofChange topInTimeWrong)

/- THE SECOND FORM. 'bulk': how many values and letters a reading holds, each counted each time it is reached (what is shared counts as often as it is met; a slice's spare places count too). A statement '..UptoSaid' is the law's where the arguments, and the package variables that the reading takes, are together of bulk at most 1048576: NARROWER than '..Said'. Prove '..Said' where nothing that the law and all that it calls make is longer than what came in: it says more and counts as full. Else prove '..UptoSaid'. A law counts once. -/
mutual
def uptoBulk {H : Type} : DataW H → Nat
  | .lit (.string bytes) => bytes.length + 1
  | .lit _ => 1
  | .nil => 1
  | .ptr d => uptoBulk d + 1
  | .slice elems spare => uptoBulkAll elems + uptoBulkAll spare + 1
  | .agg parts => uptoBulkAll parts + 1
  | .iface _ d => uptoBulk d + 1
  | .map entries => uptoBulkEntries entries + 1
  | .held _ => 1
def uptoBulkAll {H : Type} : List (DataW H) → Nat
  | [] => 0
  | d :: r => uptoBulk d + uptoBulkAll r
def uptoBulkEntries {H : Type} : List (Lit × DataW H) → Nat
  | [] => 0
  | x :: r => uptoBulkEntry x + uptoBulkEntries r
def uptoBulkEntry {H : Type} : Lit × DataW H → Nat
  | (.string bytes, d) => bytes.length + uptoBulk d + 1
  | (_, d) => uptoBulk d + 1
 end
def uptoSmall : (H : Type) → List (DataW H) → Bool := fun _ ds => decide (uptoBulkAll ds ≤ 1048576)
def OpenSpec.upto (s : _root_.Go.ChangeSpec) : _root_.Go.OpenSpec := { _root_.Go.OpenSpec.ofChange s with cond := some uptoSmall }

/-- 'declaimtop.TopStretched', WHERE WHAT IT READS IS OF BULK AT MOST 1048576: true; the input reads as it did. -/
def topStretchedUptoRow : OpenClaim := { program := "ytoodagohkepcpaa", sum := "410e3759579243e4562eebbec25b8a3f2a83f20da7ee0b16b23b16906ddfb64e", func := "declaim/declaimtop.TopStretched", spec := "topStretched", unfollowed := true, recurses := true, apart := false, narrowed := true }
def TopStretchedUptoSaid : Prop := topStretchedUptoRow.holds Try.pinned (OpenSpec.upto topStretchedSpec)

/-- 'declaimtop.TopPaced', WHERE WHAT IT READS IS OF BULK AT MOST 1048576: true; the input reads as it did. -/
def topPacedUptoRow : OpenClaim := { program := "ytoodagohkepcpaa", sum := "410e3759579243e4562eebbec25b8a3f2a83f20da7ee0b16b23b16906ddfb64e", func := "declaim/declaimtop.TopPaced", spec := "topPaced", unfollowed := true, recurses := true, apart := false, narrowed := true }
def TopPacedUptoSaid : Prop := topPacedUptoRow.holds Try.pinned (OpenSpec.upto topPacedSpec)

/-- 'declaimtop.TopShared', WHERE WHAT IT READS IS OF BULK AT MOST 1048576: true; the input reads as it did. -/
def topSharedUptoRow : OpenClaim := { program := "ytoodagohkepcpaa", sum := "410e3759579243e4562eebbec25b8a3f2a83f20da7ee0b16b23b16906ddfb64e", func := "declaim/declaimtop.TopShared", spec := "topShared", unfollowed := true, recurses := true, apart := false, narrowed := true }
def TopSharedUptoSaid : Prop := topSharedUptoRow.holds Try.pinned (OpenSpec.upto topSharedSpec)

/-- 'declaimtop.TopInTime', WHERE WHAT IT READS IS OF BULK AT MOST 1048576: true; the input reads as it did. -/
def topInTimeUptoRow : OpenClaim := { program := "ytoodagohkepcpaa", sum := "410e3759579243e4562eebbec25b8a3f2a83f20da7ee0b16b23b16906ddfb64e", func := "declaim/declaimtop.TopInTime", spec := "topInTime", unfollowed := true, recurses := true, apart := false, narrowed := true }
def TopInTimeUptoSaid : Prop := topInTimeUptoRow.holds Try.pinned (OpenSpec.upto topInTimeSpec)

end Rows
end Go.Proofs.Ytoodagohkepcpaa
