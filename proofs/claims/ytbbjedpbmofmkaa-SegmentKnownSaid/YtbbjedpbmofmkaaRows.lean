/-
  No cell of these rows narrows 'for every input' (looked for: loops, veiled, ifaces, maps, wideKeys, modest, calm, conditions, laid).
  DERIVED. THE GIVEN ROWS OF THIS SEAT. 4 by the template 'for every input the law returns true; each argument reads behind the call as it read before'; 0 by the template 'total and deterministic' (their statements: YtbbjedpbmofmkaaTotals.lean).
  GIVEN WITH THE SEED: the statements are not yours to turn. If you find one false, say at which input.
  Laid BY PROGRAM, IN A SANDBOX (cutbox-rows.mjs): the forced cells as the released guide's own fill.sh prints them over the translation 63a68c3e2dbfb1e8… (all of the seat's roots in one cut). By AI agents, Wed Nov 11 2026. No macro, syntax, notation, axiom, sorry.
-/
import Derived.Test.YtbbjedpbmofmkaaChecked
import GoSem.Claim
import GoSem.ClaimJoined
import GoSem.ClaimMapViews
import Derived.JoinedTies
import Derived.KernelRfl
namespace Go.Proofs.Ytbbjedpbmofmkaa
/- THE CELL 'sum', in the pinned program and in every row, IS THE sha256 OF THE DUMP (.gsa) THAT YtbbjedpbmofmkaaProg.lean LOADS. Nothing in Lean hashes anything: it is a label: what it is worth is what the hold of that sum in a sandbox is worth. -/
noncomputable def Try.pinned : Pinned := { name := "ytbbjedpbmofmkaa", sum := "63a68c3e2dbfb1e8e3a4f9a5fdc9eee341a9cb99ab69e1ef201b52b3866aba6d", checked := Try.checked }
namespace Rows
def none {H : Type} : Left H := { results := [], args := [] }

/-- 'octroilaw16.SegmentTells': WHATEVER THE INPUT: true; the input reads as it did. -/
def segmentTellsSpec : ChangeSpec := { name := "segmentTells", fn := fun _ => fun
  | [d1, d2, d3] => { results := [.lit (.bool true)], args := [d1, d2, d3] }
  | _ => none }
def segmentTellsRow : OpenClaim := { program := "ytbbjedpbmofmkaa", sum := "63a68c3e2dbfb1e8e3a4f9a5fdc9eee341a9cb99ab69e1ef201b52b3866aba6d", func := "octroi/octroilaw16.SegmentTells", spec := "segmentTells", unfollowed := true, recurses := true, apart := false }
def SegmentTellsSaid : Prop := segmentTellsRow.holds Try.pinned (OpenSpec.ofChange segmentTellsSpec)

/-- ITS FALSE NEIGHBOUR: 'it returns false'. Refute it at one input. -/
def segmentTellsWrong : ChangeSpec := { name := "segmentTells", fn := fun _ => fun
  | [d1, d2, d3] => { results := [.lit (.bool false)], args := [d1, d2, d3] }
  | _ => none }
def SegmentTellsWrongFalsely : Prop := segmentTellsRow.holds Try.pinned (OpenSpec.ofChange segmentTellsWrong)

/-- 'octroilaw16.SegmentFits': WHATEVER THE INPUT: true; the input reads as it did. -/
def segmentFitsSpec : ChangeSpec := { name := "segmentFits", fn := fun _ => fun
  | [d1, d2, d3, d4] => { results := [.lit (.bool true)], args := [d1, d2, d3, d4] }
  | _ => none }
def segmentFitsRow : OpenClaim := { program := "ytbbjedpbmofmkaa", sum := "63a68c3e2dbfb1e8e3a4f9a5fdc9eee341a9cb99ab69e1ef201b52b3866aba6d", func := "octroi/octroilaw16.SegmentFits", spec := "segmentFits", unfollowed := true, recurses := true, apart := false }
def SegmentFitsSaid : Prop := segmentFitsRow.holds Try.pinned (OpenSpec.ofChange segmentFitsSpec)

/-- ITS FALSE NEIGHBOUR: 'it returns false'. Refute it at one input. -/
def segmentFitsWrong : ChangeSpec := { name := "segmentFits", fn := fun _ => fun
  | [d1, d2, d3, d4] => { results := [.lit (.bool false)], args := [d1, d2, d3, d4] }
  | _ => none }
def SegmentFitsWrongFalsely : Prop := segmentFitsRow.holds Try.pinned (OpenSpec.ofChange segmentFitsWrong)

/-- 'octroilaw16.SegmentRing': WHATEVER THE INPUT: true; the input reads as it did. -/
def segmentRingSpec : ChangeSpec := { name := "segmentRing", fn := fun _ => fun
  | [d1, d2, d3] => { results := [.lit (.bool true)], args := [d1, d2, d3] }
  | _ => none }
def segmentRingRow : OpenClaim := { program := "ytbbjedpbmofmkaa", sum := "63a68c3e2dbfb1e8e3a4f9a5fdc9eee341a9cb99ab69e1ef201b52b3866aba6d", func := "octroi/octroilaw16.SegmentRing", spec := "segmentRing", unfollowed := true, recurses := true, apart := false }
def SegmentRingSaid : Prop := segmentRingRow.holds Try.pinned (OpenSpec.ofChange segmentRingSpec)

/-- ITS FALSE NEIGHBOUR: 'it returns false'. Refute it at one input. -/
def segmentRingWrong : ChangeSpec := { name := "segmentRing", fn := fun _ => fun
  | [d1, d2, d3] => { results := [.lit (.bool false)], args := [d1, d2, d3] }
  | _ => none }
def SegmentRingWrongFalsely : Prop := segmentRingRow.holds Try.pinned (OpenSpec.ofChange segmentRingWrong)

/-- 'octroilaw16.SegmentKnown': WHATEVER THE INPUT: true; the input reads as it did. -/
def segmentKnownSpec : ChangeSpec := { name := "segmentKnown", fn := fun _ => fun
  | [] => { results := [.lit (.bool true)], args := [] }
  | _ => none }
def segmentKnownRow : OpenClaim := { program := "ytbbjedpbmofmkaa", sum := "63a68c3e2dbfb1e8e3a4f9a5fdc9eee341a9cb99ab69e1ef201b52b3866aba6d", func := "octroi/octroilaw16.SegmentKnown", spec := "segmentKnown", unfollowed := true, recurses := true, apart := false }
def SegmentKnownSaid : Prop := segmentKnownRow.holds Try.pinned (OpenSpec.ofChange segmentKnownSpec)

/-- ITS FALSE NEIGHBOUR: 'it returns false'. Refute it at one input. -/
def segmentKnownWrong : ChangeSpec := { name := "segmentKnown", fn := fun _ => fun
  | [] => { results := [.lit (.bool false)], args := [] }
  | _ => none }
def SegmentKnownWrongFalsely : Prop := segmentKnownRow.holds Try.pinned (OpenSpec.ofChange segmentKnownWrong)

/- THE SECOND FORM. 'bulk': how many values and letters a reading holds, each counted each time it is reached (what is shared counts as often as it is met; a slice's spare places count too). A statement '..UptoSaid' is the law's where the arguments, and the package variables that the reading takes, are together of bulk at most 1048576: NARROWER than '..Said'. Prove '..Said' where nothing that the law and all that it calls make is longer than what came in: it says more and counts as full. Else prove '..UptoSaid'. A law counts once. -/
mutual
def uptoBulk {H : Type} : DataW H → Nat
  | .lit (.string bytes) => bytes.length + 1
  | .lit _ => 1
  | .nil => 1
  | .ptr d => uptoBulk d + 1
  | .slice elems spare => uptoBulkAll elems + uptoBulkAll spare + 1
  | .agg parts => uptoBulkAll parts + 1
  | .iface _ d => uptoBulk d + 1
  | .map entries => uptoBulkEntries entries + 1
  | .held _ => 1
def uptoBulkAll {H : Type} : List (DataW H) → Nat
  | [] => 0
  | d :: r => uptoBulk d + uptoBulkAll r
def uptoBulkEntries {H : Type} : List (Lit × DataW H) → Nat
  | [] => 0
  | x :: r => uptoBulkEntry x + uptoBulkEntries r
def uptoBulkEntry {H : Type} : Lit × DataW H → Nat
  | (.string bytes, d) => bytes.length + uptoBulk d + 1
  | (_, d) => uptoBulk d + 1
 end
def uptoSmall : (H : Type) → List (DataW H) → Bool := fun _ ds => decide (uptoBulkAll ds ≤ 1048576)
def OpenSpec.upto (s : _root_.Go.ChangeSpec) : _root_.Go.OpenSpec := { _root_.Go.OpenSpec.ofChange s with cond := some uptoSmall }

/-- 'octroilaw16.SegmentTells', WHERE WHAT IT READS IS OF BULK AT MOST 1048576: true; the input reads as it did. -/
def segmentTellsUptoRow : OpenClaim := { program := "ytbbjedpbmofmkaa", sum := "63a68c3e2dbfb1e8e3a4f9a5fdc9eee341a9cb99ab69e1ef201b52b3866aba6d", func := "octroi/octroilaw16.SegmentTells", spec := "segmentTells", unfollowed := true, recurses := true, apart := false, narrowed := true }
def SegmentTellsUptoSaid : Prop := segmentTellsUptoRow.holds Try.pinned (OpenSpec.upto segmentTellsSpec)

/-- 'octroilaw16.SegmentFits', WHERE WHAT IT READS IS OF BULK AT MOST 1048576: true; the input reads as it did. -/
def segmentFitsUptoRow : OpenClaim := { program := "ytbbjedpbmofmkaa", sum := "63a68c3e2dbfb1e8e3a4f9a5fdc9eee341a9cb99ab69e1ef201b52b3866aba6d", func := "octroi/octroilaw16.SegmentFits", spec := "segmentFits", unfollowed := true, recurses := true, apart := false, narrowed := true }
def SegmentFitsUptoSaid : Prop := segmentFitsUptoRow.holds Try.pinned (OpenSpec.upto segmentFitsSpec)

/-- 'octroilaw16.SegmentRing', WHERE WHAT IT READS IS OF BULK AT MOST 1048576: true; the input reads as it did. -/
def segmentRingUptoRow : OpenClaim := { program := "ytbbjedpbmofmkaa", sum := "63a68c3e2dbfb1e8e3a4f9a5fdc9eee341a9cb99ab69e1ef201b52b3866aba6d", func := "octroi/octroilaw16.SegmentRing", spec := "segmentRing", unfollowed := true, recurses := true, apart := false, narrowed := true }
def SegmentRingUptoSaid : Prop := segmentRingUptoRow.holds Try.pinned (OpenSpec.upto segmentRingSpec)

/-- 'octroilaw16.SegmentKnown', WHERE WHAT IT READS IS OF BULK AT MOST 1048576: true; the input reads as it did. -/
def segmentKnownUptoRow : OpenClaim := { program := "ytbbjedpbmofmkaa", sum := "63a68c3e2dbfb1e8e3a4f9a5fdc9eee341a9cb99ab69e1ef201b52b3866aba6d", func := "octroi/octroilaw16.SegmentKnown", spec := "segmentKnown", unfollowed := true, recurses := true, apart := false, narrowed := true }
def SegmentKnownUptoSaid : Prop := segmentKnownUptoRow.holds Try.pinned (OpenSpec.upto segmentKnownSpec)

end Rows
end Go.Proofs.Ytbbjedpbmofmkaa
