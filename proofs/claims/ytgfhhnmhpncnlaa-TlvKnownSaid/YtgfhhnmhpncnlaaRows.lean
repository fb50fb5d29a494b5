/-
  No cell of these rows narrows 'for every input' (looked for: loops, veiled, ifaces, maps, wideKeys, modest, calm, conditions, laid).
  DERIVED. THE GIVEN ROWS OF THIS SEAT. 10 by the template 'for every input the law returns true; each argument reads behind the call as it read before'; 0 by the template 'total and deterministic' (their statements: YtgfhhnmhpncnlaaTotals.lean).
  GIVEN WITH THE SEED: the statements are not yours to turn. If you find one false, say at which input.
  Laid BY PROGRAM, IN A SANDBOX (cutbox-rows.mjs): the forced cells as the released guide's own fill.sh prints them over the translation 55b0d43b47561d14… (all of the seat's roots in one cut). By AI agents, Wed Nov 11 2026. No macro, syntax, notation, axiom, sorry.
-/
import Derived.Test.YtgfhhnmhpncnlaaChecked
import GoSem.Claim
import GoSem.ClaimJoined
import GoSem.ClaimMapViews
import Derived.JoinedTies
import Derived.KernelRfl
namespace Go.Proofs.Ytgfhhnmhpncnlaa
/- THE CELL 'sum', in the pinned program and in every row, IS THE sha256 OF THE DUMP (.gsa) THAT YtgfhhnmhpncnlaaProg.lean LOADS. Nothing in Lean hashes anything: it is a label: what it is worth is what the hold of that sum in a sandbox is worth. -/
noncomputable def Try.pinned : Pinned := { name := "ytgfhhnmhpncnlaa", sum := "55b0d43b47561d1424dc6ef0bcd4ed358017b412927def80079aa19b7d378d0b", checked := Try.checked }
namespace Rows
def none {H : Type} : Left H := { results := [], args := [] }

/-- 'culvertlaw01.OctetReads': WHATEVER THE INPUT: true; the input reads as it did. -/
def octetReadsSpec : ChangeSpec := { name := "octetReads", fn := fun _ => fun
  | [d1, d2] => { results := [.lit (.bool true)], args := [d1, d2] }
  | _ => none }
def octetReadsRow : OpenClaim := { program := "ytgfhhnmhpncnlaa", sum := "55b0d43b47561d1424dc6ef0bcd4ed358017b412927def80079aa19b7d378d0b", func := "culvert/culvertlaw01.OctetReads", spec := "octetReads", apart := false }
def OctetReadsSaid : Prop := octetReadsRow.holds Try.pinned (OpenSpec.ofChange octetReadsSpec)

/-- ITS FALSE NEIGHBOUR: 'it returns false'. Refute it at one input. -/
def octetReadsWrong : ChangeSpec := { name := "octetReads", fn := fun _ => fun
  | [d1, d2] => { results := [.lit (.bool false)], args := [d1, d2] }
  | _ => none }
def OctetReadsWrongFalsely : Prop := octetReadsRow.holds Try.pinned (OpenSpec.ofChange octetReadsWrong)

/-- 'culvertlaw01.OctetBack': WHATEVER THE INPUT: true; the input reads as it did. -/
def octetBackSpec : ChangeSpec := { name := "octetBack", fn := fun _ => fun
  | [d1, d2, d3] => { results := [.lit (.bool true)], args := [d1, d2, d3] }
  | _ => none }
def octetBackRow : OpenClaim := { program := "ytgfhhnmhpncnlaa", sum := "55b0d43b47561d1424dc6ef0bcd4ed358017b412927def80079aa19b7d378d0b", func := "culvert/culvertlaw01.OctetBack", spec := "octetBack", apart := false }
def OctetBackSaid : Prop := octetBackRow.holds Try.pinned (OpenSpec.ofChange octetBackSpec)

/-- ITS FALSE NEIGHBOUR: 'it returns false'. Refute it at one input. -/
def octetBackWrong : ChangeSpec := { name := "octetBack", fn := fun _ => fun
  | [d1, d2, d3] => { results := [.lit (.bool false)], args := [d1, d2, d3] }
  | _ => none }
def OctetBackWrongFalsely : Prop := octetBackRow.holds Try.pinned (OpenSpec.ofChange octetBackWrong)

/-- 'culvertlaw01.OctetNil': WHATEVER THE INPUT: true; the input reads as it did. -/
def octetNilSpec : ChangeSpec := { name := "octetNil", fn := fun _ => fun
  | [d] => { results := [.lit (.bool true)], args := [d] }
  | _ => none }
def octetNilRow : OpenClaim := { program := "ytgfhhnmhpncnlaa", sum := "55b0d43b47561d1424dc6ef0bcd4ed358017b412927def80079aa19b7d378d0b", func := "culvert/culvertlaw01.OctetNil", spec := "octetNil", apart := false }
def OctetNilSaid : Prop := octetNilRow.holds Try.pinned (OpenSpec.ofChange octetNilSpec)

/-- ITS FALSE NEIGHBOUR: 'it returns false'. Refute it at one input. -/
def octetNilWrong : ChangeSpec := { name := "octetNil", fn := fun _ => fun
  | [d] => { results := [.lit (.bool false)], args := [d] }
  | _ => none }
def OctetNilWrongFalsely : Prop := octetNilRow.holds Try.pinned (OpenSpec.ofChange octetNilWrong)

/-- 'culvertlaw01.OctetPlaces': WHATEVER THE INPUT: true; the input reads as it did. -/
def octetPlacesSpec : ChangeSpec := { name := "octetPlaces", fn := fun _ => fun
  | [d1, d2] => { results := [.lit (.bool true)], args := [d1, d2] }
  | _ => none }
def octetPlacesRow : OpenClaim := { program := "ytgfhhnmhpncnlaa", sum := "55b0d43b47561d1424dc6ef0bcd4ed358017b412927def80079aa19b7d378d0b", func := "culvert/culvertlaw01.OctetPlaces", spec := "octetPlaces", apart := false }
def OctetPlacesSaid : Prop := octetPlacesRow.holds Try.pinned (OpenSpec.ofChange octetPlacesSpec)

/-- ITS FALSE NEIGHBOUR: 'it returns false'. Refute it at one input. -/
def octetPlacesWrong : ChangeSpec := { name := "octetPlaces", fn := fun _ => fun
  | [d1, d2] => { results := [.lit (.bool false)], args := [d1, d2] }
  | _ => none }
def OctetPlacesWrongFalsely : Prop := octetPlacesRow.holds Try.pinned (OpenSpec.ofChange octetPlacesWrong)

/-- 'culvertlaw01.OctetPuts': WHATEVER THE INPUT: true; the input reads as it did. -/
def octetPutsSpec : ChangeSpec := { name := "octetPuts", fn := fun _ => fun
  | [d1, d2, d3, d4, d5] => { results := [.lit (.bool true)], args := [d1, d2, d3, d4, d5] }
  | _ => none }
def octetPutsRow : OpenClaim := { program := "ytgfhhnmhpncnlaa", sum := "55b0d43b47561d1424dc6ef0bcd4ed358017b412927def80079aa19b7d378d0b", func := "culvert/culvertlaw01.OctetPuts", spec := "octetPuts", apart := false }
def OctetPutsSaid : Prop := octetPutsRow.holds Try.pinned (OpenSpec.ofChange octetPutsSpec)

/-- ITS FALSE NEIGHBOUR: 'it returns false'. Refute it at one input. -/
def octetPutsWrong : ChangeSpec := { name := "octetPuts", fn := fun _ => fun
  | [d1, d2, d3, d4, d5] => { results := [.lit (.bool false)], args := [d1, d2, d3, d4, d5] }
  | _ => none }
def OctetPutsWrongFalsely : Prop := octetPutsRow.holds Try.pinned (OpenSpec.ofChange octetPutsWrong)

/-- 'culvertlaw01.OctetLengths': WHATEVER THE INPUT: true; the input reads as it did. -/
def octetLengthsSpec : ChangeSpec := { name := "octetLengths", fn := fun _ => fun
  | [d1, d2, d3] => { results := [.lit (.bool true)], args := [d1, d2, d3] }
  | _ => none }
def octetLengthsRow : OpenClaim := { program := "ytgfhhnmhpncnlaa", sum := "55b0d43b47561d1424dc6ef0bcd4ed358017b412927def80079aa19b7d378d0b", func := "culvert/culvertlaw01.OctetLengths", spec := "octetLengths", apart := false }
def OctetLengthsSaid : Prop := octetLengthsRow.holds Try.pinned (OpenSpec.ofChange octetLengthsSpec)

/-- ITS FALSE NEIGHBOUR: 'it returns false'. Refute it at one input. -/
def octetLengthsWrong : ChangeSpec := { name := "octetLengths", fn := fun _ => fun
  | [d1, d2, d3] => { results := [.lit (.bool false)], args := [d1, d2, d3] }
  | _ => none }
def OctetLengthsWrongFalsely : Prop := octetLengthsRow.holds Try.pinned (OpenSpec.ofChange octetLengthsWrong)

/-- 'culvertlaw05.TlvPackets': WHATEVER THE INPUT: true; the input reads as it did. -/
def tlvPacketsSpec : ChangeSpec := { name := "tlvPackets", fn := fun _ => fun
  | [d1, d2] => { results := [.lit (.bool true)], args := [d1, d2] }
  | _ => none }
def tlvPacketsRow : OpenClaim := { program := "ytgfhhnmhpncnlaa", sum := "55b0d43b47561d1424dc6ef0bcd4ed358017b412927def80079aa19b7d378d0b", func := "culvert/culvertlaw05.TlvPackets", spec := "tlvPackets", apart := false }
def TlvPacketsSaid : Prop := tlvPacketsRow.holds Try.pinned (OpenSpec.ofChange tlvPacketsSpec)

/-- ITS FALSE NEIGHBOUR: 'it returns false'. Refute it at one input. -/
def tlvPacketsWrong : ChangeSpec := { name := "tlvPackets", fn := fun _ => fun
  | [d1, d2] => { results := [.lit (.bool false)], args := [d1, d2] }
  | _ => none }
def TlvPacketsWrongFalsely : Prop := tlvPacketsRow.holds Try.pinned (OpenSpec.ofChange tlvPacketsWrong)

/-- 'culvertlaw05.TlvBack': WHATEVER THE INPUT: true; the input reads as it did. -/
def tlvBackSpec : ChangeSpec := { name := "tlvBack", fn := fun _ => fun
  | [d1, d2] => { results := [.lit (.bool true)], args := [d1, d2] }
  | _ => none }
def tlvBackRow : OpenClaim := { program := "ytgfhhnmhpncnlaa", sum := "55b0d43b47561d1424dc6ef0bcd4ed358017b412927def80079aa19b7d378d0b", func := "culvert/culvertlaw05.TlvBack", spec := "tlvBack", apart := false }
def TlvBackSaid : Prop := tlvBackRow.holds Try.pinned (OpenSpec.ofChange tlvBackSpec)

/-- ITS FALSE NEIGHBOUR: 'it returns false'. Refute it at one input. -/
def tlvBackWrong : ChangeSpec := { name := "tlvBack", fn := fun _ => fun
  | [d1, d2] => { results := [.lit (.bool false)], args := [d1, d2] }
  | _ => none }
def TlvBackWrongFalsely : Prop := tlvBackRow.holds Try.pinned (OpenSpec.ofChange tlvBackWrong)

/-- 'culvertlaw05.TlvTrailers': WHATEVER THE INPUT: true; the input reads as it did. -/
def tlvTrailersSpec : ChangeSpec := { name := "tlvTrailers", fn := fun _ => fun
  | [d1, d2] => { results := [.lit (.bool true)], args := [d1, d2] }
  | _ => none }
def tlvTrailersRow : OpenClaim := { program := "ytgfhhnmhpncnlaa", sum := "55b0d43b47561d1424dc6ef0bcd4ed358017b412927def80079aa19b7d378d0b", func := "culvert/culvertlaw05.TlvTrailers", spec := "tlvTrailers", apart := false }
def TlvTrailersSaid : Prop := tlvTrailersRow.holds Try.pinned (OpenSpec.ofChange tlvTrailersSpec)

/-- ITS FALSE NEIGHBOUR: 'it returns false'. Refute it at one input. -/
def tlvTrailersWrong : ChangeSpec := { name := "tlvTrailers", fn := fun _ => fun
  | [d1, d2] => { results := [.lit (.bool false)], args := [d1, d2] }
  | _ => none }
def TlvTrailersWrongFalsely : Prop := tlvTrailersRow.holds Try.pinned (OpenSpec.ofChange tlvTrailersWrong)

/-- 'culvertlaw05.TlvKnown': WHATEVER THE INPUT: true; the input reads as it did. -/
def tlvKnownSpec : ChangeSpec := { name := "tlvKnown", fn := fun _ => fun
  | [d1, d2] => { results := [.lit (.bool true)], args := [d1, d2] }
  | _ => none }
def tlvKnownRow : OpenClaim := { program := "ytgfhhnmhpncnlaa", sum := "55b0d43b47561d1424dc6ef0bcd4ed358017b412927def80079aa19b7d378d0b", func := "culvert/culvertlaw05.TlvKnown", spec := "tlvKnown", apart := false }
def TlvKnownSaid : Prop := tlvKnownRow.holds Try.pinned (OpenSpec.ofChange tlvKnownSpec)

/-- ITS FALSE NEIGHBOUR: 'it returns false'. Refute it at one input. -/
def tlvKnownWrong : ChangeSpec := { name := "tlvKnown", fn := fun _ => fun
  | [d1, d2] => { results := [.lit (.bool false)], args := [d1, d2] }
  | _ => none }
def TlvKnownWrongFalsely : Prop := tlvKnownRow.holds Try.pinned (OpenSpec.ofChange tlvKnownWrong)

/- THE SECOND FORM. 'bulk': how many values and letters a reading holds, each counted each time it is reached (what is shared counts as often as it is met; a slice's spare places count too). A statement '..UptoSaid' is the law's where the arguments, and the package variables that the reading takes, are together of bulk at most 1048576: NARROWER than '..Said'. Prove '..Said' where nothing that the law and all that it calls make is longer than what came in: it says more and counts as full. Else prove '..UptoSaid'. A law counts once. -/
mutual
def uptoBulk {H : Type} : DataW H → Nat
  | .lit (.string bytes) => bytes.length + 1
  | .lit _ => 1
  | .nil => 1
  | .ptr d => uptoBulk d + 1
  | .slice elems spare => uptoBulkAll elems + uptoBulkAll spare + 1
  | .agg parts => uptoBulkAll parts + 1
  | .iface _ d => uptoBulk d + 1
  | .map entries => uptoBulkEntries entries + 1
  | .held _ => 1
def uptoBulkAll {H : Type} : List (DataW H) → Nat
  | [] => 0
  | d :: r => uptoBulk d + uptoBulkAll r
def uptoBulkEntries {H : Type} : List (Lit × DataW H) → Nat
  | [] => 0
  | x :: r => uptoBulkEntry x + uptoBulkEntries r
def uptoBulkEntry {H : Type} : Lit × DataW H → Nat
  | (.string bytes, d) => bytes.length + uptoBulk d + 1
  | (_, d) => uptoBulk d + 1
 end
def uptoSmall : (H : Type) → List (DataW H) → Bool := fun _ ds => decide (uptoBulkAll ds ≤ 1048576)
def OpenSpec.upto (s : _root_.Go.ChangeSpec) : _root_.Go.OpenSpec := { _root_.Go.OpenSpec.ofChange s with cond := some uptoSmall }

/-- 'culvertlaw01.OctetReads', WHERE WHAT IT READS IS OF BULK AT MOST 1048576: true; the input reads as it did. -/
def octetReadsUptoRow : OpenClaim := { program := "ytgfhhnmhpncnlaa", sum := "55b0d43b47561d1424dc6ef0bcd4ed358017b412927def80079aa19b7d378d0b", func := "culvert/culvertlaw01.OctetReads", spec := "octetReads", apart := false, narrowed := true }
def OctetReadsUptoSaid : Prop := octetReadsUptoRow.holds Try.pinned (OpenSpec.upto octetReadsSpec)

/-- 'culvertlaw01.OctetBack', WHERE WHAT IT READS IS OF BULK AT MOST 1048576: true; the input reads as it did. -/
def octetBackUptoRow : OpenClaim := { program := "ytgfhhnmhpncnlaa", sum := "55b0d43b47561d1424dc6ef0bcd4ed358017b412927def80079aa19b7d378d0b", func := "culvert/culvertlaw01.OctetBack", spec := "octetBack", apart := false, narrowed := true }
def OctetBackUptoSaid : Prop := octetBackUptoRow.holds Try.pinned (OpenSpec.upto octetBackSpec)

/-- 'culvertlaw01.OctetNil', WHERE WHAT IT READS IS OF BULK AT MOST 1048576: true; the input reads as it did. -/
def octetNilUptoRow : OpenClaim := { program := "ytgfhhnmhpncnlaa", sum := "55b0d43b47561d1424dc6ef0bcd4ed358017b412927def80079aa19b7d378d0b", func := "culvert/culvertlaw01.OctetNil", spec := "octetNil", apart := false, narrowed := true }
def OctetNilUptoSaid : Prop := octetNilUptoRow.holds Try.pinned (OpenSpec.upto octetNilSpec)

/-- 'culvertlaw01.OctetPlaces', WHERE WHAT IT READS IS OF BULK AT MOST 1048576: true; the input reads as it did. -/
def octetPlacesUptoRow : OpenClaim := { program := "ytgfhhnmhpncnlaa", sum := "55b0d43b47561d1424dc6ef0bcd4ed358017b412927def80079aa19b7d378d0b", func := "culvert/culvertlaw01.OctetPlaces", spec := "octetPlaces", apart := false, narrowed := true }
def OctetPlacesUptoSaid : Prop := octetPlacesUptoRow.holds Try.pinned (OpenSpec.upto octetPlacesSpec)

/-- 'culvertlaw01.OctetPuts', WHERE WHAT IT READS IS OF BULK AT MOST 1048576: true; the input reads as it did. -/
def octetPutsUptoRow : OpenClaim := { program := "ytgfhhnmhpncnlaa", sum := "55b0d43b47561d1424dc6ef0bcd4ed358017b412927def80079aa19b7d378d0b", func := "culvert/culvertlaw01.OctetPuts", spec := "octetPuts", apart := false, narrowed := true }
def OctetPutsUptoSaid : Prop := octetPutsUptoRow.holds Try.pinned (OpenSpec.upto octetPutsSpec)

/-- 'culvertlaw01.OctetLengths', WHERE WHAT IT READS IS OF BULK AT MOST 1048576: true; the input reads as it did. -/
def octetLengthsUptoRow : OpenClaim := { program := "ytgfhhnmhpncnlaa", sum := "55b0d43b47561d1424dc6ef0bcd4ed358017b412927def80079aa19b7d378d0b", func := "culvert/culvertlaw01.OctetLengths", spec := "octetLengths", apart := false, narrowed := true }
def OctetLengthsUptoSaid : Prop := octetLengthsUptoRow.holds Try.pinned (OpenSpec.upto octetLengthsSpec)

/-- 'culvertlaw05.TlvPackets', WHERE WHAT IT READS IS OF BULK AT MOST 1048576: true; the input reads as it did. -/
def tlvPacketsUptoRow : OpenClaim := { program := "ytgfhhnmhpncnlaa", sum := "55b0d43b47561d1424dc6ef0bcd4ed358017b412927def80079aa19b7d378d0b", func := "culvert/culvertlaw05.TlvPackets", spec := "tlvPackets", apart := false, narrowed := true }
def TlvPacketsUptoSaid : Prop := tlvPacketsUptoRow.holds Try.pinned (OpenSpec.upto tlvPacketsSpec)

/-- 'culvertlaw05.TlvBack', WHERE WHAT IT READS IS OF BULK AT MOST 1048576: true; the input reads as it did. -/
def tlvBackUptoRow : OpenClaim := { program := "ytgfhhnmhpncnlaa", sum := "55b0d43b47561d1424dc6ef0bcd4ed358017b412927def80079aa19b7d378d0b", func := "culvert/culvertlaw05.TlvBack", spec := "tlvBack", apart := false, narrowed := true }
def TlvBackUptoSaid : Prop := tlvBackUptoRow.holds Try.pinned (OpenSpec.upto tlvBackSpec)

/-- 'culvertlaw05.TlvTrailers', WHERE WHAT IT READS IS OF BULK AT MOST 1048576: true; the input reads as it did. -/
def tlvTrailersUptoRow : OpenClaim := { program := "ytgfhhnmhpncnlaa", sum := "55b0d43b47561d1424dc6ef0bcd4ed358017b412927def80079aa19b7d378d0b", func := "culvert/culvertlaw05.TlvTrailers", spec := "tlvTrailers", apart := false, narrowed := true }
def TlvTrailersUptoSaid : Prop := tlvTrailersUptoRow.holds Try.pinned (OpenSpec.upto tlvTrailersSpec)

/-- 'culvertlaw05.TlvKnown', WHERE WHAT IT READS IS OF BULK AT MOST 1048576: true; the input reads as it did. -/
def tlvKnownUptoRow : OpenClaim := { program := "ytgfhhnmhpncnlaa", sum := "55b0d43b47561d1424dc6ef0bcd4ed358017b412927def80079aa19b7d378d0b", func := "culvert/culvertlaw05.TlvKnown", spec := "tlvKnown", apart := false, narrowed := true }
def TlvKnownUptoSaid : Prop := tlvKnownUptoRow.holds Try.pinned (OpenSpec.upto tlvKnownSpec)

end Rows
end Go.Proofs.Ytgfhhnmhpncnlaa
