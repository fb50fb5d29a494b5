/-
  The closed facts of a row, out of those of its own and those on the whole program. No condition.
-/
import Derived.Test.YtnljjlaececnkaaGreatDoorJF
namespace Go.Proofs.YtnljjlaececnkaaGreatDoor
open Go.ChangeShapes Go.WideShapes
set_option linter.unusedVariables false
/-- The closed facts of a row, out of those of its own. -/
theorem joined_gen {P : Program} {f : FuncId} {fn : Func} {s : ChangeSpec} {c : OpenClaim}
    (jf_out : laidOutB P = true) (jf_maps : mapsRowed P = true) (jf_stops : (P.stops == []) = true) (jf_knobs : (P.stopKnobs == []) = true) (k1 : (c.plainKeys == P.plainKeys) = true) (jf_heard : P.stopsHeard = true) (jf_enter : P.mayEnter = true) (k2 : (c.lifted == P.liftsFinal) = true) (k3 : (P.make == some c.make) = true)
    (a1 : c.wf (OpenSpec.ofChange s) = true) (a2 : fn.params.all (P.readableRec ·) = true) (a3 : namedTie P c.named s.vars = true) (a4 : (c.stops == []) = true) (a5 : (c.knobs == []) = true)
    (a6 : (c.inPlace == P.inPlace f) = true) (a7 : (c.unfollowed == P.unfollowed f) = true) (a8 : (c.recurses == P.recurses f) = true) (a9 : (c.named == P.varsNamed f) = true)
    (b1 : (c.maps == (fn.params.toList ++ s.plain.varTypes P).any (P.mapsRec ·)) = true) (b2 : (c.ifaces == (fn.params.toList ++ s.plain.varTypes P).any (P.ifacesRec ·)) = true) (b3 : (c.mapsOut == P.mapsAmong fn.resultTypes.toList) = true)
    (b4 : (c.loops == (fn.params.toList ++ s.plain.varTypes P).any (P.loopsFrom ·)) = true) (b5 : (c.wideKeys == (fn.params.toList ++ s.plain.varTypes P ++ fn.resultTypes.toList).any (P.wideKeysFrom ·)) = true)
    (b6 : s.vars.all (P.varReadable ·) = true) (b7 : fn.resultTypes.all (fun t => P.readableRec t && decide (t < P.types.size)) = true) (b8 : (c.ifacesOut == fn.resultTypes.toList.any (P.ifacesRec ·)) = true) (b9 : (c.loopsOut == fn.resultTypes.toList.any (P.loopsFrom ·)) = true)
    (d1 : c.shortTexts.isNone = true) (d2 : (c.kinds == (if c.domain.isEmpty then [] else fn.params.toList.map fun t => match P.underlying t with | some (.int k) => some k | _ => none)) = true) (d3 : (c.pinned == c.pinnedBy) = true)
    (d4 : (c.veiled == (fn.params.toList ++ s.plain.varTypes P ++ fn.resultTypes.toList).any (P.veiledRec ·)) = true) (d5 : c.veiledFits P fn.params.toList (fn.params.toList ++ s.plain.varTypes P ++ fn.resultTypes.toList) = true) :
    joinedFacts P f fn s c = true := by
  unfold joinedFacts
  rw [a1, jf_out, jf_maps, a2, a3, a4, jf_stops, a5, jf_knobs, a6, a7, a8, a9, b1, b2, b3, b4, b5, b6, b7, b8, b9, k1, d1, jf_heard, jf_enter, k2, k3, d3, d4, d5]
  simp only [Bool.true_and, Bool.and_true]
  exact d2
/-- The closed facts of a row, out of those of its own. -/
theorem joined_of {f : FuncId} {fn : Func} {s : ChangeSpec} {c : OpenClaim}
    (hk : c.plainKeys = false) (hl : c.lifted = Rows.addrTreeRow.lifted) (hm : c.make = Rows.addrTreeRow.make)
    (a1 : c.wf (OpenSpec.ofChange s) = true) (a2 : fn.params.all (Tryz.pinned.checked.prog.readableRec ·) = true) (a3 : namedTie Tryz.pinned.checked.prog c.named s.vars = true) (a4 : (c.stops == []) = true) (a5 : (c.knobs == []) = true)
    (a6 : (c.inPlace == Tryz.pinned.checked.prog.inPlace f) = true) (a7 : (c.unfollowed == Tryz.pinned.checked.prog.unfollowed f) = true) (a8 : (c.recurses == Tryz.pinned.checked.prog.recurses f) = true) (a9 : (c.named == Tryz.pinned.checked.prog.varsNamed f) = true)
    (b1 : (c.maps == (fn.params.toList ++ s.plain.varTypes Tryz.pinned.checked.prog).any (Tryz.pinned.checked.prog.mapsRec ·)) = true) (b2 : (c.ifaces == (fn.params.toList ++ s.plain.varTypes Tryz.pinned.checked.prog).any (Tryz.pinned.checked.prog.ifacesRec ·)) = true) (b3 : (c.mapsOut == Tryz.pinned.checked.prog.mapsAmong fn.resultTypes.toList) = true)
    (b4 : (c.loops == (fn.params.toList ++ s.plain.varTypes Tryz.pinned.checked.prog).any (Tryz.pinned.checked.prog.loopsFrom ·)) = true) (b5 : (c.wideKeys == (fn.params.toList ++ s.plain.varTypes Tryz.pinned.checked.prog ++ fn.resultTypes.toList).any (Tryz.pinned.checked.prog.wideKeysFrom ·)) = true)
    (b6 : s.vars.all (Tryz.pinned.checked.prog.varReadable ·) = true) (b7 : fn.resultTypes.all (fun t => Tryz.pinned.checked.prog.readableRec t && decide (t < Tryz.pinned.checked.prog.types.size)) = true) (b8 : (c.ifacesOut == fn.resultTypes.toList.any (Tryz.pinned.checked.prog.ifacesRec ·)) = true) (b9 : (c.loopsOut == fn.resultTypes.toList.any (Tryz.pinned.checked.prog.loopsFrom ·)) = true)
    (d1 : c.shortTexts.isNone = true) (d2 : (c.kinds == (if c.domain.isEmpty then [] else fn.params.toList.map fun t => match Tryz.pinned.checked.prog.underlying t with | some (.int k) => some k | _ => none)) = true) (d3 : (c.pinned == c.pinnedBy) = true)
    (d4 : (c.veiled == (fn.params.toList ++ s.plain.varTypes Tryz.pinned.checked.prog ++ fn.resultTypes.toList).any (Tryz.pinned.checked.prog.veiledRec ·)) = true) (d5 : c.veiledFits Tryz.pinned.checked.prog fn.params.toList (fn.params.toList ++ s.plain.varTypes Tryz.pinned.checked.prog ++ fn.resultTypes.toList) = true) :
    joinedFacts Tryz.pinned.checked.prog f fn s c = true := by
  have k1 : (c.plainKeys == Tryz.pinned.checked.prog.plainKeys) = true := by rw [hk]; exact jf_keys
  have k2 : (c.lifted == Tryz.pinned.checked.prog.liftsFinal) = true := by rw [hl]; exact jf_lift
  have k3 : (Tryz.pinned.checked.prog.make == some c.make) = true := by rw [hm]; exact jf_make
  exact joined_gen jf_out jf_maps jf_stops jf_knobs k1 jf_heard jf_enter k2 k3 a1 a2 a3 a4 a5 a6 a7 a8 a9 b1 b2 b3 b4 b5 b6 b7 b8 b9 d1 d2 d3 d4 d5
end Go.Proofs.YtnljjlaececnkaaGreatDoor
