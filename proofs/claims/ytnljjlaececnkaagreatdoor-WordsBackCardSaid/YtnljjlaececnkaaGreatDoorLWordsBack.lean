/-
  The row and the tied card of WordsBack, out of its walk. No condition.
-/
import Derived.Test.YtnljjlaececnkaaGreatDoorBWd1
import Derived.Test.YtnljjlaececnkaaGreatDoorBWd2
import Derived.Test.YtnljjlaececnkaaGreatDoorBWd3
import Derived.Test.YtnljjlaececnkaaGreatDoorBWd4
import Derived.Test.YtnljjlaececnkaaGreatDoorBWd5
import Derived.Test.YtnljjlaececnkaaGreatDoorBWd6
import Derived.Test.YtnljjlaececnkaaGreatDoorBWd7
import Derived.Test.YtnljjlaececnkaaGreatDoorBWd8
import Derived.Test.YtnljjlaececnkaaGreatDoorBWe1
import Derived.Test.YtnljjlaececnkaaGreatDoorBWBack1
import Derived.Test.YtnljjlaececnkaaGreatDoorRows
import Derived.Test.YtnljjlaececnkaaGreatDoorTie
import Derived.Test.YtnljjlaececnkaaGreatDoorCards
import Derived.WalkKit
import Derived.ProofKit
import Derived.OpenShut
import Derived.ShutString
import Derived.ChangeOld
import Derived.Below
import Derived.SizedLaws
import Derived.LaidMore
import Derived.Lay
import Derived.SevenTiedAt
import Derived.Deep.DeepHandedRow
namespace Go.Proofs.YtnljjlaececnkaaGreatDoor.wordsBack
open Go.ChangeShapes Go.WideShapes Go.ChangeAt Go.RowKit
open Go.ChangeMaps (open_string shut_string)
set_option linter.unusedVariables false
theorem own : ownKnob Tryz.prog.godebug = none := by kernel_rfl
theorem laidOut : laidOutB Tryz.prog = true := by kernel_rfl
set_option maxRecDepth 100000 in
theorem lifted (os : Os) (started : os.Started) (H : Type) (enc : TypeId × Value → H) :
    ReturnsInHanded {} Tryz.checked os 11 .any (fun w args => (Rows.wordsBackSpec.pre enc Tryz.prog Tryz.f11 Rows.wordsBackRow.domain false w args ∧ laidMetH Tryz.prog Rows.wordsBackRow.laid w) ∧ sizedMet enc Tryz.prog Tryz.f11 (OpenSpec.ofChange Rows.wordsBackSpec) false w args)
      (Rows.wordsBackSpec.post enc Tryz.prog Tryz.f11 false true false false) := by
  refine returnsInHanded_of_row (C := Tryz.checked) (s := OpenSpec.ofChange Rows.wordsBackSpec) (laid := Rows.wordsBackRow.laid) (F := fun _ _ _ => 0) own started (by kernel_rfl) Tryz.func11
    (ChangeSpec.witness_shaped (enc := enc) (C := Tryz.checked) (os := os) (X := fun w _ => laidMetH Tryz.prog Rows.wordsBackRow.laid w) false (World.laidAll Tryz.prog os Rows.wordsBackRow.laid) #[.slice none 0 0, vA zeroI] 8 (World.laidAll_os _ _ _)
      (World.shaped_of_ZipB (by kernel_rfl) (by kernel_rfl)) (by kernel_rfl) (by kernel_rfl) (by kernel_rfl)
      (by rw [MakeChecks.laidMetH_plain _ _ _ (by kernel_rfl)]; exact laidMet_laidAll _ (by kernel_rfl) (by kernel_rfl))) ?_
  intro W base args ds gs before hval0 hW hcnd _ hsz0 hL hsh _
  have hsz : (DataW.weightsEach Tryz.prog (Tryz.f11.params.toList ++ Rows.wordsBackSpec.plain.varTypes Tryz.prog) (ds ++ gs)).all (· ≤ reachBytes) = true := hsz0
  have hval : ∀ (j : Nat) t v, Tryz.f11.params[j]? = some t → args[j]? = some v → Value.okWide Tryz.prog W .any base t v := hval0
  have hW' := hW
  obtain ⟨p, q, hA0, hV, rfl, hfz, hnd⟩ := hW
  have hA : DataW.TrodAll enc Tryz.prog W 0 (fun _ => true) true Tryz.f11.params.toList args.toList ds p := hA0
  rw [Tryz.params11] at hA hval hsz
  obtain ⟨v0, vs0, d0, ds0, p0, q0, hargs, rfl, rfl, h0, r0⟩ := trodAll_cons hA
  obtain ⟨v1, vs1, d1, ds1, p1, q1, rfl, rfl, rfl, h1, r1⟩ := trodAll_cons r0
  obtain ⟨rfl, rfl, rfl⟩ := trodAll_nil r1
  obtain rfl : args = #[v0, v1] := by cases args; simp_all
  obtain ⟨rfl, rfl⟩ := trodVars_none hV
  have k0 := h0
  have lt0 : ∀ x ∈ p0, x.block < W.heap.size := by obtain ⟨m, hm⟩ := k0; exact DataW.trod_lt m _ _ _ hm
  obtain ⟨a0, w0⟩ := open_SS (hval 0 23 v0 rfl rfl) (h := h0) (hsz := hsz) (j := 0) rfl rfl
  have k1 := h1
  have lt1 : ∀ x ∈ p1, x.block < W.heap.size := by obtain ⟨m, hm⟩ := k1; exact DataW.trod_lt m _ _ _ hm
  obtain ⟨a1, rfl, w1⟩ := open_ID (hval 1 68 v1 rfl rfl)
  clear hA0 hval0 hsz0
  refine (WordsBack_walk v0 a0 a1 w0 w1 (env_of hsh hL)).mono fun e W' ⟨he, bel⟩ => ?_
  subst he
  exact ⟨_, rfl, _, _, _, [], _, [], hW', trodAll_mk1 (shut_bool Tryz.underlying4 _), (trodAll_cons_mk (Below.trod laidOut (by kernel_rfl) (of_decide_eq_true (by kernel_rfl)) k0 bel lt0) (trodAll_cons_mk (Below.trod laidOut (by kernel_rfl) (of_decide_eq_true (by kernel_rfl)) k1 bel lt1) trodAll_mk0)), rfl, bel.frame _, fun h => by cases h⟩
theorem g6 : (Rows.wordsBackRow.inPlace == Tryz.pinned.checked.prog.inPlace 11) = true := by kernel_rfl
theorem g7 : (Rows.wordsBackRow.unfollowed == Tryz.pinned.checked.prog.unfollowed 11) = true := by kernel_rfl
theorem g8 : (Rows.wordsBackRow.recurses == Tryz.pinned.checked.prog.recurses 11) = true := by kernel_rfl
theorem g9 : (Rows.wordsBackRow.named == Tryz.pinned.checked.prog.varsNamed 11) = true := by kernel_rfl
theorem g1 : Rows.wordsBackRow.wf (OpenSpec.ofChange Rows.wordsBackSpec) = true := by kernel_rfl
theorem gi : Tryz.f11.isInstance Tryz.pinned.checked.prog Rows.wordsBackRow.origin Rows.wordsBackRow.targs := of_decide_eq_true (by kernel_rfl)
theorem gg : false = Rows.wordsBackRow.goesBy Tryz.pinned.checked.prog := by kernel_rfl
theorem gw : Rows.wordsBackRow.wfByText (OpenSpec.ofChange Rows.wordsBackSpec) = true := by kernel_rfl
theorem gx : Tryz.f11.isWrapper Tryz.pinned.checked.prog Rows.wordsBackRow.wrapper Rows.wordsBackRow.mainSum := by unfold Func.isWrapper; first | (rw [if_pos (by decide +kernel)]; kernel_rfl) | (rw [if_neg (by decide +kernel)]; exact ⟨rfl, rfl⟩)
theorem closed : joinedFacts Tryz.pinned.checked.prog 11 Tryz.f11 Rows.wordsBackSpec Rows.wordsBackRow = true := joined_of rfl rfl rfl g1 (by kernel_rfl) (by kernel_rfl) (by kernel_rfl) (by kernel_rfl) g6 g7 g8 g9 (by kernel_rfl) (by kernel_rfl) (by kernel_rfl) (by kernel_rfl) (by kernel_rfl) (by kernel_rfl) (by kernel_rfl) (by kernel_rfl) (by kernel_rfl) (by kernel_rfl) (by kernel_rfl) (by kernel_rfl) (by kernel_rfl) (by kernel_rfl)
theorem over : Rows.wordsBackRow.holds Tryz.pinned (OpenSpec.ofChange Rows.wordsBackSpec) :=
  OpenClaim.holds_of_wide 11 Tryz.f11 rfl rfl rfl rfl rfl rfl rfl ⟨rfl, rfl, rfl, rfl, rfl⟩ rfl rfl rfl rfl rfl (by kernel_rfl) Tryz.func11 closed gi gx
    (fun os started H enc _ => lifted os started H enc)
theorem card : Rows.WordsBackCardSaid :=
  Claim7.holds_tied_plain_at .later [] [.data, .data, .data, .data, .sentinel, .sentinel, .pinned] true (true, "11f230a8d8e2c1745f747872d237d21740fd6a16d7af62534ef2deb61fc91356") true over (fun _ h => by cases h) gw (fun _ h => by cases h) wordsBack_row_tie rfl ⟨rfl, rfl⟩ jf_main rfl
    (fun f fn hf hfn => by
      obtain rfl : f = 11 := Option.some.inj ((show Tryz.prog.funcNamed "culvert/culvertlaw08.WordsBack" = some 11 by kernel_rfl).symm.trans hf) |>.symm
      obtain rfl : fn = Tryz.f11 := (Option.some.inj (Tryz.func11.symm.trans hfn)).symm
      exact ⟨jf_looks, fun j t ht => by
        rw [Tryz.params11] at ht
        have hm : t ∈ [23, 68] := by simpa using Array.mem_of_getElem? ht
        have hall : ([23, 68].all fun u => !Tryz.prog.wantsStandIn u) = true := by kernel_rfl
        exact (show Tryz.prog.wantsStandIn t = false by simpa using List.all_eq_true.1 hall t hm)⟩)
    gg
end Go.Proofs.YtnljjlaececnkaaGreatDoor.wordsBack
namespace Go.Proofs.YtnljjlaececnkaaGreatDoor
theorem wordsBack_holds : Rows.WordsBackCardSaid := wordsBack.card
#print axioms wordsBack_holds
end Go.Proofs.YtnljjlaececnkaaGreatDoor
