/-
  The row and the tied card of MonitorApplied, out of its walk. No condition.
-/
import Derived.Test.YtnljjlaececnkaaGreatDoorBMP1
import Derived.Test.YtnljjlaececnkaaGreatDoorBMP2
import Derived.Test.YtnljjlaececnkaaGreatDoorBMP3
import Derived.Test.YtnljjlaececnkaaGreatDoorBMP4
import Derived.Test.YtnljjlaececnkaaGreatDoorBMP5
import Derived.Test.YtnljjlaececnkaaGreatDoorBMP6
import Derived.Test.YtnljjlaececnkaaGreatDoorBMP7
import Derived.Test.YtnljjlaececnkaaGreatDoorBMP8
import Derived.Test.YtnljjlaececnkaaGreatDoorBMP9
import Derived.Test.YtnljjlaececnkaaGreatDoorBMP10
import Derived.Test.YtnljjlaececnkaaGreatDoorBMP11
import Derived.Test.YtnljjlaececnkaaGreatDoorBMP12
import Derived.Test.YtnljjlaececnkaaGreatDoorBMP13
import Derived.Test.YtnljjlaececnkaaGreatDoorRows
import Derived.Test.YtnljjlaececnkaaGreatDoorTie
import Derived.Test.YtnljjlaececnkaaGreatDoorCards
import Derived.WalkKit
import Derived.ProofKit
import Derived.OpenShut
import Derived.ShutString
import Derived.ChangeOld
import Derived.Below
import Derived.SizedLaws
import Derived.LaidMore
import Derived.Lay
import Derived.SevenTiedAt
import Derived.Deep.DeepHandedRow
namespace Go.Proofs.YtnljjlaececnkaaGreatDoor.monitorApplied
open Go.ChangeShapes Go.WideShapes Go.ChangeAt Go.RowKit
open Go.ChangeMaps (open_string shut_string)
set_option linter.unusedVariables false
theorem own : ownKnob Tryz.prog.godebug = none := by kernel_rfl
theorem laidOut : laidOutB Tryz.prog = true := by kernel_rfl
set_option maxRecDepth 100000 in
theorem lifted (os : Os) (started : os.Started) (H : Type) (enc : TypeId × Value → H) :
    ReturnsInHanded {} Tryz.checked os 18 .any (fun w args => (Rows.monitorAppliedSpec.pre enc Tryz.prog Tryz.f18 Rows.monitorAppliedRow.domain false w args ∧ laidMetH Tryz.prog Rows.monitorAppliedRow.laid w) ∧ sizedMet enc Tryz.prog Tryz.f18 (OpenSpec.ofChange Rows.monitorAppliedSpec) false w args)
      (Rows.monitorAppliedSpec.post enc Tryz.prog Tryz.f18 false true false false) := by
  refine returnsInHanded_of_row (C := Tryz.checked) (s := OpenSpec.ofChange Rows.monitorAppliedSpec) (laid := Rows.monitorAppliedRow.laid) (F := fun _ _ _ => 0) own started (by kernel_rfl) Tryz.func18
    (ChangeSpec.witness_shaped (enc := enc) (C := Tryz.checked) (os := os) (X := fun w _ => laidMetH Tryz.prog Rows.monitorAppliedRow.laid w) false (World.laidAll Tryz.prog os Rows.monitorAppliedRow.laid) #[.slice none 0 0, .slice none 0 0] 8 (World.laidAll_os _ _ _)
      (World.shaped_of_ZipB (by kernel_rfl) (by kernel_rfl)) (by kernel_rfl) (by kernel_rfl) (by kernel_rfl)
      (by rw [MakeChecks.laidMetH_plain _ _ _ (by kernel_rfl)]; exact laidMet_laidAll _ (by kernel_rfl) (by kernel_rfl))) ?_
  intro W base args ds gs before hval0 hW hcnd _ hsz0 hL hsh _
  have hsz : (DataW.weightsEach Tryz.prog (Tryz.f18.params.toList ++ Rows.monitorAppliedSpec.plain.varTypes Tryz.prog) (ds ++ gs)).all (· ≤ reachBytes) = true := hsz0
  have hval : ∀ (j : Nat) t v, Tryz.f18.params[j]? = some t → args[j]? = some v → Value.okWide Tryz.prog W .any base t v := hval0
  have hW' := hW
  obtain ⟨p, q, hA0, hV, rfl, hfz, hnd⟩ := hW
  have hA : DataW.TrodAll enc Tryz.prog W 0 (fun _ => true) true Tryz.f18.params.toList args.toList ds p := hA0
  rw [Tryz.params18] at hA hval hsz
  obtain ⟨v0, vs0, d0, ds0, p0, q0, hargs, rfl, rfl, h0, r0⟩ := trodAll_cons hA
  obtain ⟨v1, vs1, d1, ds1, p1, q1, rfl, rfl, rfl, h1, r1⟩ := trodAll_cons r0
  obtain ⟨rfl, rfl, rfl⟩ := trodAll_nil r1
  obtain rfl : args = #[v0, v1] := by cases args; simp_all
  obtain ⟨rfl, rfl⟩ := trodVars_none hV
  have k0 := h0
  have lt0 : ∀ x ∈ p0, x.block < W.heap.size := by obtain ⟨m, hm⟩ := k0; exact DataW.trod_lt m _ _ _ hm
  obtain ⟨a0, w0⟩ := open_SS (hval 0 23 v0 rfl rfl) (h := h0) (hsz := hsz) (j := 0) rfl rfl
  have k1 := h1
  have lt1 : ∀ x ∈ p1, x.block < W.heap.size := by obtain ⟨m, hm⟩ := k1; exact DataW.trod_lt m _ _ _ hm
  obtain ⟨a1, w1⟩ := open_SS (hval 1 23 v1 rfl rfl) (h := h1) (hsz := hsz) (j := 1) rfl rfl
  clear hA0 hval0 hsz0
  refine (MonitorApplied_walk v0 v1 a0 a1 w0 w1 (env_of hsh hL)).mono fun e W' ⟨he, bel⟩ => ?_
  subst he
  exact ⟨_, rfl, _, _, _, [], _, [], hW', trodAll_mk1 (shut_bool Tryz.underlying4 _), (trodAll_cons_mk (Below.trod laidOut (by kernel_rfl) (of_decide_eq_true (by kernel_rfl)) k0 bel lt0) (trodAll_cons_mk (Below.trod laidOut (by kernel_rfl) (of_decide_eq_true (by kernel_rfl)) k1 bel lt1) trodAll_mk0)), rfl, bel.frame _, fun h => by cases h⟩
theorem g6 : (Rows.monitorAppliedRow.inPlace == Tryz.pinned.checked.prog.inPlace 18) = true := by kernel_rfl
theorem g7 : (Rows.monitorAppliedRow.unfollowed == Tryz.pinned.checked.prog.unfollowed 18) = true := by kernel_rfl
theorem g8 : (Rows.monitorAppliedRow.recurses == Tryz.pinned.checked.prog.recurses 18) = true := by kernel_rfl
theorem g9 : (Rows.monitorAppliedRow.named == Tryz.pinned.checked.prog.varsNamed 18) = true := by kernel_rfl
theorem g1 : Rows.monitorAppliedRow.wf (OpenSpec.ofChange Rows.monitorAppliedSpec) = true := by kernel_rfl
theorem gi : Tryz.f18.isInstance Tryz.pinned.checked.prog Rows.monitorAppliedRow.origin Rows.monitorAppliedRow.targs := of_decide_eq_true (by kernel_rfl)
theorem gg : false = Rows.monitorAppliedRow.goesBy Tryz.pinned.checked.prog := by kernel_rfl
theorem gw : Rows.monitorAppliedRow.wfByText (OpenSpec.ofChange Rows.monitorAppliedSpec) = true := by kernel_rfl
theorem gx : Tryz.f18.isWrapper Tryz.pinned.checked.prog Rows.monitorAppliedRow.wrapper Rows.monitorAppliedRow.mainSum := by unfold Func.isWrapper; first | (rw [if_pos (by decide +kernel)]; kernel_rfl) | (rw [if_neg (by decide +kernel)]; exact ⟨rfl, rfl⟩)
theorem closed : joinedFacts Tryz.pinned.checked.prog 18 Tryz.f18 Rows.monitorAppliedSpec Rows.monitorAppliedRow = true := joined_of rfl rfl rfl g1 (by kernel_rfl) (by kernel_rfl) (by kernel_rfl) (by kernel_rfl) g6 g7 g8 g9 (by kernel_rfl) (by kernel_rfl) (by kernel_rfl) (by kernel_rfl) (by kernel_rfl) (by kernel_rfl) (by kernel_rfl) (by kernel_rfl) (by kernel_rfl) (by kernel_rfl) (by kernel_rfl) (by kernel_rfl) (by kernel_rfl) (by kernel_rfl)
theorem over : Rows.monitorAppliedRow.holds Tryz.pinned (OpenSpec.ofChange Rows.monitorAppliedSpec) :=
  OpenClaim.holds_of_wide 18 Tryz.f18 rfl rfl rfl rfl rfl rfl rfl ⟨rfl, rfl, rfl, rfl, rfl⟩ rfl rfl rfl rfl rfl (by kernel_rfl) Tryz.func18 closed gi gx
    (fun os started H enc _ => lifted os started H enc)
theorem card : Rows.MonitorAppliedCardSaid :=
  Claim7.holds_tied_plain_at .later [] [.data, .data, .data, .data, .sentinel, .sentinel, .pinned] true (true, "11f230a8d8e2c1745f747872d237d21740fd6a16d7af62534ef2deb61fc91356") true over (fun _ h => by cases h) gw (fun _ h => by cases h) monitorApplied_row_tie rfl ⟨rfl, rfl⟩ jf_main rfl
    (fun f fn hf hfn => by
      obtain rfl : f = 18 := Option.some.inj ((show Tryz.prog.funcNamed "culvert/culvertlaw22.MonitorApplied" = some 18 by kernel_rfl).symm.trans hf) |>.symm
      obtain rfl : fn = Tryz.f18 := (Option.some.inj (Tryz.func18.symm.trans hfn)).symm
      exact ⟨jf_looks, fun j t ht => by
        rw [Tryz.params18] at ht
        have hm : t ∈ [23, 23] := by simpa using Array.mem_of_getElem? ht
        have hall : ([23, 23].all fun u => !Tryz.prog.wantsStandIn u) = true := by kernel_rfl
        exact (show Tryz.prog.wantsStandIn t = false by simpa using List.all_eq_true.1 hall t hm)⟩)
    gg
end Go.Proofs.YtnljjlaececnkaaGreatDoor.monitorApplied
namespace Go.Proofs.YtnljjlaececnkaaGreatDoor
theorem monitorApplied_holds : Rows.MonitorAppliedCardSaid := monitorApplied.card
#print axioms monitorApplied_holds
end Go.Proofs.YtnljjlaececnkaaGreatDoor
