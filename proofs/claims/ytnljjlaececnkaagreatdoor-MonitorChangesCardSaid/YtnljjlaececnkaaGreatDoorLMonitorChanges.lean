/-
  The row and the tied card of MonitorChanges, out of its walk. No condition.
-/
import Derived.Test.YtnljjlaececnkaaGreatDoorBMC1
import Derived.Test.YtnljjlaececnkaaGreatDoorBMC2
import Derived.Test.YtnljjlaececnkaaGreatDoorBMC3
import Derived.Test.YtnljjlaececnkaaGreatDoorBMC4
import Derived.Test.YtnljjlaececnkaaGreatDoorBMC5
import Derived.Test.YtnljjlaececnkaaGreatDoorBMC6
import Derived.Test.YtnljjlaececnkaaGreatDoorBMC7
import Derived.Test.YtnljjlaececnkaaGreatDoorBMC8
import Derived.Test.YtnljjlaececnkaaGreatDoorBMC9
import Derived.Test.YtnljjlaececnkaaGreatDoorBMC10
import Derived.Test.YtnljjlaececnkaaGreatDoorBMC11
import Derived.Test.YtnljjlaececnkaaGreatDoorBMC12
import Derived.Test.YtnljjlaececnkaaGreatDoorRows
import Derived.Test.YtnljjlaececnkaaGreatDoorTie
import Derived.Test.YtnljjlaececnkaaGreatDoorCards
import Derived.WalkKit
import Derived.ProofKit
import Derived.OpenShut
import Derived.ShutString
import Derived.ChangeOld
import Derived.Below
import Derived.SizedLaws
import Derived.LaidMore
import Derived.Lay
import Derived.SevenTiedAt
import Derived.Deep.DeepHandedRow
namespace Go.Proofs.YtnljjlaececnkaaGreatDoor.monitorChanges
open Go.ChangeShapes Go.WideShapes Go.ChangeAt Go.RowKit
open Go.ChangeMaps (open_string shut_string)
set_option linter.unusedVariables false
theorem own : ownKnob Tryz.prog.godebug = none := by kernel_rfl
theorem laidOut : laidOutB Tryz.prog = true := by kernel_rfl
set_option maxRecDepth 100000 in
theorem lifted (os : Os) (started : os.Started) (H : Type) (enc : TypeId × Value → H) :
    ReturnsInHanded {} Tryz.checked os 16 .any (fun w args => (Rows.monitorChangesSpec.pre enc Tryz.prog Tryz.f16 Rows.monitorChangesRow.domain false w args ∧ laidMetH Tryz.prog Rows.monitorChangesRow.laid w) ∧ sizedMet enc Tryz.prog Tryz.f16 (OpenSpec.ofChange Rows.monitorChangesSpec) false w args)
      (Rows.monitorChangesSpec.post enc Tryz.prog Tryz.f16 false true false false) := by
  refine returnsInHanded_of_row (C := Tryz.checked) (s := OpenSpec.ofChange Rows.monitorChangesSpec) (laid := Rows.monitorChangesRow.laid) (F := fun _ _ _ => 0) own started (by kernel_rfl) Tryz.func16
    (ChangeSpec.witness_shaped (enc := enc) (C := Tryz.checked) (os := os) (X := fun w _ => laidMetH Tryz.prog Rows.monitorChangesRow.laid w) false (World.laidAll Tryz.prog os Rows.monitorChangesRow.laid) #[.slice none 0 0, .slice none 0 0] 8 (World.laidAll_os _ _ _)
      (World.shaped_of_ZipB (by kernel_rfl) (by kernel_rfl)) (by kernel_rfl) (by kernel_rfl) (by kernel_rfl)
      (by rw [MakeChecks.laidMetH_plain _ _ _ (by kernel_rfl)]; exact laidMet_laidAll _ (by kernel_rfl) (by kernel_rfl))) ?_
  intro W base args ds gs before hval0 hW hcnd _ hsz0 hL hsh _
  have hsz : (DataW.weightsEach Tryz.prog (Tryz.f16.params.toList ++ Rows.monitorChangesSpec.plain.varTypes Tryz.prog) (ds ++ gs)).all (· ≤ reachBytes) = true := hsz0
  have hval : ∀ (j : Nat) t v, Tryz.f16.params[j]? = some t → args[j]? = some v → Value.okWide Tryz.prog W .any base t v := hval0
  have hW' := hW
  obtain ⟨p, q, hA0, hV, rfl, hfz, hnd⟩ := hW
  have hA : DataW.TrodAll enc Tryz.prog W 0 (fun _ => true) true Tryz.f16.params.toList args.toList ds p := hA0
  rw [Tryz.params16] at hA hval hsz
  obtain ⟨v0, vs0, d0, ds0, p0, q0, hargs, rfl, rfl, h0, r0⟩ := trodAll_cons hA
  obtain ⟨v1, vs1, d1, ds1, p1, q1, rfl, rfl, rfl, h1, r1⟩ := trodAll_cons r0
  obtain ⟨rfl, rfl, rfl⟩ := trodAll_nil r1
  obtain rfl : args = #[v0, v1] := by cases args; simp_all
  obtain ⟨rfl, rfl⟩ := trodVars_none hV
  have k0 := h0
  have lt0 : ∀ x ∈ p0, x.block < W.heap.size := by obtain ⟨m, hm⟩ := k0; exact DataW.trod_lt m _ _ _ hm
  obtain ⟨a0, w0⟩ := open_SS (hval 0 23 v0 rfl rfl) (h := h0) (hsz := hsz) (j := 0) rfl rfl
  have k1 := h1
  have lt1 : ∀ x ∈ p1, x.block < W.heap.size := by obtain ⟨m, hm⟩ := k1; exact DataW.trod_lt m _ _ _ hm
  obtain ⟨a1, w1⟩ := open_SS (hval 1 23 v1 rfl rfl) (h := h1) (hsz := hsz) (j := 1) rfl rfl
  clear hA0 hval0 hsz0
  refine (MonitorChanges_walk v0 v1 a0 a1 w0 w1 (env_of hsh hL)).mono fun e W' ⟨he, bel⟩ => ?_
  subst he
  exact ⟨_, rfl, _, _, _, [], _, [], hW', trodAll_mk1 (shut_bool Tryz.underlying4 _), (trodAll_cons_mk (Below.trod laidOut (by kernel_rfl) (of_decide_eq_true (by kernel_rfl)) k0 bel lt0) (trodAll_cons_mk (Below.trod laidOut (by kernel_rfl) (of_decide_eq_true (by kernel_rfl)) k1 bel lt1) trodAll_mk0)), rfl, bel.frame _, fun h => by cases h⟩
theorem g6 : (Rows.monitorChangesRow.inPlace == Tryz.pinned.checked.prog.inPlace 16) = true := by kernel_rfl
theorem g7 : (Rows.monitorChangesRow.unfollowed == Tryz.pinned.checked.prog.unfollowed 16) = true := by kernel_rfl
theorem g8 : (Rows.monitorChangesRow.recurses == Tryz.pinned.checked.prog.recurses 16) = true := by kernel_rfl
theorem g9 : (Rows.monitorChangesRow.named == Tryz.pinned.checked.prog.varsNamed 16) = true := by kernel_rfl
theorem g1 : Rows.monitorChangesRow.wf (OpenSpec.ofChange Rows.monitorChangesSpec) = true := by kernel_rfl
theorem gi : Tryz.f16.isInstance Tryz.pinned.checked.prog Rows.monitorChangesRow.origin Rows.monitorChangesRow.targs := of_decide_eq_true (by kernel_rfl)
theorem gg : false = Rows.monitorChangesRow.goesBy Tryz.pinned.checked.prog := by kernel_rfl
theorem gw : Rows.monitorChangesRow.wfByText (OpenSpec.ofChange Rows.monitorChangesSpec) = true := by kernel_rfl
theorem gx : Tryz.f16.isWrapper Tryz.pinned.checked.prog Rows.monitorChangesRow.wrapper Rows.monitorChangesRow.mainSum := by unfold Func.isWrapper; first | (rw [if_pos (by decide +kernel)]; kernel_rfl) | (rw [if_neg (by decide +kernel)]; exact ⟨rfl, rfl⟩)
theorem closed : joinedFacts Tryz.pinned.checked.prog 16 Tryz.f16 Rows.monitorChangesSpec Rows.monitorChangesRow = true := joined_of rfl rfl rfl g1 (by kernel_rfl) (by kernel_rfl) (by kernel_rfl) (by kernel_rfl) g6 g7 g8 g9 (by kernel_rfl) (by kernel_rfl) (by kernel_rfl) (by kernel_rfl) (by kernel_rfl) (by kernel_rfl) (by kernel_rfl) (by kernel_rfl) (by kernel_rfl) (by kernel_rfl) (by kernel_rfl) (by kernel_rfl) (by kernel_rfl) (by kernel_rfl)
theorem over : Rows.monitorChangesRow.holds Tryz.pinned (OpenSpec.ofChange Rows.monitorChangesSpec) :=
  OpenClaim.holds_of_wide 16 Tryz.f16 rfl rfl rfl rfl rfl rfl rfl ⟨rfl, rfl, rfl, rfl, rfl⟩ rfl rfl rfl rfl rfl (by kernel_rfl) Tryz.func16 closed gi gx
    (fun os started H enc _ => lifted os started H enc)
theorem card : Rows.MonitorChangesCardSaid :=
  Claim7.holds_tied_plain_at .later [] [.data, .data, .data, .data, .sentinel, .sentinel, .pinned] true (true, "11f230a8d8e2c1745f747872d237d21740fd6a16d7af62534ef2deb61fc91356") true over (fun _ h => by cases h) gw (fun _ h => by cases h) monitorChanges_row_tie rfl ⟨rfl, rfl⟩ jf_main rfl
    (fun f fn hf hfn => by
      obtain rfl : f = 16 := Option.some.inj ((show Tryz.prog.funcNamed "culvert/culvertlaw22.MonitorChanges" = some 16 by kernel_rfl).symm.trans hf) |>.symm
      obtain rfl : fn = Tryz.f16 := (Option.some.inj (Tryz.func16.symm.trans hfn)).symm
      exact ⟨jf_looks, fun j t ht => by
        rw [Tryz.params16] at ht
        have hm : t ∈ [23, 23] := by simpa using Array.mem_of_getElem? ht
        have hall : ([23, 23].all fun u => !Tryz.prog.wantsStandIn u) = true := by kernel_rfl
        exact (show Tryz.prog.wantsStandIn t = false by simpa using List.all_eq_true.1 hall t hm)⟩)
    gg
end Go.Proofs.YtnljjlaececnkaaGreatDoor.monitorChanges
namespace Go.Proofs.YtnljjlaececnkaaGreatDoor
theorem monitorChanges_holds : Rows.MonitorChangesCardSaid := monitorChanges.card
#print axioms monitorChanges_holds
end Go.Proofs.YtnljjlaececnkaaGreatDoor
