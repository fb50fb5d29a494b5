/-
  The row and the tied card of AddrTree, out of its walk. No condition.
-/
import Derived.Test.YtnljjlaececnkaaGreatDoorRows
import Derived.Test.YtnljjlaececnkaaGreatDoorTie
import Derived.Test.YtnljjlaececnkaaGreatDoorCards
import Derived.Test.YtnljjlaececnkaaGreatDoorKAddrTree
import Derived.Test.YtnljjlaececnkaaGreatDoorEN
import Derived.Test.YtnljjlaececnkaaGreatDoorJG
import Derived.WalkKit
import Derived.ProofKit
import Derived.OpenShut
import Derived.ShutString
import Derived.ChangeOld
import Derived.Below
import Derived.SizedLaws
import Derived.LaidMore
import Derived.Lay
import Derived.SevenTiedAt
import Derived.Deep.DeepHandedRow
namespace Go.Proofs.YtnljjlaececnkaaGreatDoor.addrTree
open Go.ChangeShapes Go.WideShapes Go.ChangeAt Go.RowKit
open Go.ChangeMaps (open_string shut_string)
set_option linter.unusedVariables false
theorem own : ownKnob Tryz.prog.godebug = none := by kernel_rfl
theorem laidOut : laidOutB Tryz.prog = true := by kernel_rfl
set_option maxRecDepth 100000 in
theorem lifted (os : Os) (started : os.Started) (H : Type) (enc : TypeId × Value → H) :
    ReturnsInHanded {} Tryz.checked os 8 .any (fun w args => (Rows.addrTreeSpec.pre enc Tryz.prog Tryz.f8 Rows.addrTreeRow.domain false w args ∧ laidMetH Tryz.prog Rows.addrTreeRow.laid w) ∧ sizedMet enc Tryz.prog Tryz.f8 (OpenSpec.ofChange Rows.addrTreeSpec) false w args)
      (Rows.addrTreeSpec.post enc Tryz.prog Tryz.f8 false true false false) := by
  refine returnsInHanded_of_row (C := Tryz.checked) (s := OpenSpec.ofChange Rows.addrTreeSpec) (laid := Rows.addrTreeRow.laid) (F := fun _ _ _ => 0) own started (by kernel_rfl) Tryz.func8
    (ChangeSpec.witness_shaped (enc := enc) (C := Tryz.checked) (os := os) (X := fun w _ => laidMetH Tryz.prog Rows.addrTreeRow.laid w) false (World.laidAll Tryz.prog os Rows.addrTreeRow.laid) #[vPf zeroP, vPf zeroP, vA zeroA] 8 (World.laidAll_os _ _ _)
      (World.shaped_of_ZipB (by kernel_rfl) (by kernel_rfl)) (by kernel_rfl) (by kernel_rfl) (by kernel_rfl)
      (by rw [MakeChecks.laidMetH_plain _ _ _ (by kernel_rfl)]; exact laidMet_laidAll _ (by kernel_rfl) (by kernel_rfl))) ?_
  intro W base args ds gs before hval0 hW hcnd _ hsz0 hL hsh _
  have hsz : (DataW.weightsEach Tryz.prog (Tryz.f8.params.toList ++ Rows.addrTreeSpec.plain.varTypes Tryz.prog) (ds ++ gs)).all (· ≤ reachBytes) = true := hsz0
  have hval : ∀ (j : Nat) t v, Tryz.f8.params[j]? = some t → args[j]? = some v → Value.okWide Tryz.prog W .any base t v := hval0
  have hW' := hW
  obtain ⟨p, q, hA0, hV, rfl, hfz, hnd⟩ := hW
  have hA : DataW.TrodAll enc Tryz.prog W 0 (fun _ => true) true Tryz.f8.params.toList args.toList ds p := hA0
  rw [Tryz.params8] at hA hval hsz
  obtain ⟨v0, vs0, d0, ds0, p0, q0, hargs, rfl, rfl, h0, r0⟩ := trodAll_cons hA
  obtain ⟨v1, vs1, d1, ds1, p1, q1, rfl, rfl, rfl, h1, r1⟩ := trodAll_cons r0
  obtain ⟨v2, vs2, d2, ds2, p2, q2, rfl, rfl, rfl, h2, r2⟩ := trodAll_cons r1
  obtain ⟨rfl, rfl, rfl⟩ := trodAll_nil r2
  obtain rfl : args = #[v0, v1, v2] := by cases args; simp_all
  obtain ⟨rfl, rfl⟩ := trodVars_none hV
  have k0 := h0
  have lt0 : ∀ x ∈ p0, x.block < W.heap.size := by obtain ⟨m, hm⟩ := k0; exact DataW.trod_lt m _ _ _ hm
  obtain ⟨a0, rfl, w0⟩ := open_P (hval 0 55 v0 rfl rfl)
  have k1 := h1
  have lt1 : ∀ x ∈ p1, x.block < W.heap.size := by obtain ⟨m, hm⟩ := k1; exact DataW.trod_lt m _ _ _ hm
  obtain ⟨a1, rfl, w1⟩ := open_P (hval 1 55 v1 rfl rfl)
  have k2 := h2
  have lt2 : ∀ x ∈ p2, x.block < W.heap.size := by obtain ⟨m, hm⟩ := k2; exact DataW.trod_lt m _ _ _ hm
  obtain ⟨a2, rfl, w2⟩ := open_A (hval 2 42 v2 rfl rfl)
  clear hA0 hval0 hsz0
  refine (AddrTree_walk a0 a1 a2 w0 w1 w2 (env_of hsh hL)).mono fun e W' ⟨he, bel⟩ => ?_
  subst he
  exact ⟨_, rfl, _, _, _, [], _, [], hW', trodAll_mk1 (shut_bool Tryz.underlying4 _), (trodAll_cons_mk (Below.trod laidOut (by kernel_rfl) (of_decide_eq_true (by kernel_rfl)) k0 bel lt0) (trodAll_cons_mk (Below.trod laidOut (by kernel_rfl) (of_decide_eq_true (by kernel_rfl)) k1 bel lt1) (trodAll_cons_mk (Below.trod laidOut (by kernel_rfl) (of_decide_eq_true (by kernel_rfl)) k2 bel lt2) trodAll_mk0))), rfl, bel.frame _, fun h => by cases h⟩
theorem g6 : (Rows.addrTreeRow.inPlace == Tryz.pinned.checked.prog.inPlace 8) = true := by kernel_rfl
theorem g7 : (Rows.addrTreeRow.unfollowed == Tryz.pinned.checked.prog.unfollowed 8) = true := by kernel_rfl
theorem g8 : (Rows.addrTreeRow.recurses == Tryz.pinned.checked.prog.recurses 8) = true := by kernel_rfl
theorem g9 : (Rows.addrTreeRow.named == Tryz.pinned.checked.prog.varsNamed 8) = true := by kernel_rfl
theorem g1 : Rows.addrTreeRow.wf (OpenSpec.ofChange Rows.addrTreeSpec) = true := by kernel_rfl
theorem gi : Tryz.f8.isInstance Tryz.pinned.checked.prog Rows.addrTreeRow.origin Rows.addrTreeRow.targs := of_decide_eq_true (by kernel_rfl)
theorem gg : false = Rows.addrTreeRow.goesBy Tryz.pinned.checked.prog := by kernel_rfl
theorem gw : Rows.addrTreeRow.wfByText (OpenSpec.ofChange Rows.addrTreeSpec) = true := by kernel_rfl
theorem gx : Tryz.f8.isWrapper Tryz.pinned.checked.prog Rows.addrTreeRow.wrapper Rows.addrTreeRow.mainSum := by unfold Func.isWrapper; first | (rw [if_pos (by decide +kernel)]; kernel_rfl) | (rw [if_neg (by decide +kernel)]; exact ⟨rfl, rfl⟩)
theorem closed : joinedFacts Tryz.pinned.checked.prog 8 Tryz.f8 Rows.addrTreeSpec Rows.addrTreeRow = true := joined_of rfl rfl rfl g1 (by kernel_rfl) (by kernel_rfl) (by kernel_rfl) (by kernel_rfl) g6 g7 g8 g9 (by kernel_rfl) (by kernel_rfl) (by kernel_rfl) (by kernel_rfl) (by kernel_rfl) (by kernel_rfl) (by kernel_rfl) (by kernel_rfl) (by kernel_rfl) (by kernel_rfl) (by kernel_rfl) (by kernel_rfl) (by kernel_rfl) (by kernel_rfl)
theorem over : Rows.addrTreeRow.holds Tryz.pinned (OpenSpec.ofChange Rows.addrTreeSpec) :=
  OpenClaim.holds_of_wide 8 Tryz.f8 rfl rfl rfl rfl rfl rfl rfl ⟨rfl, rfl, rfl, rfl, rfl⟩ rfl rfl rfl rfl rfl (by kernel_rfl) Tryz.func8 closed gi gx
    (fun os started H enc _ => lifted os started H enc)
theorem card : Rows.AddrTreeCardSaid :=
  Claim7.holds_tied_plain_at .later [] [.data, .data, .data, .data, .sentinel, .sentinel, .pinned] true (true, "11f230a8d8e2c1745f747872d237d21740fd6a16d7af62534ef2deb61fc91356") true over (fun _ h => by cases h) gw (fun _ h => by cases h) addrTree_row_tie rfl ⟨rfl, rfl⟩ jf_main rfl
    (fun f fn hf hfn => by
      obtain rfl : f = 8 := Option.some.inj ((show Tryz.prog.funcNamed "culvert/culvertlaw02.AddrTree" = some 8 by kernel_rfl).symm.trans hf) |>.symm
      obtain rfl : fn = Tryz.f8 := (Option.some.inj (Tryz.func8.symm.trans hfn)).symm
      exact ⟨jf_looks, fun j t ht => by
        rw [Tryz.params8] at ht
        have hm : t ∈ [55, 55, 42] := by simpa using Array.mem_of_getElem? ht
        have hall : ([55, 55, 42].all fun u => !Tryz.prog.wantsStandIn u) = true := by kernel_rfl
        exact (show Tryz.prog.wantsStandIn t = false by simpa using List.all_eq_true.1 hall t hm)⟩)
    gg
end Go.Proofs.YtnljjlaececnkaaGreatDoor.addrTree
namespace Go.Proofs.YtnljjlaececnkaaGreatDoor
theorem addrTree_holds : Rows.AddrTreeCardSaid := addrTree.card
#print axioms addrTree_holds
end Go.Proofs.YtnljjlaececnkaaGreatDoor
