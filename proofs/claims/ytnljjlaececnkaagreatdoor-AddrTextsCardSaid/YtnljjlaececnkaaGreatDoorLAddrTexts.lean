/-
  The row and the tied card of AddrTexts, out of its walk. No condition.
-/
import Derived.Test.YtnljjlaececnkaaGreatDoorBAddrTexts1
import Derived.Test.YtnljjlaececnkaaGreatDoorBAddrTexts2
import Derived.Test.YtnljjlaececnkaaGreatDoorBAddrTexts3
import Derived.Test.YtnljjlaececnkaaGreatDoorBAddrTexts4
import Derived.Test.YtnljjlaececnkaaGreatDoorBAddrTexts5
import Derived.Test.YtnljjlaececnkaaGreatDoorBAddrTexts6
import Derived.Test.YtnljjlaececnkaaGreatDoorBAddrTexts7
import Derived.Test.YtnljjlaececnkaaGreatDoorRows
import Derived.Test.YtnljjlaececnkaaGreatDoorTie
import Derived.Test.YtnljjlaececnkaaGreatDoorCards
import Derived.WalkKit
import Derived.ProofKit
import Derived.OpenShut
import Derived.ShutString
import Derived.ChangeOld
import Derived.Below
import Derived.SizedLaws
import Derived.LaidMore
import Derived.Lay
import Derived.SevenTiedAt
import Derived.Deep.DeepHandedRow
namespace Go.Proofs.YtnljjlaececnkaaGreatDoor.addrTexts
open Go.ChangeShapes Go.WideShapes Go.ChangeAt Go.RowKit
open Go.ChangeMaps (open_string shut_string)
set_option linter.unusedVariables false
theorem own : ownKnob Tryz.prog.godebug = none := by kernel_rfl
theorem laidOut : laidOutB Tryz.prog = true := by kernel_rfl
set_option maxRecDepth 100000 in
theorem lifted (os : Os) (started : os.Started) (H : Type) (enc : TypeId × Value → H) :
    ReturnsInHanded {} Tryz.checked os 6 .any (fun w args => (Rows.addrTextsSpec.pre enc Tryz.prog Tryz.f6 Rows.addrTextsRow.domain false w args ∧ laidMetH Tryz.prog Rows.addrTextsRow.laid w) ∧ sizedMet enc Tryz.prog Tryz.f6 (OpenSpec.ofChange Rows.addrTextsSpec) false w args)
      (Rows.addrTextsSpec.post enc Tryz.prog Tryz.f6 false true false false) := by
  refine returnsInHanded_of_row (C := Tryz.checked) (s := OpenSpec.ofChange Rows.addrTextsSpec) (laid := Rows.addrTextsRow.laid) (F := fun _ _ _ => 0) own started (by kernel_rfl) Tryz.func6
    (ChangeSpec.witness_shaped (enc := enc) (C := Tryz.checked) (os := os) (X := fun w _ => laidMetH Tryz.prog Rows.addrTextsRow.laid w) false (World.laidAll Tryz.prog os Rows.addrTextsRow.laid) #[.string ⟨#[]⟩, vA zeroA] 8 (World.laidAll_os _ _ _)
      (World.shaped_of_ZipB (by kernel_rfl) (by kernel_rfl)) (by kernel_rfl) (by kernel_rfl) (by kernel_rfl)
      (by rw [MakeChecks.laidMetH_plain _ _ _ (by kernel_rfl)]; exact laidMet_laidAll _ (by kernel_rfl) (by kernel_rfl))) ?_
  intro W base args ds gs before hval0 hW hcnd _ hsz0 hL hsh _
  have hsz : (DataW.weightsEach Tryz.prog (Tryz.f6.params.toList ++ Rows.addrTextsSpec.plain.varTypes Tryz.prog) (ds ++ gs)).all (· ≤ reachBytes) = true := hsz0
  have hval : ∀ (j : Nat) t v, Tryz.f6.params[j]? = some t → args[j]? = some v → Value.okWide Tryz.prog W .any base t v := hval0
  have hW' := hW
  obtain ⟨p, q, hA0, hV, rfl, hfz, hnd⟩ := hW
  have hA : DataW.TrodAll enc Tryz.prog W 0 (fun _ => true) true Tryz.f6.params.toList args.toList ds p := hA0
  rw [Tryz.params6] at hA hval hsz
  obtain ⟨v0, vs0, d0, ds0, p0, q0, hargs, rfl, rfl, h0, r0⟩ := trodAll_cons hA
  obtain ⟨v1, vs1, d1, ds1, p1, q1, rfl, rfl, rfl, h1, r1⟩ := trodAll_cons r0
  obtain ⟨rfl, rfl, rfl⟩ := trodAll_nil r1
  obtain rfl : args = #[v0, v1] := by cases args; simp_all
  obtain ⟨rfl, rfl⟩ := trodVars_none hV
  obtain ⟨a0, rfl, rfl, rfl, y0⟩ := open_string Tryz.underlying9 (hval 0 9 v0 rfl rfl) h0
  have w0 : a0.size ≤ 140737488351232 := by
    have z := sized_string hsz (j := 0) (t := 9) rfl rfl
    rw [Array.length_toList] at z
    exact z
  have k1 := h1
  have lt1 : ∀ x ∈ p1, x.block < W.heap.size := by obtain ⟨m, hm⟩ := k1; exact DataW.trod_lt m _ _ _ hm
  obtain ⟨a1, rfl, w1⟩ := open_A (hval 1 42 v1 rfl rfl)
  clear hA0 hval0 hsz0
  refine (AddrTexts_walk a0 a1 w0 w1 (env_of hsh hL)).mono fun e W' ⟨he, bel⟩ => ?_
  subst he
  exact ⟨_, rfl, _, _, _, [], _, [], hW', trodAll_mk1 (shut_bool Tryz.underlying4 _), (trodAll_cons_mk (shut_string Tryz.underlying9 y0) (trodAll_cons_mk (Below.trod laidOut (by kernel_rfl) (of_decide_eq_true (by kernel_rfl)) k1 bel lt1) trodAll_mk0)), rfl, bel.frame _, fun h => by cases h⟩
theorem g6 : (Rows.addrTextsRow.inPlace == Tryz.pinned.checked.prog.inPlace 6) = true := by kernel_rfl
theorem g7 : (Rows.addrTextsRow.unfollowed == Tryz.pinned.checked.prog.unfollowed 6) = true := by kernel_rfl
theorem g8 : (Rows.addrTextsRow.recurses == Tryz.pinned.checked.prog.recurses 6) = true := by kernel_rfl
theorem g9 : (Rows.addrTextsRow.named == Tryz.pinned.checked.prog.varsNamed 6) = true := by kernel_rfl
theorem g1 : Rows.addrTextsRow.wf (OpenSpec.ofChange Rows.addrTextsSpec) = true := by kernel_rfl
theorem gi : Tryz.f6.isInstance Tryz.pinned.checked.prog Rows.addrTextsRow.origin Rows.addrTextsRow.targs := of_decide_eq_true (by kernel_rfl)
theorem gg : false = Rows.addrTextsRow.goesBy Tryz.pinned.checked.prog := by kernel_rfl
theorem gw : Rows.addrTextsRow.wfByText (OpenSpec.ofChange Rows.addrTextsSpec) = true := by kernel_rfl
theorem gx : Tryz.f6.isWrapper Tryz.pinned.checked.prog Rows.addrTextsRow.wrapper Rows.addrTextsRow.mainSum := by unfold Func.isWrapper; first | (rw [if_pos (by decide +kernel)]; kernel_rfl) | (rw [if_neg (by decide +kernel)]; exact ⟨rfl, rfl⟩)
theorem closed : joinedFacts Tryz.pinned.checked.prog 6 Tryz.f6 Rows.addrTextsSpec Rows.addrTextsRow = true := joined_of rfl rfl rfl g1 (by kernel_rfl) (by kernel_rfl) (by kernel_rfl) (by kernel_rfl) g6 g7 g8 g9 (by kernel_rfl) (by kernel_rfl) (by kernel_rfl) (by kernel_rfl) (by kernel_rfl) (by kernel_rfl) (by kernel_rfl) (by kernel_rfl) (by kernel_rfl) (by kernel_rfl) (by kernel_rfl) (by kernel_rfl) (by kernel_rfl) (by kernel_rfl)
theorem over : Rows.addrTextsRow.holds Tryz.pinned (OpenSpec.ofChange Rows.addrTextsSpec) :=
  OpenClaim.holds_of_wide 6 Tryz.f6 rfl rfl rfl rfl rfl rfl rfl ⟨rfl, rfl, rfl, rfl, rfl⟩ rfl rfl rfl rfl rfl (by kernel_rfl) Tryz.func6 closed gi gx
    (fun os started H enc _ => lifted os started H enc)
theorem card : Rows.AddrTextsCardSaid :=
  Claim7.holds_tied_plain_at .later [] [.data, .data, .data, .data, .sentinel, .sentinel, .pinned] true (true, "11f230a8d8e2c1745f747872d237d21740fd6a16d7af62534ef2deb61fc91356") true over (fun _ h => by cases h) gw (fun _ h => by cases h) addrTexts_row_tie rfl ⟨rfl, rfl⟩ jf_main rfl
    (fun f fn hf hfn => by
      obtain rfl : f = 6 := Option.some.inj ((show Tryz.prog.funcNamed "culvert/culvertlaw02.AddrTexts" = some 6 by kernel_rfl).symm.trans hf) |>.symm
      obtain rfl : fn = Tryz.f6 := (Option.some.inj (Tryz.func6.symm.trans hfn)).symm
      exact ⟨jf_looks, fun j t ht => by
        rw [Tryz.params6] at ht
        have hm : t ∈ [9, 42] := by simpa using Array.mem_of_getElem? ht
        have hall : ([9, 42].all fun u => !Tryz.prog.wantsStandIn u) = true := by kernel_rfl
        exact (show Tryz.prog.wantsStandIn t = false by simpa using List.all_eq_true.1 hall t hm)⟩)
    gg
end Go.Proofs.YtnljjlaececnkaaGreatDoor.addrTexts
namespace Go.Proofs.YtnljjlaececnkaaGreatDoor
theorem addrTexts_holds : Rows.AddrTextsCardSaid := addrTexts.card
#print axioms addrTexts_holds
end Go.Proofs.YtnljjlaececnkaaGreatDoor
