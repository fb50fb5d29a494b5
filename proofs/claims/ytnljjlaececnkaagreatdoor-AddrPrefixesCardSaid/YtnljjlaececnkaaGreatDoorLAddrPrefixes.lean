/-
  The row and the tied card of AddrPrefixes, out of its walk. No condition.
-/
import Derived.Test.YtnljjlaececnkaaGreatDoorBPf1
import Derived.Test.YtnljjlaececnkaaGreatDoorBPf2
import Derived.Test.YtnljjlaececnkaaGreatDoorBPf3
import Derived.Test.YtnljjlaececnkaaGreatDoorBPf4
import Derived.Test.YtnljjlaececnkaaGreatDoorBPf5
import Derived.Test.YtnljjlaececnkaaGreatDoorBPf6
import Derived.Test.YtnljjlaececnkaaGreatDoorBPf7
import Derived.Test.YtnljjlaececnkaaGreatDoorBPf8
import Derived.Test.YtnljjlaececnkaaGreatDoorRows
import Derived.Test.YtnljjlaececnkaaGreatDoorTie
import Derived.Test.YtnljjlaececnkaaGreatDoorCards
import Derived.WalkKit
import Derived.ProofKit
import Derived.OpenShut
import Derived.ShutString
import Derived.ChangeOld
import Derived.Below
import Derived.SizedLaws
import Derived.LaidMore
import Derived.Lay
import Derived.SevenTiedAt
import Derived.Deep.DeepHandedRow
namespace Go.Proofs.YtnljjlaececnkaaGreatDoor.addrPrefixes
open Go.ChangeShapes Go.WideShapes Go.ChangeAt Go.RowKit
open Go.ChangeMaps (open_string shut_string)
set_option linter.unusedVariables false
theorem own : ownKnob Tryz.prog.godebug = none := by kernel_rfl
theorem laidOut : laidOutB Tryz.prog = true := by kernel_rfl
set_option maxRecDepth 100000 in
theorem lifted (os : Os) (started : os.Started) (H : Type) (enc : TypeId × Value → H) :
    ReturnsInHanded {} Tryz.checked os 14 .any (fun w args => (Rows.addrPrefixesSpec.pre enc Tryz.prog Tryz.f14 Rows.addrPrefixesRow.domain false w args ∧ laidMetH Tryz.prog Rows.addrPrefixesRow.laid w) ∧ sizedMet enc Tryz.prog Tryz.f14 (OpenSpec.ofChange Rows.addrPrefixesSpec) false w args)
      (Rows.addrPrefixesSpec.post enc Tryz.prog Tryz.f14 false true false false) := by
  refine returnsInHanded_of_row (C := Tryz.checked) (s := OpenSpec.ofChange Rows.addrPrefixesSpec) (laid := Rows.addrPrefixesRow.laid) (F := fun _ _ _ => 0) own started (by kernel_rfl) Tryz.func14
    (ChangeSpec.witness_shaped (enc := enc) (C := Tryz.checked) (os := os) (X := fun w _ => laidMetH Tryz.prog Rows.addrPrefixesRow.laid w) false (World.laidAll Tryz.prog os Rows.addrPrefixesRow.laid) #[.string ⟨#[]⟩, vPf zeroP, vPf zeroP, vA zeroA, .int .i64 0] 8 (World.laidAll_os _ _ _)
      (World.shaped_of_ZipB (by kernel_rfl) (by kernel_rfl)) (by kernel_rfl) (by kernel_rfl) (by kernel_rfl)
      (by rw [MakeChecks.laidMetH_plain _ _ _ (by kernel_rfl)]; exact laidMet_laidAll _ (by kernel_rfl) (by kernel_rfl))) ?_
  intro W base args ds gs before hval0 hW hcnd _ hsz0 hL hsh _
  have hsz : (DataW.weightsEach Tryz.prog (Tryz.f14.params.toList ++ Rows.addrPrefixesSpec.plain.varTypes Tryz.prog) (ds ++ gs)).all (· ≤ reachBytes) = true := hsz0
  have hval : ∀ (j : Nat) t v, Tryz.f14.params[j]? = some t → args[j]? = some v → Value.okWide Tryz.prog W .any base t v := hval0
  have hW' := hW
  obtain ⟨p, q, hA0, hV, rfl, hfz, hnd⟩ := hW
  have hA : DataW.TrodAll enc Tryz.prog W 0 (fun _ => true) true Tryz.f14.params.toList args.toList ds p := hA0
  rw [Tryz.params14] at hA hval hsz
  obtain ⟨v0, vs0, d0, ds0, p0, q0, hargs, rfl, rfl, h0, r0⟩ := trodAll_cons hA
  obtain ⟨v1, vs1, d1, ds1, p1, q1, rfl, rfl, rfl, h1, r1⟩ := trodAll_cons r0
  obtain ⟨v2, vs2, d2, ds2, p2, q2, rfl, rfl, rfl, h2, r2⟩ := trodAll_cons r1
  obtain ⟨v3, vs3, d3, ds3, p3, q3, rfl, rfl, rfl, h3, r3⟩ := trodAll_cons r2
  obtain ⟨v4, vs4, d4, ds4, p4, q4, rfl, rfl, rfl, h4, r4⟩ := trodAll_cons r3
  obtain ⟨rfl, rfl, rfl⟩ := trodAll_nil r4
  obtain rfl : args = #[v0, v1, v2, v3, v4] := by cases args; simp_all
  obtain ⟨rfl, rfl⟩ := trodVars_none hV
  obtain ⟨a0, rfl, rfl, rfl, y0⟩ := open_string Tryz.underlying9 (hval 0 9 v0 rfl rfl) h0
  have w0 : a0.size ≤ 140737488351232 := by
    have z := sized_string hsz (j := 0) (t := 9) rfl rfl
    rw [Array.length_toList] at z
    exact z
  have k1 := h1
  have lt1 : ∀ x ∈ p1, x.block < W.heap.size := by obtain ⟨m, hm⟩ := k1; exact DataW.trod_lt m _ _ _ hm
  obtain ⟨a1, rfl, w1⟩ := open_P (hval 1 55 v1 rfl rfl)
  have k2 := h2
  have lt2 : ∀ x ∈ p2, x.block < W.heap.size := by obtain ⟨m, hm⟩ := k2; exact DataW.trod_lt m _ _ _ hm
  obtain ⟨a2, rfl, w2⟩ := open_P (hval 2 55 v2 rfl rfl)
  have k3 := h3
  have lt3 : ∀ x ∈ p3, x.block < W.heap.size := by obtain ⟨m, hm⟩ := k3; exact DataW.trod_lt m _ _ _ hm
  obtain ⟨a3, rfl, w3⟩ := open_A (hval 3 42 v3 rfl rfl)
  obtain ⟨a4, rfl, rfl, rfl, w4⟩ := open_int Tryz.underlying3 (hval 4 3 v4 rfl rfl) h4
  clear hA0 hval0 hsz0
  refine (AddrPrefixes_walk a0 a1 a2 a3 a4 w0 w1 w2 w3 (env_of hsh hL)).mono fun e W' ⟨he, bel⟩ => ?_
  subst he
  exact ⟨_, rfl, _, _, _, [], _, [], hW', trodAll_mk1 (shut_bool Tryz.underlying4 _), (trodAll_cons_mk (shut_string Tryz.underlying9 y0) (trodAll_cons_mk (Below.trod laidOut (by kernel_rfl) (of_decide_eq_true (by kernel_rfl)) k1 bel lt1) (trodAll_cons_mk (Below.trod laidOut (by kernel_rfl) (of_decide_eq_true (by kernel_rfl)) k2 bel lt2) (trodAll_cons_mk (Below.trod laidOut (by kernel_rfl) (of_decide_eq_true (by kernel_rfl)) k3 bel lt3) (trodAll_cons_mk (shut_int Tryz.underlying3 w4) trodAll_mk0))))), rfl, bel.frame _, fun h => by cases h⟩
theorem g6 : (Rows.addrPrefixesRow.inPlace == Tryz.pinned.checked.prog.inPlace 14) = true := by kernel_rfl
theorem g7 : (Rows.addrPrefixesRow.unfollowed == Tryz.pinned.checked.prog.unfollowed 14) = true := by kernel_rfl
theorem g8 : (Rows.addrPrefixesRow.recurses == Tryz.pinned.checked.prog.recurses 14) = true := by kernel_rfl
theorem g9 : (Rows.addrPrefixesRow.named == Tryz.pinned.checked.prog.varsNamed 14) = true := by kernel_rfl
theorem g1 : Rows.addrPrefixesRow.wf (OpenSpec.ofChange Rows.addrPrefixesSpec) = true := by kernel_rfl
theorem gi : Tryz.f14.isInstance Tryz.pinned.checked.prog Rows.addrPrefixesRow.origin Rows.addrPrefixesRow.targs := of_decide_eq_true (by kernel_rfl)
theorem gg : false = Rows.addrPrefixesRow.goesBy Tryz.pinned.checked.prog := by kernel_rfl
theorem gw : Rows.addrPrefixesRow.wfByText (OpenSpec.ofChange Rows.addrPrefixesSpec) = true := by kernel_rfl
theorem gx : Tryz.f14.isWrapper Tryz.pinned.checked.prog Rows.addrPrefixesRow.wrapper Rows.addrPrefixesRow.mainSum := by unfold Func.isWrapper; first | (rw [if_pos (by decide +kernel)]; kernel_rfl) | (rw [if_neg (by decide +kernel)]; exact ⟨rfl, rfl⟩)
theorem closed : joinedFacts Tryz.pinned.checked.prog 14 Tryz.f14 Rows.addrPrefixesSpec Rows.addrPrefixesRow = true := joined_of rfl rfl rfl g1 (by kernel_rfl) (by kernel_rfl) (by kernel_rfl) (by kernel_rfl) g6 g7 g8 g9 (by kernel_rfl) (by kernel_rfl) (by kernel_rfl) (by kernel_rfl) (by kernel_rfl) (by kernel_rfl) (by kernel_rfl) (by kernel_rfl) (by kernel_rfl) (by kernel_rfl) (by kernel_rfl) (by kernel_rfl) (by kernel_rfl) (by kernel_rfl)
theorem over : Rows.addrPrefixesRow.holds Tryz.pinned (OpenSpec.ofChange Rows.addrPrefixesSpec) :=
  OpenClaim.holds_of_wide 14 Tryz.f14 rfl rfl rfl rfl rfl rfl rfl ⟨rfl, rfl, rfl, rfl, rfl⟩ rfl rfl rfl rfl rfl (by kernel_rfl) Tryz.func14 closed gi gx
    (fun os started H enc _ => lifted os started H enc)
theorem card : Rows.AddrPrefixesCardSaid :=
  Claim7.holds_tied_plain_at .later [] [.data, .data, .data, .data, .sentinel, .sentinel, .pinned] true (true, "11f230a8d8e2c1745f747872d237d21740fd6a16d7af62534ef2deb61fc91356") true over (fun _ h => by cases h) gw (fun _ h => by cases h) addrPrefixes_row_tie rfl ⟨rfl, rfl⟩ jf_main rfl
    (fun f fn hf hfn => by
      obtain rfl : f = 14 := Option.some.inj ((show Tryz.prog.funcNamed "culvert/culvertlaw02.AddrPrefixes" = some 14 by kernel_rfl).symm.trans hf) |>.symm
      obtain rfl : fn = Tryz.f14 := (Option.some.inj (Tryz.func14.symm.trans hfn)).symm
      exact ⟨jf_looks, fun j t ht => by
        rw [Tryz.params14] at ht
        have hm : t ∈ [9, 55, 55, 42, 3] := by simpa using Array.mem_of_getElem? ht
        have hall : ([9, 55, 55, 42, 3].all fun u => !Tryz.prog.wantsStandIn u) = true := by kernel_rfl
        exact (show Tryz.prog.wantsStandIn t = false by simpa using List.all_eq_true.1 hall t hm)⟩)
    gg
end Go.Proofs.YtnljjlaececnkaaGreatDoor.addrPrefixes
namespace Go.Proofs.YtnljjlaececnkaaGreatDoor
theorem addrPrefixes_holds : Rows.AddrPrefixesCardSaid := addrPrefixes.card
#print axioms addrPrefixes_holds
end Go.Proofs.YtnljjlaececnkaaGreatDoor
