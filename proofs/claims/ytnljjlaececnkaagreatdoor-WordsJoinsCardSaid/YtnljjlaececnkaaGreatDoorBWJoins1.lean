/-
  Merged texts (KWordsJoins), part 1 of 1. Conditions: each part's own, told at its head.
-/
import Derived.Test.YtnljjlaececnkaaGreatDoorBWd1
import Derived.Test.YtnljjlaececnkaaGreatDoorBWd2
import Derived.Test.YtnljjlaececnkaaGreatDoorBWd3
import Derived.Test.YtnljjlaececnkaaGreatDoorBWd4
import Derived.Test.YtnljjlaececnkaaGreatDoorBWd5
import Derived.Test.YtnljjlaececnkaaGreatDoorBWd6
import Derived.Test.YtnljjlaececnkaaGreatDoorBWd7
import Derived.Test.YtnljjlaececnkaaGreatDoorBWd8
import Derived.Test.YtnljjlaececnkaaGreatDoorBWe1
/-
  WordsJoins, walked. Conditions: the held start; a text is no longer than memory has room for.
-/
namespace Go.Proofs.YtnljjlaececnkaaGreatDoor
open Go.RowKit
set_option linter.unusedVariables false
set_option linter.unusedSimpArgs false
set_option maxRecDepth 100000 in
set_option maxHeartbeats 6400000 in
theorem WordsJoins_walk {w : World} (v : Value) (xs : List ByteArray) (s : ByteArray) (most : Int) (id : List Int) (hv : SIn w v xs) (hs : s.size ≤ 140737488351232) (hm : (Lit.int .i64 most).wf = true) (hid : isI id) (E : Env w) : Calls Tryz.prog 10 #[v, .string s, .int .i64 most, vA id] w fun e w' => e = .returned (.bool true) ∧ Below w.heap.size w w' := by
  have hlive := fun (W : World) (h : Below w.heap.size w W) => (live08_any (E.go h).2).mono fun e w' h2 => (⟨h2.1, h.trans (h2.2.mono h.size)⟩ : e = .returned (.bool true) ∧ Below w.heap.size w w')
  have bel0 : Below w.heap.size w (w.alloc (oI id)) := (Below.refl _ _).alloc (Nat.le_refl _) _
  have hb0 := Lib.hid (box1 w (oI id))
  obtain ⟨hr0, hln, hxs⟩ := hv
  have hr1 := hr0.below bel0
  have hpr := printable_row hr1 hln hxs
  by_cases h7 : 70000 < s.size
  · have hd : decide ((70000 : Int) < s.size) = true := decide_eq_true (by omega)
    have hl0 := hlive _ bel0
    unfold vA
    go_enter Tryz.func10, Tryz.ntmps10
    go_wp2_with (go_at_call 20; refine hl0.mono ?_; rintro e w' ⟨rfl, bel⟩)
    go_ret
    exact ⟨rfl, bel⟩
  · have hd : decide ((70000 : Int) < s.size) = false := decide_eq_false (by omega)
    obtain ⟨n', b', hnb⟩ : ∃ n' b', NumR s most = .tuple #[.int .i64 n', .bool b'] := ⟨_, _, rfl⟩
    obtain ⟨L, c', hLc, hL⟩ := IdR_is s
    have d1 := fun W (h : Below w.heap.size w W) => number_any (w := W) (E.go h).2 s hs most
    have d2 := fun W => rnumber_any (w := W) s most
    have d3 := fun W (h : Below w.heap.size w W) => parseid_any (w := W) (E.go h).2 (s := s) (by omega)
    have d4 := fun W => rparseid_any (w := W) (s := s) (by omega)
    rw [hnb] at d1 d2
    rw [hLc] at d3 d4
    have d5 := fun W (h : Below w.heap.size w W) => printid_any (w := W) (E.go h).2 hid
    have d6 := fun W => rprintid_any (w := W) hid
    have heq : ∀ W, (binOp .eql 68 (vA L) (vA L)).run Tryz.prog W = .ok (.bool true) W := fun W => by rw [eql_I W hL hL, decide_eq_true rfl]
    obtain ⟨T, hT⟩ : ∃ T : ByteArray, (⟨(idS id).toArray⟩ : ByteArray) = T := ⟨_, rfl⟩
    rw [hT] at d5 d6
    replace hid := Lib.hid hid
    replace hL := Lib.hid hL
    replace d1 := Lib.hid d1
    replace d3 := Lib.hid d3
    replace d4 := Lib.hid d4
    replace d5 := Lib.hid d5
    replace d6 := Lib.hid d6
    replace hlive := Lib.hid hlive
    replace heq := Lib.hid heq
    clear hnb hLc hT hr0 hxs hln hm
    obtain ⟨e0, he0⟩ : ∃ e0 : Ending → World → Prop, e0 = fun e w' => PrSaid xs e ∧ w' = w.alloc (oI id) := ⟨_, rfl⟩
    have hpr2 : Calls Tryz.prog 44 #[v] (w.alloc (oI id)) fun e w' => PrSaid xs e ∧ w' = w.alloc (oI id) := hpr
    clear he0 e0 hpr
    unfold vA
    go_enter Tryz.func10, Tryz.ntmps10
    go_upto_region 3 with fail
    go_cut [29] from 9 to 79 (fun x29 W => x29 = .bool false ∧ Below w.heap.size w W ∧ W.heap[w.heap.size]? = some (oI id))
    case first =>
      go_wp2_with (first
        | (go_at_call 44; refine hpr2.mono ?_; rintro e w1 ⟨⟨b, rfl, hb⟩, hw⟩; subst hw; cases b)
        | (go_at_call 45; have hP : PrOk xs := (by first | exact hb rfl | exact hb trivial | exact hb); refine (joins_row hr1 (Nat.le_trans hP.1 (by decide)) hP.small (Nat.le_trans (joinB_small hP) (by decide))).mono ?_; rintro e w2 ⟨rfl, bel2⟩; have hr2 := hr1.below bel2)
        | (go_at_call 46; refine (rjoins_row hr2 (Nat.le_trans hP.1 (by decide)) hP.small (Nat.le_trans (joinB_small hP) (by decide))).mono ?_; rintro e w3 ⟨rfl, hw⟩; replace hw := hw.symm; subst hw))
      · go_meet
        exact ⟨rfl, bel0, hb0.out⟩
      · go_meet
        exact ⟨rfl, bel0.trans (bel2.mono bel0.size), Below.box hb0.out bel2 (by simp)⟩
    case rest =>
      obtain ⟨rfl, belc, hbc⟩ := hcut
      clear hr1 hpr2 hb0 bel0
      replace hbc := Lib.hid hbc
      go_wp2_with (first
        | (go_at_call 47; refine (d1.out _ belc).mono ?_; clear d1; rintro e w1 ⟨rfl, bel1⟩; have bel01 := belc.trans (bel1.mono belc.size); have hb1 := Lib.hid (Below.box hbc.out bel1 (lt_of_obj hbc.out)))
        | (go_at_call 48; refine (d2 _).mono ?_; clear d2; rintro e w2 ⟨rfl, hw⟩; replace hw := hw.symm; subst hw)
        | (go_at_call 49; refine (d3.out _ bel01).mono ?_; clear d3; rintro e w3 ⟨rfl, bel3⟩; have bel03 := bel01.trans (bel3.mono bel01.size); have hb3 := Lib.hid (Below.box hb1.out bel3 (lt_of_obj hb1.out)); have hb4 := Lib.hid (Below.box hb3.out ((Below.refl w3.heap.size w3).alloc (Nat.le_refl _) (oI L)) (lt_of_obj hb3.out)); have hl4 := Lib.hid (box1 w3 (oI L)); have bel04 := bel03.alloc bel03.size (oI L))
        | (refine wpList_store_new rfl 68 (.tmp 13) (.tmp 45) rfl rfl rfl (info68 hL.out) (by rw [sizeI hL.out]; rfl) (numsA_one _) ?_)
        | (go_at_call 50; refine (d4.out _).mono ?_; clear d4; rintro e w4 ⟨rfl, bel5⟩; have bel05 := bel04.trans (bel5.mono bel04.size); have hb5 := Lib.hid (Below.box hb4.out bel5 (lt_of_obj hb4.out)); have hl5 := Lib.hid (Below.box hl4.out bel5 (lt_of_obj hl4.out)); have hb6 := Lib.hid (Below.box hb5.out ((Below.refl w4.heap.size w4).alloc (Nat.le_refl _) (oI L)) (lt_of_obj hb5.out)); have hl6 := Lib.hid (Below.box hl5.out ((Below.refl w4.heap.size w4).alloc (Nat.le_refl _) (oI L)) (lt_of_obj hl5.out)); have hm6 := Lib.hid (box1 w4 (oI L)); have bel06 := bel05.alloc bel05.size (oI L))
        | (refine wpList_store_new rfl 68 (.tmp 15) (.tmp 50) rfl rfl rfl (info68 hL.out) (by rw [sizeI hL.out]; rfl) (numsA_one _) ?_))
      have hst : Bx w w.heap.size [(w.heap.size, oI id), (w3.heap.size, oI L), (w4.heap.size, oI L)] (w4.alloc (oI L)) := ⟨bel06, ⟨hb6.out, hl6.out, hm6.out, trivial⟩, bel06.size⟩
      clear hbc hb1 hb3 hb4 hl4 hb5 hl5 hb6 hl6 hm6
      refine wp_region_C (C := Bx w w.heap.size [(w.heap.size, oI id), (w3.heap.size, oI L), (w4.heap.size, oI L)]) (by kernel_rfl) (by kernel_rfl) (Bx.drew hst) ?_
      refine wpQuiet_hide ?_
      intro lq hlq
      refine wpQuiet_step_h hlq ?_
      clear hlq lq
      intro K lq hlq hK
      refine wanted_go (by rfl) ?_
      refine ⟨?_, fun W hW => ?_, ?_⟩
      rotate_left
      · skip
        go_simp
        with_reducible rfl
      refine hK _ ?_
      clear hK K
      (try simp only [Act.put, List.setIfInBounds_toArray, List.set_cons_zero, List.set_cons_succ])
      refine wpQuiet_step_h hlq ?_
      clear hlq lq
      intro K lq hlq hK
      refine wanted_go (by rfl) ?_
      refine ⟨?_, fun W hW => ?_, ?_⟩
      rotate_left
      · skip
        go_simp
        with_reducible rfl
      refine hK _ ?_
      clear hK K
      (try simp only [Act.put, List.setIfInBounds_toArray, List.set_cons_zero, List.set_cons_succ])
      refine wpQuiet_step_h hlq ?_
      clear hlq lq
      intro K lq hlq hK
      refine wanted_go (by rfl) ?_
      refine ⟨?_, fun W hW => ?_, ?_⟩
      rotate_left
      · skip
        go_simp
        with_reducible rfl
      refine hK _ ?_
      clear hK K
      (try simp only [Act.put, List.setIfInBounds_toArray, List.set_cons_zero, List.set_cons_succ])
      refine wpQuiet_step_h hlq ?_
      clear hlq lq
      intro K lq hlq hK
      refine wanted_go (by rfl) ?_
      refine ⟨?_, fun W hW => ?_, ?_⟩
      rotate_left
      · skip
        go_simp
        with_reducible rfl
      refine hK _ ?_
      clear hK K
      (try simp only [Act.put, List.setIfInBounds_toArray, List.set_cons_zero, List.set_cons_succ])
      refine wpQuiet_step_h hlq ?_
      clear hlq lq
      intro K lq hlq hK
      refine wanted_go (by rfl) ?_
      refine ⟨?_, fun W hW => ?_, ?_⟩
      rotate_left
      · skip
        go_simp
        with_reducible rfl
      refine hK _ ?_
      clear hK K
      (try simp only [Act.put, List.setIfInBounds_toArray, List.set_cons_zero, List.set_cons_succ])
      refine wpQuiet_step_h hlq ?_
      clear hlq lq
      intro K lq hlq hK
      refine wanted_go (by rfl) ?_
      refine ⟨?_, fun W hW => ?_, ?_⟩
      rotate_left
      · skip
        go_simp
        with_reducible rfl
      refine hK _ ?_
      clear hK K
      (try simp only [Act.put, List.setIfInBounds_toArray, List.set_cons_zero, List.set_cons_succ])
      refine wpQuiet_step_h hlq ?_
      clear hlq lq
      intro K lq hlq hK
      refine wanted_go (by rfl) ?_
      refine ⟨?_, fun W hW => ?_, ?_⟩
      rotate_left
      · skip
        go_simp
        with_reducible rfl
      refine hK _ ?_
      clear hK K
      (try simp only [Act.put, List.setIfInBounds_toArray, List.set_cons_zero, List.set_cons_succ])
      refine wpQuiet_step_h hlq ?_
      clear hlq lq
      intro K lq hlq hK
      refine wanted_go (by rfl) ?_
      refine ⟨?_, fun W hW => ?_, ?_⟩
      rotate_left
      · skip
        go_simp
        with_reducible rfl
      refine hK _ ?_
      clear hK K
      (try simp only [Act.put, List.setIfInBounds_toArray, List.set_cons_zero, List.set_cons_succ])
      refine wpQuiet_step_h hlq ?_
      clear hlq lq
      intro K lq hlq hK
      refine wanted_go (by rfl) ?_
      refine ⟨?_, fun W hW => ?_, ?_⟩
      rotate_left
      · skip
        go_simp
        with_reducible rfl
      refine hK _ ?_
      clear hK K
      (try simp only [Act.put, List.setIfInBounds_toArray, List.set_cons_zero, List.set_cons_succ])
      refine wpQuiet_step_h hlq ?_
      clear hlq lq
      intro K lq hlq hK
      refine wanted_go (by rfl) ?_
      refine ⟨vA L, fun W hW => ?_, ?_⟩
      · skip
        exact quiet_load 68 _ rfl rfl (ldI hW.2.1.2.1 hL.out)
      refine hK _ ?_
      clear hK K
      (try simp only [Act.put, List.setIfInBounds_toArray, List.set_cons_zero, List.set_cons_succ])
      refine wpQuiet_step_h hlq ?_
      clear hlq lq
      intro K lq hlq hK
      refine wanted_go (by rfl) ?_
      refine ⟨vA L, fun W hW => ?_, ?_⟩
      · skip
        exact quiet_load 68 _ rfl rfl (ldI hW.2.1.2.2.1 hL.out)
      refine hK _ ?_
      clear hK K
      (try simp only [Act.put, List.setIfInBounds_toArray, List.set_cons_zero, List.set_cons_succ])
      refine wpQuiet_step_h hlq ?_
      clear hlq lq
      intro K lq hlq hK
      refine wanted_go (by rfl) ?_
      refine ⟨.bool true, fun W hW => ?_, ?_⟩
      · skip
        exact quiet_eq (.inl rfl) (by rfl) (by rfl) (by rfl) guard68 (heq.out W)
      refine hK _ ?_
      clear hK K
      (try simp only [Act.put, List.setIfInBounds_toArray, List.set_cons_zero, List.set_cons_succ])
      refine wpQuiet_step_h hlq ?_
      clear hlq lq
      intro K lq hlq hK
      refine wanted_go (by rfl) ?_
      refine ⟨?_, fun W hW => ?_, ?_⟩
      rotate_left
      · skip
        go_simp
        with_reducible rfl
      refine hK _ ?_
      clear hK K
      (try simp only [Act.put, List.setIfInBounds_toArray, List.set_cons_zero, List.set_cons_succ])
      refine wpQuiet_step_h hlq ?_
      clear hlq lq
      intro K lq hlq hK
      refine wanted_go (by rfl) ?_
      refine ⟨?_, fun W hW => ?_, ?_⟩
      rotate_left
      · skip
        go_simp
        with_reducible rfl
      refine hK _ ?_
      clear hK K
      (try simp only [Act.put, List.setIfInBounds_toArray, List.set_cons_zero, List.set_cons_succ])
      refine wpQuiet_step_h hlq ?_
      clear hlq lq
      intro K lq hlq hK
      refine wanted_go (by rfl) ?_
      refine ⟨?_, fun W hW => ?_, ?_⟩
      rotate_left
      · skip
        go_simp
        with_reducible rfl
      refine hK _ ?_
      clear hK K
      (try simp only [Act.put, List.setIfInBounds_toArray, List.set_cons_zero, List.set_cons_succ])
      refine wpQuiet_step_h hlq ?_
      clear hlq lq
      intro K lq hlq hK
      refine wanted_go (by rfl) ?_
      refine ⟨?_, fun W hW => ?_, ?_⟩
      rotate_left
      · skip
        go_simp
        with_reducible rfl
      refine hK _ ?_
      clear hK K
      (try simp only [Act.put, List.setIfInBounds_toArray, List.set_cons_zero, List.set_cons_succ])
      refine wpQuiet_step_h hlq ?_
      clear hlq lq
      intro K lq hlq hK
      refine wanted_go (by rfl) ?_
      refine ⟨?_, fun W hW => ?_, ?_⟩
      rotate_left
      · skip
        go_simp
        with_reducible rfl
      refine hK _ ?_
      clear hK K
      (try simp only [Act.put, List.setIfInBounds_toArray, List.set_cons_zero, List.set_cons_succ])
      refine wpQuiet_step_h hlq ?_
      clear hlq lq
      intro K lq hlq hK
      refine wanted_go (by rfl) ?_
      refine ⟨?_, fun W hW => ?_, ?_⟩
      rotate_left
      · skip
        go_simp
        with_reducible rfl
      refine hK _ ?_
      clear hK K
      (try simp only [Act.put, List.setIfInBounds_toArray, List.set_cons_zero, List.set_cons_succ])
      refine wpQuiet_step_h hlq ?_
      clear hlq lq
      intro K lq hlq hK
      refine wanted_go (by rfl) ?_
      refine ⟨?_, fun W hW => ?_, ?_⟩
      rotate_left
      · skip
        go_simp
        with_reducible rfl
      refine hK _ ?_
      clear hK K
      (try simp only [Act.put, List.setIfInBounds_toArray, List.set_cons_zero, List.set_cons_succ])
      refine wpQuiet_step_h hlq ?_
      clear hlq lq
      intro K lq hlq hK
      refine wanted_go (by rfl) ?_
      refine ⟨vA id, fun W hW => ?_, ?_⟩
      · skip
        exact quiet_load 68 _ rfl rfl (ldI hW.2.1.1 hid.out)
      refine hK _ ?_
      clear hK K
      (try simp only [Act.put, List.setIfInBounds_toArray, List.set_cons_zero, List.set_cons_succ])
      refine wpQuiet_step_h hlq ?_
      clear hlq lq
      intro K lq hlq hK
      refine wanted_go (by rfl) ?_
      refine ⟨.string T, fun W hW => ?_, ?_⟩
      · go_simp
        refine (d5.out _ hW.1).mono fun e W2 hc2 => ⟨hc2.1, hW.go hc2.2⟩
      refine hK _ ?_
      clear hK K
      (try simp only [Act.put, List.setIfInBounds_toArray, List.set_cons_zero, List.set_cons_succ])
      refine wpQuiet_step_h hlq ?_
      clear hlq lq
      intro K lq hlq hK
      refine wanted_go (by rfl) ?_
      refine ⟨vA id, fun W hW => ?_, ?_⟩
      · skip
        exact quiet_load 68 _ rfl rfl (ldI hW.2.1.1 hid.out)
      refine hK _ ?_
      clear hK K
      (try simp only [Act.put, List.setIfInBounds_toArray, List.set_cons_zero, List.set_cons_succ])
      refine wpQuiet_step_h hlq ?_
      clear hlq lq
      intro K lq hlq hK
      refine wanted_go (by rfl) ?_
      refine ⟨.string T, fun W hW => ?_, ?_⟩
      · go_simp
        refine (d6.out _).mono fun e W2 hc2 => ⟨hc2.1, hW.go hc2.2⟩
      refine hK _ ?_
      clear hK K
      (try simp only [Act.put, List.setIfInBounds_toArray, List.set_cons_zero, List.set_cons_succ])
      refine wpQuiet_step_h hlq ?_
      clear hlq lq
      intro K lq hlq hK
      refine wanted_go (by rfl) ?_
      refine ⟨?_, fun W hW => ?_, ?_⟩
      rotate_left
      · skip
        go_simp
        with_reducible rfl
      refine hK _ ?_
      clear hK K
      (try simp only [Act.put, List.setIfInBounds_toArray, List.set_cons_zero, List.set_cons_succ])
      refine wpQuiet_step_h hlq ?_
      clear hlq lq
      intro K lq hlq hK
      refine wanted_go (by rfl) ?_
      refine ⟨?_, fun W hW => ?_, ?_⟩
      rotate_left
      · skip
        go_simp
        with_reducible rfl
      refine hK _ ?_
      clear hK K
      (try simp only [Act.put, List.setIfInBounds_toArray, List.set_cons_zero, List.set_cons_succ])
      refine wpQuiet_step_h hlq ?_
      clear hlq lq
      intro K lq hlq hK
      refine wanted_go (by rfl) ?_
      refine ⟨?_, fun W hW => ?_, ?_⟩
      rotate_left
      · skip
        go_simp
        with_reducible rfl
      refine hK _ ?_
      clear hK K
      (try simp only [Act.put, List.setIfInBounds_toArray, List.set_cons_zero, List.set_cons_succ])
      refine wpQuiet_step_h hlq ?_
      clear hlq lq
      intro K lq hlq hK
      refine wanted_go (by rfl) ?_
      refine ⟨.bool true, fun W hW => ?_, ?_⟩
      · go_simp
        refine ((live08_any (E.go hW.1).2)).mono fun e W2 hc2 => ⟨hc2.1, hW.go hc2.2⟩
      refine hK _ ?_
      clear hK K
      (try simp only [Act.put, List.setIfInBounds_toArray, List.set_cons_zero, List.set_cons_succ])
      refine wpQuiet_step_h hlq ?_
      clear hlq lq
      intro K lq hlq hK
      refine wanted_go (by rfl) ?_
      refine ⟨?_, fun W hW => ?_, ?_⟩
      rotate_left
      · skip
        go_simp
        with_reducible rfl
      refine hK _ ?_
      clear hK K
      (try simp only [Act.put, List.setIfInBounds_toArray, List.set_cons_zero, List.set_cons_succ])
      refine wpQuiet_step_h hlq ?_
      clear hlq lq
      intro K lq hlq hK
      refine wanted_go (by rfl) ?_
      refine ⟨?_, fun W hW => ?_, ?_⟩
      rotate_left
      · skip
        go_simp
        with_reducible rfl
      refine hK _ ?_
      clear hK K
      (try simp only [Act.put, List.setIfInBounds_toArray, List.set_cons_zero, List.set_cons_succ])
      refine wpQuiet_nil_h hlq ?_
      clear hlq lq
      intro w' hC'
      go_wp2
      go_ret
      exact ⟨rfl, hC'.1⟩
end Go.Proofs.YtnljjlaececnkaaGreatDoor
