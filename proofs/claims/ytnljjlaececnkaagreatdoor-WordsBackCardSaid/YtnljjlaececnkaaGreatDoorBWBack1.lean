/-
  Merged texts (KWordsBack), part 1 of 1. Conditions: each part's own, told at its head.
-/
import Derived.Test.YtnljjlaececnkaaGreatDoorBWd1
import Derived.Test.YtnljjlaececnkaaGreatDoorBWd2
import Derived.Test.YtnljjlaececnkaaGreatDoorBWd3
import Derived.Test.YtnljjlaececnkaaGreatDoorBWd4
import Derived.Test.YtnljjlaececnkaaGreatDoorBWd5
import Derived.Test.YtnljjlaececnkaaGreatDoorBWd6
import Derived.Test.YtnljjlaececnkaaGreatDoorBWd7
import Derived.Test.YtnljjlaececnkaaGreatDoorBWd8
import Derived.Test.YtnljjlaececnkaaGreatDoorBWe1
/-
  WordsBack, walked. Conditions: the held start; a text is no longer than memory has room for.
-/
namespace Go.Proofs.YtnljjlaececnkaaGreatDoor
open Go.RowKit
set_option linter.unusedVariables false
set_option linter.unusedSimpArgs false
set_option maxRecDepth 100000 in
set_option maxHeartbeats 6400000 in
theorem WordsBack_walk {w : World} (v : Value) (xs : List ByteArray) (id : List Int) (hv : SIn w v xs) (hid : isI id) (E : Env w) : Calls Tryz.prog 11 #[v, vA id] w fun e w' => e = .returned (.bool true) ∧ Below w.heap.size w w' := by
  have hlive := fun (W : World) (h : Below w.heap.size w W) => (live08_any (E.go h).2).mono fun e w' h2 => (⟨h2.1, h.trans (h2.2.mono h.size)⟩ : e = .returned (.bool true) ∧ Below w.heap.size w w')
  have bel0 : Below w.heap.size w (w.alloc (oI id)) := (Below.refl _ _).alloc (Nat.le_refl _) _
  have hb0 := Lib.hid (box1 w (oI id))
  obtain ⟨hr0, hln, hxs⟩ := hv
  have d5 := printid_any (E.go bel0).2 hid
  obtain ⟨T, hT⟩ : ∃ T : ByteArray, (⟨(idS id).toArray⟩ : ByteArray) = T := ⟨_, rfl⟩
  have hTs : T.size ≤ 24 := by rw [← hT, ← len_data]; exact idS_len hid
  have hLc := IdR_back hid
  rw [hT] at d5 hLc
  have d3 := fun W (h : Below w.heap.size w W) => parseid_any (w := W) (E.go h).2 (s := T) (by omega)
  rw [hLc] at d3
  have heq : ∀ W, (binOp .eql 68 (.agg (nums .u8 id).toArray) (.agg (nums .u8 id).toArray)).run Tryz.prog W = .ok (.bool true) W := fun W => by
    have := eql_I W hid hid
    rw [decide_eq_true rfl] at this; exact this
  have hnq : ∀ W, (binOp .neq 68 (.agg (nums .u8 id).toArray) (.agg (nums .u8 id).toArray)).run Tryz.prog W = .ok (.bool false) W := fun W => by
    have := neq_I W hid hid
    rw [decide_eq_true rfl] at this; exact this
  have hgd := guard68
  replace hid := Lib.hid hid
  replace d3 := Lib.hid d3
  replace hlive := Lib.hid hlive
  clear hT hLc hTs
  unfold vA at d5 ⊢
  go_enter Tryz.func11, Tryz.ntmps11
  go_wp2_with (first
    | (refine wpList_load_mid rfl 68 (.tmp 3) rfl w.heap.size 0 rfl (nums .u8 id) _ (row_load hb0.out) Tryz.underlying68 rfl (info68 hid.out) ?_)
    | (go_at_call 51; refine d5.mono ?_; clear d5; rintro e w1 ⟨rfl, bel1⟩; have bel01 := bel0.trans (bel1.mono bel0.size); have hb1 := Lib.hid (Below.box hb0.out bel1 (lt_of_obj hb0.out)))
    | (go_at_call 49; refine (d3.out _ bel01).mono ?_; clear d3; rintro e w2 ⟨rfl, bel2⟩; have bel02 := bel01.trans (bel2.mono bel01.size); have hb2 := Lib.hid (Below.box hb1.out bel2 (lt_of_obj hb1.out)); have hb3 := Lib.hid (Below.box hb2.out ((Below.refl w2.heap.size w2).alloc (Nat.le_refl _) (oI id)) (lt_of_obj hb2.out)); have hl3 := Lib.hid (box1 w2 (oI id)); have bel03 := bel02.alloc bel02.size (oI id); have hr3 := hr0.below (bel03.mono (Nat.le_refl _)); have hpr := printable_row hr3 hln hxs)
    | (refine wpList_store_new rfl 68 (.tmp 5) (.tmp 14) rfl rfl rfl (info68 hid.out) (by rw [sizeI hid.out]; rfl) (numsA_one _) ?_)
    | (refine wpList_load_mid rfl 68 (.tmp 5) rfl w2.heap.size 0 rfl (nums .u8 id) _ (row_load hl3.out) Tryz.underlying68 rfl (info68 hid.out) ?_)
    | (refine wpList_load_mid rfl 68 (.tmp 3) rfl w.heap.size 0 rfl (nums .u8 id) _ (row_load hb3.out) Tryz.underlying68 rfl (info68 hid.out) ?_)
    | (go_at_call 44; refine hpr.mono ?_; clear hpr; rintro e w3 ⟨⟨b, rfl, hb⟩, hw⟩; replace hw := hw.symm; subst hw; cases b)
    | (go_at_call 20; refine (hlive.out _ bel03).mono ?_; rintro e w8 ⟨rfl, bel⟩))
  · go_ret
    exact ⟨rfl, bel⟩
  · have hP : PrOk xs := (by first | exact hb rfl | exact hb trivial | exact hb)
    obtain ⟨S, hS⟩ : ∃ S, joinB xs = S := ⟨_, rfl⟩
    have hSs := joinB_small hP
    have dj : ∀ W u, SRow W u xs → Calls Tryz.prog 45 #[u] W fun e w' => e = .returned (.string S) ∧ Below W.heap.size W w' := fun W u hu => by
      rw [← hS]
      exact joins_row hu (Nat.le_trans hP.1 (by decide)) hP.small (Nat.le_trans hSs (by decide))
    have hx3 := hP.1
    by_cases hsz : 1024 < S.size
    · have hd1 : decide ((1024 : Int) < S.size) = true := decide_eq_true (by omega)
      have dw := fun W => words_any (w := W) (s := S) (by rw [← hS]; omega) (WSpec_long hsz)
      replace dj := Lib.hid dj
      clear hP hS hSs hb hx3
      go_wp2_with (first
        | (go_at_call 45; with_reducible refine (dj.out _ _ hr3).mono ?_; rintro e w4 ⟨rfl, bel4⟩; have bel04 := bel03.trans (bel4.mono bel03.size))
        | (go_at_call 21; refine (dw _).mono ?_; rintro e w5 ⟨v5, rfl, -, -, bel5⟩; have bel05 := bel04.trans (bel5.mono bel04.size))
        | (go_at_call 23; refine errnum_any.mono ?_; rintro e w6 ⟨rfl, hw⟩; replace hw := hw.symm; subst hw)
        | (go_at_call 20; refine (hlive.out _ bel05).mono ?_; rintro e w8 ⟨rfl, bel⟩))
      go_ret
      exact ⟨rfl, bel⟩
    · have hd1 : decide ((1024 : Int) < S.size) = false := decide_eq_false (by omega)
      have dw := fun W => words_any (w := W) (s := S) (by rw [← hS]; omega) (by rw [← hS]; exact WSpec_join hP (by rw [hS]; omega))
      replace dj := Lib.hid dj
      clear hP hS hSs hb
      go_wp2_with (first
        | (go_at_call 45; with_reducible refine (dj.out _ _ hr3).mono ?_; rintro e w4 ⟨rfl, bel4⟩; have bel04 := bel03.trans (bel4.mono bel03.size); have hr4 := hr3.below bel4)
        | (go_at_call 21; refine (dw _).mono ?_; rintro e w5 ⟨v5, rfl, ho5, -, bel5⟩; have bel05 := bel04.trans (bel5.mono bel04.size); have hr5 := hr4.below bel5; have hm5 := SRow.of_own ho5; clear ho5)
        | (go_at_call 23; refine errnum_any.mono ?_; rintro e w6 ⟨rfl, hw⟩; replace hw := hw.symm; subst hw)
        | (go_at_call 22; refine (texts_row (by omega) hr5 hm5).mono ?_; rintro e w7 ⟨rfl, bel7⟩; have bel07 := bel05.trans (bel7.mono bel05.size); have hm7 := hm5.below bel7)
        | (go_at_call 45; with_reducible refine (dj.out _ _ hm7).mono ?_; rintro e w9 ⟨rfl, bel9⟩; have bel09 := bel07.trans (bel9.mono bel07.size))
        | (go_at_call 20; refine (hlive.out _ bel09).mono ?_; rintro e w8 ⟨rfl, bel⟩))
      go_ret
      exact ⟨rfl, bel⟩
end Go.Proofs.YtnljjlaececnkaaGreatDoor
