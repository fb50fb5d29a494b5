/-
  Merged texts (KWordsCuts), part 1 of 1. Conditions: each part's own, told at its head.
-/
import Derived.Test.YtnljjlaececnkaaGreatDoorBWd1
import Derived.Test.YtnljjlaececnkaaGreatDoorBWd2
import Derived.Test.YtnljjlaececnkaaGreatDoorBWd3
import Derived.Test.YtnljjlaececnkaaGreatDoorBWd4
import Derived.Test.YtnljjlaececnkaaGreatDoorBWd5
import Derived.Test.YtnljjlaececnkaaGreatDoorBWd6
import Derived.Test.YtnljjlaececnkaaGreatDoorBWd7
import Derived.Test.YtnljjlaececnkaaGreatDoorBWd8
/-
  WordsCuts, walked. Conditions: the held start; a text is no longer than memory has room for.
-/
namespace Go.Proofs.YtnljjlaececnkaaGreatDoor
open Go.RowKit
set_option linter.unusedVariables false
set_option linter.unusedSimpArgs false
theorem linesA_words {f : ByteArray → List ByteArray × Int} (hf : ∀ s, WSpec s (f s)) : ∀ (a : List ByteArray) k acc, (∀ p ∈ acc, p.2.length ≤ 1024) → ∀ p ∈ (linesA f a k acc).1, p.2.length ≤ 1024
  | [], k, acc, h => h
  | x :: a, k, acc, h => by
    unfold linesA
    by_cases h2 : (f x).2 = 0
    · rw [if_pos h2]
      refine linesA_words hf a _ _ ?_
      split
      · exact h
      · intro p hp
        rcases List.mem_append.1 hp with hp | hp
        · exact h p hp
        · simp at hp; subst hp; exact WSpec_len (hf x)
    · rw [if_neg h2]; intro p hp; cases hp
theorem lines_bound {f : ByteArray → List ByteArray × Int} (hf : ∀ s, WSpec s (f s)) (s : ByteArray) : (linesT f s).1.length ≤ 65537 ∧ ∀ p ∈ (linesT f s).1, p.2.length ≤ 1024 := by
  unfold linesT
  by_cases h : 65536 < s.size
  · rw [if_pos h]; exact ⟨Nat.zero_le _, fun p hp => by cases hp⟩
  · rw [if_neg h]
    refine ⟨Nat.le_trans (linesA_len f _ _ _) ?_, linesA_words hf _ _ _ fun p hp => by cases hp⟩
    rw [pieces_eq]; unfold cutB
    have := cutL_many 10 s.data.toList
    rw [len_data] at this
    simp; omega
set_option maxRecDepth 100000 in
set_option maxHeartbeats 3200000 in
theorem WordsCuts_walk (s t : ByteArray) (hs : s.size ≤ 140737488351232) (ht : t.size ≤ 140737488351232) {w : World} (E : Env w) : Calls Tryz.prog 4 #[.string s, .string t] w fun e w' => e = .returned (.bool true) ∧ Below w.heap.size w w' := by
  have hlive := fun (W : World) (h : Below w.heap.size w W) => (live08_any (E.go h).2).mono fun e w' h2 => (⟨h2.1, h.trans (h2.2.mono h.size)⟩ : e = .returned (.bool true) ∧ Below w.heap.size w w')
  have hlive0 := live08_any E
  by_cases h1 : 70000 < s.size
  · have hd : decide ((70000 : Int) < s.size) = true := decide_eq_true (by omega)
    go_enter Tryz.func4, Tryz.ntmps4
    go_wp2_with (go_at_call 20; refine hlive0.mono ?_; rintro e w' ⟨rfl, bel⟩)
    go_ret
    exact ⟨rfl, bel⟩
  · have hd : decide ((70000 : Int) < s.size) = false := decide_eq_false (by omega)
    by_cases h2 : 70000 < t.size
    · have hd2 : decide ((70000 : Int) < t.size) = true := decide_eq_true (by omega)
      go_enter Tryz.func4, Tryz.ntmps4
      go_wp2_with (go_at_call 20; refine hlive0.mono ?_; rintro e w' ⟨rfl, bel⟩)
      go_ret
      exact ⟨rfl, bel⟩
    · have hd2 : decide ((70000 : Int) < t.size) = false := decide_eq_false (by omega)
      obtain ⟨f, hf⟩ := words_fun
      have hR := hf s
      have hrl := WSpec_len hR
      obtain ⟨hb1, hb2⟩ := lines_bound hf t
      obtain ⟨L, hL⟩ : ∃ L, linesT f t = L := ⟨_, rfl⟩
      rw [hL] at hb1 hb2
      generalize f s = R at hR hrl
      have d1 := fun W => words_any (w := W) (s := s) (by omega) hR
      have d2 := fun W => rwords_any (w := W) (s := s) (by omega) hR
      have d3 := fun W (h : Below w.heap.size w W) => lines_any (w := W) (E.go h).2 hf hL
      have d4 := fun W => rlines_any (w := W) hf hL
      replace d3 := Lib.hid d3
      replace hlive := Lib.hid hlive
      replace hb2 := Lib.hid hb2
      clear hR hL hf
      go_enter Tryz.func4, Tryz.ntmps4
      go_wp2_with (first
        | (go_at_call 21; refine (d1 _).mono ?_; clear d1; rintro e w1 ⟨v1, rfl, ho1, -, bel1⟩; obtain ⟨A1, c1, hv, -, -⟩ := own_slice ho1; subst hv; have ho1 := Lib.hid ho1)
        | (go_at_call 24; refine (d2 _).mono ?_; clear d2; rintro e w2 ⟨v2, rfl, ho2, -, bel2⟩; obtain ⟨A2, c2, hv, -, -⟩ := own_slice ho2; subst hv; have bel12 := bel1.trans (bel2.mono bel1.size); have hp1 := Lib.hid (own_below ho1.out bel2 (own_lt ho1.out)); have ho2 := Lib.hid ho2)
        | (go_at_call 25; refine (d3.out _ bel12).mono ?_; clear d3; rintro e w3 ⟨v3, vs3, rfl, ho3, -, -, bel3⟩; have bel13 := bel12.trans (bel3.mono bel12.size); have hq1 := Lib.hid (own_below hp1.out bel3 (own_lt hp1.out)); have hq2 := Lib.hid (own_below ho2.out bel3 (own_lt ho2.out)); have ho3 := Lib.hid ho3)
        | (go_at_call 26; refine (d4 _).mono ?_; clear d4; rintro e w4 ⟨v4, vs4, rfl, ho4, -, -, bel4⟩; have bel14 := bel13.trans (bel4.mono bel13.size); have hr1 := Lib.hid (own_below hq1.out bel4 (own_lt hq1.out)); have hr2 := Lib.hid (own_below hq2.out bel4 (own_lt hq2.out)); have hr3 := Lib.hid (ho3.out.below bel4); have ho4 := Lib.hid ho4)
        | (go_at_call 22; refine (texts_own (by omega) hr1.out hr2.out rfl rfl).mono ?_; rintro e w5 ⟨rfl, bel5⟩; have bel15 := bel14.trans (bel5.mono bel14.size); have hs3 := Lib.hid (hr3.out.below bel5); have hs4 := Lib.hid (ho4.out.below bel5))
        | (go_at_call 27; refine (same_yes hs3.out hs4.out (by omega) (fun p hp => Nat.le_trans (hb2.out p hp) (by decide))).mono ?_; rintro e w6 ⟨rfl, bel6⟩; have bel16 := bel15.trans (bel6.mono bel15.size))
        | (go_at_call 23; refine errnum_any.mono ?_; rintro e w7 ⟨rfl, rfl⟩)
        | (go_at_call 20; refine (hlive.out _ bel16).mono ?_; rintro e w8 ⟨rfl, bel⟩))
      go_ret
      exact ⟨rfl, bel⟩
end Go.Proofs.YtnljjlaececnkaaGreatDoor
