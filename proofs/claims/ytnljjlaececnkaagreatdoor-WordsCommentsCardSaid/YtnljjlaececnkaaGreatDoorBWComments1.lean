/-
  Merged texts (KWordsComments), part 1 of 1. Conditions: each part's own, told at its head.
-/
import Derived.Test.YtnljjlaececnkaaGreatDoorBWd1
import Derived.Test.YtnljjlaececnkaaGreatDoorBWd2
import Derived.Test.YtnljjlaececnkaaGreatDoorBWd3
import Derived.Test.YtnljjlaececnkaaGreatDoorBWd4
import Derived.Test.YtnljjlaececnkaaGreatDoorBWd5
import Derived.Test.YtnljjlaececnkaaGreatDoorBWd6
import Derived.Test.YtnljjlaececnkaaGreatDoorBWd7
import Derived.Test.YtnljjlaececnkaaGreatDoorBWd8
/-
  WordsComments, walked. Conditions: the held start; a text is no longer than memory has room for.
-/
namespace Go.Proofs.YtnljjlaececnkaaGreatDoor
open Go.RowKit
set_option linter.unusedVariables false
set_option linter.unusedSimpArgs false
theorem note_spec {s z t : ByteArray} {n : Nat} {R : List ByteArray × Int} (hR : WSpec s R) (hs : s.size ≤ 900) (hn : n ≤ 20) (hno : ∀ c ∈ s.data.toList, c ≠ 35 ∧ c ≠ 34) (hz : z.data.toList = List.replicate n 32)
    (ht : z ++ s ++ ⟨#[32]⟩ ++ z ++ ⟨#[35, 32, 97, 110, 100, 32, 109, 111, 114, 101, 32, 34, 32, 104, 101, 114, 101]⟩ = t) : t.size ≤ 1024 ∧ WSpec t R := by
  have hzs : z.size = n := by rw [← len_data, hz, List.length_replicate]
  have h1 : (⟨#[32]⟩ : ByteArray).size = 1 := rfl
  have h2 : (⟨#[35, 32, 97, 110, 100, 32, 109, 111, 114, 101, 32, 34, 32, 104, 101, 114, 101]⟩ : ByteArray).size = 17 := rfl
  have hsz : t.size ≤ 1024 := by rw [← ht]; simp only [cat_size, hzs, h1, h2]; omega
  refine ⟨hsz, ?_⟩
  have hl : t.data.toList = List.replicate n 32 ++ (s.data.toList ++ 32 :: (List.replicate n 32 ++ noteL)) := by
    rw [← ht]; simp only [cat_list, hz]
    simp [noteL]
  unfold WSpec at hR ⊢
  rw [if_neg (by omega)] at hR ⊢
  rw [hl]
  exact WR_comment hR hno
set_option maxRecDepth 100000 in
set_option maxHeartbeats 3200000 in
theorem WordsComments_walk (s : ByteArray) (n : Int) (hs : s.size ≤ 140737488351232) (hn : (Lit.int .i64 n).wf = true) {w : World} (E : Env w) : Calls Tryz.prog 3 #[.string s, .int .i64 n] w fun e w' => e = .returned (.bool true) ∧ Below w.heap.size w w' := by
  have hlive := fun {W : World} (h : Below w.heap.size w W) => (live08_any (E.go h).2).mono fun e w' h2 => (⟨h2.1, h.trans (h2.2.mono h.size)⟩ : e = .returned (.bool true) ∧ Below w.heap.size w w')
  have hlive0 := live08_any E
  by_cases h9 : 900 < s.size
  · have hd : decide ((900 : Int) < s.size) = true := decide_eq_true (by omega)
    go_enter Tryz.func3, Tryz.ntmps3
    go_wp2_with (go_at_call 20; refine hlive0.mono ?_; rintro e w' ⟨rfl, bel⟩)
    go_ret
    exact ⟨rfl, bel⟩
  · have hd : decide ((900 : Int) < s.size) = false := decide_eq_false (by omega)
    by_cases hn0 : n < 0
    · have hd2 : decide (n < 0) = true := decide_eq_true hn0
      go_enter Tryz.func3, Tryz.ntmps3
      go_wp2_with (go_at_call 20; refine hlive0.mono ?_; rintro e w' ⟨rfl, bel⟩)
      go_ret
      exact ⟨rfl, bel⟩
    · have hd2 : decide (n < 0) = false := decide_eq_false hn0
      by_cases hn1 : 20 < n
      · have hd3 : decide (20 < n) = true := decide_eq_true hn1
        go_enter Tryz.func3, Tryz.ntmps3
        go_wp2_with (go_at_call 20; refine hlive0.mono ?_; rintro e w' ⟨rfl, bel⟩)
        go_ret
        exact ⟨rfl, bel⟩
      · have hd3 : decide (20 < n) = false := decide_eq_false hn1
        obtain ⟨m, rfl⟩ : ∃ m : Nat, n = m := ⟨n.toNat, by omega⟩
        obtain ⟨R, hR⟩ := WSpec_total s
        have hw1 := fun W => words_any (w := W) (s := s) (by omega) hR
        go_enter Tryz.func3, Tryz.ntmps3
        go_wp2
        go_loop [5] (fun x5 => ∃ i : Nat, i ≤ s.size ∧ x5 = .int .i64 i ∧ Hid (∀ c ∈ s.data.toList.take i, c ≠ 35 ∧ c ≠ 34)) (fun x5 => s.size - (intOf x5).toNat)
        case atStart => exact ⟨0, Nat.zero_le _, rfl, Lib.hid (fun c hc => by simp at hc)⟩
        case round =>
          obtain ⟨i, hi, rfl, hno⟩ := hrel
          by_cases hlt : i < s.size
          · have hg := get_byte s i hlt
            have htk := Lib.hid (take_snoc hg)
            replace hg := Lib.hid hg
            have hw2 : IntKind.i64.wrap ((i : Int) + 1) = ((i + 1 : Nat) : Int) := (IntWalk.i64_in _ (by omega)).trans (by omega)
            by_cases h35 : s[i].toNat = 35
            · go_wp2_with (go_at_call 20; refine hlive0.mono ?_; rintro e w' ⟨rfl, bel⟩)
              go_ret
              exact ⟨rfl, bel⟩
            · by_cases h34 : s[i].toNat = 34
              · go_wp2_with (go_at_call 20; refine hlive0.mono ?_; rintro e w' ⟨rfl, bel⟩)
                go_ret
                exact ⟨rfl, bel⟩
              · have b35 : ((s[i].toNat : Int) == 35) = false := by simp; omega
                have b34 : ((s[i].toNat : Int) == 34) = false := by simp; omega
                go_wp2
                refine ⟨⟨i + 1, by omega, by congr 1, Lib.hid (fun c hc => ?_)⟩, by simp [intOf]; omega⟩
                rw [htk.out] at hc
                rcases List.mem_append.1 hc with hc | hc
                · exact hno.out c hc
                · simp at hc; subst hc
                  exact ⟨fun e => h35 (by rw [e]; rfl), fun e => h34 (by rw [e]; rfl)⟩
          · obtain rfl : i = s.size := by omega
            have hno2 : Hid (∀ c ∈ s.data.toList, c ≠ 35 ∧ c ≠ 34) := Lib.hid (fun c hc => hno.out c (by rw [List.take_of_length_le (by rw [len_data]; exact Nat.le_refl _)]; exact hc))
            clear hno
            go_wp2_with (go_at_call 21; refine (hw1 _).mono ?_; clear hw1; rintro e w1 ⟨v1, rfl, ho1, -, bel1⟩; obtain ⟨A1, c1, hv, -, -⟩ := own_slice ho1; subst hv; have ho1 := Lib.hid ho1)
            go_loop [8, 9] (fun x8 x9 => ∃ (j : Nat) (z : ByteArray), j ≤ m ∧ x8 = .string z ∧ x9 = .int .i64 j ∧ Hid (z.data.toList = List.replicate j 32)) (fun x8 x9 => m - (intOf x9).toNat)
            case atStart => exact ⟨0, ⟨#[]⟩, Nat.zero_le _, rfl, rfl, Lib.hid rfl⟩
            case round =>
              obtain ⟨j, z, hj, rfl, rfl, hz⟩ := hrel
              have hzs : z.size = j := by rw [← len_data, hz.out, List.length_replicate]
              by_cases hjm : j < m
              · have hL : ¬ 9223372036854775807 < z.size + 1 := by omega
                go_wp2
                refine ⟨⟨j + 1, z ++ ⟨#[32]⟩, by omega, rfl, by congr 1, Lib.hid (by rw [cat_list, hz.out, List.replicate_succ'])⟩, by simp [intOf]; omega⟩
              · obtain rfl : j = m := by omega
                obtain ⟨t, ht⟩ : ∃ t, z ++ s ++ ⟨#[32]⟩ ++ z ++ ⟨#[35, 32, 97, 110, 100, 32, 109, 111, 114, 101, 32, 34, 32, 104, 101, 114, 101]⟩ = t := ⟨_, rfl⟩
                obtain ⟨hts, hR2⟩ := note_spec hR (by omega) (by omega) hno2.out hz.out ht
                have hw2 := fun W => words_any (w := W) (s := t) (by omega) hR2
                have hrl := WSpec_len hR
                have hL1 : ¬ 9223372036854775807 < z.size + s.size := by omega
                have hL2 : ¬ 9223372036854775807 < z.size + s.size + 1 := by omega
                have hL3 : ¬ 9223372036854775807 < z.size + s.size + 1 + z.size := by omega
                have hL4 : ¬ 9223372036854775807 < z.size + s.size + 1 + z.size + 17 := by omega
                have hLs := fun (a b : ByteArray) => cat_size a b
                go_wp2_with (first
                  | (go_at_call 21; go_loud (refine (hw2 _).mono ?_; clear hw2; rintro e w2 ⟨v2, rfl, ho2, -, bel2⟩; obtain ⟨A2, c2, hv, -, -⟩ := own_slice ho2; subst hv; have ho2 := Lib.hid ho2))
                  | (go_at_call 22; refine (texts_own (by omega) (own_below ho1.out bel2 (own_lt ho1.out)) ho2.out rfl rfl).mono ?_; rintro e w3 ⟨rfl, bel3⟩; have bel13 := (bel1.trans (bel2.mono bel1.size)).trans (bel3.mono (Nat.le_trans bel1.size bel2.size)))
                  | (go_at_call 23; refine errnum_any.mono ?_; rintro e w4 ⟨rfl, rfl⟩)
                  | (go_at_call 20; refine (hlive bel13).mono ?_; rintro e w5 ⟨rfl, bel⟩))
                go_ret
                exact ⟨rfl, bel⟩
section
open Go.ChangeShapes Go.WideShapes Go.ChangeAt Go.RowKit
theorem envc_of5 {W : World} (hsh : W.ShapedOpen Tryz.prog) (hL : laidMetH Tryz.prog Rows.wordsCommentsRow.laid W) : EnvC W := by
  rw [MakeChecks.laidMetH_plain _ _ _ (by kernel_rfl)] at hL
  obtain ⟨m, hm⟩ := cell_of_shapedOpen_int (g := 0) (zero := #[.int .i64 0]) (t := 3) hsh (of_decide_eq_true (by kernel_rfl)) (by kernel_rfl) rfl (by kernel_rfl) (by kernel_rfl) Tryz.underlying3
  have h1 := hL.tail
  have h2 := h1.tail
  have h4 := h2.tail
  have h5 := h4.tail
  have t64 : Lib.TabIs Tryz.prog W "math/bits.deBruijn64tab" .u8 bruijn := Lib.tabIs_of_head (g := 7) (t := 382) (e := 5) (n := 64) (by kernel_rfl) (by kernel_rfl) Tryz.underlying382 Tryz.underlying5 c5' (by kernel_rfl) h1
  have tp : Lib.TabIs Tryz.prog W "internal/strconv.uint64pow10" .u64 Lib.pow10Tab := Lib.tabIs_of_head (g := 3) (t := 324) (e := 161) (n := 20) (by kernel_rfl) (by kernel_rfl) Tryz.underlying324 Tryz.underlying161 (by kernel_rfl) (by kernel_rfl) h2
  obtain ⟨a1, s1, v1, -, -, -⟩ := laid_sentinel h4 (g := 2) (ti := 158) (by kernel_rfl) (by kernel_rfl) Tryz.underlying158 row354 Tryz.underlying354 Tryz.underlying356 rfl rfl Tryz.underlying9 c356 c9'
  obtain ⟨a2, s2, v2, -, -, -⟩ := laid_sentinel h5 (g := 1) (ti := 158) (by kernel_rfl) (by kernel_rfl) Tryz.underlying158 row354 Tryz.underlying354 Tryz.underlying356 rfl rfl Tryz.underlying9 c356 c9'
  have c1 := World.var?_cell (show Tryz.prog.globalNamed "strconv.ErrRange" = some 2 by kernel_rfl) v1 0
  have c2 := World.var?_cell (show Tryz.prog.globalNamed "strconv.ErrSyntax" = some 1 by kernel_rfl) v2 0
  exact ⟨⟨m, hm⟩, ⟨_, by simpa using c2, .inr ⟨_, _, rfl⟩⟩, ⟨_, by simpa using c1, .inr ⟨_, _, rfl⟩⟩, tp, by have := t64.cell (show Tryz.prog.globalNamed "math/bits.deBruijn64tab" = some 7 by kernel_rfl) 15 (by decide); simpa [bruijn] using this⟩
theorem env_of5 {W : World} (hsh : W.ShapedOpen Tryz.prog) (hL : laidMetH Tryz.prog Rows.wordsCommentsRow.laid W) : Env W := (envc_of5 hsh hL).env
end
end Go.Proofs.YtnljjlaececnkaaGreatDoor
