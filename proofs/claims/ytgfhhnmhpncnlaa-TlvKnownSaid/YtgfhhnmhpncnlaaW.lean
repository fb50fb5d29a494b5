/-
  huge, Same. Condition: lists of pieces are read.
-/
import Derived.Test.YtgfhhnmhpncnlaaPL
import Derived.Test.YtgfhhnmhpncnlaaQ
namespace Go.Proofs.Ytgfhhnmhpncnlaa
open Go.RowKit
set_option linter.unusedVariables false
set_option linter.unusedSimpArgs false

/-- The bytes of the pieces together. -/
def sumL (rs : List (Int × List Int)) : Nat := (rs.map fun r => r.2.length).sum
theorem sumL_snoc (rs : List (Int × List Int)) (j : Nat) (h : j < rs.length) : sumL (rs.take (j + 1)) = sumL (rs.take j) + (rs[j]).2.length := by
  unfold sumL
  rw [List.take_succ_eq_append_getElem h, List.map_append, List.sum_append]; simp

set_option maxRecDepth 100000 in
set_option maxHeartbeats 3200000 in
theorem huge_any {w : World} {S : Nat → Prop} {x : Value} {rs : List (Int × List Int)} (h : RawsB w S x rs) (hb : ∀ r ∈ rs, r.2.length ≤ 140737488351232) :
    Calls Try.prog 43 #[x] w fun e w' => ∃ v : Bool, e = .returned (.bool v) ∧ w' = w ∧ (v = false → rs.length ≤ 300 ∧ sumL rs ≤ 70000) := by
  obtain ⟨A, c, rfl, hmx, hat⟩ := h.at_
  have hb := Lib.hid hb
  have hat := Lib.hid hat
  go_enter Try.func43, Try.ntmps43
  go_upto_block 0 with fail
  go_cut [3, 4] (fun s i W => w = W ∧ ∃ t : Nat, s = .int .i64 t ∧ Hid (300 < rs.length ∨ t = sumL rs))
  case first =>
    go_wp2_with fail
    go_loopw [3, 4] (fun s i wr => wr = w ∧ ∃ j t : Nat, j ≤ rs.length ∧ j ≤ 301 ∧ i = .int .i64 j ∧ s = .int .i64 t ∧ Hid (t = sumL (rs.take j)) ∧ t ≤ 140737488351232 * j) (fun _ i _ => rs.length - (intOf i).toNat)
    case atStart => exact ⟨rfl, 0, 0, Nat.zero_le _, by omega, rfl, rfl, Lib.hid (by simp [sumL]), by omega⟩
    case round =>
      obtain ⟨rfl, j, t, hj, hj2, rfl, rfl, ht, hbt⟩ := hrel
      by_cases hlt : j < rs.length
      · have e1 : decide (j < rs.length) = true := decide_eq_true hlt
        by_cases h60 : j ≤ 300
        · have e2 : decide (j ≤ 300) = true := decide_eq_true h60
          obtain ⟨b, o, u, rfl, p1, p2, p3, p4, p5⟩ := hat.out j hlt
          have hL := hb.out _ (List.getElem_mem hlt)
          have hs := Lib.hid (sumL_snoc rs j hlt)
          generalize rs[j] = y at *
          obtain ⟨ty, l⟩ := y
          obtain ⟨A5, c5, rfl, -⟩ := id p5
          have hw2 : IntKind.i64.wrap ((t : Int) + l.length) = (t : Int) + l.length := IntWalk.i64_in _ (by simp only at hL; omega)
          go_wp2_with fail
          go_roundw
          case rel => exact ⟨by first | rfl | trivial, j + 1, t + l.length, by omega, by omega, by go_num, by simp, Lib.hid (by rw [ht.out, hs.out]), by simp only at hL; omega⟩
          case measure => simp [intOf]; omega
        · have e2 : decide (j ≤ 300) = false := decide_eq_false h60
          go_wp2_with fail
          go_meet
          exact ⟨rfl, t, rfl, Lib.hid (.inl (by omega))⟩
      · have e1 : decide (j < rs.length) = false := decide_eq_false hlt
        obtain rfl : j = rs.length := by omega
        go_wp2_with fail
        go_meet
        exact ⟨rfl, t, rfl, Lib.hid (.inr (by rw [ht.out, List.take_length]))⟩
  case rest =>
    obtain ⟨rfl, t, rfl, ht⟩ := hcut
    by_cases k1 : 300 < rs.length
    · have e1 : decide (300 < rs.length) = true := decide_eq_true k1
      go_wp2_with fail
      go_ret
      first | exact ⟨_, rfl, rfl, fun h => by cases h⟩ | exact ⟨_, rfl, rfl, fun h => by simp at h; omega⟩ | exact .inr ⟨rfl, rfl⟩
    · have e1 : decide (300 < rs.length) = false := decide_eq_false k1
      have hT := ht.out.resolve_left k1
      by_cases k2 : 70000 < t
      · have e2 : decide (70000 < t) = true := decide_eq_true k2
        go_wp2_with fail
        go_ret
        first | exact ⟨_, rfl, rfl, fun h => by cases h⟩ | exact ⟨_, rfl, rfl, fun h => by simp at h; omega⟩ | exact .inr ⟨rfl, rfl⟩
      · have e2 : decide (70000 < t) = false := decide_eq_false k2
        have hT := Lib.hid hT
        go_wp2_with fail
        go_ret
        first | exact ⟨_, rfl, rfl, fun h => ⟨by omega, by rw [← hT.out]; omega⟩⟩ | exact .inl ⟨rfl, rfl, by omega, by rw [← hT.out]; omega⟩
end Go.Proofs.Ytgfhhnmhpncnlaa
