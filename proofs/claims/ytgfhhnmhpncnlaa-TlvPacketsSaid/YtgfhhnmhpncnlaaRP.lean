/-
  The reference's Packet. Condition: what comes in is a slice of bytes of less than 2^47.
-/
import Derived.Test.YtgfhhnmhpncnlaaT
namespace Go.Proofs.Ytgfhhnmhpncnlaa
open Go.RowKit
set_option linter.unusedVariables false
set_option linter.unusedSimpArgs false
set_option maxHeartbeats 1600000 in
theorem RPacket_any {w : World} {S : Nat → Prop} {x : Value} {l : List Int} (h : Bs w S x l) (hl : l.length ≤ 140737488355000) :
    Calls Try.prog 39 #[x] w fun e w' => ∃ v', e = .returned (.tuple #[v', .int .i64 (pkt l).2]) ∧ Ob w' v' (pkt l).1 ∧ Lo w.heap.size v' ∧ Below w.heap.size w w' := by
  obtain ⟨A, c, rfl, -⟩ := id h
  by_cases hc : 65535 < l.length
  · have e0 : pkt l = ([], 1) := by unfold pkt; rw [if_pos hc]
    rw [e0]
    clear e0
    go_enter Try.func39, Try.ntmps39
    go_wp2
    go_ret2
    exact ⟨_, rfl, Ob.nil _, Lo.nil _, Below.refl _ _⟩
  · have e0 : pkt l = (42 :: 2 :: (putL l.length 2 ++ l), 0) := by unfold pkt; rw [if_neg hc]
    rw [e0]
    clear e0
    have g := h.out
    clear h
    have w1 : IntKind.u8.wrap (l.length : Int) = (l.length : Int) % 256 := by rw [IntKind.wrap_u8]
    have w2 : IntKind.u8.wrap ((l.length : Int) / 256) = (l.length : Int) / 256 % 256 := by rw [IntKind.wrap_u8]
    go_enter Try.func39, Try.ntmps39
    have hq : (0 : Int) ≤ (l.length : Int) / 256 % 256 ∧ (l.length : Int) / 256 % 256 < 256 ∧ (0 : Int) ≤ (l.length : Int) % 256 ∧ (l.length : Int) % 256 < 256 := by omega
    have ho := Ob.lit w [42, 2, (l.length : Int) / 256 % 256, (l.length : Int) % 256] (by intro x hx; simp at hx; omega) (by simp)
    have hal : Fr (fun _ => False) w (w.alloc (.cells #[.int .u8 42, .int .u8 2, .int .u8 ((l.length : Int) / 256 % 256), .int .u8 ((l.length : Int) % 256)] 5)) := (Fr.refl _ w).alloc _
    have g1 := g.fr hal (fun _ _ h => h.elim)
    have lo : Lo w.heap.size (.slice (some ⟨w.heap.size, 0, none⟩) 4 4) := fun b hb => by cases hb; exact Nat.le_refl _
    have b0 : Below w.heap.size w (w.alloc (.cells #[.int .u8 42, .int .u8 2, .int .u8 ((l.length : Int) / 256 % 256), .int .u8 ((l.length : Int) % 256)] 5)) := (Below.refl _ w).alloc (Nat.le_refl _) _
    go_wp2_with (at_builtin; go_loud (refine wpList_appB rfl (.tmp 14) (.tmp 15) rfl rfl ho rfl g1 (by simp; omega) ?_); intro v' w1 o1 n1 f1)
    go_ret2
    refine ⟨_, rfl, ?_, lo.next n1 b0.size, b0.trans (f1.belowB lo b0.size)⟩
    have e : [42, 2, (l.length : Int) / 256 % 256, (l.length : Int) % 256] ++ l = 42 :: 2 :: (putL l.length 2 ++ l) := by simp [putL]
    rw [← e]
    exact o1
end Go.Proofs.Ytgfhhnmhpncnlaa
