/-
  The lively example of the audit statements. No condition.
-/
import Derived.Test.YteopnaacmpcbnaaE
import Derived.Test.YteopnaacmpcbnaaH
namespace Go.Proofs.Yteopnaacmpcbnaa
open Go.RowKit
set_option linter.unusedVariables false
set_option linter.unusedSimpArgs false

theorem wit1 : LoopR [1, 2, 0] [0, 1, 2] true := .inl ⟨0, by decide, ⟨0, by simp [Path], by decide, .inl ⟨by decide, rfl⟩⟩, by decide, rfl, fun j hj => by omega⟩
theorem wit2 : LoopR [1, -1] [] false := .inr ⟨rfl, rfl, fun j hj => by
  have h0 : ChainR [1, -1] 0 [0, 1] true := ⟨-1, by simp [Path], by decide, .inr ⟨by decide, rfl⟩⟩
  have h1 : ChainR [1, -1] 1 [1] true := ⟨-1, by simp [Path], by decide, .inr ⟨by decide, rfl⟩⟩
  rintro ⟨l, h, -⟩
  match j, hj with
  | 0, _ => have := (h.unique h0).2; cases this
  | 1, _ => have := (h.unique h1).2; cases this⟩
theorem wit3 : ChainR [1, 2, 1] 0 [0, 1, 2] false := ⟨1, by simp [Path], by decide, .inl ⟨by decide, rfl⟩⟩
theorem wit4 : (prs 3 [(0, 0, 5), (2, 1, 5)]).1 = [0, 1, 0] := by decide
/-- A literal of whole numbers. -/
theorem lit_ri (w : World) (l : List Int) (n : Nat) (hn : l.length = n) (h : n ≤ 1000) : Row (w.alloc (.cells (nums .i64 l).toArray 3)) (fun b => (w.alloc (.cells (nums .i64 l).toArray 3)).heap.size ≤ b) 1 (.slice (some ⟨w.heap.size, 0, none⟩) n n) l.length (nums .i64 l) := by
  subst hn
  exact own_old (own_lit w 3 1 l.length (nums .i64 l) (by rw [nums_length, Nat.mul_one]) (by omega))
theorem alloc_below (w : World) (o : Obj) : Below w.heap.size w (w.alloc o) := (Below.refl _ _).alloc (Nat.le_refl _) _
set_option maxRecDepth 100000 in
set_option maxHeartbeats 3200000 in
theorem live_any (w : World) : Calls Try.prog 7 #[] w fun e w' => e = .returned (.bool true) ∧ Below w.heap.size w w' := by
  have H : Calls Try.prog 8 #[.slice (some ⟨w.heap.size, 0, none⟩) 3 3] (w.alloc (.cells #[.int .i64 1, .int .i64 2, .int .i64 0] 3)) _ := Loop_any (lit_ri w [1, 2, 0] 3 rfl (by decide)) (by decide)
  have B0 := alloc_below w (.cells #[.int .i64 1, .int .i64 2, .int .i64 0] 3)
  go_enter Try.func7, Try.ntmps7
  go_wp2_with fail
  refine H.mono ?_
  rintro e w1 ⟨l1, b1, v1, rfl, h1, o1, lo1, bel1⟩
  obtain ⟨rfl, rfl⟩ := h1.unique wit1
  have B1 := B0.trans (bel1.mono B0.size)
  have q1 := own_old o1
  clear H h1 o1 lo1 bel1 B0
  have H : Calls Try.prog 8 #[.slice (some ⟨w1.heap.size, 0, none⟩) 2 2] (w1.alloc (.cells #[.int .i64 1, .int .i64 (-1)] 3)) _ := Loop_any (lit_ri w1 [1, -1] 2 rfl (by decide)) (by decide)
  have A1 := alloc_below w1 (.cells #[.int .i64 1, .int .i64 (-1)] 3)
  go_wp2_with fail
  refine H.mono ?_
  rintro e w2 ⟨l2, b2, v2, rfl, h2, o2, lo2, bel2⟩
  obtain ⟨rfl, rfl⟩ := h2.unique wit2
  have D2 := A1.trans (bel2.mono A1.size)
  have q1 := q1.later D2
  have B2 := B1.trans (D2.mono B1.size)
  have s12 := D2.size
  clear H h2 o2 lo2 bel2 A1 D2 B1
  have H : Calls Try.prog 10 #[.int .i64 0, .slice (some ⟨w2.heap.size, 0, none⟩) 3 3] (w2.alloc (.cells #[.int .i64 1, .int .i64 2, .int .i64 1] 3)) _ := Chain_any (lit_ri w2 [1, 2, 1] 3 rfl (by decide)) 0 (by decide)
  have A1 := alloc_below w2 (.cells #[.int .i64 1, .int .i64 2, .int .i64 1] 3)
  go_wp2_with fail
  refine H.mono ?_
  rintro e w3 ⟨l3, b3, v3, rfl, h3, o3, lo3, bel3⟩
  obtain ⟨rfl, rfl⟩ := h3.unique wit3
  have D3 := A1.trans (bel3.mono A1.size)
  have q1 := q1.later (D3.mono s12)
  have q3 := own_old o3
  have B3 := B2.trans (D3.mono B2.size)
  have s13 := Nat.le_trans s12 D3.size
  clear H h3 o3 lo3 bel3 A1 D3 B2 s12
  have hw : Rw (w3.alloc (.cells #[.int .i64 0, .int .i64 0, .int .i64 5, .int .i64 2, .int .i64 1, .int .i64 5] 36)) (fun b => (w3.alloc (.cells #[.int .i64 0, .int .i64 0, .int .i64 5, .int .i64 2, .int .i64 1, .int .i64 5] 36)).heap.size ≤ b) (.slice (some ⟨w3.heap.size, 0, none⟩) 2 2) [(0, 0, 5), (2, 1, 5)] :=
    own_old (own_lit w3 36 3 2 (wcs [(0, 0, 5), (2, 1, 5)]) rfl (by decide))
  have H : Calls Try.prog 13 #[.int .i64 3, .slice (some ⟨w3.heap.size, 0, none⟩) 2 2] (w3.alloc (.cells #[.int .i64 0, .int .i64 0, .int .i64 5, .int .i64 2, .int .i64 1, .int .i64 5] 36)) _ :=
    Parts_ok hw (by intro x hx; simp at hx; rcases hx with rfl | rfl <;> exact ⟨rfl, rfl, rfl⟩) (by decide) 3 (by decide) (by decide)
  have A1 := alloc_below w3 (.cells #[.int .i64 0, .int .i64 0, .int .i64 5, .int .i64 2, .int .i64 1, .int .i64 5] 36)
  clear hw
  go_wp2_with fail
  refine H.mono ?_
  rintro e w4 ⟨v4, rfl, o4, lo4, bel4⟩
  rw [wit4] at o4
  have D4 := A1.trans (bel4.mono A1.size)
  have q1 := q1.later (D4.mono s13)
  have q3 := q3.later D4
  have q4 := own_old o4
  have B4 := B3.trans (D4.mono B3.size)
  have s14 := Nat.le_trans s13 D4.size
  have s34 := D4.size
  clear H o4 lo4 bel4 A1 D4 B3 s13
  have A1 := alloc_below w4 (.cells #[.int .i64 0, .int .i64 1, .int .i64 2] 3)
  have H : Calls Try.prog 12 #[v1, .slice (some ⟨w4.heap.size, 0, none⟩) 3 3] (w4.alloc (.cells #[.int .i64 0, .int .i64 1, .int .i64 2] 3)) _ := Ints_any (q1.later (A1.mono s14)) (lit_ri w4 [0, 1, 2] 3 rfl (by decide))
  go_wp2_with fail
  refine H.mono ?_
  rintro e w5 ⟨rfl, n5, hw5⟩
  have D5 : Below w4.heap.size w4 w5 := by rw [hw5]; exact below_drewN A1 n5
  have q3 := q3.later (D5.mono s34)
  have q4 := q4.later D5
  have B5 := B4.trans (D5.mono B4.size)
  have s35 := Nat.le_trans s34 D5.size
  have s45 := D5.size
  clear H A1 D5 B4 hw5 q1 s14 s34
  have A1 := alloc_below w5 (.cells #[.int .i64 0, .int .i64 1, .int .i64 2] 3)
  have H : Calls Try.prog 12 #[v3, .slice (some ⟨w5.heap.size, 0, none⟩) 3 3] (w5.alloc (.cells #[.int .i64 0, .int .i64 1, .int .i64 2] 3)) _ := Ints_any (q3.later (A1.mono s35)) (lit_ri w5 [0, 1, 2] 3 rfl (by decide))
  try rw [show decide (([0, 1, 2] : List Int) = [0, 1, 2]) = true from by decide]
  go_wp2_with fail
  refine H.mono ?_
  rintro e w6 ⟨rfl, n6, hw6⟩
  have D6 : Below w5.heap.size w5 w6 := by rw [hw6]; exact below_drewN A1 n6
  have q4 := q4.later (D6.mono s45)
  have B6 := B5.trans (D6.mono B5.size)
  have s46 := Nat.le_trans s45 D6.size
  clear H A1 D6 B5 hw6 q3 s45 s35
  have A1 := alloc_below w6 (.cells #[.int .i64 0, .int .i64 1, .int .i64 0] 3)
  have H : Calls Try.prog 12 #[v4, .slice (some ⟨w6.heap.size, 0, none⟩) 3 3] (w6.alloc (.cells #[.int .i64 0, .int .i64 1, .int .i64 0] 3)) _ := Ints_any (l := [0, 1, 0]) (q4.later (A1.mono s46)) (lit_ri w6 [0, 1, 0] 3 rfl (by decide))
  try rw [show decide (([0, 1, 2] : List Int) = [0, 1, 2]) = true from by decide]
  go_wp2_with fail
  refine H.mono ?_
  rintro e w7 ⟨rfl, n7, hw7⟩
  have D7 : Below w6.heap.size w6 w7 := by rw [hw7]; exact below_drewN A1 n7
  have B7 := B6.trans (D7.mono B6.size)
  try rw [show decide (([0, 1, 0] : List Int) = [0, 1, 0]) = true from by decide]
  clear H A1 D7 B6 hw7 q4
  go_wp2_with fail
  go_ret
  exact ⟨rfl, B7⟩
end Go.Proofs.Yteopnaacmpcbnaa
