/-
  AuditTells' walk: it returns true. No condition.
-/
import Derived.Test.YteopnaacmpcbnaaJ
namespace Go.Proofs.Yteopnaacmpcbnaa
open Go.RowKit
set_option linter.unusedVariables false
set_option linter.unusedSimpArgs false

set_option maxRecDepth 100000 in
set_option maxHeartbeats 3200000 in
theorem AuditTells_walk (v0 : Value) (l0 : List Int) (a1 a2 : Int) (v3 : Value) (l3 : List Wire) {w : World}
    (h0 : Row w (fun _ => False) 1 v0 l0.length (nums .i64 l0)) (f0 : ∀ x ∈ l0, (Lit.int .i64 x).wf = true) (y0 : l0.length * 8 ≤ 140737488351232) (f1 : (Lit.int .i64 a1).wf = true) (f2 : (Lit.int .i64 a2).wf = true)
    (h3 : Rw w (fun _ => False) v3 l3 ∧ ∀ x ∈ l3, wfW x) (w' : World) (hw : w' = w) :
    Calls Try.prog 3 #[v0, .int .i64 a1, .int .i64 a2, v3] w' fun e w' => e = .returned (.bool true) ∧ Below w.heap.size w w' := by
  subst hw
  have g0 := h0.out
  have g3 := h3.1.out
  have hw3 := Lib.hid h3.2
  obtain ⟨A0, c0, rfl, k0, k1⟩ := h0.head
  obtain ⟨A3, c3, rfl, k2, k3⟩ := h3.1.head
  clear h0 h3 f0 f1 f2
  by_cases d0 : 60 < l0.length
  · have e0 : decide (60 < l0.length) = true := decide_eq_true d0
    go_enter Try.func3, Try.ntmps3
    go_wp2_with (go_at_call 7; refine (live_any _).mono ?_; rintro e w1 ⟨rfl, hf⟩)
    go_ret
    exact ⟨rfl, hf⟩
  have e0 : decide (60 < l0.length) = false := decide_eq_false d0
  by_cases d1 : 60 < l3.length
  · have e1 : decide (60 < l3.length) = true := decide_eq_true d1
    go_enter Try.func3, Try.ntmps3
    go_wp2_with (go_at_call 7; refine (live_any _).mono ?_; rintro e w1 ⟨rfl, hf⟩)
    go_ret
    exact ⟨rfl, hf⟩
  have e1 : decide (60 < l3.length) = false := decide_eq_false d1
  go_enter Try.func3, Try.ntmps3
  go_wp2_with (at_builtin; refine wpList_clone rfl (.tmp 27) (.tmp 28) 22 rfl Try.underlying22 Try.info3 rfl (by decide) (by decide) rfl rfl g0 (nums_one _ _) (by omega) ?_; intro v4 w1 o4 lo4 b1)
  clear e0 e1
  have g0 := g0.later b1
  have g3 := g3.later b1
  obtain ⟨A4, c4, rfl, -, -⟩ := own_slice o4
  have s1 := b1.size
  have H := Loop_any (own_old o4) (by omega)
  clear o4 lo4
  go_wp2_with fail
  refine H.mono ?_
  rintro e w2 ⟨L, B, v5, rfl, hL, o5, lo5, b2⟩
  have C2 := b1.trans (b2.mono s1)
  have g0 := g0.later (b2.mono s1)
  have g3 := g3.later (b2.mono s1)
  have q5 := own_old o5
  have s2 := C2.size
  obtain ⟨A5, c5, rfl, -, -⟩ := own_slice o5
  have hLl := hL.len
  replace hL := Lib.hid hL
  clear H o5 lo5 b1 b2 s1
  have H := RLoop_any (g0.fresh s2) (by omega)
  go_wp2_with fail
  refine H.mono ?_
  rintro e w3 ⟨L', B', v6, rfl, hL', o6, lo6, b3⟩
  obtain ⟨rfl, rfl⟩ := hL'.unique hL.out
  have C3 := C2.trans (b3.mono s2)
  have g0 := g0.later (b3.mono s2)
  have g3 := g3.later (b3.mono s2)
  have q5 := q5.later b3
  have q6 := own_old o6
  have s3 := C3.size
  have s23 := b3.size
  obtain ⟨A6, c6, rfl, -, -⟩ := own_slice o6
  clear H o6 lo6 b3 hL' hL
  go_wp2_with (at_builtin; refine wpList_clone rfl (.tmp 40) (.tmp 41) 22 rfl Try.underlying22 Try.info3 rfl (by decide) (by decide) rfl rfl g0 (nums_one _ _) (by omega) ?_; intro v7 w4 o7 lo7 b4)
  have C4 := C3.trans (b4.mono s3)
  have g0 := g0.later (b4.mono s3)
  have g3 := g3.later (b4.mono s3)
  have q5 := q5.later (b4.mono s23)
  have q6 := q6.later b4
  have s4 := C4.size
  have s34 := b4.size
  obtain ⟨A7, c7, rfl, -, -⟩ := own_slice o7
  have H := Chain_any (own_old o7) a1 (by omega)
  clear o7 lo7 b4
  go_wp2_with fail
  refine H.mono ?_
  rintro e w5 ⟨L2, B2, v8, rfl, hM, o8, lo8, b5⟩
  have C5 := C4.trans (b5.mono s4)
  have g0 := g0.later (b5.mono s4)
  have g3 := g3.later (b5.mono s4)
  have q5 := q5.later (b5.mono (Nat.le_trans s23 s34))
  have q6 := q6.later (b5.mono s34)
  have q8 := own_old o8
  have s5 := C5.size
  have s45 := b5.size
  obtain ⟨A8, c8, rfl, -, -⟩ := own_slice o8
  have hMl := hM.len
  replace hM := Lib.hid hM
  clear H o8 lo8 b5
  have H := RChain_any (g0.fresh s5) a1 (by omega)
  go_wp2_with fail
  refine H.mono ?_
  rintro e w6 ⟨L3, B3, v9, rfl, hM', o9, lo9, b6⟩
  obtain ⟨rfl, rfl⟩ := hM'.unique hM.out
  have C6 := C5.trans (b6.mono s5)
  have g3 := g3.later (b6.mono s5)
  have q5 := q5.later (b6.mono (Nat.le_trans s23 (Nat.le_trans s34 s45)))
  have q6 := q6.later (b6.mono (Nat.le_trans s34 s45))
  have q8 := q8.later b6
  have q9 := own_old o9
  have s6 := C6.size
  have s56 := b6.size
  obtain ⟨A9, c9, rfl, -, -⟩ := own_slice o9
  clear H o9 lo9 b6 hM' hM g0
  have H := Ints_any q5 q6
  rw [decide_eq_true rfl] at H
  go_wp2_with fail
  refine H.mono ?_
  rintro e w7 ⟨rfl, n7, hw7⟩
  have D7 : Below w6.heap.size w6 w7 := by rw [hw7]; exact below_drewN (Below.refl _ _) n7
  have C7 := C6.trans (D7.mono s6)
  have g3 := g3.later (D7.mono s6)
  have q8 := q8.later (D7.mono s56)
  have q9 := q9.later D7
  have s7 := C7.size
  have s67 := D7.size
  clear H D7 q5 q6 hw7
  have H := Ints_any q8 q9
  rw [decide_eq_true rfl] at H
  have eb1 : (B' == B') = true := by simp
  have eb3 : (B3 == B3) = true := by simp
  go_wp2_with fail
  refine H.mono ?_
  rintro e w8 ⟨rfl, n8, hw8⟩
  have D8 : Below w7.heap.size w7 w8 := by rw [hw8]; exact below_drewN (Below.refl _ _) n8
  have C8 := C7.trans (D8.mono s7)
  have g3 := g3.later (D8.mono s7)
  have s8 := C8.size
  clear H D8 q8 q9 hw8
  have H := Parts_any (g3.fresh s8) hw3.out (by omega) a2
  go_wp2_with fail
  refine H.mono ?_
  rintro e w9 ⟨v10, rfl, o10, lo10, b9⟩
  have C9 := C8.trans (b9.mono s8)
  have g3 := g3.later (b9.mono s8)
  have q10 := own_old o10
  have s9 := C9.size
  clear H o10 lo10 b9
  have H := RParts_any (g3.fresh s9) (by omega) a2
  go_wp2_with fail
  refine H.mono ?_
  rintro e w10 ⟨v11, rfl, o11, lo11, b10⟩
  have C10 := C9.trans (b10.mono s9)
  have q10 := q10.later b10
  have q11 := own_old o11
  have s10 := C10.size
  clear H o11 lo11 b10 g3
  have H := Ints_any q10 q11
  rw [decide_eq_true rfl] at H
  go_wp2_with fail
  refine H.mono ?_
  rintro e w11 ⟨rfl, n11, hw11⟩
  have C11 : Below w'.heap.size w' w11 := by rw [hw11]; exact below_drewN C10 n11
  clear H hw11 q10 q11
  go_wp2_with (go_at_call 7; refine (live_any _).mono ?_; rintro e w12 ⟨rfl, hf⟩)
  go_ret
  exact ⟨rfl, C11.trans (hf.mono C11.size)⟩
end Go.Proofs.Yteopnaacmpcbnaa
