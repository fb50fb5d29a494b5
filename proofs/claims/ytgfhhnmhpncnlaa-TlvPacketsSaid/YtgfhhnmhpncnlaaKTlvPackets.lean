/-
  TlvPackets' walk: it returns true. No condition.
-/
import Derived.Test.YtgfhhnmhpncnlaaY
import Derived.Test.YtgfhhnmhpncnlaaRO
namespace Go.Proofs.Ytgfhhnmhpncnlaa
open Go.RowKit
set_option linter.unusedVariables false
set_option linter.unusedSimpArgs false

set_option maxRecDepth 100000 in
set_option maxHeartbeats 3200000 in
theorem TlvPackets_walk (v0 : Value) (l0 : List Int) (v1 : Value) (l1 : List Int) {w : World}
    (h0 : Row w (fun _ => False) 1 v0 l0.length (nums .u8 l0)) (f0 : ∀ x ∈ l0, (Lit.int .u8 x).wf = true) (y0 : l0.length * 1 ≤ 140737488351232)
    (h1 : Row w (fun _ => False) 1 v1 l1.length (nums .u8 l1)) (f1 : ∀ x ∈ l1, (Lit.int .u8 x).wf = true) (y1 : l1.length * 1 ≤ 140737488351232) (w' : World) (hw : w' = w) :
    Calls Try.prog 9 #[v0, v1] w' fun e w' => e = .returned (.bool true) ∧ Below w.heap.size w w' := by
  subst hw
  have g0 := (bs_of_row h0 f0).out
  have g1 := (bs_of_row h1 f1).out
  obtain ⟨A0, c0, rfl, -⟩ := h0.head
  obtain ⟨A1, c1, rfl, -⟩ := h1.head
  clear h0 h1 f0 f1
  by_cases d0 : 70000 < l0.length
  · have e0 : decide (70000 < l0.length) = true := decide_eq_true d0
    go_enter Try.func9, Try.ntmps9
    go_wp2_with (go_at_call 37; refine (live5_any _).mono ?_; rintro e w1 ⟨rfl, hf⟩)
    go_ret
    exact ⟨rfl, hf⟩
  have e0 : decide (70000 < l0.length) = false := decide_eq_false d0
  by_cases d1 : 70000 < l1.length
  · have e1 : decide (70000 < l1.length) = true := decide_eq_true d1
    go_enter Try.func9, Try.ntmps9
    go_wp2_with (go_at_call 37; refine (live5_any _).mono ?_; rintro e w1 ⟨rfl, hf⟩)
    go_ret
    exact ⟨rfl, hf⟩
  have e1 : decide (70000 < l1.length) = false := decide_eq_false d1
  obtain ⟨⟨P1, P2⟩, hP⟩ : ∃ q, pkt l0 = q := ⟨_, rfl⟩
  obtain ⟨⟨O1, O2, O3⟩, hO⟩ : ∃ q, opn l1 = q := ⟨_, rfl⟩
  have hP := Lib.hid hP
  have hO := Lib.hid hO
  have hl0 : l0.length ≤ 140737488355000 := by omega
  have hl1 : l1.length ≤ 140737488355000 := by omega
  have hl0 := Lib.hid hl0
  have hl1 := Lib.hid hl1
  go_enter Try.func9, Try.ntmps9
  go_wp2_with (at_builtin; refine wpList_cloneB rfl (.tmp 25) (.tmp 26) rfl rfl rfl g0 (Nat.le_trans hl0.out (by decide)) ?_; intro x1 w1 o1 lo1 b1)
  have HP := Packet_any (o1.bs (S := fun _ => False) (fun _ _ h => h)) hl0.out
  rw [hP.out] at HP
  refine HP.mono ?_
  rintro e w2 ⟨v5, rfl, o2, lo2, b2⟩
  have B2 := b1.trans (b2.mono b1.size)
  have o2 : Ob w2 v5 P1 := o2
  have q2 := o2.old
  have g0 := g0.later B2
  have g1 := g1.later B2
  clear HP o1 lo1 b1 b2 lo2 o2
  have HR := RPacket_any g0 hl0.out
  rw [hP.out] at HR
  go_wp2_with fail
  refine HR.mono ?_
  rintro e w3 ⟨v7, rfl, o3, lo3, b3⟩
  have o3 : Ob w3 v7 P1 := o3
  have q3 := o3.old
  have q2 := q2.later b3
  have B3 := B2.trans (b3.mono B2.size)
  have g1 := g1.later (b3.mono B2.size)
  have s3 := b3.size
  clear HR o3 lo3 b3 g0
  go_wp2_with (at_builtin; refine wpList_cloneB rfl (.tmp 37) (.tmp 38) rfl rfl rfl g1 (Nat.le_trans hl1.out (by decide)) ?_; intro x4 w4 o4 lo4 b4)
  have HO := Open_any (o4.bs (S := fun _ => False) (fun _ _ h => h)) hl1.out
  rw [hO.out] at HO
  refine HO.mono ?_
  rintro e w5 ⟨v9, v10, rfl, q9, q10, b5⟩
  have q9 : Bs w5 (fun b => w5.heap.size ≤ b) v9 O1 := q9
  have q10 : Bs w5 (fun b => w5.heap.size ≤ b) v10 O2 := q10
  have b35 := b4.trans (b5.mono b4.size)
  have B5 := B3.trans (b35.mono B3.size)
  have q3 := q3.later b35
  have q2 := q2.later (b35.mono s3)
  have g1 := g1.later (b35.mono B3.size)
  have s35 := b35.size
  clear HO o4 lo4 b4 b5 b35
  have HR := ROpen_any g1 hl1.out
  rw [hO.out] at HR
  go_wp2_with fail
  refine HR.mono ?_
  rintro e w6 ⟨v12, v13, rfl, q12, q13, b6⟩
  have q12 : Bs w6 (fun b => w6.heap.size ≤ b) v12 O1 := q12
  have q13 : Bs w6 (fun b => w6.heap.size ≤ b) v13 O2 := q13
  have B6 := B5.trans (b6.mono B5.size)
  have t2 := conv_str (q2.later (b6.mono (Nat.le_trans s3 s35)))
  have t3 := conv_str (q3.later (b6.mono s35))
  have t9 := conv_str (q9.later b6)
  have t10 := conv_str (q10.later b6)
  have t12 := conv_str q12
  have t13 := conv_str q13
  clear HR q2 q3 q9 q10 q12 q13 g1 b6 B2 B3 B5 s3 s35
  go_wp2_with (first
    | (go_at_call 42; refine (num5_any _ _).mono ?_; rintro e w8 ⟨rfl, rfl⟩)
    | (go_at_call 37; refine (live5_any _).mono ?_; rintro e w9 ⟨rfl, hf⟩))
  go_ret
  exact ⟨rfl, B6.trans (hf.mono B6.size)⟩
end Go.Proofs.Ytgfhhnmhpncnlaa
