/-
  TlvTrailers' walk: it returns true. No condition.
-/
import Derived.Test.YtgfhhnmhpncnlaaY
namespace Go.Proofs.Ytgfhhnmhpncnlaa
open Go.RowKit
set_option linter.unusedVariables false
set_option linter.unusedSimpArgs false

theorem opn_pkt {l : List Int} (h : l.length ≤ 65535) (m : List Int) : opn ((pkt l).1 ++ m) = (l, m, 0) := by
  have e : (pkt l).1 = 42 :: 2 :: ((l.length : Int) / 256 % 256) :: ((l.length : Int) % 256) :: l := by
    unfold pkt
    rw [if_neg (by omega)]
    simp [putL]
  rw [e]
  simp only [List.cons_append, opn]
  have hn : (l.length : Int) / 256 % 256 * 256 + (l.length : Int) % 256 = l.length := by omega
  rw [hn, if_neg (by simp), if_neg (by simp), if_neg (by simp; omega)]
  simp

set_option maxRecDepth 100000 in
set_option maxHeartbeats 3200000 in
theorem TlvTrailers_walk (v0 : Value) (l0 : List Int) (v1 : Value) (l1 : List Int) {w : World}
    (h0 : Row w (fun _ => False) 1 v0 l0.length (nums .u8 l0)) (f0 : ∀ x ∈ l0, (Lit.int .u8 x).wf = true) (y0 : l0.length * 1 ≤ 140737488351232)
    (h1 : Row w (fun _ => False) 1 v1 l1.length (nums .u8 l1)) (f1 : ∀ x ∈ l1, (Lit.int .u8 x).wf = true) (y1 : l1.length * 1 ≤ 140737488351232) (w' : World) (hw : w' = w) :
    Calls Try.prog 11 #[v0, v1] w' fun e w' => e = .returned (.bool true) ∧ Below w.heap.size w w' := by
  subst hw
  have g0 := (bs_of_row h0 f0).out
  have g1 := (bs_of_row h1 f1).out
  obtain ⟨A0, c0, rfl, -⟩ := h0.head
  obtain ⟨A1, c1, rfl, -⟩ := h1.head
  clear h0 h1 f0 f1
  by_cases d0 : 65535 < l0.length
  · have e0 : decide (65535 < l0.length) = true := decide_eq_true d0
    go_enter Try.func11, Try.ntmps11
    go_wp2_with (go_at_call 37; refine (live5_any _).mono ?_; rintro e w1 ⟨rfl, hf⟩)
    go_ret
    exact ⟨rfl, hf⟩
  have e0 : decide (65535 < l0.length) = false := decide_eq_false d0
  by_cases d1 : 70000 < l1.length
  · have e1 : decide (70000 < l1.length) = true := decide_eq_true d1
    go_enter Try.func11, Try.ntmps11
    go_wp2_with (go_at_call 37; refine (live5_any _).mono ?_; rintro e w1 ⟨rfl, hf⟩)
    go_ret
    exact ⟨rfl, hf⟩
  have e1 : decide (70000 < l1.length) = false := decide_eq_false d1
  have HP := Packet_any g0 (by omega)
  have hop := Lib.hid (opn_pkt (l := l0) (by omega) l1)
  have hpk : (pkt l0).2 = 0 := by unfold pkt; rw [if_neg (by omega)]
  have hpl : (pkt l0).1.length ≤ 70000 := by unfold pkt; rw [if_neg (by omega)]; simp [putL_length]; omega
  rw [hpk] at HP
  generalize (pkt l0).1 = R at *
  clear hpk
  go_enter Try.func11, Try.ntmps11
  go_wp2_with fail
  refine HP.mono ?_
  rintro e w1 ⟨v5, rfl, o1, lo1, b1⟩
  have g0 := g0.later b1
  have g1 := g1.later b1
  clear HP
  go_wp2_with (at_builtin; refine wpList_appB rfl (.tmp 25) (.tmp 26) rfl rfl o1 rfl g1 (by omega) ?_; intro v6 w2 o2 n2 f2)
  have b2 := b1.trans (f2.belowB lo1 b1.size)
  have g0 := g0.later (f2.belowB lo1 b1.size)
  have g1 := g1.later (f2.belowB lo1 b1.size)
  have HO := Open_any (o2.bs (S := fun _ => False) (fun _ _ h => h)) (by rw [List.length_append]; omega)
  rw [hop.out] at HO
  clear o1 o2 n2 f2
  go_wp2_with fail
  refine HO.mono ?_
  rintro e w3 ⟨v7, v8, rfl, q7, q8, b3⟩
  have q7 : Bs w3 (fun b => w3.heap.size ≤ b) v7 l0 := q7
  have q8 : Bs w3 (fun b => w3.heap.size ≤ b) v8 l1 := q8
  have g0 := g0.later (b3.mono b2.size)
  have g1 := g1.later (b3.mono b2.size)
  have B3 := b2.trans (b3.mono b2.size)
  have t7 := conv_str q7
  have t8 := conv_str q8
  have t0 := conv_str g0
  have t1 := conv_str g1
  clear HO b3 g0 g1 q7 q8 b1 b2
  go_wp2_with (first
    | (go_at_call 42; refine (num5_any _ _).mono ?_; rintro e w8 ⟨rfl, rfl⟩)
    | (go_at_call 37; refine (live5_any _).mono ?_; rintro e w9 ⟨rfl, hf⟩))
  go_ret
  exact ⟨rfl, B3.trans (hf.mono B3.size)⟩
end Go.Proofs.Ytgfhhnmhpncnlaa
