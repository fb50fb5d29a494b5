/-
  TlvBack's walk: it returns true. No condition.
-/
import Derived.Test.YtgfhhnmhpncnlaaY
import Derived.Test.YtgfhhnmhpncnlaaWB
namespace Go.Proofs.Ytgfhhnmhpncnlaa
open Go.RowKit
set_option linter.unusedVariables false
set_option linter.unusedSimpArgs false

theorem conv_any {w : World} {v : Value} {l : List Int} (h : Bs w (fun b => w.heap.size ≤ b) v l) : ∀ n, (convert 22 9 v).run Try.prog (w.drewN n) = .ok (.string (strOfNums l)) (w.drewN n) :=
  fun n => conv_str (h.fr (S' := fun _ => False) ((Fr.refl _ _).drewN n) (fun _ _ h => h.elim))

set_option maxRecDepth 100000 in
set_option maxHeartbeats 6400000 in
theorem TlvBack_walk (v0 : Value) (rs : List (Int × List Int)) (k : Int) {w : World}
    (h0 : RawsB w (fun _ => False) v0 rs ∧ ∀ r ∈ rs, (0 ≤ r.1 ∧ r.1 < 256) ∧ r.2.length ≤ 140737488351232) (hk : (Lit.int .i64 k).wf = true) (w' : World) (hw : w' = w) :
    Calls Try.prog 10 #[v0, .int .i64 k] w' fun e w' => e = .returned (.bool true) ∧ Below w.heap.size w w' := by
  subst hw
  obtain ⟨h0, hr⟩ := h0
  have g0 := h0.out
  have HU := huge_any h0 (fun r h => (hr r h).2)
  have hty : ∀ r ∈ rs, 0 ≤ r.1 ∧ r.1 < 256 := fun r h => (hr r h).1
  obtain ⟨A0, c0, rfl, hmx, -⟩ := h0.at_
  have htx := Lib.hid hty
  clear hr h0 hk hty
  go_enter Try.func10, Try.ntmps10
  go_wp2_with fail
  refine HU.mono ?_
  rintro e w1 ⟨vb, rfl, hw1, hb⟩
  obtain rfl : w' = w1 := hw1.symm
  clear HU
  cases vb with
  | true =>
    clear hb
    go_wp2_with (go_at_call 37; refine (live5_any _).mono ?_; rintro e w1 ⟨rfl, hf⟩)
    go_ret
    exact ⟨rfl, hf⟩
  | false =>
    obtain ⟨hn, hs⟩ := hb rfl
    clear hb
    have HJ := Join_any g0 htx.out (by rw [tot_le]; omega)
    have hjk := joi_ok rs []
    obtain ⟨⟨m, er⟩, hm⟩ : ∃ q, joi [] rs = q := ⟨_, rfl⟩
    rw [hm] at HJ hjk
    simp only [List.nil_append] at hjk
    have hjx := Lib.hid hjk
    clear hm hjk
    go_wp2_with fail
    refine HJ.mono ?_
    rintro e w2 ⟨v5, rfl, o5, lo5, b2⟩
    have o5 : Ob w2 v5 m := o5
    have q5 := o5.old
    have g0 := g0.later b2
    have s2 := b2.size
    clear HJ lo5 o5
    obtain ⟨A5, c5, rfl, -⟩ := id q5
    by_cases ke : er = 0
    rotate_left
    · have keb : (er != 0) = true := by simp [ke]
      have keb2 : (er == 0) = false := by simp [ke]
      go_wp2_with (first
        | (go_at_call 42; refine (num5_any _ _).mono ?_; rintro e w8 ⟨rfl, rfl⟩)
        | (go_at_call 37; refine (live5_any _).mono ?_; rintro e w9 ⟨rfl, hf⟩))
      go_ret
      exact ⟨rfl, b2.trans (hf.mono b2.size)⟩
    subst ke
    obtain ⟨e1, e2⟩ := hjx.out rfl
    by_cases km : 65535 < m.length
    · have kmb : decide (65535 < m.length) = true := decide_eq_true km
      clear e1 e2
      go_wp2_with (first
        | (go_at_call 42; refine (num5_any _ _).mono ?_; rintro e w8 ⟨rfl, rfl⟩)
        | (go_at_call 37; refine (live5_any _).mono ?_; rintro e w9 ⟨rfl, hf⟩))
      go_ret
      exact ⟨rfl, b2.trans (hf.mono b2.size)⟩
    have kmb : decide (65535 < m.length) = false := decide_eq_false km
    have hsp := fun F n => spl_enc rs [] F n e2
    rw [← e1] at hsp
    simp only [List.nil_append] at hsp
    have hfull : spl m.length [] m = (rs, 0) := by
      obtain ⟨j, err, h1, h2, h3⟩ := hsp m.length m.length (by simp)
      obtain ⟨h4, h5⟩ := h3 (Nat.le_refl _)
      rw [List.take_of_length_le (Nat.le_refl _)] at h1
      rw [h1, h4, h5, List.take_length]
    have hsx := Lib.hid hsp
    clear hsp
    have HS := Split_any q5 (by omega)
    rw [hfull] at HS
    clear e1 e2 hfull hjx
    go_wp2_with (go_at_call 42; refine (num5_any _ _).mono ?_; rintro e w8 ⟨rfl, rfl⟩)
    refine HS.mono ?_
    rintro e w3 ⟨v7, rfl, o7, b3⟩
    have o7 : OR w3 (fun _ => False) v7 rs := o7
    have q7 := o7.raws
    have B3 := b2.trans (b3.mono s2)
    have g0 := g0.later (b3.mono s2)
    have q5 := q5.later b3
    have s3 := b3.size
    clear HS o7 b3
    have HP := Packet_any q5 (by omega)
    have hpk : (pkt m).2 = 0 := by unfold pkt; rw [if_neg (by omega)]
    have hpl : (pkt m).1.length ≤ 70000 := by unfold pkt; rw [if_neg (by omega)]; simp [putL_length]; omega
    have hop := Lib.hid (opn_pkt2 (l := m) (by omega))
    rw [hpk] at HP
    generalize (pkt m).1 = R at *
    clear hpk
    go_wp2_with fail
    refine HP.mono ?_
    rintro e w4 ⟨v9, rfl, o9, lo9, b4⟩
    have B4 := B3.trans (b4.mono B3.size)
    have g0 := g0.later (b4.mono B3.size)
    have q5 := q5.later (b4.mono s3)
    have q7 := q7.later b4
    have HO := Open_any (o9.bs (S := fun _ => False) (fun _ _ h => h)) (by omega)
    rw [hop.out] at HO
    have s4 := b4.size
    clear HP o9 lo9 b4
    go_wp2_with fail
    refine HO.mono ?_
    rintro e w5 ⟨v11, v12, rfl, q11, q12, b5⟩
    have q11 : Bs w5 (fun b => w5.heap.size ≤ b) v11 m := q11
    have q12 : Bs w5 (fun b => w5.heap.size ≤ b) v12 [] := q12
    have B5 := B4.trans (b5.mono B4.size)
    have g0 := g0.later (b5.mono B4.size)
    have q5 := q5.later (b5.mono (Nat.le_trans s3 s4))
    have q7 := q7.later (b5.mono s4)
    have s5 := b5.size
    obtain ⟨A12, c12, rfl, -⟩ := id q12
    have t11 := conv_any q11
    have t5 := conv_any (q5.mono_l rfl (fun b hb => Nat.le_trans (Nat.le_trans s3 s4) (Nat.le_trans s5 hb)))
    have HE := fun n => Same_any (g0.later ((Below.refl w'.heap.size w5).trans (below_drewN' (Below.refl _ _) n))) (q7.later ((Below.refl w3.heap.size w5).trans (below_drewN' (Below.refl _ _) n)))
    have HX := Lib.hid HE
    clear HE HO b5 q11 q12
    by_cases k1 : k < 0
    · have k1b : decide (k < 0) = true := decide_eq_true k1
      go_wp2_with (first
        | (go_at_call 42; refine (num5_any _ _).mono ?_; rintro e w8 ⟨rfl, hw8⟩; obtain rfl := hw8.symm)
        | (go_at_call 46; refine (HX.out 0).mono ?_; rintro e w8 ⟨rfl, n8, rfl⟩; have B8 := below_drewN' B5 n8)
        | (go_at_call 37; refine (live5_any _).mono ?_; rintro e w9 ⟨rfl, hf⟩))
      go_ret
      exact ⟨rfl, B8.trans (hf.mono B8.size)⟩
    have k1b : decide (k < 0) = false := decide_eq_false k1
    by_cases k2 : (m.length : Int) < k
    · have k2b : decide ((m.length : Int) < k) = true := decide_eq_true k2
      go_wp2_with (first
        | (go_at_call 42; refine (num5_any _ _).mono ?_; rintro e w8 ⟨rfl, hw8⟩; obtain rfl := hw8.symm)
        | (go_at_call 46; refine (HX.out 0).mono ?_; rintro e w8 ⟨rfl, n8, rfl⟩; have B8 := below_drewN' B5 n8)
        | (go_at_call 37; refine (live5_any _).mono ?_; rintro e w9 ⟨rfl, hf⟩))
      go_ret
      exact ⟨rfl, B8.trans (hf.mono B8.size)⟩
    have k2b : decide ((m.length : Int) < k) = false := decide_eq_false k2
    obtain ⟨kk, rfl⟩ : ∃ kk : Nat, k = kk := ⟨k.toNat, by omega⟩
    have k2c : decide (m.length < kk) = false := decide_eq_false (by omega)
    clear k1b k1
    obtain ⟨-, hc5, -, hA5⟩ := q5.nilcap
    have hcut := cut_take (P := Try.prog) 22 5 .i64 Try.underlying22 Try.info5 A5 m.length c5 kk (by omega) hc5 hA5
    obtain ⟨j, err, h1, h2, -⟩ := hsx.out (m.take kk).length kk (Nat.le_refl _)
    have hkl : (m.take kk).length = kk := by rw [List.length_take]; omega
    have HS := fun n => Split_any ((q5.take (j := kk) (by omega)).fr (S' := fun _ => False) ((Fr.refl _ _).drewN n) (fun _ _ h => h.elim)) (by omega)
    obtain ⟨ps, hps⟩ : ∃ ps, rs.take j = ps := ⟨_, rfl⟩
    rw [h1, hps] at HS
    have hpl2 : ps.length = j := by rw [← hps, List.length_take]; omega
    have hrj : rs.take ps.length = ps := by rw [hpl2, hps]
    have hple : ps.length ≤ rs.length := by omega
    have hpd : decide (ps.length ≤ rs.length) = true := decide_eq_true hple
    obtain ⟨-, hc0, hA0⟩ := g0.nilcap
    have hcut0 := cut_take2 (P := Try.prog) 72 82 .i64 Try.underlying72 Try.info82z A0 rs.length c0 ps.length hple hc0 hA0
    have HSx := Lib.hid HS
    have hrx := Lib.hid hrj
    clear HS hrj hps hpl2 h1 h2 hkl hA5 hA0 hsx
    go_wp2_with (first
      | (go_at_call 42; refine (num5_any _ _).mono ?_; rintro e w8 ⟨rfl, hw8⟩; obtain rfl := hw8.symm)
      | (go_at_call 46; refine (HX.out 0).mono ?_; rintro e w8 ⟨rfl, n8, rfl⟩; have B8 := below_drewN' B5 n8)
      | (go_at_call 37; refine (live5_any _).mono ?_; rintro e w9 ⟨rfl, hf⟩))
    refine (HSx.out n8).mono ?_
    rintro e w10 ⟨v14, rfl, o14, b10⟩
    have o14 : OR w10 (fun _ => False) v14 ps := o14
    have B10 := B8.trans (b10.mono B8.size)
    have q14 := o14.raws
    have g10 := ((g0.later ((Below.refl _ _).trans (below_drewN' (Below.refl _ _) n8))).later (b10.mono B8.size)).take (j := ps.length) hple
    rw [hrx.out] at g10
    obtain ⟨A14, c14, rfl⟩ := o14.slice
    have HY := Lib.hid (Same_any q14 g10)
    clear o14 q14 g10 b10 B8 HX HSx t11 t5
    go_wp2_with (first
      | (go_at_call 46; refine HY.out.mono ?_; rintro e w11 ⟨rfl, n11, rfl⟩; have B11 := below_drewN' B10 n11)
      | (go_at_call 37; refine (live5_any _).mono ?_; rintro e w9 ⟨rfl, hf⟩))
    go_ret
    exact ⟨rfl, B11.trans (hf.mono B11.size)⟩
end Go.Proofs.Ytgfhhnmhpncnlaa
