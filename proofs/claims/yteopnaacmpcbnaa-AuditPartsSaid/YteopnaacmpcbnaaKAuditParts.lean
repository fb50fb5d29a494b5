/-
  AuditParts' walk: it returns true. No condition.
-/
import Derived.Test.YteopnaacmpcbnaaJ
namespace Go.Proofs.Yteopnaacmpcbnaa
open Go.RowKit
set_option linter.unusedVariables false
set_option linter.unusedSimpArgs false

/-! ### a region that only reads, its list behind a name: elaboration then does not unfold the operations that are skipped -/
theorem wpQuiet_hide {P : Program} {ops : Array Oper} {C : World → Prop} {Q : Act → Prop} {a : Act} {l0 : List Oper} (h : ∀ l : List Oper, Hid (l = l0) → wpQuiet P ops C Q l a) : wpQuiet P ops C Q l0 a := h l0 (Lib.hid rfl)
theorem wpQuiet_step_h {P : Program} {ops : Array Oper} {C : World → Prop} {Q : Act → Prop} {a : Act} {l rest : List Oper} {o : Oper} (hl : Hid (l = o :: rest))
    (h : ∀ (K : Act → Prop) (r : List Oper), Hid (r = rest) → (∀ a, wpQuiet P ops C Q r a → K a) → if Region.wanted o (yielded ops a.tmps) then o.quiet P a C K else K (a.put o.dst undef)) : wpQuiet P ops C Q l a := by
  rw [hl.out]
  exact wpQuiet_step (fun K hK => h K rest (Lib.hid rfl) hK)
theorem wpQuiet_nil_h {P : Program} {ops : Array Oper} {C : World → Prop} {Q : Act → Prop} {a : Act} {l : List Oper} (hl : Hid (l = [])) (h : Q a) : wpQuiet P ops C Q l a := by
  rw [hl.out]; exact h
set_option maxRecDepth 100000 in
set_option maxHeartbeats 3200000 in
theorem AuditParts_walk (a0 : Int) (v1 : Value) (l1 : List Wire) {w : World} (f0 : (Lit.int .i64 a0).wf = true)
    (h1 : Rw w (fun _ => False) v1 l1 ∧ ∀ x ∈ l1, wfW x) (w' : World) (hw : w' = w) :
    Calls Try.prog 5 #[.int .i64 a0, v1] w' fun e w' => e = .returned (.bool true) ∧ Below w.heap.size w w' := by
  subst hw
  have g1 := h1.1.out
  have hw1 := Lib.hid h1.2
  obtain ⟨A1, c1, rfl, k0, k1⟩ := h1.1.head
  clear h1 f0
  by_cases d0 : 60 < l1.length
  · have e0 : decide (60 < l1.length) = true := decide_eq_true d0
    go_enter Try.func5, Try.ntmps5
    go_wp2_with (go_at_call 7; refine (live_any _).mono ?_; rintro e w1 ⟨rfl, hf⟩)
    go_ret
    exact ⟨rfl, hf⟩
  have e0 : decide (60 < l1.length) = false := decide_eq_false d0
  have H := Parts_any g1 hw1.out (by omega) a0
  go_enter Try.func5, Try.ntmps5
  go_wp2_with fail
  refine H.mono ?_
  rintro e w1 ⟨v2, rfl, o2, lo2, b1⟩
  have q1 := g1.later b1
  have q2 := own_old o2
  obtain ⟨A2, c2, rfl, k2, k3⟩ := own_slice o2
  clear H o2 lo2 e0 g1
  by_cases ha : 1 ≤ a0 ∧ a0 ≤ 8
  · obtain ⟨m, rfl⟩ : ∃ m : Nat, a0 = m := ⟨a0.toNat, by omega⟩
    have hinv := prs_inv m l1
    have hp : partsOf m l1 = (prs m l1).1 := by unfold partsOf; rw [if_pos ha, Int.toNat_natCast]
    rw [hp] at q2 k2 ⊢
    obtain ⟨p, hpp⟩ : ∃ p, (prs m l1).1 = p := ⟨_, rfl⟩
    have hpl := hinv.len
    have hrt := hinv.rt
    have hjn := hinv.join
    rw [hpp] at q2 k2 hpl hrt hjn ⊢
    have hm1 : 1 ≤ m := by omega
    have hm8 : m ≤ 8 := by omega
    have em1 : decide ((m : Int) < 1) = false := decide_eq_false (by omega)
    have em8 : decide (8 < (m : Int)) = false := decide_eq_false (by omega)
    have em9 : ((p.length : Int) != (m : Int)) = false := by simp [hpl]
    clear ha hinv hp hpp
    obtain ⟨b, o, rfl, -, -, -⟩ := q2.at_ (by omega)
    have rt2 : ∀ (i : Nat) (x : Int), p[i]? = some x → 0 ≤ x ∧ x ≤ i ∧ p[x.toNat]? = some x := fun i x hi => by
      have hil : i < m := by have := (List.getElem?_eq_some_iff.1 hi).1; omega
      obtain ⟨r1, r2, r3⟩ := hrt i (by omega) (by omega)
      rw [pf_get hi] at r1 r2 r3
      obtain ⟨y, hy⟩ := get_some (l := p) (j := x.toNat) (by omega)
      obtain ⟨t, rfl⟩ : ∃ t : Nat, x = t := ⟨x.toNat, by omega⟩
      rw [Int.toNat_natCast] at hy ⊢
      rw [pf_get hy] at r3
      exact ⟨r1, r2, by rw [hy, r3]⟩
    replace rt2 := Lib.hid rt2
    replace hjn := Lib.hid hjn
    replace q1 := Lib.hid q1
    replace q2 := Lib.hid q2
    have hplm := Lib.hid hpl
    clear hrt
    have hpl0 : 0 < p.length := by omega
    clear hpl
    go_wp2_with fail
    clear em1 em8 em9
    go_loopw [6] (fun x wr => ∃ i n : Nat, x = .int .i64 i ∧ i ≤ m ∧ wr = w1.drewN n) (fun x wr => m - (intOf x).toNat)
    case atStart => exact ⟨0, 0, rfl, Nat.zero_le _, rfl⟩
    case round =>
      obtain ⟨i, n, rfl, hi, rfl⟩ := hrel
      by_cases hlt : i < m
      · obtain ⟨x, hx⟩ := get_some (l := p) (j := i) (by rw [hplm.out]; exact hlt)
        obtain ⟨r1, r2, r3⟩ := rt2.out i x hx
        obtain ⟨t, rfl⟩ : ∃ t : Nat, x = t := ⟨x.toNat, by omega⟩
        rw [Int.toNat_natCast] at r3
        have c1 := q2.out.cells (nums_get hx)
        have c2 := q2.out.cells (nums_get r3)
        have hti : t ≤ i := by omega
        have hil : i < p.length := by rw [hplm.out]; exact hlt
        have htl : t < p.length := by omega
        have e1 : decide (i < t) = false := decide_eq_false (by omega)
        have e2 : decide ((i : Int) < t) = false := decide_eq_false (by omega)
        clear hx r1 r2 r3
        go_wp2_with fail
        go_quiet (fail)
        go_wp2_with fail
        go_roundw
        case rel => exact ⟨i + 1, n + nq, by go_num, by omega, by first | rfl | rw [World.drewN_drewN]⟩
        case measure => simp [intOf]; omega
      · obtain rfl : i = m := by omega
        go_wp2_with fail
        go_loopw [7] (fun x wr => ∃ j n : Nat, x = .int .i64 j ∧ j ≤ l1.length ∧ wr = w1.drewN n) (fun x wr => l1.length - (intOf x).toNat)
        case atStart => exact ⟨0, n, rfl, Nat.zero_le _, rfl⟩
        case round =>
          obtain ⟨j, n, rfl, hj, rfl⟩ := hrel
          by_cases hlt2 : j < l1.length
          · obtain ⟨⟨a, ai, s1⟩, hx⟩ := get_some hlt2
            obtain ⟨b0, o0, rfl, -, -, -⟩ := q1.out.at_ (by omega)
            go_wp2_with fail
            go_loopw [8] (fun x wr => ∃ k n : Nat, x = .int .i64 k ∧ k ≤ j ∧ wr = w1.drewN n) (fun x wr => j - (intOf x).toNat)
            case atStart => exact ⟨0, n, rfl, Nat.zero_le _, rfl⟩
            case round =>
              obtain ⟨k, n, rfl, hk, rfl⟩ := hrel
              by_cases hlt3 : k < j
              · obtain ⟨⟨d, di, s2⟩, hy⟩ := get_some (l := l1) (j := k) (by omega)
                have hkl : k < l1.length := by omega
                have c0 := q1.out.cells (wcs_get hx).1
                have c2 := q1.out.cells (wcs_get hx).2.2
                have d0 := q1.out.cells (wcs_get hy).1
                have d2 := q1.out.cells (wcs_get hy).2.2
                simp only at c0 c2 d0 d2
                rw [← Nat.add_assoc] at c2 d2
                have hjj := hjn.out _ (List.mem_of_getElem? hx) _ (List.mem_of_getElem? hy)
                replace hx := Lib.hid hx
                replace hy := Lib.hid hy
                replace hjj := Lib.hid hjj
                go_wp2_with fail
                go_quiet (fail)
                by_cases hA : 0 ≤ a
                · have eA : decide (0 ≤ a) = true := decide_eq_true hA
                  by_cases hB : a < (i : Int)
                  · have eB : decide (a < (i : Int)) = true := decide_eq_true hB
                    by_cases hC : 0 ≤ d
                    · have eC : decide (0 ≤ d) = true := decide_eq_true hC
                      by_cases hD : d < (i : Int)
                      · have eD : decide (d < (i : Int)) = true := decide_eq_true hD
                        by_cases hS : s1 = s2
                        · have hpe := hjj.out ⟨hA, hB⟩ ⟨hC, hD⟩ hS
                          have eS : (s1 == s2) = true := by simp [hS]
                          obtain ⟨na, rfl⟩ : ∃ na : Nat, a = na := ⟨a.toNat, by omega⟩
                          obtain ⟨nd, rfl⟩ : ∃ nd : Nat, d = nd := ⟨d.toNat, by omega⟩
                          obtain ⟨y, hya⟩ := get_some (l := p) (j := na) (by have := hplm.out; omega)
                          obtain ⟨z, hzd⟩ := get_some (l := p) (j := nd) (by have := hplm.out; omega)
                          rw [pf_get hya, pf_get hzd] at hpe
                          subst hpe
                          have q3 := q2.out.cells (nums_get hya)
                          have q4 := q2.out.cells (nums_get hzd)
                          have hnal : na < p.length := by have := hplm.out; omega
                          have hndl : nd < p.length := by have := hplm.out; omega
                          replace hya := Lib.hid hya
                          replace hzd := Lib.hid hzd
                          replace hS := Lib.hid hS
                          go_wp2_with fail
                          refine wp_region_quiet_lit (by kernel_rfl) (by kernel_rfl) ?_
                          refine wpQuiet_hide ?_
                          intro lq hlq
                          repeat
                            refine wpQuiet_step_h hlq ?_
                            clear hlq lq
                            intro K lq hlq hK
                            go_simp
                            refine hK _ ?_
                            clear hK K
                          refine wpQuiet_nil_h hlq ?_
                          clear hlq lq
                          intro _ hw'
                          obtain ⟨nq, hw''⟩ := hw'
                          subst hw''
                          go_wp2_with fail
                          go_roundw
                          case rel => exact ⟨k + 1, _, by go_num, by omega, by first | rfl | (simp only [World.drewN_drewN]; rfl)⟩
                          case measure => simp [intOf]; omega
                        · have eS : (s1 == s2) = false := by simp [hS]
                          replace hS := Lib.hid hS
                          go_wp2_with fail
                          refine wp_region_quiet_lit (by kernel_rfl) (by kernel_rfl) ?_
                          refine wpQuiet_hide ?_
                          intro lq hlq
                          repeat
                            refine wpQuiet_step_h hlq ?_
                            clear hlq lq
                            intro K lq hlq hK
                            go_simp
                            refine hK _ ?_
                            clear hK K
                          refine wpQuiet_nil_h hlq ?_
                          clear hlq lq
                          intro _ hw'
                          obtain ⟨nq, hw''⟩ := hw'
                          subst hw''
                          go_wp2_with fail
                          go_roundw
                          case rel => exact ⟨k + 1, _, by go_num, by omega, by first | rfl | (simp only [World.drewN_drewN]; rfl)⟩
                          case measure => simp [intOf]; omega
                      · have eD : decide (d < (i : Int)) = false := decide_eq_false hD
                        go_wp2_with fail
                        refine wp_region_quiet_lit (by kernel_rfl) (by kernel_rfl) ?_
                        refine wpQuiet_hide ?_
                        intro lq hlq
                        repeat
                          refine wpQuiet_step_h hlq ?_
                          clear hlq lq
                          intro K lq hlq hK
                          go_simp
                          refine hK _ ?_
                          clear hK K
                        refine wpQuiet_nil_h hlq ?_
                        clear hlq lq
                        intro _ hw'
                        obtain ⟨nq, hw''⟩ := hw'
                        subst hw''
                        go_wp2_with fail
                        go_roundw
                        case rel => exact ⟨k + 1, _, by go_num, by omega, by first | rfl | (simp only [World.drewN_drewN]; rfl)⟩
                        case measure => simp [intOf]; omega
                    · have eC : decide (0 ≤ d) = false := decide_eq_false hC
                      go_wp2_with fail
                      refine wp_region_quiet_lit (by kernel_rfl) (by kernel_rfl) ?_
                      refine wpQuiet_hide ?_
                      intro lq hlq
                      repeat
                        refine wpQuiet_step_h hlq ?_
                        clear hlq lq
                        intro K lq hlq hK
                        go_simp
                        refine hK _ ?_
                        clear hK K
                      refine wpQuiet_nil_h hlq ?_
                      clear hlq lq
                      intro _ hw'
                      obtain ⟨nq, hw''⟩ := hw'
                      subst hw''
                      go_wp2_with fail
                      go_roundw
                      case rel => exact ⟨k + 1, _, by go_num, by omega, by first | rfl | (simp only [World.drewN_drewN]; rfl)⟩
                      case measure => simp [intOf]; omega
                  · have eB : decide (a < (i : Int)) = false := decide_eq_false hB
                    go_wp2_with fail
                    refine wp_region_quiet_lit (by kernel_rfl) (by kernel_rfl) ?_
                    refine wpQuiet_hide ?_
                    intro lq hlq
                    repeat
                      refine wpQuiet_step_h hlq ?_
                      clear hlq lq
                      intro K lq hlq hK
                      go_simp
                      refine hK _ ?_
                      clear hK K
                    refine wpQuiet_nil_h hlq ?_
                    clear hlq lq
                    intro _ hw'
                    obtain ⟨nq, hw''⟩ := hw'
                    subst hw''
                    go_wp2_with fail
                    go_roundw
                    case rel => exact ⟨k + 1, _, by go_num, by omega, by first | rfl | (simp only [World.drewN_drewN]; rfl)⟩
                    case measure => simp [intOf]; omega
                · have eA : decide (0 ≤ a) = false := decide_eq_false hA
                  go_wp2_with fail
                  refine wp_region_quiet_lit (by kernel_rfl) (by kernel_rfl) ?_
                  refine wpQuiet_hide ?_
                  intro lq hlq
                  repeat
                    refine wpQuiet_step_h hlq ?_
                    clear hlq lq
                    intro K lq hlq hK
                    go_simp
                    refine hK _ ?_
                    clear hK K
                  refine wpQuiet_nil_h hlq ?_
                  clear hlq lq
                  intro _ hw'
                  obtain ⟨nq, hw''⟩ := hw'
                  subst hw''
                  go_wp2_with fail
                  go_roundw
                  case rel => exact ⟨k + 1, _, by go_num, by omega, by first | rfl | (simp only [World.drewN_drewN]; rfl)⟩
                  case measure => simp [intOf]; omega
              · obtain rfl : k = j := by omega
                go_wp2_with fail
                go_roundw
                case rel => exact ⟨k + 1, n, by go_num, by omega, rfl⟩
                case measure => simp [intOf]; omega
          · obtain rfl : j = l1.length := by omega
            have B2 : Below w'.heap.size w' (w1.drewN n) := below_drewN b1 n
            clear rt2 hjn q1 q2
            go_wp2_with (go_at_call 7; refine (live_any _).mono ?_; rintro e w5 ⟨rfl, hf⟩)
            go_ret
            exact ⟨rfl, B2.trans (hf.mono B2.size)⟩
  · have hp : partsOf a0 l1 = [] := by unfold partsOf; rw [if_neg ha]
    rw [hp]
    clear q1 q2
    by_cases h1 : a0 < 1
    · have e1 : decide (a0 < 1) = true := decide_eq_true h1
      replace ha := Lib.hid ha
      replace hp := Lib.hid hp
      go_wp2_with (go_at_call 7; refine (live_any _).mono ?_; rintro e w2 ⟨rfl, hf⟩)
      go_ret
      exact ⟨rfl, b1.trans (hf.mono b1.size)⟩
    · have e1 : decide (a0 < 1) = false := decide_eq_false h1
      have e2 : decide (8 < a0) = true := decide_eq_true (by omega)
      replace ha := Lib.hid ha
      replace hp := Lib.hid hp
      go_wp2_with (go_at_call 7; refine (live_any _).mono ?_; rintro e w2 ⟨rfl, hf⟩)
      go_ret
      exact ⟨rfl, b1.trans (hf.mono b1.size)⟩
end Go.Proofs.Yteopnaacmpcbnaa
