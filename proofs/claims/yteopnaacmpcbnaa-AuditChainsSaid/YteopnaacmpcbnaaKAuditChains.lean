/-
  AuditChains' walk: it returns true. No condition.
-/
import Derived.Test.YteopnaacmpcbnaaJ
namespace Go.Proofs.Yteopnaacmpcbnaa
open Go.RowKit
set_option linter.unusedVariables false
set_option linter.unusedSimpArgs false

/-! ### a region that only reads, its list behind a name: elaboration then does not unfold the operations that are skipped -/
theorem wpQuiet_hide {P : Program} {ops : Array Oper} {C : World → Prop} {Q : Act → Prop} {a : Act} {l0 : List Oper} (h : ∀ l : List Oper, Hid (l = l0) → wpQuiet P ops C Q l a) : wpQuiet P ops C Q l0 a := h l0 (Lib.hid rfl)
theorem wpQuiet_step_h {P : Program} {ops : Array Oper} {C : World → Prop} {Q : Act → Prop} {a : Act} {l rest : List Oper} {o : Oper} (hl : Hid (l = o :: rest))
    (h : ∀ (K : Act → Prop) (r : List Oper), Hid (r = rest) → (∀ a, wpQuiet P ops C Q r a → K a) → if Region.wanted o (yielded ops a.tmps) then o.quiet P a C K else K (a.put o.dst undef)) : wpQuiet P ops C Q l a := by
  rw [hl.out]
  exact wpQuiet_step (fun K hK => h K rest (Lib.hid rfl) hK)
theorem wpQuiet_nil_h {P : Program} {ops : Array Oper} {C : World → Prop} {Q : Act → Prop} {a : Act} {l : List Oper} (hl : Hid (l = [])) (h : Q a) : wpQuiet P ops C Q l a := by
  rw [hl.out]; exact h
set_option maxRecDepth 100000 in
set_option maxHeartbeats 3200000 in
theorem AuditChains_walk (a0 : Int) (v1 : Value) (l1 : List Int) {w : World} (f0 : (Lit.int .i64 a0).wf = true)
    (h1 : Row w (fun _ => False) 1 v1 l1.length (nums .i64 l1)) (f1 : ∀ x ∈ l1, (Lit.int .i64 x).wf = true) (y1 : l1.length * 8 ≤ 140737488351232) (w' : World) (hw : w' = w) :
    Calls Try.prog 6 #[.int .i64 a0, v1] w' fun e w' => e = .returned (.bool true) ∧ Below w.heap.size w w' := by
  subst hw
  have g1 := h1.out
  obtain ⟨A1, c1, rfl, k0, k1⟩ := h1.head
  clear h1 f0 f1
  by_cases d0 : 60 < l1.length
  · have e0 : decide (60 < l1.length) = true := decide_eq_true d0
    go_enter Try.func6, Try.ntmps6
    go_wp2_with (go_at_call 7; refine (live_any _).mono ?_; rintro e w1 ⟨rfl, hf⟩)
    go_ret
    exact ⟨rfl, hf⟩
  have e0 : decide (60 < l1.length) = false := decide_eq_false d0
  have H := Chain_any g1 a0 (by omega)
  go_enter Try.func6, Try.ntmps6
  go_wp2_with fail
  refine H.mono ?_
  rintro e w1 ⟨L, B, v2, rfl, hL, o2, lo2, b1⟩
  have q1 := g1.later b1
  have q2 := own_old o2
  obtain ⟨A2, c2, rfl, k2, k3⟩ := own_slice o2
  clear H o2 lo2 e0 g1
  by_cases ha : 0 ≤ a0 ∧ a0 < l1.length
  · obtain ⟨hl, hll, hf0, hin, hst, hnd, hend⟩ := hL.all ha.1 ha.2
    obtain ⟨m, rfl⟩ : ∃ m : Nat, a0 = m := ⟨a0.toNat, by omega⟩
    have hm : m < l1.length := by omega
    clear ha hL
    obtain ⟨b, o, rfl, -, -, hcell⟩ := q2.at_ hl
    obtain ⟨b0, o0, rfl, -, -, hcell1⟩ := q1.at_ (by omega)
    have z0 := hcell _ _ (nums_get hf0)
    rw [Nat.add_zero] at z0
    have hlast := lastv_get hl
    obtain ⟨x, hx⟩ : ∃ x, lastv L = x := ⟨_, rfl⟩
    rw [hx] at hlast hend
    obtain ⟨hx0, hx1⟩ := hin x (List.mem_of_getElem? hlast)
    obtain ⟨t, rfl⟩ : ∃ t : Nat, x = t := ⟨x.toNat, by omega⟩
    obtain ⟨y, hy⟩ := get_some (l := l1) (j := t) (by omega)
    have htl : t < l1.length := by omega
    rw [Int.toNat_natCast, List.getD_eq_getElem?_getD, hy] at hend
    simp only [Option.getD_some] at hend
    obtain ⟨p, hp⟩ : ∃ p, L.length = p + 1 := ⟨L.length - 1, by omega⟩
    rw [hp, Nat.add_sub_cancel] at hlast
    have c5 := hcell _ _ (nums_get hlast)
    have c6 := hcell1 _ _ (nums_get hy)
    have a1 : ((p : Int) + 1) - 1 = p := by omega
    have hnd2 : ∀ (k i : Nat) (y x : Int), k < i → L[k]? = some y → L[i]? = some x → y ≠ x := fun k i y x hki hk hi => by
      obtain ⟨h1, rfl⟩ := List.getElem?_eq_some_iff.1 hk
      obtain ⟨h2, rfl⟩ := List.getElem?_eq_some_iff.1 hi
      exact (List.pairwise_iff_getElem.1 hnd) k i h1 h2 hki
    have hne : ¬ L = [] := fun h => by rw [h] at hl; simp at hl
    have hll2 : L.length ≤ 60 := by omega
    replace hcell := Lib.hid hcell
    replace hcell1 := Lib.hid hcell1
    replace hin := Lib.hid hin
    replace hst := Lib.hid hst
    replace hnd2 := Lib.hid hnd2
    replace hp := Lib.hid hp
    replace hend := Lib.hid hend
    replace a1 := Lib.hid a1
    have c5 := Lib.hid c5
    have c6 := Lib.hid c6
    clear hlast hy hx hx0 hx1 hf0 q1 q2 hnd
    have e3 : decide (l1.length < L.length) = false := decide_eq_false (by omega)
    have e4 : ((L.length : Int) == 0) = false := by rw [beq_eq_false_iff_ne]; omega
    have e8 : decide (l1.length ≤ m) = false := decide_eq_false (by omega)
    have e9 : decide ((m : Int) < 0) = false := decide_eq_false (by omega)
    go_wp2_with fail
    clear e3 e4 e8 e9
    go_loopw [7] (fun x wr => ∃ i n : Nat, x = .int .i64 i ∧ i ≤ L.length ∧ wr = w1.drewN n) (fun x wr => L.length - (intOf x).toNat)
    case atStart => exact ⟨0, 0, rfl, Nat.zero_le _, rfl⟩
    case round =>
      obtain ⟨i, n, rfl, hi, rfl⟩ := hrel
      by_cases hlt : i < L.length
      · obtain ⟨x, hxi⟩ := get_some hlt
        obtain ⟨hx0, hx1⟩ := hin.out x (List.mem_of_getElem? hxi)
        obtain ⟨mi, rfl⟩ : ∃ mi : Nat, x = mi := ⟨x.toNat, by omega⟩
        have hmi : mi < l1.length := by omega
        have r1 := hcell.out _ _ (nums_get hxi)
        clear hx0 hx1
        by_cases h0 : i = 0
        · have e6 : decide (0 < i) = false := decide_eq_false (by omega)
          have e7 : decide ((0 : Int) < i) = false := decide_eq_false (by omega)
          replace hxi := Lib.hid hxi
          replace h0 := Lib.hid h0
          go_wp2_with fail
          refine wp_region_quiet_lit (by kernel_rfl) (by kernel_rfl) ?_
          refine wpQuiet_hide ?_
          intro lq hlq
          repeat
            refine wpQuiet_step_h hlq ?_
            clear hlq lq
            intro K lq hlq hK
            go_simp
            refine hK _ ?_
            clear hK K
          refine wpQuiet_nil_h hlq ?_
          clear hlq lq
          intro _ hw'
          obtain ⟨nq, hw''⟩ := hw'
          subst hw''
          go_wp2_with fail
          go_loopw [8] (fun x wr => ∃ n2 : Nat, x = .int .i64 0 ∧ wr = w1.drewN n2) (fun x wr => 0)
          case atStart => exact ⟨n + nq, rfl, by first | rfl | rw [World.drewN_drewN]⟩
          case round =>
            obtain ⟨n2, rfl, rfl⟩ := hrel
            go_wp2_with fail
            go_roundw
            case rel => exact ⟨i + 1, n2, by go_num, by omega, rfl⟩
            case measure => simp [intOf]; omega
        · obtain ⟨i', hi'⟩ : ∃ i', i = i' + 1 := ⟨i - 1, by omega⟩
          obtain ⟨x', hxi'⟩ := get_some (l := L) (j := i') (by omega)
          obtain ⟨hx0, hx1⟩ := hin.out x' (List.mem_of_getElem? hxi')
          obtain ⟨mj, rfl⟩ : ∃ mj : Nat, x' = mj := ⟨x'.toNat, by omega⟩
          have hmj : mj < l1.length := by omega
          have hi'l : i' < L.length := by omega
          have r2 := hcell.out _ _ (nums_get hxi')
          have hnx := hst.out i' _ (by omega) hxi'
          rw [Int.toNat_natCast, List.getD_eq_getElem?_getD, ← hi'] at hnx
          obtain ⟨z, hz⟩ := get_some hmj
          rw [hz, hxi] at hnx
          obtain rfl : (mi : Int) = z := by simpa using hnx
          have r3 := hcell1.out _ _ (nums_get hz)
          have a2 : IntKind.i64.wrap (i' : Int) = i' := IntWalk.i64_in _ (by omega)
          have a3 : (i : Int) - 1 = i' := by omega
          have e6 : decide (0 < i) = true := decide_eq_true (by omega)
          have e7 : decide ((0 : Int) < i) = true := decide_eq_true (by omega)
          replace hxi := Lib.hid hxi
          replace hi' := Lib.hid hi'
          clear hx0 hx1 hnx hz hxi' h0
          go_wp2_with fail
          go_quiet (fail)
          go_wp2_with fail
          go_loopw [8] (fun x wr => ∃ k n2 : Nat, x = .int .i64 k ∧ k ≤ i ∧ wr = w1.drewN n2) (fun x wr => i - (intOf x).toNat)
          case atStart => exact ⟨0, n + nq, rfl, Nat.zero_le _, by first | rfl | rw [World.drewN_drewN]⟩
          case round =>
            obtain ⟨k, n2, rfl, hk, rfl⟩ := hrel
            by_cases hlt2 : k < i
            · obtain ⟨y, hyk⟩ := get_some (l := L) (j := k) (by omega)
              have hyx := hnd2.out k i y mi hlt2 hyk hxi.out
              have r4 := hcell.out _ _ (nums_get hyk)
              have e5 : (y == (mi : Int)) = false := by rw [beq_eq_false_iff_ne]; exact hyx
              have hkl : k < L.length := by omega
              clear hyk hyx
              go_wp2_with fail
              go_quiet (fail)
              go_wp2_with fail
              go_roundw
              case rel => exact ⟨k + 1, n2 + nq, by go_num, by omega, by first | rfl | rw [World.drewN_drewN]⟩
              case measure => simp [intOf]; omega
            · obtain rfl : k = i := by omega
              go_wp2_with fail
              go_roundw
              case rel => exact ⟨k + 1, n2, by go_num, by omega, rfl⟩
              case measure => simp [intOf]; omega
      · obtain rfl : i = L.length := by omega
        have c5 := c5.out
        have c6 := c6.out
        have a1 := a1.out
        have B2 : Below w'.heap.size w' (w1.drewN n) := below_drewN b1 n
        have hend := hend.out
        clear hcell hcell1 hin hst hnd2 hll hll2 z0
        have e5 : B = (decide (y < 0) || decide ((l1.length : Int) ≤ y)) := hend
        clear hend
        have hpl : p < L.length := by have := hp.out; omega
        have a2 : IntKind.i64.wrap (p : Int) = p := IntWalk.i64_in _ (by omega)
        have a3 : (L.length : Int) - 1 = p := by have := hp.out; omega
        replace hp := Lib.hid hp
        clear a1
        by_cases y0 : y < 0
        · have e6 : decide (y < 0) = true := decide_eq_true y0
          obtain rfl : B = true := by rw [e5, e6]; rfl
          clear e5
          go_wp2_with (go_at_call 7; refine (live_any _).mono ?_; rintro e w5 ⟨rfl, hf⟩)
          go_ret
          exact ⟨rfl, B2.trans (hf.mono B2.size)⟩
        · have e6 : decide (y < 0) = false := decide_eq_false y0
          by_cases y1 : (l1.length : Int) ≤ y
          · have e7 : decide ((l1.length : Int) ≤ y) = true := decide_eq_true y1
            obtain rfl : B = true := by rw [e5, e6, e7]; rfl
            clear e5
            go_wp2_with (go_at_call 7; refine (live_any _).mono ?_; rintro e w5 ⟨rfl, hf⟩)
            go_ret
            exact ⟨rfl, B2.trans (hf.mono B2.size)⟩
          · have e7 : decide ((l1.length : Int) ≤ y) = false := decide_eq_false y1
            obtain rfl : B = false := by rw [e5, e6, e7]; rfl
            clear e5
            go_wp2_with (go_at_call 7; refine (live_any _).mono ?_; rintro e w5 ⟨rfl, hf⟩)
            go_ret
            exact ⟨rfl, B2.trans (hf.mono B2.size)⟩
  · obtain ⟨rfl, rfl⟩ := hL.out ha
    have B1 := b1
    clear hL q1 q2
    by_cases h0 : a0 < 0
    · have e1 : decide (a0 < 0) = true := decide_eq_true h0
      replace ha := Lib.hid ha
      go_wp2_with (go_at_call 7; refine (live_any _).mono ?_; rintro e w2 ⟨rfl, hf⟩)
      go_ret
      exact ⟨rfl, B1.trans (hf.mono B1.size)⟩
    · have e1 : decide (a0 < 0) = false := decide_eq_false h0
      have e2 : decide ((l1.length : Int) ≤ a0) = true := decide_eq_true (by omega)
      replace ha := Lib.hid ha
      go_wp2_with (go_at_call 7; refine (live_any _).mono ?_; rintro e w2 ⟨rfl, hf⟩)
      go_ret
      exact ⟨rfl, B1.trans (hf.mono B1.size)⟩
end Go.Proofs.Yteopnaacmpcbnaa
