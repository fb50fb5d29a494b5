/-
  The document's Parts: its walk. Condition: the wires that came in are read; they are not very many.
-/
import Derived.Test.YteopnaacmpcbnaaG
namespace Go.Proofs.Yteopnaacmpcbnaa
open Go.RowKit
set_option linter.unusedVariables false
set_option linter.unusedSimpArgs false

theorem below_drewN {B : Nat} {w w' : World} (h : Below B w w') (n : Nat) : Below B w (w'.drewN n) := ⟨h.os, h.tape, h.output, h.size, h.block⟩
set_option maxRecDepth 100000 in
set_option maxHeartbeats 3200000 in
theorem RParts_bad {w : World} {v : Value} {ws : List Wire} (h : Rw w (fun b => w.heap.size ≤ b) v ws) (n : Int) (hn : ¬ (1 ≤ n ∧ n ≤ 8)) :
    Calls Try.prog 14 #[.int .i64 n, v] w fun e w' => e = .returned (.slice none 0 0) ∧ w' = w := by
  obtain ⟨A, c, rfl, hc1, hc2⟩ := h.head
  clear h
  by_cases h1 : n < 1
  · have e1 : decide (n < 1) = true := decide_eq_true h1
    go_enter Try.func14, Try.ntmps14
    go_wp2
    go_ret
    exact ⟨rfl, rfl⟩
  · have e1 : decide (n < 1) = false := decide_eq_false h1
    have e2 : decide (8 < n) = true := decide_eq_true (by omega)
    replace hn := Lib.hid hn
    go_enter Try.func14, Try.ntmps14
    go_wp2
    go_ret
    exact ⟨rfl, rfl⟩
set_option maxRecDepth 100000 in
set_option maxHeartbeats 6400000 in
theorem RParts_ok {w : World} {v : Value} {ws : List Wire} (h : Rw w (fun b => w.heap.size ≤ b) v ws) (hl : ws.length ≤ 1000000) (m : Nat) (hm1 : 1 ≤ m) (hm8 : m ≤ 8) :
    Calls Try.prog 14 #[.int .i64 m, v] w fun e w' => ∃ v', e = .returned v' ∧ Op m w' v' (rprs m ws) ∧ Lo w.heap.size v' ∧ Below w.heap.size w w' := by
  obtain ⟨A, c, rfl, hc1, hc2⟩ := h.head
  replace h := Lib.hid h
  have em1 : decide ((m : Int) < 1) = false := decide_eq_false (by omega)
  have em8 : decide (8 < (m : Int)) = false := decide_eq_false (by omega)
  go_enter Try.func14, Try.ntmps14
  go_wp2
  clear em1 em8
  go_loopw [5, 6] (fun u x wr => ∃ j : Nat, x = .int .i64 j ∧ j ≤ m ∧ Op j wr u (ids j) ∧ Lo w.heap.size u ∧ Below w.heap.size w wr) (fun u x wr => m - (intOf x).toNat)
  case atStart => exact ⟨0, rfl, Nat.zero_le _, own_nil _ _ _, Lo.nil _, Below.refl _ _⟩
  case round =>
    obtain ⟨j, rfl, hj, ho, lo, bel⟩ := hrel
    by_cases hlt : j < m
    · obtain ⟨A1, c1, rfl, hd1, hd2⟩ := own_slice ho
      go_wp2_with (at_builtin; refine wpList_app1 rfl (.tmp 23) (.tmp 25) 22 rfl Try.underlying22 Try.info3 rfl (by decide) (by decide) [.int .i64 j] rfl (nums_one .i64 [(j : Int)]) rfl ho rfl (by omega) ?_; intro v' w2 ho2 hn2 hf2)
      have ho3 : Op (j + 1) w2 v' (ids (j + 1)) := by
        have := ho2
        rw [show nums .i64 (ids j) ++ [Value.int .i64 j] = nums .i64 (ids (j + 1)) from by rw [ids_succ]; exact nums_append .i64 _ [(j : Int)]] at this
        exact this
      have bel2 := bel.trans (hf2.belowB lo bel.size)
      have lo2 := lo.next hn2 bel.size
      clear ho ho2 hf2 hn2
      go_roundw
      case rel => exact ⟨j + 1, by go_num, by omega, ho3, lo2, bel2⟩
      case measure => simp [intOf]; omega
    · obtain rfl : j = m := by omega
      obtain ⟨A1, c1, rfl, hd1, hd2⟩ := own_slice ho
      obtain ⟨k0, rfl, -, hk0, -⟩ := own_at ho (by omega)
      have lok : w.heap.size ≤ k0 := lo k0 rfl
      go_wp2_with fail
      go_loopw [7] (fun x w1 => ∃ r : Nat, x = .int .i64 r ∧ r ≤ j ∧ Op j w1 (.slice (some ⟨k0, 0, none⟩) j c1) (rrep j ws r) ∧ Below w.heap.size w w1) (fun x w1 => j - (intOf x).toNat)
      case atStart => exact ⟨0, rfl, Nat.zero_le _, ho, bel⟩
      case round =>
        clear ho bel hk0
        obtain ⟨r, rfl, hr, ho, bel⟩ := hrel
        by_cases hlt2 : r < j
        · go_wp2_with fail
          go_loopw [8] (fun x w2 => ∃ i : Nat, x = .int .i64 i ∧ i ≤ ws.length ∧ Op j w2 (.slice (some ⟨k0, 0, none⟩) j c1) (rround j ws (ws.take i) (rrep j ws r)) ∧ Below w.heap.size w w2) (fun x w2 => ws.length - (intOf x).toNat)
          case atStart => exact ⟨0, rfl, Nat.zero_le _, ho, bel⟩
          case round =>
            clear ho bel
            obtain ⟨i, rfl, hi, ho, bel⟩ := hrel
            by_cases hlt3 : i < ws.length
            · obtain ⟨⟨a, ai, s1⟩, hx⟩ := get_some hlt3
              have hst : rround j ws (ws.take (i + 1)) (rrep j ws r) = rin j (a, ai, s1) ws (rround j ws (ws.take i) (rrep j ws r)) := by
                unfold rround; rw [take_snoc hx, List.foldl_append]; rfl
              replace hst := Lib.hid hst
              generalize hout : rround j ws (ws.take i) (rrep j ws r) = out at ho hst
              clear hout
              replace hx := Lib.hid hx
              go_wp2_with fail
              go_loopw [9] (fun x w3 => ∃ k : Nat, x = .int .i64 k ∧ k ≤ ws.length ∧ Op j w3 (.slice (some ⟨k0, 0, none⟩) j c1) (rin j (a, ai, s1) (ws.take k) out) ∧ Below w.heap.size w w3) (fun x w3 => ws.length - (intOf x).toNat)
              case atStart => exact ⟨0, rfl, Nat.zero_le _, ho, bel⟩
              case round =>
                clear ho bel
                obtain ⟨k, rfl, hk, ho, bel⟩ := hrel
                by_cases hlt4 : k < ws.length
                · obtain ⟨⟨b, bi, s2⟩, hy⟩ := get_some hlt4
                  have hst2 : rin j (a, ai, s1) (ws.take (k + 1)) out = rstep j (a, ai, s1) (b, bi, s2) (rin j (a, ai, s1) (ws.take k) out) := by
                    unfold rin; rw [take_snoc hy, List.foldl_append]; rfl
                  generalize rin j (a, ai, s1) (ws.take k) out = o2 at ho hst2
                  obtain ⟨bk, o, rfl, -, -, -⟩ := h.out.at_ (by omega)
                  have hr := h.out.later bel
                  have c0 := hr.cells (wcs_get hx.out).1
                  have c2 := hr.cells (wcs_get hx.out).2.2
                  have d0 := hr.cells (wcs_get hy).1
                  have d2 := hr.cells (wcs_get hy).2.2
                  simp only at c0 c2 d0 d2
                  rw [← Nat.add_assoc] at c2 d2
                  clear hr hy
                  by_cases hc : okW j (a, ai, s1) ∧ okW j (b, bi, s2) ∧ s1 = s2
                  · obtain ⟨⟨ok1, ok2⟩, ⟨ok3, ok4⟩, ok5⟩ := id hc
                    simp only at ok1 ok2 ok3 ok4 ok5
                    have hst3 : Hid (rin j (a, ai, s1) (ws.take (k + 1)) out = (o2.set a.toNat (min (pf o2 a) (pf o2 b))).set b.toNat (min (pf o2 a) (pf o2 b))) := Lib.hid (by rw [hst2]; exact if_pos hc)
                    clear hst2 hc
                    subst ok5
                    obtain ⟨n1, rfl⟩ : ∃ n1 : Nat, a = n1 := ⟨a.toNat, by omega⟩
                    obtain ⟨n2, rfl⟩ : ∃ n2 : Nat, b = n2 := ⟨b.toNat, by omega⟩
                    have hn1 : n1 < j := by omega
                    have hn2 : n2 < j := by omega
                    have hpl : o2.length = j := Op.len ho
                    obtain ⟨a1, ha⟩ := get_some (l := o2) (j := n1) (by omega)
                    obtain ⟨b1, hb⟩ := get_some (l := o2) (j := n2) (by omega)
                    obtain ⟨mn, hmn⟩ : ∃ mn, (if b1 < a1 then b1 else a1) = mn := ⟨_, rfl⟩
                    have hmin : min a1 b1 = mn := by rw [← hmn]; omega
                    rw [pf_get ha, pf_get hb, hmin, Int.toNat_natCast, Int.toNat_natCast] at hst3
                    obtain ⟨kk, hkk, -, hkl, hcell, hfz, hset⟩ := own_at ho (by omega)
                    obtain rfl : k0 = kk := by injection hkk with hkk; injection hkk
                    have q1 := hcell _ _ (nums_get ha)
                    have q2 := hcell _ _ (nums_get hb)
                    replace ha := Lib.hid ha
                    replace hb := Lib.hid hb
                    replace hmin := Lib.hid hmin
                    replace hpl := Lib.hid hpl
                    clear hcell hfz hset hkk ok1 ok2 ok3 ok4
                    go_wp2_with fail
                    go_quiet (fail)
                    go_wp2_with fail
                    go_quiet (fail)
                    go_wp2_with fail
                    refine wp_region_tail 12 (by kernel_rfl) (by kernel_rfl) ?_
                    intro w5 hw5
                    have o5 : Op j w5 (.slice (some ⟨k0, 0, none⟩) j c1) o2 := by rw [hw5]; exact own_fr ho ((((Fr.refl (fun _ => False) _).drewN _).drewN _).drew) (fun _ _ h => h)
                    have bel5 : Below w.heap.size w w5 := by rw [hw5]; exact ⟨bel.os, bel.tape, bel.output, bel.size, bel.block⟩
                    clear hw5 ho bel c0 c2 d0 d2 q1 q2
                    obtain ⟨kk, hkk, -, hkl, hcell, hfz, hset⟩ := own_at o5 (by omega)
                    obtain rfl : k0 = kk := by injection hkk with hkk; injection hkk
                    have q1 := hcell _ _ (nums_get ha.out)
                    have q2 := hcell _ _ (nums_get hb.out)
                    have f1 := hfz n1
                    have f2 := hfz n2
                    have o6 := hset n1 (.int .i64 mn) (by omega)
                    rw [nums_set] at o6
                    have g1 : Fr (fun b => b = k0) w5 (w5.setCell ⟨k0, n1, none⟩ (.int .i64 mn)) := Fr.setCell (S := fun b => b = k0) (Fr.refl _ w5) (p := ⟨k0, n1, none⟩) (.inl rfl) _
                    obtain ⟨kk, hkk, -, hkl2, -, -, hset2⟩ := own_at o6 (by omega)
                    obtain rfl : k0 = kk := by injection hkk with hkk; injection hkk
                    have o7 := hset2 n2 (.int .i64 mn) (by omega)
                    rw [nums_set] at o7
                    have g2 : Fr (fun b => b = k0) w5 ((w5.setCell ⟨k0, n1, none⟩ (.int .i64 mn)).setCell ⟨k0, n2, none⟩ (.int .i64 mn)) := g1.setCell (p := ⟨k0, n2, none⟩) (.inl rfl) _
                    have bel7 := bel5.trans (g2.belowS (fun b hb => by rw [hb]; exact lok) bel5.size)
                    clear hcell hfz hset hset2 hkk g1 g2 o6 o5 hkl hkl2
                    simp only [List.take_succ_cons, List.take_zero, List.drop_succ_cons, List.drop_zero]
                    repeat still_step
                    refine wpStill_nil ?_
                    by_cases hnn : n1 = n2
                    · subst hnn
                      go_wp2_with fail
                      go_roundw
                      case rel => exact ⟨k + 1, by go_num, by omega, by rw [hst3.out]; exact o7, bel7⟩
                      case measure => simp [intOf]; omega
                    · have hnn' : ¬ n2 = n1 := fun h => hnn h.symm
                      go_wp2_with fail
                      go_roundw
                      case rel => exact ⟨k + 1, by go_num, by omega, by rw [hst3.out]; exact o7, bel7⟩
                      case measure => simp [intOf]; omega
                  · have hst3 : Hid (rin j (a, ai, s1) (ws.take (k + 1)) out = o2) := Lib.hid (by rw [hst2]; exact if_neg hc)
                    replace hc := Lib.hid hc
                    clear hst2
                    by_cases k1 : a < 0
                    · have e1 : decide (a < 0) = true := decide_eq_true k1
                      go_wp2_with fail
                      go_quiet (fail)
                      go_wp2_with fail
                      go_quiet (fail)
                      go_wp2_with fail
                      go_roundw
                      case rel => exact ⟨k + 1, by go_num, by omega, by rw [hst3.out]; exact own_drewN ho _, below_drewN bel _⟩
                      case measure => simp [intOf]; omega
                    · have e1 : decide (a < 0) = false := decide_eq_false k1
                      by_cases k2 : (j : Int) ≤ a
                      · have e2 : decide ((j : Int) ≤ a) = true := decide_eq_true k2
                        go_wp2_with fail
                        go_quiet (fail)
                        go_wp2_with fail
                        go_quiet (fail)
                        go_wp2_with fail
                        go_roundw
                        case rel => exact ⟨k + 1, by go_num, by omega, by rw [hst3.out]; exact own_drewN ho _, below_drewN bel _⟩
                        case measure => simp [intOf]; omega
                      · have e2 : decide ((j : Int) ≤ a) = false := decide_eq_false k2
                        by_cases k3 : b < 0
                        · have e3 : decide (b < 0) = true := decide_eq_true k3
                          go_wp2_with fail
                          go_quiet (fail)
                          go_wp2_with fail
                          go_quiet (fail)
                          go_wp2_with fail
                          go_roundw
                          case rel => exact ⟨k + 1, by go_num, by omega, by rw [hst3.out]; exact own_drewN ho _, below_drewN bel _⟩
                          case measure => simp [intOf]; omega
                        · have e3 : decide (b < 0) = false := decide_eq_false k3
                          by_cases k4 : (j : Int) ≤ b
                          · have e4 : decide ((j : Int) ≤ b) = true := decide_eq_true k4
                            go_wp2_with fail
                            go_quiet (fail)
                            go_wp2_with fail
                            go_quiet (fail)
                            go_wp2_with fail
                            go_roundw
                            case rel => exact ⟨k + 1, by go_num, by omega, by rw [hst3.out]; exact own_drewN ho _, below_drewN bel _⟩
                            case measure => simp [intOf]; omega
                          · have e4 : decide ((j : Int) ≤ b) = false := decide_eq_false k4
                            have e5 : (s1 == s2) = false := by
                              rw [beq_eq_false_iff_ne]
                              exact fun h => hc.out ⟨⟨by show 0 ≤ a; omega, by show a < j; omega⟩, ⟨by show 0 ≤ b; omega, by show b < j; omega⟩, h⟩
                            go_wp2_with fail
                            go_quiet (fail)
                            go_wp2_with fail
                            go_quiet (fail)
                            go_wp2_with fail
                            go_roundw
                            case rel => exact ⟨k + 1, by go_num, by omega, by rw [hst3.out]; exact own_drewN ho _, below_drewN bel _⟩
                            case measure => simp [intOf]; omega
                · obtain rfl : k = ws.length := by omega
                  rw [List.take_length, ← hst.out] at ho
                  clear hst
                  go_wp2_with fail
                  go_roundw
                  case rel => exact ⟨i + 1, by go_num, by omega, ho, bel⟩
                  case measure => simp [intOf]; omega
            · obtain rfl : i = ws.length := by omega
              rw [List.take_length] at ho
              go_wp2_with fail
              go_roundw
              case rel => exact ⟨r + 1, by go_num, by omega, ho, bel⟩
              case measure => simp [intOf]; omega
        · obtain rfl : r = j := by omega
          go_wp2_with fail
          go_ret
          exact ⟨_, rfl, ho, lo, bel⟩
end Go.Proofs.Yteopnaacmpcbnaa
