/-
  Loop, the program's and the document's: their walks. Condition: the list that came in is read; it is not very long.
-/
import Derived.Test.YteopnaacmpcbnaaC
namespace Go.Proofs.Yteopnaacmpcbnaa
open Go.RowKit
set_option linter.unusedVariables false
set_option linter.unusedSimpArgs false

/-- What a loop's call comes to. -/
def LoopQ (w : World) (nx : List Int) (e : Ending) (w' : World) : Prop := ∃ l b v', e = .returned (.tuple #[v', .bool b]) ∧ LoopR nx l b ∧ Oi w' v' l ∧ Lo w.heap.size v' ∧ Below w.heap.size w w'
set_option maxRecDepth 100000 in
set_option maxHeartbeats 3200000 in
theorem Loop_any {w : World} {v : Value} {nx : List Int} (h : Ri w (fun b => w.heap.size ≤ b) v nx) (hl : nx.length ≤ 1000000) :
    Calls Try.prog 8 #[v] w (LoopQ w nx) := by
  obtain ⟨A, c, rfl, hc1, hc2⟩ := h.head
  replace h := Lib.hid h
  go_enter Try.func8, Try.ntmps8
  go_wp2
  go_loopw [9] (fun x wr => ∃ j : Nat, x = .int .i64 j ∧ j ≤ nx.length ∧ Hid (∀ i : Nat, i < j → ¬ Circ nx i) ∧ Below w.heap.size w wr) (fun x wr => nx.length - (intOf x).toNat)
  case atStart => exact ⟨0, rfl, Nat.zero_le _, Lib.hid (fun i hi => by omega), Below.refl _ _⟩
  case round =>
    obtain ⟨j, rfl, hj, hno, bel⟩ := hrel
    by_cases hlt : j < nx.length
    · obtain ⟨b, o, rfl, -, -, -⟩ := h.out.at_ (by omega)
      have h1 := h.out.later bel
      have HC := Chain_any (h1.mono (fun b hb => Nat.le_trans bel.size hb)) j hl
      replace h1 := Lib.hid h1
      go_wp2_with fail
      refine HC.mono ?_
      rintro e w1 ⟨l, b1, v1, rfl, hch, ho, lo, bel1⟩
      clear HC
      have bel2 := bel.trans (bel1.mono bel.size)
      have h2 := Lib.hid (h1.out.later (bel1.mono bel.size))
      replace hch := Lib.hid hch
      have lo2 := lo.mono bel.size
      obtain ⟨A1, c1, rfl, hd1, hd2⟩ := own_slice ho
      cases b1 with
      | true =>
        go_wp2_with fail
        go_roundw
        case rel => exact ⟨j + 1, by go_num, by omega, Lib.hid (fun i hi => by
          by_cases hij : i < j
          · exact hno.out i hij
          · obtain rfl : i = j := by omega
            rintro ⟨l2, hc2, -⟩
            have := (hch.out.unique hc2).2
            cases this), bel2⟩
        case measure => simp [intOf]; omega
      | false =>
        have hl0 := hch.out.ne (by omega) (by omega)
        have hll := hch.out.len
        obtain ⟨k, rfl, -, -, hcell, -, -⟩ := own_at ho hl0
        have hin := hch.out.inr _ (List.mem_of_getElem? (lastv_get hl0))
        have hq := hcell _ _ (nums_get (lastv_get hl0))
        obtain ⟨p, hp⟩ : ∃ p, l.length = p + 1 := ⟨l.length - 1, by omega⟩
        rw [hp] at hq hd1 hll ⊢
        rw [Nat.add_sub_cancel] at hq
        have a1 : ((p : Int) + 1) - 1 = p := by omega
        generalize hy : lastv l = y at hq hin
        obtain ⟨m, rfl⟩ : ∃ m : Nat, y = m := ⟨y.toNat, by omega⟩
        obtain ⟨z, hz⟩ := get_some (l := nx) (j := m) (by omega)
        have hcz := h2.out.cells (nums_get hz)
        have hml : m < nx.length := by omega
        have hz2 : Hid (nx.getD (lastv l).toNat 0 = z) := Lib.hid (by rw [hy, Int.toNat_natCast, List.getD_eq_getElem?_getD, hz]; rfl)
        replace hp := Lib.hid hp
        have hno' := hno
        clear hcell hy hz hin hl0 hno
        by_cases hzj : z = j
        · subst hzj
          go_wp2_with fail
          go_ret2
          refine ⟨l, true, _, ?_, .inl ⟨j, by omega, hch.out, hz2.out, rfl, hno'.out⟩, ho, lo2, bel2⟩
          rw [hp.out]; rfl
        · have hb : (z == (j : Int)) = false := by simp [hzj]
          replace hzj := Lib.hid hzj
          go_wp2_with fail
          go_roundw
          case rel => exact ⟨j + 1, by go_num, by omega, Lib.hid (fun i hi => by
            by_cases hij : i < j
            · exact hno'.out i hij
            · obtain rfl : i = j := by omega
              rintro ⟨l2, hc2, he2⟩
              obtain ⟨rfl, -⟩ := hch.out.unique hc2
              exact hzj.out (hz2.out.symm.trans he2)), bel2⟩
          case measure => simp [intOf]; omega
    · obtain rfl : j = nx.length := by omega
      go_wp2_with fail
      go_ret2
      exact ⟨[], false, _, rfl, .inr ⟨rfl, rfl, hno.out⟩, own_nil _ _ _, Lo.nil _, bel⟩

set_option maxRecDepth 100000 in
set_option maxHeartbeats 3200000 in
theorem RLoop_any {w : World} {v : Value} {nx : List Int} (h : Ri w (fun b => w.heap.size ≤ b) v nx) (hl : nx.length ≤ 1000000) :
    Calls Try.prog 9 #[v] w (LoopQ w nx) := by
  obtain ⟨A, c, rfl, hc1, hc2⟩ := h.head
  replace h := Lib.hid h
  go_enter Try.func9, Try.ntmps9
  go_wp2
  go_loopw [4] (fun x wr => ∃ j : Nat, x = .int .i64 j ∧ j ≤ nx.length ∧ Hid (∀ i : Nat, i < j → ¬ Circ nx i) ∧ Below w.heap.size w wr) (fun x wr => nx.length - (intOf x).toNat)
  case atStart => exact ⟨0, rfl, Nat.zero_le _, Lib.hid (fun i hi => by omega), Below.refl _ _⟩
  case round =>
    obtain ⟨j, rfl, hj, hno, bel⟩ := hrel
    by_cases hlt : j < nx.length
    · obtain ⟨b, o, rfl, -, -, -⟩ := h.out.at_ (by omega)
      have h1 := h.out.later bel
      have HC := RChain_any (h1.mono (fun b hb => Nat.le_trans bel.size hb)) j hl
      replace h1 := Lib.hid h1
      go_wp2_with fail
      refine HC.mono ?_
      rintro e w1 ⟨l, b1, v1, rfl, hch, ho, lo, bel1⟩
      clear HC
      have bel2 := bel.trans (bel1.mono bel.size)
      have h2 := Lib.hid (h1.out.later (bel1.mono bel.size))
      replace hch := Lib.hid hch
      have lo2 := lo.mono bel.size
      obtain ⟨A1, c1, rfl, hd1, hd2⟩ := own_slice ho
      cases b1 with
      | true =>
        go_wp2_with fail
        go_roundw
        case rel => exact ⟨j + 1, by go_num, by omega, Lib.hid (fun i hi => by
          by_cases hij : i < j
          · exact hno.out i hij
          · obtain rfl : i = j := by omega
            rintro ⟨l2, hc2, -⟩
            have := (hch.out.unique hc2).2
            cases this), bel2⟩
        case measure => simp [intOf]; omega
      | false =>
        have hl0 := hch.out.ne (by omega) (by omega)
        have hll := hch.out.len
        obtain ⟨k, rfl, -, -, hcell, -, -⟩ := own_at ho hl0
        have hin := hch.out.inr _ (List.mem_of_getElem? (lastv_get hl0))
        have hq := hcell _ _ (nums_get (lastv_get hl0))
        obtain ⟨p, hp⟩ : ∃ p, l.length = p + 1 := ⟨l.length - 1, by omega⟩
        rw [hp] at hq hd1 hll ⊢
        rw [Nat.add_sub_cancel] at hq
        have a1 : ((p : Int) + 1) - 1 = p := by omega
        generalize hy : lastv l = y at hq hin
        obtain ⟨m, rfl⟩ : ∃ m : Nat, y = m := ⟨y.toNat, by omega⟩
        obtain ⟨z, hz⟩ := get_some (l := nx) (j := m) (by omega)
        have hcz := h2.out.cells (nums_get hz)
        have hml : m < nx.length := by omega
        have hz2 : Hid (nx.getD (lastv l).toNat 0 = z) := Lib.hid (by rw [hy, Int.toNat_natCast, List.getD_eq_getElem?_getD, hz]; rfl)
        replace hp := Lib.hid hp
        have hno' := hno
        clear hcell hy hz hin hl0 hno
        by_cases hzj : z = j
        · subst hzj
          go_wp2_with fail
          go_ret2
          refine ⟨l, true, _, ?_, .inl ⟨j, by omega, hch.out, hz2.out, rfl, hno'.out⟩, ho, lo2, bel2⟩
          rw [hp.out]; rfl
        · have hb : (z == (j : Int)) = false := by simp [hzj]
          replace hzj := Lib.hid hzj
          go_wp2_with fail
          go_roundw
          case rel => exact ⟨j + 1, by go_num, by omega, Lib.hid (fun i hi => by
            by_cases hij : i < j
            · exact hno'.out i hij
            · obtain rfl : i = j := by omega
              rintro ⟨l2, hc2, he2⟩
              obtain ⟨rfl, -⟩ := hch.out.unique hc2
              exact hzj.out (hz2.out.symm.trans he2)), bel2⟩
          case measure => simp [intOf]; omega
    · obtain rfl : j = nx.length := by omega
      go_wp2_with fail
      go_ret2
      exact ⟨[], false, _, rfl, .inr ⟨rfl, rfl, hno.out⟩, own_nil _ _ _, Lo.nil _, bel⟩
end Go.Proofs.Yteopnaacmpcbnaa
