/-
  Lists of whole numbers: whether one is in, whether two are one. Condition: the lists are read.
-/
import Derived.Test.YteopnaacmpcbnaaA
namespace Go.Proofs.Yteopnaacmpcbnaa
open Go.RowKit
set_option linter.unusedVariables false
set_option linter.unusedSimpArgs false

/-- The slice value v reads as the whole numbers l. -/
abbrev Ri (w : World) (S : Nat → Prop) (v : Value) (l : List Int) : Prop := Row w S 1 v l.length (nums .i64 l)
/-- .. and is the call's own. -/
abbrev Oi (w : World) (v : Value) (l : List Int) : Prop := w.ownsRow 0 3 1 v l.length (nums .i64 l)
theorem nums_get {k : IntKind} {l : List Int} {j : Nat} {y : Int} (h : l[j]? = some y) : (nums k l)[j]? = some (.int k y) := by simp [nums, h]
theorem take_snoc {α : Type} {l : List α} {j : Nat} {y : α} (h : l[j]? = some y) : l.take (j + 1) = l.take j ++ [y] := by
  obtain ⟨hj, rfl⟩ := List.getElem?_eq_some_iff.1 h
  exact List.take_succ_eq_append_getElem hj
theorem Try.info3 : (Try.prog.info? 3).map (fun i => (i.zero, i.size, i.bytes)) = some (some (.int .i64 0), 1, 8) := by kernel_rfl
theorem get_some {α : Type} {l : List α} {j : Nat} (h : j < l.length) : ∃ y, l[j]? = some y := ⟨_, List.getElem?_eq_getElem h⟩

set_option maxRecDepth 100000 in
set_option maxHeartbeats 800000 in
theorem Index_any {w : World} {S : Nat → Prop} {v : Value} {l : List Int} (h : Ri w S v l) (x : Int) :
    Calls Try.prog 17 #[v, .int .i64 x] w fun e w' => ∃ k : Int, e = .returned (.int .i64 k) ∧ (0 ≤ k ↔ x ∈ l) ∧ w' = w := by
  obtain ⟨A, c, rfl, hc1, hc2⟩ := h.head
  replace h := Lib.hid h
  go_enter Try.func17, Try.ntmps17
  go_wp2
  go_loopw [8] (fun i wr => ∃ j : Nat, j ≤ l.length ∧ i = .int .i64 j ∧ wr = w ∧ Hid (x ∉ l.take j)) (fun i _ => l.length - (intOf i).toNat)
  case atStart => exact ⟨0, Nat.zero_le _, rfl, rfl, Lib.hid (by simp)⟩
  case round =>
    obtain ⟨j, hj, rfl, rfl, hn⟩ := hrel
    by_cases hlt : j < l.length
    · obtain ⟨b, o, rfl, -, -, hcell⟩ := h.out.at_ (by omega)
      obtain ⟨y, hy⟩ := get_some hlt
      have hc := hcell j _ (nums_get hy)
      replace hy := Lib.hid hy
      clear hcell
      by_cases hxy : x = y
      · subst hxy
        have hin : x ∈ l := List.mem_of_getElem? hy.out
        replace hin := Lib.hid hin
        go_wp2
        go_ret
        exact ⟨_, rfl, ⟨fun _ => hin.out, fun _ => by omega⟩, rfl⟩
      · have hb : (x == y) = false := by simp [hxy]
        go_wp2
        go_roundw
        case rel => exact ⟨j + 1, by omega, by go_num, by first | rfl | trivial, Lib.hid (by rw [take_snoc hy.out]; simp [hn.out, hxy])⟩
        case measure => simp [intOf]; omega
    · obtain rfl : j = l.length := by omega
      have hn2 : Hid (x ∉ l) := Lib.hid (by simpa using hn.out)
      clear hn
      go_wp2
      go_ret
      exact ⟨_, rfl, ⟨fun h => by omega, fun h => absurd h hn2.out⟩, rfl⟩
set_option maxRecDepth 100000 in
set_option maxHeartbeats 800000 in
theorem Contains_any {w : World} {S : Nat → Prop} {v : Value} {l : List Int} (h : Ri w S v l) (x : Int) :
    Calls Try.prog 15 #[v, .int .i64 x] w fun e w' => e = .returned (.bool (decide (x ∈ l))) ∧ w' = w := by
  obtain ⟨A, c, rfl, hc1, hc2⟩ := h.head
  have H := Index_any h x
  clear h
  generalize hq : decide (x ∈ l) = q
  replace hq := Lib.hid hq
  go_enter Try.func15, Try.ntmps15
  go_wp2_with fail
  refine H.mono ?_
  rintro e w1 ⟨k, rfl, h1, rfl⟩
  have e1 : decide (0 ≤ k) = q := by rw [← hq.out, decide_eq_decide]; exact h1
  replace h1 := Lib.hid h1
  clear H
  go_wp2_with fail
  go_ret
  exact ⟨rfl, rfl⟩
set_option maxRecDepth 100000 in
set_option maxHeartbeats 800000 in
theorem in_any {w : World} {S : Nat → Prop} {v : Value} {l : List Int} (h : Ri w S v l) (x : Int) :
    Calls Try.prog 16 #[v, .int .i64 x] w fun e w' => e = .returned (.bool (decide (x ∈ l))) ∧ w' = w := by
  obtain ⟨A, c, rfl, hc1, hc2⟩ := h.head
  replace h := Lib.hid h
  generalize hq : decide (x ∈ l) = q
  replace hq := Lib.hid hq
  go_enter Try.func16, Try.ntmps16
  go_wp2
  go_loopw [5] (fun i wr => ∃ j : Nat, j ≤ l.length ∧ i = .int .i64 j ∧ wr = w ∧ Hid (x ∉ l.take j)) (fun i _ => l.length - (intOf i).toNat)
  case atStart => exact ⟨0, Nat.zero_le _, rfl, rfl, Lib.hid (by simp)⟩
  case round =>
    obtain ⟨j, hj, rfl, rfl, hn⟩ := hrel
    by_cases hlt : j < l.length
    · obtain ⟨b, o, rfl, -, -, hcell⟩ := h.out.at_ (by omega)
      obtain ⟨y, hy⟩ := get_some hlt
      have hc := hcell j _ (nums_get hy)
      replace hy := Lib.hid hy
      clear hcell
      by_cases hxy : y = x
      · subst hxy
        have hin : y ∈ l := List.mem_of_getElem? hy.out
        obtain rfl : true = q := by rw [← hq.out]; exact (decide_eq_true hin).symm
        clear hin
        go_wp2
        go_ret
        exact ⟨rfl, rfl⟩
      · have hb : (y == x) = false := by simp [hxy]
        go_wp2
        go_roundw
        case rel => exact ⟨j + 1, by omega, by go_num, by first | rfl | trivial, Lib.hid (by rw [take_snoc hy.out]; simp [hn.out]; exact fun h => hxy h.symm)⟩
        case measure => simp [intOf]; omega
    · obtain rfl : j = l.length := by omega
      have hn2 : x ∉ l := by simpa using hn.out
      obtain rfl : false = q := by rw [← hq.out]; exact (decide_eq_false hn2).symm
      clear hn hn2
      go_wp2
      go_ret
      exact ⟨rfl, rfl⟩
set_option maxRecDepth 100000 in
set_option maxHeartbeats 1600000 in
theorem Ints_any {w : World} {S S' : Nat → Prop} {v v2 : Value} {l m : List Int} (h : Ri w S v l) (h2 : Ri w S' v2 m) :
    Calls Try.prog 12 #[v, v2] w fun e w' => e = .returned (.bool (decide (l = m))) ∧ ∃ n, w' = w.drewN n := by
  obtain ⟨A, c, rfl, hc1, hc2⟩ := h.head
  obtain ⟨A2, c2, rfl, hd1, hd2⟩ := h2.head
  generalize hq : decide (l = m) = q
  replace hq := Lib.hid hq
  replace h := Lib.hid h
  replace h2 := Lib.hid h2
  by_cases hlen : l.length = m.length
  · go_enter Try.func12, Try.ntmps12
    go_wp2
    go_loopw [5] (fun i wr => ∃ j n : Nat, j ≤ l.length ∧ i = .int .i64 j ∧ wr = w.drewN n ∧ Hid (l.take j = m.take j)) (fun i _ => l.length - (intOf i).toNat)
    case atStart => exact ⟨0, 0, Nat.zero_le _, rfl, rfl, Lib.hid (by simp)⟩
    case round =>
      obtain ⟨j, n, hj, rfl, rfl, hn⟩ := hrel
      by_cases hlt : j < l.length
      · obtain ⟨b, o, rfl, -, -, hcell⟩ := h.out.at_ (by omega)
        obtain ⟨b2, o2, rfl, -, -, hcell2⟩ := h2.out.at_ (by omega)
        obtain ⟨y, hy⟩ := get_some hlt
        obtain ⟨y2, hy2⟩ := get_some (l := m) (j := j) (by omega)
        have hc := hcell j _ (nums_get hy)
        have hcc := hcell2 j _ (nums_get hy2)
        replace hy := Lib.hid hy
        replace hy2 := Lib.hid hy2
        have hltm : j < m.length := by omega
        replace hlen := Lib.hid hlen
        clear hcell hcell2
        by_cases hxy : y = y2
        · subst hxy
          go_wp2_with fail
          go_quiet (fail)
          go_wp2_with fail
          go_roundw
          case rel => exact ⟨j + 1, n + nq, by omega, by go_num, by first | rfl | rw [World.drewN_drewN], Lib.hid (by rw [take_snoc hy.out, take_snoc hy2.out, hn.out])⟩
          case measure => simp [intOf]; omega
        · have hb : (y == y2) = false := by simp [hxy]
          have hne : l ≠ m := fun h => hxy (by subst h; have := hy.out.symm.trans hy2.out; injection this)
          obtain rfl : false = q := by rw [← hq.out]; exact (decide_eq_false hne).symm
          replace hxy := Lib.hid hxy
          replace hne := Lib.hid hne
          go_wp2_with fail
          go_quiet (fail)
          go_wp2_with fail
          go_ret
          exact ⟨rfl, n + nq, by first | rfl | rw [World.drewN_drewN]⟩
      · obtain rfl : j = l.length := by omega
        have heq : l = m := by have := hn.out; rw [hlen] at this; rw [List.take_length] at this; rw [← hlen, List.take_length] at this; exact this
        obtain rfl : true = q := by rw [← hq.out]; exact (decide_eq_true heq).symm
        clear heq hn
        go_wp2
        go_ret
        exact ⟨rfl, n, rfl⟩
  · have hne : l ≠ m := fun h => hlen (by rw [h])
    obtain rfl : false = q := by rw [← hq.out]; exact (decide_eq_false hne).symm
    have hb : (((l.length : Int)) == ((m.length : Int))) = false := by simp; omega
    replace hne := Lib.hid hne
    go_enter Try.func12, Try.ntmps12
    go_wp2
    go_ret
    exact ⟨rfl, 0, rfl⟩
end Go.Proofs.Yteopnaacmpcbnaa
