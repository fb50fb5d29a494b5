/-
  strconv.FormatUint at base 16, of a number of 16 bits. Condition: the variables hold what their initialisers laid.
-/
import Derived.Test.YtnljjlaececnkaaGreatDoorH
import Derived.Laws.BytesArg
import Derived.Laws.Bits64
import Derived.Laws.BitsLemmas
namespace Go.Proofs.YtnljjlaececnkaaGreatDoor
open Go.RowKit
set_option linter.unusedVariables false
set_option linter.unusedSimpArgs false
def digB : List UInt8 := [48, 49, 50, 51, 52, 53, 54, 55, 56, 57, 97, 98, 99, 100, 101, 102]
def dig (n : Nat) : UInt8 := digB.getD n 0
/-- A number in base 16. -/
def hexT (u : Nat) : List UInt8 := if h : u < 16 then [dig u] else hexT (u / 16) ++ [dig (u % 16)]
termination_by u
decreasing_by omega
theorem hexT_small {u : Nat} (h : u < 16) : hexT u = [dig u] := by rw [hexT, dif_pos h]
theorem hexT_big {u : Nat} (h : ¬ u < 16) : hexT u = hexT (u / 16) ++ [dig (u % 16)] := by rw [hexT, dif_neg h]
theorem dig_fin : ∀ f : Fin 16, (⟨#[48, 49, 50, 51, 52, 53, 54, 55, 56, 57, 97, 98, 99, 100, 101, 102, 103, 104, 105, 106, 107, 108, 109, 110, 111, 112, 113, 114, 115, 116, 117, 118, 119, 120, 121, 122]⟩ : ByteArray).data[f.val]? = some (dig f.val) := by decide
theorem dig_eq {m : Nat} (hm : m < 16) (h : m < (⟨#[48, 49, 50, 51, 52, 53, 54, 55, 56, 57, 97, 98, 99, 100, 101, 102, 103, 104, 105, 106, 107, 108, 109, 110, 111, 112, 113, 114, 115, 116, 117, 118, 119, 120, 121, 122]⟩ : ByteArray).size) : (⟨#[48, 49, 50, 51, 52, 53, 54, 55, 56, 57, 97, 98, 99, 100, 101, 102, 103, 104, 105, 106, 107, 108, 109, 110, 111, 112, 113, 114, 115, 116, 117, 118, 119, 120, 121, 122]⟩ : ByteArray)[m]'h = dig m := by
  have := dig_fin ⟨m, hm⟩
  rw [Array.getElem?_eq_getElem (show m < (⟨#[48, 49, 50, 51, 52, 53, 54, 55, 56, 57, 97, 98, 99, 100, 101, 102, 103, 104, 105, 106, 107, 108, 109, 110, 111, 112, 113, 114, 115, 116, 117, 118, 119, 120, 121, 122]⟩ : ByteArray).data.size from h)] at this
  exact Option.some.inj this
theorem and15 {v : Nat} (hv : v < 65536) : bits .and .u64 (v : Int) 15 = ((v % 16 : Nat) : Int) := by
  have w63 : ∀ n : Int, 0 ≤ n → n < 2 ^ 63 → IntKind.u64.wrap n = n := fun n h0 h1 => by rw [IntKind.wrap_u64]; omega
  have h := bits_mask .u64 63 (by decide) w63 4 (by decide) (v : Int) (by omega) (by omega)
  have e : ((2 : Int) ^ 4 - 1) = 15 := by decide
  have e2 : ((2 : Int) ^ 4) = 16 := by decide
  rw [e, e2] at h
  rw [h]; omega
set_option maxRecDepth 100000 in
set_option maxHeartbeats 400000 in
theorem tz_any {w : World} (h : w.cell? ⟨7, 15, none⟩ = some (.int .u8 4)) : Calls Tryz.prog 265 #[.int .u64 16] w fun e w' => e = .returned (.int .i64 4) ∧ w' = w := by
  have e1 : IntKind.u64.wrap (-16) = 18446744073709551600 := by decide
  have e2 : bits .and .u64 16 18446744073709551600 = 16 := by decide
  have e3 : IntKind.u64.wrap 4573923408821661840 = 4573923408821661840 := by decide
  go_enter Tryz.func265, Tryz.ntmps265
  go_wp2
  go_ret
  exact ⟨rfl, rfl⟩
theorem slice325 (W : World) (g : Nat) {k : Nat} (hk : k ≤ 64) : (Instr.sliceAt 325 (.pointer (some ⟨g, 0, none⟩)) (some (.int .i64 (k : Int))) none none).run Tryz.prog W = .ok (.slice (some ⟨g, k, none⟩) (65 - k) (65 - k)) W := by
  have a65 : Tryz.prog.arrayLen 325 = 65 := by kernel_rfl
  have e5 : Tryz.prog.elem 325 = 5 := by kernel_rfl
  have hs : (sizeOf 5).run Tryz.prog W = .ok 1 W := by kernel_rfl
  have h := run_sliceAt_array_l (P := Tryz.prog) W 325 ⟨g, 0, none⟩ (by kernel_rfl) .i64 (k : Int) (by omega) (by rw [a65]; omega)
  rw [h, e5, hs, a65]
  have h1 : 65 ≠ k := by omega
  simp [Result.andThen, slicedAt, h1, Addr.add]
  try omega
theorem ofNat_list (l : List UInt8) : (l.map fun c => (c.toNat : Int)).map (fun n => UInt8.ofNat n.toNat) = l := by
  induction l with
  | nil => rfl
  | cons c l ih => simp only [List.map_cons, ih]; simp
theorem conv_row {W : World} {g k : Nat} {cs : Array Value} {l : List UInt8} (hr : W.heap[g]? = some (.cells cs 325 (0, 0))) (hn : k + l.length = 65) (h : ∀ (j : Nat) c, l[j]? = some c → cs[k + j]? = some (.int .u8 (c.toNat : Int))) :
    (convert 150 9 (.slice (some ⟨g, k, none⟩) (65 - k) (65 - k))).run Tryz.prog W = .ok (.string ⟨l.toArray⟩) W := by
  rw [run_convert_bytes_arg W 150 5 Tryz.underlying150 Tryz.underlying5 g k (65 - k) (65 - k) (l.map fun c => (c.toNat : Int)) (by simp; omega) (fun i hi => ?_) 9 Tryz.underlying9]
  · unfold strOfNums; rw [ofNat_list]
  · obtain ⟨c, hc⟩ := get_some (l := l) (j := i) (by omega)
    rw [row_cell hr, h i c hc, List.getD_eq_getElem?_getD, List.getElem?_map, hc]; rfl
set_option maxRecDepth 100000 in
set_option maxHeartbeats 800000 in
theorem fmt_any {w : World} (E : Env w) {u : Nat} (hu : u < 65536) : Calls Tryz.prog 222 #[.slice none 0 0, .int .u64 u, .int .i64 16, .bool false, .bool false] w fun e w' => (∃ v, e = .returned (.tuple #[v, .string ⟨(hexT u).toArray⟩])) ∧ Below w.heap.size w w' := by
  have htz : ∀ W, Below w.heap.size w W → Calls Tryz.prog 265 #[.int .u64 16] W fun e w' => e = .returned (.int .i64 4) ∧ w' = W := fun W hW => tz_any (E.go hW).1.tz
  go_enter Tryz.func222, Tryz.ntmps222
  go_wp2_with (first | (go_at_call 265; refine (htz _ ((Below.refl _ _).alloc (Nat.le_refl _) _)).mono ?_; rintro e w1 ⟨rfl, rfl⟩) | go_in)
  have zsz : (Tryz.zeroCells325).size = 65 := by kernel_rfl
  go_loopw [1, 13] (fun xu xi wr => ∃ (v k : Nat) (acc : List UInt8) (cs : Array Value), xu = .int .u64 v ∧ xi = .int .i64 ((k : Int) + 1) ∧ k + acc.length = 64 ∧ acc.length ≤ 3 ∧ v < 16 ^ (4 - acc.length) ∧ hexT u = hexT v ++ acc ∧ cs.size = 65 ∧ wr.heap[w.heap.size]? = some (.cells cs 325 (0, 0)) ∧ (∀ (j : Nat) c, acc[j]? = some c → cs[k + 1 + j]? = some (.int .u8 (c.toNat : Int))) ∧ Below w.heap.size w wr) (fun xu xi wr => (intOf xu).toNat)
  case atStart =>
    exact ⟨u, 64, [], _, rfl, rfl, rfl, by simp, by simpa using hu, by simp, zsz, box1 w _, fun j c h => by simp at h, (Below.refl _ _).alloc (Nat.le_refl _) _⟩
  case round =>
    obtain ⟨v, k, acc, cs, rfl, rfl, hk, hl, hv, hh, hcs, hr, hcell, bel⟩ := hrel
    by_cases h16 : 16 ≤ v
    · have hd : decide (16 ≤ (v : Int)) = true := decide_eq_true (by omega)
      have hand : bits .and .u64 (v : Int) 15 = ((v % 16 : Nat) : Int) := and15 (Nat.lt_of_lt_of_le hv (Nat.le_trans (Nat.pow_le_pow_right (by decide) (show 4 - acc.length ≤ 4 by omega)) (show 16 ^ 4 ≤ 65536 by decide)))
      obtain ⟨v0, hv0⟩ : ∃ v0, cs[k]? = some v0 := ⟨_, Array.getElem?_eq_getElem (by omega)⟩
      have c1 : (wr.cell? ⟨w.heap.size, k, none⟩) = some v0 := (row_cell hr).trans hv0
      have f1 : wr.frozen? ⟨w.heap.size, k, none⟩ = false := row_free hr
      replace hr := Lib.hid hr
      replace hcell := Lib.hid hcell
      replace hh := Lib.hid hh
      have hlen : acc.length ≤ 2 := by
        rcases (by omega : acc.length ≤ 2 ∨ acc.length = 3) with h | h
        · exact h
        · rw [h] at hv; omega
      have hv2 : v / 16 < 16 ^ (4 - (acc.length + 1)) := by
        have e : 16 ^ (4 - acc.length) = 16 ^ (4 - (acc.length + 1)) * 16 := by rw [← Nat.pow_succ]; congr 1; omega
        rw [e] at hv
        exact Nat.div_lt_of_lt_mul (by omega)
      have hx : hexT u = hexT (v / 16) ++ (dig (v % 16) :: acc) := by rw [hh.out, hexT_big (by omega), List.append_assoc]; rfl
      clear hv hv0
      go_wp2_with fail
      have fr1 := fun y => Fr.setCell (S := fun b => b = w.heap.size) (Fr.refl _ wr) (p := ⟨w.heap.size, k, none⟩) (.inl rfl) y
      refine ⟨⟨v / 16, k - 1, dig (v % 16) :: acc, _, by congr 1, by congr 1; omega, by simp; omega, by simp; omega, by simpa using hv2, hx, ?_, row_set hr.out (i := k) _ rfl, ?_, bel.trans ((fr1 _).belowS (fun b hb => Nat.le_of_eq hb.symm) bel.size)⟩, ?_⟩
      · simp [hcs]
      · intro j c hj
        cases j with
        | zero =>
          simp at hj
          subst hj
          rw [show k - 1 + 1 + 0 = k by omega, Array.getElem?_setIfInBounds_self_of_lt (by omega), dig_eq (by omega)]
        | succ j =>
          rw [show k - 1 + 1 + (j + 1) = k + 1 + j by omega, Array.getElem?_setIfInBounds_ne (by omega)]
          exact hcell.out j c (by simpa using hj)
      · simp [intOf]; omega
    · have hd : decide (16 ≤ (v : Int)) = false := decide_eq_false (by omega)
      obtain ⟨v0, hv0⟩ : ∃ v0, cs[k]? = some v0 := ⟨_, Array.getElem?_eq_getElem (by omega)⟩
      have c1 : (wr.cell? ⟨w.heap.size, k, none⟩) = some v0 := (row_cell hr).trans hv0
      have f1 : wr.frozen? ⟨w.heap.size, k, none⟩ = false := row_free hr
      have hdg : ∀ h, (⟨#[48, 49, 50, 51, 52, 53, 54, 55, 56, 57, 97, 98, 99, 100, 101, 102, 103, 104, 105, 106, 107, 108, 109, 110, 111, 112, 113, 114, 115, 116, 117, 118, 119, 120, 121, 122]⟩ : ByteArray)[v]'h = dig v := fun h => dig_eq (by omega) h
      have hsl := fun W => slice325 W w.heap.size (k := k) (by omega)
      have hx : hexT u = dig v :: acc := by rw [hh, hexT_small (by omega)]; rfl
      have r2 := row_set hr (i := k) (cs' := cs.setIfInBounds k (.int .u8 ((dig v).toNat : Int))) (.int .u8 ((dig v).toNat : Int)) rfl
      have hcv := conv_row (k := k) (cs := cs.setIfInBounds k (.int .u8 ((dig v).toNat : Int))) (l := dig v :: acc) r2 (by simp; omega) (fun j c hj => by
        cases j with
        | zero => simp at hj; subst hj; rw [Nat.add_zero, Array.getElem?_setIfInBounds_self_of_lt (by rw [hcs]; omega)]
        | succ j =>
          rw [show k + (j + 1) = k + 1 + j by omega, Array.getElem?_setIfInBounds_ne (by omega)]
          exact hcell j c (by simpa using hj))
      have fr1 := Fr.setCell (S := fun b => b = w.heap.size) (Fr.refl _ wr) (p := ⟨w.heap.size, k, none⟩) (.inl rfl) (.int .u8 ((dig v).toNat : Int))
      have bel2 := bel.trans (fr1.belowS (fun b hb => Nat.le_of_eq hb.symm) bel.size)
      replace hr := Lib.hid hr
      replace r2 := Lib.hid r2
      replace hcell := Lib.hid hcell
      replace hh := Lib.hid hh
      replace hx := Lib.hid hx
      go_wp2_with fail
      have hres : ∀ (tm : Array Value) (W : World), (results Tryz.f222 tm).run Tryz.prog W = .ok (.tuple #[tm.getD 10 undef, tm.getD 11 undef]) W := fun tm W => results_tmp2 rfl tm Tryz.prog W
      refine bodyPost_ret (hres _ _) rfl ?_
      refine ⟨⟨.slice none 0 0, ?_⟩, bel2⟩
      rw [hx.out]
      rfl
theorem fmt178_any {w : World} (E : Env w) {u : Nat} (hu : u < 65536) : Calls Tryz.prog 178 #[.int .u64 u, .int .i64 16] w fun e w' => e = .returned (.string ⟨(hexT u).toArray⟩) ∧ Below w.heap.size w w' := by
  go_enter Tryz.func178, Tryz.ntmps178
  go_wp2_with (first | (go_at_call 222; refine (fmt_any E hu).mono ?_; rintro e w1 ⟨⟨v, rfl⟩, bel⟩))
  go_ret
  exact ⟨rfl, bel⟩
/-- strconv.FormatUint at base 16. -/
theorem hex_any {w : World} (E : Env w) {u : Nat} (hu : u < 65536) : Calls Tryz.prog 121 #[.int .u64 u, .int .i64 16] w fun e w' => e = .returned (.string ⟨(hexT u).toArray⟩) ∧ Below w.heap.size w w' := by
  go_enter Tryz.func121, Tryz.ntmps121
  go_wp2_with (first | (go_at_call 178; refine (fmt178_any E hu).mono ?_; rintro e w1 ⟨rfl, bel⟩))
  go_ret
  exact ⟨rfl, bel⟩
end Go.Proofs.YtnljjlaececnkaaGreatDoor
