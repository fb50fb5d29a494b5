/-
  Merged texts (M, N, O, Q, R, PA, W, X, XB), part 3 of 12. Conditions: each part's own, told at its head.
-/
import Derived.Test.YtnljjlaececnkaaGreatDoorBMP1
import Derived.Test.YtnljjlaececnkaaGreatDoorBMP2
import Derived.Lib.ParseIntBMem
import Derived.Laws.Strings3
import Derived.Laws.Closers25
import Derived.Laws.Closers25b
import Derived.BigCall
import Derived.BigGuard
import Derived.Maps.AppendAt
import Derived.Lib.AtoiTie
import Derived.Laws.BytesArg
import Derived.Laws.Bits64
import Derived.Laws.BitsLemmas
/-
  strconv.ParseUint at base 16, of 16 bits. Condition: the variables hold what their initialisers laid; a text is no longer than memory has room for.
-/
namespace Go.Proofs.YtnljjlaececnkaaGreatDoor
open Go.RowKit
set_option linter.unusedVariables false
set_option linter.unusedSimpArgs false
/-- How the digits of base 16 end. -/
def hexM (acc : Nat) : List UInt8 → Lib.NumEnd Nat
  | [] => .ok acc
  | c :: r => match hexD c with
    | none => .«syntax»
    | some d => if 65535 < acc * 16 + d then .range else hexM (acc * 16 + d) r
def lo (c : UInt8) : Nat := (bits .or .u8 (c.toNat : Int) 32).toNat
theorem hex_fin : ∀ f : Fin 256, (bits .or .u8 ((UInt8.ofNat f.val).toNat : Int) 32 = (lo (UInt8.ofNat f.val) : Int)) ∧
    ((48 ≤ (UInt8.ofNat f.val).toNat ∧ (UInt8.ofNat f.val).toNat ≤ 57 ∧ hexD (UInt8.ofNat f.val) = some ((UInt8.ofNat f.val).toNat - 48)) ∨
     (57 < (UInt8.ofNat f.val).toNat ∧ (UInt8.ofNat f.val).toNat ≠ 95 ∧ 97 ≤ lo (UInt8.ofNat f.val) ∧ lo (UInt8.ofNat f.val) ≤ 102 ∧ hexD (UInt8.ofNat f.val) = some (lo (UInt8.ofNat f.val) - 87)) ∨
     (hexD (UInt8.ofNat f.val) = none ∧ ((UInt8.ofNat f.val).toNat < 48 ∨ 57 < (UInt8.ofNat f.val).toNat) ∧ (lo (UInt8.ofNat f.val) < 97 ∨ 122 < lo (UInt8.ofNat f.val) ∨ 103 ≤ lo (UInt8.ofNat f.val) ∧ lo (UInt8.ofNat f.val) ≤ 122))) := by decide +kernel
theorem hex_cases (c : UInt8) : ∃ v : Nat, bits .or .u8 (c.toNat : Int) 32 = v ∧
    ((48 ≤ c.toNat ∧ c.toNat ≤ 57 ∧ hexD c = some (c.toNat - 48)) ∨ (57 < c.toNat ∧ c.toNat ≠ 95 ∧ 97 ≤ v ∧ v ≤ 102 ∧ hexD c = some (v - 87)) ∨
     (hexD c = none ∧ (c.toNat < 48 ∨ 57 < c.toNat) ∧ (v < 97 ∨ 122 < v ∨ 103 ≤ v ∧ v ≤ 122))) := by
  have h := hex_fin ⟨c.toNat, c.toNat_lt⟩
  have e : UInt8.ofNat c.toNat = c := by simp
  simp only [e] at h
  exact ⟨lo c, h.1, h.2⟩
/-- What the inner function hands back. -/
def hexV : Lib.NumEnd Nat → Value
  | .ok u => .tuple #[.int .u64 u, .nilIface]
  | .«syntax» => .tuple #[.int .u64 0, .iface 277 (.int .i64 2)]
  | .range => .tuple #[.int .u64 65535, .iface 277 (.int .i64 1)]
theorem low_n {w : World} {c : Int} {v : Nat} (h : bits .or .u8 c 32 = v) : Calls Tryz.prog 217 #[.int .u8 c] w fun e w' => e = .returned (.int .u8 (v : Int)) ∧ w' = w := by
  rw [← h]; exact Tryz.internal_strconv_lower c w
set_option maxHeartbeats 8000000 in
set_option maxRecDepth 100000 in
theorem pu_in (t : ByteArray) (hne : t.size ≠ 0) (hmax : t.size ≤ 9223372036854775806) (w : World) :
    Calls Tryz.prog 177 #[.string t, .int .i64 16, .int .i64 16] w fun e w' => e = .returned (hexV (hexM 0 t.data.toList)) ∧ w' = Lib.bytesWorld w 5 t := by
  have hemp : t.toList.isEmpty = false := by
    rw [← decide_eq_emptyBytes]
    exact decide_eq_false (fun h => hne (by rw [h]; rfl))
  have hcv := Lib.run_convert_string_bytes (P := Tryz.prog) w 9 150 5 t (u := .string) Tryz.underlying9 Tryz.underlying150 Tryz.underlying5
  have hB : ∀ j, j < t.size → (Lib.bytesWorld w 5 t).cell? ⟨w.heap.size, j, none⟩ = some (.int .u8 (t.data.toList.getD j 0).toNat) := fun j hj => Lib.bytesWorld_cell w 5 t j hj
  obtain ⟨W1, hW1⟩ : ∃ W1, W1 = Lib.bytesWorld w 5 t := ⟨_, rfl⟩
  rw [← hW1] at hcv hB ⊢
  clear hW1
  obtain ⟨bs, hL⟩ : ∃ bs, bs = t.data.toList := ⟨_, rfl⟩
  have hLn : bs.length = t.size := by rw [hL, Lib.size_eq]
  rw [← hL] at hB ⊢
  clear hL
  have hmv : IntKind.u64.wrap (IntKind.u64.wrap 65536 - 1) = 65535 := by
    rw [IntKind.wrap_u64, IntKind.wrap_u64]
    decide
  go_enter Tryz.func177, Tryz.ntmps177
  go_wp2
  go_loop [12, 13, 101] (fun vu vn vi => ∃ (k acc : Nat) (a : Int), vu = .bool false ∧ vn = .int .u64 a ∧ vi = .int .i64 k ∧ k ≤ t.size ∧ Hid (a = (acc : Int) ∧ acc ≤ 65535 ∧ hexM 0 bs = hexM acc (bs.drop k)))
    (fun _ _ vi => t.size - (intOf vi).toNat)
  case atStart => exact ⟨0, 0, 0, rfl, rfl, rfl, by omega, rfl, by omega, rfl⟩
  case round =>
    obtain ⟨k, acc, a, rfl, rfl, rfl, hk, hh⟩ := hrel
    obtain ⟨ha, hacc, hdec⟩ := hh.out
    clear hh
    have a0 : 0 ≤ a := by omega
    have a1 : a ≤ 65535 := by omega
    by_cases hkn : k < t.size
    · have hc := hB k hkn
      have hdrop : bs.drop k = bs[k]'(by omega) :: bs.drop (k + 1) := List.drop_eq_getElem_cons (by omega)
      have hget : bs.getD k 0 = bs[k]'(by omega) := by simp [List.getD, List.getElem?_eq_getElem (show k < bs.length by omega)]
      rw [hdrop] at hdec
      rw [hget] at hc
      generalize bs[k]'(by omega) = c at hc hdec
      have hc256 : c.toNat < 256 := c.toNat_lt
      clear hB hdrop hget
      obtain ⟨v, hv, hcase⟩ := hex_cases c
      rcases hcase with ⟨hd0, hd1, hx⟩ | ⟨hd0, hd5, hv0, hv1, hx⟩ | ⟨hx, hd, hvv⟩
      · by_cases hov : 65535 < acc * 16 + (c.toNat - 48)
        · have hF : hexM acc (c :: bs.drop (k + 1)) = .range := by rw [hexM, hx]; simp [hov]
          rw [hF] at hdec
          have iov : 65535 < a * 16 + ((c.toNat : Int) - 48) := by omega
          clear hacc hF hov ha hx hv
          go_wp2
          go_ret2
          first | exact ⟨rfl, rfl⟩ | exact ⟨by rw [hdec]; rfl, rfl⟩
        · have hF : hexM acc (c :: bs.drop (k + 1)) = hexM (acc * 16 + (c.toNat - 48)) (bs.drop (k + 1)) := by rw [hexM, hx]; simp [hov]
          have HN : Hid (a * 16 + ((c.toNat : Int) - 48) = ((acc * 16 + (c.toNat - 48) : Nat) : Int) ∧ acc * 16 + (c.toNat - 48) ≤ 65535 ∧ hexM 0 bs = hexM (acc * 16 + (c.toNat - 48)) (bs.drop (k + 1))) := ⟨by omega, by omega, hdec.trans hF⟩
          have iov : a * 16 + ((c.toNat : Int) - 48) ≤ 65535 := by omega
          clear hacc hF hov hdec ha hx hv
          go_wp2
          refine ⟨⟨k + 1, acc * 16 + (c.toNat - 48), a * 16 + ((c.toNat : Int) - 48), rfl, (by first | rfl | (congr 1; omega)), (by first | rfl | (congr 1; omega)), by omega, HN⟩, by simp [intOf]; omega⟩
      · have hvd : hexD c = some (v - 87) := hx
        by_cases hov : 65535 < acc * 16 + (v - 87)
        · have hF : hexM acc (c :: bs.drop (k + 1)) = .range := by rw [hexM, hx]; simp [hov]
          rw [hF] at hdec
          have iov : 65535 < a * 16 + ((v : Int) - 97 + 10) := by omega
          clear hacc hF hov ha hx hvd
          go_wp2_with (go_at_call 217; refine (low_n hv).mono ?_; rintro e w' ⟨rfl, rfl⟩)
          go_ret2
          first | exact ⟨rfl, rfl⟩ | exact ⟨by rw [hdec]; rfl, rfl⟩
        · have hF : hexM acc (c :: bs.drop (k + 1)) = hexM (acc * 16 + (v - 87)) (bs.drop (k + 1)) := by rw [hexM, hx]; simp [hov]
          have HN : Hid (a * 16 + ((v : Int) - 97 + 10) = ((acc * 16 + (v - 87) : Nat) : Int) ∧ acc * 16 + (v - 87) ≤ 65535 ∧ hexM 0 bs = hexM (acc * 16 + (v - 87)) (bs.drop (k + 1))) := ⟨by omega, by omega, hdec.trans hF⟩
          have iov : a * 16 + ((v : Int) - 97 + 10) ≤ 65535 := by omega
          clear hacc hF hov hdec ha hx hvd
          go_wp2_with (go_at_call 217; refine (low_n hv).mono ?_; rintro e w' ⟨rfl, rfl⟩)
          refine ⟨⟨k + 1, acc * 16 + (v - 87), a * 16 + ((v : Int) - 97 + 10), rfl, (by first | rfl | (congr 1; omega)), (by first | rfl | (congr 1; omega)), by omega, HN⟩, by simp [intOf]; omega⟩
      · have hF : hexM acc (c :: bs.drop (k + 1)) = .«syntax» := by rw [hexM, hx]
        rw [hF] at hdec
        clear hacc hF ha hx
        have hvb := bits_lo_u8 .or (c.toNat : Int) 32
        have hvc := bits_hi_u8 .or (c.toNat : Int) 32
        rw [hv] at hvb hvc
        by_cases h95 : c.toNat = 95
        · rw [h95] at hc
          clear hv hvb hvc hvv hd hc256
          clear h95
          have hv : bits .or .u8 95 32 = ((127 : Nat) : Int) := by decide
          go_wp2_with (go_at_call 217; refine (low_n hv).mono ?_; rintro e w' ⟨rfl, rfl⟩)
          go_ret2
          first | exact ⟨rfl, rfl⟩ | exact ⟨by rw [hdec]; rfl, rfl⟩
        · rcases hd with hd | hd <;> rcases hvv with hvv | hvv | ⟨hvv, hv2⟩
          all_goals
            go_wp2_with (go_at_call 217; refine (low_n hv).mono ?_; rintro e w' ⟨rfl, rfl⟩)
            all_goals go_ret2
            all_goals first | exact ⟨rfl, rfl⟩ | exact ⟨by rw [hdec]; rfl, rfl⟩
    · have hkk : k = t.size := by omega
      subst hkk
      have hF : hexM acc (bs.drop t.size) = .ok acc := by rw [List.drop_eq_nil_of_le (by omega)]; rfl
      rw [hF] at hdec
      subst ha
      clear hacc hF a0 a1
      go_wp2
      go_ret2
      first | exact ⟨rfl, rfl⟩ | exact ⟨by rw [hdec]; rfl, rfl⟩
end Go.Proofs.YtnljjlaececnkaaGreatDoor
/-
  strconv.ParseUint, public; groups of base 16. Condition: the variables hold what their initialisers laid; a text is no longer than memory has room for.
-/
namespace Go.Proofs.YtnljjlaececnkaaGreatDoor
open Go.RowKit Go.Shelf
set_option linter.unusedVariables false
set_option linter.unusedSimpArgs false
attribute [local go_sem] Oper.semAt_some
theorem hex_from {l : List UInt8} : ∀ {acc u : Nat}, hexFrom acc l = some u → (acc + 1) * 16 ^ l.length ≤ 65536 → hexM acc l = .ok u := by
  induction l with
  | nil => intro acc u h _; simp [hexFrom] at h; simp [hexM, h]
  | cons c l ih =>
    intro acc u h hb
    unfold hexFrom at h
    unfold hexM
    cases hd : hexD c with
    | none => rw [hd] at h; cases h
    | some d =>
      rw [hd] at h
      have h16 : d < 16 := by
        unfold hexD at hd
        repeat' split at hd
        all_goals first
          | (cases hd; omega)
          | cases hd
      have hp : 1 ≤ 16 ^ l.length := Nat.pow_pos (by decide)
      rw [List.length_cons, Nat.pow_succ] at hb
      have e : (acc + 1) * (16 ^ l.length * 16) = (16 * acc + 16) * 16 ^ l.length := by
        rw [Nat.mul_comm (16 ^ l.length) 16, ← Nat.mul_assoc]; congr 1; omega
      have h1 : (16 * acc + d + 1) * 16 ^ l.length ≤ (16 * acc + 16) * 16 ^ l.length := Nat.mul_le_mul_right _ (by omega)
      have h2 : (16 * acc + d + 1) ≤ (16 * acc + d + 1) * 16 ^ l.length := Nat.le_mul_of_pos_right _ hp
      have h3 : ¬ 65535 < acc * 16 + d := by omega
      simp only [h3, if_false]
      rw [Nat.mul_comm acc 16]
      exact ih h (by omega)
theorem hex_none {l : List UInt8} : ∀ {acc : Nat}, hexFrom acc l = none → ∀ u, hexM acc l ≠ .ok u := by
  induction l with
  | nil => intro acc h; simp [hexFrom] at h
  | cons c l ih =>
    intro acc h u
    unfold hexFrom at h
    unfold hexM
    cases hd : hexD c with
    | none => simp
    | some d =>
      rw [hd] at h
      simp only
      split
      · simp
      · rw [Nat.mul_comm acc 16]; exact ih h u
theorem hex_bytes {l : List UInt8} : ∀ {acc u : Nat}, hexFrom acc l = some u → Lib.indexAny l [43, 95] = -1 ∧ ∀ (j : Nat) b, l[j]? = some b → b.toNat < 128 := by
  induction l with
  | nil => intro acc u h; exact ⟨rfl, fun j b hb => by simp at hb⟩
  | cons c l ih =>
    intro acc u h
    unfold hexFrom at h
    cases hd : hexD c with
    | none => rw [hd] at h; cases h
    | some d =>
      rw [hd] at h
      obtain ⟨h1, h2⟩ := ih h
      have hr : c.toNat ≠ 43 ∧ c.toNat ≠ 95 ∧ c.toNat < 128 := by
        unfold hexD at hd
        repeat' split at hd
        all_goals first
          | (cases hd; omega)
          | cases hd
      have hc : ([43, 95] : List UInt8).contains c = false := by
        have e1 : c ≠ 43 := fun e => hr.1 (by rw [e]; rfl)
        have e2 : c ≠ 95 := fun e => hr.2.1 (by rw [e]; rfl)
        simp [e1, e2]
      refine ⟨by unfold Lib.indexAny; rw [hc, h1]; rfl, fun j b hb => ?_⟩
      cases j with
      | zero => simp at hb; subst hb; exact hr.2.2
      | succ j => exact h2 j b (by simpa using hb)
/-- ParseUint, where there is a number. -/
theorem pu_ok {w : World} {t : ByteArray} {u : Nat} (h0 : t.size ≠ 0) (hs : t.size ≤ 140737488351232) (h : hexM 0 t.data.toList = .ok u) : Calls Tryz.prog 119 #[.string t, .int .i64 16, .int .i64 16] w fun e w' => e = .returned (.tuple #[.int .u64 u, .nilIface]) ∧ Below w.heap.size w w' := by
  have bel := Lib.bytesWorld_below w 5 t
  have hin := pu_in t h0 (by omega) w
  rw [h] at hin
  have hin2 : Calls Tryz.prog 177 #[.string t, .int .i64 16, .int .i64 16] w fun e w' => e = .returned (.tuple #[.int .u64 u, .nilIface]) ∧ w' = Lib.bytesWorld w 5 t := hin
  clear hin
  go_enter Tryz.func119, Tryz.ntmps119
  go_wp2_with (go_at_call 177; refine hin2.mono ?_; rintro e w' ⟨rfl, rfl⟩)
  go_ret2
  exact ⟨rfl, bel⟩
def PuNo (e : Ending) : Prop := ∃ n te pe, e = .returned (.tuple #[.int .u64 n, .iface te pe])
/-- .. and where there is none. -/
theorem pu_no {w : World} (E : Env w) {t : ByteArray} (hs : t.size ≤ 140737488351232) (h : t.size = 0 ∨ ∀ u, hexM 0 t.data.toList ≠ .ok u) : Calls Tryz.prog 119 #[.string t, .int .i64 16, .int .i64 16] w fun e w' => PuNo e ∧ Below w.heap.size w w' := by
  by_cases h0 : t.size = 0
  · obtain rfl : t = ⟨#[]⟩ := by
      obtain ⟨⟨l⟩⟩ := t
      cases l with
      | nil => rfl
      | cons x l => simp [ByteArray.size] at h0
    obtain ⟨ev1, hv1, he1⟩ := (E.go (Below.refl _ _)).1.es
    replace he1 := Lib.hid he1
    go_enter Tryz.func119, Tryz.ntmps119
    go_wp2_with (first
      | (go_at_call 177; refine (Tryz.internal_strconv_ParseUint_empty 16 16 w).mono ?_; rintro e w' ⟨rfl, rfl⟩)
      | (go_at_call 175; refine (Tryz.strconv_toError_syntax _ _ 16 16 ev1 _ (by decide) hv1 he1.out).mono ?_; rintro e w' ⟨N, rfl, -, -, bel⟩))
    go_ret2
    exact ⟨⟨_, _, _, rfl⟩, bel⟩
  · have hn := h.resolve_left h0
    have bel0 := Lib.bytesWorld_below w 5 t
    have E1 := E.go bel0
    obtain ⟨ev1, hv1, he1⟩ := E1.1.es
    obtain ⟨ev2, hv2, he2⟩ := E1.1.er
    replace he1 := Lib.hid he1
    replace he2 := Lib.hid he2
    obtain ⟨W1, hW1⟩ : ∃ W1, W1 = Lib.bytesWorld w 5 t := ⟨_, rfl⟩
    have hin := pu_in t h0 (by omega) w
    rw [← hW1] at hv1 hv2 bel0 hin
    clear hW1 E1
    cases hm : hexM 0 t.data.toList with
    | ok u => exact absurd hm (hn u)
    | «syntax» =>
      rw [hm] at hin
      have hin2 : Calls Tryz.prog 177 #[.string t, .int .i64 16, .int .i64 16] w fun e w' => e = .returned (.tuple #[.int .u64 0, .iface 277 (.int .i64 2)]) ∧ w' = W1 := hin
      clear hin
      go_enter Tryz.func119, Tryz.ntmps119
      go_wp2_with (first
        | (go_at_call 177; refine hin2.mono ?_; rintro e w' ⟨rfl, rfl⟩)
        | (go_at_call 175; refine (Tryz.strconv_toError_syntax _ _ 16 16 ev1 _ (by omega) hv1 he1.out).mono ?_; rintro e w' ⟨N, rfl, -, -, bel⟩))
      go_ret2
      exact ⟨⟨_, _, _, rfl⟩, bel0.trans (bel.mono bel0.size)⟩
    | range =>
      rw [hm] at hin
      have hin2 : Calls Tryz.prog 177 #[.string t, .int .i64 16, .int .i64 16] w fun e w' => e = .returned (.tuple #[.int .u64 65535, .iface 277 (.int .i64 1)]) ∧ w' = W1 := hin
      clear hin
      go_enter Tryz.func119, Tryz.ntmps119
      go_wp2_with (first
        | (go_at_call 177; refine hin2.mono ?_; rintro e w' ⟨rfl, rfl⟩)
        | (go_at_call 175; refine (Tryz.strconv_toError_range _ _ 16 16 ev2 _ (by omega) hv2 he2.out).mono ?_; rintro e w' ⟨N, rfl, -, -, bel⟩))
      go_ret2
      exact ⟨⟨_, _, _, rfl⟩, bel0.trans (bel.mono bel0.size)⟩
end Go.Proofs.YtnljjlaececnkaaGreatDoor
/-
  groups: the bytes of groups of base 16. Condition: the variables hold what their initialisers laid; a text is no longer than memory has room for.
-/
namespace Go.Proofs.YtnljjlaececnkaaGreatDoor
open Go.RowKit Go.Shelf
set_option linter.unusedVariables false
set_option linter.unusedSimpArgs false
attribute [local go_sem] Oper.semAt_some
/-- A group that is one: what the round meets. -/
theorem grp_some {t : ByteArray} {u : Nat} (h : grpS t = some u) : t.size ≠ 0 ∧ t.size ≤ 4 ∧ hexM 0 t.data.toList = .ok u ∧ u < 65536 ∧ Lib.containsAny t.data.toList [43, 95] = false ∧ ∀ (j : Nat) b, t.data.toList[j]? = some b → b.toNat < 128 := by
  unfold grpS at h
  split at h
  · cases h
  · rename_i hs
    have hl : t.data.toList.length = t.size := Array.length_toList
    have hp : 16 ^ t.data.toList.length ≤ 16 ^ 4 := Nat.pow_le_pow_right (by decide) (by omega)
    have hm := hex_from h (by omega)
    obtain ⟨h1, h2⟩ := hex_bytes h
    refine ⟨by omega, by omega, hm, ?_, by unfold Lib.containsAny; rw [h1]; rfl, h2⟩
    have : ∀ (l : List UInt8) (acc u : Nat), acc ≤ 65535 → hexM acc l = .ok u → u ≤ 65535 := by
      intro l
      induction l with
      | nil => intro acc u ha h; simp [hexM] at h; omega
      | cons c l ih =>
        intro acc u ha h
        unfold hexM at h
        split at h
        · cases h
        · split at h
          · cases h
          · exact ih _ _ (by omega) h
    have := this _ _ _ (by decide) hm
    omega
theorem grp_none {t : ByteArray} (h : grpS t = none) : t.size = 0 ∨ 4 < t.size ∨ ∀ u, hexM 0 t.data.toList ≠ .ok u := by
  unfold grpS at h
  split at h
  · rename_i hs; rcases hs with hs | hs
    · exact .inl hs
    · exact .inr (.inl hs)
  · exact .inr (.inr (hex_none h))
/-- The bytes of groups. -/
def flatG (l : List ByteArray) : List Int := (l.map grpV).flatten
theorem flatG_snoc (l : List ByteArray) (t : ByteArray) : flatG (l ++ [t]) = flatG l ++ grpV t := by simp [flatG]
theorem flatG_len (l : List ByteArray) : (flatG l).length = 2 * l.length := by induction l with
  | nil => rfl
  | cons t l ih => simp only [flatG, List.map_cons, List.flatten_cons, List.length_append, List.length_cons] at *; rw [ih]; simp [grpV]; omega
theorem row_below {W W1 : World} {n e sz k : Nat} {v : Value} {xs : List Value} (h : W.ownsRow n e sz v k xs) (b : Below W.heap.size W W1) : W1.ownsRow n e sz v k xs :=
  h.kept (row := some W.heap.size) ⟨b.os, b.tape, b.output, b.size, fun k hk _ => b.block k hk⟩ (.inr (fun e => by have := (h.lt _ e).2; omega))
theorem box_below {W W1 : World} {B : Nat} {t : TypeId} {v : Value} (h : Boxed W B t v) (b : Below W.heap.size W W1) : Boxed W1 B t v := Below.box h b h.lt
theorem plus_ascii : ∀ (j : Nat) b, (⟨#[43, 95]⟩ : ByteArray).data.toList[j]? = some b → b.toNat < 128 := by
  intro j b h
  match j with
  | 0 => cases h; decide
  | 1 => cases h; decide
  | j + 2 => simp at h
theorem box_app {W w1 : World} {n g b t k : Nat} {v v' : Value} {xs : List Value} {tmp : Obj} {u : Value} (h : Boxed W b t u) (ht : t ≠ 5) (hb : b ≠ g) (hr : W.ownsRow n 5 1 v k xs) (hg : (W.alloc tmp).grownBy w1 v.ownBlock) : Boxed (w1.setCell ⟨g, 0, none⟩ v') b t u :=
  ((h.alloc tmp).kept hg (h.not_row ht hr)).other hb v'
theorem con_no {w : World} {x : ByteArray} (hs : x.size ≤ 4) (h : Lib.containsAny x.data.toList [43, 95] = false) (ha : ∀ (j : Nat) b, x.data.toList[j]? = some b → b.toNat < 128) : Calls Tryz.prog 206 #[.string x, .string ⟨#[43, 95]⟩] w fun e w' => e = .returned (.bool false) ∧ Below w.heap.size w w' := by
  have := Tryz.strings_ContainsAny_laid x ⟨#[43, 95]⟩ w (by omega) (by decide) ha plus_ascii
  rw [show (⟨#[43, 95]⟩ : ByteArray).data.toList = [43, 95] from rfl, h] at this
  exact this
theorem info5p : (Tryz.prog.info? 5).map (fun i => (i.zero, i.size, i.bytes)) = some (some (.int .u8 0), 1, 1) := by kernel_rfl
/-- Between two rounds. -/
def GI (w : World) (pre : List ByteArray) (W : World) : Prop :=
  (∃ v, Boxed W w.heap.size 150 v ∧ W.ownsRow w.heap.size 5 1 v (flatG pre).length (nums .u8 (flatG pre)) ∧ True) ∧ Boxed W (w.heap.size + 1) 4 (.bool false) ∧ (∃ u, Boxed W (w.heap.size + 2) 9 u) ∧ Boxed W (w.heap.size + 3) 9 (.string ⟨#[58]⟩) ∧ Boxed W (w.heap.size + 4) 3 (.int .i64 0) ∧ Below w.heap.size w W ∧ (∀ t ∈ pre, (grpS t).isSome = true) ∧ w.heap.size + 5 ≤ W.heap.size
def GX (w : World) (c : Code) (pre : List ByteArray) (W : World) : Prop :=
  c = .ret ∧ Boxed W w.heap.size 150 (.slice none 0 0) ∧ Boxed W (w.heap.size + 1) 4 (.bool false) ∧ Below w.heap.size w W ∧ (∃ t ∈ pre, grpS t = none) ∧ w.heap.size + 5 ≤ W.heap.size
theorem GI.turn {w : World} {pre : List ByteArray} {A B : World} (h : GI w pre A) (ht : ∃ u, B = A.setCell ⟨w.heap.size + 2, 0, none⟩ u) : GI w pre B := by
  obtain ⟨u, rfl⟩ := ht
  obtain ⟨⟨v, h1, h2, -⟩, h3, ⟨x, h4⟩, h8, h9, h5, h6, h7⟩ := h
  exact ⟨⟨v, h1.other (by omega) u, h2.kept (grownBy_setCell' A _ u) (.inr (fun e => h4.not_row (by decide) h2 e.symm)), trivial⟩, h3.other (by omega) u, ⟨u, h4.set u⟩, h8.other (by omega) u, h9.other (by omega) u, h5.setCell (p := ⟨w.heap.size + 2, 0, none⟩) (by simp) u, h6, by simpa [World.setCell] using h7⟩
theorem GX.turn {w : World} {c : Code} {pre : List ByteArray} {A B : World} (h : GX w c pre A) (ht : ∃ u, B = A.setCell ⟨w.heap.size + 2, 0, none⟩ u) : GX w c pre B := by
  obtain ⟨u, rfl⟩ := ht
  obtain ⟨h0, h1, h3, h5, h6, h7⟩ := h
  exact ⟨h0, h1.other (by omega) u, h3.other (by omega) u, h5.setCell (p := ⟨w.heap.size + 2, 0, none⟩) (by simp) u, h6, by simpa [World.setCell] using h7⟩
theorem ownFrom_size {β : Type} (B n : Nat) : OwnFrom B (fun (_ : β) W => n ≤ W.heap.size) := fun _ _ _ _ hs hg _ => Nat.le_trans hs hg.size
theorem ownFrom_boxed {β : Type} (B b : Nat) (t : TypeId) : OwnFrom B (fun (_ : β) W => ∃ u, Boxed W b t u) := fun s A C row ⟨u, hs⟩ hg hr => ⟨u, hs.kept hg (fun e => by
  obtain ⟨-, o, ho, hc⟩ := hr b e.symm
  rw [show A.heap[b]? = _ from hs] at ho; cases ho; cases hc)⟩
theorem GI.own (w : World) (B : Nat) (hB : w.heap.size ≤ B) : OwnFrom B (GI w) :=
  OwnFrom.and (Own.from (holdsRow_own w.heap.size w.heap.size 150 5 1 (fun pre => (flatG pre).length) (fun pre => nums .u8 (flatG pre)) (fun _ _ => True)) _) (OwnFrom.and (Own.from (boxed_own _ _ (fun _ => .bool false)) _) (OwnFrom.and (ownFrom_boxed _ _ _) (OwnFrom.and (Own.from (boxed_own _ _ (fun _ => .string ⟨#[58]⟩)) _) (OwnFrom.and (Own.from (boxed_own _ _ (fun _ => .int .i64 0)) _) (OwnFrom.and (ownFrom_below (Nat.le_refl _) hB) (OwnFrom.and (ownFrom_pure _ _) (ownFrom_size _ _)))))))
theorem GX.own (w : World) (B : Nat) (hB : w.heap.size ≤ B) (c : Code) : OwnFrom B (GX w c) :=
  OwnFrom.and (ownFrom_pure _ (fun _ => c = .ret)) (OwnFrom.and (Own.from (boxed_own _ _ (fun _ => .slice none 0 0)) _) (OwnFrom.and (Own.from (boxed_own _ _ (fun _ => .bool false)) _) (OwnFrom.and (ownFrom_below (Nat.le_refl _) hB) (OwnFrom.and (ownFrom_pure _ _) (ownFrom_size _ _)))))
theorem keeps_below {B : Nat} {W W' : World} (h : Below W.heap.size W W') : KeepsFrom B W W' := ⟨h.size, fun k o _ hk _ => Below.box hk h (lt_of_obj hk)⟩
theorem results_cells2 {P : Program} {fn : Func} {p q : Tmp} {ty ty' : TypeId} (h : fn.results = #[.cell p ty, .cell q ty']) (tmps : Array Value) (w : World) {v u : Value} {ad ad' : Addr}
    (hp : tmps.getD p undef = .pointer (some ad)) (hl : (loadVar ty ad).run P w = .ok v w) (hq : tmps.getD q undef = .pointer (some ad')) (hl' : (loadVar ty' ad').run P w = .ok u w) : (results fn tmps).run P w = .ok (.tuple #[v, u]) w := by
  have hp' : tmps[p]?.getD undef = .pointer (some ad) := by simpa using hp
  have hq' : tmps[q]?.getD undef = .pointer (some ad') := by simpa using hq
  simp [results, h, hp', hq', asAddr, hl, hl']
theorem loadVar_slice {P : Program} {w : World} {ty e : TypeId} {v : Value} {ad : Addr} (hu : P.underlying ty = some (.slice e)) (h : w.cell? ad = some v) : (loadVar ty ad).run P w = .ok v w := by
  simp [loadVar, isAgg, run_underlying hu, h]
theorem loadVar_bool {P : Program} {w : World} {ty : TypeId} {v : Value} {ad : Addr} (hu : P.underlying ty = some .bool) (h : w.cell? ad = some v) : (loadVar ty ad).run P w = .ok v w := by
  simp [loadVar, isAgg, run_underlying hu, h]
/-- What groups answers. -/
def GrpR (w : World) (s : ByteArray) (e : Ending) (W' : World) : Prop := ∃ v, e = .returned (.tuple #[v, .bool (grpsS s).isSome]) ∧ W'.ownsRow w.heap.size 5 1 v ((grpsS s).getD []).length (nums .u8 ((grpsS s).getD []))
theorem grps_yes {s : ByteArray} (h0 : s.size ≠ 0) (h : ∀ t ∈ pieces s ⟨#[58]⟩, (grpS t).isSome = true) : grpsS s = some (flatG (pieces s ⟨#[58]⟩)) := by
  unfold grpsS grpsL
  exact (if_neg h0).trans (if_pos (List.all_eq_true.2 h))
theorem grps_no {s : ByteArray} (h0 : s.size ≠ 0) (h : ∃ t ∈ pieces s ⟨#[58]⟩, grpS t = none) : grpsS s = none := by
  obtain ⟨t, ht, hn⟩ := h
  unfold grpsS grpsL
  refine (if_neg h0).trans (if_neg fun hall => ?_)
  have := List.all_eq_true.1 hall t ht
  rw [hn] at this; cases this
set_option maxRecDepth 100000 in
set_option maxHeartbeats 1600000 in
theorem grps_some {w : World} (E : Env w) (s : ByteArray) (h0 : s.size ≠ 0) (hs : s.size < 4294967281) (hsz : ∀ t ∈ pieces s ⟨#[58]⟩, t.size ≤ 140737488351232) (hn : (pieces s ⟨#[58]⟩).length ≤ 70368744177664) : Calls Tryz.prog 162 #[.string s] w fun e w' => GrpR w s e w' ∧ Below w.heap.size w w' := by
  have hemp : s.toList.isEmpty = false := by
    rw [← decide_eq_emptyBytes]
    exact decide_eq_false (fun h => h0 (by rw [h]; rfl))
  have i1 : w.heap.size + 1 + 1 + 1 = w.heap.size + 3 := rfl
  have i2 : w.heap.size + 1 + 1 = w.heap.size + 2 := rfl
  have i3 : w.heap.size + 1 + 1 + 2 = w.heap.size + 4 := rfl
  obtain ⟨i0, hi, hz0, hz1, hz2⟩ := info_parts info5p
  have b0 : Boxed (w.alloc (.cells #[.slice none 0 0] 150)) w.heap.size 150 (.slice none 0 0) := Boxed.new w 150 _
  have b1 := Boxed.new (w.alloc (.cells #[.slice none 0 0] 150)) 4 (.bool false)
  have b2 := Boxed.new ((w.alloc (.cells #[.slice none 0 0] 150)).alloc (.cells #[.bool false] 4)) 9 (.string s)
  have b3 := Boxed.new (((w.alloc (.cells #[.slice none 0 0] 150)).alloc (.cells #[.bool false] 4)).alloc (.cells #[.string s] 9)) 9 (.string ⟨#[58]⟩)
  have b4 := Boxed.new ((((w.alloc (.cells #[.slice none 0 0] 150)).alloc (.cells #[.bool false] 4)).alloc (.cells #[.string s] 9)).alloc (.cells #[.string ⟨#[58]⟩] 9)) 3 (.int .i64 0)
  replace b0 := ((((b0.alloc (.cells #[.bool false] 4)).alloc (.cells #[.string s] 9)).alloc (.cells #[.string ⟨#[58]⟩] 9)).alloc (.cells #[.int .i64 0] 3))
  replace b1 := (((b1.alloc (.cells #[.string s] 9)).alloc (.cells #[.string ⟨#[58]⟩] 9)).alloc (.cells #[.int .i64 0] 3))
  replace b2 := ((b2.alloc (.cells #[.string ⟨#[58]⟩] 9)).alloc (.cells #[.int .i64 0] 3))
  replace b3 := (b3.alloc (.cells #[.int .i64 0] 3))
  simp only [World.size_alloc, i1, i2] at b1 b2 b3 b4
  have bel : Below w.heap.size w (((((w.alloc (.cells #[.slice none 0 0] 150)).alloc (.cells #[.bool false] 4)).alloc (.cells #[.string s] 9)).alloc (.cells #[.string ⟨#[58]⟩] 9)).alloc (.cells #[.int .i64 0] 3)) :=
    (((((Below.refl _ _).alloc (Nat.le_refl _) _).alloc (by simp) _).alloc (by simp; omega) _).alloc (by simp; omega) _).alloc (by simp; omega) _
  have sz : (((((w.alloc (.cells #[.slice none 0 0] 150)).alloc (.cells #[.bool false] 4)).alloc (.cells #[.string s] 9)).alloc (.cells #[.string ⟨#[58]⟩] 9)).alloc (.cells #[.int .i64 0] 3)).heap.size = w.heap.size + 5 := by simp
  refine (callsIn_wide (n := 5)).1 ?_
  refine callsIn_of_wp_marks Tryz.func162 rfl trivial ?_ rfl
  simp only [Tryz.ntmps162, List.size_toArray, List.length_cons, List.length_nil, Nat.reduceAdd, Nat.reduceSub, Array.replicate_succ, Array.replicate_zero, List.push_toArray, List.append_toArray, List.nil_append, List.cons_append]
  gi_wp2_with (refine ⟨trivial, ?_⟩; gi_at_call 205; refine (callsIn_wide.2 (splitSeq_any s ⟨#[58]⟩)).mono ?_; rintro e w' ⟨rfl, rfl⟩)
  rw [show w.heap.size + 1 + 1 + 1 = w.heap.size + 3 from rfl, show w.heap.size + 1 + 1 = w.heap.size + 2 from rfl, show w.heap.size + 2 + 2 = w.heap.size + 4 from rfl]
  generalize (((((w.alloc (.cells #[.slice none 0 0] 150)).alloc (.cells #[.bool false] 4)).alloc (.cells #[.string s] 9)).alloc (.cells #[.string ⟨#[58]⟩] 9)).alloc (.cells #[.int .i64 0] 3)) = W0 at b0 b1 b2 b3 b4 bel sz ⊢
  refine wpIn_rangeFunc_T rfl (by omega) (gf := 292) (lb := #[.pointer (some ⟨w.heap.size + 2 + 1, 0, none⟩), .pointer (some ⟨w.heap.size + 2, 0, none⟩), .pointer (some ⟨w.heap.size + 2 + 2, 0, none⟩)]) rfl trivial (enters_of Tryz.func292 (by kernel_rfl) rfl)
    (seq_stops s hs 58 (w.heap.size + 2) W0 b2 b3 b4) rfl
    (fun A B ⟨u, hB⟩ k hk => by rw [hB]; exact Below.heap_setCell _ _ _ _ (by simp; omega))
    (fun A B C h k => ⟨Nat.le_trans h.1 k.1, fun j h1 h2 => (k.2 j h1 h2).trans (h.2 j h1 h2)⟩)
    (fun W l o hl => ⟨by simp, fun k h1 h2 => World.putObj_heap_other (by omega)⟩)
    (GI w) (GX w) (fun _ _ _ h t => h.turn t) (fun _ _ _ _ h t => h.turn t) (GI.own w _ (by omega)) (GX.own w _ (by omega))
    ⟨⟨_, b0, World.ownsRow_nil _ _ _ _, trivial⟩, b1, ⟨_, b2⟩, b3, b4, bel, (fun t h => by cases h), by omega⟩
    (fun x => { tmps := #[.string s, undef, .pointer (some ⟨w.heap.size, 0, none⟩), .pointer (some ⟨w.heap.size + 1, 0, none⟩), .string x, undef, undef, .string s, .bool false, .string s, .func (.func 292) #[] #[.pointer (some ⟨w.heap.size + 3, 0, none⟩), .pointer (some ⟨w.heap.size + 2, 0, none⟩), .pointer (some ⟨w.heap.size + 4, 0, none⟩)], .string x, undef, undef, undef, undef, undef, undef, undef, undef, undef, undef, undef, undef, undef, undef, undef, undef, undef, undef, undef, undef, undef, undef, undef, undef, undef], defers := [] }) ?assign ?body ?done ?stop
  case assign =>
    intro l x W K hK
    gi_wp2
    exact hK
  case body =>
    rintro l pre x W ⟨⟨v, hv, hrow, -⟩, h1, ⟨u2, h2⟩, h3, h4, hB, hall, hW⟩ hpre
    have hx : x.size ≤ 140737488351232 := hsz x (hpre.subset (by simp))
    have hlen : pre.length + 1 ≤ 70368744177664 := by have := hpre.length_le; simp at this; omega
    have EW := (E.go hB).2
    have hfl := flatG_len pre
    have cv := hv.cell
    have fv := hv.frozen
    have cf := h1.cell
    have ff := h1.frozen
    cases hg : grpS x with
    | some u =>
      obtain ⟨g1, g2, g3, g4, g5, g6⟩ := grp_some hg
      have d4 : decide (4 < (x.size : Int)) = false := decide_eq_false (by omega)
      gi_wp2_with (first
        | (refine ⟨trivial, ?_⟩; gi_at_call 119; refine (CallsIn.inRound l (callsIn_wide.2 (pu_ok g1 hx g3))).mono ?_; rintro e W1 ⟨rfl, bel1⟩)
        | (refine ⟨trivial, ?_⟩; gi_at_call 206; refine (CallsIn.inRound l (callsIn_wide.2 (con_no g2 g5 g6))).mono ?_; rintro e W2 ⟨rfl, bel2⟩; have v2 := box_below (box_below hv bel1) bel2; have r2 := row_below (row_below hrow bel1) bel2; have bel3 := bel1.trans (bel2.mono bel1.size); have cv2 := v2.cell; have fv2 := v2.frozen)
        | (gi_at_builtin; refine wpListIn_append_own _ rfl _ _ 150 rfl w.heap.size 5 i0 (.int .u8 0) 1 1 Tryz.underlying150 hi hz0 hz1 hz2 rfl (by decide) _ _ _ rfl (r2.alloc _) ⟨W2.heap.size, 0, none⟩ 2 2 [.int .u8 ((u : Int) / 256), .int .u8 ((u : Int) % 256)] rfl rfl (new_cells W2 [.int .u8 ((u : Int) / 256), .int .u8 ((u : Int) % 256)] 5 _ rfl) (by simp [Value.oneCell']) (by unfold maxLen; omega) (by omega) (by have := hB.size; have := bel3.size; simp; omega) ?_; intro v' w1 hown' hgrow _; obtain ⟨g', cap', rfl⟩ := ownsRow_succ hown'; obtain ⟨hv1, hv2, hr2, hk2, hb2⟩ := v2.appended (by decide) r2 (by have := hB.size; have := bel3.size; omega) (Nat.le_refl _) hown' hgrow; have hc1 := hv1.cell; have hf1 := hv1.frozen))
      have x1 := fun v' => box_app (v' := v') (g := w.heap.size) (box_below (box_below h1 bel1) bel2) (by decide) (by omega) r2 hgrow
      have x2 := fun v' => box_app (v' := v') (g := w.heap.size) (box_below (box_below h2 bel1) bel2) (by decide) (by omega) r2 hgrow
      have x3 := fun v' => box_app (v' := v') (g := w.heap.size) (box_below (box_below h3 bel1) bel2) (by decide) (by omega) r2 hgrow
      have x4 := fun v' => box_app (v' := v') (g := w.heap.size) (box_below (box_below h4 bel1) bel2) (by decide) (by omega) r2 hgrow
      have hnum : nums .u8 (grpV x) = [.int .u8 ((u : Int) / 256), .int .u8 ((u : Int) % 256)] := by simp [grpV, hg, nums]
      have hl : (flatG (pre ++ [x])).length = (flatG pre).length + 2 := by rw [flatG_len, flatG_len]; simp; omega
      rw [← hfl]
      refine ⟨(keeps_below bel3).trans (hk2.from _), ⟨?_, fun k k1 k2 => ?_⟩, ⟨_, hv2, ?_, trivial⟩, x1 _, ⟨_, x2 _⟩, x3 _, x4 _, (hB.trans (bel3.mono hB.size)).trans hb2, fun t ht => ?_, ?_⟩
      · exact Nat.le_trans bel3.size hb2.size
      · rcases (by omega : k = w.heap.size + 2 ∨ k = w.heap.size + 3 ∨ k = w.heap.size + 4) with rfl | rfl | rfl
        · exact (x2 _).trans (Eq.symm h2)
        · exact (x3 _).trans (Eq.symm h3)
        · exact (x4 _).trans (Eq.symm h4)
      · rw [hl, flatG_snoc, ← nums_append, hnum]
        exact hr2
      · rcases List.mem_append.1 ht with ht | ht
        · exact hall t ht
        · rw [List.mem_singleton.1 ht, hg]; rfl
      · have := hb2.size
        have := bel3.size
        omega
    | none =>
      have fin : ∀ (a : Act) (W1 : World), Below W.heap.size W W1 → ownPostG W0.heap.size (Kp3 (w.heap.size + 2)) (GI w) (GX w) (pre ++ [x]) W .ret a ((W1.setCell ⟨w.heap.size, 0, none⟩ (.slice none 0 0)).setCell ⟨w.heap.size + 1, 0, none⟩ (.bool false))   := fun a W1 bel1 => by
        have v1 := box_below hv bel1
        have f1 := box_below h1 bel1
        refine ⟨(keeps_below bel1).trans (((KeepsOthers.setCell _ _ _).trans (KeepsOthers.setCell _ _ _)).from _), rfl, (v1.set _).other (by omega) _, (f1.other (by omega) _).set _, ?_, ⟨x, by simp, hg⟩, ?_⟩
        · exact ((hB.trans (bel1.mono hB.size)).setCell (p := ⟨w.heap.size, 0, none⟩) (Nat.le_refl _) _).setCell (p := ⟨w.heap.size + 1, 0, none⟩) (by simp) _
        · have := bel1.size
          simp [World.setCell]; omega
      replace fin := Lib.hid fin
      by_cases hz : x.size = 0
      · gi_wp2_with (refine ⟨trivial, ?_⟩; gi_at_call 119; refine (CallsIn.inRound l (callsIn_wide.2 (pu_no EW hx (.inl hz)))).mono ?_; rintro e W1 ⟨⟨n, te, pe, rfl⟩, bel1⟩; have v1 := box_below hv bel1; have f1 := box_below h1 bel1; have c1 := v1.cell; have e1 := v1.frozen; have c2 := f1.cell; have e2 := f1.frozen)
        refine ⟨trivial, ?_⟩
        gi_wp2
        exact fin.out _ W1 bel1
      · cases hm : hexM 0 x.data.toList with
        | ok u =>
          have h4x : 4 < x.size := by
            rcases grp_none hg with h | h | h
            · exact absurd h hz
            · exact h
            · exact absurd hm (h u)
          have d4 : decide (4 < (x.size : Int)) = true := decide_eq_true (by omega)
          gi_wp2_with (refine ⟨trivial, ?_⟩; gi_at_call 119; refine (CallsIn.inRound l (callsIn_wide.2 (pu_ok hz hx hm))).mono ?_; rintro e W1 ⟨rfl, bel1⟩; have v1 := box_below hv bel1; have f1 := box_below h1 bel1; have c1 := v1.cell; have e1 := v1.frozen; have c2 := f1.cell; have e2 := f1.frozen)
          refine ⟨trivial, ?_⟩
          gi_wp2
          exact fin.out _ W1 bel1
        | «syntax» =>
          gi_wp2_with (refine ⟨trivial, ?_⟩; gi_at_call 119; refine (CallsIn.inRound l (callsIn_wide.2 (pu_no EW hx (.inr (fun u h => by rw [hm] at h; cases h))))).mono ?_; rintro e W1 ⟨⟨n, te, pe, rfl⟩, bel1⟩; have v1 := box_below hv bel1; have f1 := box_below h1 bel1; have c1 := v1.cell; have e1 := v1.frozen; have c2 := f1.cell; have e2 := f1.frozen)
          refine ⟨trivial, ?_⟩
          gi_wp2
          exact fin.out _ W1 bel1
        | range =>
          gi_wp2_with (refine ⟨trivial, ?_⟩; gi_at_call 119; refine (CallsIn.inRound l (callsIn_wide.2 (pu_no EW hx (.inr (fun u h => by rw [hm] at h; cases h))))).mono ?_; rintro e W1 ⟨⟨n, te, pe, rfl⟩, bel1⟩; have v1 := box_below hv bel1; have f1 := box_below h1 bel1; have c1 := v1.cell; have e1 := v1.frozen; have c2 := f1.cell; have e2 := f1.frozen)
          refine ⟨trivial, ?_⟩
          gi_wp2
          exact fin.out _ W1 bel1
  case done =>
    rintro D ys W hD rfl ⟨⟨v, hv, hrow, -⟩, h1, -, -, -, hB, hall, hW⟩ hK
    have cv := hv.cell
    have fv := hv.frozen
    have cf := h1.cell
    have ff := h1.frozen
    have hq := grps_yes h0 hall
    obtain ⟨A, n, c, rfl⟩ : ∃ A n c, v = .slice A n c := by
      obtain ⟨_, ⟨rfl, _⟩ | ⟨g, cap, cur, rfl, _⟩⟩ := hrow
      · exact ⟨_, _, _, rfl⟩
      · exact ⟨_, _, _, rfl⟩
    gi_wp2
    have hK1 := (KeepsOthers.setCell W ⟨w.heap.size, 0, none⟩ (.slice A n c)).same D _ hK rfl
    have hK2 := (KeepsOthers.setCell (W.setCell ⟨w.heap.size, 0, none⟩ (.slice A n c)) ⟨w.heap.size + 1, 0, none⟩ (.bool true)).same D _ hK1 rfl
    refine ⟨by simp, .inl ⟨_, _, rfl, run_takeDeferred hK2, ?_⟩⟩
    have nr : ∀ b t u, Boxed W b t u → t ≠ 5 → (Value.slice A n c).ownBlock ≠ some b := fun b t u hb ht e => hb.not_row ht hrow e.symm
    have q1 := (hrow.kept (grownBy_setCell' W w.heap.size (.slice A n c)) (.inr (nr _ _ _ hv (by decide))))
    have q2 := q1.kept (grownBy_setCell' _ (w.heap.size + 1) (.bool true)) (.inr (nr _ _ _ h1 (by decide)))
    have p1 := ((hv.set (.slice A n c)).other (B' := w.heap.size + 1) (by omega) (.bool true)).kept (grownBy_putObj' _ D (.deferred none)) (by simp; omega)
    have p2 := ((h1.other (B' := w.heap.size) (by omega) (.slice A n c)).set (.bool true)).kept (grownBy_putObj' _ D (.deferred none)) (by simp; omega)
    have hb1 := (hB.setCell (p := ⟨w.heap.size, 0, none⟩) (Nat.le_refl _) (.slice A n c)).setCell (p := ⟨w.heap.size + 1, 0, none⟩) (by simp) (.bool true)
    exact ⟨_, results_cells2 rfl _ _ rfl (loadVar_slice Tryz.underlying150 p1.cell) rfl (loadVar_bool Tryz.underlying4 p2.cell), ⟨_, by rw [hq]; rfl, by rw [hq]; exact ownsRow_putObj q2 _ hK2 rfl⟩, hb1.trans (belowK_b (w := W0) (by omega) _ D _ _ hD hK2 rfl rfl)⟩
  case stop =>
    rintro D c pre W hD hpre ⟨rfl, hv, h1, hB, hbad, hW⟩ hK
    gi_wp2
    refine ⟨by simp, .inl ⟨_, _, rfl, run_takeDeferred hK, ?_⟩⟩
    have hq := grps_no h0 (by obtain ⟨t, ht, hn⟩ := hbad; exact ⟨t, hpre.subset ht, hn⟩)
    have p1 := hv.kept (grownBy_putObj' _ D (.deferred none)) (by simp; omega)
    have p2 := h1.kept (grownBy_putObj' _ D (.deferred none)) (by simp; omega)
    exact ⟨_, results_cells2 rfl _ _ rfl (loadVar_slice Tryz.underlying150 p1.cell) rfl (loadVar_bool Tryz.underlying4 p2.cell), ⟨_, by rw [hq]; rfl, by rw [hq]; exact World.ownsRow_nil _ _ _ _⟩, hB.trans (belowK_b (w := W0) (by omega) _ D _ _ hD hK rfl rfl)⟩
end Go.Proofs.YtnljjlaececnkaaGreatDoor
/-
  colons: groups as an address; Parse. Condition: the variables hold what their initialisers laid; a text is no longer than memory has room for.
-/
namespace Go.Proofs.YtnljjlaececnkaaGreatDoor
open Go.RowKit
set_option linter.unusedVariables false
set_option linter.unusedSimpArgs false
theorem pieces_sum (c : UInt8) : ∀ (k : Nat) (s : ByteArray), s.size ≤ k → (∀ t ∈ pieces s ⟨#[c]⟩, t.size ≤ s.size) ∧ (pieces s ⟨#[c]⟩).length ≤ s.size + 1
  | 0, s, hk => by
    have h : Lib.indexByte s.data.toList c = -1 := by
      rcases Classical.em (Lib.indexByte s.data.toList c = -1) with h | h
      · exact h
      · obtain ⟨i, _, h2⟩ := index_hit h; omega
    rw [pieces_miss h]
    exact ⟨fun t ht => by rw [List.mem_singleton.1 ht]; exact Nat.le_refl _, by simp⟩
  | k + 1, s, hk => by
    by_cases h : Lib.indexByte s.data.toList c = -1
    · rw [pieces_miss h]
      exact ⟨fun t ht => by rw [List.mem_singleton.1 ht]; exact Nat.le_refl _, by simp⟩
    · obtain ⟨i, h1, h2⟩ := index_hit h
      have hs : (s.extract (i + 1) s.size).size = s.size - (i + 1) := by rw [ByteArray.size_extract]; omega
      obtain ⟨a1, a2⟩ := pieces_sum c k (s.extract (i + 1) s.size) (by omega)
      rw [pieces_hit h1]
      refine ⟨fun t ht => ?_, by simp; omega⟩
      rcases List.mem_cons.1 ht with rfl | ht
      · rw [ByteArray.size_extract]; omega
      · have := a1 t ht; omega
set_option maxRecDepth 100000 in
set_option maxHeartbeats 400000 in
theorem grps_empty {w : World} : Calls Tryz.prog 162 #[.string ⟨#[]⟩] w fun e w' => GrpR w ⟨#[]⟩ e w' ∧ Below w.heap.size w w' := by
  have p1 := (Boxed.new w 150 (.slice none 0 0)).alloc (.cells #[.bool true] 4)
  have p2 := Boxed.new (w.alloc (.cells #[.slice none 0 0] 150)) 4 (.bool true)
  have bel : Below w.heap.size w ((w.alloc (.cells #[.slice none 0 0] 150)).alloc (.cells #[.bool true] 4)) := ((Below.refl _ _).alloc (Nat.le_refl _) _).alloc (by simp) _
  rw [World.size_alloc] at p2
  go_enter Tryz.func162, Tryz.ntmps162
  go_wp2
  exact bodyPost_ret (v := .tuple #[.slice none 0 0, .bool true]) (results_cells2 rfl _ _ rfl (loadVar_slice Tryz.underlying150 p1.cell) rfl (loadVar_bool Tryz.underlying4 p2.cell)) rfl ⟨⟨_, rfl, World.ownsRow_nil _ _ _ _⟩, bel⟩
/-- groups. -/
theorem grps_any {w : World} (E : Env w) (s : ByteArray) (hs : s.size < 4294967281) : Calls Tryz.prog 162 #[.string s] w fun e w' => GrpR w s e w' ∧ Below w.heap.size w w' := by
  by_cases h0 : s.size = 0
  · obtain rfl : s = ⟨#[]⟩ := by
      obtain ⟨⟨l⟩⟩ := s
      cases l with
      | nil => rfl
      | cons x l => simp [ByteArray.size] at h0
    exact grps_empty
  · obtain ⟨h1, h2⟩ := pieces_sum 58 s.size s (Nat.le_refl _)
    exact grps_some E s h0 hs (fun t ht => by have := h1 t ht; omega) (by omega)
/-- A copy of bytes of one's own into an array. -/
theorem copy_any {W : World} {n0 k g o dLen dCap : Nat} {v : Value} {xs a : List Int} (hv : W.ownsRow n0 5 1 v k (nums .u8 xs)) (hg : W.heap[g]? = some (oA a)) (hd : k ≤ dLen) (ho : o + k ≤ a.length) :
    (Builtin.copy_ #[150, 150] 3 #[.slice (some ⟨g, o, none⟩) dLen dCap, v]).run Tryz.prog W = .ok (.int .i64 k) (W.setRow g (nums .u8 (a.take o ++ xs ++ a.drop (o + k))).toArray) := by
  have hl : (nums .u8 xs).length = k := by have := hv.1; omega
  have hxl : xs.length = k := by rw [nums_length] at hl; exact hl
  obtain ⟨_, ⟨rfl, rfl⟩ | ⟨g', cap, cur, rfl, hb, hh, hcap, hmax, hsz, ht⟩⟩ := id hv
  · obtain rfl : xs = [] := List.eq_nil_of_length_eq_zero hxl
    rw [run_copy_none W 150 150 3 5 (some ⟨g, o, none⟩) none dLen dCap 0 0 Tryz.underlying150 (by kernel_rfl) (by simp), List.append_nil, Nat.add_zero, List.take_append_drop, setRow_self W g _ 42 (0, 0) hg]
    rfl
  · rw [run_copy_row Tryz.prog W 150 150 3 5 g o dLen dCap ⟨g', 0, none⟩ k cap _ 42 (nums .u8 xs) Tryz.underlying150 (by kernel_rfl) hg (by rw [hl]; exact (Nat.min_eq_left hd).symm) (fun j u hj => hv.cells rfl j u hj) (by rw [hl]; simpa [nums_length] using ho) (nums_one _ _)]
    have e1 : (nums .u8 a).toArray.toList.take o = nums .u8 (a.take o) := by simp [nums, List.map_take]
    have e2 : (nums .u8 a).toArray.toList.drop (o + (nums .u8 xs).length) = nums .u8 (a.drop (o + k)) := by rw [hl]; simp [nums, List.map_drop]
    rw [e1, e2, nums_append, nums_append, hl]; rfl
theorem cut_any {w : World} (E : Env w) {s sep : ByteArray} {l r : List UInt8} {gap : Bool} (hs : s.size < 4294967281) (h : Lib.cut s.data.toList sep.data.toList = (l, r, gap)) :
    Calls Tryz.prog 123 #[.string s, .string sep] w fun e w' => e = .returned (.tuple #[.string ⟨l.toArray⟩, .string ⟨r.toArray⟩, .bool gap]) ∧ Below w.heap.size w w' := by
  obtain ⟨m, hm⟩ := (E.go (Below.refl _ _)).1.mx
  refine (Tryz.strings_Cut s sep m w hs hm).mono fun e w' ⟨he, n, hw⟩ => ⟨by rw [he, h], ?_⟩
  rw [hw]; exact ⟨rfl, rfl, rfl, Nat.le_refl _, fun _ _ => rfl⟩
theorem ownR_slice {W : World} {n0 e k : Nat} {v : Value} {xs : List Value} (h : W.ownsRow n0 e 1 v k xs) : ∃ A c, v = .slice A k c := by
  obtain ⟨_, ⟨rfl, rfl⟩ | ⟨g, cap, cur, rfl, _⟩⟩ := h
  · exact ⟨_, _, rfl⟩
  · exact ⟨_, _, rfl⟩
theorem grp_rng {s : ByteArray} {l : List Int} (h : grpsS s = some l) : ∀ x ∈ l, 0 ≤ x ∧ x < 256 := by
  have key : ∀ (ps : List ByteArray), (∀ t ∈ ps, (grpS t).isSome = true) → ∀ x ∈ (ps.map grpV).flatten, 0 ≤ x ∧ x < 256 := by
    intro ps hp x hx
    obtain ⟨l, hl, hxl⟩ := List.mem_flatten.1 hx
    obtain ⟨t, ht, rfl⟩ := List.mem_map.1 hl
    obtain ⟨u, hu⟩ := Option.isSome_iff_exists.1 (hp t ht)
    obtain ⟨-, -, -, hu2, -⟩ := grp_some hu
    simp [grpV, hu] at hxl
    rcases hxl with rfl | rfl <;> omega
  unfold grpsS grpsL at h
  split at h
  · cases h; intro x hx; cases hx
  · split at h
    · rename_i hall
      cases h
      exact key _ (fun t ht => List.all_eq_true.1 hall t ht)
    · cases h
/-- The address that groups fill. -/
def fillA (b c : List Int) : List Int := b ++ List.replicate (16 - b.length - c.length) 0 ++ c
theorem fill_ok {b c : List Int} (h : b.length + c.length ≤ 16) (hb : ∀ x ∈ b, 0 ≤ x ∧ x < 256) (hc : ∀ x ∈ c, 0 ≤ x ∧ x < 256) : isA (fillA b c) := by
  refine ⟨by simp [fillA]; omega, fun x hx => ?_⟩
  rcases List.mem_append.1 hx with hx | hx
  · rcases List.mem_append.1 hx with hx | hx
    · exact hb x hx
    · rw [(List.mem_replicate.1 hx).2]; decide
  · exact hc x hx
theorem fill_one {b : List Int} (h : b.length ≤ 16) : zeroA.take 0 ++ b ++ zeroA.drop (0 + b.length) = b ++ List.replicate (16 - b.length) 0 := by
  rw [zeroA, Nat.zero_add, List.drop_replicate, List.take_zero, List.nil_append]
theorem fill_two {b c : List Int} (h : b.length + c.length ≤ 16) : (b ++ List.replicate (16 - b.length) (0 : Int)).take (16 - c.length) ++ c ++ (b ++ List.replicate (16 - b.length) (0 : Int)).drop (16 - c.length + c.length) = fillA b c := by
  have h1 : (b ++ List.replicate (16 - b.length) (0 : Int)).length = 16 := by simp; omega
  rw [List.drop_of_length_le (by omega), List.append_nil, List.take_append, List.take_of_length_le (by omega), List.take_replicate, fillA, show min (16 - c.length - b.length) (16 - b.length) = 16 - b.length - c.length by omega]
theorem col_no {s : ByteArray} {l r : List UInt8} {gap : Bool} (h : Lib.cut s.data.toList gapB.data.toList = (l, r, gap)) (hn : grpsS ⟨l.toArray⟩ = none ∨ grpsS ⟨r.toArray⟩ = none) : colS s = none := by
  unfold colS
  rw [h]
  rcases hn with hn | hn
  · simp only [hn]
  · simp only [hn]
    cases grpsS ⟨l.toArray⟩ <;> rfl
theorem col_yes {s : ByteArray} {l r : List UInt8} {gap : Bool} {b c : List Int} (h : Lib.cut s.data.toList gapB.data.toList = (l, r, gap)) (hb : grpsS ⟨l.toArray⟩ = some b) (hc : grpsS ⟨r.toArray⟩ = some c) :
    colS s = if (gap = false ∧ b.length ≠ 16) ∨ (gap = true ∧ 14 < b.length + c.length) then none else some (fillA b c) := by
  unfold colS
  rw [h]
  simp only [hb, hc, fillA]
theorem cut_lens {s : ByteArray} {l r : List UInt8} {gap : Bool} (h : Lib.cut s.data.toList gapB.data.toList = (l, r, gap)) : l.length ≤ s.size ∧ r.length ≤ s.size ∧ (gap = false → r = []) := by
  have hl : s.data.toList.length = s.size := Array.length_toList
  unfold Lib.cut at h
  split at h
  · cases h
    exact ⟨by rw [List.length_take]; omega, by rw [List.length_drop]; omega, fun h => by cases h⟩
  · cases h
    exact ⟨by omega, Nat.zero_le _, fun _ => rfl⟩
theorem grps_is {w : World} (E : Env w) {s : ByteArray} {b : List Int} {n : Nat} (hs : s.size < 4294967281) (h : grpsS s = some b) (hn : b.length = n) : Calls Tryz.prog 162 #[.string s] w fun e w' => ∃ A c, e = .returned (.tuple #[.slice A n c, .bool true]) ∧ w'.ownsRow w.heap.size 5 1 (.slice A n c) n (nums .u8 b) ∧ Below w.heap.size w w' := by
  refine (grps_any E s hs).mono fun e w' ⟨⟨v, he, ho⟩, bel⟩ => ?_
  rw [h] at he ho
  obtain ⟨A, c, rfl⟩ := ownR_slice ho
  rw [← hn]
  exact ⟨A, c, he, ho, bel⟩
theorem grps_isnt {w : World} (E : Env w) {s : ByteArray} (hs : s.size < 4294967281) (h : grpsS s = none) : Calls Tryz.prog 162 #[.string s] w fun e w' => ∃ v, e = .returned (.tuple #[v, .bool false]) ∧ Below w.heap.size w w' := by
  refine (grps_any E s hs).mono fun e w' ⟨⟨v, he, ho⟩, bel⟩ => ?_
  rw [h] at he
  exact ⟨v, he, bel⟩
theorem grps_some_or {w : World} (E : Env w) {s : ByteArray} (hs : s.size < 4294967281) : Calls Tryz.prog 162 #[.string s] w fun e w' => ∃ v x, e = .returned (.tuple #[v, .bool x]) ∧ Below w.heap.size w w' :=
  (grps_any E s hs).mono fun e w' ⟨⟨v, he, ho⟩, bel⟩ => ⟨v, _, he, bel⟩
set_option maxRecDepth 100000 in
set_option maxHeartbeats 1600000 in
theorem col_one {w : World} (E : Env w) {s : ByteArray} (hs : s.size < 4294967281) {l r : List UInt8} {gap : Bool} (hcut : Lib.cut s.data.toList gapB.data.toList = (l, r, gap)) (h1 : grpsS ⟨l.toArray⟩ = none) : Calls Tryz.prog 102 #[.string s] w fun e w' => QuadR (colS s) e ∧ Below w.heap.size w w' := by
  have hno := col_no hcut (.inl h1)
  obtain ⟨hl, hr, hgap⟩ := cut_lens hcut
  have hl2 : (⟨l.toArray⟩ : ByteArray).size < 4294967281 := by show l.toArray.size < _; simp; omega
  have hr2 : (⟨r.toArray⟩ : ByteArray).size < 4294967281 := by show r.toArray.size < _; simp; omega
  have hc := fun {w : World} (E : Env w) => cut_any E hs hcut
  have bel0 : Below w.heap.size w (w.alloc (oA zeroA)) := (Below.refl _ _).alloc (Nat.le_refl _) _
  have E1 := (E.go bel0).2
  have hb0 := Lib.hid (box1 w (oA zeroA))
  clear hcut hl hr hgap
  generalize (⟨l.toArray⟩ : ByteArray) = L at *
  generalize (⟨r.toArray⟩ : ByteArray) = R at *
  go_enter Tryz.func102, Tryz.ntmps102
  go_wp2_with (first
    | (go_at_call 123; refine (hc E1).mono ?_; clear hc; rintro e w1 ⟨rfl, bel1⟩; have E2 := (E1.go bel1).2; have hb1 := Lib.hid (Below.box hb0.out bel1 (by simp)))
    | (go_at_call 162; refine (grps_isnt E2 hl2 h1).mono ?_; clear hl2; rintro e w2 ⟨v1, rfl, bel2⟩; have E3 := (E2.go bel2).2; have hb2 := Lib.hid (Below.box hb1.out bel2 (lt_of_obj hb1.out)))
    | (go_at_call 162; refine (grps_some_or E3 hr2).mono ?_; clear hr2; rintro e w3 ⟨v2, x2, rfl, bel3⟩; have hb3 := Lib.hid (Below.box hb2.out bel3 (lt_of_obj hb2.out)); have bel4 := ((bel0.trans (bel1.mono bel0.size)).trans (bel2.mono (Nat.le_trans bel0.size bel1.size))).trans (bel3.mono (Nat.le_trans bel0.size (Nat.le_trans bel1.size bel2.size))))
    | (refine wpList_load_mid rfl 42 (.tmp 2) rfl w.heap.size 0 rfl (nums .u8 zeroA) _ (row_load hb3.out) Tryz.underlying42 rfl (info42 zeroA_ok) ?_)
    | (refine wpList_store_row rfl 42 (.tmp 2) (.tmp 33) rfl w.heap.size _ rfl rfl 42 (nums .u8 zeroA).toArray hb3.out (info42 zeroA_ok) rfl (numsA_one _) ?_))
  refine bodyPost_ret (v := .tuple #[vA zeroA, .bool false]) ?_ rfl ⟨by unfold QuadR; rw [hno]; rfl, below_row bel4 (Nat.le_refl _) _⟩
  exact results_cell_tmp rfl _ _ rfl (BoxA.run (a := zeroA) (setRow_heap _ _ _ _ _ _ hb3.out) zeroA_ok) rfl
set_option maxRecDepth 100000 in
set_option maxHeartbeats 1600000 in
theorem col_two {w : World} (E : Env w) {s : ByteArray} (hs : s.size < 4294967281) {l r : List UInt8} {gap : Bool} (hcut : Lib.cut s.data.toList gapB.data.toList = (l, r, gap)) {b : List Int} (h1 : grpsS ⟨l.toArray⟩ = some b) (h2 : grpsS ⟨r.toArray⟩ = none) : Calls Tryz.prog 102 #[.string s] w fun e w' => QuadR (colS s) e ∧ Below w.heap.size w w' := by
  have hno := col_no hcut (.inr h2)
  obtain ⟨hl, hr, hgap⟩ := cut_lens hcut
  have hl2 : (⟨l.toArray⟩ : ByteArray).size < 4294967281 := by show l.toArray.size < _; simp; omega
  have hr2 : (⟨r.toArray⟩ : ByteArray).size < 4294967281 := by show r.toArray.size < _; simp; omega
  have hc := fun {w : World} (E : Env w) => cut_any E hs hcut
  have bel0 : Below w.heap.size w (w.alloc (oA zeroA)) := (Below.refl _ _).alloc (Nat.le_refl _) _
  have E1 := (E.go bel0).2
  have hb0 := Lib.hid (box1 w (oA zeroA))
  clear hcut hl hr hgap
  generalize (⟨l.toArray⟩ : ByteArray) = L at *
  generalize (⟨r.toArray⟩ : ByteArray) = R at *
  go_enter Tryz.func102, Tryz.ntmps102
  go_wp2_with (first
    | (go_at_call 123; refine (hc E1).mono ?_; clear hc; rintro e w1 ⟨rfl, bel1⟩; have E2 := (E1.go bel1).2; have hb1 := Lib.hid (Below.box hb0.out bel1 (by simp)))
    | (go_at_call 162; refine (grps_is E2 hl2 h1 rfl).mono ?_; clear hl2; rintro e w2 ⟨A1, c1, rfl, own1, bel2⟩; have E3 := (E2.go bel2).2; have hb2 := Lib.hid (Below.box hb1.out bel2 (lt_of_obj hb1.out)))
    | (go_at_call 162; refine (grps_isnt E3 hr2 h2).mono ?_; clear hr2; rintro e w3 ⟨v2, rfl, bel3⟩; have hb3 := Lib.hid (Below.box hb2.out bel3 (lt_of_obj hb2.out)); have bel4 := ((bel0.trans (bel1.mono bel0.size)).trans (bel2.mono (Nat.le_trans bel0.size bel1.size))).trans (bel3.mono (Nat.le_trans bel0.size (Nat.le_trans bel1.size bel2.size))))
    | (refine wpList_load_mid rfl 42 (.tmp 2) rfl w.heap.size 0 rfl (nums .u8 zeroA) _ (row_load hb3.out) Tryz.underlying42 rfl (info42 zeroA_ok) ?_)
    | (refine wpList_store_row rfl 42 (.tmp 2) (.tmp 33) rfl w.heap.size _ rfl rfl 42 (nums .u8 zeroA).toArray hb3.out (info42 zeroA_ok) rfl (numsA_one _) ?_))
  refine bodyPost_ret (v := .tuple #[vA zeroA, .bool false]) ?_ rfl ⟨by unfold QuadR; rw [hno]; rfl, below_row bel4 (Nat.le_refl _) _⟩
  exact results_cell_tmp rfl _ _ rfl (BoxA.run (a := zeroA) (setRow_heap _ _ _ _ _ _ hb3.out) zeroA_ok) rfl
set_option maxRecDepth 100000 in
set_option maxHeartbeats 1600000 in
theorem col_short {w : World} (E : Env w) {s : ByteArray} (hs : s.size < 4294967281) {l r : List UInt8} {gap : Bool} (hcut : Lib.cut s.data.toList gapB.data.toList = (l, r, gap)) {b c : List Int} {n m : Nat} (h1 : grpsS ⟨l.toArray⟩ = some b) (h2 : grpsS ⟨r.toArray⟩ = some c) (hn : b.length = n) (hm : c.length = m) (hg : gap = false) (hne : ((n : Int) == 16) = false) : Calls Tryz.prog 102 #[.string s] w fun e w' => QuadR (colS s) e ∧ Below w.heap.size w w' := by
  have hno : colS s = none := by rw [col_yes hcut h1 h2, if_pos (.inl ⟨hg, by rw [hn]; simp at hne; omega⟩)]
  obtain ⟨hl, hr, hgap⟩ := cut_lens hcut
  have hl2 : (⟨l.toArray⟩ : ByteArray).size < 4294967281 := by show l.toArray.size < _; simp; omega
  have hr2 : (⟨r.toArray⟩ : ByteArray).size < 4294967281 := by show r.toArray.size < _; simp; omega
  have hc := fun {w : World} (E : Env w) => cut_any E hs hcut
  have bel0 : Below w.heap.size w (w.alloc (oA zeroA)) := (Below.refl _ _).alloc (Nat.le_refl _) _
  have E1 := (E.go bel0).2
  have hb0 := Lib.hid (box1 w (oA zeroA))
  subst hg
  clear hcut hl hr hgap
  generalize (⟨l.toArray⟩ : ByteArray) = L at *
  generalize (⟨r.toArray⟩ : ByteArray) = R at *
  go_enter Tryz.func102, Tryz.ntmps102
  go_wp2_with (first
    | (go_at_call 123; refine (hc E1).mono ?_; clear hc; rintro e w1 ⟨rfl, bel1⟩; have E2 := (E1.go bel1).2; have hb1 := Lib.hid (Below.box hb0.out bel1 (by simp)))
    | (go_at_call 162; refine (grps_is E2 hl2 h1 hn).mono ?_; clear hl2; rintro e w2 ⟨A1, c1, rfl, own1, bel2⟩; have E3 := (E2.go bel2).2; have hb2 := Lib.hid (Below.box hb1.out bel2 (lt_of_obj hb1.out)))
    | (go_at_call 162; refine (grps_is E3 hr2 h2 hm).mono ?_; clear hr2; rintro e w3 ⟨A2, c2, rfl, own2, bel3⟩; have hb3 := Lib.hid (Below.box hb2.out bel3 (lt_of_obj hb2.out)); have bel4 := ((bel0.trans (bel1.mono bel0.size)).trans (bel2.mono (Nat.le_trans bel0.size bel1.size))).trans (bel3.mono (Nat.le_trans bel0.size (Nat.le_trans bel1.size bel2.size))))
    | (refine wpList_load_mid rfl 42 (.tmp 2) rfl w.heap.size 0 rfl (nums .u8 zeroA) _ (row_load hb3.out) Tryz.underlying42 rfl (info42 zeroA_ok) ?_)
    | (refine wpList_store_row rfl 42 (.tmp 2) (.tmp 51) rfl w.heap.size _ rfl rfl 42 (nums .u8 zeroA).toArray hb3.out (info42 zeroA_ok) rfl (numsA_one _) ?_))
  refine bodyPost_ret (v := .tuple #[vA zeroA, .bool false]) ?_ rfl ⟨by unfold QuadR; rw [hno]; rfl, below_row bel4 (Nat.le_refl _) _⟩
  exact results_cell_tmp rfl _ _ rfl (BoxA.run (a := zeroA) (setRow_heap _ _ _ _ _ _ hb3.out) zeroA_ok) rfl
set_option maxRecDepth 100000 in
set_option maxHeartbeats 1600000 in
theorem col_long {w : World} (E : Env w) {s : ByteArray} (hs : s.size < 4294967281) {l r : List UInt8} {gap : Bool} (hcut : Lib.cut s.data.toList gapB.data.toList = (l, r, gap)) {b c : List Int} {n m : Nat} (h1 : grpsS ⟨l.toArray⟩ = some b) (h2 : grpsS ⟨r.toArray⟩ = some c) (hn : b.length = n) (hm : c.length = m) (hnb : n ≤ 100000000000) (hmb : m ≤ 100000000000) (hg : gap = true) (hgt : decide (14 < (n : Int) + (m : Int)) = true) : Calls Tryz.prog 102 #[.string s] w fun e w' => QuadR (colS s) e ∧ Below w.heap.size w w' := by
  have hw : wrap64 ((n : Int) + (m : Int)) = (n : Int) + m := by unfold wrap64; omega
  have hno : colS s = none := by rw [col_yes hcut h1 h2, if_pos (.inr ⟨hg, by rw [hn, hm]; have := of_decide_eq_true hgt; omega⟩)]
  obtain ⟨hl, hr, hgap⟩ := cut_lens hcut
  have hl2 : (⟨l.toArray⟩ : ByteArray).size < 4294967281 := by show l.toArray.size < _; simp; omega
  have hr2 : (⟨r.toArray⟩ : ByteArray).size < 4294967281 := by show r.toArray.size < _; simp; omega
  have hc := fun {w : World} (E : Env w) => cut_any E hs hcut
  have bel0 : Below w.heap.size w (w.alloc (oA zeroA)) := (Below.refl _ _).alloc (Nat.le_refl _) _
  have E1 := (E.go bel0).2
  have hb0 := Lib.hid (box1 w (oA zeroA))
  subst hg
  clear hcut hl hr hgap
  generalize (⟨l.toArray⟩ : ByteArray) = L at *
  generalize (⟨r.toArray⟩ : ByteArray) = R at *
  go_enter Tryz.func102, Tryz.ntmps102
  go_wp2_with (first
    | (go_at_call 123; refine (hc E1).mono ?_; clear hc; rintro e w1 ⟨rfl, bel1⟩; have E2 := (E1.go bel1).2; have hb1 := Lib.hid (Below.box hb0.out bel1 (by simp)))
    | (go_at_call 162; refine (grps_is E2 hl2 h1 hn).mono ?_; clear hl2; rintro e w2 ⟨A1, c1, rfl, own1, bel2⟩; have E3 := (E2.go bel2).2; have hb2 := Lib.hid (Below.box hb1.out bel2 (lt_of_obj hb1.out)))
    | (go_at_call 162; refine (grps_is E3 hr2 h2 hm).mono ?_; clear hr2; rintro e w3 ⟨A2, c2, rfl, own2, bel3⟩; have hb3 := Lib.hid (Below.box hb2.out bel3 (lt_of_obj hb2.out)); have bel4 := ((bel0.trans (bel1.mono bel0.size)).trans (bel2.mono (Nat.le_trans bel0.size bel1.size))).trans (bel3.mono (Nat.le_trans bel0.size (Nat.le_trans bel1.size bel2.size))))
    | (refine wpList_load_mid rfl 42 (.tmp 2) rfl w.heap.size 0 rfl (nums .u8 zeroA) _ (row_load hb3.out) Tryz.underlying42 rfl (info42 zeroA_ok) ?_)
    | (refine wpList_store_row rfl 42 (.tmp 2) (.tmp 51) rfl w.heap.size _ rfl rfl 42 (nums .u8 zeroA).toArray hb3.out (info42 zeroA_ok) rfl (numsA_one _) ?_))
  refine bodyPost_ret (v := .tuple #[vA zeroA, .bool false]) ?_ rfl ⟨by unfold QuadR; rw [hno]; rfl, below_row bel4 (Nat.le_refl _) _⟩
  exact results_cell_tmp rfl _ _ rfl (BoxA.run (a := zeroA) (setRow_heap _ _ _ _ _ _ hb3.out) zeroA_ok) rfl
def offD (m : Nat) : Nat := if m = 0 then 0 else 16 - m
theorem slice_low (W : World) (g : Nat) {m : Nat} (hm : m ≤ 16) : (Instr.sliceAt 42 (.pointer (some ⟨g, 0, none⟩)) (some (.int .i64 (16 - (m : Int)))) none none).run Tryz.prog W = .ok (.slice (some ⟨g, offD m, none⟩) m m) W := by
  have a16 : Tryz.prog.arrayLen 42 = 16 := by kernel_rfl
  have e5 : Tryz.prog.elem 42 = 5 := by kernel_rfl
  have hs : (sizeOf 5).run Tryz.prog W = .ok 1 W := by kernel_rfl
  have h := run_sliceAt_array_l (P := Tryz.prog) W 42 ⟨g, 0, none⟩ (by kernel_rfl) .i64 (16 - (m : Int)) (by omega) (by rw [a16]; omega)
  rw [h, e5, hs, a16]
  have e1 : (16 - (m : Int)).toNat = 16 - m := by omega
  unfold offD
  by_cases h0 : m = 0
  · subst h0; simp [Result.andThen, slicedAt]
  · have h1 : 16 ≠ 16 - m := by omega
    have h2 : 16 - (16 - m) = m := by omega
    simp [Result.andThen, slicedAt, e1, h0, h1, h2, Addr.add]
    try omega
theorem own_ne {W : World} {g t e k n0 : Nat} {cs : Array Value} {v : Value} {xs : List Value} (h : W.heap[g]? = some (.cells cs t (0, 0))) (ht : t ≠ e) (ho : W.ownsRow n0 e 1 v k xs) : v.ownBlock ≠ some g := fun e' => by
  obtain ⟨_, ⟨rfl, _⟩ | ⟨g', cap, cur, rfl, _, hh, _⟩⟩ := ho
  · cases e'
  · cases e'
    rw [h] at hh
    cases hh
    exact ht rfl
theorem own_setRow {W : World} {g e k n0 : Nat} {cs : Array Value} {v : Value} {xs : List Value} (ho : W.ownsRow n0 e 1 v k xs) (hne : v.ownBlock ≠ some g) : (W.setRow g cs).ownsRow n0 e 1 v k xs :=
  ho.kept (row := some g) ⟨rfl, rfl, rfl, by simp, fun j _ hj => setRow_other _ _ _ _ (fun e => hj (by rw [e]))⟩ (.inr hne)
/-- The two copies. -/
theorem copies {w3 : World} {g n m n1 n2 c1 c2 : Nat} {A1 A2 : Option Addr} {b c : List Int} (h3 : w3.heap[g]? = some (oA zeroA)) (o1 : w3.ownsRow n1 5 1 (.slice A1 n c1) n (nums .u8 b)) (o2 : w3.ownsRow n2 5 1 (.slice A2 m c2) m (nums .u8 c)) (hn : b.length = n) (hm : c.length = m) (hs : n + m ≤ 16) (dC : Nat) :
    (Builtin.copy_ #[150, 150] 3 #[.slice (some ⟨g, 0, none⟩) 16 16, .slice A1 n c1]).run Tryz.prog w3 = .ok (.int .i64 n) (w3.setRow g (nums .u8 (b ++ List.replicate (16 - n) 0)).toArray) ∧
    (Builtin.copy_ #[150, 150] 3 #[.slice (some ⟨g, offD m, none⟩) m dC, .slice A2 m c2]).run Tryz.prog (w3.setRow g (nums .u8 (b ++ List.replicate (16 - n) 0)).toArray) = .ok (.int .i64 m) (w3.setRow g (nums .u8 (fillA b c)).toArray) := by
  have z : zeroA.length = 16 := rfl
  refine ⟨?_, ?_⟩
  · rw [copy_any o1 h3 (by omega) (by omega)]
    have := fill_one (b := b) (by omega)
    rw [hn] at this
    rw [this]
  · have h4 : (w3.setRow g (nums .u8 (b ++ List.replicate (16 - n) 0)).toArray).heap[g]? = some (oA (b ++ List.replicate (16 - n) 0)) := setRow_heap _ _ _ _ _ _ h3
    rw [copy_any (own_setRow o2 (own_ne h3 (by decide) o2)) h4 (Nat.le_refl _) (by unfold offD; simp; split <;> omega), setRow_setRow]
    have e : (b ++ List.replicate (16 - n) (0 : Int)).take (offD m) ++ c ++ (b ++ List.replicate (16 - n) (0 : Int)).drop (offD m + m) = fillA b c := by
      unfold offD
      split
      · rename_i h0
        subst h0
        obtain rfl : c = [] := List.eq_nil_of_length_eq_zero hm
        simp [fillA, hn]
      · have := fill_two (b := b) (c := c) (by omega)
        rw [hn, hm] at this
        exact this
    rw [e]
set_option maxRecDepth 100000 in
set_option maxHeartbeats 1600000 in
theorem col_gap {w : World} (E : Env w) {s : ByteArray} (hs : s.size < 4294967281) {l r : List UInt8} (hcut : Lib.cut s.data.toList gapB.data.toList = (l, r, true)) {b c : List Int} {n m : Nat} (h1 : grpsS ⟨l.toArray⟩ = some b) (h2 : grpsS ⟨r.toArray⟩ = some c) (hn : b.length = n) (hm : c.length = m) (hle : n + m ≤ 14) : Calls Tryz.prog 102 #[.string s] w fun e w' => QuadR (colS s) e ∧ Below w.heap.size w w' := by
  have hyes : colS s = some (fillA b c) := by rw [col_yes hcut h1 h2, if_neg (fun h => h.elim (fun h => Bool.noConfusion h.1) (fun h => by have := h.2; omega))]
  have hok := fill_ok (b := b) (c := c) (by omega) (grp_rng h1) (grp_rng h2)
  have hw : wrap64 ((n : Int) + (m : Int)) = (n : Int) + m := by unfold wrap64; omega
  have hd : decide (14 < (n : Int) + (m : Int)) = false := decide_eq_false (by omega)
  have hsl := fun W => slice_low W w.heap.size (m := m) (by omega)
  obtain ⟨hl, hr, hgap⟩ := cut_lens hcut
  have hl2 : (⟨l.toArray⟩ : ByteArray).size < 4294967281 := by show l.toArray.size < _; simp; omega
  have hr2 : (⟨r.toArray⟩ : ByteArray).size < 4294967281 := by show r.toArray.size < _; simp; omega
  have hc := fun {w : World} (E : Env w) => cut_any E hs hcut
  have bel0 : Below w.heap.size w (w.alloc (oA zeroA)) := (Below.refl _ _).alloc (Nat.le_refl _) _
  have E1 := (E.go bel0).2
  have hb0 := Lib.hid (box1 w (oA zeroA))
  clear hcut hl hr hgap
  generalize (⟨l.toArray⟩ : ByteArray) = L at *
  generalize (⟨r.toArray⟩ : ByteArray) = R at *
  replace hok := Lib.hid hok
  replace hyes := Lib.hid hyes
  go_enter Tryz.func102, Tryz.ntmps102
  go_wp2_with (first
    | (go_at_call 123; refine (hc E1).mono ?_; clear hc; rintro e w1 ⟨rfl, bel1⟩; have E2 := (E1.go bel1).2; have hb1 := Lib.hid (Below.box hb0.out bel1 (by simp)))
    | (go_at_call 162; refine (grps_is E2 hl2 h1 hn).mono ?_; clear hl2; rintro e w2 ⟨A1, c1, rfl, own1, bel2⟩; have E3 := (E2.go bel2).2; have hb2 := Lib.hid (Below.box hb1.out bel2 (lt_of_obj hb1.out)))
    | (go_at_call 162; refine (grps_is E3 hr2 h2 hm).mono ?_; clear hr2; rintro e w3 ⟨A2, c2, rfl, own2, bel3⟩; have hb3 := Lib.hid (Below.box hb2.out bel3 (lt_of_obj hb2.out)); have bel4 := ((bel0.trans (bel1.mono bel0.size)).trans (bel2.mono (Nat.le_trans bel0.size bel1.size))).trans (bel3.mono (Nat.le_trans bel0.size (Nat.le_trans bel1.size bel2.size))); have hcps := copies hb3.out (row_below own1 bel3) own2 hn hm (by omega) m; have hcp1 := hcps.1; have hcp2 := hcps.2; clear hcps own1 own2; have hb5 := Lib.hid (setRow_heap w3 w.heap.size (nums .u8 zeroA).toArray (nums .u8 (fillA b c)).toArray 42 (0, 0) hb3.out))
    | (refine wpList_load_mid rfl 42 (.tmp 2) rfl w.heap.size 0 rfl (nums .u8 (fillA b c)) _ (row_load hb5.out) Tryz.underlying42 rfl (info42 hok.out) ?_)
    | (refine wpList_store_row rfl 42 (.tmp 2) (.tmp 61) rfl w.heap.size _ rfl rfl 42 (nums .u8 (fillA b c)).toArray hb5.out (info42 hok.out) rfl (numsA_one _) ?_))
  refine bodyPost_ret (v := .tuple #[vA (fillA b c), .bool true]) ?_ rfl ⟨by unfold QuadR; rw [hyes.out]; rfl, below_row (below_row bel4 (Nat.le_refl _) _) (Nat.le_refl _) _⟩
  exact results_cell_tmp rfl _ _ rfl (BoxA.run (a := fillA b c) (setRow_heap _ _ _ _ _ _ hb5.out) hok.out) rfl
set_option maxRecDepth 100000 in
set_option maxHeartbeats 1600000 in
theorem col_full {w : World} (E : Env w) {s : ByteArray} (hs : s.size < 4294967281) {l r : List UInt8} (hcut : Lib.cut s.data.toList gapB.data.toList = (l, r, false)) {b c : List Int} {n m : Nat} (h1 : grpsS ⟨l.toArray⟩ = some b) (h2 : grpsS ⟨r.toArray⟩ = some c) (hn : b.length = n) (hm : c.length = m) (hn16 : n = 16) (hm0 : m = 0) : Calls Tryz.prog 102 #[.string s] w fun e w' => QuadR (colS s) e ∧ Below w.heap.size w w' := by
  have hyes : colS s = some (fillA b c) := by rw [col_yes hcut h1 h2, if_neg (fun h => h.elim (fun h => h.2 (by omega)) (fun h => Bool.noConfusion h.1))]
  have hok := fill_ok (b := b) (c := c) (by omega) (grp_rng h1) (grp_rng h2)
  have hd : ((n : Int) == 16) = true := by subst hn16; rfl
  have hsl := fun W => slice_low W w.heap.size (m := m) (by omega)
  obtain ⟨hl, hr, hgap⟩ := cut_lens hcut
  have hl2 : (⟨l.toArray⟩ : ByteArray).size < 4294967281 := by show l.toArray.size < _; simp; omega
  have hr2 : (⟨r.toArray⟩ : ByteArray).size < 4294967281 := by show r.toArray.size < _; simp; omega
  have hc := fun {w : World} (E : Env w) => cut_any E hs hcut
  have bel0 : Below w.heap.size w (w.alloc (oA zeroA)) := (Below.refl _ _).alloc (Nat.le_refl _) _
  have E1 := (E.go bel0).2
  have hb0 := Lib.hid (box1 w (oA zeroA))
  clear hcut hl hr hgap
  generalize (⟨l.toArray⟩ : ByteArray) = L at *
  generalize (⟨r.toArray⟩ : ByteArray) = R at *
  have hle : n + m ≤ 16 := by omega
  clear hn16 hm0
  replace hok := Lib.hid hok
  replace hyes := Lib.hid hyes
  go_enter Tryz.func102, Tryz.ntmps102
  go_wp2_with (first
    | (go_at_call 123; refine (hc E1).mono ?_; clear hc; rintro e w1 ⟨rfl, bel1⟩; have E2 := (E1.go bel1).2; have hb1 := Lib.hid (Below.box hb0.out bel1 (by simp)))
    | (go_at_call 162; refine (grps_is E2 hl2 h1 hn).mono ?_; clear hl2; rintro e w2 ⟨A1, c1, rfl, own1, bel2⟩; have E3 := (E2.go bel2).2; have hb2 := Lib.hid (Below.box hb1.out bel2 (lt_of_obj hb1.out)))
    | (go_at_call 162; refine (grps_is E3 hr2 h2 hm).mono ?_; clear hr2; rintro e w3 ⟨A2, c2, rfl, own2, bel3⟩; have hb3 := Lib.hid (Below.box hb2.out bel3 (lt_of_obj hb2.out)); have bel4 := ((bel0.trans (bel1.mono bel0.size)).trans (bel2.mono (Nat.le_trans bel0.size bel1.size))).trans (bel3.mono (Nat.le_trans bel0.size (Nat.le_trans bel1.size bel2.size))); have hcps := copies hb3.out (row_below own1 bel3) own2 hn hm (by omega) m; have hcp1 := hcps.1; have hcp2 := hcps.2; clear hcps own1 own2; have hb5 := Lib.hid (setRow_heap w3 w.heap.size (nums .u8 zeroA).toArray (nums .u8 (fillA b c)).toArray 42 (0, 0) hb3.out))
    | (refine wpList_load_mid rfl 42 (.tmp 2) rfl w.heap.size 0 rfl (nums .u8 (fillA b c)) _ (row_load hb5.out) Tryz.underlying42 rfl (info42 hok.out) ?_)
    | (refine wpList_store_row rfl 42 (.tmp 2) (.tmp 61) rfl w.heap.size _ rfl rfl 42 (nums .u8 (fillA b c)).toArray hb5.out (info42 hok.out) rfl (numsA_one _) ?_))
  refine bodyPost_ret (v := .tuple #[vA (fillA b c), .bool true]) ?_ rfl ⟨by unfold QuadR; rw [hyes.out]; rfl, below_row (below_row bel4 (Nat.le_refl _) _) (Nat.le_refl _) _⟩
  exact results_cell_tmp rfl _ _ rfl (BoxA.run (a := fillA b c) (setRow_heap _ _ _ _ _ _ hb5.out) hok.out) rfl
theorem grps_len {s : ByteArray} {b : List Int} (h : grpsS s = some b) : b.length ≤ 2 * (s.size + 1) := by
  obtain ⟨-, h2⟩ := pieces_sum 58 s.size s (Nat.le_refl _)
  unfold grpsS grpsL at h
  split at h
  · cases h; simp
  · split at h
    · cases h
      have := flatG_len (pieces s colB)
      unfold flatG at this
      rw [this]
      show 2 * (pieces s ⟨#[58]⟩).length ≤ _
      omega
    · cases h
/-- colons. -/
theorem col_any {w : World} (E : Env w) {s : ByteArray} (hs : s.size < 4294967281) : Calls Tryz.prog 102 #[.string s] w fun e w' => QuadR (colS s) e ∧ Below w.heap.size w w' := by
  obtain ⟨l, r, gap, hcut⟩ : ∃ l r gap, Lib.cut s.data.toList gapB.data.toList = (l, r, gap) := ⟨_, _, _, rfl⟩
  obtain ⟨hl, hr, hgap⟩ := cut_lens hcut
  cases h1 : grpsS ⟨l.toArray⟩ with
  | none => exact col_one E hs hcut h1
  | some b =>
    cases h2 : grpsS ⟨r.toArray⟩ with
    | none => exact col_two E hs hcut h1 h2
    | some c =>
      have q1 := grps_len h1
      have q2 := grps_len h2
      have e1 : (⟨l.toArray⟩ : ByteArray).size = l.length := by show l.toArray.size = _; simp
      have e2 : (⟨r.toArray⟩ : ByteArray).size = r.length := by show r.toArray.size = _; simp
      cases gap with
      | true =>
        by_cases hle : b.length + c.length ≤ 14
        · exact col_gap E hs hcut h1 h2 rfl rfl hle
        · exact col_long E hs hcut h1 h2 rfl rfl (by omega) (by omega) rfl (decide_eq_true (by omega))
      | false =>
        by_cases h16 : b.length = 16
        · have : c = [] := by
            rw [hgap rfl] at h2
            have : grpsS ⟨([] : List UInt8).toArray⟩ = some [] := rfl
            rw [this] at h2; cases h2; rfl
          exact col_full E hs hcut h1 h2 rfl rfl h16 (by rw [this]; rfl)
        · exact col_short E hs hcut h1 h2 rfl rfl rfl (by simp; omega)
end Go.Proofs.YtnljjlaececnkaaGreatDoor
/-
  Parse, ParsePrefix. Condition: the variables hold what their initialisers laid; a text is no longer than memory has room for.
-/
namespace Go.Proofs.YtnljjlaececnkaaGreatDoor
open Go.RowKit
set_option linter.unusedVariables false
set_option linter.unusedSimpArgs false
theorem quadS_ok {s : ByteArray} {a : List Int} (h : quadS s = some a) : isA a := by
  unfold quadS quadL at h
  split at h
  · rename_i hc
    cases h
    have := quadPart_ok (l := pieces s dotB) hc.1 (Nat.le_refl 4)
    unfold quadPart at this
    rw [List.take_of_length_le (by omega)] at this
    simpa using this
  · cases h
theorem colS_ok {s : ByteArray} {a : List Int} (h : colS s = some a) : isA a := by
  obtain ⟨l, r, gap, hcut⟩ : ∃ l r gap, Lib.cut s.data.toList gapB.data.toList = (l, r, gap) := ⟨_, _, _, rfl⟩
  obtain ⟨hl, hr, hgap⟩ := cut_lens hcut
  cases h1 : grpsS ⟨l.toArray⟩ with
  | none => rw [col_no hcut (.inl h1)] at h; cases h
  | some b =>
    cases h2 : grpsS ⟨r.toArray⟩ with
    | none => rw [col_no hcut (.inr h2)] at h; cases h
    | some c =>
      rw [col_yes hcut h1 h2] at h
      split at h
      · cases h
      · rename_i hn
        cases h
        refine fill_ok ?_ (grp_rng h1) (grp_rng h2)
        cases gap with
        | true =>
          have : ¬ 14 < b.length + c.length := fun h => hn (.inr ⟨rfl, h⟩)
          omega
        | false =>
          have h16 : ¬ b.length ≠ 16 := fun h => hn (.inl ⟨rfl, h⟩)
          have : c = [] := by
            rw [hgap rfl] at h2
            have e : grpsS ⟨([] : List UInt8).toArray⟩ = some [] := rfl
            rw [e] at h2; cases h2; rfl
          subst this
          simp; omega
theorem quad_is {w : World} (E : Env w) {s : ByteArray} (hs : s.size < 4294967281) {a : List Int} {b : Bool} (h : okA (quadS s) = a ∧ (quadS s).isSome = b) : Calls Tryz.prog 101 #[.string s] w fun e w' => e = .returned (.tuple #[.agg (nums .u8 a).toArray, .bool b]) ∧ Below w.heap.size w w' := by
  rw [← h.1, ← h.2]
  exact quad_any E hs (fun t ht => by have := (pieces_sum 46 s.size s (Nat.le_refl _)).1 t ht; omega)
theorem col_is {w : World} (E : Env w) {s : ByteArray} (hs : s.size < 4294967281) {a : List Int} {b : Bool} (h : okA (colS s) = a ∧ (colS s).isSome = b) : Calls Tryz.prog 102 #[.string s] w fun e w' => e = .returned (.tuple #[.agg (nums .u8 a).toArray, .bool b]) ∧ Below w.heap.size w w' := by
  rw [← h.1, ← h.2]
  exact col_any E hs
end Go.Proofs.YtnljjlaececnkaaGreatDoor
/-
  Texts of addresses: the document's answers as plain Lean, and that they are the program's. No condition.
-/
namespace Go.Proofs.YtnljjlaececnkaaGreatDoor
open Go.RowKit
set_option linter.unusedVariables false
set_option linter.unusedSimpArgs false
/-! ### a text at a byte -/
def glue (p : List UInt8) : List (List UInt8) → List (List UInt8)
  | [] => [p]
  | h :: t => (p ++ h) :: t
/-- A text at a byte. -/
def cutL (c : UInt8) : List UInt8 → List (List UInt8)
  | [] => [[]]
  | x :: r => if x = c then [] :: cutL c r else glue [x] (cutL c r)
theorem cutL_ne (c : UInt8) : ∀ l, cutL c l ≠ []
  | [] => by simp [cutL]
  | x :: r => by
    unfold cutL
    split
    · simp
    · cases h : cutL c r <;> simp [glue]
theorem glue_glue (p q : List UInt8) {l : List (List UInt8)} (h : l ≠ []) : glue p (glue q l) = glue (p ++ q) l := by
  cases l with
  | nil => exact absurd rfl h
  | cons a l => simp [glue]
theorem glue_nil {l : List (List UInt8)} (h : l ≠ []) : glue [] l = l := by
  cases l with
  | nil => exact absurd rfl h
  | cons a l => simp [glue]
theorem cutL_pre (c : UInt8) : ∀ (p r : List UInt8), (∀ x ∈ p, x ≠ c) → cutL c (p ++ r) = glue p (cutL c r)
  | [], r, _ => (glue_nil (cutL_ne c r)).symm
  | x :: p, r, h => by
    rw [List.cons_append, cutL, if_neg (h x (by simp)), cutL_pre c p r (fun y hy => h y (by simp [hy])), glue_glue _ _ (cutL_ne c r)]; rfl
theorem cutL_miss {c : UInt8} {l : List UInt8} (h : ∀ x ∈ l, x ≠ c) : cutL c l = [l] := by
  have := cutL_pre c l [] h
  simpa [cutL, glue] using this
theorem cutL_at {c : UInt8} {p : List UInt8} (h : ∀ x ∈ p, x ≠ c) (r : List UInt8) : cutL c (p ++ c :: r) = p :: cutL c r := by
  rw [cutL_pre c p _ h, cutL, if_pos rfl]; simp [glue]
theorem index_split {l : List UInt8} {c : UInt8} {i : Nat} (h : Lib.indexByte l c = i) : i < l.length ∧ l = l.take i ++ c :: l.drop (i + 1) ∧ ∀ x ∈ l.take i, x ≠ c := by
  obtain ⟨h1, h2⟩ := Lib.indexByte_some h
  obtain ⟨hi, he⟩ := List.getElem?_eq_some_iff.1 h1
  refine ⟨hi, ?_, fun x hx e => ?_⟩
  · rw [← he, ← List.drop_eq_getElem_cons hi, List.take_append_drop]
  · obtain ⟨j, hj, rfl⟩ := List.mem_iff_getElem.1 hx
    have hj2 : j < i := by simp at hj; omega
    refine h2 j hj2 ?_
    rw [← e, List.getElem_take, List.getElem?_eq_getElem]
theorem index_miss {l : List UInt8} {c : UInt8} (h : Lib.indexByte l c = -1) : ∀ x ∈ l, x ≠ c := fun x hx e => by
  obtain ⟨j, hj, rfl⟩ := List.mem_iff_getElem.1 hx
  exact Lib.indexByte_none h j (by rw [List.getElem?_eq_getElem hj, e])
/-- .. as texts. -/
def cutB (c : UInt8) (s : ByteArray) : List ByteArray := (cutL c s.data.toList).map fun l => ⟨l.toArray⟩
theorem ba_eq {s t : ByteArray} (h : s.data.toList = t.data.toList) : s = t := by
  obtain ⟨⟨l⟩⟩ := s; obtain ⟨⟨m⟩⟩ := t; simp at h; rw [h]
theorem ext_list (s : ByteArray) (a b : Nat) : (s.extract a b).data.toList = (s.data.toList.drop a).take (b - a) := by
  obtain ⟨⟨l⟩⟩ := s
  rw [ByteArray.data_extract, Array.toList_extract]
theorem pieces_cut (c : UInt8) : ∀ (k : Nat) (s : ByteArray), s.size ≤ k → pieces s ⟨#[c]⟩ = cutB c s
  | 0, s, hk => by
    have hl : s.data.toList.length = s.size := Array.length_toList
    have e : s.data.toList = [] := List.eq_nil_of_length_eq_zero (by omega)
    have h : Lib.indexByte s.data.toList c = -1 := by rw [e]; rfl
    rw [pieces_miss h]
    unfold cutB
    rw [cutL_miss (index_miss h)]; rfl
  | k + 1, s, hk => by
    by_cases h : Lib.indexByte s.data.toList c = -1
    · rw [pieces_miss h]
      unfold cutB
      rw [cutL_miss (index_miss h)]; rfl
    · obtain ⟨i, h1, h2⟩ := index_hit h
      obtain ⟨hi, hs, hp⟩ := index_split h1
      have hl : s.data.toList.length = s.size := Array.length_toList
      rw [pieces_hit h1, pieces_cut c k _ (by rw [ByteArray.size_extract]; omega)]
      unfold cutB
      rw [hs, cutL_at hp, List.map_cons]
      congr 1
      · exact ba_eq (by rw [ext_list]; simp)
      · rw [ext_list, List.take_of_length_le (by simp)]
theorem pieces_eq (c : UInt8) (s : ByteArray) : pieces s ⟨#[c]⟩ = cutB c s := pieces_cut c s.size s (Nat.le_refl _)
/-! ### a number -/
def isD (c : UInt8) : Prop := 48 ≤ c.toNat ∧ c.toNat ≤ 57
instance (c : UInt8) : Decidable (isD c) := by unfold isD; infer_instance
end Go.Proofs.YtnljjlaececnkaaGreatDoor
/-
  strconv.FormatUint at base 16, of a number of 16 bits. Condition: the variables hold what their initialisers laid.
-/
namespace Go.Proofs.YtnljjlaececnkaaGreatDoor
open Go.RowKit
set_option linter.unusedVariables false
set_option linter.unusedSimpArgs false
def digB : List UInt8 := [48, 49, 50, 51, 52, 53, 54, 55, 56, 57, 97, 98, 99, 100, 101, 102]
def dig (n : Nat) : UInt8 := digB.getD n 0
/-- A number in base 16. -/
def hexT (u : Nat) : List UInt8 := if h : u < 16 then [dig u] else hexT (u / 16) ++ [dig (u % 16)]
termination_by u
decreasing_by omega
theorem hexT_small {u : Nat} (h : u < 16) : hexT u = [dig u] := by rw [hexT, dif_pos h]
theorem hexT_big {u : Nat} (h : ¬ u < 16) : hexT u = hexT (u / 16) ++ [dig (u % 16)] := by rw [hexT, dif_neg h]
theorem dig_fin : ∀ f : Fin 16, (⟨#[48, 49, 50, 51, 52, 53, 54, 55, 56, 57, 97, 98, 99, 100, 101, 102, 103, 104, 105, 106, 107, 108, 109, 110, 111, 112, 113, 114, 115, 116, 117, 118, 119, 120, 121, 122]⟩ : ByteArray).data[f.val]? = some (dig f.val) := by decide
theorem dig_eq {m : Nat} (hm : m < 16) (h : m < (⟨#[48, 49, 50, 51, 52, 53, 54, 55, 56, 57, 97, 98, 99, 100, 101, 102, 103, 104, 105, 106, 107, 108, 109, 110, 111, 112, 113, 114, 115, 116, 117, 118, 119, 120, 121, 122]⟩ : ByteArray).size) : (⟨#[48, 49, 50, 51, 52, 53, 54, 55, 56, 57, 97, 98, 99, 100, 101, 102, 103, 104, 105, 106, 107, 108, 109, 110, 111, 112, 113, 114, 115, 116, 117, 118, 119, 120, 121, 122]⟩ : ByteArray)[m]'h = dig m := by
  have := dig_fin ⟨m, hm⟩
  rw [Array.getElem?_eq_getElem (show m < (⟨#[48, 49, 50, 51, 52, 53, 54, 55, 56, 57, 97, 98, 99, 100, 101, 102, 103, 104, 105, 106, 107, 108, 109, 110, 111, 112, 113, 114, 115, 116, 117, 118, 119, 120, 121, 122]⟩ : ByteArray).data.size from h)] at this
  exact Option.some.inj this
theorem and15 {v : Nat} (hv : v < 65536) : bits .and .u64 (v : Int) 15 = ((v % 16 : Nat) : Int) := by
  have w63 : ∀ n : Int, 0 ≤ n → n < 2 ^ 63 → IntKind.u64.wrap n = n := fun n h0 h1 => by rw [IntKind.wrap_u64]; omega
  have h := bits_mask .u64 63 (by decide) w63 4 (by decide) (v : Int) (by omega) (by omega)
  have e : ((2 : Int) ^ 4 - 1) = 15 := by decide
  have e2 : ((2 : Int) ^ 4) = 16 := by decide
  rw [e, e2] at h
  rw [h]; omega
set_option maxRecDepth 100000 in
set_option maxHeartbeats 400000 in
theorem tz_any {w : World} (h : w.cell? ⟨7, 15, none⟩ = some (.int .u8 4)) : Calls Tryz.prog 265 #[.int .u64 16] w fun e w' => e = .returned (.int .i64 4) ∧ w' = w := by
  have e1 : IntKind.u64.wrap (-16) = 18446744073709551600 := by decide
  have e2 : bits .and .u64 16 18446744073709551600 = 16 := by decide
  have e3 : IntKind.u64.wrap 4573923408821661840 = 4573923408821661840 := by decide
  go_enter Tryz.func265, Tryz.ntmps265
  go_wp2
  go_ret
  exact ⟨rfl, rfl⟩
theorem slice325 (W : World) (g : Nat) {k : Nat} (hk : k ≤ 64) : (Instr.sliceAt 325 (.pointer (some ⟨g, 0, none⟩)) (some (.int .i64 (k : Int))) none none).run Tryz.prog W = .ok (.slice (some ⟨g, k, none⟩) (65 - k) (65 - k)) W := by
  have a65 : Tryz.prog.arrayLen 325 = 65 := by kernel_rfl
  have e5 : Tryz.prog.elem 325 = 5 := by kernel_rfl
  have hs : (sizeOf 5).run Tryz.prog W = .ok 1 W := by kernel_rfl
  have h := run_sliceAt_array_l (P := Tryz.prog) W 325 ⟨g, 0, none⟩ (by kernel_rfl) .i64 (k : Int) (by omega) (by rw [a65]; omega)
  rw [h, e5, hs, a65]
  have h1 : 65 ≠ k := by omega
  simp [Result.andThen, slicedAt, h1, Addr.add]
  try omega
theorem ofNat_list (l : List UInt8) : (l.map fun c => (c.toNat : Int)).map (fun n => UInt8.ofNat n.toNat) = l := by
  induction l with
  | nil => rfl
  | cons c l ih => simp only [List.map_cons, ih]; simp
theorem conv_row {W : World} {g k : Nat} {cs : Array Value} {l : List UInt8} (hr : W.heap[g]? = some (.cells cs 325 (0, 0))) (hn : k + l.length = 65) (h : ∀ (j : Nat) c, l[j]? = some c → cs[k + j]? = some (.int .u8 (c.toNat : Int))) :
    (convert 150 9 (.slice (some ⟨g, k, none⟩) (65 - k) (65 - k))).run Tryz.prog W = .ok (.string ⟨l.toArray⟩) W := by
  rw [run_convert_bytes_arg W 150 5 Tryz.underlying150 Tryz.underlying5 g k (65 - k) (65 - k) (l.map fun c => (c.toNat : Int)) (by simp; omega) (fun i hi => ?_) 9 Tryz.underlying9]
  · unfold strOfNums; rw [ofNat_list]
  · obtain ⟨c, hc⟩ := get_some (l := l) (j := i) (by omega)
    rw [row_cell hr, h i c hc, List.getD_eq_getElem?_getD, List.getElem?_map, hc]; rfl
set_option maxRecDepth 100000 in
set_option maxHeartbeats 800000 in
theorem fmt_any {w : World} (E : Env w) {u : Nat} (hu : u < 65536) : Calls Tryz.prog 222 #[.slice none 0 0, .int .u64 u, .int .i64 16, .bool false, .bool false] w fun e w' => (∃ v, e = .returned (.tuple #[v, .string ⟨(hexT u).toArray⟩])) ∧ Below w.heap.size w w' := by
  have htz : ∀ W, Below w.heap.size w W → Calls Tryz.prog 265 #[.int .u64 16] W fun e w' => e = .returned (.int .i64 4) ∧ w' = W := fun W hW => tz_any (E.go hW).1.tz
  go_enter Tryz.func222, Tryz.ntmps222
  go_wp2_with (first | (go_at_call 265; refine (htz _ ((Below.refl _ _).alloc (Nat.le_refl _) _)).mono ?_; rintro e w1 ⟨rfl, rfl⟩) | go_in)
  have zsz : (Tryz.zeroCells325).size = 65 := by kernel_rfl
  go_loopw [1, 13] (fun xu xi wr => ∃ (v k : Nat) (acc : List UInt8) (cs : Array Value), xu = .int .u64 v ∧ xi = .int .i64 ((k : Int) + 1) ∧ k + acc.length = 64 ∧ acc.length ≤ 3 ∧ v < 16 ^ (4 - acc.length) ∧ hexT u = hexT v ++ acc ∧ cs.size = 65 ∧ wr.heap[w.heap.size]? = some (.cells cs 325 (0, 0)) ∧ (∀ (j : Nat) c, acc[j]? = some c → cs[k + 1 + j]? = some (.int .u8 (c.toNat : Int))) ∧ Below w.heap.size w wr) (fun xu xi wr => (intOf xu).toNat)
  case atStart =>
    exact ⟨u, 64, [], _, rfl, rfl, rfl, by simp, by simpa using hu, by simp, zsz, box1 w _, fun j c h => by simp at h, (Below.refl _ _).alloc (Nat.le_refl _) _⟩
  case round =>
    obtain ⟨v, k, acc, cs, rfl, rfl, hk, hl, hv, hh, hcs, hr, hcell, bel⟩ := hrel
    by_cases h16 : 16 ≤ v
    · have hd : decide (16 ≤ (v : Int)) = true := decide_eq_true (by omega)
      have hand : bits .and .u64 (v : Int) 15 = ((v % 16 : Nat) : Int) := and15 (Nat.lt_of_lt_of_le hv (Nat.le_trans (Nat.pow_le_pow_right (by decide) (show 4 - acc.length ≤ 4 by omega)) (show 16 ^ 4 ≤ 65536 by decide)))
      obtain ⟨v0, hv0⟩ : ∃ v0, cs[k]? = some v0 := ⟨_, Array.getElem?_eq_getElem (by omega)⟩
      have c1 : (wr.cell? ⟨w.heap.size, k, none⟩) = some v0 := (row_cell hr).trans hv0
      have f1 : wr.frozen? ⟨w.heap.size, k, none⟩ = false := row_free hr
      replace hr := Lib.hid hr
      replace hcell := Lib.hid hcell
      replace hh := Lib.hid hh
      have hlen : acc.length ≤ 2 := by
        rcases (by omega : acc.length ≤ 2 ∨ acc.length = 3) with h | h
        · exact h
        · rw [h] at hv; omega
      have hv2 : v / 16 < 16 ^ (4 - (acc.length + 1)) := by
        have e : 16 ^ (4 - acc.length) = 16 ^ (4 - (acc.length + 1)) * 16 := by rw [← Nat.pow_succ]; congr 1; omega
        rw [e] at hv
        exact Nat.div_lt_of_lt_mul (by omega)
      have hx : hexT u = hexT (v / 16) ++ (dig (v % 16) :: acc) := by rw [hh.out, hexT_big (by omega), List.append_assoc]; rfl
      clear hv hv0
      go_wp2_with fail
      have fr1 := fun y => Fr.setCell (S := fun b => b = w.heap.size) (Fr.refl _ wr) (p := ⟨w.heap.size, k, none⟩) (.inl rfl) y
      refine ⟨⟨v / 16, k - 1, dig (v % 16) :: acc, _, by congr 1, by congr 1; omega, by simp; omega, by simp; omega, by simpa using hv2, hx, ?_, row_set hr.out (i := k) _ rfl, ?_, bel.trans ((fr1 _).belowS (fun b hb => Nat.le_of_eq hb.symm) bel.size)⟩, ?_⟩
      · simp [hcs]
      · intro j c hj
        cases j with
        | zero =>
          simp at hj
          subst hj
          rw [show k - 1 + 1 + 0 = k by omega, Array.getElem?_setIfInBounds_self_of_lt (by omega), dig_eq (by omega)]
        | succ j =>
          rw [show k - 1 + 1 + (j + 1) = k + 1 + j by omega, Array.getElem?_setIfInBounds_ne (by omega)]
          exact hcell.out j c (by simpa using hj)
      · simp [intOf]; omega
    · have hd : decide (16 ≤ (v : Int)) = false := decide_eq_false (by omega)
      obtain ⟨v0, hv0⟩ : ∃ v0, cs[k]? = some v0 := ⟨_, Array.getElem?_eq_getElem (by omega)⟩
      have c1 : (wr.cell? ⟨w.heap.size, k, none⟩) = some v0 := (row_cell hr).trans hv0
      have f1 : wr.frozen? ⟨w.heap.size, k, none⟩ = false := row_free hr
      have hdg : ∀ h, (⟨#[48, 49, 50, 51, 52, 53, 54, 55, 56, 57, 97, 98, 99, 100, 101, 102, 103, 104, 105, 106, 107, 108, 109, 110, 111, 112, 113, 114, 115, 116, 117, 118, 119, 120, 121, 122]⟩ : ByteArray)[v]'h = dig v := fun h => dig_eq (by omega) h
      have hsl := fun W => slice325 W w.heap.size (k := k) (by omega)
      have hx : hexT u = dig v :: acc := by rw [hh, hexT_small (by omega)]; rfl
      have r2 := row_set hr (i := k) (cs' := cs.setIfInBounds k (.int .u8 ((dig v).toNat : Int))) (.int .u8 ((dig v).toNat : Int)) rfl
      have hcv := conv_row (k := k) (cs := cs.setIfInBounds k (.int .u8 ((dig v).toNat : Int))) (l := dig v :: acc) r2 (by simp; omega) (fun j c hj => by
        cases j with
        | zero => simp at hj; subst hj; rw [Nat.add_zero, Array.getElem?_setIfInBounds_self_of_lt (by rw [hcs]; omega)]
        | succ j =>
          rw [show k + (j + 1) = k + 1 + j by omega, Array.getElem?_setIfInBounds_ne (by omega)]
          exact hcell j c (by simpa using hj))
      have fr1 := Fr.setCell (S := fun b => b = w.heap.size) (Fr.refl _ wr) (p := ⟨w.heap.size, k, none⟩) (.inl rfl) (.int .u8 ((dig v).toNat : Int))
      have bel2 := bel.trans (fr1.belowS (fun b hb => Nat.le_of_eq hb.symm) bel.size)
      replace hr := Lib.hid hr
      replace r2 := Lib.hid r2
      replace hcell := Lib.hid hcell
      replace hh := Lib.hid hh
      replace hx := Lib.hid hx
      go_wp2_with fail
      have hres : ∀ (tm : Array Value) (W : World), (results Tryz.f222 tm).run Tryz.prog W = .ok (.tuple #[tm.getD 10 undef, tm.getD 11 undef]) W := fun tm W => results_tmp2 rfl tm Tryz.prog W
      refine bodyPost_ret (hres _ _) rfl ?_
      refine ⟨⟨.slice none 0 0, ?_⟩, bel2⟩
      rw [hx.out]
      rfl
theorem fmt178_any {w : World} (E : Env w) {u : Nat} (hu : u < 65536) : Calls Tryz.prog 178 #[.int .u64 u, .int .i64 16] w fun e w' => e = .returned (.string ⟨(hexT u).toArray⟩) ∧ Below w.heap.size w w' := by
  go_enter Tryz.func178, Tryz.ntmps178
  go_wp2_with (first | (go_at_call 222; refine (fmt_any E hu).mono ?_; rintro e w1 ⟨⟨v, rfl⟩, bel⟩))
  go_ret
  exact ⟨rfl, bel⟩
/-- strconv.FormatUint at base 16. -/
theorem hex_any {w : World} (E : Env w) {u : Nat} (hu : u < 65536) : Calls Tryz.prog 121 #[.int .u64 u, .int .i64 16] w fun e w' => e = .returned (.string ⟨(hexT u).toArray⟩) ∧ Below w.heap.size w w' := by
  go_enter Tryz.func121, Tryz.ntmps121
  go_wp2_with (first | (go_at_call 178; refine (fmt178_any E hu).mono ?_; rintro e w1 ⟨rfl, bel⟩))
  go_ret
  exact ⟨rfl, bel⟩
end Go.Proofs.YtnljjlaececnkaaGreatDoor
/-
  Print, the groups' side: join of a row of groups. Condition: the variables hold what their initialisers laid.
-/
namespace Go.Proofs.YtnljjlaececnkaaGreatDoor
open Go.RowKit
set_option linter.unusedVariables false
set_option linter.unusedSimpArgs false
theorem Tryz.info9 : (Tryz.prog.info? 9).map (fun i => (i.zero, i.size, i.bytes)) = some (some (.string ⟨#[]⟩), 1, 16) := by kernel_rfl
theorem hexT_len : ∀ (k u : Nat), u < 16 ^ (k + 1) → (hexT u).length ≤ k + 1
  | 0, u, h => by rw [hexT_small (by simpa using h)]; simp
  | k + 1, u, h => by
    by_cases h16 : u < 16
    · rw [hexT_small h16]; simp
    · rw [hexT_big h16]
      have := hexT_len k (u / 16) (by rw [Nat.pow_succ] at h; exact Nat.div_lt_of_lt_mul (by omega))
      simp; omega
/-- The texts of groups. -/
def hexB (u : Nat) : ByteArray := ⟨(hexT u).toArray⟩
/-- join. -/
def joinS (l : List Nat) : List UInt8 := Lib.join (l.map hexT) [58]
theorem joinTail_len (l : List Nat) (h : ∀ u ∈ l, u < 65536) : (Lib.joinTail [58] (l.map hexT)).length ≤ 5 * l.length := by
  induction l with
  | nil => simp [Lib.joinTail]
  | cons u l ih =>
    have h1 := hexT_len 3 u (by have := h u (by simp); omega)
    have h2 := ih (fun v hv => h v (by simp [hv]))
    simp [Lib.joinTail] at h2 ⊢; omega
theorem join_len (l : List Nat) (h : ∀ u ∈ l, u < 65536) : (joinS l).length ≤ 5 * l.length := by
  cases l with
  | nil => simp [joinS, Lib.join]
  | cons u l =>
    have h1 := hexT_len 3 u (by have := h u (by simp); omega)
    have h2 := joinTail_len l (fun v hv => h v (by simp [hv]))
    unfold joinS; rw [List.map_cons, Lib.join_cons, List.length_append, List.length_cons]; omega
/-- A row of groups. -/
def u16s (l : List Nat) : List Value := l.map fun (u : Nat) => .int .u16 (u : Int)
def hexVs (l : List Nat) : List Value := l.map fun (u : Nat) => .string ⟨(hexT u).toArray⟩
set_option maxRecDepth 100000 in
set_option maxHeartbeats 800000 in
theorem join_any {w : World} (E : Env w) {l : List Nat} (hl8 : l.length ≤ 8) (hu : ∀ u ∈ l, u < 65536) {v : Value} (hr : Row w (fun b => w.heap.size ≤ b) 1 v l.length (u16s l)) : Calls Tryz.prog 164 #[v] w fun e w' => e = .returned (.string ⟨(joinS l).toArray⟩) ∧ Below w.heap.size w w' := by
  obtain ⟨h0, A, c, rfl, q1, q2, q3, q5⟩ := id hr
  replace hr := Lib.hid hr
  clear q5
  go_enter Tryz.func164, Tryz.ntmps164
  go_wp2
  go_loopw [3, 8] (fun xs xi wr => ∃ j : Nat, xi = .int .i64 j ∧ j ≤ l.length ∧ wr.ownsRow 0 9 1 xs j (hexVs (l.take j)) ∧ Lo w.heap.size xs ∧ Below w.heap.size w wr) (fun xs xi wr => l.length - (intOf xi).toNat)
  case atStart => exact ⟨0, rfl, by omega, by simpa [hexVs] using own_nil _ _ _, fun b h => by simp [Value.ownBlock] at h, Below.refl _ _⟩
  case round =>
    obtain ⟨j, rfl, hj, ho, lo, bel⟩ := hrel
    by_cases hlt : j < l.length
    · obtain ⟨u, hget⟩ := get_some hlt
      obtain ⟨b, o, rfl, -, -, -⟩ := hr.out.at_ (by omega)
      have hc := (hr.out.later bel).cells (show (u16s l)[j]? = some (.int .u16 (u : Int)) by simp [u16s, hget])
      have hul := hu u (List.mem_of_getElem? hget)
      go_wp2_with (first | (go_at_call 121; refine (hex_any (E.go bel).2 hul).mono ?_; rintro e w1 ⟨rfl, bel1⟩) | (at_builtin; refine wpList_app1 rfl (.tmp 12) (.tmp 16) 23 rfl Tryz.underlying23 Tryz.info9 rfl (by decide) (by decide) [.string ⟨(hexT u).toArray⟩] rfl (by intro z hz; simp at hz; subst hz; rfl) rfl (own_below ho bel1 (own_lt ho)) rfl (by omega) ?_; intro v' w2 ho2 hn2 hf2))
      have bel2 := bel.trans (bel1.mono bel.size)
      have ht : hexVs (l.take (j + 1)) = hexVs (l.take j) ++ [.string ⟨(hexT u).toArray⟩] := by simp [hexVs, List.take_add_one, hget]
      refine ⟨⟨j + 1, rfl, by omega, by rw [ht]; exact ho2, lo.next hn2 bel2.size, bel2.trans (hf2.belowB lo bel2.size)⟩, ?_⟩
      simp [intOf]; omega
    · obtain rfl : j = l.length := by omega
      rw [List.take_length] at ho
      obtain ⟨A, c2, rfl, hc1, hc2⟩ := own_slice ho
      rcases Nat.eq_zero_or_pos l.length with h0 | h0
      · obtain rfl : l = [] := List.eq_nil_of_length_eq_zero h0
        go_wp2_with (first | (go_at_call 114; refine (Tryz.strings_Join_none _ _ _ _).mono ?_; rintro e w1 ⟨rfl, rfl⟩))
        go_ret
        exact ⟨rfl, bel⟩
      · obtain ⟨k, rfl, -, hk, hcell, -, -⟩ := own_at ho h0
        have hjm : Lib.join ((l.map hexB).map (·.data.toList)) [58] = joinS l := by unfold joinS; rw [List.map_map]; rfl
        have hjoin := Tryz.strings_Join k 0 c2 (l.map hexB) ⟨#[58]⟩ wr (fun j x hj => by
          rw [List.getElem?_map] at hj
          cases hg : l[j]? with
          | none => rw [hg] at hj; cases hj
          | some u =>
            rw [hg] at hj
            obtain rfl := Option.some.inj hj
            have := hcell j (.string ⟨(hexT u).toArray⟩) (by simp [hexVs, hg])
            simpa [hexB] using this) hk (by simp; omega) (by simpa using hc1) (by rw [hjm]; have := join_len l hu; omega)
        go_wp2_with (first | (go_at_call 114; rw [← List.length_map (f := hexB)]; refine hjoin.mono ?_; rintro e w1 ⟨rfl, bel1⟩))
        go_ret
        exact ⟨by rw [List.map_map] at hjm; rw [← hjm]; rfl, bel.trans (bel1.mono bel.size)⟩
end Go.Proofs.YtnljjlaececnkaaGreatDoor
/-
  run: the longest run of zero groups. No condition: eight groups.
-/
namespace Go.Proofs.YtnljjlaececnkaaGreatDoor
open Go.RowKit
set_option linter.unusedVariables false
set_option linter.unusedSimpArgs false
/-- The zeros at a row's beginning. -/
def zc : List Nat → Nat
  | [] => 0
  | x :: l => if x = 0 then zc l + 1 else 0
theorem zc_le : ∀ l : List Nat, zc l ≤ l.length
  | [] => Nat.le_refl _
  | x :: l => by unfold zc; have := zc_le l; split <;> simp <;> omega
theorem zc_zero {l : List Nat} {j : Nat} (h : l[j]? = some 0) : zc (l.drop j) = zc (l.drop (j + 1)) + 1 := by
  obtain ⟨hj, e⟩ := List.getElem?_eq_some_iff.1 h
  rw [List.drop_eq_getElem_cons hj, e]; simp [zc]
theorem zc_pos {l : List Nat} {j u : Nat} (h : l[j]? = some u) (hu : u ≠ 0) : zc (l.drop j) = 0 := by
  obtain ⟨hj, e⟩ := List.getElem?_eq_some_iff.1 h
  rw [List.drop_eq_getElem_cons hj, e]; simp [zc, hu]
def runStep (l : List Nat) (s : Nat × Nat) (f : Nat) : Nat × Nat := if max (s.2 - s.1) 1 < zc (l.drop f) then (f, f + zc (l.drop f)) else s
/-- run, of the first groups. -/
def runAt (l : List Nat) : Nat → Nat × Nat
  | 0 => (0, 0)
  | k + 1 => runStep l (runAt l k) k
theorem runAt_le (l : List Nat) : ∀ k, k ≤ l.length → (runAt l k).1 ≤ (runAt l k).2 ∧ (runAt l k).2 ≤ l.length
  | 0, _ => ⟨Nat.le_refl _, Nat.zero_le _⟩
  | k + 1, hk => by
    have h := runAt_le l k (by omega)
    have hz := zc_le (l.drop k)
    rw [List.length_drop] at hz
    unfold runAt runStep
    split
    · exact ⟨by simp, by simp; omega⟩
    · exact h
def vG (l : List Nat) : Value := .agg (u16s l).toArray
def oG (l : List Nat) : Obj := .cells (u16s l).toArray 217 (0, 0)
theorem u16s_len (l : List Nat) : (u16s l).length = l.length := by simp [u16s]
theorem size217 : (Tryz.prog.info? 217).map (·.size) = some 8 := by kernel_rfl
set_option maxRecDepth 100000 in
set_option maxHeartbeats 800000 in
theorem run_any {w : World} {l : List Nat} (hl : l.length = 8) (hu : ∀ u ∈ l, u < 65536) : Calls Tryz.prog 165 #[vG l] w fun e w' => e = .returned (.tuple #[.int .i64 (runAt l 8).1, .int .i64 (runAt l 8).2]) ∧ Below w.heap.size w w' := by
  unfold vG
  go_enter Tryz.func165, Tryz.ntmps165
  go_wp2
  go_loopw [2, 3, 6] (fun x2 x3 x6 wr => ∃ k : Nat, k ≤ 8 ∧ x6 = .int .i64 k ∧ x2 = .int .i64 (runAt l k).1 ∧ x3 = .int .i64 (runAt l k).2 ∧ wr = w.alloc (oG l)) (fun x2 x3 x6 wr => 8 - (intOf x6).toNat)
  case atStart => exact ⟨0, by omega, rfl, rfl, rfl, rfl⟩
  case round =>
    obtain ⟨k, hk, rfl, rfl, rfl, rfl⟩ := hrel
    by_cases hlt : k < 8
    · have hrl := runAt_le l k (by omega)
      have hru : runAt l (k + 1) = runStep l (runAt l k) k := rfl
      obtain ⟨lo, hi, hlh⟩ : ∃ lo hi, runAt l k = (lo, hi) := ⟨_, _, rfl⟩
      rw [hlh] at hrl hru
      simp only [hlh]
      simp only at hrl
      rw [hl] at hrl
      obtain ⟨hrl1, hrl2⟩ := hrl
      replace hru := Lib.hid hru
      have hk8 : decide ((k : Int) < 8) = true := decide_eq_true (by omega)
      have tail : ∀ t : Nat, zc (l.drop t) = 0 → t + zc (l.drop t) = k + zc (l.drop k) → (max ((hi : Int) - lo) 1 < (t : Int) - k → Hid (runAt l (k + 1) = (k, t))) ∧ ((t : Int) - k ≤ max ((hi : Int) - lo) 1 → Hid (runAt l (k + 1) = (lo, hi))) := by
        intro t h0 h1
        refine ⟨fun hm => Lib.hid ?_, fun hm => Lib.hid ?_⟩
        · rw [hru.out, runStep, if_pos (by simp only; omega)]
          congr 1; omega
        · rw [hru.out, runStep, if_neg (by simp only; omega)]
      replace tail := Lib.hid tail
      go_wp2_with fail
      go_loopw [5] (fun x5 wr => ∃ t : Nat, k ≤ t ∧ t ≤ 8 ∧ x5 = .int .i64 t ∧ t + zc (l.drop t) = k + zc (l.drop k) ∧ wr = w.alloc (oG l)) (fun x5 wr => 8 - (intOf x5).toNat)
      case atStart => exact ⟨k, by omega, hk, rfl, rfl, rfl⟩
      case round =>
        obtain ⟨t, hkt, ht8, rfl, htz, rfl⟩ := hrel
        replace htz := Lib.hid htz
        rcases (by omega : t < 8 ∨ t = 8) with hlt2 | rfl
        · obtain ⟨u, hget⟩ := get_some (l := l) (j := t) (by omega)
          have hc := row_load (box1 w (oG l)) t (.int .u16 (u : Int)) (by simp [u16s, hget])
          rw [Nat.zero_add] at hc
          by_cases h0 : u = 0
          · subst h0
            have hz := Lib.hid (zc_zero hget)
            go_wp2_with fail
            go_roundw
            case rel => exact ⟨t + 1, by omega, by omega, rfl, by have := hz.out; have := htz.out; omega, trivial⟩
            case measure => simp [intOf]; omega
          · have h0d : decide ((u : Int) = 0) = false := decide_eq_false (by omega)
            have hz := zc_pos hget h0
            have htl := tail.out t hz htz.out
            replace htl := Lib.hid htl
            clear hz
            go_wp2_with fail
            all_goals refine ⟨⟨k + 1, by omega, by congr 1, ?_⟩, by simp [intOf]; omega⟩
            · rename_i hm
              rw [(htl.out.1 hm).out]; exact ⟨rfl, rfl, trivial⟩
            · rename_i hm
              rw [(htl.out.2 hm).out]; exact ⟨rfl, rfl, trivial⟩
        · have hz : zc (l.drop 8) = 0 := by rw [List.drop_of_length_le (by omega)]; rfl
          have htl := tail.out 8 hz htz.out
          replace htl := Lib.hid htl
          clear hz
          go_wp2_with fail
          all_goals refine ⟨⟨k + 1, by omega, by congr 1, ?_⟩, by simp [intOf]; omega⟩
          · rename_i hm
            rw [(htl.out.1 hm).out]; exact ⟨rfl, rfl, trivial⟩
          · rename_i hm
            rw [(htl.out.2 hm).out]; exact ⟨rfl, rfl, trivial⟩
    · obtain rfl : k = 8 := by omega
      go_wp2_with fail
      go_ret2
      exact ⟨rfl, (Below.refl _ _).alloc (Nat.le_refl _) _⟩
end Go.Proofs.YtnljjlaececnkaaGreatDoor
