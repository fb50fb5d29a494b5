/-
  strconv.ParseUint at base 16, of 16 bits. Condition: the variables hold what their initialisers laid; a text is no longer than memory has room for.
-/
import Derived.Test.YtnljjlaececnkaaGreatDoorH
import Derived.Lib.ParseIntBMem
import Derived.Laws.Strings3
import Derived.Laws.Closers25
import Derived.Laws.Closers25b
import Derived.BigCall
import Derived.BigGuard
namespace Go.Proofs.YtnljjlaececnkaaGreatDoor
open Go.RowKit
set_option linter.unusedVariables false
set_option linter.unusedSimpArgs false
/-- How the digits of base 16 end. -/
def hexM (acc : Nat) : List UInt8 → Lib.NumEnd Nat
  | [] => .ok acc
  | c :: r => match hexD c with
    | none => .«syntax»
    | some d => if 65535 < acc * 16 + d then .range else hexM (acc * 16 + d) r
def lo (c : UInt8) : Nat := (bits .or .u8 (c.toNat : Int) 32).toNat
theorem hex_fin : ∀ f : Fin 256, (bits .or .u8 ((UInt8.ofNat f.val).toNat : Int) 32 = (lo (UInt8.ofNat f.val) : Int)) ∧
    ((48 ≤ (UInt8.ofNat f.val).toNat ∧ (UInt8.ofNat f.val).toNat ≤ 57 ∧ hexD (UInt8.ofNat f.val) = some ((UInt8.ofNat f.val).toNat - 48)) ∨
     (57 < (UInt8.ofNat f.val).toNat ∧ (UInt8.ofNat f.val).toNat ≠ 95 ∧ 97 ≤ lo (UInt8.ofNat f.val) ∧ lo (UInt8.ofNat f.val) ≤ 102 ∧ hexD (UInt8.ofNat f.val) = some (lo (UInt8.ofNat f.val) - 87)) ∨
     (hexD (UInt8.ofNat f.val) = none ∧ ((UInt8.ofNat f.val).toNat < 48 ∨ 57 < (UInt8.ofNat f.val).toNat) ∧ (lo (UInt8.ofNat f.val) < 97 ∨ 122 < lo (UInt8.ofNat f.val) ∨ 103 ≤ lo (UInt8.ofNat f.val) ∧ lo (UInt8.ofNat f.val) ≤ 122))) := by decide +kernel
theorem hex_cases (c : UInt8) : ∃ v : Nat, bits .or .u8 (c.toNat : Int) 32 = v ∧
    ((48 ≤ c.toNat ∧ c.toNat ≤ 57 ∧ hexD c = some (c.toNat - 48)) ∨ (57 < c.toNat ∧ c.toNat ≠ 95 ∧ 97 ≤ v ∧ v ≤ 102 ∧ hexD c = some (v - 87)) ∨
     (hexD c = none ∧ (c.toNat < 48 ∨ 57 < c.toNat) ∧ (v < 97 ∨ 122 < v ∨ 103 ≤ v ∧ v ≤ 122))) := by
  have h := hex_fin ⟨c.toNat, c.toNat_lt⟩
  have e : UInt8.ofNat c.toNat = c := by simp
  simp only [e] at h
  exact ⟨lo c, h.1, h.2⟩
/-- What the inner function hands back. -/
def hexV : Lib.NumEnd Nat → Value
  | .ok u => .tuple #[.int .u64 u, .nilIface]
  | .«syntax» => .tuple #[.int .u64 0, .iface 277 (.int .i64 2)]
  | .range => .tuple #[.int .u64 65535, .iface 277 (.int .i64 1)]
theorem low_n {w : World} {c : Int} {v : Nat} (h : bits .or .u8 c 32 = v) : Calls Tryz.prog 217 #[.int .u8 c] w fun e w' => e = .returned (.int .u8 (v : Int)) ∧ w' = w := by
  rw [← h]; exact Tryz.internal_strconv_lower c w
set_option maxHeartbeats 8000000 in
set_option maxRecDepth 100000 in
theorem pu_in (t : ByteArray) (hne : t.size ≠ 0) (hmax : t.size ≤ 9223372036854775806) (w : World) :
    Calls Tryz.prog 177 #[.string t, .int .i64 16, .int .i64 16] w fun e w' => e = .returned (hexV (hexM 0 t.data.toList)) ∧ w' = Lib.bytesWorld w 5 t := by
  have hemp : t.toList.isEmpty = false := by
    rw [← decide_eq_emptyBytes]
    exact decide_eq_false (fun h => hne (by rw [h]; rfl))
  have hcv := Lib.run_convert_string_bytes (P := Tryz.prog) w 9 150 5 t (u := .string) Tryz.underlying9 Tryz.underlying150 Tryz.underlying5
  have hB : ∀ j, j < t.size → (Lib.bytesWorld w 5 t).cell? ⟨w.heap.size, j, none⟩ = some (.int .u8 (t.data.toList.getD j 0).toNat) := fun j hj => Lib.bytesWorld_cell w 5 t j hj
  obtain ⟨W1, hW1⟩ : ∃ W1, W1 = Lib.bytesWorld w 5 t := ⟨_, rfl⟩
  rw [← hW1] at hcv hB ⊢
  clear hW1
  obtain ⟨bs, hL⟩ : ∃ bs, bs = t.data.toList := ⟨_, rfl⟩
  have hLn : bs.length = t.size := by rw [hL, Lib.size_eq]
  rw [← hL] at hB ⊢
  clear hL
  have hmv : IntKind.u64.wrap (IntKind.u64.wrap 65536 - 1) = 65535 := by
    rw [IntKind.wrap_u64, IntKind.wrap_u64]
    decide
  go_enter Tryz.func177, Tryz.ntmps177
  go_wp2
  go_loop [12, 13, 101] (fun vu vn vi => ∃ (k acc : Nat) (a : Int), vu = .bool false ∧ vn = .int .u64 a ∧ vi = .int .i64 k ∧ k ≤ t.size ∧ Hid (a = (acc : Int) ∧ acc ≤ 65535 ∧ hexM 0 bs = hexM acc (bs.drop k)))
    (fun _ _ vi => t.size - (intOf vi).toNat)
  case atStart => exact ⟨0, 0, 0, rfl, rfl, rfl, by omega, rfl, by omega, rfl⟩
  case round =>
    obtain ⟨k, acc, a, rfl, rfl, rfl, hk, hh⟩ := hrel
    obtain ⟨ha, hacc, hdec⟩ := hh.out
    clear hh
    have a0 : 0 ≤ a := by omega
    have a1 : a ≤ 65535 := by omega
    by_cases hkn : k < t.size
    · have hc := hB k hkn
      have hdrop : bs.drop k = bs[k]'(by omega) :: bs.drop (k + 1) := List.drop_eq_getElem_cons (by omega)
      have hget : bs.getD k 0 = bs[k]'(by omega) := by simp [List.getD, List.getElem?_eq_getElem (show k < bs.length by omega)]
      rw [hdrop] at hdec
      rw [hget] at hc
      generalize bs[k]'(by omega) = c at hc hdec
      have hc256 : c.toNat < 256 := c.toNat_lt
      clear hB hdrop hget
      obtain ⟨v, hv, hcase⟩ := hex_cases c
      rcases hcase with ⟨hd0, hd1, hx⟩ | ⟨hd0, hd5, hv0, hv1, hx⟩ | ⟨hx, hd, hvv⟩
      · by_cases hov : 65535 < acc * 16 + (c.toNat - 48)
        · have hF : hexM acc (c :: bs.drop (k + 1)) = .range := by rw [hexM, hx]; simp [hov]
          rw [hF] at hdec
          have iov : 65535 < a * 16 + ((c.toNat : Int) - 48) := by omega
          clear hacc hF hov ha hx hv
          go_wp2
          go_ret2
          first | exact ⟨rfl, rfl⟩ | exact ⟨by rw [hdec]; rfl, rfl⟩
        · have hF : hexM acc (c :: bs.drop (k + 1)) = hexM (acc * 16 + (c.toNat - 48)) (bs.drop (k + 1)) := by rw [hexM, hx]; simp [hov]
          have HN : Hid (a * 16 + ((c.toNat : Int) - 48) = ((acc * 16 + (c.toNat - 48) : Nat) : Int) ∧ acc * 16 + (c.toNat - 48) ≤ 65535 ∧ hexM 0 bs = hexM (acc * 16 + (c.toNat - 48)) (bs.drop (k + 1))) := ⟨by omega, by omega, hdec.trans hF⟩
          have iov : a * 16 + ((c.toNat : Int) - 48) ≤ 65535 := by omega
          clear hacc hF hov hdec ha hx hv
          go_wp2
          refine ⟨⟨k + 1, acc * 16 + (c.toNat - 48), a * 16 + ((c.toNat : Int) - 48), rfl, (by first | rfl | (congr 1; omega)), (by first | rfl | (congr 1; omega)), by omega, HN⟩, by simp [intOf]; omega⟩
      · have hvd : hexD c = some (v - 87) := hx
        by_cases hov : 65535 < acc * 16 + (v - 87)
        · have hF : hexM acc (c :: bs.drop (k + 1)) = .range := by rw [hexM, hx]; simp [hov]
          rw [hF] at hdec
          have iov : 65535 < a * 16 + ((v : Int) - 97 + 10) := by omega
          clear hacc hF hov ha hx hvd
          go_wp2_with (go_at_call 217; refine (low_n hv).mono ?_; rintro e w' ⟨rfl, rfl⟩)
          go_ret2
          first | exact ⟨rfl, rfl⟩ | exact ⟨by rw [hdec]; rfl, rfl⟩
        · have hF : hexM acc (c :: bs.drop (k + 1)) = hexM (acc * 16 + (v - 87)) (bs.drop (k + 1)) := by rw [hexM, hx]; simp [hov]
          have HN : Hid (a * 16 + ((v : Int) - 97 + 10) = ((acc * 16 + (v - 87) : Nat) : Int) ∧ acc * 16 + (v - 87) ≤ 65535 ∧ hexM 0 bs = hexM (acc * 16 + (v - 87)) (bs.drop (k + 1))) := ⟨by omega, by omega, hdec.trans hF⟩
          have iov : a * 16 + ((v : Int) - 97 + 10) ≤ 65535 := by omega
          clear hacc hF hov hdec ha hx hvd
          go_wp2_with (go_at_call 217; refine (low_n hv).mono ?_; rintro e w' ⟨rfl, rfl⟩)
          refine ⟨⟨k + 1, acc * 16 + (v - 87), a * 16 + ((v : Int) - 97 + 10), rfl, (by first | rfl | (congr 1; omega)), (by first | rfl | (congr 1; omega)), by omega, HN⟩, by simp [intOf]; omega⟩
      · have hF : hexM acc (c :: bs.drop (k + 1)) = .«syntax» := by rw [hexM, hx]
        rw [hF] at hdec
        clear hacc hF ha hx
        have hvb := bits_lo_u8 .or (c.toNat : Int) 32
        have hvc := bits_hi_u8 .or (c.toNat : Int) 32
        rw [hv] at hvb hvc
        by_cases h95 : c.toNat = 95
        · rw [h95] at hc
          clear hv hvb hvc hvv hd hc256
          clear h95
          have hv : bits .or .u8 95 32 = ((127 : Nat) : Int) := by decide
          go_wp2_with (go_at_call 217; refine (low_n hv).mono ?_; rintro e w' ⟨rfl, rfl⟩)
          go_ret2
          first | exact ⟨rfl, rfl⟩ | exact ⟨by rw [hdec]; rfl, rfl⟩
        · rcases hd with hd | hd <;> rcases hvv with hvv | hvv | ⟨hvv, hv2⟩
          all_goals
            go_wp2_with (go_at_call 217; refine (low_n hv).mono ?_; rintro e w' ⟨rfl, rfl⟩)
            all_goals go_ret2
            all_goals first | exact ⟨rfl, rfl⟩ | exact ⟨by rw [hdec]; rfl, rfl⟩
    · have hkk : k = t.size := by omega
      subst hkk
      have hF : hexM acc (bs.drop t.size) = .ok acc := by rw [List.drop_eq_nil_of_le (by omega)]; rfl
      rw [hF] at hdec
      subst ha
      clear hacc hF a0 a1
      go_wp2
      go_ret2
      first | exact ⟨rfl, rfl⟩ | exact ⟨by rw [hdec]; rfl, rfl⟩
end Go.Proofs.YtnljjlaececnkaaGreatDoor
