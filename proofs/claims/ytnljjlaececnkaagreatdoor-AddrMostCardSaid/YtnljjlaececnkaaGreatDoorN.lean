/-
  strconv.ParseUint, public; groups of base 16. Condition: the variables hold what their initialisers laid; a text is no longer than memory has room for.
-/
import Derived.Test.YtnljjlaececnkaaGreatDoorK
import Derived.Test.YtnljjlaececnkaaGreatDoorM
namespace Go.Proofs.YtnljjlaececnkaaGreatDoor
open Go.RowKit Go.Shelf
set_option linter.unusedVariables false
set_option linter.unusedSimpArgs false
attribute [local go_sem] Oper.semAt_some
theorem hex_from {l : List UInt8} : ∀ {acc u : Nat}, hexFrom acc l = some u → (acc + 1) * 16 ^ l.length ≤ 65536 → hexM acc l = .ok u := by
  induction l with
  | nil => intro acc u h _; simp [hexFrom] at h; simp [hexM, h]
  | cons c l ih =>
    intro acc u h hb
    unfold hexFrom at h
    unfold hexM
    cases hd : hexD c with
    | none => rw [hd] at h; cases h
    | some d =>
      rw [hd] at h
      have h16 : d < 16 := by
        unfold hexD at hd
        repeat' split at hd
        all_goals first
          | (cases hd; omega)
          | cases hd
      have hp : 1 ≤ 16 ^ l.length := Nat.pow_pos (by decide)
      rw [List.length_cons, Nat.pow_succ] at hb
      have e : (acc + 1) * (16 ^ l.length * 16) = (16 * acc + 16) * 16 ^ l.length := by
        rw [Nat.mul_comm (16 ^ l.length) 16, ← Nat.mul_assoc]; congr 1; omega
      have h1 : (16 * acc + d + 1) * 16 ^ l.length ≤ (16 * acc + 16) * 16 ^ l.length := Nat.mul_le_mul_right _ (by omega)
      have h2 : (16 * acc + d + 1) ≤ (16 * acc + d + 1) * 16 ^ l.length := Nat.le_mul_of_pos_right _ hp
      have h3 : ¬ 65535 < acc * 16 + d := by omega
      simp only [h3, if_false]
      rw [Nat.mul_comm acc 16]
      exact ih h (by omega)
theorem hex_none {l : List UInt8} : ∀ {acc : Nat}, hexFrom acc l = none → ∀ u, hexM acc l ≠ .ok u := by
  induction l with
  | nil => intro acc h; simp [hexFrom] at h
  | cons c l ih =>
    intro acc h u
    unfold hexFrom at h
    unfold hexM
    cases hd : hexD c with
    | none => simp
    | some d =>
      rw [hd] at h
      simp only
      split
      · simp
      · rw [Nat.mul_comm acc 16]; exact ih h u
theorem hex_bytes {l : List UInt8} : ∀ {acc u : Nat}, hexFrom acc l = some u → Lib.indexAny l [43, 95] = -1 ∧ ∀ (j : Nat) b, l[j]? = some b → b.toNat < 128 := by
  induction l with
  | nil => intro acc u h; exact ⟨rfl, fun j b hb => by simp at hb⟩
  | cons c l ih =>
    intro acc u h
    unfold hexFrom at h
    cases hd : hexD c with
    | none => rw [hd] at h; cases h
    | some d =>
      rw [hd] at h
      obtain ⟨h1, h2⟩ := ih h
      have hr : c.toNat ≠ 43 ∧ c.toNat ≠ 95 ∧ c.toNat < 128 := by
        unfold hexD at hd
        repeat' split at hd
        all_goals first
          | (cases hd; omega)
          | cases hd
      have hc : ([43, 95] : List UInt8).contains c = false := by
        have e1 : c ≠ 43 := fun e => hr.1 (by rw [e]; rfl)
        have e2 : c ≠ 95 := fun e => hr.2.1 (by rw [e]; rfl)
        simp [e1, e2]
      refine ⟨by unfold Lib.indexAny; rw [hc, h1]; rfl, fun j b hb => ?_⟩
      cases j with
      | zero => simp at hb; subst hb; exact hr.2.2
      | succ j => exact h2 j b (by simpa using hb)
/-- ParseUint, where there is a number. -/
theorem pu_ok {w : World} {t : ByteArray} {u : Nat} (h0 : t.size ≠ 0) (hs : t.size ≤ 140737488351232) (h : hexM 0 t.data.toList = .ok u) : Calls Tryz.prog 119 #[.string t, .int .i64 16, .int .i64 16] w fun e w' => e = .returned (.tuple #[.int .u64 u, .nilIface]) ∧ Below w.heap.size w w' := by
  have bel := Lib.bytesWorld_below w 5 t
  have hin := pu_in t h0 (by omega) w
  rw [h] at hin
  have hin2 : Calls Tryz.prog 177 #[.string t, .int .i64 16, .int .i64 16] w fun e w' => e = .returned (.tuple #[.int .u64 u, .nilIface]) ∧ w' = Lib.bytesWorld w 5 t := hin
  clear hin
  go_enter Tryz.func119, Tryz.ntmps119
  go_wp2_with (go_at_call 177; refine hin2.mono ?_; rintro e w' ⟨rfl, rfl⟩)
  go_ret2
  exact ⟨rfl, bel⟩
def PuNo (e : Ending) : Prop := ∃ n te pe, e = .returned (.tuple #[.int .u64 n, .iface te pe])
/-- .. and where there is none. -/
theorem pu_no {w : World} (E : Env w) {t : ByteArray} (hs : t.size ≤ 140737488351232) (h : t.size = 0 ∨ ∀ u, hexM 0 t.data.toList ≠ .ok u) : Calls Tryz.prog 119 #[.string t, .int .i64 16, .int .i64 16] w fun e w' => PuNo e ∧ Below w.heap.size w w' := by
  by_cases h0 : t.size = 0
  · obtain rfl : t = ⟨#[]⟩ := by
      obtain ⟨⟨l⟩⟩ := t
      cases l with
      | nil => rfl
      | cons x l => simp [ByteArray.size] at h0
    obtain ⟨ev1, hv1, he1⟩ := (E.go (Below.refl _ _)).1.es
    replace he1 := Lib.hid he1
    go_enter Tryz.func119, Tryz.ntmps119
    go_wp2_with (first
      | (go_at_call 177; refine (Tryz.internal_strconv_ParseUint_empty 16 16 w).mono ?_; rintro e w' ⟨rfl, rfl⟩)
      | (go_at_call 175; refine (Tryz.strconv_toError_syntax _ _ 16 16 ev1 _ (by decide) hv1 he1.out).mono ?_; rintro e w' ⟨N, rfl, -, -, bel⟩))
    go_ret2
    exact ⟨⟨_, _, _, rfl⟩, bel⟩
  · have hn := h.resolve_left h0
    have bel0 := Lib.bytesWorld_below w 5 t
    have E1 := E.go bel0
    obtain ⟨ev1, hv1, he1⟩ := E1.1.es
    obtain ⟨ev2, hv2, he2⟩ := E1.1.er
    replace he1 := Lib.hid he1
    replace he2 := Lib.hid he2
    obtain ⟨W1, hW1⟩ : ∃ W1, W1 = Lib.bytesWorld w 5 t := ⟨_, rfl⟩
    have hin := pu_in t h0 (by omega) w
    rw [← hW1] at hv1 hv2 bel0 hin
    clear hW1 E1
    cases hm : hexM 0 t.data.toList with
    | ok u => exact absurd hm (hn u)
    | «syntax» =>
      rw [hm] at hin
      have hin2 : Calls Tryz.prog 177 #[.string t, .int .i64 16, .int .i64 16] w fun e w' => e = .returned (.tuple #[.int .u64 0, .iface 277 (.int .i64 2)]) ∧ w' = W1 := hin
      clear hin
      go_enter Tryz.func119, Tryz.ntmps119
      go_wp2_with (first
        | (go_at_call 177; refine hin2.mono ?_; rintro e w' ⟨rfl, rfl⟩)
        | (go_at_call 175; refine (Tryz.strconv_toError_syntax _ _ 16 16 ev1 _ (by omega) hv1 he1.out).mono ?_; rintro e w' ⟨N, rfl, -, -, bel⟩))
      go_ret2
      exact ⟨⟨_, _, _, rfl⟩, bel0.trans (bel.mono bel0.size)⟩
    | range =>
      rw [hm] at hin
      have hin2 : Calls Tryz.prog 177 #[.string t, .int .i64 16, .int .i64 16] w fun e w' => e = .returned (.tuple #[.int .u64 65535, .iface 277 (.int .i64 1)]) ∧ w' = W1 := hin
      clear hin
      go_enter Tryz.func119, Tryz.ntmps119
      go_wp2_with (first
        | (go_at_call 177; refine hin2.mono ?_; rintro e w' ⟨rfl, rfl⟩)
        | (go_at_call 175; refine (Tryz.strconv_toError_range _ _ 16 16 ev2 _ (by omega) hv2 he2.out).mono ?_; rintro e w' ⟨N, rfl, -, -, bel⟩))
      go_ret2
      exact ⟨⟨_, _, _, rfl⟩, bel0.trans (bel.mono bel0.size)⟩
end Go.Proofs.YtnljjlaececnkaaGreatDoor
