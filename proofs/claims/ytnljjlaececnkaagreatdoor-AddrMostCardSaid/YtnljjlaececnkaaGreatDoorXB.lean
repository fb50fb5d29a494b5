/-
  run: the longest run of zero groups. No condition: eight groups.
-/
import Derived.Test.YtnljjlaececnkaaGreatDoorX
namespace Go.Proofs.YtnljjlaececnkaaGreatDoor
open Go.RowKit
set_option linter.unusedVariables false
set_option linter.unusedSimpArgs false
/-- The zeros at a row's beginning. -/
def zc : List Nat → Nat
  | [] => 0
  | x :: l => if x = 0 then zc l + 1 else 0
theorem zc_le : ∀ l : List Nat, zc l ≤ l.length
  | [] => Nat.le_refl _
  | x :: l => by unfold zc; have := zc_le l; split <;> simp <;> omega
theorem zc_zero {l : List Nat} {j : Nat} (h : l[j]? = some 0) : zc (l.drop j) = zc (l.drop (j + 1)) + 1 := by
  obtain ⟨hj, e⟩ := List.getElem?_eq_some_iff.1 h
  rw [List.drop_eq_getElem_cons hj, e]; simp [zc]
theorem zc_pos {l : List Nat} {j u : Nat} (h : l[j]? = some u) (hu : u ≠ 0) : zc (l.drop j) = 0 := by
  obtain ⟨hj, e⟩ := List.getElem?_eq_some_iff.1 h
  rw [List.drop_eq_getElem_cons hj, e]; simp [zc, hu]
def runStep (l : List Nat) (s : Nat × Nat) (f : Nat) : Nat × Nat := if max (s.2 - s.1) 1 < zc (l.drop f) then (f, f + zc (l.drop f)) else s
/-- run, of the first groups. -/
def runAt (l : List Nat) : Nat → Nat × Nat
  | 0 => (0, 0)
  | k + 1 => runStep l (runAt l k) k
theorem runAt_le (l : List Nat) : ∀ k, k ≤ l.length → (runAt l k).1 ≤ (runAt l k).2 ∧ (runAt l k).2 ≤ l.length
  | 0, _ => ⟨Nat.le_refl _, Nat.zero_le _⟩
  | k + 1, hk => by
    have h := runAt_le l k (by omega)
    have hz := zc_le (l.drop k)
    rw [List.length_drop] at hz
    unfold runAt runStep
    split
    · exact ⟨by simp, by simp; omega⟩
    · exact h
def vG (l : List Nat) : Value := .agg (u16s l).toArray
def oG (l : List Nat) : Obj := .cells (u16s l).toArray 217 (0, 0)
theorem u16s_len (l : List Nat) : (u16s l).length = l.length := by simp [u16s]
theorem c217 : Tryz.prog.cellsOf 217 = 8 := by kernel_rfl
theorem size217 : (Tryz.prog.info? 217).map (·.size) = some 8 := by kernel_rfl
theorem u16_wrap {u : Nat} (h : u < 65536) : IntKind.u16.wrap (u : Int) = u := by rw [IntKind.wrap_u16]; omega
set_option maxRecDepth 100000 in
set_option maxHeartbeats 800000 in
theorem run_any {w : World} {l : List Nat} (hl : l.length = 8) (hu : ∀ u ∈ l, u < 65536) : Calls Tryz.prog 165 #[vG l] w fun e w' => e = .returned (.tuple #[.int .i64 (runAt l 8).1, .int .i64 (runAt l 8).2]) ∧ Below w.heap.size w w' := by
  unfold vG
  go_enter Tryz.func165, Tryz.ntmps165
  go_wp2
  go_loopw [2, 3, 6] (fun x2 x3 x6 wr => ∃ k : Nat, k ≤ 8 ∧ x6 = .int .i64 k ∧ x2 = .int .i64 (runAt l k).1 ∧ x3 = .int .i64 (runAt l k).2 ∧ wr = w.alloc (oG l)) (fun x2 x3 x6 wr => 8 - (intOf x6).toNat)
  case atStart => exact ⟨0, by omega, rfl, rfl, rfl, rfl⟩
  case round =>
    obtain ⟨k, hk, rfl, rfl, rfl, rfl⟩ := hrel
    by_cases hlt : k < 8
    · have hrl := runAt_le l k (by omega)
      have hru : runAt l (k + 1) = runStep l (runAt l k) k := rfl
      obtain ⟨lo, hi, hlh⟩ : ∃ lo hi, runAt l k = (lo, hi) := ⟨_, _, rfl⟩
      rw [hlh] at hrl hru
      simp only [hlh]
      simp only at hrl
      rw [hl] at hrl
      obtain ⟨hrl1, hrl2⟩ := hrl
      replace hru := Lib.hid hru
      have hk8 : decide ((k : Int) < 8) = true := decide_eq_true (by omega)
      have tail : ∀ t : Nat, zc (l.drop t) = 0 → t + zc (l.drop t) = k + zc (l.drop k) → (max ((hi : Int) - lo) 1 < (t : Int) - k → Hid (runAt l (k + 1) = (k, t))) ∧ ((t : Int) - k ≤ max ((hi : Int) - lo) 1 → Hid (runAt l (k + 1) = (lo, hi))) := by
        intro t h0 h1
        refine ⟨fun hm => Lib.hid ?_, fun hm => Lib.hid ?_⟩
        · rw [hru.out, runStep, if_pos (by simp only; omega)]
          congr 1; omega
        · rw [hru.out, runStep, if_neg (by simp only; omega)]
      replace tail := Lib.hid tail
      go_wp2_with fail
      go_loopw [5] (fun x5 wr => ∃ t : Nat, k ≤ t ∧ t ≤ 8 ∧ x5 = .int .i64 t ∧ t + zc (l.drop t) = k + zc (l.drop k) ∧ wr = w.alloc (oG l)) (fun x5 wr => 8 - (intOf x5).toNat)
      case atStart => exact ⟨k, by omega, hk, rfl, rfl, rfl⟩
      case round =>
        obtain ⟨t, hkt, ht8, rfl, htz, rfl⟩ := hrel
        replace htz := Lib.hid htz
        rcases (by omega : t < 8 ∨ t = 8) with hlt2 | rfl
        · obtain ⟨u, hget⟩ := get_some (l := l) (j := t) (by omega)
          have hc := row_load (box1 w (oG l)) t (.int .u16 (u : Int)) (by simp [u16s, hget])
          rw [Nat.zero_add] at hc
          by_cases h0 : u = 0
          · subst h0
            have hz := Lib.hid (zc_zero hget)
            go_wp2_with fail
            go_roundw
            case rel => exact ⟨t + 1, by omega, by omega, rfl, by have := hz.out; have := htz.out; omega, trivial⟩
            case measure => simp [intOf]; omega
          · have h0d : decide ((u : Int) = 0) = false := decide_eq_false (by omega)
            have hz := zc_pos hget h0
            have htl := tail.out t hz htz.out
            replace htl := Lib.hid htl
            clear hz
            go_wp2_with fail
            all_goals refine ⟨⟨k + 1, by omega, by congr 1, ?_⟩, by simp [intOf]; omega⟩
            · rename_i hm
              rw [(htl.out.1 hm).out]; exact ⟨rfl, rfl, trivial⟩
            · rename_i hm
              rw [(htl.out.2 hm).out]; exact ⟨rfl, rfl, trivial⟩
        · have hz : zc (l.drop 8) = 0 := by rw [List.drop_of_length_le (by omega)]; rfl
          have htl := tail.out 8 hz htz.out
          replace htl := Lib.hid htl
          clear hz
          go_wp2_with fail
          all_goals refine ⟨⟨k + 1, by omega, by congr 1, ?_⟩, by simp [intOf]; omega⟩
          · rename_i hm
            rw [(htl.out.1 hm).out]; exact ⟨rfl, rfl, trivial⟩
          · rename_i hm
            rw [(htl.out.2 hm).out]; exact ⟨rfl, rfl, trivial⟩
    · obtain rfl : k = 8 := by omega
      go_wp2_with fail
      go_ret2
      exact ⟨rfl, (Below.refl _ _).alloc (Nat.le_refl _) _⟩
end Go.Proofs.YtnljjlaececnkaaGreatDoor
