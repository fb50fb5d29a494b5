/-
  What octet lays: numbers and bytes behind bytes of the call's own. Condition: the row is the call's own.
-/
import Derived.Test.YtgfhhnmhpncnlaaC
namespace Go.Proofs.Ytgfhhnmhpncnlaa
open Go.RowKit
set_option linter.unusedVariables false
set_option linter.unusedSimpArgs false

/-- The bytes of a number, the highest first. -/
def putL (n : Int) : Nat → List Int
  | 0 => []
  | k + 1 => (n / 2 ^ (8 * k) % 256) :: putL n k
theorem putL_length (n : Int) : ∀ k, (putL n k).length = k
  | 0 => rfl
  | k + 1 => by simp [putL, putL_length n k]
theorem putL_isB (n : Int) : ∀ k, isB (putL n k)
  | 0 => fun x h => by cases h
  | k + 1 => fun x h => by
    rcases List.mem_cons.1 h with rfl | h
    · omega
    · exact putL_isB n k x h
set_option maxHeartbeats 800000 in
theorem put_any {w : World} {v : Value} {l : List Int} (h : Ob w v l) (n : Int) (h0 : 0 ≤ n) (h1 : n < 4294967296) (k : Nat) (hk : k ≤ 4) (hl : l.length + k ≤ 140737488355328) :
    Calls Try.prog 50 #[v, .int .u32 n, .int .i64 k] w fun e w' => ∃ v', e = .returned v' ∧ Ob w' v' (l ++ putL n k) ∧ Nx w v v' ∧ FrV v w w' := by
  go_enter Try.func50, Try.ntmps50
  go_wp2
  go_loopw [0, 2] (fun u x wr => ∃ (m : Nat) (p : List Int), m ≤ k ∧ x = .int .i64 m ∧ Hid (p ++ putL n m = putL n k) ∧ Ob wr u (l ++ p) ∧ Nx w v u ∧ FrV v w wr) (fun _ x _ => (intOf x).toNat)
  case atStart => exact ⟨k, [], Nat.le_refl _, rfl, Lib.hid rfl, by simpa using h, Nx.refl _ _, Fr.refl _ _⟩
  case round =>
    obtain ⟨m, p, hm, rfl, hp, ho, hn, hf⟩ := hrel
    cases m with
    | zero =>
      go_wp2
      go_ret
      refine ⟨_, rfl, ?_, hn, hf⟩
      have := hp.out
      simp only [putL, List.append_nil] at this
      rw [← this]; exact ho
    | succ m =>
      have a1 : ((m : Int) + 1) - 1 = m := by omega
      have hpl : p.length + (m + 1) = k := by have := congrArg List.length hp.out; simpa [putL_length] using this
      have hx0 : 0 ≤ n / 2 ^ (8 * m) % 256 ∧ n / 2 ^ (8 * m) % 256 < 256 := by omega
      go_wp2_with (at_builtin; refine wpList_app1 rfl (.tmp 11) (.tmp 17) rfl rfl ho rfl hx0.1 hx0.2 (by simp; omega) ?_; intro v' w1 ho1 hn1 hf1)
      go_roundw
      case rel => exact ⟨m, p ++ [n / 2 ^ (8 * m) % 256], by omega, rfl, Lib.hid (by rw [List.append_assoc]; exact hp.out), by rw [← List.append_assoc]; exact ho1, hn.trans hn1 hf.size, hf.step hn hf1⟩
      case measure => simp [intOf]
end Go.Proofs.Ytgfhhnmhpncnlaa
