/-
  Parts at whatever number of nodes. Condition: the wires that came in are read; they are not very many.
-/
import Derived.Test.YteopnaacmpcbnaaI
namespace Go.Proofs.Yteopnaacmpcbnaa
open Go.RowKit
set_option linter.unusedVariables false
set_option linter.unusedSimpArgs false

/-- Which nodes are joined. -/
def partsOf (n : Int) (ws : List Wire) : List Int := if 1 ≤ n ∧ n ≤ 8 then (prs n.toNat ws).1 else []
theorem Parts_any {w : World} {v : Value} {ws : List Wire} (h : Rw w (fun b => w.heap.size ≤ b) v ws) (hw : ∀ x ∈ ws, wfW x) (hl : ws.length ≤ 1000000) (n : Int) :
    Calls Try.prog 13 #[.int .i64 n, v] w fun e w' => ∃ v', e = .returned v' ∧ Oi w' v' (partsOf n ws) ∧ Lo w.heap.size v' ∧ Below w.heap.size w w' := by
  by_cases hn : 1 ≤ n ∧ n ≤ 8
  · obtain ⟨m, rfl⟩ : ∃ m : Nat, n = m := ⟨n.toNat, by omega⟩
    refine (Parts_ok h hw hl m (by omega) (by omega)).mono ?_
    rintro e w' ⟨v', rfl, o, lo, b⟩
    unfold partsOf
    rw [if_pos hn, Int.toNat_natCast]
    exact ⟨v', rfl, o.oi, lo, b⟩
  · refine (Parts_bad h n hn).mono ?_
    rintro e w' ⟨rfl, rfl⟩
    unfold partsOf
    rw [if_neg hn]
    exact ⟨_, rfl, own_nil _ _ _, Lo.nil _, Below.refl _ _⟩
theorem RParts_any {w : World} {v : Value} {ws : List Wire} (h : Rw w (fun b => w.heap.size ≤ b) v ws) (hl : ws.length ≤ 1000000) (n : Int) :
    Calls Try.prog 14 #[.int .i64 n, v] w fun e w' => ∃ v', e = .returned v' ∧ Oi w' v' (partsOf n ws) ∧ Lo w.heap.size v' ∧ Below w.heap.size w w' := by
  by_cases hn : 1 ≤ n ∧ n ≤ 8
  · obtain ⟨m, rfl⟩ : ∃ m : Nat, n = m := ⟨n.toNat, by omega⟩
    refine (RParts_ok h hl m (by omega) (by omega)).mono ?_
    rintro e w' ⟨v', rfl, o, lo, b⟩
    unfold partsOf
    rw [if_pos hn, Int.toNat_natCast, ← rprs_eq]
    exact ⟨v', rfl, o.oi, lo, b⟩
  · refine (RParts_bad h n hn).mono ?_
    rintro e w' ⟨rfl, rfl⟩
    unfold partsOf
    rw [if_neg hn]
    exact ⟨_, rfl, own_nil _ _ _, Lo.nil _, Below.refl _ _⟩
theorem Row.fresh {B : Nat} {w : World} {sz n : Nat} {v : Value} {xs : List Value} (h : Row w (fun b => B ≤ b) sz v n xs) (hB : B ≤ w.heap.size) : Row w (fun b => w.heap.size ≤ b) sz v n xs := h.mono (fun b hb => Nat.le_trans hB hb)
end Go.Proofs.Yteopnaacmpcbnaa
