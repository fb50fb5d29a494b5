/-
  Pieces joined, then split: the plain law. No program.
-/
import Derived.Test.YtgfhhnmhpncnlaaX
namespace Go.Proofs.Ytgfhhnmhpncnlaa
set_option linter.unusedVariables false
set_option linter.unusedSimpArgs false
def okR (r : Int × List Int) : Prop := (r.1 = 0 → r.2 = []) ∧ r.2.length ≤ 255
theorem joi_ok : ∀ (rs : List (Int × List Int)) (acc : List Int), (joi acc rs).2 = 0 → (joi acc rs).1 = acc ++ rs.flatMap enc ∧ ∀ r ∈ rs, okR r
  | [], acc, h => ⟨by simp [joi], fun r h => by cases h⟩
  | r :: rs, acc, h => by
    unfold joi at h ⊢
    by_cases h1 : r.1 = 0 ∧ 0 < r.2.length
    · rw [if_pos h1] at h; cases h
    · rw [if_neg h1] at h ⊢
      by_cases h2 : 255 < r.2.length
      · rw [if_pos h2] at h; cases h
      · rw [if_neg h2] at h ⊢
        obtain ⟨e, hr⟩ := joi_ok rs _ h
        refine ⟨by rw [e]; simp, fun x hx => ?_⟩
        rcases List.mem_cons.1 hx with rfl | hx
        · refine ⟨fun h0 => ?_, by omega⟩
          cases hx2 : x.2 with
          | nil => rfl
          | cons y ys => exact absurd ⟨h0, by rw [hx2]; simp⟩ h1
        · exact hr x hx
theorem spl_nil (F : Nat) (acc : List (Int × List Int)) : spl F acc [] = (acc, 0) := by cases F <;> rfl
theorem spl_enc : ∀ (rs : List (Int × List Int)) (acc : List (Int × List Int)) (F k : Nat), (∀ r ∈ rs, okR r) → ((rs.flatMap enc).take k).length ≤ F →
    ∃ j err, spl F acc ((rs.flatMap enc).take k) = (acc ++ rs.take j, err) ∧ j ≤ rs.length ∧ ((rs.flatMap enc).length ≤ k → j = rs.length ∧ err = 0)
  | [], acc, F, k, _, _ => ⟨0, 0, by simp [spl_nil], Nat.le_refl _, fun _ => ⟨rfl, rfl⟩⟩
  | (t, b) :: rs, acc, F, k, hok, hF => by
    have hr := hok (t, b) (by simp)
    have hrs : ∀ r ∈ rs, okR r := fun r h => hok r (by simp [h])
    rw [List.flatMap_cons] at hF ⊢
    by_cases t0 : t = 0
    · subst t0
      obtain rfl : b = [] := hr.1 rfl
      have e : enc (0, []) = [0] := rfl
      rw [e] at hF ⊢
      cases k with
      | zero => exact ⟨0, 0, by simp [spl_nil], Nat.zero_le _, fun h => by simp at h⟩
      | succ k =>
        simp only [List.cons_append, List.nil_append, List.take_succ_cons, List.length_cons] at hF ⊢
        obtain ⟨F, rfl⟩ : ∃ F', F = F' + 1 := ⟨F - 1, by omega⟩
        obtain ⟨j, err, h1, h2, h3⟩ := spl_enc rs (acc ++ [(0, [])]) F k hrs (by omega)
        refine ⟨j + 1, err, ?_, by omega, fun h => ?_⟩
        · have e9 : spl (F + 1) acc (0 :: (rs.flatMap enc).take k) = spl F (acc ++ [(0, [])]) ((rs.flatMap enc).take k) := by simp [spl]
          rw [e9, h1]; simp
        · obtain ⟨h4, h5⟩ := h3 (by omega); exact ⟨by omega, h5⟩
    · have e : enc (t, b) = t :: (b.length : Int) :: b := by simp [enc, t0]
      rw [e] at hF ⊢
      have hbad : ∀ err : Int, (acc, err) = (acc ++ ((t, b) :: rs).take 0, err) := fun err => by simp
      cases k with
      | zero => exact ⟨0, 0, by simp [spl_nil], Nat.zero_le _, fun h => by simp at h⟩
      | succ k =>
        simp only [List.cons_append, List.take_succ_cons, List.length_cons] at hF ⊢
        obtain ⟨F, rfl⟩ : ∃ F', F = F' + 1 := ⟨F - 1, by omega⟩
        cases k with
        | zero =>
          refine ⟨0, 52, ?_, Nat.zero_le _, fun h => by simp at h⟩
          rw [List.take_zero, spl, if_neg t0, ← hbad]
        | succ k =>
          simp only [List.take_succ_cons, List.length_cons] at hF ⊢
          rw [spl, if_neg t0]
          by_cases hc : (b.length : Int) > ((b ++ rs.flatMap enc).take k).length
          · refine ⟨0, 52, ?_, Nat.zero_le _, fun h => ?_⟩
            · simp only [if_pos hc]; exact hbad _
            · simp at hc h; omega
          · simp only [if_neg hc]
            have hk : b.length ≤ k := by simp at hc; omega
            have e1 : ((b ++ rs.flatMap enc).take k).take ((b.length : Int)).toNat = b := by
              rw [Int.toNat_natCast, List.take_take, Nat.min_eq_left hk, List.take_left]
            have e2 : ((b ++ rs.flatMap enc).take k).drop ((b.length : Int)).toNat = (rs.flatMap enc).take (k - b.length) := by
              rw [Int.toNat_natCast, List.drop_take, List.drop_left]
            rw [e1, e2]
            have hlen : ((rs.flatMap enc).take (k - b.length)).length ≤ F := by
              have : ((b ++ rs.flatMap enc).take k).length + 1 ≤ F := by omega
              simp at this ⊢
              omega
            obtain ⟨j, err, h1, h2, h3⟩ := spl_enc rs (acc ++ [(t, b)]) F (k - b.length) hrs hlen
            refine ⟨j + 1, err, ?_, by simp; omega, fun h => ?_⟩
            · rw [h1]; simp
            · simp at h
              obtain ⟨h4, h5⟩ := h3 (by simp; omega)
              exact ⟨by simp; omega, h5⟩
end Go.Proofs.Ytgfhhnmhpncnlaa
