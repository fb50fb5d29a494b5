/-
  Arguments that came in, opened as the rows of this seat's words. No condition.
-/
import Derived.Test.YtgfhhnmhpncnlaaF
import Derived.ProofKit
import Derived.OpenShut
import Derived.SizedLaws
namespace Go.Proofs.Ytgfhhnmhpncnlaa
open Go.ChangeShapes Go.WideShapes Go.ChangeAt Go.RowKit
set_option linter.unusedVariables false
set_option linter.unusedSimpArgs false
section
variable {H : Type} {enc : TypeId × Value → H} {P : Program} {W : World} {base : Nat} {spare : Nat → Bool} {held : Bool} {t e : TypeId} {k : IntKind} {v : Value} {d : DataW H} {ps : List MemPlace}
/-- A slice of whole numbers that came in is a row. -/
theorem open_row (hu : P.underlying t = some (.slice e)) (he : P.underlying e = some (.int k)) (hc : P.cellsOf e = 1) (hval : Value.okWide P W .any base t v)
    (h : DataW.Trod enc P W 0 (fun _ => true) true t v d ps) : ∃ l : List Int, Row W (fun _ => False) 1 v l.length (nums k l) ∧ ∀ x ∈ l, (Lit.int k x).wf = true := by
  obtain ⟨a, len, cap, rfl⟩ := okWide_slice hu hval
  obtain ⟨fuel, hf⟩ := h
  rcases open_ints hu he hc hf with ⟨hcs, _⟩ | ⟨x, l, c, zs, hcs, _, hl, hm, hz, _, hcell, hwz⟩
  · simp [Value.cells] at hcs
    obtain ⟨rfl, rfl, rfl⟩ := hcs
    exact ⟨[], ⟨rfl, none, 0, rfl, Nat.le_refl _, by decide, fun _ => rfl, fun a h => by cases h⟩, fun x h => by cases h⟩
  · simp [Value.cells] at hcs
    obtain ⟨rfl, rfl, rfl⟩ := hcs
    have hzl : zs.length = cap := by simpa using hz
    have hlt : (zs.take len).length = len := by simp; omega
    refine ⟨zs.take len, ⟨by rw [nums_length, Nat.mul_one], some x, cap, by rw [hlt], by omega, hm, (fun h => by cases h), fun a ha hn => ?_⟩, fun y hy => hwz y (List.mem_of_mem_take hy)⟩
    obtain rfl : x = a := by injection ha
    rw [hlt] at hn
    have h0 := hcell 0 (by omega)
    have hsp := World.cell?_spot h0
    obtain ⟨b, o, s⟩ := x
    have hs : s = none := by simpa [Addr.add] using hsp
    subst hs
    refine ⟨b, o, rfl, fun h => h, ?_, fun j u hj => ?_⟩
    · have := World.block_lt_of_cell? W _ h0; rwa [add_block] at this
    · have hjl : j < (zs.take len).length := by have := (List.getElem?_eq_some_iff.1 hj).1; rwa [nums_length] at this
      have := hcell j (by omega)
      rw [Addr.add_lit] at this
      rw [this]
      rw [nums_at k _ hjl] at hj
      rw [← hj]
      simp [List.getD_eq_getElem?_getD, List.getElem?_take, show j < len by omega]
/-- It is no longer than its weight allows. -/
theorem row_sized {ts : List TypeId} {ds : List (DataW H)} {j : Nat} {l : List Int} {S : Nat → Prop} {xs : List Value} {sz : Nat}
    (hsz : (DataW.weightsEach P ts ds).all (· ≤ reachBytes) = true) (ht : ts[j]? = some t) (hd : ds[j]? = some d) (hu : P.underlying t = some (.slice e)) (he : P.underlying e = some (.int k)) (hc : P.cellsOf e = 1) {B : Nat} (hB : P.bytesOf e = B)
    (h : DataW.Trod enc P W base spare held t v d ps) (hr : Row W S sz v l.length xs) : l.length * B ≤ 140737488351232 := by
  obtain ⟨_, a, cap, rfl, -⟩ := hr
  obtain ⟨fuel, hf⟩ := h
  rcases open_ints hu he hc hf with ⟨hcs, _⟩ | ⟨x, len, c, zs, hcs, _, hl, _, hz, hx, _, _⟩
  · simp [Value.cells] at hcs
    obtain ⟨-, h0, -⟩ := hcs
    rw [h0]; simp
  · simp [Value.cells] at hcs
    obtain ⟨-, h1, rfl⟩ := hcs
    obtain ⟨hx, _⟩ := Prod.mk.inj hx
    subst hx
    have z := sized_slice hsz ht hd hu
    rw [hB] at z
    have hl2 : len ≤ zs.length := by
      rw [hz]
      split
      · exact hl
      · exact Nat.le_refl _
    have h2 : (lits (H := H) k (zs.take len)).length + (lits (H := H) k (zs.drop len)).length = zs.length := by
      simp [lits]
      omega
    rw [h2] at z
    rw [h1]
    exact Nat.le_trans (Nat.mul_le_mul_right _ hl2) z
end
/-- Bytes that came in. -/
theorem bs_of_row {W : World} {S : Nat → Prop} {v : Value} {l : List Int} (h : Row W S 1 v l.length (nums .u8 l)) (hw : ∀ x ∈ l, (Lit.int .u8 x).wf = true) : Bs W S v l := by
  obtain ⟨h0, A, c, rfl, h1, h2, h3, h5⟩ := h
  refine ⟨A, c, rfl, h1, h2, h3, fun x hx => ?_, fun a ha hn => ?_⟩
  · have := bounds_u8 (hw x hx); omega
  · obtain ⟨b, o, rfl, p2, p3, p4⟩ := h5 a ha hn
    refine ⟨rfl, p2, p3, fun j hj => ?_⟩
    rw [Addr.add_lit]; exact p4 j _ (nums_at .u8 l hj)
theorem isN_u16 {l : List Int} (hw : ∀ x ∈ l, (Lit.int .u16 x).wf = true) : isN 65536 l := fun x hx => by have := bounds_u16 (hw x hx); omega
theorem isN_u32 {l : List Int} (hw : ∀ x ∈ l, (Lit.int .u32 x).wf = true) : isN 4294967296 l := fun x hx => by have := bounds_u32 (hw x hx); omega
end Go.Proofs.Ytgfhhnmhpncnlaa
