/-
  The opening of arguments that are slices of pairs. No condition.
-/
import Derived.Test.YtnljjlaececnkaaGreatDoorEN
import Derived.Test.YtnljjlaececnkaaGreatDoorBA
import Derived.Deep.Slices
namespace Go.Proofs.YtnljjlaececnkaaGreatDoor
open Go.ChangeShapes Go.WideShapes Go.ChangeAt Go.RowKit
set_option linter.unusedVariables false
set_option linter.unusedSimpArgs false
theorem list_of {α : Type} {Q : Nat → α → Prop} : ∀ n, (∀ i, i < n → ∃ p, Q i p) → ∃ l : List α, l.length = n ∧ ∀ i p, l[i]? = some p → Q i p
  | 0, _ => ⟨[], rfl, fun i p h => by simp at h⟩
  | n + 1, h => by
    obtain ⟨l, hl, hq⟩ := list_of n fun i hi => h i (by omega)
    obtain ⟨p, hp⟩ := h n (by omega)
    refine ⟨l ++ [p], by simp [hl], fun i q hi => ?_⟩
    by_cases c : i < n
    · rw [List.getElem?_append_left (by omega)] at hi; exact hq i q hi
    · rw [List.getElem?_append_right (by omega)] at hi
      have : i = n := by
        have := (List.getElem?_eq_some_iff.1 hi).1
        simp at this; omega
      subst this
      rw [hl, Nat.sub_self] at hi
      cases hi; exact hp
section
variable {H : Type} {enc : TypeId × Value → H} {W : World} {base : Nat} {spare : Nat → Bool} {held : Bool}
theorem a_of_trod {n : Nat} {cs : List Value} {x : DataW H × List MemPlace} (h : DataW.trod enc Tryz.prog W base spare held n 42 cs = some x) : ∃ a, isA a ∧ cs = nums .u8 a := by
  obtain ⟨xs, m, _, _, hl, hxl, hel⟩ := DataW.trod_array Tryz.underlying42 h
  rw [size42'] at hl
  rw [c5'] at hel
  have hg : ∀ i, i < 16 → ∃ z : Int, cs[i]? = some (.int .u8 z) ∧ 0 ≤ z ∧ z < 256 := by
    intro i hi
    have h1 := hel i hi
    rw [List.getElem?_eq_getElem (by omega)] at h1
    obtain ⟨z, e1, -, wz⟩ := DataW.trod_int Tryz.underlying5 h1
    refine ⟨z, ?_, has_u8 (by
      have : IntKind.u8.has z := by
        simp [Lit.wf] at wz
        exact wz
      exact this)⟩
    have : ((cs.drop (i * 1)).take 1)[0]? = some (.int .u8 z) := by rw [e1]; rfl
    simpa using this
  obtain ⟨a, ha, hq⟩ := list_of (Q := fun i z => cs[i]? = some (.int .u8 z) ∧ 0 ≤ z ∧ z < 256) 16 hg
  refine ⟨a, ⟨ha, fun z hz => ?_⟩, ?_⟩
  · obtain ⟨i, hi⟩ := List.getElem?_of_mem hz
    exact (hq i z hi).2
  · apply List.ext_getElem?
    intro i
    by_cases hi : i < 16
    · obtain ⟨z, hz⟩ := get_some (l := a) (j := i) (by omega)
      rw [(hq i z hz).1, nums_get hz]
    · rw [List.getElem?_eq_none (by omega), List.getElem?_eq_none (by rw [nums_length]; omega)]
theorem p_of_trod {n : Nat} {cs : List Value} {x : DataW H × List MemPlace} (h : DataW.trod enc Tryz.prog W base spare held n 55 cs = some x) : ∃ p : Pf, p.ok ∧ cs = pCs p.a p.n := by
  obtain ⟨y0, y1, m, _, hl, h0, h1⟩ := trod_struct2 Tryz.underlying55 h
  rw [c55] at hl
  simp only [size42'] at h0
  have c3 : Tryz.prog.cellsOf 3 = 1 := by kernel_rfl
  simp only [c3] at h1
  obtain ⟨a, ha, e0⟩ := a_of_trod h0
  obtain ⟨z, e1, -, wz⟩ := DataW.trod_int Tryz.underlying3 h1
  refine ⟨⟨a, z⟩, ⟨ha, wz⟩, ?_⟩
  unfold pCs
  rw [← e0, ← e1]
  simp only [List.drop_zero]
  have : (cs.drop 16).take 1 = cs.drop 16 := List.take_of_length_le (by simp; omega)
  rw [this, List.take_append_drop]
theorem pr_of_trod {n : Nat} {cs : List Value} {x : DataW H × List MemPlace} (h : DataW.trod enc Tryz.prog W base spare held n 57 cs = some x) : ∃ p : Pr, p.fit ∧ cs = ppCs p := by
  obtain ⟨y0, y1, m, _, hl, h0, h1⟩ := trod_struct2 Tryz.underlying57 h
  rw [c57] at hl
  simp only [c55] at h0 h1
  obtain ⟨p, hp, e0⟩ := p_of_trod h0
  obtain ⟨q, hq, e1⟩ := p_of_trod h1
  refine ⟨⟨p, q⟩, ⟨hp, hq⟩, ?_⟩
  unfold ppCs
  rw [← e0, ← e1]
  simp only [List.drop_zero]
  have : (cs.drop 17).take 17 = cs.drop 17 := List.take_of_length_le (by simp; omega)
  rw [this, List.take_append_drop]
theorem prs_of {l : List Pr} (hf : ∀ p ∈ l, p.fit) {j : Nat} {u : Value} (h : (prs l)[j]? = some u) : ∃ i r p, j = i * 34 + r ∧ l[i]? = some p ∧ (ppCs p)[r]? = some u ∧ r < 34 := by
  have hj := (List.getElem?_eq_some_iff.1 h).1
  rw [prs_len hf] at hj
  obtain ⟨p, hp⟩ := get_some (l := l) (j := j / 34) (by omega)
  have hpl := ppCs_len (hf p (List.mem_of_getElem? hp))
  obtain ⟨u', hu'⟩ := get_some (l := ppCs p) (j := j % 34) (by omega)
  have := prs_at hf hp hu'
  rw [show j / 34 * 34 + j % 34 = j by omega, h] at this
  cases this
  exact ⟨j / 34, j % 34, p, by omega, hp, hu', by omega⟩
set_option maxRecDepth 100000 in
/-- A slice of pairs that came in. -/
theorem open_PRS {v : Value} {d : DataW H} {ps : List MemPlace} (hval : Value.okWide Tryz.prog W .any base 50 v) (h : DataW.Trod enc Tryz.prog W 0 (fun _ => true) true 50 v d ps) : ∃ l : List Pr, (∀ p ∈ l, p.fit) ∧ Prs W v l := by
  obtain ⟨a, len, cap, rfl⟩ := okWide_slice Tryz.underlying50 hval
  obtain ⟨fuel, hf⟩ := h
  rcases Go.Deep.open_slice Tryz.underlying50 hf with ⟨hcs, _⟩ | ⟨x, l, c, m, n, D, Pl, hcs, _, hl, hm, hmm, _, hi⟩
  · simp [Value.cells] at hcs
    obtain ⟨rfl, rfl, rfl⟩ := hcs
    exact ⟨[], (fun p h => by cases h), rfl, none, 0, rfl, Nat.le_refl _, by decide, (fun _ => rfl), fun a h => by cases h⟩
  · simp [Value.cells] at hcs
    obtain ⟨rfl, rfl, rfl⟩ := hcs
    simp only [if_true] at hmm
    subst hmm
    have hsp : x.spot = none := by
      simp only [Value.okWide, Tryz.underlying50, Cell.okWide, Cell.ok] at hval
      exact hval.2.2.2.1
    rw [c57] at hi
    obtain ⟨b, o, sp⟩ := x
    simp only at hsp
    subst hsp
    have hq : ∀ i, i < len → ∃ p : Pr, p.fit ∧ ∀ r u, (ppCs p)[r]? = some u → W.cell? ⟨b, o + (i * 34 + r), none⟩ = some u := by
      intro i hil
      obtain ⟨cs', hc, ht⟩ := hi i (by omega)
      obtain ⟨_, hcl, hat⟩ := World.cells?_some hc
      obtain ⟨p, hp, e⟩ := pr_of_trod ht
      refine ⟨p, hp, fun r u hr => ?_⟩
      have hr34 : r < 34 := by have := (List.getElem?_eq_some_iff.1 hr).1; rw [ppCs_len hp] at this; exact this
      have := hat r hr34
      rw [e, hr, Addr.add_lit, Addr.add_lit, Nat.add_assoc] at this
      exact this
    obtain ⟨L, hL, hLq⟩ := list_of len hq
    have hfit : ∀ p ∈ L, p.fit := fun p hp => by
      obtain ⟨i, hi⟩ := List.getElem?_of_mem hp
      exact (hLq i p hi).1
    refine ⟨L, hfit, prs_len hfit, _, m, by rw [hL], by omega, hm, (fun h => by cases h), fun a ha hn => ?_⟩
    obtain rfl : (⟨b, o, none⟩ : Addr) = a := by injection ha
    have hcell : ∀ j u, (prs L)[j]? = some u → W.cell? ⟨b, o + j, none⟩ = some u := fun j u hj => by
      obtain ⟨i, r, p, rfl, hp, hr, _⟩ := prs_of hfit hj
      exact (hLq i p hp).2 r u hr
    obtain ⟨p0, hp0⟩ := get_some (l := L) (j := 0) hn
    obtain ⟨u0, hu0⟩ := get_some (l := ppCs p0) (j := 0) (by rw [ppCs_len (hfit p0 (List.mem_of_getElem? hp0))]; decide)
    have hb := World.block_lt_of_cell? W _ (hcell 0 u0 (prs_at hfit hp0 hu0))
    simp only at hb
    exact ⟨b, o, rfl, by omega, hb, hcell⟩
end
end Go.Proofs.YtnljjlaececnkaaGreatDoor
