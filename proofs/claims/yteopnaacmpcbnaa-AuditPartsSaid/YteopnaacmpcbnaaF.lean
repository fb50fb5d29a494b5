/-
  Wires that came in; a map of whole numbers by whole numbers, in plain words. No condition.
-/
import Derived.Test.YteopnaacmpcbnaaD
import Derived.Maps.Own
import Derived.Maps.OwnOps
import Derived.Maps.OwnSet
import Derived.Maps.Views
namespace Go.Proofs.Yteopnaacmpcbnaa
open Go.ChangeShapes Go.WideShapes Go.ChangeAt Go.RowKit Go.Maps
set_option linter.unusedVariables false
set_option linter.unusedSimpArgs false

def wireC (x : Wire) : List Value := [.int .i64 x.1, .int .i64 x.2.1, .int .i64 x.2.2]
def wcs (l : List Wire) : List Value := (l.map wireC).flatten
theorem wcs_length (l : List Wire) : (wcs l).length = l.length * 3 := by
  unfold wcs
  induction l with
  | nil => rfl
  | cons x l ih => rw [List.map_cons, List.flatten_cons, List.length_append, ih, List.length_cons, Nat.add_mul]; simp [wireC]; omega
theorem wcs_get {l : List Wire} {j : Nat} {x : Wire} (h : l[j]? = some x) : (wcs l)[j * 3]? = some (.int .i64 x.1) ∧ (wcs l)[j * 3 + 1]? = some (.int .i64 x.2.1) ∧ (wcs l)[j * 3 + 2]? = some (.int .i64 x.2.2) := by
  obtain ⟨hj, rfl⟩ := List.getElem?_eq_some_iff.1 h
  have hall : ∀ c ∈ l.map wireC, c.length = 3 := by intro c hc; obtain ⟨x, _, rfl⟩ := List.mem_map.1 hc; rfl
  have f := fun i hi => flat_get (els := l.map wireC) (sz := 3) hall (j := j) (i := i) (by simpa using hj) hi
  refine ⟨?_, ?_, ?_⟩
  · have := f 0 (by decide); simpa [wcs, wireC] using this
  · have := f 1 (by decide); simpa [wcs, wireC] using this
  · have := f 2 (by decide); simpa [wcs, wireC] using this
/-- The slice value v reads as the wires l. -/
abbrev Rw (w : World) (S : Nat → Prop) (v : Value) (l : List Wire) : Prop := Row w S 3 v l.length (wcs l)
def wfI (n : Int) : Prop := (Lit.int .i64 n).wf = true
def wfW (x : Wire) : Prop := wfI x.1 ∧ wfI x.2.1 ∧ wfI x.2.2
theorem open_T23 {H : Type} {enc : TypeId × Value → H} {W : World} {v : Value} (h : Reads enc Try.prog W 23 [v]) : ∃ l : List Wire, Rw W (fun _ => False) v l ∧ ∀ x ∈ l, wfW x := by
  obtain ⟨v', els, hv, hl, hr, -, he⟩ := h.slice Try.underlying23 (sz := 3) (B := 24) (by kernel_rfl) (by decide) (by kernel_rfl)
  obtain rfl : v' = v := by injection hv with h _; exact h.symm
  have hone : ∀ c ∈ els, ∃ x : Wire, c = wireC x ∧ wfW x := by
    intro c hc
    obtain ⟨hcl, hf⟩ := (he c hc).field Try.underlying36
    have hl2 := hl c hc
    obtain ⟨a, ha, wa⟩ := (hf 0 _ rfl).int Try.underlying3
    obtain ⟨b, hb, wb⟩ := (hf 1 _ rfl).int Try.underlying3
    obtain ⟨d, hd, wd⟩ := (hf 2 _ rfl).int Try.underlying3
    have h3 : Try.prog.cellsOf 3 = 1 := by kernel_rfl
    match c, hl2 with
    | [x, y, z], _ =>
      simp [h3] at ha hb hd
      exact ⟨(a, b, d), by simp [wireC, ha, hb, hd], wa, wb, wd⟩
  obtain ⟨l, rfl⟩ := exists_map wireC els (fun c hc => by obtain ⟨x, h, _⟩ := hone c hc; exact ⟨x, h⟩)
  refine ⟨l, by simpa [Rw, wcs] using hr, fun x hx => ?_⟩
  obtain ⟨y, hy, hw⟩ := hone (wireC x) (List.mem_map.2 ⟨x, hx, rfl⟩)
  have : x = y := by
    obtain ⟨a, b, c⟩ := x
    obtain ⟨a', b', c'⟩ := y
    simp [wireC] at hy
    simp [hy]
  subst this; exact hw
/-- The map reads as f. -/
def MapR (D : DataW Unit) (f : Int → Option Int) : Prop := Maps.IsMap D ∧ ∀ s : Int, wfI s → Maps.has D (.int .i64 s) = (f s).isSome ∧ ∀ c, f s = some c → ∀ z, D.atKey (.int .i64 s) z = .lit (.int .i64 c)
theorem MapR.start : MapR (.map []) (fun _ => none) := ⟨Maps.isMap_empty, fun s _ => ⟨rfl, fun c h => by cases h⟩⟩
theorem law3 : Keyed Try.prog 3 := int_keyed Try.underlying3
theorem zero3 (w : World) : (zeroValue 3).run Try.prog w = .ok (.int .i64 0) w := by kernel_rfl
theorem MapR.put {D : DataW Unit} {f : Int → Option Int} (h : MapR D f) {s : Int} (hs : wfI s) (c : Int) : MapR (D.put (.int .i64 s) (.lit (.int .i64 c))) (fun t => if t = s then some c else f t) := by
  obtain ⟨hm, h⟩ := h
  have hk : WideAt.IsKeyLit (Lit.int .i64 s) := by trivial
  refine ⟨hm.put _ _, fun t ht => ?_⟩
  by_cases e : t = s
  · subst e
    simp only [if_pos rfl]
    exact ⟨Maps.has_put_same hm hk _, fun c' hc z => by cases hc; exact Maps.atKey_put_same hm hk _ _⟩
  · simp only [if_neg e]
    have hne : (Lit.int .i64 t) ≠ (Lit.int .i64 s) := fun h => e (by injection h)
    obtain ⟨h1, h2⟩ := h t ht
    exact ⟨(Maps.has_put_other hne _).trans h1, fun c' hc z => (Maps.atKey_put_other hne _ _).trans (h2 c' hc z)⟩
end Go.Proofs.Yteopnaacmpcbnaa
