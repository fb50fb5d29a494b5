/-
  OctetPuts' walk: it returns true. No condition.
-/
import Derived.Test.YtgfhhnmhpncnlaaQ
import Derived.Test.YtgfhhnmhpncnlaaH
import Derived.Deep.CutBlock
namespace Go.Proofs.Ytgfhhnmhpncnlaa
open Go.ChangeShapes Go.WideShapes Go.ChangeAt Go.RowKit
set_option linter.unusedVariables false
set_option linter.unusedSimpArgs false

theorem RowsB.out {w : World} {S : Nat → Prop} {x : Value} {ms : List (List Int)} (h : RowsB w S x ms) : RowsB w (fun b => w.heap.size ≤ b) x ms := by
  obtain ⟨vs, hr, hv⟩ := h
  exact ⟨vs, hr.out, fun j u hj => (hv j u hj).out⟩
theorem RowsB.later {w w' : World} {B : Nat} {x : Value} {ms : List (List Int)} (h : RowsB w (fun b => B ≤ b) x ms) (hb : Below B w w') : RowsB w' (fun b => B ≤ b) x ms := by
  obtain ⟨vs, hr, hv⟩ := h
  exact ⟨vs, hr.later hb, fun j u hj => (hv j u hj).later hb⟩
theorem RowsB.mono {w : World} {S S' : Nat → Prop} {x : Value} {ms : List (List Int)} (h : RowsB w S x ms) (hs : ∀ b, S' b → S b) : RowsB w S' x ms := by
  obtain ⟨vs, hr, hv⟩ := h
  exact ⟨vs, hr.mono hs, fun j u hj => (hv j u hj).mono_l rfl hs⟩
theorem Ob.keep {w0 w w' : World} {v u x : Value} {l : List Int} (h : Ob w u l) (hn : Nx w0 v u) (hf : FrV x w w') (hd : ∀ b, v.ownBlock = some b → x.ownBlock = some b → False) (hx : ∀ b, x.ownBlock = some b → b < w0.heap.size) : Ob w' u l :=
  h.fr hf (fun b hb hxb => by
    rcases hn with e | ⟨k, e, hk⟩
    · exact hd b (e ▸ hb) hxb
    · rw [e] at hb; cases hb; have := hx _ hxb; omega)
theorem wanted_go {c : Bool} {t e : Prop} (hc : c = true) (h : t) : if c = true then t else e := by rw [if_pos hc]; exact h
/-- From here on, whatever is written behind. -/
def Ev (C : World → Prop) (W : World) : Prop := ∀ W', Below W.heap.size W W' → C W'
theorem Ev.go {C : World → Prop} {W W' : World} (h : Ev C W) (b : Below W.heap.size W W') : C W' ∧ Ev C W' := ⟨h _ b, fun W2 h2 => h _ (b.trans (h2.mono b.size))⟩
theorem Ev.both {C D : World → Prop} {W W' : World} (h : Ev (fun W => C W ∧ D W) W) (b : Below W.heap.size W W') : C W' ∧ Ev (fun W => C W ∧ D W) W' := ⟨(h.go b).1.1, (h.go b).2⟩
theorem putAll_one {l : List Int} (h : isB l) : putAll 1 l = l := by
  induction l with
  | nil => rfl
  | cons x l ih =>
    have hx := h x (by simp)
    have : putAll 1 (x :: l) = putL x 1 ++ putAll 1 l := by simp [putAll]
    rw [this, ih (fun y hy => h y (by simp [hy]))]
    simp [putL]; omega
/-- What came in, as it is read later. -/
structure InP (w : World) (B D : Nat) (v0 v1 v2 v3 v4 : Value) (l0 l1 l2 l3 : List Int) (ms : List (List Int)) (W : World) : Prop where
  bel : Below B w W
  r0 : Bs W (fun b => D ≤ b) v0 l0
  r1 : Bs W (fun b => D ≤ b) v1 l1
  r2 : Row W (fun b => D ≤ b) 1 v2 l2.length (nums .u16 l2)
  r3 : Row W (fun b => D ≤ b) 1 v3 l3.length (nums .u32 l3)
  r4 : RowsB W (fun b => D ≤ b) v4 ms
  big : D ≤ W.heap.size
theorem InP.later {w : World} {B D : Nat} {v0 v1 v2 v3 v4 : Value} {l0 l1 l2 l3 : List Int} {ms : List (List Int)} {W W' : World} (h : InP w B D v0 v1 v2 v3 v4 l0 l1 l2 l3 ms W) (hb : Below D W W') (hD : B ≤ D) : InP w B D v0 v1 v2 v3 v4 l0 l1 l2 l3 ms W' :=
  ⟨h.bel.trans (hb.mono hD), h.r0.later hb, h.r1.later hb, h.r2.later hb, h.r3.later hb, h.r4.later hb, Nat.le_trans h.big hb.size⟩
theorem open_T59 {H : Type} {enc : TypeId × Value → H} {W : World} {v : Value} (h : Reads enc Try.prog W 59 [v]) : ∃ ms : List (List Int), RowsB W (fun _ => False) v ms ∧ ∀ m ∈ ms, m.length ≤ 140737488351232 := by
  obtain ⟨v', els, hv, hl, hr, -, he⟩ := h.slice Try.underlying59 (sz := 1) (B := 24) (by kernel_rfl) (by decide) (by kernel_rfl)
  obtain rfl : v' = v := by injection hv with h _; exact h.symm
  have hone : ∀ c ∈ els, ∃ l : List Int, ∃ u, c = [u] ∧ Bs W (fun _ => False) u l ∧ l.length ≤ 140737488351232 := by
    intro c hc
    obtain ⟨u, es, rfl, hl2, hr2, hb2, he2⟩ := (he c hc).slice Try.underlying22 (sz := 1) (B := 1) (by kernel_rfl) (by decide) (by kernel_rfl)
    obtain ⟨l, hes⟩ := exists_map (fun x => [Value.int .u8 x]) es (fun c hc => by
      obtain ⟨a, ha, hw⟩ := (he2 c hc).int Try.underlying5
      exact ⟨a, ha⟩)
    subst hes
    have hwf : ∀ x ∈ l, (Lit.int .u8 x).wf = true := by
      intro x hx
      obtain ⟨a, ha, hw⟩ := (he2 [.int .u8 x] (List.mem_map.2 ⟨x, hx, rfl⟩)).int Try.underlying5
      cases ha
      exact hw
    have e1 : (l.map fun x => [Value.int .u8 x]).flatten = nums .u8 l := by
      clear hr2 hb2 he2 hwf hl2
      induction l with
      | nil => rfl
      | cons x l ih => simp [nums] at ih ⊢; exact ih
    rw [e1, List.length_map] at hr2
    rw [List.length_map] at hb2
    exact ⟨l, u, rfl, bs_of_row hr2 hwf, by omega⟩
  have hall : ∃ ms : List (List Int), ms.length = els.length ∧ (∀ m ∈ ms, m.length ≤ 140737488351232) ∧ ∀ j u, els.flatten[j]? = some u → Bs W (fun _ => False) u (ms.getD j []) := by
    clear hr hl he hv h
    induction els with
    | nil => exact ⟨[], rfl, (fun m h => by cases h), fun j u h => by simp at h⟩
    | cons c els ih =>
      obtain ⟨l, u, rfl, hb, hn⟩ := hone c (by simp)
      obtain ⟨ms, e1, e2, e3⟩ := ih (fun c hc => hone c (by simp [hc]))
      refine ⟨l :: ms, by simp [e1], ?_, ?_⟩
      · intro m hm
        rcases List.mem_cons.1 hm with rfl | hm
        · exact hn
        · exact e2 m hm
      · intro j u' hj
        cases j with
        | zero => simp at hj; subst hj; exact hb
        | succ j => simp at hj; simpa using e3 j u' (by simpa using hj)
  obtain ⟨ms, e1, e2, e3⟩ := hall
  exact ⟨ms, ⟨_, by rw [e1]; exact hr, e3⟩, e2⟩
end Go.Proofs.Ytgfhhnmhpncnlaa
