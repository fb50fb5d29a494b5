/-
  Addresses, prefixes, pairs: when two are the same. Condition: each number is of its kind.
-/
import Derived.Test.YtnljjlaececnkaaGreatDoorP
import Derived.DeepKeys
namespace Go.Proofs.YtnljjlaececnkaaGreatDoor
open Go.RowKit
set_option linter.unusedVariables false
set_option linter.unusedSimpArgs false

theorem mapM_some {α β : Type} {f : α → Option β} {g : α → β} : ∀ (l : List α), (∀ i ∈ l, f i = some (g i)) → l.mapM f = some (l.map g)
  | [], _ => rfl
  | i :: l, h => by
    rw [List.mapM_cons, h i (by simp), mapM_some l (fun j hj => h j (by simp [hj]))]; rfl
theorem flatten_one {α β : Type} (g : α → β) (l : List α) : (l.map fun i => [g i]).flatten = l.map g := by induction l <;> simp_all
theorem range_getD (a : List Int) : (List.range a.length).map (fun i => a.getD i 0) = a := by
  apply List.ext_getElem
  · simp
  · intro i h1 h2; simp [List.getElem?_eq_getElem h2]
theorem kl_two {P : Program} {d : Nat} {t : TypeId} {f g : Field} {cs : List Value} {la lb : List Lit} (hu : P.underlying t = some (.struct #[f, g])) (hl : cs.length = P.cellsOf t) (hn : #[f, g].all (·.name != "_") = true)
    (h1 : P.keyLits d f.type ((cs.drop f.offset).take (P.cellsOf f.type)) = some la) (h2 : P.keyLits d g.type ((cs.drop g.offset).take (P.cellsOf g.type)) = some lb) : P.keyLits (d + 1) t cs = some (la ++ lb) := by
  unfold Program.keyLits
  simp only [hu]
  rw [if_pos ⟨hl, hn⟩]
  simp [List.mapM_cons, h1, h2]
theorem c42 : Tryz.prog.cellsOf 42 = 16 := by kernel_rfl
theorem c5 : Tryz.prog.cellsOf 5 = 1 := by kernel_rfl
theorem c3 : Tryz.prog.cellsOf 3 = 1 := by kernel_rfl
theorem c55 : Tryz.prog.cellsOf 55 = 17 := by kernel_rfl
theorem c57 : Tryz.prog.cellsOf 57 = 34 := by kernel_rfl
theorem wf_u8 {x : Int} (h : 0 ≤ x ∧ x < 256) : (Lit.int .u8 x).wf = true := by
  have e1 : IntKind.u8.min = 0 := rfl
  have e2 : IntKind.u8.max = 255 := rfl
  simp [Lit.wf, e1, e2]; omega
theorem wf_i64 {x : Int} (h : -9223372036854775808 ≤ x ∧ x ≤ 9223372036854775807) : (Lit.int .i64 x).wf = true := by
  have e1 : IntKind.i64.min = -9223372036854775808 := rfl
  have e2 : IntKind.i64.max = 9223372036854775807 := rfl
  simp [Lit.wf, e1, e2]; omega
theorem i64_of_wf {x : Int} (h : (Lit.int .i64 x).wf = true) : -9223372036854775808 ≤ x ∧ x ≤ 9223372036854775807 := by
  have e1 : IntKind.i64.min = -9223372036854775808 := rfl
  have e2 : IntKind.i64.max = 9223372036854775807 := rfl
  simp [Lit.wf, e1, e2] at h; omega
theorem klI {q : IntKind} {t : TypeId} {x : Int} (hu : Tryz.prog.underlying t = some (.int q)) (h : (Lit.int q x).wf = true) (d : Nat) : Tryz.prog.keyLits (d + 1) t [.int q x] = some [.int q x] := by
  unfold Program.keyLits
  simp [hu, h]
theorem klA {a : List Int} (ha : isA a) (d : Nat) : Tryz.prog.keyLits (d + 1 + 1) 42 (nums .u8 a) = some (a.map (Lit.int .u8)) := by
  unfold Program.keyLits
  simp only [Tryz.underlying42]
  rw [if_pos (by rw [nums_length, ha.1, c42])]
  rw [mapM_some (g := fun i => [Lit.int .u8 (a.getD i 0)]) _ (fun i hi => ?_)]
  · have e : (List.range 16).map (fun i => Lit.int .u8 (a.getD i 0)) = a.map (Lit.int .u8) := by
      rw [← ha.1]
      conv => rhs; rw [← range_getD a]
      rw [List.map_map]; rfl
    rw [Option.map_some, flatten_one (fun i => Lit.int .u8 (a.getD i 0)), e]
  · have hi' : i < a.length := by rw [ha.1]; exact List.mem_range.1 hi
    obtain ⟨x, hx⟩ := get_some hi'
    have e : ((nums .u8 a).drop (i * Tryz.prog.cellsOf 5)).take (Tryz.prog.cellsOf 5) = [.int .u8 x] := by
      rw [c5, Nat.mul_one]
      have h1 := nums_get (k := .u8) hx
      obtain ⟨h2, h3⟩ := List.getElem?_eq_some_iff.1 h1
      rw [List.drop_eq_getElem_cons h2, h3]; rfl
    rw [e, klI Tryz.underlying5 (wf_u8 (ha.2 x (List.mem_of_getElem? hx)))]
    simp [hx]
/-- A prefix's cells. -/
def pCs (a : List Int) (n : Int) : List Value := nums .u8 a ++ [.int .i64 n]
theorem pCs_len {a : List Int} (ha : isA a) (n : Int) : (pCs a n).length = 17 := by simp [pCs, nums_length, ha.1]
theorem klP {a : List Int} {n : Int} (ha : isA a) (hn : (Lit.int .i64 n).wf = true) (d : Nat) : Tryz.prog.keyLits (d + 1 + 1 + 1) 55 (pCs a n) = some (a.map (Lit.int .u8) ++ [.int .i64 n]) := by
  have hl : (nums .u8 a).length = 16 := by rw [nums_length, ha.1]
  refine kl_two Tryz.underlying55 (by rw [pCs_len ha, c55]) (by kernel_rfl) ?_ ?_
  · show Tryz.prog.keyLits (d + 1 + 1) 42 (((pCs a n).drop 0).take (Tryz.prog.cellsOf 42)) = _
    rw [c42, List.drop_zero, pCs, List.take_left' hl]
    exact klA ha d
  · show Tryz.prog.keyLits (d + 1 + 1) 3 (((pCs a n).drop 16).take (Tryz.prog.cellsOf 3)) = _
    rw [c3, pCs, List.drop_left' hl]
    exact klI Tryz.underlying3 hn _
/-- A pair's value. -/
def vPP (p : Pr) : Value := .agg (pCs p.d.a p.d.n ++ pCs p.s.a p.s.n).toArray
def Pf.lits (p : Pf) : List Lit := p.a.map (Lit.int .u8) ++ [.int .i64 p.n]
def Pf.ok (p : Pf) : Prop := isA p.a ∧ (Lit.int .i64 p.n).wf = true
def Pr.fit (p : Pr) : Prop := p.d.ok ∧ p.s.ok
def vPf (p : Pf) : Value := .agg (pCs p.a p.n).toArray
theorem klPP {p : Pr} (hp : p.fit) (d : Nat) : Tryz.prog.keyLits (d + 1 + 1 + 1 + 1) 57 (pCs p.d.a p.d.n ++ pCs p.s.a p.s.n) = some (p.d.lits ++ p.s.lits) := by
  have hl := pCs_len hp.1.1 p.d.n
  have hl2 := pCs_len hp.2.1 p.s.n
  refine kl_two Tryz.underlying57 (by rw [List.length_append, hl, hl2, c57]) (by kernel_rfl) ?_ ?_
  · show Tryz.prog.keyLits (d + 1 + 1 + 1) 55 (((pCs p.d.a p.d.n ++ pCs p.s.a p.s.n).drop 0).take (Tryz.prog.cellsOf 55)) = _
    rw [c55, List.drop_zero, List.take_left' hl]
    exact klP hp.1.1 hp.1.2 d
  · show Tryz.prog.keyLits (d + 1 + 1 + 1) 55 (((pCs p.d.a p.d.n ++ pCs p.s.a p.s.n).drop 17).take (Tryz.prog.cellsOf 55)) = _
    rw [c55, List.drop_left' hl, List.take_of_length_le (by omega)]
    exact klP hp.2.1 hp.2.2 d
theorem map_lit_inj {a b : List Int} (h : a.map (Lit.int .u8) = b.map (Lit.int .u8)) : a = b := by
  induction a generalizing b with
  | nil => cases b <;> simp_all
  | cons x a ih => cases b with
    | nil => simp at h
    | cons y b => simp at h; rw [h.1, ih h.2]
theorem Pf.lits_inj {p q : Pf} (hp : p.ok) (hq : q.ok) : p.lits = q.lits ↔ p = q := by
  refine ⟨fun h => ?_, fun h => h ▸ rfl⟩
  obtain ⟨a, n⟩ := p; obtain ⟨b, m⟩ := q
  obtain ⟨h1, h2⟩ := List.append_inj h (by simp [hp.1.1, hq.1.1])
  have h3 := map_lit_inj h1
  simp_all
theorem Pf.lits_len {p : Pf} (hp : p.ok) : p.lits.length = 17 := by simp [Pf.lits, hp.1.1]
theorem Pr.lits_inj {p q : Pr} (hp : p.fit) (hq : q.fit) : p.d.lits ++ p.s.lits = q.d.lits ++ q.s.lits ↔ p = q := by
  refine ⟨fun h => ?_, fun h => h ▸ rfl⟩
  obtain ⟨a, n⟩ := p; obtain ⟨b, m⟩ := q
  obtain ⟨h1, h2⟩ := List.append_inj h (by rw [Pf.lits_len hp.1, Pf.lits_len hq.1])
  have e1 := (Pf.lits_inj hp.1 hq.1).1 h1
  have e2 := (Pf.lits_inj hp.2 hq.2).1 h2
  cases e1; cases e2; rfl
theorem eq_deep {t : TypeId} (m : Nat) (hm : m ≤ 10000) (hk : Tryz.prog.keyTypeAt m t = true) {xs ys : List Value} {la lb : List Lit} {D D' : Nat} (fx : (Value.agg xs.toArray).formed Tryz.prog t = true) (fy : (Value.agg ys.toArray).formed Tryz.prog t = true)
    (hx : Tryz.prog.keyLits D t xs = some la) (hy : Tryz.prog.keyLits D' t ys = some lb) {c : Prop} [Decidable c] (hc : la = lb ↔ c) (w : World) : (Op.equalIn 10000 t (.agg xs.toArray) (.agg ys.toArray)).run Tryz.prog w = .ok (decide c) w := by
  obtain ⟨r, hr, hiff⟩ := run_equalIn_deep (10000 - m) m t hk w D D' _ _ la lb fx fy (by simpa [Value.cells] using hx) (by simpa [Value.cells] using hy)
  rw [show 10000 - m + m = 10000 by omega] at hr
  have e : r = decide c := by rw [Bool.eq_iff_iff, hiff, hc, decide_eq_true_eq]
  rw [hr, e]
theorem form_struct {t : TypeId} {fs : Array Field} {xs : List Value} (hu : Tryz.prog.underlying t = some (.struct fs)) {n : Nat} (hc : Tryz.prog.cellsOf t = n) (hl : xs.length = n) : (Value.agg xs.toArray).formed Tryz.prog t = true := by
  simp [Value.formed, hu, hc, hl]
theorem form_array {t e : TypeId} {k : Nat} {xs : List Value} (hu : Tryz.prog.underlying t = some (.array k e)) {n : Nat} (hc : Tryz.prog.cellsOf t = n) (hl : xs.length = n) : (Value.agg xs.toArray).formed Tryz.prog t = true := by
  simp [Value.formed, hu, hc, hl]
theorem equalIn_A {a b : List Int} (ha : isA a) (hb : isA b) (w : World) : (Op.equalIn 10000 42 (vA a) (vA b)).run Tryz.prog w = .ok (decide (a = b)) w :=
  eq_deep 2 (by decide) (by kernel_rfl) (form_array Tryz.underlying42 c42 (by rw [nums_length, ha.1])) (form_array Tryz.underlying42 c42 (by rw [nums_length, hb.1])) (klA ha 0) (klA hb 0) ⟨map_lit_inj, fun h => h ▸ rfl⟩ w
theorem equalIn_P {p q : Pf} (hp : p.ok) (hq : q.ok) (w : World) : (Op.equalIn 10000 55 (vPf p) (vPf q)).run Tryz.prog w = .ok (decide (p = q)) w :=
  eq_deep 3 (by decide) (by kernel_rfl) (form_struct Tryz.underlying55 c55 (pCs_len hp.1 _)) (form_struct Tryz.underlying55 c55 (pCs_len hq.1 _)) (klP hp.1 hp.2 0) (klP hq.1 hq.2 0) (Pf.lits_inj hp hq) w
theorem equalIn_PP {p q : Pr} (hp : p.fit) (hq : q.fit) (w : World) : (Op.equalIn 10000 57 (vPP p) (vPP q)).run Tryz.prog w = .ok (decide (p = q)) w :=
  eq_deep 4 (by decide) (by kernel_rfl) (form_struct Tryz.underlying57 c57 (by rw [List.length_append, pCs_len hp.1.1, pCs_len hp.2.1])) (form_struct Tryz.underlying57 c57 (by rw [List.length_append, pCs_len hq.1.1, pCs_len hq.2.1])) (klPP hp 0) (klPP hq 0) (Pr.lits_inj hp hq) w
section
variable {a b : List Int} {p q : Pf} {x y : Pr} (w : World)
theorem eql_A (ha : isA a) (hb : isA b) : (binOp .eql 42 (vA a) (vA b)).run Tryz.prog w = .ok (.bool (decide (a = b))) w := by
  have := equalIn_A ha hb w
  unfold vA at *
  rw [run_eql_struct, this]; rfl
theorem neq_A (ha : isA a) (hb : isA b) : (binOp .neq 42 (vA a) (vA b)).run Tryz.prog w = .ok (.bool (!decide (a = b))) w := by
  have := equalIn_A ha hb w
  unfold vA at *
  rw [run_neq_struct, this]; rfl
theorem eql_P (hp : p.ok) (hq : q.ok) : (binOp .eql 55 (vPf p) (vPf q)).run Tryz.prog w = .ok (.bool (decide (p = q))) w := by
  have := equalIn_P hp hq w
  unfold vPf at *
  rw [run_eql_struct, this]; rfl
theorem neq_P (hp : p.ok) (hq : q.ok) : (binOp .neq 55 (vPf p) (vPf q)).run Tryz.prog w = .ok (.bool (!decide (p = q))) w := by
  have := equalIn_P hp hq w
  unfold vPf at *
  rw [run_neq_struct, this]; rfl
theorem eql_PP (hp : x.fit) (hq : y.fit) : (binOp .eql 57 (vPP x) (vPP y)).run Tryz.prog w = .ok (.bool (decide (x = y))) w := by
  have := equalIn_PP hp hq w
  unfold vPP at *
  rw [run_eql_struct, this]; rfl
theorem neq_PP (hp : x.fit) (hq : y.fit) : (binOp .neq 57 (vPP x) (vPP y)).run Tryz.prog w = .ok (.bool (!decide (x = y))) w := by
  have := equalIn_PP hp hq w
  unfold vPP at *
  rw [run_neq_struct, this]; rfl
end
theorem guard42 : Tryz.prog.eqGuardType Tryz.prog.depth 42 = false := by kernel_rfl
theorem guard55 : Tryz.prog.eqGuardType Tryz.prog.depth 55 = false := by kernel_rfl
theorem guard57 : Tryz.prog.eqGuardType Tryz.prog.depth 57 = false := by kernel_rfl
end Go.Proofs.YtnljjlaececnkaaGreatDoor
