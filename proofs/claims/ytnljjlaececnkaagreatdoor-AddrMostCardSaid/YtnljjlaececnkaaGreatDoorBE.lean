/-
  The boxes of a call, the newest first; steps that lay a box, write one, read one. No condition.
-/
import Derived.Test.YtnljjlaececnkaaGreatDoorBC
import Derived.Great.BuildSlice
namespace Go.Proofs.YtnljjlaececnkaaGreatDoor
open Go.RowKit
set_option linter.unusedVariables false
set_option linter.unusedSimpArgs false
/-- What was there has not turned; these boxes lie there, the newest first. -/
structure Bz (w : World) (l : List (Nat × Obj)) (W : World) : Prop where
  bel : Below w.heap.size w W
  all : AllB W l
  ord : l.Pairwise (fun x y => y.1 < x.1)
  low : ∀ x ∈ l, w.heap.size ≤ x.1
namespace Bz
variable {w W W2 : World} {l : List (Nat × Obj)}
theorem start (w : World) : Bz w [] w := ⟨Below.refl _ _, trivial, List.Pairwise.nil, fun x h => by cases h⟩
theorem go (h : Bz w l W) (hb : Below W.heap.size W W2) : Bz w l W2 := ⟨h.bel.trans (hb.mono h.bel.size), AllB.go hb h.all, h.ord, h.low⟩
theorem alloc (h : Bz w l W) (o : Obj) {g : Nat} (hg : W.heap.size = g) : Bz w ((g, o) :: l) (W.alloc o) := by
  subst hg
  exact ⟨h.bel.alloc h.bel.size o, ⟨box1 W o, h.all.alloc o⟩, List.pairwise_cons.2 ⟨fun x hx => AllB.lt h.all x hx, h.ord⟩, fun x hx => by
    rcases List.mem_cons.1 hx with rfl | hx
    · exact h.bel.size
    · exact h.low x hx⟩
theorem drew (h : Bz w l W) : Bz w l W.drew := ⟨bel_drew h.bel, AllB.same (w := W) (w2 := W.drew) rfl h.all, h.ord, h.low⟩
theorem tail {x : Nat × Obj} (h : Bz w (x :: l) W) : Bz w l W := ⟨h.bel, h.all.2, (List.pairwise_cons.1 h.ord).2, fun y hy => h.low y (by simp [hy])⟩
end Bz
theorem AllB.get {W : World} : ∀ {l : List (Nat × Obj)}, AllB W l → ∀ (k : Nat) {x : Nat × Obj}, l[k]? = some x → W.heap[x.1]? = some x.2
  | [], _, k, x, h => by simp at h
  | y :: l, ⟨h, r⟩, 0, x, hx => by simp at hx; subst hx; exact h
  | y :: l, ⟨h, r⟩, k + 1, x, hx => AllB.get r k (by simpa using hx)
theorem AllB.of_get {W : World} : ∀ {l : List (Nat × Obj)}, (∀ (k : Nat) (x : Nat × Obj), l[k]? = some x → W.heap[x.1]? = some x.2) → AllB W l
  | [], _ => trivial
  | y :: l, h => ⟨h 0 y rfl, AllB.of_get fun k x hx => h (k + 1) x (by simpa using hx)⟩
/-- A box is written anew. -/
theorem Bz.set {w W : World} {l : List (Nat × Obj)} (h : Bz w l W) (k : Nat) {g : Nat} {old : Array Value} {t : TypeId} (hk : l[k]? = some (g, .cells old t (0, 0))) (cs : Array Value) : Bz w (l.set k (g, .cells cs t (0, 0))) (W.setRow g cs) := by
  obtain ⟨hlt, he⟩ := List.getElem?_eq_some_iff.1 hk
  have hkeys : (l.set k (g, .cells cs t (0, 0))).map (·.1) = l.map (·.1) := by
    rw [List.map_set]
    apply List.ext_getElem?
    intro j
    rw [List.getElem?_set]
    split
    · rename_i hj
      subst hj
      rw [if_pos (by simpa using hlt), List.getElem?_map, hk]; rfl
    · rfl
  have hmem : (g, .cells old t (0, 0)) ∈ l := List.mem_of_getElem? hk
  refine ⟨below_row h.bel (h.low _ hmem) cs, AllB.of_get fun j x hx => ?_, ?_, fun x hx => ?_⟩
  · by_cases hj : k = j
    · subst hj
      rw [List.getElem?_set_self hlt] at hx
      cases hx
      exact setRow_heap _ _ _ _ _ _ (h.all.get k hk)
    · rw [List.getElem?_set_ne hj] at hx
      have hne : x.1 ≠ g := by
        obtain ⟨hjl, hje⟩ := List.getElem?_eq_some_iff.1 hx
        have hp := List.pairwise_iff_getElem.1 h.ord
        rcases Nat.lt_or_gt_of_ne hj with hj2 | hj2
        · have := hp k j hlt hjl hj2; rw [he, hje] at this; simp only at this; omega
        · have := hp j k hjl hlt hj2; rw [he, hje] at this; simp only at this; omega
      rw [setRow_other _ _ _ _ hne]
      exact h.all.get j hx
  · have : ((l.set k (g, Obj.cells cs t (0, 0))).map (·.1)).Pairwise (fun x y => y < x) := by
      rw [hkeys]; exact List.pairwise_map.2 h.ord
    exact List.pairwise_map.1 this
  · have hx2 : x.1 ∈ (l.set k (g, Obj.cells cs t (0, 0))).map (·.1) := List.mem_map.2 ⟨x, hx, rfl⟩
    rw [hkeys] at hx2
    obtain ⟨y, hy, e⟩ := List.mem_map.1 hx2
    rw [← e]; exact h.low y hy
theorem Bz.env {w W : World} {l : List (Nat × Obj)} (h : Bz w l W) (E : Env w) : Env W := (E.go h.bel).2
/-! ### what lies in a box, read -/
theorem loadVar_int {P : Program} {w : World} {ty : TypeId} {k : IntKind} {v : Value} {ad : Addr} (hu : P.underlying ty = some (.int k)) (h : w.cell? ad = some v) : (loadVar ty ad).run P w = .ok v w := by
  simp [loadVar, isAgg, run_underlying hu, h]
theorem loadVar_str {P : Program} {w : World} {ty : TypeId} {v : Value} {ad : Addr} (hu : P.underlying ty = some .string) (h : w.cell? ad = some v) : (loadVar ty ad).run P w = .ok v w := by
  simp [loadVar, isAgg, run_underlying hu, h]
section
variable {W : World} {g : Nat}
theorem ldA {a : List Int} (h : W.heap[g]? = some (oA a)) (ha : isA a) : (loadVar 42 ⟨g, 0, none⟩).run Tryz.prog W = .ok (vA a) W := BoxA.run h ha
theorem ldP {p : Pf} (h : W.heap[g]? = some (oP p)) (hp : p.ok) : (loadVar 55 ⟨g, 0, none⟩).run Tryz.prog W = .ok (vPf p) W := (BoxP.run h hp.1).2.2
theorem ldPa {p : Pf} (h : W.heap[g]? = some (oP p)) (hp : p.ok) : (loadVar 42 ⟨g, 0, none⟩).run Tryz.prog W = .ok (vA p.a) W := (BoxP.run h hp.1).1
theorem ldPn {p : Pf} (h : W.heap[g]? = some (oP p)) (hp : p.ok) : (loadVar 3 ⟨g, 16, none⟩).run Tryz.prog W = .ok (.int .i64 p.n) W := loadVar_int Tryz.underlying3 (BoxP.run h hp.1).2.1
theorem ldPP {p : Pr} (h : W.heap[g]? = some (oPP p)) (hp : p.fit) : (loadVar 57 ⟨g, 0, none⟩).run Tryz.prog W = .ok (vPP p) W := (BoxPP.run h hp).2.2
theorem ldPPd {p : Pr} (h : W.heap[g]? = some (oPP p)) (hp : p.fit) : (loadVar 55 ⟨g, 0, none⟩).run Tryz.prog W = .ok (vPf p.d) W := (BoxPP.run h hp).1
theorem ldPPs {p : Pr} (h : W.heap[g]? = some (oPP p)) (hp : p.fit) : (loadVar 55 ⟨g, 17, none⟩).run Tryz.prog W = .ok (vPf p.s) W := (BoxPP.run h hp).2.1
theorem ldPPdn {p : Pr} (h : W.heap[g]? = some (oPP p)) (hp : p.fit) : (loadVar 3 ⟨g, 16, none⟩).run Tryz.prog W = .ok (.int .i64 p.d.n) W := loadVar_int Tryz.underlying3 (BoxPP.lens h hp).1
theorem ldPPsn {p : Pr} (h : W.heap[g]? = some (oPP p)) (hp : p.fit) : (loadVar 3 ⟨g, 33, none⟩).run Tryz.prog W = .ok (.int .i64 p.s.n) W := loadVar_int Tryz.underlying3 (BoxPP.lens h hp).2
theorem ldPPda {p : Pr} (h : W.heap[g]? = some (oPP p)) (hp : p.fit) : (loadVar 42 ⟨g, 0, none⟩).run Tryz.prog W = .ok (vA p.d.a) W := by
  have hr := row_load h
  exact run_loadVar_mid W g 0 42 (nums .u8 p.d.a) _ (fun j v hj => hr j v (pp_at1 (pCs_at hj))) Tryz.underlying42 rfl (by rw [nums_length, hp.1.1.1]; exact size42)
end
/-! ### a box laid -/
theorem exec_alloc {P : Program} {o : Oper} {a : Act} {w : World} {t : TypeId} {z : Value} (ho : o.op = .alloc t) (hz : (P.info? t).bind (·.zero) = some z) :
    (execOp a.eval o).run P w = .ok (.value (.pointer (some ⟨w.heap.size, 0, none⟩))) (w.alloc (.cells z.cells t)) := by
  cases hi : P.info? t with
  | none => rw [hi] at hz; cases hz
  | some i =>
    rw [hi] at hz
    simp only [Option.bind_some] at hz
    unfold execOp
    simp [ho, Instr.alloc, zeroValue, typeInfo, hi, hz, newVar, newRow, Result.andThen]
theorem z42 : (Tryz.prog.info? 42).bind (·.zero) = some (vA zeroA) := by kernel_rfl
theorem z55 : (Tryz.prog.info? 55).bind (·.zero) = some (vPf zeroP) := by kernel_rfl
theorem z57 : (Tryz.prog.info? 57).bind (·.zero) = some (vPP zeroPr) := by kernel_rfl
section
variable {P : Program} {ops : Array Oper} {rest : List Oper} {o1 o2 : Oper} {a : Act} {w : World} {Q : Exit → Act → World → Prop}
/-- A variable that is made and laid at once. -/
theorem wpList_new {t : TypeId} {d : Tmp} {y : Operand} {z : Value} {cells : Array Value} (hg1 : o1.guard = none) (hg2 : o2.guard = none) (h1 : o1.op = .alloc t) (hd : o1.dst = some d) (hz : (P.info? t).bind (·.zero) = some z) (h2 : o2.op = .store t (.tmp d) y)
    (hx : (a.put (some d) (.pointer (some ⟨w.heap.size, 0, none⟩))).eval (.tmp d) = .pointer (some ⟨w.heap.size, 0, none⟩)) (hy : (a.put (some d) (.pointer (some ⟨w.heap.size, 0, none⟩))).eval y = .agg cells)
    (hi : (P.info? t).map (·.size) = some cells.size) (hs : z.cells.size = cells.size) (hone : cells.all (·.oneCell') = true)
    (h : wpList P ops Q rest ((a.put (some d) (.pointer (some ⟨w.heap.size, 0, none⟩))).put o2.dst undef) (w.alloc (.cells cells t))) : wpList P ops Q (o1 :: o2 :: rest) a w := by
  refine wpList_run hg1 (exec_alloc h1 hz) ?_
  rw [hd]
  exact wpList_store_new hg2 t (.tmp d) y h2 hx hy hi hs hone h
theorem wpList_alloc {t : TypeId} {d : Option Tmp} {z : Value} (hg1 : o1.guard = none) (h1 : o1.op = .alloc t) (hd : o1.dst = d) (hz : (P.info? t).bind (·.zero) = some z)
    (h : wpList P ops Q rest (a.put d (.pointer (some ⟨w.heap.size, 0, none⟩))) (w.alloc (.cells z.cells t))) : wpList P ops Q (o1 :: rest) a w := by
  subst hd
  exact wpList_run hg1 (exec_alloc h1 hz) h
end
theorem sizeA' {a : List Int} (ha : isA a) : (vA zeroA).cells.size = (nums .u8 a).toArray.size := by rw [sizeA ha]; rfl
theorem sizeP' {p : Pf} (ha : p.ok) : (vPf zeroP).cells.size = (pCs p.a p.n).toArray.size := by rw [pCs_size ha.1]; rfl
theorem sizePP' {p : Pr} (h : p.fit) : (vPP zeroPr).cells.size = (pCs p.d.a p.d.n ++ pCs p.s.a p.s.n).toArray.size := by rw [pp_size h]; rfl
theorem fst_num {w : World} (n : Int) : Calls Tryz.prog 31 #[.int .i64 n] w fun e w' => e = .returned (.int .i64 n) ∧ Below w.heap.size w w' := num_lit n
/-! ### a slice of two pairs -/
theorem info57z : (Tryz.prog.info? 57).map (fun i => (i.zero, i.size)) = some (some (vPP zeroPr), 34) := by kernel_rfl
def fill2 (vx vy : Value) (cells : Array Value) : Prop := Instr.fill (fun i => some (i * 34, 34)) ((Array.range (2 * 34)).map ((vPP zeroPr).cells[· % (vPP zeroPr).cells.size]!)) [(0, vx), (1, vy)] = some cells
theorem fill_V : fill2 (.agg (ppCs pP).toArray) (.agg (ppCs qP).toArray) (prs [pP, qP]).toArray := by unfold fill2; kernel_rfl
theorem wpList_slice2 {ops : Array Oper} {rest : List Oper} {o : Oper} {a : Act} {w : World} {Q : Exit → Act → World → Prop} (hg : o.guard = none) (x y : Operand) (ho : o.op = .buildSlice 50 2 #[(0, x), (1, y)]) {vx vy : Value} (hx : a.eval x = vx) (hy : a.eval y = vy) {cells : Array Value} (hf : fill2 vx vy cells)
    {d : Option Tmp} (hd : o.dst = d) (h : wpList Tryz.prog ops Q rest (a.put d (.slice (some ⟨w.heap.size, 0, none⟩) 2 2)) (w.alloc (.cells cells 57))) : wpList Tryz.prog ops Q (o :: rest) a w := by
  subst hd
  unfold fill2 at hf
  have hi := info57z
  cases hie : Tryz.prog.info? 57 with
  | none => rw [hie] at hi; cases hi
  | some ie =>
    rw [hie] at hi
    simp only [Option.map_some, Option.some.injEq, Prod.mk.injEq] at hi
    refine wpList_buildSlice hg 50 57 2 _ ho cells ie (vPP zeroPr) Tryz.underlying50 hie hi.1 (by rw [hi.2]; decide) (by rw [hi.2]; decide) ?_ h
    rw [hi.2]
    simp only [List.map_toArray, List.map_cons, List.map_nil, hx, hy]
    exact hf
theorem Row.new {W : World} {vs : List Value} {ty : TypeId} {sz n : Nat} (hl : vs.length = n * sz) (hm : n ≤ 1000) : Row (W.alloc (.cells vs.toArray ty)) (fun b => (W.alloc (.cells vs.toArray ty)).heap.size ≤ b) sz (.slice (some ⟨W.heap.size, 0, none⟩) n n) n vs := by
  refine ⟨hl, _, _, rfl, Nat.le_refl _, by unfold maxLen; omega, (fun h => by cases h), fun a ha _ => ?_⟩
  obtain rfl : (⟨W.heap.size, 0, none⟩ : Addr) = a := by injection ha
  refine ⟨_, _, rfl, by simp, by simp, fun j u hj => ?_⟩
  have := new_cells W vs ty _ rfl j u hj
  rwa [Addr.add_lit] at this
theorem Row.box {W : World} {g : Nat} {vs : List Value} {ty : TypeId} {sz n : Nat} (h : W.heap[g]? = some (.cells vs.toArray ty (0, 0))) (hl : vs.length = n * sz) (hm : n ≤ 1000) : Row W (fun b => W.heap.size ≤ b) sz (.slice (some ⟨g, 0, none⟩) n n) n vs := by
  refine ⟨hl, _, _, rfl, Nat.le_refl _, by unfold maxLen; omega, (fun h => by cases h), fun a ha _ => ?_⟩
  obtain rfl : (⟨g, 0, none⟩ : Addr) = a := by injection ha
  have hlt := lt_of_obj h
  exact ⟨_, _, rfl, by omega, hlt, fun j u hj => row_load h j u hj⟩
theorem wpList_stop {P : Program} {ops : Array Oper} {Q : Exit → Act → World → Prop} {l : List Oper} {a : Act} {w : World} (n : Nat) (hn : l.length = n) (h : wpList P ops Q l a w) : wpList P ops Q l a w := h
end Go.Proofs.YtnljjlaececnkaaGreatDoor
