/-
  Merged texts (BE, BD, CB, CA, CC, CD, HA, HB, HC, CM), part 6 of 8. Conditions: each part's own, told at its head.
-/
import Derived.Test.YtnljjlaececnkaaGreatDoorBPf1
import Derived.Test.YtnljjlaececnkaaGreatDoorBPf2
import Derived.Test.YtnljjlaececnkaaGreatDoorBPf3
import Derived.Test.YtnljjlaececnkaaGreatDoorBPf4
import Derived.Test.YtnljjlaececnkaaGreatDoorBPf5
import Derived.Great.BuildSlice
import Derived.Lib.ItoaLen
/-
  The boxes of a call, the newest first; steps that lay a box, write one, read one. No condition.
-/
namespace Go.Proofs.YtnljjlaececnkaaGreatDoor
open Go.RowKit
set_option linter.unusedVariables false
set_option linter.unusedSimpArgs false
/-- What was there has not turned; these boxes lie there, the newest first. -/
structure Bz (w : World) (l : List (Nat × Obj)) (W : World) : Prop where
  bel : Below w.heap.size w W
  all : AllB W l
  ord : l.Pairwise (fun x y => y.1 < x.1)
  low : ∀ x ∈ l, w.heap.size ≤ x.1
namespace Bz
variable {w W W2 : World} {l : List (Nat × Obj)}
theorem start (w : World) : Bz w [] w := ⟨Below.refl _ _, trivial, List.Pairwise.nil, fun x h => by cases h⟩
theorem go (h : Bz w l W) (hb : Below W.heap.size W W2) : Bz w l W2 := ⟨h.bel.trans (hb.mono h.bel.size), AllB.go hb h.all, h.ord, h.low⟩
theorem alloc (h : Bz w l W) (o : Obj) {g : Nat} (hg : W.heap.size = g) : Bz w ((g, o) :: l) (W.alloc o) := by
  subst hg
  exact ⟨h.bel.alloc h.bel.size o, ⟨box1 W o, h.all.alloc o⟩, List.pairwise_cons.2 ⟨fun x hx => AllB.lt h.all x hx, h.ord⟩, fun x hx => by
    rcases List.mem_cons.1 hx with rfl | hx
    · exact h.bel.size
    · exact h.low x hx⟩
theorem drew (h : Bz w l W) : Bz w l W.drew := ⟨bel_drew h.bel, AllB.same (w := W) (w2 := W.drew) rfl h.all, h.ord, h.low⟩
theorem tail {x : Nat × Obj} (h : Bz w (x :: l) W) : Bz w l W := ⟨h.bel, h.all.2, (List.pairwise_cons.1 h.ord).2, fun y hy => h.low y (by simp [hy])⟩
end Bz
theorem AllB.get {W : World} : ∀ {l : List (Nat × Obj)}, AllB W l → ∀ (k : Nat) {x : Nat × Obj}, l[k]? = some x → W.heap[x.1]? = some x.2
  | [], _, k, x, h => by simp at h
  | y :: l, ⟨h, r⟩, 0, x, hx => by simp at hx; subst hx; exact h
  | y :: l, ⟨h, r⟩, k + 1, x, hx => AllB.get r k (by simpa using hx)
theorem AllB.of_get {W : World} : ∀ {l : List (Nat × Obj)}, (∀ (k : Nat) (x : Nat × Obj), l[k]? = some x → W.heap[x.1]? = some x.2) → AllB W l
  | [], _ => trivial
  | y :: l, h => ⟨h 0 y rfl, AllB.of_get fun k x hx => h (k + 1) x (by simpa using hx)⟩
/-- A box is written anew. -/
theorem Bz.set {w W : World} {l : List (Nat × Obj)} (h : Bz w l W) (k : Nat) {g : Nat} {old : Array Value} {t : TypeId} (hk : l[k]? = some (g, .cells old t (0, 0))) (cs : Array Value) : Bz w (l.set k (g, .cells cs t (0, 0))) (W.setRow g cs) := by
  obtain ⟨hlt, he⟩ := List.getElem?_eq_some_iff.1 hk
  have hkeys : (l.set k (g, .cells cs t (0, 0))).map (·.1) = l.map (·.1) := by
    rw [List.map_set]
    apply List.ext_getElem?
    intro j
    rw [List.getElem?_set]
    split
    · rename_i hj
      subst hj
      rw [if_pos (by simpa using hlt), List.getElem?_map, hk]; rfl
    · rfl
  have hmem : (g, .cells old t (0, 0)) ∈ l := List.mem_of_getElem? hk
  refine ⟨below_row h.bel (h.low _ hmem) cs, AllB.of_get fun j x hx => ?_, ?_, fun x hx => ?_⟩
  · by_cases hj : k = j
    · subst hj
      rw [List.getElem?_set_self hlt] at hx
      cases hx
      exact setRow_heap _ _ _ _ _ _ (h.all.get k hk)
    · rw [List.getElem?_set_ne hj] at hx
      have hne : x.1 ≠ g := by
        obtain ⟨hjl, hje⟩ := List.getElem?_eq_some_iff.1 hx
        have hp := List.pairwise_iff_getElem.1 h.ord
        rcases Nat.lt_or_gt_of_ne hj with hj2 | hj2
        · have := hp k j hlt hjl hj2; rw [he, hje] at this; simp only at this; omega
        · have := hp j k hjl hlt hj2; rw [he, hje] at this; simp only at this; omega
      rw [setRow_other _ _ _ _ hne]
      exact h.all.get j hx
  · have : ((l.set k (g, Obj.cells cs t (0, 0))).map (·.1)).Pairwise (fun x y => y < x) := by
      rw [hkeys]; exact List.pairwise_map.2 h.ord
    exact List.pairwise_map.1 this
  · have hx2 : x.1 ∈ (l.set k (g, Obj.cells cs t (0, 0))).map (·.1) := List.mem_map.2 ⟨x, hx, rfl⟩
    rw [hkeys] at hx2
    obtain ⟨y, hy, e⟩ := List.mem_map.1 hx2
    rw [← e]; exact h.low y hy
theorem Bz.env {w W : World} {l : List (Nat × Obj)} (h : Bz w l W) (E : Env w) : Env W := (E.go h.bel).2
/-! ### what lies in a box, read -/
theorem loadVar_int {P : Program} {w : World} {ty : TypeId} {k : IntKind} {v : Value} {ad : Addr} (hu : P.underlying ty = some (.int k)) (h : w.cell? ad = some v) : (loadVar ty ad).run P w = .ok v w := by
  simp [loadVar, isAgg, run_underlying hu, h]
theorem loadVar_str {P : Program} {w : World} {ty : TypeId} {v : Value} {ad : Addr} (hu : P.underlying ty = some .string) (h : w.cell? ad = some v) : (loadVar ty ad).run P w = .ok v w := by
  simp [loadVar, isAgg, run_underlying hu, h]
section
variable {W : World} {g : Nat}
theorem ldA {a : List Int} (h : W.heap[g]? = some (oA a)) (ha : isA a) : (loadVar 42 ⟨g, 0, none⟩).run Tryz.prog W = .ok (vA a) W := BoxA.run h ha
theorem ldP {p : Pf} (h : W.heap[g]? = some (oP p)) (hp : p.ok) : (loadVar 55 ⟨g, 0, none⟩).run Tryz.prog W = .ok (vPf p) W := (BoxP.run h hp.1).2.2
theorem ldPa {p : Pf} (h : W.heap[g]? = some (oP p)) (hp : p.ok) : (loadVar 42 ⟨g, 0, none⟩).run Tryz.prog W = .ok (vA p.a) W := (BoxP.run h hp.1).1
theorem ldPn {p : Pf} (h : W.heap[g]? = some (oP p)) (hp : p.ok) : (loadVar 3 ⟨g, 16, none⟩).run Tryz.prog W = .ok (.int .i64 p.n) W := loadVar_int Tryz.underlying3 (BoxP.run h hp.1).2.1
theorem ldPP {p : Pr} (h : W.heap[g]? = some (oPP p)) (hp : p.fit) : (loadVar 57 ⟨g, 0, none⟩).run Tryz.prog W = .ok (vPP p) W := (BoxPP.run h hp).2.2
theorem ldPPd {p : Pr} (h : W.heap[g]? = some (oPP p)) (hp : p.fit) : (loadVar 55 ⟨g, 0, none⟩).run Tryz.prog W = .ok (vPf p.d) W := (BoxPP.run h hp).1
theorem ldPPs {p : Pr} (h : W.heap[g]? = some (oPP p)) (hp : p.fit) : (loadVar 55 ⟨g, 17, none⟩).run Tryz.prog W = .ok (vPf p.s) W := (BoxPP.run h hp).2.1
theorem ldPPdn {p : Pr} (h : W.heap[g]? = some (oPP p)) (hp : p.fit) : (loadVar 3 ⟨g, 16, none⟩).run Tryz.prog W = .ok (.int .i64 p.d.n) W := loadVar_int Tryz.underlying3 (BoxPP.lens h hp).1
theorem ldPPsn {p : Pr} (h : W.heap[g]? = some (oPP p)) (hp : p.fit) : (loadVar 3 ⟨g, 33, none⟩).run Tryz.prog W = .ok (.int .i64 p.s.n) W := loadVar_int Tryz.underlying3 (BoxPP.lens h hp).2
theorem ldPPda {p : Pr} (h : W.heap[g]? = some (oPP p)) (hp : p.fit) : (loadVar 42 ⟨g, 0, none⟩).run Tryz.prog W = .ok (vA p.d.a) W := by
  have hr := row_load h
  exact run_loadVar_mid W g 0 42 (nums .u8 p.d.a) _ (fun j v hj => hr j v (pp_at1 (pCs_at hj))) Tryz.underlying42 rfl (by rw [nums_length, hp.1.1.1]; exact size42)
end
/-! ### a box laid -/
theorem exec_alloc {P : Program} {o : Oper} {a : Act} {w : World} {t : TypeId} {z : Value} (ho : o.op = .alloc t) (hz : (P.info? t).bind (·.zero) = some z) :
    (execOp a.eval o).run P w = .ok (.value (.pointer (some ⟨w.heap.size, 0, none⟩))) (w.alloc (.cells z.cells t)) := by
  cases hi : P.info? t with
  | none => rw [hi] at hz; cases hz
  | some i =>
    rw [hi] at hz
    simp only [Option.bind_some] at hz
    unfold execOp
    simp [ho, Instr.alloc, zeroValue, typeInfo, hi, hz, newVar, newRow, Result.andThen]
theorem z42 : (Tryz.prog.info? 42).bind (·.zero) = some (vA zeroA) := by kernel_rfl
theorem z55 : (Tryz.prog.info? 55).bind (·.zero) = some (vPf zeroP) := by kernel_rfl
theorem z57 : (Tryz.prog.info? 57).bind (·.zero) = some (vPP zeroPr) := by kernel_rfl
section
variable {P : Program} {ops : Array Oper} {rest : List Oper} {o1 o2 : Oper} {a : Act} {w : World} {Q : Exit → Act → World → Prop}
/-- A variable that is made and laid at once. -/
theorem wpList_new {t : TypeId} {d : Tmp} {y : Operand} {z : Value} {cells : Array Value} (hg1 : o1.guard = none) (hg2 : o2.guard = none) (h1 : o1.op = .alloc t) (hd : o1.dst = some d) (hz : (P.info? t).bind (·.zero) = some z) (h2 : o2.op = .store t (.tmp d) y)
    (hx : (a.put (some d) (.pointer (some ⟨w.heap.size, 0, none⟩))).eval (.tmp d) = .pointer (some ⟨w.heap.size, 0, none⟩)) (hy : (a.put (some d) (.pointer (some ⟨w.heap.size, 0, none⟩))).eval y = .agg cells)
    (hi : (P.info? t).map (·.size) = some cells.size) (hs : z.cells.size = cells.size) (hone : cells.all (·.oneCell') = true)
    (h : wpList P ops Q rest ((a.put (some d) (.pointer (some ⟨w.heap.size, 0, none⟩))).put o2.dst undef) (w.alloc (.cells cells t))) : wpList P ops Q (o1 :: o2 :: rest) a w := by
  refine wpList_run hg1 (exec_alloc h1 hz) ?_
  rw [hd]
  exact wpList_store_new hg2 t (.tmp d) y h2 hx hy hi hs hone h
theorem wpList_alloc {t : TypeId} {d : Option Tmp} {z : Value} (hg1 : o1.guard = none) (h1 : o1.op = .alloc t) (hd : o1.dst = d) (hz : (P.info? t).bind (·.zero) = some z)
    (h : wpList P ops Q rest (a.put d (.pointer (some ⟨w.heap.size, 0, none⟩))) (w.alloc (.cells z.cells t))) : wpList P ops Q (o1 :: rest) a w := by
  subst hd
  exact wpList_run hg1 (exec_alloc h1 hz) h
end
theorem sizeA' {a : List Int} (ha : isA a) : (vA zeroA).cells.size = (nums .u8 a).toArray.size := by rw [sizeA ha]; rfl
theorem sizeP' {p : Pf} (ha : p.ok) : (vPf zeroP).cells.size = (pCs p.a p.n).toArray.size := by rw [pCs_size ha.1]; rfl
theorem sizePP' {p : Pr} (h : p.fit) : (vPP zeroPr).cells.size = (pCs p.d.a p.d.n ++ pCs p.s.a p.s.n).toArray.size := by rw [pp_size h]; rfl
theorem fst_num {w : World} (n : Int) : Calls Tryz.prog 31 #[.int .i64 n] w fun e w' => e = .returned (.int .i64 n) ∧ Below w.heap.size w w' := num_lit n
/-! ### a slice of two pairs -/
theorem info57z : (Tryz.prog.info? 57).map (fun i => (i.zero, i.size)) = some (some (vPP zeroPr), 34) := by kernel_rfl
def fill2 (vx vy : Value) (cells : Array Value) : Prop := Instr.fill (fun i => some (i * 34, 34)) ((Array.range (2 * 34)).map ((vPP zeroPr).cells[· % (vPP zeroPr).cells.size]!)) [(0, vx), (1, vy)] = some cells
theorem fill_V : fill2 (.agg (ppCs pP).toArray) (.agg (ppCs qP).toArray) (prs [pP, qP]).toArray := by unfold fill2; kernel_rfl
theorem wpList_slice2 {ops : Array Oper} {rest : List Oper} {o : Oper} {a : Act} {w : World} {Q : Exit → Act → World → Prop} (hg : o.guard = none) (x y : Operand) (ho : o.op = .buildSlice 50 2 #[(0, x), (1, y)]) {vx vy : Value} (hx : a.eval x = vx) (hy : a.eval y = vy) {cells : Array Value} (hf : fill2 vx vy cells)
    {d : Option Tmp} (hd : o.dst = d) (h : wpList Tryz.prog ops Q rest (a.put d (.slice (some ⟨w.heap.size, 0, none⟩) 2 2)) (w.alloc (.cells cells 57))) : wpList Tryz.prog ops Q (o :: rest) a w := by
  subst hd
  unfold fill2 at hf
  have hi := info57z
  cases hie : Tryz.prog.info? 57 with
  | none => rw [hie] at hi; cases hi
  | some ie =>
    rw [hie] at hi
    simp only [Option.map_some, Option.some.injEq, Prod.mk.injEq] at hi
    refine wpList_buildSlice hg 50 57 2 _ ho cells ie (vPP zeroPr) Tryz.underlying50 hie hi.1 (by rw [hi.2]; decide) (by rw [hi.2]; decide) ?_ h
    rw [hi.2]
    simp only [List.map_toArray, List.map_cons, List.map_nil, hx, hy]
    exact hf
theorem Row.new {W : World} {vs : List Value} {ty : TypeId} {sz n : Nat} (hl : vs.length = n * sz) (hm : n ≤ 1000) : Row (W.alloc (.cells vs.toArray ty)) (fun b => (W.alloc (.cells vs.toArray ty)).heap.size ≤ b) sz (.slice (some ⟨W.heap.size, 0, none⟩) n n) n vs := by
  refine ⟨hl, _, _, rfl, Nat.le_refl _, by unfold maxLen; omega, (fun h => by cases h), fun a ha _ => ?_⟩
  obtain rfl : (⟨W.heap.size, 0, none⟩ : Addr) = a := by injection ha
  refine ⟨_, _, rfl, by simp, by simp, fun j u hj => ?_⟩
  have := new_cells W vs ty _ rfl j u hj
  rwa [Addr.add_lit] at this
theorem Row.box {W : World} {g : Nat} {vs : List Value} {ty : TypeId} {sz n : Nat} (h : W.heap[g]? = some (.cells vs.toArray ty (0, 0))) (hl : vs.length = n * sz) (hm : n ≤ 1000) : Row W (fun b => W.heap.size ≤ b) sz (.slice (some ⟨g, 0, none⟩) n n) n vs := by
  refine ⟨hl, _, _, rfl, Nat.le_refl _, by unfold maxLen; omega, (fun h => by cases h), fun a ha _ => ?_⟩
  obtain rfl : (⟨g, 0, none⟩ : Addr) = a := by injection ha
  have hlt := lt_of_obj h
  exact ⟨_, _, rfl, by omega, hlt, fun j u hj => row_load h j u hj⟩
theorem wpList_stop {P : Program} {ops : Array Oper} {Q : Exit → Act → World → Prop} {l : List Oper} {a : Act} {w : World} (n : Nat) (hn : l.length = n) (h : wpList P ops Q l a w) : wpList P ops Q l a w := h
end Go.Proofs.YtnljjlaececnkaaGreatDoor
/-
  The stage's first line: an address of each family, a prefix, the best of two. Condition: the variables hold what their initialisers laid.
-/
namespace Go.Proofs.YtnljjlaececnkaaGreatDoor
open Go.RowKit
set_option linter.unusedVariables false
set_option linter.unusedSimpArgs false
theorem parse_is {w : World} (E : Env w) {s : ByteArray} {a : List Int} (hs : s.size < 4294967281) (h : parseS s = some a) : Calls Tryz.prog 29 #[.string s] w fun e w' => e = .returned (.tuple #[vA a, .int .i64 0]) ∧ Below w.heap.size w w' :=
  (parse_any E hs).mono fun e w' he => ⟨by have := he.1; unfold ParseR at this; rw [this, h]; rfl, he.2⟩
theorem pp_is {w : World} (E : Env w) {s : ByteArray} {p : Pf} {n : Int} (hs : s.size < 4294967281) (h : parsePS s = (p, n)) : Calls Tryz.prog 56 #[.string s] w fun e w' => e = .returned (.tuple #[vPf p, .int .i64 n]) ∧ Below w.heap.size w w' :=
  (pp_any E hs).mono fun e w' he => ⟨by have := he.1; unfold PPR at this; rw [this, h], he.2⟩
set_option maxRecDepth 100000 in
set_option maxHeartbeats 3200000 in
theorem live02_any {w : World} (E : Env w) : Calls Tryz.prog 28 #[] w fun e w' => e = .returned (.bool true) ∧ Below w.heap.size w w' := by
  have c1 : ∀ {W : World}, Env W → Calls Tryz.prog 29 #[.string ⟨#[49, 48, 46, 49, 46, 50, 46, 51]⟩] W fun e w' => e = .returned (.tuple #[vA aV, .int .i64 0]) ∧ Below W.heap.size W w' := fun E => parse_is E (by decide) aV_parse
  have c2 : ∀ {W : World}, Env W → Calls Tryz.prog 29 #[.string ⟨#[50, 48, 48, 49, 58, 100, 98, 56, 58, 58, 49, 58, 48, 58, 48, 58, 49]⟩] W fun e w' => e = .returned (.tuple #[vA bV, .int .i64 0]) ∧ Below W.heap.size W w' := fun E => parse_is E (by decide) bV_parse
  have c3 : ∀ {W : World}, Env W → Calls Tryz.prog 58 #[.string ⟨#[49, 48, 46, 48, 46, 48, 46, 48, 47, 56]⟩] W fun e w' => e = .returned (.tuple #[vPP pP, .int .i64 0]) ∧ Below W.heap.size W w' := fun E => pair_one E (by decide) pV_one pV_ok pV_parse pP_chk
  have c4 : ∀ {W : World}, Env W → Calls Tryz.prog 58 #[.string ⟨#[49, 48, 46, 49, 46, 48, 46, 48, 47, 49, 54]⟩] W fun e w' => e = .returned (.tuple #[vPP qP, .int .i64 0]) ∧ Below W.heap.size W w' := fun E => pair_one E (by decide) qV_one qV_ok qV_parse qP_chk
  have c5 : ∀ {W : World}, Env W → Calls Tryz.prog 56 #[.string ⟨#[49, 48, 46, 48, 46, 48, 46, 49, 47, 56]⟩] W fun e w' => e = .returned (.tuple #[vPf zeroP, .int .i64 21]) ∧ Below W.heap.size W w' := fun E => pp_is E (by decide) cV_parse
  have c6 : ∀ {W : World} {g : Nat}, W.heap[g]? = some (.cells (prs [pP, qP]).toArray 57 (0, 0)) → Calls Tryz.prog 36 #[vA aV, vA aV, .slice (some ⟨g, 0, none⟩) 2 2] W fun e w' => e = .returned (.tuple #[.int .i64 1, .bool true]) ∧ Below W.heap.size W w' := fun {W g} hg => by
    have hf : ∀ p ∈ [pP, qP], p.fit := by intro p h; simp at h; exact h.elim (fun h => h ▸ pP_fit) (fun h => h ▸ qP_fit)
    refine (best_any aV_ok aV_ok hf (Row.box (n := 2) hg (prs_len hf) (by decide))).mono fun e w' ⟨⟨k, ok, he, hb⟩, bel⟩ => ⟨?_, bel⟩
    obtain ⟨rfl, rfl⟩ := best_V hb
    exact he
  have c7 : ∀ {W : World}, Calls Tryz.prog 32 #[vA aV] W fun e w' => e = .returned (.int .i64 4) ∧ Below W.heap.size W w' := (fam_any aV_ok).mono fun e w' h => ⟨by rw [h.1, aV_fam], h.2⟩
  have c8 : ∀ {W : World}, Env W → Calls Tryz.prog 34 #[vA bV] W fun e w' => e = .returned (.string ⟨#[50, 48, 48, 49, 58, 100, 98, 56, 58, 58, 49, 58, 48, 58, 48, 58, 49]⟩) ∧ Below W.heap.size W w' := fun E => (print6_any E bV_ok bV_fam).mono fun e w' h => ⟨by rw [h.1, bV_print], h.2⟩
  have c9 : ∀ {W : World}, Calls Tryz.prog 43 #[vA aV, vA bV] W fun e w' => e = .returned (.int .i64 (-1)) ∧ Below W.heap.size W w' := (cmp_any aV_ok bV_ok).mono fun e w' h => ⟨by rw [h.1, cmp_V], h.2⟩
  have hfill := fill_V
  have hn : pP.d.n = 104 := rfl
  have ha := Lib.hid aV_ok
  have hb := Lib.hid bV_ok
  have hp := Lib.hid pP_fit
  have hq := Lib.hid qP_fit
  generalize pP = p at *
  generalize qP = q at *
  generalize aV = a at *
  generalize bV = b at *
  have B := Bz.start w
  go_enter Tryz.func28, Tryz.ntmps28
  go_wp2_with (refine wpList_quiet_take (C := Bz w []) 7 4 (by rfl) B ?_)
  (try simp only [List.take_succ_cons, List.take_zero, List.drop_succ_cons, List.drop_zero])
  refine wpQuiet_hide ?_
  intro lq hlq
  refine wpQuiet_step_h hlq ?_
  clear hlq lq
  intro K lq hlq hK
  refine wanted_go (by rfl) ?_
  refine ⟨.tuple #[vA a, .int .i64 0], fun W hW => ?_, ?_⟩
  · go_simp
    have E' := hW.env E
    exact (c1 E').mono fun e W2 hc2 => ⟨hc2.1, hW.go hc2.2⟩
  refine hK _ ?_
  clear hK K
  (try simp only [Act.put, List.setIfInBounds_toArray, List.set_cons_zero, List.set_cons_succ])
  refine wpQuiet_step_h hlq ?_
  clear hlq lq
  intro K lq hlq hK
  refine wanted_go (by rfl) ?_
  refine ⟨?_, fun W hW => ?_, ?_⟩
  rotate_left
  · skip
    go_simp
    with_reducible rfl
  refine hK _ ?_
  clear hK K
  (try simp only [Act.put, List.setIfInBounds_toArray, List.set_cons_zero, List.set_cons_succ])
  refine wpQuiet_step_h hlq ?_
  clear hlq lq
  intro K lq hlq hK
  refine wanted_go (by rfl) ?_
  refine ⟨?_, fun W hW => ?_, ?_⟩
  rotate_left
  · skip
    go_simp
    with_reducible rfl
  refine hK _ ?_
  clear hK K
  (try simp only [Act.put, List.setIfInBounds_toArray, List.set_cons_zero, List.set_cons_succ])
  refine wpQuiet_step_h hlq ?_
  clear hlq lq
  intro K lq hlq hK
  refine wanted_go (by rfl) ?_
  refine ⟨?_, fun W hW => ?_, ?_⟩
  rotate_left
  · skip
    go_simp
    with_reducible rfl
  refine hK _ ?_
  clear hK K
  (try simp only [Act.put, List.setIfInBounds_toArray, List.set_cons_zero, List.set_cons_succ])
  refine wpQuiet_nil_h hlq ?_
  clear hlq lq B
  intro V1 hV2
  refine wpList_new rfl rfl rfl rfl z42 rfl (by rfl) (by rfl) (info42 ha.out) (sizeA' ha.out) (numsA_one _) ?_
  (try simp only [Act.put, List.setIfInBounds_toArray, List.set_cons_zero, List.set_cons_succ])
  have hB3 : Bz w [(V1.heap.size, oA a)] (V1.alloc (oA a)) := hV2.alloc (oA a) rfl
  clear hV2
  refine wpList_quiet (C := Bz w [(V1.heap.size, oA a)]) 1 (by rfl) hB3 ?_
  refine wpQuiet_hide ?_
  intro lq hlq
  refine wpQuiet_step_h hlq ?_
  clear hlq lq
  intro K lq hlq hK
  refine wanted_go (by rfl) ?_
  refine ⟨?_, fun W hW => ?_, ?_⟩
  rotate_left
  · skip
    go_simp
    with_reducible rfl
  refine hK _ ?_
  clear hK K
  (try simp only [Act.put, List.setIfInBounds_toArray, List.set_cons_zero, List.set_cons_succ])
  refine wpQuiet_nil_h hlq ?_
  clear hlq lq hB3
  intro V4 hV5
  go_wp2_with (refine wpList_quiet_take (C := Bz w [(V1.heap.size, oA a)]) 7 4 (by rfl) hV5 ?_)
  (try simp only [List.take_succ_cons, List.take_zero, List.drop_succ_cons, List.drop_zero])
  refine wpQuiet_hide ?_
  intro lq hlq
  refine wpQuiet_step_h hlq ?_
  clear hlq lq
  intro K lq hlq hK
  refine wanted_go (by rfl) ?_
  refine ⟨.tuple #[vA b, .int .i64 0], fun W hW => ?_, ?_⟩
  · go_simp
    have E' := hW.env E
    exact (c2 E').mono fun e W2 hc2 => ⟨hc2.1, hW.go hc2.2⟩
  refine hK _ ?_
  clear hK K
  (try simp only [Act.put, List.setIfInBounds_toArray, List.set_cons_zero, List.set_cons_succ])
  refine wpQuiet_step_h hlq ?_
  clear hlq lq
  intro K lq hlq hK
  refine wanted_go (by rfl) ?_
  refine ⟨?_, fun W hW => ?_, ?_⟩
  rotate_left
  · skip
    go_simp
    with_reducible rfl
  refine hK _ ?_
  clear hK K
  (try simp only [Act.put, List.setIfInBounds_toArray, List.set_cons_zero, List.set_cons_succ])
  refine wpQuiet_step_h hlq ?_
  clear hlq lq
  intro K lq hlq hK
  refine wanted_go (by rfl) ?_
  refine ⟨?_, fun W hW => ?_, ?_⟩
  rotate_left
  · skip
    go_simp
    with_reducible rfl
  refine hK _ ?_
  clear hK K
  (try simp only [Act.put, List.setIfInBounds_toArray, List.set_cons_zero, List.set_cons_succ])
  refine wpQuiet_step_h hlq ?_
  clear hlq lq
  intro K lq hlq hK
  refine wanted_go (by rfl) ?_
  refine ⟨?_, fun W hW => ?_, ?_⟩
  rotate_left
  · skip
    go_simp
    with_reducible rfl
  refine hK _ ?_
  clear hK K
  (try simp only [Act.put, List.setIfInBounds_toArray, List.set_cons_zero, List.set_cons_succ])
  refine wpQuiet_nil_h hlq ?_
  clear hlq lq hV5
  intro V6 hV7
  refine wpList_new rfl rfl rfl rfl z42 rfl (by rfl) (by rfl) (info42 hb.out) (sizeA' hb.out) (numsA_one _) ?_
  (try simp only [Act.put, List.setIfInBounds_toArray, List.set_cons_zero, List.set_cons_succ])
  have hB8 : Bz w [(V6.heap.size, oA b), (V1.heap.size, oA a)] (V6.alloc (oA b)) := hV7.alloc (oA b) rfl
  clear hV7
  refine wpList_quiet (C := Bz w [(V6.heap.size, oA b), (V1.heap.size, oA a)]) 1 (by rfl) hB8 ?_
  refine wpQuiet_hide ?_
  intro lq hlq
  refine wpQuiet_step_h hlq ?_
  clear hlq lq
  intro K lq hlq hK
  refine wanted_go (by rfl) ?_
  refine ⟨?_, fun W hW => ?_, ?_⟩
  rotate_left
  · skip
    go_simp
    with_reducible rfl
  refine hK _ ?_
  clear hK K
  (try simp only [Act.put, List.setIfInBounds_toArray, List.set_cons_zero, List.set_cons_succ])
  refine wpQuiet_nil_h hlq ?_
  clear hlq lq hB8
  intro V9 hV10
  go_wp2_with (refine wpList_quiet_take (C := Bz w [(V6.heap.size, oA b), (V1.heap.size, oA a)]) 7 4 (by rfl) hV10 ?_)
  (try simp only [List.take_succ_cons, List.take_zero, List.drop_succ_cons, List.drop_zero])
  refine wpQuiet_hide ?_
  intro lq hlq
  refine wpQuiet_step_h hlq ?_
  clear hlq lq
  intro K lq hlq hK
  refine wanted_go (by rfl) ?_
  refine ⟨.tuple #[vPP p, .int .i64 0], fun W hW => ?_, ?_⟩
  · go_simp
    have E' := hW.env E
    exact (c3 E').mono fun e W2 hc2 => ⟨hc2.1, hW.go hc2.2⟩
  refine hK _ ?_
  clear hK K
  (try simp only [Act.put, List.setIfInBounds_toArray, List.set_cons_zero, List.set_cons_succ])
  refine wpQuiet_step_h hlq ?_
  clear hlq lq
  intro K lq hlq hK
  refine wanted_go (by rfl) ?_
  refine ⟨?_, fun W hW => ?_, ?_⟩
  rotate_left
  · skip
    go_simp
    with_reducible rfl
  refine hK _ ?_
  clear hK K
  (try simp only [Act.put, List.setIfInBounds_toArray, List.set_cons_zero, List.set_cons_succ])
  refine wpQuiet_step_h hlq ?_
  clear hlq lq
  intro K lq hlq hK
  refine wanted_go (by rfl) ?_
  refine ⟨?_, fun W hW => ?_, ?_⟩
  rotate_left
  · skip
    go_simp
    with_reducible rfl
  refine hK _ ?_
  clear hK K
  (try simp only [Act.put, List.setIfInBounds_toArray, List.set_cons_zero, List.set_cons_succ])
  refine wpQuiet_step_h hlq ?_
  clear hlq lq
  intro K lq hlq hK
  refine wanted_go (by rfl) ?_
  refine ⟨?_, fun W hW => ?_, ?_⟩
  rotate_left
  · skip
    go_simp
    with_reducible rfl
  refine hK _ ?_
  clear hK K
  (try simp only [Act.put, List.setIfInBounds_toArray, List.set_cons_zero, List.set_cons_succ])
  refine wpQuiet_nil_h hlq ?_
  clear hlq lq hV10
  intro V11 hV12
  refine wpList_new rfl rfl rfl rfl z57 rfl (by rfl) (by rfl) (info57 hp.out) (sizePP' hp.out) (pp_one _) ?_
  (try simp only [Act.put, List.setIfInBounds_toArray, List.set_cons_zero, List.set_cons_succ])
  have hB13 : Bz w [(V11.heap.size, oPP p), (V6.heap.size, oA b), (V1.heap.size, oA a)] (V11.alloc (oPP p)) := hV12.alloc (oPP p) rfl
  clear hV12
  refine wpList_quiet (C := Bz w [(V11.heap.size, oPP p), (V6.heap.size, oA b), (V1.heap.size, oA a)]) 1 (by rfl) hB13 ?_
  refine wpQuiet_hide ?_
  intro lq hlq
  refine wpQuiet_step_h hlq ?_
  clear hlq lq
  intro K lq hlq hK
  refine wanted_go (by rfl) ?_
  refine ⟨?_, fun W hW => ?_, ?_⟩
  rotate_left
  · skip
    go_simp
    with_reducible rfl
  refine hK _ ?_
  clear hK K
  (try simp only [Act.put, List.setIfInBounds_toArray, List.set_cons_zero, List.set_cons_succ])
  refine wpQuiet_nil_h hlq ?_
  clear hlq lq hB13
  intro V14 hV15
  go_wp2_with (refine wpList_quiet_take (C := Bz w [(V11.heap.size, oPP p), (V6.heap.size, oA b), (V1.heap.size, oA a)]) 7 4 (by rfl) hV15 ?_)
  (try simp only [List.take_succ_cons, List.take_zero, List.drop_succ_cons, List.drop_zero])
  refine wpQuiet_hide ?_
  intro lq hlq
  refine wpQuiet_step_h hlq ?_
  clear hlq lq
  intro K lq hlq hK
  refine wanted_go (by rfl) ?_
  refine ⟨.tuple #[vPP q, .int .i64 0], fun W hW => ?_, ?_⟩
  · go_simp
    have E' := hW.env E
    exact (c4 E').mono fun e W2 hc2 => ⟨hc2.1, hW.go hc2.2⟩
  refine hK _ ?_
  clear hK K
  (try simp only [Act.put, List.setIfInBounds_toArray, List.set_cons_zero, List.set_cons_succ])
  refine wpQuiet_step_h hlq ?_
  clear hlq lq
  intro K lq hlq hK
  refine wanted_go (by rfl) ?_
  refine ⟨?_, fun W hW => ?_, ?_⟩
  rotate_left
  · skip
    go_simp
    with_reducible rfl
  refine hK _ ?_
  clear hK K
  (try simp only [Act.put, List.setIfInBounds_toArray, List.set_cons_zero, List.set_cons_succ])
  refine wpQuiet_step_h hlq ?_
  clear hlq lq
  intro K lq hlq hK
  refine wanted_go (by rfl) ?_
  refine ⟨?_, fun W hW => ?_, ?_⟩
  rotate_left
  · skip
    go_simp
    with_reducible rfl
  refine hK _ ?_
  clear hK K
  (try simp only [Act.put, List.setIfInBounds_toArray, List.set_cons_zero, List.set_cons_succ])
  refine wpQuiet_step_h hlq ?_
  clear hlq lq
  intro K lq hlq hK
  refine wanted_go (by rfl) ?_
  refine ⟨?_, fun W hW => ?_, ?_⟩
  rotate_left
  · skip
    go_simp
    with_reducible rfl
  refine hK _ ?_
  clear hK K
  (try simp only [Act.put, List.setIfInBounds_toArray, List.set_cons_zero, List.set_cons_succ])
  refine wpQuiet_nil_h hlq ?_
  clear hlq lq hV15
  intro V16 hV17
  refine wpList_new rfl rfl rfl rfl z57 rfl (by rfl) (by rfl) (info57 hq.out) (sizePP' hq.out) (pp_one _) ?_
  (try simp only [Act.put, List.setIfInBounds_toArray, List.set_cons_zero, List.set_cons_succ])
  have hB18 : Bz w [(V16.heap.size, oPP q), (V11.heap.size, oPP p), (V6.heap.size, oA b), (V1.heap.size, oA a)] (V16.alloc (oPP q)) := hV17.alloc (oPP q) rfl
  clear hV17
  refine wpList_quiet (C := Bz w [(V16.heap.size, oPP q), (V11.heap.size, oPP p), (V6.heap.size, oA b), (V1.heap.size, oA a)]) 1 (by rfl) hB18 ?_
  refine wpQuiet_hide ?_
  intro lq hlq
  refine wpQuiet_step_h hlq ?_
  clear hlq lq
  intro K lq hlq hK
  refine wanted_go (by rfl) ?_
  refine ⟨?_, fun W hW => ?_, ?_⟩
  rotate_left
  · skip
    go_simp
    with_reducible rfl
  refine hK _ ?_
  clear hK K
  (try simp only [Act.put, List.setIfInBounds_toArray, List.set_cons_zero, List.set_cons_succ])
  refine wpQuiet_nil_h hlq ?_
  clear hlq lq hB18
  intro V19 hV20
  go_wp2_with (refine wpList_quiet_take (C := Bz w [(V16.heap.size, oPP q), (V11.heap.size, oPP p), (V6.heap.size, oA b), (V1.heap.size, oA a)]) 11 4 (by rfl) hV20 ?_)
  (try simp only [List.take_succ_cons, List.take_zero, List.drop_succ_cons, List.drop_zero])
  refine wpQuiet_hide ?_
  intro lq hlq
  refine wpQuiet_step_h hlq ?_
  clear hlq lq
  intro K lq hlq hK
  refine wanted_go (by rfl) ?_
  refine ⟨vA a, fun W hW => ?_, ?_⟩
  · skip
    exact quiet_load 42 _ rfl rfl (ldA (hW.all.get 3 (x := (V1.heap.size, oA a)) rfl) ha.out)
  refine hK _ ?_
  clear hK K
  (try simp only [Act.put, List.setIfInBounds_toArray, List.set_cons_zero, List.set_cons_succ])
  refine wpQuiet_step_h hlq ?_
  clear hlq lq
  intro K lq hlq hK
  refine wanted_go (by rfl) ?_
  refine ⟨vA a, fun W hW => ?_, ?_⟩
  · skip
    exact quiet_load 42 _ rfl rfl (ldA (hW.all.get 3 (x := (V1.heap.size, oA a)) rfl) ha.out)
  refine hK _ ?_
  clear hK K
  (try simp only [Act.put, List.setIfInBounds_toArray, List.set_cons_zero, List.set_cons_succ])
  refine wpQuiet_step_h hlq ?_
  clear hlq lq
  intro K lq hlq hK
  refine wanted_go (by rfl) ?_
  refine ⟨vPP p, fun W hW => ?_, ?_⟩
  · skip
    exact quiet_load 57 _ rfl rfl (ldPP (hW.all.get 1 (x := (V11.heap.size, oPP p)) rfl) hp.out)
  refine hK _ ?_
  clear hK K
  (try simp only [Act.put, List.setIfInBounds_toArray, List.set_cons_zero, List.set_cons_succ])
  refine wpQuiet_step_h hlq ?_
  clear hlq lq
  intro K lq hlq hK
  refine wanted_go (by rfl) ?_
  refine ⟨vPP q, fun W hW => ?_, ?_⟩
  · skip
    exact quiet_load 57 _ rfl rfl (ldPP (hW.all.get 0 (x := (V16.heap.size, oPP q)) rfl) hq.out)
  refine hK _ ?_
  clear hK K
  (try simp only [Act.put, List.setIfInBounds_toArray, List.set_cons_zero, List.set_cons_succ])
  refine wpQuiet_nil_h hlq ?_
  clear hlq lq hV20
  intro V21 hV22
  refine wpList_slice2 rfl _ _ rfl rfl rfl hfill rfl ?_
  (try simp only [Act.put, List.setIfInBounds_toArray, List.set_cons_zero, List.set_cons_succ])
  have hB23 : Bz w [(V21.heap.size, .cells (prs [p, q]).toArray 57), (V16.heap.size, oPP q), (V11.heap.size, oPP p), (V6.heap.size, oA b), (V1.heap.size, oA a)] (V21.alloc (.cells (prs [p, q]).toArray 57)) := hV22.alloc (.cells (prs [p, q]).toArray 57) rfl
  clear hV22
  refine wpList_quiet (C := Bz w [(V21.heap.size, .cells (prs [p, q]).toArray 57), (V16.heap.size, oPP q), (V11.heap.size, oPP p), (V6.heap.size, oA b), (V1.heap.size, oA a)]) 6 (by rfl) hB23 ?_
  refine wpQuiet_hide ?_
  intro lq hlq
  refine wpQuiet_step_h hlq ?_
  clear hlq lq
  intro K lq hlq hK
  refine wanted_go (by rfl) ?_
  refine ⟨.tuple #[.int .i64 1, .bool true], fun W hW => ?_, ?_⟩
  · go_simp
    have E' := hW.env E
    exact (c6 (hW.all.get 0 (x := (V21.heap.size, .cells (prs [p, q]).toArray 57)) rfl)).mono fun e W2 hc2 => ⟨hc2.1, hW.go hc2.2⟩
  refine hK _ ?_
  clear hK K
  (try simp only [Act.put, List.setIfInBounds_toArray, List.set_cons_zero, List.set_cons_succ])
  refine wpQuiet_step_h hlq ?_
  clear hlq lq
  intro K lq hlq hK
  refine wanted_go (by rfl) ?_
  refine ⟨?_, fun W hW => ?_, ?_⟩
  rotate_left
  · skip
    go_simp
    with_reducible rfl
  refine hK _ ?_
  clear hK K
  (try simp only [Act.put, List.setIfInBounds_toArray, List.set_cons_zero, List.set_cons_succ])
  refine wpQuiet_step_h hlq ?_
  clear hlq lq
  intro K lq hlq hK
  refine wanted_go (by rfl) ?_
  refine ⟨?_, fun W hW => ?_, ?_⟩
  rotate_left
  · skip
    go_simp
    with_reducible rfl
  refine hK _ ?_
  clear hK K
  (try simp only [Act.put, List.setIfInBounds_toArray, List.set_cons_zero, List.set_cons_succ])
  refine wpQuiet_step_h hlq ?_
  clear hlq lq
  intro K lq hlq hK
  refine wanted_go (by rfl) ?_
  refine ⟨?_, fun W hW => ?_, ?_⟩
  rotate_left
  · skip
    go_simp
    with_reducible rfl
  refine hK _ ?_
  clear hK K
  (try simp only [Act.put, List.setIfInBounds_toArray, List.set_cons_zero, List.set_cons_succ])
  refine wpQuiet_step_h hlq ?_
  clear hlq lq
  intro K lq hlq hK
  refine wanted_go (by rfl) ?_
  refine ⟨?_, fun W hW => ?_, ?_⟩
  rotate_left
  · skip
    go_simp
    with_reducible rfl
  refine hK _ ?_
  clear hK K
  (try simp only [Act.put, List.setIfInBounds_toArray, List.set_cons_zero, List.set_cons_succ])
  refine wpQuiet_step_h hlq ?_
  clear hlq lq
  intro K lq hlq hK
  refine wanted_go (by rfl) ?_
  refine ⟨?_, fun W hW => ?_, ?_⟩
  rotate_left
  · skip
    go_simp
    with_reducible rfl
  refine hK _ ?_
  clear hK K
  (try simp only [Act.put, List.setIfInBounds_toArray, List.set_cons_zero, List.set_cons_succ])
  refine wpQuiet_nil_h hlq ?_
  clear hlq lq hB23
  intro V24 hV25
  go_wp2_with (refine wpList_quiet_take (C := Bz w [(V21.heap.size, .cells (prs [p, q]).toArray 57), (V16.heap.size, oPP q), (V11.heap.size, oPP p), (V6.heap.size, oA b), (V1.heap.size, oA a)]) 7 4 (by rfl) hV25 ?_)
  (try simp only [List.take_succ_cons, List.take_zero, List.drop_succ_cons, List.drop_zero])
  refine wpQuiet_hide ?_
  intro lq hlq
  refine wpQuiet_step_h hlq ?_
  clear hlq lq
  intro K lq hlq hK
  refine wanted_go (by rfl) ?_
  refine ⟨.tuple #[vPf zeroP, .int .i64 21], fun W hW => ?_, ?_⟩
  · go_simp
    have E' := hW.env E
    exact (c5 E').mono fun e W2 hc2 => ⟨hc2.1, hW.go hc2.2⟩
  refine hK _ ?_
  clear hK K
  (try simp only [Act.put, List.setIfInBounds_toArray, List.set_cons_zero, List.set_cons_succ])
  refine wpQuiet_step_h hlq ?_
  clear hlq lq
  intro K lq hlq hK
  refine wanted_go (by rfl) ?_
  refine ⟨?_, fun W hW => ?_, ?_⟩
  rotate_left
  · skip
    go_simp
    with_reducible rfl
  refine hK _ ?_
  clear hK K
  (try simp only [Act.put, List.setIfInBounds_toArray, List.set_cons_zero, List.set_cons_succ])
  refine wpQuiet_step_h hlq ?_
  clear hlq lq
  intro K lq hlq hK
  refine wanted_go (by rfl) ?_
  refine ⟨?_, fun W hW => ?_, ?_⟩
  rotate_left
  · skip
    go_simp
    with_reducible rfl
  refine hK _ ?_
  clear hK K
  (try simp only [Act.put, List.setIfInBounds_toArray, List.set_cons_zero, List.set_cons_succ])
  refine wpQuiet_step_h hlq ?_
  clear hlq lq
  intro K lq hlq hK
  refine wanted_go (by rfl) ?_
  refine ⟨?_, fun W hW => ?_, ?_⟩
  rotate_left
  · skip
    go_simp
    with_reducible rfl
  refine hK _ ?_
  clear hK K
  (try simp only [Act.put, List.setIfInBounds_toArray, List.set_cons_zero, List.set_cons_succ])
  refine wpQuiet_nil_h hlq ?_
  clear hlq lq hV25
  intro V26 hV27
  refine wpList_new rfl rfl rfl rfl z55 rfl (by rfl) (by rfl) (info55 zeroP_ok.1 _) (sizeP' zeroP_ok) (pCs_one _ _) ?_
  (try simp only [Act.put, List.setIfInBounds_toArray, List.set_cons_zero, List.set_cons_succ])
  have hB28 : Bz w [(V26.heap.size, oP zeroP), (V21.heap.size, .cells (prs [p, q]).toArray 57), (V16.heap.size, oPP q), (V11.heap.size, oPP p), (V6.heap.size, oA b), (V1.heap.size, oA a)] (V26.alloc (oP zeroP)) := hV27.alloc (oP zeroP) rfl
  clear hV27
  refine wpList_quiet (C := Bz w [(V26.heap.size, oP zeroP), (V21.heap.size, .cells (prs [p, q]).toArray 57), (V16.heap.size, oPP q), (V11.heap.size, oPP p), (V6.heap.size, oA b), (V1.heap.size, oA a)]) 1 (by rfl) hB28 ?_
  refine wpQuiet_hide ?_
  intro lq hlq
  refine wpQuiet_step_h hlq ?_
  clear hlq lq
  intro K lq hlq hK
  refine wanted_go (by rfl) ?_
  refine ⟨?_, fun W hW => ?_, ?_⟩
  rotate_left
  · skip
    go_simp
    with_reducible rfl
  refine hK _ ?_
  clear hK K
  (try simp only [Act.put, List.setIfInBounds_toArray, List.set_cons_zero, List.set_cons_succ])
  refine wpQuiet_nil_h hlq ?_
  clear hlq lq hB28
  intro V29 hV30
  go_wp2_with (refine wpList_quiet (C := Bz w [(V26.heap.size, oP zeroP), (V21.heap.size, .cells (prs [p, q]).toArray 57), (V16.heap.size, oPP q), (V11.heap.size, oPP p), (V6.heap.size, oA b), (V1.heap.size, oA a)]) 46 (by rfl) hV30 ?_)
  refine wpQuiet_hide ?_
  intro lq hlq
  refine wpQuiet_step_h hlq ?_
  clear hlq lq
  intro K lq hlq hK
  refine wanted_go (by rfl) ?_
  refine ⟨.int .i64 0, fun W hW => ?_, ?_⟩
  · go_simp
    have E' := hW.env E
    exact (num_lit _).mono fun e W2 hc2 => ⟨hc2.1, hW.go hc2.2⟩
  refine hK _ ?_
  clear hK K
  (try simp only [Act.put, List.setIfInBounds_toArray, List.set_cons_zero, List.set_cons_succ])
  refine wpQuiet_step_h hlq ?_
  clear hlq lq
  intro K lq hlq hK
  refine wanted_go (by rfl) ?_
  refine ⟨?_, fun W hW => ?_, ?_⟩
  rotate_left
  · skip
    go_simp
    with_reducible rfl
  refine hK _ ?_
  clear hK K
  (try simp only [Act.put, List.setIfInBounds_toArray, List.set_cons_zero, List.set_cons_succ])
  refine wpQuiet_step_h hlq ?_
  clear hlq lq
  intro K lq hlq hK
  refine wanted_go (by rfl) ?_
  refine ⟨.int .i64 0, fun W hW => ?_, ?_⟩
  · go_simp
    have E' := hW.env E
    exact (num_lit _).mono fun e W2 hc2 => ⟨hc2.1, hW.go hc2.2⟩
  refine hK _ ?_
  clear hK K
  (try simp only [Act.put, List.setIfInBounds_toArray, List.set_cons_zero, List.set_cons_succ])
  refine wpQuiet_step_h hlq ?_
  clear hlq lq
  intro K lq hlq hK
  refine wanted_go (by rfl) ?_
  refine ⟨?_, fun W hW => ?_, ?_⟩
  rotate_left
  · skip
    go_simp
    with_reducible rfl
  refine hK _ ?_
  clear hK K
  (try simp only [Act.put, List.setIfInBounds_toArray, List.set_cons_zero, List.set_cons_succ])
  refine wpQuiet_step_h hlq ?_
  clear hlq lq
  intro K lq hlq hK
  refine wanted_go (by rfl) ?_
  refine ⟨?_, fun W hW => ?_, ?_⟩
  rotate_left
  · skip
    go_simp
    with_reducible rfl
  refine hK _ ?_
  clear hK K
  (try simp only [Act.put, List.setIfInBounds_toArray, List.set_cons_zero, List.set_cons_succ])
  refine wpQuiet_step_h hlq ?_
  clear hlq lq
  intro K lq hlq hK
  refine wanted_go (by rfl) ?_
  refine ⟨.int .i64 0, fun W hW => ?_, ?_⟩
  · go_simp
    have E' := hW.env E
    exact (num_lit _).mono fun e W2 hc2 => ⟨hc2.1, hW.go hc2.2⟩
  refine hK _ ?_
  clear hK K
  (try simp only [Act.put, List.setIfInBounds_toArray, List.set_cons_zero, List.set_cons_succ])
  refine wpQuiet_step_h hlq ?_
  clear hlq lq
  intro K lq hlq hK
  refine wanted_go (by rfl) ?_
  refine ⟨?_, fun W hW => ?_, ?_⟩
  rotate_left
  · skip
    go_simp
    with_reducible rfl
  refine hK _ ?_
  clear hK K
  (try simp only [Act.put, List.setIfInBounds_toArray, List.set_cons_zero, List.set_cons_succ])
  refine wpQuiet_step_h hlq ?_
  clear hlq lq
  intro K lq hlq hK
  refine wanted_go (by rfl) ?_
  refine ⟨?_, fun W hW => ?_, ?_⟩
  rotate_left
  · skip
    go_simp
    with_reducible rfl
  refine hK _ ?_
  clear hK K
  (try simp only [Act.put, List.setIfInBounds_toArray, List.set_cons_zero, List.set_cons_succ])
  refine wpQuiet_step_h hlq ?_
  clear hlq lq
  intro K lq hlq hK
  refine wanted_go (by rfl) ?_
  refine ⟨.int .i64 0, fun W hW => ?_, ?_⟩
  · go_simp
    have E' := hW.env E
    exact (num_lit _).mono fun e W2 hc2 => ⟨hc2.1, hW.go hc2.2⟩
  refine hK _ ?_
  clear hK K
  (try simp only [Act.put, List.setIfInBounds_toArray, List.set_cons_zero, List.set_cons_succ])
  refine wpQuiet_step_h hlq ?_
  clear hlq lq
  intro K lq hlq hK
  refine wanted_go (by rfl) ?_
  refine ⟨?_, fun W hW => ?_, ?_⟩
  rotate_left
  · skip
    go_simp
    with_reducible rfl
  refine hK _ ?_
  clear hK K
  (try simp only [Act.put, List.setIfInBounds_toArray, List.set_cons_zero, List.set_cons_succ])
  refine wpQuiet_step_h hlq ?_
  clear hlq lq
  intro K lq hlq hK
  refine wanted_go (by rfl) ?_
  refine ⟨?_, fun W hW => ?_, ?_⟩
  rotate_left
  · skip
    go_simp
    with_reducible rfl
  refine hK _ ?_
  clear hK K
  (try simp only [Act.put, List.setIfInBounds_toArray, List.set_cons_zero, List.set_cons_succ])
  refine wpQuiet_step_h hlq ?_
  clear hlq lq
  intro K lq hlq hK
  refine wanted_go (by rfl) ?_
  refine ⟨?_, fun W hW => ?_, ?_⟩
  rotate_left
  · skip
    go_simp
    with_reducible rfl
  refine hK _ ?_
  clear hK K
  (try simp only [Act.put, List.setIfInBounds_toArray, List.set_cons_zero, List.set_cons_succ])
  refine wpQuiet_step_h hlq ?_
  clear hlq lq
  intro K lq hlq hK
  refine wanted_go (by rfl) ?_
  refine ⟨vA a, fun W hW => ?_, ?_⟩
  · skip
    exact quiet_load 42 _ rfl rfl (ldA (hW.all.get 5 (x := (V1.heap.size, oA a)) rfl) ha.out)
  refine hK _ ?_
  clear hK K
  (try simp only [Act.put, List.setIfInBounds_toArray, List.set_cons_zero, List.set_cons_succ])
  refine wpQuiet_step_h hlq ?_
  clear hlq lq
  intro K lq hlq hK
  refine wanted_go (by rfl) ?_
  refine ⟨.int .i64 4, fun W hW => ?_, ?_⟩
  · go_simp
    have E' := hW.env E
    exact (c7).mono fun e W2 hc2 => ⟨hc2.1, hW.go hc2.2⟩
  refine hK _ ?_
  clear hK K
  (try simp only [Act.put, List.setIfInBounds_toArray, List.set_cons_zero, List.set_cons_succ])
  refine wpQuiet_step_h hlq ?_
  clear hlq lq
  intro K lq hlq hK
  refine wanted_go (by rfl) ?_
  refine ⟨?_, fun W hW => ?_, ?_⟩
  rotate_left
  · skip
    go_simp
    with_reducible rfl
  refine hK _ ?_
  clear hK K
  (try simp only [Act.put, List.setIfInBounds_toArray, List.set_cons_zero, List.set_cons_succ])
  refine wpQuiet_step_h hlq ?_
  clear hlq lq
  intro K lq hlq hK
  refine wanted_go (by rfl) ?_
  refine ⟨?_, fun W hW => ?_, ?_⟩
  rotate_left
  · skip
    go_simp
    with_reducible rfl
  refine hK _ ?_
  clear hK K
  (try simp only [Act.put, List.setIfInBounds_toArray, List.set_cons_zero, List.set_cons_succ])
  refine wpQuiet_step_h hlq ?_
  clear hlq lq
  intro K lq hlq hK
  refine wanted_go (by rfl) ?_
  refine ⟨?_, fun W hW => ?_, ?_⟩
  rotate_left
  · skip
    go_simp
    with_reducible rfl
  refine hK _ ?_
  clear hK K
  (try simp only [Act.put, List.setIfInBounds_toArray, List.set_cons_zero, List.set_cons_succ])
  refine wpQuiet_step_h hlq ?_
  clear hlq lq
  intro K lq hlq hK
  refine wanted_go (by rfl) ?_
  refine ⟨vA b, fun W hW => ?_, ?_⟩
  · skip
    exact quiet_load 42 _ rfl rfl (ldA (hW.all.get 4 (x := (V6.heap.size, oA b)) rfl) hb.out)
  refine hK _ ?_
  clear hK K
  (try simp only [Act.put, List.setIfInBounds_toArray, List.set_cons_zero, List.set_cons_succ])
  refine wpQuiet_step_h hlq ?_
  clear hlq lq
  intro K lq hlq hK
  refine wanted_go (by rfl) ?_
  refine ⟨.string ⟨#[50, 48, 48, 49, 58, 100, 98, 56, 58, 58, 49, 58, 48, 58, 48, 58, 49]⟩, fun W hW => ?_, ?_⟩
  · go_simp
    have E' := hW.env E
    exact (c8 E').mono fun e W2 hc2 => ⟨hc2.1, hW.go hc2.2⟩
  refine hK _ ?_
  clear hK K
  (try simp only [Act.put, List.setIfInBounds_toArray, List.set_cons_zero, List.set_cons_succ])
  refine wpQuiet_step_h hlq ?_
  clear hlq lq
  intro K lq hlq hK
  refine wanted_go (by rfl) ?_
  refine ⟨?_, fun W hW => ?_, ?_⟩
  rotate_left
  · skip
    go_simp
    with_reducible rfl
  refine hK _ ?_
  clear hK K
  (try simp only [Act.put, List.setIfInBounds_toArray, List.set_cons_zero, List.set_cons_succ])
  refine wpQuiet_step_h hlq ?_
  clear hlq lq
  intro K lq hlq hK
  refine wanted_go (by rfl) ?_
  refine ⟨?_, fun W hW => ?_, ?_⟩
  rotate_left
  · skip
    go_simp
    with_reducible rfl
  refine hK _ ?_
  clear hK K
  (try simp only [Act.put, List.setIfInBounds_toArray, List.set_cons_zero, List.set_cons_succ])
  refine wpQuiet_step_h hlq ?_
  clear hlq lq
  intro K lq hlq hK
  refine wanted_go (by rfl) ?_
  refine ⟨?_, fun W hW => ?_, ?_⟩
  rotate_left
  · skip
    go_simp
    with_reducible rfl
  refine hK _ ?_
  clear hK K
  (try simp only [Act.put, List.setIfInBounds_toArray, List.set_cons_zero, List.set_cons_succ])
  refine wpQuiet_step_h hlq ?_
  clear hlq lq
  intro K lq hlq hK
  refine wanted_go (by rfl) ?_
  refine ⟨?_, fun W hW => ?_, ?_⟩
  rotate_left
  · skip
    go_simp
    with_reducible rfl
  refine hK _ ?_
  clear hK K
  (try simp only [Act.put, List.setIfInBounds_toArray, List.set_cons_zero, List.set_cons_succ])
  refine wpQuiet_step_h hlq ?_
  clear hlq lq
  intro K lq hlq hK
  refine wanted_go (by rfl) ?_
  refine ⟨?_, fun W hW => ?_, ?_⟩
  rotate_left
  · skip
    go_simp
    with_reducible rfl
  refine hK _ ?_
  clear hK K
  (try simp only [Act.put, List.setIfInBounds_toArray, List.set_cons_zero, List.set_cons_succ])
  refine wpQuiet_step_h hlq ?_
  clear hlq lq
  intro K lq hlq hK
  refine wanted_go (by rfl) ?_
  refine ⟨?_, fun W hW => ?_, ?_⟩
  rotate_left
  · skip
    go_simp
    with_reducible rfl
  refine hK _ ?_
  clear hK K
  (try simp only [Act.put, List.setIfInBounds_toArray, List.set_cons_zero, List.set_cons_succ])
  refine wpQuiet_step_h hlq ?_
  clear hlq lq
  intro K lq hlq hK
  refine wanted_go (by rfl) ?_
  refine ⟨?_, fun W hW => ?_, ?_⟩
  rotate_left
  · skip
    go_simp
    with_reducible rfl
  refine hK _ ?_
  clear hK K
  (try simp only [Act.put, List.setIfInBounds_toArray, List.set_cons_zero, List.set_cons_succ])
  refine wpQuiet_step_h hlq ?_
  clear hlq lq
  intro K lq hlq hK
  refine wanted_go (by rfl) ?_
  refine ⟨?_, fun W hW => ?_, ?_⟩
  rotate_left
  · skip
    go_simp
    with_reducible rfl
  refine hK _ ?_
  clear hK K
  (try simp only [Act.put, List.setIfInBounds_toArray, List.set_cons_zero, List.set_cons_succ])
  refine wpQuiet_step_h hlq ?_
  clear hlq lq
  intro K lq hlq hK
  refine wanted_go (by rfl) ?_
  refine ⟨?_, fun W hW => ?_, ?_⟩
  rotate_left
  · skip
    go_simp
    with_reducible rfl
  refine hK _ ?_
  clear hK K
  (try simp only [Act.put, List.setIfInBounds_toArray, List.set_cons_zero, List.set_cons_succ])
  refine wpQuiet_step_h hlq ?_
  clear hlq lq
  intro K lq hlq hK
  refine wanted_go (by rfl) ?_
  refine ⟨?_, fun W hW => ?_, ?_⟩
  rotate_left
  · skip
    go_simp
    with_reducible rfl
  refine hK _ ?_
  clear hK K
  (try simp only [Act.put, List.setIfInBounds_toArray, List.set_cons_zero, List.set_cons_succ])
  refine wpQuiet_step_h hlq ?_
  clear hlq lq
  intro K lq hlq hK
  refine wanted_go (by rfl) ?_
  refine ⟨?_, fun W hW => ?_, ?_⟩
  rotate_left
  · skip
    go_simp
    with_reducible rfl
  refine hK _ ?_
  clear hK K
  (try simp only [Act.put, List.setIfInBounds_toArray, List.set_cons_zero, List.set_cons_succ])
  refine wpQuiet_step_h hlq ?_
  clear hlq lq
  intro K lq hlq hK
  refine wanted_go (by rfl) ?_
  refine ⟨.int .i64 21, fun W hW => ?_, ?_⟩
  · go_simp
    have E' := hW.env E
    exact (num_lit _).mono fun e W2 hc2 => ⟨hc2.1, hW.go hc2.2⟩
  refine hK _ ?_
  clear hK K
  (try simp only [Act.put, List.setIfInBounds_toArray, List.set_cons_zero, List.set_cons_succ])
  refine wpQuiet_step_h hlq ?_
  clear hlq lq
  intro K lq hlq hK
  refine wanted_go (by rfl) ?_
  refine ⟨?_, fun W hW => ?_, ?_⟩
  rotate_left
  · skip
    go_simp
    with_reducible rfl
  refine hK _ ?_
  clear hK K
  (try simp only [Act.put, List.setIfInBounds_toArray, List.set_cons_zero, List.set_cons_succ])
  refine wpQuiet_step_h hlq ?_
  clear hlq lq
  intro K lq hlq hK
  refine wanted_go (by rfl) ?_
  refine ⟨?_, fun W hW => ?_, ?_⟩
  rotate_left
  · skip
    go_simp
    with_reducible rfl
  refine hK _ ?_
  clear hK K
  (try simp only [Act.put, List.setIfInBounds_toArray, List.set_cons_zero, List.set_cons_succ])
  refine wpQuiet_step_h hlq ?_
  clear hlq lq
  intro K lq hlq hK
  refine wanted_go (by rfl) ?_
  refine ⟨?_, fun W hW => ?_, ?_⟩
  rotate_left
  · skip
    go_simp
    with_reducible rfl
  refine hK _ ?_
  clear hK K
  (try simp only [Act.put, List.setIfInBounds_toArray, List.set_cons_zero, List.set_cons_succ])
  refine wpQuiet_step_h hlq ?_
  clear hlq lq
  intro K lq hlq hK
  refine wanted_go (by rfl) ?_
  refine ⟨?_, fun W hW => ?_, ?_⟩
  rotate_left
  · skip
    go_simp
    with_reducible rfl
  refine hK _ ?_
  clear hK K
  (try simp only [Act.put, List.setIfInBounds_toArray, List.set_cons_zero, List.set_cons_succ])
  refine wpQuiet_step_h hlq ?_
  clear hlq lq
  intro K lq hlq hK
  refine wanted_go (by rfl) ?_
  refine ⟨?_, fun W hW => ?_, ?_⟩
  rotate_left
  · skip
    go_simp
    with_reducible rfl
  refine hK _ ?_
  clear hK K
  (try simp only [Act.put, List.setIfInBounds_toArray, List.set_cons_zero, List.set_cons_succ])
  refine wpQuiet_step_h hlq ?_
  clear hlq lq
  intro K lq hlq hK
  refine wanted_go (by rfl) ?_
  refine ⟨.int .i64 p.d.n, fun W hW => ?_, ?_⟩
  · skip
    exact quiet_load 3 _ rfl rfl (ldPPdn (hW.all.get 3 (x := (V11.heap.size, oPP p)) rfl) hp.out)
  refine hK _ ?_
  clear hK K
  (try simp only [Act.put, List.setIfInBounds_toArray, List.set_cons_zero, List.set_cons_succ])
  refine wpQuiet_step_h hlq ?_
  clear hlq lq
  intro K lq hlq hK
  refine wanted_go (by rfl) ?_
  refine ⟨?_, fun W hW => ?_, ?_⟩
  rotate_left
  · skip
    go_simp
    with_reducible rfl
  refine hK _ ?_
  clear hK K
  (try simp only [Act.put, List.setIfInBounds_toArray, List.set_cons_zero, List.set_cons_succ])
  refine wpQuiet_step_h hlq ?_
  clear hlq lq
  intro K lq hlq hK
  refine wanted_go (by rfl) ?_
  refine ⟨?_, fun W hW => ?_, ?_⟩
  rotate_left
  · skip
    go_simp
    with_reducible rfl
  refine hK _ ?_
  clear hK K
  (try simp only [Act.put, List.setIfInBounds_toArray, List.set_cons_zero, List.set_cons_succ])
  refine wpQuiet_step_h hlq ?_
  clear hlq lq
  intro K lq hlq hK
  refine wanted_go (by rfl) ?_
  refine ⟨?_, fun W hW => ?_, ?_⟩
  rotate_left
  · skip
    go_simp
    with_reducible rfl
  refine hK _ ?_
  clear hK K
  (try simp only [Act.put, List.setIfInBounds_toArray, List.set_cons_zero, List.set_cons_succ])
  refine wpQuiet_step_h hlq ?_
  clear hlq lq
  intro K lq hlq hK
  refine wanted_go (by rfl) ?_
  refine ⟨vA a, fun W hW => ?_, ?_⟩
  · skip
    exact quiet_load 42 _ rfl rfl (ldA (hW.all.get 5 (x := (V1.heap.size, oA a)) rfl) ha.out)
  refine hK _ ?_
  clear hK K
  (try simp only [Act.put, List.setIfInBounds_toArray, List.set_cons_zero, List.set_cons_succ])
  refine wpQuiet_step_h hlq ?_
  clear hlq lq
  intro K lq hlq hK
  refine wanted_go (by rfl) ?_
  refine ⟨vA b, fun W hW => ?_, ?_⟩
  · skip
    exact quiet_load 42 _ rfl rfl (ldA (hW.all.get 4 (x := (V6.heap.size, oA b)) rfl) hb.out)
  refine hK _ ?_
  clear hK K
  (try simp only [Act.put, List.setIfInBounds_toArray, List.set_cons_zero, List.set_cons_succ])
  refine wpQuiet_step_h hlq ?_
  clear hlq lq
  intro K lq hlq hK
  refine wanted_go (by rfl) ?_
  refine ⟨.int .i64 (-1), fun W hW => ?_, ?_⟩
  · go_simp
    have E' := hW.env E
    exact (c9).mono fun e W2 hc2 => ⟨hc2.1, hW.go hc2.2⟩
  refine hK _ ?_
  clear hK K
  (try simp only [Act.put, List.setIfInBounds_toArray, List.set_cons_zero, List.set_cons_succ])
  refine wpQuiet_step_h hlq ?_
  clear hlq lq
  intro K lq hlq hK
  refine wanted_go (by rfl) ?_
  refine ⟨?_, fun W hW => ?_, ?_⟩
  rotate_left
  · skip
    go_simp
    with_reducible rfl
  refine hK _ ?_
  clear hK K
  (try simp only [Act.put, List.setIfInBounds_toArray, List.set_cons_zero, List.set_cons_succ])
  refine wpQuiet_step_h hlq ?_
  clear hlq lq
  intro K lq hlq hK
  refine wanted_go (by rfl) ?_
  refine ⟨?_, fun W hW => ?_, ?_⟩
  rotate_left
  · skip
    go_simp
    with_reducible rfl
  refine hK _ ?_
  clear hK K
  (try simp only [Act.put, List.setIfInBounds_toArray, List.set_cons_zero, List.set_cons_succ])
  refine wpQuiet_step_h hlq ?_
  clear hlq lq
  intro K lq hlq hK
  refine wanted_go (by rfl) ?_
  refine ⟨?_, fun W hW => ?_, ?_⟩
  rotate_left
  · skip
    go_simp
    with_reducible rfl
  refine hK _ ?_
  clear hK K
  (try simp only [Act.put, List.setIfInBounds_toArray, List.set_cons_zero, List.set_cons_succ])
  refine wpQuiet_nil_h hlq ?_
  clear hlq lq hV30
  intro V31 hV32
  go_wp2_with fail
  go_ret
  exact ⟨rfl, hV32.bel⟩
end Go.Proofs.YtnljjlaececnkaaGreatDoor
/-
  The document's digits. Condition: a number that is not below 0 and that a machine holds.
-/
namespace Go.Proofs.YtnljjlaececnkaaGreatDoor
open Go.RowKit
set_option linter.unusedVariables false
set_option linter.unusedSimpArgs false
theorem itoa_small {n : Int} (h0 : 0 ≤ n) (h : n < 10) : Lib.itoa n = [UInt8.ofNat (48 + n.toNat)] := by
  obtain ⟨u, rfl⟩ : ∃ u : Nat, n = u := ⟨n.toNat, by omega⟩
  rw [Lib.itoa_nonneg, Lib.decDigits_one (by omega)]; rfl
theorem itoa_big {n : Int} (h : 10 ≤ n) : Lib.itoa n = Lib.itoa (n / 10) ++ Lib.itoa (n % 10) := by
  obtain ⟨u, rfl⟩ : ∃ u : Nat, n = u := ⟨n.toNat, by omega⟩
  rw [show ((u : Int) / 10) = ((u / 10 : Nat) : Int) by omega, show ((u : Int) % 10) = ((u % 10 : Nat) : Int) by omega, Lib.itoa_nonneg, Lib.itoa_nonneg, Lib.itoa_nonneg, Lib.decDigits_one (i := u % 10) (by omega)]
  conv => lhs; rw [Lib.decDigits]
  rw [dif_neg (by omega)]
theorem itoa_len (n : Int) (h0 : 0 ≤ n) (h1 : n ≤ 9223372036854775807) : (Lib.itoa n).length ≤ 21 := Lib.itoa_length_le n (by omega) h1
/-- In base 16. -/
def hexI (n : Int) : List UInt8 := hexT n.toNat
theorem hexI_big {n : Int} (h : 16 ≤ n) : hexI n = hexI (n / 16) ++ hexI (n % 16) := by
  obtain ⟨u, rfl⟩ : ∃ u : Nat, n = u := ⟨n.toNat, by omega⟩
  unfold hexI
  rw [show ((u : Int) / 16).toNat = u / 16 by omega, show ((u : Int) % 16).toNat = u % 16 by omega, Int.toNat_natCast, hexT_big (by omega), hexT_small (u := u % 16) (by omega)]
theorem hexI_len {n : Int} (h0 : 0 ≤ n) (h1 : n < 65536) : (hexI n).length ≤ 4 := hexT_len 3 _ (by omega)
theorem ten_at : ∀ f : Fin 10, (⟨#[48, 49, 50, 51, 52, 53, 54, 55, 56, 57]⟩ : ByteArray).extract f.val (f.val + 1) = ⟨#[UInt8.ofNat (48 + f.val)]⟩ := by decide
theorem sixteen_at : ∀ f : Fin 16, (⟨#[48, 49, 50, 51, 52, 53, 54, 55, 56, 57, 97, 98, 99, 100, 101, 102]⟩ : ByteArray).extract f.val (f.val + 1) = ⟨#[dig f.val]⟩ := by decide
set_option maxRecDepth 100000 in
theorem digits_small {w : World} {n : Int} (h0 : 0 ≤ n) (h : n < 10) : Calls Tryz.prog 128 #[.int .i64 n] w fun e w' => e = .returned (.string ⟨(Lib.itoa n).toArray⟩) ∧ Below w.heap.size w w' := by
  rw [itoa_small h0 h]
  obtain ⟨u, rfl⟩ : ∃ u : Nat, n = u := ⟨n.toNat, by omega⟩
  have hx := ten_at ⟨u, by omega⟩
  simp only at hx
  replace hx := Lib.hid hx
  go_enter Tryz.func128, Tryz.ntmps128
  go_wp2
  go_ret
  exact ⟨congrArg (fun s => Ending.returned (.string s)) hx.out, Below.refl _ _⟩
set_option maxRecDepth 100000 in
set_option maxHeartbeats 800000 in
theorem digits_big {w : World} {n : Int} (h : 10 ≤ n) (h1 : n ≤ 9223372036854775807) (ih : ∀ {W : World} (m : Int), 0 ≤ m → m < n → Calls Tryz.prog 128 #[.int .i64 m] W fun e w' => e = .returned (.string ⟨(Lib.itoa m).toArray⟩) ∧ Below W.heap.size W w') :
    Calls Tryz.prog 128 #[.int .i64 n] w fun e w' => e = .returned (.string ⟨(Lib.itoa n).toArray⟩) ∧ Below w.heap.size w w' := by
  have hr := Lib.hid (itoa_big h)
  have c1 := fun {W : World} => ih (W := W) (n / 10) (by omega) (by omega)
  have c2 := fun {W : World} => ih (W := W) (n % 10) (by omega) (by omega)
  have l1 := itoa_len (n / 10) (by omega) (by omega)
  have l2 := itoa_len (n % 10) (by omega) (by omega)
  have hl : (Lib.itoa (n / 10)).length + (Lib.itoa (n % 10)).length ≤ 9223372036854775807 := by omega
  have e1 : n.tdiv 10 = n / 10 := Int.tdiv_eq_ediv_of_nonneg (by omega)
  have e2 : n.tmod 10 = n % 10 := Int.tmod_eq_emod_of_nonneg (by omega)
  have e3 : IntKind.i64.wrap (n / 10) = n / 10 := IntWalk.i64_in _ (by omega)
  have e4 : IntKind.i64.wrap (n % 10) = n % 10 := IntWalk.i64_in _ (by omega)
  have B := Bz.start w
  clear ih
  go_enter Tryz.func128, Tryz.ntmps128
  go_wp2_with (refine wpList_quiet (C := Bz w []) 7 (by rfl) B ?_)
  refine wpQuiet_hide ?_
  intro lq hlq
  refine wpQuiet_step_h hlq ?_
  clear hlq lq
  intro K lq hlq hK
  refine wanted_go (by rfl) ?_
  refine ⟨?_, fun W hW => ?_, ?_⟩
  rotate_left
  · skip
    go_simp
    with_reducible rfl
  refine hK _ ?_
  clear hK K
  (try simp only [Act.put, List.setIfInBounds_toArray, List.set_cons_zero, List.set_cons_succ])
  refine wpQuiet_step_h hlq ?_
  clear hlq lq
  intro K lq hlq hK
  refine wanted_go (by rfl) ?_
  refine ⟨.string ⟨(Lib.itoa (n / 10)).toArray⟩, fun W hW => ?_, ?_⟩
  · go_simp
    exact (c1).mono fun e W2 hc2 => ⟨hc2.1, hW.go hc2.2⟩
  refine hK _ ?_
  clear hK K
  (try simp only [Act.put, List.setIfInBounds_toArray, List.set_cons_zero, List.set_cons_succ])
  refine wpQuiet_step_h hlq ?_
  clear hlq lq
  intro K lq hlq hK
  refine wanted_go (by rfl) ?_
  refine ⟨?_, fun W hW => ?_, ?_⟩
  rotate_left
  · skip
    go_simp
    with_reducible rfl
  refine hK _ ?_
  clear hK K
  (try simp only [Act.put, List.setIfInBounds_toArray, List.set_cons_zero, List.set_cons_succ])
  refine wpQuiet_step_h hlq ?_
  clear hlq lq
  intro K lq hlq hK
  refine wanted_go (by rfl) ?_
  refine ⟨?_, fun W hW => ?_, ?_⟩
  rotate_left
  · skip
    go_simp
    with_reducible rfl
  refine hK _ ?_
  clear hK K
  (try simp only [Act.put, List.setIfInBounds_toArray, List.set_cons_zero, List.set_cons_succ])
  refine wpQuiet_step_h hlq ?_
  clear hlq lq
  intro K lq hlq hK
  refine wanted_go (by rfl) ?_
  refine ⟨.string ⟨(Lib.itoa (n % 10)).toArray⟩, fun W hW => ?_, ?_⟩
  · go_simp
    exact (c2).mono fun e W2 hc2 => ⟨hc2.1, hW.go hc2.2⟩
  refine hK _ ?_
  clear hK K
  (try simp only [Act.put, List.setIfInBounds_toArray, List.set_cons_zero, List.set_cons_succ])
  refine wpQuiet_step_h hlq ?_
  clear hlq lq
  intro K lq hlq hK
  refine wanted_go (by rfl) ?_
  refine ⟨.string ⟨(Lib.itoa (n / 10) ++ Lib.itoa (n % 10)).toArray⟩, fun W hW => ?_, ?_⟩
  · skip
    exact quiet_add rfl rfl rfl (str_add W _ _ hl)
  refine hK _ ?_
  clear hK K
  (try simp only [Act.put, List.setIfInBounds_toArray, List.set_cons_zero, List.set_cons_succ])
  refine wpQuiet_step_h hlq ?_
  clear hlq lq
  intro K lq hlq hK
  refine wanted_go (by rfl) ?_
  refine ⟨?_, fun W hW => ?_, ?_⟩
  rotate_left
  · skip
    go_simp
    with_reducible rfl
  refine hK _ ?_
  clear hK K
  (try simp only [Act.put, List.setIfInBounds_toArray, List.set_cons_zero, List.set_cons_succ])
  refine wpQuiet_nil_h hlq ?_
  clear hlq lq B
  intro V1 hV2
  go_wp2_with fail
  go_ret
  exact ⟨by rw [hr.out]; rfl, hV2.bel⟩
/-- Digits. -/
theorem digits_any : ∀ (k : Nat) (n : Int), n.toNat ≤ k → 0 ≤ n → n ≤ 9223372036854775807 → ∀ {w : World}, Calls Tryz.prog 128 #[.int .i64 n] w fun e w' => e = .returned (.string ⟨(Lib.itoa n).toArray⟩) ∧ Below w.heap.size w w'
  | k, n, hk, h0, h1, w => by
    by_cases h : n < 10
    · exact digits_small h0 h
    · exact digits_big (by omega) h1 fun m m0 mn => digits_any (k - 1) m (by omega) m0 (by omega)
termination_by k => k
decreasing_by omega
theorem digits_call {w : World} {n : Int} (h0 : 0 ≤ n) (h1 : n ≤ 9223372036854775807) : Calls Tryz.prog 128 #[.int .i64 n] w fun e w' => e = .returned (.string ⟨(Lib.itoa n).toArray⟩) ∧ Below w.heap.size w w' := digits_any n.toNat n (Nat.le_refl _) h0 h1
set_option maxRecDepth 100000 in
theorem hexes_small {w : World} {n : Int} (h0 : 0 ≤ n) (h : n < 16) : Calls Tryz.prog 166 #[.int .i64 n] w fun e w' => e = .returned (.string ⟨(hexI n).toArray⟩) ∧ Below w.heap.size w w' := by
  obtain ⟨u, rfl⟩ : ∃ u : Nat, n = u := ⟨n.toNat, by omega⟩
  have hx := sixteen_at ⟨u, by omega⟩
  have hs : hexI (u : Int) = [dig u] := hexT_small (by omega)
  rw [hs]
  clear hs
  simp only at hx
  replace hx := Lib.hid hx
  go_enter Tryz.func166, Tryz.ntmps166
  go_wp2
  go_ret
  exact ⟨congrArg (fun s => Ending.returned (.string s)) hx.out, Below.refl _ _⟩
set_option maxRecDepth 100000 in
set_option maxHeartbeats 800000 in
theorem hexes_big {w : World} {n : Int} (h : 16 ≤ n) (h1 : n < 65536) (ih : ∀ {W : World} (m : Int), 0 ≤ m → m < n → Calls Tryz.prog 166 #[.int .i64 m] W fun e w' => e = .returned (.string ⟨(hexI m).toArray⟩) ∧ Below W.heap.size W w') :
    Calls Tryz.prog 166 #[.int .i64 n] w fun e w' => e = .returned (.string ⟨(hexI n).toArray⟩) ∧ Below w.heap.size w w' := by
  have hr := Lib.hid (hexI_big h)
  have c1 := fun {W : World} => ih (W := W) (n / 16) (by omega) (by omega)
  have c2 := fun {W : World} => ih (W := W) (n % 16) (by omega) (by omega)
  have l1 := hexI_len (n := n / 16) (by omega) (by omega)
  have l2 := hexI_len (n := n % 16) (by omega) (by omega)
  have hl : (hexI (n / 16)).length + (hexI (n % 16)).length ≤ 9223372036854775807 := by omega
  have e1 : n.tdiv 16 = n / 16 := Int.tdiv_eq_ediv_of_nonneg (by omega)
  have e2 : n.tmod 16 = n % 16 := Int.tmod_eq_emod_of_nonneg (by omega)
  have e3 : IntKind.i64.wrap (n / 16) = n / 16 := IntWalk.i64_in _ (by omega)
  have e4 : IntKind.i64.wrap (n % 16) = n % 16 := IntWalk.i64_in _ (by omega)
  have B := Bz.start w
  clear ih
  go_enter Tryz.func166, Tryz.ntmps166
  go_wp2_with (refine wpList_quiet (C := Bz w []) 7 (by rfl) B ?_)
  refine wpQuiet_hide ?_
  intro lq hlq
  refine wpQuiet_step_h hlq ?_
  clear hlq lq
  intro K lq hlq hK
  refine wanted_go (by rfl) ?_
  refine ⟨?_, fun W hW => ?_, ?_⟩
  rotate_left
  · skip
    go_simp
    with_reducible rfl
  refine hK _ ?_
  clear hK K
  (try simp only [Act.put, List.setIfInBounds_toArray, List.set_cons_zero, List.set_cons_succ])
  refine wpQuiet_step_h hlq ?_
  clear hlq lq
  intro K lq hlq hK
  refine wanted_go (by rfl) ?_
  refine ⟨.string ⟨(hexI (n / 16)).toArray⟩, fun W hW => ?_, ?_⟩
  · go_simp
    exact (c1).mono fun e W2 hc2 => ⟨hc2.1, hW.go hc2.2⟩
  refine hK _ ?_
  clear hK K
  (try simp only [Act.put, List.setIfInBounds_toArray, List.set_cons_zero, List.set_cons_succ])
  refine wpQuiet_step_h hlq ?_
  clear hlq lq
  intro K lq hlq hK
  refine wanted_go (by rfl) ?_
  refine ⟨?_, fun W hW => ?_, ?_⟩
  rotate_left
  · skip
    go_simp
    with_reducible rfl
  refine hK _ ?_
  clear hK K
  (try simp only [Act.put, List.setIfInBounds_toArray, List.set_cons_zero, List.set_cons_succ])
  refine wpQuiet_step_h hlq ?_
  clear hlq lq
  intro K lq hlq hK
  refine wanted_go (by rfl) ?_
  refine ⟨?_, fun W hW => ?_, ?_⟩
  rotate_left
  · skip
    go_simp
    with_reducible rfl
  refine hK _ ?_
  clear hK K
  (try simp only [Act.put, List.setIfInBounds_toArray, List.set_cons_zero, List.set_cons_succ])
  refine wpQuiet_step_h hlq ?_
  clear hlq lq
  intro K lq hlq hK
  refine wanted_go (by rfl) ?_
  refine ⟨.string ⟨(hexI (n % 16)).toArray⟩, fun W hW => ?_, ?_⟩
  · go_simp
    exact (c2).mono fun e W2 hc2 => ⟨hc2.1, hW.go hc2.2⟩
  refine hK _ ?_
  clear hK K
  (try simp only [Act.put, List.setIfInBounds_toArray, List.set_cons_zero, List.set_cons_succ])
  refine wpQuiet_step_h hlq ?_
  clear hlq lq
  intro K lq hlq hK
  refine wanted_go (by rfl) ?_
  refine ⟨.string ⟨(hexI (n / 16) ++ hexI (n % 16)).toArray⟩, fun W hW => ?_, ?_⟩
  · skip
    exact quiet_add rfl rfl rfl (str_add W _ _ hl)
  refine hK _ ?_
  clear hK K
  (try simp only [Act.put, List.setIfInBounds_toArray, List.set_cons_zero, List.set_cons_succ])
  refine wpQuiet_step_h hlq ?_
  clear hlq lq
  intro K lq hlq hK
  refine wanted_go (by rfl) ?_
  refine ⟨?_, fun W hW => ?_, ?_⟩
  rotate_left
  · skip
    go_simp
    with_reducible rfl
  refine hK _ ?_
  clear hK K
  (try simp only [Act.put, List.setIfInBounds_toArray, List.set_cons_zero, List.set_cons_succ])
  refine wpQuiet_nil_h hlq ?_
  clear hlq lq B
  intro V1 hV2
  go_wp2_with fail
  go_ret
  exact ⟨by rw [hr.out]; rfl, hV2.bel⟩
/-- hexes. -/
theorem hexes_any : ∀ (k : Nat) (n : Int), n.toNat ≤ k → 0 ≤ n → n < 65536 → ∀ {w : World}, Calls Tryz.prog 166 #[.int .i64 n] w fun e w' => e = .returned (.string ⟨(hexI n).toArray⟩) ∧ Below w.heap.size w w'
  | k, n, hk, h0, h1, w => by
    by_cases h : n < 16
    · exact hexes_small h0 h
    · exact hexes_big (by omega) h1 fun m m0 mn => hexes_any (k - 1) m (by omega) m0 (by omega)
termination_by k => k
decreasing_by omega
theorem hexes_call {w : World} {n : Int} (h0 : 0 ≤ n) (h1 : n < 65536) : Calls Tryz.prog 166 #[.int .i64 n] w fun e w' => e = .returned (.string ⟨(hexI n).toArray⟩) ∧ Below w.heap.size w w' := hexes_any n.toNat n (Nat.le_refl _) h0 h1
end Go.Proofs.YtnljjlaececnkaaGreatDoor
/-
  The document's numbers. Condition: a number has at most eighteen digits.
-/
namespace Go.Proofs.YtnljjlaececnkaaGreatDoor
open Go.RowKit
set_option linter.unusedVariables false
set_option linter.unusedSimpArgs false
theorem decFrom_stop {l : List UInt8} {k : Nat} {c : UInt8} (hc : l[k]? = some c) (hn : ¬ (48 ≤ c.toNat ∧ c.toNat ≤ 57)) : Lib.decFrom 0 l = none := by
  cases hd : Lib.decFrom 0 l with
  | none => rfl
  | some n =>
    obtain ⟨d, hd2⟩ := Lib.digit_of_decFrom l 0 n hd k c hc
    unfold Lib.digitVal at hd2
    rw [if_neg hn] at hd2
    cases hd2
theorem decFrom_bd {l : List UInt8} {k m : Nat} (h : Lib.decFrom 0 (l.take k) = some m) (hk : k ≤ 17) : m < 100000000000000000 := Lib.decFrom_take_lt h hk
/-- What Decimal answers. -/
def DecF (s : ByteArray) (most : Int) : Value := .tuple #[.int .i64 ((decF s.data.toList most).getD 0), .bool (decF s.data.toList most).isSome]
theorem get_byte (s : ByteArray) (k : Nat) (h : k < s.size) : s.data.toList[k]? = some s[k] := by
  rw [List.getElem?_eq_getElem (by simpa using h)]; rfl
theorem len_data (s : ByteArray) : s.data.toList.length = s.size := Array.length_toList
theorem DecF_no {s : ByteArray} {most : Int} (h : decF s.data.toList most = none) : DecF s most = .tuple #[.int .i64 0, .bool false] := by unfold DecF; rw [h]; rfl
theorem DecF_yes {s : ByteArray} {most n : Int} (h : decF s.data.toList most = some n) : DecF s most = .tuple #[.int .i64 n, .bool true] := by unfold DecF; rw [h]; rfl
theorem dec118_empty {w : World} (most : Int) : Calls Tryz.prog 118 #[.string ⟨#[]⟩, .int .i64 most] w fun e w' => e = .returned (DecF ⟨#[]⟩ most) ∧ w' = w := by
  rw [DecF_no (by unfold decF; exact if_pos (.inl rfl))]
  go_enter Tryz.func118, Tryz.ntmps118
  go_wp2
  go_ret2
  exact ⟨rfl, rfl⟩
theorem emp_false {s : ByteArray} (h : s.size ≠ 0) : s.toList.isEmpty = false := by
  rw [← decide_eq_emptyBytes]
  exact decide_eq_false (fun e => h (by rw [e]; rfl))
theorem dec118_long {w : World} {s : ByteArray} {most : Int} (h0 : s.size ≠ 0) (h : most < s.size) : Calls Tryz.prog 118 #[.string s, .int .i64 most] w fun e w' => e = .returned (DecF s most) ∧ w' = w := by
  have hr : DecF s most = .tuple #[.int .i64 0, .bool false] := DecF_no (by unfold decF; exact if_pos (.inr (.inl (by rw [len_data]; exact h))))
  have he := emp_false h0
  replace hr := Lib.hid hr
  clear h0
  go_enter Tryz.func118, Tryz.ntmps118
  go_wp2
  go_ret2
  exact ⟨by rw [hr.out]; rfl, rfl⟩
set_option maxHeartbeats 1600000 in
theorem dec118_zero {w : World} {s : ByteArray} {most : Int} (h1 : 1 < s.size) (h : (s.size : Int) ≤ most) (hz : s[0].toNat = 48) : Calls Tryz.prog 118 #[.string s, .int .i64 most] w fun e w' => e = .returned (DecF s most) ∧ w' = w := by
  have hr : DecF s most = .tuple #[.int .i64 0, .bool false] := DecF_no (by
    unfold decF
    refine if_pos (.inr (.inr ⟨by rw [len_data]; exact h1, ?_⟩))
    have := get_byte s 0 (by omega)
    rw [List.head?_eq_getElem?, this]
    congr 1
    exact UInt8.toNat_inj.1 hz)
  have he := emp_false (s := s) (by omega)
  replace hr := Lib.hid hr
  have hz2 : ((s[0].toNat : Int) == 48) = true := by rw [hz]; rfl
  clear hz
  go_enter Tryz.func118, Tryz.ntmps118
  go_wp2
  go_ret2
  exact ⟨by rw [hr.out]; rfl, rfl⟩
set_option maxRecDepth 100000 in
set_option maxHeartbeats 1600000 in
theorem dec118_loop {w : World} {s : ByteArray} {most : Int} (h0 : s.size ≠ 0) (hm : most ≤ 18) (h : (s.size : Int) ≤ most) (hz : ¬ (1 < s.size ∧ s[0].toNat = 48)) : Calls Tryz.prog 118 #[.string s, .int .i64 most] w fun e w' => e = .returned (DecF s most) ∧ w' = w := by
  have hF : decF s.data.toList most = (Lib.decFrom 0 s.data.toList).map fun (n : Nat) => (n : Int) := by
    unfold decF
    refine if_neg ?_
    rw [len_data]
    rintro (h1 | h1 | ⟨h1, h2⟩)
    · have := len_data s; rw [h1] at this; simp at this; omega
    · omega
    · rw [List.head?_eq_getElem?, get_byte s 0 (by omega)] at h2
      exact hz ⟨h1, by rw [Option.some.inj h2]; rfl⟩
  have he := emp_false h0
  have hfin : Hid ((∀ m : Nat, Lib.decFrom 0 s.data.toList = some m → DecF s most = .tuple #[.int .i64 m, .bool true]) ∧ (Lib.decFrom 0 s.data.toList = none → DecF s most = .tuple #[.int .i64 0, .bool false])) :=
    Lib.hid ⟨fun m hm => DecF_yes (by rw [hF, hm]; rfl), fun hn => DecF_no (by rw [hF, hn]; rfl)⟩
  clear hF
  have head : Calls Tryz.prog 118 #[.string s, .int .i64 most] w fun e w' => e = .returned (DecF s most) ∧ w' = w := by
    by_cases h1 : 1 < s.size
    all_goals
      first
        | (have hz2 : ((s[0].toNat : Int) == 48) = false := by
            rw [beq_eq_false_iff_ne]; intro e; exact hz ⟨h1, by omega⟩)
        | skip
      clear hz
      go_enter Tryz.func118, Tryz.ntmps118
      go_wp2
      go_loop [6, 7] (fun x6 x7 => ∃ k m : Nat, k ≤ s.size ∧ x7 = .int .i64 k ∧ x6 = .int .i64 m ∧ Hid (Lib.decFrom 0 (s.data.toList.take k) = some m)) (fun _ x7 => s.size - (intOf x7).toNat)
      case atStart => exact ⟨0, 0, Nat.zero_le _, rfl, rfl, rfl⟩
      case round =>
        obtain ⟨k, m, hk, rfl, rfl, hd⟩ := hrel
        by_cases hlt : k < s.size
        · have hb := decFrom_bd hd.out (by omega)
          have hget := Lib.hid (get_byte s k hlt)
          by_cases hc : 48 ≤ s[k].toNat ∧ s[k].toNat ≤ 57
          · have hnx : Hid (Lib.decFrom 0 (s.data.toList.take (k + 1)) = some (m * 10 + (s[k].toNat - 48))) := Lib.hid (Lib.decFrom_take _ k 0 m s[k] _ hd.out hget.out (by unfold Lib.digitVal; rw [if_pos hc]))
            obtain ⟨c0, c1⟩ := hc
            go_wp2
            refine ⟨⟨k + 1, m * 10 + (s[k].toNat - 48), by omega, by congr 1, by congr 1; omega, hnx⟩, by simp [intOf]; omega⟩
          · have hno := hfin.out.2 (decFrom_stop hget.out hc)
            replace hno := Lib.hid hno
            have hc2 : s[k].toNat < 48 ∨ 57 < s[k].toNat := by omega
            rcases hc2 with hc2 | hc2
            · go_wp2
              go_ret2
              exact ⟨by rw [hno.out]; rfl, rfl⟩
            · go_wp2
              go_ret2
              exact ⟨by rw [hno.out]; rfl, rfl⟩
        · obtain rfl : k = s.size := by omega
          have hall := hd.out
          rw [List.take_of_length_le (by rw [len_data]; exact Nat.le_refl _)] at hall
          have hyes := Lib.hid (hfin.out.1 m hall)
          clear hall
          go_wp2
          go_ret2
          exact ⟨by rw [hyes.out]; rfl, rfl⟩
  exact head
/-- Decimal. -/
theorem dec118_any {w : World} (s : ByteArray) {most : Int} (hm : most ≤ 18) : Calls Tryz.prog 118 #[.string s, .int .i64 most] w fun e w' => e = .returned (DecF s most) ∧ w' = w := by
  by_cases h0 : s.size = 0
  · obtain rfl : s = ⟨#[]⟩ := ba_eq (by
      have := len_data s
      exact List.eq_nil_of_length_eq_zero (by omega))
    exact dec118_empty most
  · by_cases h : most < s.size
    · exact dec118_long h0 h
    · by_cases hz : 1 < s.size ∧ s[0].toNat = 48
      · exact dec118_zero hz.1 (by omega) hz.2
      · exact dec118_loop h0 hm (by omega) hz
end Go.Proofs.YtnljjlaececnkaaGreatDoor
/-
  The document's groups of base 16; a text at a byte. Condition: a text is no longer than memory has room for.
-/
namespace Go.Proofs.YtnljjlaececnkaaGreatDoor
open Go.RowKit
set_option linter.unusedVariables false
set_option linter.unusedSimpArgs false
theorem hexFrom_all : ∀ (l : List UInt8) (acc n : Nat), hexFrom acc l = some n → ∀ c ∈ l, (hexD c).isSome = true
  | [], _, _, _, c, h => by cases h
  | x :: l, acc, n, h, c, hc => by
    unfold hexFrom at h
    split at h
    · rename_i d hd
      rcases List.mem_cons.1 hc with rfl | hc
      · rw [hd]; rfl
      · exact hexFrom_all l _ n h c hc
    · cases h
theorem hexFrom_stop {l : List UInt8} {k : Nat} {c : UInt8} (hc : l[k]? = some c) (hn : hexD c = none) : hexFrom 0 l = none := by
  cases hd : hexFrom 0 l with
  | none => rfl
  | some n =>
    have := hexFrom_all l 0 n hd c (List.mem_of_getElem? hc)
    rw [hn] at this; cases this
theorem hexFrom_take {l : List UInt8} {k m d : Nat} {c : UInt8} (h : hexFrom 0 (l.take k) = some m) (hc : l[k]? = some c) (hd : hexD c = some d) : hexFrom 0 (l.take (k + 1)) = some (16 * m + d) := by
  rw [take_snoc hc, hexFrom_snoc, h]
  simp only [hd]
theorem hexD_lt {c : UInt8} {d : Nat} (h : hexD c = some d) : d < 16 := by
  unfold hexD at h
  repeat' split at h
  all_goals first
    | (cases h; omega)
    | cases h
theorem hexFrom_lt : ∀ (l : List UInt8) (acc n : Nat), hexFrom acc l = some n → n < (acc + 1) * 16 ^ l.length
  | [], acc, n, h => by cases h; simp
  | x :: l, acc, n, h => by
    unfold hexFrom at h
    split at h
    · rename_i d hd
      have h1 := hexFrom_lt l _ n h
      have h2 := hexD_lt hd
      have h3 : (16 * acc + d + 1) * 16 ^ l.length ≤ (16 * (acc + 1)) * 16 ^ l.length := Nat.mul_le_mul_right _ (by omega)
      rw [List.length_cons, Nat.pow_succ]
      have h4 : (16 * (acc + 1)) * 16 ^ l.length = (acc + 1) * (16 ^ l.length * 16) := by rw [Nat.mul_comm 16 (acc + 1), Nat.mul_assoc, Nat.mul_comm 16 (16 ^ l.length)]
      omega
    · cases h
theorem hexFrom_bd {l : List UInt8} {k m : Nat} (h : hexFrom 0 (l.take k) = some m) (hk : k ≤ 4) : m < 65536 := by
  have h1 := hexFrom_lt _ _ _ h
  have h2 : (l.take k).length ≤ 4 := by rw [List.length_take]; omega
  have h3 : 16 ^ (l.take k).length ≤ 16 ^ 4 := Nat.pow_le_pow_right (by decide) h2
  omega
/-- What hex answers. -/
def HexV (s : ByteArray) : Value := .tuple #[.int .i64 (((grpS s).getD 0 : Nat) : Int), .bool (grpS s).isSome]
theorem HexV_no {s : ByteArray} (h : grpS s = none) : HexV s = .tuple #[.int .i64 0, .bool false] := by unfold HexV; rw [h]; rfl
theorem HexV_yes {s : ByteArray} {n : Nat} (h : grpS s = some n) : HexV s = .tuple #[.int .i64 (n : Int), .bool true] := by unfold HexV; rw [h]; rfl
theorem hex207_empty {w : World} : Calls Tryz.prog 207 #[.string ⟨#[]⟩] w fun e w' => e = .returned (HexV ⟨#[]⟩) ∧ w' = w := by
  rw [HexV_no (by unfold grpS; exact if_pos (.inl rfl))]
  go_enter Tryz.func207, Tryz.ntmps207
  go_wp2
  go_ret2
  exact ⟨rfl, rfl⟩
theorem hex207_long {w : World} {s : ByteArray} (h : 4 < s.size) : Calls Tryz.prog 207 #[.string s] w fun e w' => e = .returned (HexV s) ∧ w' = w := by
  have hr : HexV s = .tuple #[.int .i64 0, .bool false] := HexV_no (by unfold grpS; exact if_pos (.inr h))
  have he := emp_false (s := s) (by omega)
  replace hr := Lib.hid hr
  go_enter Tryz.func207, Tryz.ntmps207
  go_wp2
  go_ret2
  exact ⟨by rw [hr.out]; rfl, rfl⟩
set_option maxRecDepth 100000 in
set_option maxHeartbeats 3200000 in
theorem hex207_loop {w : World} {s : ByteArray} (h0 : s.size ≠ 0) (h : s.size ≤ 4) : Calls Tryz.prog 207 #[.string s] w fun e w' => e = .returned (HexV s) ∧ w' = w := by
  have hF : grpS s = hexFrom 0 s.data.toList := by unfold grpS; exact if_neg (by omega)
  have he := emp_false h0
  have hfin : Hid ((∀ m : Nat, hexFrom 0 s.data.toList = some m → HexV s = .tuple #[.int .i64 m, .bool true]) ∧ (hexFrom 0 s.data.toList = none → HexV s = .tuple #[.int .i64 0, .bool false])) :=
    Lib.hid ⟨fun m hm => HexV_yes (by rw [hF, hm]), fun hn => HexV_no (by rw [hF, hn])⟩
  clear hF h0
  go_enter Tryz.func207, Tryz.ntmps207
  go_wp2
  go_loop [4, 5] (fun x4 x5 => ∃ k m : Nat, k ≤ s.size ∧ x5 = .int .i64 k ∧ x4 = .int .i64 m ∧ Hid (hexFrom 0 (s.data.toList.take k) = some m)) (fun _ x5 => s.size - (intOf x5).toNat)
  case atStart => exact ⟨0, 0, Nat.zero_le _, rfl, rfl, rfl⟩
  case round =>
    obtain ⟨k, m, hk, rfl, rfl, hd⟩ := hrel
    by_cases hlt : k < s.size
    · have hb := hexFrom_bd hd.out (by omega)
      have hget := Lib.hid (get_byte s k hlt)
      by_cases hc : 48 ≤ s[k].toNat ∧ s[k].toNat ≤ 57
      · have hnx : Hid (hexFrom 0 (s.data.toList.take (k + 1)) = some (16 * m + (s[k].toNat - 48))) := Lib.hid (hexFrom_take hd.out hget.out (by unfold hexD; rw [if_pos hc]))
        obtain ⟨c0, c1⟩ := hc
        go_wp2
        refine ⟨⟨k + 1, 16 * m + (s[k].toNat - 48), by omega, by congr 1, by congr 1; omega, hnx⟩, by simp [intOf]; omega⟩
      · by_cases hc2 : 97 ≤ s[k].toNat ∧ s[k].toNat ≤ 102
        · have hnx : Hid (hexFrom 0 (s.data.toList.take (k + 1)) = some (16 * m + (s[k].toNat - 87))) := Lib.hid (hexFrom_take hd.out hget.out (by unfold hexD; rw [if_neg hc, if_pos hc2]))
          clear hc
          obtain ⟨c0, c1⟩ := hc2
          go_wp2
          refine ⟨⟨k + 1, 16 * m + (s[k].toNat - 87), by omega, by congr 1, by congr 1; omega, hnx⟩, by simp [intOf]; omega⟩
        · by_cases hc3 : 65 ≤ s[k].toNat ∧ s[k].toNat ≤ 70
          · have hnx : Hid (hexFrom 0 (s.data.toList.take (k + 1)) = some (16 * m + (s[k].toNat - 55))) := Lib.hid (hexFrom_take hd.out hget.out (by unfold hexD; rw [if_neg hc, if_neg hc2, if_pos hc3]))
            clear hc hc2
            obtain ⟨c0, c1⟩ := hc3
            go_wp2
            refine ⟨⟨k + 1, 16 * m + (s[k].toNat - 55), by omega, by congr 1, by congr 1; omega, hnx⟩, by simp [intOf]; omega⟩
          · have hno := hfin.out.2 (hexFrom_stop hget.out (by unfold hexD; rw [if_neg hc, if_neg hc2, if_neg hc3]))
            replace hno := Lib.hid hno
            have hall : s[k].toNat < 48 ∨ (57 < s[k].toNat ∧ s[k].toNat < 65) ∨ (70 < s[k].toNat ∧ s[k].toNat < 97) ∨ 102 < s[k].toNat := by omega
            clear hc hc2 hc3
            rcases hall with hx | ⟨hx, hy⟩ | ⟨hx, hy⟩ | hx
            all_goals
              go_wp2
              go_ret2
              exact ⟨by rw [hno.out]; rfl, rfl⟩
    · obtain rfl : k = s.size := by omega
      have hall := hd.out
      rw [List.take_of_length_le (by rw [len_data]; exact Nat.le_refl _)] at hall
      have hyes := Lib.hid (hfin.out.1 m hall)
      clear hall
      go_wp2
      go_ret2
      exact ⟨by rw [hyes.out]; rfl, rfl⟩
/-- hex. -/
theorem hex207_any {w : World} (s : ByteArray) : Calls Tryz.prog 207 #[.string s] w fun e w' => e = .returned (HexV s) ∧ w' = w := by
  by_cases h0 : s.size = 0
  · obtain rfl : s = ⟨#[]⟩ := ba_eq (by
      have := len_data s
      exact List.eq_nil_of_length_eq_zero (by omega))
    exact hex207_empty
  · by_cases h : 4 < s.size
    · exact hex207_long h
    · exact hex207_loop h0 (by omega)
/-! ### a text at a byte -/
def strs (l : List ByteArray) : List Value := l.map Value.string
theorem strs_one (l : List ByteArray) : ∀ u ∈ strs l, u.oneCell' = true := by intro u hu; obtain ⟨x, _, rfl⟩ := List.mem_map.1 hu; rfl
/-- What stands ahead is cut; the rest is still to be cut. -/
def CutI (c : UInt8) (l : List UInt8) (i at_ : Nat) (done : List ByteArray) : Prop := at_ ≤ i ∧ done.length ≤ i ∧ cutL c l = done.map (·.data.toList) ++ glue ((l.drop at_).take (i - at_)) (cutL c (l.drop i))
theorem CutI.start (c : UInt8) (l : List UInt8) : CutI c l 0 0 [] := ⟨Nat.le_refl _, Nat.le_refl _, by simp [glue_nil (cutL_ne c l)]⟩
theorem CutI.step {c : UInt8} {l : List UInt8} {i at_ : Nat} {done : List ByteArray} (h : CutI c l i at_ done) {x : UInt8} (hx : l[i]? = some x) (hn : x ≠ c) : CutI c l (i + 1) at_ done := by
  obtain ⟨h1, h2, h3⟩ := h
  obtain ⟨hi, he⟩ := List.getElem?_eq_some_iff.1 hx
  refine ⟨by omega, by omega, ?_⟩
  rw [h3]
  congr 1
  rw [List.drop_eq_getElem_cons hi, he, cutL, if_neg hn, glue_glue _ _ (cutL_ne _ _)]
  congr 1
  have : i + 1 - at_ = (i - at_) + 1 := by omega
  rw [this, take_snoc (y := x)]
  rw [List.getElem?_drop, show at_ + (i - at_) = i by omega]; exact hx
theorem CutI.hit {c : UInt8} {l : List UInt8} {i at_ : Nat} {done : List ByteArray} (h : CutI c l i at_ done) (hx : l[i]? = some c) {t : ByteArray} (ht : t.data.toList = (l.drop at_).take (i - at_)) : CutI c l (i + 1) (i + 1) (done ++ [t]) := by
  obtain ⟨h1, h2, h3⟩ := h
  obtain ⟨hi, he⟩ := List.getElem?_eq_some_iff.1 hx
  refine ⟨by omega, by simp; omega, ?_⟩
  rw [h3, List.drop_eq_getElem_cons hi, he, cutL, if_pos rfl, List.map_append, List.append_assoc]
  congr 1
  rw [Nat.sub_self, List.take_zero, glue_nil (cutL_ne _ _)]
  simp [glue, ht]
theorem CutI.last {c : UInt8} {l : List UInt8} {at_ : Nat} {done : List ByteArray} (h : CutI c l l.length at_ done) {t : ByteArray} (ht : t.data.toList = (l.drop at_).take (l.length - at_)) : cutL c l = (done ++ [t]).map (·.data.toList) := by
  obtain ⟨h1, h2, h3⟩ := h
  rw [h3, List.drop_length, List.map_append]
  congr 1
  simp [cutL, glue, ht]
theorem cutB_of {c : UInt8} {s : ByteArray} {done : List ByteArray} (h : cutL c s.data.toList = done.map (·.data.toList)) : cutB c s = done := by
  unfold cutB
  rw [h, List.map_map]
  have : ((fun l : List UInt8 => (⟨l.toArray⟩ : ByteArray)) ∘ fun x : ByteArray => x.data.toList) = id := by
    funext x; exact ba_eq (by simp)
  rw [this, List.map_id]
set_option maxRecDepth 100000 in
set_option maxHeartbeats 1600000 in
/-- Cut. -/
theorem cut100_any {w : World} {s : ByteArray} (hs : s.size < 4294967281) (c : UInt8) : Calls Tryz.prog 100 #[.string s, .int .u8 c.toNat] w fun e w' => (∃ v, e = .returned v ∧ w'.ownsRow 0 9 1 v (cutB c s).length (strs (cutB c s)) ∧ Lo w.heap.size v) ∧ Below w.heap.size w w' := by
  go_enter Tryz.func100, Tryz.ntmps100
  go_wp2
  go_loopw [5, 6, 7] (fun x5 x6 x7 wr => ∃ (i at_ : Nat) (done : List ByteArray), x7 = .int .i64 i ∧ x6 = .int .i64 at_ ∧ wr.ownsRow 0 9 1 x5 done.length (strs done) ∧ Lo w.heap.size x5 ∧ Below w.heap.size w wr ∧ ((i ≤ s.size ∧ Hid (CutI c s.data.toList i at_ done)) ∨ (i = s.size + 1 ∧ Hid (cutB c s = done)))) (fun x5 x6 x7 wr => s.size + 1 - (intOf x7).toNat)
  case atStart => exact ⟨0, 0, [], rfl, rfl, by simpa [strs] using own_nil _ _ _, fun b h => by simp [Value.ownBlock] at h, Below.refl _ _, .inl ⟨Nat.zero_le _, CutI.start _ _⟩⟩
  case round =>
    obtain ⟨i, at_, done, rfl, rfl, ho, lo, bel, hI⟩ := hrel
    rcases hI with ⟨hi, hI⟩ | ⟨rfl, hI⟩
    · obtain ⟨ha1, ha2, -⟩ := id hI.out
      by_cases hlt : i < s.size
      · have hget := get_byte s i hlt
        by_cases hc : s[i] = c
        · rw [hc] at hget
          have hnx := Lib.hid (hI.out.hit hget (t := s.extract at_ i) (ext_list s at_ i))
          have hb : ((s[i].toNat : Int) == c.toNat) = true := by rw [hc]; exact beq_self_eq_true _
          clear hget hc
          go_wp2_with (at_builtin; refine wpList_app1 rfl (.tmp 25) (.tmp 30) 23 rfl Tryz.underlying23 Tryz.info9 rfl (by decide) (by decide) [.string (s.extract at_ i)] rfl (by intro z hz; simp at hz; subst hz; rfl) rfl ho rfl (by omega) ?_; intro v' w2 ho2 hn2 hf2)
          refine ⟨⟨i + 1, i + 1, done ++ [s.extract at_ i], by congr 1, by congr 1, by simpa [strs] using ho2, lo.next hn2 bel.size, bel.trans (hf2.belowB lo bel.size), .inl ⟨by omega, hnx⟩⟩, by simp [intOf]; omega⟩
        · have hnx := Lib.hid (hI.out.step hget hc)
          have hb : ((s[i].toNat : Int) == c.toNat) = false := by rw [beq_eq_false_iff_ne]; intro e; exact hc (UInt8.toNat_inj.1 (by omega))
          clear hget hc
          go_wp2
          refine ⟨⟨i + 1, at_, done, by congr 1, rfl, ho, lo, bel, .inl ⟨by omega, hnx⟩⟩, by simp [intOf]; omega⟩
      · obtain rfl : i = s.size := by omega
        have hl := len_data s
        have hfin : Hid (cutB c s = done ++ [s.extract at_ s.size]) := Lib.hid (cutB_of (by
          have := hI.out
          rw [← hl] at this
          exact this.last (t := s.extract at_ s.size) (by rw [ext_list, hl])))
        clear hl
        go_wp2_with (at_builtin; refine wpList_app1 rfl (.tmp 25) (.tmp 30) 23 rfl Tryz.underlying23 Tryz.info9 rfl (by decide) (by decide) [.string (s.extract at_ s.size)] rfl (by intro z hz; simp at hz; subst hz; rfl) rfl ho rfl (by omega) ?_; intro v' w2 ho2 hn2 hf2)
        refine ⟨⟨s.size + 1, s.size + 1, done ++ [s.extract at_ s.size], by congr 1, by congr 1, by simpa [strs] using ho2, lo.next hn2 bel.size, bel.trans (hf2.belowB lo bel.size), .inr ⟨rfl, hfin⟩⟩, by simp [intOf]⟩
    · have hd : decide ((s.size : Int) + 1 ≤ s.size) = false := decide_eq_false (by omega)
      obtain ⟨A, c2, rfl, hc1, hc2⟩ := own_slice ho
      go_wp2
      go_ret
      exact ⟨⟨_, rfl, by rw [hI.out]; exact ho, lo⟩, bel⟩
end Go.Proofs.YtnljjlaececnkaaGreatDoor
/-
  An address as four numbers, the program's way and the document's; its family, the document's way. Condition: an address is sixteen bytes.
-/
namespace Go.Proofs.YtnljjlaececnkaaGreatDoor
open Go.RowKit
set_option linter.unusedVariables false
set_option linter.unusedSimpArgs false
theorem itoa_call {w : World} (E : Env w) {n : Int} (h0 : -9223372036854775808 ≤ n) (h1 : n ≤ 9223372036854775807) : Calls Tryz.prog 117 #[.int .i64 n] w fun e w' => e = .returned (.string ⟨(Lib.itoa n).toArray⟩) ∧ Below w.heap.size w w' := by
  refine (Tryz.strconv_Itoa n h0 h1 w (E.go (Below.refl _ _)).1.pow).mono fun e W2 hc2 => ⟨hc2.1, ?_⟩
  obtain ⟨k, os, rfl⟩ := hc2.2
  exact Lib.below_grow _ _ (Nat.le_refl _) k os
/-- Join of a row of the call's own. -/
theorem join_call {w : World} {v : Value} {xs : List ByteArray} {sep : ByteArray} {n : Nat} (hn : xs.length = n) (ho : w.ownsRow 0 9 1 v n (strs xs)) (hx : xs.length ≤ 1000) (hlen : (Lib.join (xs.map (·.data.toList)) sep.data.toList).length ≤ 140737488355328) :
    Calls Tryz.prog 114 #[v, .string sep] w fun e w' => e = .returned (.string ⟨(Lib.join (xs.map (·.data.toList)) sep.data.toList).toArray⟩) ∧ Below w.heap.size w w' := by
  subst hn
  obtain ⟨A, c2, rfl, hc1, hc2⟩ := own_slice ho
  rcases Nat.eq_zero_or_pos xs.length with h0 | h0
  · obtain rfl : xs = [] := List.eq_nil_of_length_eq_zero h0
    exact (Tryz.strings_Join_none _ _ _ _).mono fun e w' h => ⟨h.1, by rw [h.2]; exact Below.refl _ _⟩
  · obtain ⟨k, rfl, -, hk, hcell, -, -⟩ := own_at ho h0
    exact Tryz.strings_Join k 0 c2 xs sep w (fun j x hj => by
      have := hcell j (.string x) (by simp [strs, hj])
      simpa using this) hk (by omega) (by omega) hlen
theorem ldAi {W : World} {g : Nat} {a : List Int} {i : Nat} (hi : i < 16) (h : W.heap[g]? = some (oA a)) (ha : isA a) : (loadVar 5 ⟨g, i, none⟩).run Tryz.prog W = .ok (.int .u8 (a.getD i 0)) W := by
  obtain ⟨x, hx, hx2, -, -⟩ := isA_getD ha hi
  rw [hx2]
  exact loadVar_int Tryz.underlying5 ((row_cell h).trans (by rw [List.getElem?_toArray]; exact nums_get hx))
theorem dotted_getD {a : List Int} (ha : isA a) : dottedS a = Lib.itoa (a.getD 12 0) ++ [46] ++ Lib.itoa (a.getD 13 0) ++ [46] ++ Lib.itoa (a.getD 14 0) ++ [46] ++ Lib.itoa (a.getD 15 0) := by
  obtain ⟨x, y, z, t, hd, -⟩ := last4 ha
  have g : ∀ j, a.getD (12 + j) 0 = [x, y, z, t].getD j 0 := fun j => by rw [← hd, List.getD_eq_getElem?_getD, List.getD_eq_getElem?_getD, List.getElem?_drop]
  have g0 := g 0
  have g1 := g 1
  have g2 := g 2
  have g3 := g 3
  simp at g0 g1 g2 g3
  unfold dottedS
  rw [hd, dotted_four]
  simp [List.getD_eq_getElem?_getD, g0, g1, g2, g3]
set_option maxRecDepth 100000 in
set_option maxHeartbeats 1600000 in
/-- fours. -/
theorem fours_any {w : World} {a : List Int} (ha : isA a) : Calls Tryz.prog 107 #[vA a] w fun e w' => e = .returned (.string ⟨(dottedS a).toArray⟩) ∧ Below w.heap.size w w' := by
  have hr := Lib.hid (dotted_getD ha)
  have Ha := Lib.hid ha
  obtain ⟨x, -, hx, x0, x1⟩ := isA_getD ha (j := 12) (by decide)
  obtain ⟨y, -, hy, y0, y1⟩ := isA_getD ha (j := 13) (by decide)
  obtain ⟨z, -, hz, z0, z1⟩ := isA_getD ha (j := 14) (by decide)
  obtain ⟨t, -, ht, t0, t1⟩ := isA_getD ha (j := 15) (by decide)
  rw [hx, hy, hz, ht] at hr
  have lx := itoa_len x x0 (by omega)
  have ly := itoa_len y y0 (by omega)
  have lz := itoa_len z z0 (by omega)
  have lt := itoa_len t t0 (by omega)
  have cx := fun {W : World} => digits_call (w := W) (n := x) x0 (by omega)
  have cy := fun {W : World} => digits_call (w := W) (n := y) y0 (by omega)
  have cz := fun {W : World} => digits_call (w := W) (n := z) z0 (by omega)
  have ct := fun {W : World} => digits_call (w := W) (n := t) t0 (by omega)
  have l1 : (Lib.itoa x).length + ([46] : List UInt8).length ≤ 9223372036854775807 := by simp; omega
  have l2 : (Lib.itoa x ++ [46]).length + (Lib.itoa y).length ≤ 9223372036854775807 := by simp; omega
  have l3 : (Lib.itoa x ++ [46] ++ Lib.itoa y).length + ([46] : List UInt8).length ≤ 9223372036854775807 := by simp; omega
  have l4 : (Lib.itoa x ++ [46] ++ Lib.itoa y ++ [46]).length + (Lib.itoa z).length ≤ 9223372036854775807 := by simp; omega
  have l5 : (Lib.itoa x ++ [46] ++ Lib.itoa y ++ [46] ++ Lib.itoa z).length + ([46] : List UInt8).length ≤ 9223372036854775807 := by simp; omega
  have l6 : (Lib.itoa x ++ [46] ++ Lib.itoa y ++ [46] ++ Lib.itoa z ++ [46]).length + (Lib.itoa t).length ≤ 9223372036854775807 := by simp; omega
  have wx : IntKind.i64.wrap x = x := IntWalk.i64_in _ (by omega)
  have wy : IntKind.i64.wrap y = y := IntWalk.i64_in _ (by omega)
  have wz : IntKind.i64.wrap z = z := IntWalk.i64_in _ (by omega)
  have wt : IntKind.i64.wrap t = t := IntWalk.i64_in _ (by omega)
  have B := ((Bz.start w).alloc (oA a) rfl : Bz w [(w.heap.size, oA a)] _)
  replace hx := Lib.hid hx
  replace hy := Lib.hid hy
  replace hz := Lib.hid hz
  replace ht := Lib.hid ht
  replace lx := Lib.hid lx
  clear ha lx ly lz lt
  unfold vA
  go_enter Tryz.func107, Tryz.ntmps107
  go_wp2_with fail
  refine wp_region_C (C := Bz w [(w.heap.size, oA a)]) (by kernel_rfl) (by kernel_rfl) (B.drew) ?_
  refine wpQuiet_hide ?_
  intro lq hlq
  refine wpQuiet_step_h hlq ?_
  clear hlq lq
  intro K lq hlq hK
  refine wanted_go (by rfl) ?_
  refine ⟨?_, fun W hW => ?_, ?_⟩
  rotate_left
  · skip
    go_simp
    with_reducible rfl
  refine hK _ ?_
  clear hK K
  (try simp only [Act.put, List.setIfInBounds_toArray, List.set_cons_zero, List.set_cons_succ])
  refine wpQuiet_step_h hlq ?_
  clear hlq lq
  intro K lq hlq hK
  refine wanted_go (by rfl) ?_
  refine ⟨.int .u8 x, fun W hW => ?_, ?_⟩
  · skip
    rw [← hx.out]; exact quiet_load 5 _ rfl rfl (ldAi (i := 12) (by decide) (hW.all.get 0 (x := (w.heap.size, oA a)) rfl) Ha.out)
  refine hK _ ?_
  clear hK K
  (try simp only [Act.put, List.setIfInBounds_toArray, List.set_cons_zero, List.set_cons_succ])
  refine wpQuiet_step_h hlq ?_
  clear hlq lq
  intro K lq hlq hK
  refine wanted_go (by rfl) ?_
  refine ⟨?_, fun W hW => ?_, ?_⟩
  rotate_left
  · skip
    go_simp
    with_reducible rfl
  refine hK _ ?_
  clear hK K
  (try simp only [Act.put, List.setIfInBounds_toArray, List.set_cons_zero, List.set_cons_succ])
  refine wpQuiet_step_h hlq ?_
  clear hlq lq
  intro K lq hlq hK
  refine wanted_go (by rfl) ?_
  refine ⟨.string ⟨(Lib.itoa x).toArray⟩, fun W hW => ?_, ?_⟩
  · go_simp
    exact (cx).mono fun e W2 hc2 => ⟨hc2.1, hW.go hc2.2⟩
  refine hK _ ?_
  clear hK K
  (try simp only [Act.put, List.setIfInBounds_toArray, List.set_cons_zero, List.set_cons_succ])
  refine wpQuiet_step_h hlq ?_
  clear hlq lq
  intro K lq hlq hK
  refine wanted_go (by rfl) ?_
  refine ⟨.string ⟨(Lib.itoa x ++ [46]).toArray⟩, fun W hW => ?_, ?_⟩
  · skip
    exact quiet_add rfl rfl rfl (str_add W _ _ l1)
  refine hK _ ?_
  clear hK K
  (try simp only [Act.put, List.setIfInBounds_toArray, List.set_cons_zero, List.set_cons_succ])
  refine wpQuiet_step_h hlq ?_
  clear hlq lq
  intro K lq hlq hK
  refine wanted_go (by rfl) ?_
  refine ⟨?_, fun W hW => ?_, ?_⟩
  rotate_left
  · skip
    go_simp
    with_reducible rfl
  refine hK _ ?_
  clear hK K
  (try simp only [Act.put, List.setIfInBounds_toArray, List.set_cons_zero, List.set_cons_succ])
  refine wpQuiet_step_h hlq ?_
  clear hlq lq
  intro K lq hlq hK
  refine wanted_go (by rfl) ?_
  refine ⟨.int .u8 y, fun W hW => ?_, ?_⟩
  · skip
    rw [← hy.out]; exact quiet_load 5 _ rfl rfl (ldAi (i := 13) (by decide) (hW.all.get 0 (x := (w.heap.size, oA a)) rfl) Ha.out)
  refine hK _ ?_
  clear hK K
  (try simp only [Act.put, List.setIfInBounds_toArray, List.set_cons_zero, List.set_cons_succ])
  refine wpQuiet_step_h hlq ?_
  clear hlq lq
  intro K lq hlq hK
  refine wanted_go (by rfl) ?_
  refine ⟨?_, fun W hW => ?_, ?_⟩
  rotate_left
  · skip
    go_simp
    with_reducible rfl
  refine hK _ ?_
  clear hK K
  (try simp only [Act.put, List.setIfInBounds_toArray, List.set_cons_zero, List.set_cons_succ])
  refine wpQuiet_step_h hlq ?_
  clear hlq lq
  intro K lq hlq hK
  refine wanted_go (by rfl) ?_
  refine ⟨.string ⟨(Lib.itoa y).toArray⟩, fun W hW => ?_, ?_⟩
  · go_simp
    exact (cy).mono fun e W2 hc2 => ⟨hc2.1, hW.go hc2.2⟩
  refine hK _ ?_
  clear hK K
  (try simp only [Act.put, List.setIfInBounds_toArray, List.set_cons_zero, List.set_cons_succ])
  refine wpQuiet_step_h hlq ?_
  clear hlq lq
  intro K lq hlq hK
  refine wanted_go (by rfl) ?_
  refine ⟨.string ⟨(Lib.itoa x ++ [46] ++ Lib.itoa y).toArray⟩, fun W hW => ?_, ?_⟩
  · skip
    exact quiet_add rfl rfl rfl (str_add W _ _ l2)
  refine hK _ ?_
  clear hK K
  (try simp only [Act.put, List.setIfInBounds_toArray, List.set_cons_zero, List.set_cons_succ])
  refine wpQuiet_step_h hlq ?_
  clear hlq lq
  intro K lq hlq hK
  refine wanted_go (by rfl) ?_
  refine ⟨.string ⟨(Lib.itoa x ++ [46] ++ Lib.itoa y ++ [46]).toArray⟩, fun W hW => ?_, ?_⟩
  · skip
    exact quiet_add rfl rfl rfl (str_add W _ _ l3)
  refine hK _ ?_
  clear hK K
  (try simp only [Act.put, List.setIfInBounds_toArray, List.set_cons_zero, List.set_cons_succ])
  refine wpQuiet_step_h hlq ?_
  clear hlq lq
  intro K lq hlq hK
  refine wanted_go (by rfl) ?_
  refine ⟨?_, fun W hW => ?_, ?_⟩
  rotate_left
  · skip
    go_simp
    with_reducible rfl
  refine hK _ ?_
  clear hK K
  (try simp only [Act.put, List.setIfInBounds_toArray, List.set_cons_zero, List.set_cons_succ])
  refine wpQuiet_step_h hlq ?_
  clear hlq lq
  intro K lq hlq hK
  refine wanted_go (by rfl) ?_
  refine ⟨.int .u8 z, fun W hW => ?_, ?_⟩
  · skip
    rw [← hz.out]; exact quiet_load 5 _ rfl rfl (ldAi (i := 14) (by decide) (hW.all.get 0 (x := (w.heap.size, oA a)) rfl) Ha.out)
  refine hK _ ?_
  clear hK K
  (try simp only [Act.put, List.setIfInBounds_toArray, List.set_cons_zero, List.set_cons_succ])
  refine wpQuiet_step_h hlq ?_
  clear hlq lq
  intro K lq hlq hK
  refine wanted_go (by rfl) ?_
  refine ⟨?_, fun W hW => ?_, ?_⟩
  rotate_left
  · skip
    go_simp
    with_reducible rfl
  refine hK _ ?_
  clear hK K
  (try simp only [Act.put, List.setIfInBounds_toArray, List.set_cons_zero, List.set_cons_succ])
  refine wpQuiet_step_h hlq ?_
  clear hlq lq
  intro K lq hlq hK
  refine wanted_go (by rfl) ?_
  refine ⟨.string ⟨(Lib.itoa z).toArray⟩, fun W hW => ?_, ?_⟩
  · go_simp
    exact (cz).mono fun e W2 hc2 => ⟨hc2.1, hW.go hc2.2⟩
  refine hK _ ?_
  clear hK K
  (try simp only [Act.put, List.setIfInBounds_toArray, List.set_cons_zero, List.set_cons_succ])
  refine wpQuiet_step_h hlq ?_
  clear hlq lq
  intro K lq hlq hK
  refine wanted_go (by rfl) ?_
  refine ⟨.string ⟨(Lib.itoa x ++ [46] ++ Lib.itoa y ++ [46] ++ Lib.itoa z).toArray⟩, fun W hW => ?_, ?_⟩
  · skip
    exact quiet_add rfl rfl rfl (str_add W _ _ l4)
  refine hK _ ?_
  clear hK K
  (try simp only [Act.put, List.setIfInBounds_toArray, List.set_cons_zero, List.set_cons_succ])
  refine wpQuiet_step_h hlq ?_
  clear hlq lq
  intro K lq hlq hK
  refine wanted_go (by rfl) ?_
  refine ⟨.string ⟨(Lib.itoa x ++ [46] ++ Lib.itoa y ++ [46] ++ Lib.itoa z ++ [46]).toArray⟩, fun W hW => ?_, ?_⟩
  · skip
    exact quiet_add rfl rfl rfl (str_add W _ _ l5)
  refine hK _ ?_
  clear hK K
  (try simp only [Act.put, List.setIfInBounds_toArray, List.set_cons_zero, List.set_cons_succ])
  refine wpQuiet_step_h hlq ?_
  clear hlq lq
  intro K lq hlq hK
  refine wanted_go (by rfl) ?_
  refine ⟨?_, fun W hW => ?_, ?_⟩
  rotate_left
  · skip
    go_simp
    with_reducible rfl
  refine hK _ ?_
  clear hK K
  (try simp only [Act.put, List.setIfInBounds_toArray, List.set_cons_zero, List.set_cons_succ])
  refine wpQuiet_step_h hlq ?_
  clear hlq lq
  intro K lq hlq hK
  refine wanted_go (by rfl) ?_
  refine ⟨.int .u8 t, fun W hW => ?_, ?_⟩
  · skip
    rw [← ht.out]; exact quiet_load 5 _ rfl rfl (ldAi (i := 15) (by decide) (hW.all.get 0 (x := (w.heap.size, oA a)) rfl) Ha.out)
  refine hK _ ?_
  clear hK K
  (try simp only [Act.put, List.setIfInBounds_toArray, List.set_cons_zero, List.set_cons_succ])
  refine wpQuiet_step_h hlq ?_
  clear hlq lq
  intro K lq hlq hK
  refine wanted_go (by rfl) ?_
  refine ⟨?_, fun W hW => ?_, ?_⟩
  rotate_left
  · skip
    go_simp
    with_reducible rfl
  refine hK _ ?_
  clear hK K
  (try simp only [Act.put, List.setIfInBounds_toArray, List.set_cons_zero, List.set_cons_succ])
  refine wpQuiet_step_h hlq ?_
  clear hlq lq
  intro K lq hlq hK
  refine wanted_go (by rfl) ?_
  refine ⟨.string ⟨(Lib.itoa t).toArray⟩, fun W hW => ?_, ?_⟩
  · go_simp
    exact (ct).mono fun e W2 hc2 => ⟨hc2.1, hW.go hc2.2⟩
  refine hK _ ?_
  clear hK K
  (try simp only [Act.put, List.setIfInBounds_toArray, List.set_cons_zero, List.set_cons_succ])
  refine wpQuiet_step_h hlq ?_
  clear hlq lq
  intro K lq hlq hK
  refine wanted_go (by rfl) ?_
  refine ⟨.string ⟨(Lib.itoa x ++ [46] ++ Lib.itoa y ++ [46] ++ Lib.itoa z ++ [46] ++ Lib.itoa t).toArray⟩, fun W hW => ?_, ?_⟩
  · skip
    exact quiet_add rfl rfl rfl (str_add W _ _ l6)
  refine hK _ ?_
  clear hK K
  (try simp only [Act.put, List.setIfInBounds_toArray, List.set_cons_zero, List.set_cons_succ])
  refine wpQuiet_step_h hlq ?_
  clear hlq lq
  intro K lq hlq hK
  refine wanted_go (by rfl) ?_
  refine ⟨?_, fun W hW => ?_, ?_⟩
  rotate_left
  · skip
    go_simp
    with_reducible rfl
  refine hK _ ?_
  clear hK K
  (try simp only [Act.put, List.setIfInBounds_toArray, List.set_cons_zero, List.set_cons_succ])
  refine wpQuiet_nil_h hlq ?_
  clear hlq lq B
  intro V1 hV2
  go_wp2_with fail
  go_ret
  exact ⟨congrArg (fun l : List UInt8 => Ending.returned (.string ⟨l.toArray⟩)) (show Lib.itoa x ++ 46 :: (Lib.itoa y ++ 46 :: (Lib.itoa z ++ 46 :: Lib.itoa t)) = dottedS a by rw [hr.out]; simp), hV2.bel⟩
theorem AllB.fr {S : Nat → Prop} {w w2 : World} (h : Fr S w w2) : ∀ {l : List (Nat × Obj)}, AllB w l → (∀ x ∈ l, ¬ S x.1) → AllB w2 l
  | [], _, _ => trivial
  | x :: l, ⟨hx, r⟩, hn => ⟨h.obj hx (hn x (by simp)), AllB.fr h r fun y hy => hn y (by simp [hy])⟩
theorem Bz.fr {S : Nat → Prop} {w W W2 : World} {l : List (Nat × Obj)} (h : Bz w l W) (hf : Fr S W W2) (hn : ∀ x ∈ l, ¬ S x.1) (hs : ∀ b, S b → w.heap.size ≤ b) : Bz w l W2 :=
  ⟨h.bel.trans (hf.belowS hs h.bel.size), AllB.fr hf h.all hn, h.ord, h.low⟩
/-- The numbers of an address that are texts by now. -/
def dots (a : List Int) (j : Nat) : List ByteArray := ((a.drop 12).take j).map fun x => ⟨(Lib.itoa x).toArray⟩
theorem slice42_low (W : World) (g : Nat) : (Instr.sliceAt 42 (.pointer (some ⟨g, 0, none⟩)) (some (.int .i64 12)) none none).run Tryz.prog W = .ok (.slice (some ⟨g, 12, none⟩) 4 4) W := by
  have a16 : Tryz.prog.arrayLen 42 = 16 := by kernel_rfl
  have e5 : Tryz.prog.elem 42 = 5 := by kernel_rfl
  have hs : (sizeOf 5).run Tryz.prog W = .ok 1 W := by kernel_rfl
  have h := run_sliceAt_array_l (P := Tryz.prog) W 42 ⟨g, 0, none⟩ (by kernel_rfl) .i64 12 (by decide) (by rw [a16]; decide)
  rw [h, e5, hs, a16]
  simp [Result.andThen, slicedAt, Addr.add]
set_option maxRecDepth 100000 in
set_option maxHeartbeats 1600000 in
/-- dotted. -/
theorem dotted_any {w : World} (E : Env w) {a : List Int} (ha : isA a) : Calls Tryz.prog 105 #[vA a] w fun e w' => e = .returned (.string ⟨(dottedS a).toArray⟩) ∧ Below w.heap.size w w' := by
  have B := ((Bz.start w).alloc (oA a) rfl : Bz w [(w.heap.size, oA a)] _)
  have Ha := Lib.hid ha
  have hsl := fun W => slice42_low W w.heap.size
  clear ha
  unfold vA
  go_enter Tryz.func105, Tryz.ntmps105
  go_wp2
  go_loopw [3, 8] (fun x3 x8 wr => ∃ j : Nat, x8 = .int .i64 j ∧ j ≤ 4 ∧ wr.ownsRow 0 9 1 x3 j (strs (dots a j)) ∧ Lo (w.heap.size + 1) x3 ∧ Bz w [(w.heap.size, oA a)] wr) (fun x3 x8 wr => 4 - (intOf x8).toNat)
  case atStart => exact ⟨0, rfl, by omega, by simpa [strs, dots] using own_nil _ _ _, fun b h => by simp [Value.ownBlock] at h, B⟩
  case round =>
    obtain ⟨j, rfl, hj, ho, lo, bx⟩ := hrel
    have hsz : w.heap.size + 1 ≤ wr.heap.size := lt_of_obj (bx.all.get 0 (x := (w.heap.size, oA a)) rfl)
    by_cases hlt : j < 4
    · obtain ⟨x, hx, -, x0, x1⟩ := isA_getD Ha.out (j := 12 + j) (by omega)
      have c1 : wr.cell? ⟨w.heap.size, 12 + j, none⟩ = some (.int .u8 x) := (row_cell (bx.all.get 0 (x := (w.heap.size, oA a)) rfl)).trans (by rw [List.getElem?_toArray]; exact nums_get hx)
      have ht : Hid (strs (dots a (j + 1)) = strs (dots a j) ++ [.string ⟨(Lib.itoa x).toArray⟩]) := Lib.hid (by
        unfold strs dots
        rw [take_snoc (y := x) (by rw [List.getElem?_drop]; exact hx)]; simp)
      replace hx := Lib.hid hx
      go_wp2_with (first | (go_at_call 117; refine (itoa_call (bx.env E) (by omega) (by omega)).mono ?_; rintro e w1 ⟨rfl, bel1⟩) | (at_builtin; refine wpList_app1 rfl (.tmp 12) (.tmp 16) 23 rfl Tryz.underlying23 Tryz.info9 rfl (by decide) (by decide) [.string ⟨(Lib.itoa x).toArray⟩] rfl (by intro z hz; simp at hz; subst hz; rfl) rfl (own_below ho bel1 (own_lt ho)) rfl (by omega) ?_; intro v' w2 ho2 hn2 hf2))
      have bx1 := bx.go bel1
      refine ⟨⟨j + 1, by congr 1, by omega, by rw [ht.out]; exact ho2, lo.next hn2 (Nat.le_trans hsz bel1.size), bx1.fr hf2 (fun x hx hb => by
        simp at hx; subst hx
        have h2 : w.heap.size + 1 ≤ w.heap.size := lo _ hb
        omega) (fun b hb => by have := lo _ hb; omega)⟩, by simp [intOf]; omega⟩
    · obtain rfl : j = 4 := by omega
      have hd : (dots a 4).length = 4 := by
        obtain ⟨x, y, z, t, h, -⟩ := last4 Ha.out
        unfold dots; rw [h]; rfl
      have hj2 : Lib.join ((dots a 4).map (·.data.toList)) [46] = dottedS a := by
        obtain ⟨x, y, z, t, h, -⟩ := last4 Ha.out
        unfold dots dottedS; rw [h]; rfl
      have hlen : (dottedS a).length ≤ 1000 := by
        rw [dotted_getD Ha.out]
        obtain ⟨x, -, hx, x0, x1⟩ := isA_getD Ha.out (j := 12) (by decide)
        obtain ⟨y, -, hy, y0, y1⟩ := isA_getD Ha.out (j := 13) (by decide)
        obtain ⟨z, -, hz, z0, z1⟩ := isA_getD Ha.out (j := 14) (by decide)
        obtain ⟨t, -, ht, t0, t1⟩ := isA_getD Ha.out (j := 15) (by decide)
        rw [hx, hy, hz, ht]
        have lx := itoa_len x x0 (by omega)
        have ly := itoa_len y y0 (by omega)
        have lz := itoa_len z z0 (by omega)
        have lt := itoa_len t t0 (by omega)
        simp; omega
      have hjc := join_call (xs := dots a 4) (sep := ⟨#[46]⟩) hd ho (by omega) (by show (Lib.join _ [46]).length ≤ _; rw [hj2]; omega)
      rw [show (⟨#[46]⟩ : ByteArray).data.toList = [46] from rfl, hj2] at hjc
      clear hd hj2 hlen
      go_wp2_with (go_at_call 114; refine hjc.mono ?_; rintro e w1 ⟨rfl, bel1⟩)
      go_ret
      exact ⟨rfl, (bx.go bel1).bel⟩
set_option maxRecDepth 100000 in
set_option maxHeartbeats 800000 in
theorem print4_any {w : World} (E : Env w) {a : List Int} (ha : isA a) (h4 : fam a = 4) : Calls Tryz.prog 34 #[vA a] w fun e w' => e = .returned (.string ⟨(dottedS a).toArray⟩) ∧ Below w.heap.size w w' := by
  have B := ((Bz.start w).alloc (oA a) rfl : Bz w [(w.heap.size, oA a)] _)
  have Ha := Lib.hid ha
  have hf : ∀ {W : World}, Calls Tryz.prog 32 #[vA a] W fun e w' => e = .returned (.int .i64 4) ∧ Below W.heap.size W w' := (fam_any ha).mono fun e w' h => ⟨by rw [h.1, h4], h.2⟩
  clear ha h4
  unfold vA
  go_enter Tryz.func34, Tryz.ntmps34
  go_wp2_with (refine wpList_quiet (C := Bz w [(w.heap.size, oA a)]) 3 (by rfl) B ?_)
  refine wpQuiet_hide ?_
  intro lq hlq
  refine wpQuiet_step_h hlq ?_
  clear hlq lq
  intro K lq hlq hK
  refine wanted_go (by rfl) ?_
  refine ⟨vA a, fun W hW => ?_, ?_⟩
  · skip
    exact quiet_load 42 _ rfl rfl (ldA (hW.all.get 0 (x := (w.heap.size, oA a)) rfl) Ha.out)
  refine hK _ ?_
  clear hK K
  (try simp only [Act.put, List.setIfInBounds_toArray, List.set_cons_zero, List.set_cons_succ])
  refine wpQuiet_step_h hlq ?_
  clear hlq lq
  intro K lq hlq hK
  refine wanted_go (by rfl) ?_
  refine ⟨.int .i64 4, fun W hW => ?_, ?_⟩
  · go_simp
    exact (hf).mono fun e W2 hc2 => ⟨hc2.1, hW.go hc2.2⟩
  refine hK _ ?_
  clear hK K
  (try simp only [Act.put, List.setIfInBounds_toArray, List.set_cons_zero, List.set_cons_succ])
  refine wpQuiet_step_h hlq ?_
  clear hlq lq
  intro K lq hlq hK
  refine wanted_go (by rfl) ?_
  refine ⟨?_, fun W hW => ?_, ?_⟩
  rotate_left
  · skip
    go_simp
    with_reducible rfl
  refine hK _ ?_
  clear hK K
  (try simp only [Act.put, List.setIfInBounds_toArray, List.set_cons_zero, List.set_cons_succ])
  refine wpQuiet_nil_h hlq ?_
  clear hlq lq B
  intro V1 hV2
  go_wp2_with (refine wpList_quiet (C := Bz w [(w.heap.size, oA a)]) 3 (by rfl) hV2 ?_)
  refine wpQuiet_hide ?_
  intro lq hlq
  refine wpQuiet_step_h hlq ?_
  clear hlq lq
  intro K lq hlq hK
  refine wanted_go (by rfl) ?_
  refine ⟨vA a, fun W hW => ?_, ?_⟩
  · skip
    exact quiet_load 42 _ rfl rfl (ldA (hW.all.get 0 (x := (w.heap.size, oA a)) rfl) Ha.out)
  refine hK _ ?_
  clear hK K
  (try simp only [Act.put, List.setIfInBounds_toArray, List.set_cons_zero, List.set_cons_succ])
  refine wpQuiet_step_h hlq ?_
  clear hlq lq
  intro K lq hlq hK
  refine wanted_go (by rfl) ?_
  refine ⟨.string ⟨(dottedS a).toArray⟩, fun W hW => ?_, ?_⟩
  · go_simp
    have E' := hW.env E
    exact (dotted_any E' Ha.out).mono fun e W2 hc2 => ⟨hc2.1, hW.go hc2.2⟩
  refine hK _ ?_
  clear hK K
  (try simp only [Act.put, List.setIfInBounds_toArray, List.set_cons_zero, List.set_cons_succ])
  refine wpQuiet_step_h hlq ?_
  clear hlq lq
  intro K lq hlq hK
  refine wanted_go (by rfl) ?_
  refine ⟨?_, fun W hW => ?_, ?_⟩
  rotate_left
  · skip
    go_simp
    with_reducible rfl
  refine hK _ ?_
  clear hK K
  (try simp only [Act.put, List.setIfInBounds_toArray, List.set_cons_zero, List.set_cons_succ])
  refine wpQuiet_nil_h hlq ?_
  clear hlq lq hV2
  intro V3 hV4
  go_wp2_with fail
  go_ret
  exact ⟨rfl, hV4.bel⟩
/-- Print. -/
theorem print_any {w : World} (E : Env w) {a : List Int} (ha : isA a) : Calls Tryz.prog 34 #[vA a] w fun e w' => e = .returned (.string ⟨(printS a).toArray⟩) ∧ Below w.heap.size w w' := by
  unfold printS
  rcases fam_or a with h | h
  · rw [if_pos h]; exact print4_any E ha h
  · rw [if_neg (by omega)]; exact print6_any E ha h
/-- How far an address begins as an IPv4 one does. -/
theorem mapd_at {i : Nat} (h : i < 12) : mapd[i]? = some (if i < 10 then 0 else 255) := by
  match i, h with
  | 0, _ | 1, _ | 2, _ | 3, _ | 4, _ | 5, _ | 6, _ | 7, _ | 8, _ | 9, _ | 10, _ | 11, _ => rfl
theorem fam_no {a : List Int} {i : Nat} {x : Int} (hi : i < 12) (hx : a[i]? = some x) (h : x ≠ if i < 10 then 0 else 255) : fam a = 6 := by
  unfold fam
  refine if_neg fun e => h ?_
  have h1 : (a.take 12)[i]? = some x := by rw [List.getElem?_take_of_lt hi]; exact hx
  rw [e, mapd_at hi] at h1
  exact (Option.some.inj h1).symm
theorem fam_yes {a : List Int} (ha : isA a) (h : ∀ i x, i < 12 → a[i]? = some x → x = if i < 10 then 0 else 255) : fam a = 4 := by
  unfold fam
  refine if_pos (List.ext_getElem? fun i => ?_)
  by_cases hi : i < 12
  · obtain ⟨x, hx⟩ := get_some (l := a) (j := i) (by rw [ha.1]; omega)
    rw [List.getElem?_take_of_lt hi, hx, mapd_at hi, h i x hi hx]
  · rw [List.getElem?_eq_none (by simp; omega), List.getElem?_eq_none (by simp [mapd]; omega)]
set_option maxRecDepth 100000 in
set_option maxHeartbeats 1600000 in
/-- Family, the document's. -/
theorem rfam_any {w : World} {a : List Int} (ha : isA a) : Calls Tryz.prog 33 #[vA a] w fun e w' => e = .returned (.int .i64 (fam a)) ∧ Below w.heap.size w w' := by
  have bel : Below w.heap.size w (w.alloc (oA a)) := (Below.refl _ _).alloc (Nat.le_refl _) _
  have hb := Lib.hid (box1 w (oA a))
  have Ha := Lib.hid ha
  clear ha
  unfold vA
  go_enter Tryz.func33, Tryz.ntmps33
  go_wp2
  go_loop [3] (fun x3 => ∃ i : Nat, i ≤ 12 ∧ x3 = .int .i64 i ∧ Hid (∀ j x, j < i → a[j]? = some x → x = if j < 10 then 0 else 255)) (fun x3 => 12 - (intOf x3).toNat)
  case atStart => exact ⟨0, by omega, rfl, Lib.hid fun j x h => by omega⟩
  case round =>
    obtain ⟨i, hi, rfl, hall⟩ := hrel
    by_cases hlt : i < 12
    · obtain ⟨x, hx, -, x0, x1⟩ := isA_getD Ha.out (j := i) (by omega)
      have c1 : (w.alloc (oA a)).cell? ⟨w.heap.size, i, none⟩ = some (.int .u8 x) := (row_cell hb.out).trans (by rw [List.getElem?_toArray]; exact nums_get hx)
      unfold oA at c1
      by_cases h : x = if i < 10 then 0 else 255
      · have hnx : Hid (∀ j x, j < i + 1 → a[j]? = some x → x = if j < 10 then 0 else 255) := Lib.hid fun j y hj hy => by
          by_cases hji : j = i
          · subst hji; rw [hx] at hy; cases hy; exact h
          · exact hall.out j y (by omega) hy
        replace hx := Lib.hid hx
        by_cases h10 : i < 10
        · rw [if_pos h10] at h
          subst h
          go_wp2
          refine ⟨⟨i + 1, by omega, by congr 1, hnx⟩, by simp [intOf]; omega⟩
        · rw [if_neg h10] at h
          subst h
          go_wp2
          refine ⟨⟨i + 1, by omega, by congr 1, hnx⟩, by simp [intOf]; omega⟩
      · have hf := Lib.hid (fam_no hlt hx h)
        replace hx := Lib.hid hx
        by_cases h10 : i < 10
        · rw [if_pos h10] at h
          have hb2 : (x == 0) = false := by simpa using h
          replace h := Lib.hid h
          go_wp2
          go_ret
          exact ⟨by rw [hf.out]; rfl, bel⟩
        · rw [if_neg h10] at h
          have hb2 : (x == 255) = false := by simpa using h
          replace h := Lib.hid h
          go_wp2
          go_ret
          exact ⟨by rw [hf.out]; rfl, bel⟩
    · obtain rfl : i = 12 := by omega
      have hf := Lib.hid (fam_yes Ha.out fun j x h hx => hall.out j x h hx)
      go_wp2
      go_ret
      exact ⟨by rw [hf.out]; rfl, bel⟩
end Go.Proofs.YtnljjlaececnkaaGreatDoor
/-
  Bits: an address without its last bits, bit by bit. No condition.
-/
namespace Go.Proofs.YtnljjlaececnkaaGreatDoor
open Go.RowKit
set_option linter.unusedVariables false
set_option linter.unusedSimpArgs false
/-- A bit; a byte without it. -/
def bt (x : Int) (r : Nat) : Int := bits .and .i64 (x / 2 ^ (7 - r)) 1
def cl (x : Int) (r : Nat) : Int := bits .andNot .u8 x (128 / 2 ^ r)
/-- A byte without its bits from k on, up to h. -/
def mskR (x : Int) (k : Nat) : Nat → Int
  | 0 => x
  | h + 1 => if k ≤ h then cl (mskR x k h) h else mskR x k h
theorem mskR_fin : ∀ x : Fin 256, ∀ k : Fin 9, mskR x.val k.val 8 = mskB x.val k.val ∧ ∀ h : Fin 9, 0 ≤ mskR x.val k.val h.val ∧ mskR x.val k.val h.val < 256 := by decide +kernel
theorem bt_fin : ∀ x : Fin 256, ∀ r : Fin 8, (bt x.val r.val = 0 ∧ cl x.val r.val = x.val) ∨ (bt x.val r.val = 1 ∧ ∀ k : Fin 9, k.val ≤ r.val → mskB x.val k.val ≠ x.val) := by decide +kernel
theorem sh_fin : ∀ x : Fin 256, ∀ r : Fin 8, 0 ≤ ((x.val : Nat) : Int) / 2 ^ (7 - r.val) ∧ ((x.val : Nat) : Int) / 2 ^ (7 - r.val) < 256 := by decide +kernel
theorem mskR_all {x : Int} (hx : 0 ≤ x ∧ x < 256) {k : Nat} (hk : k ≤ 8) : mskR x k 8 = mskB x k := by
  obtain ⟨f, rfl⟩ := byte_fin hx
  exact (mskR_fin f ⟨k, by omega⟩).1
theorem mskR_rng {x : Int} (hx : 0 ≤ x ∧ x < 256) {k h : Nat} (hk : k ≤ 8) (hh : h ≤ 8) : 0 ≤ mskR x k h ∧ mskR x k h < 256 := by
  obtain ⟨f, rfl⟩ := byte_fin hx
  exact (mskR_fin f ⟨k, by omega⟩).2 ⟨h, by omega⟩
theorem mskR_same {x : Int} {k : Nat} : ∀ {h : Nat}, h ≤ k → mskR x k h = x
  | 0, _ => rfl
  | h + 1, hk => by unfold mskR; rw [if_neg (by omega)]; exact mskR_same (by omega)
theorem bt_cases {x : Int} (hx : 0 ≤ x ∧ x < 256) {r : Nat} (hr : r < 8) : (bt x r = 0 ∧ cl x r = x) ∨ (bt x r = 1 ∧ ∀ k : Nat, k ≤ r → mskB x k ≠ x) := by
  obtain ⟨f, rfl⟩ := byte_fin hx
  rcases bt_fin f ⟨r, hr⟩ with h | ⟨h1, h2⟩
  · exact .inl h
  · exact .inr ⟨h1, fun k hk => h2 ⟨k, by omega⟩ hk⟩
theorem sh_rng {x : Int} (hx : 0 ≤ x ∧ x < 256) {r : Nat} (hr : r < 8) : 0 ≤ x / 2 ^ (7 - r) ∧ x / 2 ^ (7 - r) < 256 := by
  obtain ⟨f, rfl⟩ := byte_fin hx
  exact sh_fin f ⟨r, hr⟩
/-- The address, its bits from n on cleared up to bit i. -/
def mskI (a : List Int) (n i : Nat) : List Int := a.zipIdx.map fun p => mskR p.1 (keepOf n p.2) (keepOf i p.2)
theorem mskI_get (a : List Int) (n i j : Nat) : (mskI a n i)[j]? = (a[j]?).map fun x => mskR x (keepOf n j) (keepOf i j) := by
  unfold mskI
  rw [List.getElem?_map, List.getElem?_zipIdx]
  cases a[j]? <;> simp
theorem mskO_get (a : List Int) (n : Int) (j : Nat) : (msk a n)[j]? = (a[j]?).map fun x => mskB x (keepOf n j) := by
  unfold msk
  rw [List.getElem?_map, List.getElem?_zipIdx]
  cases a[j]? <;> simp
theorem keep_other {i j : Nat} (h : j ≠ i / 8) : keepOf ((i + 1 : Nat) : Int) j = keepOf (i : Int) j := by unfold keepOf; omega
theorem keep_this (i : Nat) : keepOf (i : Int) (i / 8) = i % 8 ∧ keepOf ((i + 1 : Nat) : Int) (i / 8) = i % 8 + 1 := by unfold keepOf; omega
theorem keep_low {n i : Nat} (h : n ≤ i) : keepOf (n : Int) (i / 8) ≤ i % 8 := by unfold keepOf; omega
theorem mskI_ok {a : List Int} (ha : isA a) (n i : Nat) : isA (mskI a n i) := by
  refine ⟨by simp [mskI, ha.1], fun x hx => ?_⟩
  obtain ⟨j, hj⟩ := List.getElem?_of_mem hx
  rw [mskI_get] at hj
  obtain ⟨y, hy, rfl⟩ := Option.map_eq_some_iff.1 hj
  exact mskR_rng (ha.2 y (List.mem_of_getElem? hy)) (keep_le _ _) (keep_le _ _)
theorem mskI_start {a : List Int} (n : Nat) : mskI a n n = a := by
  apply List.ext_getElem?
  intro j
  rw [mskI_get]
  cases h : a[j]? with
  | none => rfl
  | some x => simp [mskR_same (Nat.le_refl (keepOf (n : Int) j))]
theorem mskI_end {a : List Int} (ha : isA a) (n : Nat) : mskI a n 128 = msk a n := by
  apply List.ext_getElem?
  intro j
  rw [mskI_get, mskO_get]
  cases h : a[j]? with
  | none => rfl
  | some x =>
    have hj : j < 16 := by have := (List.getElem?_eq_some_iff.1 h).1; rw [ha.1] at this; exact this
    have hk : keepOf ((128 : Nat) : Int) j = 8 := by unfold keepOf; omega
    rw [Option.map_some, Option.map_some, hk, mskR_all (ha.2 x (List.mem_of_getElem? h)) (keep_le _ _)]
theorem mskI_step {a : List Int} {n i : Nat} {x : Int} (hni : n ≤ i) (hx : (mskI a n i)[i / 8]? = some x) : mskI a n (i + 1) = (mskI a n i).set (i / 8) (cl x (i % 8)) := by
  apply List.ext_getElem?
  intro j
  by_cases hj : j = i / 8
  · subst hj
    rw [List.getElem?_set_self (List.getElem?_eq_some_iff.1 hx).1, mskI_get]
    rw [mskI_get] at hx
    obtain ⟨y, hy, h2⟩ := Option.map_eq_some_iff.1 hx
    rw [hy, Option.map_some, (keep_this i).2]
    rw [(keep_this i).1] at h2
    unfold mskR
    rw [if_pos (keep_low hni), h2]
  · rw [List.getElem?_set_ne (fun e => hj e.symm), mskI_get, mskI_get, keep_other hj]
theorem mskI_keep {a : List Int} {n i : Nat} {x : Int} (hni : n ≤ i) (h : mskI a n i = a) (hx : a[i / 8]? = some x) (hc : cl x (i % 8) = x) : mskI a n (i + 1) = a := by
  rw [mskI_step hni (x := x) (by rw [h]; exact hx), h, hc]
  apply List.ext_getElem?
  intro j
  by_cases hj : j = i / 8
  · subst hj
    rw [List.getElem?_set_self (List.getElem?_eq_some_iff.1 hx).1, hx]
  · rw [List.getElem?_set_ne (fun e => hj e.symm)]
theorem msk_not {a : List Int} {n i : Nat} {x : Int} (hni : n ≤ i) (hx : a[i / 8]? = some x) (hc : ∀ k : Nat, k ≤ i % 8 → mskB x k ≠ x) : msk a n ≠ a := fun e => by
  have h1 := mskO_get a (n : Int) (i / 8)
  rw [e, hx, Option.map_some] at h1
  exact hc _ (keep_low hni) (Option.some.inj h1).symm
end Go.Proofs.YtnljjlaececnkaaGreatDoor
/-
  The document's bits: a bit, an address without its last bits, may a prefix be. No condition.
-/
namespace Go.Proofs.YtnljjlaececnkaaGreatDoor
open Go.RowKit
set_option linter.unusedVariables false
set_option linter.unusedSimpArgs false
set_option maxRecDepth 100000 in
theorem bit_any {w : World} {a : List Int} (ha : isA a) {i : Nat} (hi : i < 128) {x : Int} (hx : a[i / 8]? = some x) : Calls Tryz.prog 127 #[vA a, .int .i64 i] w fun e w' => e = .returned (.int .i64 (bt x (i % 8))) ∧ Below w.heap.size w w' := by
  have hb := box1 w (oA a)
  have hq1 : Int.tdiv (i : Int) 8 = ((i / 8 : Nat) : Int) := by rw [Int.tdiv_eq_ediv_of_nonneg (by omega)]; omega
  have hq2 : Int.tmod (i : Int) 8 = ((i % 8 : Nat) : Int) := by rw [Int.tmod_eq_emod_of_nonneg (by omega)]; omega
  have c0 : (w.alloc (oA a)).cell? ⟨w.heap.size, i / 8, none⟩ = some (.int .u8 x) := (row_cell hb).trans (by rw [List.getElem?_toArray]; exact nums_get hx)
  have hw1 : IntKind.i64.wrap ((i / 8 : Nat) : Int) = ((i / 8 : Nat) : Int) := IntWalk.i64_in _ (by omega)
  have hw2 : IntKind.i64.wrap ((i % 8 : Nat) : Int) = ((i % 8 : Nat) : Int) := IntWalk.i64_in _ (by omega)
  have hw3 : IntKind.i64.wrap (7 - ((i % 8 : Nat) : Int)) = ((7 - i % 8 : Nat) : Int) := (IntWalk.i64_in _ (by omega)).trans (by omega)
  have hw4 : IntKind.u64.wrap ((7 - i % 8 : Nat) : Int) = ((7 - i % 8 : Nat) : Int) := IntWalk.u64_in _ (by omega)
  have h1 : i / 8 < 16 := by omega
  have h2 : i % 8 < 8 := by omega
  have hs := sh_rng (ha.2 x (List.mem_of_getElem? hx)) h2
  have hw5 : IntKind.i64.wrap (x / 2 ^ (7 - i % 8)) = x / 2 ^ (7 - i % 8) := IntWalk.i64_in _ (by omega)
  have hres : Hid (bits .and .i64 (x / 2 ^ (7 - i % 8)) 1 = bt x (i % 8)) := Lib.hid rfl
  have bel0 : Below w.heap.size w (w.alloc (oA a)) := (Below.refl _ _).alloc (Nat.le_refl _) _
  clear hs
  generalize i / 8 = b at *
  generalize i % 8 = r at *
  unfold oA at c0 bel0
  clear hb hx
  unfold vA
  go_enter Tryz.func127, Tryz.ntmps127
  go_wp2
  go_ret
  exact ⟨by rw [← hres.out]; rfl, bel0⟩
set_option maxRecDepth 100000 in
set_option maxHeartbeats 1600000 in
theorem rmasked_any {w : World} {a : List Int} (ha : isA a) {n : Nat} (hn : n ≤ 128) : Calls Tryz.prog 126 #[vA a, .int .i64 n] w fun e w' => e = .returned (vA (msk a n)) ∧ Below w.heap.size w w' := by
  have HA := Lib.hid ha
  have hb0 := Lib.hid (box21 w (oA a) (oA zeroA))
  have hb1 := Lib.hid (box22 w (oA a) (oA zeroA))
  have bel0 : Below w.heap.size w ((w.alloc (oA a)).alloc (oA zeroA)) := ((Below.refl _ _).alloc (Nat.le_refl _) _).alloc (by simp) _
  have hend := mskI_end ha n
  replace hend := Lib.hid hend
  have hst := mskI_start (a := a) n
  replace hst := Lib.hid hst
  clear ha
  unfold vA
  go_enter Tryz.func126, Tryz.ntmps126
  go_wp2
  go_loopw [5] (fun x5 wr => ∃ i : Nat, n ≤ i ∧ i ≤ 128 ∧ x5 = .int .i64 i ∧ Hid (wr.heap[w.heap.size]? = some (oA (mskI a n i))) ∧ Hid (wr.heap[w.heap.size + 1]? = some (oA zeroA)) ∧ Below w.heap.size w wr) (fun x5 wr => 128 - (intOf x5).toNat)
  case atStart => exact ⟨n, Nat.le_refl _, hn, rfl, Lib.hid (by rw [hst.out]; exact hb0.out), hb1, bel0⟩
  case round =>
    obtain ⟨i, hi1, hi2, rfl, hr, hz, bel⟩ := hrel
    by_cases hlt : i < 128
    · obtain ⟨x, hx⟩ := get_some (l := mskI a n i) (j := i / 8) (by rw [(mskI_ok HA.out n i).1]; omega)
      have hstep := mskI_step hi1 hx
      have hq1 : Int.tdiv (i : Int) 8 = ((i / 8 : Nat) : Int) := by rw [Int.tdiv_eq_ediv_of_nonneg (by omega)]; omega
      have hq2 : Int.tmod (i : Int) 8 = ((i % 8 : Nat) : Int) := by rw [Int.tmod_eq_emod_of_nonneg (by omega)]; omega
      have c0 : wr.cell? ⟨w.heap.size, i / 8, none⟩ = some (.int .u8 x) := (row_cell hr.out).trans (by rw [List.getElem?_toArray]; exact nums_get hx)
      have f0 : wr.frozen? ⟨w.heap.size, i / 8, none⟩ = false := row_free hr.out
      have hw1 : IntKind.i64.wrap ((i / 8 : Nat) : Int) = ((i / 8 : Nat) : Int) := IntWalk.i64_in _ (by omega)
      have hw2 : IntKind.i64.wrap ((i % 8 : Nat) : Int) = ((i % 8 : Nat) : Int) := IntWalk.i64_in _ (by omega)
      have hw4 : IntKind.u64.wrap ((i % 8 : Nat) : Int) = ((i % 8 : Nat) : Int) := IntWalk.u64_in _ (by omega)
      have hw6 : IntKind.i64.wrap ((i : Int) + 1) = ((i + 1 : Nat) : Int) := (IntWalk.i64_in _ (by omega)).trans (by omega)
      have h1 : i / 8 < 16 := by omega
      have h2 : i % 8 < 8 := by omega
      have hcl : bits .andNot .u8 x (128 / 2 ^ (i % 8)) = cl x (i % 8) := rfl
      have hset := Lib.hid (row_set hr.out (i := i / 8) (cs' := (nums .u8 (mskI a n (i + 1))).toArray) (.int .u8 (cl x (i % 8))) (by rw [List.setIfInBounds_toArray, nums_set, hstep]))
      have fr1 := Lib.hid (Fr.setCell (S := fun b => b = w.heap.size) (Fr.refl _ wr) (p := ⟨w.heap.size, i / 8, none⟩) (.inl rfl) (.int .u8 (cl x (i % 8))))
      generalize i / 8 = b at *
      generalize i % 8 = r at *
      clear hx hstep
      go_wp2
      refine ⟨⟨i + 1, by omega, by omega, by congr 1, hset, Lib.hid (fr1.out.obj hz.out (by omega)), bel.trans (fr1.out.belowS (fun b hb => Nat.le_of_eq hb.symm) bel.size)⟩, by simp [intOf]; omega⟩
    · obtain rfl : i = 128 := by omega
      have hr2 := hr.out
      rw [hend.out] at hr2
      have ok := Lib.hid (isA_msk HA.out (n : Int))
      replace hr2 := Lib.hid hr2
      clear hr
      go_wp2_with (first
        | (refine wpList_load_mid rfl 42 (.tmp 2) rfl w.heap.size 0 rfl (nums .u8 (msk a n)) _ (row_load hr2.out) Tryz.underlying42 rfl (info42 ok.out) ?_)
        | (refine wpList_store_row rfl 42 (.tmp 4) (.tmp 23) rfl (w.heap.size + 1) _ rfl rfl 42 (nums .u8 zeroA).toArray hz.out (info42 ok.out) (by rw [sizeA zeroA_ok, sizeA ok.out]) (numsA_one _) ?_))
      refine bodyPost_ret (v := vA (msk a n)) ?_ rfl ⟨rfl, below_row bel (by omega) _⟩
      exact results_cell_only rfl _ _ rfl (BoxA.run (a := msk a n) (setRow_heap _ _ _ _ _ _ hz.out) ok.out)
def codeP (b : Bool) : Int := if b then 0 else 21
set_option maxRecDepth 100000 in
set_option maxHeartbeats 1600000 in
/-- Check. -/
theorem rcheck_any {w : World} {p : Pf} (hp : p.ok) : Calls Tryz.prog 63 #[vPf p] w fun e w' => e = .returned (.int .i64 (codeP (chk p))) ∧ Below w.heap.size w w' := by
  have HP := Lib.hid hp
  have hb0 := Lib.hid (box1 w (oP p))
  have q1 := (BoxP.run hb0.out hp.1).2.1
  have bel0 : Below w.heap.size w (w.alloc (oP p)) := (Below.refl _ _).alloc (Nat.le_refl _) _
  unfold oP at q1
  have hwf := i64_of_wf hp.2
  clear hp
  by_cases h0 : p.n < 0
  · have hd : decide (p.n < 0) = true := decide_eq_true h0
    have hr : codeP (chk p) = 21 := by have : chk p = false := by { unfold chk; rw [decide_eq_false (by omega)]; rfl }; rw [this]; rfl
    rw [hr]
    unfold vPf
    go_enter Tryz.func63, Tryz.ntmps63
    go_wp2
    go_ret
    exact ⟨rfl, bel0⟩
  · have hd : decide (p.n < 0) = false := decide_eq_false h0
    by_cases h1 : 128 < p.n
    · have hd2 : decide (128 < p.n) = true := decide_eq_true h1
      have hr : codeP (chk p) = 21 := by have : chk p = false := by { unfold chk; rw [decide_eq_false (show ¬ p.n ≤ 128 by omega)]; simp }; rw [this]; rfl
      rw [hr]
      unfold vPf
      go_enter Tryz.func63, Tryz.ntmps63
      go_wp2
      go_ret
      exact ⟨rfl, bel0⟩
    · have hd2 : decide (128 < p.n) = false := decide_eq_false h1
      obtain ⟨n, hn⟩ : ∃ n : Nat, p.n = n := ⟨p.n.toNat, by omega⟩
      have hchk : chk p = decide (msk p.a (n : Int) = p.a) := by unfold chk; rw [hn, decide_eq_true (show (0 : Int) ≤ n by omega), decide_eq_true (show (n : Int) ≤ 128 by omega)]; rfl
      replace hchk := Lib.hid hchk
      have hst := mskI_start (a := p.a) n
      have hend := mskI_end HP.out.1 n
      replace hst := Lib.hid hst
      replace hend := Lib.hid hend
      have hn128 : n ≤ 128 := by omega
      replace hn := Lib.hid hn
      unfold vPf
      go_enter Tryz.func63, Tryz.ntmps63
      go_wp2
      go_loopw [3] (fun x3 wr => ∃ i : Nat, n ≤ i ∧ i ≤ 128 ∧ x3 = .int .i64 i ∧ Hid (mskI p.a n i = p.a) ∧ Hid (wr.heap[w.heap.size]? = some (oP p)) ∧ Below w.heap.size w wr) (fun x3 wr => 128 - (intOf x3).toNat)
      case atStart => exact ⟨n, Nat.le_refl _, hn128, by rw [hn.out], hst, hb0, bel0⟩
      case round =>
        obtain ⟨i, hi1, hi2, rfl, hm, hb, bel⟩ := hrel
        clear q1
        by_cases hlt : i < 128
        · obtain ⟨x, hx⟩ := get_some (l := p.a) (j := i / 8) (by rw [HP.out.1.1]; omega)
          have hbit := fun W => bit_any (w := W) HP.out.1 hlt hx
          have hrng := HP.out.1.2 x (List.mem_of_getElem? hx)
          have hw6 : IntKind.i64.wrap ((i : Int) + 1) = ((i + 1 : Nat) : Int) := (IntWalk.i64_in _ (by omega)).trans (by omega)
          rcases bt_cases hrng (r := i % 8) (by omega) with ⟨b1, b2⟩ | ⟨b1, b2⟩
          · rw [b1] at hbit
            have hm2 := Lib.hid (mskI_keep hi1 hm.out hx b2)
            clear hx b1 b2
            go_wp2_with (first
              | (refine wpList_load_mid rfl 42 (.tmp 18) rfl w.heap.size 0 rfl (nums .u8 p.a) _ (fun j v hj => row_load hb.out j v (pCs_at hj)) Tryz.underlying42 rfl (info42 HP.out.1) ?_)
              | (go_at_call 127; refine (hbit _).mono ?_; clear hbit; rintro e w2 ⟨rfl, bel2⟩; have hb2 := Lib.hid (Below.box hb.out bel2 (lt_of_obj hb.out))))
            refine ⟨⟨i + 1, by omega, by omega, by congr 1, hm2, hb2, bel.trans (bel2.mono bel.size)⟩, by simp [intOf]; omega⟩
          · rw [b1] at hbit
            have hno : codeP (chk p) = 21 := by rw [hchk.out, decide_eq_false (msk_not hi1 hx b2)]; rfl
            replace hno := Lib.hid hno
            clear hx b1 b2
            go_wp2_with (first
              | (refine wpList_load_mid rfl 42 (.tmp 18) rfl w.heap.size 0 rfl (nums .u8 p.a) _ (fun j v hj => row_load hb.out j v (pCs_at hj)) Tryz.underlying42 rfl (info42 HP.out.1) ?_)
              | (go_at_call 127; refine (hbit _).mono ?_; clear hbit; rintro e w2 ⟨rfl, bel2⟩))
            go_ret
            exact ⟨by rw [hno.out]; rfl, bel.trans (bel2.mono bel.size)⟩
        · obtain rfl : i = 128 := by omega
          have hyes : codeP (chk p) = 0 := by rw [hchk.out, decide_eq_true (by rw [← hend.out, hm.out])]; rfl
          replace hyes := Lib.hid hyes
          go_wp2
          go_ret
          exact ⟨by rw [hyes.out]; rfl, bel⟩
end Go.Proofs.YtnljjlaececnkaaGreatDoor
/-
  The document's prefixes: what is in them, their order, the first bits. No condition.
-/
namespace Go.Proofs.YtnljjlaececnkaaGreatDoor
open Go.RowKit
set_option linter.unusedVariables false
set_option linter.unusedSimpArgs false
theorem rmaskI_any {w : World} {a : List Int} (ha : isA a) {n : Int} (h0 : 0 ≤ n) (h1 : n ≤ 128) : Calls Tryz.prog 126 #[vA a, .int .i64 n] w fun e w' => e = .returned (vA (msk a n)) ∧ Below w.heap.size w w' := by
  obtain ⟨m, rfl⟩ : ∃ m : Nat, n = m := ⟨n.toNat, by omega⟩
  exact rmasked_any ha (by omega)
set_option maxRecDepth 100000 in
set_option maxHeartbeats 1600000 in
/-- Contains. -/
theorem rcont_any {w : World} {p : Pf} {a : List Int} (hp : p.ok) (ha : isA a) : Calls Tryz.prog 67 #[vPf p, vA a] w fun e w' => e = .returned (.bool (cont p a)) ∧ Below w.heap.size w w' := by
  obtain ⟨c, hc⟩ : ∃ c, chk p = c := ⟨_, rfl⟩
  cases c
  · have hr : cont p a = false := by simp [cont, hc]
    rw [hr]
    clear hr
    replace hp := Lib.hid hp
    replace ha := Lib.hid ha
    unfold vPf vA
    go_enter Tryz.func67, Tryz.ntmps67
    go_wp2_with fail
    refine wp_region_C (C := Bx w w.heap.size [(w.heap.size, oP p), (w.heap.size + 1, oA a)]) (by kernel_rfl) (by kernel_rfl) (Bx.drew (Bx.start2 w (oP p) (oA a))) ?_
    refine wpQuiet_hide ?_
    intro lq hlq
    refine wpQuiet_step_h hlq ?_
    clear hlq lq
    intro K lq hlq hK
    refine wanted_go (by rfl) ?_
    refine ⟨vPf p, fun W hW => ?_, ?_⟩
    · obtain ⟨q1, q2, q3⟩ := BoxP.run hW.2.1.1 hp.out.1; have q4 := BoxA.run hW.2.1.2.1 ha.out
      exact quiet_load 55 _ rfl rfl q3
    refine hK _ ?_
    clear hK K
    (try simp only [Act.put, List.setIfInBounds_toArray, List.set_cons_zero, List.set_cons_succ])
    refine wpQuiet_step_h hlq ?_
    clear hlq lq
    intro K lq hlq hK
    refine wanted_go (by rfl) ?_
    refine ⟨.int .i64 21, fun W hW => ?_, ?_⟩
    · go_simp
      refine (rcheck_any hp.out).mono fun e W2 hc2 => ⟨by rw [hc2.1, hc]; rfl, hW.go hc2.2⟩
    refine hK _ ?_
    clear hK K
    (try simp only [Act.put, List.setIfInBounds_toArray, List.set_cons_zero, List.set_cons_succ])
    refine wpQuiet_step_h hlq ?_
    clear hlq lq
    intro K lq hlq hK
    refine wanted_go (by rfl) ?_
    refine ⟨?_, fun W hW => ?_, ?_⟩
    rotate_left
    · obtain ⟨q1, q2, q3⟩ := BoxP.run hW.2.1.1 hp.out.1; have q4 := BoxA.run hW.2.1.2.1 ha.out
      go_simp
      with_reducible rfl
    refine hK _ ?_
    clear hK K
    (try simp only [Act.put, List.setIfInBounds_toArray, List.set_cons_zero, List.set_cons_succ])
    refine wpQuiet_step_h hlq ?_
    clear hlq lq
    intro K lq hlq hK
    refine wanted_go (by rfl) ?_
    refine ⟨?_, fun W hW => ?_, ?_⟩
    rotate_left
    · obtain ⟨q1, q2, q3⟩ := BoxP.run hW.2.1.1 hp.out.1; have q4 := BoxA.run hW.2.1.2.1 ha.out
      go_simp
      with_reducible rfl
    refine hK _ ?_
    clear hK K
    (try simp only [Act.put, List.setIfInBounds_toArray, List.set_cons_zero, List.set_cons_succ])
    refine wpQuiet_step_h hlq ?_
    clear hlq lq
    intro K lq hlq hK
    go_simp
    refine hK _ ?_
    clear hK K
    refine wpQuiet_step_h hlq ?_
    clear hlq lq
    intro K lq hlq hK
    go_simp
    refine hK _ ?_
    clear hK K
    refine wpQuiet_step_h hlq ?_
    clear hlq lq
    intro K lq hlq hK
    go_simp
    refine hK _ ?_
    clear hK K
    refine wpQuiet_step_h hlq ?_
    clear hlq lq
    intro K lq hlq hK
    go_simp
    refine hK _ ?_
    clear hK K
    refine wpQuiet_step_h hlq ?_
    clear hlq lq
    intro K lq hlq hK
    go_simp
    refine hK _ ?_
    clear hK K
    refine wpQuiet_step_h hlq ?_
    clear hlq lq
    intro K lq hlq hK
    go_simp
    refine hK _ ?_
    clear hK K
    refine wpQuiet_step_h hlq ?_
    clear hlq lq
    intro K lq hlq hK
    go_simp
    refine hK _ ?_
    clear hK K
    refine wpQuiet_step_h hlq ?_
    clear hlq lq
    intro K lq hlq hK
    refine wanted_go (by rfl) ?_
    refine ⟨?_, fun W hW => ?_, ?_⟩
    rotate_left
    · obtain ⟨q1, q2, q3⟩ := BoxP.run hW.2.1.1 hp.out.1; have q4 := BoxA.run hW.2.1.2.1 ha.out
      go_simp
      with_reducible rfl
    refine hK _ ?_
    clear hK K
    (try simp only [Act.put, List.setIfInBounds_toArray, List.set_cons_zero, List.set_cons_succ])
    refine wpQuiet_step_h hlq ?_
    clear hlq lq
    intro K lq hlq hK
    refine wanted_go (by rfl) ?_
    refine ⟨?_, fun W hW => ?_, ?_⟩
    rotate_left
    · obtain ⟨q1, q2, q3⟩ := BoxP.run hW.2.1.1 hp.out.1; have q4 := BoxA.run hW.2.1.2.1 ha.out
      go_simp
      with_reducible rfl
    refine hK _ ?_
    clear hK K
    (try simp only [Act.put, List.setIfInBounds_toArray, List.set_cons_zero, List.set_cons_succ])
    refine wpQuiet_nil_h hlq ?_
    clear hlq lq
    intro w' hC'
    go_wp2_with fail
    go_ret
    exact ⟨rfl, hC'.1⟩
  · obtain ⟨h0, h1, h2⟩ := (chk_iff p).1 hc
    have hne := fun W => eql_A W (isA_msk ha p.n) hp.1
    obtain ⟨b, hb⟩ : ∃ b : Bool, decide (msk a p.n = p.a) = b := ⟨_, rfl⟩
    have hr : cont p a = b := by simp [cont, hc, hb]
    rw [hb] at hne
    rw [hr]
    clear hr hb h2
    replace hp := Lib.hid hp
    replace ha := Lib.hid ha
    unfold vPf vA
    go_enter Tryz.func67, Tryz.ntmps67
    go_wp2_with fail
    refine wp_region_C (C := Bx w w.heap.size [(w.heap.size, oP p), (w.heap.size + 1, oA a)]) (by kernel_rfl) (by kernel_rfl) (Bx.drew (Bx.start2 w (oP p) (oA a))) ?_
    refine wpQuiet_hide ?_
    intro lq hlq
    refine wpQuiet_step_h hlq ?_
    clear hlq lq
    intro K lq hlq hK
    refine wanted_go (by rfl) ?_
    refine ⟨vPf p, fun W hW => ?_, ?_⟩
    · obtain ⟨q1, q2, q3⟩ := BoxP.run hW.2.1.1 hp.out.1; have q4 := BoxA.run hW.2.1.2.1 ha.out
      exact quiet_load 55 _ rfl rfl q3
    refine hK _ ?_
    clear hK K
    (try simp only [Act.put, List.setIfInBounds_toArray, List.set_cons_zero, List.set_cons_succ])
    refine wpQuiet_step_h hlq ?_
    clear hlq lq
    intro K lq hlq hK
    refine wanted_go (by rfl) ?_
    refine ⟨.int .i64 0, fun W hW => ?_, ?_⟩
    · go_simp
      refine (rcheck_any hp.out).mono fun e W2 hc2 => ⟨by rw [hc2.1, hc]; rfl, hW.go hc2.2⟩
    refine hK _ ?_
    clear hK K
    (try simp only [Act.put, List.setIfInBounds_toArray, List.set_cons_zero, List.set_cons_succ])
    refine wpQuiet_step_h hlq ?_
    clear hlq lq
    intro K lq hlq hK
    refine wanted_go (by rfl) ?_
    refine ⟨?_, fun W hW => ?_, ?_⟩
    rotate_left
    · obtain ⟨q1, q2, q3⟩ := BoxP.run hW.2.1.1 hp.out.1; have q4 := BoxA.run hW.2.1.2.1 ha.out
      go_simp
      with_reducible rfl
    refine hK _ ?_
    clear hK K
    (try simp only [Act.put, List.setIfInBounds_toArray, List.set_cons_zero, List.set_cons_succ])
    refine wpQuiet_step_h hlq ?_
    clear hlq lq
    intro K lq hlq hK
    refine wanted_go (by rfl) ?_
    refine ⟨?_, fun W hW => ?_, ?_⟩
    rotate_left
    · obtain ⟨q1, q2, q3⟩ := BoxP.run hW.2.1.1 hp.out.1; have q4 := BoxA.run hW.2.1.2.1 ha.out
      go_simp
      with_reducible rfl
    refine hK _ ?_
    clear hK K
    (try simp only [Act.put, List.setIfInBounds_toArray, List.set_cons_zero, List.set_cons_succ])
    refine wpQuiet_step_h hlq ?_
    clear hlq lq
    intro K lq hlq hK
    refine wanted_go (by rfl) ?_
    refine ⟨vA a, fun W hW => ?_, ?_⟩
    · obtain ⟨q1, q2, q3⟩ := BoxP.run hW.2.1.1 hp.out.1; have q4 := BoxA.run hW.2.1.2.1 ha.out
      exact quiet_load 42 _ rfl rfl q4
    refine hK _ ?_
    clear hK K
    (try simp only [Act.put, List.setIfInBounds_toArray, List.set_cons_zero, List.set_cons_succ])
    refine wpQuiet_step_h hlq ?_
    clear hlq lq
    intro K lq hlq hK
    refine wanted_go (by rfl) ?_
    refine ⟨?_, fun W hW => ?_, ?_⟩
    rotate_left
    · obtain ⟨q1, q2, q3⟩ := BoxP.run hW.2.1.1 hp.out.1; have q4 := BoxA.run hW.2.1.2.1 ha.out
      go_simp
      with_reducible rfl
    refine hK _ ?_
    clear hK K
    (try simp only [Act.put, List.setIfInBounds_toArray, List.set_cons_zero, List.set_cons_succ])
    refine wpQuiet_step_h hlq ?_
    clear hlq lq
    intro K lq hlq hK
    refine wanted_go (by rfl) ?_
    refine ⟨?_, fun W hW => ?_, ?_⟩
    rotate_left
    · obtain ⟨q1, q2, q3⟩ := BoxP.run hW.2.1.1 hp.out.1; have q4 := BoxA.run hW.2.1.2.1 ha.out
      go_simp
      with_reducible rfl
    refine hK _ ?_
    clear hK K
    (try simp only [Act.put, List.setIfInBounds_toArray, List.set_cons_zero, List.set_cons_succ])
    refine wpQuiet_step_h hlq ?_
    clear hlq lq
    intro K lq hlq hK
    refine wanted_go (by rfl) ?_
    refine ⟨vA (msk a p.n), fun W hW => ?_, ?_⟩
    · go_simp
      refine (rmaskI_any ha.out h0 h1).mono fun e W2 hc2 => ⟨hc2.1, hW.go hc2.2⟩
    refine hK _ ?_
    clear hK K
    (try simp only [Act.put, List.setIfInBounds_toArray, List.set_cons_zero, List.set_cons_succ])
    refine wpQuiet_step_h hlq ?_
    clear hlq lq
    intro K lq hlq hK
    refine wanted_go (by rfl) ?_
    refine ⟨?_, fun W hW => ?_, ?_⟩
    rotate_left
    · obtain ⟨q1, q2, q3⟩ := BoxP.run hW.2.1.1 hp.out.1; have q4 := BoxA.run hW.2.1.2.1 ha.out
      go_simp
      with_reducible rfl
    refine hK _ ?_
    clear hK K
    (try simp only [Act.put, List.setIfInBounds_toArray, List.set_cons_zero, List.set_cons_succ])
    refine wpQuiet_step_h hlq ?_
    clear hlq lq
    intro K lq hlq hK
    refine wanted_go (by rfl) ?_
    refine ⟨vA p.a, fun W hW => ?_, ?_⟩
    · obtain ⟨q1, q2, q3⟩ := BoxP.run hW.2.1.1 hp.out.1; have q4 := BoxA.run hW.2.1.2.1 ha.out
      exact quiet_load 42 _ rfl rfl q1
    refine hK _ ?_
    clear hK K
    (try simp only [Act.put, List.setIfInBounds_toArray, List.set_cons_zero, List.set_cons_succ])
    refine wpQuiet_step_h hlq ?_
    clear hlq lq
    intro K lq hlq hK
    refine wanted_go (by rfl) ?_
    refine ⟨.bool b, fun W hW => ?_, ?_⟩
    · obtain ⟨q1, q2, q3⟩ := BoxP.run hW.2.1.1 hp.out.1; have q4 := BoxA.run hW.2.1.2.1 ha.out
      exact quiet_eq (.inl rfl) (by rfl) (by rfl) (by rfl) guard42 (hne W)
    refine hK _ ?_
    clear hK K
    (try simp only [Act.put, List.setIfInBounds_toArray, List.set_cons_zero, List.set_cons_succ])
    refine wpQuiet_step_h hlq ?_
    clear hlq lq
    intro K lq hlq hK
    refine wanted_go (by rfl) ?_
    refine ⟨?_, fun W hW => ?_, ?_⟩
    rotate_left
    · obtain ⟨q1, q2, q3⟩ := BoxP.run hW.2.1.1 hp.out.1; have q4 := BoxA.run hW.2.1.2.1 ha.out
      go_simp
      with_reducible rfl
    refine hK _ ?_
    clear hK K
    (try simp only [Act.put, List.setIfInBounds_toArray, List.set_cons_zero, List.set_cons_succ])
    refine wpQuiet_step_h hlq ?_
    clear hlq lq
    intro K lq hlq hK
    refine wanted_go (by rfl) ?_
    refine ⟨?_, fun W hW => ?_, ?_⟩
    rotate_left
    · obtain ⟨q1, q2, q3⟩ := BoxP.run hW.2.1.1 hp.out.1; have q4 := BoxA.run hW.2.1.2.1 ha.out
      go_simp
      with_reducible rfl
    refine hK _ ?_
    clear hK K
    (try simp only [Act.put, List.setIfInBounds_toArray, List.set_cons_zero, List.set_cons_succ])
    refine wpQuiet_nil_h hlq ?_
    clear hlq lq
    intro w' hC'
    cases b
    · go_wp2_with fail
      go_ret
      exact ⟨rfl, hC'.1⟩
    · go_wp2_with fail
      go_ret
      exact ⟨rfl, hC'.1⟩
set_option maxRecDepth 100000 in
set_option maxHeartbeats 1600000 in
/-- Covers. -/
theorem rcov_any {w : World} {p q : Pf} (hp : p.ok) (hq : q.ok) : Calls Tryz.prog 68 #[vPf p, vPf q] w fun e w' => e = .returned (.bool (cov p q)) ∧ Below w.heap.size w w' := by
  obtain ⟨c, hc⟩ : ∃ c, chk q = c := ⟨_, rfl⟩
  cases c
  · have hr : cov p q = false := by simp [cov, hc]
    rw [hr]
    clear hr
    replace hp := Lib.hid hp
    replace hq := Lib.hid hq
    unfold vPf
    go_enter Tryz.func68, Tryz.ntmps68
    go_wp2_with (refine wpList_quiet (C := Bx w w.heap.size [(w.heap.size, oP p), (w.heap.size + 1, oP q)]) 17 (by rfl) (Bx.start2 w (oP p) (oP q)) ?_)
    refine wpQuiet_hide ?_
    intro lq hlq
    refine wpQuiet_step_h hlq ?_
    clear hlq lq
    intro K lq hlq hK
    refine wanted_go (by rfl) ?_
    refine ⟨vPf q, fun W hW => ?_, ?_⟩
    · obtain ⟨p1, p2, p3⟩ := BoxP.run hW.2.1.1 hp.out.1; obtain ⟨q1, q2, q3⟩ := BoxP.run hW.2.1.2.1 hq.out.1
      exact quiet_load 55 _ rfl rfl q3
    refine hK _ ?_
    clear hK K
    (try simp only [Act.put, List.setIfInBounds_toArray, List.set_cons_zero, List.set_cons_succ])
    refine wpQuiet_step_h hlq ?_
    clear hlq lq
    intro K lq hlq hK
    refine wanted_go (by rfl) ?_
    refine ⟨.int .i64 21, fun W hW => ?_, ?_⟩
    · go_simp
      refine (rcheck_any hq.out).mono fun e W2 hc2 => ⟨by rw [hc2.1, hc]; rfl, hW.go hc2.2⟩
    refine hK _ ?_
    clear hK K
    (try simp only [Act.put, List.setIfInBounds_toArray, List.set_cons_zero, List.set_cons_succ])
    refine wpQuiet_step_h hlq ?_
    clear hlq lq
    intro K lq hlq hK
    refine wanted_go (by rfl) ?_
    refine ⟨?_, fun W hW => ?_, ?_⟩
    rotate_left
    · obtain ⟨p1, p2, p3⟩ := BoxP.run hW.2.1.1 hp.out.1; obtain ⟨q1, q2, q3⟩ := BoxP.run hW.2.1.2.1 hq.out.1
      go_simp
      with_reducible rfl
    refine hK _ ?_
    clear hK K
    (try simp only [Act.put, List.setIfInBounds_toArray, List.set_cons_zero, List.set_cons_succ])
    refine wpQuiet_step_h hlq ?_
    clear hlq lq
    intro K lq hlq hK
    refine wanted_go (by rfl) ?_
    refine ⟨?_, fun W hW => ?_, ?_⟩
    rotate_left
    · obtain ⟨p1, p2, p3⟩ := BoxP.run hW.2.1.1 hp.out.1; obtain ⟨q1, q2, q3⟩ := BoxP.run hW.2.1.2.1 hq.out.1
      go_simp
      with_reducible rfl
    refine hK _ ?_
    clear hK K
    (try simp only [Act.put, List.setIfInBounds_toArray, List.set_cons_zero, List.set_cons_succ])
    refine wpQuiet_step_h hlq ?_
    clear hlq lq
    intro K lq hlq hK
    go_simp
    refine hK _ ?_
    clear hK K
    refine wpQuiet_step_h hlq ?_
    clear hlq lq
    intro K lq hlq hK
    go_simp
    refine hK _ ?_
    clear hK K
    refine wpQuiet_step_h hlq ?_
    clear hlq lq
    intro K lq hlq hK
    go_simp
    refine hK _ ?_
    clear hK K
    refine wpQuiet_step_h hlq ?_
    clear hlq lq
    intro K lq hlq hK
    go_simp
    refine hK _ ?_
    clear hK K
    refine wpQuiet_step_h hlq ?_
    clear hlq lq
    intro K lq hlq hK
    go_simp
    refine hK _ ?_
    clear hK K
    refine wpQuiet_step_h hlq ?_
    clear hlq lq
    intro K lq hlq hK
    refine wanted_go (by rfl) ?_
    refine ⟨?_, fun W hW => ?_, ?_⟩
    rotate_left
    · obtain ⟨p1, p2, p3⟩ := BoxP.run hW.2.1.1 hp.out.1; obtain ⟨q1, q2, q3⟩ := BoxP.run hW.2.1.2.1 hq.out.1
      go_simp
      with_reducible rfl
    refine hK _ ?_
    clear hK K
    (try simp only [Act.put, List.setIfInBounds_toArray, List.set_cons_zero, List.set_cons_succ])
    refine wpQuiet_step_h hlq ?_
    clear hlq lq
    intro K lq hlq hK
    refine wanted_go (by rfl) ?_
    refine ⟨?_, fun W hW => ?_, ?_⟩
    rotate_left
    · obtain ⟨p1, p2, p3⟩ := BoxP.run hW.2.1.1 hp.out.1; obtain ⟨q1, q2, q3⟩ := BoxP.run hW.2.1.2.1 hq.out.1
      go_simp
      with_reducible rfl
    refine hK _ ?_
    clear hK K
    (try simp only [Act.put, List.setIfInBounds_toArray, List.set_cons_zero, List.set_cons_succ])
    refine wpQuiet_step_h hlq ?_
    clear hlq lq
    intro K lq hlq hK
    go_simp
    refine hK _ ?_
    clear hK K
    refine wpQuiet_step_h hlq ?_
    clear hlq lq
    intro K lq hlq hK
    go_simp
    refine hK _ ?_
    clear hK K
    refine wpQuiet_step_h hlq ?_
    clear hlq lq
    intro K lq hlq hK
    go_simp
    refine hK _ ?_
    clear hK K
    refine wpQuiet_step_h hlq ?_
    clear hlq lq
    intro K lq hlq hK
    go_simp
    refine hK _ ?_
    clear hK K
    refine wpQuiet_step_h hlq ?_
    clear hlq lq
    intro K lq hlq hK
    refine wanted_go (by rfl) ?_
    refine ⟨?_, fun W hW => ?_, ?_⟩
    rotate_left
    · obtain ⟨p1, p2, p3⟩ := BoxP.run hW.2.1.1 hp.out.1; obtain ⟨q1, q2, q3⟩ := BoxP.run hW.2.1.2.1 hq.out.1
      go_simp
      with_reducible rfl
    refine hK _ ?_
    clear hK K
    (try simp only [Act.put, List.setIfInBounds_toArray, List.set_cons_zero, List.set_cons_succ])
    refine wpQuiet_step_h hlq ?_
    clear hlq lq
    intro K lq hlq hK
    refine wanted_go (by rfl) ?_
    refine ⟨?_, fun W hW => ?_, ?_⟩
    rotate_left
    · obtain ⟨p1, p2, p3⟩ := BoxP.run hW.2.1.1 hp.out.1; obtain ⟨q1, q2, q3⟩ := BoxP.run hW.2.1.2.1 hq.out.1
      go_simp
      with_reducible rfl
    refine hK _ ?_
    clear hK K
    (try simp only [Act.put, List.setIfInBounds_toArray, List.set_cons_zero, List.set_cons_succ])
    refine wpQuiet_nil_h hlq ?_
    clear hlq lq
    intro w' hC'
    go_wp2_with fail
    go_ret
    exact ⟨rfl, hC'.1⟩
  · obtain ⟨le, hle⟩ : ∃ c, decide (p.n ≤ q.n) = c := ⟨_, rfl⟩
    cases le
    · have hr : cov p q = false := by simp [cov, hc, hle]
      rw [hr]
      clear hr
      replace hp := Lib.hid hp
      replace hq := Lib.hid hq
      unfold vPf
      go_enter Tryz.func68, Tryz.ntmps68
      go_wp2_with (refine wpList_quiet (C := Bx w w.heap.size [(w.heap.size, oP p), (w.heap.size + 1, oP q)]) 17 (by rfl) (Bx.start2 w (oP p) (oP q)) ?_)
      refine wpQuiet_hide ?_
      intro lq hlq
      refine wpQuiet_step_h hlq ?_
      clear hlq lq
      intro K lq hlq hK
      refine wanted_go (by rfl) ?_
      refine ⟨vPf q, fun W hW => ?_, ?_⟩
      · obtain ⟨p1, p2, p3⟩ := BoxP.run hW.2.1.1 hp.out.1; obtain ⟨q1, q2, q3⟩ := BoxP.run hW.2.1.2.1 hq.out.1
        exact quiet_load 55 _ rfl rfl q3
      refine hK _ ?_
      clear hK K
      (try simp only [Act.put, List.setIfInBounds_toArray, List.set_cons_zero, List.set_cons_succ])
      refine wpQuiet_step_h hlq ?_
      clear hlq lq
      intro K lq hlq hK
      refine wanted_go (by rfl) ?_
      refine ⟨.int .i64 0, fun W hW => ?_, ?_⟩
      · go_simp
        refine (rcheck_any hq.out).mono fun e W2 hc2 => ⟨by rw [hc2.1, hc]; rfl, hW.go hc2.2⟩
      refine hK _ ?_
      clear hK K
      (try simp only [Act.put, List.setIfInBounds_toArray, List.set_cons_zero, List.set_cons_succ])
      refine wpQuiet_step_h hlq ?_
      clear hlq lq
      intro K lq hlq hK
      refine wanted_go (by rfl) ?_
      refine ⟨?_, fun W hW => ?_, ?_⟩
      rotate_left
      · obtain ⟨p1, p2, p3⟩ := BoxP.run hW.2.1.1 hp.out.1; obtain ⟨q1, q2, q3⟩ := BoxP.run hW.2.1.2.1 hq.out.1
        go_simp
        with_reducible rfl
      refine hK _ ?_
      clear hK K
      (try simp only [Act.put, List.setIfInBounds_toArray, List.set_cons_zero, List.set_cons_succ])
      refine wpQuiet_step_h hlq ?_
      clear hlq lq
      intro K lq hlq hK
      refine wanted_go (by rfl) ?_
      refine ⟨?_, fun W hW => ?_, ?_⟩
      rotate_left
      · obtain ⟨p1, p2, p3⟩ := BoxP.run hW.2.1.1 hp.out.1; obtain ⟨q1, q2, q3⟩ := BoxP.run hW.2.1.2.1 hq.out.1
        go_simp
        with_reducible rfl
      refine hK _ ?_
      clear hK K
      (try simp only [Act.put, List.setIfInBounds_toArray, List.set_cons_zero, List.set_cons_succ])
      refine wpQuiet_step_h hlq ?_
      clear hlq lq
      intro K lq hlq hK
      refine wanted_go (by rfl) ?_
      refine ⟨?_, fun W hW => ?_, ?_⟩
      rotate_left
      · obtain ⟨p1, p2, p3⟩ := BoxP.run hW.2.1.1 hp.out.1; obtain ⟨q1, q2, q3⟩ := BoxP.run hW.2.1.2.1 hq.out.1
        go_simp
        with_reducible rfl
      refine hK _ ?_
      clear hK K
      (try simp only [Act.put, List.setIfInBounds_toArray, List.set_cons_zero, List.set_cons_succ])
      refine wpQuiet_step_h hlq ?_
      clear hlq lq
      intro K lq hlq hK
      refine wanted_go (by rfl) ?_
      refine ⟨?_, fun W hW => ?_, ?_⟩
      rotate_left
      · obtain ⟨p1, p2, p3⟩ := BoxP.run hW.2.1.1 hp.out.1; obtain ⟨q1, q2, q3⟩ := BoxP.run hW.2.1.2.1 hq.out.1
        go_simp
        with_reducible rfl
      refine hK _ ?_
      clear hK K
      (try simp only [Act.put, List.setIfInBounds_toArray, List.set_cons_zero, List.set_cons_succ])
      refine wpQuiet_step_h hlq ?_
      clear hlq lq
      intro K lq hlq hK
      refine wanted_go (by rfl) ?_
      refine ⟨?_, fun W hW => ?_, ?_⟩
      rotate_left
      · obtain ⟨p1, p2, p3⟩ := BoxP.run hW.2.1.1 hp.out.1; obtain ⟨q1, q2, q3⟩ := BoxP.run hW.2.1.2.1 hq.out.1
        go_simp
        with_reducible rfl
      refine hK _ ?_
      clear hK K
      (try simp only [Act.put, List.setIfInBounds_toArray, List.set_cons_zero, List.set_cons_succ])
      refine wpQuiet_step_h hlq ?_
      clear hlq lq
      intro K lq hlq hK
      refine wanted_go (by rfl) ?_
      refine ⟨?_, fun W hW => ?_, ?_⟩
      rotate_left
      · obtain ⟨p1, p2, p3⟩ := BoxP.run hW.2.1.1 hp.out.1; obtain ⟨q1, q2, q3⟩ := BoxP.run hW.2.1.2.1 hq.out.1
        go_simp
        with_reducible rfl
      refine hK _ ?_
      clear hK K
      (try simp only [Act.put, List.setIfInBounds_toArray, List.set_cons_zero, List.set_cons_succ])
      refine wpQuiet_step_h hlq ?_
      clear hlq lq
      intro K lq hlq hK
      refine wanted_go (by rfl) ?_
      refine ⟨?_, fun W hW => ?_, ?_⟩
      rotate_left
      · obtain ⟨p1, p2, p3⟩ := BoxP.run hW.2.1.1 hp.out.1; obtain ⟨q1, q2, q3⟩ := BoxP.run hW.2.1.2.1 hq.out.1
        go_simp
        with_reducible rfl
      refine hK _ ?_
      clear hK K
      (try simp only [Act.put, List.setIfInBounds_toArray, List.set_cons_zero, List.set_cons_succ])
      refine wpQuiet_step_h hlq ?_
      clear hlq lq
      intro K lq hlq hK
      refine wanted_go (by rfl) ?_
      refine ⟨?_, fun W hW => ?_, ?_⟩
      rotate_left
      · obtain ⟨p1, p2, p3⟩ := BoxP.run hW.2.1.1 hp.out.1; obtain ⟨q1, q2, q3⟩ := BoxP.run hW.2.1.2.1 hq.out.1
        go_simp
        with_reducible rfl
      refine hK _ ?_
      clear hK K
      (try simp only [Act.put, List.setIfInBounds_toArray, List.set_cons_zero, List.set_cons_succ])
      refine wpQuiet_step_h hlq ?_
      clear hlq lq
      intro K lq hlq hK
      refine wanted_go (by rfl) ?_
      refine ⟨?_, fun W hW => ?_, ?_⟩
      rotate_left
      · obtain ⟨p1, p2, p3⟩ := BoxP.run hW.2.1.1 hp.out.1; obtain ⟨q1, q2, q3⟩ := BoxP.run hW.2.1.2.1 hq.out.1
        go_simp
        with_reducible rfl
      refine hK _ ?_
      clear hK K
      (try simp only [Act.put, List.setIfInBounds_toArray, List.set_cons_zero, List.set_cons_succ])
      refine wpQuiet_step_h hlq ?_
      clear hlq lq
      intro K lq hlq hK
      go_simp
      refine hK _ ?_
      clear hK K
      refine wpQuiet_step_h hlq ?_
      clear hlq lq
      intro K lq hlq hK
      go_simp
      refine hK _ ?_
      clear hK K
      refine wpQuiet_step_h hlq ?_
      clear hlq lq
      intro K lq hlq hK
      go_simp
      refine hK _ ?_
      clear hK K
      refine wpQuiet_step_h hlq ?_
      clear hlq lq
      intro K lq hlq hK
      go_simp
      refine hK _ ?_
      clear hK K
      refine wpQuiet_step_h hlq ?_
      clear hlq lq
      intro K lq hlq hK
      refine wanted_go (by rfl) ?_
      refine ⟨?_, fun W hW => ?_, ?_⟩
      rotate_left
      · obtain ⟨p1, p2, p3⟩ := BoxP.run hW.2.1.1 hp.out.1; obtain ⟨q1, q2, q3⟩ := BoxP.run hW.2.1.2.1 hq.out.1
        go_simp
        with_reducible rfl
      refine hK _ ?_
      clear hK K
      (try simp only [Act.put, List.setIfInBounds_toArray, List.set_cons_zero, List.set_cons_succ])
      refine wpQuiet_step_h hlq ?_
      clear hlq lq
      intro K lq hlq hK
      refine wanted_go (by rfl) ?_
      refine ⟨?_, fun W hW => ?_, ?_⟩
      rotate_left
      · obtain ⟨p1, p2, p3⟩ := BoxP.run hW.2.1.1 hp.out.1; obtain ⟨q1, q2, q3⟩ := BoxP.run hW.2.1.2.1 hq.out.1
        go_simp
        with_reducible rfl
      refine hK _ ?_
      clear hK K
      (try simp only [Act.put, List.setIfInBounds_toArray, List.set_cons_zero, List.set_cons_succ])
      refine wpQuiet_nil_h hlq ?_
      clear hlq lq
      intro w' hC'
      go_wp2_with fail
      go_ret
      exact ⟨rfl, hC'.1⟩
    · obtain ⟨b, hb⟩ : ∃ c, cont p q.a = c := ⟨_, rfl⟩
      have hr : cov p q = b := by simp [cov, hc, hle, hb]
      rw [hr]
      clear hr
      replace hp := Lib.hid hp
      replace hq := Lib.hid hq
      unfold vPf
      go_enter Tryz.func68, Tryz.ntmps68
      go_wp2_with (refine wpList_quiet (C := Bx w w.heap.size [(w.heap.size, oP p), (w.heap.size + 1, oP q)]) 17 (by rfl) (Bx.start2 w (oP p) (oP q)) ?_)
      refine wpQuiet_hide ?_
      intro lq hlq
      refine wpQuiet_step_h hlq ?_
      clear hlq lq
      intro K lq hlq hK
      refine wanted_go (by rfl) ?_
      refine ⟨vPf q, fun W hW => ?_, ?_⟩
      · obtain ⟨p1, p2, p3⟩ := BoxP.run hW.2.1.1 hp.out.1; obtain ⟨q1, q2, q3⟩ := BoxP.run hW.2.1.2.1 hq.out.1
        exact quiet_load 55 _ rfl rfl q3
      refine hK _ ?_
      clear hK K
      (try simp only [Act.put, List.setIfInBounds_toArray, List.set_cons_zero, List.set_cons_succ])
      refine wpQuiet_step_h hlq ?_
      clear hlq lq
      intro K lq hlq hK
      refine wanted_go (by rfl) ?_
      refine ⟨.int .i64 0, fun W hW => ?_, ?_⟩
      · go_simp
        refine (rcheck_any hq.out).mono fun e W2 hc2 => ⟨by rw [hc2.1, hc]; rfl, hW.go hc2.2⟩
      refine hK _ ?_
      clear hK K
      (try simp only [Act.put, List.setIfInBounds_toArray, List.set_cons_zero, List.set_cons_succ])
      refine wpQuiet_step_h hlq ?_
      clear hlq lq
      intro K lq hlq hK
      refine wanted_go (by rfl) ?_
      refine ⟨?_, fun W hW => ?_, ?_⟩
      rotate_left
      · obtain ⟨p1, p2, p3⟩ := BoxP.run hW.2.1.1 hp.out.1; obtain ⟨q1, q2, q3⟩ := BoxP.run hW.2.1.2.1 hq.out.1
        go_simp
        with_reducible rfl
      refine hK _ ?_
      clear hK K
      (try simp only [Act.put, List.setIfInBounds_toArray, List.set_cons_zero, List.set_cons_succ])
      refine wpQuiet_step_h hlq ?_
      clear hlq lq
      intro K lq hlq hK
      refine wanted_go (by rfl) ?_
      refine ⟨?_, fun W hW => ?_, ?_⟩
      rotate_left
      · obtain ⟨p1, p2, p3⟩ := BoxP.run hW.2.1.1 hp.out.1; obtain ⟨q1, q2, q3⟩ := BoxP.run hW.2.1.2.1 hq.out.1
        go_simp
        with_reducible rfl
      refine hK _ ?_
      clear hK K
      (try simp only [Act.put, List.setIfInBounds_toArray, List.set_cons_zero, List.set_cons_succ])
      refine wpQuiet_step_h hlq ?_
      clear hlq lq
      intro K lq hlq hK
      refine wanted_go (by rfl) ?_
      refine ⟨?_, fun W hW => ?_, ?_⟩
      rotate_left
      · obtain ⟨p1, p2, p3⟩ := BoxP.run hW.2.1.1 hp.out.1; obtain ⟨q1, q2, q3⟩ := BoxP.run hW.2.1.2.1 hq.out.1
        go_simp
        with_reducible rfl
      refine hK _ ?_
      clear hK K
      (try simp only [Act.put, List.setIfInBounds_toArray, List.set_cons_zero, List.set_cons_succ])
      refine wpQuiet_step_h hlq ?_
      clear hlq lq
      intro K lq hlq hK
      refine wanted_go (by rfl) ?_
      refine ⟨?_, fun W hW => ?_, ?_⟩
      rotate_left
      · obtain ⟨p1, p2, p3⟩ := BoxP.run hW.2.1.1 hp.out.1; obtain ⟨q1, q2, q3⟩ := BoxP.run hW.2.1.2.1 hq.out.1
        go_simp
        with_reducible rfl
      refine hK _ ?_
      clear hK K
      (try simp only [Act.put, List.setIfInBounds_toArray, List.set_cons_zero, List.set_cons_succ])
      refine wpQuiet_step_h hlq ?_
      clear hlq lq
      intro K lq hlq hK
      refine wanted_go (by rfl) ?_
      refine ⟨?_, fun W hW => ?_, ?_⟩
      rotate_left
      · obtain ⟨p1, p2, p3⟩ := BoxP.run hW.2.1.1 hp.out.1; obtain ⟨q1, q2, q3⟩ := BoxP.run hW.2.1.2.1 hq.out.1
        go_simp
        with_reducible rfl
      refine hK _ ?_
      clear hK K
      (try simp only [Act.put, List.setIfInBounds_toArray, List.set_cons_zero, List.set_cons_succ])
      refine wpQuiet_step_h hlq ?_
      clear hlq lq
      intro K lq hlq hK
      refine wanted_go (by rfl) ?_
      refine ⟨?_, fun W hW => ?_, ?_⟩
      rotate_left
      · obtain ⟨p1, p2, p3⟩ := BoxP.run hW.2.1.1 hp.out.1; obtain ⟨q1, q2, q3⟩ := BoxP.run hW.2.1.2.1 hq.out.1
        go_simp
        with_reducible rfl
      refine hK _ ?_
      clear hK K
      (try simp only [Act.put, List.setIfInBounds_toArray, List.set_cons_zero, List.set_cons_succ])
      refine wpQuiet_step_h hlq ?_
      clear hlq lq
      intro K lq hlq hK
      refine wanted_go (by rfl) ?_
      refine ⟨?_, fun W hW => ?_, ?_⟩
      rotate_left
      · obtain ⟨p1, p2, p3⟩ := BoxP.run hW.2.1.1 hp.out.1; obtain ⟨q1, q2, q3⟩ := BoxP.run hW.2.1.2.1 hq.out.1
        go_simp
        with_reducible rfl
      refine hK _ ?_
      clear hK K
      (try simp only [Act.put, List.setIfInBounds_toArray, List.set_cons_zero, List.set_cons_succ])
      refine wpQuiet_step_h hlq ?_
      clear hlq lq
      intro K lq hlq hK
      refine wanted_go (by rfl) ?_
      refine ⟨?_, fun W hW => ?_, ?_⟩
      rotate_left
      · obtain ⟨p1, p2, p3⟩ := BoxP.run hW.2.1.1 hp.out.1; obtain ⟨q1, q2, q3⟩ := BoxP.run hW.2.1.2.1 hq.out.1
        go_simp
        with_reducible rfl
      refine hK _ ?_
      clear hK K
      (try simp only [Act.put, List.setIfInBounds_toArray, List.set_cons_zero, List.set_cons_succ])
      refine wpQuiet_step_h hlq ?_
      clear hlq lq
      intro K lq hlq hK
      refine wanted_go (by rfl) ?_
      refine ⟨?_, fun W hW => ?_, ?_⟩
      rotate_left
      · obtain ⟨p1, p2, p3⟩ := BoxP.run hW.2.1.1 hp.out.1; obtain ⟨q1, q2, q3⟩ := BoxP.run hW.2.1.2.1 hq.out.1
        go_simp
        with_reducible rfl
      refine hK _ ?_
      clear hK K
      (try simp only [Act.put, List.setIfInBounds_toArray, List.set_cons_zero, List.set_cons_succ])
      refine wpQuiet_step_h hlq ?_
      clear hlq lq
      intro K lq hlq hK
      refine wanted_go (by rfl) ?_
      refine ⟨vPf p, fun W hW => ?_, ?_⟩
      · obtain ⟨p1, p2, p3⟩ := BoxP.run hW.2.1.1 hp.out.1; obtain ⟨q1, q2, q3⟩ := BoxP.run hW.2.1.2.1 hq.out.1
        exact quiet_load 55 _ rfl rfl p3
      refine hK _ ?_
      clear hK K
      (try simp only [Act.put, List.setIfInBounds_toArray, List.set_cons_zero, List.set_cons_succ])
      refine wpQuiet_step_h hlq ?_
      clear hlq lq
      intro K lq hlq hK
      refine wanted_go (by rfl) ?_
      refine ⟨?_, fun W hW => ?_, ?_⟩
      rotate_left
      · obtain ⟨p1, p2, p3⟩ := BoxP.run hW.2.1.1 hp.out.1; obtain ⟨q1, q2, q3⟩ := BoxP.run hW.2.1.2.1 hq.out.1
        go_simp
        with_reducible rfl
      refine hK _ ?_
      clear hK K
      (try simp only [Act.put, List.setIfInBounds_toArray, List.set_cons_zero, List.set_cons_succ])
      refine wpQuiet_step_h hlq ?_
      clear hlq lq
      intro K lq hlq hK
      refine wanted_go (by rfl) ?_
      refine ⟨vA q.a, fun W hW => ?_, ?_⟩
      · obtain ⟨p1, p2, p3⟩ := BoxP.run hW.2.1.1 hp.out.1; obtain ⟨q1, q2, q3⟩ := BoxP.run hW.2.1.2.1 hq.out.1
        exact quiet_load 42 _ rfl rfl q1
      refine hK _ ?_
      clear hK K
      (try simp only [Act.put, List.setIfInBounds_toArray, List.set_cons_zero, List.set_cons_succ])
      refine wpQuiet_step_h hlq ?_
      clear hlq lq
      intro K lq hlq hK
      refine wanted_go (by rfl) ?_
      refine ⟨.bool b, fun W hW => ?_, ?_⟩
      · go_simp
        refine (rcont_any hp.out hq.out.1).mono fun e W2 hc2 => ⟨by rw [hc2.1, hb], hW.go hc2.2⟩
      refine hK _ ?_
      clear hK K
      (try simp only [Act.put, List.setIfInBounds_toArray, List.set_cons_zero, List.set_cons_succ])
      refine wpQuiet_step_h hlq ?_
      clear hlq lq
      intro K lq hlq hK
      refine wanted_go (by rfl) ?_
      refine ⟨?_, fun W hW => ?_, ?_⟩
      rotate_left
      · obtain ⟨p1, p2, p3⟩ := BoxP.run hW.2.1.1 hp.out.1; obtain ⟨q1, q2, q3⟩ := BoxP.run hW.2.1.2.1 hq.out.1
        go_simp
        with_reducible rfl
      refine hK _ ?_
      clear hK K
      (try simp only [Act.put, List.setIfInBounds_toArray, List.set_cons_zero, List.set_cons_succ])
      refine wpQuiet_step_h hlq ?_
      clear hlq lq
      intro K lq hlq hK
      refine wanted_go (by rfl) ?_
      refine ⟨?_, fun W hW => ?_, ?_⟩
      rotate_left
      · obtain ⟨p1, p2, p3⟩ := BoxP.run hW.2.1.1 hp.out.1; obtain ⟨q1, q2, q3⟩ := BoxP.run hW.2.1.2.1 hq.out.1
        go_simp
        with_reducible rfl
      refine hK _ ?_
      clear hK K
      (try simp only [Act.put, List.setIfInBounds_toArray, List.set_cons_zero, List.set_cons_succ])
      refine wpQuiet_nil_h hlq ?_
      clear hlq lq
      intro w' hC'
      go_wp2_with fail
      go_ret
      exact ⟨rfl, hC'.1⟩
set_option maxRecDepth 100000 in
set_option maxHeartbeats 1600000 in
/-- Compare. -/
theorem rcmp_any {w : World} {a b : List Int} (ha : isA a) (hb : isA b) : Calls Tryz.prog 70 #[vA a, vA b] w fun e w' => e = .returned (.int .i64 (cmpA a b)) ∧ Below w.heap.size w w' := by
  have h0 := Lib.hid (box21 w (oA a) (oA b))
  have h1 := Lib.hid (box22 w (oA a) (oA b))
  have bel0 : Below w.heap.size w ((w.alloc (oA a)).alloc (oA b)) := ((Below.refl _ _).alloc (Nat.le_refl _) _).alloc (by simp) _
  have HA := Lib.hid ha
  have HB := Lib.hid hb
  clear ha hb
  unfold vA
  go_enter Tryz.func70, Tryz.ntmps70
  go_wp2
  go_loopw [5] (fun x5 wr => ∃ i : Nat, i ≤ 16 ∧ x5 = .int .i64 i ∧ Hid (cmpA a b = lexc (a.drop i) (b.drop i)) ∧ Hid (wr.heap[w.heap.size]? = some (oA a)) ∧ Hid (wr.heap[w.heap.size + 1]? = some (oA b)) ∧ Below w.heap.size w wr) (fun x5 wr => 16 - (intOf x5).toNat)
  case atStart => exact ⟨0, Nat.zero_le _, rfl, Lib.hid rfl, h0, h1, bel0⟩
  case round =>
    obtain ⟨i, hi, rfl, hc, hp, hq, bel⟩ := hrel
    by_cases hlt : i < 16
    · obtain ⟨x, hx⟩ := get_some (l := a) (j := i) (by rw [HA.out.1]; exact hlt)
      obtain ⟨y, hy⟩ := get_some (l := b) (j := i) (by rw [HB.out.1]; exact hlt)
      have c0 : wr.cell? ⟨w.heap.size, i, none⟩ = some (.int .u8 x) := (row_cell hp.out).trans (by rw [List.getElem?_toArray]; exact nums_get hx)
      have c1 : wr.cell? ⟨w.heap.size + 1, i, none⟩ = some (.int .u8 y) := (row_cell hq.out).trans (by rw [List.getElem?_toArray]; exact nums_get hy)
      have e1 : a.drop i = x :: a.drop (i + 1) := by
        obtain ⟨h, rfl⟩ := List.getElem?_eq_some_iff.1 hx
        exact List.drop_eq_getElem_cons h
      have e2 : b.drop i = y :: b.drop (i + 1) := by
        obtain ⟨h, rfl⟩ := List.getElem?_eq_some_iff.1 hy
        exact List.drop_eq_getElem_cons h
      have hc2 := hc.out
      rw [e1, e2] at hc2
      unfold lexc at hc2
      have hw6 : IntKind.i64.wrap ((i : Int) + 1) = ((i + 1 : Nat) : Int) := (IntWalk.i64_in _ (by omega)).trans (by omega)
      clear hx hy e1 e2 hc
      by_cases hxy : x = y
      · subst hxy
        rw [if_neg (by omega), if_neg (by omega)] at hc2
        replace hc2 := Lib.hid hc2
        go_wp2
        go_quiet (fail)
        go_wp2
        refine ⟨⟨i + 1, by omega, by congr 1, hc2, hp, hq, below_drewN bel _⟩, by simp [intOf]; omega⟩
      · have hn : (x != y) = true := bne_iff_ne.mpr hxy
        replace hxy := Lib.hid hxy
        by_cases hl : x < y
        · have hd : decide (x < y) = true := decide_eq_true hl
          rw [if_pos hl] at hc2
          replace hc2 := Lib.hid hc2
          go_wp2
          go_quiet (fail)
          go_wp2
          go_quiet (fail)
          go_wp2
          go_ret
          exact ⟨by rw [hc2.out]; rfl, below_drewN (below_drewN bel _) _⟩
        · have hd : decide (x < y) = false := decide_eq_false hl
          rw [if_neg hl, if_pos (by have := hxy.out; omega)] at hc2
          replace hc2 := Lib.hid hc2
          go_wp2
          go_quiet (fail)
          go_wp2
          go_quiet (fail)
          go_wp2
          go_ret
          exact ⟨by rw [hc2.out]; rfl, below_drewN (below_drewN bel _) _⟩
    · obtain rfl : i = 16 := by omega
      have hz : cmpA a b = 0 := by
        rw [hc.out, List.drop_of_length_le (by rw [HA.out.1]; exact Nat.le_refl _)]; rfl
      replace hz := Lib.hid hz
      clear hc
      go_wp2
      go_ret
      exact ⟨by rw [hz.out]; rfl, bel⟩
set_option maxRecDepth 100000 in
set_option maxHeartbeats 1600000 in
/-- ComparePrefix. -/
theorem rcmpP_any {w : World} {p q : Pf} (hp : p.ok) (hq : q.ok) : Calls Tryz.prog 69 #[vPf p, vPf q] w fun e w' => e = .returned (.int .i64 (cmpP p q)) ∧ Below w.heap.size w w' := by
  have h0 := Lib.hid (box21 w (oP p) (oP q))
  have h1 := Lib.hid (box22 w (oP p) (oP q))
  have bel0 : Below w.heap.size w ((w.alloc (oP p)).alloc (oP q)) := ((Below.refl _ _).alloc (Nat.le_refl _) _).alloc (by simp) _
  have hc := fun W => rcmp_any (w := W) hp.1 hq.1
  obtain ⟨c, hcc⟩ : ∃ c, cmpA p.a q.a = c := ⟨_, rfl⟩
  rw [hcc] at hc
  have hres : cmpP p q = or2 c (Lib.compareInt p.n q.n) := by unfold cmpP; rw [hcc]
  have HP := Lib.hid hp
  have HQ := Lib.hid hq
  clear hp hq hcc
  have fin : ∀ (r : Int), or2 c (Lib.compareInt p.n q.n) = r → cmpP p q = r := fun r h => hres.trans h
  replace fin := Lib.hid fin
  clear hres
  unfold vPf
  go_enter Tryz.func69, Tryz.ntmps69
  go_upto_region 2 with (first
    | (refine wpList_load_mid rfl 42 (.tmp 6) rfl w.heap.size 0 rfl (nums .u8 p.a) _ (fun j v hj => row_load h0.out j v (pCs_at hj)) Tryz.underlying42 rfl (info42 HP.out.1) ?_)
    | (refine wpList_load_mid rfl 42 (.tmp 8) rfl (w.heap.size + 1) 0 rfl (nums .u8 q.a) _ (fun j v hj => row_load h1.out j v (pCs_at hj)) Tryz.underlying42 rfl (info42 HQ.out.1) ?_)
    | (go_at_call 70; refine (hc _).mono ?_; clear hc; rintro e w2 ⟨rfl, bel2⟩; have bel := bel0.trans (bel2.mono bel0.size); have c0 := (BoxP.run (Below.box h0.out bel2 (lt_of_obj h0.out)) HP.out.1).2.1; have c1 := (BoxP.run (Below.box h1.out bel2 (lt_of_obj h1.out)) HQ.out.1).2.1; clear bel2 h0 h1))
  by_cases hc0 : c = 0
  · subst hc0
    by_cases h1 : p.n < q.n
    · have d1 : decide (p.n < q.n) = true := decide_eq_true h1
      have hf := Lib.hid (fin.out (-1) (by unfold or2 Lib.compareInt; rw [if_pos rfl, if_pos h1]))
      go_wp2
      go_ret
      exact ⟨by rw [hf.out]; rfl, bel⟩
    · have d1 : decide (p.n < q.n) = false := decide_eq_false h1
      by_cases h2 : q.n < p.n
      · have d2 : decide (q.n < p.n) = true := decide_eq_true h2
        have hf := Lib.hid (fin.out 1 (by unfold or2 Lib.compareInt; rw [if_pos rfl, if_neg h1, if_pos h2]))
        go_wp2
        go_ret
        exact ⟨by rw [hf.out]; rfl, bel⟩
      · have d2 : decide (q.n < p.n) = false := decide_eq_false h2
        have hf := Lib.hid (fin.out 0 (by unfold or2 Lib.compareInt; rw [if_pos rfl, if_neg h1, if_neg h2]))
        go_wp2
        go_ret
        exact ⟨by rw [hf.out]; rfl, bel⟩
  · have hn : (c != 0) = true := bne_iff_ne.mpr hc0
    have hf := Lib.hid (fin.out c (by unfold or2; rw [if_neg hc0]))
    replace hc0 := Lib.hid hc0
    go_wp2
    go_ret
    exact ⟨by rw [hf.out]; rfl, bel⟩
set_option maxRecDepth 100000 in
set_option maxHeartbeats 1600000 in
/-- PrefixFamily. -/
theorem rpfam_any {w : World} {p : Pf} (hp : p.ok) : Calls Tryz.prog 64 #[vPf p] w fun e w' => e = .returned (.int .i64 (pfam p)) ∧ Below w.heap.size w w' := by
  have h0 := Lib.hid (box1 w (oP p))
  have c0 := (BoxP.run (box1 w (oP p)) hp.1).2.1
  have bel : Below w.heap.size w (w.alloc (oP p)) := (Below.refl _ _).alloc (Nat.le_refl _) _
  unfold oP at c0
  by_cases h96 : p.n < 96
  · have d1 : decide (96 ≤ p.n) = false := decide_eq_false (by omega)
    have hf : pfam p = 6 := by unfold pfam; rw [if_pos h96]
    rw [hf]
    unfold vPf
    go_enter Tryz.func64, Tryz.ntmps64
    go_wp2
    go_ret
    exact ⟨rfl, bel⟩
  · have d1 : decide (96 ≤ p.n) = true := decide_eq_true (by omega)
    have hf : pfam p = fam p.a := by unfold pfam; rw [if_neg h96]
    have hc := fun W => rfam_any (w := W) hp.1
    rw [hf]
    clear hf
    have HP := Lib.hid hp
    rcases fam_or p.a with h4 | h6
    · rw [h4] at hc ⊢
      unfold vPf
      go_enter Tryz.func64, Tryz.ntmps64
      go_wp2_with (refine wpList_quiet (C := Bx w w.heap.size [(w.heap.size, oP p)]) 9 (by rfl) (Bx.start1 w (oP p)) ?_)
      refine wpQuiet_hide ?_
      intro lq hlq
      refine wpQuiet_step_h hlq ?_
      clear hlq lq
      intro K lq hlq hK
      refine wanted_go (by rfl) ?_
      refine ⟨?_, fun W hW => ?_, ?_⟩
      rotate_left
      · obtain ⟨q1, q2, q3⟩ := BoxP.run hW.2.1.1 HP.out.1
        go_simp
        with_reducible rfl
      refine hK _ ?_
      clear hK K
      (try simp only [Act.put, List.setIfInBounds_toArray, List.set_cons_zero, List.set_cons_succ])
      refine wpQuiet_step_h hlq ?_
      clear hlq lq
      intro K lq hlq hK
      refine wanted_go (by rfl) ?_
      refine ⟨?_, fun W hW => ?_, ?_⟩
      rotate_left
      · obtain ⟨q1, q2, q3⟩ := BoxP.run hW.2.1.1 HP.out.1
        go_simp
        with_reducible rfl
      refine hK _ ?_
      clear hK K
      (try simp only [Act.put, List.setIfInBounds_toArray, List.set_cons_zero, List.set_cons_succ])
      refine wpQuiet_step_h hlq ?_
      clear hlq lq
      intro K lq hlq hK
      refine wanted_go (by rfl) ?_
      refine ⟨?_, fun W hW => ?_, ?_⟩
      rotate_left
      · obtain ⟨q1, q2, q3⟩ := BoxP.run hW.2.1.1 HP.out.1
        go_simp
        with_reducible rfl
      refine hK _ ?_
      clear hK K
      (try simp only [Act.put, List.setIfInBounds_toArray, List.set_cons_zero, List.set_cons_succ])
      refine wpQuiet_step_h hlq ?_
      clear hlq lq
      intro K lq hlq hK
      refine wanted_go (by rfl) ?_
      refine ⟨?_, fun W hW => ?_, ?_⟩
      rotate_left
      · obtain ⟨q1, q2, q3⟩ := BoxP.run hW.2.1.1 HP.out.1
        go_simp
        with_reducible rfl
      refine hK _ ?_
      clear hK K
      (try simp only [Act.put, List.setIfInBounds_toArray, List.set_cons_zero, List.set_cons_succ])
      refine wpQuiet_step_h hlq ?_
      clear hlq lq
      intro K lq hlq hK
      refine wanted_go (by rfl) ?_
      refine ⟨?_, fun W hW => ?_, ?_⟩
      rotate_left
      · obtain ⟨q1, q2, q3⟩ := BoxP.run hW.2.1.1 HP.out.1
        go_simp
        with_reducible rfl
      refine hK _ ?_
      clear hK K
      (try simp only [Act.put, List.setIfInBounds_toArray, List.set_cons_zero, List.set_cons_succ])
      refine wpQuiet_step_h hlq ?_
      clear hlq lq
      intro K lq hlq hK
      refine wanted_go (by rfl) ?_
      refine ⟨vA p.a, fun W hW => ?_, ?_⟩
      · obtain ⟨q1, q2, q3⟩ := BoxP.run hW.2.1.1 HP.out.1
        exact quiet_load 42 _ rfl rfl q1
      refine hK _ ?_
      clear hK K
      (try simp only [Act.put, List.setIfInBounds_toArray, List.set_cons_zero, List.set_cons_succ])
      refine wpQuiet_step_h hlq ?_
      clear hlq lq
      intro K lq hlq hK
      refine wanted_go (by rfl) ?_
      refine ⟨.int .i64 4, fun W hW => ?_, ?_⟩
      · go_simp
        refine (hc _).mono fun e W2 hc2 => ⟨hc2.1, hW.go hc2.2⟩
      refine hK _ ?_
      clear hK K
      (try simp only [Act.put, List.setIfInBounds_toArray, List.set_cons_zero, List.set_cons_succ])
      refine wpQuiet_step_h hlq ?_
      clear hlq lq
      intro K lq hlq hK
      refine wanted_go (by rfl) ?_
      refine ⟨?_, fun W hW => ?_, ?_⟩
      rotate_left
      · obtain ⟨q1, q2, q3⟩ := BoxP.run hW.2.1.1 HP.out.1
        go_simp
        with_reducible rfl
      refine hK _ ?_
      clear hK K
      (try simp only [Act.put, List.setIfInBounds_toArray, List.set_cons_zero, List.set_cons_succ])
      refine wpQuiet_step_h hlq ?_
      clear hlq lq
      intro K lq hlq hK
      refine wanted_go (by rfl) ?_
      refine ⟨?_, fun W hW => ?_, ?_⟩
      rotate_left
      · obtain ⟨q1, q2, q3⟩ := BoxP.run hW.2.1.1 HP.out.1
        go_simp
        with_reducible rfl
      refine hK _ ?_
      clear hK K
      (try simp only [Act.put, List.setIfInBounds_toArray, List.set_cons_zero, List.set_cons_succ])
      refine wpQuiet_nil_h hlq ?_
      clear hlq lq
      intro w' hC'
      go_wp2_with fail
      go_ret
      exact ⟨rfl, hC'.1⟩
    · rw [h6] at hc ⊢
      unfold vPf
      go_enter Tryz.func64, Tryz.ntmps64
      go_wp2_with (refine wpList_quiet (C := Bx w w.heap.size [(w.heap.size, oP p)]) 9 (by rfl) (Bx.start1 w (oP p)) ?_)
      refine wpQuiet_hide ?_
      intro lq hlq
      refine wpQuiet_step_h hlq ?_
      clear hlq lq
      intro K lq hlq hK
      refine wanted_go (by rfl) ?_
      refine ⟨?_, fun W hW => ?_, ?_⟩
      rotate_left
      · obtain ⟨q1, q2, q3⟩ := BoxP.run hW.2.1.1 HP.out.1
        go_simp
        with_reducible rfl
      refine hK _ ?_
      clear hK K
      (try simp only [Act.put, List.setIfInBounds_toArray, List.set_cons_zero, List.set_cons_succ])
      refine wpQuiet_step_h hlq ?_
      clear hlq lq
      intro K lq hlq hK
      refine wanted_go (by rfl) ?_
      refine ⟨?_, fun W hW => ?_, ?_⟩
      rotate_left
      · obtain ⟨q1, q2, q3⟩ := BoxP.run hW.2.1.1 HP.out.1
        go_simp
        with_reducible rfl
      refine hK _ ?_
      clear hK K
      (try simp only [Act.put, List.setIfInBounds_toArray, List.set_cons_zero, List.set_cons_succ])
      refine wpQuiet_step_h hlq ?_
      clear hlq lq
      intro K lq hlq hK
      refine wanted_go (by rfl) ?_
      refine ⟨?_, fun W hW => ?_, ?_⟩
      rotate_left
      · obtain ⟨q1, q2, q3⟩ := BoxP.run hW.2.1.1 HP.out.1
        go_simp
        with_reducible rfl
      refine hK _ ?_
      clear hK K
      (try simp only [Act.put, List.setIfInBounds_toArray, List.set_cons_zero, List.set_cons_succ])
      refine wpQuiet_step_h hlq ?_
      clear hlq lq
      intro K lq hlq hK
      refine wanted_go (by rfl) ?_
      refine ⟨?_, fun W hW => ?_, ?_⟩
      rotate_left
      · obtain ⟨q1, q2, q3⟩ := BoxP.run hW.2.1.1 HP.out.1
        go_simp
        with_reducible rfl
      refine hK _ ?_
      clear hK K
      (try simp only [Act.put, List.setIfInBounds_toArray, List.set_cons_zero, List.set_cons_succ])
      refine wpQuiet_step_h hlq ?_
      clear hlq lq
      intro K lq hlq hK
      refine wanted_go (by rfl) ?_
      refine ⟨?_, fun W hW => ?_, ?_⟩
      rotate_left
      · obtain ⟨q1, q2, q3⟩ := BoxP.run hW.2.1.1 HP.out.1
        go_simp
        with_reducible rfl
      refine hK _ ?_
      clear hK K
      (try simp only [Act.put, List.setIfInBounds_toArray, List.set_cons_zero, List.set_cons_succ])
      refine wpQuiet_step_h hlq ?_
      clear hlq lq
      intro K lq hlq hK
      refine wanted_go (by rfl) ?_
      refine ⟨vA p.a, fun W hW => ?_, ?_⟩
      · obtain ⟨q1, q2, q3⟩ := BoxP.run hW.2.1.1 HP.out.1
        exact quiet_load 42 _ rfl rfl q1
      refine hK _ ?_
      clear hK K
      (try simp only [Act.put, List.setIfInBounds_toArray, List.set_cons_zero, List.set_cons_succ])
      refine wpQuiet_step_h hlq ?_
      clear hlq lq
      intro K lq hlq hK
      refine wanted_go (by rfl) ?_
      refine ⟨.int .i64 6, fun W hW => ?_, ?_⟩
      · go_simp
        refine (hc _).mono fun e W2 hc2 => ⟨hc2.1, hW.go hc2.2⟩
      refine hK _ ?_
      clear hK K
      (try simp only [Act.put, List.setIfInBounds_toArray, List.set_cons_zero, List.set_cons_succ])
      refine wpQuiet_step_h hlq ?_
      clear hlq lq
      intro K lq hlq hK
      refine wanted_go (by rfl) ?_
      refine ⟨?_, fun W hW => ?_, ?_⟩
      rotate_left
      · obtain ⟨q1, q2, q3⟩ := BoxP.run hW.2.1.1 HP.out.1
        go_simp
        with_reducible rfl
      refine hK _ ?_
      clear hK K
      (try simp only [Act.put, List.setIfInBounds_toArray, List.set_cons_zero, List.set_cons_succ])
      refine wpQuiet_step_h hlq ?_
      clear hlq lq
      intro K lq hlq hK
      refine wanted_go (by rfl) ?_
      refine ⟨?_, fun W hW => ?_, ?_⟩
      rotate_left
      · obtain ⟨q1, q2, q3⟩ := BoxP.run hW.2.1.1 HP.out.1
        go_simp
        with_reducible rfl
      refine hK _ ?_
      clear hK K
      (try simp only [Act.put, List.setIfInBounds_toArray, List.set_cons_zero, List.set_cons_succ])
      refine wpQuiet_nil_h hlq ?_
      clear hlq lq
      intro w' hC'
      go_wp2_with fail
      go_ret
      exact ⟨rfl, hC'.1⟩
set_option maxRecDepth 100000 in
set_option maxHeartbeats 1600000 in
/-- Any. -/
theorem rany_any {w : World} (f : Int) : Calls Tryz.prog 65 #[.int .i64 f] w fun e w' => e = .returned (vPf (anyP f)) ∧ Below w.heap.size w w' := by
  have bel : ∀ o, Below w.heap.size w (w.alloc o) := fun o => (Below.refl _ _).alloc (Nat.le_refl _) _
  by_cases h4 : f = 4
  · subst h4
    go_enter Tryz.func65, Tryz.ntmps65
    go_wp2_with (refine wpList_store_new rfl 55 (.tmp 2) (.tmp 6) (cells := (pCs (mapd ++ [0, 0, 0, 0]) 96).toArray) rfl rfl (info55 mapA_ok _) rfl (pCs_one _ _) ?_)
    refine bodyPost_ret (v := vPf (anyP 4)) ?_ rfl ⟨rfl, bel _⟩
    exact results_cell_only rfl _ _ rfl (BoxP.run (p := anyP 4) (box1 w (oP (anyP 4))) mapA_ok).2.2
  · have hb : (f == 4) = false := by simpa using h4
    have hr : anyP f = zeroP := if_neg h4
    rw [hr]
    replace h4 := Lib.hid h4
    go_enter Tryz.func65, Tryz.ntmps65
    go_wp2_with (refine wpList_store_new rfl 55 (.tmp 2) (.tmp 7) (cells := (pCs zeroA 0).toArray) rfl rfl (info55 zeroA_ok _) rfl (pCs_one _ _) ?_)
    refine bodyPost_ret (v := vPf zeroP) ?_ rfl ⟨rfl, bel _⟩
    exact results_cell_only rfl _ _ rfl (BoxP.run (p := zeroP) (box1 w (oP zeroP)) zeroA_ok).2.2
end Go.Proofs.YtnljjlaececnkaaGreatDoor
/-
  Plain laws of an address in groups, as the document lays it. No condition.
-/
namespace Go.Proofs.YtnljjlaececnkaaGreatDoor
open Go.RowKit
set_option linter.unusedVariables false
set_option linter.unusedSimpArgs false
/-- A text, and a colon if it wants one. -/
def sepG (out : List UInt8) : List UInt8 := if out = [] ∨ out.getLast? = some 58 then out else out ++ [58]
theorem joinS_snoc {l : List Nat} (h : l ≠ []) (u : Nat) : joinS (l ++ [u]) = joinS l ++ 58 :: hexT u := by
  have key : ∀ l : List Nat, Lib.joinTail [58] ((l ++ [u]).map hexT) = Lib.joinTail [58] (l.map hexT) ++ 58 :: hexT u := by
    intro l
    induction l with
    | nil => simp [Lib.joinTail]
    | cons v l ih => rw [List.cons_append, tail_cons, tail_cons, ih]; simp
  cases l with
  | nil => exact absurd rfl h
  | cons v l => rw [List.cons_append, joinS_cons, joinS_cons, key, List.append_assoc]
theorem getLast_app {x y : List UInt8} (h : y ≠ []) : (x ++ y).getLast? = y.getLast? := by
  rw [List.getLast?_append]
  cases hy : y.getLast? with
  | none => rw [List.getLast?_eq_none_iff] at hy; exact absurd hy h
  | some c => rfl
theorem hexT_last (u : Nat) : (hexT u).getLast? ≠ some 58 := fun h => (hexT_plain u 58 (List.mem_of_getLast? h)).1 rfl
theorem joinS_last {l : List Nat} (h : l ≠ []) : joinS l ≠ [] ∧ (joinS l).getLast? ≠ some 58 := by
  rcases List.eq_nil_or_concat l with rfl | ⟨m, u, rfl⟩
  · exact absurd rfl h
  · rw [List.concat_eq_append]
    cases m with
    | nil => rw [List.nil_append, joinS_cons]; simp [Lib.joinTail]; exact ⟨hexT_ne u, hexT_last u⟩
    | cons v m =>
      rw [joinS_snoc (by simp)]
      refine ⟨by simp, ?_⟩
      rw [getLast_app (by simp), show (58 :: hexT u : List UInt8) = [58] ++ hexT u from rfl, getLast_app (hexT_ne u)]
      exact hexT_last u
theorem sep_join {l : List Nat} {u : Nat} : sepG (joinS l) ++ hexT u = joinS (l ++ [u]) := by
  cases l with
  | nil => rw [joinS_nil]; unfold sepG; rw [if_pos (.inl rfl)]; simp [joinS_cons, Lib.joinTail]
  | cons v l =>
    obtain ⟨h1, h2⟩ := joinS_last (l := v :: l) (by simp)
    unfold sepG
    rw [if_neg (by rintro (h | h) <;> contradiction), joinS_snoc (by simp)]; simp
theorem sep_gap {x : List UInt8} {l : List Nat} {u : Nat} : sepG (x ++ [58, 58] ++ joinS l) ++ hexT u = x ++ [58, 58] ++ joinS (l ++ [u]) := by
  cases l with
  | nil =>
    rw [joinS_nil, List.append_nil]; unfold sepG
    rw [if_pos (.inr (by rw [getLast_app (by simp)]; rfl))]; simp [joinS_cons, Lib.joinTail]
  | cons v l =>
    obtain ⟨h1, h2⟩ := joinS_last (l := v :: l) (by simp)
    unfold sepG
    rw [if_neg (fun h => h.elim (fun h => by simp at h) (fun h => by rw [getLast_app h1] at h; contradiction)), joinS_snoc (by simp)]; simp
/-- What is laid of the first groups. -/
def outAt (G : List Nat) (r : Nat × Nat) (i : Nat) : List UInt8 :=
  if r.1 = r.2 ∨ i ≤ r.1 then joinS (G.take i) else joinS (G.take r.1) ++ [58, 58] ++ joinS ((G.take i).drop r.2)
theorem outAt_zero (G : List Nat) (r : Nat × Nat) : outAt G r 0 = [] := by unfold outAt; rw [if_pos (.inr (Nat.zero_le _))]; rfl
theorem outAt_step {G : List Nat} {r : Nat × Nat} {i u : Nat} (hr : r.1 ≤ r.2) (hu : G[i]? = some u) (h : r.1 = r.2 ∨ i < r.1 ∨ r.2 ≤ i) : sepG (outAt G r i) ++ hexT u = outAt G r (i + 1) := by
  unfold outAt
  by_cases h1 : r.1 = r.2 ∨ i + 1 ≤ r.1
  · rw [if_pos h1, if_pos (by omega), sep_join, take_snoc hu]
  · have hi := (List.getElem?_eq_some_iff.1 hu).1
    rw [if_neg h1, if_neg (by omega), sep_gap, take_snoc hu, List.drop_append_of_le_length (by rw [List.length_take]; omega)]
theorem outAt_gap {G : List Nat} {r : Nat × Nat} (h : r.1 < r.2) : outAt G r r.1 ++ [58, 58] = outAt G r r.2 := by
  unfold outAt
  rw [if_pos (.inr (Nat.le_refl _)), if_neg (by omega), List.drop_eq_nil_of_le (by rw [List.length_take]; omega), joinS_nil, List.append_nil]
theorem outAt_all {a : List Int} : outAt (groups a) (runAt (groups a) 8) 8 = groupedS a := by
  have h := runAt_le (groups a) 8 (by rw [groups_len]; omega)
  have h2 := runAt_two (groups a) 8
  have hl := groups_len a
  unfold outAt groupedS
  simp only
  generalize groups a = G at *
  generalize runAt G 8 = r at *
  rw [List.take_of_length_le (l := G) (by omega)]
  by_cases e : r.1 = r.2
  · rw [if_pos (.inl e), if_pos e.symm]
  · rw [if_neg (by omega), if_neg (by omega)]
/-- Where the longest run is, as the document keeps it; how long. -/
def bestI (r : Nat × Nat) : Int := if r.1 = r.2 then -1 else r.1
def longN (r : Nat × Nat) : Nat := max (r.2 - r.1) 1
theorem run_more {G : List Nat} {i n : Nat} (hn : zc (G.drop i) = n) (h : longN (runAt G i) < n) : bestI (runAt G (i + 1)) = i ∧ longN (runAt G (i + 1)) = n := by
  subst hn
  unfold longN at h
  have e : runAt G (i + 1) = (i, i + zc (G.drop i)) := by show runStep G (runAt G i) i = _; unfold runStep; rw [if_pos h]
  rw [e]
  unfold bestI longN
  simp only
  rw [if_neg (by omega)]
  exact ⟨rfl, by omega⟩
theorem run_less {G : List Nat} {i n : Nat} (hn : zc (G.drop i) = n) (h : ¬ longN (runAt G i) < n) : runAt G (i + 1) = runAt G i := by
  subst hn
  unfold longN at h
  show runStep G (runAt G i) i = _
  unfold runStep
  rw [if_neg h]
theorem longN_le {G : List Nat} {i : Nat} (h : i ≤ G.length) : 1 ≤ longN (runAt G i) ∧ longN (runAt G i) ≤ G.length + 1 := by
  have := runAt_le G i h
  unfold longN; omega
theorem gr_zero {a : List Int} (ha : isA a) {j : Nat} (h : j < 8) {x y : Int} (hx : a.getD (2 * j) 0 = x) (hy : a.getD (2 * j + 1) 0 = y) (x0 : 0 ≤ x) (y0 : 0 ≤ y) : gr a j = 0 ↔ x = 0 ∧ y = 0 := by
  unfold gr; rw [hx, hy]; omega
theorem zc_end {l : List Nat} {n : Nat} (h : l.length ≤ n) : zc (l.drop n) = 0 := by rw [List.drop_eq_nil_of_le h]; rfl
theorem groupedS_len {a : List Int} (ha : isA a) (i : Nat) (hi : i ≤ 8) : (outAt (groups a) (runAt (groups a) 8) i).length ≤ 100 := by
  have tl : ∀ l : List Nat, (∀ u ∈ l, u < 65536) → (Lib.joinTail [58] (l.map hexT)).length ≤ 5 * l.length := by
    intro l
    induction l with
    | nil => intro _; simp [Lib.joinTail]
    | cons u l ih =>
      intro h
      have h1 := hexT_len 3 u (h u (by simp))
      have h2 := ih fun v hv => h v (by simp [hv])
      rw [tail_cons]; simp; omega
  have jl : ∀ l : List Nat, (∀ u ∈ l, u < 65536) → (joinS l).length ≤ 5 * l.length := by
    intro l h
    cases l with
    | nil => simp [joinS_nil]
    | cons u l =>
      have h1 := hexT_len 3 u (h u (by simp))
      have h2 := tl l fun v hv => h v (by simp [hv])
      rw [joinS_cons]; simp; omega
  have hlt := groups_lt ha
  have hl := groups_len a
  unfold outAt
  split
  · have := jl ((groups a).take i) fun u hu => hlt u (List.mem_of_mem_take hu)
    rw [List.length_take] at this; omega
  · have h1 := jl ((groups a).take (runAt (groups a) 8).1) fun u hu => hlt u (List.mem_of_mem_take hu)
    have h2 := jl (((groups a).take i).drop (runAt (groups a) 8).2) fun u hu => hlt u (List.mem_of_mem_take (List.mem_of_mem_drop hu))
    rw [List.length_take] at h1
    rw [List.length_drop, List.length_take] at h2
    simp; omega
end Go.Proofs.YtnljjlaececnkaaGreatDoor
