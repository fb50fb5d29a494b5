/-
  Merged texts (BE, CB, CA, CC, CD, EA, CE, CF, CG, CH, CI, EB, EC, ED), part 6 of 8. Conditions: each part's own, told at its head.
-/
import Derived.Test.YtnljjlaececnkaaGreatDoorBWd1
import Derived.Test.YtnljjlaececnkaaGreatDoorBWd2
import Derived.Test.YtnljjlaececnkaaGreatDoorBWd3
import Derived.Test.YtnljjlaececnkaaGreatDoorBWd4
import Derived.Test.YtnljjlaececnkaaGreatDoorBWd5
import Derived.Great.BuildSlice
import Derived.Lib.ItoaLen
import Derived.Defers
import Derived.Laws.Pointers
import Derived.Laws.LoneSync
import Derived.RegionTactic
import Derived.RegionCalls
import Derived.ChangeAlike
import Derived.Laws.MakeOwn
import Derived.Lib.ConvBytes
import Derived.Laws.BytesArg
/-
  The boxes of a call, the newest first; steps that lay a box, write one, read one. No condition.
-/
namespace Go.Proofs.YtnljjlaececnkaaGreatDoor
open Go.RowKit
set_option linter.unusedVariables false
set_option linter.unusedSimpArgs false
/-- What was there has not turned; these boxes lie there, the newest first. -/
structure Bz (w : World) (l : List (Nat × Obj)) (W : World) : Prop where
  bel : Below w.heap.size w W
  all : AllB W l
  ord : l.Pairwise (fun x y => y.1 < x.1)
  low : ∀ x ∈ l, w.heap.size ≤ x.1
namespace Bz
variable {w W W2 : World} {l : List (Nat × Obj)}
theorem start (w : World) : Bz w [] w := ⟨Below.refl _ _, trivial, List.Pairwise.nil, fun x h => by cases h⟩
theorem go (h : Bz w l W) (hb : Below W.heap.size W W2) : Bz w l W2 := ⟨h.bel.trans (hb.mono h.bel.size), AllB.go hb h.all, h.ord, h.low⟩
theorem alloc (h : Bz w l W) (o : Obj) {g : Nat} (hg : W.heap.size = g) : Bz w ((g, o) :: l) (W.alloc o) := by
  subst hg
  exact ⟨h.bel.alloc h.bel.size o, ⟨box1 W o, h.all.alloc o⟩, List.pairwise_cons.2 ⟨fun x hx => AllB.lt h.all x hx, h.ord⟩, fun x hx => by
    rcases List.mem_cons.1 hx with rfl | hx
    · exact h.bel.size
    · exact h.low x hx⟩
theorem drew (h : Bz w l W) : Bz w l W.drew := ⟨bel_drew h.bel, AllB.same (w := W) (w2 := W.drew) rfl h.all, h.ord, h.low⟩
theorem tail {x : Nat × Obj} (h : Bz w (x :: l) W) : Bz w l W := ⟨h.bel, h.all.2, (List.pairwise_cons.1 h.ord).2, fun y hy => h.low y (by simp [hy])⟩
end Bz
theorem AllB.get {W : World} : ∀ {l : List (Nat × Obj)}, AllB W l → ∀ (k : Nat) {x : Nat × Obj}, l[k]? = some x → W.heap[x.1]? = some x.2
  | [], _, k, x, h => by simp at h
  | y :: l, ⟨h, r⟩, 0, x, hx => by simp at hx; subst hx; exact h
  | y :: l, ⟨h, r⟩, k + 1, x, hx => AllB.get r k (by simpa using hx)
theorem AllB.of_get {W : World} : ∀ {l : List (Nat × Obj)}, (∀ (k : Nat) (x : Nat × Obj), l[k]? = some x → W.heap[x.1]? = some x.2) → AllB W l
  | [], _ => trivial
  | y :: l, h => ⟨h 0 y rfl, AllB.of_get fun k x hx => h (k + 1) x (by simpa using hx)⟩
/-- A box is written anew. -/
theorem Bz.set {w W : World} {l : List (Nat × Obj)} (h : Bz w l W) (k : Nat) {g : Nat} {old : Array Value} {t : TypeId} (hk : l[k]? = some (g, .cells old t (0, 0))) (cs : Array Value) : Bz w (l.set k (g, .cells cs t (0, 0))) (W.setRow g cs) := by
  obtain ⟨hlt, he⟩ := List.getElem?_eq_some_iff.1 hk
  have hkeys : (l.set k (g, .cells cs t (0, 0))).map (·.1) = l.map (·.1) := by
    rw [List.map_set]
    apply List.ext_getElem?
    intro j
    rw [List.getElem?_set]
    split
    · rename_i hj
      subst hj
      rw [if_pos (by simpa using hlt), List.getElem?_map, hk]; rfl
    · rfl
  have hmem : (g, .cells old t (0, 0)) ∈ l := List.mem_of_getElem? hk
  refine ⟨below_row h.bel (h.low _ hmem) cs, AllB.of_get fun j x hx => ?_, ?_, fun x hx => ?_⟩
  · by_cases hj : k = j
    · subst hj
      rw [List.getElem?_set_self hlt] at hx
      cases hx
      exact setRow_heap _ _ _ _ _ _ (h.all.get k hk)
    · rw [List.getElem?_set_ne hj] at hx
      have hne : x.1 ≠ g := by
        obtain ⟨hjl, hje⟩ := List.getElem?_eq_some_iff.1 hx
        have hp := List.pairwise_iff_getElem.1 h.ord
        rcases Nat.lt_or_gt_of_ne hj with hj2 | hj2
        · have := hp k j hlt hjl hj2; rw [he, hje] at this; simp only at this; omega
        · have := hp j k hjl hlt hj2; rw [he, hje] at this; simp only at this; omega
      rw [setRow_other _ _ _ _ hne]
      exact h.all.get j hx
  · have : ((l.set k (g, Obj.cells cs t (0, 0))).map (·.1)).Pairwise (fun x y => y < x) := by
      rw [hkeys]; exact List.pairwise_map.2 h.ord
    exact List.pairwise_map.1 this
  · have hx2 : x.1 ∈ (l.set k (g, Obj.cells cs t (0, 0))).map (·.1) := List.mem_map.2 ⟨x, hx, rfl⟩
    rw [hkeys] at hx2
    obtain ⟨y, hy, e⟩ := List.mem_map.1 hx2
    rw [← e]; exact h.low y hy
theorem Bz.env {w W : World} {l : List (Nat × Obj)} (h : Bz w l W) (E : Env w) : Env W := (E.go h.bel).2
/-! ### what lies in a box, read -/
theorem loadVar_int {P : Program} {w : World} {ty : TypeId} {k : IntKind} {v : Value} {ad : Addr} (hu : P.underlying ty = some (.int k)) (h : w.cell? ad = some v) : (loadVar ty ad).run P w = .ok v w := by
  simp [loadVar, isAgg, run_underlying hu, h]
theorem loadVar_str {P : Program} {w : World} {ty : TypeId} {v : Value} {ad : Addr} (hu : P.underlying ty = some .string) (h : w.cell? ad = some v) : (loadVar ty ad).run P w = .ok v w := by
  simp [loadVar, isAgg, run_underlying hu, h]
section
variable {W : World} {g : Nat}
theorem ldA {a : List Int} (h : W.heap[g]? = some (oA a)) (ha : isA a) : (loadVar 42 ⟨g, 0, none⟩).run Tryz.prog W = .ok (vA a) W := BoxA.run h ha
theorem ldP {p : Pf} (h : W.heap[g]? = some (oP p)) (hp : p.ok) : (loadVar 55 ⟨g, 0, none⟩).run Tryz.prog W = .ok (vPf p) W := (BoxP.run h hp.1).2.2
theorem ldPa {p : Pf} (h : W.heap[g]? = some (oP p)) (hp : p.ok) : (loadVar 42 ⟨g, 0, none⟩).run Tryz.prog W = .ok (vA p.a) W := (BoxP.run h hp.1).1
theorem ldPn {p : Pf} (h : W.heap[g]? = some (oP p)) (hp : p.ok) : (loadVar 3 ⟨g, 16, none⟩).run Tryz.prog W = .ok (.int .i64 p.n) W := loadVar_int Tryz.underlying3 (BoxP.run h hp.1).2.1
theorem ldPP {p : Pr} (h : W.heap[g]? = some (oPP p)) (hp : p.fit) : (loadVar 57 ⟨g, 0, none⟩).run Tryz.prog W = .ok (vPP p) W := (BoxPP.run h hp).2.2
theorem ldPPd {p : Pr} (h : W.heap[g]? = some (oPP p)) (hp : p.fit) : (loadVar 55 ⟨g, 0, none⟩).run Tryz.prog W = .ok (vPf p.d) W := (BoxPP.run h hp).1
theorem ldPPs {p : Pr} (h : W.heap[g]? = some (oPP p)) (hp : p.fit) : (loadVar 55 ⟨g, 17, none⟩).run Tryz.prog W = .ok (vPf p.s) W := (BoxPP.run h hp).2.1
theorem ldPPdn {p : Pr} (h : W.heap[g]? = some (oPP p)) (hp : p.fit) : (loadVar 3 ⟨g, 16, none⟩).run Tryz.prog W = .ok (.int .i64 p.d.n) W := loadVar_int Tryz.underlying3 (BoxPP.lens h hp).1
theorem ldPPsn {p : Pr} (h : W.heap[g]? = some (oPP p)) (hp : p.fit) : (loadVar 3 ⟨g, 33, none⟩).run Tryz.prog W = .ok (.int .i64 p.s.n) W := loadVar_int Tryz.underlying3 (BoxPP.lens h hp).2
theorem ldPPda {p : Pr} (h : W.heap[g]? = some (oPP p)) (hp : p.fit) : (loadVar 42 ⟨g, 0, none⟩).run Tryz.prog W = .ok (vA p.d.a) W := by
  have hr := row_load h
  exact run_loadVar_mid W g 0 42 (nums .u8 p.d.a) _ (fun j v hj => hr j v (pp_at1 (pCs_at hj))) Tryz.underlying42 rfl (by rw [nums_length, hp.1.1.1]; exact size42)
end
/-! ### a box laid -/
theorem exec_alloc {P : Program} {o : Oper} {a : Act} {w : World} {t : TypeId} {z : Value} (ho : o.op = .alloc t) (hz : (P.info? t).bind (·.zero) = some z) :
    (execOp a.eval o).run P w = .ok (.value (.pointer (some ⟨w.heap.size, 0, none⟩))) (w.alloc (.cells z.cells t)) := by
  cases hi : P.info? t with
  | none => rw [hi] at hz; cases hz
  | some i =>
    rw [hi] at hz
    simp only [Option.bind_some] at hz
    unfold execOp
    simp [ho, Instr.alloc, zeroValue, typeInfo, hi, hz, newVar, newRow, Result.andThen]
theorem z42 : (Tryz.prog.info? 42).bind (·.zero) = some (vA zeroA) := by kernel_rfl
theorem z55 : (Tryz.prog.info? 55).bind (·.zero) = some (vPf zeroP) := by kernel_rfl
theorem z57 : (Tryz.prog.info? 57).bind (·.zero) = some (vPP zeroPr) := by kernel_rfl
section
variable {P : Program} {ops : Array Oper} {rest : List Oper} {o1 o2 : Oper} {a : Act} {w : World} {Q : Exit → Act → World → Prop}
/-- A variable that is made and laid at once. -/
theorem wpList_new {t : TypeId} {d : Tmp} {y : Operand} {z : Value} {cells : Array Value} (hg1 : o1.guard = none) (hg2 : o2.guard = none) (h1 : o1.op = .alloc t) (hd : o1.dst = some d) (hz : (P.info? t).bind (·.zero) = some z) (h2 : o2.op = .store t (.tmp d) y)
    (hx : (a.put (some d) (.pointer (some ⟨w.heap.size, 0, none⟩))).eval (.tmp d) = .pointer (some ⟨w.heap.size, 0, none⟩)) (hy : (a.put (some d) (.pointer (some ⟨w.heap.size, 0, none⟩))).eval y = .agg cells)
    (hi : (P.info? t).map (·.size) = some cells.size) (hs : z.cells.size = cells.size) (hone : cells.all (·.oneCell') = true)
    (h : wpList P ops Q rest ((a.put (some d) (.pointer (some ⟨w.heap.size, 0, none⟩))).put o2.dst undef) (w.alloc (.cells cells t))) : wpList P ops Q (o1 :: o2 :: rest) a w := by
  refine wpList_run hg1 (exec_alloc h1 hz) ?_
  rw [hd]
  exact wpList_store_new hg2 t (.tmp d) y h2 hx hy hi hs hone h
theorem wpList_alloc {t : TypeId} {d : Option Tmp} {z : Value} (hg1 : o1.guard = none) (h1 : o1.op = .alloc t) (hd : o1.dst = d) (hz : (P.info? t).bind (·.zero) = some z)
    (h : wpList P ops Q rest (a.put d (.pointer (some ⟨w.heap.size, 0, none⟩))) (w.alloc (.cells z.cells t))) : wpList P ops Q (o1 :: rest) a w := by
  subst hd
  exact wpList_run hg1 (exec_alloc h1 hz) h
end
theorem sizeA' {a : List Int} (ha : isA a) : (vA zeroA).cells.size = (nums .u8 a).toArray.size := by rw [sizeA ha]; rfl
theorem sizeP' {p : Pf} (ha : p.ok) : (vPf zeroP).cells.size = (pCs p.a p.n).toArray.size := by rw [pCs_size ha.1]; rfl
theorem sizePP' {p : Pr} (h : p.fit) : (vPP zeroPr).cells.size = (pCs p.d.a p.d.n ++ pCs p.s.a p.s.n).toArray.size := by rw [pp_size h]; rfl
theorem fst_num {w : World} (n : Int) : Calls Tryz.prog 31 #[.int .i64 n] w fun e w' => e = .returned (.int .i64 n) ∧ Below w.heap.size w w' := num_lit n
/-! ### a slice of two pairs -/
theorem info57z : (Tryz.prog.info? 57).map (fun i => (i.zero, i.size)) = some (some (vPP zeroPr), 34) := by kernel_rfl
def fill2 (vx vy : Value) (cells : Array Value) : Prop := Instr.fill (fun i => some (i * 34, 34)) ((Array.range (2 * 34)).map ((vPP zeroPr).cells[· % (vPP zeroPr).cells.size]!)) [(0, vx), (1, vy)] = some cells
theorem fill_V : fill2 (.agg (ppCs pP).toArray) (.agg (ppCs qP).toArray) (prs [pP, qP]).toArray := by unfold fill2; kernel_rfl
theorem wpList_slice2 {ops : Array Oper} {rest : List Oper} {o : Oper} {a : Act} {w : World} {Q : Exit → Act → World → Prop} (hg : o.guard = none) (x y : Operand) (ho : o.op = .buildSlice 50 2 #[(0, x), (1, y)]) {vx vy : Value} (hx : a.eval x = vx) (hy : a.eval y = vy) {cells : Array Value} (hf : fill2 vx vy cells)
    {d : Option Tmp} (hd : o.dst = d) (h : wpList Tryz.prog ops Q rest (a.put d (.slice (some ⟨w.heap.size, 0, none⟩) 2 2)) (w.alloc (.cells cells 57))) : wpList Tryz.prog ops Q (o :: rest) a w := by
  subst hd
  unfold fill2 at hf
  have hi := info57z
  cases hie : Tryz.prog.info? 57 with
  | none => rw [hie] at hi; cases hi
  | some ie =>
    rw [hie] at hi
    simp only [Option.map_some, Option.some.injEq, Prod.mk.injEq] at hi
    refine wpList_buildSlice hg 50 57 2 _ ho cells ie (vPP zeroPr) Tryz.underlying50 hie hi.1 (by rw [hi.2]; decide) (by rw [hi.2]; decide) ?_ h
    rw [hi.2]
    simp only [List.map_toArray, List.map_cons, List.map_nil, hx, hy]
    exact hf
theorem Row.new {W : World} {vs : List Value} {ty : TypeId} {sz n : Nat} (hl : vs.length = n * sz) (hm : n ≤ 1000) : Row (W.alloc (.cells vs.toArray ty)) (fun b => (W.alloc (.cells vs.toArray ty)).heap.size ≤ b) sz (.slice (some ⟨W.heap.size, 0, none⟩) n n) n vs := by
  refine ⟨hl, _, _, rfl, Nat.le_refl _, by unfold maxLen; omega, (fun h => by cases h), fun a ha _ => ?_⟩
  obtain rfl : (⟨W.heap.size, 0, none⟩ : Addr) = a := by injection ha
  refine ⟨_, _, rfl, by simp, by simp, fun j u hj => ?_⟩
  have := new_cells W vs ty _ rfl j u hj
  rwa [Addr.add_lit] at this
theorem Row.box {W : World} {g : Nat} {vs : List Value} {ty : TypeId} {sz n : Nat} (h : W.heap[g]? = some (.cells vs.toArray ty (0, 0))) (hl : vs.length = n * sz) (hm : n ≤ 1000) : Row W (fun b => W.heap.size ≤ b) sz (.slice (some ⟨g, 0, none⟩) n n) n vs := by
  refine ⟨hl, _, _, rfl, Nat.le_refl _, by unfold maxLen; omega, (fun h => by cases h), fun a ha _ => ?_⟩
  obtain rfl : (⟨g, 0, none⟩ : Addr) = a := by injection ha
  have hlt := lt_of_obj h
  exact ⟨_, _, rfl, by omega, hlt, fun j u hj => row_load h j u hj⟩
theorem wpList_stop {P : Program} {ops : Array Oper} {Q : Exit → Act → World → Prop} {l : List Oper} {a : Act} {w : World} (n : Nat) (hn : l.length = n) (h : wpList P ops Q l a w) : wpList P ops Q l a w := h
end Go.Proofs.YtnljjlaececnkaaGreatDoor
/-
  The document's digits. Condition: a number that is not below 0 and that a machine holds.
-/
namespace Go.Proofs.YtnljjlaececnkaaGreatDoor
open Go.RowKit
set_option linter.unusedVariables false
set_option linter.unusedSimpArgs false
theorem itoa_small {n : Int} (h0 : 0 ≤ n) (h : n < 10) : Lib.itoa n = [UInt8.ofNat (48 + n.toNat)] := by
  obtain ⟨u, rfl⟩ : ∃ u : Nat, n = u := ⟨n.toNat, by omega⟩
  rw [Lib.itoa_nonneg, Lib.decDigits_one (by omega)]; rfl
theorem itoa_big {n : Int} (h : 10 ≤ n) : Lib.itoa n = Lib.itoa (n / 10) ++ Lib.itoa (n % 10) := by
  obtain ⟨u, rfl⟩ : ∃ u : Nat, n = u := ⟨n.toNat, by omega⟩
  rw [show ((u : Int) / 10) = ((u / 10 : Nat) : Int) by omega, show ((u : Int) % 10) = ((u % 10 : Nat) : Int) by omega, Lib.itoa_nonneg, Lib.itoa_nonneg, Lib.itoa_nonneg, Lib.decDigits_one (i := u % 10) (by omega)]
  conv => lhs; rw [Lib.decDigits]
  rw [dif_neg (by omega)]
theorem itoa_len (n : Int) (h0 : 0 ≤ n) (h1 : n ≤ 9223372036854775807) : (Lib.itoa n).length ≤ 21 := Lib.itoa_length_le n (by omega) h1
/-- In base 16. -/
def hexI (n : Int) : List UInt8 := hexT n.toNat
theorem hexI_big {n : Int} (h : 16 ≤ n) : hexI n = hexI (n / 16) ++ hexI (n % 16) := by
  obtain ⟨u, rfl⟩ : ∃ u : Nat, n = u := ⟨n.toNat, by omega⟩
  unfold hexI
  rw [show ((u : Int) / 16).toNat = u / 16 by omega, show ((u : Int) % 16).toNat = u % 16 by omega, Int.toNat_natCast, hexT_big (by omega), hexT_small (u := u % 16) (by omega)]
theorem hexI_len {n : Int} (h0 : 0 ≤ n) (h1 : n < 65536) : (hexI n).length ≤ 4 := hexT_len 3 _ (by omega)
theorem ten_at : ∀ f : Fin 10, (⟨#[48, 49, 50, 51, 52, 53, 54, 55, 56, 57]⟩ : ByteArray).extract f.val (f.val + 1) = ⟨#[UInt8.ofNat (48 + f.val)]⟩ := by decide
theorem sixteen_at : ∀ f : Fin 16, (⟨#[48, 49, 50, 51, 52, 53, 54, 55, 56, 57, 97, 98, 99, 100, 101, 102]⟩ : ByteArray).extract f.val (f.val + 1) = ⟨#[dig f.val]⟩ := by decide
set_option maxRecDepth 100000 in
theorem digits_small {w : World} {n : Int} (h0 : 0 ≤ n) (h : n < 10) : Calls Tryz.prog 128 #[.int .i64 n] w fun e w' => e = .returned (.string ⟨(Lib.itoa n).toArray⟩) ∧ Below w.heap.size w w' := by
  rw [itoa_small h0 h]
  obtain ⟨u, rfl⟩ : ∃ u : Nat, n = u := ⟨n.toNat, by omega⟩
  have hx := ten_at ⟨u, by omega⟩
  simp only at hx
  replace hx := Lib.hid hx
  go_enter Tryz.func128, Tryz.ntmps128
  go_wp2
  go_ret
  exact ⟨congrArg (fun s => Ending.returned (.string s)) hx.out, Below.refl _ _⟩
set_option maxRecDepth 100000 in
set_option maxHeartbeats 800000 in
theorem digits_big {w : World} {n : Int} (h : 10 ≤ n) (h1 : n ≤ 9223372036854775807) (ih : ∀ {W : World} (m : Int), 0 ≤ m → m < n → Calls Tryz.prog 128 #[.int .i64 m] W fun e w' => e = .returned (.string ⟨(Lib.itoa m).toArray⟩) ∧ Below W.heap.size W w') :
    Calls Tryz.prog 128 #[.int .i64 n] w fun e w' => e = .returned (.string ⟨(Lib.itoa n).toArray⟩) ∧ Below w.heap.size w w' := by
  have hr := Lib.hid (itoa_big h)
  have c1 := fun {W : World} => ih (W := W) (n / 10) (by omega) (by omega)
  have c2 := fun {W : World} => ih (W := W) (n % 10) (by omega) (by omega)
  have l1 := itoa_len (n / 10) (by omega) (by omega)
  have l2 := itoa_len (n % 10) (by omega) (by omega)
  have hl : (Lib.itoa (n / 10)).length + (Lib.itoa (n % 10)).length ≤ 9223372036854775807 := by omega
  have e1 : n.tdiv 10 = n / 10 := Int.tdiv_eq_ediv_of_nonneg (by omega)
  have e2 : n.tmod 10 = n % 10 := Int.tmod_eq_emod_of_nonneg (by omega)
  have e3 : IntKind.i64.wrap (n / 10) = n / 10 := IntWalk.i64_in _ (by omega)
  have e4 : IntKind.i64.wrap (n % 10) = n % 10 := IntWalk.i64_in _ (by omega)
  have B := Bz.start w
  clear ih
  go_enter Tryz.func128, Tryz.ntmps128
  go_wp2_with (refine wpList_quiet (C := Bz w []) 7 (by rfl) B ?_)
  refine wpQuiet_hide ?_
  intro lq hlq
  refine wpQuiet_step_h hlq ?_
  clear hlq lq
  intro K lq hlq hK
  refine wanted_go (by rfl) ?_
  refine ⟨?_, fun W hW => ?_, ?_⟩
  rotate_left
  · skip
    go_simp
    with_reducible rfl
  refine hK _ ?_
  clear hK K
  (try simp only [Act.put, List.setIfInBounds_toArray, List.set_cons_zero, List.set_cons_succ])
  refine wpQuiet_step_h hlq ?_
  clear hlq lq
  intro K lq hlq hK
  refine wanted_go (by rfl) ?_
  refine ⟨.string ⟨(Lib.itoa (n / 10)).toArray⟩, fun W hW => ?_, ?_⟩
  · go_simp
    exact (c1).mono fun e W2 hc2 => ⟨hc2.1, hW.go hc2.2⟩
  refine hK _ ?_
  clear hK K
  (try simp only [Act.put, List.setIfInBounds_toArray, List.set_cons_zero, List.set_cons_succ])
  refine wpQuiet_step_h hlq ?_
  clear hlq lq
  intro K lq hlq hK
  refine wanted_go (by rfl) ?_
  refine ⟨?_, fun W hW => ?_, ?_⟩
  rotate_left
  · skip
    go_simp
    with_reducible rfl
  refine hK _ ?_
  clear hK K
  (try simp only [Act.put, List.setIfInBounds_toArray, List.set_cons_zero, List.set_cons_succ])
  refine wpQuiet_step_h hlq ?_
  clear hlq lq
  intro K lq hlq hK
  refine wanted_go (by rfl) ?_
  refine ⟨?_, fun W hW => ?_, ?_⟩
  rotate_left
  · skip
    go_simp
    with_reducible rfl
  refine hK _ ?_
  clear hK K
  (try simp only [Act.put, List.setIfInBounds_toArray, List.set_cons_zero, List.set_cons_succ])
  refine wpQuiet_step_h hlq ?_
  clear hlq lq
  intro K lq hlq hK
  refine wanted_go (by rfl) ?_
  refine ⟨.string ⟨(Lib.itoa (n % 10)).toArray⟩, fun W hW => ?_, ?_⟩
  · go_simp
    exact (c2).mono fun e W2 hc2 => ⟨hc2.1, hW.go hc2.2⟩
  refine hK _ ?_
  clear hK K
  (try simp only [Act.put, List.setIfInBounds_toArray, List.set_cons_zero, List.set_cons_succ])
  refine wpQuiet_step_h hlq ?_
  clear hlq lq
  intro K lq hlq hK
  refine wanted_go (by rfl) ?_
  refine ⟨.string ⟨(Lib.itoa (n / 10) ++ Lib.itoa (n % 10)).toArray⟩, fun W hW => ?_, ?_⟩
  · skip
    exact quiet_add rfl rfl rfl (str_add W _ _ hl)
  refine hK _ ?_
  clear hK K
  (try simp only [Act.put, List.setIfInBounds_toArray, List.set_cons_zero, List.set_cons_succ])
  refine wpQuiet_step_h hlq ?_
  clear hlq lq
  intro K lq hlq hK
  refine wanted_go (by rfl) ?_
  refine ⟨?_, fun W hW => ?_, ?_⟩
  rotate_left
  · skip
    go_simp
    with_reducible rfl
  refine hK _ ?_
  clear hK K
  (try simp only [Act.put, List.setIfInBounds_toArray, List.set_cons_zero, List.set_cons_succ])
  refine wpQuiet_nil_h hlq ?_
  clear hlq lq B
  intro V1 hV2
  go_wp2_with fail
  go_ret
  exact ⟨by rw [hr.out]; rfl, hV2.bel⟩
/-- Digits. -/
theorem digits_any : ∀ (k : Nat) (n : Int), n.toNat ≤ k → 0 ≤ n → n ≤ 9223372036854775807 → ∀ {w : World}, Calls Tryz.prog 128 #[.int .i64 n] w fun e w' => e = .returned (.string ⟨(Lib.itoa n).toArray⟩) ∧ Below w.heap.size w w'
  | k, n, hk, h0, h1, w => by
    by_cases h : n < 10
    · exact digits_small h0 h
    · exact digits_big (by omega) h1 fun m m0 mn => digits_any (k - 1) m (by omega) m0 (by omega)
termination_by k => k
decreasing_by omega
theorem digits_call {w : World} {n : Int} (h0 : 0 ≤ n) (h1 : n ≤ 9223372036854775807) : Calls Tryz.prog 128 #[.int .i64 n] w fun e w' => e = .returned (.string ⟨(Lib.itoa n).toArray⟩) ∧ Below w.heap.size w w' := digits_any n.toNat n (Nat.le_refl _) h0 h1
set_option maxRecDepth 100000 in
theorem hexes_small {w : World} {n : Int} (h0 : 0 ≤ n) (h : n < 16) : Calls Tryz.prog 166 #[.int .i64 n] w fun e w' => e = .returned (.string ⟨(hexI n).toArray⟩) ∧ Below w.heap.size w w' := by
  obtain ⟨u, rfl⟩ : ∃ u : Nat, n = u := ⟨n.toNat, by omega⟩
  have hx := sixteen_at ⟨u, by omega⟩
  have hs : hexI (u : Int) = [dig u] := hexT_small (by omega)
  rw [hs]
  clear hs
  simp only at hx
  replace hx := Lib.hid hx
  go_enter Tryz.func166, Tryz.ntmps166
  go_wp2
  go_ret
  exact ⟨congrArg (fun s => Ending.returned (.string s)) hx.out, Below.refl _ _⟩
set_option maxRecDepth 100000 in
set_option maxHeartbeats 800000 in
theorem hexes_big {w : World} {n : Int} (h : 16 ≤ n) (h1 : n < 65536) (ih : ∀ {W : World} (m : Int), 0 ≤ m → m < n → Calls Tryz.prog 166 #[.int .i64 m] W fun e w' => e = .returned (.string ⟨(hexI m).toArray⟩) ∧ Below W.heap.size W w') :
    Calls Tryz.prog 166 #[.int .i64 n] w fun e w' => e = .returned (.string ⟨(hexI n).toArray⟩) ∧ Below w.heap.size w w' := by
  have hr := Lib.hid (hexI_big h)
  have c1 := fun {W : World} => ih (W := W) (n / 16) (by omega) (by omega)
  have c2 := fun {W : World} => ih (W := W) (n % 16) (by omega) (by omega)
  have l1 := hexI_len (n := n / 16) (by omega) (by omega)
  have l2 := hexI_len (n := n % 16) (by omega) (by omega)
  have hl : (hexI (n / 16)).length + (hexI (n % 16)).length ≤ 9223372036854775807 := by omega
  have e1 : n.tdiv 16 = n / 16 := Int.tdiv_eq_ediv_of_nonneg (by omega)
  have e2 : n.tmod 16 = n % 16 := Int.tmod_eq_emod_of_nonneg (by omega)
  have e3 : IntKind.i64.wrap (n / 16) = n / 16 := IntWalk.i64_in _ (by omega)
  have e4 : IntKind.i64.wrap (n % 16) = n % 16 := IntWalk.i64_in _ (by omega)
  have B := Bz.start w
  clear ih
  go_enter Tryz.func166, Tryz.ntmps166
  go_wp2_with (refine wpList_quiet (C := Bz w []) 7 (by rfl) B ?_)
  refine wpQuiet_hide ?_
  intro lq hlq
  refine wpQuiet_step_h hlq ?_
  clear hlq lq
  intro K lq hlq hK
  refine wanted_go (by rfl) ?_
  refine ⟨?_, fun W hW => ?_, ?_⟩
  rotate_left
  · skip
    go_simp
    with_reducible rfl
  refine hK _ ?_
  clear hK K
  (try simp only [Act.put, List.setIfInBounds_toArray, List.set_cons_zero, List.set_cons_succ])
  refine wpQuiet_step_h hlq ?_
  clear hlq lq
  intro K lq hlq hK
  refine wanted_go (by rfl) ?_
  refine ⟨.string ⟨(hexI (n / 16)).toArray⟩, fun W hW => ?_, ?_⟩
  · go_simp
    exact (c1).mono fun e W2 hc2 => ⟨hc2.1, hW.go hc2.2⟩
  refine hK _ ?_
  clear hK K
  (try simp only [Act.put, List.setIfInBounds_toArray, List.set_cons_zero, List.set_cons_succ])
  refine wpQuiet_step_h hlq ?_
  clear hlq lq
  intro K lq hlq hK
  refine wanted_go (by rfl) ?_
  refine ⟨?_, fun W hW => ?_, ?_⟩
  rotate_left
  · skip
    go_simp
    with_reducible rfl
  refine hK _ ?_
  clear hK K
  (try simp only [Act.put, List.setIfInBounds_toArray, List.set_cons_zero, List.set_cons_succ])
  refine wpQuiet_step_h hlq ?_
  clear hlq lq
  intro K lq hlq hK
  refine wanted_go (by rfl) ?_
  refine ⟨?_, fun W hW => ?_, ?_⟩
  rotate_left
  · skip
    go_simp
    with_reducible rfl
  refine hK _ ?_
  clear hK K
  (try simp only [Act.put, List.setIfInBounds_toArray, List.set_cons_zero, List.set_cons_succ])
  refine wpQuiet_step_h hlq ?_
  clear hlq lq
  intro K lq hlq hK
  refine wanted_go (by rfl) ?_
  refine ⟨.string ⟨(hexI (n % 16)).toArray⟩, fun W hW => ?_, ?_⟩
  · go_simp
    exact (c2).mono fun e W2 hc2 => ⟨hc2.1, hW.go hc2.2⟩
  refine hK _ ?_
  clear hK K
  (try simp only [Act.put, List.setIfInBounds_toArray, List.set_cons_zero, List.set_cons_succ])
  refine wpQuiet_step_h hlq ?_
  clear hlq lq
  intro K lq hlq hK
  refine wanted_go (by rfl) ?_
  refine ⟨.string ⟨(hexI (n / 16) ++ hexI (n % 16)).toArray⟩, fun W hW => ?_, ?_⟩
  · skip
    exact quiet_add rfl rfl rfl (str_add W _ _ hl)
  refine hK _ ?_
  clear hK K
  (try simp only [Act.put, List.setIfInBounds_toArray, List.set_cons_zero, List.set_cons_succ])
  refine wpQuiet_step_h hlq ?_
  clear hlq lq
  intro K lq hlq hK
  refine wanted_go (by rfl) ?_
  refine ⟨?_, fun W hW => ?_, ?_⟩
  rotate_left
  · skip
    go_simp
    with_reducible rfl
  refine hK _ ?_
  clear hK K
  (try simp only [Act.put, List.setIfInBounds_toArray, List.set_cons_zero, List.set_cons_succ])
  refine wpQuiet_nil_h hlq ?_
  clear hlq lq B
  intro V1 hV2
  go_wp2_with fail
  go_ret
  exact ⟨by rw [hr.out]; rfl, hV2.bel⟩
/-- hexes. -/
theorem hexes_any : ∀ (k : Nat) (n : Int), n.toNat ≤ k → 0 ≤ n → n < 65536 → ∀ {w : World}, Calls Tryz.prog 166 #[.int .i64 n] w fun e w' => e = .returned (.string ⟨(hexI n).toArray⟩) ∧ Below w.heap.size w w'
  | k, n, hk, h0, h1, w => by
    by_cases h : n < 16
    · exact hexes_small h0 h
    · exact hexes_big (by omega) h1 fun m m0 mn => hexes_any (k - 1) m (by omega) m0 (by omega)
termination_by k => k
decreasing_by omega
theorem hexes_call {w : World} {n : Int} (h0 : 0 ≤ n) (h1 : n < 65536) : Calls Tryz.prog 166 #[.int .i64 n] w fun e w' => e = .returned (.string ⟨(hexI n).toArray⟩) ∧ Below w.heap.size w w' := hexes_any n.toNat n (Nat.le_refl _) h0 h1
end Go.Proofs.YtnljjlaececnkaaGreatDoor
/-
  The document's numbers. Condition: a number has at most eighteen digits.
-/
namespace Go.Proofs.YtnljjlaececnkaaGreatDoor
open Go.RowKit
set_option linter.unusedVariables false
set_option linter.unusedSimpArgs false
theorem decFrom_stop {l : List UInt8} {k : Nat} {c : UInt8} (hc : l[k]? = some c) (hn : ¬ (48 ≤ c.toNat ∧ c.toNat ≤ 57)) : Lib.decFrom 0 l = none := by
  cases hd : Lib.decFrom 0 l with
  | none => rfl
  | some n =>
    obtain ⟨d, hd2⟩ := Lib.digit_of_decFrom l 0 n hd k c hc
    unfold Lib.digitVal at hd2
    rw [if_neg hn] at hd2
    cases hd2
theorem decFrom_bd {l : List UInt8} {k m : Nat} (h : Lib.decFrom 0 (l.take k) = some m) (hk : k ≤ 17) : m < 100000000000000000 := Lib.decFrom_take_lt h hk
/-- What Decimal answers. -/
def DecF (s : ByteArray) (most : Int) : Value := .tuple #[.int .i64 ((decF s.data.toList most).getD 0), .bool (decF s.data.toList most).isSome]
theorem get_byte (s : ByteArray) (k : Nat) (h : k < s.size) : s.data.toList[k]? = some s[k] := by
  rw [List.getElem?_eq_getElem (by simpa using h)]; rfl
theorem len_data (s : ByteArray) : s.data.toList.length = s.size := Array.length_toList
theorem DecF_no {s : ByteArray} {most : Int} (h : decF s.data.toList most = none) : DecF s most = .tuple #[.int .i64 0, .bool false] := by unfold DecF; rw [h]; rfl
theorem DecF_yes {s : ByteArray} {most n : Int} (h : decF s.data.toList most = some n) : DecF s most = .tuple #[.int .i64 n, .bool true] := by unfold DecF; rw [h]; rfl
theorem dec118_empty {w : World} (most : Int) : Calls Tryz.prog 118 #[.string ⟨#[]⟩, .int .i64 most] w fun e w' => e = .returned (DecF ⟨#[]⟩ most) ∧ w' = w := by
  rw [DecF_no (by unfold decF; exact if_pos (.inl rfl))]
  go_enter Tryz.func118, Tryz.ntmps118
  go_wp2
  go_ret2
  exact ⟨rfl, rfl⟩
theorem emp_false {s : ByteArray} (h : s.size ≠ 0) : s.toList.isEmpty = false := by
  rw [← decide_eq_emptyBytes]
  exact decide_eq_false (fun e => h (by rw [e]; rfl))
theorem dec118_long {w : World} {s : ByteArray} {most : Int} (h0 : s.size ≠ 0) (h : most < s.size) : Calls Tryz.prog 118 #[.string s, .int .i64 most] w fun e w' => e = .returned (DecF s most) ∧ w' = w := by
  have hr : DecF s most = .tuple #[.int .i64 0, .bool false] := DecF_no (by unfold decF; exact if_pos (.inr (.inl (by rw [len_data]; exact h))))
  have he := emp_false h0
  replace hr := Lib.hid hr
  clear h0
  go_enter Tryz.func118, Tryz.ntmps118
  go_wp2
  go_ret2
  exact ⟨by rw [hr.out]; rfl, rfl⟩
set_option maxHeartbeats 1600000 in
theorem dec118_zero {w : World} {s : ByteArray} {most : Int} (h1 : 1 < s.size) (h : (s.size : Int) ≤ most) (hz : s[0].toNat = 48) : Calls Tryz.prog 118 #[.string s, .int .i64 most] w fun e w' => e = .returned (DecF s most) ∧ w' = w := by
  have hr : DecF s most = .tuple #[.int .i64 0, .bool false] := DecF_no (by
    unfold decF
    refine if_pos (.inr (.inr ⟨by rw [len_data]; exact h1, ?_⟩))
    have := get_byte s 0 (by omega)
    rw [List.head?_eq_getElem?, this]
    congr 1
    exact UInt8.toNat_inj.1 hz)
  have he := emp_false (s := s) (by omega)
  replace hr := Lib.hid hr
  have hz2 : ((s[0].toNat : Int) == 48) = true := by rw [hz]; rfl
  clear hz
  go_enter Tryz.func118, Tryz.ntmps118
  go_wp2
  go_ret2
  exact ⟨by rw [hr.out]; rfl, rfl⟩
set_option maxRecDepth 100000 in
set_option maxHeartbeats 1600000 in
theorem dec118_loop {w : World} {s : ByteArray} {most : Int} (h0 : s.size ≠ 0) (hm : most ≤ 18) (h : (s.size : Int) ≤ most) (hz : ¬ (1 < s.size ∧ s[0].toNat = 48)) : Calls Tryz.prog 118 #[.string s, .int .i64 most] w fun e w' => e = .returned (DecF s most) ∧ w' = w := by
  have hF : decF s.data.toList most = (Lib.decFrom 0 s.data.toList).map fun (n : Nat) => (n : Int) := by
    unfold decF
    refine if_neg ?_
    rw [len_data]
    rintro (h1 | h1 | ⟨h1, h2⟩)
    · have := len_data s; rw [h1] at this; simp at this; omega
    · omega
    · rw [List.head?_eq_getElem?, get_byte s 0 (by omega)] at h2
      exact hz ⟨h1, by rw [Option.some.inj h2]; rfl⟩
  have he := emp_false h0
  have hfin : Hid ((∀ m : Nat, Lib.decFrom 0 s.data.toList = some m → DecF s most = .tuple #[.int .i64 m, .bool true]) ∧ (Lib.decFrom 0 s.data.toList = none → DecF s most = .tuple #[.int .i64 0, .bool false])) :=
    Lib.hid ⟨fun m hm => DecF_yes (by rw [hF, hm]; rfl), fun hn => DecF_no (by rw [hF, hn]; rfl)⟩
  clear hF
  have head : Calls Tryz.prog 118 #[.string s, .int .i64 most] w fun e w' => e = .returned (DecF s most) ∧ w' = w := by
    by_cases h1 : 1 < s.size
    all_goals
      first
        | (have hz2 : ((s[0].toNat : Int) == 48) = false := by
            rw [beq_eq_false_iff_ne]; intro e; exact hz ⟨h1, by omega⟩)
        | skip
      clear hz
      go_enter Tryz.func118, Tryz.ntmps118
      go_wp2
      go_loop [6, 7] (fun x6 x7 => ∃ k m : Nat, k ≤ s.size ∧ x7 = .int .i64 k ∧ x6 = .int .i64 m ∧ Hid (Lib.decFrom 0 (s.data.toList.take k) = some m)) (fun _ x7 => s.size - (intOf x7).toNat)
      case atStart => exact ⟨0, 0, Nat.zero_le _, rfl, rfl, rfl⟩
      case round =>
        obtain ⟨k, m, hk, rfl, rfl, hd⟩ := hrel
        by_cases hlt : k < s.size
        · have hb := decFrom_bd hd.out (by omega)
          have hget := Lib.hid (get_byte s k hlt)
          by_cases hc : 48 ≤ s[k].toNat ∧ s[k].toNat ≤ 57
          · have hnx : Hid (Lib.decFrom 0 (s.data.toList.take (k + 1)) = some (m * 10 + (s[k].toNat - 48))) := Lib.hid (Lib.decFrom_take _ k 0 m s[k] _ hd.out hget.out (by unfold Lib.digitVal; rw [if_pos hc]))
            obtain ⟨c0, c1⟩ := hc
            go_wp2
            refine ⟨⟨k + 1, m * 10 + (s[k].toNat - 48), by omega, by congr 1, by congr 1; omega, hnx⟩, by simp [intOf]; omega⟩
          · have hno := hfin.out.2 (decFrom_stop hget.out hc)
            replace hno := Lib.hid hno
            have hc2 : s[k].toNat < 48 ∨ 57 < s[k].toNat := by omega
            rcases hc2 with hc2 | hc2
            · go_wp2
              go_ret2
              exact ⟨by rw [hno.out]; rfl, rfl⟩
            · go_wp2
              go_ret2
              exact ⟨by rw [hno.out]; rfl, rfl⟩
        · obtain rfl : k = s.size := by omega
          have hall := hd.out
          rw [List.take_of_length_le (by rw [len_data]; exact Nat.le_refl _)] at hall
          have hyes := Lib.hid (hfin.out.1 m hall)
          clear hall
          go_wp2
          go_ret2
          exact ⟨by rw [hyes.out]; rfl, rfl⟩
  exact head
/-- Decimal. -/
theorem dec118_any {w : World} (s : ByteArray) {most : Int} (hm : most ≤ 18) : Calls Tryz.prog 118 #[.string s, .int .i64 most] w fun e w' => e = .returned (DecF s most) ∧ w' = w := by
  by_cases h0 : s.size = 0
  · obtain rfl : s = ⟨#[]⟩ := ba_eq (by
      have := len_data s
      exact List.eq_nil_of_length_eq_zero (by omega))
    exact dec118_empty most
  · by_cases h : most < s.size
    · exact dec118_long h0 h
    · by_cases hz : 1 < s.size ∧ s[0].toNat = 48
      · exact dec118_zero hz.1 (by omega) hz.2
      · exact dec118_loop h0 hm (by omega) hz
end Go.Proofs.YtnljjlaececnkaaGreatDoor
/-
  The document's groups of base 16; a text at a byte. Condition: a text is no longer than memory has room for.
-/
namespace Go.Proofs.YtnljjlaececnkaaGreatDoor
open Go.RowKit
set_option linter.unusedVariables false
set_option linter.unusedSimpArgs false
theorem hexFrom_all : ∀ (l : List UInt8) (acc n : Nat), hexFrom acc l = some n → ∀ c ∈ l, (hexD c).isSome = true
  | [], _, _, _, c, h => by cases h
  | x :: l, acc, n, h, c, hc => by
    unfold hexFrom at h
    split at h
    · rename_i d hd
      rcases List.mem_cons.1 hc with rfl | hc
      · rw [hd]; rfl
      · exact hexFrom_all l _ n h c hc
    · cases h
theorem hexFrom_stop {l : List UInt8} {k : Nat} {c : UInt8} (hc : l[k]? = some c) (hn : hexD c = none) : hexFrom 0 l = none := by
  cases hd : hexFrom 0 l with
  | none => rfl
  | some n =>
    have := hexFrom_all l 0 n hd c (List.mem_of_getElem? hc)
    rw [hn] at this; cases this
theorem hexFrom_take {l : List UInt8} {k m d : Nat} {c : UInt8} (h : hexFrom 0 (l.take k) = some m) (hc : l[k]? = some c) (hd : hexD c = some d) : hexFrom 0 (l.take (k + 1)) = some (16 * m + d) := by
  rw [take_snoc hc, hexFrom_snoc, h]
  simp only [hd]
theorem hexD_lt {c : UInt8} {d : Nat} (h : hexD c = some d) : d < 16 := by
  unfold hexD at h
  repeat' split at h
  all_goals first
    | (cases h; omega)
    | cases h
theorem hexFrom_lt : ∀ (l : List UInt8) (acc n : Nat), hexFrom acc l = some n → n < (acc + 1) * 16 ^ l.length
  | [], acc, n, h => by cases h; simp
  | x :: l, acc, n, h => by
    unfold hexFrom at h
    split at h
    · rename_i d hd
      have h1 := hexFrom_lt l _ n h
      have h2 := hexD_lt hd
      have h3 : (16 * acc + d + 1) * 16 ^ l.length ≤ (16 * (acc + 1)) * 16 ^ l.length := Nat.mul_le_mul_right _ (by omega)
      rw [List.length_cons, Nat.pow_succ]
      have h4 : (16 * (acc + 1)) * 16 ^ l.length = (acc + 1) * (16 ^ l.length * 16) := by rw [Nat.mul_comm 16 (acc + 1), Nat.mul_assoc, Nat.mul_comm 16 (16 ^ l.length)]
      omega
    · cases h
theorem hexFrom_bd {l : List UInt8} {k m : Nat} (h : hexFrom 0 (l.take k) = some m) (hk : k ≤ 4) : m < 65536 := by
  have h1 := hexFrom_lt _ _ _ h
  have h2 : (l.take k).length ≤ 4 := by rw [List.length_take]; omega
  have h3 : 16 ^ (l.take k).length ≤ 16 ^ 4 := Nat.pow_le_pow_right (by decide) h2
  omega
/-- What hex answers. -/
def HexV (s : ByteArray) : Value := .tuple #[.int .i64 (((grpS s).getD 0 : Nat) : Int), .bool (grpS s).isSome]
theorem HexV_no {s : ByteArray} (h : grpS s = none) : HexV s = .tuple #[.int .i64 0, .bool false] := by unfold HexV; rw [h]; rfl
theorem HexV_yes {s : ByteArray} {n : Nat} (h : grpS s = some n) : HexV s = .tuple #[.int .i64 (n : Int), .bool true] := by unfold HexV; rw [h]; rfl
theorem hex207_empty {w : World} : Calls Tryz.prog 207 #[.string ⟨#[]⟩] w fun e w' => e = .returned (HexV ⟨#[]⟩) ∧ w' = w := by
  rw [HexV_no (by unfold grpS; exact if_pos (.inl rfl))]
  go_enter Tryz.func207, Tryz.ntmps207
  go_wp2
  go_ret2
  exact ⟨rfl, rfl⟩
theorem hex207_long {w : World} {s : ByteArray} (h : 4 < s.size) : Calls Tryz.prog 207 #[.string s] w fun e w' => e = .returned (HexV s) ∧ w' = w := by
  have hr : HexV s = .tuple #[.int .i64 0, .bool false] := HexV_no (by unfold grpS; exact if_pos (.inr h))
  have he := emp_false (s := s) (by omega)
  replace hr := Lib.hid hr
  go_enter Tryz.func207, Tryz.ntmps207
  go_wp2
  go_ret2
  exact ⟨by rw [hr.out]; rfl, rfl⟩
set_option maxRecDepth 100000 in
set_option maxHeartbeats 3200000 in
theorem hex207_loop {w : World} {s : ByteArray} (h0 : s.size ≠ 0) (h : s.size ≤ 4) : Calls Tryz.prog 207 #[.string s] w fun e w' => e = .returned (HexV s) ∧ w' = w := by
  have hF : grpS s = hexFrom 0 s.data.toList := by unfold grpS; exact if_neg (by omega)
  have he := emp_false h0
  have hfin : Hid ((∀ m : Nat, hexFrom 0 s.data.toList = some m → HexV s = .tuple #[.int .i64 m, .bool true]) ∧ (hexFrom 0 s.data.toList = none → HexV s = .tuple #[.int .i64 0, .bool false])) :=
    Lib.hid ⟨fun m hm => HexV_yes (by rw [hF, hm]), fun hn => HexV_no (by rw [hF, hn])⟩
  clear hF h0
  go_enter Tryz.func207, Tryz.ntmps207
  go_wp2
  go_loop [4, 5] (fun x4 x5 => ∃ k m : Nat, k ≤ s.size ∧ x5 = .int .i64 k ∧ x4 = .int .i64 m ∧ Hid (hexFrom 0 (s.data.toList.take k) = some m)) (fun _ x5 => s.size - (intOf x5).toNat)
  case atStart => exact ⟨0, 0, Nat.zero_le _, rfl, rfl, rfl⟩
  case round =>
    obtain ⟨k, m, hk, rfl, rfl, hd⟩ := hrel
    by_cases hlt : k < s.size
    · have hb := hexFrom_bd hd.out (by omega)
      have hget := Lib.hid (get_byte s k hlt)
      by_cases hc : 48 ≤ s[k].toNat ∧ s[k].toNat ≤ 57
      · have hnx : Hid (hexFrom 0 (s.data.toList.take (k + 1)) = some (16 * m + (s[k].toNat - 48))) := Lib.hid (hexFrom_take hd.out hget.out (by unfold hexD; rw [if_pos hc]))
        obtain ⟨c0, c1⟩ := hc
        go_wp2
        refine ⟨⟨k + 1, 16 * m + (s[k].toNat - 48), by omega, by congr 1, by congr 1; omega, hnx⟩, by simp [intOf]; omega⟩
      · by_cases hc2 : 97 ≤ s[k].toNat ∧ s[k].toNat ≤ 102
        · have hnx : Hid (hexFrom 0 (s.data.toList.take (k + 1)) = some (16 * m + (s[k].toNat - 87))) := Lib.hid (hexFrom_take hd.out hget.out (by unfold hexD; rw [if_neg hc, if_pos hc2]))
          clear hc
          obtain ⟨c0, c1⟩ := hc2
          go_wp2
          refine ⟨⟨k + 1, 16 * m + (s[k].toNat - 87), by omega, by congr 1, by congr 1; omega, hnx⟩, by simp [intOf]; omega⟩
        · by_cases hc3 : 65 ≤ s[k].toNat ∧ s[k].toNat ≤ 70
          · have hnx : Hid (hexFrom 0 (s.data.toList.take (k + 1)) = some (16 * m + (s[k].toNat - 55))) := Lib.hid (hexFrom_take hd.out hget.out (by unfold hexD; rw [if_neg hc, if_neg hc2, if_pos hc3]))
            clear hc hc2
            obtain ⟨c0, c1⟩ := hc3
            go_wp2
            refine ⟨⟨k + 1, 16 * m + (s[k].toNat - 55), by omega, by congr 1, by congr 1; omega, hnx⟩, by simp [intOf]; omega⟩
          · have hno := hfin.out.2 (hexFrom_stop hget.out (by unfold hexD; rw [if_neg hc, if_neg hc2, if_neg hc3]))
            replace hno := Lib.hid hno
            have hall : s[k].toNat < 48 ∨ (57 < s[k].toNat ∧ s[k].toNat < 65) ∨ (70 < s[k].toNat ∧ s[k].toNat < 97) ∨ 102 < s[k].toNat := by omega
            clear hc hc2 hc3
            rcases hall with hx | ⟨hx, hy⟩ | ⟨hx, hy⟩ | hx
            all_goals
              go_wp2
              go_ret2
              exact ⟨by rw [hno.out]; rfl, rfl⟩
    · obtain rfl : k = s.size := by omega
      have hall := hd.out
      rw [List.take_of_length_le (by rw [len_data]; exact Nat.le_refl _)] at hall
      have hyes := Lib.hid (hfin.out.1 m hall)
      clear hall
      go_wp2
      go_ret2
      exact ⟨by rw [hyes.out]; rfl, rfl⟩
/-- hex. -/
theorem hex207_any {w : World} (s : ByteArray) : Calls Tryz.prog 207 #[.string s] w fun e w' => e = .returned (HexV s) ∧ w' = w := by
  by_cases h0 : s.size = 0
  · obtain rfl : s = ⟨#[]⟩ := ba_eq (by
      have := len_data s
      exact List.eq_nil_of_length_eq_zero (by omega))
    exact hex207_empty
  · by_cases h : 4 < s.size
    · exact hex207_long h
    · exact hex207_loop h0 (by omega)
/-! ### a text at a byte -/
def strs (l : List ByteArray) : List Value := l.map Value.string
theorem strs_one (l : List ByteArray) : ∀ u ∈ strs l, u.oneCell' = true := by intro u hu; obtain ⟨x, _, rfl⟩ := List.mem_map.1 hu; rfl
/-- What stands ahead is cut; the rest is still to be cut. -/
def CutI (c : UInt8) (l : List UInt8) (i at_ : Nat) (done : List ByteArray) : Prop := at_ ≤ i ∧ done.length ≤ i ∧ cutL c l = done.map (·.data.toList) ++ glue ((l.drop at_).take (i - at_)) (cutL c (l.drop i))
theorem CutI.start (c : UInt8) (l : List UInt8) : CutI c l 0 0 [] := ⟨Nat.le_refl _, Nat.le_refl _, by simp [glue_nil (cutL_ne c l)]⟩
theorem CutI.step {c : UInt8} {l : List UInt8} {i at_ : Nat} {done : List ByteArray} (h : CutI c l i at_ done) {x : UInt8} (hx : l[i]? = some x) (hn : x ≠ c) : CutI c l (i + 1) at_ done := by
  obtain ⟨h1, h2, h3⟩ := h
  obtain ⟨hi, he⟩ := List.getElem?_eq_some_iff.1 hx
  refine ⟨by omega, by omega, ?_⟩
  rw [h3]
  congr 1
  rw [List.drop_eq_getElem_cons hi, he, cutL, if_neg hn, glue_glue _ _ (cutL_ne _ _)]
  congr 1
  have : i + 1 - at_ = (i - at_) + 1 := by omega
  rw [this, take_snoc (y := x)]
  rw [List.getElem?_drop, show at_ + (i - at_) = i by omega]; exact hx
theorem CutI.hit {c : UInt8} {l : List UInt8} {i at_ : Nat} {done : List ByteArray} (h : CutI c l i at_ done) (hx : l[i]? = some c) {t : ByteArray} (ht : t.data.toList = (l.drop at_).take (i - at_)) : CutI c l (i + 1) (i + 1) (done ++ [t]) := by
  obtain ⟨h1, h2, h3⟩ := h
  obtain ⟨hi, he⟩ := List.getElem?_eq_some_iff.1 hx
  refine ⟨by omega, by simp; omega, ?_⟩
  rw [h3, List.drop_eq_getElem_cons hi, he, cutL, if_pos rfl, List.map_append, List.append_assoc]
  congr 1
  rw [Nat.sub_self, List.take_zero, glue_nil (cutL_ne _ _)]
  simp [glue, ht]
theorem CutI.last {c : UInt8} {l : List UInt8} {at_ : Nat} {done : List ByteArray} (h : CutI c l l.length at_ done) {t : ByteArray} (ht : t.data.toList = (l.drop at_).take (l.length - at_)) : cutL c l = (done ++ [t]).map (·.data.toList) := by
  obtain ⟨h1, h2, h3⟩ := h
  rw [h3, List.drop_length, List.map_append]
  congr 1
  simp [cutL, glue, ht]
theorem cutB_of {c : UInt8} {s : ByteArray} {done : List ByteArray} (h : cutL c s.data.toList = done.map (·.data.toList)) : cutB c s = done := by
  unfold cutB
  rw [h, List.map_map]
  have : ((fun l : List UInt8 => (⟨l.toArray⟩ : ByteArray)) ∘ fun x : ByteArray => x.data.toList) = id := by
    funext x; exact ba_eq (by simp)
  rw [this, List.map_id]
set_option maxRecDepth 100000 in
set_option maxHeartbeats 1600000 in
/-- Cut. -/
theorem cut100_any {w : World} {s : ByteArray} (hs : s.size < 4294967281) (c : UInt8) : Calls Tryz.prog 100 #[.string s, .int .u8 c.toNat] w fun e w' => (∃ v, e = .returned v ∧ w'.ownsRow 0 9 1 v (cutB c s).length (strs (cutB c s)) ∧ Lo w.heap.size v) ∧ Below w.heap.size w w' := by
  go_enter Tryz.func100, Tryz.ntmps100
  go_wp2
  go_loopw [5, 6, 7] (fun x5 x6 x7 wr => ∃ (i at_ : Nat) (done : List ByteArray), x7 = .int .i64 i ∧ x6 = .int .i64 at_ ∧ wr.ownsRow 0 9 1 x5 done.length (strs done) ∧ Lo w.heap.size x5 ∧ Below w.heap.size w wr ∧ ((i ≤ s.size ∧ Hid (CutI c s.data.toList i at_ done)) ∨ (i = s.size + 1 ∧ Hid (cutB c s = done)))) (fun x5 x6 x7 wr => s.size + 1 - (intOf x7).toNat)
  case atStart => exact ⟨0, 0, [], rfl, rfl, by simpa [strs] using own_nil _ _ _, fun b h => by simp [Value.ownBlock] at h, Below.refl _ _, .inl ⟨Nat.zero_le _, CutI.start _ _⟩⟩
  case round =>
    obtain ⟨i, at_, done, rfl, rfl, ho, lo, bel, hI⟩ := hrel
    rcases hI with ⟨hi, hI⟩ | ⟨rfl, hI⟩
    · obtain ⟨ha1, ha2, -⟩ := id hI.out
      by_cases hlt : i < s.size
      · have hget := get_byte s i hlt
        by_cases hc : s[i] = c
        · rw [hc] at hget
          have hnx := Lib.hid (hI.out.hit hget (t := s.extract at_ i) (ext_list s at_ i))
          have hb : ((s[i].toNat : Int) == c.toNat) = true := by rw [hc]; exact beq_self_eq_true _
          clear hget hc
          go_wp2_with (at_builtin; refine wpList_app1 rfl (.tmp 25) (.tmp 30) 23 rfl Tryz.underlying23 Tryz.info9 rfl (by decide) (by decide) [.string (s.extract at_ i)] rfl (by intro z hz; simp at hz; subst hz; rfl) rfl ho rfl (by omega) ?_; intro v' w2 ho2 hn2 hf2)
          refine ⟨⟨i + 1, i + 1, done ++ [s.extract at_ i], by congr 1, by congr 1, by simpa [strs] using ho2, lo.next hn2 bel.size, bel.trans (hf2.belowB lo bel.size), .inl ⟨by omega, hnx⟩⟩, by simp [intOf]; omega⟩
        · have hnx := Lib.hid (hI.out.step hget hc)
          have hb : ((s[i].toNat : Int) == c.toNat) = false := by rw [beq_eq_false_iff_ne]; intro e; exact hc (UInt8.toNat_inj.1 (by omega))
          clear hget hc
          go_wp2
          refine ⟨⟨i + 1, at_, done, by congr 1, rfl, ho, lo, bel, .inl ⟨by omega, hnx⟩⟩, by simp [intOf]; omega⟩
      · obtain rfl : i = s.size := by omega
        have hl := len_data s
        have hfin : Hid (cutB c s = done ++ [s.extract at_ s.size]) := Lib.hid (cutB_of (by
          have := hI.out
          rw [← hl] at this
          exact this.last (t := s.extract at_ s.size) (by rw [ext_list, hl])))
        clear hl
        go_wp2_with (at_builtin; refine wpList_app1 rfl (.tmp 25) (.tmp 30) 23 rfl Tryz.underlying23 Tryz.info9 rfl (by decide) (by decide) [.string (s.extract at_ s.size)] rfl (by intro z hz; simp at hz; subst hz; rfl) rfl ho rfl (by omega) ?_; intro v' w2 ho2 hn2 hf2)
        refine ⟨⟨s.size + 1, s.size + 1, done ++ [s.extract at_ s.size], by congr 1, by congr 1, by simpa [strs] using ho2, lo.next hn2 bel.size, bel.trans (hf2.belowB lo bel.size), .inr ⟨rfl, hfin⟩⟩, by simp [intOf]⟩
    · have hd : decide ((s.size : Int) + 1 ≤ s.size) = false := decide_eq_false (by omega)
      obtain ⟨A, c2, rfl, hc1, hc2⟩ := own_slice ho
      go_wp2
      go_ret
      exact ⟨⟨_, rfl, by rw [hI.out]; exact ho, lo⟩, bel⟩
end Go.Proofs.YtnljjlaececnkaaGreatDoor
/-
  An address as four numbers, the program's way and the document's; its family, the document's way. Condition: an address is sixteen bytes.
-/
namespace Go.Proofs.YtnljjlaececnkaaGreatDoor
open Go.RowKit
set_option linter.unusedVariables false
set_option linter.unusedSimpArgs false
theorem itoa_call {w : World} (E : Env w) {n : Int} (h0 : -9223372036854775808 ≤ n) (h1 : n ≤ 9223372036854775807) : Calls Tryz.prog 117 #[.int .i64 n] w fun e w' => e = .returned (.string ⟨(Lib.itoa n).toArray⟩) ∧ Below w.heap.size w w' := by
  refine (Tryz.strconv_Itoa n h0 h1 w (E.go (Below.refl _ _)).1.pow).mono fun e W2 hc2 => ⟨hc2.1, ?_⟩
  obtain ⟨k, os, rfl⟩ := hc2.2
  exact Lib.below_grow _ _ (Nat.le_refl _) k os
/-- Join of a row of the call's own. -/
theorem join_call {w : World} {v : Value} {xs : List ByteArray} {sep : ByteArray} {n : Nat} (hn : xs.length = n) (ho : w.ownsRow 0 9 1 v n (strs xs)) (hx : xs.length ≤ 1000) (hlen : (Lib.join (xs.map (·.data.toList)) sep.data.toList).length ≤ 140737488355328) :
    Calls Tryz.prog 114 #[v, .string sep] w fun e w' => e = .returned (.string ⟨(Lib.join (xs.map (·.data.toList)) sep.data.toList).toArray⟩) ∧ Below w.heap.size w w' := by
  subst hn
  obtain ⟨A, c2, rfl, hc1, hc2⟩ := own_slice ho
  rcases Nat.eq_zero_or_pos xs.length with h0 | h0
  · obtain rfl : xs = [] := List.eq_nil_of_length_eq_zero h0
    exact (Tryz.strings_Join_none _ _ _ _).mono fun e w' h => ⟨h.1, by rw [h.2]; exact Below.refl _ _⟩
  · obtain ⟨k, rfl, -, hk, hcell, -, -⟩ := own_at ho h0
    exact Tryz.strings_Join k 0 c2 xs sep w (fun j x hj => by
      have := hcell j (.string x) (by simp [strs, hj])
      simpa using this) hk (by omega) (by omega) hlen
theorem ldAi {W : World} {g : Nat} {a : List Int} {i : Nat} (hi : i < 16) (h : W.heap[g]? = some (oA a)) (ha : isA a) : (loadVar 5 ⟨g, i, none⟩).run Tryz.prog W = .ok (.int .u8 (a.getD i 0)) W := by
  obtain ⟨x, hx, hx2, -, -⟩ := isA_getD ha hi
  rw [hx2]
  exact loadVar_int Tryz.underlying5 ((row_cell h).trans (by rw [List.getElem?_toArray]; exact nums_get hx))
theorem dotted_getD {a : List Int} (ha : isA a) : dottedS a = Lib.itoa (a.getD 12 0) ++ [46] ++ Lib.itoa (a.getD 13 0) ++ [46] ++ Lib.itoa (a.getD 14 0) ++ [46] ++ Lib.itoa (a.getD 15 0) := by
  obtain ⟨x, y, z, t, hd, -⟩ := last4 ha
  have g : ∀ j, a.getD (12 + j) 0 = [x, y, z, t].getD j 0 := fun j => by rw [← hd, List.getD_eq_getElem?_getD, List.getD_eq_getElem?_getD, List.getElem?_drop]
  have g0 := g 0
  have g1 := g 1
  have g2 := g 2
  have g3 := g 3
  simp at g0 g1 g2 g3
  unfold dottedS
  rw [hd, dotted_four]
  simp [List.getD_eq_getElem?_getD, g0, g1, g2, g3]
set_option maxRecDepth 100000 in
set_option maxHeartbeats 1600000 in
/-- fours. -/
theorem fours_any {w : World} {a : List Int} (ha : isA a) : Calls Tryz.prog 107 #[vA a] w fun e w' => e = .returned (.string ⟨(dottedS a).toArray⟩) ∧ Below w.heap.size w w' := by
  have hr := Lib.hid (dotted_getD ha)
  have Ha := Lib.hid ha
  obtain ⟨x, -, hx, x0, x1⟩ := isA_getD ha (j := 12) (by decide)
  obtain ⟨y, -, hy, y0, y1⟩ := isA_getD ha (j := 13) (by decide)
  obtain ⟨z, -, hz, z0, z1⟩ := isA_getD ha (j := 14) (by decide)
  obtain ⟨t, -, ht, t0, t1⟩ := isA_getD ha (j := 15) (by decide)
  rw [hx, hy, hz, ht] at hr
  have lx := itoa_len x x0 (by omega)
  have ly := itoa_len y y0 (by omega)
  have lz := itoa_len z z0 (by omega)
  have lt := itoa_len t t0 (by omega)
  have cx := fun {W : World} => digits_call (w := W) (n := x) x0 (by omega)
  have cy := fun {W : World} => digits_call (w := W) (n := y) y0 (by omega)
  have cz := fun {W : World} => digits_call (w := W) (n := z) z0 (by omega)
  have ct := fun {W : World} => digits_call (w := W) (n := t) t0 (by omega)
  have l1 : (Lib.itoa x).length + ([46] : List UInt8).length ≤ 9223372036854775807 := by simp; omega
  have l2 : (Lib.itoa x ++ [46]).length + (Lib.itoa y).length ≤ 9223372036854775807 := by simp; omega
  have l3 : (Lib.itoa x ++ [46] ++ Lib.itoa y).length + ([46] : List UInt8).length ≤ 9223372036854775807 := by simp; omega
  have l4 : (Lib.itoa x ++ [46] ++ Lib.itoa y ++ [46]).length + (Lib.itoa z).length ≤ 9223372036854775807 := by simp; omega
  have l5 : (Lib.itoa x ++ [46] ++ Lib.itoa y ++ [46] ++ Lib.itoa z).length + ([46] : List UInt8).length ≤ 9223372036854775807 := by simp; omega
  have l6 : (Lib.itoa x ++ [46] ++ Lib.itoa y ++ [46] ++ Lib.itoa z ++ [46]).length + (Lib.itoa t).length ≤ 9223372036854775807 := by simp; omega
  have wx : IntKind.i64.wrap x = x := IntWalk.i64_in _ (by omega)
  have wy : IntKind.i64.wrap y = y := IntWalk.i64_in _ (by omega)
  have wz : IntKind.i64.wrap z = z := IntWalk.i64_in _ (by omega)
  have wt : IntKind.i64.wrap t = t := IntWalk.i64_in _ (by omega)
  have B := ((Bz.start w).alloc (oA a) rfl : Bz w [(w.heap.size, oA a)] _)
  replace hx := Lib.hid hx
  replace hy := Lib.hid hy
  replace hz := Lib.hid hz
  replace ht := Lib.hid ht
  replace lx := Lib.hid lx
  clear ha lx ly lz lt
  unfold vA
  go_enter Tryz.func107, Tryz.ntmps107
  go_wp2_with fail
  refine wp_region_C (C := Bz w [(w.heap.size, oA a)]) (by kernel_rfl) (by kernel_rfl) (B.drew) ?_
  refine wpQuiet_hide ?_
  intro lq hlq
  refine wpQuiet_step_h hlq ?_
  clear hlq lq
  intro K lq hlq hK
  refine wanted_go (by rfl) ?_
  refine ⟨?_, fun W hW => ?_, ?_⟩
  rotate_left
  · skip
    go_simp
    with_reducible rfl
  refine hK _ ?_
  clear hK K
  (try simp only [Act.put, List.setIfInBounds_toArray, List.set_cons_zero, List.set_cons_succ])
  refine wpQuiet_step_h hlq ?_
  clear hlq lq
  intro K lq hlq hK
  refine wanted_go (by rfl) ?_
  refine ⟨.int .u8 x, fun W hW => ?_, ?_⟩
  · skip
    rw [← hx.out]; exact quiet_load 5 _ rfl rfl (ldAi (i := 12) (by decide) (hW.all.get 0 (x := (w.heap.size, oA a)) rfl) Ha.out)
  refine hK _ ?_
  clear hK K
  (try simp only [Act.put, List.setIfInBounds_toArray, List.set_cons_zero, List.set_cons_succ])
  refine wpQuiet_step_h hlq ?_
  clear hlq lq
  intro K lq hlq hK
  refine wanted_go (by rfl) ?_
  refine ⟨?_, fun W hW => ?_, ?_⟩
  rotate_left
  · skip
    go_simp
    with_reducible rfl
  refine hK _ ?_
  clear hK K
  (try simp only [Act.put, List.setIfInBounds_toArray, List.set_cons_zero, List.set_cons_succ])
  refine wpQuiet_step_h hlq ?_
  clear hlq lq
  intro K lq hlq hK
  refine wanted_go (by rfl) ?_
  refine ⟨.string ⟨(Lib.itoa x).toArray⟩, fun W hW => ?_, ?_⟩
  · go_simp
    exact (cx).mono fun e W2 hc2 => ⟨hc2.1, hW.go hc2.2⟩
  refine hK _ ?_
  clear hK K
  (try simp only [Act.put, List.setIfInBounds_toArray, List.set_cons_zero, List.set_cons_succ])
  refine wpQuiet_step_h hlq ?_
  clear hlq lq
  intro K lq hlq hK
  refine wanted_go (by rfl) ?_
  refine ⟨.string ⟨(Lib.itoa x ++ [46]).toArray⟩, fun W hW => ?_, ?_⟩
  · skip
    exact quiet_add rfl rfl rfl (str_add W _ _ l1)
  refine hK _ ?_
  clear hK K
  (try simp only [Act.put, List.setIfInBounds_toArray, List.set_cons_zero, List.set_cons_succ])
  refine wpQuiet_step_h hlq ?_
  clear hlq lq
  intro K lq hlq hK
  refine wanted_go (by rfl) ?_
  refine ⟨?_, fun W hW => ?_, ?_⟩
  rotate_left
  · skip
    go_simp
    with_reducible rfl
  refine hK _ ?_
  clear hK K
  (try simp only [Act.put, List.setIfInBounds_toArray, List.set_cons_zero, List.set_cons_succ])
  refine wpQuiet_step_h hlq ?_
  clear hlq lq
  intro K lq hlq hK
  refine wanted_go (by rfl) ?_
  refine ⟨.int .u8 y, fun W hW => ?_, ?_⟩
  · skip
    rw [← hy.out]; exact quiet_load 5 _ rfl rfl (ldAi (i := 13) (by decide) (hW.all.get 0 (x := (w.heap.size, oA a)) rfl) Ha.out)
  refine hK _ ?_
  clear hK K
  (try simp only [Act.put, List.setIfInBounds_toArray, List.set_cons_zero, List.set_cons_succ])
  refine wpQuiet_step_h hlq ?_
  clear hlq lq
  intro K lq hlq hK
  refine wanted_go (by rfl) ?_
  refine ⟨?_, fun W hW => ?_, ?_⟩
  rotate_left
  · skip
    go_simp
    with_reducible rfl
  refine hK _ ?_
  clear hK K
  (try simp only [Act.put, List.setIfInBounds_toArray, List.set_cons_zero, List.set_cons_succ])
  refine wpQuiet_step_h hlq ?_
  clear hlq lq
  intro K lq hlq hK
  refine wanted_go (by rfl) ?_
  refine ⟨.string ⟨(Lib.itoa y).toArray⟩, fun W hW => ?_, ?_⟩
  · go_simp
    exact (cy).mono fun e W2 hc2 => ⟨hc2.1, hW.go hc2.2⟩
  refine hK _ ?_
  clear hK K
  (try simp only [Act.put, List.setIfInBounds_toArray, List.set_cons_zero, List.set_cons_succ])
  refine wpQuiet_step_h hlq ?_
  clear hlq lq
  intro K lq hlq hK
  refine wanted_go (by rfl) ?_
  refine ⟨.string ⟨(Lib.itoa x ++ [46] ++ Lib.itoa y).toArray⟩, fun W hW => ?_, ?_⟩
  · skip
    exact quiet_add rfl rfl rfl (str_add W _ _ l2)
  refine hK _ ?_
  clear hK K
  (try simp only [Act.put, List.setIfInBounds_toArray, List.set_cons_zero, List.set_cons_succ])
  refine wpQuiet_step_h hlq ?_
  clear hlq lq
  intro K lq hlq hK
  refine wanted_go (by rfl) ?_
  refine ⟨.string ⟨(Lib.itoa x ++ [46] ++ Lib.itoa y ++ [46]).toArray⟩, fun W hW => ?_, ?_⟩
  · skip
    exact quiet_add rfl rfl rfl (str_add W _ _ l3)
  refine hK _ ?_
  clear hK K
  (try simp only [Act.put, List.setIfInBounds_toArray, List.set_cons_zero, List.set_cons_succ])
  refine wpQuiet_step_h hlq ?_
  clear hlq lq
  intro K lq hlq hK
  refine wanted_go (by rfl) ?_
  refine ⟨?_, fun W hW => ?_, ?_⟩
  rotate_left
  · skip
    go_simp
    with_reducible rfl
  refine hK _ ?_
  clear hK K
  (try simp only [Act.put, List.setIfInBounds_toArray, List.set_cons_zero, List.set_cons_succ])
  refine wpQuiet_step_h hlq ?_
  clear hlq lq
  intro K lq hlq hK
  refine wanted_go (by rfl) ?_
  refine ⟨.int .u8 z, fun W hW => ?_, ?_⟩
  · skip
    rw [← hz.out]; exact quiet_load 5 _ rfl rfl (ldAi (i := 14) (by decide) (hW.all.get 0 (x := (w.heap.size, oA a)) rfl) Ha.out)
  refine hK _ ?_
  clear hK K
  (try simp only [Act.put, List.setIfInBounds_toArray, List.set_cons_zero, List.set_cons_succ])
  refine wpQuiet_step_h hlq ?_
  clear hlq lq
  intro K lq hlq hK
  refine wanted_go (by rfl) ?_
  refine ⟨?_, fun W hW => ?_, ?_⟩
  rotate_left
  · skip
    go_simp
    with_reducible rfl
  refine hK _ ?_
  clear hK K
  (try simp only [Act.put, List.setIfInBounds_toArray, List.set_cons_zero, List.set_cons_succ])
  refine wpQuiet_step_h hlq ?_
  clear hlq lq
  intro K lq hlq hK
  refine wanted_go (by rfl) ?_
  refine ⟨.string ⟨(Lib.itoa z).toArray⟩, fun W hW => ?_, ?_⟩
  · go_simp
    exact (cz).mono fun e W2 hc2 => ⟨hc2.1, hW.go hc2.2⟩
  refine hK _ ?_
  clear hK K
  (try simp only [Act.put, List.setIfInBounds_toArray, List.set_cons_zero, List.set_cons_succ])
  refine wpQuiet_step_h hlq ?_
  clear hlq lq
  intro K lq hlq hK
  refine wanted_go (by rfl) ?_
  refine ⟨.string ⟨(Lib.itoa x ++ [46] ++ Lib.itoa y ++ [46] ++ Lib.itoa z).toArray⟩, fun W hW => ?_, ?_⟩
  · skip
    exact quiet_add rfl rfl rfl (str_add W _ _ l4)
  refine hK _ ?_
  clear hK K
  (try simp only [Act.put, List.setIfInBounds_toArray, List.set_cons_zero, List.set_cons_succ])
  refine wpQuiet_step_h hlq ?_
  clear hlq lq
  intro K lq hlq hK
  refine wanted_go (by rfl) ?_
  refine ⟨.string ⟨(Lib.itoa x ++ [46] ++ Lib.itoa y ++ [46] ++ Lib.itoa z ++ [46]).toArray⟩, fun W hW => ?_, ?_⟩
  · skip
    exact quiet_add rfl rfl rfl (str_add W _ _ l5)
  refine hK _ ?_
  clear hK K
  (try simp only [Act.put, List.setIfInBounds_toArray, List.set_cons_zero, List.set_cons_succ])
  refine wpQuiet_step_h hlq ?_
  clear hlq lq
  intro K lq hlq hK
  refine wanted_go (by rfl) ?_
  refine ⟨?_, fun W hW => ?_, ?_⟩
  rotate_left
  · skip
    go_simp
    with_reducible rfl
  refine hK _ ?_
  clear hK K
  (try simp only [Act.put, List.setIfInBounds_toArray, List.set_cons_zero, List.set_cons_succ])
  refine wpQuiet_step_h hlq ?_
  clear hlq lq
  intro K lq hlq hK
  refine wanted_go (by rfl) ?_
  refine ⟨.int .u8 t, fun W hW => ?_, ?_⟩
  · skip
    rw [← ht.out]; exact quiet_load 5 _ rfl rfl (ldAi (i := 15) (by decide) (hW.all.get 0 (x := (w.heap.size, oA a)) rfl) Ha.out)
  refine hK _ ?_
  clear hK K
  (try simp only [Act.put, List.setIfInBounds_toArray, List.set_cons_zero, List.set_cons_succ])
  refine wpQuiet_step_h hlq ?_
  clear hlq lq
  intro K lq hlq hK
  refine wanted_go (by rfl) ?_
  refine ⟨?_, fun W hW => ?_, ?_⟩
  rotate_left
  · skip
    go_simp
    with_reducible rfl
  refine hK _ ?_
  clear hK K
  (try simp only [Act.put, List.setIfInBounds_toArray, List.set_cons_zero, List.set_cons_succ])
  refine wpQuiet_step_h hlq ?_
  clear hlq lq
  intro K lq hlq hK
  refine wanted_go (by rfl) ?_
  refine ⟨.string ⟨(Lib.itoa t).toArray⟩, fun W hW => ?_, ?_⟩
  · go_simp
    exact (ct).mono fun e W2 hc2 => ⟨hc2.1, hW.go hc2.2⟩
  refine hK _ ?_
  clear hK K
  (try simp only [Act.put, List.setIfInBounds_toArray, List.set_cons_zero, List.set_cons_succ])
  refine wpQuiet_step_h hlq ?_
  clear hlq lq
  intro K lq hlq hK
  refine wanted_go (by rfl) ?_
  refine ⟨.string ⟨(Lib.itoa x ++ [46] ++ Lib.itoa y ++ [46] ++ Lib.itoa z ++ [46] ++ Lib.itoa t).toArray⟩, fun W hW => ?_, ?_⟩
  · skip
    exact quiet_add rfl rfl rfl (str_add W _ _ l6)
  refine hK _ ?_
  clear hK K
  (try simp only [Act.put, List.setIfInBounds_toArray, List.set_cons_zero, List.set_cons_succ])
  refine wpQuiet_step_h hlq ?_
  clear hlq lq
  intro K lq hlq hK
  refine wanted_go (by rfl) ?_
  refine ⟨?_, fun W hW => ?_, ?_⟩
  rotate_left
  · skip
    go_simp
    with_reducible rfl
  refine hK _ ?_
  clear hK K
  (try simp only [Act.put, List.setIfInBounds_toArray, List.set_cons_zero, List.set_cons_succ])
  refine wpQuiet_nil_h hlq ?_
  clear hlq lq B
  intro V1 hV2
  go_wp2_with fail
  go_ret
  exact ⟨congrArg (fun l : List UInt8 => Ending.returned (.string ⟨l.toArray⟩)) (show Lib.itoa x ++ 46 :: (Lib.itoa y ++ 46 :: (Lib.itoa z ++ 46 :: Lib.itoa t)) = dottedS a by rw [hr.out]; simp), hV2.bel⟩
theorem AllB.fr {S : Nat → Prop} {w w2 : World} (h : Fr S w w2) : ∀ {l : List (Nat × Obj)}, AllB w l → (∀ x ∈ l, ¬ S x.1) → AllB w2 l
  | [], _, _ => trivial
  | x :: l, ⟨hx, r⟩, hn => ⟨h.obj hx (hn x (by simp)), AllB.fr h r fun y hy => hn y (by simp [hy])⟩
theorem Bz.fr {S : Nat → Prop} {w W W2 : World} {l : List (Nat × Obj)} (h : Bz w l W) (hf : Fr S W W2) (hn : ∀ x ∈ l, ¬ S x.1) (hs : ∀ b, S b → w.heap.size ≤ b) : Bz w l W2 :=
  ⟨h.bel.trans (hf.belowS hs h.bel.size), AllB.fr hf h.all hn, h.ord, h.low⟩
/-- The numbers of an address that are texts by now. -/
def dots (a : List Int) (j : Nat) : List ByteArray := ((a.drop 12).take j).map fun x => ⟨(Lib.itoa x).toArray⟩
theorem slice42_low (W : World) (g : Nat) : (Instr.sliceAt 42 (.pointer (some ⟨g, 0, none⟩)) (some (.int .i64 12)) none none).run Tryz.prog W = .ok (.slice (some ⟨g, 12, none⟩) 4 4) W := by
  have a16 : Tryz.prog.arrayLen 42 = 16 := by kernel_rfl
  have e5 : Tryz.prog.elem 42 = 5 := by kernel_rfl
  have hs : (sizeOf 5).run Tryz.prog W = .ok 1 W := by kernel_rfl
  have h := run_sliceAt_array_l (P := Tryz.prog) W 42 ⟨g, 0, none⟩ (by kernel_rfl) .i64 12 (by decide) (by rw [a16]; decide)
  rw [h, e5, hs, a16]
  simp [Result.andThen, slicedAt, Addr.add]
set_option maxRecDepth 100000 in
set_option maxHeartbeats 1600000 in
/-- dotted. -/
theorem dotted_any {w : World} (E : Env w) {a : List Int} (ha : isA a) : Calls Tryz.prog 105 #[vA a] w fun e w' => e = .returned (.string ⟨(dottedS a).toArray⟩) ∧ Below w.heap.size w w' := by
  have B := ((Bz.start w).alloc (oA a) rfl : Bz w [(w.heap.size, oA a)] _)
  have Ha := Lib.hid ha
  have hsl := fun W => slice42_low W w.heap.size
  clear ha
  unfold vA
  go_enter Tryz.func105, Tryz.ntmps105
  go_wp2
  go_loopw [3, 8] (fun x3 x8 wr => ∃ j : Nat, x8 = .int .i64 j ∧ j ≤ 4 ∧ wr.ownsRow 0 9 1 x3 j (strs (dots a j)) ∧ Lo (w.heap.size + 1) x3 ∧ Bz w [(w.heap.size, oA a)] wr) (fun x3 x8 wr => 4 - (intOf x8).toNat)
  case atStart => exact ⟨0, rfl, by omega, by simpa [strs, dots] using own_nil _ _ _, fun b h => by simp [Value.ownBlock] at h, B⟩
  case round =>
    obtain ⟨j, rfl, hj, ho, lo, bx⟩ := hrel
    have hsz : w.heap.size + 1 ≤ wr.heap.size := lt_of_obj (bx.all.get 0 (x := (w.heap.size, oA a)) rfl)
    by_cases hlt : j < 4
    · obtain ⟨x, hx, -, x0, x1⟩ := isA_getD Ha.out (j := 12 + j) (by omega)
      have c1 : wr.cell? ⟨w.heap.size, 12 + j, none⟩ = some (.int .u8 x) := (row_cell (bx.all.get 0 (x := (w.heap.size, oA a)) rfl)).trans (by rw [List.getElem?_toArray]; exact nums_get hx)
      have ht : Hid (strs (dots a (j + 1)) = strs (dots a j) ++ [.string ⟨(Lib.itoa x).toArray⟩]) := Lib.hid (by
        unfold strs dots
        rw [take_snoc (y := x) (by rw [List.getElem?_drop]; exact hx)]; simp)
      replace hx := Lib.hid hx
      go_wp2_with (first | (go_at_call 117; refine (itoa_call (bx.env E) (by omega) (by omega)).mono ?_; rintro e w1 ⟨rfl, bel1⟩) | (at_builtin; refine wpList_app1 rfl (.tmp 12) (.tmp 16) 23 rfl Tryz.underlying23 Tryz.info9 rfl (by decide) (by decide) [.string ⟨(Lib.itoa x).toArray⟩] rfl (by intro z hz; simp at hz; subst hz; rfl) rfl (own_below ho bel1 (own_lt ho)) rfl (by omega) ?_; intro v' w2 ho2 hn2 hf2))
      have bx1 := bx.go bel1
      refine ⟨⟨j + 1, by congr 1, by omega, by rw [ht.out]; exact ho2, lo.next hn2 (Nat.le_trans hsz bel1.size), bx1.fr hf2 (fun x hx hb => by
        simp at hx; subst hx
        have h2 : w.heap.size + 1 ≤ w.heap.size := lo _ hb
        omega) (fun b hb => by have := lo _ hb; omega)⟩, by simp [intOf]; omega⟩
    · obtain rfl : j = 4 := by omega
      have hd : (dots a 4).length = 4 := by
        obtain ⟨x, y, z, t, h, -⟩ := last4 Ha.out
        unfold dots; rw [h]; rfl
      have hj2 : Lib.join ((dots a 4).map (·.data.toList)) [46] = dottedS a := by
        obtain ⟨x, y, z, t, h, -⟩ := last4 Ha.out
        unfold dots dottedS; rw [h]; rfl
      have hlen : (dottedS a).length ≤ 1000 := by
        rw [dotted_getD Ha.out]
        obtain ⟨x, -, hx, x0, x1⟩ := isA_getD Ha.out (j := 12) (by decide)
        obtain ⟨y, -, hy, y0, y1⟩ := isA_getD Ha.out (j := 13) (by decide)
        obtain ⟨z, -, hz, z0, z1⟩ := isA_getD Ha.out (j := 14) (by decide)
        obtain ⟨t, -, ht, t0, t1⟩ := isA_getD Ha.out (j := 15) (by decide)
        rw [hx, hy, hz, ht]
        have lx := itoa_len x x0 (by omega)
        have ly := itoa_len y y0 (by omega)
        have lz := itoa_len z z0 (by omega)
        have lt := itoa_len t t0 (by omega)
        simp; omega
      have hjc := join_call (xs := dots a 4) (sep := ⟨#[46]⟩) hd ho (by omega) (by show (Lib.join _ [46]).length ≤ _; rw [hj2]; omega)
      rw [show (⟨#[46]⟩ : ByteArray).data.toList = [46] from rfl, hj2] at hjc
      clear hd hj2 hlen
      go_wp2_with (go_at_call 114; refine hjc.mono ?_; rintro e w1 ⟨rfl, bel1⟩)
      go_ret
      exact ⟨rfl, (bx.go bel1).bel⟩
set_option maxRecDepth 100000 in
set_option maxHeartbeats 800000 in
theorem print4_any {w : World} (E : Env w) {a : List Int} (ha : isA a) (h4 : fam a = 4) : Calls Tryz.prog 34 #[vA a] w fun e w' => e = .returned (.string ⟨(dottedS a).toArray⟩) ∧ Below w.heap.size w w' := by
  have B := ((Bz.start w).alloc (oA a) rfl : Bz w [(w.heap.size, oA a)] _)
  have Ha := Lib.hid ha
  have hf : ∀ {W : World}, Calls Tryz.prog 32 #[vA a] W fun e w' => e = .returned (.int .i64 4) ∧ Below W.heap.size W w' := (fam_any ha).mono fun e w' h => ⟨by rw [h.1, h4], h.2⟩
  clear ha h4
  unfold vA
  go_enter Tryz.func34, Tryz.ntmps34
  go_wp2_with (refine wpList_quiet (C := Bz w [(w.heap.size, oA a)]) 3 (by rfl) B ?_)
  refine wpQuiet_hide ?_
  intro lq hlq
  refine wpQuiet_step_h hlq ?_
  clear hlq lq
  intro K lq hlq hK
  refine wanted_go (by rfl) ?_
  refine ⟨vA a, fun W hW => ?_, ?_⟩
  · skip
    exact quiet_load 42 _ rfl rfl (ldA (hW.all.get 0 (x := (w.heap.size, oA a)) rfl) Ha.out)
  refine hK _ ?_
  clear hK K
  (try simp only [Act.put, List.setIfInBounds_toArray, List.set_cons_zero, List.set_cons_succ])
  refine wpQuiet_step_h hlq ?_
  clear hlq lq
  intro K lq hlq hK
  refine wanted_go (by rfl) ?_
  refine ⟨.int .i64 4, fun W hW => ?_, ?_⟩
  · go_simp
    exact (hf).mono fun e W2 hc2 => ⟨hc2.1, hW.go hc2.2⟩
  refine hK _ ?_
  clear hK K
  (try simp only [Act.put, List.setIfInBounds_toArray, List.set_cons_zero, List.set_cons_succ])
  refine wpQuiet_step_h hlq ?_
  clear hlq lq
  intro K lq hlq hK
  refine wanted_go (by rfl) ?_
  refine ⟨?_, fun W hW => ?_, ?_⟩
  rotate_left
  · skip
    go_simp
    with_reducible rfl
  refine hK _ ?_
  clear hK K
  (try simp only [Act.put, List.setIfInBounds_toArray, List.set_cons_zero, List.set_cons_succ])
  refine wpQuiet_nil_h hlq ?_
  clear hlq lq B
  intro V1 hV2
  go_wp2_with (refine wpList_quiet (C := Bz w [(w.heap.size, oA a)]) 3 (by rfl) hV2 ?_)
  refine wpQuiet_hide ?_
  intro lq hlq
  refine wpQuiet_step_h hlq ?_
  clear hlq lq
  intro K lq hlq hK
  refine wanted_go (by rfl) ?_
  refine ⟨vA a, fun W hW => ?_, ?_⟩
  · skip
    exact quiet_load 42 _ rfl rfl (ldA (hW.all.get 0 (x := (w.heap.size, oA a)) rfl) Ha.out)
  refine hK _ ?_
  clear hK K
  (try simp only [Act.put, List.setIfInBounds_toArray, List.set_cons_zero, List.set_cons_succ])
  refine wpQuiet_step_h hlq ?_
  clear hlq lq
  intro K lq hlq hK
  refine wanted_go (by rfl) ?_
  refine ⟨.string ⟨(dottedS a).toArray⟩, fun W hW => ?_, ?_⟩
  · go_simp
    have E' := hW.env E
    exact (dotted_any E' Ha.out).mono fun e W2 hc2 => ⟨hc2.1, hW.go hc2.2⟩
  refine hK _ ?_
  clear hK K
  (try simp only [Act.put, List.setIfInBounds_toArray, List.set_cons_zero, List.set_cons_succ])
  refine wpQuiet_step_h hlq ?_
  clear hlq lq
  intro K lq hlq hK
  refine wanted_go (by rfl) ?_
  refine ⟨?_, fun W hW => ?_, ?_⟩
  rotate_left
  · skip
    go_simp
    with_reducible rfl
  refine hK _ ?_
  clear hK K
  (try simp only [Act.put, List.setIfInBounds_toArray, List.set_cons_zero, List.set_cons_succ])
  refine wpQuiet_nil_h hlq ?_
  clear hlq lq hV2
  intro V3 hV4
  go_wp2_with fail
  go_ret
  exact ⟨rfl, hV4.bel⟩
/-- Print. -/
theorem print_any {w : World} (E : Env w) {a : List Int} (ha : isA a) : Calls Tryz.prog 34 #[vA a] w fun e w' => e = .returned (.string ⟨(printS a).toArray⟩) ∧ Below w.heap.size w w' := by
  unfold printS
  rcases fam_or a with h | h
  · rw [if_pos h]; exact print4_any E ha h
  · rw [if_neg (by omega)]; exact print6_any E ha h
/-- How far an address begins as an IPv4 one does. -/
theorem mapd_at {i : Nat} (h : i < 12) : mapd[i]? = some (if i < 10 then 0 else 255) := by
  match i, h with
  | 0, _ | 1, _ | 2, _ | 3, _ | 4, _ | 5, _ | 6, _ | 7, _ | 8, _ | 9, _ | 10, _ | 11, _ => rfl
theorem fam_no {a : List Int} {i : Nat} {x : Int} (hi : i < 12) (hx : a[i]? = some x) (h : x ≠ if i < 10 then 0 else 255) : fam a = 6 := by
  unfold fam
  refine if_neg fun e => h ?_
  have h1 : (a.take 12)[i]? = some x := by rw [List.getElem?_take_of_lt hi]; exact hx
  rw [e, mapd_at hi] at h1
  exact (Option.some.inj h1).symm
theorem fam_yes {a : List Int} (ha : isA a) (h : ∀ i x, i < 12 → a[i]? = some x → x = if i < 10 then 0 else 255) : fam a = 4 := by
  unfold fam
  refine if_pos (List.ext_getElem? fun i => ?_)
  by_cases hi : i < 12
  · obtain ⟨x, hx⟩ := get_some (l := a) (j := i) (by rw [ha.1]; omega)
    rw [List.getElem?_take_of_lt hi, hx, mapd_at hi, h i x hi hx]
  · rw [List.getElem?_eq_none (by simp; omega), List.getElem?_eq_none (by simp [mapd]; omega)]
set_option maxRecDepth 100000 in
set_option maxHeartbeats 1600000 in
/-- Family, the document's. -/
theorem rfam_any {w : World} {a : List Int} (ha : isA a) : Calls Tryz.prog 33 #[vA a] w fun e w' => e = .returned (.int .i64 (fam a)) ∧ Below w.heap.size w w' := by
  have bel : Below w.heap.size w (w.alloc (oA a)) := (Below.refl _ _).alloc (Nat.le_refl _) _
  have hb := Lib.hid (box1 w (oA a))
  have Ha := Lib.hid ha
  clear ha
  unfold vA
  go_enter Tryz.func33, Tryz.ntmps33
  go_wp2
  go_loop [3] (fun x3 => ∃ i : Nat, i ≤ 12 ∧ x3 = .int .i64 i ∧ Hid (∀ j x, j < i → a[j]? = some x → x = if j < 10 then 0 else 255)) (fun x3 => 12 - (intOf x3).toNat)
  case atStart => exact ⟨0, by omega, rfl, Lib.hid fun j x h => by omega⟩
  case round =>
    obtain ⟨i, hi, rfl, hall⟩ := hrel
    by_cases hlt : i < 12
    · obtain ⟨x, hx, -, x0, x1⟩ := isA_getD Ha.out (j := i) (by omega)
      have c1 : (w.alloc (oA a)).cell? ⟨w.heap.size, i, none⟩ = some (.int .u8 x) := (row_cell hb.out).trans (by rw [List.getElem?_toArray]; exact nums_get hx)
      unfold oA at c1
      by_cases h : x = if i < 10 then 0 else 255
      · have hnx : Hid (∀ j x, j < i + 1 → a[j]? = some x → x = if j < 10 then 0 else 255) := Lib.hid fun j y hj hy => by
          by_cases hji : j = i
          · subst hji; rw [hx] at hy; cases hy; exact h
          · exact hall.out j y (by omega) hy
        replace hx := Lib.hid hx
        by_cases h10 : i < 10
        · rw [if_pos h10] at h
          subst h
          go_wp2
          refine ⟨⟨i + 1, by omega, by congr 1, hnx⟩, by simp [intOf]; omega⟩
        · rw [if_neg h10] at h
          subst h
          go_wp2
          refine ⟨⟨i + 1, by omega, by congr 1, hnx⟩, by simp [intOf]; omega⟩
      · have hf := Lib.hid (fam_no hlt hx h)
        replace hx := Lib.hid hx
        by_cases h10 : i < 10
        · rw [if_pos h10] at h
          have hb2 : (x == 0) = false := by simpa using h
          replace h := Lib.hid h
          go_wp2
          go_ret
          exact ⟨by rw [hf.out]; rfl, bel⟩
        · rw [if_neg h10] at h
          have hb2 : (x == 255) = false := by simpa using h
          replace h := Lib.hid h
          go_wp2
          go_ret
          exact ⟨by rw [hf.out]; rfl, bel⟩
    · obtain rfl : i = 12 := by omega
      have hf := Lib.hid (fam_yes Ha.out fun j x h hx => hall.out j x h hx)
      go_wp2
      go_ret
      exact ⟨by rw [hf.out]; rfl, bel⟩
end Go.Proofs.YtnljjlaececnkaaGreatDoor
/-
  The parts of sync.Once: the lock, what is stored at the end. Condition: the lock is free, nobody waits.
-/
namespace Go.Proofs.YtnljjlaececnkaaGreatDoor
open Go.RowKit
set_option linter.unusedVariables false
set_option linter.unusedSimpArgs false
namespace Once
theorem disable (w : World) : (callFunc 316 #[]).run Tryz.prog w = .ok (.value (.tuple #[])) w := run_call_mark0 Tryz.func316 (by kernel_rfl) (by kernel_rfl) (by kernel_rfl) .disable (by kernel_rfl) w
theorem enable (w : World) : (callFunc 318 #[]).run Tryz.prog w = .ok (.value (.tuple #[])) w := run_call_mark0 Tryz.func318 (by kernel_rfl) (by kernel_rfl) (by kernel_rfl) .enable (by kernel_rfl) w
theorem acquire (a : Addr) (w : World) : (callFunc 319 #[.pointer (some a)]).run Tryz.prog w = .ok (.value (.tuple #[])) w := run_call_marked Tryz.func319 (by kernel_rfl) (by kernel_rfl) (by kernel_rfl) .acquire (by kernel_rfl) a w
theorem releaseMerge (a : Addr) (w : World) : (callFunc 321 #[.pointer (some a)]).run Tryz.prog w = .ok (.value (.tuple #[])) w := run_call_marked Tryz.func321 (by kernel_rfl) (by kernel_rfl) (by kernel_rfl) .releaseMerge (by kernel_rfl) a w
theorem store_deferred (a : Addr) (x : Value) (u : FrameMode) (w : World) (hc : w.cell? a = some x) (hz : w.frozen? a = false) :
    CallsD Tryz.prog 298 #[.pointer (some a), .bool true] u w fun e u' w' => u' = u ∧ (e = .returned (.tuple #[]) ∧ w' = w.drew.setCell a (.int .u32 1)) := by
  have hc' : w.drew.cell? a = some x := by go_simp
  have hz' : w.drew.frozen? a = false := by go_simp
  have hst := run_call_store (P := Tryz.prog) Tryz.func312 (by kernel_rfl) (by kernel_rfl) (by kernel_rfl) (by kernel_rfl) (k := .u32) (y := 1) hc' hz'
  go_enter_d Tryz.func298, Tryz.ntmps298
  go_wp2
  go_region_calls
  all_goals (go_end0; exact ⟨rfl, rfl⟩)
set_option maxRecDepth 100000 in
set_option maxHeartbeats 1600000 in
theorem unlock_deferred (a : Addr) (u : FrameMode) (w : World) (hc : w.cell? a = some (.int .i32 1)) (hz : w.frozen? a = false) :
    CallsD Tryz.prog 297 #[.pointer (some a)] u w fun e u' w' => u' = u ∧ (e = .returned (.tuple #[]) ∧ w' = w.setCell a (.int .i32 0)) := by
  have hd := disable
  have he := enable
  have hr := releaseMerge
  have hadd := run_call_add (P := Tryz.prog) Tryz.func322 (by kernel_rfl) (by kernel_rfl) (by kernel_rfl) .i32 (by kernel_rfl) (y := -1) (s := 0) hc hz (by simp [go_sem]; rfl)
  have hcv := run_convert_to_unsafe (P := Tryz.prog) (src := 383) (dst := 310) Tryz.underlying383 Tryz.underlying310 (by kernel_rfl) hc
  go_enter_d Tryz.func297, Tryz.ntmps297
  go_wp2
  go_end0
  go_wp2
  go_end0
  exact ⟨rfl, rfl⟩
set_option maxRecDepth 100000 in
set_option maxHeartbeats 1600000 in
theorem lock_free (a : Addr) (w : World) (hc : w.cell? a = some (.int .i32 0)) (hz : w.frozen? a = false) :
    Calls Tryz.prog 296 #[.pointer (some a)] w fun e w' => e = .returned (.tuple #[]) ∧ w' = w.setCell a (.int .i32 1) := by
  have hd := disable
  have he := enable
  have ha := acquire
  have hcas := run_call_cas_hit (P := Tryz.prog) Tryz.func317 (by kernel_rfl) (by kernel_rfl) (by kernel_rfl) .i32 (by kernel_rfl) (y := 1) hc hz
  have hc' : (w.setCell a (.int .i32 1)).cell? a = some (.int .i32 1) := World.cell?_setCell_same w a _ hc
  have hcv := run_convert_to_unsafe (P := Tryz.prog) (src := 383) (dst := 310) Tryz.underlying383 Tryz.underlying310 (by kernel_rfl) hc'
  go_enter Tryz.func296, Tryz.ntmps296
  go_wp2
  first | go_end0 | (simp only [Exit.inBlock, Exit.then]; refine bodyPost_ret (results_none rfl _ _ _) rfl ?_) | refine bodyPost_ret (results_none rfl _ _ _) rfl ?_
  go_wp2
  go_end0
  exact ⟨rfl, rfl⟩
end Once
end Go.Proofs.YtnljjlaececnkaaGreatDoor
/-
  The document's groups. Condition: a text is no longer than memory has room for.
-/
namespace Go.Proofs.YtnljjlaececnkaaGreatDoor
open Go.RowKit
set_option linter.unusedVariables false
set_option linter.unusedSimpArgs false
theorem Tryz.info3 : (Tryz.prog.info? 3).map (fun i => (i.zero, i.size, i.bytes)) = some (some (.int .i64 0), 1, 8) := by kernel_rfl
def nats (l : List Nat) : List Value := l.map (fun u : Nat => Value.int .i64 (Int.ofNat u))
def grpU (t : ByteArray) : Nat := (grpS t).getD 0
/-- The groups of a text. -/
def grpN (s : ByteArray) : Option (List Nat) := if s.size = 0 then some [] else if (cutB 58 s).all (fun t => (grpS t).isSome) then some ((cutB 58 s).map grpU) else none
theorem grpsN (s : ByteArray) : grpsS s = (grpN s).map fb := by
  unfold grpsS grpN
  split
  · rfl
  · unfold grpsL
    rw [show pieces s colB = cutB 58 s from pieces_eq 58 s]
    split
    · simp only [Option.map_some, fb, List.map_map]; rfl
    · rfl
theorem cutL_len (c : UInt8) : ∀ l : List UInt8, (cutL c l).length ≤ l.length + 1
  | [] => by simp [cutL]
  | x :: l => by
    have ih := cutL_len c l
    unfold cutL
    split
    · simp; omega
    · have : ∀ (p : List UInt8) (q : List (List UInt8)), q ≠ [] → (glue p q).length = q.length := fun p q h => by cases q with
        | nil => exact absurd rfl h
        | cons a b => rfl
      rw [this _ _ (cutL_ne _ _)]; simp; omega
theorem cutB_len (c : UInt8) (s : ByteArray) : 0 < (cutB c s).length ∧ (cutB c s).length ≤ s.size + 1 := by
  have h1 := cutL_len c s.data.toList
  have h2 := List.length_pos_iff.2 (cutL_ne c s.data.toList)
  rw [len_data] at h1
  unfold cutB
  rw [List.length_map]
  exact ⟨h2, h1⟩
theorem grpN_no {s t : ByteArray} {i : Nat} (h0 : s.size ≠ 0) (ht : (cutB 58 s)[i]? = some t) (hn : grpS t = none) : grpN s = none := by
  unfold grpN
  refine (if_neg h0).trans (if_neg fun h => ?_)
  have := List.all_eq_true.1 h t (List.mem_of_getElem? ht)
  rw [hn] at this; cases this
theorem grpN_yes {s : ByteArray} (h0 : s.size ≠ 0) (h : ∀ t ∈ cutB 58 s, (grpS t).isSome = true) : grpN s = some ((cutB 58 s).map grpU) := by
  unfold grpN
  exact (if_neg h0).trans (if_pos (List.all_eq_true.2 h))
def GrpNR (w : World) (s : ByteArray) (e : Ending) (W' : World) : Prop := ∃ v, e = .returned (.tuple #[v, .bool (grpN s).isSome]) ∧ W'.ownsRow 0 3 1 v ((grpN s).getD []).length (nats ((grpN s).getD [])) ∧ Lo w.heap.size v
theorem GrpNR.no {w W' : World} {s : ByteArray} (h : grpN s = none) : GrpNR w s (.returned (.tuple #[.slice none 0 0, .bool false])) W' := ⟨_, by rw [h]; rfl, by rw [h]; exact own_nil _ _ _, fun b hb => by simp [Value.ownBlock] at hb⟩
set_option maxRecDepth 100000 in
set_option maxHeartbeats 1600000 in
/-- groups of the document. -/
theorem ref_groups {w : World} {s : ByteArray} (hs : s.size < 4294967281) : Calls Tryz.prog 163 #[.string s] w fun e w' => GrpNR w s e w' ∧ Below w.heap.size w w' := by
  by_cases h0 : s.size = 0
  · obtain rfl : s = ⟨#[]⟩ := ba_eq (by
      have := len_data s
      exact List.eq_nil_of_length_eq_zero (by omega))
    go_enter Tryz.func163, Tryz.ntmps163
    go_wp2
    go_ret2
    exact ⟨⟨_, rfl, own_nil _ _ _, fun b hb => by simp [Value.ownBlock] at hb⟩, Below.refl _ _⟩
  · have he := emp_false h0
    have hcut : ∀ W : World, Calls Tryz.prog 100 #[.string s, .int .u8 58] W fun e w' => (∃ v, e = .returned v ∧ w'.ownsRow 0 9 1 v (cutB 58 s).length (strs (cutB 58 s)) ∧ Lo W.heap.size v) ∧ Below W.heap.size W w' := fun W => cut100_any hs 58
    obtain ⟨hn0, hn1⟩ := cutB_len 58 s
    have hfin : Hid ((∀ (i : Nat) t, (cutB 58 s)[i]? = some t → grpS t = none → grpN s = none) ∧ ((∀ t ∈ cutB 58 s, (grpS t).isSome = true) → grpN s = some ((cutB 58 s).map grpU))) := Lib.hid ⟨fun i t => grpN_no h0, grpN_yes h0⟩
    generalize hL : cutB 58 s = L at *
    obtain ⟨n, hn⟩ : ∃ n, L.length = n := ⟨_, rfl⟩
    rw [hn] at hcut hn0 hn1
    clear h0 hL
    go_enter Tryz.func163, Tryz.ntmps163
    go_wp2_with (go_at_call 100; refine (hcut _).mono ?_; rintro e w1 ⟨⟨v, rfl, hrow, low⟩, bel⟩; obtain ⟨A, c2, rfl, hc1, hc2⟩ := own_slice hrow; obtain ⟨k, rfl, -, hk, hcell, hfr, -⟩ := own_at hrow hn0; have hcell := Lib.hid hcell; have hfr := Lib.hid hfr)
    go_loopw [4, 6] (fun x4 x6 wr => ∃ i : Nat, x6 = .int .i64 i ∧ i ≤ n ∧ wr.ownsRow 0 3 1 x4 i (nats ((L.take i).map grpU)) ∧ Lo w1.heap.size x4 ∧ Below w1.heap.size w1 wr ∧ Hid (∀ t ∈ L.take i, (grpS t).isSome = true)) (fun x4 x6 wr => n - (intOf x6).toNat)
    case atStart => exact ⟨0, rfl, Nat.zero_le _, by simpa [nats] using own_nil _ _ _, fun b h => by simp [Value.ownBlock] at h, Below.refl _ _, Lib.hid (fun t h => by simp at h)⟩
    case round =>
      obtain ⟨i, rfl, hi, ho, lo, bel1, hall⟩ := hrel
      by_cases hlt : i < n
      · obtain ⟨t, ht⟩ : ∃ t, L[i]? = some t := ⟨L[i]'(by omega), List.getElem?_eq_getElem (by omega)⟩
        have hc : wr.cell? ⟨k, i, none⟩ = some (.string t) := (Below.cell bel1 hk).trans (hcell.out i _ (by unfold strs; rw [List.getElem?_map, ht]; rfl))
        cases hg : grpS t with
        | none =>
          have hx : ∀ W : World, Calls Tryz.prog 207 #[.string t] W fun e w' => e = .returned (.tuple #[.int .i64 0, .bool false]) ∧ w' = W := fun W => by
            have := hex207_any (w := W) t
            rwa [HexV_no hg] at this
          have hno := Lib.hid (hfin.out.1 i t ht hg)
          clear hg ht
          go_wp2_with (go_at_call 207; refine (hx _).mono ?_; rintro e w2 ⟨rfl, rfl⟩)
          go_ret2
          exact ⟨GrpNR.no hno.out, bel.trans (bel1.mono bel.size)⟩
        | some m =>
          have hx : ∀ W : World, Calls Tryz.prog 207 #[.string t] W fun e w' => e = .returned (.tuple #[.int .i64 m, .bool true]) ∧ w' = W := fun W => by
            have := hex207_any (w := W) t
            rwa [HexV_yes hg] at this
          have hnx : Hid (nats ((L.take (i + 1)).map grpU) = nats ((L.take i).map grpU) ++ [.int .i64 m]) := Lib.hid (by
            rw [take_snoc ht, List.map_append]; unfold nats; rw [List.map_append]; simp [grpU, hg])
          have hal : Hid (∀ t ∈ L.take (i + 1), (grpS t).isSome = true) := Lib.hid (by
            intro x hx
            rw [take_snoc ht] at hx
            rcases List.mem_append.1 hx with hx | hx
            · exact hall.out x hx
            · rw [List.mem_singleton.1 hx, hg]; rfl)
          clear hg ht
          go_wp2_with (first | (go_at_call 207; refine (hx _).mono ?_; rintro e w2 ⟨rfl, rfl⟩) | (at_builtin; refine wpList_app1 rfl (.tmp 29) (.tmp 31) 188 rfl Tryz.underlying188 Tryz.info3 rfl (by decide) (by decide) [.int .i64 m] rfl (by intro z hz; simp at hz; subst hz; rfl) rfl ho rfl (by omega) ?_; intro v' w2 ho2 hn2 hf2))
          refine ⟨⟨i + 1, by congr 1, by omega, by rw [hnx.out]; exact ho2, lo.next hn2 bel1.size, bel1.trans (hf2.belowB lo bel1.size), hal⟩, by simp [intOf]; omega⟩
      · obtain rfl : i = n := by omega
        have hyes := hfin.out.2 (by have := hall.out; rwa [List.take_of_length_le (by omega)] at this)
        have hty : L.take i = L := List.take_of_length_le (by omega)
        rw [hty] at ho
        have hl2 : (L.map grpU).length = i := by rw [List.length_map, hn]
        replace hyes := Lib.hid hyes
        clear hty
        obtain ⟨A, c3, rfl, hd1, hd2⟩ := own_slice ho
        go_wp2
        go_ret2
        exact ⟨⟨_, by rw [hyes.out]; rfl, by rw [hyes.out]; show wr.ownsRow 0 3 1 _ (L.map grpU).length _; rw [hl2]; exact ho, lo.mono bel.size⟩, bel.trans (bel1.mono bel.size)⟩
end Go.Proofs.YtnljjlaececnkaaGreatDoor
/-
  The document's four numbers. Condition: a text is no longer than memory has room for.
-/
namespace Go.Proofs.YtnljjlaececnkaaGreatDoor
open Go.RowKit
set_option linter.unusedVariables false
set_option linter.unusedSimpArgs false
theorem octS_of {t : ByteArray} {n : Int} (h : decF t.data.toList 3 = some n) : (n ≤ 255 → octS t = some n) ∧ (255 < n → octS t = none) := by
  have hd : decS t 3 = some n := by rw [decS_F (by decide), h]
  unfold octS
  rw [hd]
  exact ⟨fun hn => if_pos hn, fun hn => if_neg (by omega)⟩
theorem octS_no {t : ByteArray} (h : decF t.data.toList 3 = none) : octS t = none := by
  have hd : decS t 3 = none := by rw [decS_F (by decide), h]
  unfold octS; rw [hd]
theorem map_built : Tryz.prog.built 42 [(10, .int .u8 255), (11, .int .u8 255)] = some (nums .u8 (quadPart [] 0)).toArray := by kernel_rfl
set_option maxRecDepth 100000 in
set_option maxHeartbeats 1600000 in
/-- four. -/
theorem four_any {w : World} {s : ByteArray} (hs : s.size < 4294967281) : Calls Tryz.prog 103 #[.string s] w fun e w' => QuadR (quadS s) e ∧ Below w.heap.size w w' := by
  have hcut : ∀ W : World, Calls Tryz.prog 100 #[.string s, .int .u8 46] W fun e w' => (∃ v, e = .returned v ∧ w'.ownsRow 0 9 1 v (cutB 46 s).length (strs (cutB 46 s)) ∧ Lo W.heap.size v) ∧ Below W.heap.size W w' := fun W => cut100_any hs 46
  obtain ⟨hn0, hn1⟩ := cutB_len 46 s
  have hl : pieces s dotB = cutB 46 s := pieces_eq 46 s
  generalize cutB 46 s = L at *
  obtain ⟨n, hn⟩ : ∃ n, L.length = n := ⟨_, rfl⟩
  rw [hn] at hcut hn0 hn1
  have hno := Lib.hid (fun h => quad_no (s := s) hl (.inl h))
  have hno2 := Lib.hid (fun h => quad_no (s := s) hl (.inr h))
  have hyes := Lib.hid (fun h4 => quad_yes (s := s) hl h4)
  clear hl
  have ok0 := Lib.hid (quadPart_ok (l := [] ++ [⟨#[]⟩, ⟨#[]⟩, ⟨#[]⟩, ⟨#[]⟩]) rfl (i := 0) (by omega))
  rw [quadPart_zero] at ok0
  have hb0 := map_built
  obtain ⟨q0, hq0⟩ : ∃ q0, quadPart [] 0 = q0 := ⟨_, rfl⟩
  rw [hq0] at ok0 hb0
  have Hq0 := Lib.hid hq0
  clear hq0
  have B := ((Bz.start w).alloc (oA zeroA) rfl : Bz w [(w.heap.size, oA zeroA)] _)
  go_enter Tryz.func103, Tryz.ntmps103
  go_wp2_with (refine wpList_quiet_take (C := Bz w [(w.heap.size, oA zeroA)]) 3 1 (by rfl) B ?_)
  (try simp only [List.take_succ_cons, List.take_zero, List.drop_succ_cons, List.drop_zero])
  refine wpQuiet_hide ?_
  intro lq hlq
  refine wpQuiet_step_h hlq ?_
  clear hlq lq
  intro K lq hlq hK
  refine wanted_go (by rfl) ?_
  refine ⟨vA q0, fun W hW => ?_, ?_⟩
  · skip
    exact quiet_build2 rfl rfl rfl hb0
  refine hK _ ?_
  clear hK K
  (try simp only [Act.put, List.setIfInBounds_toArray, List.set_cons_zero, List.set_cons_succ])
  refine wpQuiet_nil_h hlq ?_
  clear hlq lq B
  intro V1 hV2
  refine wpList_new rfl rfl rfl rfl z42 rfl (by rfl) (by rfl) (info42 ok0.out) (sizeA' ok0.out) (numsA_one _) ?_
  (try simp only [Act.put, List.setIfInBounds_toArray, List.set_cons_zero, List.set_cons_succ])
  have hB3 : Bz w [(V1.heap.size, oA q0), (w.heap.size, oA zeroA)] (V1.alloc (oA q0)) := hV2.alloc (oA q0) rfl
  clear hV2
  have hr0 : (V1.alloc (.cells (nums .u8 q0).toArray 42)).heap[V1.heap.size]? = some (oA q0) := hB3.all.1
  have hz0 : (V1.alloc (.cells (nums .u8 q0).toArray 42)).heap[w.heap.size]? = some (oA zeroA) := hB3.all.2.1
  have bel0 : Below w.heap.size w (V1.alloc (.cells (nums .u8 q0).toArray 42)) := hB3.bel
  have hwg : w.heap.size < V1.heap.size := (List.pairwise_cons.1 hB3.ord).1 (w.heap.size, oA zeroA) (by simp)
  clear hB3
  generalize V1.alloc (.cells (nums .u8 q0).toArray 42) = W0 at *
  generalize V1.heap.size = g at *
  have hg0 := lt_of_obj hr0
  replace hr0 := Lib.hid hr0
  replace hz0 := Lib.hid hz0
  by_cases h4 : n = 4
  · subst h4
    go_wp2_with (go_at_call 100; refine (hcut _).mono ?_; rintro e w1 ⟨⟨v, rfl, hrow, low⟩, bel⟩; obtain ⟨A, c2, rfl, hc1, hc2⟩ := own_slice hrow; obtain ⟨k, rfl, -, hk, hcell, hfr, -⟩ := own_at hrow hn0; have hcell := Lib.hid hcell; have hfr := Lib.hid hfr; have hkl := low k rfl)
    have hno4 := Lib.hid (fun (i : Nat) t (h : L[i]? = some t) (ho : octS t = none) => hno2.out ⟨t, List.mem_of_getElem? h, ho⟩)
    have hk2 : k ≠ g := fun e => by omega
    have hr1 := Below.box hr0.out bel hg0
    have hz1 := Below.box hz0.out bel (by omega)
    have belw := bel0.trans (bel.mono bel0.size)
    go_loopw [6] (fun x6 wr => ∃ i : Nat, x6 = .int .i64 i ∧ i ≤ 4 ∧ Hid (∀ (j : Nat) t, j < i → L[j]? = some t → (octS t).isSome = true) ∧ Hid (wr.heap[g]? = some (oA (quadPart L i))) ∧ Hid (wr.heap[w.heap.size]? = some (oA zeroA)) ∧ Hid (wr.heap[k]? = w1.heap[k]?) ∧ Below w.heap.size w wr ∧ wr.heap.size = w1.heap.size) (fun x6 wr => 4 - (intOf x6).toNat)
    case atStart => exact ⟨0, rfl, by omega, Lib.hid fun j t h => by omega, Lib.hid (by rw [quadPart_zero, Hq0.out]; exact hr1), Lib.hid hz1, Lib.hid rfl, belw, rfl⟩
    case round =>
      obtain ⟨i, rfl, hi, hall, hr, hz, hw, bel2, hsz⟩ := hrel
      by_cases hlt : i < 4
      · obtain ⟨t, ht⟩ := get_some (l := L) (j := i) (by omega)
        have c0 : wr.cell? ⟨k, i, none⟩ = some (.string t) := (World.cell?_of_block (w := w1) hw.out).trans (hcell.out i _ (by unfold strs; rw [List.getElem?_map, ht]; rfl))
        cases hd : decF t.data.toList 3 with
        | none =>
          have hx : ∀ W : World, Calls Tryz.prog 118 #[.string t, .int .i64 3] W fun e w' => e = .returned (.tuple #[.int .i64 0, .bool false]) ∧ w' = W := fun W => by
            have := dec118_any (w := W) t (most := 3) (by decide)
            rwa [DecF_no hd] at this
          have hq := Lib.hid (hno4.out i t ht (octS_no hd))
          clear ht hd
          go_wp2_with (first
            | (go_at_call 118; refine (hx _).mono ?_; rintro e w2 ⟨rfl, rfl⟩)
            | (refine wpList_store_row rfl 42 (.tmp 2) (.tmp 34) rfl w.heap.size (nums .u8 zeroA).toArray rfl rfl 42 (nums .u8 zeroA).toArray hz.out (info42 zeroA_ok) rfl (numsA_one _) ?_))
          refine bodyPost_ret (v := .tuple #[vA zeroA, .bool false]) ?_ rfl ⟨by unfold QuadR; rw [hq.out]; rfl, below_row bel2 (Nat.le_refl _) _⟩
          exact results_cell_tmp rfl _ _ rfl (BoxA.run (a := zeroA) (setRow_heap _ _ _ _ _ _ hz.out) zeroA_ok) rfl
        | some u =>
          have hx : ∀ W : World, Calls Tryz.prog 118 #[.string t, .int .i64 3] W fun e w' => e = .returned (.tuple #[.int .i64 u, .bool true]) ∧ w' = W := fun W => by
            have := dec118_any (w := W) t (most := 3) (by decide)
            rwa [DecF_yes hd] at this
          obtain ⟨o1, o2⟩ := octS_of hd
          by_cases hu : 255 < u
          · have hq := Lib.hid (hno4.out i t ht (o2 hu))
            have hgt : decide (255 < u) = true := decide_eq_true hu
            clear ht hd o1 o2
            go_wp2_with (first
              | (go_at_call 118; refine (hx _).mono ?_; rintro e w2 ⟨rfl, rfl⟩)
              | (refine wpList_store_row rfl 42 (.tmp 2) (.tmp 34) rfl w.heap.size (nums .u8 zeroA).toArray rfl rfl 42 (nums .u8 zeroA).toArray hz.out (info42 zeroA_ok) rfl (numsA_one _) ?_))
            refine bodyPost_ret (v := .tuple #[vA zeroA, .bool false]) ?_ rfl ⟨by unfold QuadR; rw [hq.out]; rfl, below_row bel2 (Nat.le_refl _) _⟩
            exact results_cell_tmp rfl _ _ rfl (BoxA.run (a := zeroA) (setRow_heap _ _ _ _ _ _ hz.out) zeroA_ok) rfl
          · have ho := o1 (by omega)
            obtain ⟨v0, v1⟩ := octS_rng ho
            have hov : octV t = u := by unfold octV; rw [ho]; rfl
            obtain ⟨st1, st2⟩ := quadPart_set hlt hn ht
            rw [hov] at st1
            have hall2 : Hid (∀ (j : Nat) u, j < i + 1 → L[j]? = some u → (octS u).isSome = true) := Lib.hid fun j u hj hu => by
              by_cases hji : j = i
              · subst hji; rw [ht] at hu; cases hu; rw [ho]; rfl
              · exact hall.out j u (by omega) hu
            have g1 : decide (255 < u) = false := decide_eq_false (by omega)
            have wr1 : IntKind.i64.wrap (12 + (i : Int)) = 12 + i := IntWalk.i64_in _ (by omega)
            have wr2 : IntKind.u8.wrap u = u := IntWalk.u8_in _ (by omega)
            have c1 : wr.cell? ⟨g, 12 + i, none⟩ = some (.int .u8 0) := (row_cell hr.out).trans (by rw [List.getElem?_toArray]; exact nums_get st2)
            have f1 : wr.frozen? ⟨g, 12 + i, none⟩ = false := row_free hr.out
            replace st1 := Lib.hid st1
            clear ht hd o1 o2 ho hov st2
            go_wp2_with (go_at_call 118; refine (hx _).mono ?_; rintro e w2 ⟨rfl, rfl⟩)
            have fr1 := Fr.setCell (S := fun b => b = g) (Fr.refl _ w2) (p := ⟨g, 12 + i, none⟩) (.inl rfl) (.int .u8 u)
            refine ⟨⟨i + 1, by go_num, by omega, hall2, Lib.hid (row_set hr.out (i := 12 + i) (cs' := (nums .u8 (quadPart L (i + 1))).toArray) (.int .u8 u) (by rw [List.setIfInBounds_toArray, nums_set, st1.out])), Lib.hid (fr1.obj hz.out (by omega)), Lib.hid ((fr1.block k (by omega) hk2).trans hw.out), bel2.trans (fr1.belowS (fun b hb => by omega) bel2.size), ?_⟩, ?_⟩
            · simp [World.setCell]; omega
            · simp [intOf]; omega
      · obtain rfl : i = 4 := by omega
        have hq := Lib.hid (hyes.out hn (fun j t ht => hall.out j t (by have := (List.getElem?_eq_some_iff.1 ht).1; omega) ht))
        have ok := Lib.hid (quadPart_ok hn (Nat.le_refl 4))
        go_wp2_with (first
          | (refine wpList_load_mid rfl 42 (.tmp 4) rfl g 0 rfl (nums .u8 (quadPart L 4)) _ (row_load hr.out) Tryz.underlying42 rfl (info42 ok.out) ?_)
          | (refine wpList_store_row rfl 42 (.tmp 2) (.tmp 40) rfl w.heap.size (nums .u8 (quadPart L 4)).toArray rfl rfl 42 (nums .u8 zeroA).toArray hz.out (info42 ok.out) (by rw [sizeA zeroA_ok, sizeA ok.out]) (numsA_one _) ?_))
        refine bodyPost_ret (v := .tuple #[vA (quadPart L 4), .bool true]) ?_ rfl ⟨by unfold QuadR; rw [hq.out]; rfl, below_row bel2 (Nat.le_refl _) _⟩
        exact results_cell_tmp rfl _ _ rfl (BoxA.run (a := quadPart L 4) (setRow_heap _ _ _ _ _ _ hz.out) ok.out) rfl
  · have hq := Lib.hid (hno.out (by omega))
    have hne : ((n : Int) == 4) = false := by simp; omega
    go_wp2_with (first
      | (go_at_call 100; refine (hcut _).mono ?_; rintro e w1 ⟨⟨v, rfl, hrow, low⟩, bel⟩; obtain ⟨A, c2, rfl, hc1, hc2⟩ := own_slice hrow; have hz1 := Lib.hid (Below.box hz0.out bel (by omega)))
      | (refine wpList_store_row rfl 42 (.tmp 2) (.tmp 15) rfl w.heap.size (nums .u8 zeroA).toArray rfl rfl 42 (nums .u8 zeroA).toArray hz1.out (info42 zeroA_ok) rfl (numsA_one _) ?_))
    have bel1 := bel0.trans (bel.mono bel0.size)
    refine bodyPost_ret (v := .tuple #[vA zeroA, .bool false]) ?_ rfl ⟨by unfold QuadR; rw [hq.out]; rfl, below_row bel1 (Nat.le_refl _) _⟩
    exact results_cell_tmp rfl _ _ rfl (BoxA.run (a := zeroA) (setRow_heap _ _ _ _ _ _ hz1.out) zeroA_ok) rfl
end Go.Proofs.YtnljjlaececnkaaGreatDoor
/-
  Plain laws of eight groups. No condition.
-/
namespace Go.Proofs.YtnljjlaececnkaaGreatDoor
open Go.RowKit
set_option linter.unusedVariables false
set_option linter.unusedSimpArgs false
def gapAt (s : ByteArray) (j : Nat) : Prop := s.data.toList[j]? = some 58 ∧ s.data.toList[j + 1]? = some 58
theorem gapB_list : gapB.data.toList = [58, 58] := rfl
theorem cut_none {s : ByteArray} (h : ∀ j, ¬ gapAt s j) : Lib.cut s.data.toList gapB.data.toList = (s.data.toList, [], false) := by
  rw [gapB_list]
  unfold Lib.cut
  rw [Lib.index_none (fun j _ => by rw [Bool.eq_false_iff]; intro ho; exact h j ((occ_two _ j).1 ho)), if_neg (by decide)]
theorem cut_some {s : ByteArray} {g : Nat} (h : gapAt s g) (hn : ∀ j, j < g → ¬ gapAt s j) : Lib.cut s.data.toList gapB.data.toList = (s.data.toList.take g, s.data.toList.drop (g + 2), true) := by
  rw [gapB_list]
  have hg := (List.getElem?_eq_some_iff.1 h.2).1
  unfold Lib.cut
  rw [Lib.index_first (i := g) (by omega) ((occ_two _ _).2 h) (fun j hj => by rw [Bool.eq_false_iff]; intro ho; exact hn j hj ((occ_two _ j).1 ho)), if_pos (by omega)]
  simp
theorem gap_lt {s : ByteArray} {g : Nat} (h : gapAt s g) : g + 1 < s.size := by
  have := (List.getElem?_eq_some_iff.1 h.2).1
  rwa [len_data] at this
/-- Is there a gap, and where first? -/
theorem gap_or (s : ByteArray) : (∀ j, ¬ gapAt s j) ∨ ∃ g, gapAt s g ∧ ∀ j, j < g → ¬ gapAt s j := by
  by_cases h : ∃ g, gapAt s g
  · right
    obtain ⟨g, hg⟩ := h
    induction g using Nat.strongRecOn with
    | _ g ih =>
      by_cases h2 : ∃ j, j < g ∧ gapAt s j
      · obtain ⟨j, hj, hjg⟩ := h2
        exact ih j hj hjg
      · exact ⟨g, hg, fun j hj hjg => h2 ⟨j, hj, hjg⟩⟩
  · exact .inl fun j hj => h ⟨j, hj⟩
theorem ba_list (s : ByteArray) : (⟨s.data.toList.toArray⟩ : ByteArray) = s := ba_eq (by simp)
/-- The groups of a text without a gap. -/
theorem col_flat {s : ByteArray} (h : ∀ j, ¬ gapAt s j) : (grpN s = none → colS s = none) ∧ ∀ G, grpN s = some G → (G.length ≠ 8 → colS s = none) ∧ (G.length = 8 → colS s = some (fb G)) := by
  have hc := cut_none h
  refine ⟨fun hn => col_no hc (.inl (by rw [ba_list, grpsN, hn]; rfl)), fun G hG => ?_⟩
  have hy := col_yes (b := fb G) (c := []) hc (by rw [ba_list, grpsN, hG]; rfl) rfl
  rw [fb_len] at hy
  refine ⟨fun h8 => by rw [hy, if_pos (.inl ⟨rfl, by omega⟩)], fun h8 => ?_⟩
  rw [hy, if_neg]
  · unfold fillA
    rw [fb_len, h8]; simp
  · rintro (⟨-, h⟩ | ⟨h, -⟩)
    · omega
    · cases h
theorem col_gapped {s : ByteArray} {g : Nat} (h : gapAt s g) (hn : ∀ j, j < g → ¬ gapAt s j) {l r : ByteArray} (hl : l.data.toList = s.data.toList.take g) (hr : r.data.toList = s.data.toList.drop (g + 2)) :
    (grpN l = none ∨ grpN r = none → colS s = none) ∧ ∀ b c, grpN l = some b → grpN r = some c → (7 < b.length + c.length → colS s = none) ∧ (b.length + c.length ≤ 7 → colS s = some (fb (b ++ List.replicate (8 - b.length - c.length) 0 ++ c))) := by
  have hc := cut_some h hn
  rw [← hl, ← hr] at hc
  refine ⟨fun hn => col_no hc (by rw [ba_list, ba_list, grpsN, grpsN]; rcases hn with hn | hn <;> rw [hn] <;> simp), fun b c hb hcc => ?_⟩
  have hy := col_yes (b := fb b) (c := fb c) hc (by rw [ba_list, grpsN, hb]; rfl) (by rw [ba_list, grpsN, hcc]; rfl)
  rw [fb_len, fb_len] at hy
  refine ⟨fun h8 => by rw [hy, if_pos (.inr ⟨rfl, by omega⟩)], fun h8 => ?_⟩
  rw [hy, if_neg]
  · unfold fillA
    rw [fb_app, fb_app, fb_zeros, fb_len, fb_len, show 2 * (8 - b.length - c.length) = 16 - 2 * b.length - 2 * c.length by omega]
  · rintro (⟨h, -⟩ | ⟨-, h⟩)
    · cases h
    · omega
theorem grpU_lt (t : ByteArray) : grpU t < 65536 := by
  unfold grpU
  cases h : grpS t with
  | none => decide
  | some u => exact (grp_some h).2.2.2.1
theorem grpN_lt {s : ByteArray} {G : List Nat} (h : grpN s = some G) : ∀ u ∈ G, u < 65536 := by
  unfold grpN at h
  split at h
  · cases h; intro u hu; cases hu
  · split at h
    · cases h
      intro u hu
      obtain ⟨t, -, rfl⟩ := List.mem_map.1 hu
      exact grpU_lt t
    · cases h
theorem grpN_len {s : ByteArray} {G : List Nat} (h : grpN s = some G) : G.length ≤ s.size + 1 := by
  unfold grpN at h
  split at h
  · cases h; simp
  · split at h
    · cases h; rw [List.length_map]; exact (cutB_len 58 s).2
    · cases h
/-- The bytes of the first j groups, and zeros. -/
def fbPart (G : List Nat) (j : Nat) : List Int := fb (G.take j) ++ List.replicate (16 - 2 * j) 0
theorem fb_rng {G : List Nat} (h : ∀ u ∈ G, u < 65536) : ∀ x ∈ fb G, 0 ≤ x ∧ x < 256 := by
  intro x hx
  unfold fb at hx
  obtain ⟨p, hp, hx⟩ := List.mem_flatten.1 hx
  obtain ⟨u, hu, rfl⟩ := List.mem_map.1 hp
  have := h u hu
  simp only [List.mem_cons, List.not_mem_nil, or_false] at hx
  rcases hx with rfl | rfl <;> omega
theorem fbPart_ok {G : List Nat} (h8 : G.length = 8) (h : ∀ u ∈ G, u < 65536) {j : Nat} (hj : j ≤ 8) : isA (fbPart G j) := by
  refine ⟨?_, fun x hx => ?_⟩
  · unfold fbPart
    rw [List.length_append, fb_len, List.length_take, List.length_replicate]; omega
  · rcases List.mem_append.1 hx with hx | hx
    · exact fb_rng (fun u hu => h u (List.mem_of_mem_take hu)) x hx
    · rw [(List.mem_replicate.1 hx).2]; decide
theorem fbPart_zero (G : List Nat) : fbPart G 0 = zeroA := rfl
theorem fbPart_all {G : List Nat} (h8 : G.length = 8) : fbPart G 8 = fb G := by
  unfold fbPart
  rw [List.take_of_length_le (by omega)]; simp
theorem fbPart_set {G : List Nat} (h8 : G.length = 8) {j : Nat} (hj : j < 8) {u : Nat} (hu : G[j]? = some u) : ((fbPart G j).set (2 * j) ((u / 256 : Nat) : Int)).set (2 * j + 1) ((u % 256 : Nat) : Int) = fbPart G (j + 1) := by
  have hl : (fb (G.take j)).length = 2 * j := by rw [fb_len, List.length_take]; omega
  have hr : List.replicate (16 - 2 * j) (0 : Int) = 0 :: 0 :: List.replicate (16 - 2 * (j + 1)) 0 := by
    rw [show 16 - 2 * j = (16 - 2 * (j + 1)) + 1 + 1 by omega, List.replicate_succ, List.replicate_succ]
  unfold fbPart
  rw [List.set_append_right _ _ (by omega), hl, Nat.sub_self, hr, List.set_cons_zero, List.set_append_right _ _ (by omega), hl, show 2 * j + 1 - 2 * j = 0 + 1 by omega, List.set_cons_succ, List.set_cons_zero, take_snoc hu, fb_app, List.append_assoc]
  rfl
end Go.Proofs.YtnljjlaececnkaaGreatDoor
/-
  The document's eight groups, a text without a gap. Condition: a text is no longer than memory has room for.
-/
namespace Go.Proofs.YtnljjlaececnkaaGreatDoor
open Go.RowKit
set_option linter.unusedVariables false
set_option linter.unusedSimpArgs false
theorem beq58 {b : UInt8} : ((b.toNat : Int) == 58) = decide (b = 58) := by
  by_cases h : b = 58
  · subst h; rfl
  · rw [decide_eq_false h, beq_eq_false_iff_ne]; intro e; exact h (UInt8.toNat_inj.1 (by have : (58 : UInt8).toNat = 58 := rfl; omega))
theorem groups_call {w : World} {s : ByteArray} (hs : s.size < 4294967281) {G : List Nat} {n : Nat} (h : grpN s = some G) (hn : G.length = n) : Calls Tryz.prog 163 #[.string s] w fun e w' => (∃ v, e = .returned (.tuple #[v, .bool true]) ∧ w'.ownsRow 0 3 1 v n (nats G) ∧ Lo w.heap.size v) ∧ Below w.heap.size w w' := by
  subst hn
  refine (ref_groups hs).mono fun e w' ⟨⟨v, he, ho, hl⟩, bel⟩ => ⟨⟨v, ?_, ?_, hl⟩, bel⟩
  · rw [he, h]; rfl
  · rw [h] at ho; exact ho
theorem groups_none {w : World} {s : ByteArray} (hs : s.size < 4294967281) (h : grpN s = none) : Calls Tryz.prog 163 #[.string s] w fun e w' => (∃ v, e = .returned (.tuple #[v, .bool false]) ∧ w'.ownsRow 0 3 1 v 0 [] ∧ Lo w.heap.size v) ∧ Below w.heap.size w w' := by
  refine (ref_groups hs).mono fun e w' ⟨⟨v, he, ho, hl⟩, bel⟩ => ⟨⟨v, ?_, ?_, hl⟩, bel⟩
  · rw [he, h]; rfl
  · rw [h] at ho; exact ho
set_option maxRecDepth 100000 in
set_option maxHeartbeats 1600000 in
theorem six_flat_no {w : World} {s : ByteArray} (hs : s.size < 4294967281) (hgap : ∀ j, ¬ gapAt s j) (hq : colS s = none) {G : List Nat} {n : Nat} {b : Bool} (hG : ∀ W : World, Calls Tryz.prog 163 #[.string s] W fun e w' => (∃ v, e = .returned (.tuple #[v, .bool b]) ∧ w'.ownsRow 0 3 1 v n (nats G) ∧ Lo W.heap.size v) ∧ Below W.heap.size W w') (hb : b = false ∨ b = true ∧ n ≠ 8) : Calls Tryz.prog 104 #[.string s] w fun e w' => QuadR (colS s) e ∧ Below w.heap.size w w' := by
  have bel0 : Below w.heap.size w (w.alloc (oA zeroA)) := (Below.refl _ _).alloc (Nat.le_refl _) _
  have hz0 := Lib.hid (box1 w (oA zeroA))
  replace hq := Lib.hid hq
  have hgap := Lib.hid hgap
  go_enter Tryz.func104, Tryz.ntmps104
  go_wp2
  go_loop [5, 6] (fun x5 x6 => ∃ i : Nat, i ≤ s.size ∧ x5 = .int .i64 (-1) ∧ x6 = .int .i64 i) (fun _ x6 => s.size - (intOf x6).toNat)
  case atStart => exact ⟨0, Nat.zero_le _, rfl, rfl⟩
  case round =>
    obtain ⟨i, hi, rfl, rfl⟩ := hrel
    by_cases hlt : i + 1 < s.size
    · have hd : decide ((i : Int) + 1 < s.size) = true := decide_eq_true (by omega)
      by_cases hc : s[i] = 58
      · have hc2 : ((s[i+1].toNat : Int) == 58) = false := by
          rw [beq58, decide_eq_false]
          intro e
          exact hgap.out i ⟨by rw [get_byte s i (by omega), hc], by rw [get_byte s (i+1) (by omega), e]⟩
        have hc1 : ((s[i].toNat : Int) == 58) = true := by rw [beq58, decide_eq_true hc]
        clear hc
        go_wp2
        refine ⟨⟨i + 1, by omega, rfl, by congr 1⟩, by simp [intOf]; omega⟩
      · have hc1 : ((s[i].toNat : Int) == 58) = false := by rw [beq58, decide_eq_false hc]
        clear hc
        go_wp2
        refine ⟨⟨i + 1, by omega, rfl, by congr 1⟩, by simp [intOf]; omega⟩
    · have hd : decide ((i : Int) + 1 < s.size) = false := decide_eq_false (by omega)
      have hmm : decide ((-1 : Int) < 0) = true := rfl
      rcases hb with rfl | ⟨rfl, hne⟩
      · go_wp2_with (first
          | (go_at_call 163; refine (hG _).mono ?_; rintro e w1 ⟨⟨v, rfl, hrow, low⟩, bel⟩; obtain ⟨A, c2, rfl, hc1, hc2⟩ := own_slice hrow; have hz1 := Lib.hid (Below.box hz0.out bel (by simp)))
          | (refine wpList_store_row rfl 42 (.tmp 2) (.tmp 48) rfl w.heap.size (nums .u8 zeroA).toArray rfl rfl 42 (nums .u8 zeroA).toArray hz1.out (info42 zeroA_ok) rfl (numsA_one _) ?_))
        have bel1 := bel0.trans (bel.mono bel0.size)
        refine bodyPost_ret (v := .tuple #[vA zeroA, .bool false]) ?_ rfl ⟨by unfold QuadR; rw [hq.out]; rfl, below_row bel1 (Nat.le_refl _) _⟩
        exact results_cell_tmp rfl _ _ rfl (BoxA.run (a := zeroA) (setRow_heap _ _ _ _ _ _ hz1.out) zeroA_ok) rfl
      · have hne2 : ((n : Int) == 8) = false := by simp; omega
        go_wp2_with (first
          | (go_at_call 163; refine (hG _).mono ?_; rintro e w1 ⟨⟨v, rfl, hrow, low⟩, bel⟩; obtain ⟨A, c2, rfl, hc1, hc2⟩ := own_slice hrow; have hz1 := Lib.hid (Below.box hz0.out bel (by simp)))
          | (refine wpList_store_row rfl 42 (.tmp 2) (.tmp 48) rfl w.heap.size (nums .u8 zeroA).toArray rfl rfl 42 (nums .u8 zeroA).toArray hz1.out (info42 zeroA_ok) rfl (numsA_one _) ?_))
        have bel1 := bel0.trans (bel.mono bel0.size)
        refine bodyPost_ret (v := .tuple #[vA zeroA, .bool false]) ?_ rfl ⟨by unfold QuadR; rw [hq.out]; rfl, below_row bel1 (Nat.le_refl _) _⟩
        exact results_cell_tmp rfl _ _ rfl (BoxA.run (a := zeroA) (setRow_heap _ _ _ _ _ _ hz1.out) zeroA_ok) rfl
end Go.Proofs.YtnljjlaececnkaaGreatDoor
/-
  The document's eight groups: what is laid. Condition: a text is no longer than memory has room for.
-/
namespace Go.Proofs.YtnljjlaececnkaaGreatDoor
open Go.RowKit
set_option linter.unusedVariables false
set_option linter.unusedSimpArgs false
theorem heap_alloc_keep (w : World) (o : Obj) {r : Nat} (h : r < w.heap.size) : (w.alloc o).heap[r]? = w.heap[r]? := by
  unfold World.alloc
  simp [Array.getElem?_push, Nat.ne_of_lt h]
set_option maxRecDepth 100000 in
set_option maxHeartbeats 1600000 in
theorem six_flat_yes {w : World} {s : ByteArray} (hs : s.size < 4294967281) (hgap : ∀ j, ¬ gapAt s j) {G : List Nat} {n : Nat} (hlt : ∀ u ∈ G, u < 65536) (hn : G.length = n) (h8 : n = 8) (hq : colS s = some (fb G)) (hG : ∀ W : World, Calls Tryz.prog 163 #[.string s] W fun e w' => (∃ v, e = .returned (.tuple #[v, .bool true]) ∧ w'.ownsRow 0 3 1 v n (nats G) ∧ Lo W.heap.size v) ∧ Below W.heap.size W w') : Calls Tryz.prog 104 #[.string s] w fun e w' => QuadR (colS s) e ∧ Below w.heap.size w w' := by
  have bel0 : Below w.heap.size w (w.alloc (oA zeroA)) := (Below.refl _ _).alloc (Nat.le_refl _) _
  have hz0 := Lib.hid (box1 w (oA zeroA))
  replace hq := Lib.hid hq
  have hgap := Lib.hid hgap
  have hlt_u := hlt
  clear hlt
  subst h8
  go_enter Tryz.func104, Tryz.ntmps104
  go_wp2
  go_loop [5, 6] (fun x5 x6 => ∃ i : Nat, i ≤ s.size ∧ x5 = .int .i64 (-1) ∧ x6 = .int .i64 i) (fun _ x6 => s.size - (intOf x6).toNat)
  case atStart => exact ⟨0, Nat.zero_le _, rfl, rfl⟩
  case round =>
    obtain ⟨i, hi, rfl, rfl⟩ := hrel
    by_cases hlt1 : i + 1 < s.size
    · have hd : decide ((i : Int) + 1 < s.size) = true := decide_eq_true (by omega)
      by_cases hc : s[i] = 58
      · have hc2 : ((s[i+1].toNat : Int) == 58) = false := by
          rw [beq58, decide_eq_false]
          intro e
          exact hgap.out i ⟨by rw [get_byte s i (by omega), hc], by rw [get_byte s (i+1) (by omega), e]⟩
        have hc1 : ((s[i].toNat : Int) == 58) = true := by rw [beq58, decide_eq_true hc]
        clear hc
        go_wp2
        refine ⟨⟨i + 1, by omega, rfl, by congr 1⟩, by simp [intOf]; omega⟩
      · have hc1 : ((s[i].toNat : Int) == 58) = false := by rw [beq58, decide_eq_false hc]
        clear hc
        go_wp2
        refine ⟨⟨i + 1, by omega, rfl, by congr 1⟩, by simp [intOf]; omega⟩
    · have hd : decide ((i : Int) + 1 < s.size) = false := decide_eq_false (by omega)
      have hmm : decide ((-1 : Int) < 0) = true := rfl
      go_wp2_with (go_at_call 163; refine (hG _).mono ?_; rintro e w1 ⟨⟨v, rfl, hrow, low⟩, bel⟩; obtain ⟨A, c2, rfl, hc1, hc2⟩ := own_slice hrow; obtain ⟨k, rfl, -, hk, hcell, hfr, -⟩ := own_at hrow (by decide); have hz1 := Lib.hid (Below.box hz0.out bel (by simp)); have hcell := Lib.hid hcell; have hfr := Lib.hid hfr; have hkl := low k rfl)
      have belw : Below w.heap.size w (w1.alloc (oA zeroA)) := (bel0.trans (bel.mono bel0.size)).alloc (Nat.le_trans bel0.size bel.size) _
      have hwl : w.heap.size + 1 ≤ w1.heap.size := by have := bel.size; simp at this; omega
      have hr0 := Lib.hid (box1 w1 (oA zeroA))
      have hk0 : (w1.alloc (oA zeroA)).heap[k]? = w1.heap[k]? := heap_alloc_keep w1 _ hk
      have hz2 : (w1.alloc (oA zeroA)).heap[w.heap.size]? = some (oA zeroA) := (heap_alloc_keep w1 _ (by omega)).trans hz1.out
      have hkw : k ≠ w.heap.size := fun e => by simp at hkl; omega
      go_loopw [14] (fun x14 wr => ∃ j : Nat, x14 = .int .i64 j ∧ j ≤ 8 ∧ Hid (wr.heap[w1.heap.size]? = some (oA (fbPart G j))) ∧ Hid (wr.heap[w.heap.size]? = some (oA zeroA)) ∧ Hid (wr.heap[k]? = w1.heap[k]?) ∧ Below w.heap.size w wr ∧ wr.heap.size = w1.heap.size + 1) (fun x14 wr => 8 - (intOf x14).toNat)
      case atStart => exact ⟨0, rfl, by omega, Lib.hid (by rw [fbPart_zero]; exact hr0.out), Lib.hid hz2, Lib.hid hk0, belw, by simp⟩
      case round =>
        obtain ⟨j, rfl, hj, hr, hz, hw, bel2, hsz⟩ := hrel
        by_cases hlt : j < 8
        · obtain ⟨u, hu⟩ : ∃ u, G[j]? = some u := ⟨G[j]'(by omega), List.getElem?_eq_getElem (by omega)⟩
          have hu2 := hlt_u u (List.mem_of_getElem? hu)
          have c0 : wr.cell? ⟨k, j, none⟩ = some (.int .i64 u) := (World.cell?_of_block (w := w1) hw.out).trans (hcell.out j _ (by unfold nats; rw [List.getElem?_map, hu]; rfl))
          have wr1 : IntKind.i64.wrap (2 * (j : Int)) = 2 * j := IntWalk.i64_in _ (by omega)
          have wr2 : IntKind.i64.wrap (2 * (j : Int) + 1) = 2 * j + 1 := IntWalk.i64_in _ (by omega)
          obtain ⟨a0, ha0⟩ : ∃ a0, wr.cell? ⟨w1.heap.size, 2 * j, none⟩ = some a0 := by
            obtain ⟨x, hx, -⟩ := isA_getD (fbPart_ok hn hlt_u hj) (j := 2 * j) (by omega)
            exact ⟨_, (row_cell hr.out).trans (by rw [List.getElem?_toArray]; exact nums_get hx)⟩
          obtain ⟨a1, ha1⟩ : ∃ a1, wr.cell? ⟨w1.heap.size, 2 * j + 1, none⟩ = some a1 := by
            obtain ⟨x, hx, -⟩ := isA_getD (fbPart_ok hn hlt_u hj) (j := 2 * j + 1) (by omega)
            exact ⟨_, (row_cell hr.out).trans (by rw [List.getElem?_toArray]; exact nums_get hx)⟩
          have f1 : wr.frozen? ⟨w1.heap.size, 2 * j, none⟩ = false := row_free hr.out
          have f2 : wr.frozen? ⟨w1.heap.size, 2 * j + 1, none⟩ = false := row_free hr.out
          have st : Hid (((fbPart G j).set (2 * j) ((u : Int) / 256)).set (2 * j + 1) ((u : Int) % 256) = fbPart G (j + 1)) := Lib.hid (by
            have e1 : (u : Int) / 256 = ((u / 256 : Nat) : Int) := by omega
            have e2 : (u : Int) % 256 = ((u % 256 : Nat) : Int) := by omega
            rw [e1, e2]; exact fbPart_set hn hlt hu)
          clear hu
          go_wp2
          have fr1 := Fr.setCell (S := fun b => b = w1.heap.size) (Fr.refl _ wr) (p := ⟨w1.heap.size, 2 * j, none⟩) (.inl rfl) (.int .u8 ((u : Int) / 256))
          have fr2 := Fr.setCell (S := fun b => b = w1.heap.size) fr1 (p := ⟨w1.heap.size, 2 * j + 1, none⟩) (.inl rfl) (.int .u8 ((u : Int) % 256))
          refine ⟨⟨j + 1, by congr 1, by omega, Lib.hid (row_set (row_set hr.out (i := 2 * j) (cs' := (nums .u8 ((fbPart G j).set (2 * j) ((u : Int) / 256))).toArray) (.int .u8 ((u : Int) / 256)) (by rw [List.setIfInBounds_toArray, nums_set])) (i := 2 * j + 1) (cs' := (nums .u8 (fbPart G (j + 1))).toArray) (.int .u8 ((u : Int) % 256)) (by rw [List.setIfInBounds_toArray, nums_set, st.out])), Lib.hid (fr2.obj hz.out (by omega)), Lib.hid ((fr2.block k (by omega) (by omega)).trans hw.out), bel2.trans (fr2.belowS (fun b hb => by omega) bel2.size), ?_⟩, ?_⟩
          · simp [World.setCell]; omega
          · simp [intOf]; omega
        · obtain rfl : j = 8 := by omega
          have ok := Lib.hid (fbPart_ok hn hlt_u (Nat.le_refl 8))
          have hall := Lib.hid (fbPart_all hn)
          go_wp2_with (first
            | (refine wpList_load_mid rfl 42 (.tmp 13) rfl w1.heap.size 0 rfl (nums .u8 (fbPart G 8)) _ (row_load hr.out) Tryz.underlying42 rfl (info42 ok.out) ?_)
            | (refine wpList_store_row rfl 42 (.tmp 2) (.tmp 118) rfl w.heap.size (nums .u8 (fbPart G 8)).toArray rfl rfl 42 (nums .u8 zeroA).toArray hz.out (info42 ok.out) (by rw [sizeA zeroA_ok, sizeA ok.out]) (numsA_one _) ?_))
          refine bodyPost_ret (v := .tuple #[vA (fbPart G 8), .bool true]) ?_ rfl ⟨by unfold QuadR; rw [hq.out, ← hall.out]; rfl, below_row bel2 (Nat.le_refl _) _⟩
          exact results_cell_tmp rfl _ _ rfl (BoxA.run (a := fbPart G 8) (setRow_heap _ _ _ _ _ _ hz.out) ok.out) rfl
end Go.Proofs.YtnljjlaececnkaaGreatDoor
/-
  strings.NewReplacer at the four texts of a word's quotation. No condition.
-/
namespace Go.Proofs.YtnljjlaececnkaaGreatDoor
open Go.RowKit
set_option linter.unusedVariables false
set_option linter.unusedSimpArgs false
def RL : List ByteArray := [⟨#[34]⟩, ⟨#[92, 34]⟩, ⟨#[92]⟩, ⟨#[92, 92]⟩]
/-- A Replacer. -/
def oRep (d st : Int) (r v : Value) : Obj := .cells #[.int .u32 d, .int .i32 st, .int .u32 0, r, v] 275 (0, 0)
/-- What begins with these cells. -/
def RowIn (o : Obj) (cs : List Value) : Prop := ∃ xs t fz, o = .cells xs t fz ∧ ∀ (j : Nat) v, cs[j]? = some v → xs[j]? = some v
theorem RowIn.cell {o : Obj} {cs : List Value} (h : RowIn o cs) {W : World} {k : Nat} (hk : W.heap[k]? = some o) {j : Nat} {v : Value} (hj : cs[j]? = some v) : W.cell? ⟨k, j, none⟩ = some v := by
  obtain ⟨xs, t, fz, rfl, hc⟩ := h
  unfold World.cell?
  simp only [hk]
  exact hc j v hj
theorem own_obj {W : World} {e sz n : Nat} {A : Option Addr} {m c : Nat} {xs : List Value} (h : W.ownsRow 0 e sz (.slice A m c) n xs) (hn : 0 < n) (hx : 0 < xs.length) : ∃ k o, A = some ⟨k, 0, none⟩ ∧ m = n ∧ W.heap[k]? = some o ∧ RowIn o xs := by
  obtain ⟨k, rfl, hm, hk, hcell, -, -⟩ := own_at h hn
  have h0 := hcell 0 _ (List.getElem?_eq_getElem hx)
  have hc : ∃ xs' t fz, W.heap[k]? = some (.cells xs' t fz) := by
    unfold World.cell? at h0
    split at h0
    · rename_i c' e' fz heq; exact ⟨c', e', fz, heq⟩
    · cases h0
  obtain ⟨xs', t, fz, heq⟩ := hc
  refine ⟨k, _, rfl, hm, heq, xs', t, fz, rfl, fun j v hj => ?_⟩
  have := hcell j v hj
  unfold World.cell? at this
  simp only [heq] at this
  exact this
set_option maxRecDepth 100000 in
set_option maxHeartbeats 1600000 in
theorem newrep_any {W : World} {k0 : Nat} (h : W.heap[k0]? = some (.cells (strs RL).toArray 9)) : Calls Tryz.prog 170 #[.slice (some ⟨k0, 0, none⟩) 4 4] W fun e w' => (∃ b k c ok, e = .returned (.pointer (some ⟨b, 0, none⟩)) ∧ W.heap.size ≤ k ∧ k < b ∧ w'.heap[b]? = some (oRep 0 0 .nilIface (.slice (some ⟨k, 0, none⟩) 4 c)) ∧ w'.heap[k]? = some ok ∧ RowIn ok (strs RL)) ∧ Below W.heap.size W w' := by
  have hrow := Row.box (n := 4) (sz := 1) h rfl (by decide)
  replace h := Lib.hid h
  go_enter Tryz.func170, Tryz.ntmps170
  go_wp2_with (at_builtin; refine wpList_appR rfl (.const (.slice none 0 0)) (.tmp 8) 23 rfl Tryz.underlying23 Tryz.info9 rfl (by decide) (by decide) rfl (own_nil _ _ _) rfl hrow (strs_one _) (by decide) ?_; intro v w1 ho hn hf; rw [Nat.zero_add, List.nil_append] at ho; have lo1 : Lo W.heap.size v := Lo.next (show Lo W.heap.size (.slice none 0 0) from fun b h => by simp [Value.ownBlock] at h) hn (Nat.le_refl _); have bf : Below W.heap.size W w1 := hf.belowB (show Lo W.heap.size (.slice none 0 0) from fun b h => by simp [Value.ownBlock] at h) (Nat.le_refl _); obtain ⟨A, c, rfl, hc1, hc2⟩ := own_slice ho; obtain ⟨k, ok, rfl, -, hk, hki⟩ := own_obj ho (by decide) (by decide); have hkl := lo1 k rfl; replace hk := Lib.hid hk)
  go_ret
  refine ⟨⟨w1.heap.size, k, c, ok, rfl, hkl, lt_of_obj hk.out, box1 w1 _, ?_, hki⟩, bf.alloc bf.size _⟩
  exact (heap_alloc_keep w1 _ (lt_of_obj hk.out)).trans hk.out
end Go.Proofs.YtnljjlaececnkaaGreatDoor
/-
  (*strings.Replacer).build at the four texts of a word's quotation. No condition.
-/
namespace Go.Proofs.YtnljjlaececnkaaGreatDoor
open Go.RowKit
set_option linter.unusedVariables false
set_option linter.unusedSimpArgs false
theorem nil_eql (w : World) : (binOp .eql 150 (.slice none 0 0) (.slice none 0 0)).run Tryz.prog w = .ok (.bool true) w := by kernel_rfl
theorem nil_neq (w : World) : (binOp .neq 150 (.slice none 0 0) (.slice none 0 0)).run Tryz.prog w = .ok (.bool false) w := by kernel_rfl
theorem some_neq (w : World) (a : Addr) (l c : Nat) : (binOp .neq 150 (.slice (some a) l c) (.slice none 0 0)).run Tryz.prog w = .ok (.bool true) w := by kernel_rfl
theorem below_bytes (w : World) (s : ByteArray) : Below w.heap.size w (Lib.bytesWorld w 5 s) :=
  ⟨rfl, rfl, rfl, by rw [Lib.bytesWorld_size]; omega, fun k hk => Lib.bytesWorld_at_old w 5 s k hk⟩
theorem exec_s2b {o : Oper} {a : Act} {w : World} {x : Operand} {s : ByteArray} (ho : o.op = .convert 9 150 x) (hx : a.eval x = .string s) : (execOp a.eval o).run Tryz.prog w = .ok (.value (.slice (some ⟨w.heap.size, 0, none⟩) s.size (grownCap w s.size 0 5))) (Lib.bytesWorld w 5 s) := by
  unfold execOp
  have h := Lib.run_convert_string_bytes (P := Tryz.prog) w 9 150 5 s Tryz.underlying9 Tryz.underlying150 Tryz.underlying5
  simp only [ho, hx, Sem.run_bind, h, Sem.run_pure, Result.andThen_ok]
theorem exec_b2s1 {o : Oper} {a : Act} {w : World} {x : Operand} {k c : Nat} {n : Int} (ho : o.op = .convert 150 9 x) (hx : a.eval x = .slice (some ⟨k, 0, none⟩) 1 c) (hc : w.cell? ⟨k, 0, none⟩ = some (.int .u8 n)) : (execOp a.eval o).run Tryz.prog w = .ok (.value (.string (strOfNums [n]))) w := by
  have h := run_convert_bytes_arg (P := Tryz.prog) w 150 5 Tryz.underlying150 Tryz.underlying5 k 0 1 c [n] rfl (fun i hi => by
    obtain rfl : i = 0 := by omega
    exact hc) 9 Tryz.underlying9
  unfold execOp
  simp only [ho, hx, Sem.run_bind, h, Sem.run_pure, Result.andThen_ok]
theorem b2s_at (w : World) (n : Int) {s : ByteArray} (hs : strOfNums [n] = s) : (convert 150 9 (.slice (some ⟨w.heap.size, 0, none⟩) 1 1)).run Tryz.prog (w.alloc (.cells #[.int .u8 n] 5)) = .ok (.string s) (w.alloc (.cells #[.int .u8 n] 5)) := by
  rw [← hs]
  exact run_convert_bytes_arg (P := Tryz.prog) _ 150 5 Tryz.underlying150 Tryz.underlying5 w.heap.size 0 1 1 [n] rfl (fun i hi => by
    obtain rfl : i = 0 := by omega
    simp) 9 Tryz.underlying9
theorem bytes_obj (w : World) (s : ByteArray) : ∃ o, (Lib.bytesWorld w 5 s).heap[w.heap.size]? = some o ∧ RowIn o (s.data.toList.map fun b => Value.int .u8 b.toNat) := by
  refine ⟨_, Lib.bytesWorld_at_new w 5 s, _, _, _, rfl, fun j v hj => ?_⟩
  unfold Lib.bytesCells
  have hlt := (List.getElem?_eq_some_iff.1 hj).1
  rw [Array.getElem?_append_left (by simpa using hlt)]
  rw [← Array.getElem?_toList, Array.toList_map]; exact hj
def nilS : Value := .slice none 0 0
/-- The rows of a byteStringReplacer: what stands for \", for \\, and the texts. -/
def n256 : List Value := List.replicate 256 nilS
theorem n256_len : n256.length = 256 := List.length_replicate
theorem n256_get (j : Nat) : n256[j]? = if j < 256 then some nilS else none := List.getElem?_replicate
def bsL (A B T : Value) : List Value := (n256.set 34 A).set 92 B ++ [T]
def oBS (A B T : Value) : Obj := .cells (bsL A B T).toArray 352 (0, 0)
theorem z352 : (Tryz.prog.info? 352).bind (·.zero) = some (.agg (bsL nilS nilS nilS).toArray) := by kernel_rfl
theorem size352 : (Tryz.prog.info? 352).map (·.size) = some 257 := by kernel_rfl
theorem built352 (A : Option Addr) (l c : Nat) : Tryz.prog.built 352 [(1, .slice A l c)] = some (bsL nilS nilS (.slice A l c)).toArray := by kernel_rfl
theorem bs_len2 (A B : Value) : ((n256.set 34 A).set 92 B).length = 256 := by rw [List.length_set, List.length_set, n256_len]
theorem bs_len (A B T : Value) : (bsL A B T).length = 257 := by unfold bsL; rw [List.length_append, bs_len2]; rfl
theorem bs_get {A B T : Value} (j : Nat) : (bsL A B T)[j]? = if j = 256 then some T else if j = 92 then some B else if j = 34 then some A else if j < 256 then some nilS else none := by
  unfold bsL
  by_cases h : j < 256
  · rw [List.getElem?_append_left (by rw [bs_len2]; exact h), if_neg (by omega), List.getElem?_set, List.getElem?_set, List.length_set, n256_len, n256_get]
    by_cases h1 : j = 92
    · subst h1; rw [if_pos rfl, if_pos (by omega), if_pos rfl]
    · rw [if_neg (by omega), if_neg h1]
      by_cases h2 : j = 34
      · subst h2; rw [if_pos rfl, if_pos (by omega), if_pos rfl]
      · rw [if_neg (by omega), if_neg h2]
  · rw [List.getElem?_append_right (by rw [bs_len2]; omega), bs_len2]
    by_cases h1 : j = 256
    · subst h1; rw [if_pos rfl]; rfl
    · rw [if_neg h1, if_neg (by omega), if_neg (by omega), if_neg h, List.getElem?_eq_none (by simp; omega)]
theorem bs_one (A B T : Value) (h1 : A.oneCell' = true) (h2 : B.oneCell' = true) (h3 : T.oneCell' = true) : (bsL A B T).toArray.all (·.oneCell') = true := by
  refine all_oneCell_toArray fun v hv => ?_
  obtain ⟨j, hj⟩ := List.mem_iff_getElem?.1 hv
  rw [bs_get] at hj
  split at hj
  · cases hj; exact h3
  · split at hj
    · cases hj; exact h2
    · split at hj
      · cases hj; exact h1
      · split at hj
        · cases hj; rfl
        · cases hj
theorem bs_set92 (A B T B' : Value) : (bsL A B T).set 92 B' = bsL A B' T := by
  apply List.ext_getElem?
  intro j
  rw [List.getElem?_set, bs_get, bs_get, bs_len]
  by_cases h : 92 = j
  · subst h; rw [if_pos rfl, if_pos (by omega)]; rfl
  · rw [if_neg h, if_neg (c := j = 92) (by omega), if_neg (c := j = 92) (by omega)]
theorem bs_set34 (A B T A' : Value) : (bsL A B T).set 34 A' = bsL A' B T := by
  apply List.ext_getElem?
  intro j
  rw [List.getElem?_set, bs_get, bs_get, bs_len]
  by_cases h : 34 = j
  · subst h; rw [if_pos rfl, if_pos (by omega)]; rfl
  · rw [if_neg h, if_neg (c := j = 34) (by omega), if_neg (c := j = 34) (by omega)]
theorem bs_setT (A B T T' : Value) : (bsL A B T).set 256 T' = bsL A B T' := by
  apply List.ext_getElem?
  intro j
  rw [List.getElem?_set, bs_get, bs_get, bs_len]
  by_cases h : 256 = j
  · subst h; rw [if_pos rfl, if_pos (by omega)]; rfl
  · rw [if_neg h, if_neg (c := j = 256) (by omega), if_neg (c := j = 256) (by omega)]
theorem wpList_make23 {ops : Array Oper} {rest : List Oper} {o : Oper} {a : Act} {w : World} {Q : Exit → Act → World → Prop} (hg : o.guard = none) (x y : Operand) (ho : o.op = .makeSlice 23 x y) (hx : a.eval x = .int .i64 0) (hy : a.eval y = .int .i64 2)
    (h : ∀ om : Obj, (w.alloc om).ownsRow 0 9 1 (.slice (some ⟨w.heap.size, 0, none⟩) 0 2) 0 [] → wpList Tryz.prog ops Q rest (a.put o.dst (.slice (some ⟨w.heap.size, 0, none⟩) 0 2)) (w.alloc om)) : wpList Tryz.prog ops Q (o :: rest) a w := by
  have h9 := Tryz.info9
  cases hi : Tryz.prog.info? 9 with
  | none => rw [hi] at h9; cases h9
  | some i =>
  rw [hi] at h9
  simp only [Option.map_some, Option.some.injEq, Prod.mk.injEq] at h9
  obtain ⟨hz, hs, hb⟩ := h9
  have hr := run_makeSlice (P := Tryz.prog) w 23 9 i (.string ⟨#[]⟩) Tryz.underlying23 hi hz .i64 .i64 0 2 (by decide) (by decide) (by rw [hs]; decide) (by rw [hb]; decide) (by decide)
  have hrun : (execOp a.eval o).run Tryz.prog w = .ok (.value (.slice (some ⟨w.heap.size, 0, none⟩) 0 2)) (w.alloc (.cells (madeCells (Value.string ⟨#[]⟩).cells ((2 : Int).toNat * i.size)) 9)) := by
    unfold execOp
    simp only [ho, hx, hy, Sem.run_bind, hr, Sem.run_pure, Result.andThen_ok]
    rfl
  exact wpList_run hg hrun (h _ (World.ownsRow_made w _ 2 (Nat.zero_le _) (by unfold maxLen; decide) (by rw [hs]; exact size_madeCells _ _)))
theorem wpList_s2b {ops : Array Oper} {rest : List Oper} {o : Oper} {a : Act} {w : World} {Q : Exit → Act → World → Prop} (hg : o.guard = none) (x : Operand) (ho : o.op = .convert 9 150 x) {s : ByteArray} (hx : a.eval x = .string s) {n : Nat} (hn : s.size = n)
    (h : ∀ (w' : World) (k c : Nat) (ob : Obj), w'.heap[k]? = some ob → RowIn ob (s.data.toList.map fun b => Value.int .u8 b.toNat) → w.heap.size ≤ k → Below w.heap.size w w' → wpList Tryz.prog ops Q rest (a.put o.dst (.slice (some ⟨k, 0, none⟩) n c)) w') : wpList Tryz.prog ops Q (o :: rest) a w := by
  subst hn
  obtain ⟨ob, h1, h2⟩ := bytes_obj w s
  exact wpList_run hg (exec_s2b ho hx) (h _ _ _ ob h1 h2 (Nat.le_refl _) (below_bytes w s))
theorem wpList_putS {ops : Array Oper} {rest : List Oper} {o : Oper} {a : Act} {w : World} {Q : Exit → Act → World → Prop} (hg : o.guard = none) (t : TypeId) (x y : Operand) (ho : o.op = .store t x y) {g j l c : Nat} {A : Option Addr} (hx : a.eval x = .pointer (some ⟨g, j, none⟩)) (hy : a.eval y = .slice A l c)
    {row row' : List Value} {ty : TypeId} (hrow : w.heap[g]? = some (.cells row.toArray ty (0, 0))) (hj : j < row.length) (hi : (Tryz.prog.info? t).map (·.size) = some 1) (hr' : row.set j (.slice A l c) = row')
    (h : ∀ w' : World, w'.heap[g]? = some (.cells row'.toArray ty (0, 0)) → Fr (fun b => b = g) w w' → wpList Tryz.prog ops Q rest (a.put o.dst undef) w') : wpList Tryz.prog ops Q (o :: rest) a w := by
  subst hr'
  have hc : w.cell? ⟨g, j, none⟩ = some row[j] := (row_cell hrow).trans (by rw [List.getElem?_toArray]; exact List.getElem?_eq_getElem hj)
  have hf : w.frozen? ⟨g, j, none⟩ = false := row_free hrow
  have h1 : (storeVar t ⟨g, j, none⟩ (.slice A l c)).run Tryz.prog w = .ok () (w.setCell ⟨g, j, none⟩ (.slice A l c)) := by
    have := run_storeCells_cells (P := Tryz.prog) g j [Value.slice A l c] 0 w (fun q hq => by
      obtain rfl : q = 0 := by simpa using hq
      show (w.cell? ⟨g, j, none⟩).isSome = true
      rw [hc]; rfl) (fun q hq => by
      obtain rfl : q = 0 := by simpa using hq
      exact hf) (fun v hv => by simp at hv; subst hv; rfl)
    cases hq : Tryz.prog.info? t with
    | none => simp [hq] at hi
    | some i =>
      have hs : i.size = 1 := by simpa [hq] using hi
      simp [storeVar, sizeOf, typeInfo, hq, Value.cells, hs] at this ⊢
      rw [this]; rfl
  refine wpList_plain hg fun _ hK => ?_
  unfold Oper.wp execOp
  simp only [ho, hx, hy, Instr.storeAt, Instr.sureAddr, Sem.run_bind, Sem.run_pure, Result.andThen_ok, h1]
  exact hK _ _ (h _ (row_set hrow _ (by rw [List.setIfInBounds_toArray])) (Fr.setCell (S := fun b => b = g) (Fr.refl _ w) (p := ⟨g, j, none⟩) (.inl rfl) _))
/-- A byteStringReplacer that is built, in these boxes. -/
def RepP (pre : List (Nat × Obj)) (g : Nat) : Prop := ∃ (ka kb kt ca cb ct : Nat) (oa ob ot : Obj), (g, oBS (.slice (some ⟨ka, 0, none⟩) 2 ca) (.slice (some ⟨kb, 0, none⟩) 2 cb) (.slice (some ⟨kt, 0, none⟩) 2 ct)) ∈ pre ∧ (ka, oa) ∈ pre ∧ (kb, ob) ∈ pre ∧ (kt, ot) ∈ pre ∧
  RowIn oa [.int .u8 92, .int .u8 34] ∧ RowIn ob [.int .u8 92, .int .u8 92] ∧ RowIn ot (strs [⟨#[92]⟩, ⟨#[34]⟩])
theorem AllB.mem {W : World} : ∀ {l : List (Nat × Obj)}, (∀ x ∈ l, W.heap[x.1]? = some x.2) → AllB W l
  | [], _ => trivial
  | x :: l, h => ⟨h x (by simp), AllB.mem fun y hy => h y (by simp [hy])⟩
def S0 (W wr : World) : Prop := ∃ T : Value, wr.heap[W.heap.size + 1]? = some (oBS nilS nilS T) ∧ wr.ownsRow 0 9 1 T 0 (strs []) ∧ Lo W.heap.size T ∧ T.ownBlock ≠ some (W.heap.size + 1) ∧ Below W.heap.size W wr
def S1 (W wr : World) : Prop := ∃ kb cb : Nat, ∃ T : Value, wr.heap[W.heap.size + 1]? = some (oBS nilS (.slice (some ⟨kb, 0, none⟩) 2 cb) T) ∧ wr.ownsRow 0 9 1 T 1 (strs [⟨#[92]⟩]) ∧ Lo W.heap.size T ∧ T.ownBlock ≠ some (W.heap.size + 1) ∧ Below W.heap.size W wr ∧ (∃ ob, wr.heap[kb]? = some ob ∧ RowIn ob [.int .u8 92, .int .u8 92]) ∧ W.heap.size ≤ kb ∧ kb ≠ W.heap.size + 1 ∧ (T.ownBlock ≠ some kb)
def S2 (W wr : World) : Prop := ∃ ka ca kb cb : Nat, ∃ T : Value, wr.heap[W.heap.size + 1]? = some (oBS (.slice (some ⟨ka, 0, none⟩) 2 ca) (.slice (some ⟨kb, 0, none⟩) 2 cb) T) ∧ wr.ownsRow 0 9 1 T 2 (strs [⟨#[92]⟩, ⟨#[34]⟩]) ∧ Lo W.heap.size T ∧ T.ownBlock ≠ some (W.heap.size + 1) ∧ Below W.heap.size W wr ∧ (∃ ob, wr.heap[kb]? = some ob ∧ RowIn ob [.int .u8 92, .int .u8 92]) ∧ W.heap.size ≤ kb ∧ kb ≠ W.heap.size + 1 ∧ (T.ownBlock ≠ some kb) ∧ (∃ oa, wr.heap[ka]? = some oa ∧ RowIn oa [.int .u8 92, .int .u8 34]) ∧ W.heap.size ≤ ka ∧ ka ≠ W.heap.size + 1 ∧ (T.ownBlock ≠ some ka)
set_option maxRecDepth 100000 in
set_option maxHeartbeats 3200000 in
theorem build_any {W : World} {b k c : Nat} {d st : Int} {r : Value} {ok : Obj} (hb : W.heap[b]? = some (oRep d st r (.slice (some ⟨k, 0, none⟩) 4 c))) (hk : W.heap[k]? = some ok) (hr : RowIn ok (strs RL)) :
    Calls Tryz.prog 257 #[.pointer (some ⟨b, 0, none⟩)] W fun e w' => (∃ g pre, e = .returned (.iface 353 (.pointer (some ⟨g, 0, none⟩))) ∧ RepP pre g ∧ (∀ x ∈ pre, w'.heap[x.1]? = some x.2) ∧ ∀ x ∈ pre, W.heap.size ≤ x.1) ∧ Below W.heap.size W w' := by
  have c4 : W.cell? ⟨b, 4, none⟩ = some (.slice (some ⟨k, 0, none⟩) 4 c) := (row_cell hb).trans rfl
  have s0 : W.cell? ⟨k, 0, none⟩ = some (.string ⟨#[34]⟩) := hr.cell hk rfl
  have s1 : W.cell? ⟨k, 1, none⟩ = some (.string ⟨#[92, 34]⟩) := hr.cell hk rfl
  have s2 : W.cell? ⟨k, 2, none⟩ = some (.string ⟨#[92]⟩) := hr.cell hk rfl
  have s3 : W.cell? ⟨k, 3, none⟩ = some (.string ⟨#[92, 92]⟩) := hr.cell hk rfl
  have hbl := lt_of_obj hb
  have hkl := lt_of_obj hk
  clear hr
  replace hb := Lib.hid hb
  replace hk := Lib.hid hk
  go_enter Tryz.func257, Tryz.ntmps257
  go_wp2
  go_loop [4, 5] (fun x4 x5 => (x5 = .int .i64 0 ∧ x4 = .bool true) ∨ (x5 = .int .i64 2 ∧ x4 = .bool false) ∨ (x5 = .int .i64 4 ∧ x4 = .bool false)) (fun _ x5 => 4 - (intOf x5).toNat)
  case atStart => exact .inl ⟨rfl, rfl⟩
  case round =>
    rcases hrel with ⟨rfl, rfl⟩ | ⟨rfl, rfl⟩ | ⟨rfl, rfl⟩
    · go_wp2
      exact ⟨.inr (.inl ⟨rfl, rfl⟩), by simp [intOf]⟩
    · go_wp2
      exact ⟨.inr (.inr ⟨rfl, rfl⟩), by simp [intOf]⟩
    · go_wp2_with (first
        | (refine wpList_make23 rfl _ _ rfl rfl rfl ?_; intro om ho1; have bel1 : Below W.heap.size W (W.alloc om) := (Below.refl _ _).alloc (Nat.le_refl _) _)
        | (refine wpList_buildTo rfl 352 _ rfl (some 95) rfl _ (built352 _ _ _) ?_)
        | (refine wpList_new rfl rfl rfl rfl z352 rfl (by rfl) (by rfl) (size352.trans (by rw [List.size_toArray, bs_len])) (by show (bsL _ _ _).toArray.size = _; rw [List.size_toArray, List.size_toArray, bs_len, bs_len]) (bs_one _ _ _ rfl rfl rfl) ?_))
      have st0 : S0 W ((W.alloc om).alloc (oBS nilS nilS (.slice (some ⟨W.heap.size, 0, none⟩) 0 2))) := by
        refine ⟨_, by have := box1 (W.alloc om) (oBS nilS nilS (.slice (some ⟨W.heap.size, 0, none⟩) 0 2)); rwa [World.size_alloc] at this, own_below ho1 (B := (W.alloc om).heap.size) ((Below.refl _ _).alloc (Nat.le_refl _) _) (own_lt ho1), fun b_ hb => ?_, fun h => ?_, bel1.alloc bel1.size _⟩
        · have h2 : some W.heap.size = some b_ := hb
          have := Option.some.inj h2
          omega
        · have h2 : some W.heap.size = some (W.heap.size + 1) := h
          have := Option.some.inj h2
          omega
      go_loopw [12] (fun x12 wr => (x12 = .int .i64 2 ∧ S0 W wr) ∨ (x12 = .int .i64 0 ∧ S1 W wr) ∨ (x12 = .int .i64 (-2) ∧ S2 W wr)) (fun x12 wr => (intOf x12 + 2).toNat)
      case atStart => exact .inl ⟨rfl, st0⟩
      case round =>
        clear st0
        rcases hrel with ⟨rfl, T, hg, ho, lo, hne, bel⟩ | ⟨rfl, kb, cb, T, hg, ho, lo, hne, bel, ⟨ob, hob, rob⟩, hkb1, hkb2, hkb3⟩ | ⟨rfl, ka, ca, kb, cb, T, hg, ho, lo, hne, bel, ⟨ob, hob, rob⟩, hkb1, hkb2, hkb3, ⟨oa, hoa, roa⟩, hka1, hka2, hka3⟩
        · have q0 : wr.cell? ⟨k, 2, none⟩ = some (.string ⟨#[92]⟩) := (Below.cell (p := ⟨k, 2, none⟩) bel hkl).trans s2
          have e8 : ((⟨#[92]⟩ : ByteArray)[0]'(by decide)).toNat = 92 := rfl
          have q1 : wr.cell? ⟨k, 3, none⟩ = some (.string ⟨#[92, 92]⟩) := (Below.cell (p := ⟨k, 3, none⟩) bel hkl).trans s3
          obtain ⟨A, c2, rfl, hc1, hc2⟩ := own_slice ho
          have q2 : wr.cell? ⟨W.heap.size + 1, 92, none⟩ = some (.slice none 0 0) := (row_cell hg).trans (by rw [List.getElem?_toArray, bs_get]; rfl)
          have q3 : wr.cell? ⟨W.heap.size + 1, 256, none⟩ = some (.slice A 0 c2) := (row_cell hg).trans (by rw [List.getElem?_toArray, bs_get]; rfl)
          have hgl := lt_of_obj hg
          have hnil := nil_eql
          have hcv := b2s_at wr 92 (s := ⟨#[92]⟩) rfl
          replace hg := Lib.hid hg
          replace hne := Lib.hid hne
          go_wp2_with (first
            | (at_builtin; refine wpList_app1 rfl (.tmp 119) (.tmp 123) 23 rfl Tryz.underlying23 Tryz.info9 rfl (by decide) (by decide) [.string ⟨#[92]⟩] rfl (by intro z hz; simp at hz; subst hz; rfl) rfl (own_below ho (B := wr.heap.size) ((Below.refl _ _).alloc (Nat.le_refl _) _) (own_lt ho)) (by rw [World.size_alloc]; rfl) (by omega) ?_; intro T2 w5 ho5 hn5 hf5; have hg5 := Lib.hid (hf5.obj ((heap_alloc_keep wr _ hgl).trans hg.out) hne.out); have bel5 : Below W.heap.size W w5 := (bel.alloc bel.size _).trans (hf5.belowB lo (Nat.le_trans bel.size (by simp))); have lo5 := lo.next hn5 (Nat.le_trans bel.size (by simp)); have hne5 : Hid (T2.ownBlock ≠ some (W.heap.size + 1)) := Lib.hid (fun e => hn5.elim (fun h => hne.out (h ▸ e)) (fun ⟨q, h, hq⟩ => by rw [h] at e; cases e; simp at hq; omega)); obtain ⟨A2, c3, rfl, hd1, hd2⟩ := own_slice ho5)
            | (refine wpList_putS rfl 23 (.tmp 125) (.tmp 124) rfl (g := W.heap.size + 1) (j := 256) (A := A2) (l := 1) (c := c3) rfl rfl hg5.out (by rw [bs_len]; decide) (by kernel_rfl) (bs_setT _ _ _ _) ?_; intro w6 hg6 hf6; have bel6 : Below W.heap.size W w6 := bel5.trans (hf6.belowS (fun b hb => by omega) bel5.size); have ho6 := own_fr ho5 hf6 (fun b hb e => hne5.out (hb.trans (congrArg some e))); have hg6 := Lib.hid hg6)
            | (refine wpList_s2b rfl (.tmp 127) rfl (s := ⟨#[92, 92]⟩) rfl (n := 2) (by decide) ?_; intro w7 k7 c7 o7 hk7 hr7 hk7l bel7; have hg7 := Lib.hid (Below.box hg6.out bel7 (lt_of_obj hg6.out)))
            | (refine wpList_putS rfl 150 (.tmp 130) (.tmp 128) rfl (g := W.heap.size + 1) (j := 92) (A := some ⟨k7, 0, none⟩) (l := 2) (c := c7) rfl rfl hg7.out (by rw [bs_len]; decide) (by kernel_rfl) (bs_set92 _ _ _ _) ?_; intro w8 hg8 hf8))
          have own8 := own_fr (own_below ho6 bel7 (own_lt ho6)) hf8 (fun b hb e => hne5.out (hb.trans (congrArg some e)))
          have h6l : W.heap.size + 1 < w6.heap.size := lt_of_obj hg6.out
          have hk7n : k7 ≠ W.heap.size + 1 := by omega
          have hk8 := hf8.obj hk7 hk7n
          have bel7' : Below W.heap.size W w7 := bel6.trans (bel7.mono bel6.size)
          have bel8 : Below W.heap.size W w8 := bel7'.trans (hf8.belowS (fun b hb => by omega) bel7'.size)
          have b6 := bel6.size
          have ht7 : (Value.slice A2 1 c3).ownBlock ≠ some k7 := fun e => by have := own_lt ho6 k7 e; omega
          exact ⟨.inr (.inl ⟨rfl, k7, c7, _, hg8, own8, lo5, hne5.out, bel8, ⟨o7, hk8, hr7⟩, by omega, hk7n, ht7⟩), by simp [intOf]⟩
        · have q0 : wr.cell? ⟨k, 0, none⟩ = some (.string ⟨#[34]⟩) := (Below.cell (p := ⟨k, 0, none⟩) bel hkl).trans s0
          have e8 : ((⟨#[34]⟩ : ByteArray)[0]'(by decide)).toNat = 34 := rfl
          have q1 : wr.cell? ⟨k, 1, none⟩ = some (.string ⟨#[92, 34]⟩) := (Below.cell (p := ⟨k, 1, none⟩) bel hkl).trans s1
          obtain ⟨A, c2, rfl, hc1, hc2⟩ := own_slice ho
          have q2 : wr.cell? ⟨W.heap.size + 1, 34, none⟩ = some (.slice none 0 0) := (row_cell hg).trans (by rw [List.getElem?_toArray, bs_get]; rfl)
          have q3 : wr.cell? ⟨W.heap.size + 1, 256, none⟩ = some (.slice A 1 c2) := (row_cell hg).trans (by rw [List.getElem?_toArray, bs_get]; rfl)
          have hgl := lt_of_obj hg
          have hnil := nil_eql
          have hcv := b2s_at wr 34 (s := ⟨#[34]⟩) rfl
          replace hg := Lib.hid hg
          replace hne := Lib.hid hne
          replace hkb3 := Lib.hid hkb3
          have hbl2 := lt_of_obj hob
          replace hob := Lib.hid hob
          go_wp2_with (first
            | (at_builtin; refine wpList_app1 rfl (.tmp 119) (.tmp 123) 23 rfl Tryz.underlying23 Tryz.info9 rfl (by decide) (by decide) [.string ⟨#[34]⟩] rfl (by intro z hz; simp at hz; subst hz; rfl) rfl (own_below ho (B := wr.heap.size) ((Below.refl _ _).alloc (Nat.le_refl _) _) (own_lt ho)) (by rw [World.size_alloc]; rfl) (by omega) ?_; intro T2 w5 ho5 hn5 hf5; have hg5 := Lib.hid (hf5.obj ((heap_alloc_keep wr _ hgl).trans hg.out) hne.out); have bel5 : Below W.heap.size W w5 := (bel.alloc bel.size _).trans (hf5.belowB lo (Nat.le_trans bel.size (by simp))); have lo5 := lo.next hn5 (Nat.le_trans bel.size (by simp)); have hne5 : Hid (T2.ownBlock ≠ some (W.heap.size + 1)) := Lib.hid (fun e => hn5.elim (fun h => hne.out (h ▸ e)) (fun ⟨q, h, hq⟩ => by rw [h] at e; cases e; simp at hq; omega)); have hob5 := Lib.hid (hf5.obj ((heap_alloc_keep wr _ hbl2).trans hob.out) hkb3.out); have hkb5 : Hid (T2.ownBlock ≠ some kb) := Lib.hid (fun e => hn5.elim (fun h => hkb3.out (h ▸ e)) (fun ⟨q, h, hq⟩ => by rw [h] at e; cases e; simp at hq; omega)); obtain ⟨A2, c3, rfl, hd1, hd2⟩ := own_slice ho5)
            | (refine wpList_putS rfl 23 (.tmp 125) (.tmp 124) rfl (g := W.heap.size + 1) (j := 256) (A := A2) (l := 2) (c := c3) rfl rfl hg5.out (by rw [bs_len]; decide) (by kernel_rfl) (bs_setT _ _ _ _) ?_; intro w6 hg6 hf6; have bel6 : Below W.heap.size W w6 := bel5.trans (hf6.belowS (fun b hb => by omega) bel5.size); have ho6 := own_fr ho5 hf6 (fun b hb e => hne5.out (hb.trans (congrArg some e))); have hg6 := Lib.hid hg6)
            | (refine wpList_s2b rfl (.tmp 127) rfl (s := ⟨#[92, 34]⟩) rfl (n := 2) (by decide) ?_; intro w7 k7 c7 o7 hk7 hr7 hk7l bel7; have hg7 := Lib.hid (Below.box hg6.out bel7 (lt_of_obj hg6.out)))
            | (refine wpList_putS rfl 150 (.tmp 130) (.tmp 128) rfl (g := W.heap.size + 1) (j := 34) (A := some ⟨k7, 0, none⟩) (l := 2) (c := c7) rfl rfl hg7.out (by rw [bs_len]; decide) (by kernel_rfl) (bs_set34 _ _ _ _) ?_; intro w8 hg8 hf8))
          have own8 := own_fr (own_below ho6 bel7 (own_lt ho6)) hf8 (fun b hb e => hne5.out (hb.trans (congrArg some e)))
          have h6l : W.heap.size + 1 < w6.heap.size := lt_of_obj hg6.out
          have hk7n : k7 ≠ W.heap.size + 1 := by omega
          have hk8 := hf8.obj hk7 hk7n
          have bel7' : Below W.heap.size W w7 := bel6.trans (bel7.mono bel6.size)
          have bel8 : Below W.heap.size W w8 := bel7'.trans (hf8.belowS (fun b hb => by omega) bel7'.size)
          have b6 := bel6.size
          have ht7 : (Value.slice A2 2 c3).ownBlock ≠ some k7 := fun e => by have := own_lt ho6 k7 e; omega
          have hob8 := hf8.obj (Below.box (hf6.obj hob5.out hkb2) bel7 (lt_of_obj (hf6.obj hob5.out hkb2))) hkb2
          exact ⟨.inr (.inr ⟨rfl, k7, c7, kb, cb, _, hg8, own8, lo5, hne5.out, bel8, ⟨ob, hob8, rob⟩, hkb1, hkb2, hkb5.out, ⟨o7, hk8, hr7⟩, by omega, hk7n, ht7⟩), by simp [intOf]⟩
        · obtain ⟨A, c2, rfl, -, -⟩ := own_slice ho
          obtain ⟨kt, ot, rfl, -, hkt, rkt⟩ := own_obj ho (by decide) (by decide)
          have hktl := lo kt rfl
          replace hkt := Lib.hid hkt
          replace hg := Lib.hid hg
          replace hoa := Lib.hid hoa
          replace hob := Lib.hid hob
          go_wp2
          go_ret
          refine ⟨⟨W.heap.size + 1, [(W.heap.size + 1, oBS (.slice (some ⟨ka, 0, none⟩) 2 ca) (.slice (some ⟨kb, 0, none⟩) 2 cb) (.slice (some ⟨kt, 0, none⟩) 2 c2)), (ka, oa), (kb, ob), (kt, ot)], rfl, ⟨ka, kb, kt, ca, cb, c2, oa, ob, ot, by simp, by simp, by simp, by simp, roa, rob, rkt⟩, fun x hx => ?_, fun x hx => ?_⟩, bel⟩
          · simp only [List.mem_cons, List.not_mem_nil, or_false] at hx
            rcases hx with rfl | rfl | rfl | rfl
            · exact hg.out
            · exact hoa.out
            · exact hob.out
            · exact hkt.out
          · simp only [List.mem_cons, List.not_mem_nil, or_false] at hx
            rcases hx with rfl | rfl | rfl | rfl
            · exact Nat.le_succ _
            · exact hka1
            · exact hkb1
            · exact hktl
end Go.Proofs.YtnljjlaececnkaaGreatDoor
/-
  sync.Once over a Replacer that was made just now: it is built. Condition: nobody holds its lock.
-/
namespace Go.Proofs.YtnljjlaececnkaaGreatDoor
open Go.RowKit
set_option linter.unusedVariables false
set_option linter.unusedSimpArgs false
/-- What building leaves. -/
def Built (W W' : World) (b : Nat) (d st : Int) : Prop := ∃ g pre, RepP pre g ∧ (∀ x ∈ pre, W'.heap[x.1]? = some x.2) ∧ (∀ x ∈ pre, W.heap.size ≤ x.1) ∧ W'.heap[b]? = some (oRep d st (.iface 353 (.pointer (some ⟨g, 0, none⟩))) nilS)
theorem oRep_set (W : World) (b : Nat) (d st : Int) (r v : Value) (h : W.heap[b]? = some (oRep d st r v)) : (∀ x, (W.setCell ⟨b, 3, none⟩ x).heap[b]? = some (oRep d st x v)) ∧ (∀ x, (W.setCell ⟨b, 4, none⟩ x).heap[b]? = some (oRep d st r x)) ∧ (∀ n, (W.setCell ⟨b, 0, none⟩ (.int .u32 n)).heap[b]? = some (oRep n st r v)) ∧ (∀ n, (W.setCell ⟨b, 1, none⟩ (.int .i32 n)).heap[b]? = some (oRep d n r v)) :=
  ⟨fun x => row_set h x rfl, fun x => row_set h x rfl, fun n => row_set h _ rfl, fun n => row_set h _ rfl⟩
theorem oRep_cells {W : World} {b : Nat} {d st : Int} {r v : Value} (h : W.heap[b]? = some (oRep d st r v)) : W.cell? ⟨b, 0, none⟩ = some (.int .u32 d) ∧ W.cell? ⟨b, 1, none⟩ = some (.int .i32 st) ∧ W.cell? ⟨b, 3, none⟩ = some r ∧ W.cell? ⟨b, 4, none⟩ = some v ∧ ∀ j, W.frozen? ⟨b, j, none⟩ = false :=
  ⟨(row_cell h).trans rfl, (row_cell h).trans rfl, (row_cell h).trans rfl, (row_cell h).trans rfl, fun j => row_free h⟩
set_option maxRecDepth 100000 in
set_option maxHeartbeats 1600000 in
theorem buildOnce_any {W : World} {b k c : Nat} {d st : Int} {r : Value} {ok : Obj} (hb : W.heap[b]? = some (oRep d st r (.slice (some ⟨k, 0, none⟩) 4 c))) (hk : W.heap[k]? = some ok) (hr : RowIn ok (strs RL)) :
    Calls Tryz.prog 209 #[.pointer (some ⟨b, 0, none⟩)] W fun e w' => e = .returned (.tuple #[]) ∧ Built W w' b d st ∧ Fr (fun x => x = b) W w' := by
  have hB := build_any hb hk hr
  have hbl := lt_of_obj hb
  replace hb := Lib.hid hb
  clear hk hr
  go_enter Tryz.func209, Tryz.ntmps209
  go_wp2_with (go_at_call 257; refine hB.mono ?_; clear hB; rintro e w1 ⟨⟨g, pre, rfl, hp, hall, hlow⟩, bel⟩; have hb1 := Below.box hb.out bel hbl; obtain ⟨q0, q1, q3, q4, qf⟩ := oRep_cells hb1; have q3f := qf 3; have q4f := qf 4; have hb1 := Lib.hid hb1; have hall := Lib.hid hall; have hlow := Lib.hid hlow; clear qf q0 q1)
  go_end0
  have h2 := (oRep_set _ _ _ _ _ _ hb1.out).1 (.iface 353 (.pointer (some ⟨g, 0, none⟩)))
  have h3 := (oRep_set _ _ _ _ _ _ h2).2.1 nilS
  have f2 := Fr.setCell (S := fun x => x = b) (Fr.refl _ w1) (p := ⟨b, 3, none⟩) (.inl rfl) (.iface 353 (.pointer (some ⟨g, 0, none⟩)))
  have f3 := Fr.setCell (S := fun x => x = b) f2 (p := ⟨b, 4, none⟩) (.inl rfl) nilS
  refine ⟨rfl, ⟨g, pre, hp, fun x hx => f3.obj (hall.out x hx) (fun e => by have := hlow.out x hx; omega), hlow.out, h3⟩, (Fr.of_below bel).trans f3 (fun b' h => .inl h)⟩
theorem load255 {w : World} {b : Nat} {d : Int} (h0 : w.cell? ⟨b, 0, none⟩ = some (.int .u32 d)) : Calls Tryz.prog 255 #[.pointer (some ⟨b, 0, none⟩)] w fun e w' => e = .returned (.bool (d != 0)) ∧ w' = w := by
  have hl := run_call_load (P := Tryz.prog) Tryz.func295 (by kernel_rfl) (by kernel_rfl) (by kernel_rfl) .u32 (by kernel_rfl) h0
  replace h0 := Lib.hid h0
  go_enter Tryz.func255, Tryz.ntmps255
  go_wp2
  go_ret
  exact ⟨rfl, rfl⟩
set_option maxRecDepth 100000 in
set_option maxHeartbeats 1600000 in
theorem doSlow_any {W : World} {b k c : Nat} {r : Value} {ok : Obj} (hb : W.heap[b]? = some (oRep 0 0 r (.slice (some ⟨k, 0, none⟩) 4 c))) (hk : W.heap[k]? = some ok) (hkb : k ≠ b) (hr : RowIn ok (strs RL)) :
    Calls Tryz.prog 256 #[.pointer (some ⟨b, 0, none⟩), .func (.func 209) #[.pointer (some ⟨b, 0, none⟩)] #[]] W fun e w' => e = .returned (.tuple #[]) ∧ Built W w' b 1 0 ∧ Fr (fun x => x = b) W w' := by
  obtain ⟨q0, q1, q3, q4, qf⟩ := oRep_cells hb
  have f1 := Fr.setCell (S := fun x => x = b) (Fr.refl _ W) (p := ⟨b, 1, none⟩) (.inl rfl) (.int .i32 1)
  have hb1 := (oRep_set _ _ _ _ _ _ hb).2.2.2 1
  have hk1 := f1.obj hk hkb
  have hB := buildOnce_any hb1 hk1 hr
  have hl := load255 (oRep_cells hb1).1
  have hlk := Once.lock_free ⟨b, 1, none⟩ W q1 (qf 1)
  have hnot : ∀ (x : Bool) (w : World), (Op.unary .not (.bool x)).run Tryz.prog w = .ok (.bool (!x)) w := fun _ _ => rfl
  replace hb := Lib.hid hb
  clear q0 q1 q3 q4 qf hk hr hb1 hk1
  go_enter_defers Tryz.func256, Tryz.ntmps256
  go_wp2_with (go_at_call 296; refine hlk.mono ?_; clear hlk; rintro e w' ⟨rfl, rfl⟩)
  go_wp2_with (first | (go_at_call 255; refine hl.mono ?_; clear hl; rintro e w' ⟨rfl, rfl⟩) | (go_at_call 209; refine hB.mono ?_; clear hB; rintro e w2 ⟨rfl, ⟨g, pre, hp, hall, hlow, hb2⟩, hf2⟩; have hb2 := Lib.hid hb2; have hall := Lib.hid hall; have hlow := Lib.hid hlow))
  obtain ⟨p0, p1, p3, p4, pf⟩ := oRep_cells hb2.out
  refine leaves_cons (f := 298) (args := #[.pointer (some ⟨b, 0, none⟩), .bool true]) (by simp) (by simp [go_sem]) ?_
  refine (Once.store_deferred ⟨b, 0, none⟩ (.int .u32 0) .returning w2 p0 (pf 0)).mono ?_
  rintro e u' w'' ⟨rfl, rfl, rfl⟩
  have hb3 : (w2.drew.setCell ⟨b, 0, none⟩ (.int .u32 1)).heap[b]? = some (oRep 1 1 (.iface 353 (.pointer (some ⟨g, 0, none⟩))) nilS) := (oRep_set w2.drew _ _ _ _ _ hb2.out).2.2.1 1
  have f3 : Fr (fun x => x = b) w2 (w2.drew.setCell ⟨b, 0, none⟩ (.int .u32 1)) := Fr.setCell (S := fun x => x = b) (show Fr (fun x => x = b) w2 w2.drew from ⟨rfl, rfl, rfl, Nat.le_refl _, fun _ _ _ => rfl⟩) (p := ⟨b, 0, none⟩) (.inl rfl) _
  generalize w2.drew.setCell ⟨b, 0, none⟩ (.int .u32 1) = w3 at *
  obtain ⟨r0, r1, r3, r4, rf⟩ := oRep_cells hb3
  refine leaves_cons (f := 297) (args := #[.pointer (some ⟨b, 1, none⟩)]) (by simp [settle]) (by simp [go_sem]) ?_
  refine (Once.unlock_deferred ⟨b, 1, none⟩ _ w3 r1 (rf 1)).mono ?_
  rintro e u' w'' ⟨rfl, rfl, rfl⟩
  have hb4 := (oRep_set w3 _ _ _ _ _ hb3).2.2.2 0
  have f4 := Fr.setCell (S := fun x => x = b) f3 (p := ⟨b, 1, none⟩) (.inl rfl) (.int .i32 0)
  have hres : Built W (w3.setCell ⟨b, 1, none⟩ (.int .i32 0)) b 1 0 := ⟨g, pre, hp, fun x hx => f4.obj (hall.out x hx) (fun e => by have := hlow.out x hx; have := f1.size; have := lt_of_obj hb.out; omega), fun x hx => Nat.le_trans f1.size (hlow.out x hx), hb4⟩
  have hfr : Fr (fun x => x = b) W (w3.setCell ⟨b, 1, none⟩ (.int .i32 0)) := (f1.trans hf2 (fun b' h => .inl h)).trans f4 (fun b' h => .inl h)
  simp [Leaves, settle, results, Tryz.results256]
  exact ⟨hres, hfr⟩
set_option maxRecDepth 100000 in
set_option maxHeartbeats 1600000 in
theorem do_any {W : World} {b k c : Nat} {r : Value} {ok : Obj} (hb : W.heap[b]? = some (oRep 0 0 r (.slice (some ⟨k, 0, none⟩) 4 c))) (hk : W.heap[k]? = some ok) (hkb : k ≠ b) (hr : RowIn ok (strs RL)) :
    Calls Tryz.prog 208 #[.pointer (some ⟨b, 0, none⟩), .func (.func 209) #[.pointer (some ⟨b, 0, none⟩)] #[]] W fun e w' => e = .returned (.tuple #[]) ∧ Built W w' b 1 0 ∧ Fr (fun x => x = b) W w' := by
  have hS := doSlow_any hb hk hkb hr
  have hl := load255 (oRep_cells hb).1
  have hnot : ∀ (x : Bool) (w : World), (Op.unary .not (.bool x)).run Tryz.prog w = .ok (.bool (!x)) w := fun _ _ => rfl
  clear hb hk hr hkb
  go_enter Tryz.func208, Tryz.ntmps208
  go_wp2_with (first | (go_at_call 255; refine hl.mono ?_; clear hl; rintro e w' ⟨rfl, rfl⟩) | (go_at_call 256; refine hS.mono ?_; clear hS; rintro e w2 ⟨rfl, hbt, hf⟩; have hbt := Lib.hid hbt))
  go_end0
  exact ⟨rfl, hbt.out, hf⟩
end Go.Proofs.YtnljjlaececnkaaGreatDoor
