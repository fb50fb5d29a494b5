/-
  Which prefixes may be; what is in them. Condition: an address is sixteen bytes, a length a machine's number.
-/
import Derived.Test.YtnljjlaececnkaaGreatDoorC
namespace Go.Proofs.YtnljjlaececnkaaGreatDoor
open Go.RowKit
set_option linter.unusedVariables false
set_option linter.unusedSimpArgs false

theorem size55 : (Tryz.prog.info? 55).map (·.size) = some 17 := by kernel_rfl
theorem size57 : (Tryz.prog.info? 57).map (·.size) = some 34 := by kernel_rfl
/-- A prefix's box; an address's. -/
def BoxP (p : Pf) (g : Nat) (W : World) : Prop := W.heap[g]? = some (.cells (pCs p.a p.n).toArray 55 (0, 0))
def BoxA (a : List Int) (g : Nat) (W : World) : Prop := W.heap[g]? = some (.cells (nums .u8 a).toArray 42 (0, 0))
theorem pCs_get {p : Pf} (ha : isA p.a) : (pCs p.a p.n)[16]? = some (.int .i64 p.n) := by
  unfold pCs; rw [List.getElem?_append_right (by rw [nums_length, ha.1]; omega), nums_length, ha.1]; rfl
theorem pCs_at {p : Pf} {j : Nat} {v : Value} (h : (nums .u8 p.a)[j]? = some v) : (pCs p.a p.n)[j]? = some v := by
  unfold pCs; rw [List.getElem?_append_left (List.getElem?_eq_some_iff.1 h).1]; exact h
theorem row_load {W : World} {g : Nat} {cs : List Value} {t : TypeId} (h : W.heap[g]? = some (.cells cs.toArray t (0, 0))) : W.rangeAt g 0 cs := fun j v hj => by
  rw [Nat.zero_add, row_cell h]; simpa using hj
theorem quiet_load {P : Program} {C : World → Prop} {o : Oper} {a : Act} {w : World} {v : Value} (ty : TypeId) (x : Operand) (ho : o.op = .load ty x) {p : Addr} (hx : a.eval x = .pointer (some p)) (h : (loadVar ty p).run P w = .ok v w) : Oper.quietAt P o a C w v := by
  unfold Oper.quietAt execOp
  simp only [ho, hx, Instr.loadAt, Instr.sureAddr, Sem.run_bind, Sem.run_pure, Result.andThen_ok, h]
  exact ⟨rfl, rfl⟩
theorem quiet_eq {P : Program} {C : World → Prop} {o : Oper} {a : Act} {w : World} {r : Value} {op : BinOp} {t t' : TypeId} {x y : Operand} {xs ys : Array Value} (hop : op = .eql ∨ op = .neq) (ho : o.op = .binOp op t x y t') (hx : a.eval x = .agg xs) (hy : a.eval y = .agg ys)
    (hg : P.eqGuardType P.depth t = false) (h : (binOp op t (.agg xs) (.agg ys)).run P w = .ok r w) : Oper.quietAt P o a C w r := by
  unfold Oper.quietAt execOp
  simp only [ho, hx, hy, Sem.run_bind, run_eqGuard_agg _ op t x y xs ys hg, Sem.run_pure, Result.andThen_ok, h]
  exact ⟨rfl, rfl⟩
theorem BoxP.run {p : Pf} {g : Nat} {W : World} (h : BoxP p g W) (ha : isA p.a) :
    (loadVar 42 ⟨g, 0, none⟩).run Tryz.prog W = .ok (vA p.a) W ∧ W.cell? ⟨g, 16, none⟩ = some (.int .i64 p.n) ∧ (loadVar 55 ⟨g, 0, none⟩).run Tryz.prog W = .ok (vPf p) W := by
  have hr := row_load h
  refine ⟨?_, ?_, ?_⟩
  · exact run_loadVar_mid W g 0 42 (nums .u8 p.a) _ (fun j v hj => hr j v (pCs_at hj)) Tryz.underlying42 rfl (by rw [nums_length, ha.1]; exact size42)
  · have := hr 16 _ (pCs_get ha); simpa using this
  · exact run_loadVar_mid W g 0 55 (pCs p.a p.n) _ hr Tryz.underlying55 rfl (by rw [pCs_len ha]; exact size55)
theorem BoxA.run {a : List Int} {g : Nat} {W : World} (h : BoxA a g W) (ha : isA a) : (loadVar 42 ⟨g, 0, none⟩).run Tryz.prog W = .ok (vA a) W :=
  run_loadVar_mid W g 0 42 (nums .u8 a) _ (row_load h) Tryz.underlying42 rfl (by rw [nums_length, ha.1]; exact size42)
theorem bel_drew {B : Nat} {w w' : World} (h : Below B w w') : Below B w w'.drew := ⟨h.os, h.tape, h.output, h.size, h.block⟩
theorem lt_of_obj {W : World} {g : Nat} {o : Obj} (h : W.heap[g]? = some o) : g < W.heap.size := (Array.getElem?_eq_some_iff.1 h).1
theorem Below.box {B g : Nat} {w w' : World} {o : Obj} (h : w.heap[g]? = some o) (hb : Below B w w') (hg : g < B) : w'.heap[g]? = some o := (hb.block g hg).trans h
/-- These boxes lie there. -/
def AllB (W : World) : List (Nat × Obj) → Prop
  | [] => True
  | x :: l => W.heap[x.1]? = some x.2 ∧ AllB W l
theorem AllB.go {W W2 : World} (hb : Below W.heap.size W W2) : ∀ {l : List (Nat × Obj)}, AllB W l → AllB W2 l
  | [], _ => trivial
  | x :: l, ⟨h, r⟩ => ⟨Below.box h hb (lt_of_obj h), AllB.go hb r⟩
theorem AllB.same {w w2 : World} (hh : w2.heap = w.heap) : ∀ {l : List (Nat × Obj)}, AllB w l → AllB w2 l
  | [], _ => trivial
  | x :: l, ⟨h, r⟩ => ⟨by rw [hh]; exact h, AllB.same hh r⟩
/-- Nothing below N has turned since w; the boxes lie there. -/
def Bx (w : World) (N : Nat) (l : List (Nat × Obj)) (W : World) : Prop := Below N w W ∧ AllB W l ∧ N ≤ W.heap.size
theorem Bx.go {w W W2 : World} {N : Nat} {l : List (Nat × Obj)} (h : Bx w N l W) (hb : Below W.heap.size W W2) : Bx w N l W2 := ⟨h.1.trans (hb.mono h.2.2), AllB.go hb h.2.1, Nat.le_trans h.2.2 hb.size⟩
theorem box1 (w : World) (o : Obj) : (w.alloc o).heap[w.heap.size]? = some o := heap_alloc_new w o
theorem box21 (w : World) (o p : Obj) : ((w.alloc o).alloc p).heap[w.heap.size]? = some o := by rw [Below.heap_alloc _ _ _ (by simp)]; exact heap_alloc_new w o
theorem box22 (w : World) (o p : Obj) : ((w.alloc o).alloc p).heap[w.heap.size + 1]? = some p := heap_two w o p
theorem box31 (w : World) (o p q : Obj) : (((w.alloc o).alloc p).alloc q).heap[w.heap.size]? = some o := by rw [Below.heap_alloc _ _ _ (by simp; omega)]; exact box21 w o p
theorem box32 (w : World) (o p q : Obj) : (((w.alloc o).alloc p).alloc q).heap[w.heap.size + 1]? = some p := by rw [Below.heap_alloc _ _ _ (by simp)]; exact box22 w o p
theorem box33 (w : World) (o p q : Obj) : (((w.alloc o).alloc p).alloc q).heap[w.heap.size + 2]? = some q := by
  have := heap_alloc_new ((w.alloc o).alloc p) q
  rwa [show ((w.alloc o).alloc p).heap.size = w.heap.size + 2 from by simp] at this
def oP (p : Pf) : Obj := .cells (pCs p.a p.n).toArray 55 (0, 0)
def oA (a : List Int) : Obj := .cells (nums .u8 a).toArray 42 (0, 0)
def oPP (p : Pr) : Obj := .cells (pCs p.d.a p.d.n ++ pCs p.s.a p.s.n).toArray 57 (0, 0)
theorem Bx.start1 (w : World) (o : Obj) : Bx w w.heap.size [(w.heap.size, o)] (w.alloc o) := ⟨(Below.refl _ _).alloc (Nat.le_refl _) _, ⟨box1 w o, trivial⟩, by simp⟩
theorem Bx.start2 (w : World) (o p : Obj) : Bx w w.heap.size [(w.heap.size, o), (w.heap.size + 1, p)] ((w.alloc o).alloc p) := ⟨((Below.refl _ _).alloc (Nat.le_refl _) _).alloc (by simp) _, ⟨box21 w o p, box22 w o p, trivial⟩, by simp; omega⟩
theorem Bx.start3 (w : World) (o p q : Obj) : Bx w w.heap.size [(w.heap.size, o), (w.heap.size + 1, p), (w.heap.size + 2, q)] (((w.alloc o).alloc p).alloc q) :=
  ⟨(((Below.refl _ _).alloc (Nat.le_refl _) _).alloc (by simp) _).alloc (by simp; omega) _, ⟨box31 w o p q, box32 w o p q, box33 w o p q, trivial⟩, by simp; omega⟩
theorem Bx.drew {w W : World} {N : Nat} {l : List (Nat × Obj)} (h : Bx w N l W) : Bx w N l W.drew := ⟨bel_drew h.1, AllB.same (w := W) (w2 := W.drew) rfl h.2.1, h.2.2⟩
/-- A plain region whose operations are quiet in a class of worlds. -/
theorem wpList_of_quiet {P : Program} {ops : Array Oper} {C : World → Prop} {Q : Exit → Act → World → Prop} : ∀ {l : List Oper} {a : Act} {w : World}, C w → wpQuiet P ops C (fun a' => ∀ w', C w' → Q .normal a' w') l a → wpList P ops Q l a w
  | [], a, w, hC, h => h w hC
  | o :: rest, a, w, hC, h => by
    unfold wpList
    unfold wpQuiet at h
    split
    · rename_i hw
      rw [if_pos hw] at h
      exact .inl (Oper.wp_of_quiet hC (fun a' w' hw' hk => wpList_of_quiet hw' hk) h)
    · rename_i hw
      rw [if_neg hw] at h
      exact wpList_of_quiet hC h
theorem wpList_quiet {P : Program} {ops : Array Oper} {C : World → Prop} {Q : Exit → Act → World → Prop} {l : List Oper} {a : Act} {w : World} (n : Nat) (hn : l.length = n) (hC : C w) (h : wpQuiet P ops C (fun a' => ∀ w', C w' → Q .normal a' w') l a) : wpList P ops Q l a w := wpList_of_quiet hC h
theorem nq {x y : Bool} (h : x = y) : x = y := h

def errP (b : Bool) : Value := .int .i64 (if b then 0 else 21)
set_option maxRecDepth 100000 in
set_option maxHeartbeats 1600000 in
/-- Check, at a prefix whose length is of the right size. -/
theorem check_mid {w : World} {p : Pf} (hp : p.ok) (h0 : 0 ≤ p.n) (h1 : p.n ≤ 128) :
    Calls Tryz.prog 38 #[vPf p] w fun e w' => e = .returned (errP (chk p)) ∧ Below w.heap.size w w' := by
  have ha := hp.1
  have e1 : decide (p.n < 0) = false := by simp; omega
  have e2 : decide (128 < p.n) = false := by simp; omega
  have hc : chk p = decide (msk p.a p.n = p.a) := by simp [chk, h0, h1]
  have hne := fun W => neq_A W (isA_msk ha p.n) ha
  obtain ⟨b, hb⟩ : ∃ b : Bool, decide (msk p.a p.n = p.a) = b := ⟨_, rfl⟩
  rw [hb] at hc hne
  rw [hc]
  clear hc hb
  replace hp := Lib.hid hp
  replace ha := Lib.hid ha
  unfold vPf
  go_enter Tryz.func38, Tryz.ntmps38
  go_wp2_with fail
  refine wp_region_C (C := fun W => Below w.heap.size w W ∧ BoxP p w.heap.size W) (by kernel_rfl) (by kernel_rfl) (⟨bel_drew ((Below.refl _ _).alloc (Nat.le_refl _) _), heap_alloc_new w _⟩) ?_
  refine wpQuiet_hide ?_
  intro lq hlq
  refine wpQuiet_step_h hlq ?_
  clear hlq lq
  intro K lq hlq hK
  refine wanted_go (by rfl) ?_
  refine ⟨?_, fun W hW => ?_, ?_⟩
  rotate_left
  · obtain ⟨q1, q2, q3⟩ := hW.2.run ha.out
    go_simp
    with_reducible rfl
  refine hK _ ?_
  clear hK K
  (try simp only [Act.put, List.setIfInBounds_toArray, List.set_cons_zero, List.set_cons_succ])
  refine wpQuiet_step_h hlq ?_
  clear hlq lq
  intro K lq hlq hK
  refine wanted_go (by rfl) ?_
  refine ⟨?_, fun W hW => ?_, ?_⟩
  rotate_left
  · obtain ⟨q1, q2, q3⟩ := hW.2.run ha.out
    go_simp
    with_reducible rfl
  refine hK _ ?_
  clear hK K
  (try simp only [Act.put, List.setIfInBounds_toArray, List.set_cons_zero, List.set_cons_succ])
  refine wpQuiet_step_h hlq ?_
  clear hlq lq
  intro K lq hlq hK
  refine wanted_go (by rfl) ?_
  refine ⟨?_, fun W hW => ?_, ?_⟩
  rotate_left
  · obtain ⟨q1, q2, q3⟩ := hW.2.run ha.out
    go_simp
    with_reducible rfl
  refine hK _ ?_
  clear hK K
  (try simp only [Act.put, List.setIfInBounds_toArray, List.set_cons_zero, List.set_cons_succ])
  refine wpQuiet_step_h hlq ?_
  clear hlq lq
  intro K lq hlq hK
  refine wanted_go (by rfl) ?_
  refine ⟨?_, fun W hW => ?_, ?_⟩
  rotate_left
  · obtain ⟨q1, q2, q3⟩ := hW.2.run ha.out
    go_simp
    with_reducible rfl
  refine hK _ ?_
  clear hK K
  (try simp only [Act.put, List.setIfInBounds_toArray, List.set_cons_zero, List.set_cons_succ])
  refine wpQuiet_step_h hlq ?_
  clear hlq lq
  intro K lq hlq hK
  refine wanted_go (by rfl) ?_
  refine ⟨?_, fun W hW => ?_, ?_⟩
  rotate_left
  · obtain ⟨q1, q2, q3⟩ := hW.2.run ha.out
    go_simp
    with_reducible rfl
  refine hK _ ?_
  clear hK K
  (try simp only [Act.put, List.setIfInBounds_toArray, List.set_cons_zero, List.set_cons_succ])
  refine wpQuiet_step_h hlq ?_
  clear hlq lq
  intro K lq hlq hK
  refine wanted_go (by rfl) ?_
  refine ⟨?_, fun W hW => ?_, ?_⟩
  rotate_left
  · obtain ⟨q1, q2, q3⟩ := hW.2.run ha.out
    go_simp
    with_reducible rfl
  refine hK _ ?_
  clear hK K
  (try simp only [Act.put, List.setIfInBounds_toArray, List.set_cons_zero, List.set_cons_succ])
  refine wpQuiet_step_h hlq ?_
  clear hlq lq
  intro K lq hlq hK
  refine wanted_go (by rfl) ?_
  refine ⟨?_, fun W hW => ?_, ?_⟩
  rotate_left
  · obtain ⟨q1, q2, q3⟩ := hW.2.run ha.out
    go_simp
    with_reducible rfl
  refine hK _ ?_
  clear hK K
  (try simp only [Act.put, List.setIfInBounds_toArray, List.set_cons_zero, List.set_cons_succ])
  refine wpQuiet_step_h hlq ?_
  clear hlq lq
  intro K lq hlq hK
  refine wanted_go (by rfl) ?_
  refine ⟨?_, fun W hW => ?_, ?_⟩
  rotate_left
  · obtain ⟨q1, q2, q3⟩ := hW.2.run ha.out
    go_simp
    with_reducible rfl
  refine hK _ ?_
  clear hK K
  (try simp only [Act.put, List.setIfInBounds_toArray, List.set_cons_zero, List.set_cons_succ])
  refine wpQuiet_step_h hlq ?_
  clear hlq lq
  intro K lq hlq hK
  refine wanted_go (by rfl) ?_
  refine ⟨?_, fun W hW => ?_, ?_⟩
  rotate_left
  · obtain ⟨q1, q2, q3⟩ := hW.2.run ha.out
    go_simp
    with_reducible rfl
  refine hK _ ?_
  clear hK K
  (try simp only [Act.put, List.setIfInBounds_toArray, List.set_cons_zero, List.set_cons_succ])
  refine wpQuiet_step_h hlq ?_
  clear hlq lq
  intro K lq hlq hK
  refine wanted_go (by rfl) ?_
  refine ⟨?_, fun W hW => ?_, ?_⟩
  rotate_left
  · obtain ⟨q1, q2, q3⟩ := hW.2.run ha.out
    go_simp
    with_reducible rfl
  refine hK _ ?_
  clear hK K
  (try simp only [Act.put, List.setIfInBounds_toArray, List.set_cons_zero, List.set_cons_succ])
  refine wpQuiet_step_h hlq ?_
  clear hlq lq
  intro K lq hlq hK
  refine wanted_go (by rfl) ?_
  refine ⟨vA p.a, fun W hW => ?_, ?_⟩
  · obtain ⟨q1, q2, q3⟩ := hW.2.run ha.out
    exact quiet_load 42 _ rfl rfl q1
  refine hK _ ?_
  clear hK K
  (try simp only [Act.put, List.setIfInBounds_toArray, List.set_cons_zero, List.set_cons_succ])
  refine wpQuiet_step_h hlq ?_
  clear hlq lq
  intro K lq hlq hK
  refine wanted_go (by rfl) ?_
  refine ⟨?_, fun W hW => ?_, ?_⟩
  rotate_left
  · obtain ⟨q1, q2, q3⟩ := hW.2.run ha.out
    go_simp
    with_reducible rfl
  refine hK _ ?_
  clear hK K
  (try simp only [Act.put, List.setIfInBounds_toArray, List.set_cons_zero, List.set_cons_succ])
  refine wpQuiet_step_h hlq ?_
  clear hlq lq
  intro K lq hlq hK
  refine wanted_go (by rfl) ?_
  refine ⟨?_, fun W hW => ?_, ?_⟩
  rotate_left
  · obtain ⟨q1, q2, q3⟩ := hW.2.run ha.out
    go_simp
    with_reducible rfl
  refine hK _ ?_
  clear hK K
  (try simp only [Act.put, List.setIfInBounds_toArray, List.set_cons_zero, List.set_cons_succ])
  refine wpQuiet_step_h hlq ?_
  clear hlq lq
  intro K lq hlq hK
  refine wanted_go (by rfl) ?_
  refine ⟨vA (msk p.a p.n), fun W hW => ?_, ?_⟩
  · go_simp
    refine (masked_any ha.out p.n h0 h1).mono fun e W2 hc2 => ⟨hc2.1, hW.1.trans (hc2.2.mono hW.1.size), Below.box hW.2 hc2.2 (lt_of_obj hW.2)⟩
  refine hK _ ?_
  clear hK K
  (try simp only [Act.put, List.setIfInBounds_toArray, List.set_cons_zero, List.set_cons_succ])
  refine wpQuiet_step_h hlq ?_
  clear hlq lq
  intro K lq hlq hK
  refine wanted_go (by rfl) ?_
  refine ⟨?_, fun W hW => ?_, ?_⟩
  rotate_left
  · obtain ⟨q1, q2, q3⟩ := hW.2.run ha.out
    go_simp
    with_reducible rfl
  refine hK _ ?_
  clear hK K
  (try simp only [Act.put, List.setIfInBounds_toArray, List.set_cons_zero, List.set_cons_succ])
  refine wpQuiet_step_h hlq ?_
  clear hlq lq
  intro K lq hlq hK
  refine wanted_go (by rfl) ?_
  refine ⟨vA p.a, fun W hW => ?_, ?_⟩
  · obtain ⟨q1, q2, q3⟩ := hW.2.run ha.out
    exact quiet_load 42 _ rfl rfl q1
  refine hK _ ?_
  clear hK K
  (try simp only [Act.put, List.setIfInBounds_toArray, List.set_cons_zero, List.set_cons_succ])
  refine wpQuiet_step_h hlq ?_
  clear hlq lq
  intro K lq hlq hK
  refine wanted_go (by rfl) ?_
  refine ⟨.bool (!b), fun W hW => ?_, ?_⟩
  · obtain ⟨q1, q2, q3⟩ := hW.2.run ha.out
    exact quiet_eq (.inr rfl) (by rfl) (by rfl) (by rfl) guard42 (hne W)
  refine hK _ ?_
  clear hK K
  (try simp only [Act.put, List.setIfInBounds_toArray, List.set_cons_zero, List.set_cons_succ])
  refine wpQuiet_step_h hlq ?_
  clear hlq lq
  intro K lq hlq hK
  refine wanted_go (by rfl) ?_
  refine ⟨?_, fun W hW => ?_, ?_⟩
  rotate_left
  · obtain ⟨q1, q2, q3⟩ := hW.2.run ha.out
    go_simp
    with_reducible rfl
  refine hK _ ?_
  clear hK K
  (try simp only [Act.put, List.setIfInBounds_toArray, List.set_cons_zero, List.set_cons_succ])
  refine wpQuiet_nil_h hlq ?_
  clear hlq lq
  intro w' hC'
  cases b
  · go_wp2_with fail
    go_ret
    exact ⟨rfl, hC'.1⟩
  · go_wp2_with fail
    go_ret
    exact ⟨rfl, hC'.1⟩
set_option maxRecDepth 100000 in
set_option maxHeartbeats 1600000 in
theorem check_low {w : World} {p : Pf} (hp : p.ok) (h0 : p.n < 0) :
    Calls Tryz.prog 38 #[vPf p] w fun e w' => e = .returned (errP (chk p)) ∧ Below w.heap.size w w' := by
  have ha := hp.1
  have e1 : decide (p.n < 0) = true := by simp; omega
  have hc : chk p = false := by simp [chk]; omega
  rw [hc]
  clear hc
  replace hp := Lib.hid hp
  replace ha := Lib.hid ha
  unfold vPf
  go_enter Tryz.func38, Tryz.ntmps38
  go_wp2_with fail
  refine wp_region_C (C := fun W => Below w.heap.size w W ∧ BoxP p w.heap.size W) (by kernel_rfl) (by kernel_rfl) (⟨bel_drew ((Below.refl _ _).alloc (Nat.le_refl _) _), heap_alloc_new w _⟩) ?_
  refine wpQuiet_hide ?_
  intro lq hlq
  refine wpQuiet_step_h hlq ?_
  clear hlq lq
  intro K lq hlq hK
  refine wanted_go (by rfl) ?_
  refine ⟨?_, fun W hW => ?_, ?_⟩
  rotate_left
  · obtain ⟨q1, q2, q3⟩ := hW.2.run ha.out
    go_simp
    with_reducible rfl
  refine hK _ ?_
  clear hK K
  (try simp only [Act.put, List.setIfInBounds_toArray, List.set_cons_zero, List.set_cons_succ])
  refine wpQuiet_step_h hlq ?_
  clear hlq lq
  intro K lq hlq hK
  refine wanted_go (by rfl) ?_
  refine ⟨?_, fun W hW => ?_, ?_⟩
  rotate_left
  · obtain ⟨q1, q2, q3⟩ := hW.2.run ha.out
    go_simp
    with_reducible rfl
  refine hK _ ?_
  clear hK K
  (try simp only [Act.put, List.setIfInBounds_toArray, List.set_cons_zero, List.set_cons_succ])
  refine wpQuiet_step_h hlq ?_
  clear hlq lq
  intro K lq hlq hK
  refine wanted_go (by rfl) ?_
  refine ⟨?_, fun W hW => ?_, ?_⟩
  rotate_left
  · obtain ⟨q1, q2, q3⟩ := hW.2.run ha.out
    go_simp
    with_reducible rfl
  refine hK _ ?_
  clear hK K
  (try simp only [Act.put, List.setIfInBounds_toArray, List.set_cons_zero, List.set_cons_succ])
  refine wpQuiet_step_h hlq ?_
  clear hlq lq
  intro K lq hlq hK
  refine wanted_go (by rfl) ?_
  refine ⟨?_, fun W hW => ?_, ?_⟩
  rotate_left
  · obtain ⟨q1, q2, q3⟩ := hW.2.run ha.out
    go_simp
    with_reducible rfl
  refine hK _ ?_
  clear hK K
  (try simp only [Act.put, List.setIfInBounds_toArray, List.set_cons_zero, List.set_cons_succ])
  refine wpQuiet_step_h hlq ?_
  clear hlq lq
  intro K lq hlq hK
  go_simp
  refine hK _ ?_
  clear hK K
  refine wpQuiet_step_h hlq ?_
  clear hlq lq
  intro K lq hlq hK
  go_simp
  refine hK _ ?_
  clear hK K
  refine wpQuiet_step_h hlq ?_
  clear hlq lq
  intro K lq hlq hK
  go_simp
  refine hK _ ?_
  clear hK K
  refine wpQuiet_step_h hlq ?_
  clear hlq lq
  intro K lq hlq hK
  refine wanted_go (by rfl) ?_
  refine ⟨?_, fun W hW => ?_, ?_⟩
  rotate_left
  · obtain ⟨q1, q2, q3⟩ := hW.2.run ha.out
    go_simp
    with_reducible rfl
  refine hK _ ?_
  clear hK K
  (try simp only [Act.put, List.setIfInBounds_toArray, List.set_cons_zero, List.set_cons_succ])
  refine wpQuiet_step_h hlq ?_
  clear hlq lq
  intro K lq hlq hK
  refine wanted_go (by rfl) ?_
  refine ⟨?_, fun W hW => ?_, ?_⟩
  rotate_left
  · obtain ⟨q1, q2, q3⟩ := hW.2.run ha.out
    go_simp
    with_reducible rfl
  refine hK _ ?_
  clear hK K
  (try simp only [Act.put, List.setIfInBounds_toArray, List.set_cons_zero, List.set_cons_succ])
  refine wpQuiet_step_h hlq ?_
  clear hlq lq
  intro K lq hlq hK
  go_simp
  refine hK _ ?_
  clear hK K
  refine wpQuiet_step_h hlq ?_
  clear hlq lq
  intro K lq hlq hK
  go_simp
  refine hK _ ?_
  clear hK K
  refine wpQuiet_step_h hlq ?_
  clear hlq lq
  intro K lq hlq hK
  go_simp
  refine hK _ ?_
  clear hK K
  refine wpQuiet_step_h hlq ?_
  clear hlq lq
  intro K lq hlq hK
  go_simp
  refine hK _ ?_
  clear hK K
  refine wpQuiet_step_h hlq ?_
  clear hlq lq
  intro K lq hlq hK
  go_simp
  refine hK _ ?_
  clear hK K
  refine wpQuiet_step_h hlq ?_
  clear hlq lq
  intro K lq hlq hK
  go_simp
  refine hK _ ?_
  clear hK K
  refine wpQuiet_step_h hlq ?_
  clear hlq lq
  intro K lq hlq hK
  go_simp
  refine hK _ ?_
  clear hK K
  refine wpQuiet_step_h hlq ?_
  clear hlq lq
  intro K lq hlq hK
  go_simp
  refine hK _ ?_
  clear hK K
  refine wpQuiet_step_h hlq ?_
  clear hlq lq
  intro K lq hlq hK
  refine wanted_go (by rfl) ?_
  refine ⟨?_, fun W hW => ?_, ?_⟩
  rotate_left
  · obtain ⟨q1, q2, q3⟩ := hW.2.run ha.out
    go_simp
    with_reducible rfl
  refine hK _ ?_
  clear hK K
  (try simp only [Act.put, List.setIfInBounds_toArray, List.set_cons_zero, List.set_cons_succ])
  refine wpQuiet_nil_h hlq ?_
  clear hlq lq
  intro w' hC'
  go_wp2_with fail
  go_ret
  exact ⟨rfl, hC'.1⟩
set_option maxRecDepth 100000 in
set_option maxHeartbeats 1600000 in
theorem check_high {w : World} {p : Pf} (hp : p.ok) (h1 : 128 < p.n) :
    Calls Tryz.prog 38 #[vPf p] w fun e w' => e = .returned (errP (chk p)) ∧ Below w.heap.size w w' := by
  have ha := hp.1
  have e1 : decide (p.n < 0) = false := by simp; omega
  have e2 : decide (128 < p.n) = true := by simp; omega
  have hc : chk p = false := by simp [chk]; omega
  rw [hc]
  clear hc
  replace hp := Lib.hid hp
  replace ha := Lib.hid ha
  unfold vPf
  go_enter Tryz.func38, Tryz.ntmps38
  go_wp2_with fail
  refine wp_region_C (C := fun W => Below w.heap.size w W ∧ BoxP p w.heap.size W) (by kernel_rfl) (by kernel_rfl) (⟨bel_drew ((Below.refl _ _).alloc (Nat.le_refl _) _), heap_alloc_new w _⟩) ?_
  refine wpQuiet_hide ?_
  intro lq hlq
  refine wpQuiet_step_h hlq ?_
  clear hlq lq
  intro K lq hlq hK
  refine wanted_go (by rfl) ?_
  refine ⟨?_, fun W hW => ?_, ?_⟩
  rotate_left
  · obtain ⟨q1, q2, q3⟩ := hW.2.run ha.out
    go_simp
    with_reducible rfl
  refine hK _ ?_
  clear hK K
  (try simp only [Act.put, List.setIfInBounds_toArray, List.set_cons_zero, List.set_cons_succ])
  refine wpQuiet_step_h hlq ?_
  clear hlq lq
  intro K lq hlq hK
  refine wanted_go (by rfl) ?_
  refine ⟨?_, fun W hW => ?_, ?_⟩
  rotate_left
  · obtain ⟨q1, q2, q3⟩ := hW.2.run ha.out
    go_simp
    with_reducible rfl
  refine hK _ ?_
  clear hK K
  (try simp only [Act.put, List.setIfInBounds_toArray, List.set_cons_zero, List.set_cons_succ])
  refine wpQuiet_step_h hlq ?_
  clear hlq lq
  intro K lq hlq hK
  refine wanted_go (by rfl) ?_
  refine ⟨?_, fun W hW => ?_, ?_⟩
  rotate_left
  · obtain ⟨q1, q2, q3⟩ := hW.2.run ha.out
    go_simp
    with_reducible rfl
  refine hK _ ?_
  clear hK K
  (try simp only [Act.put, List.setIfInBounds_toArray, List.set_cons_zero, List.set_cons_succ])
  refine wpQuiet_step_h hlq ?_
  clear hlq lq
  intro K lq hlq hK
  refine wanted_go (by rfl) ?_
  refine ⟨?_, fun W hW => ?_, ?_⟩
  rotate_left
  · obtain ⟨q1, q2, q3⟩ := hW.2.run ha.out
    go_simp
    with_reducible rfl
  refine hK _ ?_
  clear hK K
  (try simp only [Act.put, List.setIfInBounds_toArray, List.set_cons_zero, List.set_cons_succ])
  refine wpQuiet_step_h hlq ?_
  clear hlq lq
  intro K lq hlq hK
  refine wanted_go (by rfl) ?_
  refine ⟨?_, fun W hW => ?_, ?_⟩
  rotate_left
  · obtain ⟨q1, q2, q3⟩ := hW.2.run ha.out
    go_simp
    with_reducible rfl
  refine hK _ ?_
  clear hK K
  (try simp only [Act.put, List.setIfInBounds_toArray, List.set_cons_zero, List.set_cons_succ])
  refine wpQuiet_step_h hlq ?_
  clear hlq lq
  intro K lq hlq hK
  refine wanted_go (by rfl) ?_
  refine ⟨?_, fun W hW => ?_, ?_⟩
  rotate_left
  · obtain ⟨q1, q2, q3⟩ := hW.2.run ha.out
    go_simp
    with_reducible rfl
  refine hK _ ?_
  clear hK K
  (try simp only [Act.put, List.setIfInBounds_toArray, List.set_cons_zero, List.set_cons_succ])
  refine wpQuiet_step_h hlq ?_
  clear hlq lq
  intro K lq hlq hK
  refine wanted_go (by rfl) ?_
  refine ⟨?_, fun W hW => ?_, ?_⟩
  rotate_left
  · obtain ⟨q1, q2, q3⟩ := hW.2.run ha.out
    go_simp
    with_reducible rfl
  refine hK _ ?_
  clear hK K
  (try simp only [Act.put, List.setIfInBounds_toArray, List.set_cons_zero, List.set_cons_succ])
  refine wpQuiet_step_h hlq ?_
  clear hlq lq
  intro K lq hlq hK
  refine wanted_go (by rfl) ?_
  refine ⟨?_, fun W hW => ?_, ?_⟩
  rotate_left
  · obtain ⟨q1, q2, q3⟩ := hW.2.run ha.out
    go_simp
    with_reducible rfl
  refine hK _ ?_
  clear hK K
  (try simp only [Act.put, List.setIfInBounds_toArray, List.set_cons_zero, List.set_cons_succ])
  refine wpQuiet_step_h hlq ?_
  clear hlq lq
  intro K lq hlq hK
  refine wanted_go (by rfl) ?_
  refine ⟨?_, fun W hW => ?_, ?_⟩
  rotate_left
  · obtain ⟨q1, q2, q3⟩ := hW.2.run ha.out
    go_simp
    with_reducible rfl
  refine hK _ ?_
  clear hK K
  (try simp only [Act.put, List.setIfInBounds_toArray, List.set_cons_zero, List.set_cons_succ])
  refine wpQuiet_step_h hlq ?_
  clear hlq lq
  intro K lq hlq hK
  go_simp
  refine hK _ ?_
  clear hK K
  refine wpQuiet_step_h hlq ?_
  clear hlq lq
  intro K lq hlq hK
  go_simp
  refine hK _ ?_
  clear hK K
  refine wpQuiet_step_h hlq ?_
  clear hlq lq
  intro K lq hlq hK
  go_simp
  refine hK _ ?_
  clear hK K
  refine wpQuiet_step_h hlq ?_
  clear hlq lq
  intro K lq hlq hK
  go_simp
  refine hK _ ?_
  clear hK K
  refine wpQuiet_step_h hlq ?_
  clear hlq lq
  intro K lq hlq hK
  go_simp
  refine hK _ ?_
  clear hK K
  refine wpQuiet_step_h hlq ?_
  clear hlq lq
  intro K lq hlq hK
  go_simp
  refine hK _ ?_
  clear hK K
  refine wpQuiet_step_h hlq ?_
  clear hlq lq
  intro K lq hlq hK
  go_simp
  refine hK _ ?_
  clear hK K
  refine wpQuiet_step_h hlq ?_
  clear hlq lq
  intro K lq hlq hK
  go_simp
  refine hK _ ?_
  clear hK K
  refine wpQuiet_step_h hlq ?_
  clear hlq lq
  intro K lq hlq hK
  refine wanted_go (by rfl) ?_
  refine ⟨?_, fun W hW => ?_, ?_⟩
  rotate_left
  · obtain ⟨q1, q2, q3⟩ := hW.2.run ha.out
    go_simp
    with_reducible rfl
  refine hK _ ?_
  clear hK K
  (try simp only [Act.put, List.setIfInBounds_toArray, List.set_cons_zero, List.set_cons_succ])
  refine wpQuiet_nil_h hlq ?_
  clear hlq lq
  intro w' hC'
  go_wp2_with fail
  go_ret
  exact ⟨rfl, hC'.1⟩
/-- Check. -/
theorem check_any {w : World} {p : Pf} (hp : p.ok) : Calls Tryz.prog 38 #[vPf p] w fun e w' => e = .returned (errP (chk p)) ∧ Below w.heap.size w w' := by
  by_cases h0 : p.n < 0
  · exact check_low hp h0
  · by_cases h1 : 128 < p.n
    · exact check_high hp h1
    · exact check_mid hp (by omega) (by omega)
set_option maxRecDepth 100000 in
set_option maxHeartbeats 1600000 in
/-- Contains. -/
theorem cont_any {w : World} {p : Pf} {a : List Int} (hp : p.ok) (ha : isA a) : Calls Tryz.prog 39 #[vPf p, vA a] w fun e w' => e = .returned (.bool (cont p a)) ∧ Below w.heap.size w w' := by
  obtain ⟨c, hc⟩ : ∃ c, chk p = c := ⟨_, rfl⟩
  cases c
  · have hr : cont p a = false := by simp [cont, hc]
    rw [hr]
    clear hr
    replace hp := Lib.hid hp
    replace ha := Lib.hid ha
    unfold vPf vA
    go_enter Tryz.func39, Tryz.ntmps39
    go_wp2_with fail
    refine wp_region_C (C := Bx w w.heap.size [(w.heap.size, oP p), (w.heap.size + 1, oA a)]) (by kernel_rfl) (by kernel_rfl) (Bx.drew (Bx.start2 w (oP p) (oA a))) ?_
    refine wpQuiet_hide ?_
    intro lq hlq
    refine wpQuiet_step_h hlq ?_
    clear hlq lq
    intro K lq hlq hK
    refine wanted_go (by rfl) ?_
    refine ⟨vPf p, fun W hW => ?_, ?_⟩
    · obtain ⟨q1, q2, q3⟩ := BoxP.run hW.2.1.1 hp.out.1; have q4 := BoxA.run hW.2.1.2.1 ha.out
      exact quiet_load 55 _ rfl rfl q3
    refine hK _ ?_
    clear hK K
    (try simp only [Act.put, List.setIfInBounds_toArray, List.set_cons_zero, List.set_cons_succ])
    refine wpQuiet_step_h hlq ?_
    clear hlq lq
    intro K lq hlq hK
    refine wanted_go (by rfl) ?_
    refine ⟨.int .i64 21, fun W hW => ?_, ?_⟩
    · go_simp
      refine (check_any hp.out).mono fun e W2 hc2 => ⟨by rw [hc2.1, hc]; rfl, hW.go hc2.2⟩
    refine hK _ ?_
    clear hK K
    (try simp only [Act.put, List.setIfInBounds_toArray, List.set_cons_zero, List.set_cons_succ])
    refine wpQuiet_step_h hlq ?_
    clear hlq lq
    intro K lq hlq hK
    refine wanted_go (by rfl) ?_
    refine ⟨?_, fun W hW => ?_, ?_⟩
    rotate_left
    · obtain ⟨q1, q2, q3⟩ := BoxP.run hW.2.1.1 hp.out.1; have q4 := BoxA.run hW.2.1.2.1 ha.out
      go_simp
      with_reducible rfl
    refine hK _ ?_
    clear hK K
    (try simp only [Act.put, List.setIfInBounds_toArray, List.set_cons_zero, List.set_cons_succ])
    refine wpQuiet_step_h hlq ?_
    clear hlq lq
    intro K lq hlq hK
    refine wanted_go (by rfl) ?_
    refine ⟨?_, fun W hW => ?_, ?_⟩
    rotate_left
    · obtain ⟨q1, q2, q3⟩ := BoxP.run hW.2.1.1 hp.out.1; have q4 := BoxA.run hW.2.1.2.1 ha.out
      go_simp
      with_reducible rfl
    refine hK _ ?_
    clear hK K
    (try simp only [Act.put, List.setIfInBounds_toArray, List.set_cons_zero, List.set_cons_succ])
    refine wpQuiet_step_h hlq ?_
    clear hlq lq
    intro K lq hlq hK
    go_simp
    refine hK _ ?_
    clear hK K
    refine wpQuiet_step_h hlq ?_
    clear hlq lq
    intro K lq hlq hK
    go_simp
    refine hK _ ?_
    clear hK K
    refine wpQuiet_step_h hlq ?_
    clear hlq lq
    intro K lq hlq hK
    go_simp
    refine hK _ ?_
    clear hK K
    refine wpQuiet_step_h hlq ?_
    clear hlq lq
    intro K lq hlq hK
    go_simp
    refine hK _ ?_
    clear hK K
    refine wpQuiet_step_h hlq ?_
    clear hlq lq
    intro K lq hlq hK
    go_simp
    refine hK _ ?_
    clear hK K
    refine wpQuiet_step_h hlq ?_
    clear hlq lq
    intro K lq hlq hK
    go_simp
    refine hK _ ?_
    clear hK K
    refine wpQuiet_step_h hlq ?_
    clear hlq lq
    intro K lq hlq hK
    go_simp
    refine hK _ ?_
    clear hK K
    refine wpQuiet_step_h hlq ?_
    clear hlq lq
    intro K lq hlq hK
    refine wanted_go (by rfl) ?_
    refine ⟨?_, fun W hW => ?_, ?_⟩
    rotate_left
    · obtain ⟨q1, q2, q3⟩ := BoxP.run hW.2.1.1 hp.out.1; have q4 := BoxA.run hW.2.1.2.1 ha.out
      go_simp
      with_reducible rfl
    refine hK _ ?_
    clear hK K
    (try simp only [Act.put, List.setIfInBounds_toArray, List.set_cons_zero, List.set_cons_succ])
    refine wpQuiet_step_h hlq ?_
    clear hlq lq
    intro K lq hlq hK
    refine wanted_go (by rfl) ?_
    refine ⟨?_, fun W hW => ?_, ?_⟩
    rotate_left
    · obtain ⟨q1, q2, q3⟩ := BoxP.run hW.2.1.1 hp.out.1; have q4 := BoxA.run hW.2.1.2.1 ha.out
      go_simp
      with_reducible rfl
    refine hK _ ?_
    clear hK K
    (try simp only [Act.put, List.setIfInBounds_toArray, List.set_cons_zero, List.set_cons_succ])
    refine wpQuiet_nil_h hlq ?_
    clear hlq lq
    intro w' hC'
    go_wp2_with fail
    go_ret
    exact ⟨rfl, hC'.1⟩
  · obtain ⟨h0, h1, h2⟩ := (chk_iff p).1 hc
    have hne := fun W => eql_A W (isA_msk ha p.n) hp.1
    obtain ⟨b, hb⟩ : ∃ b : Bool, decide (msk a p.n = p.a) = b := ⟨_, rfl⟩
    have hr : cont p a = b := by simp [cont, hc, hb]
    rw [hb] at hne
    rw [hr]
    clear hr hb h2
    replace hp := Lib.hid hp
    replace ha := Lib.hid ha
    unfold vPf vA
    go_enter Tryz.func39, Tryz.ntmps39
    go_wp2_with fail
    refine wp_region_C (C := Bx w w.heap.size [(w.heap.size, oP p), (w.heap.size + 1, oA a)]) (by kernel_rfl) (by kernel_rfl) (Bx.drew (Bx.start2 w (oP p) (oA a))) ?_
    refine wpQuiet_hide ?_
    intro lq hlq
    refine wpQuiet_step_h hlq ?_
    clear hlq lq
    intro K lq hlq hK
    refine wanted_go (by rfl) ?_
    refine ⟨vPf p, fun W hW => ?_, ?_⟩
    · obtain ⟨q1, q2, q3⟩ := BoxP.run hW.2.1.1 hp.out.1; have q4 := BoxA.run hW.2.1.2.1 ha.out
      exact quiet_load 55 _ rfl rfl q3
    refine hK _ ?_
    clear hK K
    (try simp only [Act.put, List.setIfInBounds_toArray, List.set_cons_zero, List.set_cons_succ])
    refine wpQuiet_step_h hlq ?_
    clear hlq lq
    intro K lq hlq hK
    refine wanted_go (by rfl) ?_
    refine ⟨.int .i64 0, fun W hW => ?_, ?_⟩
    · go_simp
      refine (check_any hp.out).mono fun e W2 hc2 => ⟨by rw [hc2.1, hc]; rfl, hW.go hc2.2⟩
    refine hK _ ?_
    clear hK K
    (try simp only [Act.put, List.setIfInBounds_toArray, List.set_cons_zero, List.set_cons_succ])
    refine wpQuiet_step_h hlq ?_
    clear hlq lq
    intro K lq hlq hK
    refine wanted_go (by rfl) ?_
    refine ⟨?_, fun W hW => ?_, ?_⟩
    rotate_left
    · obtain ⟨q1, q2, q3⟩ := BoxP.run hW.2.1.1 hp.out.1; have q4 := BoxA.run hW.2.1.2.1 ha.out
      go_simp
      with_reducible rfl
    refine hK _ ?_
    clear hK K
    (try simp only [Act.put, List.setIfInBounds_toArray, List.set_cons_zero, List.set_cons_succ])
    refine wpQuiet_step_h hlq ?_
    clear hlq lq
    intro K lq hlq hK
    refine wanted_go (by rfl) ?_
    refine ⟨?_, fun W hW => ?_, ?_⟩
    rotate_left
    · obtain ⟨q1, q2, q3⟩ := BoxP.run hW.2.1.1 hp.out.1; have q4 := BoxA.run hW.2.1.2.1 ha.out
      go_simp
      with_reducible rfl
    refine hK _ ?_
    clear hK K
    (try simp only [Act.put, List.setIfInBounds_toArray, List.set_cons_zero, List.set_cons_succ])
    refine wpQuiet_step_h hlq ?_
    clear hlq lq
    intro K lq hlq hK
    refine wanted_go (by rfl) ?_
    refine ⟨vA a, fun W hW => ?_, ?_⟩
    · obtain ⟨q1, q2, q3⟩ := BoxP.run hW.2.1.1 hp.out.1; have q4 := BoxA.run hW.2.1.2.1 ha.out
      exact quiet_load 42 _ rfl rfl q4
    refine hK _ ?_
    clear hK K
    (try simp only [Act.put, List.setIfInBounds_toArray, List.set_cons_zero, List.set_cons_succ])
    refine wpQuiet_step_h hlq ?_
    clear hlq lq
    intro K lq hlq hK
    refine wanted_go (by rfl) ?_
    refine ⟨?_, fun W hW => ?_, ?_⟩
    rotate_left
    · obtain ⟨q1, q2, q3⟩ := BoxP.run hW.2.1.1 hp.out.1; have q4 := BoxA.run hW.2.1.2.1 ha.out
      go_simp
      with_reducible rfl
    refine hK _ ?_
    clear hK K
    (try simp only [Act.put, List.setIfInBounds_toArray, List.set_cons_zero, List.set_cons_succ])
    refine wpQuiet_step_h hlq ?_
    clear hlq lq
    intro K lq hlq hK
    refine wanted_go (by rfl) ?_
    refine ⟨?_, fun W hW => ?_, ?_⟩
    rotate_left
    · obtain ⟨q1, q2, q3⟩ := BoxP.run hW.2.1.1 hp.out.1; have q4 := BoxA.run hW.2.1.2.1 ha.out
      go_simp
      with_reducible rfl
    refine hK _ ?_
    clear hK K
    (try simp only [Act.put, List.setIfInBounds_toArray, List.set_cons_zero, List.set_cons_succ])
    refine wpQuiet_step_h hlq ?_
    clear hlq lq
    intro K lq hlq hK
    refine wanted_go (by rfl) ?_
    refine ⟨vA (msk a p.n), fun W hW => ?_, ?_⟩
    · go_simp
      refine (masked_any ha.out p.n h0 h1).mono fun e W2 hc2 => ⟨hc2.1, hW.go hc2.2⟩
    refine hK _ ?_
    clear hK K
    (try simp only [Act.put, List.setIfInBounds_toArray, List.set_cons_zero, List.set_cons_succ])
    refine wpQuiet_step_h hlq ?_
    clear hlq lq
    intro K lq hlq hK
    refine wanted_go (by rfl) ?_
    refine ⟨?_, fun W hW => ?_, ?_⟩
    rotate_left
    · obtain ⟨q1, q2, q3⟩ := BoxP.run hW.2.1.1 hp.out.1; have q4 := BoxA.run hW.2.1.2.1 ha.out
      go_simp
      with_reducible rfl
    refine hK _ ?_
    clear hK K
    (try simp only [Act.put, List.setIfInBounds_toArray, List.set_cons_zero, List.set_cons_succ])
    refine wpQuiet_step_h hlq ?_
    clear hlq lq
    intro K lq hlq hK
    refine wanted_go (by rfl) ?_
    refine ⟨vA p.a, fun W hW => ?_, ?_⟩
    · obtain ⟨q1, q2, q3⟩ := BoxP.run hW.2.1.1 hp.out.1; have q4 := BoxA.run hW.2.1.2.1 ha.out
      exact quiet_load 42 _ rfl rfl q1
    refine hK _ ?_
    clear hK K
    (try simp only [Act.put, List.setIfInBounds_toArray, List.set_cons_zero, List.set_cons_succ])
    refine wpQuiet_step_h hlq ?_
    clear hlq lq
    intro K lq hlq hK
    refine wanted_go (by rfl) ?_
    refine ⟨.bool b, fun W hW => ?_, ?_⟩
    · obtain ⟨q1, q2, q3⟩ := BoxP.run hW.2.1.1 hp.out.1; have q4 := BoxA.run hW.2.1.2.1 ha.out
      exact quiet_eq (.inl rfl) (by rfl) (by rfl) (by rfl) guard42 (hne W)
    refine hK _ ?_
    clear hK K
    (try simp only [Act.put, List.setIfInBounds_toArray, List.set_cons_zero, List.set_cons_succ])
    refine wpQuiet_step_h hlq ?_
    clear hlq lq
    intro K lq hlq hK
    refine wanted_go (by rfl) ?_
    refine ⟨?_, fun W hW => ?_, ?_⟩
    rotate_left
    · obtain ⟨q1, q2, q3⟩ := BoxP.run hW.2.1.1 hp.out.1; have q4 := BoxA.run hW.2.1.2.1 ha.out
      go_simp
      with_reducible rfl
    refine hK _ ?_
    clear hK K
    (try simp only [Act.put, List.setIfInBounds_toArray, List.set_cons_zero, List.set_cons_succ])
    refine wpQuiet_step_h hlq ?_
    clear hlq lq
    intro K lq hlq hK
    refine wanted_go (by rfl) ?_
    refine ⟨?_, fun W hW => ?_, ?_⟩
    rotate_left
    · obtain ⟨q1, q2, q3⟩ := BoxP.run hW.2.1.1 hp.out.1; have q4 := BoxA.run hW.2.1.2.1 ha.out
      go_simp
      with_reducible rfl
    refine hK _ ?_
    clear hK K
    (try simp only [Act.put, List.setIfInBounds_toArray, List.set_cons_zero, List.set_cons_succ])
    refine wpQuiet_nil_h hlq ?_
    clear hlq lq
    intro w' hC'
    cases b
    · go_wp2_with fail
      go_ret
      exact ⟨rfl, hC'.1⟩
    · go_wp2_with fail
      go_ret
      exact ⟨rfl, hC'.1⟩
end Go.Proofs.YtnljjlaececnkaaGreatDoor
