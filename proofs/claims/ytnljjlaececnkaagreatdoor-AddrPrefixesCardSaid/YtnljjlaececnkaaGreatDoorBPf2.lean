/-
  Merged texts (G), part 2 of 8. Conditions: each part's own, told at its head.
-/
import Derived.Test.YtnljjlaececnkaaGreatDoorBPf1
import Derived.Lib.BufferWrite
/-
  The prefix of all addresses; the prefix of an address's first bits. Condition: an address is sixteen bytes, a length a machine's number.
-/
namespace Go.Proofs.YtnljjlaececnkaaGreatDoor
open Go.RowKit
set_option linter.unusedVariables false
set_option linter.unusedSimpArgs false
theorem setRow_new (w : World) (old cs : Array Value) (t : TypeId) : (w.alloc (.cells old t)).setRow w.heap.size cs = w.alloc (.cells cs t) := by
  have h : ((w.heap.push (.cells old t)).modify w.heap.size fun | .cells _ elem frozen => .cells cs elem frozen | o => o) = w.heap.push (.cells cs t) := by
    apply Array.ext_getElem?
    intro k
    rw [Array.getElem?_modify, Array.getElem?_push, Array.getElem?_push]
    by_cases hk : w.heap.size = k
    · rw [if_pos hk, if_pos hk.symm, if_pos hk.symm]; rfl
    · rw [if_neg hk, if_neg (fun e => hk e.symm), if_neg (fun e => hk e.symm)]
  unfold World.setRow World.alloc
  congr 1
theorem wpList_run {P : Program} {ops : Array Oper} {rest : List Oper} {o : Oper} {a : Act} {w w' : World} {Q : Exit → Act → World → Prop} {v : Value} (hgd : o.guard = none) (h : (execOp a.eval o).run P w = .ok (.value v) w') (hK : wpList P ops Q rest (a.put o.dst v) w') : wpList P ops Q (o :: rest) a w :=
  wpList_plain hgd fun K hK' => by unfold Oper.wp; rw [h]; exact hK' _ _ hK
/-- A store into what was just laid. -/
theorem wpList_store_new {P : Program} {ops : Array Oper} {rest : List Oper} {o : Oper} {a : Act} {w : World} {Q : Exit → Act → World → Prop} (hgd : o.guard = none) (ty : TypeId) (x y : Operand) (ho : o.op = .store ty x y)
    {cells old : Array Value} {t : TypeId} (hx : a.eval x = .pointer (some ⟨w.heap.size, 0, none⟩)) (hy : a.eval y = .agg cells) (hi : (P.info? ty).map (·.size) = some cells.size) (hold : old.size = cells.size) (h1 : cells.all (·.oneCell') = true)
    (h : wpList P ops Q rest (a.put o.dst undef) (w.alloc (.cells cells t))) : wpList P ops Q (o :: rest) a (w.alloc (.cells old t)) := by
  refine wpList_store_row hgd ty x y ho w.heap.size cells hx hy t old (heap_alloc_new w _) hi hold h1 ?_
  rw [setRow_new]; exact h
theorem results_cell_tmp {P : Program} {fn : Func} {p q : Tmp} {ty : TypeId} (h : fn.results = #[.cell p ty, .tmp q]) (tmps : Array Value) (w : World) {v : Value} {ad : Addr}
    (hp : tmps.getD p undef = .pointer (some ad)) (hl : (loadVar ty ad).run P w = .ok v w) {u : Value} (hq : tmps.getD q undef = u) : (results fn tmps).run P w = .ok (.tuple #[v, u]) w := by
  have hp' : tmps[p]?.getD undef = .pointer (some ad) := by simpa using hp
  have hq' : tmps[q]?.getD undef = u := by simpa using hq
  simp [results, h, hp', hq', asAddr, hl]
theorem results_cell_only {P : Program} {fn : Func} {p : Tmp} {ty : TypeId} (h : fn.results = #[.cell p ty]) (tmps : Array Value) (w : World) {v : Value} {ad : Addr}
    (hp : tmps.getD p undef = .pointer (some ad)) (hl : (loadVar ty ad).run P w = .ok v w) : (results fn tmps).run P w = .ok v w := by
  have hp' : tmps[p]?.getD undef = .pointer (some ad) := by simpa using hp
  simp [results, h, hp', asAddr, hl]
theorem pCs_one (a : List Int) (n : Int) : (pCs a n).toArray.all (·.oneCell') = true := all_oneCell_toArray (by
  intro u hu
  rcases List.mem_append.1 hu with h | h
  · exact nums_one _ _ u h
  · rw [List.mem_singleton.1 h]; rfl)
theorem pCs_size {a : List Int} (ha : isA a) (n : Int) : (pCs a n).toArray.size = 17 := pCs_len ha n
theorem zeroA_ok : isA zeroA := ⟨rfl, by decide⟩
theorem mapA_ok : isA (mapd ++ [0, 0, 0, 0]) := ⟨rfl, by decide⟩
theorem info55 {a : List Int} (ha : isA a) (n : Int) : (Tryz.prog.info? 55).map (·.size) = some (pCs a n).toArray.size := by rw [pCs_size ha]; exact size55
theorem shared_any {w : World} (f : Int) : Calls Tryz.prog 122 #[.int .i64 f] w fun e w' => e = .returned (.int .i64 (offOf f)) ∧ w' = w := by
  obtain ⟨b, hb⟩ : ∃ b, (f == 4) = b := ⟨_, rfl⟩
  have hr : offOf f = if b then 96 else 0 := by unfold offOf; rw [← hb]; simp
  rw [hr]
  go_enter Tryz.func122, Tryz.ntmps122
  cases b
  · go_wp2_with fail
    go_ret
    exact ⟨rfl, rfl⟩
  · go_wp2_with fail
    go_ret
    exact ⟨rfl, rfl⟩
theorem any_cells : (pCs zeroA 96).toArray.toList.take 0 ++ Lib.byteCells [0, 0, 0, 0, 0, 0, 0, 0, 0, 0, 255, 255] ++ (pCs zeroA 96).toArray.toList.drop 12 = pCs (mapd ++ [0, 0, 0, 0]) 96 := by rfl
set_option maxRecDepth 100000 in
set_option maxHeartbeats 800000 in
theorem any_any {w : World} (f : Int) : Calls Tryz.prog 55 #[.int .i64 f] w fun e w' => e = .returned (vPf (anyP f)) ∧ Below w.heap.size w w' := by
  obtain ⟨b, hb⟩ : ∃ b, (f == 4) = b := ⟨_, rfl⟩
  cases b
  · have hf : f ≠ 4 := by simpa using hb
    have h0 : offOf f = 0 := if_neg hf
    have hr : anyP f = zeroP := if_neg hf
    rw [hr]
    clear hr
    replace hf := Lib.hid hf
    go_enter Tryz.func55, Tryz.ntmps55
    go_wp2_with (refine wpList_quiet_take (C := Bx w w.heap.size [(w.heap.size, oP zeroP)]) 4 2 (by rfl) (Bx.start1 w (oP zeroP)) ?_)
    (try simp only [List.take_succ_cons, List.take_zero, List.drop_succ_cons, List.drop_zero])
    refine wpQuiet_hide ?_
    intro lq hlq
    refine wpQuiet_step_h hlq ?_
    clear hlq lq
    intro K lq hlq hK
    refine wanted_go (by rfl) ?_
    refine ⟨.int .i64 0, fun W hW => ?_, ?_⟩
    · go_simp
      refine (shared_any f).mono fun e W2 hc2 => ⟨by rw [hc2.1, h0], by rw [hc2.2]; exact hW⟩
    refine hK _ ?_
    clear hK K
    (try simp only [Act.put, List.setIfInBounds_toArray, List.set_cons_zero, List.set_cons_succ])
    refine wpQuiet_step_h hlq ?_
    clear hlq lq
    intro K lq hlq hK
    refine wanted_go (by rfl) ?_
    refine ⟨.agg (pCs zeroA 0).toArray, fun W hW => ?_, ?_⟩
    · skip
      go_simp
      rfl
    refine hK _ ?_
    clear hK K
    (try simp only [Act.put, List.setIfInBounds_toArray, List.set_cons_zero, List.set_cons_succ])
    refine wpQuiet_nil_h hlq ?_
    clear hlq lq
    intro W1 h1
    have h2 := h1.go ((Below.refl W1.heap.size W1).alloc (Nat.le_refl _) (oP zeroP))
    have hb2 := Lib.hid h2.2.1.1
    have bel := h2.1
    have hb3 := Lib.hid (box1 W1 (oP zeroP))
    clear h2
    go_wp2_with (first
      | (refine wpList_store_new rfl 55 (.tmp 3) (.tmp 6) rfl rfl rfl (info55 zeroA_ok _) (by rw [pCs_size zeroA_ok]; rfl) (pCs_one _ _) ?_)
      | (refine wpList_load_mid rfl 55 (.tmp 3) rfl W1.heap.size 0 rfl (pCs zeroA 0) _ (row_load hb3.out) Tryz.underlying55 rfl (info55 zeroA_ok _) ?_)
      | (refine wpList_store_row rfl 55 (.tmp 2) (.tmp 12) rfl w.heap.size _ rfl rfl 55 (pCs zeroA 0).toArray hb2.out (info55 zeroA_ok _) rfl (pCs_one _ _) ?_))
    refine bodyPost_ret (v := vPf (zeroP)) ?_ rfl ⟨rfl, below_row bel (Nat.le_refl _) _⟩
    exact results_cell_only rfl _ _ rfl (BoxP.run (p := zeroP) (setRow_heap _ _ _ _ _ _ hb2.out) zeroA_ok).2.2
  · obtain rfl : f = 4 := by simpa using hb
    go_enter Tryz.func55, Tryz.ntmps55
    go_wp2_with (refine wpList_quiet_take (C := Bx w w.heap.size [(w.heap.size, oP zeroP)]) 4 2 (by rfl) (Bx.start1 w (oP zeroP)) ?_)
    (try simp only [List.take_succ_cons, List.take_zero, List.drop_succ_cons, List.drop_zero])
    refine wpQuiet_hide ?_
    intro lq hlq
    refine wpQuiet_step_h hlq ?_
    clear hlq lq
    intro K lq hlq hK
    refine wanted_go (by rfl) ?_
    refine ⟨.int .i64 96, fun W hW => ?_, ?_⟩
    · go_simp
      refine (shared_any 4).mono fun e W2 hc2 => ⟨hc2.1, by rw [hc2.2]; exact hW⟩
    refine hK _ ?_
    clear hK K
    (try simp only [Act.put, List.setIfInBounds_toArray, List.set_cons_zero, List.set_cons_succ])
    refine wpQuiet_step_h hlq ?_
    clear hlq lq
    intro K lq hlq hK
    refine wanted_go (by rfl) ?_
    refine ⟨.agg (pCs zeroA 96).toArray, fun W hW => ?_, ?_⟩
    · skip
      go_simp
      rfl
    refine hK _ ?_
    clear hK K
    (try simp only [Act.put, List.setIfInBounds_toArray, List.set_cons_zero, List.set_cons_succ])
    refine wpQuiet_nil_h hlq ?_
    clear hlq lq
    intro W1 h1
    have h2 := h1.go ((Below.refl W1.heap.size W1).alloc (Nat.le_refl _) (oP (anyP 4)))
    have hb2 := Lib.hid h2.2.1.1
    have bel := h2.1
    have hb3 := Lib.hid (box1 W1 (oP (anyP 4)))
    clear h2
    have hcp : (Builtin.copy_ #[150, 9] 3 #[.slice (some ⟨W1.heap.size, 0, none⟩) 16 16, .string { data := #[0, 0, 0, 0, 0, 0, 0, 0, 0, 0, 255, 255] }]).run Tryz.prog (W1.alloc (.cells (pCs zeroA 96).toArray 55)) = .ok (.int .i64 12) (W1.alloc (.cells (pCs (mapd ++ [0, 0, 0, 0]) 96).toArray 55)) := by
      rw [Lib.run_copy_row_string _ 150 9 3 5 W1.heap.size 0 16 16 _ _ 55 Tryz.underlying150 (by kernel_rfl) (box1 W1 (.cells (pCs zeroA 96).toArray 55)) (by decide) (by decide)]
      rw [setRow_new]; rfl
    go_wp2_with (first
      | (refine wpList_store_new rfl 55 (.tmp 3) (.tmp 6) rfl rfl rfl (info55 zeroA_ok _) (by rw [pCs_size zeroA_ok]; rfl) (pCs_one _ _) ?_)
      | (refine wpList_load_mid rfl 55 (.tmp 3) rfl W1.heap.size 0 rfl (pCs (mapd ++ [0, 0, 0, 0]) 96) _ (row_load hb3.out) Tryz.underlying55 rfl (info55 mapA_ok _) ?_)
      | (refine wpList_store_row rfl 55 (.tmp 2) (.tmp 12) rfl w.heap.size _ rfl rfl 55 (pCs zeroA 0).toArray hb2.out (info55 mapA_ok _) (by rw [pCs_size zeroA_ok, pCs_size mapA_ok]) (pCs_one _ _) ?_))
    refine bodyPost_ret (v := vPf (anyP 4)) ?_ rfl ⟨rfl, below_row bel (Nat.le_refl _) _⟩
    exact results_cell_only rfl _ _ rfl (BoxP.run (p := anyP 4) (setRow_heap _ _ _ _ _ _ hb2.out) mapA_ok).2.2
end Go.Proofs.YtnljjlaececnkaaGreatDoor
