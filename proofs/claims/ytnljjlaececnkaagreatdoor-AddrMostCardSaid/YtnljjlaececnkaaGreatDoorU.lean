/-
  ParsePrefix, where there is a prefix. Condition: the variables hold what their initialisers laid; a text is no longer than memory has room for.
-/
import Derived.Test.YtnljjlaececnkaaGreatDoorT
namespace Go.Proofs.YtnljjlaececnkaaGreatDoor
open Go.RowKit
set_option linter.unusedVariables false
set_option linter.unusedSimpArgs false
theorem quiet_build2 {P : Program} {C : World → Prop} {o : Oper} {a : Act} {w : World} {t : TypeId} {i j : Nat} {x y : Operand} {vx vy : Value} (ho : o.op = .build t #[(i, x), (j, y)]) (hx : a.eval x = vx) (hy : a.eval y = vy) {cells : Array Value} (h : P.built t [(i, vx), (j, vy)] = some cells) : Oper.quietAt P o a C w (.agg cells) := by
  have hr := run_build w t #[(i, vx), (j, vy)] cells h
  unfold Oper.quietAt execOp
  simp only [ho, List.map_toArray, List.map_cons, List.map_nil, hx, hy, Sem.run_bind, hr, Sem.run_pure, Result.andThen_ok]
  exact ⟨rfl, rfl⟩
set_option maxRecDepth 100000 in
set_option maxHeartbeats 1600000 in
theorem pp_qy {w : World} (E : Env w) {s : ByteArray} (hs : s.size < 4294967281) {L R : ByteArray} {g : Bool} (hL : L.size ≤ s.size) (hR : R.size ≤ s.size) (hcut : ∀ {w : World}, Env w → Calls Tryz.prog 123 #[.string s, .string ⟨#[47]⟩] w fun e w' => e = .returned (.tuple #[.string L, .string R, .bool g]) ∧ Below w.heap.size w w') {n : Int} (hd : decS R 3 = some n) {a : List Int} (ok : isA a) (hq : okA (quadS L) = a ∧ (quadS L).isSome = true) (hpok : (⟨a, 96 + n⟩ : Pf).ok) (hres : parsePS s = (⟨a, 96 + n⟩, 0)) (hk : chk ⟨a, 96 + n⟩ = true) : Calls Tryz.prog 56 #[.string s] w fun e w' => PPR s e ∧ Below w.heap.size w w' := by
  have B0 := Bx.start1 w (oP zeroP)
  have E0 := (E.go B0.1).2
  replace hres := Lib.hid hres
  have hb := i64_of_wf hpok.2
  have hn := decS_rng hd
  have hwr : IntKind.i64.wrap (96 + n) = 96 + n := IntWalk.i64_in _ (by omega)
  go_enter Tryz.func56, Tryz.ntmps56
  go_wp2_with (first
    | (go_at_call 123; refine (hcut E0).mono ?_; rintro e w1 ⟨rfl, bel⟩; have E1 := (E0.go bel).2; have B1 := B0.go bel; clear bel)
    | (go_at_call 124; refine (dec_is E1 (by omega) hd).mono ?_; rintro e w2 ⟨rfl, bel⟩; have E2 := (E1.go bel).2; have B2 := B1.go bel; clear bel)
    | (go_at_call 101; refine (quad_is E2 (by omega) hq).mono ?_; rintro e w3 ⟨rfl, bel⟩; have E3 := (E2.go bel).2; have LT3 := lt_of_obj (B2.go bel).2.1.1; have B3 := (B2.go bel).alloc (oA a); have E4 := (E3.go ((Below.refl w3.heap.size w3).alloc (Nat.le_refl _) (oA a))).2; clear bel)
    | (refine wpList_store_new rfl 42 (.tmp 10) (.tmp 28) rfl rfl rfl (info42 ok) (by rw [sizeA ok] <;> rfl) (numsA_one _) ?_)
    | (refine wpList_quiet_take (C := Bx w w.heap.size [(w3.heap.size, oA a), (w.heap.size, oP zeroP)]) 7 5 (by rfl) B3 ?_))
  (try simp only [List.take_succ_cons, List.take_zero, List.drop_succ_cons, List.drop_zero])
  refine wpQuiet_hide ?_
  intro lq hlq
  refine wpQuiet_step_h hlq ?_
  clear hlq lq
  intro K lq hlq hK
  refine wanted_go (by rfl) ?_
  refine ⟨vA a, fun W hW => ?_, ?_⟩
  · have q := BoxA.run hW.2.1.1 ok
    exact quiet_load 42 _ rfl rfl q
  refine hK _ ?_
  clear hK K
  (try simp only [Act.put, List.setIfInBounds_toArray, List.set_cons_zero, List.set_cons_succ])
  refine wpQuiet_step_h hlq ?_
  clear hlq lq
  intro K lq hlq hK
  refine wanted_go (by rfl) ?_
  refine ⟨?_, fun W hW => ?_, ?_⟩
  rotate_left
  · have q := BoxA.run hW.2.1.1 ok
    go_simp
    with_reducible rfl
  refine hK _ ?_
  clear hK K
  (try simp only [Act.put, List.setIfInBounds_toArray, List.set_cons_zero, List.set_cons_succ])
  refine wpQuiet_step_h hlq ?_
  clear hlq lq
  intro K lq hlq hK
  refine wanted_go (by rfl) ?_
  refine ⟨?_, fun W hW => ?_, ?_⟩
  rotate_left
  · have q := BoxA.run hW.2.1.1 ok
    go_simp
    with_reducible rfl
  refine hK _ ?_
  clear hK K
  (try simp only [Act.put, List.setIfInBounds_toArray, List.set_cons_zero, List.set_cons_succ])
  refine wpQuiet_step_h hlq ?_
  clear hlq lq
  intro K lq hlq hK
  refine wanted_go (by rfl) ?_
  refine ⟨?_, fun W hW => ?_, ?_⟩
  rotate_left
  · have q := BoxA.run hW.2.1.1 ok
    go_simp
    with_reducible rfl
  refine hK _ ?_
  clear hK K
  (try simp only [Act.put, List.setIfInBounds_toArray, List.set_cons_zero, List.set_cons_succ])
  refine wpQuiet_step_h hlq ?_
  clear hlq lq
  intro K lq hlq hK
  refine wanted_go (by rfl) ?_
  refine ⟨.agg (pCs a (96 + n)).toArray, fun W hW => ?_, ?_⟩
  · have q := BoxA.run hW.2.1.1 ok
    exact quiet_build2 (x := .tmp 44) (y := .tmp 47) (vx := .agg (nums .u8 a).toArray) (vy := .int .i64 (96 + n)) rfl rfl rfl (built55 (a := a) (n := 96 + n) ok)
  refine hK _ ?_
  clear hK K
  (try simp only [Act.put, List.setIfInBounds_toArray, List.set_cons_zero, List.set_cons_succ])
  refine wpQuiet_nil_h hlq ?_
  clear hlq lq
  intro W5 B7
  have BP := B7.alloc (oP ⟨a, 96 + n⟩)
  go_wp2_with (first
    | (refine wpList_store_new rfl 55 (.tmp 12) (.tmp 48) rfl rfl rfl (info55 ok _) (by rw [pCs_size ok] <;> rfl) (pCs_one _ _) ?_)
    | (refine wpList_load_mid rfl 55 (.tmp 12) rfl W5.heap.size 0 rfl (pCs a (96 + n)) _ (row_load BP.2.1.1) Tryz.underlying55 rfl (info55 ok _) ?_)
    | (go_at_call 38; refine (check_yes hpok hk).mono ?_; clear hk; rintro e w6 ⟨rfl, bel⟩; have B6 := BP.go bel; clear bel)
    | (refine wpList_load_mid rfl 55 (.tmp 12) rfl (W5.heap.size) 0 rfl (pCs a (96 + n)) _ (row_load B6.2.1.1) Tryz.underlying55 rfl (info55 ok _) ?_)
    | (refine wpList_store_row rfl 55 (.tmp 2) (.tmp 55) rfl w.heap.size _ rfl rfl 55 (pCs zeroA 0).toArray B6.2.1.2.2.1 (info55 ok _) (by rw [pCs_size zeroA_ok, pCs_size ok]) (pCs_one _ _) ?_))
  refine bodyPost_ret (v := .tuple #[vPf ⟨a, 96 + n⟩, .int .i64 0]) ?_ rfl ⟨by unfold PPR; rw [hres.out] <;> rfl, below_row B6.1 (Nat.le_refl _) _⟩
  exact results_cell_tmp rfl _ _ rfl (BoxP.run (p := ⟨a, 96 + n⟩) (setRow_heap _ _ _ _ _ _ B6.2.1.2.2.1) ok).2.2 rfl
set_option maxRecDepth 100000 in
set_option maxHeartbeats 1600000 in
theorem pp_qn {w : World} (E : Env w) {s : ByteArray} (hs : s.size < 4294967281) {L R : ByteArray} {g : Bool} (hL : L.size ≤ s.size) (hR : R.size ≤ s.size) (hcut : ∀ {w : World}, Env w → Calls Tryz.prog 123 #[.string s, .string ⟨#[47]⟩] w fun e w' => e = .returned (.tuple #[.string L, .string R, .bool g]) ∧ Below w.heap.size w w') {n : Int} (hd : decS R 3 = some n) {a : List Int} (ok : isA a) (hq : okA (quadS L) = a ∧ (quadS L).isSome = true) (hpok : (⟨a, 96 + n⟩ : Pf).ok) (hres : parsePS s = (zeroP, 21)) (hk : chk ⟨a, 96 + n⟩ = false) : Calls Tryz.prog 56 #[.string s] w fun e w' => PPR s e ∧ Below w.heap.size w w' := by
  have B0 := Bx.start1 w (oP zeroP)
  have E0 := (E.go B0.1).2
  replace hres := Lib.hid hres
  have hb := i64_of_wf hpok.2
  have hn := decS_rng hd
  have hwr : IntKind.i64.wrap (96 + n) = 96 + n := IntWalk.i64_in _ (by omega)
  go_enter Tryz.func56, Tryz.ntmps56
  go_wp2_with (first
    | (go_at_call 123; refine (hcut E0).mono ?_; rintro e w1 ⟨rfl, bel⟩; have E1 := (E0.go bel).2; have B1 := B0.go bel; clear bel)
    | (go_at_call 124; refine (dec_is E1 (by omega) hd).mono ?_; rintro e w2 ⟨rfl, bel⟩; have E2 := (E1.go bel).2; have B2 := B1.go bel; clear bel)
    | (go_at_call 101; refine (quad_is E2 (by omega) hq).mono ?_; rintro e w3 ⟨rfl, bel⟩; have E3 := (E2.go bel).2; have LT3 := lt_of_obj (B2.go bel).2.1.1; have B3 := (B2.go bel).alloc (oA a); have E4 := (E3.go ((Below.refl w3.heap.size w3).alloc (Nat.le_refl _) (oA a))).2; clear bel)
    | (refine wpList_store_new rfl 42 (.tmp 10) (.tmp 28) rfl rfl rfl (info42 ok) (by rw [sizeA ok] <;> rfl) (numsA_one _) ?_)
    | (refine wpList_quiet_take (C := Bx w w.heap.size [(w3.heap.size, oA a), (w.heap.size, oP zeroP)]) 7 5 (by rfl) B3 ?_))
  (try simp only [List.take_succ_cons, List.take_zero, List.drop_succ_cons, List.drop_zero])
  refine wpQuiet_hide ?_
  intro lq hlq
  refine wpQuiet_step_h hlq ?_
  clear hlq lq
  intro K lq hlq hK
  refine wanted_go (by rfl) ?_
  refine ⟨vA a, fun W hW => ?_, ?_⟩
  · have q := BoxA.run hW.2.1.1 ok
    exact quiet_load 42 _ rfl rfl q
  refine hK _ ?_
  clear hK K
  (try simp only [Act.put, List.setIfInBounds_toArray, List.set_cons_zero, List.set_cons_succ])
  refine wpQuiet_step_h hlq ?_
  clear hlq lq
  intro K lq hlq hK
  refine wanted_go (by rfl) ?_
  refine ⟨?_, fun W hW => ?_, ?_⟩
  rotate_left
  · have q := BoxA.run hW.2.1.1 ok
    go_simp
    with_reducible rfl
  refine hK _ ?_
  clear hK K
  (try simp only [Act.put, List.setIfInBounds_toArray, List.set_cons_zero, List.set_cons_succ])
  refine wpQuiet_step_h hlq ?_
  clear hlq lq
  intro K lq hlq hK
  refine wanted_go (by rfl) ?_
  refine ⟨?_, fun W hW => ?_, ?_⟩
  rotate_left
  · have q := BoxA.run hW.2.1.1 ok
    go_simp
    with_reducible rfl
  refine hK _ ?_
  clear hK K
  (try simp only [Act.put, List.setIfInBounds_toArray, List.set_cons_zero, List.set_cons_succ])
  refine wpQuiet_step_h hlq ?_
  clear hlq lq
  intro K lq hlq hK
  refine wanted_go (by rfl) ?_
  refine ⟨?_, fun W hW => ?_, ?_⟩
  rotate_left
  · have q := BoxA.run hW.2.1.1 ok
    go_simp
    with_reducible rfl
  refine hK _ ?_
  clear hK K
  (try simp only [Act.put, List.setIfInBounds_toArray, List.set_cons_zero, List.set_cons_succ])
  refine wpQuiet_step_h hlq ?_
  clear hlq lq
  intro K lq hlq hK
  refine wanted_go (by rfl) ?_
  refine ⟨.agg (pCs a (96 + n)).toArray, fun W hW => ?_, ?_⟩
  · have q := BoxA.run hW.2.1.1 ok
    exact quiet_build2 (x := .tmp 44) (y := .tmp 47) (vx := .agg (nums .u8 a).toArray) (vy := .int .i64 (96 + n)) rfl rfl rfl (built55 (a := a) (n := 96 + n) ok)
  refine hK _ ?_
  clear hK K
  (try simp only [Act.put, List.setIfInBounds_toArray, List.set_cons_zero, List.set_cons_succ])
  refine wpQuiet_nil_h hlq ?_
  clear hlq lq
  intro W5 B7
  have BP := B7.alloc (oP ⟨a, 96 + n⟩)
  go_wp2_with (first
    | (refine wpList_store_new rfl 55 (.tmp 12) (.tmp 48) rfl rfl rfl (info55 ok _) (by rw [pCs_size ok] <;> rfl) (pCs_one _ _) ?_)
    | (refine wpList_load_mid rfl 55 (.tmp 12) rfl W5.heap.size 0 rfl (pCs a (96 + n)) _ (row_load BP.2.1.1) Tryz.underlying55 rfl (info55 ok _) ?_)
    | (go_at_call 38; refine (check_nope hpok hk).mono ?_; clear hk; rintro e w6 ⟨rfl, bel⟩; have B6 := BP.go bel; clear bel)
    | (refine wpList_store_row rfl 55 (.tmp 2) (.tmp 53) rfl w.heap.size (pCs zeroA 0).toArray rfl rfl 55 (pCs zeroA 0).toArray B6.2.1.2.2.1 (info55 zeroA_ok _) rfl (pCs_one _ _) ?_))
  refine bodyPost_ret (v := .tuple #[vPf zeroP, .int .i64 21]) ?_ rfl ⟨by unfold PPR; rw [hres.out] <;> rfl, below_row B6.1 (Nat.le_refl _) _⟩
  exact results_cell_tmp rfl _ _ rfl (BoxP.run (p := zeroP) (setRow_heap _ _ _ _ _ _ B6.2.1.2.2.1) zeroA_ok).2.2 rfl
set_option maxRecDepth 100000 in
set_option maxHeartbeats 1600000 in
theorem pp_cy {w : World} (E : Env w) {s : ByteArray} (hs : s.size < 4294967281) {L R : ByteArray} {g : Bool} (hL : L.size ≤ s.size) (hR : R.size ≤ s.size) (hcut : ∀ {w : World}, Env w → Calls Tryz.prog 123 #[.string s, .string ⟨#[47]⟩] w fun e w' => e = .returned (.tuple #[.string L, .string R, .bool g]) ∧ Below w.heap.size w w') {n : Int} (hd : decS R 3 = some n) (hq : okA (quadS L) = zeroA ∧ (quadS L).isSome = false) {a : List Int} (ok : isA a) (hcol : okA (colS L) = a ∧ (colS L).isSome = true) (hpok : (⟨a, n⟩ : Pf).ok) (hres : parsePS s = (⟨a, n⟩, 0)) (hk : chk ⟨a, n⟩ = true) : Calls Tryz.prog 56 #[.string s] w fun e w' => PPR s e ∧ Below w.heap.size w w' := by
  have B0 := Bx.start1 w (oP zeroP)
  have E0 := (E.go B0.1).2
  replace hres := Lib.hid hres
  have hb := i64_of_wf hpok.2
  have hn := decS_rng hd
  have hwr : IntKind.i64.wrap (n) = n := IntWalk.i64_in _ (by omega)
  go_enter Tryz.func56, Tryz.ntmps56
  go_wp2_with (first
    | (go_at_call 123; refine (hcut E0).mono ?_; rintro e w1 ⟨rfl, bel⟩; have E1 := (E0.go bel).2; have B1 := B0.go bel; clear bel)
    | (go_at_call 124; refine (dec_is E1 (by omega) hd).mono ?_; rintro e w2 ⟨rfl, bel⟩; have E2 := (E1.go bel).2; have B2 := B1.go bel; clear bel)
    | (go_at_call 101; refine (quad_is E2 (by omega) hq).mono ?_; rintro e w3 ⟨rfl, bel⟩; have E3 := (E2.go bel).2; have LT3 := lt_of_obj (B2.go bel).2.1.1; have B3 := (B2.go bel).alloc (oA zeroA); have E4 := (E3.go ((Below.refl w3.heap.size w3).alloc (Nat.le_refl _) (oA zeroA))).2; clear bel)
    | (refine wpList_store_new rfl 42 (.tmp 10) (.tmp 28) rfl rfl rfl (info42 zeroA_ok) (by rw [sizeA zeroA_ok] <;> rfl) (numsA_one _) ?_)
    | (go_at_call 102; refine (col_is E4 (by omega) hcol).mono ?_; rintro e w4 ⟨rfl, bel⟩; have B4 := B3.go bel; have B5 := B4.set1 (nums .u8 a).toArray (Nat.le_of_lt LT3) (by intro x hx; simp at hx; subst hx; exact Nat.ne_of_lt LT3); clear bel)
    | (refine wpList_store_row rfl 42 (.tmp 10) (.tmp 35) rfl w3.heap.size _ rfl rfl 42 (nums .u8 zeroA).toArray B4.2.1.1 (info42 ok) (by rw [sizeA zeroA_ok, sizeA ok]) (numsA_one _) ?_)
    | (refine wpList_quiet_take (C := Bx w w.heap.size [(w3.heap.size, oA a), (w.heap.size, oP zeroP)]) 7 5 (by rfl) B5 ?_))
  (try simp only [List.take_succ_cons, List.take_zero, List.drop_succ_cons, List.drop_zero])
  refine wpQuiet_hide ?_
  intro lq hlq
  refine wpQuiet_step_h hlq ?_
  clear hlq lq
  intro K lq hlq hK
  refine wanted_go (by rfl) ?_
  refine ⟨vA a, fun W hW => ?_, ?_⟩
  · have q := BoxA.run hW.2.1.1 ok
    exact quiet_load 42 _ rfl rfl q
  refine hK _ ?_
  clear hK K
  (try simp only [Act.put, List.setIfInBounds_toArray, List.set_cons_zero, List.set_cons_succ])
  refine wpQuiet_step_h hlq ?_
  clear hlq lq
  intro K lq hlq hK
  refine wanted_go (by rfl) ?_
  refine ⟨?_, fun W hW => ?_, ?_⟩
  rotate_left
  · have q := BoxA.run hW.2.1.1 ok
    go_simp
    with_reducible rfl
  refine hK _ ?_
  clear hK K
  (try simp only [Act.put, List.setIfInBounds_toArray, List.set_cons_zero, List.set_cons_succ])
  refine wpQuiet_step_h hlq ?_
  clear hlq lq
  intro K lq hlq hK
  refine wanted_go (by rfl) ?_
  refine ⟨?_, fun W hW => ?_, ?_⟩
  rotate_left
  · have q := BoxA.run hW.2.1.1 ok
    go_simp
    with_reducible rfl
  refine hK _ ?_
  clear hK K
  (try simp only [Act.put, List.setIfInBounds_toArray, List.set_cons_zero, List.set_cons_succ])
  refine wpQuiet_step_h hlq ?_
  clear hlq lq
  intro K lq hlq hK
  refine wanted_go (by rfl) ?_
  refine ⟨?_, fun W hW => ?_, ?_⟩
  rotate_left
  · have q := BoxA.run hW.2.1.1 ok
    go_simp
    with_reducible rfl
  refine hK _ ?_
  clear hK K
  (try simp only [Act.put, List.setIfInBounds_toArray, List.set_cons_zero, List.set_cons_succ])
  refine wpQuiet_step_h hlq ?_
  clear hlq lq
  intro K lq hlq hK
  refine wanted_go (by rfl) ?_
  refine ⟨.agg (pCs a (n)).toArray, fun W hW => ?_, ?_⟩
  · have q := BoxA.run hW.2.1.1 ok
    exact quiet_build2 (x := .tmp 44) (y := .tmp 47) (vx := .agg (nums .u8 a).toArray) (vy := .int .i64 (n)) rfl rfl rfl (built55 (a := a) (n := n) ok)
  refine hK _ ?_
  clear hK K
  (try simp only [Act.put, List.setIfInBounds_toArray, List.set_cons_zero, List.set_cons_succ])
  refine wpQuiet_nil_h hlq ?_
  clear hlq lq
  intro W5 B7
  have BP := B7.alloc (oP ⟨a, n⟩)
  go_wp2_with (first
    | (refine wpList_store_new rfl 55 (.tmp 12) (.tmp 48) rfl rfl rfl (info55 ok _) (by rw [pCs_size ok] <;> rfl) (pCs_one _ _) ?_)
    | (refine wpList_load_mid rfl 55 (.tmp 12) rfl W5.heap.size 0 rfl (pCs a (n)) _ (row_load BP.2.1.1) Tryz.underlying55 rfl (info55 ok _) ?_)
    | (go_at_call 38; refine (check_yes hpok hk).mono ?_; clear hk; rintro e w6 ⟨rfl, bel⟩; have B6 := BP.go bel; clear bel)
    | (refine wpList_load_mid rfl 55 (.tmp 12) rfl (W5.heap.size) 0 rfl (pCs a (n)) _ (row_load B6.2.1.1) Tryz.underlying55 rfl (info55 ok _) ?_)
    | (refine wpList_store_row rfl 55 (.tmp 2) (.tmp 55) rfl w.heap.size _ rfl rfl 55 (pCs zeroA 0).toArray B6.2.1.2.2.1 (info55 ok _) (by rw [pCs_size zeroA_ok, pCs_size ok]) (pCs_one _ _) ?_))
  refine bodyPost_ret (v := .tuple #[vPf ⟨a, n⟩, .int .i64 0]) ?_ rfl ⟨by unfold PPR; rw [hres.out] <;> rfl, below_row B6.1 (Nat.le_refl _) _⟩
  exact results_cell_tmp rfl _ _ rfl (BoxP.run (p := ⟨a, n⟩) (setRow_heap _ _ _ _ _ _ B6.2.1.2.2.1) ok).2.2 rfl
set_option maxRecDepth 100000 in
set_option maxHeartbeats 1600000 in
theorem pp_cn {w : World} (E : Env w) {s : ByteArray} (hs : s.size < 4294967281) {L R : ByteArray} {g : Bool} (hL : L.size ≤ s.size) (hR : R.size ≤ s.size) (hcut : ∀ {w : World}, Env w → Calls Tryz.prog 123 #[.string s, .string ⟨#[47]⟩] w fun e w' => e = .returned (.tuple #[.string L, .string R, .bool g]) ∧ Below w.heap.size w w') {n : Int} (hd : decS R 3 = some n) (hq : okA (quadS L) = zeroA ∧ (quadS L).isSome = false) {a : List Int} (ok : isA a) (hcol : okA (colS L) = a ∧ (colS L).isSome = true) (hpok : (⟨a, n⟩ : Pf).ok) (hres : parsePS s = (zeroP, 21)) (hk : chk ⟨a, n⟩ = false) : Calls Tryz.prog 56 #[.string s] w fun e w' => PPR s e ∧ Below w.heap.size w w' := by
  have B0 := Bx.start1 w (oP zeroP)
  have E0 := (E.go B0.1).2
  replace hres := Lib.hid hres
  have hb := i64_of_wf hpok.2
  have hn := decS_rng hd
  have hwr : IntKind.i64.wrap (n) = n := IntWalk.i64_in _ (by omega)
  go_enter Tryz.func56, Tryz.ntmps56
  go_wp2_with (first
    | (go_at_call 123; refine (hcut E0).mono ?_; rintro e w1 ⟨rfl, bel⟩; have E1 := (E0.go bel).2; have B1 := B0.go bel; clear bel)
    | (go_at_call 124; refine (dec_is E1 (by omega) hd).mono ?_; rintro e w2 ⟨rfl, bel⟩; have E2 := (E1.go bel).2; have B2 := B1.go bel; clear bel)
    | (go_at_call 101; refine (quad_is E2 (by omega) hq).mono ?_; rintro e w3 ⟨rfl, bel⟩; have E3 := (E2.go bel).2; have LT3 := lt_of_obj (B2.go bel).2.1.1; have B3 := (B2.go bel).alloc (oA zeroA); have E4 := (E3.go ((Below.refl w3.heap.size w3).alloc (Nat.le_refl _) (oA zeroA))).2; clear bel)
    | (refine wpList_store_new rfl 42 (.tmp 10) (.tmp 28) rfl rfl rfl (info42 zeroA_ok) (by rw [sizeA zeroA_ok] <;> rfl) (numsA_one _) ?_)
    | (go_at_call 102; refine (col_is E4 (by omega) hcol).mono ?_; rintro e w4 ⟨rfl, bel⟩; have B4 := B3.go bel; have B5 := B4.set1 (nums .u8 a).toArray (Nat.le_of_lt LT3) (by intro x hx; simp at hx; subst hx; exact Nat.ne_of_lt LT3); clear bel)
    | (refine wpList_store_row rfl 42 (.tmp 10) (.tmp 35) rfl w3.heap.size _ rfl rfl 42 (nums .u8 zeroA).toArray B4.2.1.1 (info42 ok) (by rw [sizeA zeroA_ok, sizeA ok]) (numsA_one _) ?_)
    | (refine wpList_quiet_take (C := Bx w w.heap.size [(w3.heap.size, oA a), (w.heap.size, oP zeroP)]) 7 5 (by rfl) B5 ?_))
  (try simp only [List.take_succ_cons, List.take_zero, List.drop_succ_cons, List.drop_zero])
  refine wpQuiet_hide ?_
  intro lq hlq
  refine wpQuiet_step_h hlq ?_
  clear hlq lq
  intro K lq hlq hK
  refine wanted_go (by rfl) ?_
  refine ⟨vA a, fun W hW => ?_, ?_⟩
  · have q := BoxA.run hW.2.1.1 ok
    exact quiet_load 42 _ rfl rfl q
  refine hK _ ?_
  clear hK K
  (try simp only [Act.put, List.setIfInBounds_toArray, List.set_cons_zero, List.set_cons_succ])
  refine wpQuiet_step_h hlq ?_
  clear hlq lq
  intro K lq hlq hK
  refine wanted_go (by rfl) ?_
  refine ⟨?_, fun W hW => ?_, ?_⟩
  rotate_left
  · have q := BoxA.run hW.2.1.1 ok
    go_simp
    with_reducible rfl
  refine hK _ ?_
  clear hK K
  (try simp only [Act.put, List.setIfInBounds_toArray, List.set_cons_zero, List.set_cons_succ])
  refine wpQuiet_step_h hlq ?_
  clear hlq lq
  intro K lq hlq hK
  refine wanted_go (by rfl) ?_
  refine ⟨?_, fun W hW => ?_, ?_⟩
  rotate_left
  · have q := BoxA.run hW.2.1.1 ok
    go_simp
    with_reducible rfl
  refine hK _ ?_
  clear hK K
  (try simp only [Act.put, List.setIfInBounds_toArray, List.set_cons_zero, List.set_cons_succ])
  refine wpQuiet_step_h hlq ?_
  clear hlq lq
  intro K lq hlq hK
  refine wanted_go (by rfl) ?_
  refine ⟨?_, fun W hW => ?_, ?_⟩
  rotate_left
  · have q := BoxA.run hW.2.1.1 ok
    go_simp
    with_reducible rfl
  refine hK _ ?_
  clear hK K
  (try simp only [Act.put, List.setIfInBounds_toArray, List.set_cons_zero, List.set_cons_succ])
  refine wpQuiet_step_h hlq ?_
  clear hlq lq
  intro K lq hlq hK
  refine wanted_go (by rfl) ?_
  refine ⟨.agg (pCs a (n)).toArray, fun W hW => ?_, ?_⟩
  · have q := BoxA.run hW.2.1.1 ok
    exact quiet_build2 (x := .tmp 44) (y := .tmp 47) (vx := .agg (nums .u8 a).toArray) (vy := .int .i64 (n)) rfl rfl rfl (built55 (a := a) (n := n) ok)
  refine hK _ ?_
  clear hK K
  (try simp only [Act.put, List.setIfInBounds_toArray, List.set_cons_zero, List.set_cons_succ])
  refine wpQuiet_nil_h hlq ?_
  clear hlq lq
  intro W5 B7
  have BP := B7.alloc (oP ⟨a, n⟩)
  go_wp2_with (first
    | (refine wpList_store_new rfl 55 (.tmp 12) (.tmp 48) rfl rfl rfl (info55 ok _) (by rw [pCs_size ok] <;> rfl) (pCs_one _ _) ?_)
    | (refine wpList_load_mid rfl 55 (.tmp 12) rfl W5.heap.size 0 rfl (pCs a (n)) _ (row_load BP.2.1.1) Tryz.underlying55 rfl (info55 ok _) ?_)
    | (go_at_call 38; refine (check_nope hpok hk).mono ?_; clear hk; rintro e w6 ⟨rfl, bel⟩; have B6 := BP.go bel; clear bel)
    | (refine wpList_store_row rfl 55 (.tmp 2) (.tmp 53) rfl w.heap.size (pCs zeroA 0).toArray rfl rfl 55 (pCs zeroA 0).toArray B6.2.1.2.2.1 (info55 zeroA_ok _) rfl (pCs_one _ _) ?_))
  refine bodyPost_ret (v := .tuple #[vPf zeroP, .int .i64 21]) ?_ rfl ⟨by unfold PPR; rw [hres.out] <;> rfl, below_row B6.1 (Nat.le_refl _) _⟩
  exact results_cell_tmp rfl _ _ rfl (BoxP.run (p := zeroP) (setRow_heap _ _ _ _ _ _ B6.2.1.2.2.1) zeroA_ok).2.2 rfl
theorem raw_none {s : ByteArray} {l r : List UInt8} {g : Bool} (h : Lib.cut s.data.toList slashB.data.toList = (l, r, g)) (hd : decS ⟨r.toArray⟩ 3 = none) : parsePS s = (zeroP, 20) := by
  unfold parsePS rawS
  rw [h]
  simp only [hd]
theorem raw_no {s : ByteArray} {l r : List UInt8} {g : Bool} {n : Int} (h : Lib.cut s.data.toList slashB.data.toList = (l, r, g)) (hd : decS ⟨r.toArray⟩ 3 = some n) (hq : quadS ⟨l.toArray⟩ = none) (hc : colS ⟨l.toArray⟩ = none) : parsePS s = (zeroP, 20) := by
  unfold parsePS rawS
  rw [h]
  simp only [hd, hq, hc]
theorem raw_q {s : ByteArray} {l r : List UInt8} {g : Bool} {n : Int} {a : List Int} (h : Lib.cut s.data.toList slashB.data.toList = (l, r, g)) (hd : decS ⟨r.toArray⟩ 3 = some n) (hq : quadS ⟨l.toArray⟩ = some a) : parsePS s = if chk ⟨a, 96 + n⟩ then (⟨a, 96 + n⟩, 0) else (zeroP, 21) := by
  unfold parsePS rawS
  rw [h]
  simp only [hd, hq]
theorem raw_c {s : ByteArray} {l r : List UInt8} {g : Bool} {n : Int} {a : List Int} (h : Lib.cut s.data.toList slashB.data.toList = (l, r, g)) (hd : decS ⟨r.toArray⟩ 3 = some n) (hq : quadS ⟨l.toArray⟩ = none) (hc : colS ⟨l.toArray⟩ = some a) : parsePS s = if chk ⟨a, n⟩ then (⟨a, n⟩, 0) else (zeroP, 21) := by
  unfold parsePS rawS
  rw [h]
  simp only [hd, hq, hc]
theorem cut_lens' {s sep : ByteArray} {l r : List UInt8} {gap : Bool} (h : Lib.cut s.data.toList sep.data.toList = (l, r, gap)) : l.length ≤ s.size ∧ r.length ≤ s.size := by
  have hl : s.data.toList.length = s.size := Array.length_toList
  unfold Lib.cut at h
  split at h
  · cases h
    exact ⟨by rw [List.length_take]; omega, by rw [List.length_drop]; omega⟩
  · cases h
    exact ⟨by omega, Nat.zero_le _⟩
/-- ParsePrefix. -/
theorem pp_any {w : World} (E : Env w) {s : ByteArray} (hs : s.size < 4294967281) : Calls Tryz.prog 56 #[.string s] w fun e w' => PPR s e ∧ Below w.heap.size w w' := by
  obtain ⟨l, r, g, hcut⟩ : ∃ l r g, Lib.cut s.data.toList slashB.data.toList = (l, r, g) := ⟨_, _, _, rfl⟩
  obtain ⟨hl, hr⟩ := cut_lens' hcut
  have hL : (⟨l.toArray⟩ : ByteArray).size ≤ s.size := by show l.toArray.size ≤ _; simpa using hl
  have hR : (⟨r.toArray⟩ : ByteArray).size ≤ s.size := by show r.toArray.size ≤ _; simpa using hr
  have hc := fun {w : World} (E : Env w) => cut_any (sep := slashB) E hs hcut
  cases hd : decS ⟨r.toArray⟩ 3 with
  | none =>
    have hres := raw_none hcut hd
    cases hq : quadS ⟨l.toArray⟩ with
    | some a => exact pp_dq E hs hL hR hc hres hd (quadS_ok hq) (by rw [hq]; exact ⟨rfl, rfl⟩)
    | none =>
      cases hco : colS ⟨l.toArray⟩ with
      | some a => exact pp_dc E hs hL hR hc hres hd (by rw [hq]; exact ⟨rfl, rfl⟩) (colS_ok hco) (by rw [hco]; exact ⟨rfl, rfl⟩)
      | none => exact pp_dn E hs hL hR hc hres hd (by rw [hq]; exact ⟨rfl, rfl⟩) (by rw [hco]; exact ⟨rfl, rfl⟩)
  | some n =>
    obtain ⟨n0, n1⟩ := decS_rng hd
    cases hq : quadS ⟨l.toArray⟩ with
    | some a =>
      have hres := raw_q hcut hd hq
      have hp : (⟨a, 96 + n⟩ : Pf).ok := ⟨quadS_ok hq, wf_i64 (x := 96 + n) (by omega)⟩
      cases hk : chk ⟨a, 96 + n⟩ with
      | true => rw [hk] at hres; exact pp_qy E hs hL hR hc hd (quadS_ok hq) (by rw [hq]; exact ⟨rfl, rfl⟩) hp hres hk
      | false => rw [hk] at hres; exact pp_qn E hs hL hR hc hd (quadS_ok hq) (by rw [hq]; exact ⟨rfl, rfl⟩) hp hres hk
    | none =>
      cases hco : colS ⟨l.toArray⟩ with
      | none => exact pp_n E hs hL hR hc (raw_no hcut hd hq hco) hd (by rw [hq]; exact ⟨rfl, rfl⟩) (by rw [hco]; exact ⟨rfl, rfl⟩)
      | some a =>
        have hres := raw_c hcut hd hq hco
        have hp : (⟨a, n⟩ : Pf).ok := ⟨colS_ok hco, wf_i64 (x := n) (by omega)⟩
        cases hk : chk ⟨a, n⟩ with
        | true => rw [hk] at hres; exact pp_cy E hs hL hR hc hd (by rw [hq]; exact ⟨rfl, rfl⟩) (colS_ok hco) (by rw [hco]; exact ⟨rfl, rfl⟩) hp hres hk
        | false => rw [hk] at hres; exact pp_cn E hs hL hR hc hd (by rw [hq]; exact ⟨rfl, rfl⟩) (colS_ok hco) (by rw [hco]; exact ⟨rfl, rfl⟩) hp hres hk
end Go.Proofs.YtnljjlaececnkaaGreatDoor
