/-
  Merged texts (KAddrBack), part 1 of 1. Conditions: each part's own, told at its head.
-/
import Derived.Test.YtnljjlaececnkaaGreatDoorBBase1
import Derived.Test.YtnljjlaececnkaaGreatDoorBBase2
import Derived.Test.YtnljjlaececnkaaGreatDoorBBase3
import Derived.Test.YtnljjlaececnkaaGreatDoorBBase4
import Derived.Test.YtnljjlaececnkaaGreatDoorBBase5
import Derived.Test.YtnljjlaececnkaaGreatDoorBBase6
/-
  The walk of AddrBack. Condition: the variables hold what their initialisers laid.
-/
namespace Go.Proofs.YtnljjlaececnkaaGreatDoor
open Go.RowKit
set_option linter.unusedVariables false
set_option linter.unusedSimpArgs false
theorem pairS_len {q : Pr} (hq : q.fit) : (pairS q).length ≤ 300 := by
  have l1 := pfx_len hq.1.1
  have l2 := pfx_len hq.2.1
  unfold pairS
  cases chkPP q <;> cases spec q <;> simp <;> omega
theorem parsePPS_fit (s : ByteArray) : (parsePPS s).1.fit := by
  have h1 : ∀ x, (pair1 x).1.fit := fun x => by
    unfold pair1
    simp only
    split
    · exact ⟨parsePS_ok x, any_ok _⟩
    · exact zeroPr_fit
  have h3 : ∀ x z, (pair3 x z).1.fit := fun x z => by
    unfold pair3
    simp only
    split
    · split
      · split
        · exact ⟨parsePS_ok x, parsePS_ok z⟩
        · exact zeroPr_fit
      · exact zeroPr_fit
    · exact zeroPr_fit
  unfold parsePPS
  split
  · exact h1 _
  · split
    · exact h3 _ _
    · exact zeroPr_fit
  · exact zeroPr_fit
theorem num_any2 {w : World} (n : Int) : Calls Tryz.prog 31 #[.int .i64 n] w fun e w' => e = .returned (.int .i64 n) ∧ Below w.heap.size w w' := num_lit n
set_option maxRecDepth 100000 in
set_option maxHeartbeats 3200000 in
theorem back_yy {a : List Int} (ha : isA a) {p r : Pf} (hp : p.ok) {q u : Pr} (hq : q.fit) {e f : Int} (h1 : chk p = true) (h2 : chkPP q = true) (hpr : parsePS ⟨(pfxS p).toArray⟩ = (r, e)) (hqu : parsePPS ⟨(pairS q).toArray⟩ = (u, f)) (hro : r.ok) (huo : u.fit) (hr : p = r) (he : 0 = e) (hu : q = u) (hf : 0 = f) {w : World} (E : Env w) : Calls Tryz.prog 13 #[vA a, vPf p, vPP q] w fun e w' => e = .returned (.bool true) ∧ Below w.heap.size w w' := by
  subst hr; subst he
  subst hu; subst hf
  have hA : ∀ W, (binOp .neq 42 (vA a) (vA a)).run Tryz.prog W = .ok (.bool false) W := fun W => by rw [neq_A W ha ha, decide_eq_true rfl]; rfl
  have hP : ∀ W, (binOp .neq 55 (vPf p) (vPf p)).run Tryz.prog W = .ok (.bool false) W := fun W => by rw [neq_P W hp hp, decide_eq_true rfl]; rfl
  have hQ : ∀ W, (binOp .eql 57 (vPP q) (vPP q)).run Tryz.prog W = .ok (.bool true) W := fun W => by rw [eql_PP W hq hq, decide_eq_true rfl]
  have lA : (⟨(printS a).toArray⟩ : ByteArray).size < 4294967281 := by
    show (printS a).toArray.size < _
    rw [List.size_toArray]
    unfold printS
    split
    · have := dotted_len ha; omega
    · have := grouped_len ha; omega
  have lP : (⟨(pfxS p).toArray⟩ : ByteArray).size < 4294967281 := by show (pfxS p).toArray.size < _; rw [List.size_toArray]; have := pfx_len hp.1; omega
  have lQ : (⟨(pairS q).toArray⟩ : ByteArray).size < 4294967281 := by
    show (pairS q).toArray.size < _
    rw [List.size_toArray]
    have := pairS_len hq; omega
  have c1 : ∀ {W : World}, Env W → Calls Tryz.prog 29 #[.string ⟨(printS a).toArray⟩] W fun e w' => e = .returned (.tuple #[vA a, .int .i64 0]) ∧ Below W.heap.size W w' := fun E => parse_is E lA (parse_print ha)
  have c2 : ∀ {W : World}, Env W → Calls Tryz.prog 56 #[.string ⟨(pfxS p).toArray⟩] W fun e' w' => e' = .returned (.tuple #[vPf p, .int .i64 0]) ∧ Below W.heap.size W w' := fun E => pp_is E lP hpr
  have c3 : ∀ {W : World}, Env W → Calls Tryz.prog 58 #[.string ⟨(pairS q).toArray⟩] W fun e' w' => e' = .returned (.tuple #[vPP q, .int .i64 0]) ∧ Below W.heap.size W w' := fun E => (pair_any E lQ).mono fun e' w' h => ⟨by have := h.1; unfold PairR at this; rw [this, hqu], h.2⟩
  have k1 : (if chk p then (0 : Int) else 21) = 0 := by rw [h1]; rfl
  have k2 : (if chkPP q then (0 : Int) else 21) = 0 := by rw [h2]; rfl
  have Ha := Lib.hid ha
  have Hp := Lib.hid hp
  have Hq := Lib.hid hq
  have Hr := Lib.hid hro
  have Hu := Lib.hid huo
  replace k1 := Lib.hid k1
  replace k2 := Lib.hid k2
  have B := ((((Bz.start w).alloc (oA a) (g := w.heap.size) rfl).alloc (oP p) (g := w.heap.size + 1) (by simp)).alloc (oPP q) (g := w.heap.size + 2) (by simp) : Bz w [(w.heap.size + 2, oPP q), (w.heap.size + 1, oP p), (w.heap.size, oA a)] _)
  clear ha hp hq h1 h2 hpr hqu hro huo lA lP lQ
  unfold vA vPf vPP
  go_enter Tryz.func13, Tryz.ntmps13
  go_wp2_with (refine wpList_quiet_take (C := Bz w [(w.heap.size + 2, oPP q), (w.heap.size + 1, oP p), (w.heap.size, oA a)]) 9 6 (by rfl) B ?_)
  (try simp only [List.take_succ_cons, List.take_zero, List.drop_succ_cons, List.drop_zero])
  refine wpQuiet_hide ?_
  intro lq hlq
  refine wpQuiet_step_h hlq ?_
  clear hlq lq
  intro K lq hlq hK
  refine wanted_go (by rfl) ?_
  refine ⟨vA a, fun W hW => ?_, ?_⟩
  · skip
    exact quiet_load 42 _ rfl rfl (ldA (hW.all.get 2 (x := (w.heap.size, oA a)) rfl) Ha.out)
  refine hK _ ?_
  clear hK K
  (try simp only [Act.put, List.setIfInBounds_toArray, List.set_cons_zero, List.set_cons_succ])
  refine wpQuiet_step_h hlq ?_
  clear hlq lq
  intro K lq hlq hK
  refine wanted_go (by rfl) ?_
  refine ⟨.string ⟨(printS a).toArray⟩, fun W hW => ?_, ?_⟩
  · go_simp
    have E' := hW.env E
    exact (print_any E' Ha.out).mono fun e W2 hc2 => ⟨hc2.1, hW.go hc2.2⟩
  refine hK _ ?_
  clear hK K
  (try simp only [Act.put, List.setIfInBounds_toArray, List.set_cons_zero, List.set_cons_succ])
  refine wpQuiet_step_h hlq ?_
  clear hlq lq
  intro K lq hlq hK
  refine wanted_go (by rfl) ?_
  refine ⟨.tuple #[vA a, .int .i64 0], fun W hW => ?_, ?_⟩
  · go_simp
    have E' := hW.env E
    exact (c1 E').mono fun e W2 hc2 => ⟨hc2.1, hW.go hc2.2⟩
  refine hK _ ?_
  clear hK K
  (try simp only [Act.put, List.setIfInBounds_toArray, List.set_cons_zero, List.set_cons_succ])
  refine wpQuiet_step_h hlq ?_
  clear hlq lq
  intro K lq hlq hK
  refine wanted_go (by rfl) ?_
  refine ⟨?_, fun W hW => ?_, ?_⟩
  rotate_left
  · skip
    go_simp
    with_reducible rfl
  refine hK _ ?_
  clear hK K
  (try simp only [Act.put, List.setIfInBounds_toArray, List.set_cons_zero, List.set_cons_succ])
  refine wpQuiet_step_h hlq ?_
  clear hlq lq
  intro K lq hlq hK
  refine wanted_go (by rfl) ?_
  refine ⟨?_, fun W hW => ?_, ?_⟩
  rotate_left
  · skip
    go_simp
    with_reducible rfl
  refine hK _ ?_
  clear hK K
  (try simp only [Act.put, List.setIfInBounds_toArray, List.set_cons_zero, List.set_cons_succ])
  refine wpQuiet_step_h hlq ?_
  clear hlq lq
  intro K lq hlq hK
  refine wanted_go (by rfl) ?_
  refine ⟨?_, fun W hW => ?_, ?_⟩
  rotate_left
  · skip
    go_simp
    with_reducible rfl
  refine hK _ ?_
  clear hK K
  (try simp only [Act.put, List.setIfInBounds_toArray, List.set_cons_zero, List.set_cons_succ])
  refine wpQuiet_nil_h hlq ?_
  clear hlq lq B
  intro V1 hV2
  refine wpList_new rfl rfl rfl rfl z42 rfl (by rfl) (by rfl) (info42 Ha.out) (sizeA' Ha.out) (numsA_one _) ?_
  (try simp only [Act.put, List.setIfInBounds_toArray, List.set_cons_zero, List.set_cons_succ])
  have hB3 : Bz w [(V1.heap.size, oA a), (w.heap.size + 2, oPP q), (w.heap.size + 1, oP p), (w.heap.size, oA a)] (V1.alloc (oA a)) := hV2.alloc (oA a) rfl
  clear hV2
  refine wpList_quiet (C := Bz w [(V1.heap.size, oA a), (w.heap.size + 2, oPP q), (w.heap.size + 1, oP p), (w.heap.size, oA a)]) 1 (by rfl) hB3 ?_
  refine wpQuiet_hide ?_
  intro lq hlq
  refine wpQuiet_step_h hlq ?_
  clear hlq lq
  intro K lq hlq hK
  refine wanted_go (by rfl) ?_
  refine ⟨?_, fun W hW => ?_, ?_⟩
  rotate_left
  · skip
    go_simp
    with_reducible rfl
  refine hK _ ?_
  clear hK K
  (try simp only [Act.put, List.setIfInBounds_toArray, List.set_cons_zero, List.set_cons_succ])
  refine wpQuiet_nil_h hlq ?_
  clear hlq lq hB3
  intro V4 hV5
  go_wp2_with (refine wpList_quiet (C := Bz w [(V1.heap.size, oA a), (w.heap.size + 2, oPP q), (w.heap.size + 1, oP p), (w.heap.size, oA a)]) 8 (by rfl) hV5 ?_)
  refine wpQuiet_hide ?_
  intro lq hlq
  refine wpQuiet_step_h hlq ?_
  clear hlq lq
  intro K lq hlq hK
  refine wanted_go (by rfl) ?_
  refine ⟨vA a, fun W hW => ?_, ?_⟩
  · skip
    exact quiet_load 42 _ rfl rfl (ldA (hW.all.get 0 (x := (V1.heap.size, oA a)) rfl) Ha.out)
  refine hK _ ?_
  clear hK K
  (try simp only [Act.put, List.setIfInBounds_toArray, List.set_cons_zero, List.set_cons_succ])
  refine wpQuiet_step_h hlq ?_
  clear hlq lq
  intro K lq hlq hK
  refine wanted_go (by rfl) ?_
  refine ⟨vA a, fun W hW => ?_, ?_⟩
  · skip
    exact quiet_load 42 _ rfl rfl (ldA (hW.all.get 3 (x := (w.heap.size, oA a)) rfl) Ha.out)
  refine hK _ ?_
  clear hK K
  (try simp only [Act.put, List.setIfInBounds_toArray, List.set_cons_zero, List.set_cons_succ])
  refine wpQuiet_step_h hlq ?_
  clear hlq lq
  intro K lq hlq hK
  refine wanted_go (by rfl) ?_
  refine ⟨.bool false, fun W hW => ?_, ?_⟩
  · skip
    exact quiet_eq (.inr rfl) (by rfl) (by rfl) (by rfl) guard42 (hA W)
  refine hK _ ?_
  clear hK K
  (try simp only [Act.put, List.setIfInBounds_toArray, List.set_cons_zero, List.set_cons_succ])
  refine wpQuiet_step_h hlq ?_
  clear hlq lq
  intro K lq hlq hK
  refine wanted_go (by rfl) ?_
  refine ⟨?_, fun W hW => ?_, ?_⟩
  rotate_left
  · skip
    go_simp
    with_reducible rfl
  refine hK _ ?_
  clear hK K
  (try simp only [Act.put, List.setIfInBounds_toArray, List.set_cons_zero, List.set_cons_succ])
  refine wpQuiet_step_h hlq ?_
  clear hlq lq
  intro K lq hlq hK
  refine wanted_go (by rfl) ?_
  refine ⟨?_, fun W hW => ?_, ?_⟩
  rotate_left
  · skip
    go_simp
    with_reducible rfl
  refine hK _ ?_
  clear hK K
  (try simp only [Act.put, List.setIfInBounds_toArray, List.set_cons_zero, List.set_cons_succ])
  refine wpQuiet_step_h hlq ?_
  clear hlq lq
  intro K lq hlq hK
  refine wanted_go (by rfl) ?_
  refine ⟨.int .i64 0, fun W hW => ?_, ?_⟩
  · go_simp
    exact (num_lit _).mono fun e W2 hc2 => ⟨hc2.1, hW.go hc2.2⟩
  refine hK _ ?_
  clear hK K
  (try simp only [Act.put, List.setIfInBounds_toArray, List.set_cons_zero, List.set_cons_succ])
  refine wpQuiet_step_h hlq ?_
  clear hlq lq
  intro K lq hlq hK
  refine wanted_go (by rfl) ?_
  refine ⟨?_, fun W hW => ?_, ?_⟩
  rotate_left
  · skip
    go_simp
    with_reducible rfl
  refine hK _ ?_
  clear hK K
  (try simp only [Act.put, List.setIfInBounds_toArray, List.set_cons_zero, List.set_cons_succ])
  refine wpQuiet_step_h hlq ?_
  clear hlq lq
  intro K lq hlq hK
  refine wanted_go (by rfl) ?_
  refine ⟨?_, fun W hW => ?_, ?_⟩
  rotate_left
  · skip
    go_simp
    with_reducible rfl
  refine hK _ ?_
  clear hK K
  (try simp only [Act.put, List.setIfInBounds_toArray, List.set_cons_zero, List.set_cons_succ])
  refine wpQuiet_nil_h hlq ?_
  clear hlq lq hV5
  intro V6 hV7
  go_wp2_with (refine wpList_quiet_take (C := Bz w [(V1.heap.size, oA a), (w.heap.size + 2, oPP q), (w.heap.size + 1, oP p), (w.heap.size, oA a)]) 9 6 (by rfl) hV7 ?_)
  (try simp only [List.take_succ_cons, List.take_zero, List.drop_succ_cons, List.drop_zero])
  refine wpQuiet_hide ?_
  intro lq hlq
  refine wpQuiet_step_h hlq ?_
  clear hlq lq
  intro K lq hlq hK
  refine wanted_go (by rfl) ?_
  refine ⟨vPf p, fun W hW => ?_, ?_⟩
  · skip
    exact quiet_load 55 _ rfl rfl (ldP (hW.all.get 2 (x := (w.heap.size + 1, oP p)) rfl) Hp.out)
  refine hK _ ?_
  clear hK K
  (try simp only [Act.put, List.setIfInBounds_toArray, List.set_cons_zero, List.set_cons_succ])
  refine wpQuiet_step_h hlq ?_
  clear hlq lq
  intro K lq hlq hK
  refine wanted_go (by rfl) ?_
  refine ⟨.string ⟨(pfxS p).toArray⟩, fun W hW => ?_, ?_⟩
  · go_simp
    have E' := hW.env E
    exact (pfx_any E' Hp.out).mono fun e W2 hc2 => ⟨hc2.1, hW.go hc2.2⟩
  refine hK _ ?_
  clear hK K
  (try simp only [Act.put, List.setIfInBounds_toArray, List.set_cons_zero, List.set_cons_succ])
  refine wpQuiet_step_h hlq ?_
  clear hlq lq
  intro K lq hlq hK
  refine wanted_go (by rfl) ?_
  refine ⟨.tuple #[vPf p, .int .i64 0], fun W hW => ?_, ?_⟩
  · go_simp
    have E' := hW.env E
    exact (c2 E').mono fun e W2 hc2 => ⟨hc2.1, hW.go hc2.2⟩
  refine hK _ ?_
  clear hK K
  (try simp only [Act.put, List.setIfInBounds_toArray, List.set_cons_zero, List.set_cons_succ])
  refine wpQuiet_step_h hlq ?_
  clear hlq lq
  intro K lq hlq hK
  refine wanted_go (by rfl) ?_
  refine ⟨?_, fun W hW => ?_, ?_⟩
  rotate_left
  · skip
    go_simp
    with_reducible rfl
  refine hK _ ?_
  clear hK K
  (try simp only [Act.put, List.setIfInBounds_toArray, List.set_cons_zero, List.set_cons_succ])
  refine wpQuiet_step_h hlq ?_
  clear hlq lq
  intro K lq hlq hK
  refine wanted_go (by rfl) ?_
  refine ⟨?_, fun W hW => ?_, ?_⟩
  rotate_left
  · skip
    go_simp
    with_reducible rfl
  refine hK _ ?_
  clear hK K
  (try simp only [Act.put, List.setIfInBounds_toArray, List.set_cons_zero, List.set_cons_succ])
  refine wpQuiet_step_h hlq ?_
  clear hlq lq
  intro K lq hlq hK
  refine wanted_go (by rfl) ?_
  refine ⟨?_, fun W hW => ?_, ?_⟩
  rotate_left
  · skip
    go_simp
    with_reducible rfl
  refine hK _ ?_
  clear hK K
  (try simp only [Act.put, List.setIfInBounds_toArray, List.set_cons_zero, List.set_cons_succ])
  refine wpQuiet_nil_h hlq ?_
  clear hlq lq hV7
  intro V8 hV9
  refine wpList_new rfl rfl rfl rfl z55 rfl (by rfl) (by rfl) (info55 Hr.out.1 _) (sizeP' Hr.out) (pCs_one _ _) ?_
  (try simp only [Act.put, List.setIfInBounds_toArray, List.set_cons_zero, List.set_cons_succ])
  have hB10 : Bz w [(V8.heap.size, oP p), (V1.heap.size, oA a), (w.heap.size + 2, oPP q), (w.heap.size + 1, oP p), (w.heap.size, oA a)] (V8.alloc (oP p)) := hV9.alloc (oP p) rfl
  clear hV9
  refine wpList_quiet (C := Bz w [(V8.heap.size, oP p), (V1.heap.size, oA a), (w.heap.size + 2, oPP q), (w.heap.size + 1, oP p), (w.heap.size, oA a)]) 1 (by rfl) hB10 ?_
  refine wpQuiet_hide ?_
  intro lq hlq
  refine wpQuiet_step_h hlq ?_
  clear hlq lq
  intro K lq hlq hK
  refine wanted_go (by rfl) ?_
  refine ⟨?_, fun W hW => ?_, ?_⟩
  rotate_left
  · skip
    go_simp
    with_reducible rfl
  refine hK _ ?_
  clear hK K
  (try simp only [Act.put, List.setIfInBounds_toArray, List.set_cons_zero, List.set_cons_succ])
  refine wpQuiet_nil_h hlq ?_
  clear hlq lq hB10
  intro V11 hV12
  go_wp2_with (refine wpList_quiet (C := Bz w [(V8.heap.size, oP p), (V1.heap.size, oA a), (w.heap.size + 2, oPP q), (w.heap.size + 1, oP p), (w.heap.size, oA a)]) 14 (by rfl) hV12 ?_)
  refine wpQuiet_hide ?_
  intro lq hlq
  refine wpQuiet_step_h hlq ?_
  clear hlq lq
  intro K lq hlq hK
  refine wanted_go (by rfl) ?_
  refine ⟨vPf p, fun W hW => ?_, ?_⟩
  · skip
    exact quiet_load 55 _ rfl rfl (ldP (hW.all.get 3 (x := (w.heap.size + 1, oP p)) rfl) Hp.out)
  refine hK _ ?_
  clear hK K
  (try simp only [Act.put, List.setIfInBounds_toArray, List.set_cons_zero, List.set_cons_succ])
  refine wpQuiet_step_h hlq ?_
  clear hlq lq
  intro K lq hlq hK
  refine wanted_go (by rfl) ?_
  refine ⟨.int .i64 0, fun W hW => ?_, ?_⟩
  · go_simp
    exact (chk_call Hp.out k1.out).mono fun e W2 hc2 => ⟨hc2.1, hW.go hc2.2⟩
  refine hK _ ?_
  clear hK K
  (try simp only [Act.put, List.setIfInBounds_toArray, List.set_cons_zero, List.set_cons_succ])
  refine wpQuiet_step_h hlq ?_
  clear hlq lq
  intro K lq hlq hK
  refine wanted_go (by rfl) ?_
  refine ⟨.int .i64 0, fun W hW => ?_, ?_⟩
  · go_simp
    exact (num_lit _).mono fun e W2 hc2 => ⟨hc2.1, hW.go hc2.2⟩
  refine hK _ ?_
  clear hK K
  (try simp only [Act.put, List.setIfInBounds_toArray, List.set_cons_zero, List.set_cons_succ])
  refine wpQuiet_step_h hlq ?_
  clear hlq lq
  intro K lq hlq hK
  refine wanted_go (by rfl) ?_
  refine ⟨?_, fun W hW => ?_, ?_⟩
  rotate_left
  · skip
    go_simp
    with_reducible rfl
  refine hK _ ?_
  clear hK K
  (try simp only [Act.put, List.setIfInBounds_toArray, List.set_cons_zero, List.set_cons_succ])
  refine wpQuiet_step_h hlq ?_
  clear hlq lq
  intro K lq hlq hK
  refine wanted_go (by rfl) ?_
  refine ⟨?_, fun W hW => ?_, ?_⟩
  rotate_left
  · skip
    go_simp
    with_reducible rfl
  refine hK _ ?_
  clear hK K
  (try simp only [Act.put, List.setIfInBounds_toArray, List.set_cons_zero, List.set_cons_succ])
  refine wpQuiet_step_h hlq ?_
  clear hlq lq
  intro K lq hlq hK
  refine wanted_go (by rfl) ?_
  refine ⟨vPf p, fun W hW => ?_, ?_⟩
  · skip
    exact quiet_load 55 _ rfl rfl (ldP (hW.all.get 0 (x := (V8.heap.size, oP p)) rfl) Hr.out)
  refine hK _ ?_
  clear hK K
  (try simp only [Act.put, List.setIfInBounds_toArray, List.set_cons_zero, List.set_cons_succ])
  refine wpQuiet_step_h hlq ?_
  clear hlq lq
  intro K lq hlq hK
  refine wanted_go (by rfl) ?_
  refine ⟨vPf p, fun W hW => ?_, ?_⟩
  · skip
    exact quiet_load 55 _ rfl rfl (ldP (hW.all.get 3 (x := (w.heap.size + 1, oP p)) rfl) Hp.out)
  refine hK _ ?_
  clear hK K
  (try simp only [Act.put, List.setIfInBounds_toArray, List.set_cons_zero, List.set_cons_succ])
  refine wpQuiet_step_h hlq ?_
  clear hlq lq
  intro K lq hlq hK
  refine wanted_go (by rfl) ?_
  refine ⟨.bool false, fun W hW => ?_, ?_⟩
  · skip
    exact quiet_eq (.inr rfl) (by rfl) (by rfl) (by rfl) guard55 (hP W)
  refine hK _ ?_
  clear hK K
  (try simp only [Act.put, List.setIfInBounds_toArray, List.set_cons_zero, List.set_cons_succ])
  refine wpQuiet_step_h hlq ?_
  clear hlq lq
  intro K lq hlq hK
  refine wanted_go (by rfl) ?_
  refine ⟨?_, fun W hW => ?_, ?_⟩
  rotate_left
  · skip
    go_simp
    with_reducible rfl
  refine hK _ ?_
  clear hK K
  (try simp only [Act.put, List.setIfInBounds_toArray, List.set_cons_zero, List.set_cons_succ])
  refine wpQuiet_step_h hlq ?_
  clear hlq lq
  intro K lq hlq hK
  refine wanted_go (by rfl) ?_
  refine ⟨?_, fun W hW => ?_, ?_⟩
  rotate_left
  · skip
    go_simp
    with_reducible rfl
  refine hK _ ?_
  clear hK K
  (try simp only [Act.put, List.setIfInBounds_toArray, List.set_cons_zero, List.set_cons_succ])
  refine wpQuiet_step_h hlq ?_
  clear hlq lq
  intro K lq hlq hK
  refine wanted_go (by rfl) ?_
  refine ⟨.int .i64 0, fun W hW => ?_, ?_⟩
  · go_simp
    exact (num_lit _).mono fun e W2 hc2 => ⟨hc2.1, hW.go hc2.2⟩
  refine hK _ ?_
  clear hK K
  (try simp only [Act.put, List.setIfInBounds_toArray, List.set_cons_zero, List.set_cons_succ])
  refine wpQuiet_step_h hlq ?_
  clear hlq lq
  intro K lq hlq hK
  refine wanted_go (by rfl) ?_
  refine ⟨?_, fun W hW => ?_, ?_⟩
  rotate_left
  · skip
    go_simp
    with_reducible rfl
  refine hK _ ?_
  clear hK K
  (try simp only [Act.put, List.setIfInBounds_toArray, List.set_cons_zero, List.set_cons_succ])
  refine wpQuiet_step_h hlq ?_
  clear hlq lq
  intro K lq hlq hK
  refine wanted_go (by rfl) ?_
  refine ⟨?_, fun W hW => ?_, ?_⟩
  rotate_left
  · skip
    go_simp
    with_reducible rfl
  refine hK _ ?_
  clear hK K
  (try simp only [Act.put, List.setIfInBounds_toArray, List.set_cons_zero, List.set_cons_succ])
  refine wpQuiet_step_h hlq ?_
  clear hlq lq
  intro K lq hlq hK
  refine wanted_go (by rfl) ?_
  refine ⟨?_, fun W hW => ?_, ?_⟩
  rotate_left
  · skip
    go_simp
    with_reducible rfl
  refine hK _ ?_
  clear hK K
  (try simp only [Act.put, List.setIfInBounds_toArray, List.set_cons_zero, List.set_cons_succ])
  refine wpQuiet_nil_h hlq ?_
  clear hlq lq hV12
  intro V13 hV14
  go_wp2_with (refine wpList_quiet_take (C := Bz w [(V8.heap.size, oP p), (V1.heap.size, oA a), (w.heap.size + 2, oPP q), (w.heap.size + 1, oP p), (w.heap.size, oA a)]) 9 6 (by rfl) hV14 ?_)
  (try simp only [List.take_succ_cons, List.take_zero, List.drop_succ_cons, List.drop_zero])
  refine wpQuiet_hide ?_
  intro lq hlq
  refine wpQuiet_step_h hlq ?_
  clear hlq lq
  intro K lq hlq hK
  refine wanted_go (by rfl) ?_
  refine ⟨vPP q, fun W hW => ?_, ?_⟩
  · skip
    exact quiet_load 57 _ rfl rfl (ldPP (hW.all.get 2 (x := (w.heap.size + 2, oPP q)) rfl) Hq.out)
  refine hK _ ?_
  clear hK K
  (try simp only [Act.put, List.setIfInBounds_toArray, List.set_cons_zero, List.set_cons_succ])
  refine wpQuiet_step_h hlq ?_
  clear hlq lq
  intro K lq hlq hK
  refine wanted_go (by rfl) ?_
  refine ⟨.string ⟨(pairS q).toArray⟩, fun W hW => ?_, ?_⟩
  · go_simp
    have E' := hW.env E
    exact (pairS_any E' Hq.out).mono fun e W2 hc2 => ⟨hc2.1, hW.go hc2.2⟩
  refine hK _ ?_
  clear hK K
  (try simp only [Act.put, List.setIfInBounds_toArray, List.set_cons_zero, List.set_cons_succ])
  refine wpQuiet_step_h hlq ?_
  clear hlq lq
  intro K lq hlq hK
  refine wanted_go (by rfl) ?_
  refine ⟨.tuple #[vPP q, .int .i64 0], fun W hW => ?_, ?_⟩
  · go_simp
    have E' := hW.env E
    exact (c3 E').mono fun e W2 hc2 => ⟨hc2.1, hW.go hc2.2⟩
  refine hK _ ?_
  clear hK K
  (try simp only [Act.put, List.setIfInBounds_toArray, List.set_cons_zero, List.set_cons_succ])
  refine wpQuiet_step_h hlq ?_
  clear hlq lq
  intro K lq hlq hK
  refine wanted_go (by rfl) ?_
  refine ⟨?_, fun W hW => ?_, ?_⟩
  rotate_left
  · skip
    go_simp
    with_reducible rfl
  refine hK _ ?_
  clear hK K
  (try simp only [Act.put, List.setIfInBounds_toArray, List.set_cons_zero, List.set_cons_succ])
  refine wpQuiet_step_h hlq ?_
  clear hlq lq
  intro K lq hlq hK
  refine wanted_go (by rfl) ?_
  refine ⟨?_, fun W hW => ?_, ?_⟩
  rotate_left
  · skip
    go_simp
    with_reducible rfl
  refine hK _ ?_
  clear hK K
  (try simp only [Act.put, List.setIfInBounds_toArray, List.set_cons_zero, List.set_cons_succ])
  refine wpQuiet_step_h hlq ?_
  clear hlq lq
  intro K lq hlq hK
  refine wanted_go (by rfl) ?_
  refine ⟨?_, fun W hW => ?_, ?_⟩
  rotate_left
  · skip
    go_simp
    with_reducible rfl
  refine hK _ ?_
  clear hK K
  (try simp only [Act.put, List.setIfInBounds_toArray, List.set_cons_zero, List.set_cons_succ])
  refine wpQuiet_nil_h hlq ?_
  clear hlq lq hV14
  intro V15 hV16
  refine wpList_new rfl rfl rfl rfl z57 rfl (by rfl) (by rfl) (info57 Hu.out) (sizePP' Hu.out) (pp_one _) ?_
  (try simp only [Act.put, List.setIfInBounds_toArray, List.set_cons_zero, List.set_cons_succ])
  have hB17 : Bz w [(V15.heap.size, oPP q), (V8.heap.size, oP p), (V1.heap.size, oA a), (w.heap.size + 2, oPP q), (w.heap.size + 1, oP p), (w.heap.size, oA a)] (V15.alloc (oPP q)) := hV16.alloc (oPP q) rfl
  clear hV16
  refine wpList_quiet (C := Bz w [(V15.heap.size, oPP q), (V8.heap.size, oP p), (V1.heap.size, oA a), (w.heap.size + 2, oPP q), (w.heap.size + 1, oP p), (w.heap.size, oA a)]) 1 (by rfl) hB17 ?_
  refine wpQuiet_hide ?_
  intro lq hlq
  refine wpQuiet_step_h hlq ?_
  clear hlq lq
  intro K lq hlq hK
  refine wanted_go (by rfl) ?_
  refine ⟨?_, fun W hW => ?_, ?_⟩
  rotate_left
  · skip
    go_simp
    with_reducible rfl
  refine hK _ ?_
  clear hK K
  (try simp only [Act.put, List.setIfInBounds_toArray, List.set_cons_zero, List.set_cons_succ])
  refine wpQuiet_nil_h hlq ?_
  clear hlq lq hB17
  intro V18 hV19
  go_wp2_with (refine wpList_quiet (C := Bz w [(V15.heap.size, oPP q), (V8.heap.size, oP p), (V1.heap.size, oA a), (w.heap.size + 2, oPP q), (w.heap.size + 1, oP p), (w.heap.size, oA a)]) 18 (by rfl) hV19 ?_)
  refine wpQuiet_hide ?_
  intro lq hlq
  refine wpQuiet_step_h hlq ?_
  clear hlq lq
  intro K lq hlq hK
  refine wanted_go (by rfl) ?_
  refine ⟨vPP q, fun W hW => ?_, ?_⟩
  · skip
    exact quiet_load 57 _ rfl rfl (ldPP (hW.all.get 3 (x := (w.heap.size + 2, oPP q)) rfl) Hq.out)
  refine hK _ ?_
  clear hK K
  (try simp only [Act.put, List.setIfInBounds_toArray, List.set_cons_zero, List.set_cons_succ])
  refine wpQuiet_step_h hlq ?_
  clear hlq lq
  intro K lq hlq hK
  refine wanted_go (by rfl) ?_
  refine ⟨.int .i64 0, fun W hW => ?_, ?_⟩
  · go_simp
    have E' := hW.env E
    exact (chkPP_call Hq.out k2.out).mono fun e W2 hc2 => ⟨hc2.1, hW.go hc2.2⟩
  refine hK _ ?_
  clear hK K
  (try simp only [Act.put, List.setIfInBounds_toArray, List.set_cons_zero, List.set_cons_succ])
  refine wpQuiet_step_h hlq ?_
  clear hlq lq
  intro K lq hlq hK
  refine wanted_go (by rfl) ?_
  refine ⟨.int .i64 0, fun W hW => ?_, ?_⟩
  · go_simp
    have E' := hW.env E
    exact (num_lit _).mono fun e W2 hc2 => ⟨hc2.1, hW.go hc2.2⟩
  refine hK _ ?_
  clear hK K
  (try simp only [Act.put, List.setIfInBounds_toArray, List.set_cons_zero, List.set_cons_succ])
  refine wpQuiet_step_h hlq ?_
  clear hlq lq
  intro K lq hlq hK
  refine wanted_go (by rfl) ?_
  refine ⟨?_, fun W hW => ?_, ?_⟩
  rotate_left
  · skip
    go_simp
    with_reducible rfl
  refine hK _ ?_
  clear hK K
  (try simp only [Act.put, List.setIfInBounds_toArray, List.set_cons_zero, List.set_cons_succ])
  refine wpQuiet_step_h hlq ?_
  clear hlq lq
  intro K lq hlq hK
  refine wanted_go (by rfl) ?_
  refine ⟨?_, fun W hW => ?_, ?_⟩
  rotate_left
  · skip
    go_simp
    with_reducible rfl
  refine hK _ ?_
  clear hK K
  (try simp only [Act.put, List.setIfInBounds_toArray, List.set_cons_zero, List.set_cons_succ])
  refine wpQuiet_step_h hlq ?_
  clear hlq lq
  intro K lq hlq hK
  refine wanted_go (by rfl) ?_
  refine ⟨vPP q, fun W hW => ?_, ?_⟩
  · skip
    exact quiet_load 57 _ rfl rfl (ldPP (hW.all.get 0 (x := (V15.heap.size, oPP q)) rfl) Hu.out)
  refine hK _ ?_
  clear hK K
  (try simp only [Act.put, List.setIfInBounds_toArray, List.set_cons_zero, List.set_cons_succ])
  refine wpQuiet_step_h hlq ?_
  clear hlq lq
  intro K lq hlq hK
  refine wanted_go (by rfl) ?_
  refine ⟨vPP q, fun W hW => ?_, ?_⟩
  · skip
    exact quiet_load 57 _ rfl rfl (ldPP (hW.all.get 3 (x := (w.heap.size + 2, oPP q)) rfl) Hq.out)
  refine hK _ ?_
  clear hK K
  (try simp only [Act.put, List.setIfInBounds_toArray, List.set_cons_zero, List.set_cons_succ])
  refine wpQuiet_step_h hlq ?_
  clear hlq lq
  intro K lq hlq hK
  refine wanted_go (by rfl) ?_
  refine ⟨.bool true, fun W hW => ?_, ?_⟩
  · skip
    exact quiet_eq (.inl rfl) (by rfl) (by rfl) (by rfl) guard57 (hQ W)
  refine hK _ ?_
  clear hK K
  (try simp only [Act.put, List.setIfInBounds_toArray, List.set_cons_zero, List.set_cons_succ])
  refine wpQuiet_step_h hlq ?_
  clear hlq lq
  intro K lq hlq hK
  refine wanted_go (by rfl) ?_
  refine ⟨?_, fun W hW => ?_, ?_⟩
  rotate_left
  · skip
    go_simp
    with_reducible rfl
  refine hK _ ?_
  clear hK K
  (try simp only [Act.put, List.setIfInBounds_toArray, List.set_cons_zero, List.set_cons_succ])
  refine wpQuiet_step_h hlq ?_
  clear hlq lq
  intro K lq hlq hK
  refine wanted_go (by rfl) ?_
  refine ⟨?_, fun W hW => ?_, ?_⟩
  rotate_left
  · skip
    go_simp
    with_reducible rfl
  refine hK _ ?_
  clear hK K
  (try simp only [Act.put, List.setIfInBounds_toArray, List.set_cons_zero, List.set_cons_succ])
  refine wpQuiet_step_h hlq ?_
  clear hlq lq
  intro K lq hlq hK
  refine wanted_go (by rfl) ?_
  refine ⟨.int .i64 0, fun W hW => ?_, ?_⟩
  · go_simp
    have E' := hW.env E
    exact (num_lit _).mono fun e W2 hc2 => ⟨hc2.1, hW.go hc2.2⟩
  refine hK _ ?_
  clear hK K
  (try simp only [Act.put, List.setIfInBounds_toArray, List.set_cons_zero, List.set_cons_succ])
  refine wpQuiet_step_h hlq ?_
  clear hlq lq
  intro K lq hlq hK
  refine wanted_go (by rfl) ?_
  refine ⟨?_, fun W hW => ?_, ?_⟩
  rotate_left
  · skip
    go_simp
    with_reducible rfl
  refine hK _ ?_
  clear hK K
  (try simp only [Act.put, List.setIfInBounds_toArray, List.set_cons_zero, List.set_cons_succ])
  refine wpQuiet_step_h hlq ?_
  clear hlq lq
  intro K lq hlq hK
  refine wanted_go (by rfl) ?_
  refine ⟨?_, fun W hW => ?_, ?_⟩
  rotate_left
  · skip
    go_simp
    with_reducible rfl
  refine hK _ ?_
  clear hK K
  (try simp only [Act.put, List.setIfInBounds_toArray, List.set_cons_zero, List.set_cons_succ])
  refine wpQuiet_step_h hlq ?_
  clear hlq lq
  intro K lq hlq hK
  refine wanted_go (by rfl) ?_
  refine ⟨?_, fun W hW => ?_, ?_⟩
  rotate_left
  · skip
    go_simp
    with_reducible rfl
  refine hK _ ?_
  clear hK K
  (try simp only [Act.put, List.setIfInBounds_toArray, List.set_cons_zero, List.set_cons_succ])
  refine wpQuiet_step_h hlq ?_
  clear hlq lq
  intro K lq hlq hK
  refine wanted_go (by rfl) ?_
  refine ⟨?_, fun W hW => ?_, ?_⟩
  rotate_left
  · skip
    go_simp
    with_reducible rfl
  refine hK _ ?_
  clear hK K
  (try simp only [Act.put, List.setIfInBounds_toArray, List.set_cons_zero, List.set_cons_succ])
  refine wpQuiet_step_h hlq ?_
  clear hlq lq
  intro K lq hlq hK
  refine wanted_go (by rfl) ?_
  refine ⟨.bool true, fun W hW => ?_, ?_⟩
  · go_simp
    have E' := hW.env E
    exact (live02_any E').mono fun e W2 hc2 => ⟨hc2.1, hW.go hc2.2⟩
  refine hK _ ?_
  clear hK K
  (try simp only [Act.put, List.setIfInBounds_toArray, List.set_cons_zero, List.set_cons_succ])
  refine wpQuiet_step_h hlq ?_
  clear hlq lq
  intro K lq hlq hK
  refine wanted_go (by rfl) ?_
  refine ⟨?_, fun W hW => ?_, ?_⟩
  rotate_left
  · skip
    go_simp
    with_reducible rfl
  refine hK _ ?_
  clear hK K
  (try simp only [Act.put, List.setIfInBounds_toArray, List.set_cons_zero, List.set_cons_succ])
  refine wpQuiet_step_h hlq ?_
  clear hlq lq
  intro K lq hlq hK
  refine wanted_go (by rfl) ?_
  refine ⟨?_, fun W hW => ?_, ?_⟩
  rotate_left
  · skip
    go_simp
    with_reducible rfl
  refine hK _ ?_
  clear hK K
  (try simp only [Act.put, List.setIfInBounds_toArray, List.set_cons_zero, List.set_cons_succ])
  refine wpQuiet_nil_h hlq ?_
  clear hlq lq hV19
  intro V20 hV21
  go_wp2_with fail
  go_ret
  exact ⟨rfl, hV21.bel⟩
set_option maxRecDepth 100000 in
set_option maxHeartbeats 3200000 in
theorem back_yn {a : List Int} (ha : isA a) {p r : Pf} (hp : p.ok) {q u : Pr} (hq : q.fit) {e f : Int} (h1 : chk p = true) (h2 : chkPP q = false) (hpr : parsePS ⟨(pfxS p).toArray⟩ = (r, e)) (hqu : parsePPS ⟨(pairS q).toArray⟩ = (u, f)) (hro : r.ok) (huo : u.fit) (hr : p = r) (he : 0 = e)  {w : World} (E : Env w) : Calls Tryz.prog 13 #[vA a, vPf p, vPP q] w fun e w' => e = .returned (.bool true) ∧ Below w.heap.size w w' := by
  subst hr; subst he
  have hA : ∀ W, (binOp .neq 42 (vA a) (vA a)).run Tryz.prog W = .ok (.bool false) W := fun W => by rw [neq_A W ha ha, decide_eq_true rfl]; rfl
  have hP : ∀ W, (binOp .neq 55 (vPf p) (vPf p)).run Tryz.prog W = .ok (.bool false) W := fun W => by rw [neq_P W hp hp, decide_eq_true rfl]; rfl
  have lA : (⟨(printS a).toArray⟩ : ByteArray).size < 4294967281 := by
    show (printS a).toArray.size < _
    rw [List.size_toArray]
    unfold printS
    split
    · have := dotted_len ha; omega
    · have := grouped_len ha; omega
  have lP : (⟨(pfxS p).toArray⟩ : ByteArray).size < 4294967281 := by show (pfxS p).toArray.size < _; rw [List.size_toArray]; have := pfx_len hp.1; omega
  have lQ : (⟨(pairS q).toArray⟩ : ByteArray).size < 4294967281 := by
    show (pairS q).toArray.size < _
    rw [List.size_toArray]
    have := pairS_len hq; omega
  have c1 : ∀ {W : World}, Env W → Calls Tryz.prog 29 #[.string ⟨(printS a).toArray⟩] W fun e w' => e = .returned (.tuple #[vA a, .int .i64 0]) ∧ Below W.heap.size W w' := fun E => parse_is E lA (parse_print ha)
  have c2 : ∀ {W : World}, Env W → Calls Tryz.prog 56 #[.string ⟨(pfxS p).toArray⟩] W fun e' w' => e' = .returned (.tuple #[vPf p, .int .i64 0]) ∧ Below W.heap.size W w' := fun E => pp_is E lP hpr
  have c3 : ∀ {W : World}, Env W → Calls Tryz.prog 58 #[.string ⟨(pairS q).toArray⟩] W fun e' w' => e' = .returned (.tuple #[vPP u, .int .i64 f]) ∧ Below W.heap.size W w' := fun E => (pair_any E lQ).mono fun e' w' h => ⟨by have := h.1; unfold PairR at this; rw [this, hqu], h.2⟩
  have k1 : (if chk p then (0 : Int) else 21) = 0 := by rw [h1]; rfl
  have k2 : (if chkPP q then (0 : Int) else 21) = 21 := by rw [h2]; rfl
  have Ha := Lib.hid ha
  have Hp := Lib.hid hp
  have Hq := Lib.hid hq
  have Hr := Lib.hid hro
  have Hu := Lib.hid huo
  replace k1 := Lib.hid k1
  replace k2 := Lib.hid k2
  have B := ((((Bz.start w).alloc (oA a) (g := w.heap.size) rfl).alloc (oP p) (g := w.heap.size + 1) (by simp)).alloc (oPP q) (g := w.heap.size + 2) (by simp) : Bz w [(w.heap.size + 2, oPP q), (w.heap.size + 1, oP p), (w.heap.size, oA a)] _)
  clear ha hp hq h1 h2 hpr hqu hro huo lA lP lQ
  unfold vA vPf vPP
  go_enter Tryz.func13, Tryz.ntmps13
  go_wp2_with (refine wpList_quiet_take (C := Bz w [(w.heap.size + 2, oPP q), (w.heap.size + 1, oP p), (w.heap.size, oA a)]) 9 6 (by rfl) B ?_)
  (try simp only [List.take_succ_cons, List.take_zero, List.drop_succ_cons, List.drop_zero])
  refine wpQuiet_hide ?_
  intro lq hlq
  refine wpQuiet_step_h hlq ?_
  clear hlq lq
  intro K lq hlq hK
  refine wanted_go (by rfl) ?_
  refine ⟨vA a, fun W hW => ?_, ?_⟩
  · skip
    exact quiet_load 42 _ rfl rfl (ldA (hW.all.get 2 (x := (w.heap.size, oA a)) rfl) Ha.out)
  refine hK _ ?_
  clear hK K
  (try simp only [Act.put, List.setIfInBounds_toArray, List.set_cons_zero, List.set_cons_succ])
  refine wpQuiet_step_h hlq ?_
  clear hlq lq
  intro K lq hlq hK
  refine wanted_go (by rfl) ?_
  refine ⟨.string ⟨(printS a).toArray⟩, fun W hW => ?_, ?_⟩
  · go_simp
    have E' := hW.env E
    exact (print_any E' Ha.out).mono fun e W2 hc2 => ⟨hc2.1, hW.go hc2.2⟩
  refine hK _ ?_
  clear hK K
  (try simp only [Act.put, List.setIfInBounds_toArray, List.set_cons_zero, List.set_cons_succ])
  refine wpQuiet_step_h hlq ?_
  clear hlq lq
  intro K lq hlq hK
  refine wanted_go (by rfl) ?_
  refine ⟨.tuple #[vA a, .int .i64 0], fun W hW => ?_, ?_⟩
  · go_simp
    have E' := hW.env E
    exact (c1 E').mono fun e W2 hc2 => ⟨hc2.1, hW.go hc2.2⟩
  refine hK _ ?_
  clear hK K
  (try simp only [Act.put, List.setIfInBounds_toArray, List.set_cons_zero, List.set_cons_succ])
  refine wpQuiet_step_h hlq ?_
  clear hlq lq
  intro K lq hlq hK
  refine wanted_go (by rfl) ?_
  refine ⟨?_, fun W hW => ?_, ?_⟩
  rotate_left
  · skip
    go_simp
    with_reducible rfl
  refine hK _ ?_
  clear hK K
  (try simp only [Act.put, List.setIfInBounds_toArray, List.set_cons_zero, List.set_cons_succ])
  refine wpQuiet_step_h hlq ?_
  clear hlq lq
  intro K lq hlq hK
  refine wanted_go (by rfl) ?_
  refine ⟨?_, fun W hW => ?_, ?_⟩
  rotate_left
  · skip
    go_simp
    with_reducible rfl
  refine hK _ ?_
  clear hK K
  (try simp only [Act.put, List.setIfInBounds_toArray, List.set_cons_zero, List.set_cons_succ])
  refine wpQuiet_step_h hlq ?_
  clear hlq lq
  intro K lq hlq hK
  refine wanted_go (by rfl) ?_
  refine ⟨?_, fun W hW => ?_, ?_⟩
  rotate_left
  · skip
    go_simp
    with_reducible rfl
  refine hK _ ?_
  clear hK K
  (try simp only [Act.put, List.setIfInBounds_toArray, List.set_cons_zero, List.set_cons_succ])
  refine wpQuiet_nil_h hlq ?_
  clear hlq lq B
  intro V1 hV2
  refine wpList_new rfl rfl rfl rfl z42 rfl (by rfl) (by rfl) (info42 Ha.out) (sizeA' Ha.out) (numsA_one _) ?_
  (try simp only [Act.put, List.setIfInBounds_toArray, List.set_cons_zero, List.set_cons_succ])
  have hB3 : Bz w [(V1.heap.size, oA a), (w.heap.size + 2, oPP q), (w.heap.size + 1, oP p), (w.heap.size, oA a)] (V1.alloc (oA a)) := hV2.alloc (oA a) rfl
  clear hV2
  refine wpList_quiet (C := Bz w [(V1.heap.size, oA a), (w.heap.size + 2, oPP q), (w.heap.size + 1, oP p), (w.heap.size, oA a)]) 1 (by rfl) hB3 ?_
  refine wpQuiet_hide ?_
  intro lq hlq
  refine wpQuiet_step_h hlq ?_
  clear hlq lq
  intro K lq hlq hK
  refine wanted_go (by rfl) ?_
  refine ⟨?_, fun W hW => ?_, ?_⟩
  rotate_left
  · skip
    go_simp
    with_reducible rfl
  refine hK _ ?_
  clear hK K
  (try simp only [Act.put, List.setIfInBounds_toArray, List.set_cons_zero, List.set_cons_succ])
  refine wpQuiet_nil_h hlq ?_
  clear hlq lq hB3
  intro V4 hV5
  go_wp2_with (refine wpList_quiet (C := Bz w [(V1.heap.size, oA a), (w.heap.size + 2, oPP q), (w.heap.size + 1, oP p), (w.heap.size, oA a)]) 8 (by rfl) hV5 ?_)
  refine wpQuiet_hide ?_
  intro lq hlq
  refine wpQuiet_step_h hlq ?_
  clear hlq lq
  intro K lq hlq hK
  refine wanted_go (by rfl) ?_
  refine ⟨vA a, fun W hW => ?_, ?_⟩
  · skip
    exact quiet_load 42 _ rfl rfl (ldA (hW.all.get 0 (x := (V1.heap.size, oA a)) rfl) Ha.out)
  refine hK _ ?_
  clear hK K
  (try simp only [Act.put, List.setIfInBounds_toArray, List.set_cons_zero, List.set_cons_succ])
  refine wpQuiet_step_h hlq ?_
  clear hlq lq
  intro K lq hlq hK
  refine wanted_go (by rfl) ?_
  refine ⟨vA a, fun W hW => ?_, ?_⟩
  · skip
    exact quiet_load 42 _ rfl rfl (ldA (hW.all.get 3 (x := (w.heap.size, oA a)) rfl) Ha.out)
  refine hK _ ?_
  clear hK K
  (try simp only [Act.put, List.setIfInBounds_toArray, List.set_cons_zero, List.set_cons_succ])
  refine wpQuiet_step_h hlq ?_
  clear hlq lq
  intro K lq hlq hK
  refine wanted_go (by rfl) ?_
  refine ⟨.bool false, fun W hW => ?_, ?_⟩
  · skip
    exact quiet_eq (.inr rfl) (by rfl) (by rfl) (by rfl) guard42 (hA W)
  refine hK _ ?_
  clear hK K
  (try simp only [Act.put, List.setIfInBounds_toArray, List.set_cons_zero, List.set_cons_succ])
  refine wpQuiet_step_h hlq ?_
  clear hlq lq
  intro K lq hlq hK
  refine wanted_go (by rfl) ?_
  refine ⟨?_, fun W hW => ?_, ?_⟩
  rotate_left
  · skip
    go_simp
    with_reducible rfl
  refine hK _ ?_
  clear hK K
  (try simp only [Act.put, List.setIfInBounds_toArray, List.set_cons_zero, List.set_cons_succ])
  refine wpQuiet_step_h hlq ?_
  clear hlq lq
  intro K lq hlq hK
  refine wanted_go (by rfl) ?_
  refine ⟨?_, fun W hW => ?_, ?_⟩
  rotate_left
  · skip
    go_simp
    with_reducible rfl
  refine hK _ ?_
  clear hK K
  (try simp only [Act.put, List.setIfInBounds_toArray, List.set_cons_zero, List.set_cons_succ])
  refine wpQuiet_step_h hlq ?_
  clear hlq lq
  intro K lq hlq hK
  refine wanted_go (by rfl) ?_
  refine ⟨.int .i64 0, fun W hW => ?_, ?_⟩
  · go_simp
    exact (num_lit _).mono fun e W2 hc2 => ⟨hc2.1, hW.go hc2.2⟩
  refine hK _ ?_
  clear hK K
  (try simp only [Act.put, List.setIfInBounds_toArray, List.set_cons_zero, List.set_cons_succ])
  refine wpQuiet_step_h hlq ?_
  clear hlq lq
  intro K lq hlq hK
  refine wanted_go (by rfl) ?_
  refine ⟨?_, fun W hW => ?_, ?_⟩
  rotate_left
  · skip
    go_simp
    with_reducible rfl
  refine hK _ ?_
  clear hK K
  (try simp only [Act.put, List.setIfInBounds_toArray, List.set_cons_zero, List.set_cons_succ])
  refine wpQuiet_step_h hlq ?_
  clear hlq lq
  intro K lq hlq hK
  refine wanted_go (by rfl) ?_
  refine ⟨?_, fun W hW => ?_, ?_⟩
  rotate_left
  · skip
    go_simp
    with_reducible rfl
  refine hK _ ?_
  clear hK K
  (try simp only [Act.put, List.setIfInBounds_toArray, List.set_cons_zero, List.set_cons_succ])
  refine wpQuiet_nil_h hlq ?_
  clear hlq lq hV5
  intro V6 hV7
  go_wp2_with (refine wpList_quiet_take (C := Bz w [(V1.heap.size, oA a), (w.heap.size + 2, oPP q), (w.heap.size + 1, oP p), (w.heap.size, oA a)]) 9 6 (by rfl) hV7 ?_)
  (try simp only [List.take_succ_cons, List.take_zero, List.drop_succ_cons, List.drop_zero])
  refine wpQuiet_hide ?_
  intro lq hlq
  refine wpQuiet_step_h hlq ?_
  clear hlq lq
  intro K lq hlq hK
  refine wanted_go (by rfl) ?_
  refine ⟨vPf p, fun W hW => ?_, ?_⟩
  · skip
    exact quiet_load 55 _ rfl rfl (ldP (hW.all.get 2 (x := (w.heap.size + 1, oP p)) rfl) Hp.out)
  refine hK _ ?_
  clear hK K
  (try simp only [Act.put, List.setIfInBounds_toArray, List.set_cons_zero, List.set_cons_succ])
  refine wpQuiet_step_h hlq ?_
  clear hlq lq
  intro K lq hlq hK
  refine wanted_go (by rfl) ?_
  refine ⟨.string ⟨(pfxS p).toArray⟩, fun W hW => ?_, ?_⟩
  · go_simp
    have E' := hW.env E
    exact (pfx_any E' Hp.out).mono fun e W2 hc2 => ⟨hc2.1, hW.go hc2.2⟩
  refine hK _ ?_
  clear hK K
  (try simp only [Act.put, List.setIfInBounds_toArray, List.set_cons_zero, List.set_cons_succ])
  refine wpQuiet_step_h hlq ?_
  clear hlq lq
  intro K lq hlq hK
  refine wanted_go (by rfl) ?_
  refine ⟨.tuple #[vPf p, .int .i64 0], fun W hW => ?_, ?_⟩
  · go_simp
    have E' := hW.env E
    exact (c2 E').mono fun e W2 hc2 => ⟨hc2.1, hW.go hc2.2⟩
  refine hK _ ?_
  clear hK K
  (try simp only [Act.put, List.setIfInBounds_toArray, List.set_cons_zero, List.set_cons_succ])
  refine wpQuiet_step_h hlq ?_
  clear hlq lq
  intro K lq hlq hK
  refine wanted_go (by rfl) ?_
  refine ⟨?_, fun W hW => ?_, ?_⟩
  rotate_left
  · skip
    go_simp
    with_reducible rfl
  refine hK _ ?_
  clear hK K
  (try simp only [Act.put, List.setIfInBounds_toArray, List.set_cons_zero, List.set_cons_succ])
  refine wpQuiet_step_h hlq ?_
  clear hlq lq
  intro K lq hlq hK
  refine wanted_go (by rfl) ?_
  refine ⟨?_, fun W hW => ?_, ?_⟩
  rotate_left
  · skip
    go_simp
    with_reducible rfl
  refine hK _ ?_
  clear hK K
  (try simp only [Act.put, List.setIfInBounds_toArray, List.set_cons_zero, List.set_cons_succ])
  refine wpQuiet_step_h hlq ?_
  clear hlq lq
  intro K lq hlq hK
  refine wanted_go (by rfl) ?_
  refine ⟨?_, fun W hW => ?_, ?_⟩
  rotate_left
  · skip
    go_simp
    with_reducible rfl
  refine hK _ ?_
  clear hK K
  (try simp only [Act.put, List.setIfInBounds_toArray, List.set_cons_zero, List.set_cons_succ])
  refine wpQuiet_nil_h hlq ?_
  clear hlq lq hV7
  intro V8 hV9
  refine wpList_new rfl rfl rfl rfl z55 rfl (by rfl) (by rfl) (info55 Hr.out.1 _) (sizeP' Hr.out) (pCs_one _ _) ?_
  (try simp only [Act.put, List.setIfInBounds_toArray, List.set_cons_zero, List.set_cons_succ])
  have hB10 : Bz w [(V8.heap.size, oP p), (V1.heap.size, oA a), (w.heap.size + 2, oPP q), (w.heap.size + 1, oP p), (w.heap.size, oA a)] (V8.alloc (oP p)) := hV9.alloc (oP p) rfl
  clear hV9
  refine wpList_quiet (C := Bz w [(V8.heap.size, oP p), (V1.heap.size, oA a), (w.heap.size + 2, oPP q), (w.heap.size + 1, oP p), (w.heap.size, oA a)]) 1 (by rfl) hB10 ?_
  refine wpQuiet_hide ?_
  intro lq hlq
  refine wpQuiet_step_h hlq ?_
  clear hlq lq
  intro K lq hlq hK
  refine wanted_go (by rfl) ?_
  refine ⟨?_, fun W hW => ?_, ?_⟩
  rotate_left
  · skip
    go_simp
    with_reducible rfl
  refine hK _ ?_
  clear hK K
  (try simp only [Act.put, List.setIfInBounds_toArray, List.set_cons_zero, List.set_cons_succ])
  refine wpQuiet_nil_h hlq ?_
  clear hlq lq hB10
  intro V11 hV12
  go_wp2_with (refine wpList_quiet (C := Bz w [(V8.heap.size, oP p), (V1.heap.size, oA a), (w.heap.size + 2, oPP q), (w.heap.size + 1, oP p), (w.heap.size, oA a)]) 14 (by rfl) hV12 ?_)
  refine wpQuiet_hide ?_
  intro lq hlq
  refine wpQuiet_step_h hlq ?_
  clear hlq lq
  intro K lq hlq hK
  refine wanted_go (by rfl) ?_
  refine ⟨vPf p, fun W hW => ?_, ?_⟩
  · skip
    exact quiet_load 55 _ rfl rfl (ldP (hW.all.get 3 (x := (w.heap.size + 1, oP p)) rfl) Hp.out)
  refine hK _ ?_
  clear hK K
  (try simp only [Act.put, List.setIfInBounds_toArray, List.set_cons_zero, List.set_cons_succ])
  refine wpQuiet_step_h hlq ?_
  clear hlq lq
  intro K lq hlq hK
  refine wanted_go (by rfl) ?_
  refine ⟨.int .i64 0, fun W hW => ?_, ?_⟩
  · go_simp
    exact (chk_call Hp.out k1.out).mono fun e W2 hc2 => ⟨hc2.1, hW.go hc2.2⟩
  refine hK _ ?_
  clear hK K
  (try simp only [Act.put, List.setIfInBounds_toArray, List.set_cons_zero, List.set_cons_succ])
  refine wpQuiet_step_h hlq ?_
  clear hlq lq
  intro K lq hlq hK
  refine wanted_go (by rfl) ?_
  refine ⟨.int .i64 0, fun W hW => ?_, ?_⟩
  · go_simp
    exact (num_lit _).mono fun e W2 hc2 => ⟨hc2.1, hW.go hc2.2⟩
  refine hK _ ?_
  clear hK K
  (try simp only [Act.put, List.setIfInBounds_toArray, List.set_cons_zero, List.set_cons_succ])
  refine wpQuiet_step_h hlq ?_
  clear hlq lq
  intro K lq hlq hK
  refine wanted_go (by rfl) ?_
  refine ⟨?_, fun W hW => ?_, ?_⟩
  rotate_left
  · skip
    go_simp
    with_reducible rfl
  refine hK _ ?_
  clear hK K
  (try simp only [Act.put, List.setIfInBounds_toArray, List.set_cons_zero, List.set_cons_succ])
  refine wpQuiet_step_h hlq ?_
  clear hlq lq
  intro K lq hlq hK
  refine wanted_go (by rfl) ?_
  refine ⟨?_, fun W hW => ?_, ?_⟩
  rotate_left
  · skip
    go_simp
    with_reducible rfl
  refine hK _ ?_
  clear hK K
  (try simp only [Act.put, List.setIfInBounds_toArray, List.set_cons_zero, List.set_cons_succ])
  refine wpQuiet_step_h hlq ?_
  clear hlq lq
  intro K lq hlq hK
  refine wanted_go (by rfl) ?_
  refine ⟨vPf p, fun W hW => ?_, ?_⟩
  · skip
    exact quiet_load 55 _ rfl rfl (ldP (hW.all.get 0 (x := (V8.heap.size, oP p)) rfl) Hr.out)
  refine hK _ ?_
  clear hK K
  (try simp only [Act.put, List.setIfInBounds_toArray, List.set_cons_zero, List.set_cons_succ])
  refine wpQuiet_step_h hlq ?_
  clear hlq lq
  intro K lq hlq hK
  refine wanted_go (by rfl) ?_
  refine ⟨vPf p, fun W hW => ?_, ?_⟩
  · skip
    exact quiet_load 55 _ rfl rfl (ldP (hW.all.get 3 (x := (w.heap.size + 1, oP p)) rfl) Hp.out)
  refine hK _ ?_
  clear hK K
  (try simp only [Act.put, List.setIfInBounds_toArray, List.set_cons_zero, List.set_cons_succ])
  refine wpQuiet_step_h hlq ?_
  clear hlq lq
  intro K lq hlq hK
  refine wanted_go (by rfl) ?_
  refine ⟨.bool false, fun W hW => ?_, ?_⟩
  · skip
    exact quiet_eq (.inr rfl) (by rfl) (by rfl) (by rfl) guard55 (hP W)
  refine hK _ ?_
  clear hK K
  (try simp only [Act.put, List.setIfInBounds_toArray, List.set_cons_zero, List.set_cons_succ])
  refine wpQuiet_step_h hlq ?_
  clear hlq lq
  intro K lq hlq hK
  refine wanted_go (by rfl) ?_
  refine ⟨?_, fun W hW => ?_, ?_⟩
  rotate_left
  · skip
    go_simp
    with_reducible rfl
  refine hK _ ?_
  clear hK K
  (try simp only [Act.put, List.setIfInBounds_toArray, List.set_cons_zero, List.set_cons_succ])
  refine wpQuiet_step_h hlq ?_
  clear hlq lq
  intro K lq hlq hK
  refine wanted_go (by rfl) ?_
  refine ⟨?_, fun W hW => ?_, ?_⟩
  rotate_left
  · skip
    go_simp
    with_reducible rfl
  refine hK _ ?_
  clear hK K
  (try simp only [Act.put, List.setIfInBounds_toArray, List.set_cons_zero, List.set_cons_succ])
  refine wpQuiet_step_h hlq ?_
  clear hlq lq
  intro K lq hlq hK
  refine wanted_go (by rfl) ?_
  refine ⟨.int .i64 0, fun W hW => ?_, ?_⟩
  · go_simp
    exact (num_lit _).mono fun e W2 hc2 => ⟨hc2.1, hW.go hc2.2⟩
  refine hK _ ?_
  clear hK K
  (try simp only [Act.put, List.setIfInBounds_toArray, List.set_cons_zero, List.set_cons_succ])
  refine wpQuiet_step_h hlq ?_
  clear hlq lq
  intro K lq hlq hK
  refine wanted_go (by rfl) ?_
  refine ⟨?_, fun W hW => ?_, ?_⟩
  rotate_left
  · skip
    go_simp
    with_reducible rfl
  refine hK _ ?_
  clear hK K
  (try simp only [Act.put, List.setIfInBounds_toArray, List.set_cons_zero, List.set_cons_succ])
  refine wpQuiet_step_h hlq ?_
  clear hlq lq
  intro K lq hlq hK
  refine wanted_go (by rfl) ?_
  refine ⟨?_, fun W hW => ?_, ?_⟩
  rotate_left
  · skip
    go_simp
    with_reducible rfl
  refine hK _ ?_
  clear hK K
  (try simp only [Act.put, List.setIfInBounds_toArray, List.set_cons_zero, List.set_cons_succ])
  refine wpQuiet_step_h hlq ?_
  clear hlq lq
  intro K lq hlq hK
  refine wanted_go (by rfl) ?_
  refine ⟨?_, fun W hW => ?_, ?_⟩
  rotate_left
  · skip
    go_simp
    with_reducible rfl
  refine hK _ ?_
  clear hK K
  (try simp only [Act.put, List.setIfInBounds_toArray, List.set_cons_zero, List.set_cons_succ])
  refine wpQuiet_nil_h hlq ?_
  clear hlq lq hV12
  intro V13 hV14
  go_wp2_with (refine wpList_quiet_take (C := Bz w [(V8.heap.size, oP p), (V1.heap.size, oA a), (w.heap.size + 2, oPP q), (w.heap.size + 1, oP p), (w.heap.size, oA a)]) 9 6 (by rfl) hV14 ?_)
  (try simp only [List.take_succ_cons, List.take_zero, List.drop_succ_cons, List.drop_zero])
  refine wpQuiet_hide ?_
  intro lq hlq
  refine wpQuiet_step_h hlq ?_
  clear hlq lq
  intro K lq hlq hK
  refine wanted_go (by rfl) ?_
  refine ⟨vPP q, fun W hW => ?_, ?_⟩
  · skip
    exact quiet_load 57 _ rfl rfl (ldPP (hW.all.get 2 (x := (w.heap.size + 2, oPP q)) rfl) Hq.out)
  refine hK _ ?_
  clear hK K
  (try simp only [Act.put, List.setIfInBounds_toArray, List.set_cons_zero, List.set_cons_succ])
  refine wpQuiet_step_h hlq ?_
  clear hlq lq
  intro K lq hlq hK
  refine wanted_go (by rfl) ?_
  refine ⟨.string ⟨(pairS q).toArray⟩, fun W hW => ?_, ?_⟩
  · go_simp
    have E' := hW.env E
    exact (pairS_any E' Hq.out).mono fun e W2 hc2 => ⟨hc2.1, hW.go hc2.2⟩
  refine hK _ ?_
  clear hK K
  (try simp only [Act.put, List.setIfInBounds_toArray, List.set_cons_zero, List.set_cons_succ])
  refine wpQuiet_step_h hlq ?_
  clear hlq lq
  intro K lq hlq hK
  refine wanted_go (by rfl) ?_
  refine ⟨.tuple #[vPP u, .int .i64 f], fun W hW => ?_, ?_⟩
  · go_simp
    have E' := hW.env E
    exact (c3 E').mono fun e W2 hc2 => ⟨hc2.1, hW.go hc2.2⟩
  refine hK _ ?_
  clear hK K
  (try simp only [Act.put, List.setIfInBounds_toArray, List.set_cons_zero, List.set_cons_succ])
  refine wpQuiet_step_h hlq ?_
  clear hlq lq
  intro K lq hlq hK
  refine wanted_go (by rfl) ?_
  refine ⟨?_, fun W hW => ?_, ?_⟩
  rotate_left
  · skip
    go_simp
    with_reducible rfl
  refine hK _ ?_
  clear hK K
  (try simp only [Act.put, List.setIfInBounds_toArray, List.set_cons_zero, List.set_cons_succ])
  refine wpQuiet_step_h hlq ?_
  clear hlq lq
  intro K lq hlq hK
  refine wanted_go (by rfl) ?_
  refine ⟨?_, fun W hW => ?_, ?_⟩
  rotate_left
  · skip
    go_simp
    with_reducible rfl
  refine hK _ ?_
  clear hK K
  (try simp only [Act.put, List.setIfInBounds_toArray, List.set_cons_zero, List.set_cons_succ])
  refine wpQuiet_step_h hlq ?_
  clear hlq lq
  intro K lq hlq hK
  refine wanted_go (by rfl) ?_
  refine ⟨?_, fun W hW => ?_, ?_⟩
  rotate_left
  · skip
    go_simp
    with_reducible rfl
  refine hK _ ?_
  clear hK K
  (try simp only [Act.put, List.setIfInBounds_toArray, List.set_cons_zero, List.set_cons_succ])
  refine wpQuiet_nil_h hlq ?_
  clear hlq lq hV14
  intro V15 hV16
  refine wpList_new rfl rfl rfl rfl z57 rfl (by rfl) (by rfl) (info57 Hu.out) (sizePP' Hu.out) (pp_one _) ?_
  (try simp only [Act.put, List.setIfInBounds_toArray, List.set_cons_zero, List.set_cons_succ])
  have hB17 : Bz w [(V15.heap.size, oPP u), (V8.heap.size, oP p), (V1.heap.size, oA a), (w.heap.size + 2, oPP q), (w.heap.size + 1, oP p), (w.heap.size, oA a)] (V15.alloc (oPP u)) := hV16.alloc (oPP u) rfl
  clear hV16
  refine wpList_quiet (C := Bz w [(V15.heap.size, oPP u), (V8.heap.size, oP p), (V1.heap.size, oA a), (w.heap.size + 2, oPP q), (w.heap.size + 1, oP p), (w.heap.size, oA a)]) 1 (by rfl) hB17 ?_
  refine wpQuiet_hide ?_
  intro lq hlq
  refine wpQuiet_step_h hlq ?_
  clear hlq lq
  intro K lq hlq hK
  refine wanted_go (by rfl) ?_
  refine ⟨?_, fun W hW => ?_, ?_⟩
  rotate_left
  · skip
    go_simp
    with_reducible rfl
  refine hK _ ?_
  clear hK K
  (try simp only [Act.put, List.setIfInBounds_toArray, List.set_cons_zero, List.set_cons_succ])
  refine wpQuiet_nil_h hlq ?_
  clear hlq lq hB17
  intro V18 hV19
  go_wp2_with (refine wpList_quiet (C := Bz w [(V15.heap.size, oPP u), (V8.heap.size, oP p), (V1.heap.size, oA a), (w.heap.size + 2, oPP q), (w.heap.size + 1, oP p), (w.heap.size, oA a)]) 18 (by rfl) hV19 ?_)
  refine wpQuiet_hide ?_
  intro lq hlq
  refine wpQuiet_step_h hlq ?_
  clear hlq lq
  intro K lq hlq hK
  refine wanted_go (by rfl) ?_
  refine ⟨vPP q, fun W hW => ?_, ?_⟩
  · skip
    exact quiet_load 57 _ rfl rfl (ldPP (hW.all.get 3 (x := (w.heap.size + 2, oPP q)) rfl) Hq.out)
  refine hK _ ?_
  clear hK K
  (try simp only [Act.put, List.setIfInBounds_toArray, List.set_cons_zero, List.set_cons_succ])
  refine wpQuiet_step_h hlq ?_
  clear hlq lq
  intro K lq hlq hK
  refine wanted_go (by rfl) ?_
  refine ⟨.int .i64 21, fun W hW => ?_, ?_⟩
  · go_simp
    have E' := hW.env E
    exact (chkPP_call Hq.out k2.out).mono fun e W2 hc2 => ⟨hc2.1, hW.go hc2.2⟩
  refine hK _ ?_
  clear hK K
  (try simp only [Act.put, List.setIfInBounds_toArray, List.set_cons_zero, List.set_cons_succ])
  refine wpQuiet_step_h hlq ?_
  clear hlq lq
  intro K lq hlq hK
  refine wanted_go (by rfl) ?_
  refine ⟨.int .i64 21, fun W hW => ?_, ?_⟩
  · go_simp
    have E' := hW.env E
    exact (num_lit _).mono fun e W2 hc2 => ⟨hc2.1, hW.go hc2.2⟩
  refine hK _ ?_
  clear hK K
  (try simp only [Act.put, List.setIfInBounds_toArray, List.set_cons_zero, List.set_cons_succ])
  refine wpQuiet_step_h hlq ?_
  clear hlq lq
  intro K lq hlq hK
  refine wanted_go (by rfl) ?_
  refine ⟨?_, fun W hW => ?_, ?_⟩
  rotate_left
  · skip
    go_simp
    with_reducible rfl
  refine hK _ ?_
  clear hK K
  (try simp only [Act.put, List.setIfInBounds_toArray, List.set_cons_zero, List.set_cons_succ])
  refine wpQuiet_step_h hlq ?_
  clear hlq lq
  intro K lq hlq hK
  refine wanted_go (by rfl) ?_
  refine ⟨?_, fun W hW => ?_, ?_⟩
  rotate_left
  · skip
    go_simp
    with_reducible rfl
  refine hK _ ?_
  clear hK K
  (try simp only [Act.put, List.setIfInBounds_toArray, List.set_cons_zero, List.set_cons_succ])
  refine wpQuiet_step_h hlq ?_
  clear hlq lq
  intro K lq hlq hK
  go_simp
  refine hK _ ?_
  clear hK K
  refine wpQuiet_step_h hlq ?_
  clear hlq lq
  intro K lq hlq hK
  go_simp
  refine hK _ ?_
  clear hK K
  refine wpQuiet_step_h hlq ?_
  clear hlq lq
  intro K lq hlq hK
  go_simp
  refine hK _ ?_
  clear hK K
  refine wpQuiet_step_h hlq ?_
  clear hlq lq
  intro K lq hlq hK
  go_simp
  refine hK _ ?_
  clear hK K
  refine wpQuiet_step_h hlq ?_
  clear hlq lq
  intro K lq hlq hK
  go_simp
  refine hK _ ?_
  clear hK K
  refine wpQuiet_step_h hlq ?_
  clear hlq lq
  intro K lq hlq hK
  go_simp
  refine hK _ ?_
  clear hK K
  refine wpQuiet_step_h hlq ?_
  clear hlq lq
  intro K lq hlq hK
  go_simp
  refine hK _ ?_
  clear hK K
  refine wpQuiet_step_h hlq ?_
  clear hlq lq
  intro K lq hlq hK
  go_simp
  refine hK _ ?_
  clear hK K
  refine wpQuiet_step_h hlq ?_
  clear hlq lq
  intro K lq hlq hK
  refine wanted_go (by rfl) ?_
  refine ⟨?_, fun W hW => ?_, ?_⟩
  rotate_left
  · skip
    go_simp
    with_reducible rfl
  refine hK _ ?_
  clear hK K
  (try simp only [Act.put, List.setIfInBounds_toArray, List.set_cons_zero, List.set_cons_succ])
  refine wpQuiet_step_h hlq ?_
  clear hlq lq
  intro K lq hlq hK
  refine wanted_go (by rfl) ?_
  refine ⟨?_, fun W hW => ?_, ?_⟩
  rotate_left
  · skip
    go_simp
    with_reducible rfl
  refine hK _ ?_
  clear hK K
  (try simp only [Act.put, List.setIfInBounds_toArray, List.set_cons_zero, List.set_cons_succ])
  refine wpQuiet_step_h hlq ?_
  clear hlq lq
  intro K lq hlq hK
  refine wanted_go (by rfl) ?_
  refine ⟨.bool true, fun W hW => ?_, ?_⟩
  · go_simp
    have E' := hW.env E
    exact (live02_any E').mono fun e W2 hc2 => ⟨hc2.1, hW.go hc2.2⟩
  refine hK _ ?_
  clear hK K
  (try simp only [Act.put, List.setIfInBounds_toArray, List.set_cons_zero, List.set_cons_succ])
  refine wpQuiet_step_h hlq ?_
  clear hlq lq
  intro K lq hlq hK
  refine wanted_go (by rfl) ?_
  refine ⟨?_, fun W hW => ?_, ?_⟩
  rotate_left
  · skip
    go_simp
    with_reducible rfl
  refine hK _ ?_
  clear hK K
  (try simp only [Act.put, List.setIfInBounds_toArray, List.set_cons_zero, List.set_cons_succ])
  refine wpQuiet_step_h hlq ?_
  clear hlq lq
  intro K lq hlq hK
  refine wanted_go (by rfl) ?_
  refine ⟨?_, fun W hW => ?_, ?_⟩
  rotate_left
  · skip
    go_simp
    with_reducible rfl
  refine hK _ ?_
  clear hK K
  (try simp only [Act.put, List.setIfInBounds_toArray, List.set_cons_zero, List.set_cons_succ])
  refine wpQuiet_nil_h hlq ?_
  clear hlq lq hV19
  intro V20 hV21
  go_wp2_with fail
  go_ret
  exact ⟨rfl, hV21.bel⟩
set_option maxRecDepth 100000 in
set_option maxHeartbeats 3200000 in
theorem back_ny {a : List Int} (ha : isA a) {p r : Pf} (hp : p.ok) {q u : Pr} (hq : q.fit) {e f : Int} (h1 : chk p = false) (h2 : chkPP q = true) (hpr : parsePS ⟨(pfxS p).toArray⟩ = (r, e)) (hqu : parsePPS ⟨(pairS q).toArray⟩ = (u, f)) (hro : r.ok) (huo : u.fit)  (hu : q = u) (hf : 0 = f) {w : World} (E : Env w) : Calls Tryz.prog 13 #[vA a, vPf p, vPP q] w fun e w' => e = .returned (.bool true) ∧ Below w.heap.size w w' := by
  subst hu; subst hf
  have hA : ∀ W, (binOp .neq 42 (vA a) (vA a)).run Tryz.prog W = .ok (.bool false) W := fun W => by rw [neq_A W ha ha, decide_eq_true rfl]; rfl
  have hQ : ∀ W, (binOp .eql 57 (vPP q) (vPP q)).run Tryz.prog W = .ok (.bool true) W := fun W => by rw [eql_PP W hq hq, decide_eq_true rfl]
  have lA : (⟨(printS a).toArray⟩ : ByteArray).size < 4294967281 := by
    show (printS a).toArray.size < _
    rw [List.size_toArray]
    unfold printS
    split
    · have := dotted_len ha; omega
    · have := grouped_len ha; omega
  have lP : (⟨(pfxS p).toArray⟩ : ByteArray).size < 4294967281 := by show (pfxS p).toArray.size < _; rw [List.size_toArray]; have := pfx_len hp.1; omega
  have lQ : (⟨(pairS q).toArray⟩ : ByteArray).size < 4294967281 := by
    show (pairS q).toArray.size < _
    rw [List.size_toArray]
    have := pairS_len hq; omega
  have c1 : ∀ {W : World}, Env W → Calls Tryz.prog 29 #[.string ⟨(printS a).toArray⟩] W fun e w' => e = .returned (.tuple #[vA a, .int .i64 0]) ∧ Below W.heap.size W w' := fun E => parse_is E lA (parse_print ha)
  have c2 : ∀ {W : World}, Env W → Calls Tryz.prog 56 #[.string ⟨(pfxS p).toArray⟩] W fun e' w' => e' = .returned (.tuple #[vPf r, .int .i64 e]) ∧ Below W.heap.size W w' := fun E => pp_is E lP hpr
  have c3 : ∀ {W : World}, Env W → Calls Tryz.prog 58 #[.string ⟨(pairS q).toArray⟩] W fun e' w' => e' = .returned (.tuple #[vPP q, .int .i64 0]) ∧ Below W.heap.size W w' := fun E => (pair_any E lQ).mono fun e' w' h => ⟨by have := h.1; unfold PairR at this; rw [this, hqu], h.2⟩
  have k1 : (if chk p then (0 : Int) else 21) = 21 := by rw [h1]; rfl
  have k2 : (if chkPP q then (0 : Int) else 21) = 0 := by rw [h2]; rfl
  have Ha := Lib.hid ha
  have Hp := Lib.hid hp
  have Hq := Lib.hid hq
  have Hr := Lib.hid hro
  have Hu := Lib.hid huo
  replace k1 := Lib.hid k1
  replace k2 := Lib.hid k2
  have B := ((((Bz.start w).alloc (oA a) (g := w.heap.size) rfl).alloc (oP p) (g := w.heap.size + 1) (by simp)).alloc (oPP q) (g := w.heap.size + 2) (by simp) : Bz w [(w.heap.size + 2, oPP q), (w.heap.size + 1, oP p), (w.heap.size, oA a)] _)
  clear ha hp hq h1 h2 hpr hqu hro huo lA lP lQ
  unfold vA vPf vPP
  go_enter Tryz.func13, Tryz.ntmps13
  go_wp2_with (refine wpList_quiet_take (C := Bz w [(w.heap.size + 2, oPP q), (w.heap.size + 1, oP p), (w.heap.size, oA a)]) 9 6 (by rfl) B ?_)
  (try simp only [List.take_succ_cons, List.take_zero, List.drop_succ_cons, List.drop_zero])
  refine wpQuiet_hide ?_
  intro lq hlq
  refine wpQuiet_step_h hlq ?_
  clear hlq lq
  intro K lq hlq hK
  refine wanted_go (by rfl) ?_
  refine ⟨vA a, fun W hW => ?_, ?_⟩
  · skip
    exact quiet_load 42 _ rfl rfl (ldA (hW.all.get 2 (x := (w.heap.size, oA a)) rfl) Ha.out)
  refine hK _ ?_
  clear hK K
  (try simp only [Act.put, List.setIfInBounds_toArray, List.set_cons_zero, List.set_cons_succ])
  refine wpQuiet_step_h hlq ?_
  clear hlq lq
  intro K lq hlq hK
  refine wanted_go (by rfl) ?_
  refine ⟨.string ⟨(printS a).toArray⟩, fun W hW => ?_, ?_⟩
  · go_simp
    have E' := hW.env E
    exact (print_any E' Ha.out).mono fun e W2 hc2 => ⟨hc2.1, hW.go hc2.2⟩
  refine hK _ ?_
  clear hK K
  (try simp only [Act.put, List.setIfInBounds_toArray, List.set_cons_zero, List.set_cons_succ])
  refine wpQuiet_step_h hlq ?_
  clear hlq lq
  intro K lq hlq hK
  refine wanted_go (by rfl) ?_
  refine ⟨.tuple #[vA a, .int .i64 0], fun W hW => ?_, ?_⟩
  · go_simp
    have E' := hW.env E
    exact (c1 E').mono fun e W2 hc2 => ⟨hc2.1, hW.go hc2.2⟩
  refine hK _ ?_
  clear hK K
  (try simp only [Act.put, List.setIfInBounds_toArray, List.set_cons_zero, List.set_cons_succ])
  refine wpQuiet_step_h hlq ?_
  clear hlq lq
  intro K lq hlq hK
  refine wanted_go (by rfl) ?_
  refine ⟨?_, fun W hW => ?_, ?_⟩
  rotate_left
  · skip
    go_simp
    with_reducible rfl
  refine hK _ ?_
  clear hK K
  (try simp only [Act.put, List.setIfInBounds_toArray, List.set_cons_zero, List.set_cons_succ])
  refine wpQuiet_step_h hlq ?_
  clear hlq lq
  intro K lq hlq hK
  refine wanted_go (by rfl) ?_
  refine ⟨?_, fun W hW => ?_, ?_⟩
  rotate_left
  · skip
    go_simp
    with_reducible rfl
  refine hK _ ?_
  clear hK K
  (try simp only [Act.put, List.setIfInBounds_toArray, List.set_cons_zero, List.set_cons_succ])
  refine wpQuiet_step_h hlq ?_
  clear hlq lq
  intro K lq hlq hK
  refine wanted_go (by rfl) ?_
  refine ⟨?_, fun W hW => ?_, ?_⟩
  rotate_left
  · skip
    go_simp
    with_reducible rfl
  refine hK _ ?_
  clear hK K
  (try simp only [Act.put, List.setIfInBounds_toArray, List.set_cons_zero, List.set_cons_succ])
  refine wpQuiet_nil_h hlq ?_
  clear hlq lq B
  intro V1 hV2
  refine wpList_new rfl rfl rfl rfl z42 rfl (by rfl) (by rfl) (info42 Ha.out) (sizeA' Ha.out) (numsA_one _) ?_
  (try simp only [Act.put, List.setIfInBounds_toArray, List.set_cons_zero, List.set_cons_succ])
  have hB3 : Bz w [(V1.heap.size, oA a), (w.heap.size + 2, oPP q), (w.heap.size + 1, oP p), (w.heap.size, oA a)] (V1.alloc (oA a)) := hV2.alloc (oA a) rfl
  clear hV2
  refine wpList_quiet (C := Bz w [(V1.heap.size, oA a), (w.heap.size + 2, oPP q), (w.heap.size + 1, oP p), (w.heap.size, oA a)]) 1 (by rfl) hB3 ?_
  refine wpQuiet_hide ?_
  intro lq hlq
  refine wpQuiet_step_h hlq ?_
  clear hlq lq
  intro K lq hlq hK
  refine wanted_go (by rfl) ?_
  refine ⟨?_, fun W hW => ?_, ?_⟩
  rotate_left
  · skip
    go_simp
    with_reducible rfl
  refine hK _ ?_
  clear hK K
  (try simp only [Act.put, List.setIfInBounds_toArray, List.set_cons_zero, List.set_cons_succ])
  refine wpQuiet_nil_h hlq ?_
  clear hlq lq hB3
  intro V4 hV5
  go_wp2_with (refine wpList_quiet (C := Bz w [(V1.heap.size, oA a), (w.heap.size + 2, oPP q), (w.heap.size + 1, oP p), (w.heap.size, oA a)]) 8 (by rfl) hV5 ?_)
  refine wpQuiet_hide ?_
  intro lq hlq
  refine wpQuiet_step_h hlq ?_
  clear hlq lq
  intro K lq hlq hK
  refine wanted_go (by rfl) ?_
  refine ⟨vA a, fun W hW => ?_, ?_⟩
  · skip
    exact quiet_load 42 _ rfl rfl (ldA (hW.all.get 0 (x := (V1.heap.size, oA a)) rfl) Ha.out)
  refine hK _ ?_
  clear hK K
  (try simp only [Act.put, List.setIfInBounds_toArray, List.set_cons_zero, List.set_cons_succ])
  refine wpQuiet_step_h hlq ?_
  clear hlq lq
  intro K lq hlq hK
  refine wanted_go (by rfl) ?_
  refine ⟨vA a, fun W hW => ?_, ?_⟩
  · skip
    exact quiet_load 42 _ rfl rfl (ldA (hW.all.get 3 (x := (w.heap.size, oA a)) rfl) Ha.out)
  refine hK _ ?_
  clear hK K
  (try simp only [Act.put, List.setIfInBounds_toArray, List.set_cons_zero, List.set_cons_succ])
  refine wpQuiet_step_h hlq ?_
  clear hlq lq
  intro K lq hlq hK
  refine wanted_go (by rfl) ?_
  refine ⟨.bool false, fun W hW => ?_, ?_⟩
  · skip
    exact quiet_eq (.inr rfl) (by rfl) (by rfl) (by rfl) guard42 (hA W)
  refine hK _ ?_
  clear hK K
  (try simp only [Act.put, List.setIfInBounds_toArray, List.set_cons_zero, List.set_cons_succ])
  refine wpQuiet_step_h hlq ?_
  clear hlq lq
  intro K lq hlq hK
  refine wanted_go (by rfl) ?_
  refine ⟨?_, fun W hW => ?_, ?_⟩
  rotate_left
  · skip
    go_simp
    with_reducible rfl
  refine hK _ ?_
  clear hK K
  (try simp only [Act.put, List.setIfInBounds_toArray, List.set_cons_zero, List.set_cons_succ])
  refine wpQuiet_step_h hlq ?_
  clear hlq lq
  intro K lq hlq hK
  refine wanted_go (by rfl) ?_
  refine ⟨?_, fun W hW => ?_, ?_⟩
  rotate_left
  · skip
    go_simp
    with_reducible rfl
  refine hK _ ?_
  clear hK K
  (try simp only [Act.put, List.setIfInBounds_toArray, List.set_cons_zero, List.set_cons_succ])
  refine wpQuiet_step_h hlq ?_
  clear hlq lq
  intro K lq hlq hK
  refine wanted_go (by rfl) ?_
  refine ⟨.int .i64 0, fun W hW => ?_, ?_⟩
  · go_simp
    exact (num_lit _).mono fun e W2 hc2 => ⟨hc2.1, hW.go hc2.2⟩
  refine hK _ ?_
  clear hK K
  (try simp only [Act.put, List.setIfInBounds_toArray, List.set_cons_zero, List.set_cons_succ])
  refine wpQuiet_step_h hlq ?_
  clear hlq lq
  intro K lq hlq hK
  refine wanted_go (by rfl) ?_
  refine ⟨?_, fun W hW => ?_, ?_⟩
  rotate_left
  · skip
    go_simp
    with_reducible rfl
  refine hK _ ?_
  clear hK K
  (try simp only [Act.put, List.setIfInBounds_toArray, List.set_cons_zero, List.set_cons_succ])
  refine wpQuiet_step_h hlq ?_
  clear hlq lq
  intro K lq hlq hK
  refine wanted_go (by rfl) ?_
  refine ⟨?_, fun W hW => ?_, ?_⟩
  rotate_left
  · skip
    go_simp
    with_reducible rfl
  refine hK _ ?_
  clear hK K
  (try simp only [Act.put, List.setIfInBounds_toArray, List.set_cons_zero, List.set_cons_succ])
  refine wpQuiet_nil_h hlq ?_
  clear hlq lq hV5
  intro V6 hV7
  go_wp2_with (refine wpList_quiet_take (C := Bz w [(V1.heap.size, oA a), (w.heap.size + 2, oPP q), (w.heap.size + 1, oP p), (w.heap.size, oA a)]) 9 6 (by rfl) hV7 ?_)
  (try simp only [List.take_succ_cons, List.take_zero, List.drop_succ_cons, List.drop_zero])
  refine wpQuiet_hide ?_
  intro lq hlq
  refine wpQuiet_step_h hlq ?_
  clear hlq lq
  intro K lq hlq hK
  refine wanted_go (by rfl) ?_
  refine ⟨vPf p, fun W hW => ?_, ?_⟩
  · skip
    exact quiet_load 55 _ rfl rfl (ldP (hW.all.get 2 (x := (w.heap.size + 1, oP p)) rfl) Hp.out)
  refine hK _ ?_
  clear hK K
  (try simp only [Act.put, List.setIfInBounds_toArray, List.set_cons_zero, List.set_cons_succ])
  refine wpQuiet_step_h hlq ?_
  clear hlq lq
  intro K lq hlq hK
  refine wanted_go (by rfl) ?_
  refine ⟨.string ⟨(pfxS p).toArray⟩, fun W hW => ?_, ?_⟩
  · go_simp
    have E' := hW.env E
    exact (pfx_any E' Hp.out).mono fun e W2 hc2 => ⟨hc2.1, hW.go hc2.2⟩
  refine hK _ ?_
  clear hK K
  (try simp only [Act.put, List.setIfInBounds_toArray, List.set_cons_zero, List.set_cons_succ])
  refine wpQuiet_step_h hlq ?_
  clear hlq lq
  intro K lq hlq hK
  refine wanted_go (by rfl) ?_
  refine ⟨.tuple #[vPf r, .int .i64 e], fun W hW => ?_, ?_⟩
  · go_simp
    have E' := hW.env E
    exact (c2 E').mono fun e W2 hc2 => ⟨hc2.1, hW.go hc2.2⟩
  refine hK _ ?_
  clear hK K
  (try simp only [Act.put, List.setIfInBounds_toArray, List.set_cons_zero, List.set_cons_succ])
  refine wpQuiet_step_h hlq ?_
  clear hlq lq
  intro K lq hlq hK
  refine wanted_go (by rfl) ?_
  refine ⟨?_, fun W hW => ?_, ?_⟩
  rotate_left
  · skip
    go_simp
    with_reducible rfl
  refine hK _ ?_
  clear hK K
  (try simp only [Act.put, List.setIfInBounds_toArray, List.set_cons_zero, List.set_cons_succ])
  refine wpQuiet_step_h hlq ?_
  clear hlq lq
  intro K lq hlq hK
  refine wanted_go (by rfl) ?_
  refine ⟨?_, fun W hW => ?_, ?_⟩
  rotate_left
  · skip
    go_simp
    with_reducible rfl
  refine hK _ ?_
  clear hK K
  (try simp only [Act.put, List.setIfInBounds_toArray, List.set_cons_zero, List.set_cons_succ])
  refine wpQuiet_step_h hlq ?_
  clear hlq lq
  intro K lq hlq hK
  refine wanted_go (by rfl) ?_
  refine ⟨?_, fun W hW => ?_, ?_⟩
  rotate_left
  · skip
    go_simp
    with_reducible rfl
  refine hK _ ?_
  clear hK K
  (try simp only [Act.put, List.setIfInBounds_toArray, List.set_cons_zero, List.set_cons_succ])
  refine wpQuiet_nil_h hlq ?_
  clear hlq lq hV7
  intro V8 hV9
  refine wpList_new rfl rfl rfl rfl z55 rfl (by rfl) (by rfl) (info55 Hr.out.1 _) (sizeP' Hr.out) (pCs_one _ _) ?_
  (try simp only [Act.put, List.setIfInBounds_toArray, List.set_cons_zero, List.set_cons_succ])
  have hB10 : Bz w [(V8.heap.size, oP r), (V1.heap.size, oA a), (w.heap.size + 2, oPP q), (w.heap.size + 1, oP p), (w.heap.size, oA a)] (V8.alloc (oP r)) := hV9.alloc (oP r) rfl
  clear hV9
  refine wpList_quiet (C := Bz w [(V8.heap.size, oP r), (V1.heap.size, oA a), (w.heap.size + 2, oPP q), (w.heap.size + 1, oP p), (w.heap.size, oA a)]) 1 (by rfl) hB10 ?_
  refine wpQuiet_hide ?_
  intro lq hlq
  refine wpQuiet_step_h hlq ?_
  clear hlq lq
  intro K lq hlq hK
  refine wanted_go (by rfl) ?_
  refine ⟨?_, fun W hW => ?_, ?_⟩
  rotate_left
  · skip
    go_simp
    with_reducible rfl
  refine hK _ ?_
  clear hK K
  (try simp only [Act.put, List.setIfInBounds_toArray, List.set_cons_zero, List.set_cons_succ])
  refine wpQuiet_nil_h hlq ?_
  clear hlq lq hB10
  intro V11 hV12
  go_wp2_with (refine wpList_quiet (C := Bz w [(V8.heap.size, oP r), (V1.heap.size, oA a), (w.heap.size + 2, oPP q), (w.heap.size + 1, oP p), (w.heap.size, oA a)]) 14 (by rfl) hV12 ?_)
  refine wpQuiet_hide ?_
  intro lq hlq
  refine wpQuiet_step_h hlq ?_
  clear hlq lq
  intro K lq hlq hK
  refine wanted_go (by rfl) ?_
  refine ⟨vPf p, fun W hW => ?_, ?_⟩
  · skip
    exact quiet_load 55 _ rfl rfl (ldP (hW.all.get 3 (x := (w.heap.size + 1, oP p)) rfl) Hp.out)
  refine hK _ ?_
  clear hK K
  (try simp only [Act.put, List.setIfInBounds_toArray, List.set_cons_zero, List.set_cons_succ])
  refine wpQuiet_step_h hlq ?_
  clear hlq lq
  intro K lq hlq hK
  refine wanted_go (by rfl) ?_
  refine ⟨.int .i64 21, fun W hW => ?_, ?_⟩
  · go_simp
    exact (chk_call Hp.out k1.out).mono fun e W2 hc2 => ⟨hc2.1, hW.go hc2.2⟩
  refine hK _ ?_
  clear hK K
  (try simp only [Act.put, List.setIfInBounds_toArray, List.set_cons_zero, List.set_cons_succ])
  refine wpQuiet_step_h hlq ?_
  clear hlq lq
  intro K lq hlq hK
  refine wanted_go (by rfl) ?_
  refine ⟨.int .i64 21, fun W hW => ?_, ?_⟩
  · go_simp
    exact (num_lit _).mono fun e W2 hc2 => ⟨hc2.1, hW.go hc2.2⟩
  refine hK _ ?_
  clear hK K
  (try simp only [Act.put, List.setIfInBounds_toArray, List.set_cons_zero, List.set_cons_succ])
  refine wpQuiet_step_h hlq ?_
  clear hlq lq
  intro K lq hlq hK
  refine wanted_go (by rfl) ?_
  refine ⟨?_, fun W hW => ?_, ?_⟩
  rotate_left
  · skip
    go_simp
    with_reducible rfl
  refine hK _ ?_
  clear hK K
  (try simp only [Act.put, List.setIfInBounds_toArray, List.set_cons_zero, List.set_cons_succ])
  refine wpQuiet_step_h hlq ?_
  clear hlq lq
  intro K lq hlq hK
  refine wanted_go (by rfl) ?_
  refine ⟨?_, fun W hW => ?_, ?_⟩
  rotate_left
  · skip
    go_simp
    with_reducible rfl
  refine hK _ ?_
  clear hK K
  (try simp only [Act.put, List.setIfInBounds_toArray, List.set_cons_zero, List.set_cons_succ])
  refine wpQuiet_step_h hlq ?_
  clear hlq lq
  intro K lq hlq hK
  go_simp
  refine hK _ ?_
  clear hK K
  refine wpQuiet_step_h hlq ?_
  clear hlq lq
  intro K lq hlq hK
  go_simp
  refine hK _ ?_
  clear hK K
  refine wpQuiet_step_h hlq ?_
  clear hlq lq
  intro K lq hlq hK
  go_simp
  refine hK _ ?_
  clear hK K
  refine wpQuiet_step_h hlq ?_
  clear hlq lq
  intro K lq hlq hK
  go_simp
  refine hK _ ?_
  clear hK K
  refine wpQuiet_step_h hlq ?_
  clear hlq lq
  intro K lq hlq hK
  go_simp
  refine hK _ ?_
  clear hK K
  refine wpQuiet_step_h hlq ?_
  clear hlq lq
  intro K lq hlq hK
  go_simp
  refine hK _ ?_
  clear hK K
  refine wpQuiet_step_h hlq ?_
  clear hlq lq
  intro K lq hlq hK
  go_simp
  refine hK _ ?_
  clear hK K
  refine wpQuiet_step_h hlq ?_
  clear hlq lq
  intro K lq hlq hK
  go_simp
  refine hK _ ?_
  clear hK K
  refine wpQuiet_step_h hlq ?_
  clear hlq lq
  intro K lq hlq hK
  refine wanted_go (by rfl) ?_
  refine ⟨?_, fun W hW => ?_, ?_⟩
  rotate_left
  · skip
    go_simp
    with_reducible rfl
  refine hK _ ?_
  clear hK K
  (try simp only [Act.put, List.setIfInBounds_toArray, List.set_cons_zero, List.set_cons_succ])
  refine wpQuiet_nil_h hlq ?_
  clear hlq lq hV12
  intro V13 hV14
  go_wp2_with (refine wpList_quiet_take (C := Bz w [(V8.heap.size, oP r), (V1.heap.size, oA a), (w.heap.size + 2, oPP q), (w.heap.size + 1, oP p), (w.heap.size, oA a)]) 9 6 (by rfl) hV14 ?_)
  (try simp only [List.take_succ_cons, List.take_zero, List.drop_succ_cons, List.drop_zero])
  refine wpQuiet_hide ?_
  intro lq hlq
  refine wpQuiet_step_h hlq ?_
  clear hlq lq
  intro K lq hlq hK
  refine wanted_go (by rfl) ?_
  refine ⟨vPP q, fun W hW => ?_, ?_⟩
  · skip
    exact quiet_load 57 _ rfl rfl (ldPP (hW.all.get 2 (x := (w.heap.size + 2, oPP q)) rfl) Hq.out)
  refine hK _ ?_
  clear hK K
  (try simp only [Act.put, List.setIfInBounds_toArray, List.set_cons_zero, List.set_cons_succ])
  refine wpQuiet_step_h hlq ?_
  clear hlq lq
  intro K lq hlq hK
  refine wanted_go (by rfl) ?_
  refine ⟨.string ⟨(pairS q).toArray⟩, fun W hW => ?_, ?_⟩
  · go_simp
    have E' := hW.env E
    exact (pairS_any E' Hq.out).mono fun e W2 hc2 => ⟨hc2.1, hW.go hc2.2⟩
  refine hK _ ?_
  clear hK K
  (try simp only [Act.put, List.setIfInBounds_toArray, List.set_cons_zero, List.set_cons_succ])
  refine wpQuiet_step_h hlq ?_
  clear hlq lq
  intro K lq hlq hK
  refine wanted_go (by rfl) ?_
  refine ⟨.tuple #[vPP q, .int .i64 0], fun W hW => ?_, ?_⟩
  · go_simp
    have E' := hW.env E
    exact (c3 E').mono fun e W2 hc2 => ⟨hc2.1, hW.go hc2.2⟩
  refine hK _ ?_
  clear hK K
  (try simp only [Act.put, List.setIfInBounds_toArray, List.set_cons_zero, List.set_cons_succ])
  refine wpQuiet_step_h hlq ?_
  clear hlq lq
  intro K lq hlq hK
  refine wanted_go (by rfl) ?_
  refine ⟨?_, fun W hW => ?_, ?_⟩
  rotate_left
  · skip
    go_simp
    with_reducible rfl
  refine hK _ ?_
  clear hK K
  (try simp only [Act.put, List.setIfInBounds_toArray, List.set_cons_zero, List.set_cons_succ])
  refine wpQuiet_step_h hlq ?_
  clear hlq lq
  intro K lq hlq hK
  refine wanted_go (by rfl) ?_
  refine ⟨?_, fun W hW => ?_, ?_⟩
  rotate_left
  · skip
    go_simp
    with_reducible rfl
  refine hK _ ?_
  clear hK K
  (try simp only [Act.put, List.setIfInBounds_toArray, List.set_cons_zero, List.set_cons_succ])
  refine wpQuiet_step_h hlq ?_
  clear hlq lq
  intro K lq hlq hK
  refine wanted_go (by rfl) ?_
  refine ⟨?_, fun W hW => ?_, ?_⟩
  rotate_left
  · skip
    go_simp
    with_reducible rfl
  refine hK _ ?_
  clear hK K
  (try simp only [Act.put, List.setIfInBounds_toArray, List.set_cons_zero, List.set_cons_succ])
  refine wpQuiet_nil_h hlq ?_
  clear hlq lq hV14
  intro V15 hV16
  refine wpList_new rfl rfl rfl rfl z57 rfl (by rfl) (by rfl) (info57 Hu.out) (sizePP' Hu.out) (pp_one _) ?_
  (try simp only [Act.put, List.setIfInBounds_toArray, List.set_cons_zero, List.set_cons_succ])
  have hB17 : Bz w [(V15.heap.size, oPP q), (V8.heap.size, oP r), (V1.heap.size, oA a), (w.heap.size + 2, oPP q), (w.heap.size + 1, oP p), (w.heap.size, oA a)] (V15.alloc (oPP q)) := hV16.alloc (oPP q) rfl
  clear hV16
  refine wpList_quiet (C := Bz w [(V15.heap.size, oPP q), (V8.heap.size, oP r), (V1.heap.size, oA a), (w.heap.size + 2, oPP q), (w.heap.size + 1, oP p), (w.heap.size, oA a)]) 1 (by rfl) hB17 ?_
  refine wpQuiet_hide ?_
  intro lq hlq
  refine wpQuiet_step_h hlq ?_
  clear hlq lq
  intro K lq hlq hK
  refine wanted_go (by rfl) ?_
  refine ⟨?_, fun W hW => ?_, ?_⟩
  rotate_left
  · skip
    go_simp
    with_reducible rfl
  refine hK _ ?_
  clear hK K
  (try simp only [Act.put, List.setIfInBounds_toArray, List.set_cons_zero, List.set_cons_succ])
  refine wpQuiet_nil_h hlq ?_
  clear hlq lq hB17
  intro V18 hV19
  go_wp2_with (refine wpList_quiet (C := Bz w [(V15.heap.size, oPP q), (V8.heap.size, oP r), (V1.heap.size, oA a), (w.heap.size + 2, oPP q), (w.heap.size + 1, oP p), (w.heap.size, oA a)]) 18 (by rfl) hV19 ?_)
  refine wpQuiet_hide ?_
  intro lq hlq
  refine wpQuiet_step_h hlq ?_
  clear hlq lq
  intro K lq hlq hK
  refine wanted_go (by rfl) ?_
  refine ⟨vPP q, fun W hW => ?_, ?_⟩
  · skip
    exact quiet_load 57 _ rfl rfl (ldPP (hW.all.get 3 (x := (w.heap.size + 2, oPP q)) rfl) Hq.out)
  refine hK _ ?_
  clear hK K
  (try simp only [Act.put, List.setIfInBounds_toArray, List.set_cons_zero, List.set_cons_succ])
  refine wpQuiet_step_h hlq ?_
  clear hlq lq
  intro K lq hlq hK
  refine wanted_go (by rfl) ?_
  refine ⟨.int .i64 0, fun W hW => ?_, ?_⟩
  · go_simp
    have E' := hW.env E
    exact (chkPP_call Hq.out k2.out).mono fun e W2 hc2 => ⟨hc2.1, hW.go hc2.2⟩
  refine hK _ ?_
  clear hK K
  (try simp only [Act.put, List.setIfInBounds_toArray, List.set_cons_zero, List.set_cons_succ])
  refine wpQuiet_step_h hlq ?_
  clear hlq lq
  intro K lq hlq hK
  refine wanted_go (by rfl) ?_
  refine ⟨.int .i64 0, fun W hW => ?_, ?_⟩
  · go_simp
    have E' := hW.env E
    exact (num_lit _).mono fun e W2 hc2 => ⟨hc2.1, hW.go hc2.2⟩
  refine hK _ ?_
  clear hK K
  (try simp only [Act.put, List.setIfInBounds_toArray, List.set_cons_zero, List.set_cons_succ])
  refine wpQuiet_step_h hlq ?_
  clear hlq lq
  intro K lq hlq hK
  refine wanted_go (by rfl) ?_
  refine ⟨?_, fun W hW => ?_, ?_⟩
  rotate_left
  · skip
    go_simp
    with_reducible rfl
  refine hK _ ?_
  clear hK K
  (try simp only [Act.put, List.setIfInBounds_toArray, List.set_cons_zero, List.set_cons_succ])
  refine wpQuiet_step_h hlq ?_
  clear hlq lq
  intro K lq hlq hK
  refine wanted_go (by rfl) ?_
  refine ⟨?_, fun W hW => ?_, ?_⟩
  rotate_left
  · skip
    go_simp
    with_reducible rfl
  refine hK _ ?_
  clear hK K
  (try simp only [Act.put, List.setIfInBounds_toArray, List.set_cons_zero, List.set_cons_succ])
  refine wpQuiet_step_h hlq ?_
  clear hlq lq
  intro K lq hlq hK
  refine wanted_go (by rfl) ?_
  refine ⟨vPP q, fun W hW => ?_, ?_⟩
  · skip
    exact quiet_load 57 _ rfl rfl (ldPP (hW.all.get 0 (x := (V15.heap.size, oPP q)) rfl) Hu.out)
  refine hK _ ?_
  clear hK K
  (try simp only [Act.put, List.setIfInBounds_toArray, List.set_cons_zero, List.set_cons_succ])
  refine wpQuiet_step_h hlq ?_
  clear hlq lq
  intro K lq hlq hK
  refine wanted_go (by rfl) ?_
  refine ⟨vPP q, fun W hW => ?_, ?_⟩
  · skip
    exact quiet_load 57 _ rfl rfl (ldPP (hW.all.get 3 (x := (w.heap.size + 2, oPP q)) rfl) Hq.out)
  refine hK _ ?_
  clear hK K
  (try simp only [Act.put, List.setIfInBounds_toArray, List.set_cons_zero, List.set_cons_succ])
  refine wpQuiet_step_h hlq ?_
  clear hlq lq
  intro K lq hlq hK
  refine wanted_go (by rfl) ?_
  refine ⟨.bool true, fun W hW => ?_, ?_⟩
  · skip
    exact quiet_eq (.inl rfl) (by rfl) (by rfl) (by rfl) guard57 (hQ W)
  refine hK _ ?_
  clear hK K
  (try simp only [Act.put, List.setIfInBounds_toArray, List.set_cons_zero, List.set_cons_succ])
  refine wpQuiet_step_h hlq ?_
  clear hlq lq
  intro K lq hlq hK
  refine wanted_go (by rfl) ?_
  refine ⟨?_, fun W hW => ?_, ?_⟩
  rotate_left
  · skip
    go_simp
    with_reducible rfl
  refine hK _ ?_
  clear hK K
  (try simp only [Act.put, List.setIfInBounds_toArray, List.set_cons_zero, List.set_cons_succ])
  refine wpQuiet_step_h hlq ?_
  clear hlq lq
  intro K lq hlq hK
  refine wanted_go (by rfl) ?_
  refine ⟨?_, fun W hW => ?_, ?_⟩
  rotate_left
  · skip
    go_simp
    with_reducible rfl
  refine hK _ ?_
  clear hK K
  (try simp only [Act.put, List.setIfInBounds_toArray, List.set_cons_zero, List.set_cons_succ])
  refine wpQuiet_step_h hlq ?_
  clear hlq lq
  intro K lq hlq hK
  refine wanted_go (by rfl) ?_
  refine ⟨.int .i64 0, fun W hW => ?_, ?_⟩
  · go_simp
    have E' := hW.env E
    exact (num_lit _).mono fun e W2 hc2 => ⟨hc2.1, hW.go hc2.2⟩
  refine hK _ ?_
  clear hK K
  (try simp only [Act.put, List.setIfInBounds_toArray, List.set_cons_zero, List.set_cons_succ])
  refine wpQuiet_step_h hlq ?_
  clear hlq lq
  intro K lq hlq hK
  refine wanted_go (by rfl) ?_
  refine ⟨?_, fun W hW => ?_, ?_⟩
  rotate_left
  · skip
    go_simp
    with_reducible rfl
  refine hK _ ?_
  clear hK K
  (try simp only [Act.put, List.setIfInBounds_toArray, List.set_cons_zero, List.set_cons_succ])
  refine wpQuiet_step_h hlq ?_
  clear hlq lq
  intro K lq hlq hK
  refine wanted_go (by rfl) ?_
  refine ⟨?_, fun W hW => ?_, ?_⟩
  rotate_left
  · skip
    go_simp
    with_reducible rfl
  refine hK _ ?_
  clear hK K
  (try simp only [Act.put, List.setIfInBounds_toArray, List.set_cons_zero, List.set_cons_succ])
  refine wpQuiet_step_h hlq ?_
  clear hlq lq
  intro K lq hlq hK
  refine wanted_go (by rfl) ?_
  refine ⟨?_, fun W hW => ?_, ?_⟩
  rotate_left
  · skip
    go_simp
    with_reducible rfl
  refine hK _ ?_
  clear hK K
  (try simp only [Act.put, List.setIfInBounds_toArray, List.set_cons_zero, List.set_cons_succ])
  refine wpQuiet_step_h hlq ?_
  clear hlq lq
  intro K lq hlq hK
  refine wanted_go (by rfl) ?_
  refine ⟨?_, fun W hW => ?_, ?_⟩
  rotate_left
  · skip
    go_simp
    with_reducible rfl
  refine hK _ ?_
  clear hK K
  (try simp only [Act.put, List.setIfInBounds_toArray, List.set_cons_zero, List.set_cons_succ])
  refine wpQuiet_step_h hlq ?_
  clear hlq lq
  intro K lq hlq hK
  refine wanted_go (by rfl) ?_
  refine ⟨.bool true, fun W hW => ?_, ?_⟩
  · go_simp
    have E' := hW.env E
    exact (live02_any E').mono fun e W2 hc2 => ⟨hc2.1, hW.go hc2.2⟩
  refine hK _ ?_
  clear hK K
  (try simp only [Act.put, List.setIfInBounds_toArray, List.set_cons_zero, List.set_cons_succ])
  refine wpQuiet_step_h hlq ?_
  clear hlq lq
  intro K lq hlq hK
  refine wanted_go (by rfl) ?_
  refine ⟨?_, fun W hW => ?_, ?_⟩
  rotate_left
  · skip
    go_simp
    with_reducible rfl
  refine hK _ ?_
  clear hK K
  (try simp only [Act.put, List.setIfInBounds_toArray, List.set_cons_zero, List.set_cons_succ])
  refine wpQuiet_step_h hlq ?_
  clear hlq lq
  intro K lq hlq hK
  refine wanted_go (by rfl) ?_
  refine ⟨?_, fun W hW => ?_, ?_⟩
  rotate_left
  · skip
    go_simp
    with_reducible rfl
  refine hK _ ?_
  clear hK K
  (try simp only [Act.put, List.setIfInBounds_toArray, List.set_cons_zero, List.set_cons_succ])
  refine wpQuiet_nil_h hlq ?_
  clear hlq lq hV19
  intro V20 hV21
  go_wp2_with fail
  go_ret
  exact ⟨rfl, hV21.bel⟩
set_option maxRecDepth 100000 in
set_option maxHeartbeats 3200000 in
theorem back_nn {a : List Int} (ha : isA a) {p r : Pf} (hp : p.ok) {q u : Pr} (hq : q.fit) {e f : Int} (h1 : chk p = false) (h2 : chkPP q = false) (hpr : parsePS ⟨(pfxS p).toArray⟩ = (r, e)) (hqu : parsePPS ⟨(pairS q).toArray⟩ = (u, f)) (hro : r.ok) (huo : u.fit)   {w : World} (E : Env w) : Calls Tryz.prog 13 #[vA a, vPf p, vPP q] w fun e w' => e = .returned (.bool true) ∧ Below w.heap.size w w' := by
  have hA : ∀ W, (binOp .neq 42 (vA a) (vA a)).run Tryz.prog W = .ok (.bool false) W := fun W => by rw [neq_A W ha ha, decide_eq_true rfl]; rfl
  have lA : (⟨(printS a).toArray⟩ : ByteArray).size < 4294967281 := by
    show (printS a).toArray.size < _
    rw [List.size_toArray]
    unfold printS
    split
    · have := dotted_len ha; omega
    · have := grouped_len ha; omega
  have lP : (⟨(pfxS p).toArray⟩ : ByteArray).size < 4294967281 := by show (pfxS p).toArray.size < _; rw [List.size_toArray]; have := pfx_len hp.1; omega
  have lQ : (⟨(pairS q).toArray⟩ : ByteArray).size < 4294967281 := by
    show (pairS q).toArray.size < _
    rw [List.size_toArray]
    have := pairS_len hq; omega
  have c1 : ∀ {W : World}, Env W → Calls Tryz.prog 29 #[.string ⟨(printS a).toArray⟩] W fun e w' => e = .returned (.tuple #[vA a, .int .i64 0]) ∧ Below W.heap.size W w' := fun E => parse_is E lA (parse_print ha)
  have c2 : ∀ {W : World}, Env W → Calls Tryz.prog 56 #[.string ⟨(pfxS p).toArray⟩] W fun e' w' => e' = .returned (.tuple #[vPf r, .int .i64 e]) ∧ Below W.heap.size W w' := fun E => pp_is E lP hpr
  have c3 : ∀ {W : World}, Env W → Calls Tryz.prog 58 #[.string ⟨(pairS q).toArray⟩] W fun e' w' => e' = .returned (.tuple #[vPP u, .int .i64 f]) ∧ Below W.heap.size W w' := fun E => (pair_any E lQ).mono fun e' w' h => ⟨by have := h.1; unfold PairR at this; rw [this, hqu], h.2⟩
  have k1 : (if chk p then (0 : Int) else 21) = 21 := by rw [h1]; rfl
  have k2 : (if chkPP q then (0 : Int) else 21) = 21 := by rw [h2]; rfl
  have Ha := Lib.hid ha
  have Hp := Lib.hid hp
  have Hq := Lib.hid hq
  have Hr := Lib.hid hro
  have Hu := Lib.hid huo
  replace k1 := Lib.hid k1
  replace k2 := Lib.hid k2
  have B := ((((Bz.start w).alloc (oA a) (g := w.heap.size) rfl).alloc (oP p) (g := w.heap.size + 1) (by simp)).alloc (oPP q) (g := w.heap.size + 2) (by simp) : Bz w [(w.heap.size + 2, oPP q), (w.heap.size + 1, oP p), (w.heap.size, oA a)] _)
  clear ha hp hq h1 h2 hpr hqu hro huo lA lP lQ
  unfold vA vPf vPP
  go_enter Tryz.func13, Tryz.ntmps13
  go_wp2_with (refine wpList_quiet_take (C := Bz w [(w.heap.size + 2, oPP q), (w.heap.size + 1, oP p), (w.heap.size, oA a)]) 9 6 (by rfl) B ?_)
  (try simp only [List.take_succ_cons, List.take_zero, List.drop_succ_cons, List.drop_zero])
  refine wpQuiet_hide ?_
  intro lq hlq
  refine wpQuiet_step_h hlq ?_
  clear hlq lq
  intro K lq hlq hK
  refine wanted_go (by rfl) ?_
  refine ⟨vA a, fun W hW => ?_, ?_⟩
  · skip
    exact quiet_load 42 _ rfl rfl (ldA (hW.all.get 2 (x := (w.heap.size, oA a)) rfl) Ha.out)
  refine hK _ ?_
  clear hK K
  (try simp only [Act.put, List.setIfInBounds_toArray, List.set_cons_zero, List.set_cons_succ])
  refine wpQuiet_step_h hlq ?_
  clear hlq lq
  intro K lq hlq hK
  refine wanted_go (by rfl) ?_
  refine ⟨.string ⟨(printS a).toArray⟩, fun W hW => ?_, ?_⟩
  · go_simp
    have E' := hW.env E
    exact (print_any E' Ha.out).mono fun e W2 hc2 => ⟨hc2.1, hW.go hc2.2⟩
  refine hK _ ?_
  clear hK K
  (try simp only [Act.put, List.setIfInBounds_toArray, List.set_cons_zero, List.set_cons_succ])
  refine wpQuiet_step_h hlq ?_
  clear hlq lq
  intro K lq hlq hK
  refine wanted_go (by rfl) ?_
  refine ⟨.tuple #[vA a, .int .i64 0], fun W hW => ?_, ?_⟩
  · go_simp
    have E' := hW.env E
    exact (c1 E').mono fun e W2 hc2 => ⟨hc2.1, hW.go hc2.2⟩
  refine hK _ ?_
  clear hK K
  (try simp only [Act.put, List.setIfInBounds_toArray, List.set_cons_zero, List.set_cons_succ])
  refine wpQuiet_step_h hlq ?_
  clear hlq lq
  intro K lq hlq hK
  refine wanted_go (by rfl) ?_
  refine ⟨?_, fun W hW => ?_, ?_⟩
  rotate_left
  · skip
    go_simp
    with_reducible rfl
  refine hK _ ?_
  clear hK K
  (try simp only [Act.put, List.setIfInBounds_toArray, List.set_cons_zero, List.set_cons_succ])
  refine wpQuiet_step_h hlq ?_
  clear hlq lq
  intro K lq hlq hK
  refine wanted_go (by rfl) ?_
  refine ⟨?_, fun W hW => ?_, ?_⟩
  rotate_left
  · skip
    go_simp
    with_reducible rfl
  refine hK _ ?_
  clear hK K
  (try simp only [Act.put, List.setIfInBounds_toArray, List.set_cons_zero, List.set_cons_succ])
  refine wpQuiet_step_h hlq ?_
  clear hlq lq
  intro K lq hlq hK
  refine wanted_go (by rfl) ?_
  refine ⟨?_, fun W hW => ?_, ?_⟩
  rotate_left
  · skip
    go_simp
    with_reducible rfl
  refine hK _ ?_
  clear hK K
  (try simp only [Act.put, List.setIfInBounds_toArray, List.set_cons_zero, List.set_cons_succ])
  refine wpQuiet_nil_h hlq ?_
  clear hlq lq B
  intro V1 hV2
  refine wpList_new rfl rfl rfl rfl z42 rfl (by rfl) (by rfl) (info42 Ha.out) (sizeA' Ha.out) (numsA_one _) ?_
  (try simp only [Act.put, List.setIfInBounds_toArray, List.set_cons_zero, List.set_cons_succ])
  have hB3 : Bz w [(V1.heap.size, oA a), (w.heap.size + 2, oPP q), (w.heap.size + 1, oP p), (w.heap.size, oA a)] (V1.alloc (oA a)) := hV2.alloc (oA a) rfl
  clear hV2
  refine wpList_quiet (C := Bz w [(V1.heap.size, oA a), (w.heap.size + 2, oPP q), (w.heap.size + 1, oP p), (w.heap.size, oA a)]) 1 (by rfl) hB3 ?_
  refine wpQuiet_hide ?_
  intro lq hlq
  refine wpQuiet_step_h hlq ?_
  clear hlq lq
  intro K lq hlq hK
  refine wanted_go (by rfl) ?_
  refine ⟨?_, fun W hW => ?_, ?_⟩
  rotate_left
  · skip
    go_simp
    with_reducible rfl
  refine hK _ ?_
  clear hK K
  (try simp only [Act.put, List.setIfInBounds_toArray, List.set_cons_zero, List.set_cons_succ])
  refine wpQuiet_nil_h hlq ?_
  clear hlq lq hB3
  intro V4 hV5
  go_wp2_with (refine wpList_quiet (C := Bz w [(V1.heap.size, oA a), (w.heap.size + 2, oPP q), (w.heap.size + 1, oP p), (w.heap.size, oA a)]) 8 (by rfl) hV5 ?_)
  refine wpQuiet_hide ?_
  intro lq hlq
  refine wpQuiet_step_h hlq ?_
  clear hlq lq
  intro K lq hlq hK
  refine wanted_go (by rfl) ?_
  refine ⟨vA a, fun W hW => ?_, ?_⟩
  · skip
    exact quiet_load 42 _ rfl rfl (ldA (hW.all.get 0 (x := (V1.heap.size, oA a)) rfl) Ha.out)
  refine hK _ ?_
  clear hK K
  (try simp only [Act.put, List.setIfInBounds_toArray, List.set_cons_zero, List.set_cons_succ])
  refine wpQuiet_step_h hlq ?_
  clear hlq lq
  intro K lq hlq hK
  refine wanted_go (by rfl) ?_
  refine ⟨vA a, fun W hW => ?_, ?_⟩
  · skip
    exact quiet_load 42 _ rfl rfl (ldA (hW.all.get 3 (x := (w.heap.size, oA a)) rfl) Ha.out)
  refine hK _ ?_
  clear hK K
  (try simp only [Act.put, List.setIfInBounds_toArray, List.set_cons_zero, List.set_cons_succ])
  refine wpQuiet_step_h hlq ?_
  clear hlq lq
  intro K lq hlq hK
  refine wanted_go (by rfl) ?_
  refine ⟨.bool false, fun W hW => ?_, ?_⟩
  · skip
    exact quiet_eq (.inr rfl) (by rfl) (by rfl) (by rfl) guard42 (hA W)
  refine hK _ ?_
  clear hK K
  (try simp only [Act.put, List.setIfInBounds_toArray, List.set_cons_zero, List.set_cons_succ])
  refine wpQuiet_step_h hlq ?_
  clear hlq lq
  intro K lq hlq hK
  refine wanted_go (by rfl) ?_
  refine ⟨?_, fun W hW => ?_, ?_⟩
  rotate_left
  · skip
    go_simp
    with_reducible rfl
  refine hK _ ?_
  clear hK K
  (try simp only [Act.put, List.setIfInBounds_toArray, List.set_cons_zero, List.set_cons_succ])
  refine wpQuiet_step_h hlq ?_
  clear hlq lq
  intro K lq hlq hK
  refine wanted_go (by rfl) ?_
  refine ⟨?_, fun W hW => ?_, ?_⟩
  rotate_left
  · skip
    go_simp
    with_reducible rfl
  refine hK _ ?_
  clear hK K
  (try simp only [Act.put, List.setIfInBounds_toArray, List.set_cons_zero, List.set_cons_succ])
  refine wpQuiet_step_h hlq ?_
  clear hlq lq
  intro K lq hlq hK
  refine wanted_go (by rfl) ?_
  refine ⟨.int .i64 0, fun W hW => ?_, ?_⟩
  · go_simp
    exact (num_lit _).mono fun e W2 hc2 => ⟨hc2.1, hW.go hc2.2⟩
  refine hK _ ?_
  clear hK K
  (try simp only [Act.put, List.setIfInBounds_toArray, List.set_cons_zero, List.set_cons_succ])
  refine wpQuiet_step_h hlq ?_
  clear hlq lq
  intro K lq hlq hK
  refine wanted_go (by rfl) ?_
  refine ⟨?_, fun W hW => ?_, ?_⟩
  rotate_left
  · skip
    go_simp
    with_reducible rfl
  refine hK _ ?_
  clear hK K
  (try simp only [Act.put, List.setIfInBounds_toArray, List.set_cons_zero, List.set_cons_succ])
  refine wpQuiet_step_h hlq ?_
  clear hlq lq
  intro K lq hlq hK
  refine wanted_go (by rfl) ?_
  refine ⟨?_, fun W hW => ?_, ?_⟩
  rotate_left
  · skip
    go_simp
    with_reducible rfl
  refine hK _ ?_
  clear hK K
  (try simp only [Act.put, List.setIfInBounds_toArray, List.set_cons_zero, List.set_cons_succ])
  refine wpQuiet_nil_h hlq ?_
  clear hlq lq hV5
  intro V6 hV7
  go_wp2_with (refine wpList_quiet_take (C := Bz w [(V1.heap.size, oA a), (w.heap.size + 2, oPP q), (w.heap.size + 1, oP p), (w.heap.size, oA a)]) 9 6 (by rfl) hV7 ?_)
  (try simp only [List.take_succ_cons, List.take_zero, List.drop_succ_cons, List.drop_zero])
  refine wpQuiet_hide ?_
  intro lq hlq
  refine wpQuiet_step_h hlq ?_
  clear hlq lq
  intro K lq hlq hK
  refine wanted_go (by rfl) ?_
  refine ⟨vPf p, fun W hW => ?_, ?_⟩
  · skip
    exact quiet_load 55 _ rfl rfl (ldP (hW.all.get 2 (x := (w.heap.size + 1, oP p)) rfl) Hp.out)
  refine hK _ ?_
  clear hK K
  (try simp only [Act.put, List.setIfInBounds_toArray, List.set_cons_zero, List.set_cons_succ])
  refine wpQuiet_step_h hlq ?_
  clear hlq lq
  intro K lq hlq hK
  refine wanted_go (by rfl) ?_
  refine ⟨.string ⟨(pfxS p).toArray⟩, fun W hW => ?_, ?_⟩
  · go_simp
    have E' := hW.env E
    exact (pfx_any E' Hp.out).mono fun e W2 hc2 => ⟨hc2.1, hW.go hc2.2⟩
  refine hK _ ?_
  clear hK K
  (try simp only [Act.put, List.setIfInBounds_toArray, List.set_cons_zero, List.set_cons_succ])
  refine wpQuiet_step_h hlq ?_
  clear hlq lq
  intro K lq hlq hK
  refine wanted_go (by rfl) ?_
  refine ⟨.tuple #[vPf r, .int .i64 e], fun W hW => ?_, ?_⟩
  · go_simp
    have E' := hW.env E
    exact (c2 E').mono fun e W2 hc2 => ⟨hc2.1, hW.go hc2.2⟩
  refine hK _ ?_
  clear hK K
  (try simp only [Act.put, List.setIfInBounds_toArray, List.set_cons_zero, List.set_cons_succ])
  refine wpQuiet_step_h hlq ?_
  clear hlq lq
  intro K lq hlq hK
  refine wanted_go (by rfl) ?_
  refine ⟨?_, fun W hW => ?_, ?_⟩
  rotate_left
  · skip
    go_simp
    with_reducible rfl
  refine hK _ ?_
  clear hK K
  (try simp only [Act.put, List.setIfInBounds_toArray, List.set_cons_zero, List.set_cons_succ])
  refine wpQuiet_step_h hlq ?_
  clear hlq lq
  intro K lq hlq hK
  refine wanted_go (by rfl) ?_
  refine ⟨?_, fun W hW => ?_, ?_⟩
  rotate_left
  · skip
    go_simp
    with_reducible rfl
  refine hK _ ?_
  clear hK K
  (try simp only [Act.put, List.setIfInBounds_toArray, List.set_cons_zero, List.set_cons_succ])
  refine wpQuiet_step_h hlq ?_
  clear hlq lq
  intro K lq hlq hK
  refine wanted_go (by rfl) ?_
  refine ⟨?_, fun W hW => ?_, ?_⟩
  rotate_left
  · skip
    go_simp
    with_reducible rfl
  refine hK _ ?_
  clear hK K
  (try simp only [Act.put, List.setIfInBounds_toArray, List.set_cons_zero, List.set_cons_succ])
  refine wpQuiet_nil_h hlq ?_
  clear hlq lq hV7
  intro V8 hV9
  refine wpList_new rfl rfl rfl rfl z55 rfl (by rfl) (by rfl) (info55 Hr.out.1 _) (sizeP' Hr.out) (pCs_one _ _) ?_
  (try simp only [Act.put, List.setIfInBounds_toArray, List.set_cons_zero, List.set_cons_succ])
  have hB10 : Bz w [(V8.heap.size, oP r), (V1.heap.size, oA a), (w.heap.size + 2, oPP q), (w.heap.size + 1, oP p), (w.heap.size, oA a)] (V8.alloc (oP r)) := hV9.alloc (oP r) rfl
  clear hV9
  refine wpList_quiet (C := Bz w [(V8.heap.size, oP r), (V1.heap.size, oA a), (w.heap.size + 2, oPP q), (w.heap.size + 1, oP p), (w.heap.size, oA a)]) 1 (by rfl) hB10 ?_
  refine wpQuiet_hide ?_
  intro lq hlq
  refine wpQuiet_step_h hlq ?_
  clear hlq lq
  intro K lq hlq hK
  refine wanted_go (by rfl) ?_
  refine ⟨?_, fun W hW => ?_, ?_⟩
  rotate_left
  · skip
    go_simp
    with_reducible rfl
  refine hK _ ?_
  clear hK K
  (try simp only [Act.put, List.setIfInBounds_toArray, List.set_cons_zero, List.set_cons_succ])
  refine wpQuiet_nil_h hlq ?_
  clear hlq lq hB10
  intro V11 hV12
  go_wp2_with (refine wpList_quiet (C := Bz w [(V8.heap.size, oP r), (V1.heap.size, oA a), (w.heap.size + 2, oPP q), (w.heap.size + 1, oP p), (w.heap.size, oA a)]) 14 (by rfl) hV12 ?_)
  refine wpQuiet_hide ?_
  intro lq hlq
  refine wpQuiet_step_h hlq ?_
  clear hlq lq
  intro K lq hlq hK
  refine wanted_go (by rfl) ?_
  refine ⟨vPf p, fun W hW => ?_, ?_⟩
  · skip
    exact quiet_load 55 _ rfl rfl (ldP (hW.all.get 3 (x := (w.heap.size + 1, oP p)) rfl) Hp.out)
  refine hK _ ?_
  clear hK K
  (try simp only [Act.put, List.setIfInBounds_toArray, List.set_cons_zero, List.set_cons_succ])
  refine wpQuiet_step_h hlq ?_
  clear hlq lq
  intro K lq hlq hK
  refine wanted_go (by rfl) ?_
  refine ⟨.int .i64 21, fun W hW => ?_, ?_⟩
  · go_simp
    exact (chk_call Hp.out k1.out).mono fun e W2 hc2 => ⟨hc2.1, hW.go hc2.2⟩
  refine hK _ ?_
  clear hK K
  (try simp only [Act.put, List.setIfInBounds_toArray, List.set_cons_zero, List.set_cons_succ])
  refine wpQuiet_step_h hlq ?_
  clear hlq lq
  intro K lq hlq hK
  refine wanted_go (by rfl) ?_
  refine ⟨.int .i64 21, fun W hW => ?_, ?_⟩
  · go_simp
    exact (num_lit _).mono fun e W2 hc2 => ⟨hc2.1, hW.go hc2.2⟩
  refine hK _ ?_
  clear hK K
  (try simp only [Act.put, List.setIfInBounds_toArray, List.set_cons_zero, List.set_cons_succ])
  refine wpQuiet_step_h hlq ?_
  clear hlq lq
  intro K lq hlq hK
  refine wanted_go (by rfl) ?_
  refine ⟨?_, fun W hW => ?_, ?_⟩
  rotate_left
  · skip
    go_simp
    with_reducible rfl
  refine hK _ ?_
  clear hK K
  (try simp only [Act.put, List.setIfInBounds_toArray, List.set_cons_zero, List.set_cons_succ])
  refine wpQuiet_step_h hlq ?_
  clear hlq lq
  intro K lq hlq hK
  refine wanted_go (by rfl) ?_
  refine ⟨?_, fun W hW => ?_, ?_⟩
  rotate_left
  · skip
    go_simp
    with_reducible rfl
  refine hK _ ?_
  clear hK K
  (try simp only [Act.put, List.setIfInBounds_toArray, List.set_cons_zero, List.set_cons_succ])
  refine wpQuiet_step_h hlq ?_
  clear hlq lq
  intro K lq hlq hK
  go_simp
  refine hK _ ?_
  clear hK K
  refine wpQuiet_step_h hlq ?_
  clear hlq lq
  intro K lq hlq hK
  go_simp
  refine hK _ ?_
  clear hK K
  refine wpQuiet_step_h hlq ?_
  clear hlq lq
  intro K lq hlq hK
  go_simp
  refine hK _ ?_
  clear hK K
  refine wpQuiet_step_h hlq ?_
  clear hlq lq
  intro K lq hlq hK
  go_simp
  refine hK _ ?_
  clear hK K
  refine wpQuiet_step_h hlq ?_
  clear hlq lq
  intro K lq hlq hK
  go_simp
  refine hK _ ?_
  clear hK K
  refine wpQuiet_step_h hlq ?_
  clear hlq lq
  intro K lq hlq hK
  go_simp
  refine hK _ ?_
  clear hK K
  refine wpQuiet_step_h hlq ?_
  clear hlq lq
  intro K lq hlq hK
  go_simp
  refine hK _ ?_
  clear hK K
  refine wpQuiet_step_h hlq ?_
  clear hlq lq
  intro K lq hlq hK
  go_simp
  refine hK _ ?_
  clear hK K
  refine wpQuiet_step_h hlq ?_
  clear hlq lq
  intro K lq hlq hK
  refine wanted_go (by rfl) ?_
  refine ⟨?_, fun W hW => ?_, ?_⟩
  rotate_left
  · skip
    go_simp
    with_reducible rfl
  refine hK _ ?_
  clear hK K
  (try simp only [Act.put, List.setIfInBounds_toArray, List.set_cons_zero, List.set_cons_succ])
  refine wpQuiet_nil_h hlq ?_
  clear hlq lq hV12
  intro V13 hV14
  go_wp2_with (refine wpList_quiet_take (C := Bz w [(V8.heap.size, oP r), (V1.heap.size, oA a), (w.heap.size + 2, oPP q), (w.heap.size + 1, oP p), (w.heap.size, oA a)]) 9 6 (by rfl) hV14 ?_)
  (try simp only [List.take_succ_cons, List.take_zero, List.drop_succ_cons, List.drop_zero])
  refine wpQuiet_hide ?_
  intro lq hlq
  refine wpQuiet_step_h hlq ?_
  clear hlq lq
  intro K lq hlq hK
  refine wanted_go (by rfl) ?_
  refine ⟨vPP q, fun W hW => ?_, ?_⟩
  · skip
    exact quiet_load 57 _ rfl rfl (ldPP (hW.all.get 2 (x := (w.heap.size + 2, oPP q)) rfl) Hq.out)
  refine hK _ ?_
  clear hK K
  (try simp only [Act.put, List.setIfInBounds_toArray, List.set_cons_zero, List.set_cons_succ])
  refine wpQuiet_step_h hlq ?_
  clear hlq lq
  intro K lq hlq hK
  refine wanted_go (by rfl) ?_
  refine ⟨.string ⟨(pairS q).toArray⟩, fun W hW => ?_, ?_⟩
  · go_simp
    have E' := hW.env E
    exact (pairS_any E' Hq.out).mono fun e W2 hc2 => ⟨hc2.1, hW.go hc2.2⟩
  refine hK _ ?_
  clear hK K
  (try simp only [Act.put, List.setIfInBounds_toArray, List.set_cons_zero, List.set_cons_succ])
  refine wpQuiet_step_h hlq ?_
  clear hlq lq
  intro K lq hlq hK
  refine wanted_go (by rfl) ?_
  refine ⟨.tuple #[vPP u, .int .i64 f], fun W hW => ?_, ?_⟩
  · go_simp
    have E' := hW.env E
    exact (c3 E').mono fun e W2 hc2 => ⟨hc2.1, hW.go hc2.2⟩
  refine hK _ ?_
  clear hK K
  (try simp only [Act.put, List.setIfInBounds_toArray, List.set_cons_zero, List.set_cons_succ])
  refine wpQuiet_step_h hlq ?_
  clear hlq lq
  intro K lq hlq hK
  refine wanted_go (by rfl) ?_
  refine ⟨?_, fun W hW => ?_, ?_⟩
  rotate_left
  · skip
    go_simp
    with_reducible rfl
  refine hK _ ?_
  clear hK K
  (try simp only [Act.put, List.setIfInBounds_toArray, List.set_cons_zero, List.set_cons_succ])
  refine wpQuiet_step_h hlq ?_
  clear hlq lq
  intro K lq hlq hK
  refine wanted_go (by rfl) ?_
  refine ⟨?_, fun W hW => ?_, ?_⟩
  rotate_left
  · skip
    go_simp
    with_reducible rfl
  refine hK _ ?_
  clear hK K
  (try simp only [Act.put, List.setIfInBounds_toArray, List.set_cons_zero, List.set_cons_succ])
  refine wpQuiet_step_h hlq ?_
  clear hlq lq
  intro K lq hlq hK
  refine wanted_go (by rfl) ?_
  refine ⟨?_, fun W hW => ?_, ?_⟩
  rotate_left
  · skip
    go_simp
    with_reducible rfl
  refine hK _ ?_
  clear hK K
  (try simp only [Act.put, List.setIfInBounds_toArray, List.set_cons_zero, List.set_cons_succ])
  refine wpQuiet_nil_h hlq ?_
  clear hlq lq hV14
  intro V15 hV16
  refine wpList_new rfl rfl rfl rfl z57 rfl (by rfl) (by rfl) (info57 Hu.out) (sizePP' Hu.out) (pp_one _) ?_
  (try simp only [Act.put, List.setIfInBounds_toArray, List.set_cons_zero, List.set_cons_succ])
  have hB17 : Bz w [(V15.heap.size, oPP u), (V8.heap.size, oP r), (V1.heap.size, oA a), (w.heap.size + 2, oPP q), (w.heap.size + 1, oP p), (w.heap.size, oA a)] (V15.alloc (oPP u)) := hV16.alloc (oPP u) rfl
  clear hV16
  refine wpList_quiet (C := Bz w [(V15.heap.size, oPP u), (V8.heap.size, oP r), (V1.heap.size, oA a), (w.heap.size + 2, oPP q), (w.heap.size + 1, oP p), (w.heap.size, oA a)]) 1 (by rfl) hB17 ?_
  refine wpQuiet_hide ?_
  intro lq hlq
  refine wpQuiet_step_h hlq ?_
  clear hlq lq
  intro K lq hlq hK
  refine wanted_go (by rfl) ?_
  refine ⟨?_, fun W hW => ?_, ?_⟩
  rotate_left
  · skip
    go_simp
    with_reducible rfl
  refine hK _ ?_
  clear hK K
  (try simp only [Act.put, List.setIfInBounds_toArray, List.set_cons_zero, List.set_cons_succ])
  refine wpQuiet_nil_h hlq ?_
  clear hlq lq hB17
  intro V18 hV19
  go_wp2_with (refine wpList_quiet (C := Bz w [(V15.heap.size, oPP u), (V8.heap.size, oP r), (V1.heap.size, oA a), (w.heap.size + 2, oPP q), (w.heap.size + 1, oP p), (w.heap.size, oA a)]) 18 (by rfl) hV19 ?_)
  refine wpQuiet_hide ?_
  intro lq hlq
  refine wpQuiet_step_h hlq ?_
  clear hlq lq
  intro K lq hlq hK
  refine wanted_go (by rfl) ?_
  refine ⟨vPP q, fun W hW => ?_, ?_⟩
  · skip
    exact quiet_load 57 _ rfl rfl (ldPP (hW.all.get 3 (x := (w.heap.size + 2, oPP q)) rfl) Hq.out)
  refine hK _ ?_
  clear hK K
  (try simp only [Act.put, List.setIfInBounds_toArray, List.set_cons_zero, List.set_cons_succ])
  refine wpQuiet_step_h hlq ?_
  clear hlq lq
  intro K lq hlq hK
  refine wanted_go (by rfl) ?_
  refine ⟨.int .i64 21, fun W hW => ?_, ?_⟩
  · go_simp
    have E' := hW.env E
    exact (chkPP_call Hq.out k2.out).mono fun e W2 hc2 => ⟨hc2.1, hW.go hc2.2⟩
  refine hK _ ?_
  clear hK K
  (try simp only [Act.put, List.setIfInBounds_toArray, List.set_cons_zero, List.set_cons_succ])
  refine wpQuiet_step_h hlq ?_
  clear hlq lq
  intro K lq hlq hK
  refine wanted_go (by rfl) ?_
  refine ⟨.int .i64 21, fun W hW => ?_, ?_⟩
  · go_simp
    have E' := hW.env E
    exact (num_lit _).mono fun e W2 hc2 => ⟨hc2.1, hW.go hc2.2⟩
  refine hK _ ?_
  clear hK K
  (try simp only [Act.put, List.setIfInBounds_toArray, List.set_cons_zero, List.set_cons_succ])
  refine wpQuiet_step_h hlq ?_
  clear hlq lq
  intro K lq hlq hK
  refine wanted_go (by rfl) ?_
  refine ⟨?_, fun W hW => ?_, ?_⟩
  rotate_left
  · skip
    go_simp
    with_reducible rfl
  refine hK _ ?_
  clear hK K
  (try simp only [Act.put, List.setIfInBounds_toArray, List.set_cons_zero, List.set_cons_succ])
  refine wpQuiet_step_h hlq ?_
  clear hlq lq
  intro K lq hlq hK
  refine wanted_go (by rfl) ?_
  refine ⟨?_, fun W hW => ?_, ?_⟩
  rotate_left
  · skip
    go_simp
    with_reducible rfl
  refine hK _ ?_
  clear hK K
  (try simp only [Act.put, List.setIfInBounds_toArray, List.set_cons_zero, List.set_cons_succ])
  refine wpQuiet_step_h hlq ?_
  clear hlq lq
  intro K lq hlq hK
  go_simp
  refine hK _ ?_
  clear hK K
  refine wpQuiet_step_h hlq ?_
  clear hlq lq
  intro K lq hlq hK
  go_simp
  refine hK _ ?_
  clear hK K
  refine wpQuiet_step_h hlq ?_
  clear hlq lq
  intro K lq hlq hK
  go_simp
  refine hK _ ?_
  clear hK K
  refine wpQuiet_step_h hlq ?_
  clear hlq lq
  intro K lq hlq hK
  go_simp
  refine hK _ ?_
  clear hK K
  refine wpQuiet_step_h hlq ?_
  clear hlq lq
  intro K lq hlq hK
  go_simp
  refine hK _ ?_
  clear hK K
  refine wpQuiet_step_h hlq ?_
  clear hlq lq
  intro K lq hlq hK
  go_simp
  refine hK _ ?_
  clear hK K
  refine wpQuiet_step_h hlq ?_
  clear hlq lq
  intro K lq hlq hK
  go_simp
  refine hK _ ?_
  clear hK K
  refine wpQuiet_step_h hlq ?_
  clear hlq lq
  intro K lq hlq hK
  go_simp
  refine hK _ ?_
  clear hK K
  refine wpQuiet_step_h hlq ?_
  clear hlq lq
  intro K lq hlq hK
  refine wanted_go (by rfl) ?_
  refine ⟨?_, fun W hW => ?_, ?_⟩
  rotate_left
  · skip
    go_simp
    with_reducible rfl
  refine hK _ ?_
  clear hK K
  (try simp only [Act.put, List.setIfInBounds_toArray, List.set_cons_zero, List.set_cons_succ])
  refine wpQuiet_step_h hlq ?_
  clear hlq lq
  intro K lq hlq hK
  refine wanted_go (by rfl) ?_
  refine ⟨?_, fun W hW => ?_, ?_⟩
  rotate_left
  · skip
    go_simp
    with_reducible rfl
  refine hK _ ?_
  clear hK K
  (try simp only [Act.put, List.setIfInBounds_toArray, List.set_cons_zero, List.set_cons_succ])
  refine wpQuiet_step_h hlq ?_
  clear hlq lq
  intro K lq hlq hK
  refine wanted_go (by rfl) ?_
  refine ⟨.bool true, fun W hW => ?_, ?_⟩
  · go_simp
    have E' := hW.env E
    exact (live02_any E').mono fun e W2 hc2 => ⟨hc2.1, hW.go hc2.2⟩
  refine hK _ ?_
  clear hK K
  (try simp only [Act.put, List.setIfInBounds_toArray, List.set_cons_zero, List.set_cons_succ])
  refine wpQuiet_step_h hlq ?_
  clear hlq lq
  intro K lq hlq hK
  refine wanted_go (by rfl) ?_
  refine ⟨?_, fun W hW => ?_, ?_⟩
  rotate_left
  · skip
    go_simp
    with_reducible rfl
  refine hK _ ?_
  clear hK K
  (try simp only [Act.put, List.setIfInBounds_toArray, List.set_cons_zero, List.set_cons_succ])
  refine wpQuiet_step_h hlq ?_
  clear hlq lq
  intro K lq hlq hK
  refine wanted_go (by rfl) ?_
  refine ⟨?_, fun W hW => ?_, ?_⟩
  rotate_left
  · skip
    go_simp
    with_reducible rfl
  refine hK _ ?_
  clear hK K
  (try simp only [Act.put, List.setIfInBounds_toArray, List.set_cons_zero, List.set_cons_succ])
  refine wpQuiet_nil_h hlq ?_
  clear hlq lq hV19
  intro V20 hV21
  go_wp2_with fail
  go_ret
  exact ⟨rfl, hV21.bel⟩
theorem AddrBack_walk (a : List Int) (p : Pf) (q : Pr) (ha : isA a) (hp : p.ok) (hq : q.fit) {w : World} (E : Env w) : Calls Tryz.prog 13 #[vA a, vPf p, vPP q] w fun e w' => e = .returned (.bool true) ∧ Below w.heap.size w w' := by
  obtain ⟨r, e, hpr⟩ : ∃ r e, parsePS ⟨(pfxS p).toArray⟩ = (r, e) := ⟨_, _, rfl⟩
  obtain ⟨u, f, hqu⟩ : ∃ r e, parsePPS ⟨(pairS q).toArray⟩ = (r, e) := ⟨_, _, rfl⟩
  have hro : r.ok := by have := parsePS_ok ⟨(pfxS p).toArray⟩; rw [hpr] at this; exact this
  have huo : u.fit := by have := parsePPS_fit ⟨(pairS q).toArray⟩; rw [hqu] at this; exact this
  cases h1 : chk p with
  | true =>
    have hb := back_pfx hp.1 h1
    rw [hpr] at hb
    cases hb
    cases h2 : chkPP q with
    | true =>
      have hc := back_pair hq h2
      rw [hqu] at hc
      cases hc
      exact back_yy ha hp hq h1 h2 hpr hqu hro huo rfl rfl rfl rfl E
    | false => exact back_yn ha hp hq h1 h2 hpr hqu hro huo rfl rfl E
  | false =>
    cases h2 : chkPP q with
    | true =>
      have hc := back_pair hq h2
      rw [hqu] at hc
      cases hc
      exact back_ny ha hp hq h1 h2 hpr hqu hro huo rfl rfl E
    | false => exact back_nn ha hp hq h1 h2 hpr hqu hro huo E
end Go.Proofs.YtnljjlaececnkaaGreatDoor
