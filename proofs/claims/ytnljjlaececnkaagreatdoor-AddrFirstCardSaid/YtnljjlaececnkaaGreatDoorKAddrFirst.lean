/-
  The walk of AddrFirst. Condition: the variables hold what their initialisers laid.
-/
import Derived.Test.YtnljjlaececnkaaGreatDoorBD
namespace Go.Proofs.YtnljjlaececnkaaGreatDoor
open Go.RowKit
set_option linter.unusedVariables false
set_option linter.unusedSimpArgs false
theorem of_call {w : World} {a : List Int} (ha : isA a) {n : Int} {p : Pf} {e : Int} (hp : okP (ofP a n) = p) (he : (if (ofP a n).isSome then (0 : Int) else 2) = e) : Calls Tryz.prog 53 #[vA a, .int .i64 n] w fun e' w' => e' = .returned (.tuple #[vPf p, .int .i64 e]) ∧ Below w.heap.size w w' := (of_any ha n).mono fun e' w' h => ⟨by have := h.1; unfold OfR at this; rw [this, hp, he], h.2⟩
theorem fchk_call {w : World} {p : Pf} (hp : p.ok) (h : chk p = true) : Calls Tryz.prog 38 #[vPf p] w fun e w' => e = .returned (.int .i64 0) ∧ Below w.heap.size w w' := (check_any hp).mono fun e w' h' => ⟨by rw [h'.1, h]; rfl, h'.2⟩
theorem fcont_call {w : World} {p : Pf} {a : List Int} (hp : p.ok) (ha : isA a) {b : Bool} (h : cont p a = b) : Calls Tryz.prog 39 #[vPf p, vA a] w fun e w' => e = .returned (.bool b) ∧ Below w.heap.size w w' := (cont_any hp ha).mono fun e w' h' => ⟨by rw [h'.1, h], h'.2⟩
theorem fcov_call {w : World} {p q : Pf} (hp : p.ok) (hq : q.ok) {b : Bool} (h : cov p q = b) : Calls Tryz.prog 40 #[vPf p, vPf q] w fun e w' => e = .returned (.bool b) ∧ Below w.heap.size w w' := (cov_any hp hq).mono fun e w' h' => ⟨by rw [h'.1, h], h'.2⟩
theorem fpfam_call {w : World} {p : Pf} (hp : p.ok) {n : Int} (h : pfam p = n) : Calls Tryz.prog 54 #[vPf p] w fun e w' => e = .returned (.int .i64 n) ∧ Below w.heap.size w w' := (pfam_any hp).mono fun e w' h' => ⟨by rw [h'.1, h], h'.2⟩
theorem ffam_call {w : World} {a : List Int} (ha : isA a) {n : Int} (h : fam a = n) : Calls Tryz.prog 32 #[vA a] w fun e w' => e = .returned (.int .i64 n) ∧ Below w.heap.size w w' := (fam_any ha).mono fun e w' h' => ⟨by rw [h'.1, h], h'.2⟩
set_option maxRecDepth 100000 in
set_option maxHeartbeats 3200000 in
theorem first_yn {a : List Int} (ha : isA a) {n m : Int} {p q : Pf} (hp : p.ok) (hq : q.ok) (h1 : okP (ofP a n) = p) (h2 : (if (ofP a n).isSome then (0 : Int) else 2) = 0) (h3 : okP (ofP a m) = q) (h4 : (if (ofP a m).isSome then (0 : Int) else 2) = 2) {w : World} (E : Env w)  (zq : q = zeroP) : Calls Tryz.prog 12 #[vA a, .int .i64 n, .int .i64 m] w fun e w' => e = .returned (.bool true) ∧ Below w.heap.size w w' := by
  have hzq := fun W => eql_P W hq zeroP_ok
  rw [show decide (q = zeroP) = true from decide_eq_true zq] at hzq
  clear zq
  have Hp := Lib.hid hp
  have Hq := Lib.hid hq
  have Ha := Lib.hid ha
  have B := (((Bz.start w).alloc (oA a) rfl) : Bz w [(w.heap.size, oA a)] _)
  clear hp hq ha
  replace h1 := Lib.hid h1
  replace h2 := Lib.hid h2
  replace h3 := Lib.hid h3
  replace h4 := Lib.hid h4
  unfold vA
  go_enter Tryz.func12, Tryz.ntmps12
  go_wp2_with (refine wpList_quiet_take (C := Bz w [(w.heap.size, oA a)]) 9 6 (by rfl) B ?_)
  (try simp only [List.take_succ_cons, List.take_zero, List.drop_succ_cons, List.drop_zero])
  refine wpQuiet_hide ?_
  intro lq hlq
  refine wpQuiet_step_h hlq ?_
  clear hlq lq
  intro K lq hlq hK
  refine wanted_go (by rfl) ?_
  refine ⟨vA a, fun W hW => ?_, ?_⟩
  · skip
    exact quiet_load 42 _ rfl rfl (ldA (hW.all.get 0 (x := (w.heap.size, oA a)) rfl) Ha.out)
  refine hK _ ?_
  clear hK K
  (try simp only [Act.put, List.setIfInBounds_toArray, List.set_cons_zero, List.set_cons_succ])
  refine wpQuiet_step_h hlq ?_
  clear hlq lq
  intro K lq hlq hK
  refine wanted_go (by rfl) ?_
  refine ⟨?_, fun W hW => ?_, ?_⟩
  rotate_left
  · skip
    go_simp
    with_reducible rfl
  refine hK _ ?_
  clear hK K
  (try simp only [Act.put, List.setIfInBounds_toArray, List.set_cons_zero, List.set_cons_succ])
  refine wpQuiet_step_h hlq ?_
  clear hlq lq
  intro K lq hlq hK
  refine wanted_go (by rfl) ?_
  refine ⟨.tuple #[vPf p, .int .i64 0], fun W hW => ?_, ?_⟩
  · go_simp
    have E' := hW.env E
    exact (of_call Ha.out h1.out h2.out).mono fun e W2 hc2 => ⟨hc2.1, hW.go hc2.2⟩
  refine hK _ ?_
  clear hK K
  (try simp only [Act.put, List.setIfInBounds_toArray, List.set_cons_zero, List.set_cons_succ])
  refine wpQuiet_step_h hlq ?_
  clear hlq lq
  intro K lq hlq hK
  refine wanted_go (by rfl) ?_
  refine ⟨?_, fun W hW => ?_, ?_⟩
  rotate_left
  · skip
    go_simp
    with_reducible rfl
  refine hK _ ?_
  clear hK K
  (try simp only [Act.put, List.setIfInBounds_toArray, List.set_cons_zero, List.set_cons_succ])
  refine wpQuiet_step_h hlq ?_
  clear hlq lq
  intro K lq hlq hK
  refine wanted_go (by rfl) ?_
  refine ⟨?_, fun W hW => ?_, ?_⟩
  rotate_left
  · skip
    go_simp
    with_reducible rfl
  refine hK _ ?_
  clear hK K
  (try simp only [Act.put, List.setIfInBounds_toArray, List.set_cons_zero, List.set_cons_succ])
  refine wpQuiet_step_h hlq ?_
  clear hlq lq
  intro K lq hlq hK
  refine wanted_go (by rfl) ?_
  refine ⟨?_, fun W hW => ?_, ?_⟩
  rotate_left
  · skip
    go_simp
    with_reducible rfl
  refine hK _ ?_
  clear hK K
  (try simp only [Act.put, List.setIfInBounds_toArray, List.set_cons_zero, List.set_cons_succ])
  refine wpQuiet_nil_h hlq ?_
  clear hlq lq B
  intro V1 hV2
  refine wpList_new rfl rfl rfl rfl z55 rfl (by rfl) (by rfl) (info55 Hp.out.1 _) (sizeP' Hp.out) (pCs_one _ _) ?_
  (try simp only [Act.put, List.setIfInBounds_toArray, List.set_cons_zero, List.set_cons_succ])
  have hB3 : Bz w [(V1.heap.size, oP p), (w.heap.size, oA a)] (V1.alloc (oP p)) := hV2.alloc (oP p) rfl
  clear hV2
  refine wpList_quiet (C := Bz w [(V1.heap.size, oP p), (w.heap.size, oA a)]) 1 (by rfl) hB3 ?_
  refine wpQuiet_hide ?_
  intro lq hlq
  refine wpQuiet_step_h hlq ?_
  clear hlq lq
  intro K lq hlq hK
  refine wanted_go (by rfl) ?_
  refine ⟨?_, fun W hW => ?_, ?_⟩
  rotate_left
  · skip
    go_simp
    with_reducible rfl
  refine hK _ ?_
  clear hK K
  (try simp only [Act.put, List.setIfInBounds_toArray, List.set_cons_zero, List.set_cons_succ])
  refine wpQuiet_nil_h hlq ?_
  clear hlq lq hB3
  intro V4 hV5
  go_wp2_with (refine wpList_quiet_take (C := Bz w [(V1.heap.size, oP p), (w.heap.size, oA a)]) 9 6 (by rfl) hV5 ?_)
  (try simp only [List.take_succ_cons, List.take_zero, List.drop_succ_cons, List.drop_zero])
  refine wpQuiet_hide ?_
  intro lq hlq
  refine wpQuiet_step_h hlq ?_
  clear hlq lq
  intro K lq hlq hK
  refine wanted_go (by rfl) ?_
  refine ⟨vA a, fun W hW => ?_, ?_⟩
  · skip
    exact quiet_load 42 _ rfl rfl (ldA (hW.all.get 1 (x := (w.heap.size, oA a)) rfl) Ha.out)
  refine hK _ ?_
  clear hK K
  (try simp only [Act.put, List.setIfInBounds_toArray, List.set_cons_zero, List.set_cons_succ])
  refine wpQuiet_step_h hlq ?_
  clear hlq lq
  intro K lq hlq hK
  refine wanted_go (by rfl) ?_
  refine ⟨?_, fun W hW => ?_, ?_⟩
  rotate_left
  · skip
    go_simp
    with_reducible rfl
  refine hK _ ?_
  clear hK K
  (try simp only [Act.put, List.setIfInBounds_toArray, List.set_cons_zero, List.set_cons_succ])
  refine wpQuiet_step_h hlq ?_
  clear hlq lq
  intro K lq hlq hK
  refine wanted_go (by rfl) ?_
  refine ⟨.tuple #[vPf q, .int .i64 2], fun W hW => ?_, ?_⟩
  · go_simp
    have E' := hW.env E
    exact (of_call Ha.out h3.out h4.out).mono fun e W2 hc2 => ⟨hc2.1, hW.go hc2.2⟩
  refine hK _ ?_
  clear hK K
  (try simp only [Act.put, List.setIfInBounds_toArray, List.set_cons_zero, List.set_cons_succ])
  refine wpQuiet_step_h hlq ?_
  clear hlq lq
  intro K lq hlq hK
  refine wanted_go (by rfl) ?_
  refine ⟨?_, fun W hW => ?_, ?_⟩
  rotate_left
  · skip
    go_simp
    with_reducible rfl
  refine hK _ ?_
  clear hK K
  (try simp only [Act.put, List.setIfInBounds_toArray, List.set_cons_zero, List.set_cons_succ])
  refine wpQuiet_step_h hlq ?_
  clear hlq lq
  intro K lq hlq hK
  refine wanted_go (by rfl) ?_
  refine ⟨?_, fun W hW => ?_, ?_⟩
  rotate_left
  · skip
    go_simp
    with_reducible rfl
  refine hK _ ?_
  clear hK K
  (try simp only [Act.put, List.setIfInBounds_toArray, List.set_cons_zero, List.set_cons_succ])
  refine wpQuiet_step_h hlq ?_
  clear hlq lq
  intro K lq hlq hK
  refine wanted_go (by rfl) ?_
  refine ⟨?_, fun W hW => ?_, ?_⟩
  rotate_left
  · skip
    go_simp
    with_reducible rfl
  refine hK _ ?_
  clear hK K
  (try simp only [Act.put, List.setIfInBounds_toArray, List.set_cons_zero, List.set_cons_succ])
  refine wpQuiet_nil_h hlq ?_
  clear hlq lq hV5
  intro V6 hV7
  refine wpList_new rfl rfl rfl rfl z55 rfl (by rfl) (by rfl) (info55 Hq.out.1 _) (sizeP' Hq.out) (pCs_one _ _) ?_
  (try simp only [Act.put, List.setIfInBounds_toArray, List.set_cons_zero, List.set_cons_succ])
  have hB8 : Bz w [(V6.heap.size, oP q), (V1.heap.size, oP p), (w.heap.size, oA a)] (V6.alloc (oP q)) := hV7.alloc (oP q) rfl
  clear hV7
  refine wpList_quiet (C := Bz w [(V6.heap.size, oP q), (V1.heap.size, oP p), (w.heap.size, oA a)]) 1 (by rfl) hB8 ?_
  refine wpQuiet_hide ?_
  intro lq hlq
  refine wpQuiet_step_h hlq ?_
  clear hlq lq
  intro K lq hlq hK
  refine wanted_go (by rfl) ?_
  refine ⟨?_, fun W hW => ?_, ?_⟩
  rotate_left
  · skip
    go_simp
    with_reducible rfl
  refine hK _ ?_
  clear hK K
  (try simp only [Act.put, List.setIfInBounds_toArray, List.set_cons_zero, List.set_cons_succ])
  refine wpQuiet_nil_h hlq ?_
  clear hlq lq hB8
  intro V9 hV10
  go_wp2_with (refine wpList_quiet (C := Bz w [(V6.heap.size, oP q), (V1.heap.size, oP p), (w.heap.size, oA a)]) 7 (by rfl) hV10 ?_)
  refine wpQuiet_hide ?_
  intro lq hlq
  refine wpQuiet_step_h hlq ?_
  clear hlq lq
  intro K lq hlq hK
  refine wanted_go (by rfl) ?_
  refine ⟨.int .i64 0, fun W hW => ?_, ?_⟩
  · go_simp
    have E' := hW.env E
    exact (num_lit _).mono fun e W2 hc2 => ⟨hc2.1, hW.go hc2.2⟩
  refine hK _ ?_
  clear hK K
  (try simp only [Act.put, List.setIfInBounds_toArray, List.set_cons_zero, List.set_cons_succ])
  refine wpQuiet_step_h hlq ?_
  clear hlq lq
  intro K lq hlq hK
  refine wanted_go (by rfl) ?_
  refine ⟨?_, fun W hW => ?_, ?_⟩
  rotate_left
  · skip
    go_simp
    with_reducible rfl
  refine hK _ ?_
  clear hK K
  (try simp only [Act.put, List.setIfInBounds_toArray, List.set_cons_zero, List.set_cons_succ])
  refine wpQuiet_step_h hlq ?_
  clear hlq lq
  intro K lq hlq hK
  refine wanted_go (by rfl) ?_
  refine ⟨?_, fun W hW => ?_, ?_⟩
  rotate_left
  · skip
    go_simp
    with_reducible rfl
  refine hK _ ?_
  clear hK K
  (try simp only [Act.put, List.setIfInBounds_toArray, List.set_cons_zero, List.set_cons_succ])
  refine wpQuiet_step_h hlq ?_
  clear hlq lq
  intro K lq hlq hK
  refine wanted_go (by rfl) ?_
  refine ⟨?_, fun W hW => ?_, ?_⟩
  rotate_left
  · skip
    go_simp
    with_reducible rfl
  refine hK _ ?_
  clear hK K
  (try simp only [Act.put, List.setIfInBounds_toArray, List.set_cons_zero, List.set_cons_succ])
  refine wpQuiet_step_h hlq ?_
  clear hlq lq
  intro K lq hlq hK
  refine wanted_go (by rfl) ?_
  refine ⟨.int .i64 2, fun W hW => ?_, ?_⟩
  · go_simp
    have E' := hW.env E
    exact (num_lit _).mono fun e W2 hc2 => ⟨hc2.1, hW.go hc2.2⟩
  refine hK _ ?_
  clear hK K
  (try simp only [Act.put, List.setIfInBounds_toArray, List.set_cons_zero, List.set_cons_succ])
  refine wpQuiet_step_h hlq ?_
  clear hlq lq
  intro K lq hlq hK
  refine wanted_go (by rfl) ?_
  refine ⟨?_, fun W hW => ?_, ?_⟩
  rotate_left
  · skip
    go_simp
    with_reducible rfl
  refine hK _ ?_
  clear hK K
  (try simp only [Act.put, List.setIfInBounds_toArray, List.set_cons_zero, List.set_cons_succ])
  refine wpQuiet_step_h hlq ?_
  clear hlq lq
  intro K lq hlq hK
  refine wanted_go (by rfl) ?_
  refine ⟨?_, fun W hW => ?_, ?_⟩
  rotate_left
  · skip
    go_simp
    with_reducible rfl
  refine hK _ ?_
  clear hK K
  (try simp only [Act.put, List.setIfInBounds_toArray, List.set_cons_zero, List.set_cons_succ])
  refine wpQuiet_nil_h hlq ?_
  clear hlq lq hV10
  intro V11 hV12
  go_wp2_with (refine wpList_quiet (C := Bz w [(V6.heap.size, oP q), (V1.heap.size, oP p), (w.heap.size, oA a)]) 21 (by rfl) hV12 ?_)
  refine wpQuiet_hide ?_
  intro lq hlq
  refine wpQuiet_step_h hlq ?_
  clear hlq lq
  intro K lq hlq hK
  refine wanted_go (by rfl) ?_
  refine ⟨.int .i64 0, fun W hW => ?_, ?_⟩
  · go_simp
    have E' := hW.env E
    exact (num_lit _).mono fun e W2 hc2 => ⟨hc2.1, hW.go hc2.2⟩
  refine hK _ ?_
  clear hK K
  (try simp only [Act.put, List.setIfInBounds_toArray, List.set_cons_zero, List.set_cons_succ])
  refine wpQuiet_step_h hlq ?_
  clear hlq lq
  intro K lq hlq hK
  refine wanted_go (by rfl) ?_
  refine ⟨?_, fun W hW => ?_, ?_⟩
  rotate_left
  · skip
    go_simp
    with_reducible rfl
  refine hK _ ?_
  clear hK K
  (try simp only [Act.put, List.setIfInBounds_toArray, List.set_cons_zero, List.set_cons_succ])
  refine wpQuiet_step_h hlq ?_
  clear hlq lq
  intro K lq hlq hK
  refine wanted_go (by rfl) ?_
  refine ⟨?_, fun W hW => ?_, ?_⟩
  rotate_left
  · skip
    go_simp
    with_reducible rfl
  refine hK _ ?_
  clear hK K
  (try simp only [Act.put, List.setIfInBounds_toArray, List.set_cons_zero, List.set_cons_succ])
  refine wpQuiet_step_h hlq ?_
  clear hlq lq
  intro K lq hlq hK
  go_simp
  refine hK _ ?_
  clear hK K
  refine wpQuiet_step_h hlq ?_
  clear hlq lq
  intro K lq hlq hK
  go_simp
  refine hK _ ?_
  clear hK K
  refine wpQuiet_step_h hlq ?_
  clear hlq lq
  intro K lq hlq hK
  go_simp
  refine hK _ ?_
  clear hK K
  refine wpQuiet_step_h hlq ?_
  clear hlq lq
  intro K lq hlq hK
  refine wanted_go (by rfl) ?_
  refine ⟨?_, fun W hW => ?_, ?_⟩
  rotate_left
  · skip
    go_simp
    with_reducible rfl
  refine hK _ ?_
  clear hK K
  (try simp only [Act.put, List.setIfInBounds_toArray, List.set_cons_zero, List.set_cons_succ])
  refine wpQuiet_step_h hlq ?_
  clear hlq lq
  intro K lq hlq hK
  refine wanted_go (by rfl) ?_
  refine ⟨?_, fun W hW => ?_, ?_⟩
  rotate_left
  · skip
    go_simp
    with_reducible rfl
  refine hK _ ?_
  clear hK K
  (try simp only [Act.put, List.setIfInBounds_toArray, List.set_cons_zero, List.set_cons_succ])
  refine wpQuiet_step_h hlq ?_
  clear hlq lq
  intro K lq hlq hK
  refine wanted_go (by rfl) ?_
  refine ⟨?_, fun W hW => ?_, ?_⟩
  rotate_left
  · skip
    go_simp
    with_reducible rfl
  refine hK _ ?_
  clear hK K
  (try simp only [Act.put, List.setIfInBounds_toArray, List.set_cons_zero, List.set_cons_succ])
  refine wpQuiet_step_h hlq ?_
  clear hlq lq
  intro K lq hlq hK
  refine wanted_go (by rfl) ?_
  refine ⟨.int .i64 2, fun W hW => ?_, ?_⟩
  · go_simp
    have E' := hW.env E
    exact (num_lit _).mono fun e W2 hc2 => ⟨hc2.1, hW.go hc2.2⟩
  refine hK _ ?_
  clear hK K
  (try simp only [Act.put, List.setIfInBounds_toArray, List.set_cons_zero, List.set_cons_succ])
  refine wpQuiet_step_h hlq ?_
  clear hlq lq
  intro K lq hlq hK
  refine wanted_go (by rfl) ?_
  refine ⟨?_, fun W hW => ?_, ?_⟩
  rotate_left
  · skip
    go_simp
    with_reducible rfl
  refine hK _ ?_
  clear hK K
  (try simp only [Act.put, List.setIfInBounds_toArray, List.set_cons_zero, List.set_cons_succ])
  refine wpQuiet_step_h hlq ?_
  clear hlq lq
  intro K lq hlq hK
  refine wanted_go (by rfl) ?_
  refine ⟨?_, fun W hW => ?_, ?_⟩
  rotate_left
  · skip
    go_simp
    with_reducible rfl
  refine hK _ ?_
  clear hK K
  (try simp only [Act.put, List.setIfInBounds_toArray, List.set_cons_zero, List.set_cons_succ])
  refine wpQuiet_step_h hlq ?_
  clear hlq lq
  intro K lq hlq hK
  refine wanted_go (by rfl) ?_
  refine ⟨vPf q, fun W hW => ?_, ?_⟩
  · skip
    exact quiet_load 55 _ rfl rfl (ldP (hW.all.get 0 (x := (V6.heap.size, oP q)) rfl) Hq.out)
  refine hK _ ?_
  clear hK K
  (try simp only [Act.put, List.setIfInBounds_toArray, List.set_cons_zero, List.set_cons_succ])
  refine wpQuiet_step_h hlq ?_
  clear hlq lq
  intro K lq hlq hK
  refine wanted_go (by rfl) ?_
  refine ⟨?_, fun W hW => ?_, ?_⟩
  rotate_left
  · skip
    go_simp
    with_reducible rfl
  refine hK _ ?_
  clear hK K
  (try simp only [Act.put, List.setIfInBounds_toArray, List.set_cons_zero, List.set_cons_succ])
  refine wpQuiet_step_h hlq ?_
  clear hlq lq
  intro K lq hlq hK
  refine wanted_go (by rfl) ?_
  refine ⟨.bool true, fun W hW => ?_, ?_⟩
  · skip
    exact quiet_eq (.inl rfl) (by rfl) (by rfl) (by rfl) guard55 (hzq W)
  refine hK _ ?_
  clear hK K
  (try simp only [Act.put, List.setIfInBounds_toArray, List.set_cons_zero, List.set_cons_succ])
  refine wpQuiet_step_h hlq ?_
  clear hlq lq
  intro K lq hlq hK
  refine wanted_go (by rfl) ?_
  refine ⟨?_, fun W hW => ?_, ?_⟩
  rotate_left
  · skip
    go_simp
    with_reducible rfl
  refine hK _ ?_
  clear hK K
  (try simp only [Act.put, List.setIfInBounds_toArray, List.set_cons_zero, List.set_cons_succ])
  refine wpQuiet_step_h hlq ?_
  clear hlq lq
  intro K lq hlq hK
  refine wanted_go (by rfl) ?_
  refine ⟨?_, fun W hW => ?_, ?_⟩
  rotate_left
  · skip
    go_simp
    with_reducible rfl
  refine hK _ ?_
  clear hK K
  (try simp only [Act.put, List.setIfInBounds_toArray, List.set_cons_zero, List.set_cons_succ])
  refine wpQuiet_step_h hlq ?_
  clear hlq lq
  intro K lq hlq hK
  refine wanted_go (by rfl) ?_
  refine ⟨?_, fun W hW => ?_, ?_⟩
  rotate_left
  · skip
    go_simp
    with_reducible rfl
  refine hK _ ?_
  clear hK K
  (try simp only [Act.put, List.setIfInBounds_toArray, List.set_cons_zero, List.set_cons_succ])
  refine wpQuiet_step_h hlq ?_
  clear hlq lq
  intro K lq hlq hK
  refine wanted_go (by rfl) ?_
  refine ⟨.bool true, fun W hW => ?_, ?_⟩
  · go_simp
    have E' := hW.env E
    exact (live02_any E').mono fun e W2 hc2 => ⟨hc2.1, hW.go hc2.2⟩
  refine hK _ ?_
  clear hK K
  (try simp only [Act.put, List.setIfInBounds_toArray, List.set_cons_zero, List.set_cons_succ])
  refine wpQuiet_step_h hlq ?_
  clear hlq lq
  intro K lq hlq hK
  refine wanted_go (by rfl) ?_
  refine ⟨?_, fun W hW => ?_, ?_⟩
  rotate_left
  · skip
    go_simp
    with_reducible rfl
  refine hK _ ?_
  clear hK K
  (try simp only [Act.put, List.setIfInBounds_toArray, List.set_cons_zero, List.set_cons_succ])
  refine wpQuiet_step_h hlq ?_
  clear hlq lq
  intro K lq hlq hK
  refine wanted_go (by rfl) ?_
  refine ⟨?_, fun W hW => ?_, ?_⟩
  rotate_left
  · skip
    go_simp
    with_reducible rfl
  refine hK _ ?_
  clear hK K
  (try simp only [Act.put, List.setIfInBounds_toArray, List.set_cons_zero, List.set_cons_succ])
  refine wpQuiet_nil_h hlq ?_
  clear hlq lq hV12
  intro V13 hV14
  go_wp2_with fail
  go_ret
  exact ⟨rfl, hV14.bel⟩
set_option maxRecDepth 100000 in
set_option maxHeartbeats 3200000 in
theorem first_ny {a : List Int} (ha : isA a) {n m : Int} {p q : Pf} (hp : p.ok) (hq : q.ok) (h1 : okP (ofP a n) = p) (h2 : (if (ofP a n).isSome then (0 : Int) else 2) = 2) (h3 : okP (ofP a m) = q) (h4 : (if (ofP a m).isSome then (0 : Int) else 2) = 0) {w : World} (E : Env w)  (zp : p = zeroP) : Calls Tryz.prog 12 #[vA a, .int .i64 n, .int .i64 m] w fun e w' => e = .returned (.bool true) ∧ Below w.heap.size w w' := by
  have hzp := fun W => eql_P W hp zeroP_ok
  rw [show decide (p = zeroP) = true from decide_eq_true zp] at hzp
  clear zp
  have Hp := Lib.hid hp
  have Hq := Lib.hid hq
  have Ha := Lib.hid ha
  have B := (((Bz.start w).alloc (oA a) rfl) : Bz w [(w.heap.size, oA a)] _)
  clear hp hq ha
  replace h1 := Lib.hid h1
  replace h2 := Lib.hid h2
  replace h3 := Lib.hid h3
  replace h4 := Lib.hid h4
  unfold vA
  go_enter Tryz.func12, Tryz.ntmps12
  go_wp2_with (refine wpList_quiet_take (C := Bz w [(w.heap.size, oA a)]) 9 6 (by rfl) B ?_)
  (try simp only [List.take_succ_cons, List.take_zero, List.drop_succ_cons, List.drop_zero])
  refine wpQuiet_hide ?_
  intro lq hlq
  refine wpQuiet_step_h hlq ?_
  clear hlq lq
  intro K lq hlq hK
  refine wanted_go (by rfl) ?_
  refine ⟨vA a, fun W hW => ?_, ?_⟩
  · skip
    exact quiet_load 42 _ rfl rfl (ldA (hW.all.get 0 (x := (w.heap.size, oA a)) rfl) Ha.out)
  refine hK _ ?_
  clear hK K
  (try simp only [Act.put, List.setIfInBounds_toArray, List.set_cons_zero, List.set_cons_succ])
  refine wpQuiet_step_h hlq ?_
  clear hlq lq
  intro K lq hlq hK
  refine wanted_go (by rfl) ?_
  refine ⟨?_, fun W hW => ?_, ?_⟩
  rotate_left
  · skip
    go_simp
    with_reducible rfl
  refine hK _ ?_
  clear hK K
  (try simp only [Act.put, List.setIfInBounds_toArray, List.set_cons_zero, List.set_cons_succ])
  refine wpQuiet_step_h hlq ?_
  clear hlq lq
  intro K lq hlq hK
  refine wanted_go (by rfl) ?_
  refine ⟨.tuple #[vPf p, .int .i64 2], fun W hW => ?_, ?_⟩
  · go_simp
    have E' := hW.env E
    exact (of_call Ha.out h1.out h2.out).mono fun e W2 hc2 => ⟨hc2.1, hW.go hc2.2⟩
  refine hK _ ?_
  clear hK K
  (try simp only [Act.put, List.setIfInBounds_toArray, List.set_cons_zero, List.set_cons_succ])
  refine wpQuiet_step_h hlq ?_
  clear hlq lq
  intro K lq hlq hK
  refine wanted_go (by rfl) ?_
  refine ⟨?_, fun W hW => ?_, ?_⟩
  rotate_left
  · skip
    go_simp
    with_reducible rfl
  refine hK _ ?_
  clear hK K
  (try simp only [Act.put, List.setIfInBounds_toArray, List.set_cons_zero, List.set_cons_succ])
  refine wpQuiet_step_h hlq ?_
  clear hlq lq
  intro K lq hlq hK
  refine wanted_go (by rfl) ?_
  refine ⟨?_, fun W hW => ?_, ?_⟩
  rotate_left
  · skip
    go_simp
    with_reducible rfl
  refine hK _ ?_
  clear hK K
  (try simp only [Act.put, List.setIfInBounds_toArray, List.set_cons_zero, List.set_cons_succ])
  refine wpQuiet_step_h hlq ?_
  clear hlq lq
  intro K lq hlq hK
  refine wanted_go (by rfl) ?_
  refine ⟨?_, fun W hW => ?_, ?_⟩
  rotate_left
  · skip
    go_simp
    with_reducible rfl
  refine hK _ ?_
  clear hK K
  (try simp only [Act.put, List.setIfInBounds_toArray, List.set_cons_zero, List.set_cons_succ])
  refine wpQuiet_nil_h hlq ?_
  clear hlq lq B
  intro V1 hV2
  refine wpList_new rfl rfl rfl rfl z55 rfl (by rfl) (by rfl) (info55 Hp.out.1 _) (sizeP' Hp.out) (pCs_one _ _) ?_
  (try simp only [Act.put, List.setIfInBounds_toArray, List.set_cons_zero, List.set_cons_succ])
  have hB3 : Bz w [(V1.heap.size, oP p), (w.heap.size, oA a)] (V1.alloc (oP p)) := hV2.alloc (oP p) rfl
  clear hV2
  refine wpList_quiet (C := Bz w [(V1.heap.size, oP p), (w.heap.size, oA a)]) 1 (by rfl) hB3 ?_
  refine wpQuiet_hide ?_
  intro lq hlq
  refine wpQuiet_step_h hlq ?_
  clear hlq lq
  intro K lq hlq hK
  refine wanted_go (by rfl) ?_
  refine ⟨?_, fun W hW => ?_, ?_⟩
  rotate_left
  · skip
    go_simp
    with_reducible rfl
  refine hK _ ?_
  clear hK K
  (try simp only [Act.put, List.setIfInBounds_toArray, List.set_cons_zero, List.set_cons_succ])
  refine wpQuiet_nil_h hlq ?_
  clear hlq lq hB3
  intro V4 hV5
  go_wp2_with (refine wpList_quiet_take (C := Bz w [(V1.heap.size, oP p), (w.heap.size, oA a)]) 9 6 (by rfl) hV5 ?_)
  (try simp only [List.take_succ_cons, List.take_zero, List.drop_succ_cons, List.drop_zero])
  refine wpQuiet_hide ?_
  intro lq hlq
  refine wpQuiet_step_h hlq ?_
  clear hlq lq
  intro K lq hlq hK
  refine wanted_go (by rfl) ?_
  refine ⟨vA a, fun W hW => ?_, ?_⟩
  · skip
    exact quiet_load 42 _ rfl rfl (ldA (hW.all.get 1 (x := (w.heap.size, oA a)) rfl) Ha.out)
  refine hK _ ?_
  clear hK K
  (try simp only [Act.put, List.setIfInBounds_toArray, List.set_cons_zero, List.set_cons_succ])
  refine wpQuiet_step_h hlq ?_
  clear hlq lq
  intro K lq hlq hK
  refine wanted_go (by rfl) ?_
  refine ⟨?_, fun W hW => ?_, ?_⟩
  rotate_left
  · skip
    go_simp
    with_reducible rfl
  refine hK _ ?_
  clear hK K
  (try simp only [Act.put, List.setIfInBounds_toArray, List.set_cons_zero, List.set_cons_succ])
  refine wpQuiet_step_h hlq ?_
  clear hlq lq
  intro K lq hlq hK
  refine wanted_go (by rfl) ?_
  refine ⟨.tuple #[vPf q, .int .i64 0], fun W hW => ?_, ?_⟩
  · go_simp
    have E' := hW.env E
    exact (of_call Ha.out h3.out h4.out).mono fun e W2 hc2 => ⟨hc2.1, hW.go hc2.2⟩
  refine hK _ ?_
  clear hK K
  (try simp only [Act.put, List.setIfInBounds_toArray, List.set_cons_zero, List.set_cons_succ])
  refine wpQuiet_step_h hlq ?_
  clear hlq lq
  intro K lq hlq hK
  refine wanted_go (by rfl) ?_
  refine ⟨?_, fun W hW => ?_, ?_⟩
  rotate_left
  · skip
    go_simp
    with_reducible rfl
  refine hK _ ?_
  clear hK K
  (try simp only [Act.put, List.setIfInBounds_toArray, List.set_cons_zero, List.set_cons_succ])
  refine wpQuiet_step_h hlq ?_
  clear hlq lq
  intro K lq hlq hK
  refine wanted_go (by rfl) ?_
  refine ⟨?_, fun W hW => ?_, ?_⟩
  rotate_left
  · skip
    go_simp
    with_reducible rfl
  refine hK _ ?_
  clear hK K
  (try simp only [Act.put, List.setIfInBounds_toArray, List.set_cons_zero, List.set_cons_succ])
  refine wpQuiet_step_h hlq ?_
  clear hlq lq
  intro K lq hlq hK
  refine wanted_go (by rfl) ?_
  refine ⟨?_, fun W hW => ?_, ?_⟩
  rotate_left
  · skip
    go_simp
    with_reducible rfl
  refine hK _ ?_
  clear hK K
  (try simp only [Act.put, List.setIfInBounds_toArray, List.set_cons_zero, List.set_cons_succ])
  refine wpQuiet_nil_h hlq ?_
  clear hlq lq hV5
  intro V6 hV7
  refine wpList_new rfl rfl rfl rfl z55 rfl (by rfl) (by rfl) (info55 Hq.out.1 _) (sizeP' Hq.out) (pCs_one _ _) ?_
  (try simp only [Act.put, List.setIfInBounds_toArray, List.set_cons_zero, List.set_cons_succ])
  have hB8 : Bz w [(V6.heap.size, oP q), (V1.heap.size, oP p), (w.heap.size, oA a)] (V6.alloc (oP q)) := hV7.alloc (oP q) rfl
  clear hV7
  refine wpList_quiet (C := Bz w [(V6.heap.size, oP q), (V1.heap.size, oP p), (w.heap.size, oA a)]) 1 (by rfl) hB8 ?_
  refine wpQuiet_hide ?_
  intro lq hlq
  refine wpQuiet_step_h hlq ?_
  clear hlq lq
  intro K lq hlq hK
  refine wanted_go (by rfl) ?_
  refine ⟨?_, fun W hW => ?_, ?_⟩
  rotate_left
  · skip
    go_simp
    with_reducible rfl
  refine hK _ ?_
  clear hK K
  (try simp only [Act.put, List.setIfInBounds_toArray, List.set_cons_zero, List.set_cons_succ])
  refine wpQuiet_nil_h hlq ?_
  clear hlq lq hB8
  intro V9 hV10
  go_wp2_with (refine wpList_quiet (C := Bz w [(V6.heap.size, oP q), (V1.heap.size, oP p), (w.heap.size, oA a)]) 7 (by rfl) hV10 ?_)
  refine wpQuiet_hide ?_
  intro lq hlq
  refine wpQuiet_step_h hlq ?_
  clear hlq lq
  intro K lq hlq hK
  refine wanted_go (by rfl) ?_
  refine ⟨.int .i64 2, fun W hW => ?_, ?_⟩
  · go_simp
    have E' := hW.env E
    exact (num_lit _).mono fun e W2 hc2 => ⟨hc2.1, hW.go hc2.2⟩
  refine hK _ ?_
  clear hK K
  (try simp only [Act.put, List.setIfInBounds_toArray, List.set_cons_zero, List.set_cons_succ])
  refine wpQuiet_step_h hlq ?_
  clear hlq lq
  intro K lq hlq hK
  refine wanted_go (by rfl) ?_
  refine ⟨?_, fun W hW => ?_, ?_⟩
  rotate_left
  · skip
    go_simp
    with_reducible rfl
  refine hK _ ?_
  clear hK K
  (try simp only [Act.put, List.setIfInBounds_toArray, List.set_cons_zero, List.set_cons_succ])
  refine wpQuiet_step_h hlq ?_
  clear hlq lq
  intro K lq hlq hK
  refine wanted_go (by rfl) ?_
  refine ⟨?_, fun W hW => ?_, ?_⟩
  rotate_left
  · skip
    go_simp
    with_reducible rfl
  refine hK _ ?_
  clear hK K
  (try simp only [Act.put, List.setIfInBounds_toArray, List.set_cons_zero, List.set_cons_succ])
  refine wpQuiet_step_h hlq ?_
  clear hlq lq
  intro K lq hlq hK
  go_simp
  refine hK _ ?_
  clear hK K
  refine wpQuiet_step_h hlq ?_
  clear hlq lq
  intro K lq hlq hK
  go_simp
  refine hK _ ?_
  clear hK K
  refine wpQuiet_step_h hlq ?_
  clear hlq lq
  intro K lq hlq hK
  go_simp
  refine hK _ ?_
  clear hK K
  refine wpQuiet_step_h hlq ?_
  clear hlq lq
  intro K lq hlq hK
  refine wanted_go (by rfl) ?_
  refine ⟨?_, fun W hW => ?_, ?_⟩
  rotate_left
  · skip
    go_simp
    with_reducible rfl
  refine hK _ ?_
  clear hK K
  (try simp only [Act.put, List.setIfInBounds_toArray, List.set_cons_zero, List.set_cons_succ])
  refine wpQuiet_nil_h hlq ?_
  clear hlq lq hV10
  intro V11 hV12
  go_wp2_with (refine wpList_quiet (C := Bz w [(V6.heap.size, oP q), (V1.heap.size, oP p), (w.heap.size, oA a)]) 21 (by rfl) hV12 ?_)
  refine wpQuiet_hide ?_
  intro lq hlq
  refine wpQuiet_step_h hlq ?_
  clear hlq lq
  intro K lq hlq hK
  refine wanted_go (by rfl) ?_
  refine ⟨.int .i64 2, fun W hW => ?_, ?_⟩
  · go_simp
    have E' := hW.env E
    exact (num_lit _).mono fun e W2 hc2 => ⟨hc2.1, hW.go hc2.2⟩
  refine hK _ ?_
  clear hK K
  (try simp only [Act.put, List.setIfInBounds_toArray, List.set_cons_zero, List.set_cons_succ])
  refine wpQuiet_step_h hlq ?_
  clear hlq lq
  intro K lq hlq hK
  refine wanted_go (by rfl) ?_
  refine ⟨?_, fun W hW => ?_, ?_⟩
  rotate_left
  · skip
    go_simp
    with_reducible rfl
  refine hK _ ?_
  clear hK K
  (try simp only [Act.put, List.setIfInBounds_toArray, List.set_cons_zero, List.set_cons_succ])
  refine wpQuiet_step_h hlq ?_
  clear hlq lq
  intro K lq hlq hK
  refine wanted_go (by rfl) ?_
  refine ⟨?_, fun W hW => ?_, ?_⟩
  rotate_left
  · skip
    go_simp
    with_reducible rfl
  refine hK _ ?_
  clear hK K
  (try simp only [Act.put, List.setIfInBounds_toArray, List.set_cons_zero, List.set_cons_succ])
  refine wpQuiet_step_h hlq ?_
  clear hlq lq
  intro K lq hlq hK
  refine wanted_go (by rfl) ?_
  refine ⟨vPf p, fun W hW => ?_, ?_⟩
  · skip
    exact quiet_load 55 _ rfl rfl (ldP (hW.all.get 1 (x := (V1.heap.size, oP p)) rfl) Hp.out)
  refine hK _ ?_
  clear hK K
  (try simp only [Act.put, List.setIfInBounds_toArray, List.set_cons_zero, List.set_cons_succ])
  refine wpQuiet_step_h hlq ?_
  clear hlq lq
  intro K lq hlq hK
  refine wanted_go (by rfl) ?_
  refine ⟨?_, fun W hW => ?_, ?_⟩
  rotate_left
  · skip
    go_simp
    with_reducible rfl
  refine hK _ ?_
  clear hK K
  (try simp only [Act.put, List.setIfInBounds_toArray, List.set_cons_zero, List.set_cons_succ])
  refine wpQuiet_step_h hlq ?_
  clear hlq lq
  intro K lq hlq hK
  refine wanted_go (by rfl) ?_
  refine ⟨.bool true, fun W hW => ?_, ?_⟩
  · skip
    exact quiet_eq (.inl rfl) (by rfl) (by rfl) (by rfl) guard55 (hzp W)
  refine hK _ ?_
  clear hK K
  (try simp only [Act.put, List.setIfInBounds_toArray, List.set_cons_zero, List.set_cons_succ])
  refine wpQuiet_step_h hlq ?_
  clear hlq lq
  intro K lq hlq hK
  refine wanted_go (by rfl) ?_
  refine ⟨?_, fun W hW => ?_, ?_⟩
  rotate_left
  · skip
    go_simp
    with_reducible rfl
  refine hK _ ?_
  clear hK K
  (try simp only [Act.put, List.setIfInBounds_toArray, List.set_cons_zero, List.set_cons_succ])
  refine wpQuiet_step_h hlq ?_
  clear hlq lq
  intro K lq hlq hK
  refine wanted_go (by rfl) ?_
  refine ⟨?_, fun W hW => ?_, ?_⟩
  rotate_left
  · skip
    go_simp
    with_reducible rfl
  refine hK _ ?_
  clear hK K
  (try simp only [Act.put, List.setIfInBounds_toArray, List.set_cons_zero, List.set_cons_succ])
  refine wpQuiet_step_h hlq ?_
  clear hlq lq
  intro K lq hlq hK
  refine wanted_go (by rfl) ?_
  refine ⟨?_, fun W hW => ?_, ?_⟩
  rotate_left
  · skip
    go_simp
    with_reducible rfl
  refine hK _ ?_
  clear hK K
  (try simp only [Act.put, List.setIfInBounds_toArray, List.set_cons_zero, List.set_cons_succ])
  refine wpQuiet_step_h hlq ?_
  clear hlq lq
  intro K lq hlq hK
  refine wanted_go (by rfl) ?_
  refine ⟨.int .i64 0, fun W hW => ?_, ?_⟩
  · go_simp
    have E' := hW.env E
    exact (num_lit _).mono fun e W2 hc2 => ⟨hc2.1, hW.go hc2.2⟩
  refine hK _ ?_
  clear hK K
  (try simp only [Act.put, List.setIfInBounds_toArray, List.set_cons_zero, List.set_cons_succ])
  refine wpQuiet_step_h hlq ?_
  clear hlq lq
  intro K lq hlq hK
  refine wanted_go (by rfl) ?_
  refine ⟨?_, fun W hW => ?_, ?_⟩
  rotate_left
  · skip
    go_simp
    with_reducible rfl
  refine hK _ ?_
  clear hK K
  (try simp only [Act.put, List.setIfInBounds_toArray, List.set_cons_zero, List.set_cons_succ])
  refine wpQuiet_step_h hlq ?_
  clear hlq lq
  intro K lq hlq hK
  refine wanted_go (by rfl) ?_
  refine ⟨?_, fun W hW => ?_, ?_⟩
  rotate_left
  · skip
    go_simp
    with_reducible rfl
  refine hK _ ?_
  clear hK K
  (try simp only [Act.put, List.setIfInBounds_toArray, List.set_cons_zero, List.set_cons_succ])
  refine wpQuiet_step_h hlq ?_
  clear hlq lq
  intro K lq hlq hK
  go_simp
  refine hK _ ?_
  clear hK K
  refine wpQuiet_step_h hlq ?_
  clear hlq lq
  intro K lq hlq hK
  go_simp
  refine hK _ ?_
  clear hK K
  refine wpQuiet_step_h hlq ?_
  clear hlq lq
  intro K lq hlq hK
  go_simp
  refine hK _ ?_
  clear hK K
  refine wpQuiet_step_h hlq ?_
  clear hlq lq
  intro K lq hlq hK
  refine wanted_go (by rfl) ?_
  refine ⟨?_, fun W hW => ?_, ?_⟩
  rotate_left
  · skip
    go_simp
    with_reducible rfl
  refine hK _ ?_
  clear hK K
  (try simp only [Act.put, List.setIfInBounds_toArray, List.set_cons_zero, List.set_cons_succ])
  refine wpQuiet_step_h hlq ?_
  clear hlq lq
  intro K lq hlq hK
  refine wanted_go (by rfl) ?_
  refine ⟨?_, fun W hW => ?_, ?_⟩
  rotate_left
  · skip
    go_simp
    with_reducible rfl
  refine hK _ ?_
  clear hK K
  (try simp only [Act.put, List.setIfInBounds_toArray, List.set_cons_zero, List.set_cons_succ])
  refine wpQuiet_step_h hlq ?_
  clear hlq lq
  intro K lq hlq hK
  refine wanted_go (by rfl) ?_
  refine ⟨?_, fun W hW => ?_, ?_⟩
  rotate_left
  · skip
    go_simp
    with_reducible rfl
  refine hK _ ?_
  clear hK K
  (try simp only [Act.put, List.setIfInBounds_toArray, List.set_cons_zero, List.set_cons_succ])
  refine wpQuiet_step_h hlq ?_
  clear hlq lq
  intro K lq hlq hK
  refine wanted_go (by rfl) ?_
  refine ⟨.bool true, fun W hW => ?_, ?_⟩
  · go_simp
    have E' := hW.env E
    exact (live02_any E').mono fun e W2 hc2 => ⟨hc2.1, hW.go hc2.2⟩
  refine hK _ ?_
  clear hK K
  (try simp only [Act.put, List.setIfInBounds_toArray, List.set_cons_zero, List.set_cons_succ])
  refine wpQuiet_step_h hlq ?_
  clear hlq lq
  intro K lq hlq hK
  refine wanted_go (by rfl) ?_
  refine ⟨?_, fun W hW => ?_, ?_⟩
  rotate_left
  · skip
    go_simp
    with_reducible rfl
  refine hK _ ?_
  clear hK K
  (try simp only [Act.put, List.setIfInBounds_toArray, List.set_cons_zero, List.set_cons_succ])
  refine wpQuiet_step_h hlq ?_
  clear hlq lq
  intro K lq hlq hK
  refine wanted_go (by rfl) ?_
  refine ⟨?_, fun W hW => ?_, ?_⟩
  rotate_left
  · skip
    go_simp
    with_reducible rfl
  refine hK _ ?_
  clear hK K
  (try simp only [Act.put, List.setIfInBounds_toArray, List.set_cons_zero, List.set_cons_succ])
  refine wpQuiet_nil_h hlq ?_
  clear hlq lq hV12
  intro V13 hV14
  go_wp2_with fail
  go_ret
  exact ⟨rfl, hV14.bel⟩
set_option maxRecDepth 100000 in
set_option maxHeartbeats 3200000 in
theorem first_nn {a : List Int} (ha : isA a) {n m : Int} {p q : Pf} (hp : p.ok) (hq : q.ok) (h1 : okP (ofP a n) = p) (h2 : (if (ofP a n).isSome then (0 : Int) else 2) = 2) (h3 : okP (ofP a m) = q) (h4 : (if (ofP a m).isSome then (0 : Int) else 2) = 2) {w : World} (E : Env w)  (zp : p = zeroP) (zq : q = zeroP) : Calls Tryz.prog 12 #[vA a, .int .i64 n, .int .i64 m] w fun e w' => e = .returned (.bool true) ∧ Below w.heap.size w w' := by
  have hzp := fun W => eql_P W hp zeroP_ok
  rw [show decide (p = zeroP) = true from decide_eq_true zp] at hzp
  clear zp
  have hzq := fun W => eql_P W hq zeroP_ok
  rw [show decide (q = zeroP) = true from decide_eq_true zq] at hzq
  clear zq
  have Hp := Lib.hid hp
  have Hq := Lib.hid hq
  have Ha := Lib.hid ha
  have B := (((Bz.start w).alloc (oA a) rfl) : Bz w [(w.heap.size, oA a)] _)
  clear hp hq ha
  replace h1 := Lib.hid h1
  replace h2 := Lib.hid h2
  replace h3 := Lib.hid h3
  replace h4 := Lib.hid h4
  unfold vA
  go_enter Tryz.func12, Tryz.ntmps12
  go_wp2_with (refine wpList_quiet_take (C := Bz w [(w.heap.size, oA a)]) 9 6 (by rfl) B ?_)
  (try simp only [List.take_succ_cons, List.take_zero, List.drop_succ_cons, List.drop_zero])
  refine wpQuiet_hide ?_
  intro lq hlq
  refine wpQuiet_step_h hlq ?_
  clear hlq lq
  intro K lq hlq hK
  refine wanted_go (by rfl) ?_
  refine ⟨vA a, fun W hW => ?_, ?_⟩
  · skip
    exact quiet_load 42 _ rfl rfl (ldA (hW.all.get 0 (x := (w.heap.size, oA a)) rfl) Ha.out)
  refine hK _ ?_
  clear hK K
  (try simp only [Act.put, List.setIfInBounds_toArray, List.set_cons_zero, List.set_cons_succ])
  refine wpQuiet_step_h hlq ?_
  clear hlq lq
  intro K lq hlq hK
  refine wanted_go (by rfl) ?_
  refine ⟨?_, fun W hW => ?_, ?_⟩
  rotate_left
  · skip
    go_simp
    with_reducible rfl
  refine hK _ ?_
  clear hK K
  (try simp only [Act.put, List.setIfInBounds_toArray, List.set_cons_zero, List.set_cons_succ])
  refine wpQuiet_step_h hlq ?_
  clear hlq lq
  intro K lq hlq hK
  refine wanted_go (by rfl) ?_
  refine ⟨.tuple #[vPf p, .int .i64 2], fun W hW => ?_, ?_⟩
  · go_simp
    have E' := hW.env E
    exact (of_call Ha.out h1.out h2.out).mono fun e W2 hc2 => ⟨hc2.1, hW.go hc2.2⟩
  refine hK _ ?_
  clear hK K
  (try simp only [Act.put, List.setIfInBounds_toArray, List.set_cons_zero, List.set_cons_succ])
  refine wpQuiet_step_h hlq ?_
  clear hlq lq
  intro K lq hlq hK
  refine wanted_go (by rfl) ?_
  refine ⟨?_, fun W hW => ?_, ?_⟩
  rotate_left
  · skip
    go_simp
    with_reducible rfl
  refine hK _ ?_
  clear hK K
  (try simp only [Act.put, List.setIfInBounds_toArray, List.set_cons_zero, List.set_cons_succ])
  refine wpQuiet_step_h hlq ?_
  clear hlq lq
  intro K lq hlq hK
  refine wanted_go (by rfl) ?_
  refine ⟨?_, fun W hW => ?_, ?_⟩
  rotate_left
  · skip
    go_simp
    with_reducible rfl
  refine hK _ ?_
  clear hK K
  (try simp only [Act.put, List.setIfInBounds_toArray, List.set_cons_zero, List.set_cons_succ])
  refine wpQuiet_step_h hlq ?_
  clear hlq lq
  intro K lq hlq hK
  refine wanted_go (by rfl) ?_
  refine ⟨?_, fun W hW => ?_, ?_⟩
  rotate_left
  · skip
    go_simp
    with_reducible rfl
  refine hK _ ?_
  clear hK K
  (try simp only [Act.put, List.setIfInBounds_toArray, List.set_cons_zero, List.set_cons_succ])
  refine wpQuiet_nil_h hlq ?_
  clear hlq lq B
  intro V1 hV2
  refine wpList_new rfl rfl rfl rfl z55 rfl (by rfl) (by rfl) (info55 Hp.out.1 _) (sizeP' Hp.out) (pCs_one _ _) ?_
  (try simp only [Act.put, List.setIfInBounds_toArray, List.set_cons_zero, List.set_cons_succ])
  have hB3 : Bz w [(V1.heap.size, oP p), (w.heap.size, oA a)] (V1.alloc (oP p)) := hV2.alloc (oP p) rfl
  clear hV2
  refine wpList_quiet (C := Bz w [(V1.heap.size, oP p), (w.heap.size, oA a)]) 1 (by rfl) hB3 ?_
  refine wpQuiet_hide ?_
  intro lq hlq
  refine wpQuiet_step_h hlq ?_
  clear hlq lq
  intro K lq hlq hK
  refine wanted_go (by rfl) ?_
  refine ⟨?_, fun W hW => ?_, ?_⟩
  rotate_left
  · skip
    go_simp
    with_reducible rfl
  refine hK _ ?_
  clear hK K
  (try simp only [Act.put, List.setIfInBounds_toArray, List.set_cons_zero, List.set_cons_succ])
  refine wpQuiet_nil_h hlq ?_
  clear hlq lq hB3
  intro V4 hV5
  go_wp2_with (refine wpList_quiet_take (C := Bz w [(V1.heap.size, oP p), (w.heap.size, oA a)]) 9 6 (by rfl) hV5 ?_)
  (try simp only [List.take_succ_cons, List.take_zero, List.drop_succ_cons, List.drop_zero])
  refine wpQuiet_hide ?_
  intro lq hlq
  refine wpQuiet_step_h hlq ?_
  clear hlq lq
  intro K lq hlq hK
  refine wanted_go (by rfl) ?_
  refine ⟨vA a, fun W hW => ?_, ?_⟩
  · skip
    exact quiet_load 42 _ rfl rfl (ldA (hW.all.get 1 (x := (w.heap.size, oA a)) rfl) Ha.out)
  refine hK _ ?_
  clear hK K
  (try simp only [Act.put, List.setIfInBounds_toArray, List.set_cons_zero, List.set_cons_succ])
  refine wpQuiet_step_h hlq ?_
  clear hlq lq
  intro K lq hlq hK
  refine wanted_go (by rfl) ?_
  refine ⟨?_, fun W hW => ?_, ?_⟩
  rotate_left
  · skip
    go_simp
    with_reducible rfl
  refine hK _ ?_
  clear hK K
  (try simp only [Act.put, List.setIfInBounds_toArray, List.set_cons_zero, List.set_cons_succ])
  refine wpQuiet_step_h hlq ?_
  clear hlq lq
  intro K lq hlq hK
  refine wanted_go (by rfl) ?_
  refine ⟨.tuple #[vPf q, .int .i64 2], fun W hW => ?_, ?_⟩
  · go_simp
    have E' := hW.env E
    exact (of_call Ha.out h3.out h4.out).mono fun e W2 hc2 => ⟨hc2.1, hW.go hc2.2⟩
  refine hK _ ?_
  clear hK K
  (try simp only [Act.put, List.setIfInBounds_toArray, List.set_cons_zero, List.set_cons_succ])
  refine wpQuiet_step_h hlq ?_
  clear hlq lq
  intro K lq hlq hK
  refine wanted_go (by rfl) ?_
  refine ⟨?_, fun W hW => ?_, ?_⟩
  rotate_left
  · skip
    go_simp
    with_reducible rfl
  refine hK _ ?_
  clear hK K
  (try simp only [Act.put, List.setIfInBounds_toArray, List.set_cons_zero, List.set_cons_succ])
  refine wpQuiet_step_h hlq ?_
  clear hlq lq
  intro K lq hlq hK
  refine wanted_go (by rfl) ?_
  refine ⟨?_, fun W hW => ?_, ?_⟩
  rotate_left
  · skip
    go_simp
    with_reducible rfl
  refine hK _ ?_
  clear hK K
  (try simp only [Act.put, List.setIfInBounds_toArray, List.set_cons_zero, List.set_cons_succ])
  refine wpQuiet_step_h hlq ?_
  clear hlq lq
  intro K lq hlq hK
  refine wanted_go (by rfl) ?_
  refine ⟨?_, fun W hW => ?_, ?_⟩
  rotate_left
  · skip
    go_simp
    with_reducible rfl
  refine hK _ ?_
  clear hK K
  (try simp only [Act.put, List.setIfInBounds_toArray, List.set_cons_zero, List.set_cons_succ])
  refine wpQuiet_nil_h hlq ?_
  clear hlq lq hV5
  intro V6 hV7
  refine wpList_new rfl rfl rfl rfl z55 rfl (by rfl) (by rfl) (info55 Hq.out.1 _) (sizeP' Hq.out) (pCs_one _ _) ?_
  (try simp only [Act.put, List.setIfInBounds_toArray, List.set_cons_zero, List.set_cons_succ])
  have hB8 : Bz w [(V6.heap.size, oP q), (V1.heap.size, oP p), (w.heap.size, oA a)] (V6.alloc (oP q)) := hV7.alloc (oP q) rfl
  clear hV7
  refine wpList_quiet (C := Bz w [(V6.heap.size, oP q), (V1.heap.size, oP p), (w.heap.size, oA a)]) 1 (by rfl) hB8 ?_
  refine wpQuiet_hide ?_
  intro lq hlq
  refine wpQuiet_step_h hlq ?_
  clear hlq lq
  intro K lq hlq hK
  refine wanted_go (by rfl) ?_
  refine ⟨?_, fun W hW => ?_, ?_⟩
  rotate_left
  · skip
    go_simp
    with_reducible rfl
  refine hK _ ?_
  clear hK K
  (try simp only [Act.put, List.setIfInBounds_toArray, List.set_cons_zero, List.set_cons_succ])
  refine wpQuiet_nil_h hlq ?_
  clear hlq lq hB8
  intro V9 hV10
  go_wp2_with (refine wpList_quiet (C := Bz w [(V6.heap.size, oP q), (V1.heap.size, oP p), (w.heap.size, oA a)]) 7 (by rfl) hV10 ?_)
  refine wpQuiet_hide ?_
  intro lq hlq
  refine wpQuiet_step_h hlq ?_
  clear hlq lq
  intro K lq hlq hK
  refine wanted_go (by rfl) ?_
  refine ⟨.int .i64 2, fun W hW => ?_, ?_⟩
  · go_simp
    have E' := hW.env E
    exact (num_lit _).mono fun e W2 hc2 => ⟨hc2.1, hW.go hc2.2⟩
  refine hK _ ?_
  clear hK K
  (try simp only [Act.put, List.setIfInBounds_toArray, List.set_cons_zero, List.set_cons_succ])
  refine wpQuiet_step_h hlq ?_
  clear hlq lq
  intro K lq hlq hK
  refine wanted_go (by rfl) ?_
  refine ⟨?_, fun W hW => ?_, ?_⟩
  rotate_left
  · skip
    go_simp
    with_reducible rfl
  refine hK _ ?_
  clear hK K
  (try simp only [Act.put, List.setIfInBounds_toArray, List.set_cons_zero, List.set_cons_succ])
  refine wpQuiet_step_h hlq ?_
  clear hlq lq
  intro K lq hlq hK
  refine wanted_go (by rfl) ?_
  refine ⟨?_, fun W hW => ?_, ?_⟩
  rotate_left
  · skip
    go_simp
    with_reducible rfl
  refine hK _ ?_
  clear hK K
  (try simp only [Act.put, List.setIfInBounds_toArray, List.set_cons_zero, List.set_cons_succ])
  refine wpQuiet_step_h hlq ?_
  clear hlq lq
  intro K lq hlq hK
  go_simp
  refine hK _ ?_
  clear hK K
  refine wpQuiet_step_h hlq ?_
  clear hlq lq
  intro K lq hlq hK
  go_simp
  refine hK _ ?_
  clear hK K
  refine wpQuiet_step_h hlq ?_
  clear hlq lq
  intro K lq hlq hK
  go_simp
  refine hK _ ?_
  clear hK K
  refine wpQuiet_step_h hlq ?_
  clear hlq lq
  intro K lq hlq hK
  refine wanted_go (by rfl) ?_
  refine ⟨?_, fun W hW => ?_, ?_⟩
  rotate_left
  · skip
    go_simp
    with_reducible rfl
  refine hK _ ?_
  clear hK K
  (try simp only [Act.put, List.setIfInBounds_toArray, List.set_cons_zero, List.set_cons_succ])
  refine wpQuiet_nil_h hlq ?_
  clear hlq lq hV10
  intro V11 hV12
  go_wp2_with (refine wpList_quiet (C := Bz w [(V6.heap.size, oP q), (V1.heap.size, oP p), (w.heap.size, oA a)]) 21 (by rfl) hV12 ?_)
  refine wpQuiet_hide ?_
  intro lq hlq
  refine wpQuiet_step_h hlq ?_
  clear hlq lq
  intro K lq hlq hK
  refine wanted_go (by rfl) ?_
  refine ⟨.int .i64 2, fun W hW => ?_, ?_⟩
  · go_simp
    have E' := hW.env E
    exact (num_lit _).mono fun e W2 hc2 => ⟨hc2.1, hW.go hc2.2⟩
  refine hK _ ?_
  clear hK K
  (try simp only [Act.put, List.setIfInBounds_toArray, List.set_cons_zero, List.set_cons_succ])
  refine wpQuiet_step_h hlq ?_
  clear hlq lq
  intro K lq hlq hK
  refine wanted_go (by rfl) ?_
  refine ⟨?_, fun W hW => ?_, ?_⟩
  rotate_left
  · skip
    go_simp
    with_reducible rfl
  refine hK _ ?_
  clear hK K
  (try simp only [Act.put, List.setIfInBounds_toArray, List.set_cons_zero, List.set_cons_succ])
  refine wpQuiet_step_h hlq ?_
  clear hlq lq
  intro K lq hlq hK
  refine wanted_go (by rfl) ?_
  refine ⟨?_, fun W hW => ?_, ?_⟩
  rotate_left
  · skip
    go_simp
    with_reducible rfl
  refine hK _ ?_
  clear hK K
  (try simp only [Act.put, List.setIfInBounds_toArray, List.set_cons_zero, List.set_cons_succ])
  refine wpQuiet_step_h hlq ?_
  clear hlq lq
  intro K lq hlq hK
  refine wanted_go (by rfl) ?_
  refine ⟨vPf p, fun W hW => ?_, ?_⟩
  · skip
    exact quiet_load 55 _ rfl rfl (ldP (hW.all.get 1 (x := (V1.heap.size, oP p)) rfl) Hp.out)
  refine hK _ ?_
  clear hK K
  (try simp only [Act.put, List.setIfInBounds_toArray, List.set_cons_zero, List.set_cons_succ])
  refine wpQuiet_step_h hlq ?_
  clear hlq lq
  intro K lq hlq hK
  refine wanted_go (by rfl) ?_
  refine ⟨?_, fun W hW => ?_, ?_⟩
  rotate_left
  · skip
    go_simp
    with_reducible rfl
  refine hK _ ?_
  clear hK K
  (try simp only [Act.put, List.setIfInBounds_toArray, List.set_cons_zero, List.set_cons_succ])
  refine wpQuiet_step_h hlq ?_
  clear hlq lq
  intro K lq hlq hK
  refine wanted_go (by rfl) ?_
  refine ⟨.bool true, fun W hW => ?_, ?_⟩
  · skip
    exact quiet_eq (.inl rfl) (by rfl) (by rfl) (by rfl) guard55 (hzp W)
  refine hK _ ?_
  clear hK K
  (try simp only [Act.put, List.setIfInBounds_toArray, List.set_cons_zero, List.set_cons_succ])
  refine wpQuiet_step_h hlq ?_
  clear hlq lq
  intro K lq hlq hK
  refine wanted_go (by rfl) ?_
  refine ⟨?_, fun W hW => ?_, ?_⟩
  rotate_left
  · skip
    go_simp
    with_reducible rfl
  refine hK _ ?_
  clear hK K
  (try simp only [Act.put, List.setIfInBounds_toArray, List.set_cons_zero, List.set_cons_succ])
  refine wpQuiet_step_h hlq ?_
  clear hlq lq
  intro K lq hlq hK
  refine wanted_go (by rfl) ?_
  refine ⟨?_, fun W hW => ?_, ?_⟩
  rotate_left
  · skip
    go_simp
    with_reducible rfl
  refine hK _ ?_
  clear hK K
  (try simp only [Act.put, List.setIfInBounds_toArray, List.set_cons_zero, List.set_cons_succ])
  refine wpQuiet_step_h hlq ?_
  clear hlq lq
  intro K lq hlq hK
  refine wanted_go (by rfl) ?_
  refine ⟨?_, fun W hW => ?_, ?_⟩
  rotate_left
  · skip
    go_simp
    with_reducible rfl
  refine hK _ ?_
  clear hK K
  (try simp only [Act.put, List.setIfInBounds_toArray, List.set_cons_zero, List.set_cons_succ])
  refine wpQuiet_step_h hlq ?_
  clear hlq lq
  intro K lq hlq hK
  refine wanted_go (by rfl) ?_
  refine ⟨.int .i64 2, fun W hW => ?_, ?_⟩
  · go_simp
    have E' := hW.env E
    exact (num_lit _).mono fun e W2 hc2 => ⟨hc2.1, hW.go hc2.2⟩
  refine hK _ ?_
  clear hK K
  (try simp only [Act.put, List.setIfInBounds_toArray, List.set_cons_zero, List.set_cons_succ])
  refine wpQuiet_step_h hlq ?_
  clear hlq lq
  intro K lq hlq hK
  refine wanted_go (by rfl) ?_
  refine ⟨?_, fun W hW => ?_, ?_⟩
  rotate_left
  · skip
    go_simp
    with_reducible rfl
  refine hK _ ?_
  clear hK K
  (try simp only [Act.put, List.setIfInBounds_toArray, List.set_cons_zero, List.set_cons_succ])
  refine wpQuiet_step_h hlq ?_
  clear hlq lq
  intro K lq hlq hK
  refine wanted_go (by rfl) ?_
  refine ⟨?_, fun W hW => ?_, ?_⟩
  rotate_left
  · skip
    go_simp
    with_reducible rfl
  refine hK _ ?_
  clear hK K
  (try simp only [Act.put, List.setIfInBounds_toArray, List.set_cons_zero, List.set_cons_succ])
  refine wpQuiet_step_h hlq ?_
  clear hlq lq
  intro K lq hlq hK
  refine wanted_go (by rfl) ?_
  refine ⟨vPf q, fun W hW => ?_, ?_⟩
  · skip
    exact quiet_load 55 _ rfl rfl (ldP (hW.all.get 0 (x := (V6.heap.size, oP q)) rfl) Hq.out)
  refine hK _ ?_
  clear hK K
  (try simp only [Act.put, List.setIfInBounds_toArray, List.set_cons_zero, List.set_cons_succ])
  refine wpQuiet_step_h hlq ?_
  clear hlq lq
  intro K lq hlq hK
  refine wanted_go (by rfl) ?_
  refine ⟨?_, fun W hW => ?_, ?_⟩
  rotate_left
  · skip
    go_simp
    with_reducible rfl
  refine hK _ ?_
  clear hK K
  (try simp only [Act.put, List.setIfInBounds_toArray, List.set_cons_zero, List.set_cons_succ])
  refine wpQuiet_step_h hlq ?_
  clear hlq lq
  intro K lq hlq hK
  refine wanted_go (by rfl) ?_
  refine ⟨.bool true, fun W hW => ?_, ?_⟩
  · skip
    exact quiet_eq (.inl rfl) (by rfl) (by rfl) (by rfl) guard55 (hzq W)
  refine hK _ ?_
  clear hK K
  (try simp only [Act.put, List.setIfInBounds_toArray, List.set_cons_zero, List.set_cons_succ])
  refine wpQuiet_step_h hlq ?_
  clear hlq lq
  intro K lq hlq hK
  refine wanted_go (by rfl) ?_
  refine ⟨?_, fun W hW => ?_, ?_⟩
  rotate_left
  · skip
    go_simp
    with_reducible rfl
  refine hK _ ?_
  clear hK K
  (try simp only [Act.put, List.setIfInBounds_toArray, List.set_cons_zero, List.set_cons_succ])
  refine wpQuiet_step_h hlq ?_
  clear hlq lq
  intro K lq hlq hK
  refine wanted_go (by rfl) ?_
  refine ⟨?_, fun W hW => ?_, ?_⟩
  rotate_left
  · skip
    go_simp
    with_reducible rfl
  refine hK _ ?_
  clear hK K
  (try simp only [Act.put, List.setIfInBounds_toArray, List.set_cons_zero, List.set_cons_succ])
  refine wpQuiet_step_h hlq ?_
  clear hlq lq
  intro K lq hlq hK
  refine wanted_go (by rfl) ?_
  refine ⟨?_, fun W hW => ?_, ?_⟩
  rotate_left
  · skip
    go_simp
    with_reducible rfl
  refine hK _ ?_
  clear hK K
  (try simp only [Act.put, List.setIfInBounds_toArray, List.set_cons_zero, List.set_cons_succ])
  refine wpQuiet_step_h hlq ?_
  clear hlq lq
  intro K lq hlq hK
  refine wanted_go (by rfl) ?_
  refine ⟨.bool true, fun W hW => ?_, ?_⟩
  · go_simp
    have E' := hW.env E
    exact (live02_any E').mono fun e W2 hc2 => ⟨hc2.1, hW.go hc2.2⟩
  refine hK _ ?_
  clear hK K
  (try simp only [Act.put, List.setIfInBounds_toArray, List.set_cons_zero, List.set_cons_succ])
  refine wpQuiet_step_h hlq ?_
  clear hlq lq
  intro K lq hlq hK
  refine wanted_go (by rfl) ?_
  refine ⟨?_, fun W hW => ?_, ?_⟩
  rotate_left
  · skip
    go_simp
    with_reducible rfl
  refine hK _ ?_
  clear hK K
  (try simp only [Act.put, List.setIfInBounds_toArray, List.set_cons_zero, List.set_cons_succ])
  refine wpQuiet_step_h hlq ?_
  clear hlq lq
  intro K lq hlq hK
  refine wanted_go (by rfl) ?_
  refine ⟨?_, fun W hW => ?_, ?_⟩
  rotate_left
  · skip
    go_simp
    with_reducible rfl
  refine hK _ ?_
  clear hK K
  (try simp only [Act.put, List.setIfInBounds_toArray, List.set_cons_zero, List.set_cons_succ])
  refine wpQuiet_nil_h hlq ?_
  clear hlq lq hV12
  intro V13 hV14
  go_wp2_with fail
  go_ret
  exact ⟨rfl, hV14.bel⟩
set_option maxRecDepth 100000 in
set_option maxHeartbeats 3200000 in
theorem first_true {a : List Int} (ha : isA a) {n m : Int} {p q : Pf} (hp : p.ok) (hq : q.ok) (h1 : okP (ofP a n) = p) (h2 : (if (ofP a n).isSome then (0 : Int) else 2) = 0) (h3 : okP (ofP a m) = q) (h4 : (if (ofP a m).isSome then (0 : Int) else 2) = 0) {w : World} (E : Env w) {f : Int} (g1 : chk p = true) (g2 : cont p a = true) (g3 : pfam p = f) (g4 : fam a = f) (g5 : cov p q = true) (g6 : cov (anyP f) p = true) (hnm : decide (n ≤ m) = true) : Calls Tryz.prog 12 #[vA a, .int .i64 n, .int .i64 m] w fun e w' => e = .returned (.bool true) ∧ Below w.heap.size w w' := by
  have Hp := Lib.hid hp
  have Hq := Lib.hid hq
  have Ha := Lib.hid ha
  have B := (((Bz.start w).alloc (oA a) rfl) : Bz w [(w.heap.size, oA a)] _)
  clear hp hq ha
  replace h1 := Lib.hid h1
  replace h2 := Lib.hid h2
  replace h3 := Lib.hid h3
  replace h4 := Lib.hid h4
  replace g1 := Lib.hid g1
  replace g2 := Lib.hid g2
  replace g3 := Lib.hid g3
  replace g4 := Lib.hid g4
  replace g5 := Lib.hid g5
  replace g6 := Lib.hid g6
  unfold vA
  go_enter Tryz.func12, Tryz.ntmps12
  go_wp2_with (refine wpList_quiet_take (C := Bz w [(w.heap.size, oA a)]) 9 6 (by rfl) B ?_)
  (try simp only [List.take_succ_cons, List.take_zero, List.drop_succ_cons, List.drop_zero])
  refine wpQuiet_hide ?_
  intro lq hlq
  refine wpQuiet_step_h hlq ?_
  clear hlq lq
  intro K lq hlq hK
  refine wanted_go (by rfl) ?_
  refine ⟨vA a, fun W hW => ?_, ?_⟩
  · skip
    exact quiet_load 42 _ rfl rfl (ldA (hW.all.get 0 (x := (w.heap.size, oA a)) rfl) Ha.out)
  refine hK _ ?_
  clear hK K
  (try simp only [Act.put, List.setIfInBounds_toArray, List.set_cons_zero, List.set_cons_succ])
  refine wpQuiet_step_h hlq ?_
  clear hlq lq
  intro K lq hlq hK
  refine wanted_go (by rfl) ?_
  refine ⟨?_, fun W hW => ?_, ?_⟩
  rotate_left
  · skip
    go_simp
    with_reducible rfl
  refine hK _ ?_
  clear hK K
  (try simp only [Act.put, List.setIfInBounds_toArray, List.set_cons_zero, List.set_cons_succ])
  refine wpQuiet_step_h hlq ?_
  clear hlq lq
  intro K lq hlq hK
  refine wanted_go (by rfl) ?_
  refine ⟨.tuple #[vPf p, .int .i64 0], fun W hW => ?_, ?_⟩
  · go_simp
    have E' := hW.env E
    exact (of_call Ha.out h1.out h2.out).mono fun e W2 hc2 => ⟨hc2.1, hW.go hc2.2⟩
  refine hK _ ?_
  clear hK K
  (try simp only [Act.put, List.setIfInBounds_toArray, List.set_cons_zero, List.set_cons_succ])
  refine wpQuiet_step_h hlq ?_
  clear hlq lq
  intro K lq hlq hK
  refine wanted_go (by rfl) ?_
  refine ⟨?_, fun W hW => ?_, ?_⟩
  rotate_left
  · skip
    go_simp
    with_reducible rfl
  refine hK _ ?_
  clear hK K
  (try simp only [Act.put, List.setIfInBounds_toArray, List.set_cons_zero, List.set_cons_succ])
  refine wpQuiet_step_h hlq ?_
  clear hlq lq
  intro K lq hlq hK
  refine wanted_go (by rfl) ?_
  refine ⟨?_, fun W hW => ?_, ?_⟩
  rotate_left
  · skip
    go_simp
    with_reducible rfl
  refine hK _ ?_
  clear hK K
  (try simp only [Act.put, List.setIfInBounds_toArray, List.set_cons_zero, List.set_cons_succ])
  refine wpQuiet_step_h hlq ?_
  clear hlq lq
  intro K lq hlq hK
  refine wanted_go (by rfl) ?_
  refine ⟨?_, fun W hW => ?_, ?_⟩
  rotate_left
  · skip
    go_simp
    with_reducible rfl
  refine hK _ ?_
  clear hK K
  (try simp only [Act.put, List.setIfInBounds_toArray, List.set_cons_zero, List.set_cons_succ])
  refine wpQuiet_nil_h hlq ?_
  clear hlq lq B
  intro V1 hV2
  refine wpList_new rfl rfl rfl rfl z55 rfl (by rfl) (by rfl) (info55 Hp.out.1 _) (sizeP' Hp.out) (pCs_one _ _) ?_
  (try simp only [Act.put, List.setIfInBounds_toArray, List.set_cons_zero, List.set_cons_succ])
  have hB3 : Bz w [(V1.heap.size, oP p), (w.heap.size, oA a)] (V1.alloc (oP p)) := hV2.alloc (oP p) rfl
  clear hV2
  refine wpList_quiet (C := Bz w [(V1.heap.size, oP p), (w.heap.size, oA a)]) 1 (by rfl) hB3 ?_
  refine wpQuiet_hide ?_
  intro lq hlq
  refine wpQuiet_step_h hlq ?_
  clear hlq lq
  intro K lq hlq hK
  refine wanted_go (by rfl) ?_
  refine ⟨?_, fun W hW => ?_, ?_⟩
  rotate_left
  · skip
    go_simp
    with_reducible rfl
  refine hK _ ?_
  clear hK K
  (try simp only [Act.put, List.setIfInBounds_toArray, List.set_cons_zero, List.set_cons_succ])
  refine wpQuiet_nil_h hlq ?_
  clear hlq lq hB3
  intro V4 hV5
  go_wp2_with (refine wpList_quiet_take (C := Bz w [(V1.heap.size, oP p), (w.heap.size, oA a)]) 9 6 (by rfl) hV5 ?_)
  (try simp only [List.take_succ_cons, List.take_zero, List.drop_succ_cons, List.drop_zero])
  refine wpQuiet_hide ?_
  intro lq hlq
  refine wpQuiet_step_h hlq ?_
  clear hlq lq
  intro K lq hlq hK
  refine wanted_go (by rfl) ?_
  refine ⟨vA a, fun W hW => ?_, ?_⟩
  · skip
    exact quiet_load 42 _ rfl rfl (ldA (hW.all.get 1 (x := (w.heap.size, oA a)) rfl) Ha.out)
  refine hK _ ?_
  clear hK K
  (try simp only [Act.put, List.setIfInBounds_toArray, List.set_cons_zero, List.set_cons_succ])
  refine wpQuiet_step_h hlq ?_
  clear hlq lq
  intro K lq hlq hK
  refine wanted_go (by rfl) ?_
  refine ⟨?_, fun W hW => ?_, ?_⟩
  rotate_left
  · skip
    go_simp
    with_reducible rfl
  refine hK _ ?_
  clear hK K
  (try simp only [Act.put, List.setIfInBounds_toArray, List.set_cons_zero, List.set_cons_succ])
  refine wpQuiet_step_h hlq ?_
  clear hlq lq
  intro K lq hlq hK
  refine wanted_go (by rfl) ?_
  refine ⟨.tuple #[vPf q, .int .i64 0], fun W hW => ?_, ?_⟩
  · go_simp
    have E' := hW.env E
    exact (of_call Ha.out h3.out h4.out).mono fun e W2 hc2 => ⟨hc2.1, hW.go hc2.2⟩
  refine hK _ ?_
  clear hK K
  (try simp only [Act.put, List.setIfInBounds_toArray, List.set_cons_zero, List.set_cons_succ])
  refine wpQuiet_step_h hlq ?_
  clear hlq lq
  intro K lq hlq hK
  refine wanted_go (by rfl) ?_
  refine ⟨?_, fun W hW => ?_, ?_⟩
  rotate_left
  · skip
    go_simp
    with_reducible rfl
  refine hK _ ?_
  clear hK K
  (try simp only [Act.put, List.setIfInBounds_toArray, List.set_cons_zero, List.set_cons_succ])
  refine wpQuiet_step_h hlq ?_
  clear hlq lq
  intro K lq hlq hK
  refine wanted_go (by rfl) ?_
  refine ⟨?_, fun W hW => ?_, ?_⟩
  rotate_left
  · skip
    go_simp
    with_reducible rfl
  refine hK _ ?_
  clear hK K
  (try simp only [Act.put, List.setIfInBounds_toArray, List.set_cons_zero, List.set_cons_succ])
  refine wpQuiet_step_h hlq ?_
  clear hlq lq
  intro K lq hlq hK
  refine wanted_go (by rfl) ?_
  refine ⟨?_, fun W hW => ?_, ?_⟩
  rotate_left
  · skip
    go_simp
    with_reducible rfl
  refine hK _ ?_
  clear hK K
  (try simp only [Act.put, List.setIfInBounds_toArray, List.set_cons_zero, List.set_cons_succ])
  refine wpQuiet_nil_h hlq ?_
  clear hlq lq hV5
  intro V6 hV7
  refine wpList_new rfl rfl rfl rfl z55 rfl (by rfl) (by rfl) (info55 Hq.out.1 _) (sizeP' Hq.out) (pCs_one _ _) ?_
  (try simp only [Act.put, List.setIfInBounds_toArray, List.set_cons_zero, List.set_cons_succ])
  have hB8 : Bz w [(V6.heap.size, oP q), (V1.heap.size, oP p), (w.heap.size, oA a)] (V6.alloc (oP q)) := hV7.alloc (oP q) rfl
  clear hV7
  refine wpList_quiet (C := Bz w [(V6.heap.size, oP q), (V1.heap.size, oP p), (w.heap.size, oA a)]) 1 (by rfl) hB8 ?_
  refine wpQuiet_hide ?_
  intro lq hlq
  refine wpQuiet_step_h hlq ?_
  clear hlq lq
  intro K lq hlq hK
  refine wanted_go (by rfl) ?_
  refine ⟨?_, fun W hW => ?_, ?_⟩
  rotate_left
  · skip
    go_simp
    with_reducible rfl
  refine hK _ ?_
  clear hK K
  (try simp only [Act.put, List.setIfInBounds_toArray, List.set_cons_zero, List.set_cons_succ])
  refine wpQuiet_nil_h hlq ?_
  clear hlq lq hB8
  intro V9 hV10
  go_wp2_with (refine wpList_quiet (C := Bz w [(V6.heap.size, oP q), (V1.heap.size, oP p), (w.heap.size, oA a)]) 7 (by rfl) hV10 ?_)
  refine wpQuiet_hide ?_
  intro lq hlq
  refine wpQuiet_step_h hlq ?_
  clear hlq lq
  intro K lq hlq hK
  refine wanted_go (by rfl) ?_
  refine ⟨.int .i64 0, fun W hW => ?_, ?_⟩
  · go_simp
    have E' := hW.env E
    exact (num_lit _).mono fun e W2 hc2 => ⟨hc2.1, hW.go hc2.2⟩
  refine hK _ ?_
  clear hK K
  (try simp only [Act.put, List.setIfInBounds_toArray, List.set_cons_zero, List.set_cons_succ])
  refine wpQuiet_step_h hlq ?_
  clear hlq lq
  intro K lq hlq hK
  refine wanted_go (by rfl) ?_
  refine ⟨?_, fun W hW => ?_, ?_⟩
  rotate_left
  · skip
    go_simp
    with_reducible rfl
  refine hK _ ?_
  clear hK K
  (try simp only [Act.put, List.setIfInBounds_toArray, List.set_cons_zero, List.set_cons_succ])
  refine wpQuiet_step_h hlq ?_
  clear hlq lq
  intro K lq hlq hK
  refine wanted_go (by rfl) ?_
  refine ⟨?_, fun W hW => ?_, ?_⟩
  rotate_left
  · skip
    go_simp
    with_reducible rfl
  refine hK _ ?_
  clear hK K
  (try simp only [Act.put, List.setIfInBounds_toArray, List.set_cons_zero, List.set_cons_succ])
  refine wpQuiet_step_h hlq ?_
  clear hlq lq
  intro K lq hlq hK
  refine wanted_go (by rfl) ?_
  refine ⟨?_, fun W hW => ?_, ?_⟩
  rotate_left
  · skip
    go_simp
    with_reducible rfl
  refine hK _ ?_
  clear hK K
  (try simp only [Act.put, List.setIfInBounds_toArray, List.set_cons_zero, List.set_cons_succ])
  refine wpQuiet_step_h hlq ?_
  clear hlq lq
  intro K lq hlq hK
  refine wanted_go (by rfl) ?_
  refine ⟨.int .i64 0, fun W hW => ?_, ?_⟩
  · go_simp
    have E' := hW.env E
    exact (num_lit _).mono fun e W2 hc2 => ⟨hc2.1, hW.go hc2.2⟩
  refine hK _ ?_
  clear hK K
  (try simp only [Act.put, List.setIfInBounds_toArray, List.set_cons_zero, List.set_cons_succ])
  refine wpQuiet_step_h hlq ?_
  clear hlq lq
  intro K lq hlq hK
  refine wanted_go (by rfl) ?_
  refine ⟨?_, fun W hW => ?_, ?_⟩
  rotate_left
  · skip
    go_simp
    with_reducible rfl
  refine hK _ ?_
  clear hK K
  (try simp only [Act.put, List.setIfInBounds_toArray, List.set_cons_zero, List.set_cons_succ])
  refine wpQuiet_step_h hlq ?_
  clear hlq lq
  intro K lq hlq hK
  refine wanted_go (by rfl) ?_
  refine ⟨?_, fun W hW => ?_, ?_⟩
  rotate_left
  · skip
    go_simp
    with_reducible rfl
  refine hK _ ?_
  clear hK K
  (try simp only [Act.put, List.setIfInBounds_toArray, List.set_cons_zero, List.set_cons_succ])
  refine wpQuiet_nil_h hlq ?_
  clear hlq lq hV10
  intro V11 hV12
  go_wp2_with fail
  refine wp_region_C (C := Bz w [(V6.heap.size, oP q), (V1.heap.size, oP p), (w.heap.size, oA a)]) (by kernel_rfl) (by kernel_rfl) (hV12.drew) ?_
  refine wpQuiet_hide ?_
  intro lq hlq
  refine wpQuiet_step_h hlq ?_
  clear hlq lq
  intro K lq hlq hK
  refine wanted_go (by rfl) ?_
  refine ⟨vPf p, fun W hW => ?_, ?_⟩
  · skip
    exact quiet_load 55 _ rfl rfl (ldP (hW.all.get 1 (x := (V1.heap.size, oP p)) rfl) Hp.out)
  refine hK _ ?_
  clear hK K
  (try simp only [Act.put, List.setIfInBounds_toArray, List.set_cons_zero, List.set_cons_succ])
  refine wpQuiet_step_h hlq ?_
  clear hlq lq
  intro K lq hlq hK
  refine wanted_go (by rfl) ?_
  refine ⟨.int .i64 0, fun W hW => ?_, ?_⟩
  · go_simp
    have E' := hW.env E
    exact (fchk_call Hp.out g1.out).mono fun e W2 hc2 => ⟨hc2.1, hW.go hc2.2⟩
  refine hK _ ?_
  clear hK K
  (try simp only [Act.put, List.setIfInBounds_toArray, List.set_cons_zero, List.set_cons_succ])
  refine wpQuiet_step_h hlq ?_
  clear hlq lq
  intro K lq hlq hK
  refine wanted_go (by rfl) ?_
  refine ⟨.int .i64 0, fun W hW => ?_, ?_⟩
  · go_simp
    have E' := hW.env E
    exact (num_lit _).mono fun e W2 hc2 => ⟨hc2.1, hW.go hc2.2⟩
  refine hK _ ?_
  clear hK K
  (try simp only [Act.put, List.setIfInBounds_toArray, List.set_cons_zero, List.set_cons_succ])
  refine wpQuiet_step_h hlq ?_
  clear hlq lq
  intro K lq hlq hK
  refine wanted_go (by rfl) ?_
  refine ⟨?_, fun W hW => ?_, ?_⟩
  rotate_left
  · skip
    go_simp
    with_reducible rfl
  refine hK _ ?_
  clear hK K
  (try simp only [Act.put, List.setIfInBounds_toArray, List.set_cons_zero, List.set_cons_succ])
  refine wpQuiet_step_h hlq ?_
  clear hlq lq
  intro K lq hlq hK
  refine wanted_go (by rfl) ?_
  refine ⟨?_, fun W hW => ?_, ?_⟩
  rotate_left
  · skip
    go_simp
    with_reducible rfl
  refine hK _ ?_
  clear hK K
  (try simp only [Act.put, List.setIfInBounds_toArray, List.set_cons_zero, List.set_cons_succ])
  refine wpQuiet_step_h hlq ?_
  clear hlq lq
  intro K lq hlq hK
  refine wanted_go (by rfl) ?_
  refine ⟨vPf p, fun W hW => ?_, ?_⟩
  · skip
    exact quiet_load 55 _ rfl rfl (ldP (hW.all.get 1 (x := (V1.heap.size, oP p)) rfl) Hp.out)
  refine hK _ ?_
  clear hK K
  (try simp only [Act.put, List.setIfInBounds_toArray, List.set_cons_zero, List.set_cons_succ])
  refine wpQuiet_step_h hlq ?_
  clear hlq lq
  intro K lq hlq hK
  refine wanted_go (by rfl) ?_
  refine ⟨vA a, fun W hW => ?_, ?_⟩
  · skip
    exact quiet_load 42 _ rfl rfl (ldA (hW.all.get 2 (x := (w.heap.size, oA a)) rfl) Ha.out)
  refine hK _ ?_
  clear hK K
  (try simp only [Act.put, List.setIfInBounds_toArray, List.set_cons_zero, List.set_cons_succ])
  refine wpQuiet_step_h hlq ?_
  clear hlq lq
  intro K lq hlq hK
  refine wanted_go (by rfl) ?_
  refine ⟨.bool true, fun W hW => ?_, ?_⟩
  · go_simp
    have E' := hW.env E
    exact (fcont_call Hp.out Ha.out g2.out).mono fun e W2 hc2 => ⟨hc2.1, hW.go hc2.2⟩
  refine hK _ ?_
  clear hK K
  (try simp only [Act.put, List.setIfInBounds_toArray, List.set_cons_zero, List.set_cons_succ])
  refine wpQuiet_step_h hlq ?_
  clear hlq lq
  intro K lq hlq hK
  refine wanted_go (by rfl) ?_
  refine ⟨?_, fun W hW => ?_, ?_⟩
  rotate_left
  · skip
    go_simp
    with_reducible rfl
  refine hK _ ?_
  clear hK K
  (try simp only [Act.put, List.setIfInBounds_toArray, List.set_cons_zero, List.set_cons_succ])
  refine wpQuiet_step_h hlq ?_
  clear hlq lq
  intro K lq hlq hK
  refine wanted_go (by rfl) ?_
  refine ⟨?_, fun W hW => ?_, ?_⟩
  rotate_left
  · skip
    go_simp
    with_reducible rfl
  refine hK _ ?_
  clear hK K
  (try simp only [Act.put, List.setIfInBounds_toArray, List.set_cons_zero, List.set_cons_succ])
  refine wpQuiet_step_h hlq ?_
  clear hlq lq
  intro K lq hlq hK
  refine wanted_go (by rfl) ?_
  refine ⟨vPf p, fun W hW => ?_, ?_⟩
  · skip
    exact quiet_load 55 _ rfl rfl (ldP (hW.all.get 1 (x := (V1.heap.size, oP p)) rfl) Hp.out)
  refine hK _ ?_
  clear hK K
  (try simp only [Act.put, List.setIfInBounds_toArray, List.set_cons_zero, List.set_cons_succ])
  refine wpQuiet_step_h hlq ?_
  clear hlq lq
  intro K lq hlq hK
  refine wanted_go (by rfl) ?_
  refine ⟨.int .i64 f, fun W hW => ?_, ?_⟩
  · go_simp
    have E' := hW.env E
    exact (fpfam_call Hp.out g3.out).mono fun e W2 hc2 => ⟨hc2.1, hW.go hc2.2⟩
  refine hK _ ?_
  clear hK K
  (try simp only [Act.put, List.setIfInBounds_toArray, List.set_cons_zero, List.set_cons_succ])
  refine wpQuiet_step_h hlq ?_
  clear hlq lq
  intro K lq hlq hK
  refine wanted_go (by rfl) ?_
  refine ⟨vA a, fun W hW => ?_, ?_⟩
  · skip
    exact quiet_load 42 _ rfl rfl (ldA (hW.all.get 2 (x := (w.heap.size, oA a)) rfl) Ha.out)
  refine hK _ ?_
  clear hK K
  (try simp only [Act.put, List.setIfInBounds_toArray, List.set_cons_zero, List.set_cons_succ])
  refine wpQuiet_step_h hlq ?_
  clear hlq lq
  intro K lq hlq hK
  refine wanted_go (by rfl) ?_
  refine ⟨.int .i64 f, fun W hW => ?_, ?_⟩
  · go_simp
    have E' := hW.env E
    exact (ffam_call Ha.out g4.out).mono fun e W2 hc2 => ⟨hc2.1, hW.go hc2.2⟩
  refine hK _ ?_
  clear hK K
  (try simp only [Act.put, List.setIfInBounds_toArray, List.set_cons_zero, List.set_cons_succ])
  refine wpQuiet_step_h hlq ?_
  clear hlq lq
  intro K lq hlq hK
  refine wanted_go (by rfl) ?_
  refine ⟨?_, fun W hW => ?_, ?_⟩
  rotate_left
  · skip
    go_simp
    with_reducible rfl
  refine hK _ ?_
  clear hK K
  (try simp only [Act.put, List.setIfInBounds_toArray, List.set_cons_zero, List.set_cons_succ])
  refine wpQuiet_step_h hlq ?_
  clear hlq lq
  intro K lq hlq hK
  refine wanted_go (by rfl) ?_
  refine ⟨?_, fun W hW => ?_, ?_⟩
  rotate_left
  · skip
    go_simp
    with_reducible rfl
  refine hK _ ?_
  clear hK K
  (try simp only [Act.put, List.setIfInBounds_toArray, List.set_cons_zero, List.set_cons_succ])
  refine wpQuiet_step_h hlq ?_
  clear hlq lq
  intro K lq hlq hK
  refine wanted_go (by rfl) ?_
  refine ⟨?_, fun W hW => ?_, ?_⟩
  rotate_left
  · skip
    go_simp
    with_reducible rfl
  refine hK _ ?_
  clear hK K
  (try simp only [Act.put, List.setIfInBounds_toArray, List.set_cons_zero, List.set_cons_succ])
  refine wpQuiet_step_h hlq ?_
  clear hlq lq
  intro K lq hlq hK
  refine wanted_go (by rfl) ?_
  refine ⟨vPf p, fun W hW => ?_, ?_⟩
  · skip
    exact quiet_load 55 _ rfl rfl (ldP (hW.all.get 1 (x := (V1.heap.size, oP p)) rfl) Hp.out)
  refine hK _ ?_
  clear hK K
  (try simp only [Act.put, List.setIfInBounds_toArray, List.set_cons_zero, List.set_cons_succ])
  refine wpQuiet_step_h hlq ?_
  clear hlq lq
  intro K lq hlq hK
  refine wanted_go (by rfl) ?_
  refine ⟨vPf q, fun W hW => ?_, ?_⟩
  · skip
    exact quiet_load 55 _ rfl rfl (ldP (hW.all.get 0 (x := (V6.heap.size, oP q)) rfl) Hq.out)
  refine hK _ ?_
  clear hK K
  (try simp only [Act.put, List.setIfInBounds_toArray, List.set_cons_zero, List.set_cons_succ])
  refine wpQuiet_step_h hlq ?_
  clear hlq lq
  intro K lq hlq hK
  refine wanted_go (by rfl) ?_
  refine ⟨.bool true, fun W hW => ?_, ?_⟩
  · go_simp
    have E' := hW.env E
    exact (fcov_call Hp.out Hq.out g5.out).mono fun e W2 hc2 => ⟨hc2.1, hW.go hc2.2⟩
  refine hK _ ?_
  clear hK K
  (try simp only [Act.put, List.setIfInBounds_toArray, List.set_cons_zero, List.set_cons_succ])
  refine wpQuiet_step_h hlq ?_
  clear hlq lq
  intro K lq hlq hK
  refine wanted_go (by rfl) ?_
  refine ⟨?_, fun W hW => ?_, ?_⟩
  rotate_left
  · skip
    go_simp
    with_reducible rfl
  refine hK _ ?_
  clear hK K
  (try simp only [Act.put, List.setIfInBounds_toArray, List.set_cons_zero, List.set_cons_succ])
  refine wpQuiet_step_h hlq ?_
  clear hlq lq
  intro K lq hlq hK
  refine wanted_go (by rfl) ?_
  refine ⟨?_, fun W hW => ?_, ?_⟩
  rotate_left
  · skip
    go_simp
    with_reducible rfl
  refine hK _ ?_
  clear hK K
  (try simp only [Act.put, List.setIfInBounds_toArray, List.set_cons_zero, List.set_cons_succ])
  refine wpQuiet_step_h hlq ?_
  clear hlq lq
  intro K lq hlq hK
  refine wanted_go (by rfl) ?_
  refine ⟨?_, fun W hW => ?_, ?_⟩
  rotate_left
  · skip
    go_simp
    with_reducible rfl
  refine hK _ ?_
  clear hK K
  (try simp only [Act.put, List.setIfInBounds_toArray, List.set_cons_zero, List.set_cons_succ])
  refine wpQuiet_step_h hlq ?_
  clear hlq lq
  intro K lq hlq hK
  refine wanted_go (by rfl) ?_
  refine ⟨?_, fun W hW => ?_, ?_⟩
  rotate_left
  · skip
    go_simp
    with_reducible rfl
  refine hK _ ?_
  clear hK K
  (try simp only [Act.put, List.setIfInBounds_toArray, List.set_cons_zero, List.set_cons_succ])
  refine wpQuiet_step_h hlq ?_
  clear hlq lq
  intro K lq hlq hK
  refine wanted_go (by rfl) ?_
  refine ⟨?_, fun W hW => ?_, ?_⟩
  rotate_left
  · skip
    go_simp
    with_reducible rfl
  refine hK _ ?_
  clear hK K
  (try simp only [Act.put, List.setIfInBounds_toArray, List.set_cons_zero, List.set_cons_succ])
  refine wpQuiet_step_h hlq ?_
  clear hlq lq
  intro K lq hlq hK
  refine wanted_go (by rfl) ?_
  refine ⟨?_, fun W hW => ?_, ?_⟩
  rotate_left
  · skip
    go_simp
    with_reducible rfl
  refine hK _ ?_
  clear hK K
  (try simp only [Act.put, List.setIfInBounds_toArray, List.set_cons_zero, List.set_cons_succ])
  refine wpQuiet_step_h hlq ?_
  clear hlq lq
  intro K lq hlq hK
  refine wanted_go (by rfl) ?_
  refine ⟨vA a, fun W hW => ?_, ?_⟩
  · skip
    exact quiet_load 42 _ rfl rfl (ldA (hW.all.get 2 (x := (w.heap.size, oA a)) rfl) Ha.out)
  refine hK _ ?_
  clear hK K
  (try simp only [Act.put, List.setIfInBounds_toArray, List.set_cons_zero, List.set_cons_succ])
  refine wpQuiet_step_h hlq ?_
  clear hlq lq
  intro K lq hlq hK
  refine wanted_go (by rfl) ?_
  refine ⟨.int .i64 f, fun W hW => ?_, ?_⟩
  · go_simp
    have E' := hW.env E
    exact (ffam_call Ha.out g4.out).mono fun e W2 hc2 => ⟨hc2.1, hW.go hc2.2⟩
  refine hK _ ?_
  clear hK K
  (try simp only [Act.put, List.setIfInBounds_toArray, List.set_cons_zero, List.set_cons_succ])
  refine wpQuiet_step_h hlq ?_
  clear hlq lq
  intro K lq hlq hK
  refine wanted_go (by rfl) ?_
  refine ⟨vPf (anyP f), fun W hW => ?_, ?_⟩
  · go_simp
    have E' := hW.env E
    exact (any_any f).mono fun e W2 hc2 => ⟨hc2.1, hW.go hc2.2⟩
  refine hK _ ?_
  clear hK K
  (try simp only [Act.put, List.setIfInBounds_toArray, List.set_cons_zero, List.set_cons_succ])
  refine wpQuiet_step_h hlq ?_
  clear hlq lq
  intro K lq hlq hK
  refine wanted_go (by rfl) ?_
  refine ⟨vPf p, fun W hW => ?_, ?_⟩
  · skip
    exact quiet_load 55 _ rfl rfl (ldP (hW.all.get 1 (x := (V1.heap.size, oP p)) rfl) Hp.out)
  refine hK _ ?_
  clear hK K
  (try simp only [Act.put, List.setIfInBounds_toArray, List.set_cons_zero, List.set_cons_succ])
  refine wpQuiet_step_h hlq ?_
  clear hlq lq
  intro K lq hlq hK
  refine wanted_go (by rfl) ?_
  refine ⟨.bool true, fun W hW => ?_, ?_⟩
  · go_simp
    have E' := hW.env E
    exact (fcov_call (any_ok f) Hp.out g6.out).mono fun e W2 hc2 => ⟨hc2.1, hW.go hc2.2⟩
  refine hK _ ?_
  clear hK K
  (try simp only [Act.put, List.setIfInBounds_toArray, List.set_cons_zero, List.set_cons_succ])
  refine wpQuiet_step_h hlq ?_
  clear hlq lq
  intro K lq hlq hK
  refine wanted_go (by rfl) ?_
  refine ⟨?_, fun W hW => ?_, ?_⟩
  rotate_left
  · skip
    go_simp
    with_reducible rfl
  refine hK _ ?_
  clear hK K
  (try simp only [Act.put, List.setIfInBounds_toArray, List.set_cons_zero, List.set_cons_succ])
  refine wpQuiet_step_h hlq ?_
  clear hlq lq
  intro K lq hlq hK
  refine wanted_go (by rfl) ?_
  refine ⟨?_, fun W hW => ?_, ?_⟩
  rotate_left
  · skip
    go_simp
    with_reducible rfl
  refine hK _ ?_
  clear hK K
  (try simp only [Act.put, List.setIfInBounds_toArray, List.set_cons_zero, List.set_cons_succ])
  refine wpQuiet_step_h hlq ?_
  clear hlq lq
  intro K lq hlq hK
  refine wanted_go (by rfl) ?_
  refine ⟨.bool true, fun W hW => ?_, ?_⟩
  · go_simp
    have E' := hW.env E
    exact (live02_any E').mono fun e W2 hc2 => ⟨hc2.1, hW.go hc2.2⟩
  refine hK _ ?_
  clear hK K
  (try simp only [Act.put, List.setIfInBounds_toArray, List.set_cons_zero, List.set_cons_succ])
  refine wpQuiet_step_h hlq ?_
  clear hlq lq
  intro K lq hlq hK
  refine wanted_go (by rfl) ?_
  refine ⟨?_, fun W hW => ?_, ?_⟩
  rotate_left
  · skip
    go_simp
    with_reducible rfl
  refine hK _ ?_
  clear hK K
  (try simp only [Act.put, List.setIfInBounds_toArray, List.set_cons_zero, List.set_cons_succ])
  refine wpQuiet_step_h hlq ?_
  clear hlq lq
  intro K lq hlq hK
  refine wanted_go (by rfl) ?_
  refine ⟨?_, fun W hW => ?_, ?_⟩
  rotate_left
  · skip
    go_simp
    with_reducible rfl
  refine hK _ ?_
  clear hK K
  (try simp only [Act.put, List.setIfInBounds_toArray, List.set_cons_zero, List.set_cons_succ])
  refine wpQuiet_nil_h hlq ?_
  clear hlq lq hV12
  intro V13 hV14
  go_wp2_with fail
  go_ret
  exact ⟨rfl, hV14.bel⟩
set_option maxRecDepth 100000 in
set_option maxHeartbeats 3200000 in
theorem first_false {a : List Int} (ha : isA a) {n m : Int} {p q : Pf} (hp : p.ok) (hq : q.ok) (h1 : okP (ofP a n) = p) (h2 : (if (ofP a n).isSome then (0 : Int) else 2) = 0) (h3 : okP (ofP a m) = q) (h4 : (if (ofP a m).isSome then (0 : Int) else 2) = 0) {w : World} (E : Env w) {f : Int} (g1 : chk p = true) (g2 : cont p a = true) (g3 : pfam p = f) (g4 : fam a = f) (g5 : cov p q = false) (g6 : cov (anyP f) p = true) (hnm : decide (n ≤ m) = false) : Calls Tryz.prog 12 #[vA a, .int .i64 n, .int .i64 m] w fun e w' => e = .returned (.bool true) ∧ Below w.heap.size w w' := by
  have Hp := Lib.hid hp
  have Hq := Lib.hid hq
  have Ha := Lib.hid ha
  have B := (((Bz.start w).alloc (oA a) rfl) : Bz w [(w.heap.size, oA a)] _)
  clear hp hq ha
  replace h1 := Lib.hid h1
  replace h2 := Lib.hid h2
  replace h3 := Lib.hid h3
  replace h4 := Lib.hid h4
  replace g1 := Lib.hid g1
  replace g2 := Lib.hid g2
  replace g3 := Lib.hid g3
  replace g4 := Lib.hid g4
  replace g5 := Lib.hid g5
  replace g6 := Lib.hid g6
  unfold vA
  go_enter Tryz.func12, Tryz.ntmps12
  go_wp2_with (refine wpList_quiet_take (C := Bz w [(w.heap.size, oA a)]) 9 6 (by rfl) B ?_)
  (try simp only [List.take_succ_cons, List.take_zero, List.drop_succ_cons, List.drop_zero])
  refine wpQuiet_hide ?_
  intro lq hlq
  refine wpQuiet_step_h hlq ?_
  clear hlq lq
  intro K lq hlq hK
  refine wanted_go (by rfl) ?_
  refine ⟨vA a, fun W hW => ?_, ?_⟩
  · skip
    exact quiet_load 42 _ rfl rfl (ldA (hW.all.get 0 (x := (w.heap.size, oA a)) rfl) Ha.out)
  refine hK _ ?_
  clear hK K
  (try simp only [Act.put, List.setIfInBounds_toArray, List.set_cons_zero, List.set_cons_succ])
  refine wpQuiet_step_h hlq ?_
  clear hlq lq
  intro K lq hlq hK
  refine wanted_go (by rfl) ?_
  refine ⟨?_, fun W hW => ?_, ?_⟩
  rotate_left
  · skip
    go_simp
    with_reducible rfl
  refine hK _ ?_
  clear hK K
  (try simp only [Act.put, List.setIfInBounds_toArray, List.set_cons_zero, List.set_cons_succ])
  refine wpQuiet_step_h hlq ?_
  clear hlq lq
  intro K lq hlq hK
  refine wanted_go (by rfl) ?_
  refine ⟨.tuple #[vPf p, .int .i64 0], fun W hW => ?_, ?_⟩
  · go_simp
    have E' := hW.env E
    exact (of_call Ha.out h1.out h2.out).mono fun e W2 hc2 => ⟨hc2.1, hW.go hc2.2⟩
  refine hK _ ?_
  clear hK K
  (try simp only [Act.put, List.setIfInBounds_toArray, List.set_cons_zero, List.set_cons_succ])
  refine wpQuiet_step_h hlq ?_
  clear hlq lq
  intro K lq hlq hK
  refine wanted_go (by rfl) ?_
  refine ⟨?_, fun W hW => ?_, ?_⟩
  rotate_left
  · skip
    go_simp
    with_reducible rfl
  refine hK _ ?_
  clear hK K
  (try simp only [Act.put, List.setIfInBounds_toArray, List.set_cons_zero, List.set_cons_succ])
  refine wpQuiet_step_h hlq ?_
  clear hlq lq
  intro K lq hlq hK
  refine wanted_go (by rfl) ?_
  refine ⟨?_, fun W hW => ?_, ?_⟩
  rotate_left
  · skip
    go_simp
    with_reducible rfl
  refine hK _ ?_
  clear hK K
  (try simp only [Act.put, List.setIfInBounds_toArray, List.set_cons_zero, List.set_cons_succ])
  refine wpQuiet_step_h hlq ?_
  clear hlq lq
  intro K lq hlq hK
  refine wanted_go (by rfl) ?_
  refine ⟨?_, fun W hW => ?_, ?_⟩
  rotate_left
  · skip
    go_simp
    with_reducible rfl
  refine hK _ ?_
  clear hK K
  (try simp only [Act.put, List.setIfInBounds_toArray, List.set_cons_zero, List.set_cons_succ])
  refine wpQuiet_nil_h hlq ?_
  clear hlq lq B
  intro V1 hV2
  refine wpList_new rfl rfl rfl rfl z55 rfl (by rfl) (by rfl) (info55 Hp.out.1 _) (sizeP' Hp.out) (pCs_one _ _) ?_
  (try simp only [Act.put, List.setIfInBounds_toArray, List.set_cons_zero, List.set_cons_succ])
  have hB3 : Bz w [(V1.heap.size, oP p), (w.heap.size, oA a)] (V1.alloc (oP p)) := hV2.alloc (oP p) rfl
  clear hV2
  refine wpList_quiet (C := Bz w [(V1.heap.size, oP p), (w.heap.size, oA a)]) 1 (by rfl) hB3 ?_
  refine wpQuiet_hide ?_
  intro lq hlq
  refine wpQuiet_step_h hlq ?_
  clear hlq lq
  intro K lq hlq hK
  refine wanted_go (by rfl) ?_
  refine ⟨?_, fun W hW => ?_, ?_⟩
  rotate_left
  · skip
    go_simp
    with_reducible rfl
  refine hK _ ?_
  clear hK K
  (try simp only [Act.put, List.setIfInBounds_toArray, List.set_cons_zero, List.set_cons_succ])
  refine wpQuiet_nil_h hlq ?_
  clear hlq lq hB3
  intro V4 hV5
  go_wp2_with (refine wpList_quiet_take (C := Bz w [(V1.heap.size, oP p), (w.heap.size, oA a)]) 9 6 (by rfl) hV5 ?_)
  (try simp only [List.take_succ_cons, List.take_zero, List.drop_succ_cons, List.drop_zero])
  refine wpQuiet_hide ?_
  intro lq hlq
  refine wpQuiet_step_h hlq ?_
  clear hlq lq
  intro K lq hlq hK
  refine wanted_go (by rfl) ?_
  refine ⟨vA a, fun W hW => ?_, ?_⟩
  · skip
    exact quiet_load 42 _ rfl rfl (ldA (hW.all.get 1 (x := (w.heap.size, oA a)) rfl) Ha.out)
  refine hK _ ?_
  clear hK K
  (try simp only [Act.put, List.setIfInBounds_toArray, List.set_cons_zero, List.set_cons_succ])
  refine wpQuiet_step_h hlq ?_
  clear hlq lq
  intro K lq hlq hK
  refine wanted_go (by rfl) ?_
  refine ⟨?_, fun W hW => ?_, ?_⟩
  rotate_left
  · skip
    go_simp
    with_reducible rfl
  refine hK _ ?_
  clear hK K
  (try simp only [Act.put, List.setIfInBounds_toArray, List.set_cons_zero, List.set_cons_succ])
  refine wpQuiet_step_h hlq ?_
  clear hlq lq
  intro K lq hlq hK
  refine wanted_go (by rfl) ?_
  refine ⟨.tuple #[vPf q, .int .i64 0], fun W hW => ?_, ?_⟩
  · go_simp
    have E' := hW.env E
    exact (of_call Ha.out h3.out h4.out).mono fun e W2 hc2 => ⟨hc2.1, hW.go hc2.2⟩
  refine hK _ ?_
  clear hK K
  (try simp only [Act.put, List.setIfInBounds_toArray, List.set_cons_zero, List.set_cons_succ])
  refine wpQuiet_step_h hlq ?_
  clear hlq lq
  intro K lq hlq hK
  refine wanted_go (by rfl) ?_
  refine ⟨?_, fun W hW => ?_, ?_⟩
  rotate_left
  · skip
    go_simp
    with_reducible rfl
  refine hK _ ?_
  clear hK K
  (try simp only [Act.put, List.setIfInBounds_toArray, List.set_cons_zero, List.set_cons_succ])
  refine wpQuiet_step_h hlq ?_
  clear hlq lq
  intro K lq hlq hK
  refine wanted_go (by rfl) ?_
  refine ⟨?_, fun W hW => ?_, ?_⟩
  rotate_left
  · skip
    go_simp
    with_reducible rfl
  refine hK _ ?_
  clear hK K
  (try simp only [Act.put, List.setIfInBounds_toArray, List.set_cons_zero, List.set_cons_succ])
  refine wpQuiet_step_h hlq ?_
  clear hlq lq
  intro K lq hlq hK
  refine wanted_go (by rfl) ?_
  refine ⟨?_, fun W hW => ?_, ?_⟩
  rotate_left
  · skip
    go_simp
    with_reducible rfl
  refine hK _ ?_
  clear hK K
  (try simp only [Act.put, List.setIfInBounds_toArray, List.set_cons_zero, List.set_cons_succ])
  refine wpQuiet_nil_h hlq ?_
  clear hlq lq hV5
  intro V6 hV7
  refine wpList_new rfl rfl rfl rfl z55 rfl (by rfl) (by rfl) (info55 Hq.out.1 _) (sizeP' Hq.out) (pCs_one _ _) ?_
  (try simp only [Act.put, List.setIfInBounds_toArray, List.set_cons_zero, List.set_cons_succ])
  have hB8 : Bz w [(V6.heap.size, oP q), (V1.heap.size, oP p), (w.heap.size, oA a)] (V6.alloc (oP q)) := hV7.alloc (oP q) rfl
  clear hV7
  refine wpList_quiet (C := Bz w [(V6.heap.size, oP q), (V1.heap.size, oP p), (w.heap.size, oA a)]) 1 (by rfl) hB8 ?_
  refine wpQuiet_hide ?_
  intro lq hlq
  refine wpQuiet_step_h hlq ?_
  clear hlq lq
  intro K lq hlq hK
  refine wanted_go (by rfl) ?_
  refine ⟨?_, fun W hW => ?_, ?_⟩
  rotate_left
  · skip
    go_simp
    with_reducible rfl
  refine hK _ ?_
  clear hK K
  (try simp only [Act.put, List.setIfInBounds_toArray, List.set_cons_zero, List.set_cons_succ])
  refine wpQuiet_nil_h hlq ?_
  clear hlq lq hB8
  intro V9 hV10
  go_wp2_with (refine wpList_quiet (C := Bz w [(V6.heap.size, oP q), (V1.heap.size, oP p), (w.heap.size, oA a)]) 7 (by rfl) hV10 ?_)
  refine wpQuiet_hide ?_
  intro lq hlq
  refine wpQuiet_step_h hlq ?_
  clear hlq lq
  intro K lq hlq hK
  refine wanted_go (by rfl) ?_
  refine ⟨.int .i64 0, fun W hW => ?_, ?_⟩
  · go_simp
    have E' := hW.env E
    exact (num_lit _).mono fun e W2 hc2 => ⟨hc2.1, hW.go hc2.2⟩
  refine hK _ ?_
  clear hK K
  (try simp only [Act.put, List.setIfInBounds_toArray, List.set_cons_zero, List.set_cons_succ])
  refine wpQuiet_step_h hlq ?_
  clear hlq lq
  intro K lq hlq hK
  refine wanted_go (by rfl) ?_
  refine ⟨?_, fun W hW => ?_, ?_⟩
  rotate_left
  · skip
    go_simp
    with_reducible rfl
  refine hK _ ?_
  clear hK K
  (try simp only [Act.put, List.setIfInBounds_toArray, List.set_cons_zero, List.set_cons_succ])
  refine wpQuiet_step_h hlq ?_
  clear hlq lq
  intro K lq hlq hK
  refine wanted_go (by rfl) ?_
  refine ⟨?_, fun W hW => ?_, ?_⟩
  rotate_left
  · skip
    go_simp
    with_reducible rfl
  refine hK _ ?_
  clear hK K
  (try simp only [Act.put, List.setIfInBounds_toArray, List.set_cons_zero, List.set_cons_succ])
  refine wpQuiet_step_h hlq ?_
  clear hlq lq
  intro K lq hlq hK
  refine wanted_go (by rfl) ?_
  refine ⟨?_, fun W hW => ?_, ?_⟩
  rotate_left
  · skip
    go_simp
    with_reducible rfl
  refine hK _ ?_
  clear hK K
  (try simp only [Act.put, List.setIfInBounds_toArray, List.set_cons_zero, List.set_cons_succ])
  refine wpQuiet_step_h hlq ?_
  clear hlq lq
  intro K lq hlq hK
  refine wanted_go (by rfl) ?_
  refine ⟨.int .i64 0, fun W hW => ?_, ?_⟩
  · go_simp
    have E' := hW.env E
    exact (num_lit _).mono fun e W2 hc2 => ⟨hc2.1, hW.go hc2.2⟩
  refine hK _ ?_
  clear hK K
  (try simp only [Act.put, List.setIfInBounds_toArray, List.set_cons_zero, List.set_cons_succ])
  refine wpQuiet_step_h hlq ?_
  clear hlq lq
  intro K lq hlq hK
  refine wanted_go (by rfl) ?_
  refine ⟨?_, fun W hW => ?_, ?_⟩
  rotate_left
  · skip
    go_simp
    with_reducible rfl
  refine hK _ ?_
  clear hK K
  (try simp only [Act.put, List.setIfInBounds_toArray, List.set_cons_zero, List.set_cons_succ])
  refine wpQuiet_step_h hlq ?_
  clear hlq lq
  intro K lq hlq hK
  refine wanted_go (by rfl) ?_
  refine ⟨?_, fun W hW => ?_, ?_⟩
  rotate_left
  · skip
    go_simp
    with_reducible rfl
  refine hK _ ?_
  clear hK K
  (try simp only [Act.put, List.setIfInBounds_toArray, List.set_cons_zero, List.set_cons_succ])
  refine wpQuiet_nil_h hlq ?_
  clear hlq lq hV10
  intro V11 hV12
  go_wp2_with fail
  refine wp_region_C (C := Bz w [(V6.heap.size, oP q), (V1.heap.size, oP p), (w.heap.size, oA a)]) (by kernel_rfl) (by kernel_rfl) (hV12.drew) ?_
  refine wpQuiet_hide ?_
  intro lq hlq
  refine wpQuiet_step_h hlq ?_
  clear hlq lq
  intro K lq hlq hK
  refine wanted_go (by rfl) ?_
  refine ⟨vPf p, fun W hW => ?_, ?_⟩
  · skip
    exact quiet_load 55 _ rfl rfl (ldP (hW.all.get 1 (x := (V1.heap.size, oP p)) rfl) Hp.out)
  refine hK _ ?_
  clear hK K
  (try simp only [Act.put, List.setIfInBounds_toArray, List.set_cons_zero, List.set_cons_succ])
  refine wpQuiet_step_h hlq ?_
  clear hlq lq
  intro K lq hlq hK
  refine wanted_go (by rfl) ?_
  refine ⟨.int .i64 0, fun W hW => ?_, ?_⟩
  · go_simp
    have E' := hW.env E
    exact (fchk_call Hp.out g1.out).mono fun e W2 hc2 => ⟨hc2.1, hW.go hc2.2⟩
  refine hK _ ?_
  clear hK K
  (try simp only [Act.put, List.setIfInBounds_toArray, List.set_cons_zero, List.set_cons_succ])
  refine wpQuiet_step_h hlq ?_
  clear hlq lq
  intro K lq hlq hK
  refine wanted_go (by rfl) ?_
  refine ⟨.int .i64 0, fun W hW => ?_, ?_⟩
  · go_simp
    have E' := hW.env E
    exact (num_lit _).mono fun e W2 hc2 => ⟨hc2.1, hW.go hc2.2⟩
  refine hK _ ?_
  clear hK K
  (try simp only [Act.put, List.setIfInBounds_toArray, List.set_cons_zero, List.set_cons_succ])
  refine wpQuiet_step_h hlq ?_
  clear hlq lq
  intro K lq hlq hK
  refine wanted_go (by rfl) ?_
  refine ⟨?_, fun W hW => ?_, ?_⟩
  rotate_left
  · skip
    go_simp
    with_reducible rfl
  refine hK _ ?_
  clear hK K
  (try simp only [Act.put, List.setIfInBounds_toArray, List.set_cons_zero, List.set_cons_succ])
  refine wpQuiet_step_h hlq ?_
  clear hlq lq
  intro K lq hlq hK
  refine wanted_go (by rfl) ?_
  refine ⟨?_, fun W hW => ?_, ?_⟩
  rotate_left
  · skip
    go_simp
    with_reducible rfl
  refine hK _ ?_
  clear hK K
  (try simp only [Act.put, List.setIfInBounds_toArray, List.set_cons_zero, List.set_cons_succ])
  refine wpQuiet_step_h hlq ?_
  clear hlq lq
  intro K lq hlq hK
  refine wanted_go (by rfl) ?_
  refine ⟨vPf p, fun W hW => ?_, ?_⟩
  · skip
    exact quiet_load 55 _ rfl rfl (ldP (hW.all.get 1 (x := (V1.heap.size, oP p)) rfl) Hp.out)
  refine hK _ ?_
  clear hK K
  (try simp only [Act.put, List.setIfInBounds_toArray, List.set_cons_zero, List.set_cons_succ])
  refine wpQuiet_step_h hlq ?_
  clear hlq lq
  intro K lq hlq hK
  refine wanted_go (by rfl) ?_
  refine ⟨vA a, fun W hW => ?_, ?_⟩
  · skip
    exact quiet_load 42 _ rfl rfl (ldA (hW.all.get 2 (x := (w.heap.size, oA a)) rfl) Ha.out)
  refine hK _ ?_
  clear hK K
  (try simp only [Act.put, List.setIfInBounds_toArray, List.set_cons_zero, List.set_cons_succ])
  refine wpQuiet_step_h hlq ?_
  clear hlq lq
  intro K lq hlq hK
  refine wanted_go (by rfl) ?_
  refine ⟨.bool true, fun W hW => ?_, ?_⟩
  · go_simp
    have E' := hW.env E
    exact (fcont_call Hp.out Ha.out g2.out).mono fun e W2 hc2 => ⟨hc2.1, hW.go hc2.2⟩
  refine hK _ ?_
  clear hK K
  (try simp only [Act.put, List.setIfInBounds_toArray, List.set_cons_zero, List.set_cons_succ])
  refine wpQuiet_step_h hlq ?_
  clear hlq lq
  intro K lq hlq hK
  refine wanted_go (by rfl) ?_
  refine ⟨?_, fun W hW => ?_, ?_⟩
  rotate_left
  · skip
    go_simp
    with_reducible rfl
  refine hK _ ?_
  clear hK K
  (try simp only [Act.put, List.setIfInBounds_toArray, List.set_cons_zero, List.set_cons_succ])
  refine wpQuiet_step_h hlq ?_
  clear hlq lq
  intro K lq hlq hK
  refine wanted_go (by rfl) ?_
  refine ⟨?_, fun W hW => ?_, ?_⟩
  rotate_left
  · skip
    go_simp
    with_reducible rfl
  refine hK _ ?_
  clear hK K
  (try simp only [Act.put, List.setIfInBounds_toArray, List.set_cons_zero, List.set_cons_succ])
  refine wpQuiet_step_h hlq ?_
  clear hlq lq
  intro K lq hlq hK
  refine wanted_go (by rfl) ?_
  refine ⟨vPf p, fun W hW => ?_, ?_⟩
  · skip
    exact quiet_load 55 _ rfl rfl (ldP (hW.all.get 1 (x := (V1.heap.size, oP p)) rfl) Hp.out)
  refine hK _ ?_
  clear hK K
  (try simp only [Act.put, List.setIfInBounds_toArray, List.set_cons_zero, List.set_cons_succ])
  refine wpQuiet_step_h hlq ?_
  clear hlq lq
  intro K lq hlq hK
  refine wanted_go (by rfl) ?_
  refine ⟨.int .i64 f, fun W hW => ?_, ?_⟩
  · go_simp
    have E' := hW.env E
    exact (fpfam_call Hp.out g3.out).mono fun e W2 hc2 => ⟨hc2.1, hW.go hc2.2⟩
  refine hK _ ?_
  clear hK K
  (try simp only [Act.put, List.setIfInBounds_toArray, List.set_cons_zero, List.set_cons_succ])
  refine wpQuiet_step_h hlq ?_
  clear hlq lq
  intro K lq hlq hK
  refine wanted_go (by rfl) ?_
  refine ⟨vA a, fun W hW => ?_, ?_⟩
  · skip
    exact quiet_load 42 _ rfl rfl (ldA (hW.all.get 2 (x := (w.heap.size, oA a)) rfl) Ha.out)
  refine hK _ ?_
  clear hK K
  (try simp only [Act.put, List.setIfInBounds_toArray, List.set_cons_zero, List.set_cons_succ])
  refine wpQuiet_step_h hlq ?_
  clear hlq lq
  intro K lq hlq hK
  refine wanted_go (by rfl) ?_
  refine ⟨.int .i64 f, fun W hW => ?_, ?_⟩
  · go_simp
    have E' := hW.env E
    exact (ffam_call Ha.out g4.out).mono fun e W2 hc2 => ⟨hc2.1, hW.go hc2.2⟩
  refine hK _ ?_
  clear hK K
  (try simp only [Act.put, List.setIfInBounds_toArray, List.set_cons_zero, List.set_cons_succ])
  refine wpQuiet_step_h hlq ?_
  clear hlq lq
  intro K lq hlq hK
  refine wanted_go (by rfl) ?_
  refine ⟨?_, fun W hW => ?_, ?_⟩
  rotate_left
  · skip
    go_simp
    with_reducible rfl
  refine hK _ ?_
  clear hK K
  (try simp only [Act.put, List.setIfInBounds_toArray, List.set_cons_zero, List.set_cons_succ])
  refine wpQuiet_step_h hlq ?_
  clear hlq lq
  intro K lq hlq hK
  refine wanted_go (by rfl) ?_
  refine ⟨?_, fun W hW => ?_, ?_⟩
  rotate_left
  · skip
    go_simp
    with_reducible rfl
  refine hK _ ?_
  clear hK K
  (try simp only [Act.put, List.setIfInBounds_toArray, List.set_cons_zero, List.set_cons_succ])
  refine wpQuiet_step_h hlq ?_
  clear hlq lq
  intro K lq hlq hK
  refine wanted_go (by rfl) ?_
  refine ⟨?_, fun W hW => ?_, ?_⟩
  rotate_left
  · skip
    go_simp
    with_reducible rfl
  refine hK _ ?_
  clear hK K
  (try simp only [Act.put, List.setIfInBounds_toArray, List.set_cons_zero, List.set_cons_succ])
  refine wpQuiet_step_h hlq ?_
  clear hlq lq
  intro K lq hlq hK
  refine wanted_go (by rfl) ?_
  refine ⟨vPf p, fun W hW => ?_, ?_⟩
  · skip
    exact quiet_load 55 _ rfl rfl (ldP (hW.all.get 1 (x := (V1.heap.size, oP p)) rfl) Hp.out)
  refine hK _ ?_
  clear hK K
  (try simp only [Act.put, List.setIfInBounds_toArray, List.set_cons_zero, List.set_cons_succ])
  refine wpQuiet_step_h hlq ?_
  clear hlq lq
  intro K lq hlq hK
  refine wanted_go (by rfl) ?_
  refine ⟨vPf q, fun W hW => ?_, ?_⟩
  · skip
    exact quiet_load 55 _ rfl rfl (ldP (hW.all.get 0 (x := (V6.heap.size, oP q)) rfl) Hq.out)
  refine hK _ ?_
  clear hK K
  (try simp only [Act.put, List.setIfInBounds_toArray, List.set_cons_zero, List.set_cons_succ])
  refine wpQuiet_step_h hlq ?_
  clear hlq lq
  intro K lq hlq hK
  refine wanted_go (by rfl) ?_
  refine ⟨.bool false, fun W hW => ?_, ?_⟩
  · go_simp
    have E' := hW.env E
    exact (fcov_call Hp.out Hq.out g5.out).mono fun e W2 hc2 => ⟨hc2.1, hW.go hc2.2⟩
  refine hK _ ?_
  clear hK K
  (try simp only [Act.put, List.setIfInBounds_toArray, List.set_cons_zero, List.set_cons_succ])
  refine wpQuiet_step_h hlq ?_
  clear hlq lq
  intro K lq hlq hK
  refine wanted_go (by rfl) ?_
  refine ⟨?_, fun W hW => ?_, ?_⟩
  rotate_left
  · skip
    go_simp
    with_reducible rfl
  refine hK _ ?_
  clear hK K
  (try simp only [Act.put, List.setIfInBounds_toArray, List.set_cons_zero, List.set_cons_succ])
  refine wpQuiet_step_h hlq ?_
  clear hlq lq
  intro K lq hlq hK
  refine wanted_go (by rfl) ?_
  refine ⟨?_, fun W hW => ?_, ?_⟩
  rotate_left
  · skip
    go_simp
    with_reducible rfl
  refine hK _ ?_
  clear hK K
  (try simp only [Act.put, List.setIfInBounds_toArray, List.set_cons_zero, List.set_cons_succ])
  refine wpQuiet_step_h hlq ?_
  clear hlq lq
  intro K lq hlq hK
  refine wanted_go (by rfl) ?_
  refine ⟨?_, fun W hW => ?_, ?_⟩
  rotate_left
  · skip
    go_simp
    with_reducible rfl
  refine hK _ ?_
  clear hK K
  (try simp only [Act.put, List.setIfInBounds_toArray, List.set_cons_zero, List.set_cons_succ])
  refine wpQuiet_step_h hlq ?_
  clear hlq lq
  intro K lq hlq hK
  refine wanted_go (by rfl) ?_
  refine ⟨?_, fun W hW => ?_, ?_⟩
  rotate_left
  · skip
    go_simp
    with_reducible rfl
  refine hK _ ?_
  clear hK K
  (try simp only [Act.put, List.setIfInBounds_toArray, List.set_cons_zero, List.set_cons_succ])
  refine wpQuiet_step_h hlq ?_
  clear hlq lq
  intro K lq hlq hK
  refine wanted_go (by rfl) ?_
  refine ⟨?_, fun W hW => ?_, ?_⟩
  rotate_left
  · skip
    go_simp
    with_reducible rfl
  refine hK _ ?_
  clear hK K
  (try simp only [Act.put, List.setIfInBounds_toArray, List.set_cons_zero, List.set_cons_succ])
  refine wpQuiet_step_h hlq ?_
  clear hlq lq
  intro K lq hlq hK
  refine wanted_go (by rfl) ?_
  refine ⟨?_, fun W hW => ?_, ?_⟩
  rotate_left
  · skip
    go_simp
    with_reducible rfl
  refine hK _ ?_
  clear hK K
  (try simp only [Act.put, List.setIfInBounds_toArray, List.set_cons_zero, List.set_cons_succ])
  refine wpQuiet_step_h hlq ?_
  clear hlq lq
  intro K lq hlq hK
  refine wanted_go (by rfl) ?_
  refine ⟨vA a, fun W hW => ?_, ?_⟩
  · skip
    exact quiet_load 42 _ rfl rfl (ldA (hW.all.get 2 (x := (w.heap.size, oA a)) rfl) Ha.out)
  refine hK _ ?_
  clear hK K
  (try simp only [Act.put, List.setIfInBounds_toArray, List.set_cons_zero, List.set_cons_succ])
  refine wpQuiet_step_h hlq ?_
  clear hlq lq
  intro K lq hlq hK
  refine wanted_go (by rfl) ?_
  refine ⟨.int .i64 f, fun W hW => ?_, ?_⟩
  · go_simp
    have E' := hW.env E
    exact (ffam_call Ha.out g4.out).mono fun e W2 hc2 => ⟨hc2.1, hW.go hc2.2⟩
  refine hK _ ?_
  clear hK K
  (try simp only [Act.put, List.setIfInBounds_toArray, List.set_cons_zero, List.set_cons_succ])
  refine wpQuiet_step_h hlq ?_
  clear hlq lq
  intro K lq hlq hK
  refine wanted_go (by rfl) ?_
  refine ⟨vPf (anyP f), fun W hW => ?_, ?_⟩
  · go_simp
    have E' := hW.env E
    exact (any_any f).mono fun e W2 hc2 => ⟨hc2.1, hW.go hc2.2⟩
  refine hK _ ?_
  clear hK K
  (try simp only [Act.put, List.setIfInBounds_toArray, List.set_cons_zero, List.set_cons_succ])
  refine wpQuiet_step_h hlq ?_
  clear hlq lq
  intro K lq hlq hK
  refine wanted_go (by rfl) ?_
  refine ⟨vPf p, fun W hW => ?_, ?_⟩
  · skip
    exact quiet_load 55 _ rfl rfl (ldP (hW.all.get 1 (x := (V1.heap.size, oP p)) rfl) Hp.out)
  refine hK _ ?_
  clear hK K
  (try simp only [Act.put, List.setIfInBounds_toArray, List.set_cons_zero, List.set_cons_succ])
  refine wpQuiet_step_h hlq ?_
  clear hlq lq
  intro K lq hlq hK
  refine wanted_go (by rfl) ?_
  refine ⟨.bool true, fun W hW => ?_, ?_⟩
  · go_simp
    have E' := hW.env E
    exact (fcov_call (any_ok f) Hp.out g6.out).mono fun e W2 hc2 => ⟨hc2.1, hW.go hc2.2⟩
  refine hK _ ?_
  clear hK K
  (try simp only [Act.put, List.setIfInBounds_toArray, List.set_cons_zero, List.set_cons_succ])
  refine wpQuiet_step_h hlq ?_
  clear hlq lq
  intro K lq hlq hK
  refine wanted_go (by rfl) ?_
  refine ⟨?_, fun W hW => ?_, ?_⟩
  rotate_left
  · skip
    go_simp
    with_reducible rfl
  refine hK _ ?_
  clear hK K
  (try simp only [Act.put, List.setIfInBounds_toArray, List.set_cons_zero, List.set_cons_succ])
  refine wpQuiet_step_h hlq ?_
  clear hlq lq
  intro K lq hlq hK
  refine wanted_go (by rfl) ?_
  refine ⟨?_, fun W hW => ?_, ?_⟩
  rotate_left
  · skip
    go_simp
    with_reducible rfl
  refine hK _ ?_
  clear hK K
  (try simp only [Act.put, List.setIfInBounds_toArray, List.set_cons_zero, List.set_cons_succ])
  refine wpQuiet_step_h hlq ?_
  clear hlq lq
  intro K lq hlq hK
  refine wanted_go (by rfl) ?_
  refine ⟨.bool true, fun W hW => ?_, ?_⟩
  · go_simp
    have E' := hW.env E
    exact (live02_any E').mono fun e W2 hc2 => ⟨hc2.1, hW.go hc2.2⟩
  refine hK _ ?_
  clear hK K
  (try simp only [Act.put, List.setIfInBounds_toArray, List.set_cons_zero, List.set_cons_succ])
  refine wpQuiet_step_h hlq ?_
  clear hlq lq
  intro K lq hlq hK
  refine wanted_go (by rfl) ?_
  refine ⟨?_, fun W hW => ?_, ?_⟩
  rotate_left
  · skip
    go_simp
    with_reducible rfl
  refine hK _ ?_
  clear hK K
  (try simp only [Act.put, List.setIfInBounds_toArray, List.set_cons_zero, List.set_cons_succ])
  refine wpQuiet_step_h hlq ?_
  clear hlq lq
  intro K lq hlq hK
  refine wanted_go (by rfl) ?_
  refine ⟨?_, fun W hW => ?_, ?_⟩
  rotate_left
  · skip
    go_simp
    with_reducible rfl
  refine hK _ ?_
  clear hK K
  (try simp only [Act.put, List.setIfInBounds_toArray, List.set_cons_zero, List.set_cons_succ])
  refine wpQuiet_nil_h hlq ?_
  clear hlq lq hV12
  intro V13 hV14
  go_wp2_with fail
  go_ret
  exact ⟨rfl, hV14.bel⟩
theorem AddrFirst_walk (a : List Int) (n m : Int) (ha : isA a) (wn : (Lit.int .i64 n).wf = true) (wm : (Lit.int .i64 m).wf = true) {w : World} (E : Env w) : Calls Tryz.prog 12 #[vA a, .int .i64 n, .int .i64 m] w fun e w' => e = .returned (.bool true) ∧ Below w.heap.size w w' := by
  have ok : ∀ {n : Int} {p : Pf}, ofP a n = some p → p.ok := fun {n p} h => by
    obtain ⟨h1, h2, h3⟩ := ofP_ok ha h
    exact ⟨h1, wf_i64 (by omega)⟩
  cases hn : ofP a n with
  | none =>
    cases hm : ofP a m with
    | none => exact first_nn ha zeroP_ok zeroP_ok (by rw [hn]; rfl) (by rw [hn]; rfl) (by rw [hm]; rfl) (by rw [hm]; rfl) E rfl rfl
    | some q => exact first_ny ha zeroP_ok (ok hm) (by rw [hn]; rfl) (by rw [hn]; rfl) (by rw [hm]; rfl) (by rw [hm]; rfl) E rfl
  | some p =>
    cases hm : ofP a m with
    | none => exact first_yn ha (ok hn) zeroP_ok (by rw [hn]; rfl) (by rw [hn]; rfl) (by rw [hm]; rfl) (by rw [hm]; rfl) E rfl
    | some q =>
      obtain ⟨c1, c2, c3, c4, c5⟩ := first_plain ha hn hm
      by_cases h : n ≤ m
      · exact first_true ha (ok hn) (ok hm) (by rw [hn]; rfl) (by rw [hn]; rfl) (by rw [hm]; rfl) (by rw [hm]; rfl) E c1 c2 c3 rfl (by rw [c4]; exact decide_eq_true h) c5 (decide_eq_true h)
      · exact first_false ha (ok hn) (ok hm) (by rw [hn]; rfl) (by rw [hn]; rfl) (by rw [hm]; rfl) (by rw [hm]; rfl) E c1 c2 c3 rfl (by rw [c4]; exact decide_eq_false h) c5 (decide_eq_false h)
end Go.Proofs.YtnljjlaececnkaaGreatDoor
