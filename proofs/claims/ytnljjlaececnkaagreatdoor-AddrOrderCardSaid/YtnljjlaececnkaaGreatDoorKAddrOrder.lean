/-
  The walk of AddrOrder. Condition: the variables hold what their initialisers laid.
-/
import Derived.Test.YtnljjlaececnkaaGreatDoorKAddrOrderA
namespace Go.Proofs.YtnljjlaececnkaaGreatDoor
open Go.RowKit
set_option linter.unusedVariables false
set_option linter.unusedSimpArgs false
set_option maxRecDepth 100000 in
set_option maxHeartbeats 3200000 in
theorem order_m0p {p q r : Pr} (hp : p.fit) (hq : q.fit) (hr : r.fit) {w : World} (E : Env w) (hx : cmpPP p q = (-1)) (hy : cmpPP q p = 1) {b c : Int} (hb : cmpPP q r = b) (hc : cmpPP p r = c) (hd : cmpP p.d q.d = 0) (hd2 : cmpP q.d p.d = 0) (he : decide (p = q) = false) (hf : decide (p.d = q.d) = true) (ha : cmpA p.d.a p.d.a = 0) (f1 : decide (b ≤ 0) = false) (f3 : decide (b < 0) = false) : Calls Tryz.prog 9 #[vPP p, vPP q, vPP r] w fun e w' => e = .returned (.bool true) ∧ Below w.heap.size w w' := by
  have heq := fun W => eql_PP W hp hq
  have hef := fun W => eql_P W hp.1 hq.1
  rw [he] at heq
  rw [hf] at hef
  clear he hf
  have Hp := Lib.hid hp
  have Hq := Lib.hid hq
  have Hr := Lib.hid hr
  have B := ((((Bz.start w).alloc (oPP p) rfl).alloc (oPP q) (World.size_alloc _ _)).alloc (oPP r) (show _ = w.heap.size + 2 by simp) : Bz w [(w.heap.size + 2, oPP r), (w.heap.size + 1, oPP q), (w.heap.size, oPP p)] _)
  clear hp hq hr
  replace hx := Lib.hid hx
  replace hy := Lib.hid hy
  replace hb := Lib.hid hb
  replace hc := Lib.hid hc
  replace hd := Lib.hid hd
  replace hd2 := Lib.hid hd2
  replace ha := Lib.hid ha
  unfold vPP
  go_enter Tryz.func9, Tryz.ntmps9
  go_wp2_with fail
  refine wp_region_C (C := Bz w [(w.heap.size + 2, oPP r), (w.heap.size + 1, oPP q), (w.heap.size, oPP p)]) (by kernel_rfl) (by kernel_rfl) (B.drew) ?_
  refine wpQuiet_hide ?_
  intro lq hlq
  refine wpQuiet_step_h hlq ?_
  clear hlq lq
  intro K lq hlq hK
  refine wanted_go (by rfl) ?_
  refine ⟨vPP p, fun W hW => ?_, ?_⟩
  · skip
    exact quiet_load 57 _ rfl rfl (ldPP (hW.all.get 2 (x := (w.heap.size, oPP p)) rfl) Hp.out)
  refine hK _ ?_
  clear hK K
  (try simp only [Act.put, List.setIfInBounds_toArray, List.set_cons_zero, List.set_cons_succ])
  refine wpQuiet_step_h hlq ?_
  clear hlq lq
  intro K lq hlq hK
  refine wanted_go (by rfl) ?_
  refine ⟨vPP q, fun W hW => ?_, ?_⟩
  · skip
    exact quiet_load 57 _ rfl rfl (ldPP (hW.all.get 1 (x := (w.heap.size + 1, oPP q)) rfl) Hq.out)
  refine hK _ ?_
  clear hK K
  (try simp only [Act.put, List.setIfInBounds_toArray, List.set_cons_zero, List.set_cons_succ])
  refine wpQuiet_step_h hlq ?_
  clear hlq lq
  intro K lq hlq hK
  refine wanted_go (by rfl) ?_
  refine ⟨.int .i64 (-1), fun W hW => ?_, ?_⟩
  · go_simp
    exact (cmpPP_call Hp.out Hq.out hx.out).mono fun e W2 hc2 => ⟨hc2.1, hW.go hc2.2⟩
  refine hK _ ?_
  clear hK K
  (try simp only [Act.put, List.setIfInBounds_toArray, List.set_cons_zero, List.set_cons_succ])
  refine wpQuiet_step_h hlq ?_
  clear hlq lq
  intro K lq hlq hK
  refine wanted_go (by rfl) ?_
  refine ⟨vPP q, fun W hW => ?_, ?_⟩
  · skip
    exact quiet_load 57 _ rfl rfl (ldPP (hW.all.get 1 (x := (w.heap.size + 1, oPP q)) rfl) Hq.out)
  refine hK _ ?_
  clear hK K
  (try simp only [Act.put, List.setIfInBounds_toArray, List.set_cons_zero, List.set_cons_succ])
  refine wpQuiet_step_h hlq ?_
  clear hlq lq
  intro K lq hlq hK
  refine wanted_go (by rfl) ?_
  refine ⟨vPP r, fun W hW => ?_, ?_⟩
  · skip
    exact quiet_load 57 _ rfl rfl (ldPP (hW.all.get 0 (x := (w.heap.size + 2, oPP r)) rfl) Hr.out)
  refine hK _ ?_
  clear hK K
  (try simp only [Act.put, List.setIfInBounds_toArray, List.set_cons_zero, List.set_cons_succ])
  refine wpQuiet_step_h hlq ?_
  clear hlq lq
  intro K lq hlq hK
  refine wanted_go (by rfl) ?_
  refine ⟨.int .i64 b, fun W hW => ?_, ?_⟩
  · go_simp
    exact (cmpPP_call Hq.out Hr.out hb.out).mono fun e W2 hc2 => ⟨hc2.1, hW.go hc2.2⟩
  refine hK _ ?_
  clear hK K
  (try simp only [Act.put, List.setIfInBounds_toArray, List.set_cons_zero, List.set_cons_succ])
  refine wpQuiet_step_h hlq ?_
  clear hlq lq
  intro K lq hlq hK
  refine wanted_go (by rfl) ?_
  refine ⟨vPP p, fun W hW => ?_, ?_⟩
  · skip
    exact quiet_load 57 _ rfl rfl (ldPP (hW.all.get 2 (x := (w.heap.size, oPP p)) rfl) Hp.out)
  refine hK _ ?_
  clear hK K
  (try simp only [Act.put, List.setIfInBounds_toArray, List.set_cons_zero, List.set_cons_succ])
  refine wpQuiet_step_h hlq ?_
  clear hlq lq
  intro K lq hlq hK
  refine wanted_go (by rfl) ?_
  refine ⟨vPP r, fun W hW => ?_, ?_⟩
  · skip
    exact quiet_load 57 _ rfl rfl (ldPP (hW.all.get 0 (x := (w.heap.size + 2, oPP r)) rfl) Hr.out)
  refine hK _ ?_
  clear hK K
  (try simp only [Act.put, List.setIfInBounds_toArray, List.set_cons_zero, List.set_cons_succ])
  refine wpQuiet_step_h hlq ?_
  clear hlq lq
  intro K lq hlq hK
  refine wanted_go (by rfl) ?_
  refine ⟨.int .i64 c, fun W hW => ?_, ?_⟩
  · go_simp
    exact (cmpPP_call Hp.out Hr.out hc.out).mono fun e W2 hc2 => ⟨hc2.1, hW.go hc2.2⟩
  refine hK _ ?_
  clear hK K
  (try simp only [Act.put, List.setIfInBounds_toArray, List.set_cons_zero, List.set_cons_succ])
  refine wpQuiet_step_h hlq ?_
  clear hlq lq
  intro K lq hlq hK
  refine wanted_go (by rfl) ?_
  refine ⟨?_, fun W hW => ?_, ?_⟩
  rotate_left
  · skip
    go_simp
    with_reducible rfl
  refine hK _ ?_
  clear hK K
  (try simp only [Act.put, List.setIfInBounds_toArray, List.set_cons_zero, List.set_cons_succ])
  refine wpQuiet_step_h hlq ?_
  clear hlq lq
  intro K lq hlq hK
  refine wanted_go (by rfl) ?_
  refine ⟨?_, fun W hW => ?_, ?_⟩
  rotate_left
  · skip
    go_simp
    with_reducible rfl
  refine hK _ ?_
  clear hK K
  (try simp only [Act.put, List.setIfInBounds_toArray, List.set_cons_zero, List.set_cons_succ])
  refine wpQuiet_step_h hlq ?_
  clear hlq lq
  intro K lq hlq hK
  refine wanted_go (by rfl) ?_
  refine ⟨?_, fun W hW => ?_, ?_⟩
  rotate_left
  · skip
    go_simp
    with_reducible rfl
  refine hK _ ?_
  clear hK K
  (try simp only [Act.put, List.setIfInBounds_toArray, List.set_cons_zero, List.set_cons_succ])
  refine wpQuiet_nil_h hlq ?_
  clear hlq lq B
  intro V1 hV2
  go_wp2_with (refine wpList_quiet (C := Bz w [(w.heap.size + 2, oPP r), (w.heap.size + 1, oPP q), (w.heap.size, oPP p)]) 37 (by rfl) hV2 ?_)
  refine wpQuiet_hide ?_
  intro lq hlq
  refine wpQuiet_step_h hlq ?_
  clear hlq lq
  intro K lq hlq hK
  refine wanted_go (by rfl) ?_
  refine ⟨vPP q, fun W hW => ?_, ?_⟩
  · skip
    exact quiet_load 57 _ rfl rfl (ldPP (hW.all.get 1 (x := (w.heap.size + 1, oPP q)) rfl) Hq.out)
  refine hK _ ?_
  clear hK K
  (try simp only [Act.put, List.setIfInBounds_toArray, List.set_cons_zero, List.set_cons_succ])
  refine wpQuiet_step_h hlq ?_
  clear hlq lq
  intro K lq hlq hK
  refine wanted_go (by rfl) ?_
  refine ⟨vPP p, fun W hW => ?_, ?_⟩
  · skip
    exact quiet_load 57 _ rfl rfl (ldPP (hW.all.get 2 (x := (w.heap.size, oPP p)) rfl) Hp.out)
  refine hK _ ?_
  clear hK K
  (try simp only [Act.put, List.setIfInBounds_toArray, List.set_cons_zero, List.set_cons_succ])
  refine wpQuiet_step_h hlq ?_
  clear hlq lq
  intro K lq hlq hK
  refine wanted_go (by rfl) ?_
  refine ⟨.int .i64 1, fun W hW => ?_, ?_⟩
  · go_simp
    exact (cmpPP_call Hq.out Hp.out hy.out).mono fun e W2 hc2 => ⟨hc2.1, hW.go hc2.2⟩
  refine hK _ ?_
  clear hK K
  (try simp only [Act.put, List.setIfInBounds_toArray, List.set_cons_zero, List.set_cons_succ])
  refine wpQuiet_step_h hlq ?_
  clear hlq lq
  intro K lq hlq hK
  refine wanted_go (by rfl) ?_
  refine ⟨?_, fun W hW => ?_, ?_⟩
  rotate_left
  · skip
    go_simp
    with_reducible rfl
  refine hK _ ?_
  clear hK K
  (try simp only [Act.put, List.setIfInBounds_toArray, List.set_cons_zero, List.set_cons_succ])
  refine wpQuiet_step_h hlq ?_
  clear hlq lq
  intro K lq hlq hK
  refine wanted_go (by rfl) ?_
  refine ⟨?_, fun W hW => ?_, ?_⟩
  rotate_left
  · skip
    go_simp
    with_reducible rfl
  refine hK _ ?_
  clear hK K
  (try simp only [Act.put, List.setIfInBounds_toArray, List.set_cons_zero, List.set_cons_succ])
  refine wpQuiet_step_h hlq ?_
  clear hlq lq
  intro K lq hlq hK
  refine wanted_go (by rfl) ?_
  refine ⟨?_, fun W hW => ?_, ?_⟩
  rotate_left
  · skip
    go_simp
    with_reducible rfl
  refine hK _ ?_
  clear hK K
  (try simp only [Act.put, List.setIfInBounds_toArray, List.set_cons_zero, List.set_cons_succ])
  refine wpQuiet_step_h hlq ?_
  clear hlq lq
  intro K lq hlq hK
  refine wanted_go (by rfl) ?_
  refine ⟨?_, fun W hW => ?_, ?_⟩
  rotate_left
  · skip
    go_simp
    with_reducible rfl
  refine hK _ ?_
  clear hK K
  (try simp only [Act.put, List.setIfInBounds_toArray, List.set_cons_zero, List.set_cons_succ])
  refine wpQuiet_step_h hlq ?_
  clear hlq lq
  intro K lq hlq hK
  refine wanted_go (by rfl) ?_
  refine ⟨?_, fun W hW => ?_, ?_⟩
  rotate_left
  · skip
    go_simp
    with_reducible rfl
  refine hK _ ?_
  clear hK K
  (try simp only [Act.put, List.setIfInBounds_toArray, List.set_cons_zero, List.set_cons_succ])
  refine wpQuiet_step_h hlq ?_
  clear hlq lq
  intro K lq hlq hK
  refine wanted_go (by rfl) ?_
  refine ⟨vPP p, fun W hW => ?_, ?_⟩
  · skip
    exact quiet_load 57 _ rfl rfl (ldPP (hW.all.get 2 (x := (w.heap.size, oPP p)) rfl) Hp.out)
  refine hK _ ?_
  clear hK K
  (try simp only [Act.put, List.setIfInBounds_toArray, List.set_cons_zero, List.set_cons_succ])
  refine wpQuiet_step_h hlq ?_
  clear hlq lq
  intro K lq hlq hK
  refine wanted_go (by rfl) ?_
  refine ⟨vPP q, fun W hW => ?_, ?_⟩
  · skip
    exact quiet_load 57 _ rfl rfl (ldPP (hW.all.get 1 (x := (w.heap.size + 1, oPP q)) rfl) Hq.out)
  refine hK _ ?_
  clear hK K
  (try simp only [Act.put, List.setIfInBounds_toArray, List.set_cons_zero, List.set_cons_succ])
  refine wpQuiet_step_h hlq ?_
  clear hlq lq
  intro K lq hlq hK
  refine wanted_go (by rfl) ?_
  refine ⟨.bool false, fun W hW => ?_, ?_⟩
  · skip
    exact quiet_eq (.inl rfl) (by rfl) (by rfl) (by rfl) guard57 (heq W)
  refine hK _ ?_
  clear hK K
  (try simp only [Act.put, List.setIfInBounds_toArray, List.set_cons_zero, List.set_cons_succ])
  refine wpQuiet_step_h hlq ?_
  clear hlq lq
  intro K lq hlq hK
  refine wanted_go (by rfl) ?_
  refine ⟨?_, fun W hW => ?_, ?_⟩
  rotate_left
  · skip
    go_simp
    with_reducible rfl
  refine hK _ ?_
  clear hK K
  (try simp only [Act.put, List.setIfInBounds_toArray, List.set_cons_zero, List.set_cons_succ])
  refine wpQuiet_step_h hlq ?_
  clear hlq lq
  intro K lq hlq hK
  refine wanted_go (by rfl) ?_
  refine ⟨?_, fun W hW => ?_, ?_⟩
  rotate_left
  · skip
    go_simp
    with_reducible rfl
  refine hK _ ?_
  clear hK K
  (try simp only [Act.put, List.setIfInBounds_toArray, List.set_cons_zero, List.set_cons_succ])
  refine wpQuiet_step_h hlq ?_
  clear hlq lq
  intro K lq hlq hK
  refine wanted_go (by rfl) ?_
  refine ⟨?_, fun W hW => ?_, ?_⟩
  rotate_left
  · skip
    go_simp
    with_reducible rfl
  refine hK _ ?_
  clear hK K
  (try simp only [Act.put, List.setIfInBounds_toArray, List.set_cons_zero, List.set_cons_succ])
  refine wpQuiet_step_h hlq ?_
  clear hlq lq
  intro K lq hlq hK
  refine wanted_go (by rfl) ?_
  refine ⟨?_, fun W hW => ?_, ?_⟩
  rotate_left
  · skip
    go_simp
    with_reducible rfl
  refine hK _ ?_
  clear hK K
  (try simp only [Act.put, List.setIfInBounds_toArray, List.set_cons_zero, List.set_cons_succ])
  refine wpQuiet_step_h hlq ?_
  clear hlq lq
  intro K lq hlq hK
  refine wanted_go (by rfl) ?_
  refine ⟨?_, fun W hW => ?_, ?_⟩
  rotate_left
  · skip
    go_simp
    with_reducible rfl
  refine hK _ ?_
  clear hK K
  (try simp only [Act.put, List.setIfInBounds_toArray, List.set_cons_zero, List.set_cons_succ])
  refine wpQuiet_step_h hlq ?_
  clear hlq lq
  intro K lq hlq hK
  refine wanted_go (by rfl) ?_
  refine ⟨?_, fun W hW => ?_, ?_⟩
  rotate_left
  · skip
    go_simp
    with_reducible rfl
  refine hK _ ?_
  clear hK K
  (try simp only [Act.put, List.setIfInBounds_toArray, List.set_cons_zero, List.set_cons_succ])
  refine wpQuiet_step_h hlq ?_
  clear hlq lq
  intro K lq hlq hK
  refine wanted_go (by rfl) ?_
  refine ⟨?_, fun W hW => ?_, ?_⟩
  rotate_left
  · skip
    go_simp
    with_reducible rfl
  refine hK _ ?_
  clear hK K
  (try simp only [Act.put, List.setIfInBounds_toArray, List.set_cons_zero, List.set_cons_succ])
  refine wpQuiet_step_h hlq ?_
  clear hlq lq
  intro K lq hlq hK
  refine wanted_go (by rfl) ?_
  refine ⟨?_, fun W hW => ?_, ?_⟩
  rotate_left
  · skip
    go_simp
    with_reducible rfl
  refine hK _ ?_
  clear hK K
  (try simp only [Act.put, List.setIfInBounds_toArray, List.set_cons_zero, List.set_cons_succ])
  refine wpQuiet_step_h hlq ?_
  clear hlq lq
  intro K lq hlq hK
  refine wanted_go (by rfl) ?_
  refine ⟨?_, fun W hW => ?_, ?_⟩
  rotate_left
  · skip
    go_simp
    with_reducible rfl
  refine hK _ ?_
  clear hK K
  (try simp only [Act.put, List.setIfInBounds_toArray, List.set_cons_zero, List.set_cons_succ])
  refine wpQuiet_step_h hlq ?_
  clear hlq lq
  intro K lq hlq hK
  refine wanted_go (by rfl) ?_
  refine ⟨?_, fun W hW => ?_, ?_⟩
  rotate_left
  · skip
    go_simp
    with_reducible rfl
  refine hK _ ?_
  clear hK K
  (try simp only [Act.put, List.setIfInBounds_toArray, List.set_cons_zero, List.set_cons_succ])
  refine wpQuiet_step_h hlq ?_
  clear hlq lq
  intro K lq hlq hK
  go_simp
  refine hK _ ?_
  clear hK K
  refine wpQuiet_step_h hlq ?_
  clear hlq lq
  intro K lq hlq hK
  go_simp
  refine hK _ ?_
  clear hK K
  refine wpQuiet_step_h hlq ?_
  clear hlq lq
  intro K lq hlq hK
  refine wanted_go (by rfl) ?_
  refine ⟨?_, fun W hW => ?_, ?_⟩
  rotate_left
  · skip
    go_simp
    with_reducible rfl
  refine hK _ ?_
  clear hK K
  (try simp only [Act.put, List.setIfInBounds_toArray, List.set_cons_zero, List.set_cons_succ])
  refine wpQuiet_step_h hlq ?_
  clear hlq lq
  intro K lq hlq hK
  refine wanted_go (by rfl) ?_
  refine ⟨?_, fun W hW => ?_, ?_⟩
  rotate_left
  · skip
    go_simp
    with_reducible rfl
  refine hK _ ?_
  clear hK K
  (try simp only [Act.put, List.setIfInBounds_toArray, List.set_cons_zero, List.set_cons_succ])
  refine wpQuiet_step_h hlq ?_
  clear hlq lq
  intro K lq hlq hK
  refine wanted_go (by rfl) ?_
  refine ⟨?_, fun W hW => ?_, ?_⟩
  rotate_left
  · skip
    go_simp
    with_reducible rfl
  refine hK _ ?_
  clear hK K
  (try simp only [Act.put, List.setIfInBounds_toArray, List.set_cons_zero, List.set_cons_succ])
  refine wpQuiet_step_h hlq ?_
  clear hlq lq
  intro K lq hlq hK
  refine wanted_go (by rfl) ?_
  refine ⟨?_, fun W hW => ?_, ?_⟩
  rotate_left
  · skip
    go_simp
    with_reducible rfl
  refine hK _ ?_
  clear hK K
  (try simp only [Act.put, List.setIfInBounds_toArray, List.set_cons_zero, List.set_cons_succ])
  refine wpQuiet_step_h hlq ?_
  clear hlq lq
  intro K lq hlq hK
  refine wanted_go (by rfl) ?_
  refine ⟨?_, fun W hW => ?_, ?_⟩
  rotate_left
  · skip
    go_simp
    with_reducible rfl
  refine hK _ ?_
  clear hK K
  (try simp only [Act.put, List.setIfInBounds_toArray, List.set_cons_zero, List.set_cons_succ])
  refine wpQuiet_step_h hlq ?_
  clear hlq lq
  intro K lq hlq hK
  refine wanted_go (by rfl) ?_
  refine ⟨?_, fun W hW => ?_, ?_⟩
  rotate_left
  · skip
    go_simp
    with_reducible rfl
  refine hK _ ?_
  clear hK K
  (try simp only [Act.put, List.setIfInBounds_toArray, List.set_cons_zero, List.set_cons_succ])
  refine wpQuiet_step_h hlq ?_
  clear hlq lq
  intro K lq hlq hK
  refine wanted_go (by rfl) ?_
  refine ⟨?_, fun W hW => ?_, ?_⟩
  rotate_left
  · skip
    go_simp
    with_reducible rfl
  refine hK _ ?_
  clear hK K
  (try simp only [Act.put, List.setIfInBounds_toArray, List.set_cons_zero, List.set_cons_succ])
  refine wpQuiet_step_h hlq ?_
  clear hlq lq
  intro K lq hlq hK
  refine wanted_go (by rfl) ?_
  refine ⟨?_, fun W hW => ?_, ?_⟩
  rotate_left
  · skip
    go_simp
    with_reducible rfl
  refine hK _ ?_
  clear hK K
  (try simp only [Act.put, List.setIfInBounds_toArray, List.set_cons_zero, List.set_cons_succ])
  refine wpQuiet_step_h hlq ?_
  clear hlq lq
  intro K lq hlq hK
  refine wanted_go (by rfl) ?_
  refine ⟨?_, fun W hW => ?_, ?_⟩
  rotate_left
  · skip
    go_simp
    with_reducible rfl
  refine hK _ ?_
  clear hK K
  (try simp only [Act.put, List.setIfInBounds_toArray, List.set_cons_zero, List.set_cons_succ])
  refine wpQuiet_step_h hlq ?_
  clear hlq lq
  intro K lq hlq hK
  refine wanted_go (by rfl) ?_
  refine ⟨?_, fun W hW => ?_, ?_⟩
  rotate_left
  · skip
    go_simp
    with_reducible rfl
  refine hK _ ?_
  clear hK K
  (try simp only [Act.put, List.setIfInBounds_toArray, List.set_cons_zero, List.set_cons_succ])
  refine wpQuiet_step_h hlq ?_
  clear hlq lq
  intro K lq hlq hK
  go_simp
  refine hK _ ?_
  clear hK K
  refine wpQuiet_step_h hlq ?_
  clear hlq lq
  intro K lq hlq hK
  go_simp
  refine hK _ ?_
  clear hK K
  refine wpQuiet_step_h hlq ?_
  clear hlq lq
  intro K lq hlq hK
  refine wanted_go (by rfl) ?_
  refine ⟨?_, fun W hW => ?_, ?_⟩
  rotate_left
  · skip
    go_simp
    with_reducible rfl
  refine hK _ ?_
  clear hK K
  (try simp only [Act.put, List.setIfInBounds_toArray, List.set_cons_zero, List.set_cons_succ])
  refine wpQuiet_step_h hlq ?_
  clear hlq lq
  intro K lq hlq hK
  refine wanted_go (by rfl) ?_
  refine ⟨?_, fun W hW => ?_, ?_⟩
  rotate_left
  · skip
    go_simp
    with_reducible rfl
  refine hK _ ?_
  clear hK K
  (try simp only [Act.put, List.setIfInBounds_toArray, List.set_cons_zero, List.set_cons_succ])
  refine wpQuiet_nil_h hlq ?_
  clear hlq lq hV2
  intro V3 hV4
  go_wp2_with fail
  refine wp_region_C (C := Bz w [(w.heap.size + 2, oPP r), (w.heap.size + 1, oPP q), (w.heap.size, oPP p)]) (by kernel_rfl) (by kernel_rfl) (hV4.drew) ?_
  refine wpQuiet_hide ?_
  intro lq hlq
  refine wpQuiet_step_h hlq ?_
  clear hlq lq
  intro K lq hlq hK
  refine wanted_go (by rfl) ?_
  refine ⟨?_, fun W hW => ?_, ?_⟩
  rotate_left
  · skip
    go_simp
    with_reducible rfl
  refine hK _ ?_
  clear hK K
  (try simp only [Act.put, List.setIfInBounds_toArray, List.set_cons_zero, List.set_cons_succ])
  refine wpQuiet_step_h hlq ?_
  clear hlq lq
  intro K lq hlq hK
  refine wanted_go (by rfl) ?_
  refine ⟨vPf p.d, fun W hW => ?_, ?_⟩
  · skip
    exact quiet_load 55 _ rfl rfl (ldPPd (hW.all.get 2 (x := (w.heap.size, oPP p)) rfl) Hp.out)
  refine hK _ ?_
  clear hK K
  (try simp only [Act.put, List.setIfInBounds_toArray, List.set_cons_zero, List.set_cons_succ])
  refine wpQuiet_step_h hlq ?_
  clear hlq lq
  intro K lq hlq hK
  refine wanted_go (by rfl) ?_
  refine ⟨?_, fun W hW => ?_, ?_⟩
  rotate_left
  · skip
    go_simp
    with_reducible rfl
  refine hK _ ?_
  clear hK K
  (try simp only [Act.put, List.setIfInBounds_toArray, List.set_cons_zero, List.set_cons_succ])
  refine wpQuiet_step_h hlq ?_
  clear hlq lq
  intro K lq hlq hK
  refine wanted_go (by rfl) ?_
  refine ⟨vPf q.d, fun W hW => ?_, ?_⟩
  · skip
    exact quiet_load 55 _ rfl rfl (ldPPd (hW.all.get 1 (x := (w.heap.size + 1, oPP q)) rfl) Hq.out)
  refine hK _ ?_
  clear hK K
  (try simp only [Act.put, List.setIfInBounds_toArray, List.set_cons_zero, List.set_cons_succ])
  refine wpQuiet_step_h hlq ?_
  clear hlq lq
  intro K lq hlq hK
  refine wanted_go (by rfl) ?_
  refine ⟨.int .i64 0, fun W hW => ?_, ?_⟩
  · go_simp
    exact (cmpP_call Hp.out.1 Hq.out.1 hd.out).mono fun e W2 hc2 => ⟨hc2.1, hW.go hc2.2⟩
  refine hK _ ?_
  clear hK K
  (try simp only [Act.put, List.setIfInBounds_toArray, List.set_cons_zero, List.set_cons_succ])
  refine wpQuiet_step_h hlq ?_
  clear hlq lq
  intro K lq hlq hK
  refine wanted_go (by rfl) ?_
  refine ⟨?_, fun W hW => ?_, ?_⟩
  rotate_left
  · skip
    go_simp
    with_reducible rfl
  refine hK _ ?_
  clear hK K
  (try simp only [Act.put, List.setIfInBounds_toArray, List.set_cons_zero, List.set_cons_succ])
  refine wpQuiet_step_h hlq ?_
  clear hlq lq
  intro K lq hlq hK
  refine wanted_go (by rfl) ?_
  refine ⟨vPf q.d, fun W hW => ?_, ?_⟩
  · skip
    exact quiet_load 55 _ rfl rfl (ldPPd (hW.all.get 1 (x := (w.heap.size + 1, oPP q)) rfl) Hq.out)
  refine hK _ ?_
  clear hK K
  (try simp only [Act.put, List.setIfInBounds_toArray, List.set_cons_zero, List.set_cons_succ])
  refine wpQuiet_step_h hlq ?_
  clear hlq lq
  intro K lq hlq hK
  refine wanted_go (by rfl) ?_
  refine ⟨?_, fun W hW => ?_, ?_⟩
  rotate_left
  · skip
    go_simp
    with_reducible rfl
  refine hK _ ?_
  clear hK K
  (try simp only [Act.put, List.setIfInBounds_toArray, List.set_cons_zero, List.set_cons_succ])
  refine wpQuiet_step_h hlq ?_
  clear hlq lq
  intro K lq hlq hK
  refine wanted_go (by rfl) ?_
  refine ⟨vPf p.d, fun W hW => ?_, ?_⟩
  · skip
    exact quiet_load 55 _ rfl rfl (ldPPd (hW.all.get 2 (x := (w.heap.size, oPP p)) rfl) Hp.out)
  refine hK _ ?_
  clear hK K
  (try simp only [Act.put, List.setIfInBounds_toArray, List.set_cons_zero, List.set_cons_succ])
  refine wpQuiet_step_h hlq ?_
  clear hlq lq
  intro K lq hlq hK
  refine wanted_go (by rfl) ?_
  refine ⟨.int .i64 0, fun W hW => ?_, ?_⟩
  · go_simp
    exact (cmpP_call Hq.out.1 Hp.out.1 hd2.out).mono fun e W2 hc2 => ⟨hc2.1, hW.go hc2.2⟩
  refine hK _ ?_
  clear hK K
  (try simp only [Act.put, List.setIfInBounds_toArray, List.set_cons_zero, List.set_cons_succ])
  refine wpQuiet_step_h hlq ?_
  clear hlq lq
  intro K lq hlq hK
  refine wanted_go (by rfl) ?_
  refine ⟨?_, fun W hW => ?_, ?_⟩
  rotate_left
  · skip
    go_simp
    with_reducible rfl
  refine hK _ ?_
  clear hK K
  (try simp only [Act.put, List.setIfInBounds_toArray, List.set_cons_zero, List.set_cons_succ])
  refine wpQuiet_step_h hlq ?_
  clear hlq lq
  intro K lq hlq hK
  refine wanted_go (by rfl) ?_
  refine ⟨?_, fun W hW => ?_, ?_⟩
  rotate_left
  · skip
    go_simp
    with_reducible rfl
  refine hK _ ?_
  clear hK K
  (try simp only [Act.put, List.setIfInBounds_toArray, List.set_cons_zero, List.set_cons_succ])
  refine wpQuiet_nil_h hlq ?_
  clear hlq lq hV4
  intro V5 hV6
  go_wp2_with (refine wpList_quiet (C := Bz w [(w.heap.size + 2, oPP r), (w.heap.size + 1, oPP q), (w.heap.size, oPP p)]) 35 (by rfl) hV6 ?_)
  refine wpQuiet_hide ?_
  intro lq hlq
  refine wpQuiet_step_h hlq ?_
  clear hlq lq
  intro K lq hlq hK
  refine wanted_go (by rfl) ?_
  refine ⟨?_, fun W hW => ?_, ?_⟩
  rotate_left
  · skip
    go_simp
    with_reducible rfl
  refine hK _ ?_
  clear hK K
  (try simp only [Act.put, List.setIfInBounds_toArray, List.set_cons_zero, List.set_cons_succ])
  refine wpQuiet_step_h hlq ?_
  clear hlq lq
  intro K lq hlq hK
  refine wanted_go (by rfl) ?_
  refine ⟨?_, fun W hW => ?_, ?_⟩
  rotate_left
  · skip
    go_simp
    with_reducible rfl
  refine hK _ ?_
  clear hK K
  (try simp only [Act.put, List.setIfInBounds_toArray, List.set_cons_zero, List.set_cons_succ])
  refine wpQuiet_step_h hlq ?_
  clear hlq lq
  intro K lq hlq hK
  refine wanted_go (by rfl) ?_
  refine ⟨?_, fun W hW => ?_, ?_⟩
  rotate_left
  · skip
    go_simp
    with_reducible rfl
  refine hK _ ?_
  clear hK K
  (try simp only [Act.put, List.setIfInBounds_toArray, List.set_cons_zero, List.set_cons_succ])
  refine wpQuiet_step_h hlq ?_
  clear hlq lq
  intro K lq hlq hK
  refine wanted_go (by rfl) ?_
  refine ⟨?_, fun W hW => ?_, ?_⟩
  rotate_left
  · skip
    go_simp
    with_reducible rfl
  refine hK _ ?_
  clear hK K
  (try simp only [Act.put, List.setIfInBounds_toArray, List.set_cons_zero, List.set_cons_succ])
  refine wpQuiet_step_h hlq ?_
  clear hlq lq
  intro K lq hlq hK
  refine wanted_go (by rfl) ?_
  refine ⟨?_, fun W hW => ?_, ?_⟩
  rotate_left
  · skip
    go_simp
    with_reducible rfl
  refine hK _ ?_
  clear hK K
  (try simp only [Act.put, List.setIfInBounds_toArray, List.set_cons_zero, List.set_cons_succ])
  refine wpQuiet_step_h hlq ?_
  clear hlq lq
  intro K lq hlq hK
  refine wanted_go (by rfl) ?_
  refine ⟨?_, fun W hW => ?_, ?_⟩
  rotate_left
  · skip
    go_simp
    with_reducible rfl
  refine hK _ ?_
  clear hK K
  (try simp only [Act.put, List.setIfInBounds_toArray, List.set_cons_zero, List.set_cons_succ])
  refine wpQuiet_step_h hlq ?_
  clear hlq lq
  intro K lq hlq hK
  refine wanted_go (by rfl) ?_
  refine ⟨vPf p.d, fun W hW => ?_, ?_⟩
  · skip
    exact quiet_load 55 _ rfl rfl (ldPPd (hW.all.get 2 (x := (w.heap.size, oPP p)) rfl) Hp.out)
  refine hK _ ?_
  clear hK K
  (try simp only [Act.put, List.setIfInBounds_toArray, List.set_cons_zero, List.set_cons_succ])
  refine wpQuiet_step_h hlq ?_
  clear hlq lq
  intro K lq hlq hK
  refine wanted_go (by rfl) ?_
  refine ⟨?_, fun W hW => ?_, ?_⟩
  rotate_left
  · skip
    go_simp
    with_reducible rfl
  refine hK _ ?_
  clear hK K
  (try simp only [Act.put, List.setIfInBounds_toArray, List.set_cons_zero, List.set_cons_succ])
  refine wpQuiet_step_h hlq ?_
  clear hlq lq
  intro K lq hlq hK
  refine wanted_go (by rfl) ?_
  refine ⟨vPf q.d, fun W hW => ?_, ?_⟩
  · skip
    exact quiet_load 55 _ rfl rfl (ldPPd (hW.all.get 1 (x := (w.heap.size + 1, oPP q)) rfl) Hq.out)
  refine hK _ ?_
  clear hK K
  (try simp only [Act.put, List.setIfInBounds_toArray, List.set_cons_zero, List.set_cons_succ])
  refine wpQuiet_step_h hlq ?_
  clear hlq lq
  intro K lq hlq hK
  refine wanted_go (by rfl) ?_
  refine ⟨.bool true, fun W hW => ?_, ?_⟩
  · skip
    exact quiet_eq (.inl rfl) (by rfl) (by rfl) (by rfl) guard55 (hef W)
  refine hK _ ?_
  clear hK K
  (try simp only [Act.put, List.setIfInBounds_toArray, List.set_cons_zero, List.set_cons_succ])
  refine wpQuiet_step_h hlq ?_
  clear hlq lq
  intro K lq hlq hK
  refine wanted_go (by rfl) ?_
  refine ⟨?_, fun W hW => ?_, ?_⟩
  rotate_left
  · skip
    go_simp
    with_reducible rfl
  refine hK _ ?_
  clear hK K
  (try simp only [Act.put, List.setIfInBounds_toArray, List.set_cons_zero, List.set_cons_succ])
  refine wpQuiet_step_h hlq ?_
  clear hlq lq
  intro K lq hlq hK
  refine wanted_go (by rfl) ?_
  refine ⟨?_, fun W hW => ?_, ?_⟩
  rotate_left
  · skip
    go_simp
    with_reducible rfl
  refine hK _ ?_
  clear hK K
  (try simp only [Act.put, List.setIfInBounds_toArray, List.set_cons_zero, List.set_cons_succ])
  refine wpQuiet_step_h hlq ?_
  clear hlq lq
  intro K lq hlq hK
  refine wanted_go (by rfl) ?_
  refine ⟨?_, fun W hW => ?_, ?_⟩
  rotate_left
  · skip
    go_simp
    with_reducible rfl
  refine hK _ ?_
  clear hK K
  (try simp only [Act.put, List.setIfInBounds_toArray, List.set_cons_zero, List.set_cons_succ])
  refine wpQuiet_step_h hlq ?_
  clear hlq lq
  intro K lq hlq hK
  refine wanted_go (by rfl) ?_
  refine ⟨?_, fun W hW => ?_, ?_⟩
  rotate_left
  · skip
    go_simp
    with_reducible rfl
  refine hK _ ?_
  clear hK K
  (try simp only [Act.put, List.setIfInBounds_toArray, List.set_cons_zero, List.set_cons_succ])
  refine wpQuiet_step_h hlq ?_
  clear hlq lq
  intro K lq hlq hK
  refine wanted_go (by rfl) ?_
  refine ⟨?_, fun W hW => ?_, ?_⟩
  rotate_left
  · skip
    go_simp
    with_reducible rfl
  refine hK _ ?_
  clear hK K
  (try simp only [Act.put, List.setIfInBounds_toArray, List.set_cons_zero, List.set_cons_succ])
  refine wpQuiet_step_h hlq ?_
  clear hlq lq
  intro K lq hlq hK
  refine wanted_go (by rfl) ?_
  refine ⟨?_, fun W hW => ?_, ?_⟩
  rotate_left
  · skip
    go_simp
    with_reducible rfl
  refine hK _ ?_
  clear hK K
  (try simp only [Act.put, List.setIfInBounds_toArray, List.set_cons_zero, List.set_cons_succ])
  refine wpQuiet_step_h hlq ?_
  clear hlq lq
  intro K lq hlq hK
  go_simp
  refine hK _ ?_
  clear hK K
  refine wpQuiet_step_h hlq ?_
  clear hlq lq
  intro K lq hlq hK
  go_simp
  refine hK _ ?_
  clear hK K
  refine wpQuiet_step_h hlq ?_
  clear hlq lq
  intro K lq hlq hK
  go_simp
  refine hK _ ?_
  clear hK K
  refine wpQuiet_step_h hlq ?_
  clear hlq lq
  intro K lq hlq hK
  refine wanted_go (by rfl) ?_
  refine ⟨?_, fun W hW => ?_, ?_⟩
  rotate_left
  · skip
    go_simp
    with_reducible rfl
  refine hK _ ?_
  clear hK K
  (try simp only [Act.put, List.setIfInBounds_toArray, List.set_cons_zero, List.set_cons_succ])
  refine wpQuiet_step_h hlq ?_
  clear hlq lq
  intro K lq hlq hK
  refine wanted_go (by rfl) ?_
  refine ⟨?_, fun W hW => ?_, ?_⟩
  rotate_left
  · skip
    go_simp
    with_reducible rfl
  refine hK _ ?_
  clear hK K
  (try simp only [Act.put, List.setIfInBounds_toArray, List.set_cons_zero, List.set_cons_succ])
  refine wpQuiet_step_h hlq ?_
  clear hlq lq
  intro K lq hlq hK
  refine wanted_go (by rfl) ?_
  refine ⟨?_, fun W hW => ?_, ?_⟩
  rotate_left
  · skip
    go_simp
    with_reducible rfl
  refine hK _ ?_
  clear hK K
  (try simp only [Act.put, List.setIfInBounds_toArray, List.set_cons_zero, List.set_cons_succ])
  refine wpQuiet_step_h hlq ?_
  clear hlq lq
  intro K lq hlq hK
  refine wanted_go (by rfl) ?_
  refine ⟨?_, fun W hW => ?_, ?_⟩
  rotate_left
  · skip
    go_simp
    with_reducible rfl
  refine hK _ ?_
  clear hK K
  (try simp only [Act.put, List.setIfInBounds_toArray, List.set_cons_zero, List.set_cons_succ])
  refine wpQuiet_step_h hlq ?_
  clear hlq lq
  intro K lq hlq hK
  refine wanted_go (by rfl) ?_
  refine ⟨?_, fun W hW => ?_, ?_⟩
  rotate_left
  · skip
    go_simp
    with_reducible rfl
  refine hK _ ?_
  clear hK K
  (try simp only [Act.put, List.setIfInBounds_toArray, List.set_cons_zero, List.set_cons_succ])
  refine wpQuiet_step_h hlq ?_
  clear hlq lq
  intro K lq hlq hK
  refine wanted_go (by rfl) ?_
  refine ⟨vA p.d.a, fun W hW => ?_, ?_⟩
  · skip
    exact quiet_load 42 _ rfl rfl (ldPPda (hW.all.get 2 (x := (w.heap.size, oPP p)) rfl) Hp.out)
  refine hK _ ?_
  clear hK K
  (try simp only [Act.put, List.setIfInBounds_toArray, List.set_cons_zero, List.set_cons_succ])
  refine wpQuiet_step_h hlq ?_
  clear hlq lq
  intro K lq hlq hK
  refine wanted_go (by rfl) ?_
  refine ⟨?_, fun W hW => ?_, ?_⟩
  rotate_left
  · skip
    go_simp
    with_reducible rfl
  refine hK _ ?_
  clear hK K
  (try simp only [Act.put, List.setIfInBounds_toArray, List.set_cons_zero, List.set_cons_succ])
  refine wpQuiet_step_h hlq ?_
  clear hlq lq
  intro K lq hlq hK
  refine wanted_go (by rfl) ?_
  refine ⟨?_, fun W hW => ?_, ?_⟩
  rotate_left
  · skip
    go_simp
    with_reducible rfl
  refine hK _ ?_
  clear hK K
  (try simp only [Act.put, List.setIfInBounds_toArray, List.set_cons_zero, List.set_cons_succ])
  refine wpQuiet_step_h hlq ?_
  clear hlq lq
  intro K lq hlq hK
  refine wanted_go (by rfl) ?_
  refine ⟨vA p.d.a, fun W hW => ?_, ?_⟩
  · skip
    exact quiet_load 42 _ rfl rfl (ldPPda (hW.all.get 2 (x := (w.heap.size, oPP p)) rfl) Hp.out)
  refine hK _ ?_
  clear hK K
  (try simp only [Act.put, List.setIfInBounds_toArray, List.set_cons_zero, List.set_cons_succ])
  refine wpQuiet_step_h hlq ?_
  clear hlq lq
  intro K lq hlq hK
  refine wanted_go (by rfl) ?_
  refine ⟨.int .i64 0, fun W hW => ?_, ?_⟩
  · go_simp
    have E' := hW.env E
    exact (cmpA_call Hp.out.1.1 Hp.out.1.1 ha.out).mono fun e W2 hc2 => ⟨hc2.1, hW.go hc2.2⟩
  refine hK _ ?_
  clear hK K
  (try simp only [Act.put, List.setIfInBounds_toArray, List.set_cons_zero, List.set_cons_succ])
  refine wpQuiet_step_h hlq ?_
  clear hlq lq
  intro K lq hlq hK
  refine wanted_go (by rfl) ?_
  refine ⟨?_, fun W hW => ?_, ?_⟩
  rotate_left
  · skip
    go_simp
    with_reducible rfl
  refine hK _ ?_
  clear hK K
  (try simp only [Act.put, List.setIfInBounds_toArray, List.set_cons_zero, List.set_cons_succ])
  refine wpQuiet_step_h hlq ?_
  clear hlq lq
  intro K lq hlq hK
  refine wanted_go (by rfl) ?_
  refine ⟨?_, fun W hW => ?_, ?_⟩
  rotate_left
  · skip
    go_simp
    with_reducible rfl
  refine hK _ ?_
  clear hK K
  (try simp only [Act.put, List.setIfInBounds_toArray, List.set_cons_zero, List.set_cons_succ])
  refine wpQuiet_step_h hlq ?_
  clear hlq lq
  intro K lq hlq hK
  refine wanted_go (by rfl) ?_
  refine ⟨?_, fun W hW => ?_, ?_⟩
  rotate_left
  · skip
    go_simp
    with_reducible rfl
  refine hK _ ?_
  clear hK K
  (try simp only [Act.put, List.setIfInBounds_toArray, List.set_cons_zero, List.set_cons_succ])
  refine wpQuiet_step_h hlq ?_
  clear hlq lq
  intro K lq hlq hK
  refine wanted_go (by rfl) ?_
  refine ⟨.bool true, fun W hW => ?_, ?_⟩
  · go_simp
    have E' := hW.env E
    exact (live02_any E').mono fun e W2 hc2 => ⟨hc2.1, hW.go hc2.2⟩
  refine hK _ ?_
  clear hK K
  (try simp only [Act.put, List.setIfInBounds_toArray, List.set_cons_zero, List.set_cons_succ])
  refine wpQuiet_step_h hlq ?_
  clear hlq lq
  intro K lq hlq hK
  refine wanted_go (by rfl) ?_
  refine ⟨?_, fun W hW => ?_, ?_⟩
  rotate_left
  · skip
    go_simp
    with_reducible rfl
  refine hK _ ?_
  clear hK K
  (try simp only [Act.put, List.setIfInBounds_toArray, List.set_cons_zero, List.set_cons_succ])
  refine wpQuiet_step_h hlq ?_
  clear hlq lq
  intro K lq hlq hK
  refine wanted_go (by rfl) ?_
  refine ⟨?_, fun W hW => ?_, ?_⟩
  rotate_left
  · skip
    go_simp
    with_reducible rfl
  refine hK _ ?_
  clear hK K
  (try simp only [Act.put, List.setIfInBounds_toArray, List.set_cons_zero, List.set_cons_succ])
  refine wpQuiet_nil_h hlq ?_
  clear hlq lq hV6
  intro V7 hV8
  go_wp2_with fail
  go_ret
  exact ⟨rfl, hV8.bel⟩
set_option maxRecDepth 100000 in
set_option maxHeartbeats 3200000 in
theorem order_m0z {p q r : Pr} (hp : p.fit) (hq : q.fit) (hr : r.fit) {w : World} (E : Env w) (hx : cmpPP p q = (-1)) (hy : cmpPP q p = 1) {b c : Int} (hb : cmpPP q r = b) (hc : cmpPP p r = c) (hd : cmpP p.d q.d = 0) (hd2 : cmpP q.d p.d = 0) (he : decide (p = q) = false) (hf : decide (p.d = q.d) = true) (ha : cmpA p.d.a p.d.a = 0) (f1 : decide (b ≤ 0) = true) (f2 : decide (0 < c) = false) (f3 : decide (b < 0) = false) : Calls Tryz.prog 9 #[vPP p, vPP q, vPP r] w fun e w' => e = .returned (.bool true) ∧ Below w.heap.size w w' := by
  have heq := fun W => eql_PP W hp hq
  have hef := fun W => eql_P W hp.1 hq.1
  rw [he] at heq
  rw [hf] at hef
  clear he hf
  have Hp := Lib.hid hp
  have Hq := Lib.hid hq
  have Hr := Lib.hid hr
  have B := ((((Bz.start w).alloc (oPP p) rfl).alloc (oPP q) (World.size_alloc _ _)).alloc (oPP r) (show _ = w.heap.size + 2 by simp) : Bz w [(w.heap.size + 2, oPP r), (w.heap.size + 1, oPP q), (w.heap.size, oPP p)] _)
  clear hp hq hr
  replace hx := Lib.hid hx
  replace hy := Lib.hid hy
  replace hb := Lib.hid hb
  replace hc := Lib.hid hc
  replace hd := Lib.hid hd
  replace hd2 := Lib.hid hd2
  replace ha := Lib.hid ha
  unfold vPP
  go_enter Tryz.func9, Tryz.ntmps9
  go_wp2_with fail
  refine wp_region_C (C := Bz w [(w.heap.size + 2, oPP r), (w.heap.size + 1, oPP q), (w.heap.size, oPP p)]) (by kernel_rfl) (by kernel_rfl) (B.drew) ?_
  refine wpQuiet_hide ?_
  intro lq hlq
  refine wpQuiet_step_h hlq ?_
  clear hlq lq
  intro K lq hlq hK
  refine wanted_go (by rfl) ?_
  refine ⟨vPP p, fun W hW => ?_, ?_⟩
  · skip
    exact quiet_load 57 _ rfl rfl (ldPP (hW.all.get 2 (x := (w.heap.size, oPP p)) rfl) Hp.out)
  refine hK _ ?_
  clear hK K
  (try simp only [Act.put, List.setIfInBounds_toArray, List.set_cons_zero, List.set_cons_succ])
  refine wpQuiet_step_h hlq ?_
  clear hlq lq
  intro K lq hlq hK
  refine wanted_go (by rfl) ?_
  refine ⟨vPP q, fun W hW => ?_, ?_⟩
  · skip
    exact quiet_load 57 _ rfl rfl (ldPP (hW.all.get 1 (x := (w.heap.size + 1, oPP q)) rfl) Hq.out)
  refine hK _ ?_
  clear hK K
  (try simp only [Act.put, List.setIfInBounds_toArray, List.set_cons_zero, List.set_cons_succ])
  refine wpQuiet_step_h hlq ?_
  clear hlq lq
  intro K lq hlq hK
  refine wanted_go (by rfl) ?_
  refine ⟨.int .i64 (-1), fun W hW => ?_, ?_⟩
  · go_simp
    exact (cmpPP_call Hp.out Hq.out hx.out).mono fun e W2 hc2 => ⟨hc2.1, hW.go hc2.2⟩
  refine hK _ ?_
  clear hK K
  (try simp only [Act.put, List.setIfInBounds_toArray, List.set_cons_zero, List.set_cons_succ])
  refine wpQuiet_step_h hlq ?_
  clear hlq lq
  intro K lq hlq hK
  refine wanted_go (by rfl) ?_
  refine ⟨vPP q, fun W hW => ?_, ?_⟩
  · skip
    exact quiet_load 57 _ rfl rfl (ldPP (hW.all.get 1 (x := (w.heap.size + 1, oPP q)) rfl) Hq.out)
  refine hK _ ?_
  clear hK K
  (try simp only [Act.put, List.setIfInBounds_toArray, List.set_cons_zero, List.set_cons_succ])
  refine wpQuiet_step_h hlq ?_
  clear hlq lq
  intro K lq hlq hK
  refine wanted_go (by rfl) ?_
  refine ⟨vPP r, fun W hW => ?_, ?_⟩
  · skip
    exact quiet_load 57 _ rfl rfl (ldPP (hW.all.get 0 (x := (w.heap.size + 2, oPP r)) rfl) Hr.out)
  refine hK _ ?_
  clear hK K
  (try simp only [Act.put, List.setIfInBounds_toArray, List.set_cons_zero, List.set_cons_succ])
  refine wpQuiet_step_h hlq ?_
  clear hlq lq
  intro K lq hlq hK
  refine wanted_go (by rfl) ?_
  refine ⟨.int .i64 b, fun W hW => ?_, ?_⟩
  · go_simp
    exact (cmpPP_call Hq.out Hr.out hb.out).mono fun e W2 hc2 => ⟨hc2.1, hW.go hc2.2⟩
  refine hK _ ?_
  clear hK K
  (try simp only [Act.put, List.setIfInBounds_toArray, List.set_cons_zero, List.set_cons_succ])
  refine wpQuiet_step_h hlq ?_
  clear hlq lq
  intro K lq hlq hK
  refine wanted_go (by rfl) ?_
  refine ⟨vPP p, fun W hW => ?_, ?_⟩
  · skip
    exact quiet_load 57 _ rfl rfl (ldPP (hW.all.get 2 (x := (w.heap.size, oPP p)) rfl) Hp.out)
  refine hK _ ?_
  clear hK K
  (try simp only [Act.put, List.setIfInBounds_toArray, List.set_cons_zero, List.set_cons_succ])
  refine wpQuiet_step_h hlq ?_
  clear hlq lq
  intro K lq hlq hK
  refine wanted_go (by rfl) ?_
  refine ⟨vPP r, fun W hW => ?_, ?_⟩
  · skip
    exact quiet_load 57 _ rfl rfl (ldPP (hW.all.get 0 (x := (w.heap.size + 2, oPP r)) rfl) Hr.out)
  refine hK _ ?_
  clear hK K
  (try simp only [Act.put, List.setIfInBounds_toArray, List.set_cons_zero, List.set_cons_succ])
  refine wpQuiet_step_h hlq ?_
  clear hlq lq
  intro K lq hlq hK
  refine wanted_go (by rfl) ?_
  refine ⟨.int .i64 c, fun W hW => ?_, ?_⟩
  · go_simp
    exact (cmpPP_call Hp.out Hr.out hc.out).mono fun e W2 hc2 => ⟨hc2.1, hW.go hc2.2⟩
  refine hK _ ?_
  clear hK K
  (try simp only [Act.put, List.setIfInBounds_toArray, List.set_cons_zero, List.set_cons_succ])
  refine wpQuiet_step_h hlq ?_
  clear hlq lq
  intro K lq hlq hK
  refine wanted_go (by rfl) ?_
  refine ⟨?_, fun W hW => ?_, ?_⟩
  rotate_left
  · skip
    go_simp
    with_reducible rfl
  refine hK _ ?_
  clear hK K
  (try simp only [Act.put, List.setIfInBounds_toArray, List.set_cons_zero, List.set_cons_succ])
  refine wpQuiet_step_h hlq ?_
  clear hlq lq
  intro K lq hlq hK
  refine wanted_go (by rfl) ?_
  refine ⟨?_, fun W hW => ?_, ?_⟩
  rotate_left
  · skip
    go_simp
    with_reducible rfl
  refine hK _ ?_
  clear hK K
  (try simp only [Act.put, List.setIfInBounds_toArray, List.set_cons_zero, List.set_cons_succ])
  refine wpQuiet_step_h hlq ?_
  clear hlq lq
  intro K lq hlq hK
  refine wanted_go (by rfl) ?_
  refine ⟨?_, fun W hW => ?_, ?_⟩
  rotate_left
  · skip
    go_simp
    with_reducible rfl
  refine hK _ ?_
  clear hK K
  (try simp only [Act.put, List.setIfInBounds_toArray, List.set_cons_zero, List.set_cons_succ])
  refine wpQuiet_nil_h hlq ?_
  clear hlq lq B
  intro V1 hV2
  go_wp2_with (refine wpList_quiet (C := Bz w [(w.heap.size + 2, oPP r), (w.heap.size + 1, oPP q), (w.heap.size, oPP p)]) 37 (by rfl) hV2 ?_)
  refine wpQuiet_hide ?_
  intro lq hlq
  refine wpQuiet_step_h hlq ?_
  clear hlq lq
  intro K lq hlq hK
  refine wanted_go (by rfl) ?_
  refine ⟨vPP q, fun W hW => ?_, ?_⟩
  · skip
    exact quiet_load 57 _ rfl rfl (ldPP (hW.all.get 1 (x := (w.heap.size + 1, oPP q)) rfl) Hq.out)
  refine hK _ ?_
  clear hK K
  (try simp only [Act.put, List.setIfInBounds_toArray, List.set_cons_zero, List.set_cons_succ])
  refine wpQuiet_step_h hlq ?_
  clear hlq lq
  intro K lq hlq hK
  refine wanted_go (by rfl) ?_
  refine ⟨vPP p, fun W hW => ?_, ?_⟩
  · skip
    exact quiet_load 57 _ rfl rfl (ldPP (hW.all.get 2 (x := (w.heap.size, oPP p)) rfl) Hp.out)
  refine hK _ ?_
  clear hK K
  (try simp only [Act.put, List.setIfInBounds_toArray, List.set_cons_zero, List.set_cons_succ])
  refine wpQuiet_step_h hlq ?_
  clear hlq lq
  intro K lq hlq hK
  refine wanted_go (by rfl) ?_
  refine ⟨.int .i64 1, fun W hW => ?_, ?_⟩
  · go_simp
    exact (cmpPP_call Hq.out Hp.out hy.out).mono fun e W2 hc2 => ⟨hc2.1, hW.go hc2.2⟩
  refine hK _ ?_
  clear hK K
  (try simp only [Act.put, List.setIfInBounds_toArray, List.set_cons_zero, List.set_cons_succ])
  refine wpQuiet_step_h hlq ?_
  clear hlq lq
  intro K lq hlq hK
  refine wanted_go (by rfl) ?_
  refine ⟨?_, fun W hW => ?_, ?_⟩
  rotate_left
  · skip
    go_simp
    with_reducible rfl
  refine hK _ ?_
  clear hK K
  (try simp only [Act.put, List.setIfInBounds_toArray, List.set_cons_zero, List.set_cons_succ])
  refine wpQuiet_step_h hlq ?_
  clear hlq lq
  intro K lq hlq hK
  refine wanted_go (by rfl) ?_
  refine ⟨?_, fun W hW => ?_, ?_⟩
  rotate_left
  · skip
    go_simp
    with_reducible rfl
  refine hK _ ?_
  clear hK K
  (try simp only [Act.put, List.setIfInBounds_toArray, List.set_cons_zero, List.set_cons_succ])
  refine wpQuiet_step_h hlq ?_
  clear hlq lq
  intro K lq hlq hK
  refine wanted_go (by rfl) ?_
  refine ⟨?_, fun W hW => ?_, ?_⟩
  rotate_left
  · skip
    go_simp
    with_reducible rfl
  refine hK _ ?_
  clear hK K
  (try simp only [Act.put, List.setIfInBounds_toArray, List.set_cons_zero, List.set_cons_succ])
  refine wpQuiet_step_h hlq ?_
  clear hlq lq
  intro K lq hlq hK
  refine wanted_go (by rfl) ?_
  refine ⟨?_, fun W hW => ?_, ?_⟩
  rotate_left
  · skip
    go_simp
    with_reducible rfl
  refine hK _ ?_
  clear hK K
  (try simp only [Act.put, List.setIfInBounds_toArray, List.set_cons_zero, List.set_cons_succ])
  refine wpQuiet_step_h hlq ?_
  clear hlq lq
  intro K lq hlq hK
  refine wanted_go (by rfl) ?_
  refine ⟨?_, fun W hW => ?_, ?_⟩
  rotate_left
  · skip
    go_simp
    with_reducible rfl
  refine hK _ ?_
  clear hK K
  (try simp only [Act.put, List.setIfInBounds_toArray, List.set_cons_zero, List.set_cons_succ])
  refine wpQuiet_step_h hlq ?_
  clear hlq lq
  intro K lq hlq hK
  refine wanted_go (by rfl) ?_
  refine ⟨vPP p, fun W hW => ?_, ?_⟩
  · skip
    exact quiet_load 57 _ rfl rfl (ldPP (hW.all.get 2 (x := (w.heap.size, oPP p)) rfl) Hp.out)
  refine hK _ ?_
  clear hK K
  (try simp only [Act.put, List.setIfInBounds_toArray, List.set_cons_zero, List.set_cons_succ])
  refine wpQuiet_step_h hlq ?_
  clear hlq lq
  intro K lq hlq hK
  refine wanted_go (by rfl) ?_
  refine ⟨vPP q, fun W hW => ?_, ?_⟩
  · skip
    exact quiet_load 57 _ rfl rfl (ldPP (hW.all.get 1 (x := (w.heap.size + 1, oPP q)) rfl) Hq.out)
  refine hK _ ?_
  clear hK K
  (try simp only [Act.put, List.setIfInBounds_toArray, List.set_cons_zero, List.set_cons_succ])
  refine wpQuiet_step_h hlq ?_
  clear hlq lq
  intro K lq hlq hK
  refine wanted_go (by rfl) ?_
  refine ⟨.bool false, fun W hW => ?_, ?_⟩
  · skip
    exact quiet_eq (.inl rfl) (by rfl) (by rfl) (by rfl) guard57 (heq W)
  refine hK _ ?_
  clear hK K
  (try simp only [Act.put, List.setIfInBounds_toArray, List.set_cons_zero, List.set_cons_succ])
  refine wpQuiet_step_h hlq ?_
  clear hlq lq
  intro K lq hlq hK
  refine wanted_go (by rfl) ?_
  refine ⟨?_, fun W hW => ?_, ?_⟩
  rotate_left
  · skip
    go_simp
    with_reducible rfl
  refine hK _ ?_
  clear hK K
  (try simp only [Act.put, List.setIfInBounds_toArray, List.set_cons_zero, List.set_cons_succ])
  refine wpQuiet_step_h hlq ?_
  clear hlq lq
  intro K lq hlq hK
  refine wanted_go (by rfl) ?_
  refine ⟨?_, fun W hW => ?_, ?_⟩
  rotate_left
  · skip
    go_simp
    with_reducible rfl
  refine hK _ ?_
  clear hK K
  (try simp only [Act.put, List.setIfInBounds_toArray, List.set_cons_zero, List.set_cons_succ])
  refine wpQuiet_step_h hlq ?_
  clear hlq lq
  intro K lq hlq hK
  refine wanted_go (by rfl) ?_
  refine ⟨?_, fun W hW => ?_, ?_⟩
  rotate_left
  · skip
    go_simp
    with_reducible rfl
  refine hK _ ?_
  clear hK K
  (try simp only [Act.put, List.setIfInBounds_toArray, List.set_cons_zero, List.set_cons_succ])
  refine wpQuiet_step_h hlq ?_
  clear hlq lq
  intro K lq hlq hK
  refine wanted_go (by rfl) ?_
  refine ⟨?_, fun W hW => ?_, ?_⟩
  rotate_left
  · skip
    go_simp
    with_reducible rfl
  refine hK _ ?_
  clear hK K
  (try simp only [Act.put, List.setIfInBounds_toArray, List.set_cons_zero, List.set_cons_succ])
  refine wpQuiet_step_h hlq ?_
  clear hlq lq
  intro K lq hlq hK
  refine wanted_go (by rfl) ?_
  refine ⟨?_, fun W hW => ?_, ?_⟩
  rotate_left
  · skip
    go_simp
    with_reducible rfl
  refine hK _ ?_
  clear hK K
  (try simp only [Act.put, List.setIfInBounds_toArray, List.set_cons_zero, List.set_cons_succ])
  refine wpQuiet_step_h hlq ?_
  clear hlq lq
  intro K lq hlq hK
  refine wanted_go (by rfl) ?_
  refine ⟨?_, fun W hW => ?_, ?_⟩
  rotate_left
  · skip
    go_simp
    with_reducible rfl
  refine hK _ ?_
  clear hK K
  (try simp only [Act.put, List.setIfInBounds_toArray, List.set_cons_zero, List.set_cons_succ])
  refine wpQuiet_step_h hlq ?_
  clear hlq lq
  intro K lq hlq hK
  refine wanted_go (by rfl) ?_
  refine ⟨?_, fun W hW => ?_, ?_⟩
  rotate_left
  · skip
    go_simp
    with_reducible rfl
  refine hK _ ?_
  clear hK K
  (try simp only [Act.put, List.setIfInBounds_toArray, List.set_cons_zero, List.set_cons_succ])
  refine wpQuiet_step_h hlq ?_
  clear hlq lq
  intro K lq hlq hK
  refine wanted_go (by rfl) ?_
  refine ⟨?_, fun W hW => ?_, ?_⟩
  rotate_left
  · skip
    go_simp
    with_reducible rfl
  refine hK _ ?_
  clear hK K
  (try simp only [Act.put, List.setIfInBounds_toArray, List.set_cons_zero, List.set_cons_succ])
  refine wpQuiet_step_h hlq ?_
  clear hlq lq
  intro K lq hlq hK
  refine wanted_go (by rfl) ?_
  refine ⟨?_, fun W hW => ?_, ?_⟩
  rotate_left
  · skip
    go_simp
    with_reducible rfl
  refine hK _ ?_
  clear hK K
  (try simp only [Act.put, List.setIfInBounds_toArray, List.set_cons_zero, List.set_cons_succ])
  refine wpQuiet_step_h hlq ?_
  clear hlq lq
  intro K lq hlq hK
  refine wanted_go (by rfl) ?_
  refine ⟨?_, fun W hW => ?_, ?_⟩
  rotate_left
  · skip
    go_simp
    with_reducible rfl
  refine hK _ ?_
  clear hK K
  (try simp only [Act.put, List.setIfInBounds_toArray, List.set_cons_zero, List.set_cons_succ])
  refine wpQuiet_step_h hlq ?_
  clear hlq lq
  intro K lq hlq hK
  refine wanted_go (by rfl) ?_
  refine ⟨?_, fun W hW => ?_, ?_⟩
  rotate_left
  · skip
    go_simp
    with_reducible rfl
  refine hK _ ?_
  clear hK K
  (try simp only [Act.put, List.setIfInBounds_toArray, List.set_cons_zero, List.set_cons_succ])
  refine wpQuiet_step_h hlq ?_
  clear hlq lq
  intro K lq hlq hK
  refine wanted_go (by rfl) ?_
  refine ⟨?_, fun W hW => ?_, ?_⟩
  rotate_left
  · skip
    go_simp
    with_reducible rfl
  refine hK _ ?_
  clear hK K
  (try simp only [Act.put, List.setIfInBounds_toArray, List.set_cons_zero, List.set_cons_succ])
  refine wpQuiet_step_h hlq ?_
  clear hlq lq
  intro K lq hlq hK
  refine wanted_go (by rfl) ?_
  refine ⟨?_, fun W hW => ?_, ?_⟩
  rotate_left
  · skip
    go_simp
    with_reducible rfl
  refine hK _ ?_
  clear hK K
  (try simp only [Act.put, List.setIfInBounds_toArray, List.set_cons_zero, List.set_cons_succ])
  refine wpQuiet_step_h hlq ?_
  clear hlq lq
  intro K lq hlq hK
  refine wanted_go (by rfl) ?_
  refine ⟨?_, fun W hW => ?_, ?_⟩
  rotate_left
  · skip
    go_simp
    with_reducible rfl
  refine hK _ ?_
  clear hK K
  (try simp only [Act.put, List.setIfInBounds_toArray, List.set_cons_zero, List.set_cons_succ])
  refine wpQuiet_step_h hlq ?_
  clear hlq lq
  intro K lq hlq hK
  refine wanted_go (by rfl) ?_
  refine ⟨?_, fun W hW => ?_, ?_⟩
  rotate_left
  · skip
    go_simp
    with_reducible rfl
  refine hK _ ?_
  clear hK K
  (try simp only [Act.put, List.setIfInBounds_toArray, List.set_cons_zero, List.set_cons_succ])
  refine wpQuiet_step_h hlq ?_
  clear hlq lq
  intro K lq hlq hK
  refine wanted_go (by rfl) ?_
  refine ⟨?_, fun W hW => ?_, ?_⟩
  rotate_left
  · skip
    go_simp
    with_reducible rfl
  refine hK _ ?_
  clear hK K
  (try simp only [Act.put, List.setIfInBounds_toArray, List.set_cons_zero, List.set_cons_succ])
  refine wpQuiet_step_h hlq ?_
  clear hlq lq
  intro K lq hlq hK
  refine wanted_go (by rfl) ?_
  refine ⟨?_, fun W hW => ?_, ?_⟩
  rotate_left
  · skip
    go_simp
    with_reducible rfl
  refine hK _ ?_
  clear hK K
  (try simp only [Act.put, List.setIfInBounds_toArray, List.set_cons_zero, List.set_cons_succ])
  refine wpQuiet_step_h hlq ?_
  clear hlq lq
  intro K lq hlq hK
  refine wanted_go (by rfl) ?_
  refine ⟨?_, fun W hW => ?_, ?_⟩
  rotate_left
  · skip
    go_simp
    with_reducible rfl
  refine hK _ ?_
  clear hK K
  (try simp only [Act.put, List.setIfInBounds_toArray, List.set_cons_zero, List.set_cons_succ])
  refine wpQuiet_step_h hlq ?_
  clear hlq lq
  intro K lq hlq hK
  refine wanted_go (by rfl) ?_
  refine ⟨?_, fun W hW => ?_, ?_⟩
  rotate_left
  · skip
    go_simp
    with_reducible rfl
  refine hK _ ?_
  clear hK K
  (try simp only [Act.put, List.setIfInBounds_toArray, List.set_cons_zero, List.set_cons_succ])
  refine wpQuiet_step_h hlq ?_
  clear hlq lq
  intro K lq hlq hK
  refine wanted_go (by rfl) ?_
  refine ⟨?_, fun W hW => ?_, ?_⟩
  rotate_left
  · skip
    go_simp
    with_reducible rfl
  refine hK _ ?_
  clear hK K
  (try simp only [Act.put, List.setIfInBounds_toArray, List.set_cons_zero, List.set_cons_succ])
  refine wpQuiet_step_h hlq ?_
  clear hlq lq
  intro K lq hlq hK
  refine wanted_go (by rfl) ?_
  refine ⟨?_, fun W hW => ?_, ?_⟩
  rotate_left
  · skip
    go_simp
    with_reducible rfl
  refine hK _ ?_
  clear hK K
  (try simp only [Act.put, List.setIfInBounds_toArray, List.set_cons_zero, List.set_cons_succ])
  refine wpQuiet_step_h hlq ?_
  clear hlq lq
  intro K lq hlq hK
  refine wanted_go (by rfl) ?_
  refine ⟨?_, fun W hW => ?_, ?_⟩
  rotate_left
  · skip
    go_simp
    with_reducible rfl
  refine hK _ ?_
  clear hK K
  (try simp only [Act.put, List.setIfInBounds_toArray, List.set_cons_zero, List.set_cons_succ])
  refine wpQuiet_step_h hlq ?_
  clear hlq lq
  intro K lq hlq hK
  go_simp
  refine hK _ ?_
  clear hK K
  refine wpQuiet_step_h hlq ?_
  clear hlq lq
  intro K lq hlq hK
  go_simp
  refine hK _ ?_
  clear hK K
  refine wpQuiet_step_h hlq ?_
  clear hlq lq
  intro K lq hlq hK
  refine wanted_go (by rfl) ?_
  refine ⟨?_, fun W hW => ?_, ?_⟩
  rotate_left
  · skip
    go_simp
    with_reducible rfl
  refine hK _ ?_
  clear hK K
  (try simp only [Act.put, List.setIfInBounds_toArray, List.set_cons_zero, List.set_cons_succ])
  refine wpQuiet_step_h hlq ?_
  clear hlq lq
  intro K lq hlq hK
  refine wanted_go (by rfl) ?_
  refine ⟨?_, fun W hW => ?_, ?_⟩
  rotate_left
  · skip
    go_simp
    with_reducible rfl
  refine hK _ ?_
  clear hK K
  (try simp only [Act.put, List.setIfInBounds_toArray, List.set_cons_zero, List.set_cons_succ])
  refine wpQuiet_nil_h hlq ?_
  clear hlq lq hV2
  intro V3 hV4
  go_wp2_with fail
  refine wp_region_C (C := Bz w [(w.heap.size + 2, oPP r), (w.heap.size + 1, oPP q), (w.heap.size, oPP p)]) (by kernel_rfl) (by kernel_rfl) (hV4.drew) ?_
  refine wpQuiet_hide ?_
  intro lq hlq
  refine wpQuiet_step_h hlq ?_
  clear hlq lq
  intro K lq hlq hK
  refine wanted_go (by rfl) ?_
  refine ⟨?_, fun W hW => ?_, ?_⟩
  rotate_left
  · skip
    go_simp
    with_reducible rfl
  refine hK _ ?_
  clear hK K
  (try simp only [Act.put, List.setIfInBounds_toArray, List.set_cons_zero, List.set_cons_succ])
  refine wpQuiet_step_h hlq ?_
  clear hlq lq
  intro K lq hlq hK
  refine wanted_go (by rfl) ?_
  refine ⟨vPf p.d, fun W hW => ?_, ?_⟩
  · skip
    exact quiet_load 55 _ rfl rfl (ldPPd (hW.all.get 2 (x := (w.heap.size, oPP p)) rfl) Hp.out)
  refine hK _ ?_
  clear hK K
  (try simp only [Act.put, List.setIfInBounds_toArray, List.set_cons_zero, List.set_cons_succ])
  refine wpQuiet_step_h hlq ?_
  clear hlq lq
  intro K lq hlq hK
  refine wanted_go (by rfl) ?_
  refine ⟨?_, fun W hW => ?_, ?_⟩
  rotate_left
  · skip
    go_simp
    with_reducible rfl
  refine hK _ ?_
  clear hK K
  (try simp only [Act.put, List.setIfInBounds_toArray, List.set_cons_zero, List.set_cons_succ])
  refine wpQuiet_step_h hlq ?_
  clear hlq lq
  intro K lq hlq hK
  refine wanted_go (by rfl) ?_
  refine ⟨vPf q.d, fun W hW => ?_, ?_⟩
  · skip
    exact quiet_load 55 _ rfl rfl (ldPPd (hW.all.get 1 (x := (w.heap.size + 1, oPP q)) rfl) Hq.out)
  refine hK _ ?_
  clear hK K
  (try simp only [Act.put, List.setIfInBounds_toArray, List.set_cons_zero, List.set_cons_succ])
  refine wpQuiet_step_h hlq ?_
  clear hlq lq
  intro K lq hlq hK
  refine wanted_go (by rfl) ?_
  refine ⟨.int .i64 0, fun W hW => ?_, ?_⟩
  · go_simp
    exact (cmpP_call Hp.out.1 Hq.out.1 hd.out).mono fun e W2 hc2 => ⟨hc2.1, hW.go hc2.2⟩
  refine hK _ ?_
  clear hK K
  (try simp only [Act.put, List.setIfInBounds_toArray, List.set_cons_zero, List.set_cons_succ])
  refine wpQuiet_step_h hlq ?_
  clear hlq lq
  intro K lq hlq hK
  refine wanted_go (by rfl) ?_
  refine ⟨?_, fun W hW => ?_, ?_⟩
  rotate_left
  · skip
    go_simp
    with_reducible rfl
  refine hK _ ?_
  clear hK K
  (try simp only [Act.put, List.setIfInBounds_toArray, List.set_cons_zero, List.set_cons_succ])
  refine wpQuiet_step_h hlq ?_
  clear hlq lq
  intro K lq hlq hK
  refine wanted_go (by rfl) ?_
  refine ⟨vPf q.d, fun W hW => ?_, ?_⟩
  · skip
    exact quiet_load 55 _ rfl rfl (ldPPd (hW.all.get 1 (x := (w.heap.size + 1, oPP q)) rfl) Hq.out)
  refine hK _ ?_
  clear hK K
  (try simp only [Act.put, List.setIfInBounds_toArray, List.set_cons_zero, List.set_cons_succ])
  refine wpQuiet_step_h hlq ?_
  clear hlq lq
  intro K lq hlq hK
  refine wanted_go (by rfl) ?_
  refine ⟨?_, fun W hW => ?_, ?_⟩
  rotate_left
  · skip
    go_simp
    with_reducible rfl
  refine hK _ ?_
  clear hK K
  (try simp only [Act.put, List.setIfInBounds_toArray, List.set_cons_zero, List.set_cons_succ])
  refine wpQuiet_step_h hlq ?_
  clear hlq lq
  intro K lq hlq hK
  refine wanted_go (by rfl) ?_
  refine ⟨vPf p.d, fun W hW => ?_, ?_⟩
  · skip
    exact quiet_load 55 _ rfl rfl (ldPPd (hW.all.get 2 (x := (w.heap.size, oPP p)) rfl) Hp.out)
  refine hK _ ?_
  clear hK K
  (try simp only [Act.put, List.setIfInBounds_toArray, List.set_cons_zero, List.set_cons_succ])
  refine wpQuiet_step_h hlq ?_
  clear hlq lq
  intro K lq hlq hK
  refine wanted_go (by rfl) ?_
  refine ⟨.int .i64 0, fun W hW => ?_, ?_⟩
  · go_simp
    exact (cmpP_call Hq.out.1 Hp.out.1 hd2.out).mono fun e W2 hc2 => ⟨hc2.1, hW.go hc2.2⟩
  refine hK _ ?_
  clear hK K
  (try simp only [Act.put, List.setIfInBounds_toArray, List.set_cons_zero, List.set_cons_succ])
  refine wpQuiet_step_h hlq ?_
  clear hlq lq
  intro K lq hlq hK
  refine wanted_go (by rfl) ?_
  refine ⟨?_, fun W hW => ?_, ?_⟩
  rotate_left
  · skip
    go_simp
    with_reducible rfl
  refine hK _ ?_
  clear hK K
  (try simp only [Act.put, List.setIfInBounds_toArray, List.set_cons_zero, List.set_cons_succ])
  refine wpQuiet_step_h hlq ?_
  clear hlq lq
  intro K lq hlq hK
  refine wanted_go (by rfl) ?_
  refine ⟨?_, fun W hW => ?_, ?_⟩
  rotate_left
  · skip
    go_simp
    with_reducible rfl
  refine hK _ ?_
  clear hK K
  (try simp only [Act.put, List.setIfInBounds_toArray, List.set_cons_zero, List.set_cons_succ])
  refine wpQuiet_nil_h hlq ?_
  clear hlq lq hV4
  intro V5 hV6
  go_wp2_with (refine wpList_quiet (C := Bz w [(w.heap.size + 2, oPP r), (w.heap.size + 1, oPP q), (w.heap.size, oPP p)]) 35 (by rfl) hV6 ?_)
  refine wpQuiet_hide ?_
  intro lq hlq
  refine wpQuiet_step_h hlq ?_
  clear hlq lq
  intro K lq hlq hK
  refine wanted_go (by rfl) ?_
  refine ⟨?_, fun W hW => ?_, ?_⟩
  rotate_left
  · skip
    go_simp
    with_reducible rfl
  refine hK _ ?_
  clear hK K
  (try simp only [Act.put, List.setIfInBounds_toArray, List.set_cons_zero, List.set_cons_succ])
  refine wpQuiet_step_h hlq ?_
  clear hlq lq
  intro K lq hlq hK
  refine wanted_go (by rfl) ?_
  refine ⟨?_, fun W hW => ?_, ?_⟩
  rotate_left
  · skip
    go_simp
    with_reducible rfl
  refine hK _ ?_
  clear hK K
  (try simp only [Act.put, List.setIfInBounds_toArray, List.set_cons_zero, List.set_cons_succ])
  refine wpQuiet_step_h hlq ?_
  clear hlq lq
  intro K lq hlq hK
  refine wanted_go (by rfl) ?_
  refine ⟨?_, fun W hW => ?_, ?_⟩
  rotate_left
  · skip
    go_simp
    with_reducible rfl
  refine hK _ ?_
  clear hK K
  (try simp only [Act.put, List.setIfInBounds_toArray, List.set_cons_zero, List.set_cons_succ])
  refine wpQuiet_step_h hlq ?_
  clear hlq lq
  intro K lq hlq hK
  refine wanted_go (by rfl) ?_
  refine ⟨?_, fun W hW => ?_, ?_⟩
  rotate_left
  · skip
    go_simp
    with_reducible rfl
  refine hK _ ?_
  clear hK K
  (try simp only [Act.put, List.setIfInBounds_toArray, List.set_cons_zero, List.set_cons_succ])
  refine wpQuiet_step_h hlq ?_
  clear hlq lq
  intro K lq hlq hK
  refine wanted_go (by rfl) ?_
  refine ⟨?_, fun W hW => ?_, ?_⟩
  rotate_left
  · skip
    go_simp
    with_reducible rfl
  refine hK _ ?_
  clear hK K
  (try simp only [Act.put, List.setIfInBounds_toArray, List.set_cons_zero, List.set_cons_succ])
  refine wpQuiet_step_h hlq ?_
  clear hlq lq
  intro K lq hlq hK
  refine wanted_go (by rfl) ?_
  refine ⟨?_, fun W hW => ?_, ?_⟩
  rotate_left
  · skip
    go_simp
    with_reducible rfl
  refine hK _ ?_
  clear hK K
  (try simp only [Act.put, List.setIfInBounds_toArray, List.set_cons_zero, List.set_cons_succ])
  refine wpQuiet_step_h hlq ?_
  clear hlq lq
  intro K lq hlq hK
  refine wanted_go (by rfl) ?_
  refine ⟨vPf p.d, fun W hW => ?_, ?_⟩
  · skip
    exact quiet_load 55 _ rfl rfl (ldPPd (hW.all.get 2 (x := (w.heap.size, oPP p)) rfl) Hp.out)
  refine hK _ ?_
  clear hK K
  (try simp only [Act.put, List.setIfInBounds_toArray, List.set_cons_zero, List.set_cons_succ])
  refine wpQuiet_step_h hlq ?_
  clear hlq lq
  intro K lq hlq hK
  refine wanted_go (by rfl) ?_
  refine ⟨?_, fun W hW => ?_, ?_⟩
  rotate_left
  · skip
    go_simp
    with_reducible rfl
  refine hK _ ?_
  clear hK K
  (try simp only [Act.put, List.setIfInBounds_toArray, List.set_cons_zero, List.set_cons_succ])
  refine wpQuiet_step_h hlq ?_
  clear hlq lq
  intro K lq hlq hK
  refine wanted_go (by rfl) ?_
  refine ⟨vPf q.d, fun W hW => ?_, ?_⟩
  · skip
    exact quiet_load 55 _ rfl rfl (ldPPd (hW.all.get 1 (x := (w.heap.size + 1, oPP q)) rfl) Hq.out)
  refine hK _ ?_
  clear hK K
  (try simp only [Act.put, List.setIfInBounds_toArray, List.set_cons_zero, List.set_cons_succ])
  refine wpQuiet_step_h hlq ?_
  clear hlq lq
  intro K lq hlq hK
  refine wanted_go (by rfl) ?_
  refine ⟨.bool true, fun W hW => ?_, ?_⟩
  · skip
    exact quiet_eq (.inl rfl) (by rfl) (by rfl) (by rfl) guard55 (hef W)
  refine hK _ ?_
  clear hK K
  (try simp only [Act.put, List.setIfInBounds_toArray, List.set_cons_zero, List.set_cons_succ])
  refine wpQuiet_step_h hlq ?_
  clear hlq lq
  intro K lq hlq hK
  refine wanted_go (by rfl) ?_
  refine ⟨?_, fun W hW => ?_, ?_⟩
  rotate_left
  · skip
    go_simp
    with_reducible rfl
  refine hK _ ?_
  clear hK K
  (try simp only [Act.put, List.setIfInBounds_toArray, List.set_cons_zero, List.set_cons_succ])
  refine wpQuiet_step_h hlq ?_
  clear hlq lq
  intro K lq hlq hK
  refine wanted_go (by rfl) ?_
  refine ⟨?_, fun W hW => ?_, ?_⟩
  rotate_left
  · skip
    go_simp
    with_reducible rfl
  refine hK _ ?_
  clear hK K
  (try simp only [Act.put, List.setIfInBounds_toArray, List.set_cons_zero, List.set_cons_succ])
  refine wpQuiet_step_h hlq ?_
  clear hlq lq
  intro K lq hlq hK
  refine wanted_go (by rfl) ?_
  refine ⟨?_, fun W hW => ?_, ?_⟩
  rotate_left
  · skip
    go_simp
    with_reducible rfl
  refine hK _ ?_
  clear hK K
  (try simp only [Act.put, List.setIfInBounds_toArray, List.set_cons_zero, List.set_cons_succ])
  refine wpQuiet_step_h hlq ?_
  clear hlq lq
  intro K lq hlq hK
  refine wanted_go (by rfl) ?_
  refine ⟨?_, fun W hW => ?_, ?_⟩
  rotate_left
  · skip
    go_simp
    with_reducible rfl
  refine hK _ ?_
  clear hK K
  (try simp only [Act.put, List.setIfInBounds_toArray, List.set_cons_zero, List.set_cons_succ])
  refine wpQuiet_step_h hlq ?_
  clear hlq lq
  intro K lq hlq hK
  refine wanted_go (by rfl) ?_
  refine ⟨?_, fun W hW => ?_, ?_⟩
  rotate_left
  · skip
    go_simp
    with_reducible rfl
  refine hK _ ?_
  clear hK K
  (try simp only [Act.put, List.setIfInBounds_toArray, List.set_cons_zero, List.set_cons_succ])
  refine wpQuiet_step_h hlq ?_
  clear hlq lq
  intro K lq hlq hK
  refine wanted_go (by rfl) ?_
  refine ⟨?_, fun W hW => ?_, ?_⟩
  rotate_left
  · skip
    go_simp
    with_reducible rfl
  refine hK _ ?_
  clear hK K
  (try simp only [Act.put, List.setIfInBounds_toArray, List.set_cons_zero, List.set_cons_succ])
  refine wpQuiet_step_h hlq ?_
  clear hlq lq
  intro K lq hlq hK
  go_simp
  refine hK _ ?_
  clear hK K
  refine wpQuiet_step_h hlq ?_
  clear hlq lq
  intro K lq hlq hK
  go_simp
  refine hK _ ?_
  clear hK K
  refine wpQuiet_step_h hlq ?_
  clear hlq lq
  intro K lq hlq hK
  go_simp
  refine hK _ ?_
  clear hK K
  refine wpQuiet_step_h hlq ?_
  clear hlq lq
  intro K lq hlq hK
  refine wanted_go (by rfl) ?_
  refine ⟨?_, fun W hW => ?_, ?_⟩
  rotate_left
  · skip
    go_simp
    with_reducible rfl
  refine hK _ ?_
  clear hK K
  (try simp only [Act.put, List.setIfInBounds_toArray, List.set_cons_zero, List.set_cons_succ])
  refine wpQuiet_step_h hlq ?_
  clear hlq lq
  intro K lq hlq hK
  refine wanted_go (by rfl) ?_
  refine ⟨?_, fun W hW => ?_, ?_⟩
  rotate_left
  · skip
    go_simp
    with_reducible rfl
  refine hK _ ?_
  clear hK K
  (try simp only [Act.put, List.setIfInBounds_toArray, List.set_cons_zero, List.set_cons_succ])
  refine wpQuiet_step_h hlq ?_
  clear hlq lq
  intro K lq hlq hK
  refine wanted_go (by rfl) ?_
  refine ⟨?_, fun W hW => ?_, ?_⟩
  rotate_left
  · skip
    go_simp
    with_reducible rfl
  refine hK _ ?_
  clear hK K
  (try simp only [Act.put, List.setIfInBounds_toArray, List.set_cons_zero, List.set_cons_succ])
  refine wpQuiet_step_h hlq ?_
  clear hlq lq
  intro K lq hlq hK
  refine wanted_go (by rfl) ?_
  refine ⟨?_, fun W hW => ?_, ?_⟩
  rotate_left
  · skip
    go_simp
    with_reducible rfl
  refine hK _ ?_
  clear hK K
  (try simp only [Act.put, List.setIfInBounds_toArray, List.set_cons_zero, List.set_cons_succ])
  refine wpQuiet_step_h hlq ?_
  clear hlq lq
  intro K lq hlq hK
  refine wanted_go (by rfl) ?_
  refine ⟨?_, fun W hW => ?_, ?_⟩
  rotate_left
  · skip
    go_simp
    with_reducible rfl
  refine hK _ ?_
  clear hK K
  (try simp only [Act.put, List.setIfInBounds_toArray, List.set_cons_zero, List.set_cons_succ])
  refine wpQuiet_step_h hlq ?_
  clear hlq lq
  intro K lq hlq hK
  refine wanted_go (by rfl) ?_
  refine ⟨vA p.d.a, fun W hW => ?_, ?_⟩
  · skip
    exact quiet_load 42 _ rfl rfl (ldPPda (hW.all.get 2 (x := (w.heap.size, oPP p)) rfl) Hp.out)
  refine hK _ ?_
  clear hK K
  (try simp only [Act.put, List.setIfInBounds_toArray, List.set_cons_zero, List.set_cons_succ])
  refine wpQuiet_step_h hlq ?_
  clear hlq lq
  intro K lq hlq hK
  refine wanted_go (by rfl) ?_
  refine ⟨?_, fun W hW => ?_, ?_⟩
  rotate_left
  · skip
    go_simp
    with_reducible rfl
  refine hK _ ?_
  clear hK K
  (try simp only [Act.put, List.setIfInBounds_toArray, List.set_cons_zero, List.set_cons_succ])
  refine wpQuiet_step_h hlq ?_
  clear hlq lq
  intro K lq hlq hK
  refine wanted_go (by rfl) ?_
  refine ⟨?_, fun W hW => ?_, ?_⟩
  rotate_left
  · skip
    go_simp
    with_reducible rfl
  refine hK _ ?_
  clear hK K
  (try simp only [Act.put, List.setIfInBounds_toArray, List.set_cons_zero, List.set_cons_succ])
  refine wpQuiet_step_h hlq ?_
  clear hlq lq
  intro K lq hlq hK
  refine wanted_go (by rfl) ?_
  refine ⟨vA p.d.a, fun W hW => ?_, ?_⟩
  · skip
    exact quiet_load 42 _ rfl rfl (ldPPda (hW.all.get 2 (x := (w.heap.size, oPP p)) rfl) Hp.out)
  refine hK _ ?_
  clear hK K
  (try simp only [Act.put, List.setIfInBounds_toArray, List.set_cons_zero, List.set_cons_succ])
  refine wpQuiet_step_h hlq ?_
  clear hlq lq
  intro K lq hlq hK
  refine wanted_go (by rfl) ?_
  refine ⟨.int .i64 0, fun W hW => ?_, ?_⟩
  · go_simp
    have E' := hW.env E
    exact (cmpA_call Hp.out.1.1 Hp.out.1.1 ha.out).mono fun e W2 hc2 => ⟨hc2.1, hW.go hc2.2⟩
  refine hK _ ?_
  clear hK K
  (try simp only [Act.put, List.setIfInBounds_toArray, List.set_cons_zero, List.set_cons_succ])
  refine wpQuiet_step_h hlq ?_
  clear hlq lq
  intro K lq hlq hK
  refine wanted_go (by rfl) ?_
  refine ⟨?_, fun W hW => ?_, ?_⟩
  rotate_left
  · skip
    go_simp
    with_reducible rfl
  refine hK _ ?_
  clear hK K
  (try simp only [Act.put, List.setIfInBounds_toArray, List.set_cons_zero, List.set_cons_succ])
  refine wpQuiet_step_h hlq ?_
  clear hlq lq
  intro K lq hlq hK
  refine wanted_go (by rfl) ?_
  refine ⟨?_, fun W hW => ?_, ?_⟩
  rotate_left
  · skip
    go_simp
    with_reducible rfl
  refine hK _ ?_
  clear hK K
  (try simp only [Act.put, List.setIfInBounds_toArray, List.set_cons_zero, List.set_cons_succ])
  refine wpQuiet_step_h hlq ?_
  clear hlq lq
  intro K lq hlq hK
  refine wanted_go (by rfl) ?_
  refine ⟨?_, fun W hW => ?_, ?_⟩
  rotate_left
  · skip
    go_simp
    with_reducible rfl
  refine hK _ ?_
  clear hK K
  (try simp only [Act.put, List.setIfInBounds_toArray, List.set_cons_zero, List.set_cons_succ])
  refine wpQuiet_step_h hlq ?_
  clear hlq lq
  intro K lq hlq hK
  refine wanted_go (by rfl) ?_
  refine ⟨.bool true, fun W hW => ?_, ?_⟩
  · go_simp
    have E' := hW.env E
    exact (live02_any E').mono fun e W2 hc2 => ⟨hc2.1, hW.go hc2.2⟩
  refine hK _ ?_
  clear hK K
  (try simp only [Act.put, List.setIfInBounds_toArray, List.set_cons_zero, List.set_cons_succ])
  refine wpQuiet_step_h hlq ?_
  clear hlq lq
  intro K lq hlq hK
  refine wanted_go (by rfl) ?_
  refine ⟨?_, fun W hW => ?_, ?_⟩
  rotate_left
  · skip
    go_simp
    with_reducible rfl
  refine hK _ ?_
  clear hK K
  (try simp only [Act.put, List.setIfInBounds_toArray, List.set_cons_zero, List.set_cons_succ])
  refine wpQuiet_step_h hlq ?_
  clear hlq lq
  intro K lq hlq hK
  refine wanted_go (by rfl) ?_
  refine ⟨?_, fun W hW => ?_, ?_⟩
  rotate_left
  · skip
    go_simp
    with_reducible rfl
  refine hK _ ?_
  clear hK K
  (try simp only [Act.put, List.setIfInBounds_toArray, List.set_cons_zero, List.set_cons_succ])
  refine wpQuiet_nil_h hlq ?_
  clear hlq lq hV6
  intro V7 hV8
  go_wp2_with fail
  go_ret
  exact ⟨rfl, hV8.bel⟩
set_option maxRecDepth 100000 in
set_option maxHeartbeats 3200000 in
theorem order_m0n {p q r : Pr} (hp : p.fit) (hq : q.fit) (hr : r.fit) {w : World} (E : Env w) (hx : cmpPP p q = (-1)) (hy : cmpPP q p = 1) {b c : Int} (hb : cmpPP q r = b) (hc : cmpPP p r = c) (hd : cmpP p.d q.d = 0) (hd2 : cmpP q.d p.d = 0) (he : decide (p = q) = false) (hf : decide (p.d = q.d) = true) (ha : cmpA p.d.a p.d.a = 0) (f1 : decide (b ≤ 0) = true) (f2 : decide (0 < c) = false) (f3 : decide (b < 0) = true) (f4 : decide (0 ≤ c) = false) : Calls Tryz.prog 9 #[vPP p, vPP q, vPP r] w fun e w' => e = .returned (.bool true) ∧ Below w.heap.size w w' := by
  have heq := fun W => eql_PP W hp hq
  have hef := fun W => eql_P W hp.1 hq.1
  rw [he] at heq
  rw [hf] at hef
  clear he hf
  have Hp := Lib.hid hp
  have Hq := Lib.hid hq
  have Hr := Lib.hid hr
  have B := ((((Bz.start w).alloc (oPP p) rfl).alloc (oPP q) (World.size_alloc _ _)).alloc (oPP r) (show _ = w.heap.size + 2 by simp) : Bz w [(w.heap.size + 2, oPP r), (w.heap.size + 1, oPP q), (w.heap.size, oPP p)] _)
  clear hp hq hr
  replace hx := Lib.hid hx
  replace hy := Lib.hid hy
  replace hb := Lib.hid hb
  replace hc := Lib.hid hc
  replace hd := Lib.hid hd
  replace hd2 := Lib.hid hd2
  replace ha := Lib.hid ha
  unfold vPP
  go_enter Tryz.func9, Tryz.ntmps9
  go_wp2_with fail
  refine wp_region_C (C := Bz w [(w.heap.size + 2, oPP r), (w.heap.size + 1, oPP q), (w.heap.size, oPP p)]) (by kernel_rfl) (by kernel_rfl) (B.drew) ?_
  refine wpQuiet_hide ?_
  intro lq hlq
  refine wpQuiet_step_h hlq ?_
  clear hlq lq
  intro K lq hlq hK
  refine wanted_go (by rfl) ?_
  refine ⟨vPP p, fun W hW => ?_, ?_⟩
  · skip
    exact quiet_load 57 _ rfl rfl (ldPP (hW.all.get 2 (x := (w.heap.size, oPP p)) rfl) Hp.out)
  refine hK _ ?_
  clear hK K
  (try simp only [Act.put, List.setIfInBounds_toArray, List.set_cons_zero, List.set_cons_succ])
  refine wpQuiet_step_h hlq ?_
  clear hlq lq
  intro K lq hlq hK
  refine wanted_go (by rfl) ?_
  refine ⟨vPP q, fun W hW => ?_, ?_⟩
  · skip
    exact quiet_load 57 _ rfl rfl (ldPP (hW.all.get 1 (x := (w.heap.size + 1, oPP q)) rfl) Hq.out)
  refine hK _ ?_
  clear hK K
  (try simp only [Act.put, List.setIfInBounds_toArray, List.set_cons_zero, List.set_cons_succ])
  refine wpQuiet_step_h hlq ?_
  clear hlq lq
  intro K lq hlq hK
  refine wanted_go (by rfl) ?_
  refine ⟨.int .i64 (-1), fun W hW => ?_, ?_⟩
  · go_simp
    exact (cmpPP_call Hp.out Hq.out hx.out).mono fun e W2 hc2 => ⟨hc2.1, hW.go hc2.2⟩
  refine hK _ ?_
  clear hK K
  (try simp only [Act.put, List.setIfInBounds_toArray, List.set_cons_zero, List.set_cons_succ])
  refine wpQuiet_step_h hlq ?_
  clear hlq lq
  intro K lq hlq hK
  refine wanted_go (by rfl) ?_
  refine ⟨vPP q, fun W hW => ?_, ?_⟩
  · skip
    exact quiet_load 57 _ rfl rfl (ldPP (hW.all.get 1 (x := (w.heap.size + 1, oPP q)) rfl) Hq.out)
  refine hK _ ?_
  clear hK K
  (try simp only [Act.put, List.setIfInBounds_toArray, List.set_cons_zero, List.set_cons_succ])
  refine wpQuiet_step_h hlq ?_
  clear hlq lq
  intro K lq hlq hK
  refine wanted_go (by rfl) ?_
  refine ⟨vPP r, fun W hW => ?_, ?_⟩
  · skip
    exact quiet_load 57 _ rfl rfl (ldPP (hW.all.get 0 (x := (w.heap.size + 2, oPP r)) rfl) Hr.out)
  refine hK _ ?_
  clear hK K
  (try simp only [Act.put, List.setIfInBounds_toArray, List.set_cons_zero, List.set_cons_succ])
  refine wpQuiet_step_h hlq ?_
  clear hlq lq
  intro K lq hlq hK
  refine wanted_go (by rfl) ?_
  refine ⟨.int .i64 b, fun W hW => ?_, ?_⟩
  · go_simp
    exact (cmpPP_call Hq.out Hr.out hb.out).mono fun e W2 hc2 => ⟨hc2.1, hW.go hc2.2⟩
  refine hK _ ?_
  clear hK K
  (try simp only [Act.put, List.setIfInBounds_toArray, List.set_cons_zero, List.set_cons_succ])
  refine wpQuiet_step_h hlq ?_
  clear hlq lq
  intro K lq hlq hK
  refine wanted_go (by rfl) ?_
  refine ⟨vPP p, fun W hW => ?_, ?_⟩
  · skip
    exact quiet_load 57 _ rfl rfl (ldPP (hW.all.get 2 (x := (w.heap.size, oPP p)) rfl) Hp.out)
  refine hK _ ?_
  clear hK K
  (try simp only [Act.put, List.setIfInBounds_toArray, List.set_cons_zero, List.set_cons_succ])
  refine wpQuiet_step_h hlq ?_
  clear hlq lq
  intro K lq hlq hK
  refine wanted_go (by rfl) ?_
  refine ⟨vPP r, fun W hW => ?_, ?_⟩
  · skip
    exact quiet_load 57 _ rfl rfl (ldPP (hW.all.get 0 (x := (w.heap.size + 2, oPP r)) rfl) Hr.out)
  refine hK _ ?_
  clear hK K
  (try simp only [Act.put, List.setIfInBounds_toArray, List.set_cons_zero, List.set_cons_succ])
  refine wpQuiet_step_h hlq ?_
  clear hlq lq
  intro K lq hlq hK
  refine wanted_go (by rfl) ?_
  refine ⟨.int .i64 c, fun W hW => ?_, ?_⟩
  · go_simp
    exact (cmpPP_call Hp.out Hr.out hc.out).mono fun e W2 hc2 => ⟨hc2.1, hW.go hc2.2⟩
  refine hK _ ?_
  clear hK K
  (try simp only [Act.put, List.setIfInBounds_toArray, List.set_cons_zero, List.set_cons_succ])
  refine wpQuiet_step_h hlq ?_
  clear hlq lq
  intro K lq hlq hK
  refine wanted_go (by rfl) ?_
  refine ⟨?_, fun W hW => ?_, ?_⟩
  rotate_left
  · skip
    go_simp
    with_reducible rfl
  refine hK _ ?_
  clear hK K
  (try simp only [Act.put, List.setIfInBounds_toArray, List.set_cons_zero, List.set_cons_succ])
  refine wpQuiet_step_h hlq ?_
  clear hlq lq
  intro K lq hlq hK
  refine wanted_go (by rfl) ?_
  refine ⟨?_, fun W hW => ?_, ?_⟩
  rotate_left
  · skip
    go_simp
    with_reducible rfl
  refine hK _ ?_
  clear hK K
  (try simp only [Act.put, List.setIfInBounds_toArray, List.set_cons_zero, List.set_cons_succ])
  refine wpQuiet_step_h hlq ?_
  clear hlq lq
  intro K lq hlq hK
  refine wanted_go (by rfl) ?_
  refine ⟨?_, fun W hW => ?_, ?_⟩
  rotate_left
  · skip
    go_simp
    with_reducible rfl
  refine hK _ ?_
  clear hK K
  (try simp only [Act.put, List.setIfInBounds_toArray, List.set_cons_zero, List.set_cons_succ])
  refine wpQuiet_nil_h hlq ?_
  clear hlq lq B
  intro V1 hV2
  go_wp2_with (refine wpList_quiet (C := Bz w [(w.heap.size + 2, oPP r), (w.heap.size + 1, oPP q), (w.heap.size, oPP p)]) 37 (by rfl) hV2 ?_)
  refine wpQuiet_hide ?_
  intro lq hlq
  refine wpQuiet_step_h hlq ?_
  clear hlq lq
  intro K lq hlq hK
  refine wanted_go (by rfl) ?_
  refine ⟨vPP q, fun W hW => ?_, ?_⟩
  · skip
    exact quiet_load 57 _ rfl rfl (ldPP (hW.all.get 1 (x := (w.heap.size + 1, oPP q)) rfl) Hq.out)
  refine hK _ ?_
  clear hK K
  (try simp only [Act.put, List.setIfInBounds_toArray, List.set_cons_zero, List.set_cons_succ])
  refine wpQuiet_step_h hlq ?_
  clear hlq lq
  intro K lq hlq hK
  refine wanted_go (by rfl) ?_
  refine ⟨vPP p, fun W hW => ?_, ?_⟩
  · skip
    exact quiet_load 57 _ rfl rfl (ldPP (hW.all.get 2 (x := (w.heap.size, oPP p)) rfl) Hp.out)
  refine hK _ ?_
  clear hK K
  (try simp only [Act.put, List.setIfInBounds_toArray, List.set_cons_zero, List.set_cons_succ])
  refine wpQuiet_step_h hlq ?_
  clear hlq lq
  intro K lq hlq hK
  refine wanted_go (by rfl) ?_
  refine ⟨.int .i64 1, fun W hW => ?_, ?_⟩
  · go_simp
    exact (cmpPP_call Hq.out Hp.out hy.out).mono fun e W2 hc2 => ⟨hc2.1, hW.go hc2.2⟩
  refine hK _ ?_
  clear hK K
  (try simp only [Act.put, List.setIfInBounds_toArray, List.set_cons_zero, List.set_cons_succ])
  refine wpQuiet_step_h hlq ?_
  clear hlq lq
  intro K lq hlq hK
  refine wanted_go (by rfl) ?_
  refine ⟨?_, fun W hW => ?_, ?_⟩
  rotate_left
  · skip
    go_simp
    with_reducible rfl
  refine hK _ ?_
  clear hK K
  (try simp only [Act.put, List.setIfInBounds_toArray, List.set_cons_zero, List.set_cons_succ])
  refine wpQuiet_step_h hlq ?_
  clear hlq lq
  intro K lq hlq hK
  refine wanted_go (by rfl) ?_
  refine ⟨?_, fun W hW => ?_, ?_⟩
  rotate_left
  · skip
    go_simp
    with_reducible rfl
  refine hK _ ?_
  clear hK K
  (try simp only [Act.put, List.setIfInBounds_toArray, List.set_cons_zero, List.set_cons_succ])
  refine wpQuiet_step_h hlq ?_
  clear hlq lq
  intro K lq hlq hK
  refine wanted_go (by rfl) ?_
  refine ⟨?_, fun W hW => ?_, ?_⟩
  rotate_left
  · skip
    go_simp
    with_reducible rfl
  refine hK _ ?_
  clear hK K
  (try simp only [Act.put, List.setIfInBounds_toArray, List.set_cons_zero, List.set_cons_succ])
  refine wpQuiet_step_h hlq ?_
  clear hlq lq
  intro K lq hlq hK
  refine wanted_go (by rfl) ?_
  refine ⟨?_, fun W hW => ?_, ?_⟩
  rotate_left
  · skip
    go_simp
    with_reducible rfl
  refine hK _ ?_
  clear hK K
  (try simp only [Act.put, List.setIfInBounds_toArray, List.set_cons_zero, List.set_cons_succ])
  refine wpQuiet_step_h hlq ?_
  clear hlq lq
  intro K lq hlq hK
  refine wanted_go (by rfl) ?_
  refine ⟨?_, fun W hW => ?_, ?_⟩
  rotate_left
  · skip
    go_simp
    with_reducible rfl
  refine hK _ ?_
  clear hK K
  (try simp only [Act.put, List.setIfInBounds_toArray, List.set_cons_zero, List.set_cons_succ])
  refine wpQuiet_step_h hlq ?_
  clear hlq lq
  intro K lq hlq hK
  refine wanted_go (by rfl) ?_
  refine ⟨vPP p, fun W hW => ?_, ?_⟩
  · skip
    exact quiet_load 57 _ rfl rfl (ldPP (hW.all.get 2 (x := (w.heap.size, oPP p)) rfl) Hp.out)
  refine hK _ ?_
  clear hK K
  (try simp only [Act.put, List.setIfInBounds_toArray, List.set_cons_zero, List.set_cons_succ])
  refine wpQuiet_step_h hlq ?_
  clear hlq lq
  intro K lq hlq hK
  refine wanted_go (by rfl) ?_
  refine ⟨vPP q, fun W hW => ?_, ?_⟩
  · skip
    exact quiet_load 57 _ rfl rfl (ldPP (hW.all.get 1 (x := (w.heap.size + 1, oPP q)) rfl) Hq.out)
  refine hK _ ?_
  clear hK K
  (try simp only [Act.put, List.setIfInBounds_toArray, List.set_cons_zero, List.set_cons_succ])
  refine wpQuiet_step_h hlq ?_
  clear hlq lq
  intro K lq hlq hK
  refine wanted_go (by rfl) ?_
  refine ⟨.bool false, fun W hW => ?_, ?_⟩
  · skip
    exact quiet_eq (.inl rfl) (by rfl) (by rfl) (by rfl) guard57 (heq W)
  refine hK _ ?_
  clear hK K
  (try simp only [Act.put, List.setIfInBounds_toArray, List.set_cons_zero, List.set_cons_succ])
  refine wpQuiet_step_h hlq ?_
  clear hlq lq
  intro K lq hlq hK
  refine wanted_go (by rfl) ?_
  refine ⟨?_, fun W hW => ?_, ?_⟩
  rotate_left
  · skip
    go_simp
    with_reducible rfl
  refine hK _ ?_
  clear hK K
  (try simp only [Act.put, List.setIfInBounds_toArray, List.set_cons_zero, List.set_cons_succ])
  refine wpQuiet_step_h hlq ?_
  clear hlq lq
  intro K lq hlq hK
  refine wanted_go (by rfl) ?_
  refine ⟨?_, fun W hW => ?_, ?_⟩
  rotate_left
  · skip
    go_simp
    with_reducible rfl
  refine hK _ ?_
  clear hK K
  (try simp only [Act.put, List.setIfInBounds_toArray, List.set_cons_zero, List.set_cons_succ])
  refine wpQuiet_step_h hlq ?_
  clear hlq lq
  intro K lq hlq hK
  refine wanted_go (by rfl) ?_
  refine ⟨?_, fun W hW => ?_, ?_⟩
  rotate_left
  · skip
    go_simp
    with_reducible rfl
  refine hK _ ?_
  clear hK K
  (try simp only [Act.put, List.setIfInBounds_toArray, List.set_cons_zero, List.set_cons_succ])
  refine wpQuiet_step_h hlq ?_
  clear hlq lq
  intro K lq hlq hK
  refine wanted_go (by rfl) ?_
  refine ⟨?_, fun W hW => ?_, ?_⟩
  rotate_left
  · skip
    go_simp
    with_reducible rfl
  refine hK _ ?_
  clear hK K
  (try simp only [Act.put, List.setIfInBounds_toArray, List.set_cons_zero, List.set_cons_succ])
  refine wpQuiet_step_h hlq ?_
  clear hlq lq
  intro K lq hlq hK
  refine wanted_go (by rfl) ?_
  refine ⟨?_, fun W hW => ?_, ?_⟩
  rotate_left
  · skip
    go_simp
    with_reducible rfl
  refine hK _ ?_
  clear hK K
  (try simp only [Act.put, List.setIfInBounds_toArray, List.set_cons_zero, List.set_cons_succ])
  refine wpQuiet_step_h hlq ?_
  clear hlq lq
  intro K lq hlq hK
  refine wanted_go (by rfl) ?_
  refine ⟨?_, fun W hW => ?_, ?_⟩
  rotate_left
  · skip
    go_simp
    with_reducible rfl
  refine hK _ ?_
  clear hK K
  (try simp only [Act.put, List.setIfInBounds_toArray, List.set_cons_zero, List.set_cons_succ])
  refine wpQuiet_step_h hlq ?_
  clear hlq lq
  intro K lq hlq hK
  refine wanted_go (by rfl) ?_
  refine ⟨?_, fun W hW => ?_, ?_⟩
  rotate_left
  · skip
    go_simp
    with_reducible rfl
  refine hK _ ?_
  clear hK K
  (try simp only [Act.put, List.setIfInBounds_toArray, List.set_cons_zero, List.set_cons_succ])
  refine wpQuiet_step_h hlq ?_
  clear hlq lq
  intro K lq hlq hK
  refine wanted_go (by rfl) ?_
  refine ⟨?_, fun W hW => ?_, ?_⟩
  rotate_left
  · skip
    go_simp
    with_reducible rfl
  refine hK _ ?_
  clear hK K
  (try simp only [Act.put, List.setIfInBounds_toArray, List.set_cons_zero, List.set_cons_succ])
  refine wpQuiet_step_h hlq ?_
  clear hlq lq
  intro K lq hlq hK
  refine wanted_go (by rfl) ?_
  refine ⟨?_, fun W hW => ?_, ?_⟩
  rotate_left
  · skip
    go_simp
    with_reducible rfl
  refine hK _ ?_
  clear hK K
  (try simp only [Act.put, List.setIfInBounds_toArray, List.set_cons_zero, List.set_cons_succ])
  refine wpQuiet_step_h hlq ?_
  clear hlq lq
  intro K lq hlq hK
  refine wanted_go (by rfl) ?_
  refine ⟨?_, fun W hW => ?_, ?_⟩
  rotate_left
  · skip
    go_simp
    with_reducible rfl
  refine hK _ ?_
  clear hK K
  (try simp only [Act.put, List.setIfInBounds_toArray, List.set_cons_zero, List.set_cons_succ])
  refine wpQuiet_step_h hlq ?_
  clear hlq lq
  intro K lq hlq hK
  refine wanted_go (by rfl) ?_
  refine ⟨?_, fun W hW => ?_, ?_⟩
  rotate_left
  · skip
    go_simp
    with_reducible rfl
  refine hK _ ?_
  clear hK K
  (try simp only [Act.put, List.setIfInBounds_toArray, List.set_cons_zero, List.set_cons_succ])
  refine wpQuiet_step_h hlq ?_
  clear hlq lq
  intro K lq hlq hK
  refine wanted_go (by rfl) ?_
  refine ⟨?_, fun W hW => ?_, ?_⟩
  rotate_left
  · skip
    go_simp
    with_reducible rfl
  refine hK _ ?_
  clear hK K
  (try simp only [Act.put, List.setIfInBounds_toArray, List.set_cons_zero, List.set_cons_succ])
  refine wpQuiet_step_h hlq ?_
  clear hlq lq
  intro K lq hlq hK
  refine wanted_go (by rfl) ?_
  refine ⟨?_, fun W hW => ?_, ?_⟩
  rotate_left
  · skip
    go_simp
    with_reducible rfl
  refine hK _ ?_
  clear hK K
  (try simp only [Act.put, List.setIfInBounds_toArray, List.set_cons_zero, List.set_cons_succ])
  refine wpQuiet_step_h hlq ?_
  clear hlq lq
  intro K lq hlq hK
  refine wanted_go (by rfl) ?_
  refine ⟨?_, fun W hW => ?_, ?_⟩
  rotate_left
  · skip
    go_simp
    with_reducible rfl
  refine hK _ ?_
  clear hK K
  (try simp only [Act.put, List.setIfInBounds_toArray, List.set_cons_zero, List.set_cons_succ])
  refine wpQuiet_step_h hlq ?_
  clear hlq lq
  intro K lq hlq hK
  refine wanted_go (by rfl) ?_
  refine ⟨?_, fun W hW => ?_, ?_⟩
  rotate_left
  · skip
    go_simp
    with_reducible rfl
  refine hK _ ?_
  clear hK K
  (try simp only [Act.put, List.setIfInBounds_toArray, List.set_cons_zero, List.set_cons_succ])
  refine wpQuiet_step_h hlq ?_
  clear hlq lq
  intro K lq hlq hK
  refine wanted_go (by rfl) ?_
  refine ⟨?_, fun W hW => ?_, ?_⟩
  rotate_left
  · skip
    go_simp
    with_reducible rfl
  refine hK _ ?_
  clear hK K
  (try simp only [Act.put, List.setIfInBounds_toArray, List.set_cons_zero, List.set_cons_succ])
  refine wpQuiet_step_h hlq ?_
  clear hlq lq
  intro K lq hlq hK
  refine wanted_go (by rfl) ?_
  refine ⟨?_, fun W hW => ?_, ?_⟩
  rotate_left
  · skip
    go_simp
    with_reducible rfl
  refine hK _ ?_
  clear hK K
  (try simp only [Act.put, List.setIfInBounds_toArray, List.set_cons_zero, List.set_cons_succ])
  refine wpQuiet_step_h hlq ?_
  clear hlq lq
  intro K lq hlq hK
  refine wanted_go (by rfl) ?_
  refine ⟨?_, fun W hW => ?_, ?_⟩
  rotate_left
  · skip
    go_simp
    with_reducible rfl
  refine hK _ ?_
  clear hK K
  (try simp only [Act.put, List.setIfInBounds_toArray, List.set_cons_zero, List.set_cons_succ])
  refine wpQuiet_step_h hlq ?_
  clear hlq lq
  intro K lq hlq hK
  refine wanted_go (by rfl) ?_
  refine ⟨?_, fun W hW => ?_, ?_⟩
  rotate_left
  · skip
    go_simp
    with_reducible rfl
  refine hK _ ?_
  clear hK K
  (try simp only [Act.put, List.setIfInBounds_toArray, List.set_cons_zero, List.set_cons_succ])
  refine wpQuiet_step_h hlq ?_
  clear hlq lq
  intro K lq hlq hK
  refine wanted_go (by rfl) ?_
  refine ⟨?_, fun W hW => ?_, ?_⟩
  rotate_left
  · skip
    go_simp
    with_reducible rfl
  refine hK _ ?_
  clear hK K
  (try simp only [Act.put, List.setIfInBounds_toArray, List.set_cons_zero, List.set_cons_succ])
  refine wpQuiet_step_h hlq ?_
  clear hlq lq
  intro K lq hlq hK
  refine wanted_go (by rfl) ?_
  refine ⟨?_, fun W hW => ?_, ?_⟩
  rotate_left
  · skip
    go_simp
    with_reducible rfl
  refine hK _ ?_
  clear hK K
  (try simp only [Act.put, List.setIfInBounds_toArray, List.set_cons_zero, List.set_cons_succ])
  refine wpQuiet_step_h hlq ?_
  clear hlq lq
  intro K lq hlq hK
  refine wanted_go (by rfl) ?_
  refine ⟨?_, fun W hW => ?_, ?_⟩
  rotate_left
  · skip
    go_simp
    with_reducible rfl
  refine hK _ ?_
  clear hK K
  (try simp only [Act.put, List.setIfInBounds_toArray, List.set_cons_zero, List.set_cons_succ])
  refine wpQuiet_step_h hlq ?_
  clear hlq lq
  intro K lq hlq hK
  refine wanted_go (by rfl) ?_
  refine ⟨?_, fun W hW => ?_, ?_⟩
  rotate_left
  · skip
    go_simp
    with_reducible rfl
  refine hK _ ?_
  clear hK K
  (try simp only [Act.put, List.setIfInBounds_toArray, List.set_cons_zero, List.set_cons_succ])
  refine wpQuiet_step_h hlq ?_
  clear hlq lq
  intro K lq hlq hK
  refine wanted_go (by rfl) ?_
  refine ⟨?_, fun W hW => ?_, ?_⟩
  rotate_left
  · skip
    go_simp
    with_reducible rfl
  refine hK _ ?_
  clear hK K
  (try simp only [Act.put, List.setIfInBounds_toArray, List.set_cons_zero, List.set_cons_succ])
  refine wpQuiet_step_h hlq ?_
  clear hlq lq
  intro K lq hlq hK
  refine wanted_go (by rfl) ?_
  refine ⟨?_, fun W hW => ?_, ?_⟩
  rotate_left
  · skip
    go_simp
    with_reducible rfl
  refine hK _ ?_
  clear hK K
  (try simp only [Act.put, List.setIfInBounds_toArray, List.set_cons_zero, List.set_cons_succ])
  refine wpQuiet_step_h hlq ?_
  clear hlq lq
  intro K lq hlq hK
  refine wanted_go (by rfl) ?_
  refine ⟨?_, fun W hW => ?_, ?_⟩
  rotate_left
  · skip
    go_simp
    with_reducible rfl
  refine hK _ ?_
  clear hK K
  (try simp only [Act.put, List.setIfInBounds_toArray, List.set_cons_zero, List.set_cons_succ])
  refine wpQuiet_nil_h hlq ?_
  clear hlq lq hV2
  intro V3 hV4
  go_wp2_with fail
  refine wp_region_C (C := Bz w [(w.heap.size + 2, oPP r), (w.heap.size + 1, oPP q), (w.heap.size, oPP p)]) (by kernel_rfl) (by kernel_rfl) (hV4.drew) ?_
  refine wpQuiet_hide ?_
  intro lq hlq
  refine wpQuiet_step_h hlq ?_
  clear hlq lq
  intro K lq hlq hK
  refine wanted_go (by rfl) ?_
  refine ⟨?_, fun W hW => ?_, ?_⟩
  rotate_left
  · skip
    go_simp
    with_reducible rfl
  refine hK _ ?_
  clear hK K
  (try simp only [Act.put, List.setIfInBounds_toArray, List.set_cons_zero, List.set_cons_succ])
  refine wpQuiet_step_h hlq ?_
  clear hlq lq
  intro K lq hlq hK
  refine wanted_go (by rfl) ?_
  refine ⟨vPf p.d, fun W hW => ?_, ?_⟩
  · skip
    exact quiet_load 55 _ rfl rfl (ldPPd (hW.all.get 2 (x := (w.heap.size, oPP p)) rfl) Hp.out)
  refine hK _ ?_
  clear hK K
  (try simp only [Act.put, List.setIfInBounds_toArray, List.set_cons_zero, List.set_cons_succ])
  refine wpQuiet_step_h hlq ?_
  clear hlq lq
  intro K lq hlq hK
  refine wanted_go (by rfl) ?_
  refine ⟨?_, fun W hW => ?_, ?_⟩
  rotate_left
  · skip
    go_simp
    with_reducible rfl
  refine hK _ ?_
  clear hK K
  (try simp only [Act.put, List.setIfInBounds_toArray, List.set_cons_zero, List.set_cons_succ])
  refine wpQuiet_step_h hlq ?_
  clear hlq lq
  intro K lq hlq hK
  refine wanted_go (by rfl) ?_
  refine ⟨vPf q.d, fun W hW => ?_, ?_⟩
  · skip
    exact quiet_load 55 _ rfl rfl (ldPPd (hW.all.get 1 (x := (w.heap.size + 1, oPP q)) rfl) Hq.out)
  refine hK _ ?_
  clear hK K
  (try simp only [Act.put, List.setIfInBounds_toArray, List.set_cons_zero, List.set_cons_succ])
  refine wpQuiet_step_h hlq ?_
  clear hlq lq
  intro K lq hlq hK
  refine wanted_go (by rfl) ?_
  refine ⟨.int .i64 0, fun W hW => ?_, ?_⟩
  · go_simp
    exact (cmpP_call Hp.out.1 Hq.out.1 hd.out).mono fun e W2 hc2 => ⟨hc2.1, hW.go hc2.2⟩
  refine hK _ ?_
  clear hK K
  (try simp only [Act.put, List.setIfInBounds_toArray, List.set_cons_zero, List.set_cons_succ])
  refine wpQuiet_step_h hlq ?_
  clear hlq lq
  intro K lq hlq hK
  refine wanted_go (by rfl) ?_
  refine ⟨?_, fun W hW => ?_, ?_⟩
  rotate_left
  · skip
    go_simp
    with_reducible rfl
  refine hK _ ?_
  clear hK K
  (try simp only [Act.put, List.setIfInBounds_toArray, List.set_cons_zero, List.set_cons_succ])
  refine wpQuiet_step_h hlq ?_
  clear hlq lq
  intro K lq hlq hK
  refine wanted_go (by rfl) ?_
  refine ⟨vPf q.d, fun W hW => ?_, ?_⟩
  · skip
    exact quiet_load 55 _ rfl rfl (ldPPd (hW.all.get 1 (x := (w.heap.size + 1, oPP q)) rfl) Hq.out)
  refine hK _ ?_
  clear hK K
  (try simp only [Act.put, List.setIfInBounds_toArray, List.set_cons_zero, List.set_cons_succ])
  refine wpQuiet_step_h hlq ?_
  clear hlq lq
  intro K lq hlq hK
  refine wanted_go (by rfl) ?_
  refine ⟨?_, fun W hW => ?_, ?_⟩
  rotate_left
  · skip
    go_simp
    with_reducible rfl
  refine hK _ ?_
  clear hK K
  (try simp only [Act.put, List.setIfInBounds_toArray, List.set_cons_zero, List.set_cons_succ])
  refine wpQuiet_step_h hlq ?_
  clear hlq lq
  intro K lq hlq hK
  refine wanted_go (by rfl) ?_
  refine ⟨vPf p.d, fun W hW => ?_, ?_⟩
  · skip
    exact quiet_load 55 _ rfl rfl (ldPPd (hW.all.get 2 (x := (w.heap.size, oPP p)) rfl) Hp.out)
  refine hK _ ?_
  clear hK K
  (try simp only [Act.put, List.setIfInBounds_toArray, List.set_cons_zero, List.set_cons_succ])
  refine wpQuiet_step_h hlq ?_
  clear hlq lq
  intro K lq hlq hK
  refine wanted_go (by rfl) ?_
  refine ⟨.int .i64 0, fun W hW => ?_, ?_⟩
  · go_simp
    exact (cmpP_call Hq.out.1 Hp.out.1 hd2.out).mono fun e W2 hc2 => ⟨hc2.1, hW.go hc2.2⟩
  refine hK _ ?_
  clear hK K
  (try simp only [Act.put, List.setIfInBounds_toArray, List.set_cons_zero, List.set_cons_succ])
  refine wpQuiet_step_h hlq ?_
  clear hlq lq
  intro K lq hlq hK
  refine wanted_go (by rfl) ?_
  refine ⟨?_, fun W hW => ?_, ?_⟩
  rotate_left
  · skip
    go_simp
    with_reducible rfl
  refine hK _ ?_
  clear hK K
  (try simp only [Act.put, List.setIfInBounds_toArray, List.set_cons_zero, List.set_cons_succ])
  refine wpQuiet_step_h hlq ?_
  clear hlq lq
  intro K lq hlq hK
  refine wanted_go (by rfl) ?_
  refine ⟨?_, fun W hW => ?_, ?_⟩
  rotate_left
  · skip
    go_simp
    with_reducible rfl
  refine hK _ ?_
  clear hK K
  (try simp only [Act.put, List.setIfInBounds_toArray, List.set_cons_zero, List.set_cons_succ])
  refine wpQuiet_nil_h hlq ?_
  clear hlq lq hV4
  intro V5 hV6
  go_wp2_with (refine wpList_quiet (C := Bz w [(w.heap.size + 2, oPP r), (w.heap.size + 1, oPP q), (w.heap.size, oPP p)]) 35 (by rfl) hV6 ?_)
  refine wpQuiet_hide ?_
  intro lq hlq
  refine wpQuiet_step_h hlq ?_
  clear hlq lq
  intro K lq hlq hK
  refine wanted_go (by rfl) ?_
  refine ⟨?_, fun W hW => ?_, ?_⟩
  rotate_left
  · skip
    go_simp
    with_reducible rfl
  refine hK _ ?_
  clear hK K
  (try simp only [Act.put, List.setIfInBounds_toArray, List.set_cons_zero, List.set_cons_succ])
  refine wpQuiet_step_h hlq ?_
  clear hlq lq
  intro K lq hlq hK
  refine wanted_go (by rfl) ?_
  refine ⟨?_, fun W hW => ?_, ?_⟩
  rotate_left
  · skip
    go_simp
    with_reducible rfl
  refine hK _ ?_
  clear hK K
  (try simp only [Act.put, List.setIfInBounds_toArray, List.set_cons_zero, List.set_cons_succ])
  refine wpQuiet_step_h hlq ?_
  clear hlq lq
  intro K lq hlq hK
  refine wanted_go (by rfl) ?_
  refine ⟨?_, fun W hW => ?_, ?_⟩
  rotate_left
  · skip
    go_simp
    with_reducible rfl
  refine hK _ ?_
  clear hK K
  (try simp only [Act.put, List.setIfInBounds_toArray, List.set_cons_zero, List.set_cons_succ])
  refine wpQuiet_step_h hlq ?_
  clear hlq lq
  intro K lq hlq hK
  refine wanted_go (by rfl) ?_
  refine ⟨?_, fun W hW => ?_, ?_⟩
  rotate_left
  · skip
    go_simp
    with_reducible rfl
  refine hK _ ?_
  clear hK K
  (try simp only [Act.put, List.setIfInBounds_toArray, List.set_cons_zero, List.set_cons_succ])
  refine wpQuiet_step_h hlq ?_
  clear hlq lq
  intro K lq hlq hK
  refine wanted_go (by rfl) ?_
  refine ⟨?_, fun W hW => ?_, ?_⟩
  rotate_left
  · skip
    go_simp
    with_reducible rfl
  refine hK _ ?_
  clear hK K
  (try simp only [Act.put, List.setIfInBounds_toArray, List.set_cons_zero, List.set_cons_succ])
  refine wpQuiet_step_h hlq ?_
  clear hlq lq
  intro K lq hlq hK
  refine wanted_go (by rfl) ?_
  refine ⟨?_, fun W hW => ?_, ?_⟩
  rotate_left
  · skip
    go_simp
    with_reducible rfl
  refine hK _ ?_
  clear hK K
  (try simp only [Act.put, List.setIfInBounds_toArray, List.set_cons_zero, List.set_cons_succ])
  refine wpQuiet_step_h hlq ?_
  clear hlq lq
  intro K lq hlq hK
  refine wanted_go (by rfl) ?_
  refine ⟨vPf p.d, fun W hW => ?_, ?_⟩
  · skip
    exact quiet_load 55 _ rfl rfl (ldPPd (hW.all.get 2 (x := (w.heap.size, oPP p)) rfl) Hp.out)
  refine hK _ ?_
  clear hK K
  (try simp only [Act.put, List.setIfInBounds_toArray, List.set_cons_zero, List.set_cons_succ])
  refine wpQuiet_step_h hlq ?_
  clear hlq lq
  intro K lq hlq hK
  refine wanted_go (by rfl) ?_
  refine ⟨?_, fun W hW => ?_, ?_⟩
  rotate_left
  · skip
    go_simp
    with_reducible rfl
  refine hK _ ?_
  clear hK K
  (try simp only [Act.put, List.setIfInBounds_toArray, List.set_cons_zero, List.set_cons_succ])
  refine wpQuiet_step_h hlq ?_
  clear hlq lq
  intro K lq hlq hK
  refine wanted_go (by rfl) ?_
  refine ⟨vPf q.d, fun W hW => ?_, ?_⟩
  · skip
    exact quiet_load 55 _ rfl rfl (ldPPd (hW.all.get 1 (x := (w.heap.size + 1, oPP q)) rfl) Hq.out)
  refine hK _ ?_
  clear hK K
  (try simp only [Act.put, List.setIfInBounds_toArray, List.set_cons_zero, List.set_cons_succ])
  refine wpQuiet_step_h hlq ?_
  clear hlq lq
  intro K lq hlq hK
  refine wanted_go (by rfl) ?_
  refine ⟨.bool true, fun W hW => ?_, ?_⟩
  · skip
    exact quiet_eq (.inl rfl) (by rfl) (by rfl) (by rfl) guard55 (hef W)
  refine hK _ ?_
  clear hK K
  (try simp only [Act.put, List.setIfInBounds_toArray, List.set_cons_zero, List.set_cons_succ])
  refine wpQuiet_step_h hlq ?_
  clear hlq lq
  intro K lq hlq hK
  refine wanted_go (by rfl) ?_
  refine ⟨?_, fun W hW => ?_, ?_⟩
  rotate_left
  · skip
    go_simp
    with_reducible rfl
  refine hK _ ?_
  clear hK K
  (try simp only [Act.put, List.setIfInBounds_toArray, List.set_cons_zero, List.set_cons_succ])
  refine wpQuiet_step_h hlq ?_
  clear hlq lq
  intro K lq hlq hK
  refine wanted_go (by rfl) ?_
  refine ⟨?_, fun W hW => ?_, ?_⟩
  rotate_left
  · skip
    go_simp
    with_reducible rfl
  refine hK _ ?_
  clear hK K
  (try simp only [Act.put, List.setIfInBounds_toArray, List.set_cons_zero, List.set_cons_succ])
  refine wpQuiet_step_h hlq ?_
  clear hlq lq
  intro K lq hlq hK
  refine wanted_go (by rfl) ?_
  refine ⟨?_, fun W hW => ?_, ?_⟩
  rotate_left
  · skip
    go_simp
    with_reducible rfl
  refine hK _ ?_
  clear hK K
  (try simp only [Act.put, List.setIfInBounds_toArray, List.set_cons_zero, List.set_cons_succ])
  refine wpQuiet_step_h hlq ?_
  clear hlq lq
  intro K lq hlq hK
  refine wanted_go (by rfl) ?_
  refine ⟨?_, fun W hW => ?_, ?_⟩
  rotate_left
  · skip
    go_simp
    with_reducible rfl
  refine hK _ ?_
  clear hK K
  (try simp only [Act.put, List.setIfInBounds_toArray, List.set_cons_zero, List.set_cons_succ])
  refine wpQuiet_step_h hlq ?_
  clear hlq lq
  intro K lq hlq hK
  refine wanted_go (by rfl) ?_
  refine ⟨?_, fun W hW => ?_, ?_⟩
  rotate_left
  · skip
    go_simp
    with_reducible rfl
  refine hK _ ?_
  clear hK K
  (try simp only [Act.put, List.setIfInBounds_toArray, List.set_cons_zero, List.set_cons_succ])
  refine wpQuiet_step_h hlq ?_
  clear hlq lq
  intro K lq hlq hK
  refine wanted_go (by rfl) ?_
  refine ⟨?_, fun W hW => ?_, ?_⟩
  rotate_left
  · skip
    go_simp
    with_reducible rfl
  refine hK _ ?_
  clear hK K
  (try simp only [Act.put, List.setIfInBounds_toArray, List.set_cons_zero, List.set_cons_succ])
  refine wpQuiet_step_h hlq ?_
  clear hlq lq
  intro K lq hlq hK
  go_simp
  refine hK _ ?_
  clear hK K
  refine wpQuiet_step_h hlq ?_
  clear hlq lq
  intro K lq hlq hK
  go_simp
  refine hK _ ?_
  clear hK K
  refine wpQuiet_step_h hlq ?_
  clear hlq lq
  intro K lq hlq hK
  go_simp
  refine hK _ ?_
  clear hK K
  refine wpQuiet_step_h hlq ?_
  clear hlq lq
  intro K lq hlq hK
  refine wanted_go (by rfl) ?_
  refine ⟨?_, fun W hW => ?_, ?_⟩
  rotate_left
  · skip
    go_simp
    with_reducible rfl
  refine hK _ ?_
  clear hK K
  (try simp only [Act.put, List.setIfInBounds_toArray, List.set_cons_zero, List.set_cons_succ])
  refine wpQuiet_step_h hlq ?_
  clear hlq lq
  intro K lq hlq hK
  refine wanted_go (by rfl) ?_
  refine ⟨?_, fun W hW => ?_, ?_⟩
  rotate_left
  · skip
    go_simp
    with_reducible rfl
  refine hK _ ?_
  clear hK K
  (try simp only [Act.put, List.setIfInBounds_toArray, List.set_cons_zero, List.set_cons_succ])
  refine wpQuiet_step_h hlq ?_
  clear hlq lq
  intro K lq hlq hK
  refine wanted_go (by rfl) ?_
  refine ⟨?_, fun W hW => ?_, ?_⟩
  rotate_left
  · skip
    go_simp
    with_reducible rfl
  refine hK _ ?_
  clear hK K
  (try simp only [Act.put, List.setIfInBounds_toArray, List.set_cons_zero, List.set_cons_succ])
  refine wpQuiet_step_h hlq ?_
  clear hlq lq
  intro K lq hlq hK
  refine wanted_go (by rfl) ?_
  refine ⟨?_, fun W hW => ?_, ?_⟩
  rotate_left
  · skip
    go_simp
    with_reducible rfl
  refine hK _ ?_
  clear hK K
  (try simp only [Act.put, List.setIfInBounds_toArray, List.set_cons_zero, List.set_cons_succ])
  refine wpQuiet_step_h hlq ?_
  clear hlq lq
  intro K lq hlq hK
  refine wanted_go (by rfl) ?_
  refine ⟨?_, fun W hW => ?_, ?_⟩
  rotate_left
  · skip
    go_simp
    with_reducible rfl
  refine hK _ ?_
  clear hK K
  (try simp only [Act.put, List.setIfInBounds_toArray, List.set_cons_zero, List.set_cons_succ])
  refine wpQuiet_step_h hlq ?_
  clear hlq lq
  intro K lq hlq hK
  refine wanted_go (by rfl) ?_
  refine ⟨vA p.d.a, fun W hW => ?_, ?_⟩
  · skip
    exact quiet_load 42 _ rfl rfl (ldPPda (hW.all.get 2 (x := (w.heap.size, oPP p)) rfl) Hp.out)
  refine hK _ ?_
  clear hK K
  (try simp only [Act.put, List.setIfInBounds_toArray, List.set_cons_zero, List.set_cons_succ])
  refine wpQuiet_step_h hlq ?_
  clear hlq lq
  intro K lq hlq hK
  refine wanted_go (by rfl) ?_
  refine ⟨?_, fun W hW => ?_, ?_⟩
  rotate_left
  · skip
    go_simp
    with_reducible rfl
  refine hK _ ?_
  clear hK K
  (try simp only [Act.put, List.setIfInBounds_toArray, List.set_cons_zero, List.set_cons_succ])
  refine wpQuiet_step_h hlq ?_
  clear hlq lq
  intro K lq hlq hK
  refine wanted_go (by rfl) ?_
  refine ⟨?_, fun W hW => ?_, ?_⟩
  rotate_left
  · skip
    go_simp
    with_reducible rfl
  refine hK _ ?_
  clear hK K
  (try simp only [Act.put, List.setIfInBounds_toArray, List.set_cons_zero, List.set_cons_succ])
  refine wpQuiet_step_h hlq ?_
  clear hlq lq
  intro K lq hlq hK
  refine wanted_go (by rfl) ?_
  refine ⟨vA p.d.a, fun W hW => ?_, ?_⟩
  · skip
    exact quiet_load 42 _ rfl rfl (ldPPda (hW.all.get 2 (x := (w.heap.size, oPP p)) rfl) Hp.out)
  refine hK _ ?_
  clear hK K
  (try simp only [Act.put, List.setIfInBounds_toArray, List.set_cons_zero, List.set_cons_succ])
  refine wpQuiet_step_h hlq ?_
  clear hlq lq
  intro K lq hlq hK
  refine wanted_go (by rfl) ?_
  refine ⟨.int .i64 0, fun W hW => ?_, ?_⟩
  · go_simp
    have E' := hW.env E
    exact (cmpA_call Hp.out.1.1 Hp.out.1.1 ha.out).mono fun e W2 hc2 => ⟨hc2.1, hW.go hc2.2⟩
  refine hK _ ?_
  clear hK K
  (try simp only [Act.put, List.setIfInBounds_toArray, List.set_cons_zero, List.set_cons_succ])
  refine wpQuiet_step_h hlq ?_
  clear hlq lq
  intro K lq hlq hK
  refine wanted_go (by rfl) ?_
  refine ⟨?_, fun W hW => ?_, ?_⟩
  rotate_left
  · skip
    go_simp
    with_reducible rfl
  refine hK _ ?_
  clear hK K
  (try simp only [Act.put, List.setIfInBounds_toArray, List.set_cons_zero, List.set_cons_succ])
  refine wpQuiet_step_h hlq ?_
  clear hlq lq
  intro K lq hlq hK
  refine wanted_go (by rfl) ?_
  refine ⟨?_, fun W hW => ?_, ?_⟩
  rotate_left
  · skip
    go_simp
    with_reducible rfl
  refine hK _ ?_
  clear hK K
  (try simp only [Act.put, List.setIfInBounds_toArray, List.set_cons_zero, List.set_cons_succ])
  refine wpQuiet_step_h hlq ?_
  clear hlq lq
  intro K lq hlq hK
  refine wanted_go (by rfl) ?_
  refine ⟨?_, fun W hW => ?_, ?_⟩
  rotate_left
  · skip
    go_simp
    with_reducible rfl
  refine hK _ ?_
  clear hK K
  (try simp only [Act.put, List.setIfInBounds_toArray, List.set_cons_zero, List.set_cons_succ])
  refine wpQuiet_step_h hlq ?_
  clear hlq lq
  intro K lq hlq hK
  refine wanted_go (by rfl) ?_
  refine ⟨.bool true, fun W hW => ?_, ?_⟩
  · go_simp
    have E' := hW.env E
    exact (live02_any E').mono fun e W2 hc2 => ⟨hc2.1, hW.go hc2.2⟩
  refine hK _ ?_
  clear hK K
  (try simp only [Act.put, List.setIfInBounds_toArray, List.set_cons_zero, List.set_cons_succ])
  refine wpQuiet_step_h hlq ?_
  clear hlq lq
  intro K lq hlq hK
  refine wanted_go (by rfl) ?_
  refine ⟨?_, fun W hW => ?_, ?_⟩
  rotate_left
  · skip
    go_simp
    with_reducible rfl
  refine hK _ ?_
  clear hK K
  (try simp only [Act.put, List.setIfInBounds_toArray, List.set_cons_zero, List.set_cons_succ])
  refine wpQuiet_step_h hlq ?_
  clear hlq lq
  intro K lq hlq hK
  refine wanted_go (by rfl) ?_
  refine ⟨?_, fun W hW => ?_, ?_⟩
  rotate_left
  · skip
    go_simp
    with_reducible rfl
  refine hK _ ?_
  clear hK K
  (try simp only [Act.put, List.setIfInBounds_toArray, List.set_cons_zero, List.set_cons_succ])
  refine wpQuiet_nil_h hlq ?_
  clear hlq lq hV6
  intro V7 hV8
  go_wp2_with fail
  go_ret
  exact ⟨rfl, hV8.bel⟩
set_option maxRecDepth 100000 in
set_option maxHeartbeats 3200000 in
theorem order_m1p {p q r : Pr} (hp : p.fit) (hq : q.fit) (hr : r.fit) {w : World} (E : Env w) (hx : cmpPP p q = (-1)) (hy : cmpPP q p = 1) {b c : Int} (hb : cmpPP q r = b) (hc : cmpPP p r = c) (hd : cmpP p.d q.d = (-1)) (hd2 : cmpP q.d p.d = 1) (he : decide (p = q) = false) (hf : decide (p.d = q.d) = false) (ha : cmpA p.d.a p.d.a = 0) (f1 : decide (b ≤ 0) = false) (f3 : decide (b < 0) = false) : Calls Tryz.prog 9 #[vPP p, vPP q, vPP r] w fun e w' => e = .returned (.bool true) ∧ Below w.heap.size w w' := by
  have heq := fun W => eql_PP W hp hq
  have hef := fun W => eql_P W hp.1 hq.1
  rw [he] at heq
  rw [hf] at hef
  clear he hf
  have Hp := Lib.hid hp
  have Hq := Lib.hid hq
  have Hr := Lib.hid hr
  have B := ((((Bz.start w).alloc (oPP p) rfl).alloc (oPP q) (World.size_alloc _ _)).alloc (oPP r) (show _ = w.heap.size + 2 by simp) : Bz w [(w.heap.size + 2, oPP r), (w.heap.size + 1, oPP q), (w.heap.size, oPP p)] _)
  clear hp hq hr
  replace hx := Lib.hid hx
  replace hy := Lib.hid hy
  replace hb := Lib.hid hb
  replace hc := Lib.hid hc
  replace hd := Lib.hid hd
  replace hd2 := Lib.hid hd2
  replace ha := Lib.hid ha
  unfold vPP
  go_enter Tryz.func9, Tryz.ntmps9
  go_wp2_with fail
  refine wp_region_C (C := Bz w [(w.heap.size + 2, oPP r), (w.heap.size + 1, oPP q), (w.heap.size, oPP p)]) (by kernel_rfl) (by kernel_rfl) (B.drew) ?_
  refine wpQuiet_hide ?_
  intro lq hlq
  refine wpQuiet_step_h hlq ?_
  clear hlq lq
  intro K lq hlq hK
  refine wanted_go (by rfl) ?_
  refine ⟨vPP p, fun W hW => ?_, ?_⟩
  · skip
    exact quiet_load 57 _ rfl rfl (ldPP (hW.all.get 2 (x := (w.heap.size, oPP p)) rfl) Hp.out)
  refine hK _ ?_
  clear hK K
  (try simp only [Act.put, List.setIfInBounds_toArray, List.set_cons_zero, List.set_cons_succ])
  refine wpQuiet_step_h hlq ?_
  clear hlq lq
  intro K lq hlq hK
  refine wanted_go (by rfl) ?_
  refine ⟨vPP q, fun W hW => ?_, ?_⟩
  · skip
    exact quiet_load 57 _ rfl rfl (ldPP (hW.all.get 1 (x := (w.heap.size + 1, oPP q)) rfl) Hq.out)
  refine hK _ ?_
  clear hK K
  (try simp only [Act.put, List.setIfInBounds_toArray, List.set_cons_zero, List.set_cons_succ])
  refine wpQuiet_step_h hlq ?_
  clear hlq lq
  intro K lq hlq hK
  refine wanted_go (by rfl) ?_
  refine ⟨.int .i64 (-1), fun W hW => ?_, ?_⟩
  · go_simp
    exact (cmpPP_call Hp.out Hq.out hx.out).mono fun e W2 hc2 => ⟨hc2.1, hW.go hc2.2⟩
  refine hK _ ?_
  clear hK K
  (try simp only [Act.put, List.setIfInBounds_toArray, List.set_cons_zero, List.set_cons_succ])
  refine wpQuiet_step_h hlq ?_
  clear hlq lq
  intro K lq hlq hK
  refine wanted_go (by rfl) ?_
  refine ⟨vPP q, fun W hW => ?_, ?_⟩
  · skip
    exact quiet_load 57 _ rfl rfl (ldPP (hW.all.get 1 (x := (w.heap.size + 1, oPP q)) rfl) Hq.out)
  refine hK _ ?_
  clear hK K
  (try simp only [Act.put, List.setIfInBounds_toArray, List.set_cons_zero, List.set_cons_succ])
  refine wpQuiet_step_h hlq ?_
  clear hlq lq
  intro K lq hlq hK
  refine wanted_go (by rfl) ?_
  refine ⟨vPP r, fun W hW => ?_, ?_⟩
  · skip
    exact quiet_load 57 _ rfl rfl (ldPP (hW.all.get 0 (x := (w.heap.size + 2, oPP r)) rfl) Hr.out)
  refine hK _ ?_
  clear hK K
  (try simp only [Act.put, List.setIfInBounds_toArray, List.set_cons_zero, List.set_cons_succ])
  refine wpQuiet_step_h hlq ?_
  clear hlq lq
  intro K lq hlq hK
  refine wanted_go (by rfl) ?_
  refine ⟨.int .i64 b, fun W hW => ?_, ?_⟩
  · go_simp
    exact (cmpPP_call Hq.out Hr.out hb.out).mono fun e W2 hc2 => ⟨hc2.1, hW.go hc2.2⟩
  refine hK _ ?_
  clear hK K
  (try simp only [Act.put, List.setIfInBounds_toArray, List.set_cons_zero, List.set_cons_succ])
  refine wpQuiet_step_h hlq ?_
  clear hlq lq
  intro K lq hlq hK
  refine wanted_go (by rfl) ?_
  refine ⟨vPP p, fun W hW => ?_, ?_⟩
  · skip
    exact quiet_load 57 _ rfl rfl (ldPP (hW.all.get 2 (x := (w.heap.size, oPP p)) rfl) Hp.out)
  refine hK _ ?_
  clear hK K
  (try simp only [Act.put, List.setIfInBounds_toArray, List.set_cons_zero, List.set_cons_succ])
  refine wpQuiet_step_h hlq ?_
  clear hlq lq
  intro K lq hlq hK
  refine wanted_go (by rfl) ?_
  refine ⟨vPP r, fun W hW => ?_, ?_⟩
  · skip
    exact quiet_load 57 _ rfl rfl (ldPP (hW.all.get 0 (x := (w.heap.size + 2, oPP r)) rfl) Hr.out)
  refine hK _ ?_
  clear hK K
  (try simp only [Act.put, List.setIfInBounds_toArray, List.set_cons_zero, List.set_cons_succ])
  refine wpQuiet_step_h hlq ?_
  clear hlq lq
  intro K lq hlq hK
  refine wanted_go (by rfl) ?_
  refine ⟨.int .i64 c, fun W hW => ?_, ?_⟩
  · go_simp
    exact (cmpPP_call Hp.out Hr.out hc.out).mono fun e W2 hc2 => ⟨hc2.1, hW.go hc2.2⟩
  refine hK _ ?_
  clear hK K
  (try simp only [Act.put, List.setIfInBounds_toArray, List.set_cons_zero, List.set_cons_succ])
  refine wpQuiet_step_h hlq ?_
  clear hlq lq
  intro K lq hlq hK
  refine wanted_go (by rfl) ?_
  refine ⟨?_, fun W hW => ?_, ?_⟩
  rotate_left
  · skip
    go_simp
    with_reducible rfl
  refine hK _ ?_
  clear hK K
  (try simp only [Act.put, List.setIfInBounds_toArray, List.set_cons_zero, List.set_cons_succ])
  refine wpQuiet_step_h hlq ?_
  clear hlq lq
  intro K lq hlq hK
  refine wanted_go (by rfl) ?_
  refine ⟨?_, fun W hW => ?_, ?_⟩
  rotate_left
  · skip
    go_simp
    with_reducible rfl
  refine hK _ ?_
  clear hK K
  (try simp only [Act.put, List.setIfInBounds_toArray, List.set_cons_zero, List.set_cons_succ])
  refine wpQuiet_step_h hlq ?_
  clear hlq lq
  intro K lq hlq hK
  refine wanted_go (by rfl) ?_
  refine ⟨?_, fun W hW => ?_, ?_⟩
  rotate_left
  · skip
    go_simp
    with_reducible rfl
  refine hK _ ?_
  clear hK K
  (try simp only [Act.put, List.setIfInBounds_toArray, List.set_cons_zero, List.set_cons_succ])
  refine wpQuiet_nil_h hlq ?_
  clear hlq lq B
  intro V1 hV2
  go_wp2_with (refine wpList_quiet (C := Bz w [(w.heap.size + 2, oPP r), (w.heap.size + 1, oPP q), (w.heap.size, oPP p)]) 37 (by rfl) hV2 ?_)
  refine wpQuiet_hide ?_
  intro lq hlq
  refine wpQuiet_step_h hlq ?_
  clear hlq lq
  intro K lq hlq hK
  refine wanted_go (by rfl) ?_
  refine ⟨vPP q, fun W hW => ?_, ?_⟩
  · skip
    exact quiet_load 57 _ rfl rfl (ldPP (hW.all.get 1 (x := (w.heap.size + 1, oPP q)) rfl) Hq.out)
  refine hK _ ?_
  clear hK K
  (try simp only [Act.put, List.setIfInBounds_toArray, List.set_cons_zero, List.set_cons_succ])
  refine wpQuiet_step_h hlq ?_
  clear hlq lq
  intro K lq hlq hK
  refine wanted_go (by rfl) ?_
  refine ⟨vPP p, fun W hW => ?_, ?_⟩
  · skip
    exact quiet_load 57 _ rfl rfl (ldPP (hW.all.get 2 (x := (w.heap.size, oPP p)) rfl) Hp.out)
  refine hK _ ?_
  clear hK K
  (try simp only [Act.put, List.setIfInBounds_toArray, List.set_cons_zero, List.set_cons_succ])
  refine wpQuiet_step_h hlq ?_
  clear hlq lq
  intro K lq hlq hK
  refine wanted_go (by rfl) ?_
  refine ⟨.int .i64 1, fun W hW => ?_, ?_⟩
  · go_simp
    exact (cmpPP_call Hq.out Hp.out hy.out).mono fun e W2 hc2 => ⟨hc2.1, hW.go hc2.2⟩
  refine hK _ ?_
  clear hK K
  (try simp only [Act.put, List.setIfInBounds_toArray, List.set_cons_zero, List.set_cons_succ])
  refine wpQuiet_step_h hlq ?_
  clear hlq lq
  intro K lq hlq hK
  refine wanted_go (by rfl) ?_
  refine ⟨?_, fun W hW => ?_, ?_⟩
  rotate_left
  · skip
    go_simp
    with_reducible rfl
  refine hK _ ?_
  clear hK K
  (try simp only [Act.put, List.setIfInBounds_toArray, List.set_cons_zero, List.set_cons_succ])
  refine wpQuiet_step_h hlq ?_
  clear hlq lq
  intro K lq hlq hK
  refine wanted_go (by rfl) ?_
  refine ⟨?_, fun W hW => ?_, ?_⟩
  rotate_left
  · skip
    go_simp
    with_reducible rfl
  refine hK _ ?_
  clear hK K
  (try simp only [Act.put, List.setIfInBounds_toArray, List.set_cons_zero, List.set_cons_succ])
  refine wpQuiet_step_h hlq ?_
  clear hlq lq
  intro K lq hlq hK
  refine wanted_go (by rfl) ?_
  refine ⟨?_, fun W hW => ?_, ?_⟩
  rotate_left
  · skip
    go_simp
    with_reducible rfl
  refine hK _ ?_
  clear hK K
  (try simp only [Act.put, List.setIfInBounds_toArray, List.set_cons_zero, List.set_cons_succ])
  refine wpQuiet_step_h hlq ?_
  clear hlq lq
  intro K lq hlq hK
  refine wanted_go (by rfl) ?_
  refine ⟨?_, fun W hW => ?_, ?_⟩
  rotate_left
  · skip
    go_simp
    with_reducible rfl
  refine hK _ ?_
  clear hK K
  (try simp only [Act.put, List.setIfInBounds_toArray, List.set_cons_zero, List.set_cons_succ])
  refine wpQuiet_step_h hlq ?_
  clear hlq lq
  intro K lq hlq hK
  refine wanted_go (by rfl) ?_
  refine ⟨?_, fun W hW => ?_, ?_⟩
  rotate_left
  · skip
    go_simp
    with_reducible rfl
  refine hK _ ?_
  clear hK K
  (try simp only [Act.put, List.setIfInBounds_toArray, List.set_cons_zero, List.set_cons_succ])
  refine wpQuiet_step_h hlq ?_
  clear hlq lq
  intro K lq hlq hK
  refine wanted_go (by rfl) ?_
  refine ⟨vPP p, fun W hW => ?_, ?_⟩
  · skip
    exact quiet_load 57 _ rfl rfl (ldPP (hW.all.get 2 (x := (w.heap.size, oPP p)) rfl) Hp.out)
  refine hK _ ?_
  clear hK K
  (try simp only [Act.put, List.setIfInBounds_toArray, List.set_cons_zero, List.set_cons_succ])
  refine wpQuiet_step_h hlq ?_
  clear hlq lq
  intro K lq hlq hK
  refine wanted_go (by rfl) ?_
  refine ⟨vPP q, fun W hW => ?_, ?_⟩
  · skip
    exact quiet_load 57 _ rfl rfl (ldPP (hW.all.get 1 (x := (w.heap.size + 1, oPP q)) rfl) Hq.out)
  refine hK _ ?_
  clear hK K
  (try simp only [Act.put, List.setIfInBounds_toArray, List.set_cons_zero, List.set_cons_succ])
  refine wpQuiet_step_h hlq ?_
  clear hlq lq
  intro K lq hlq hK
  refine wanted_go (by rfl) ?_
  refine ⟨.bool false, fun W hW => ?_, ?_⟩
  · skip
    exact quiet_eq (.inl rfl) (by rfl) (by rfl) (by rfl) guard57 (heq W)
  refine hK _ ?_
  clear hK K
  (try simp only [Act.put, List.setIfInBounds_toArray, List.set_cons_zero, List.set_cons_succ])
  refine wpQuiet_step_h hlq ?_
  clear hlq lq
  intro K lq hlq hK
  refine wanted_go (by rfl) ?_
  refine ⟨?_, fun W hW => ?_, ?_⟩
  rotate_left
  · skip
    go_simp
    with_reducible rfl
  refine hK _ ?_
  clear hK K
  (try simp only [Act.put, List.setIfInBounds_toArray, List.set_cons_zero, List.set_cons_succ])
  refine wpQuiet_step_h hlq ?_
  clear hlq lq
  intro K lq hlq hK
  refine wanted_go (by rfl) ?_
  refine ⟨?_, fun W hW => ?_, ?_⟩
  rotate_left
  · skip
    go_simp
    with_reducible rfl
  refine hK _ ?_
  clear hK K
  (try simp only [Act.put, List.setIfInBounds_toArray, List.set_cons_zero, List.set_cons_succ])
  refine wpQuiet_step_h hlq ?_
  clear hlq lq
  intro K lq hlq hK
  refine wanted_go (by rfl) ?_
  refine ⟨?_, fun W hW => ?_, ?_⟩
  rotate_left
  · skip
    go_simp
    with_reducible rfl
  refine hK _ ?_
  clear hK K
  (try simp only [Act.put, List.setIfInBounds_toArray, List.set_cons_zero, List.set_cons_succ])
  refine wpQuiet_step_h hlq ?_
  clear hlq lq
  intro K lq hlq hK
  refine wanted_go (by rfl) ?_
  refine ⟨?_, fun W hW => ?_, ?_⟩
  rotate_left
  · skip
    go_simp
    with_reducible rfl
  refine hK _ ?_
  clear hK K
  (try simp only [Act.put, List.setIfInBounds_toArray, List.set_cons_zero, List.set_cons_succ])
  refine wpQuiet_step_h hlq ?_
  clear hlq lq
  intro K lq hlq hK
  refine wanted_go (by rfl) ?_
  refine ⟨?_, fun W hW => ?_, ?_⟩
  rotate_left
  · skip
    go_simp
    with_reducible rfl
  refine hK _ ?_
  clear hK K
  (try simp only [Act.put, List.setIfInBounds_toArray, List.set_cons_zero, List.set_cons_succ])
  refine wpQuiet_step_h hlq ?_
  clear hlq lq
  intro K lq hlq hK
  refine wanted_go (by rfl) ?_
  refine ⟨?_, fun W hW => ?_, ?_⟩
  rotate_left
  · skip
    go_simp
    with_reducible rfl
  refine hK _ ?_
  clear hK K
  (try simp only [Act.put, List.setIfInBounds_toArray, List.set_cons_zero, List.set_cons_succ])
  refine wpQuiet_step_h hlq ?_
  clear hlq lq
  intro K lq hlq hK
  refine wanted_go (by rfl) ?_
  refine ⟨?_, fun W hW => ?_, ?_⟩
  rotate_left
  · skip
    go_simp
    with_reducible rfl
  refine hK _ ?_
  clear hK K
  (try simp only [Act.put, List.setIfInBounds_toArray, List.set_cons_zero, List.set_cons_succ])
  refine wpQuiet_step_h hlq ?_
  clear hlq lq
  intro K lq hlq hK
  refine wanted_go (by rfl) ?_
  refine ⟨?_, fun W hW => ?_, ?_⟩
  rotate_left
  · skip
    go_simp
    with_reducible rfl
  refine hK _ ?_
  clear hK K
  (try simp only [Act.put, List.setIfInBounds_toArray, List.set_cons_zero, List.set_cons_succ])
  refine wpQuiet_step_h hlq ?_
  clear hlq lq
  intro K lq hlq hK
  refine wanted_go (by rfl) ?_
  refine ⟨?_, fun W hW => ?_, ?_⟩
  rotate_left
  · skip
    go_simp
    with_reducible rfl
  refine hK _ ?_
  clear hK K
  (try simp only [Act.put, List.setIfInBounds_toArray, List.set_cons_zero, List.set_cons_succ])
  refine wpQuiet_step_h hlq ?_
  clear hlq lq
  intro K lq hlq hK
  refine wanted_go (by rfl) ?_
  refine ⟨?_, fun W hW => ?_, ?_⟩
  rotate_left
  · skip
    go_simp
    with_reducible rfl
  refine hK _ ?_
  clear hK K
  (try simp only [Act.put, List.setIfInBounds_toArray, List.set_cons_zero, List.set_cons_succ])
  refine wpQuiet_step_h hlq ?_
  clear hlq lq
  intro K lq hlq hK
  go_simp
  refine hK _ ?_
  clear hK K
  refine wpQuiet_step_h hlq ?_
  clear hlq lq
  intro K lq hlq hK
  go_simp
  refine hK _ ?_
  clear hK K
  refine wpQuiet_step_h hlq ?_
  clear hlq lq
  intro K lq hlq hK
  refine wanted_go (by rfl) ?_
  refine ⟨?_, fun W hW => ?_, ?_⟩
  rotate_left
  · skip
    go_simp
    with_reducible rfl
  refine hK _ ?_
  clear hK K
  (try simp only [Act.put, List.setIfInBounds_toArray, List.set_cons_zero, List.set_cons_succ])
  refine wpQuiet_step_h hlq ?_
  clear hlq lq
  intro K lq hlq hK
  refine wanted_go (by rfl) ?_
  refine ⟨?_, fun W hW => ?_, ?_⟩
  rotate_left
  · skip
    go_simp
    with_reducible rfl
  refine hK _ ?_
  clear hK K
  (try simp only [Act.put, List.setIfInBounds_toArray, List.set_cons_zero, List.set_cons_succ])
  refine wpQuiet_step_h hlq ?_
  clear hlq lq
  intro K lq hlq hK
  refine wanted_go (by rfl) ?_
  refine ⟨?_, fun W hW => ?_, ?_⟩
  rotate_left
  · skip
    go_simp
    with_reducible rfl
  refine hK _ ?_
  clear hK K
  (try simp only [Act.put, List.setIfInBounds_toArray, List.set_cons_zero, List.set_cons_succ])
  refine wpQuiet_step_h hlq ?_
  clear hlq lq
  intro K lq hlq hK
  refine wanted_go (by rfl) ?_
  refine ⟨?_, fun W hW => ?_, ?_⟩
  rotate_left
  · skip
    go_simp
    with_reducible rfl
  refine hK _ ?_
  clear hK K
  (try simp only [Act.put, List.setIfInBounds_toArray, List.set_cons_zero, List.set_cons_succ])
  refine wpQuiet_step_h hlq ?_
  clear hlq lq
  intro K lq hlq hK
  refine wanted_go (by rfl) ?_
  refine ⟨?_, fun W hW => ?_, ?_⟩
  rotate_left
  · skip
    go_simp
    with_reducible rfl
  refine hK _ ?_
  clear hK K
  (try simp only [Act.put, List.setIfInBounds_toArray, List.set_cons_zero, List.set_cons_succ])
  refine wpQuiet_step_h hlq ?_
  clear hlq lq
  intro K lq hlq hK
  refine wanted_go (by rfl) ?_
  refine ⟨?_, fun W hW => ?_, ?_⟩
  rotate_left
  · skip
    go_simp
    with_reducible rfl
  refine hK _ ?_
  clear hK K
  (try simp only [Act.put, List.setIfInBounds_toArray, List.set_cons_zero, List.set_cons_succ])
  refine wpQuiet_step_h hlq ?_
  clear hlq lq
  intro K lq hlq hK
  refine wanted_go (by rfl) ?_
  refine ⟨?_, fun W hW => ?_, ?_⟩
  rotate_left
  · skip
    go_simp
    with_reducible rfl
  refine hK _ ?_
  clear hK K
  (try simp only [Act.put, List.setIfInBounds_toArray, List.set_cons_zero, List.set_cons_succ])
  refine wpQuiet_step_h hlq ?_
  clear hlq lq
  intro K lq hlq hK
  refine wanted_go (by rfl) ?_
  refine ⟨?_, fun W hW => ?_, ?_⟩
  rotate_left
  · skip
    go_simp
    with_reducible rfl
  refine hK _ ?_
  clear hK K
  (try simp only [Act.put, List.setIfInBounds_toArray, List.set_cons_zero, List.set_cons_succ])
  refine wpQuiet_step_h hlq ?_
  clear hlq lq
  intro K lq hlq hK
  refine wanted_go (by rfl) ?_
  refine ⟨?_, fun W hW => ?_, ?_⟩
  rotate_left
  · skip
    go_simp
    with_reducible rfl
  refine hK _ ?_
  clear hK K
  (try simp only [Act.put, List.setIfInBounds_toArray, List.set_cons_zero, List.set_cons_succ])
  refine wpQuiet_step_h hlq ?_
  clear hlq lq
  intro K lq hlq hK
  refine wanted_go (by rfl) ?_
  refine ⟨?_, fun W hW => ?_, ?_⟩
  rotate_left
  · skip
    go_simp
    with_reducible rfl
  refine hK _ ?_
  clear hK K
  (try simp only [Act.put, List.setIfInBounds_toArray, List.set_cons_zero, List.set_cons_succ])
  refine wpQuiet_step_h hlq ?_
  clear hlq lq
  intro K lq hlq hK
  go_simp
  refine hK _ ?_
  clear hK K
  refine wpQuiet_step_h hlq ?_
  clear hlq lq
  intro K lq hlq hK
  go_simp
  refine hK _ ?_
  clear hK K
  refine wpQuiet_step_h hlq ?_
  clear hlq lq
  intro K lq hlq hK
  refine wanted_go (by rfl) ?_
  refine ⟨?_, fun W hW => ?_, ?_⟩
  rotate_left
  · skip
    go_simp
    with_reducible rfl
  refine hK _ ?_
  clear hK K
  (try simp only [Act.put, List.setIfInBounds_toArray, List.set_cons_zero, List.set_cons_succ])
  refine wpQuiet_step_h hlq ?_
  clear hlq lq
  intro K lq hlq hK
  refine wanted_go (by rfl) ?_
  refine ⟨?_, fun W hW => ?_, ?_⟩
  rotate_left
  · skip
    go_simp
    with_reducible rfl
  refine hK _ ?_
  clear hK K
  (try simp only [Act.put, List.setIfInBounds_toArray, List.set_cons_zero, List.set_cons_succ])
  refine wpQuiet_nil_h hlq ?_
  clear hlq lq hV2
  intro V3 hV4
  go_wp2_with fail
  refine wp_region_C (C := Bz w [(w.heap.size + 2, oPP r), (w.heap.size + 1, oPP q), (w.heap.size, oPP p)]) (by kernel_rfl) (by kernel_rfl) (hV4.drew) ?_
  refine wpQuiet_hide ?_
  intro lq hlq
  refine wpQuiet_step_h hlq ?_
  clear hlq lq
  intro K lq hlq hK
  refine wanted_go (by rfl) ?_
  refine ⟨?_, fun W hW => ?_, ?_⟩
  rotate_left
  · skip
    go_simp
    with_reducible rfl
  refine hK _ ?_
  clear hK K
  (try simp only [Act.put, List.setIfInBounds_toArray, List.set_cons_zero, List.set_cons_succ])
  refine wpQuiet_step_h hlq ?_
  clear hlq lq
  intro K lq hlq hK
  refine wanted_go (by rfl) ?_
  refine ⟨vPf p.d, fun W hW => ?_, ?_⟩
  · skip
    exact quiet_load 55 _ rfl rfl (ldPPd (hW.all.get 2 (x := (w.heap.size, oPP p)) rfl) Hp.out)
  refine hK _ ?_
  clear hK K
  (try simp only [Act.put, List.setIfInBounds_toArray, List.set_cons_zero, List.set_cons_succ])
  refine wpQuiet_step_h hlq ?_
  clear hlq lq
  intro K lq hlq hK
  refine wanted_go (by rfl) ?_
  refine ⟨?_, fun W hW => ?_, ?_⟩
  rotate_left
  · skip
    go_simp
    with_reducible rfl
  refine hK _ ?_
  clear hK K
  (try simp only [Act.put, List.setIfInBounds_toArray, List.set_cons_zero, List.set_cons_succ])
  refine wpQuiet_step_h hlq ?_
  clear hlq lq
  intro K lq hlq hK
  refine wanted_go (by rfl) ?_
  refine ⟨vPf q.d, fun W hW => ?_, ?_⟩
  · skip
    exact quiet_load 55 _ rfl rfl (ldPPd (hW.all.get 1 (x := (w.heap.size + 1, oPP q)) rfl) Hq.out)
  refine hK _ ?_
  clear hK K
  (try simp only [Act.put, List.setIfInBounds_toArray, List.set_cons_zero, List.set_cons_succ])
  refine wpQuiet_step_h hlq ?_
  clear hlq lq
  intro K lq hlq hK
  refine wanted_go (by rfl) ?_
  refine ⟨.int .i64 (-1), fun W hW => ?_, ?_⟩
  · go_simp
    exact (cmpP_call Hp.out.1 Hq.out.1 hd.out).mono fun e W2 hc2 => ⟨hc2.1, hW.go hc2.2⟩
  refine hK _ ?_
  clear hK K
  (try simp only [Act.put, List.setIfInBounds_toArray, List.set_cons_zero, List.set_cons_succ])
  refine wpQuiet_step_h hlq ?_
  clear hlq lq
  intro K lq hlq hK
  refine wanted_go (by rfl) ?_
  refine ⟨?_, fun W hW => ?_, ?_⟩
  rotate_left
  · skip
    go_simp
    with_reducible rfl
  refine hK _ ?_
  clear hK K
  (try simp only [Act.put, List.setIfInBounds_toArray, List.set_cons_zero, List.set_cons_succ])
  refine wpQuiet_step_h hlq ?_
  clear hlq lq
  intro K lq hlq hK
  refine wanted_go (by rfl) ?_
  refine ⟨vPf q.d, fun W hW => ?_, ?_⟩
  · skip
    exact quiet_load 55 _ rfl rfl (ldPPd (hW.all.get 1 (x := (w.heap.size + 1, oPP q)) rfl) Hq.out)
  refine hK _ ?_
  clear hK K
  (try simp only [Act.put, List.setIfInBounds_toArray, List.set_cons_zero, List.set_cons_succ])
  refine wpQuiet_step_h hlq ?_
  clear hlq lq
  intro K lq hlq hK
  refine wanted_go (by rfl) ?_
  refine ⟨?_, fun W hW => ?_, ?_⟩
  rotate_left
  · skip
    go_simp
    with_reducible rfl
  refine hK _ ?_
  clear hK K
  (try simp only [Act.put, List.setIfInBounds_toArray, List.set_cons_zero, List.set_cons_succ])
  refine wpQuiet_step_h hlq ?_
  clear hlq lq
  intro K lq hlq hK
  refine wanted_go (by rfl) ?_
  refine ⟨vPf p.d, fun W hW => ?_, ?_⟩
  · skip
    exact quiet_load 55 _ rfl rfl (ldPPd (hW.all.get 2 (x := (w.heap.size, oPP p)) rfl) Hp.out)
  refine hK _ ?_
  clear hK K
  (try simp only [Act.put, List.setIfInBounds_toArray, List.set_cons_zero, List.set_cons_succ])
  refine wpQuiet_step_h hlq ?_
  clear hlq lq
  intro K lq hlq hK
  refine wanted_go (by rfl) ?_
  refine ⟨.int .i64 1, fun W hW => ?_, ?_⟩
  · go_simp
    exact (cmpP_call Hq.out.1 Hp.out.1 hd2.out).mono fun e W2 hc2 => ⟨hc2.1, hW.go hc2.2⟩
  refine hK _ ?_
  clear hK K
  (try simp only [Act.put, List.setIfInBounds_toArray, List.set_cons_zero, List.set_cons_succ])
  refine wpQuiet_step_h hlq ?_
  clear hlq lq
  intro K lq hlq hK
  refine wanted_go (by rfl) ?_
  refine ⟨?_, fun W hW => ?_, ?_⟩
  rotate_left
  · skip
    go_simp
    with_reducible rfl
  refine hK _ ?_
  clear hK K
  (try simp only [Act.put, List.setIfInBounds_toArray, List.set_cons_zero, List.set_cons_succ])
  refine wpQuiet_step_h hlq ?_
  clear hlq lq
  intro K lq hlq hK
  refine wanted_go (by rfl) ?_
  refine ⟨?_, fun W hW => ?_, ?_⟩
  rotate_left
  · skip
    go_simp
    with_reducible rfl
  refine hK _ ?_
  clear hK K
  (try simp only [Act.put, List.setIfInBounds_toArray, List.set_cons_zero, List.set_cons_succ])
  refine wpQuiet_nil_h hlq ?_
  clear hlq lq hV4
  intro V5 hV6
  go_wp2_with (refine wpList_quiet (C := Bz w [(w.heap.size + 2, oPP r), (w.heap.size + 1, oPP q), (w.heap.size, oPP p)]) 35 (by rfl) hV6 ?_)
  refine wpQuiet_hide ?_
  intro lq hlq
  refine wpQuiet_step_h hlq ?_
  clear hlq lq
  intro K lq hlq hK
  refine wanted_go (by rfl) ?_
  refine ⟨?_, fun W hW => ?_, ?_⟩
  rotate_left
  · skip
    go_simp
    with_reducible rfl
  refine hK _ ?_
  clear hK K
  (try simp only [Act.put, List.setIfInBounds_toArray, List.set_cons_zero, List.set_cons_succ])
  refine wpQuiet_step_h hlq ?_
  clear hlq lq
  intro K lq hlq hK
  refine wanted_go (by rfl) ?_
  refine ⟨?_, fun W hW => ?_, ?_⟩
  rotate_left
  · skip
    go_simp
    with_reducible rfl
  refine hK _ ?_
  clear hK K
  (try simp only [Act.put, List.setIfInBounds_toArray, List.set_cons_zero, List.set_cons_succ])
  refine wpQuiet_step_h hlq ?_
  clear hlq lq
  intro K lq hlq hK
  refine wanted_go (by rfl) ?_
  refine ⟨?_, fun W hW => ?_, ?_⟩
  rotate_left
  · skip
    go_simp
    with_reducible rfl
  refine hK _ ?_
  clear hK K
  (try simp only [Act.put, List.setIfInBounds_toArray, List.set_cons_zero, List.set_cons_succ])
  refine wpQuiet_step_h hlq ?_
  clear hlq lq
  intro K lq hlq hK
  refine wanted_go (by rfl) ?_
  refine ⟨?_, fun W hW => ?_, ?_⟩
  rotate_left
  · skip
    go_simp
    with_reducible rfl
  refine hK _ ?_
  clear hK K
  (try simp only [Act.put, List.setIfInBounds_toArray, List.set_cons_zero, List.set_cons_succ])
  refine wpQuiet_step_h hlq ?_
  clear hlq lq
  intro K lq hlq hK
  refine wanted_go (by rfl) ?_
  refine ⟨?_, fun W hW => ?_, ?_⟩
  rotate_left
  · skip
    go_simp
    with_reducible rfl
  refine hK _ ?_
  clear hK K
  (try simp only [Act.put, List.setIfInBounds_toArray, List.set_cons_zero, List.set_cons_succ])
  refine wpQuiet_step_h hlq ?_
  clear hlq lq
  intro K lq hlq hK
  refine wanted_go (by rfl) ?_
  refine ⟨?_, fun W hW => ?_, ?_⟩
  rotate_left
  · skip
    go_simp
    with_reducible rfl
  refine hK _ ?_
  clear hK K
  (try simp only [Act.put, List.setIfInBounds_toArray, List.set_cons_zero, List.set_cons_succ])
  refine wpQuiet_step_h hlq ?_
  clear hlq lq
  intro K lq hlq hK
  refine wanted_go (by rfl) ?_
  refine ⟨vPf p.d, fun W hW => ?_, ?_⟩
  · skip
    exact quiet_load 55 _ rfl rfl (ldPPd (hW.all.get 2 (x := (w.heap.size, oPP p)) rfl) Hp.out)
  refine hK _ ?_
  clear hK K
  (try simp only [Act.put, List.setIfInBounds_toArray, List.set_cons_zero, List.set_cons_succ])
  refine wpQuiet_step_h hlq ?_
  clear hlq lq
  intro K lq hlq hK
  refine wanted_go (by rfl) ?_
  refine ⟨?_, fun W hW => ?_, ?_⟩
  rotate_left
  · skip
    go_simp
    with_reducible rfl
  refine hK _ ?_
  clear hK K
  (try simp only [Act.put, List.setIfInBounds_toArray, List.set_cons_zero, List.set_cons_succ])
  refine wpQuiet_step_h hlq ?_
  clear hlq lq
  intro K lq hlq hK
  refine wanted_go (by rfl) ?_
  refine ⟨vPf q.d, fun W hW => ?_, ?_⟩
  · skip
    exact quiet_load 55 _ rfl rfl (ldPPd (hW.all.get 1 (x := (w.heap.size + 1, oPP q)) rfl) Hq.out)
  refine hK _ ?_
  clear hK K
  (try simp only [Act.put, List.setIfInBounds_toArray, List.set_cons_zero, List.set_cons_succ])
  refine wpQuiet_step_h hlq ?_
  clear hlq lq
  intro K lq hlq hK
  refine wanted_go (by rfl) ?_
  refine ⟨.bool false, fun W hW => ?_, ?_⟩
  · skip
    exact quiet_eq (.inl rfl) (by rfl) (by rfl) (by rfl) guard55 (hef W)
  refine hK _ ?_
  clear hK K
  (try simp only [Act.put, List.setIfInBounds_toArray, List.set_cons_zero, List.set_cons_succ])
  refine wpQuiet_step_h hlq ?_
  clear hlq lq
  intro K lq hlq hK
  refine wanted_go (by rfl) ?_
  refine ⟨?_, fun W hW => ?_, ?_⟩
  rotate_left
  · skip
    go_simp
    with_reducible rfl
  refine hK _ ?_
  clear hK K
  (try simp only [Act.put, List.setIfInBounds_toArray, List.set_cons_zero, List.set_cons_succ])
  refine wpQuiet_step_h hlq ?_
  clear hlq lq
  intro K lq hlq hK
  refine wanted_go (by rfl) ?_
  refine ⟨?_, fun W hW => ?_, ?_⟩
  rotate_left
  · skip
    go_simp
    with_reducible rfl
  refine hK _ ?_
  clear hK K
  (try simp only [Act.put, List.setIfInBounds_toArray, List.set_cons_zero, List.set_cons_succ])
  refine wpQuiet_step_h hlq ?_
  clear hlq lq
  intro K lq hlq hK
  refine wanted_go (by rfl) ?_
  refine ⟨?_, fun W hW => ?_, ?_⟩
  rotate_left
  · skip
    go_simp
    with_reducible rfl
  refine hK _ ?_
  clear hK K
  (try simp only [Act.put, List.setIfInBounds_toArray, List.set_cons_zero, List.set_cons_succ])
  refine wpQuiet_step_h hlq ?_
  clear hlq lq
  intro K lq hlq hK
  refine wanted_go (by rfl) ?_
  refine ⟨?_, fun W hW => ?_, ?_⟩
  rotate_left
  · skip
    go_simp
    with_reducible rfl
  refine hK _ ?_
  clear hK K
  (try simp only [Act.put, List.setIfInBounds_toArray, List.set_cons_zero, List.set_cons_succ])
  refine wpQuiet_step_h hlq ?_
  clear hlq lq
  intro K lq hlq hK
  refine wanted_go (by rfl) ?_
  refine ⟨?_, fun W hW => ?_, ?_⟩
  rotate_left
  · skip
    go_simp
    with_reducible rfl
  refine hK _ ?_
  clear hK K
  (try simp only [Act.put, List.setIfInBounds_toArray, List.set_cons_zero, List.set_cons_succ])
  refine wpQuiet_step_h hlq ?_
  clear hlq lq
  intro K lq hlq hK
  refine wanted_go (by rfl) ?_
  refine ⟨?_, fun W hW => ?_, ?_⟩
  rotate_left
  · skip
    go_simp
    with_reducible rfl
  refine hK _ ?_
  clear hK K
  (try simp only [Act.put, List.setIfInBounds_toArray, List.set_cons_zero, List.set_cons_succ])
  refine wpQuiet_step_h hlq ?_
  clear hlq lq
  intro K lq hlq hK
  refine wanted_go (by rfl) ?_
  refine ⟨?_, fun W hW => ?_, ?_⟩
  rotate_left
  · skip
    go_simp
    with_reducible rfl
  refine hK _ ?_
  clear hK K
  (try simp only [Act.put, List.setIfInBounds_toArray, List.set_cons_zero, List.set_cons_succ])
  refine wpQuiet_step_h hlq ?_
  clear hlq lq
  intro K lq hlq hK
  refine wanted_go (by rfl) ?_
  refine ⟨?_, fun W hW => ?_, ?_⟩
  rotate_left
  · skip
    go_simp
    with_reducible rfl
  refine hK _ ?_
  clear hK K
  (try simp only [Act.put, List.setIfInBounds_toArray, List.set_cons_zero, List.set_cons_succ])
  refine wpQuiet_step_h hlq ?_
  clear hlq lq
  intro K lq hlq hK
  refine wanted_go (by rfl) ?_
  refine ⟨?_, fun W hW => ?_, ?_⟩
  rotate_left
  · skip
    go_simp
    with_reducible rfl
  refine hK _ ?_
  clear hK K
  (try simp only [Act.put, List.setIfInBounds_toArray, List.set_cons_zero, List.set_cons_succ])
  refine wpQuiet_step_h hlq ?_
  clear hlq lq
  intro K lq hlq hK
  refine wanted_go (by rfl) ?_
  refine ⟨?_, fun W hW => ?_, ?_⟩
  rotate_left
  · skip
    go_simp
    with_reducible rfl
  refine hK _ ?_
  clear hK K
  (try simp only [Act.put, List.setIfInBounds_toArray, List.set_cons_zero, List.set_cons_succ])
  refine wpQuiet_step_h hlq ?_
  clear hlq lq
  intro K lq hlq hK
  refine wanted_go (by rfl) ?_
  refine ⟨?_, fun W hW => ?_, ?_⟩
  rotate_left
  · skip
    go_simp
    with_reducible rfl
  refine hK _ ?_
  clear hK K
  (try simp only [Act.put, List.setIfInBounds_toArray, List.set_cons_zero, List.set_cons_succ])
  refine wpQuiet_step_h hlq ?_
  clear hlq lq
  intro K lq hlq hK
  refine wanted_go (by rfl) ?_
  refine ⟨?_, fun W hW => ?_, ?_⟩
  rotate_left
  · skip
    go_simp
    with_reducible rfl
  refine hK _ ?_
  clear hK K
  (try simp only [Act.put, List.setIfInBounds_toArray, List.set_cons_zero, List.set_cons_succ])
  refine wpQuiet_step_h hlq ?_
  clear hlq lq
  intro K lq hlq hK
  refine wanted_go (by rfl) ?_
  refine ⟨?_, fun W hW => ?_, ?_⟩
  rotate_left
  · skip
    go_simp
    with_reducible rfl
  refine hK _ ?_
  clear hK K
  (try simp only [Act.put, List.setIfInBounds_toArray, List.set_cons_zero, List.set_cons_succ])
  refine wpQuiet_step_h hlq ?_
  clear hlq lq
  intro K lq hlq hK
  refine wanted_go (by rfl) ?_
  refine ⟨?_, fun W hW => ?_, ?_⟩
  rotate_left
  · skip
    go_simp
    with_reducible rfl
  refine hK _ ?_
  clear hK K
  (try simp only [Act.put, List.setIfInBounds_toArray, List.set_cons_zero, List.set_cons_succ])
  refine wpQuiet_step_h hlq ?_
  clear hlq lq
  intro K lq hlq hK
  refine wanted_go (by rfl) ?_
  refine ⟨vA p.d.a, fun W hW => ?_, ?_⟩
  · skip
    exact quiet_load 42 _ rfl rfl (ldPPda (hW.all.get 2 (x := (w.heap.size, oPP p)) rfl) Hp.out)
  refine hK _ ?_
  clear hK K
  (try simp only [Act.put, List.setIfInBounds_toArray, List.set_cons_zero, List.set_cons_succ])
  refine wpQuiet_step_h hlq ?_
  clear hlq lq
  intro K lq hlq hK
  refine wanted_go (by rfl) ?_
  refine ⟨?_, fun W hW => ?_, ?_⟩
  rotate_left
  · skip
    go_simp
    with_reducible rfl
  refine hK _ ?_
  clear hK K
  (try simp only [Act.put, List.setIfInBounds_toArray, List.set_cons_zero, List.set_cons_succ])
  refine wpQuiet_step_h hlq ?_
  clear hlq lq
  intro K lq hlq hK
  refine wanted_go (by rfl) ?_
  refine ⟨?_, fun W hW => ?_, ?_⟩
  rotate_left
  · skip
    go_simp
    with_reducible rfl
  refine hK _ ?_
  clear hK K
  (try simp only [Act.put, List.setIfInBounds_toArray, List.set_cons_zero, List.set_cons_succ])
  refine wpQuiet_step_h hlq ?_
  clear hlq lq
  intro K lq hlq hK
  refine wanted_go (by rfl) ?_
  refine ⟨vA p.d.a, fun W hW => ?_, ?_⟩
  · skip
    exact quiet_load 42 _ rfl rfl (ldPPda (hW.all.get 2 (x := (w.heap.size, oPP p)) rfl) Hp.out)
  refine hK _ ?_
  clear hK K
  (try simp only [Act.put, List.setIfInBounds_toArray, List.set_cons_zero, List.set_cons_succ])
  refine wpQuiet_step_h hlq ?_
  clear hlq lq
  intro K lq hlq hK
  refine wanted_go (by rfl) ?_
  refine ⟨.int .i64 0, fun W hW => ?_, ?_⟩
  · go_simp
    have E' := hW.env E
    exact (cmpA_call Hp.out.1.1 Hp.out.1.1 ha.out).mono fun e W2 hc2 => ⟨hc2.1, hW.go hc2.2⟩
  refine hK _ ?_
  clear hK K
  (try simp only [Act.put, List.setIfInBounds_toArray, List.set_cons_zero, List.set_cons_succ])
  refine wpQuiet_step_h hlq ?_
  clear hlq lq
  intro K lq hlq hK
  refine wanted_go (by rfl) ?_
  refine ⟨?_, fun W hW => ?_, ?_⟩
  rotate_left
  · skip
    go_simp
    with_reducible rfl
  refine hK _ ?_
  clear hK K
  (try simp only [Act.put, List.setIfInBounds_toArray, List.set_cons_zero, List.set_cons_succ])
  refine wpQuiet_step_h hlq ?_
  clear hlq lq
  intro K lq hlq hK
  refine wanted_go (by rfl) ?_
  refine ⟨?_, fun W hW => ?_, ?_⟩
  rotate_left
  · skip
    go_simp
    with_reducible rfl
  refine hK _ ?_
  clear hK K
  (try simp only [Act.put, List.setIfInBounds_toArray, List.set_cons_zero, List.set_cons_succ])
  refine wpQuiet_step_h hlq ?_
  clear hlq lq
  intro K lq hlq hK
  refine wanted_go (by rfl) ?_
  refine ⟨?_, fun W hW => ?_, ?_⟩
  rotate_left
  · skip
    go_simp
    with_reducible rfl
  refine hK _ ?_
  clear hK K
  (try simp only [Act.put, List.setIfInBounds_toArray, List.set_cons_zero, List.set_cons_succ])
  refine wpQuiet_step_h hlq ?_
  clear hlq lq
  intro K lq hlq hK
  refine wanted_go (by rfl) ?_
  refine ⟨.bool true, fun W hW => ?_, ?_⟩
  · go_simp
    have E' := hW.env E
    exact (live02_any E').mono fun e W2 hc2 => ⟨hc2.1, hW.go hc2.2⟩
  refine hK _ ?_
  clear hK K
  (try simp only [Act.put, List.setIfInBounds_toArray, List.set_cons_zero, List.set_cons_succ])
  refine wpQuiet_step_h hlq ?_
  clear hlq lq
  intro K lq hlq hK
  refine wanted_go (by rfl) ?_
  refine ⟨?_, fun W hW => ?_, ?_⟩
  rotate_left
  · skip
    go_simp
    with_reducible rfl
  refine hK _ ?_
  clear hK K
  (try simp only [Act.put, List.setIfInBounds_toArray, List.set_cons_zero, List.set_cons_succ])
  refine wpQuiet_step_h hlq ?_
  clear hlq lq
  intro K lq hlq hK
  refine wanted_go (by rfl) ?_
  refine ⟨?_, fun W hW => ?_, ?_⟩
  rotate_left
  · skip
    go_simp
    with_reducible rfl
  refine hK _ ?_
  clear hK K
  (try simp only [Act.put, List.setIfInBounds_toArray, List.set_cons_zero, List.set_cons_succ])
  refine wpQuiet_nil_h hlq ?_
  clear hlq lq hV6
  intro V7 hV8
  go_wp2_with fail
  go_ret
  exact ⟨rfl, hV8.bel⟩
set_option maxRecDepth 100000 in
set_option maxHeartbeats 3200000 in
theorem order_m1z {p q r : Pr} (hp : p.fit) (hq : q.fit) (hr : r.fit) {w : World} (E : Env w) (hx : cmpPP p q = (-1)) (hy : cmpPP q p = 1) {b c : Int} (hb : cmpPP q r = b) (hc : cmpPP p r = c) (hd : cmpP p.d q.d = (-1)) (hd2 : cmpP q.d p.d = 1) (he : decide (p = q) = false) (hf : decide (p.d = q.d) = false) (ha : cmpA p.d.a p.d.a = 0) (f1 : decide (b ≤ 0) = true) (f2 : decide (0 < c) = false) (f3 : decide (b < 0) = false) : Calls Tryz.prog 9 #[vPP p, vPP q, vPP r] w fun e w' => e = .returned (.bool true) ∧ Below w.heap.size w w' := by
  have heq := fun W => eql_PP W hp hq
  have hef := fun W => eql_P W hp.1 hq.1
  rw [he] at heq
  rw [hf] at hef
  clear he hf
  have Hp := Lib.hid hp
  have Hq := Lib.hid hq
  have Hr := Lib.hid hr
  have B := ((((Bz.start w).alloc (oPP p) rfl).alloc (oPP q) (World.size_alloc _ _)).alloc (oPP r) (show _ = w.heap.size + 2 by simp) : Bz w [(w.heap.size + 2, oPP r), (w.heap.size + 1, oPP q), (w.heap.size, oPP p)] _)
  clear hp hq hr
  replace hx := Lib.hid hx
  replace hy := Lib.hid hy
  replace hb := Lib.hid hb
  replace hc := Lib.hid hc
  replace hd := Lib.hid hd
  replace hd2 := Lib.hid hd2
  replace ha := Lib.hid ha
  unfold vPP
  go_enter Tryz.func9, Tryz.ntmps9
  go_wp2_with fail
  refine wp_region_C (C := Bz w [(w.heap.size + 2, oPP r), (w.heap.size + 1, oPP q), (w.heap.size, oPP p)]) (by kernel_rfl) (by kernel_rfl) (B.drew) ?_
  refine wpQuiet_hide ?_
  intro lq hlq
  refine wpQuiet_step_h hlq ?_
  clear hlq lq
  intro K lq hlq hK
  refine wanted_go (by rfl) ?_
  refine ⟨vPP p, fun W hW => ?_, ?_⟩
  · skip
    exact quiet_load 57 _ rfl rfl (ldPP (hW.all.get 2 (x := (w.heap.size, oPP p)) rfl) Hp.out)
  refine hK _ ?_
  clear hK K
  (try simp only [Act.put, List.setIfInBounds_toArray, List.set_cons_zero, List.set_cons_succ])
  refine wpQuiet_step_h hlq ?_
  clear hlq lq
  intro K lq hlq hK
  refine wanted_go (by rfl) ?_
  refine ⟨vPP q, fun W hW => ?_, ?_⟩
  · skip
    exact quiet_load 57 _ rfl rfl (ldPP (hW.all.get 1 (x := (w.heap.size + 1, oPP q)) rfl) Hq.out)
  refine hK _ ?_
  clear hK K
  (try simp only [Act.put, List.setIfInBounds_toArray, List.set_cons_zero, List.set_cons_succ])
  refine wpQuiet_step_h hlq ?_
  clear hlq lq
  intro K lq hlq hK
  refine wanted_go (by rfl) ?_
  refine ⟨.int .i64 (-1), fun W hW => ?_, ?_⟩
  · go_simp
    exact (cmpPP_call Hp.out Hq.out hx.out).mono fun e W2 hc2 => ⟨hc2.1, hW.go hc2.2⟩
  refine hK _ ?_
  clear hK K
  (try simp only [Act.put, List.setIfInBounds_toArray, List.set_cons_zero, List.set_cons_succ])
  refine wpQuiet_step_h hlq ?_
  clear hlq lq
  intro K lq hlq hK
  refine wanted_go (by rfl) ?_
  refine ⟨vPP q, fun W hW => ?_, ?_⟩
  · skip
    exact quiet_load 57 _ rfl rfl (ldPP (hW.all.get 1 (x := (w.heap.size + 1, oPP q)) rfl) Hq.out)
  refine hK _ ?_
  clear hK K
  (try simp only [Act.put, List.setIfInBounds_toArray, List.set_cons_zero, List.set_cons_succ])
  refine wpQuiet_step_h hlq ?_
  clear hlq lq
  intro K lq hlq hK
  refine wanted_go (by rfl) ?_
  refine ⟨vPP r, fun W hW => ?_, ?_⟩
  · skip
    exact quiet_load 57 _ rfl rfl (ldPP (hW.all.get 0 (x := (w.heap.size + 2, oPP r)) rfl) Hr.out)
  refine hK _ ?_
  clear hK K
  (try simp only [Act.put, List.setIfInBounds_toArray, List.set_cons_zero, List.set_cons_succ])
  refine wpQuiet_step_h hlq ?_
  clear hlq lq
  intro K lq hlq hK
  refine wanted_go (by rfl) ?_
  refine ⟨.int .i64 b, fun W hW => ?_, ?_⟩
  · go_simp
    exact (cmpPP_call Hq.out Hr.out hb.out).mono fun e W2 hc2 => ⟨hc2.1, hW.go hc2.2⟩
  refine hK _ ?_
  clear hK K
  (try simp only [Act.put, List.setIfInBounds_toArray, List.set_cons_zero, List.set_cons_succ])
  refine wpQuiet_step_h hlq ?_
  clear hlq lq
  intro K lq hlq hK
  refine wanted_go (by rfl) ?_
  refine ⟨vPP p, fun W hW => ?_, ?_⟩
  · skip
    exact quiet_load 57 _ rfl rfl (ldPP (hW.all.get 2 (x := (w.heap.size, oPP p)) rfl) Hp.out)
  refine hK _ ?_
  clear hK K
  (try simp only [Act.put, List.setIfInBounds_toArray, List.set_cons_zero, List.set_cons_succ])
  refine wpQuiet_step_h hlq ?_
  clear hlq lq
  intro K lq hlq hK
  refine wanted_go (by rfl) ?_
  refine ⟨vPP r, fun W hW => ?_, ?_⟩
  · skip
    exact quiet_load 57 _ rfl rfl (ldPP (hW.all.get 0 (x := (w.heap.size + 2, oPP r)) rfl) Hr.out)
  refine hK _ ?_
  clear hK K
  (try simp only [Act.put, List.setIfInBounds_toArray, List.set_cons_zero, List.set_cons_succ])
  refine wpQuiet_step_h hlq ?_
  clear hlq lq
  intro K lq hlq hK
  refine wanted_go (by rfl) ?_
  refine ⟨.int .i64 c, fun W hW => ?_, ?_⟩
  · go_simp
    exact (cmpPP_call Hp.out Hr.out hc.out).mono fun e W2 hc2 => ⟨hc2.1, hW.go hc2.2⟩
  refine hK _ ?_
  clear hK K
  (try simp only [Act.put, List.setIfInBounds_toArray, List.set_cons_zero, List.set_cons_succ])
  refine wpQuiet_step_h hlq ?_
  clear hlq lq
  intro K lq hlq hK
  refine wanted_go (by rfl) ?_
  refine ⟨?_, fun W hW => ?_, ?_⟩
  rotate_left
  · skip
    go_simp
    with_reducible rfl
  refine hK _ ?_
  clear hK K
  (try simp only [Act.put, List.setIfInBounds_toArray, List.set_cons_zero, List.set_cons_succ])
  refine wpQuiet_step_h hlq ?_
  clear hlq lq
  intro K lq hlq hK
  refine wanted_go (by rfl) ?_
  refine ⟨?_, fun W hW => ?_, ?_⟩
  rotate_left
  · skip
    go_simp
    with_reducible rfl
  refine hK _ ?_
  clear hK K
  (try simp only [Act.put, List.setIfInBounds_toArray, List.set_cons_zero, List.set_cons_succ])
  refine wpQuiet_step_h hlq ?_
  clear hlq lq
  intro K lq hlq hK
  refine wanted_go (by rfl) ?_
  refine ⟨?_, fun W hW => ?_, ?_⟩
  rotate_left
  · skip
    go_simp
    with_reducible rfl
  refine hK _ ?_
  clear hK K
  (try simp only [Act.put, List.setIfInBounds_toArray, List.set_cons_zero, List.set_cons_succ])
  refine wpQuiet_nil_h hlq ?_
  clear hlq lq B
  intro V1 hV2
  go_wp2_with (refine wpList_quiet (C := Bz w [(w.heap.size + 2, oPP r), (w.heap.size + 1, oPP q), (w.heap.size, oPP p)]) 37 (by rfl) hV2 ?_)
  refine wpQuiet_hide ?_
  intro lq hlq
  refine wpQuiet_step_h hlq ?_
  clear hlq lq
  intro K lq hlq hK
  refine wanted_go (by rfl) ?_
  refine ⟨vPP q, fun W hW => ?_, ?_⟩
  · skip
    exact quiet_load 57 _ rfl rfl (ldPP (hW.all.get 1 (x := (w.heap.size + 1, oPP q)) rfl) Hq.out)
  refine hK _ ?_
  clear hK K
  (try simp only [Act.put, List.setIfInBounds_toArray, List.set_cons_zero, List.set_cons_succ])
  refine wpQuiet_step_h hlq ?_
  clear hlq lq
  intro K lq hlq hK
  refine wanted_go (by rfl) ?_
  refine ⟨vPP p, fun W hW => ?_, ?_⟩
  · skip
    exact quiet_load 57 _ rfl rfl (ldPP (hW.all.get 2 (x := (w.heap.size, oPP p)) rfl) Hp.out)
  refine hK _ ?_
  clear hK K
  (try simp only [Act.put, List.setIfInBounds_toArray, List.set_cons_zero, List.set_cons_succ])
  refine wpQuiet_step_h hlq ?_
  clear hlq lq
  intro K lq hlq hK
  refine wanted_go (by rfl) ?_
  refine ⟨.int .i64 1, fun W hW => ?_, ?_⟩
  · go_simp
    exact (cmpPP_call Hq.out Hp.out hy.out).mono fun e W2 hc2 => ⟨hc2.1, hW.go hc2.2⟩
  refine hK _ ?_
  clear hK K
  (try simp only [Act.put, List.setIfInBounds_toArray, List.set_cons_zero, List.set_cons_succ])
  refine wpQuiet_step_h hlq ?_
  clear hlq lq
  intro K lq hlq hK
  refine wanted_go (by rfl) ?_
  refine ⟨?_, fun W hW => ?_, ?_⟩
  rotate_left
  · skip
    go_simp
    with_reducible rfl
  refine hK _ ?_
  clear hK K
  (try simp only [Act.put, List.setIfInBounds_toArray, List.set_cons_zero, List.set_cons_succ])
  refine wpQuiet_step_h hlq ?_
  clear hlq lq
  intro K lq hlq hK
  refine wanted_go (by rfl) ?_
  refine ⟨?_, fun W hW => ?_, ?_⟩
  rotate_left
  · skip
    go_simp
    with_reducible rfl
  refine hK _ ?_
  clear hK K
  (try simp only [Act.put, List.setIfInBounds_toArray, List.set_cons_zero, List.set_cons_succ])
  refine wpQuiet_step_h hlq ?_
  clear hlq lq
  intro K lq hlq hK
  refine wanted_go (by rfl) ?_
  refine ⟨?_, fun W hW => ?_, ?_⟩
  rotate_left
  · skip
    go_simp
    with_reducible rfl
  refine hK _ ?_
  clear hK K
  (try simp only [Act.put, List.setIfInBounds_toArray, List.set_cons_zero, List.set_cons_succ])
  refine wpQuiet_step_h hlq ?_
  clear hlq lq
  intro K lq hlq hK
  refine wanted_go (by rfl) ?_
  refine ⟨?_, fun W hW => ?_, ?_⟩
  rotate_left
  · skip
    go_simp
    with_reducible rfl
  refine hK _ ?_
  clear hK K
  (try simp only [Act.put, List.setIfInBounds_toArray, List.set_cons_zero, List.set_cons_succ])
  refine wpQuiet_step_h hlq ?_
  clear hlq lq
  intro K lq hlq hK
  refine wanted_go (by rfl) ?_
  refine ⟨?_, fun W hW => ?_, ?_⟩
  rotate_left
  · skip
    go_simp
    with_reducible rfl
  refine hK _ ?_
  clear hK K
  (try simp only [Act.put, List.setIfInBounds_toArray, List.set_cons_zero, List.set_cons_succ])
  refine wpQuiet_step_h hlq ?_
  clear hlq lq
  intro K lq hlq hK
  refine wanted_go (by rfl) ?_
  refine ⟨vPP p, fun W hW => ?_, ?_⟩
  · skip
    exact quiet_load 57 _ rfl rfl (ldPP (hW.all.get 2 (x := (w.heap.size, oPP p)) rfl) Hp.out)
  refine hK _ ?_
  clear hK K
  (try simp only [Act.put, List.setIfInBounds_toArray, List.set_cons_zero, List.set_cons_succ])
  refine wpQuiet_step_h hlq ?_
  clear hlq lq
  intro K lq hlq hK
  refine wanted_go (by rfl) ?_
  refine ⟨vPP q, fun W hW => ?_, ?_⟩
  · skip
    exact quiet_load 57 _ rfl rfl (ldPP (hW.all.get 1 (x := (w.heap.size + 1, oPP q)) rfl) Hq.out)
  refine hK _ ?_
  clear hK K
  (try simp only [Act.put, List.setIfInBounds_toArray, List.set_cons_zero, List.set_cons_succ])
  refine wpQuiet_step_h hlq ?_
  clear hlq lq
  intro K lq hlq hK
  refine wanted_go (by rfl) ?_
  refine ⟨.bool false, fun W hW => ?_, ?_⟩
  · skip
    exact quiet_eq (.inl rfl) (by rfl) (by rfl) (by rfl) guard57 (heq W)
  refine hK _ ?_
  clear hK K
  (try simp only [Act.put, List.setIfInBounds_toArray, List.set_cons_zero, List.set_cons_succ])
  refine wpQuiet_step_h hlq ?_
  clear hlq lq
  intro K lq hlq hK
  refine wanted_go (by rfl) ?_
  refine ⟨?_, fun W hW => ?_, ?_⟩
  rotate_left
  · skip
    go_simp
    with_reducible rfl
  refine hK _ ?_
  clear hK K
  (try simp only [Act.put, List.setIfInBounds_toArray, List.set_cons_zero, List.set_cons_succ])
  refine wpQuiet_step_h hlq ?_
  clear hlq lq
  intro K lq hlq hK
  refine wanted_go (by rfl) ?_
  refine ⟨?_, fun W hW => ?_, ?_⟩
  rotate_left
  · skip
    go_simp
    with_reducible rfl
  refine hK _ ?_
  clear hK K
  (try simp only [Act.put, List.setIfInBounds_toArray, List.set_cons_zero, List.set_cons_succ])
  refine wpQuiet_step_h hlq ?_
  clear hlq lq
  intro K lq hlq hK
  refine wanted_go (by rfl) ?_
  refine ⟨?_, fun W hW => ?_, ?_⟩
  rotate_left
  · skip
    go_simp
    with_reducible rfl
  refine hK _ ?_
  clear hK K
  (try simp only [Act.put, List.setIfInBounds_toArray, List.set_cons_zero, List.set_cons_succ])
  refine wpQuiet_step_h hlq ?_
  clear hlq lq
  intro K lq hlq hK
  refine wanted_go (by rfl) ?_
  refine ⟨?_, fun W hW => ?_, ?_⟩
  rotate_left
  · skip
    go_simp
    with_reducible rfl
  refine hK _ ?_
  clear hK K
  (try simp only [Act.put, List.setIfInBounds_toArray, List.set_cons_zero, List.set_cons_succ])
  refine wpQuiet_step_h hlq ?_
  clear hlq lq
  intro K lq hlq hK
  refine wanted_go (by rfl) ?_
  refine ⟨?_, fun W hW => ?_, ?_⟩
  rotate_left
  · skip
    go_simp
    with_reducible rfl
  refine hK _ ?_
  clear hK K
  (try simp only [Act.put, List.setIfInBounds_toArray, List.set_cons_zero, List.set_cons_succ])
  refine wpQuiet_step_h hlq ?_
  clear hlq lq
  intro K lq hlq hK
  refine wanted_go (by rfl) ?_
  refine ⟨?_, fun W hW => ?_, ?_⟩
  rotate_left
  · skip
    go_simp
    with_reducible rfl
  refine hK _ ?_
  clear hK K
  (try simp only [Act.put, List.setIfInBounds_toArray, List.set_cons_zero, List.set_cons_succ])
  refine wpQuiet_step_h hlq ?_
  clear hlq lq
  intro K lq hlq hK
  refine wanted_go (by rfl) ?_
  refine ⟨?_, fun W hW => ?_, ?_⟩
  rotate_left
  · skip
    go_simp
    with_reducible rfl
  refine hK _ ?_
  clear hK K
  (try simp only [Act.put, List.setIfInBounds_toArray, List.set_cons_zero, List.set_cons_succ])
  refine wpQuiet_step_h hlq ?_
  clear hlq lq
  intro K lq hlq hK
  refine wanted_go (by rfl) ?_
  refine ⟨?_, fun W hW => ?_, ?_⟩
  rotate_left
  · skip
    go_simp
    with_reducible rfl
  refine hK _ ?_
  clear hK K
  (try simp only [Act.put, List.setIfInBounds_toArray, List.set_cons_zero, List.set_cons_succ])
  refine wpQuiet_step_h hlq ?_
  clear hlq lq
  intro K lq hlq hK
  refine wanted_go (by rfl) ?_
  refine ⟨?_, fun W hW => ?_, ?_⟩
  rotate_left
  · skip
    go_simp
    with_reducible rfl
  refine hK _ ?_
  clear hK K
  (try simp only [Act.put, List.setIfInBounds_toArray, List.set_cons_zero, List.set_cons_succ])
  refine wpQuiet_step_h hlq ?_
  clear hlq lq
  intro K lq hlq hK
  refine wanted_go (by rfl) ?_
  refine ⟨?_, fun W hW => ?_, ?_⟩
  rotate_left
  · skip
    go_simp
    with_reducible rfl
  refine hK _ ?_
  clear hK K
  (try simp only [Act.put, List.setIfInBounds_toArray, List.set_cons_zero, List.set_cons_succ])
  refine wpQuiet_step_h hlq ?_
  clear hlq lq
  intro K lq hlq hK
  refine wanted_go (by rfl) ?_
  refine ⟨?_, fun W hW => ?_, ?_⟩
  rotate_left
  · skip
    go_simp
    with_reducible rfl
  refine hK _ ?_
  clear hK K
  (try simp only [Act.put, List.setIfInBounds_toArray, List.set_cons_zero, List.set_cons_succ])
  refine wpQuiet_step_h hlq ?_
  clear hlq lq
  intro K lq hlq hK
  refine wanted_go (by rfl) ?_
  refine ⟨?_, fun W hW => ?_, ?_⟩
  rotate_left
  · skip
    go_simp
    with_reducible rfl
  refine hK _ ?_
  clear hK K
  (try simp only [Act.put, List.setIfInBounds_toArray, List.set_cons_zero, List.set_cons_succ])
  refine wpQuiet_step_h hlq ?_
  clear hlq lq
  intro K lq hlq hK
  refine wanted_go (by rfl) ?_
  refine ⟨?_, fun W hW => ?_, ?_⟩
  rotate_left
  · skip
    go_simp
    with_reducible rfl
  refine hK _ ?_
  clear hK K
  (try simp only [Act.put, List.setIfInBounds_toArray, List.set_cons_zero, List.set_cons_succ])
  refine wpQuiet_step_h hlq ?_
  clear hlq lq
  intro K lq hlq hK
  refine wanted_go (by rfl) ?_
  refine ⟨?_, fun W hW => ?_, ?_⟩
  rotate_left
  · skip
    go_simp
    with_reducible rfl
  refine hK _ ?_
  clear hK K
  (try simp only [Act.put, List.setIfInBounds_toArray, List.set_cons_zero, List.set_cons_succ])
  refine wpQuiet_step_h hlq ?_
  clear hlq lq
  intro K lq hlq hK
  refine wanted_go (by rfl) ?_
  refine ⟨?_, fun W hW => ?_, ?_⟩
  rotate_left
  · skip
    go_simp
    with_reducible rfl
  refine hK _ ?_
  clear hK K
  (try simp only [Act.put, List.setIfInBounds_toArray, List.set_cons_zero, List.set_cons_succ])
  refine wpQuiet_step_h hlq ?_
  clear hlq lq
  intro K lq hlq hK
  refine wanted_go (by rfl) ?_
  refine ⟨?_, fun W hW => ?_, ?_⟩
  rotate_left
  · skip
    go_simp
    with_reducible rfl
  refine hK _ ?_
  clear hK K
  (try simp only [Act.put, List.setIfInBounds_toArray, List.set_cons_zero, List.set_cons_succ])
  refine wpQuiet_step_h hlq ?_
  clear hlq lq
  intro K lq hlq hK
  refine wanted_go (by rfl) ?_
  refine ⟨?_, fun W hW => ?_, ?_⟩
  rotate_left
  · skip
    go_simp
    with_reducible rfl
  refine hK _ ?_
  clear hK K
  (try simp only [Act.put, List.setIfInBounds_toArray, List.set_cons_zero, List.set_cons_succ])
  refine wpQuiet_step_h hlq ?_
  clear hlq lq
  intro K lq hlq hK
  refine wanted_go (by rfl) ?_
  refine ⟨?_, fun W hW => ?_, ?_⟩
  rotate_left
  · skip
    go_simp
    with_reducible rfl
  refine hK _ ?_
  clear hK K
  (try simp only [Act.put, List.setIfInBounds_toArray, List.set_cons_zero, List.set_cons_succ])
  refine wpQuiet_step_h hlq ?_
  clear hlq lq
  intro K lq hlq hK
  refine wanted_go (by rfl) ?_
  refine ⟨?_, fun W hW => ?_, ?_⟩
  rotate_left
  · skip
    go_simp
    with_reducible rfl
  refine hK _ ?_
  clear hK K
  (try simp only [Act.put, List.setIfInBounds_toArray, List.set_cons_zero, List.set_cons_succ])
  refine wpQuiet_step_h hlq ?_
  clear hlq lq
  intro K lq hlq hK
  refine wanted_go (by rfl) ?_
  refine ⟨?_, fun W hW => ?_, ?_⟩
  rotate_left
  · skip
    go_simp
    with_reducible rfl
  refine hK _ ?_
  clear hK K
  (try simp only [Act.put, List.setIfInBounds_toArray, List.set_cons_zero, List.set_cons_succ])
  refine wpQuiet_step_h hlq ?_
  clear hlq lq
  intro K lq hlq hK
  refine wanted_go (by rfl) ?_
  refine ⟨?_, fun W hW => ?_, ?_⟩
  rotate_left
  · skip
    go_simp
    with_reducible rfl
  refine hK _ ?_
  clear hK K
  (try simp only [Act.put, List.setIfInBounds_toArray, List.set_cons_zero, List.set_cons_succ])
  refine wpQuiet_step_h hlq ?_
  clear hlq lq
  intro K lq hlq hK
  refine wanted_go (by rfl) ?_
  refine ⟨?_, fun W hW => ?_, ?_⟩
  rotate_left
  · skip
    go_simp
    with_reducible rfl
  refine hK _ ?_
  clear hK K
  (try simp only [Act.put, List.setIfInBounds_toArray, List.set_cons_zero, List.set_cons_succ])
  refine wpQuiet_step_h hlq ?_
  clear hlq lq
  intro K lq hlq hK
  go_simp
  refine hK _ ?_
  clear hK K
  refine wpQuiet_step_h hlq ?_
  clear hlq lq
  intro K lq hlq hK
  go_simp
  refine hK _ ?_
  clear hK K
  refine wpQuiet_step_h hlq ?_
  clear hlq lq
  intro K lq hlq hK
  refine wanted_go (by rfl) ?_
  refine ⟨?_, fun W hW => ?_, ?_⟩
  rotate_left
  · skip
    go_simp
    with_reducible rfl
  refine hK _ ?_
  clear hK K
  (try simp only [Act.put, List.setIfInBounds_toArray, List.set_cons_zero, List.set_cons_succ])
  refine wpQuiet_step_h hlq ?_
  clear hlq lq
  intro K lq hlq hK
  refine wanted_go (by rfl) ?_
  refine ⟨?_, fun W hW => ?_, ?_⟩
  rotate_left
  · skip
    go_simp
    with_reducible rfl
  refine hK _ ?_
  clear hK K
  (try simp only [Act.put, List.setIfInBounds_toArray, List.set_cons_zero, List.set_cons_succ])
  refine wpQuiet_nil_h hlq ?_
  clear hlq lq hV2
  intro V3 hV4
  go_wp2_with fail
  refine wp_region_C (C := Bz w [(w.heap.size + 2, oPP r), (w.heap.size + 1, oPP q), (w.heap.size, oPP p)]) (by kernel_rfl) (by kernel_rfl) (hV4.drew) ?_
  refine wpQuiet_hide ?_
  intro lq hlq
  refine wpQuiet_step_h hlq ?_
  clear hlq lq
  intro K lq hlq hK
  refine wanted_go (by rfl) ?_
  refine ⟨?_, fun W hW => ?_, ?_⟩
  rotate_left
  · skip
    go_simp
    with_reducible rfl
  refine hK _ ?_
  clear hK K
  (try simp only [Act.put, List.setIfInBounds_toArray, List.set_cons_zero, List.set_cons_succ])
  refine wpQuiet_step_h hlq ?_
  clear hlq lq
  intro K lq hlq hK
  refine wanted_go (by rfl) ?_
  refine ⟨vPf p.d, fun W hW => ?_, ?_⟩
  · skip
    exact quiet_load 55 _ rfl rfl (ldPPd (hW.all.get 2 (x := (w.heap.size, oPP p)) rfl) Hp.out)
  refine hK _ ?_
  clear hK K
  (try simp only [Act.put, List.setIfInBounds_toArray, List.set_cons_zero, List.set_cons_succ])
  refine wpQuiet_step_h hlq ?_
  clear hlq lq
  intro K lq hlq hK
  refine wanted_go (by rfl) ?_
  refine ⟨?_, fun W hW => ?_, ?_⟩
  rotate_left
  · skip
    go_simp
    with_reducible rfl
  refine hK _ ?_
  clear hK K
  (try simp only [Act.put, List.setIfInBounds_toArray, List.set_cons_zero, List.set_cons_succ])
  refine wpQuiet_step_h hlq ?_
  clear hlq lq
  intro K lq hlq hK
  refine wanted_go (by rfl) ?_
  refine ⟨vPf q.d, fun W hW => ?_, ?_⟩
  · skip
    exact quiet_load 55 _ rfl rfl (ldPPd (hW.all.get 1 (x := (w.heap.size + 1, oPP q)) rfl) Hq.out)
  refine hK _ ?_
  clear hK K
  (try simp only [Act.put, List.setIfInBounds_toArray, List.set_cons_zero, List.set_cons_succ])
  refine wpQuiet_step_h hlq ?_
  clear hlq lq
  intro K lq hlq hK
  refine wanted_go (by rfl) ?_
  refine ⟨.int .i64 (-1), fun W hW => ?_, ?_⟩
  · go_simp
    exact (cmpP_call Hp.out.1 Hq.out.1 hd.out).mono fun e W2 hc2 => ⟨hc2.1, hW.go hc2.2⟩
  refine hK _ ?_
  clear hK K
  (try simp only [Act.put, List.setIfInBounds_toArray, List.set_cons_zero, List.set_cons_succ])
  refine wpQuiet_step_h hlq ?_
  clear hlq lq
  intro K lq hlq hK
  refine wanted_go (by rfl) ?_
  refine ⟨?_, fun W hW => ?_, ?_⟩
  rotate_left
  · skip
    go_simp
    with_reducible rfl
  refine hK _ ?_
  clear hK K
  (try simp only [Act.put, List.setIfInBounds_toArray, List.set_cons_zero, List.set_cons_succ])
  refine wpQuiet_step_h hlq ?_
  clear hlq lq
  intro K lq hlq hK
  refine wanted_go (by rfl) ?_
  refine ⟨vPf q.d, fun W hW => ?_, ?_⟩
  · skip
    exact quiet_load 55 _ rfl rfl (ldPPd (hW.all.get 1 (x := (w.heap.size + 1, oPP q)) rfl) Hq.out)
  refine hK _ ?_
  clear hK K
  (try simp only [Act.put, List.setIfInBounds_toArray, List.set_cons_zero, List.set_cons_succ])
  refine wpQuiet_step_h hlq ?_
  clear hlq lq
  intro K lq hlq hK
  refine wanted_go (by rfl) ?_
  refine ⟨?_, fun W hW => ?_, ?_⟩
  rotate_left
  · skip
    go_simp
    with_reducible rfl
  refine hK _ ?_
  clear hK K
  (try simp only [Act.put, List.setIfInBounds_toArray, List.set_cons_zero, List.set_cons_succ])
  refine wpQuiet_step_h hlq ?_
  clear hlq lq
  intro K lq hlq hK
  refine wanted_go (by rfl) ?_
  refine ⟨vPf p.d, fun W hW => ?_, ?_⟩
  · skip
    exact quiet_load 55 _ rfl rfl (ldPPd (hW.all.get 2 (x := (w.heap.size, oPP p)) rfl) Hp.out)
  refine hK _ ?_
  clear hK K
  (try simp only [Act.put, List.setIfInBounds_toArray, List.set_cons_zero, List.set_cons_succ])
  refine wpQuiet_step_h hlq ?_
  clear hlq lq
  intro K lq hlq hK
  refine wanted_go (by rfl) ?_
  refine ⟨.int .i64 1, fun W hW => ?_, ?_⟩
  · go_simp
    exact (cmpP_call Hq.out.1 Hp.out.1 hd2.out).mono fun e W2 hc2 => ⟨hc2.1, hW.go hc2.2⟩
  refine hK _ ?_
  clear hK K
  (try simp only [Act.put, List.setIfInBounds_toArray, List.set_cons_zero, List.set_cons_succ])
  refine wpQuiet_step_h hlq ?_
  clear hlq lq
  intro K lq hlq hK
  refine wanted_go (by rfl) ?_
  refine ⟨?_, fun W hW => ?_, ?_⟩
  rotate_left
  · skip
    go_simp
    with_reducible rfl
  refine hK _ ?_
  clear hK K
  (try simp only [Act.put, List.setIfInBounds_toArray, List.set_cons_zero, List.set_cons_succ])
  refine wpQuiet_step_h hlq ?_
  clear hlq lq
  intro K lq hlq hK
  refine wanted_go (by rfl) ?_
  refine ⟨?_, fun W hW => ?_, ?_⟩
  rotate_left
  · skip
    go_simp
    with_reducible rfl
  refine hK _ ?_
  clear hK K
  (try simp only [Act.put, List.setIfInBounds_toArray, List.set_cons_zero, List.set_cons_succ])
  refine wpQuiet_nil_h hlq ?_
  clear hlq lq hV4
  intro V5 hV6
  go_wp2_with (refine wpList_quiet (C := Bz w [(w.heap.size + 2, oPP r), (w.heap.size + 1, oPP q), (w.heap.size, oPP p)]) 35 (by rfl) hV6 ?_)
  refine wpQuiet_hide ?_
  intro lq hlq
  refine wpQuiet_step_h hlq ?_
  clear hlq lq
  intro K lq hlq hK
  refine wanted_go (by rfl) ?_
  refine ⟨?_, fun W hW => ?_, ?_⟩
  rotate_left
  · skip
    go_simp
    with_reducible rfl
  refine hK _ ?_
  clear hK K
  (try simp only [Act.put, List.setIfInBounds_toArray, List.set_cons_zero, List.set_cons_succ])
  refine wpQuiet_step_h hlq ?_
  clear hlq lq
  intro K lq hlq hK
  refine wanted_go (by rfl) ?_
  refine ⟨?_, fun W hW => ?_, ?_⟩
  rotate_left
  · skip
    go_simp
    with_reducible rfl
  refine hK _ ?_
  clear hK K
  (try simp only [Act.put, List.setIfInBounds_toArray, List.set_cons_zero, List.set_cons_succ])
  refine wpQuiet_step_h hlq ?_
  clear hlq lq
  intro K lq hlq hK
  refine wanted_go (by rfl) ?_
  refine ⟨?_, fun W hW => ?_, ?_⟩
  rotate_left
  · skip
    go_simp
    with_reducible rfl
  refine hK _ ?_
  clear hK K
  (try simp only [Act.put, List.setIfInBounds_toArray, List.set_cons_zero, List.set_cons_succ])
  refine wpQuiet_step_h hlq ?_
  clear hlq lq
  intro K lq hlq hK
  refine wanted_go (by rfl) ?_
  refine ⟨?_, fun W hW => ?_, ?_⟩
  rotate_left
  · skip
    go_simp
    with_reducible rfl
  refine hK _ ?_
  clear hK K
  (try simp only [Act.put, List.setIfInBounds_toArray, List.set_cons_zero, List.set_cons_succ])
  refine wpQuiet_step_h hlq ?_
  clear hlq lq
  intro K lq hlq hK
  refine wanted_go (by rfl) ?_
  refine ⟨?_, fun W hW => ?_, ?_⟩
  rotate_left
  · skip
    go_simp
    with_reducible rfl
  refine hK _ ?_
  clear hK K
  (try simp only [Act.put, List.setIfInBounds_toArray, List.set_cons_zero, List.set_cons_succ])
  refine wpQuiet_step_h hlq ?_
  clear hlq lq
  intro K lq hlq hK
  refine wanted_go (by rfl) ?_
  refine ⟨?_, fun W hW => ?_, ?_⟩
  rotate_left
  · skip
    go_simp
    with_reducible rfl
  refine hK _ ?_
  clear hK K
  (try simp only [Act.put, List.setIfInBounds_toArray, List.set_cons_zero, List.set_cons_succ])
  refine wpQuiet_step_h hlq ?_
  clear hlq lq
  intro K lq hlq hK
  refine wanted_go (by rfl) ?_
  refine ⟨vPf p.d, fun W hW => ?_, ?_⟩
  · skip
    exact quiet_load 55 _ rfl rfl (ldPPd (hW.all.get 2 (x := (w.heap.size, oPP p)) rfl) Hp.out)
  refine hK _ ?_
  clear hK K
  (try simp only [Act.put, List.setIfInBounds_toArray, List.set_cons_zero, List.set_cons_succ])
  refine wpQuiet_step_h hlq ?_
  clear hlq lq
  intro K lq hlq hK
  refine wanted_go (by rfl) ?_
  refine ⟨?_, fun W hW => ?_, ?_⟩
  rotate_left
  · skip
    go_simp
    with_reducible rfl
  refine hK _ ?_
  clear hK K
  (try simp only [Act.put, List.setIfInBounds_toArray, List.set_cons_zero, List.set_cons_succ])
  refine wpQuiet_step_h hlq ?_
  clear hlq lq
  intro K lq hlq hK
  refine wanted_go (by rfl) ?_
  refine ⟨vPf q.d, fun W hW => ?_, ?_⟩
  · skip
    exact quiet_load 55 _ rfl rfl (ldPPd (hW.all.get 1 (x := (w.heap.size + 1, oPP q)) rfl) Hq.out)
  refine hK _ ?_
  clear hK K
  (try simp only [Act.put, List.setIfInBounds_toArray, List.set_cons_zero, List.set_cons_succ])
  refine wpQuiet_step_h hlq ?_
  clear hlq lq
  intro K lq hlq hK
  refine wanted_go (by rfl) ?_
  refine ⟨.bool false, fun W hW => ?_, ?_⟩
  · skip
    exact quiet_eq (.inl rfl) (by rfl) (by rfl) (by rfl) guard55 (hef W)
  refine hK _ ?_
  clear hK K
  (try simp only [Act.put, List.setIfInBounds_toArray, List.set_cons_zero, List.set_cons_succ])
  refine wpQuiet_step_h hlq ?_
  clear hlq lq
  intro K lq hlq hK
  refine wanted_go (by rfl) ?_
  refine ⟨?_, fun W hW => ?_, ?_⟩
  rotate_left
  · skip
    go_simp
    with_reducible rfl
  refine hK _ ?_
  clear hK K
  (try simp only [Act.put, List.setIfInBounds_toArray, List.set_cons_zero, List.set_cons_succ])
  refine wpQuiet_step_h hlq ?_
  clear hlq lq
  intro K lq hlq hK
  refine wanted_go (by rfl) ?_
  refine ⟨?_, fun W hW => ?_, ?_⟩
  rotate_left
  · skip
    go_simp
    with_reducible rfl
  refine hK _ ?_
  clear hK K
  (try simp only [Act.put, List.setIfInBounds_toArray, List.set_cons_zero, List.set_cons_succ])
  refine wpQuiet_step_h hlq ?_
  clear hlq lq
  intro K lq hlq hK
  refine wanted_go (by rfl) ?_
  refine ⟨?_, fun W hW => ?_, ?_⟩
  rotate_left
  · skip
    go_simp
    with_reducible rfl
  refine hK _ ?_
  clear hK K
  (try simp only [Act.put, List.setIfInBounds_toArray, List.set_cons_zero, List.set_cons_succ])
  refine wpQuiet_step_h hlq ?_
  clear hlq lq
  intro K lq hlq hK
  refine wanted_go (by rfl) ?_
  refine ⟨?_, fun W hW => ?_, ?_⟩
  rotate_left
  · skip
    go_simp
    with_reducible rfl
  refine hK _ ?_
  clear hK K
  (try simp only [Act.put, List.setIfInBounds_toArray, List.set_cons_zero, List.set_cons_succ])
  refine wpQuiet_step_h hlq ?_
  clear hlq lq
  intro K lq hlq hK
  refine wanted_go (by rfl) ?_
  refine ⟨?_, fun W hW => ?_, ?_⟩
  rotate_left
  · skip
    go_simp
    with_reducible rfl
  refine hK _ ?_
  clear hK K
  (try simp only [Act.put, List.setIfInBounds_toArray, List.set_cons_zero, List.set_cons_succ])
  refine wpQuiet_step_h hlq ?_
  clear hlq lq
  intro K lq hlq hK
  refine wanted_go (by rfl) ?_
  refine ⟨?_, fun W hW => ?_, ?_⟩
  rotate_left
  · skip
    go_simp
    with_reducible rfl
  refine hK _ ?_
  clear hK K
  (try simp only [Act.put, List.setIfInBounds_toArray, List.set_cons_zero, List.set_cons_succ])
  refine wpQuiet_step_h hlq ?_
  clear hlq lq
  intro K lq hlq hK
  refine wanted_go (by rfl) ?_
  refine ⟨?_, fun W hW => ?_, ?_⟩
  rotate_left
  · skip
    go_simp
    with_reducible rfl
  refine hK _ ?_
  clear hK K
  (try simp only [Act.put, List.setIfInBounds_toArray, List.set_cons_zero, List.set_cons_succ])
  refine wpQuiet_step_h hlq ?_
  clear hlq lq
  intro K lq hlq hK
  refine wanted_go (by rfl) ?_
  refine ⟨?_, fun W hW => ?_, ?_⟩
  rotate_left
  · skip
    go_simp
    with_reducible rfl
  refine hK _ ?_
  clear hK K
  (try simp only [Act.put, List.setIfInBounds_toArray, List.set_cons_zero, List.set_cons_succ])
  refine wpQuiet_step_h hlq ?_
  clear hlq lq
  intro K lq hlq hK
  refine wanted_go (by rfl) ?_
  refine ⟨?_, fun W hW => ?_, ?_⟩
  rotate_left
  · skip
    go_simp
    with_reducible rfl
  refine hK _ ?_
  clear hK K
  (try simp only [Act.put, List.setIfInBounds_toArray, List.set_cons_zero, List.set_cons_succ])
  refine wpQuiet_step_h hlq ?_
  clear hlq lq
  intro K lq hlq hK
  refine wanted_go (by rfl) ?_
  refine ⟨?_, fun W hW => ?_, ?_⟩
  rotate_left
  · skip
    go_simp
    with_reducible rfl
  refine hK _ ?_
  clear hK K
  (try simp only [Act.put, List.setIfInBounds_toArray, List.set_cons_zero, List.set_cons_succ])
  refine wpQuiet_step_h hlq ?_
  clear hlq lq
  intro K lq hlq hK
  refine wanted_go (by rfl) ?_
  refine ⟨?_, fun W hW => ?_, ?_⟩
  rotate_left
  · skip
    go_simp
    with_reducible rfl
  refine hK _ ?_
  clear hK K
  (try simp only [Act.put, List.setIfInBounds_toArray, List.set_cons_zero, List.set_cons_succ])
  refine wpQuiet_step_h hlq ?_
  clear hlq lq
  intro K lq hlq hK
  refine wanted_go (by rfl) ?_
  refine ⟨?_, fun W hW => ?_, ?_⟩
  rotate_left
  · skip
    go_simp
    with_reducible rfl
  refine hK _ ?_
  clear hK K
  (try simp only [Act.put, List.setIfInBounds_toArray, List.set_cons_zero, List.set_cons_succ])
  refine wpQuiet_step_h hlq ?_
  clear hlq lq
  intro K lq hlq hK
  refine wanted_go (by rfl) ?_
  refine ⟨?_, fun W hW => ?_, ?_⟩
  rotate_left
  · skip
    go_simp
    with_reducible rfl
  refine hK _ ?_
  clear hK K
  (try simp only [Act.put, List.setIfInBounds_toArray, List.set_cons_zero, List.set_cons_succ])
  refine wpQuiet_step_h hlq ?_
  clear hlq lq
  intro K lq hlq hK
  refine wanted_go (by rfl) ?_
  refine ⟨?_, fun W hW => ?_, ?_⟩
  rotate_left
  · skip
    go_simp
    with_reducible rfl
  refine hK _ ?_
  clear hK K
  (try simp only [Act.put, List.setIfInBounds_toArray, List.set_cons_zero, List.set_cons_succ])
  refine wpQuiet_step_h hlq ?_
  clear hlq lq
  intro K lq hlq hK
  refine wanted_go (by rfl) ?_
  refine ⟨vA p.d.a, fun W hW => ?_, ?_⟩
  · skip
    exact quiet_load 42 _ rfl rfl (ldPPda (hW.all.get 2 (x := (w.heap.size, oPP p)) rfl) Hp.out)
  refine hK _ ?_
  clear hK K
  (try simp only [Act.put, List.setIfInBounds_toArray, List.set_cons_zero, List.set_cons_succ])
  refine wpQuiet_step_h hlq ?_
  clear hlq lq
  intro K lq hlq hK
  refine wanted_go (by rfl) ?_
  refine ⟨?_, fun W hW => ?_, ?_⟩
  rotate_left
  · skip
    go_simp
    with_reducible rfl
  refine hK _ ?_
  clear hK K
  (try simp only [Act.put, List.setIfInBounds_toArray, List.set_cons_zero, List.set_cons_succ])
  refine wpQuiet_step_h hlq ?_
  clear hlq lq
  intro K lq hlq hK
  refine wanted_go (by rfl) ?_
  refine ⟨?_, fun W hW => ?_, ?_⟩
  rotate_left
  · skip
    go_simp
    with_reducible rfl
  refine hK _ ?_
  clear hK K
  (try simp only [Act.put, List.setIfInBounds_toArray, List.set_cons_zero, List.set_cons_succ])
  refine wpQuiet_step_h hlq ?_
  clear hlq lq
  intro K lq hlq hK
  refine wanted_go (by rfl) ?_
  refine ⟨vA p.d.a, fun W hW => ?_, ?_⟩
  · skip
    exact quiet_load 42 _ rfl rfl (ldPPda (hW.all.get 2 (x := (w.heap.size, oPP p)) rfl) Hp.out)
  refine hK _ ?_
  clear hK K
  (try simp only [Act.put, List.setIfInBounds_toArray, List.set_cons_zero, List.set_cons_succ])
  refine wpQuiet_step_h hlq ?_
  clear hlq lq
  intro K lq hlq hK
  refine wanted_go (by rfl) ?_
  refine ⟨.int .i64 0, fun W hW => ?_, ?_⟩
  · go_simp
    have E' := hW.env E
    exact (cmpA_call Hp.out.1.1 Hp.out.1.1 ha.out).mono fun e W2 hc2 => ⟨hc2.1, hW.go hc2.2⟩
  refine hK _ ?_
  clear hK K
  (try simp only [Act.put, List.setIfInBounds_toArray, List.set_cons_zero, List.set_cons_succ])
  refine wpQuiet_step_h hlq ?_
  clear hlq lq
  intro K lq hlq hK
  refine wanted_go (by rfl) ?_
  refine ⟨?_, fun W hW => ?_, ?_⟩
  rotate_left
  · skip
    go_simp
    with_reducible rfl
  refine hK _ ?_
  clear hK K
  (try simp only [Act.put, List.setIfInBounds_toArray, List.set_cons_zero, List.set_cons_succ])
  refine wpQuiet_step_h hlq ?_
  clear hlq lq
  intro K lq hlq hK
  refine wanted_go (by rfl) ?_
  refine ⟨?_, fun W hW => ?_, ?_⟩
  rotate_left
  · skip
    go_simp
    with_reducible rfl
  refine hK _ ?_
  clear hK K
  (try simp only [Act.put, List.setIfInBounds_toArray, List.set_cons_zero, List.set_cons_succ])
  refine wpQuiet_step_h hlq ?_
  clear hlq lq
  intro K lq hlq hK
  refine wanted_go (by rfl) ?_
  refine ⟨?_, fun W hW => ?_, ?_⟩
  rotate_left
  · skip
    go_simp
    with_reducible rfl
  refine hK _ ?_
  clear hK K
  (try simp only [Act.put, List.setIfInBounds_toArray, List.set_cons_zero, List.set_cons_succ])
  refine wpQuiet_step_h hlq ?_
  clear hlq lq
  intro K lq hlq hK
  refine wanted_go (by rfl) ?_
  refine ⟨.bool true, fun W hW => ?_, ?_⟩
  · go_simp
    have E' := hW.env E
    exact (live02_any E').mono fun e W2 hc2 => ⟨hc2.1, hW.go hc2.2⟩
  refine hK _ ?_
  clear hK K
  (try simp only [Act.put, List.setIfInBounds_toArray, List.set_cons_zero, List.set_cons_succ])
  refine wpQuiet_step_h hlq ?_
  clear hlq lq
  intro K lq hlq hK
  refine wanted_go (by rfl) ?_
  refine ⟨?_, fun W hW => ?_, ?_⟩
  rotate_left
  · skip
    go_simp
    with_reducible rfl
  refine hK _ ?_
  clear hK K
  (try simp only [Act.put, List.setIfInBounds_toArray, List.set_cons_zero, List.set_cons_succ])
  refine wpQuiet_step_h hlq ?_
  clear hlq lq
  intro K lq hlq hK
  refine wanted_go (by rfl) ?_
  refine ⟨?_, fun W hW => ?_, ?_⟩
  rotate_left
  · skip
    go_simp
    with_reducible rfl
  refine hK _ ?_
  clear hK K
  (try simp only [Act.put, List.setIfInBounds_toArray, List.set_cons_zero, List.set_cons_succ])
  refine wpQuiet_nil_h hlq ?_
  clear hlq lq hV6
  intro V7 hV8
  go_wp2_with fail
  go_ret
  exact ⟨rfl, hV8.bel⟩
set_option maxRecDepth 100000 in
set_option maxHeartbeats 3200000 in
theorem order_m1n {p q r : Pr} (hp : p.fit) (hq : q.fit) (hr : r.fit) {w : World} (E : Env w) (hx : cmpPP p q = (-1)) (hy : cmpPP q p = 1) {b c : Int} (hb : cmpPP q r = b) (hc : cmpPP p r = c) (hd : cmpP p.d q.d = (-1)) (hd2 : cmpP q.d p.d = 1) (he : decide (p = q) = false) (hf : decide (p.d = q.d) = false) (ha : cmpA p.d.a p.d.a = 0) (f1 : decide (b ≤ 0) = true) (f2 : decide (0 < c) = false) (f3 : decide (b < 0) = true) (f4 : decide (0 ≤ c) = false) : Calls Tryz.prog 9 #[vPP p, vPP q, vPP r] w fun e w' => e = .returned (.bool true) ∧ Below w.heap.size w w' := by
  have heq := fun W => eql_PP W hp hq
  have hef := fun W => eql_P W hp.1 hq.1
  rw [he] at heq
  rw [hf] at hef
  clear he hf
  have Hp := Lib.hid hp
  have Hq := Lib.hid hq
  have Hr := Lib.hid hr
  have B := ((((Bz.start w).alloc (oPP p) rfl).alloc (oPP q) (World.size_alloc _ _)).alloc (oPP r) (show _ = w.heap.size + 2 by simp) : Bz w [(w.heap.size + 2, oPP r), (w.heap.size + 1, oPP q), (w.heap.size, oPP p)] _)
  clear hp hq hr
  replace hx := Lib.hid hx
  replace hy := Lib.hid hy
  replace hb := Lib.hid hb
  replace hc := Lib.hid hc
  replace hd := Lib.hid hd
  replace hd2 := Lib.hid hd2
  replace ha := Lib.hid ha
  unfold vPP
  go_enter Tryz.func9, Tryz.ntmps9
  go_wp2_with fail
  refine wp_region_C (C := Bz w [(w.heap.size + 2, oPP r), (w.heap.size + 1, oPP q), (w.heap.size, oPP p)]) (by kernel_rfl) (by kernel_rfl) (B.drew) ?_
  refine wpQuiet_hide ?_
  intro lq hlq
  refine wpQuiet_step_h hlq ?_
  clear hlq lq
  intro K lq hlq hK
  refine wanted_go (by rfl) ?_
  refine ⟨vPP p, fun W hW => ?_, ?_⟩
  · skip
    exact quiet_load 57 _ rfl rfl (ldPP (hW.all.get 2 (x := (w.heap.size, oPP p)) rfl) Hp.out)
  refine hK _ ?_
  clear hK K
  (try simp only [Act.put, List.setIfInBounds_toArray, List.set_cons_zero, List.set_cons_succ])
  refine wpQuiet_step_h hlq ?_
  clear hlq lq
  intro K lq hlq hK
  refine wanted_go (by rfl) ?_
  refine ⟨vPP q, fun W hW => ?_, ?_⟩
  · skip
    exact quiet_load 57 _ rfl rfl (ldPP (hW.all.get 1 (x := (w.heap.size + 1, oPP q)) rfl) Hq.out)
  refine hK _ ?_
  clear hK K
  (try simp only [Act.put, List.setIfInBounds_toArray, List.set_cons_zero, List.set_cons_succ])
  refine wpQuiet_step_h hlq ?_
  clear hlq lq
  intro K lq hlq hK
  refine wanted_go (by rfl) ?_
  refine ⟨.int .i64 (-1), fun W hW => ?_, ?_⟩
  · go_simp
    exact (cmpPP_call Hp.out Hq.out hx.out).mono fun e W2 hc2 => ⟨hc2.1, hW.go hc2.2⟩
  refine hK _ ?_
  clear hK K
  (try simp only [Act.put, List.setIfInBounds_toArray, List.set_cons_zero, List.set_cons_succ])
  refine wpQuiet_step_h hlq ?_
  clear hlq lq
  intro K lq hlq hK
  refine wanted_go (by rfl) ?_
  refine ⟨vPP q, fun W hW => ?_, ?_⟩
  · skip
    exact quiet_load 57 _ rfl rfl (ldPP (hW.all.get 1 (x := (w.heap.size + 1, oPP q)) rfl) Hq.out)
  refine hK _ ?_
  clear hK K
  (try simp only [Act.put, List.setIfInBounds_toArray, List.set_cons_zero, List.set_cons_succ])
  refine wpQuiet_step_h hlq ?_
  clear hlq lq
  intro K lq hlq hK
  refine wanted_go (by rfl) ?_
  refine ⟨vPP r, fun W hW => ?_, ?_⟩
  · skip
    exact quiet_load 57 _ rfl rfl (ldPP (hW.all.get 0 (x := (w.heap.size + 2, oPP r)) rfl) Hr.out)
  refine hK _ ?_
  clear hK K
  (try simp only [Act.put, List.setIfInBounds_toArray, List.set_cons_zero, List.set_cons_succ])
  refine wpQuiet_step_h hlq ?_
  clear hlq lq
  intro K lq hlq hK
  refine wanted_go (by rfl) ?_
  refine ⟨.int .i64 b, fun W hW => ?_, ?_⟩
  · go_simp
    exact (cmpPP_call Hq.out Hr.out hb.out).mono fun e W2 hc2 => ⟨hc2.1, hW.go hc2.2⟩
  refine hK _ ?_
  clear hK K
  (try simp only [Act.put, List.setIfInBounds_toArray, List.set_cons_zero, List.set_cons_succ])
  refine wpQuiet_step_h hlq ?_
  clear hlq lq
  intro K lq hlq hK
  refine wanted_go (by rfl) ?_
  refine ⟨vPP p, fun W hW => ?_, ?_⟩
  · skip
    exact quiet_load 57 _ rfl rfl (ldPP (hW.all.get 2 (x := (w.heap.size, oPP p)) rfl) Hp.out)
  refine hK _ ?_
  clear hK K
  (try simp only [Act.put, List.setIfInBounds_toArray, List.set_cons_zero, List.set_cons_succ])
  refine wpQuiet_step_h hlq ?_
  clear hlq lq
  intro K lq hlq hK
  refine wanted_go (by rfl) ?_
  refine ⟨vPP r, fun W hW => ?_, ?_⟩
  · skip
    exact quiet_load 57 _ rfl rfl (ldPP (hW.all.get 0 (x := (w.heap.size + 2, oPP r)) rfl) Hr.out)
  refine hK _ ?_
  clear hK K
  (try simp only [Act.put, List.setIfInBounds_toArray, List.set_cons_zero, List.set_cons_succ])
  refine wpQuiet_step_h hlq ?_
  clear hlq lq
  intro K lq hlq hK
  refine wanted_go (by rfl) ?_
  refine ⟨.int .i64 c, fun W hW => ?_, ?_⟩
  · go_simp
    exact (cmpPP_call Hp.out Hr.out hc.out).mono fun e W2 hc2 => ⟨hc2.1, hW.go hc2.2⟩
  refine hK _ ?_
  clear hK K
  (try simp only [Act.put, List.setIfInBounds_toArray, List.set_cons_zero, List.set_cons_succ])
  refine wpQuiet_step_h hlq ?_
  clear hlq lq
  intro K lq hlq hK
  refine wanted_go (by rfl) ?_
  refine ⟨?_, fun W hW => ?_, ?_⟩
  rotate_left
  · skip
    go_simp
    with_reducible rfl
  refine hK _ ?_
  clear hK K
  (try simp only [Act.put, List.setIfInBounds_toArray, List.set_cons_zero, List.set_cons_succ])
  refine wpQuiet_step_h hlq ?_
  clear hlq lq
  intro K lq hlq hK
  refine wanted_go (by rfl) ?_
  refine ⟨?_, fun W hW => ?_, ?_⟩
  rotate_left
  · skip
    go_simp
    with_reducible rfl
  refine hK _ ?_
  clear hK K
  (try simp only [Act.put, List.setIfInBounds_toArray, List.set_cons_zero, List.set_cons_succ])
  refine wpQuiet_step_h hlq ?_
  clear hlq lq
  intro K lq hlq hK
  refine wanted_go (by rfl) ?_
  refine ⟨?_, fun W hW => ?_, ?_⟩
  rotate_left
  · skip
    go_simp
    with_reducible rfl
  refine hK _ ?_
  clear hK K
  (try simp only [Act.put, List.setIfInBounds_toArray, List.set_cons_zero, List.set_cons_succ])
  refine wpQuiet_nil_h hlq ?_
  clear hlq lq B
  intro V1 hV2
  go_wp2_with (refine wpList_quiet (C := Bz w [(w.heap.size + 2, oPP r), (w.heap.size + 1, oPP q), (w.heap.size, oPP p)]) 37 (by rfl) hV2 ?_)
  refine wpQuiet_hide ?_
  intro lq hlq
  refine wpQuiet_step_h hlq ?_
  clear hlq lq
  intro K lq hlq hK
  refine wanted_go (by rfl) ?_
  refine ⟨vPP q, fun W hW => ?_, ?_⟩
  · skip
    exact quiet_load 57 _ rfl rfl (ldPP (hW.all.get 1 (x := (w.heap.size + 1, oPP q)) rfl) Hq.out)
  refine hK _ ?_
  clear hK K
  (try simp only [Act.put, List.setIfInBounds_toArray, List.set_cons_zero, List.set_cons_succ])
  refine wpQuiet_step_h hlq ?_
  clear hlq lq
  intro K lq hlq hK
  refine wanted_go (by rfl) ?_
  refine ⟨vPP p, fun W hW => ?_, ?_⟩
  · skip
    exact quiet_load 57 _ rfl rfl (ldPP (hW.all.get 2 (x := (w.heap.size, oPP p)) rfl) Hp.out)
  refine hK _ ?_
  clear hK K
  (try simp only [Act.put, List.setIfInBounds_toArray, List.set_cons_zero, List.set_cons_succ])
  refine wpQuiet_step_h hlq ?_
  clear hlq lq
  intro K lq hlq hK
  refine wanted_go (by rfl) ?_
  refine ⟨.int .i64 1, fun W hW => ?_, ?_⟩
  · go_simp
    exact (cmpPP_call Hq.out Hp.out hy.out).mono fun e W2 hc2 => ⟨hc2.1, hW.go hc2.2⟩
  refine hK _ ?_
  clear hK K
  (try simp only [Act.put, List.setIfInBounds_toArray, List.set_cons_zero, List.set_cons_succ])
  refine wpQuiet_step_h hlq ?_
  clear hlq lq
  intro K lq hlq hK
  refine wanted_go (by rfl) ?_
  refine ⟨?_, fun W hW => ?_, ?_⟩
  rotate_left
  · skip
    go_simp
    with_reducible rfl
  refine hK _ ?_
  clear hK K
  (try simp only [Act.put, List.setIfInBounds_toArray, List.set_cons_zero, List.set_cons_succ])
  refine wpQuiet_step_h hlq ?_
  clear hlq lq
  intro K lq hlq hK
  refine wanted_go (by rfl) ?_
  refine ⟨?_, fun W hW => ?_, ?_⟩
  rotate_left
  · skip
    go_simp
    with_reducible rfl
  refine hK _ ?_
  clear hK K
  (try simp only [Act.put, List.setIfInBounds_toArray, List.set_cons_zero, List.set_cons_succ])
  refine wpQuiet_step_h hlq ?_
  clear hlq lq
  intro K lq hlq hK
  refine wanted_go (by rfl) ?_
  refine ⟨?_, fun W hW => ?_, ?_⟩
  rotate_left
  · skip
    go_simp
    with_reducible rfl
  refine hK _ ?_
  clear hK K
  (try simp only [Act.put, List.setIfInBounds_toArray, List.set_cons_zero, List.set_cons_succ])
  refine wpQuiet_step_h hlq ?_
  clear hlq lq
  intro K lq hlq hK
  refine wanted_go (by rfl) ?_
  refine ⟨?_, fun W hW => ?_, ?_⟩
  rotate_left
  · skip
    go_simp
    with_reducible rfl
  refine hK _ ?_
  clear hK K
  (try simp only [Act.put, List.setIfInBounds_toArray, List.set_cons_zero, List.set_cons_succ])
  refine wpQuiet_step_h hlq ?_
  clear hlq lq
  intro K lq hlq hK
  refine wanted_go (by rfl) ?_
  refine ⟨?_, fun W hW => ?_, ?_⟩
  rotate_left
  · skip
    go_simp
    with_reducible rfl
  refine hK _ ?_
  clear hK K
  (try simp only [Act.put, List.setIfInBounds_toArray, List.set_cons_zero, List.set_cons_succ])
  refine wpQuiet_step_h hlq ?_
  clear hlq lq
  intro K lq hlq hK
  refine wanted_go (by rfl) ?_
  refine ⟨vPP p, fun W hW => ?_, ?_⟩
  · skip
    exact quiet_load 57 _ rfl rfl (ldPP (hW.all.get 2 (x := (w.heap.size, oPP p)) rfl) Hp.out)
  refine hK _ ?_
  clear hK K
  (try simp only [Act.put, List.setIfInBounds_toArray, List.set_cons_zero, List.set_cons_succ])
  refine wpQuiet_step_h hlq ?_
  clear hlq lq
  intro K lq hlq hK
  refine wanted_go (by rfl) ?_
  refine ⟨vPP q, fun W hW => ?_, ?_⟩
  · skip
    exact quiet_load 57 _ rfl rfl (ldPP (hW.all.get 1 (x := (w.heap.size + 1, oPP q)) rfl) Hq.out)
  refine hK _ ?_
  clear hK K
  (try simp only [Act.put, List.setIfInBounds_toArray, List.set_cons_zero, List.set_cons_succ])
  refine wpQuiet_step_h hlq ?_
  clear hlq lq
  intro K lq hlq hK
  refine wanted_go (by rfl) ?_
  refine ⟨.bool false, fun W hW => ?_, ?_⟩
  · skip
    exact quiet_eq (.inl rfl) (by rfl) (by rfl) (by rfl) guard57 (heq W)
  refine hK _ ?_
  clear hK K
  (try simp only [Act.put, List.setIfInBounds_toArray, List.set_cons_zero, List.set_cons_succ])
  refine wpQuiet_step_h hlq ?_
  clear hlq lq
  intro K lq hlq hK
  refine wanted_go (by rfl) ?_
  refine ⟨?_, fun W hW => ?_, ?_⟩
  rotate_left
  · skip
    go_simp
    with_reducible rfl
  refine hK _ ?_
  clear hK K
  (try simp only [Act.put, List.setIfInBounds_toArray, List.set_cons_zero, List.set_cons_succ])
  refine wpQuiet_step_h hlq ?_
  clear hlq lq
  intro K lq hlq hK
  refine wanted_go (by rfl) ?_
  refine ⟨?_, fun W hW => ?_, ?_⟩
  rotate_left
  · skip
    go_simp
    with_reducible rfl
  refine hK _ ?_
  clear hK K
  (try simp only [Act.put, List.setIfInBounds_toArray, List.set_cons_zero, List.set_cons_succ])
  refine wpQuiet_step_h hlq ?_
  clear hlq lq
  intro K lq hlq hK
  refine wanted_go (by rfl) ?_
  refine ⟨?_, fun W hW => ?_, ?_⟩
  rotate_left
  · skip
    go_simp
    with_reducible rfl
  refine hK _ ?_
  clear hK K
  (try simp only [Act.put, List.setIfInBounds_toArray, List.set_cons_zero, List.set_cons_succ])
  refine wpQuiet_step_h hlq ?_
  clear hlq lq
  intro K lq hlq hK
  refine wanted_go (by rfl) ?_
  refine ⟨?_, fun W hW => ?_, ?_⟩
  rotate_left
  · skip
    go_simp
    with_reducible rfl
  refine hK _ ?_
  clear hK K
  (try simp only [Act.put, List.setIfInBounds_toArray, List.set_cons_zero, List.set_cons_succ])
  refine wpQuiet_step_h hlq ?_
  clear hlq lq
  intro K lq hlq hK
  refine wanted_go (by rfl) ?_
  refine ⟨?_, fun W hW => ?_, ?_⟩
  rotate_left
  · skip
    go_simp
    with_reducible rfl
  refine hK _ ?_
  clear hK K
  (try simp only [Act.put, List.setIfInBounds_toArray, List.set_cons_zero, List.set_cons_succ])
  refine wpQuiet_step_h hlq ?_
  clear hlq lq
  intro K lq hlq hK
  refine wanted_go (by rfl) ?_
  refine ⟨?_, fun W hW => ?_, ?_⟩
  rotate_left
  · skip
    go_simp
    with_reducible rfl
  refine hK _ ?_
  clear hK K
  (try simp only [Act.put, List.setIfInBounds_toArray, List.set_cons_zero, List.set_cons_succ])
  refine wpQuiet_step_h hlq ?_
  clear hlq lq
  intro K lq hlq hK
  refine wanted_go (by rfl) ?_
  refine ⟨?_, fun W hW => ?_, ?_⟩
  rotate_left
  · skip
    go_simp
    with_reducible rfl
  refine hK _ ?_
  clear hK K
  (try simp only [Act.put, List.setIfInBounds_toArray, List.set_cons_zero, List.set_cons_succ])
  refine wpQuiet_step_h hlq ?_
  clear hlq lq
  intro K lq hlq hK
  refine wanted_go (by rfl) ?_
  refine ⟨?_, fun W hW => ?_, ?_⟩
  rotate_left
  · skip
    go_simp
    with_reducible rfl
  refine hK _ ?_
  clear hK K
  (try simp only [Act.put, List.setIfInBounds_toArray, List.set_cons_zero, List.set_cons_succ])
  refine wpQuiet_step_h hlq ?_
  clear hlq lq
  intro K lq hlq hK
  refine wanted_go (by rfl) ?_
  refine ⟨?_, fun W hW => ?_, ?_⟩
  rotate_left
  · skip
    go_simp
    with_reducible rfl
  refine hK _ ?_
  clear hK K
  (try simp only [Act.put, List.setIfInBounds_toArray, List.set_cons_zero, List.set_cons_succ])
  refine wpQuiet_step_h hlq ?_
  clear hlq lq
  intro K lq hlq hK
  refine wanted_go (by rfl) ?_
  refine ⟨?_, fun W hW => ?_, ?_⟩
  rotate_left
  · skip
    go_simp
    with_reducible rfl
  refine hK _ ?_
  clear hK K
  (try simp only [Act.put, List.setIfInBounds_toArray, List.set_cons_zero, List.set_cons_succ])
  refine wpQuiet_step_h hlq ?_
  clear hlq lq
  intro K lq hlq hK
  refine wanted_go (by rfl) ?_
  refine ⟨?_, fun W hW => ?_, ?_⟩
  rotate_left
  · skip
    go_simp
    with_reducible rfl
  refine hK _ ?_
  clear hK K
  (try simp only [Act.put, List.setIfInBounds_toArray, List.set_cons_zero, List.set_cons_succ])
  refine wpQuiet_step_h hlq ?_
  clear hlq lq
  intro K lq hlq hK
  refine wanted_go (by rfl) ?_
  refine ⟨?_, fun W hW => ?_, ?_⟩
  rotate_left
  · skip
    go_simp
    with_reducible rfl
  refine hK _ ?_
  clear hK K
  (try simp only [Act.put, List.setIfInBounds_toArray, List.set_cons_zero, List.set_cons_succ])
  refine wpQuiet_step_h hlq ?_
  clear hlq lq
  intro K lq hlq hK
  refine wanted_go (by rfl) ?_
  refine ⟨?_, fun W hW => ?_, ?_⟩
  rotate_left
  · skip
    go_simp
    with_reducible rfl
  refine hK _ ?_
  clear hK K
  (try simp only [Act.put, List.setIfInBounds_toArray, List.set_cons_zero, List.set_cons_succ])
  refine wpQuiet_step_h hlq ?_
  clear hlq lq
  intro K lq hlq hK
  refine wanted_go (by rfl) ?_
  refine ⟨?_, fun W hW => ?_, ?_⟩
  rotate_left
  · skip
    go_simp
    with_reducible rfl
  refine hK _ ?_
  clear hK K
  (try simp only [Act.put, List.setIfInBounds_toArray, List.set_cons_zero, List.set_cons_succ])
  refine wpQuiet_step_h hlq ?_
  clear hlq lq
  intro K lq hlq hK
  refine wanted_go (by rfl) ?_
  refine ⟨?_, fun W hW => ?_, ?_⟩
  rotate_left
  · skip
    go_simp
    with_reducible rfl
  refine hK _ ?_
  clear hK K
  (try simp only [Act.put, List.setIfInBounds_toArray, List.set_cons_zero, List.set_cons_succ])
  refine wpQuiet_step_h hlq ?_
  clear hlq lq
  intro K lq hlq hK
  refine wanted_go (by rfl) ?_
  refine ⟨?_, fun W hW => ?_, ?_⟩
  rotate_left
  · skip
    go_simp
    with_reducible rfl
  refine hK _ ?_
  clear hK K
  (try simp only [Act.put, List.setIfInBounds_toArray, List.set_cons_zero, List.set_cons_succ])
  refine wpQuiet_step_h hlq ?_
  clear hlq lq
  intro K lq hlq hK
  refine wanted_go (by rfl) ?_
  refine ⟨?_, fun W hW => ?_, ?_⟩
  rotate_left
  · skip
    go_simp
    with_reducible rfl
  refine hK _ ?_
  clear hK K
  (try simp only [Act.put, List.setIfInBounds_toArray, List.set_cons_zero, List.set_cons_succ])
  refine wpQuiet_step_h hlq ?_
  clear hlq lq
  intro K lq hlq hK
  refine wanted_go (by rfl) ?_
  refine ⟨?_, fun W hW => ?_, ?_⟩
  rotate_left
  · skip
    go_simp
    with_reducible rfl
  refine hK _ ?_
  clear hK K
  (try simp only [Act.put, List.setIfInBounds_toArray, List.set_cons_zero, List.set_cons_succ])
  refine wpQuiet_step_h hlq ?_
  clear hlq lq
  intro K lq hlq hK
  refine wanted_go (by rfl) ?_
  refine ⟨?_, fun W hW => ?_, ?_⟩
  rotate_left
  · skip
    go_simp
    with_reducible rfl
  refine hK _ ?_
  clear hK K
  (try simp only [Act.put, List.setIfInBounds_toArray, List.set_cons_zero, List.set_cons_succ])
  refine wpQuiet_step_h hlq ?_
  clear hlq lq
  intro K lq hlq hK
  refine wanted_go (by rfl) ?_
  refine ⟨?_, fun W hW => ?_, ?_⟩
  rotate_left
  · skip
    go_simp
    with_reducible rfl
  refine hK _ ?_
  clear hK K
  (try simp only [Act.put, List.setIfInBounds_toArray, List.set_cons_zero, List.set_cons_succ])
  refine wpQuiet_step_h hlq ?_
  clear hlq lq
  intro K lq hlq hK
  refine wanted_go (by rfl) ?_
  refine ⟨?_, fun W hW => ?_, ?_⟩
  rotate_left
  · skip
    go_simp
    with_reducible rfl
  refine hK _ ?_
  clear hK K
  (try simp only [Act.put, List.setIfInBounds_toArray, List.set_cons_zero, List.set_cons_succ])
  refine wpQuiet_step_h hlq ?_
  clear hlq lq
  intro K lq hlq hK
  refine wanted_go (by rfl) ?_
  refine ⟨?_, fun W hW => ?_, ?_⟩
  rotate_left
  · skip
    go_simp
    with_reducible rfl
  refine hK _ ?_
  clear hK K
  (try simp only [Act.put, List.setIfInBounds_toArray, List.set_cons_zero, List.set_cons_succ])
  refine wpQuiet_step_h hlq ?_
  clear hlq lq
  intro K lq hlq hK
  refine wanted_go (by rfl) ?_
  refine ⟨?_, fun W hW => ?_, ?_⟩
  rotate_left
  · skip
    go_simp
    with_reducible rfl
  refine hK _ ?_
  clear hK K
  (try simp only [Act.put, List.setIfInBounds_toArray, List.set_cons_zero, List.set_cons_succ])
  refine wpQuiet_step_h hlq ?_
  clear hlq lq
  intro K lq hlq hK
  refine wanted_go (by rfl) ?_
  refine ⟨?_, fun W hW => ?_, ?_⟩
  rotate_left
  · skip
    go_simp
    with_reducible rfl
  refine hK _ ?_
  clear hK K
  (try simp only [Act.put, List.setIfInBounds_toArray, List.set_cons_zero, List.set_cons_succ])
  refine wpQuiet_step_h hlq ?_
  clear hlq lq
  intro K lq hlq hK
  refine wanted_go (by rfl) ?_
  refine ⟨?_, fun W hW => ?_, ?_⟩
  rotate_left
  · skip
    go_simp
    with_reducible rfl
  refine hK _ ?_
  clear hK K
  (try simp only [Act.put, List.setIfInBounds_toArray, List.set_cons_zero, List.set_cons_succ])
  refine wpQuiet_step_h hlq ?_
  clear hlq lq
  intro K lq hlq hK
  refine wanted_go (by rfl) ?_
  refine ⟨?_, fun W hW => ?_, ?_⟩
  rotate_left
  · skip
    go_simp
    with_reducible rfl
  refine hK _ ?_
  clear hK K
  (try simp only [Act.put, List.setIfInBounds_toArray, List.set_cons_zero, List.set_cons_succ])
  refine wpQuiet_nil_h hlq ?_
  clear hlq lq hV2
  intro V3 hV4
  go_wp2_with fail
  refine wp_region_C (C := Bz w [(w.heap.size + 2, oPP r), (w.heap.size + 1, oPP q), (w.heap.size, oPP p)]) (by kernel_rfl) (by kernel_rfl) (hV4.drew) ?_
  refine wpQuiet_hide ?_
  intro lq hlq
  refine wpQuiet_step_h hlq ?_
  clear hlq lq
  intro K lq hlq hK
  refine wanted_go (by rfl) ?_
  refine ⟨?_, fun W hW => ?_, ?_⟩
  rotate_left
  · skip
    go_simp
    with_reducible rfl
  refine hK _ ?_
  clear hK K
  (try simp only [Act.put, List.setIfInBounds_toArray, List.set_cons_zero, List.set_cons_succ])
  refine wpQuiet_step_h hlq ?_
  clear hlq lq
  intro K lq hlq hK
  refine wanted_go (by rfl) ?_
  refine ⟨vPf p.d, fun W hW => ?_, ?_⟩
  · skip
    exact quiet_load 55 _ rfl rfl (ldPPd (hW.all.get 2 (x := (w.heap.size, oPP p)) rfl) Hp.out)
  refine hK _ ?_
  clear hK K
  (try simp only [Act.put, List.setIfInBounds_toArray, List.set_cons_zero, List.set_cons_succ])
  refine wpQuiet_step_h hlq ?_
  clear hlq lq
  intro K lq hlq hK
  refine wanted_go (by rfl) ?_
  refine ⟨?_, fun W hW => ?_, ?_⟩
  rotate_left
  · skip
    go_simp
    with_reducible rfl
  refine hK _ ?_
  clear hK K
  (try simp only [Act.put, List.setIfInBounds_toArray, List.set_cons_zero, List.set_cons_succ])
  refine wpQuiet_step_h hlq ?_
  clear hlq lq
  intro K lq hlq hK
  refine wanted_go (by rfl) ?_
  refine ⟨vPf q.d, fun W hW => ?_, ?_⟩
  · skip
    exact quiet_load 55 _ rfl rfl (ldPPd (hW.all.get 1 (x := (w.heap.size + 1, oPP q)) rfl) Hq.out)
  refine hK _ ?_
  clear hK K
  (try simp only [Act.put, List.setIfInBounds_toArray, List.set_cons_zero, List.set_cons_succ])
  refine wpQuiet_step_h hlq ?_
  clear hlq lq
  intro K lq hlq hK
  refine wanted_go (by rfl) ?_
  refine ⟨.int .i64 (-1), fun W hW => ?_, ?_⟩
  · go_simp
    exact (cmpP_call Hp.out.1 Hq.out.1 hd.out).mono fun e W2 hc2 => ⟨hc2.1, hW.go hc2.2⟩
  refine hK _ ?_
  clear hK K
  (try simp only [Act.put, List.setIfInBounds_toArray, List.set_cons_zero, List.set_cons_succ])
  refine wpQuiet_step_h hlq ?_
  clear hlq lq
  intro K lq hlq hK
  refine wanted_go (by rfl) ?_
  refine ⟨?_, fun W hW => ?_, ?_⟩
  rotate_left
  · skip
    go_simp
    with_reducible rfl
  refine hK _ ?_
  clear hK K
  (try simp only [Act.put, List.setIfInBounds_toArray, List.set_cons_zero, List.set_cons_succ])
  refine wpQuiet_step_h hlq ?_
  clear hlq lq
  intro K lq hlq hK
  refine wanted_go (by rfl) ?_
  refine ⟨vPf q.d, fun W hW => ?_, ?_⟩
  · skip
    exact quiet_load 55 _ rfl rfl (ldPPd (hW.all.get 1 (x := (w.heap.size + 1, oPP q)) rfl) Hq.out)
  refine hK _ ?_
  clear hK K
  (try simp only [Act.put, List.setIfInBounds_toArray, List.set_cons_zero, List.set_cons_succ])
  refine wpQuiet_step_h hlq ?_
  clear hlq lq
  intro K lq hlq hK
  refine wanted_go (by rfl) ?_
  refine ⟨?_, fun W hW => ?_, ?_⟩
  rotate_left
  · skip
    go_simp
    with_reducible rfl
  refine hK _ ?_
  clear hK K
  (try simp only [Act.put, List.setIfInBounds_toArray, List.set_cons_zero, List.set_cons_succ])
  refine wpQuiet_step_h hlq ?_
  clear hlq lq
  intro K lq hlq hK
  refine wanted_go (by rfl) ?_
  refine ⟨vPf p.d, fun W hW => ?_, ?_⟩
  · skip
    exact quiet_load 55 _ rfl rfl (ldPPd (hW.all.get 2 (x := (w.heap.size, oPP p)) rfl) Hp.out)
  refine hK _ ?_
  clear hK K
  (try simp only [Act.put, List.setIfInBounds_toArray, List.set_cons_zero, List.set_cons_succ])
  refine wpQuiet_step_h hlq ?_
  clear hlq lq
  intro K lq hlq hK
  refine wanted_go (by rfl) ?_
  refine ⟨.int .i64 1, fun W hW => ?_, ?_⟩
  · go_simp
    exact (cmpP_call Hq.out.1 Hp.out.1 hd2.out).mono fun e W2 hc2 => ⟨hc2.1, hW.go hc2.2⟩
  refine hK _ ?_
  clear hK K
  (try simp only [Act.put, List.setIfInBounds_toArray, List.set_cons_zero, List.set_cons_succ])
  refine wpQuiet_step_h hlq ?_
  clear hlq lq
  intro K lq hlq hK
  refine wanted_go (by rfl) ?_
  refine ⟨?_, fun W hW => ?_, ?_⟩
  rotate_left
  · skip
    go_simp
    with_reducible rfl
  refine hK _ ?_
  clear hK K
  (try simp only [Act.put, List.setIfInBounds_toArray, List.set_cons_zero, List.set_cons_succ])
  refine wpQuiet_step_h hlq ?_
  clear hlq lq
  intro K lq hlq hK
  refine wanted_go (by rfl) ?_
  refine ⟨?_, fun W hW => ?_, ?_⟩
  rotate_left
  · skip
    go_simp
    with_reducible rfl
  refine hK _ ?_
  clear hK K
  (try simp only [Act.put, List.setIfInBounds_toArray, List.set_cons_zero, List.set_cons_succ])
  refine wpQuiet_nil_h hlq ?_
  clear hlq lq hV4
  intro V5 hV6
  go_wp2_with (refine wpList_quiet (C := Bz w [(w.heap.size + 2, oPP r), (w.heap.size + 1, oPP q), (w.heap.size, oPP p)]) 35 (by rfl) hV6 ?_)
  refine wpQuiet_hide ?_
  intro lq hlq
  refine wpQuiet_step_h hlq ?_
  clear hlq lq
  intro K lq hlq hK
  refine wanted_go (by rfl) ?_
  refine ⟨?_, fun W hW => ?_, ?_⟩
  rotate_left
  · skip
    go_simp
    with_reducible rfl
  refine hK _ ?_
  clear hK K
  (try simp only [Act.put, List.setIfInBounds_toArray, List.set_cons_zero, List.set_cons_succ])
  refine wpQuiet_step_h hlq ?_
  clear hlq lq
  intro K lq hlq hK
  refine wanted_go (by rfl) ?_
  refine ⟨?_, fun W hW => ?_, ?_⟩
  rotate_left
  · skip
    go_simp
    with_reducible rfl
  refine hK _ ?_
  clear hK K
  (try simp only [Act.put, List.setIfInBounds_toArray, List.set_cons_zero, List.set_cons_succ])
  refine wpQuiet_step_h hlq ?_
  clear hlq lq
  intro K lq hlq hK
  refine wanted_go (by rfl) ?_
  refine ⟨?_, fun W hW => ?_, ?_⟩
  rotate_left
  · skip
    go_simp
    with_reducible rfl
  refine hK _ ?_
  clear hK K
  (try simp only [Act.put, List.setIfInBounds_toArray, List.set_cons_zero, List.set_cons_succ])
  refine wpQuiet_step_h hlq ?_
  clear hlq lq
  intro K lq hlq hK
  refine wanted_go (by rfl) ?_
  refine ⟨?_, fun W hW => ?_, ?_⟩
  rotate_left
  · skip
    go_simp
    with_reducible rfl
  refine hK _ ?_
  clear hK K
  (try simp only [Act.put, List.setIfInBounds_toArray, List.set_cons_zero, List.set_cons_succ])
  refine wpQuiet_step_h hlq ?_
  clear hlq lq
  intro K lq hlq hK
  refine wanted_go (by rfl) ?_
  refine ⟨?_, fun W hW => ?_, ?_⟩
  rotate_left
  · skip
    go_simp
    with_reducible rfl
  refine hK _ ?_
  clear hK K
  (try simp only [Act.put, List.setIfInBounds_toArray, List.set_cons_zero, List.set_cons_succ])
  refine wpQuiet_step_h hlq ?_
  clear hlq lq
  intro K lq hlq hK
  refine wanted_go (by rfl) ?_
  refine ⟨?_, fun W hW => ?_, ?_⟩
  rotate_left
  · skip
    go_simp
    with_reducible rfl
  refine hK _ ?_
  clear hK K
  (try simp only [Act.put, List.setIfInBounds_toArray, List.set_cons_zero, List.set_cons_succ])
  refine wpQuiet_step_h hlq ?_
  clear hlq lq
  intro K lq hlq hK
  refine wanted_go (by rfl) ?_
  refine ⟨vPf p.d, fun W hW => ?_, ?_⟩
  · skip
    exact quiet_load 55 _ rfl rfl (ldPPd (hW.all.get 2 (x := (w.heap.size, oPP p)) rfl) Hp.out)
  refine hK _ ?_
  clear hK K
  (try simp only [Act.put, List.setIfInBounds_toArray, List.set_cons_zero, List.set_cons_succ])
  refine wpQuiet_step_h hlq ?_
  clear hlq lq
  intro K lq hlq hK
  refine wanted_go (by rfl) ?_
  refine ⟨?_, fun W hW => ?_, ?_⟩
  rotate_left
  · skip
    go_simp
    with_reducible rfl
  refine hK _ ?_
  clear hK K
  (try simp only [Act.put, List.setIfInBounds_toArray, List.set_cons_zero, List.set_cons_succ])
  refine wpQuiet_step_h hlq ?_
  clear hlq lq
  intro K lq hlq hK
  refine wanted_go (by rfl) ?_
  refine ⟨vPf q.d, fun W hW => ?_, ?_⟩
  · skip
    exact quiet_load 55 _ rfl rfl (ldPPd (hW.all.get 1 (x := (w.heap.size + 1, oPP q)) rfl) Hq.out)
  refine hK _ ?_
  clear hK K
  (try simp only [Act.put, List.setIfInBounds_toArray, List.set_cons_zero, List.set_cons_succ])
  refine wpQuiet_step_h hlq ?_
  clear hlq lq
  intro K lq hlq hK
  refine wanted_go (by rfl) ?_
  refine ⟨.bool false, fun W hW => ?_, ?_⟩
  · skip
    exact quiet_eq (.inl rfl) (by rfl) (by rfl) (by rfl) guard55 (hef W)
  refine hK _ ?_
  clear hK K
  (try simp only [Act.put, List.setIfInBounds_toArray, List.set_cons_zero, List.set_cons_succ])
  refine wpQuiet_step_h hlq ?_
  clear hlq lq
  intro K lq hlq hK
  refine wanted_go (by rfl) ?_
  refine ⟨?_, fun W hW => ?_, ?_⟩
  rotate_left
  · skip
    go_simp
    with_reducible rfl
  refine hK _ ?_
  clear hK K
  (try simp only [Act.put, List.setIfInBounds_toArray, List.set_cons_zero, List.set_cons_succ])
  refine wpQuiet_step_h hlq ?_
  clear hlq lq
  intro K lq hlq hK
  refine wanted_go (by rfl) ?_
  refine ⟨?_, fun W hW => ?_, ?_⟩
  rotate_left
  · skip
    go_simp
    with_reducible rfl
  refine hK _ ?_
  clear hK K
  (try simp only [Act.put, List.setIfInBounds_toArray, List.set_cons_zero, List.set_cons_succ])
  refine wpQuiet_step_h hlq ?_
  clear hlq lq
  intro K lq hlq hK
  refine wanted_go (by rfl) ?_
  refine ⟨?_, fun W hW => ?_, ?_⟩
  rotate_left
  · skip
    go_simp
    with_reducible rfl
  refine hK _ ?_
  clear hK K
  (try simp only [Act.put, List.setIfInBounds_toArray, List.set_cons_zero, List.set_cons_succ])
  refine wpQuiet_step_h hlq ?_
  clear hlq lq
  intro K lq hlq hK
  refine wanted_go (by rfl) ?_
  refine ⟨?_, fun W hW => ?_, ?_⟩
  rotate_left
  · skip
    go_simp
    with_reducible rfl
  refine hK _ ?_
  clear hK K
  (try simp only [Act.put, List.setIfInBounds_toArray, List.set_cons_zero, List.set_cons_succ])
  refine wpQuiet_step_h hlq ?_
  clear hlq lq
  intro K lq hlq hK
  refine wanted_go (by rfl) ?_
  refine ⟨?_, fun W hW => ?_, ?_⟩
  rotate_left
  · skip
    go_simp
    with_reducible rfl
  refine hK _ ?_
  clear hK K
  (try simp only [Act.put, List.setIfInBounds_toArray, List.set_cons_zero, List.set_cons_succ])
  refine wpQuiet_step_h hlq ?_
  clear hlq lq
  intro K lq hlq hK
  refine wanted_go (by rfl) ?_
  refine ⟨?_, fun W hW => ?_, ?_⟩
  rotate_left
  · skip
    go_simp
    with_reducible rfl
  refine hK _ ?_
  clear hK K
  (try simp only [Act.put, List.setIfInBounds_toArray, List.set_cons_zero, List.set_cons_succ])
  refine wpQuiet_step_h hlq ?_
  clear hlq lq
  intro K lq hlq hK
  refine wanted_go (by rfl) ?_
  refine ⟨?_, fun W hW => ?_, ?_⟩
  rotate_left
  · skip
    go_simp
    with_reducible rfl
  refine hK _ ?_
  clear hK K
  (try simp only [Act.put, List.setIfInBounds_toArray, List.set_cons_zero, List.set_cons_succ])
  refine wpQuiet_step_h hlq ?_
  clear hlq lq
  intro K lq hlq hK
  refine wanted_go (by rfl) ?_
  refine ⟨?_, fun W hW => ?_, ?_⟩
  rotate_left
  · skip
    go_simp
    with_reducible rfl
  refine hK _ ?_
  clear hK K
  (try simp only [Act.put, List.setIfInBounds_toArray, List.set_cons_zero, List.set_cons_succ])
  refine wpQuiet_step_h hlq ?_
  clear hlq lq
  intro K lq hlq hK
  refine wanted_go (by rfl) ?_
  refine ⟨?_, fun W hW => ?_, ?_⟩
  rotate_left
  · skip
    go_simp
    with_reducible rfl
  refine hK _ ?_
  clear hK K
  (try simp only [Act.put, List.setIfInBounds_toArray, List.set_cons_zero, List.set_cons_succ])
  refine wpQuiet_step_h hlq ?_
  clear hlq lq
  intro K lq hlq hK
  refine wanted_go (by rfl) ?_
  refine ⟨?_, fun W hW => ?_, ?_⟩
  rotate_left
  · skip
    go_simp
    with_reducible rfl
  refine hK _ ?_
  clear hK K
  (try simp only [Act.put, List.setIfInBounds_toArray, List.set_cons_zero, List.set_cons_succ])
  refine wpQuiet_step_h hlq ?_
  clear hlq lq
  intro K lq hlq hK
  refine wanted_go (by rfl) ?_
  refine ⟨?_, fun W hW => ?_, ?_⟩
  rotate_left
  · skip
    go_simp
    with_reducible rfl
  refine hK _ ?_
  clear hK K
  (try simp only [Act.put, List.setIfInBounds_toArray, List.set_cons_zero, List.set_cons_succ])
  refine wpQuiet_step_h hlq ?_
  clear hlq lq
  intro K lq hlq hK
  refine wanted_go (by rfl) ?_
  refine ⟨?_, fun W hW => ?_, ?_⟩
  rotate_left
  · skip
    go_simp
    with_reducible rfl
  refine hK _ ?_
  clear hK K
  (try simp only [Act.put, List.setIfInBounds_toArray, List.set_cons_zero, List.set_cons_succ])
  refine wpQuiet_step_h hlq ?_
  clear hlq lq
  intro K lq hlq hK
  refine wanted_go (by rfl) ?_
  refine ⟨?_, fun W hW => ?_, ?_⟩
  rotate_left
  · skip
    go_simp
    with_reducible rfl
  refine hK _ ?_
  clear hK K
  (try simp only [Act.put, List.setIfInBounds_toArray, List.set_cons_zero, List.set_cons_succ])
  refine wpQuiet_step_h hlq ?_
  clear hlq lq
  intro K lq hlq hK
  refine wanted_go (by rfl) ?_
  refine ⟨?_, fun W hW => ?_, ?_⟩
  rotate_left
  · skip
    go_simp
    with_reducible rfl
  refine hK _ ?_
  clear hK K
  (try simp only [Act.put, List.setIfInBounds_toArray, List.set_cons_zero, List.set_cons_succ])
  refine wpQuiet_step_h hlq ?_
  clear hlq lq
  intro K lq hlq hK
  refine wanted_go (by rfl) ?_
  refine ⟨vA p.d.a, fun W hW => ?_, ?_⟩
  · skip
    exact quiet_load 42 _ rfl rfl (ldPPda (hW.all.get 2 (x := (w.heap.size, oPP p)) rfl) Hp.out)
  refine hK _ ?_
  clear hK K
  (try simp only [Act.put, List.setIfInBounds_toArray, List.set_cons_zero, List.set_cons_succ])
  refine wpQuiet_step_h hlq ?_
  clear hlq lq
  intro K lq hlq hK
  refine wanted_go (by rfl) ?_
  refine ⟨?_, fun W hW => ?_, ?_⟩
  rotate_left
  · skip
    go_simp
    with_reducible rfl
  refine hK _ ?_
  clear hK K
  (try simp only [Act.put, List.setIfInBounds_toArray, List.set_cons_zero, List.set_cons_succ])
  refine wpQuiet_step_h hlq ?_
  clear hlq lq
  intro K lq hlq hK
  refine wanted_go (by rfl) ?_
  refine ⟨?_, fun W hW => ?_, ?_⟩
  rotate_left
  · skip
    go_simp
    with_reducible rfl
  refine hK _ ?_
  clear hK K
  (try simp only [Act.put, List.setIfInBounds_toArray, List.set_cons_zero, List.set_cons_succ])
  refine wpQuiet_step_h hlq ?_
  clear hlq lq
  intro K lq hlq hK
  refine wanted_go (by rfl) ?_
  refine ⟨vA p.d.a, fun W hW => ?_, ?_⟩
  · skip
    exact quiet_load 42 _ rfl rfl (ldPPda (hW.all.get 2 (x := (w.heap.size, oPP p)) rfl) Hp.out)
  refine hK _ ?_
  clear hK K
  (try simp only [Act.put, List.setIfInBounds_toArray, List.set_cons_zero, List.set_cons_succ])
  refine wpQuiet_step_h hlq ?_
  clear hlq lq
  intro K lq hlq hK
  refine wanted_go (by rfl) ?_
  refine ⟨.int .i64 0, fun W hW => ?_, ?_⟩
  · go_simp
    have E' := hW.env E
    exact (cmpA_call Hp.out.1.1 Hp.out.1.1 ha.out).mono fun e W2 hc2 => ⟨hc2.1, hW.go hc2.2⟩
  refine hK _ ?_
  clear hK K
  (try simp only [Act.put, List.setIfInBounds_toArray, List.set_cons_zero, List.set_cons_succ])
  refine wpQuiet_step_h hlq ?_
  clear hlq lq
  intro K lq hlq hK
  refine wanted_go (by rfl) ?_
  refine ⟨?_, fun W hW => ?_, ?_⟩
  rotate_left
  · skip
    go_simp
    with_reducible rfl
  refine hK _ ?_
  clear hK K
  (try simp only [Act.put, List.setIfInBounds_toArray, List.set_cons_zero, List.set_cons_succ])
  refine wpQuiet_step_h hlq ?_
  clear hlq lq
  intro K lq hlq hK
  refine wanted_go (by rfl) ?_
  refine ⟨?_, fun W hW => ?_, ?_⟩
  rotate_left
  · skip
    go_simp
    with_reducible rfl
  refine hK _ ?_
  clear hK K
  (try simp only [Act.put, List.setIfInBounds_toArray, List.set_cons_zero, List.set_cons_succ])
  refine wpQuiet_step_h hlq ?_
  clear hlq lq
  intro K lq hlq hK
  refine wanted_go (by rfl) ?_
  refine ⟨?_, fun W hW => ?_, ?_⟩
  rotate_left
  · skip
    go_simp
    with_reducible rfl
  refine hK _ ?_
  clear hK K
  (try simp only [Act.put, List.setIfInBounds_toArray, List.set_cons_zero, List.set_cons_succ])
  refine wpQuiet_step_h hlq ?_
  clear hlq lq
  intro K lq hlq hK
  refine wanted_go (by rfl) ?_
  refine ⟨.bool true, fun W hW => ?_, ?_⟩
  · go_simp
    have E' := hW.env E
    exact (live02_any E').mono fun e W2 hc2 => ⟨hc2.1, hW.go hc2.2⟩
  refine hK _ ?_
  clear hK K
  (try simp only [Act.put, List.setIfInBounds_toArray, List.set_cons_zero, List.set_cons_succ])
  refine wpQuiet_step_h hlq ?_
  clear hlq lq
  intro K lq hlq hK
  refine wanted_go (by rfl) ?_
  refine ⟨?_, fun W hW => ?_, ?_⟩
  rotate_left
  · skip
    go_simp
    with_reducible rfl
  refine hK _ ?_
  clear hK K
  (try simp only [Act.put, List.setIfInBounds_toArray, List.set_cons_zero, List.set_cons_succ])
  refine wpQuiet_step_h hlq ?_
  clear hlq lq
  intro K lq hlq hK
  refine wanted_go (by rfl) ?_
  refine ⟨?_, fun W hW => ?_, ?_⟩
  rotate_left
  · skip
    go_simp
    with_reducible rfl
  refine hK _ ?_
  clear hK K
  (try simp only [Act.put, List.setIfInBounds_toArray, List.set_cons_zero, List.set_cons_succ])
  refine wpQuiet_nil_h hlq ?_
  clear hlq lq hV6
  intro V7 hV8
  go_wp2_with fail
  go_ret
  exact ⟨rfl, hV8.bel⟩
theorem AddrOrder_walk (p q r : Pr) (hp : p.fit) (hq : q.fit) (hr : r.fit) {w : World} (E : Env w) : Calls Tryz.prog 9 #[vPP p, vPP q, vPP r] w fun e w' => e = .returned (.bool true) ∧ Below w.heap.size w w' := by
  obtain ⟨o1, o2, o3, o4, o5, o6, o7, o8⟩ := order_plain (p := p) (q := q) (r := r) ⟨hp.1.1, hp.2.1⟩ ⟨hq.1.1, hq.2.1⟩ ⟨hr.1.1, hr.2.1⟩
  have rx : cmpPP p q = -1 ∨ cmpPP p q = 0 ∨ cmpPP p q = 1 := by rw [cmpPP_key ⟨hp.1.1, hp.2.1⟩ ⟨hq.1.1, hq.2.1⟩]; exact lexc_rng _ _
  have rd : cmpP p.d q.d = -1 ∨ cmpP p.d q.d = 0 ∨ cmpP p.d q.d = 1 := by rw [cmpP_key hp.1.1 hq.1.1]; exact lexc_rng _ _
  have y : ∀ n, cmpPP p q = n → cmpPP q p = -n := fun n h => by omega
  have e : ∀ n, cmpPP p q = n → decide (p = q) = decide (n = 0) := fun n h => by rw [h] at o2; simp only [decide_eq_decide]; exact o2.symm
  have f : ∀ n, cmpP p.d q.d = n → decide (p.d = q.d) = decide (n = 0) := fun n h => by rw [h] at o6; simp only [decide_eq_decide]; exact o6.symm
  have y2 : ∀ n, cmpP p.d q.d = n → cmpP q.d p.d = -n := fun n h => by omega
  rcases rx with hx | hx | hx
  · have hdd : cmpP p.d q.d = 0 ∨ cmpP p.d q.d = -1 := by omega
    rcases Int.lt_trichotomy (cmpPP q r) 0 with hb | hb | hb
    · have hc : cmpPP p r < 0 := o4 (by omega) hb
      rcases hdd with hd | hd
      · exact order_m0n hp hq hr E hx (y _ hx) rfl rfl hd (y2 _ hd) (e _ hx) (f _ hd) o8 (decide_eq_true (by omega)) (decide_eq_false (by omega)) (decide_eq_true hb) (decide_eq_false (by omega))
      · exact order_m1n hp hq hr E hx (y _ hx) rfl rfl hd (y2 _ hd) (e _ hx) (f _ hd) o8 (decide_eq_true (by omega)) (decide_eq_false (by omega)) (decide_eq_true hb) (decide_eq_false (by omega))
    · have hc : cmpPP p r ≤ 0 := o3 (by omega) (by omega)
      rcases hdd with hd | hd
      · exact order_m0z hp hq hr E hx (y _ hx) rfl rfl hd (y2 _ hd) (e _ hx) (f _ hd) o8 (decide_eq_true (by omega)) (decide_eq_false (by omega)) (decide_eq_false (by omega))
      · exact order_m1z hp hq hr E hx (y _ hx) rfl rfl hd (y2 _ hd) (e _ hx) (f _ hd) o8 (decide_eq_true (by omega)) (decide_eq_false (by omega)) (decide_eq_false (by omega))
    · rcases hdd with hd | hd
      · exact order_m0p hp hq hr E hx (y _ hx) rfl rfl hd (y2 _ hd) (e _ hx) (f _ hd) o8 (decide_eq_false (by omega)) (decide_eq_false (by omega))
      · exact order_m1p hp hq hr E hx (y _ hx) rfl rfl hd (y2 _ hd) (e _ hx) (f _ hd) o8 (decide_eq_false (by omega)) (decide_eq_false (by omega))
  · have hd : cmpP p.d q.d = 0 := by omega
    by_cases hb : cmpPP q r ≤ 0
    · have hc : cmpPP p r ≤ 0 := o3 (by omega) hb
      exact order_0l hp hq hr E hx (y _ hx) rfl rfl hd (y2 _ hd) (e _ hx) (f _ hd) o8 (decide_eq_true hb) (decide_eq_false (by omega))
    · exact order_0p hp hq hr E hx (y _ hx) rfl rfl hd (y2 _ hd) (e _ hx) (f _ hd) o8 (decide_eq_false hb)
  · have hdd : cmpP p.d q.d = 0 ∨ cmpP p.d q.d = 1 := by omega
    rcases hdd with hd | hd
    · exact order_10 hp hq hr E hx (y _ hx) rfl rfl hd (y2 _ hd) (e _ hx) (f _ hd) o8
    · exact order_11 hp hq hr E hx (y _ hx) rfl rfl hd (y2 _ hd) (e _ hx) (f _ hd) o8
end Go.Proofs.YtnljjlaececnkaaGreatDoor
