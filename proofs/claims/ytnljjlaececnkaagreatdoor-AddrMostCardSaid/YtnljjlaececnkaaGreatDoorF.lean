/-
  The prefix of all addresses, of an address's first bits; pairs: which may be, which match. Condition: an address is sixteen bytes, a length a machine's number.
-/
import Derived.Test.YtnljjlaececnkaaGreatDoorE
namespace Go.Proofs.YtnljjlaececnkaaGreatDoor
open Go.RowKit
set_option linter.unusedVariables false
set_option linter.unusedSimpArgs false
theorem pp_at1 {p : Pr} {j : Nat} {v : Value} (h : (pCs p.d.a p.d.n)[j]? = some v) : (pCs p.d.a p.d.n ++ pCs p.s.a p.s.n)[j]? = some v := by
  rw [List.getElem?_append_left (List.getElem?_eq_some_iff.1 h).1]; exact h
theorem pp_at2 {p : Pr} (hp : p.fit) {j : Nat} {v : Value} (h : (pCs p.s.a p.s.n)[j]? = some v) : (pCs p.d.a p.d.n ++ pCs p.s.a p.s.n)[17 + j]? = some v := by
  have hl := pCs_len hp.1.1 p.d.n
  rw [List.getElem?_append_right (by omega), hl, Nat.add_sub_cancel_left]; exact h
theorem BoxPP.run {p : Pr} {g : Nat} {W : World} (h : W.heap[g]? = some (oPP p)) (hp : p.fit) :
    (loadVar 55 ⟨g, 0, none⟩).run Tryz.prog W = .ok (vPf p.d) W ∧ (loadVar 55 ⟨g, 17, none⟩).run Tryz.prog W = .ok (vPf p.s) W ∧ (loadVar 57 ⟨g, 0, none⟩).run Tryz.prog W = .ok (vPP p) W := by
  have hr := row_load h
  refine ⟨?_, ?_, ?_⟩
  · exact run_loadVar_mid W g 0 55 (pCs p.d.a p.d.n) _ (fun j v hj => hr j v (pp_at1 hj)) Tryz.underlying55 rfl (by rw [pCs_len hp.1.1]; exact size55)
  · exact run_loadVar_mid W g 17 55 (pCs p.s.a p.s.n) _ (fun j v hj => by have := hr (17 + j) v (pp_at2 hp hj); rwa [Nat.zero_add] at this) Tryz.underlying55 rfl (by rw [pCs_len hp.2.1]; exact size55)
  · exact run_loadVar_mid W g 0 57 (pCs p.d.a p.d.n ++ pCs p.s.a p.s.n) _ hr Tryz.underlying57 rfl (by rw [List.length_append, pCs_len hp.1.1, pCs_len hp.2.1]; exact size57)
theorem BoxPP.lens {p : Pr} {g : Nat} {W : World} (h : W.heap[g]? = some (oPP p)) (hp : p.fit) : W.cell? ⟨g, 16, none⟩ = some (.int .i64 p.d.n) ∧ W.cell? ⟨g, 33, none⟩ = some (.int .i64 p.s.n) := by
  have hr := row_load h
  refine ⟨?_, ?_⟩
  · have := hr 16 _ (pp_at1 (pCs_get hp.1.1)); simpa using this
  · have := hr 33 _ (pp_at2 hp (j := 16) (pCs_get hp.2.1)); simpa using this
set_option maxRecDepth 100000 in
set_option maxHeartbeats 1600000 in
theorem chkPP_any {w : World} {p : Pr} (hp : p.fit) : Calls Tryz.prog 60 #[vPP p] w fun e w' => e = .returned (errP (chkPP p)) ∧ Below w.heap.size w w' := by
  obtain ⟨c, hc⟩ : ∃ c, chk p.d = c := ⟨_, rfl⟩
  obtain ⟨d, hd⟩ : ∃ c, chk p.s = c := ⟨_, rfl⟩
  cases c
  · have hr : chkPP p = false := by simp [chkPP, hc]
    rw [hr]
    clear hr
    replace hp := Lib.hid hp
    unfold vPP
    go_enter Tryz.func60, Tryz.ntmps60
    go_wp2_with fail
    refine wp_region_C (C := Bx w w.heap.size [(w.heap.size, oPP p)]) (by kernel_rfl) (by kernel_rfl) (Bx.drew (Bx.start1 w (oPP p))) ?_
    refine wpQuiet_hide ?_
    intro lq hlq
    refine wpQuiet_step_h hlq ?_
    clear hlq lq
    intro K lq hlq hK
    refine wanted_go (by rfl) ?_
    refine ⟨?_, fun W hW => ?_, ?_⟩
    rotate_left
    · obtain ⟨q1, q2, q3⟩ := BoxPP.run hW.2.1.1 hp.out
      go_simp
      with_reducible rfl
    refine hK _ ?_
    clear hK K
    (try simp only [Act.put, List.setIfInBounds_toArray, List.set_cons_zero, List.set_cons_succ])
    refine wpQuiet_step_h hlq ?_
    clear hlq lq
    intro K lq hlq hK
    refine wanted_go (by rfl) ?_
    refine ⟨vPf p.d, fun W hW => ?_, ?_⟩
    · obtain ⟨q1, q2, q3⟩ := BoxPP.run hW.2.1.1 hp.out
      exact quiet_load 55 _ rfl rfl q1
    refine hK _ ?_
    clear hK K
    (try simp only [Act.put, List.setIfInBounds_toArray, List.set_cons_zero, List.set_cons_succ])
    refine wpQuiet_step_h hlq ?_
    clear hlq lq
    intro K lq hlq hK
    refine wanted_go (by rfl) ?_
    refine ⟨.int .i64 21, fun W hW => ?_, ?_⟩
    · go_simp
      refine (check_any hp.out.1).mono fun e W2 hc2 => ⟨by rw [hc2.1, hc]; rfl, hW.go hc2.2⟩
    refine hK _ ?_
    clear hK K
    (try simp only [Act.put, List.setIfInBounds_toArray, List.set_cons_zero, List.set_cons_succ])
    refine wpQuiet_step_h hlq ?_
    clear hlq lq
    intro K lq hlq hK
    refine wanted_go (by rfl) ?_
    refine ⟨?_, fun W hW => ?_, ?_⟩
    rotate_left
    · obtain ⟨q1, q2, q3⟩ := BoxPP.run hW.2.1.1 hp.out
      go_simp
      with_reducible rfl
    refine hK _ ?_
    clear hK K
    (try simp only [Act.put, List.setIfInBounds_toArray, List.set_cons_zero, List.set_cons_succ])
    refine wpQuiet_step_h hlq ?_
    clear hlq lq
    intro K lq hlq hK
    refine wanted_go (by rfl) ?_
    refine ⟨?_, fun W hW => ?_, ?_⟩
    rotate_left
    · obtain ⟨q1, q2, q3⟩ := BoxPP.run hW.2.1.1 hp.out
      go_simp
      with_reducible rfl
    refine hK _ ?_
    clear hK K
    (try simp only [Act.put, List.setIfInBounds_toArray, List.set_cons_zero, List.set_cons_succ])
    refine wpQuiet_step_h hlq ?_
    clear hlq lq
    intro K lq hlq hK
    go_simp
    refine hK _ ?_
    clear hK K
    refine wpQuiet_step_h hlq ?_
    clear hlq lq
    intro K lq hlq hK
    go_simp
    refine hK _ ?_
    clear hK K
    refine wpQuiet_step_h hlq ?_
    clear hlq lq
    intro K lq hlq hK
    go_simp
    refine hK _ ?_
    clear hK K
    refine wpQuiet_step_h hlq ?_
    clear hlq lq
    intro K lq hlq hK
    go_simp
    refine hK _ ?_
    clear hK K
    refine wpQuiet_step_h hlq ?_
    clear hlq lq
    intro K lq hlq hK
    refine wanted_go (by rfl) ?_
    refine ⟨?_, fun W hW => ?_, ?_⟩
    rotate_left
    · obtain ⟨q1, q2, q3⟩ := BoxPP.run hW.2.1.1 hp.out
      go_simp
      with_reducible rfl
    refine hK _ ?_
    clear hK K
    (try simp only [Act.put, List.setIfInBounds_toArray, List.set_cons_zero, List.set_cons_succ])
    refine wpQuiet_step_h hlq ?_
    clear hlq lq
    intro K lq hlq hK
    refine wanted_go (by rfl) ?_
    refine ⟨?_, fun W hW => ?_, ?_⟩
    rotate_left
    · obtain ⟨q1, q2, q3⟩ := BoxPP.run hW.2.1.1 hp.out
      go_simp
      with_reducible rfl
    refine hK _ ?_
    clear hK K
    (try simp only [Act.put, List.setIfInBounds_toArray, List.set_cons_zero, List.set_cons_succ])
    refine wpQuiet_step_h hlq ?_
    clear hlq lq
    intro K lq hlq hK
    go_simp
    refine hK _ ?_
    clear hK K
    refine wpQuiet_step_h hlq ?_
    clear hlq lq
    intro K lq hlq hK
    go_simp
    refine hK _ ?_
    clear hK K
    refine wpQuiet_step_h hlq ?_
    clear hlq lq
    intro K lq hlq hK
    go_simp
    refine hK _ ?_
    clear hK K
    refine wpQuiet_step_h hlq ?_
    clear hlq lq
    intro K lq hlq hK
    go_simp
    refine hK _ ?_
    clear hK K
    refine wpQuiet_step_h hlq ?_
    clear hlq lq
    intro K lq hlq hK
    go_simp
    refine hK _ ?_
    clear hK K
    refine wpQuiet_step_h hlq ?_
    clear hlq lq
    intro K lq hlq hK
    go_simp
    refine hK _ ?_
    clear hK K
    refine wpQuiet_step_h hlq ?_
    clear hlq lq
    intro K lq hlq hK
    go_simp
    refine hK _ ?_
    clear hK K
    refine wpQuiet_step_h hlq ?_
    clear hlq lq
    intro K lq hlq hK
    refine wanted_go (by rfl) ?_
    refine ⟨?_, fun W hW => ?_, ?_⟩
    rotate_left
    · obtain ⟨q1, q2, q3⟩ := BoxPP.run hW.2.1.1 hp.out
      go_simp
      with_reducible rfl
    refine hK _ ?_
    clear hK K
    (try simp only [Act.put, List.setIfInBounds_toArray, List.set_cons_zero, List.set_cons_succ])
    refine wpQuiet_nil_h hlq ?_
    clear hlq lq
    intro w' hC'
    go_wp2_with fail
    go_ret
    exact ⟨rfl, hC'.1⟩
  · cases d
    · have hr : chkPP p = false := by simp [chkPP, hc, hd]
      rw [hr]
      clear hr
      replace hp := Lib.hid hp
      unfold vPP
      go_enter Tryz.func60, Tryz.ntmps60
      go_wp2_with fail
      refine wp_region_C (C := Bx w w.heap.size [(w.heap.size, oPP p)]) (by kernel_rfl) (by kernel_rfl) (Bx.drew (Bx.start1 w (oPP p))) ?_
      refine wpQuiet_hide ?_
      intro lq hlq
      refine wpQuiet_step_h hlq ?_
      clear hlq lq
      intro K lq hlq hK
      refine wanted_go (by rfl) ?_
      refine ⟨?_, fun W hW => ?_, ?_⟩
      rotate_left
      · obtain ⟨q1, q2, q3⟩ := BoxPP.run hW.2.1.1 hp.out
        go_simp
        with_reducible rfl
      refine hK _ ?_
      clear hK K
      (try simp only [Act.put, List.setIfInBounds_toArray, List.set_cons_zero, List.set_cons_succ])
      refine wpQuiet_step_h hlq ?_
      clear hlq lq
      intro K lq hlq hK
      refine wanted_go (by rfl) ?_
      refine ⟨vPf p.d, fun W hW => ?_, ?_⟩
      · obtain ⟨q1, q2, q3⟩ := BoxPP.run hW.2.1.1 hp.out
        exact quiet_load 55 _ rfl rfl q1
      refine hK _ ?_
      clear hK K
      (try simp only [Act.put, List.setIfInBounds_toArray, List.set_cons_zero, List.set_cons_succ])
      refine wpQuiet_step_h hlq ?_
      clear hlq lq
      intro K lq hlq hK
      refine wanted_go (by rfl) ?_
      refine ⟨.int .i64 0, fun W hW => ?_, ?_⟩
      · go_simp
        refine (check_any hp.out.1).mono fun e W2 hc2 => ⟨by rw [hc2.1, hc]; rfl, hW.go hc2.2⟩
      refine hK _ ?_
      clear hK K
      (try simp only [Act.put, List.setIfInBounds_toArray, List.set_cons_zero, List.set_cons_succ])
      refine wpQuiet_step_h hlq ?_
      clear hlq lq
      intro K lq hlq hK
      refine wanted_go (by rfl) ?_
      refine ⟨?_, fun W hW => ?_, ?_⟩
      rotate_left
      · obtain ⟨q1, q2, q3⟩ := BoxPP.run hW.2.1.1 hp.out
        go_simp
        with_reducible rfl
      refine hK _ ?_
      clear hK K
      (try simp only [Act.put, List.setIfInBounds_toArray, List.set_cons_zero, List.set_cons_succ])
      refine wpQuiet_step_h hlq ?_
      clear hlq lq
      intro K lq hlq hK
      refine wanted_go (by rfl) ?_
      refine ⟨?_, fun W hW => ?_, ?_⟩
      rotate_left
      · obtain ⟨q1, q2, q3⟩ := BoxPP.run hW.2.1.1 hp.out
        go_simp
        with_reducible rfl
      refine hK _ ?_
      clear hK K
      (try simp only [Act.put, List.setIfInBounds_toArray, List.set_cons_zero, List.set_cons_succ])
      refine wpQuiet_step_h hlq ?_
      clear hlq lq
      intro K lq hlq hK
      refine wanted_go (by rfl) ?_
      refine ⟨?_, fun W hW => ?_, ?_⟩
      rotate_left
      · obtain ⟨q1, q2, q3⟩ := BoxPP.run hW.2.1.1 hp.out
        go_simp
        with_reducible rfl
      refine hK _ ?_
      clear hK K
      (try simp only [Act.put, List.setIfInBounds_toArray, List.set_cons_zero, List.set_cons_succ])
      refine wpQuiet_step_h hlq ?_
      clear hlq lq
      intro K lq hlq hK
      refine wanted_go (by rfl) ?_
      refine ⟨vPf p.s, fun W hW => ?_, ?_⟩
      · obtain ⟨q1, q2, q3⟩ := BoxPP.run hW.2.1.1 hp.out
        exact quiet_load 55 _ rfl rfl q2
      refine hK _ ?_
      clear hK K
      (try simp only [Act.put, List.setIfInBounds_toArray, List.set_cons_zero, List.set_cons_succ])
      refine wpQuiet_step_h hlq ?_
      clear hlq lq
      intro K lq hlq hK
      refine wanted_go (by rfl) ?_
      refine ⟨.int .i64 21, fun W hW => ?_, ?_⟩
      · go_simp
        refine (check_any hp.out.2).mono fun e W2 hc2 => ⟨by rw [hc2.1, hd]; rfl, hW.go hc2.2⟩
      refine hK _ ?_
      clear hK K
      (try simp only [Act.put, List.setIfInBounds_toArray, List.set_cons_zero, List.set_cons_succ])
      refine wpQuiet_step_h hlq ?_
      clear hlq lq
      intro K lq hlq hK
      refine wanted_go (by rfl) ?_
      refine ⟨?_, fun W hW => ?_, ?_⟩
      rotate_left
      · obtain ⟨q1, q2, q3⟩ := BoxPP.run hW.2.1.1 hp.out
        go_simp
        with_reducible rfl
      refine hK _ ?_
      clear hK K
      (try simp only [Act.put, List.setIfInBounds_toArray, List.set_cons_zero, List.set_cons_succ])
      refine wpQuiet_step_h hlq ?_
      clear hlq lq
      intro K lq hlq hK
      refine wanted_go (by rfl) ?_
      refine ⟨?_, fun W hW => ?_, ?_⟩
      rotate_left
      · obtain ⟨q1, q2, q3⟩ := BoxPP.run hW.2.1.1 hp.out
        go_simp
        with_reducible rfl
      refine hK _ ?_
      clear hK K
      (try simp only [Act.put, List.setIfInBounds_toArray, List.set_cons_zero, List.set_cons_succ])
      refine wpQuiet_step_h hlq ?_
      clear hlq lq
      intro K lq hlq hK
      refine wanted_go (by rfl) ?_
      refine ⟨?_, fun W hW => ?_, ?_⟩
      rotate_left
      · obtain ⟨q1, q2, q3⟩ := BoxPP.run hW.2.1.1 hp.out
        go_simp
        with_reducible rfl
      refine hK _ ?_
      clear hK K
      (try simp only [Act.put, List.setIfInBounds_toArray, List.set_cons_zero, List.set_cons_succ])
      refine wpQuiet_step_h hlq ?_
      clear hlq lq
      intro K lq hlq hK
      go_simp
      refine hK _ ?_
      clear hK K
      refine wpQuiet_step_h hlq ?_
      clear hlq lq
      intro K lq hlq hK
      go_simp
      refine hK _ ?_
      clear hK K
      refine wpQuiet_step_h hlq ?_
      clear hlq lq
      intro K lq hlq hK
      go_simp
      refine hK _ ?_
      clear hK K
      refine wpQuiet_step_h hlq ?_
      clear hlq lq
      intro K lq hlq hK
      go_simp
      refine hK _ ?_
      clear hK K
      refine wpQuiet_step_h hlq ?_
      clear hlq lq
      intro K lq hlq hK
      go_simp
      refine hK _ ?_
      clear hK K
      refine wpQuiet_step_h hlq ?_
      clear hlq lq
      intro K lq hlq hK
      go_simp
      refine hK _ ?_
      clear hK K
      refine wpQuiet_step_h hlq ?_
      clear hlq lq
      intro K lq hlq hK
      go_simp
      refine hK _ ?_
      clear hK K
      refine wpQuiet_step_h hlq ?_
      clear hlq lq
      intro K lq hlq hK
      refine wanted_go (by rfl) ?_
      refine ⟨?_, fun W hW => ?_, ?_⟩
      rotate_left
      · obtain ⟨q1, q2, q3⟩ := BoxPP.run hW.2.1.1 hp.out
        go_simp
        with_reducible rfl
      refine hK _ ?_
      clear hK K
      (try simp only [Act.put, List.setIfInBounds_toArray, List.set_cons_zero, List.set_cons_succ])
      refine wpQuiet_nil_h hlq ?_
      clear hlq lq
      intro w' hC'
      go_wp2_with fail
      go_ret
      exact ⟨rfl, hC'.1⟩
    · obtain ⟨b, hb⟩ : ∃ c, decide (pfam p.d = pfam p.s) = c := ⟨_, rfl⟩
      have hr : chkPP p = b := by simp [chkPP, hc, hd, hb]
      have hb2 : (pfam p.d == pfam p.s) = b := by rw [← hb]; rfl
      rw [hr]
      clear hr
      replace hp := Lib.hid hp
      unfold vPP
      go_enter Tryz.func60, Tryz.ntmps60
      go_wp2_with fail
      refine wp_region_C (C := Bx w w.heap.size [(w.heap.size, oPP p)]) (by kernel_rfl) (by kernel_rfl) (Bx.drew (Bx.start1 w (oPP p))) ?_
      refine wpQuiet_hide ?_
      intro lq hlq
      refine wpQuiet_step_h hlq ?_
      clear hlq lq
      intro K lq hlq hK
      refine wanted_go (by rfl) ?_
      refine ⟨?_, fun W hW => ?_, ?_⟩
      rotate_left
      · obtain ⟨q1, q2, q3⟩ := BoxPP.run hW.2.1.1 hp.out
        go_simp
        with_reducible rfl
      refine hK _ ?_
      clear hK K
      (try simp only [Act.put, List.setIfInBounds_toArray, List.set_cons_zero, List.set_cons_succ])
      refine wpQuiet_step_h hlq ?_
      clear hlq lq
      intro K lq hlq hK
      refine wanted_go (by rfl) ?_
      refine ⟨vPf p.d, fun W hW => ?_, ?_⟩
      · obtain ⟨q1, q2, q3⟩ := BoxPP.run hW.2.1.1 hp.out
        exact quiet_load 55 _ rfl rfl q1
      refine hK _ ?_
      clear hK K
      (try simp only [Act.put, List.setIfInBounds_toArray, List.set_cons_zero, List.set_cons_succ])
      refine wpQuiet_step_h hlq ?_
      clear hlq lq
      intro K lq hlq hK
      refine wanted_go (by rfl) ?_
      refine ⟨.int .i64 0, fun W hW => ?_, ?_⟩
      · go_simp
        refine (check_any hp.out.1).mono fun e W2 hc2 => ⟨by rw [hc2.1, hc]; rfl, hW.go hc2.2⟩
      refine hK _ ?_
      clear hK K
      (try simp only [Act.put, List.setIfInBounds_toArray, List.set_cons_zero, List.set_cons_succ])
      refine wpQuiet_step_h hlq ?_
      clear hlq lq
      intro K lq hlq hK
      refine wanted_go (by rfl) ?_
      refine ⟨?_, fun W hW => ?_, ?_⟩
      rotate_left
      · obtain ⟨q1, q2, q3⟩ := BoxPP.run hW.2.1.1 hp.out
        go_simp
        with_reducible rfl
      refine hK _ ?_
      clear hK K
      (try simp only [Act.put, List.setIfInBounds_toArray, List.set_cons_zero, List.set_cons_succ])
      refine wpQuiet_step_h hlq ?_
      clear hlq lq
      intro K lq hlq hK
      refine wanted_go (by rfl) ?_
      refine ⟨?_, fun W hW => ?_, ?_⟩
      rotate_left
      · obtain ⟨q1, q2, q3⟩ := BoxPP.run hW.2.1.1 hp.out
        go_simp
        with_reducible rfl
      refine hK _ ?_
      clear hK K
      (try simp only [Act.put, List.setIfInBounds_toArray, List.set_cons_zero, List.set_cons_succ])
      refine wpQuiet_step_h hlq ?_
      clear hlq lq
      intro K lq hlq hK
      refine wanted_go (by rfl) ?_
      refine ⟨?_, fun W hW => ?_, ?_⟩
      rotate_left
      · obtain ⟨q1, q2, q3⟩ := BoxPP.run hW.2.1.1 hp.out
        go_simp
        with_reducible rfl
      refine hK _ ?_
      clear hK K
      (try simp only [Act.put, List.setIfInBounds_toArray, List.set_cons_zero, List.set_cons_succ])
      refine wpQuiet_step_h hlq ?_
      clear hlq lq
      intro K lq hlq hK
      refine wanted_go (by rfl) ?_
      refine ⟨vPf p.s, fun W hW => ?_, ?_⟩
      · obtain ⟨q1, q2, q3⟩ := BoxPP.run hW.2.1.1 hp.out
        exact quiet_load 55 _ rfl rfl q2
      refine hK _ ?_
      clear hK K
      (try simp only [Act.put, List.setIfInBounds_toArray, List.set_cons_zero, List.set_cons_succ])
      refine wpQuiet_step_h hlq ?_
      clear hlq lq
      intro K lq hlq hK
      refine wanted_go (by rfl) ?_
      refine ⟨.int .i64 0, fun W hW => ?_, ?_⟩
      · go_simp
        refine (check_any hp.out.2).mono fun e W2 hc2 => ⟨by rw [hc2.1, hd]; rfl, hW.go hc2.2⟩
      refine hK _ ?_
      clear hK K
      (try simp only [Act.put, List.setIfInBounds_toArray, List.set_cons_zero, List.set_cons_succ])
      refine wpQuiet_step_h hlq ?_
      clear hlq lq
      intro K lq hlq hK
      refine wanted_go (by rfl) ?_
      refine ⟨?_, fun W hW => ?_, ?_⟩
      rotate_left
      · obtain ⟨q1, q2, q3⟩ := BoxPP.run hW.2.1.1 hp.out
        go_simp
        with_reducible rfl
      refine hK _ ?_
      clear hK K
      (try simp only [Act.put, List.setIfInBounds_toArray, List.set_cons_zero, List.set_cons_succ])
      refine wpQuiet_step_h hlq ?_
      clear hlq lq
      intro K lq hlq hK
      refine wanted_go (by rfl) ?_
      refine ⟨?_, fun W hW => ?_, ?_⟩
      rotate_left
      · obtain ⟨q1, q2, q3⟩ := BoxPP.run hW.2.1.1 hp.out
        go_simp
        with_reducible rfl
      refine hK _ ?_
      clear hK K
      (try simp only [Act.put, List.setIfInBounds_toArray, List.set_cons_zero, List.set_cons_succ])
      refine wpQuiet_step_h hlq ?_
      clear hlq lq
      intro K lq hlq hK
      refine wanted_go (by rfl) ?_
      refine ⟨?_, fun W hW => ?_, ?_⟩
      rotate_left
      · obtain ⟨q1, q2, q3⟩ := BoxPP.run hW.2.1.1 hp.out
        go_simp
        with_reducible rfl
      refine hK _ ?_
      clear hK K
      (try simp only [Act.put, List.setIfInBounds_toArray, List.set_cons_zero, List.set_cons_succ])
      refine wpQuiet_step_h hlq ?_
      clear hlq lq
      intro K lq hlq hK
      refine wanted_go (by rfl) ?_
      refine ⟨?_, fun W hW => ?_, ?_⟩
      rotate_left
      · obtain ⟨q1, q2, q3⟩ := BoxPP.run hW.2.1.1 hp.out
        go_simp
        with_reducible rfl
      refine hK _ ?_
      clear hK K
      (try simp only [Act.put, List.setIfInBounds_toArray, List.set_cons_zero, List.set_cons_succ])
      refine wpQuiet_step_h hlq ?_
      clear hlq lq
      intro K lq hlq hK
      refine wanted_go (by rfl) ?_
      refine ⟨vPf p.d, fun W hW => ?_, ?_⟩
      · obtain ⟨q1, q2, q3⟩ := BoxPP.run hW.2.1.1 hp.out
        exact quiet_load 55 _ rfl rfl q1
      refine hK _ ?_
      clear hK K
      (try simp only [Act.put, List.setIfInBounds_toArray, List.set_cons_zero, List.set_cons_succ])
      refine wpQuiet_step_h hlq ?_
      clear hlq lq
      intro K lq hlq hK
      refine wanted_go (by rfl) ?_
      refine ⟨.int .i64 (pfam p.d), fun W hW => ?_, ?_⟩
      · go_simp
        refine (pfam_any hp.out.1).mono fun e W2 hc2 => ⟨hc2.1, hW.go hc2.2⟩
      refine hK _ ?_
      clear hK K
      (try simp only [Act.put, List.setIfInBounds_toArray, List.set_cons_zero, List.set_cons_succ])
      refine wpQuiet_step_h hlq ?_
      clear hlq lq
      intro K lq hlq hK
      refine wanted_go (by rfl) ?_
      refine ⟨?_, fun W hW => ?_, ?_⟩
      rotate_left
      · obtain ⟨q1, q2, q3⟩ := BoxPP.run hW.2.1.1 hp.out
        go_simp
        with_reducible rfl
      refine hK _ ?_
      clear hK K
      (try simp only [Act.put, List.setIfInBounds_toArray, List.set_cons_zero, List.set_cons_succ])
      refine wpQuiet_step_h hlq ?_
      clear hlq lq
      intro K lq hlq hK
      refine wanted_go (by rfl) ?_
      refine ⟨vPf p.s, fun W hW => ?_, ?_⟩
      · obtain ⟨q1, q2, q3⟩ := BoxPP.run hW.2.1.1 hp.out
        exact quiet_load 55 _ rfl rfl q2
      refine hK _ ?_
      clear hK K
      (try simp only [Act.put, List.setIfInBounds_toArray, List.set_cons_zero, List.set_cons_succ])
      refine wpQuiet_step_h hlq ?_
      clear hlq lq
      intro K lq hlq hK
      refine wanted_go (by rfl) ?_
      refine ⟨.int .i64 (pfam p.s), fun W hW => ?_, ?_⟩
      · go_simp
        refine (pfam_any hp.out.2).mono fun e W2 hc2 => ⟨hc2.1, hW.go hc2.2⟩
      refine hK _ ?_
      clear hK K
      (try simp only [Act.put, List.setIfInBounds_toArray, List.set_cons_zero, List.set_cons_succ])
      refine wpQuiet_step_h hlq ?_
      clear hlq lq
      intro K lq hlq hK
      refine wanted_go (by rfl) ?_
      refine ⟨?_, fun W hW => ?_, ?_⟩
      rotate_left
      · obtain ⟨q1, q2, q3⟩ := BoxPP.run hW.2.1.1 hp.out
        go_simp
        with_reducible rfl
      refine hK _ ?_
      clear hK K
      (try simp only [Act.put, List.setIfInBounds_toArray, List.set_cons_zero, List.set_cons_succ])
      refine wpQuiet_step_h hlq ?_
      clear hlq lq
      intro K lq hlq hK
      refine wanted_go (by rfl) ?_
      refine ⟨?_, fun W hW => ?_, ?_⟩
      rotate_left
      · obtain ⟨q1, q2, q3⟩ := BoxPP.run hW.2.1.1 hp.out
        go_simp
        with_reducible rfl
      refine hK _ ?_
      clear hK K
      (try simp only [Act.put, List.setIfInBounds_toArray, List.set_cons_zero, List.set_cons_succ])
      refine wpQuiet_nil_h hlq ?_
      clear hlq lq
      intro w' hC'
      cases b
      · go_wp2_with fail
        go_ret
        exact ⟨rfl, hC'.1⟩
      · go_wp2_with fail
        go_ret
        exact ⟨rfl, hC'.1⟩
set_option maxRecDepth 100000 in
set_option maxHeartbeats 1600000 in
/-- Matches. -/
theorem mat_any {w : World} {p : Pr} {src dst : List Int} (hp : p.fit) (hs : isA src) (hd : isA dst) : Calls Tryz.prog 37 #[vPP p, vA src, vA dst] w fun e w' => e = .returned (.bool (mat p src dst)) ∧ Below w.heap.size w w' := by
  obtain ⟨c, hc⟩ : ∃ c, chkPP p = c := ⟨_, rfl⟩
  obtain ⟨x, hx⟩ : ∃ c, cont p.d dst = c := ⟨_, rfl⟩
  obtain ⟨y, hy⟩ : ∃ c, cont p.s src = c := ⟨_, rfl⟩
  cases c
  · have hr : mat p src dst = false := by simp [mat, hc]
    rw [hr]
    clear hr
    replace hp := Lib.hid hp
    replace hs := Lib.hid hs
    replace hd := Lib.hid hd
    unfold vPP vA
    go_enter Tryz.func37, Tryz.ntmps37
    go_wp2_with (refine wpList_quiet (C := Bx w w.heap.size [(w.heap.size, oPP p), (w.heap.size + 1, oA src), (w.heap.size + 2, oA dst)]) 16 (by rfl) (Bx.start3 w (oPP p) (oA src) (oA dst)) ?_)
    refine wpQuiet_hide ?_
    intro lq hlq
    refine wpQuiet_step_h hlq ?_
    clear hlq lq
    intro K lq hlq hK
    refine wanted_go (by rfl) ?_
    refine ⟨vPP p, fun W hW => ?_, ?_⟩
    · obtain ⟨q1, q2, q3⟩ := BoxPP.run hW.2.1.1 hp.out; have q4 := BoxA.run hW.2.1.2.1 hs.out; have q5 := BoxA.run hW.2.1.2.2.1 hd.out
      exact quiet_load 57 _ rfl rfl q3
    refine hK _ ?_
    clear hK K
    (try simp only [Act.put, List.setIfInBounds_toArray, List.set_cons_zero, List.set_cons_succ])
    refine wpQuiet_step_h hlq ?_
    clear hlq lq
    intro K lq hlq hK
    refine wanted_go (by rfl) ?_
    refine ⟨.int .i64 21, fun W hW => ?_, ?_⟩
    · go_simp
      refine (chkPP_any hp.out).mono fun e W2 hc2 => ⟨by rw [hc2.1, hc]; rfl, hW.go hc2.2⟩
    refine hK _ ?_
    clear hK K
    (try simp only [Act.put, List.setIfInBounds_toArray, List.set_cons_zero, List.set_cons_succ])
    refine wpQuiet_step_h hlq ?_
    clear hlq lq
    intro K lq hlq hK
    refine wanted_go (by rfl) ?_
    refine ⟨?_, fun W hW => ?_, ?_⟩
    rotate_left
    · obtain ⟨q1, q2, q3⟩ := BoxPP.run hW.2.1.1 hp.out; have q4 := BoxA.run hW.2.1.2.1 hs.out; have q5 := BoxA.run hW.2.1.2.2.1 hd.out
      go_simp
      with_reducible rfl
    refine hK _ ?_
    clear hK K
    (try simp only [Act.put, List.setIfInBounds_toArray, List.set_cons_zero, List.set_cons_succ])
    refine wpQuiet_step_h hlq ?_
    clear hlq lq
    intro K lq hlq hK
    refine wanted_go (by rfl) ?_
    refine ⟨?_, fun W hW => ?_, ?_⟩
    rotate_left
    · obtain ⟨q1, q2, q3⟩ := BoxPP.run hW.2.1.1 hp.out; have q4 := BoxA.run hW.2.1.2.1 hs.out; have q5 := BoxA.run hW.2.1.2.2.1 hd.out
      go_simp
      with_reducible rfl
    refine hK _ ?_
    clear hK K
    (try simp only [Act.put, List.setIfInBounds_toArray, List.set_cons_zero, List.set_cons_succ])
    refine wpQuiet_step_h hlq ?_
    clear hlq lq
    intro K lq hlq hK
    go_simp
    refine hK _ ?_
    clear hK K
    refine wpQuiet_step_h hlq ?_
    clear hlq lq
    intro K lq hlq hK
    go_simp
    refine hK _ ?_
    clear hK K
    refine wpQuiet_step_h hlq ?_
    clear hlq lq
    intro K lq hlq hK
    go_simp
    refine hK _ ?_
    clear hK K
    refine wpQuiet_step_h hlq ?_
    clear hlq lq
    intro K lq hlq hK
    go_simp
    refine hK _ ?_
    clear hK K
    refine wpQuiet_step_h hlq ?_
    clear hlq lq
    intro K lq hlq hK
    refine wanted_go (by rfl) ?_
    refine ⟨?_, fun W hW => ?_, ?_⟩
    rotate_left
    · obtain ⟨q1, q2, q3⟩ := BoxPP.run hW.2.1.1 hp.out; have q4 := BoxA.run hW.2.1.2.1 hs.out; have q5 := BoxA.run hW.2.1.2.2.1 hd.out
      go_simp
      with_reducible rfl
    refine hK _ ?_
    clear hK K
    (try simp only [Act.put, List.setIfInBounds_toArray, List.set_cons_zero, List.set_cons_succ])
    refine wpQuiet_step_h hlq ?_
    clear hlq lq
    intro K lq hlq hK
    refine wanted_go (by rfl) ?_
    refine ⟨?_, fun W hW => ?_, ?_⟩
    rotate_left
    · obtain ⟨q1, q2, q3⟩ := BoxPP.run hW.2.1.1 hp.out; have q4 := BoxA.run hW.2.1.2.1 hs.out; have q5 := BoxA.run hW.2.1.2.2.1 hd.out
      go_simp
      with_reducible rfl
    refine hK _ ?_
    clear hK K
    (try simp only [Act.put, List.setIfInBounds_toArray, List.set_cons_zero, List.set_cons_succ])
    refine wpQuiet_step_h hlq ?_
    clear hlq lq
    intro K lq hlq hK
    go_simp
    refine hK _ ?_
    clear hK K
    refine wpQuiet_step_h hlq ?_
    clear hlq lq
    intro K lq hlq hK
    go_simp
    refine hK _ ?_
    clear hK K
    refine wpQuiet_step_h hlq ?_
    clear hlq lq
    intro K lq hlq hK
    go_simp
    refine hK _ ?_
    clear hK K
    refine wpQuiet_step_h hlq ?_
    clear hlq lq
    intro K lq hlq hK
    go_simp
    refine hK _ ?_
    clear hK K
    refine wpQuiet_step_h hlq ?_
    clear hlq lq
    intro K lq hlq hK
    refine wanted_go (by rfl) ?_
    refine ⟨?_, fun W hW => ?_, ?_⟩
    rotate_left
    · obtain ⟨q1, q2, q3⟩ := BoxPP.run hW.2.1.1 hp.out; have q4 := BoxA.run hW.2.1.2.1 hs.out; have q5 := BoxA.run hW.2.1.2.2.1 hd.out
      go_simp
      with_reducible rfl
    refine hK _ ?_
    clear hK K
    (try simp only [Act.put, List.setIfInBounds_toArray, List.set_cons_zero, List.set_cons_succ])
    refine wpQuiet_step_h hlq ?_
    clear hlq lq
    intro K lq hlq hK
    refine wanted_go (by rfl) ?_
    refine ⟨?_, fun W hW => ?_, ?_⟩
    rotate_left
    · obtain ⟨q1, q2, q3⟩ := BoxPP.run hW.2.1.1 hp.out; have q4 := BoxA.run hW.2.1.2.1 hs.out; have q5 := BoxA.run hW.2.1.2.2.1 hd.out
      go_simp
      with_reducible rfl
    refine hK _ ?_
    clear hK K
    (try simp only [Act.put, List.setIfInBounds_toArray, List.set_cons_zero, List.set_cons_succ])
    refine wpQuiet_nil_h hlq ?_
    clear hlq lq
    intro w' hC'
    go_wp2_with fail
    go_ret
    exact ⟨rfl, hC'.1⟩
  · cases x
    · have hr : mat p src dst = false := by simp [mat, hc, hx]
      rw [hr]
      clear hr
      replace hp := Lib.hid hp
      replace hs := Lib.hid hs
      replace hd := Lib.hid hd
      unfold vPP vA
      go_enter Tryz.func37, Tryz.ntmps37
      go_wp2_with (refine wpList_quiet (C := Bx w w.heap.size [(w.heap.size, oPP p), (w.heap.size + 1, oA src), (w.heap.size + 2, oA dst)]) 16 (by rfl) (Bx.start3 w (oPP p) (oA src) (oA dst)) ?_)
      refine wpQuiet_hide ?_
      intro lq hlq
      refine wpQuiet_step_h hlq ?_
      clear hlq lq
      intro K lq hlq hK
      refine wanted_go (by rfl) ?_
      refine ⟨vPP p, fun W hW => ?_, ?_⟩
      · obtain ⟨q1, q2, q3⟩ := BoxPP.run hW.2.1.1 hp.out; have q4 := BoxA.run hW.2.1.2.1 hs.out; have q5 := BoxA.run hW.2.1.2.2.1 hd.out
        exact quiet_load 57 _ rfl rfl q3
      refine hK _ ?_
      clear hK K
      (try simp only [Act.put, List.setIfInBounds_toArray, List.set_cons_zero, List.set_cons_succ])
      refine wpQuiet_step_h hlq ?_
      clear hlq lq
      intro K lq hlq hK
      refine wanted_go (by rfl) ?_
      refine ⟨.int .i64 0, fun W hW => ?_, ?_⟩
      · go_simp
        refine (chkPP_any hp.out).mono fun e W2 hc2 => ⟨by rw [hc2.1, hc]; rfl, hW.go hc2.2⟩
      refine hK _ ?_
      clear hK K
      (try simp only [Act.put, List.setIfInBounds_toArray, List.set_cons_zero, List.set_cons_succ])
      refine wpQuiet_step_h hlq ?_
      clear hlq lq
      intro K lq hlq hK
      refine wanted_go (by rfl) ?_
      refine ⟨?_, fun W hW => ?_, ?_⟩
      rotate_left
      · obtain ⟨q1, q2, q3⟩ := BoxPP.run hW.2.1.1 hp.out; have q4 := BoxA.run hW.2.1.2.1 hs.out; have q5 := BoxA.run hW.2.1.2.2.1 hd.out
        go_simp
        with_reducible rfl
      refine hK _ ?_
      clear hK K
      (try simp only [Act.put, List.setIfInBounds_toArray, List.set_cons_zero, List.set_cons_succ])
      refine wpQuiet_step_h hlq ?_
      clear hlq lq
      intro K lq hlq hK
      refine wanted_go (by rfl) ?_
      refine ⟨?_, fun W hW => ?_, ?_⟩
      rotate_left
      · obtain ⟨q1, q2, q3⟩ := BoxPP.run hW.2.1.1 hp.out; have q4 := BoxA.run hW.2.1.2.1 hs.out; have q5 := BoxA.run hW.2.1.2.2.1 hd.out
        go_simp
        with_reducible rfl
      refine hK _ ?_
      clear hK K
      (try simp only [Act.put, List.setIfInBounds_toArray, List.set_cons_zero, List.set_cons_succ])
      refine wpQuiet_step_h hlq ?_
      clear hlq lq
      intro K lq hlq hK
      refine wanted_go (by rfl) ?_
      refine ⟨?_, fun W hW => ?_, ?_⟩
      rotate_left
      · obtain ⟨q1, q2, q3⟩ := BoxPP.run hW.2.1.1 hp.out; have q4 := BoxA.run hW.2.1.2.1 hs.out; have q5 := BoxA.run hW.2.1.2.2.1 hd.out
        go_simp
        with_reducible rfl
      refine hK _ ?_
      clear hK K
      (try simp only [Act.put, List.setIfInBounds_toArray, List.set_cons_zero, List.set_cons_succ])
      refine wpQuiet_step_h hlq ?_
      clear hlq lq
      intro K lq hlq hK
      refine wanted_go (by rfl) ?_
      refine ⟨vPf p.d, fun W hW => ?_, ?_⟩
      · obtain ⟨q1, q2, q3⟩ := BoxPP.run hW.2.1.1 hp.out; have q4 := BoxA.run hW.2.1.2.1 hs.out; have q5 := BoxA.run hW.2.1.2.2.1 hd.out
        exact quiet_load 55 _ rfl rfl q1
      refine hK _ ?_
      clear hK K
      (try simp only [Act.put, List.setIfInBounds_toArray, List.set_cons_zero, List.set_cons_succ])
      refine wpQuiet_step_h hlq ?_
      clear hlq lq
      intro K lq hlq hK
      refine wanted_go (by rfl) ?_
      refine ⟨vA dst, fun W hW => ?_, ?_⟩
      · obtain ⟨q1, q2, q3⟩ := BoxPP.run hW.2.1.1 hp.out; have q4 := BoxA.run hW.2.1.2.1 hs.out; have q5 := BoxA.run hW.2.1.2.2.1 hd.out
        exact quiet_load 42 _ rfl rfl q5
      refine hK _ ?_
      clear hK K
      (try simp only [Act.put, List.setIfInBounds_toArray, List.set_cons_zero, List.set_cons_succ])
      refine wpQuiet_step_h hlq ?_
      clear hlq lq
      intro K lq hlq hK
      refine wanted_go (by rfl) ?_
      refine ⟨.bool false, fun W hW => ?_, ?_⟩
      · go_simp
        refine (cont_any hp.out.1 hd.out).mono fun e W2 hc2 => ⟨by rw [hc2.1, hx], hW.go hc2.2⟩
      refine hK _ ?_
      clear hK K
      (try simp only [Act.put, List.setIfInBounds_toArray, List.set_cons_zero, List.set_cons_succ])
      refine wpQuiet_step_h hlq ?_
      clear hlq lq
      intro K lq hlq hK
      refine wanted_go (by rfl) ?_
      refine ⟨?_, fun W hW => ?_, ?_⟩
      rotate_left
      · obtain ⟨q1, q2, q3⟩ := BoxPP.run hW.2.1.1 hp.out; have q4 := BoxA.run hW.2.1.2.1 hs.out; have q5 := BoxA.run hW.2.1.2.2.1 hd.out
        go_simp
        with_reducible rfl
      refine hK _ ?_
      clear hK K
      (try simp only [Act.put, List.setIfInBounds_toArray, List.set_cons_zero, List.set_cons_succ])
      refine wpQuiet_step_h hlq ?_
      clear hlq lq
      intro K lq hlq hK
      refine wanted_go (by rfl) ?_
      refine ⟨?_, fun W hW => ?_, ?_⟩
      rotate_left
      · obtain ⟨q1, q2, q3⟩ := BoxPP.run hW.2.1.1 hp.out; have q4 := BoxA.run hW.2.1.2.1 hs.out; have q5 := BoxA.run hW.2.1.2.2.1 hd.out
        go_simp
        with_reducible rfl
      refine hK _ ?_
      clear hK K
      (try simp only [Act.put, List.setIfInBounds_toArray, List.set_cons_zero, List.set_cons_succ])
      refine wpQuiet_step_h hlq ?_
      clear hlq lq
      intro K lq hlq hK
      go_simp
      refine hK _ ?_
      clear hK K
      refine wpQuiet_step_h hlq ?_
      clear hlq lq
      intro K lq hlq hK
      go_simp
      refine hK _ ?_
      clear hK K
      refine wpQuiet_step_h hlq ?_
      clear hlq lq
      intro K lq hlq hK
      go_simp
      refine hK _ ?_
      clear hK K
      refine wpQuiet_step_h hlq ?_
      clear hlq lq
      intro K lq hlq hK
      go_simp
      refine hK _ ?_
      clear hK K
      refine wpQuiet_step_h hlq ?_
      clear hlq lq
      intro K lq hlq hK
      refine wanted_go (by rfl) ?_
      refine ⟨?_, fun W hW => ?_, ?_⟩
      rotate_left
      · obtain ⟨q1, q2, q3⟩ := BoxPP.run hW.2.1.1 hp.out; have q4 := BoxA.run hW.2.1.2.1 hs.out; have q5 := BoxA.run hW.2.1.2.2.1 hd.out
        go_simp
        with_reducible rfl
      refine hK _ ?_
      clear hK K
      (try simp only [Act.put, List.setIfInBounds_toArray, List.set_cons_zero, List.set_cons_succ])
      refine wpQuiet_step_h hlq ?_
      clear hlq lq
      intro K lq hlq hK
      refine wanted_go (by rfl) ?_
      refine ⟨?_, fun W hW => ?_, ?_⟩
      rotate_left
      · obtain ⟨q1, q2, q3⟩ := BoxPP.run hW.2.1.1 hp.out; have q4 := BoxA.run hW.2.1.2.1 hs.out; have q5 := BoxA.run hW.2.1.2.2.1 hd.out
        go_simp
        with_reducible rfl
      refine hK _ ?_
      clear hK K
      (try simp only [Act.put, List.setIfInBounds_toArray, List.set_cons_zero, List.set_cons_succ])
      refine wpQuiet_nil_h hlq ?_
      clear hlq lq
      intro w' hC'
      go_wp2_with fail
      go_ret
      exact ⟨rfl, hC'.1⟩
    · have hr : mat p src dst = y := by simp [mat, hc, hx, hy]
      rw [hr]
      clear hr
      replace hp := Lib.hid hp
      replace hs := Lib.hid hs
      replace hd := Lib.hid hd
      unfold vPP vA
      go_enter Tryz.func37, Tryz.ntmps37
      go_wp2_with (refine wpList_quiet (C := Bx w w.heap.size [(w.heap.size, oPP p), (w.heap.size + 1, oA src), (w.heap.size + 2, oA dst)]) 16 (by rfl) (Bx.start3 w (oPP p) (oA src) (oA dst)) ?_)
      refine wpQuiet_hide ?_
      intro lq hlq
      refine wpQuiet_step_h hlq ?_
      clear hlq lq
      intro K lq hlq hK
      refine wanted_go (by rfl) ?_
      refine ⟨vPP p, fun W hW => ?_, ?_⟩
      · obtain ⟨q1, q2, q3⟩ := BoxPP.run hW.2.1.1 hp.out; have q4 := BoxA.run hW.2.1.2.1 hs.out; have q5 := BoxA.run hW.2.1.2.2.1 hd.out
        exact quiet_load 57 _ rfl rfl q3
      refine hK _ ?_
      clear hK K
      (try simp only [Act.put, List.setIfInBounds_toArray, List.set_cons_zero, List.set_cons_succ])
      refine wpQuiet_step_h hlq ?_
      clear hlq lq
      intro K lq hlq hK
      refine wanted_go (by rfl) ?_
      refine ⟨.int .i64 0, fun W hW => ?_, ?_⟩
      · go_simp
        refine (chkPP_any hp.out).mono fun e W2 hc2 => ⟨by rw [hc2.1, hc]; rfl, hW.go hc2.2⟩
      refine hK _ ?_
      clear hK K
      (try simp only [Act.put, List.setIfInBounds_toArray, List.set_cons_zero, List.set_cons_succ])
      refine wpQuiet_step_h hlq ?_
      clear hlq lq
      intro K lq hlq hK
      refine wanted_go (by rfl) ?_
      refine ⟨?_, fun W hW => ?_, ?_⟩
      rotate_left
      · obtain ⟨q1, q2, q3⟩ := BoxPP.run hW.2.1.1 hp.out; have q4 := BoxA.run hW.2.1.2.1 hs.out; have q5 := BoxA.run hW.2.1.2.2.1 hd.out
        go_simp
        with_reducible rfl
      refine hK _ ?_
      clear hK K
      (try simp only [Act.put, List.setIfInBounds_toArray, List.set_cons_zero, List.set_cons_succ])
      refine wpQuiet_step_h hlq ?_
      clear hlq lq
      intro K lq hlq hK
      refine wanted_go (by rfl) ?_
      refine ⟨?_, fun W hW => ?_, ?_⟩
      rotate_left
      · obtain ⟨q1, q2, q3⟩ := BoxPP.run hW.2.1.1 hp.out; have q4 := BoxA.run hW.2.1.2.1 hs.out; have q5 := BoxA.run hW.2.1.2.2.1 hd.out
        go_simp
        with_reducible rfl
      refine hK _ ?_
      clear hK K
      (try simp only [Act.put, List.setIfInBounds_toArray, List.set_cons_zero, List.set_cons_succ])
      refine wpQuiet_step_h hlq ?_
      clear hlq lq
      intro K lq hlq hK
      refine wanted_go (by rfl) ?_
      refine ⟨?_, fun W hW => ?_, ?_⟩
      rotate_left
      · obtain ⟨q1, q2, q3⟩ := BoxPP.run hW.2.1.1 hp.out; have q4 := BoxA.run hW.2.1.2.1 hs.out; have q5 := BoxA.run hW.2.1.2.2.1 hd.out
        go_simp
        with_reducible rfl
      refine hK _ ?_
      clear hK K
      (try simp only [Act.put, List.setIfInBounds_toArray, List.set_cons_zero, List.set_cons_succ])
      refine wpQuiet_step_h hlq ?_
      clear hlq lq
      intro K lq hlq hK
      refine wanted_go (by rfl) ?_
      refine ⟨vPf p.d, fun W hW => ?_, ?_⟩
      · obtain ⟨q1, q2, q3⟩ := BoxPP.run hW.2.1.1 hp.out; have q4 := BoxA.run hW.2.1.2.1 hs.out; have q5 := BoxA.run hW.2.1.2.2.1 hd.out
        exact quiet_load 55 _ rfl rfl q1
      refine hK _ ?_
      clear hK K
      (try simp only [Act.put, List.setIfInBounds_toArray, List.set_cons_zero, List.set_cons_succ])
      refine wpQuiet_step_h hlq ?_
      clear hlq lq
      intro K lq hlq hK
      refine wanted_go (by rfl) ?_
      refine ⟨vA dst, fun W hW => ?_, ?_⟩
      · obtain ⟨q1, q2, q3⟩ := BoxPP.run hW.2.1.1 hp.out; have q4 := BoxA.run hW.2.1.2.1 hs.out; have q5 := BoxA.run hW.2.1.2.2.1 hd.out
        exact quiet_load 42 _ rfl rfl q5
      refine hK _ ?_
      clear hK K
      (try simp only [Act.put, List.setIfInBounds_toArray, List.set_cons_zero, List.set_cons_succ])
      refine wpQuiet_step_h hlq ?_
      clear hlq lq
      intro K lq hlq hK
      refine wanted_go (by rfl) ?_
      refine ⟨.bool true, fun W hW => ?_, ?_⟩
      · go_simp
        refine (cont_any hp.out.1 hd.out).mono fun e W2 hc2 => ⟨by rw [hc2.1, hx], hW.go hc2.2⟩
      refine hK _ ?_
      clear hK K
      (try simp only [Act.put, List.setIfInBounds_toArray, List.set_cons_zero, List.set_cons_succ])
      refine wpQuiet_step_h hlq ?_
      clear hlq lq
      intro K lq hlq hK
      refine wanted_go (by rfl) ?_
      refine ⟨?_, fun W hW => ?_, ?_⟩
      rotate_left
      · obtain ⟨q1, q2, q3⟩ := BoxPP.run hW.2.1.1 hp.out; have q4 := BoxA.run hW.2.1.2.1 hs.out; have q5 := BoxA.run hW.2.1.2.2.1 hd.out
        go_simp
        with_reducible rfl
      refine hK _ ?_
      clear hK K
      (try simp only [Act.put, List.setIfInBounds_toArray, List.set_cons_zero, List.set_cons_succ])
      refine wpQuiet_step_h hlq ?_
      clear hlq lq
      intro K lq hlq hK
      refine wanted_go (by rfl) ?_
      refine ⟨?_, fun W hW => ?_, ?_⟩
      rotate_left
      · obtain ⟨q1, q2, q3⟩ := BoxPP.run hW.2.1.1 hp.out; have q4 := BoxA.run hW.2.1.2.1 hs.out; have q5 := BoxA.run hW.2.1.2.2.1 hd.out
        go_simp
        with_reducible rfl
      refine hK _ ?_
      clear hK K
      (try simp only [Act.put, List.setIfInBounds_toArray, List.set_cons_zero, List.set_cons_succ])
      refine wpQuiet_step_h hlq ?_
      clear hlq lq
      intro K lq hlq hK
      refine wanted_go (by rfl) ?_
      refine ⟨?_, fun W hW => ?_, ?_⟩
      rotate_left
      · obtain ⟨q1, q2, q3⟩ := BoxPP.run hW.2.1.1 hp.out; have q4 := BoxA.run hW.2.1.2.1 hs.out; have q5 := BoxA.run hW.2.1.2.2.1 hd.out
        go_simp
        with_reducible rfl
      refine hK _ ?_
      clear hK K
      (try simp only [Act.put, List.setIfInBounds_toArray, List.set_cons_zero, List.set_cons_succ])
      refine wpQuiet_step_h hlq ?_
      clear hlq lq
      intro K lq hlq hK
      refine wanted_go (by rfl) ?_
      refine ⟨vPf p.s, fun W hW => ?_, ?_⟩
      · obtain ⟨q1, q2, q3⟩ := BoxPP.run hW.2.1.1 hp.out; have q4 := BoxA.run hW.2.1.2.1 hs.out; have q5 := BoxA.run hW.2.1.2.2.1 hd.out
        exact quiet_load 55 _ rfl rfl q2
      refine hK _ ?_
      clear hK K
      (try simp only [Act.put, List.setIfInBounds_toArray, List.set_cons_zero, List.set_cons_succ])
      refine wpQuiet_step_h hlq ?_
      clear hlq lq
      intro K lq hlq hK
      refine wanted_go (by rfl) ?_
      refine ⟨vA src, fun W hW => ?_, ?_⟩
      · obtain ⟨q1, q2, q3⟩ := BoxPP.run hW.2.1.1 hp.out; have q4 := BoxA.run hW.2.1.2.1 hs.out; have q5 := BoxA.run hW.2.1.2.2.1 hd.out
        exact quiet_load 42 _ rfl rfl q4
      refine hK _ ?_
      clear hK K
      (try simp only [Act.put, List.setIfInBounds_toArray, List.set_cons_zero, List.set_cons_succ])
      refine wpQuiet_step_h hlq ?_
      clear hlq lq
      intro K lq hlq hK
      refine wanted_go (by rfl) ?_
      refine ⟨.bool y, fun W hW => ?_, ?_⟩
      · go_simp
        refine (cont_any hp.out.2 hs.out).mono fun e W2 hc2 => ⟨by rw [hc2.1, hy], hW.go hc2.2⟩
      refine hK _ ?_
      clear hK K
      (try simp only [Act.put, List.setIfInBounds_toArray, List.set_cons_zero, List.set_cons_succ])
      refine wpQuiet_step_h hlq ?_
      clear hlq lq
      intro K lq hlq hK
      refine wanted_go (by rfl) ?_
      refine ⟨?_, fun W hW => ?_, ?_⟩
      rotate_left
      · obtain ⟨q1, q2, q3⟩ := BoxPP.run hW.2.1.1 hp.out; have q4 := BoxA.run hW.2.1.2.1 hs.out; have q5 := BoxA.run hW.2.1.2.2.1 hd.out
        go_simp
        with_reducible rfl
      refine hK _ ?_
      clear hK K
      (try simp only [Act.put, List.setIfInBounds_toArray, List.set_cons_zero, List.set_cons_succ])
      refine wpQuiet_step_h hlq ?_
      clear hlq lq
      intro K lq hlq hK
      refine wanted_go (by rfl) ?_
      refine ⟨?_, fun W hW => ?_, ?_⟩
      rotate_left
      · obtain ⟨q1, q2, q3⟩ := BoxPP.run hW.2.1.1 hp.out; have q4 := BoxA.run hW.2.1.2.1 hs.out; have q5 := BoxA.run hW.2.1.2.2.1 hd.out
        go_simp
        with_reducible rfl
      refine hK _ ?_
      clear hK K
      (try simp only [Act.put, List.setIfInBounds_toArray, List.set_cons_zero, List.set_cons_succ])
      refine wpQuiet_nil_h hlq ?_
      clear hlq lq
      intro w' hC'
      go_wp2_with fail
      go_ret
      exact ⟨rfl, hC'.1⟩
end Go.Proofs.YtnljjlaececnkaaGreatDoor
