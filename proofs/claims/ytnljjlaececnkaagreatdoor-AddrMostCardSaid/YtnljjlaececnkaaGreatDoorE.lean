/-
  Which prefix covers which; families; the prefix of an address's first bits. Condition: an address is sixteen bytes, a length a machine's number.
-/
import Derived.Test.YtnljjlaececnkaaGreatDoorD
import Derived.Laws.BytesArg
namespace Go.Proofs.YtnljjlaececnkaaGreatDoor
open Go.RowKit
set_option linter.unusedVariables false
set_option linter.unusedSimpArgs false

set_option maxRecDepth 100000 in
set_option maxHeartbeats 1600000 in
/-- Covers. -/
theorem cov_any {w : World} {p q : Pf} (hp : p.ok) (hq : q.ok) : Calls Tryz.prog 40 #[vPf p, vPf q] w fun e w' => e = .returned (.bool (cov p q)) ∧ Below w.heap.size w w' := by
  obtain ⟨c, hc⟩ : ∃ c, chk q = c := ⟨_, rfl⟩
  cases c
  · have hr : cov p q = false := by simp [cov, hc]
    rw [hr]
    clear hr
    replace hp := Lib.hid hp
    replace hq := Lib.hid hq
    unfold vPf
    go_enter Tryz.func40, Tryz.ntmps40
    go_wp2_with (refine wpList_quiet (C := Bx w w.heap.size [(w.heap.size, oP p), (w.heap.size + 1, oP q)]) 17 (by rfl) (Bx.start2 w (oP p) (oP q)) ?_)
    refine wpQuiet_hide ?_
    intro lq hlq
    refine wpQuiet_step_h hlq ?_
    clear hlq lq
    intro K lq hlq hK
    refine wanted_go (by rfl) ?_
    refine ⟨vPf q, fun W hW => ?_, ?_⟩
    · obtain ⟨p1, p2, p3⟩ := BoxP.run hW.2.1.1 hp.out.1; obtain ⟨q1, q2, q3⟩ := BoxP.run hW.2.1.2.1 hq.out.1
      exact quiet_load 55 _ rfl rfl q3
    refine hK _ ?_
    clear hK K
    (try simp only [Act.put, List.setIfInBounds_toArray, List.set_cons_zero, List.set_cons_succ])
    refine wpQuiet_step_h hlq ?_
    clear hlq lq
    intro K lq hlq hK
    refine wanted_go (by rfl) ?_
    refine ⟨.int .i64 21, fun W hW => ?_, ?_⟩
    · go_simp
      refine (check_any hq.out).mono fun e W2 hc2 => ⟨by rw [hc2.1, hc]; rfl, hW.go hc2.2⟩
    refine hK _ ?_
    clear hK K
    (try simp only [Act.put, List.setIfInBounds_toArray, List.set_cons_zero, List.set_cons_succ])
    refine wpQuiet_step_h hlq ?_
    clear hlq lq
    intro K lq hlq hK
    refine wanted_go (by rfl) ?_
    refine ⟨?_, fun W hW => ?_, ?_⟩
    rotate_left
    · obtain ⟨p1, p2, p3⟩ := BoxP.run hW.2.1.1 hp.out.1; obtain ⟨q1, q2, q3⟩ := BoxP.run hW.2.1.2.1 hq.out.1
      go_simp
      with_reducible rfl
    refine hK _ ?_
    clear hK K
    (try simp only [Act.put, List.setIfInBounds_toArray, List.set_cons_zero, List.set_cons_succ])
    refine wpQuiet_step_h hlq ?_
    clear hlq lq
    intro K lq hlq hK
    refine wanted_go (by rfl) ?_
    refine ⟨?_, fun W hW => ?_, ?_⟩
    rotate_left
    · obtain ⟨p1, p2, p3⟩ := BoxP.run hW.2.1.1 hp.out.1; obtain ⟨q1, q2, q3⟩ := BoxP.run hW.2.1.2.1 hq.out.1
      go_simp
      with_reducible rfl
    refine hK _ ?_
    clear hK K
    (try simp only [Act.put, List.setIfInBounds_toArray, List.set_cons_zero, List.set_cons_succ])
    refine wpQuiet_step_h hlq ?_
    clear hlq lq
    intro K lq hlq hK
    go_simp
    refine hK _ ?_
    clear hK K
    refine wpQuiet_step_h hlq ?_
    clear hlq lq
    intro K lq hlq hK
    go_simp
    refine hK _ ?_
    clear hK K
    refine wpQuiet_step_h hlq ?_
    clear hlq lq
    intro K lq hlq hK
    go_simp
    refine hK _ ?_
    clear hK K
    refine wpQuiet_step_h hlq ?_
    clear hlq lq
    intro K lq hlq hK
    go_simp
    refine hK _ ?_
    clear hK K
    refine wpQuiet_step_h hlq ?_
    clear hlq lq
    intro K lq hlq hK
    go_simp
    refine hK _ ?_
    clear hK K
    refine wpQuiet_step_h hlq ?_
    clear hlq lq
    intro K lq hlq hK
    refine wanted_go (by rfl) ?_
    refine ⟨?_, fun W hW => ?_, ?_⟩
    rotate_left
    · obtain ⟨p1, p2, p3⟩ := BoxP.run hW.2.1.1 hp.out.1; obtain ⟨q1, q2, q3⟩ := BoxP.run hW.2.1.2.1 hq.out.1
      go_simp
      with_reducible rfl
    refine hK _ ?_
    clear hK K
    (try simp only [Act.put, List.setIfInBounds_toArray, List.set_cons_zero, List.set_cons_succ])
    refine wpQuiet_step_h hlq ?_
    clear hlq lq
    intro K lq hlq hK
    refine wanted_go (by rfl) ?_
    refine ⟨?_, fun W hW => ?_, ?_⟩
    rotate_left
    · obtain ⟨p1, p2, p3⟩ := BoxP.run hW.2.1.1 hp.out.1; obtain ⟨q1, q2, q3⟩ := BoxP.run hW.2.1.2.1 hq.out.1
      go_simp
      with_reducible rfl
    refine hK _ ?_
    clear hK K
    (try simp only [Act.put, List.setIfInBounds_toArray, List.set_cons_zero, List.set_cons_succ])
    refine wpQuiet_step_h hlq ?_
    clear hlq lq
    intro K lq hlq hK
    go_simp
    refine hK _ ?_
    clear hK K
    refine wpQuiet_step_h hlq ?_
    clear hlq lq
    intro K lq hlq hK
    go_simp
    refine hK _ ?_
    clear hK K
    refine wpQuiet_step_h hlq ?_
    clear hlq lq
    intro K lq hlq hK
    go_simp
    refine hK _ ?_
    clear hK K
    refine wpQuiet_step_h hlq ?_
    clear hlq lq
    intro K lq hlq hK
    go_simp
    refine hK _ ?_
    clear hK K
    refine wpQuiet_step_h hlq ?_
    clear hlq lq
    intro K lq hlq hK
    refine wanted_go (by rfl) ?_
    refine ⟨?_, fun W hW => ?_, ?_⟩
    rotate_left
    · obtain ⟨p1, p2, p3⟩ := BoxP.run hW.2.1.1 hp.out.1; obtain ⟨q1, q2, q3⟩ := BoxP.run hW.2.1.2.1 hq.out.1
      go_simp
      with_reducible rfl
    refine hK _ ?_
    clear hK K
    (try simp only [Act.put, List.setIfInBounds_toArray, List.set_cons_zero, List.set_cons_succ])
    refine wpQuiet_step_h hlq ?_
    clear hlq lq
    intro K lq hlq hK
    refine wanted_go (by rfl) ?_
    refine ⟨?_, fun W hW => ?_, ?_⟩
    rotate_left
    · obtain ⟨p1, p2, p3⟩ := BoxP.run hW.2.1.1 hp.out.1; obtain ⟨q1, q2, q3⟩ := BoxP.run hW.2.1.2.1 hq.out.1
      go_simp
      with_reducible rfl
    refine hK _ ?_
    clear hK K
    (try simp only [Act.put, List.setIfInBounds_toArray, List.set_cons_zero, List.set_cons_succ])
    refine wpQuiet_nil_h hlq ?_
    clear hlq lq
    intro w' hC'
    go_wp2_with fail
    go_ret
    exact ⟨rfl, hC'.1⟩
  · obtain ⟨le, hle⟩ : ∃ c, decide (p.n ≤ q.n) = c := ⟨_, rfl⟩
    cases le
    · have hr : cov p q = false := by simp [cov, hc, hle]
      rw [hr]
      clear hr
      replace hp := Lib.hid hp
      replace hq := Lib.hid hq
      unfold vPf
      go_enter Tryz.func40, Tryz.ntmps40
      go_wp2_with (refine wpList_quiet (C := Bx w w.heap.size [(w.heap.size, oP p), (w.heap.size + 1, oP q)]) 17 (by rfl) (Bx.start2 w (oP p) (oP q)) ?_)
      refine wpQuiet_hide ?_
      intro lq hlq
      refine wpQuiet_step_h hlq ?_
      clear hlq lq
      intro K lq hlq hK
      refine wanted_go (by rfl) ?_
      refine ⟨vPf q, fun W hW => ?_, ?_⟩
      · obtain ⟨p1, p2, p3⟩ := BoxP.run hW.2.1.1 hp.out.1; obtain ⟨q1, q2, q3⟩ := BoxP.run hW.2.1.2.1 hq.out.1
        exact quiet_load 55 _ rfl rfl q3
      refine hK _ ?_
      clear hK K
      (try simp only [Act.put, List.setIfInBounds_toArray, List.set_cons_zero, List.set_cons_succ])
      refine wpQuiet_step_h hlq ?_
      clear hlq lq
      intro K lq hlq hK
      refine wanted_go (by rfl) ?_
      refine ⟨.int .i64 0, fun W hW => ?_, ?_⟩
      · go_simp
        refine (check_any hq.out).mono fun e W2 hc2 => ⟨by rw [hc2.1, hc]; rfl, hW.go hc2.2⟩
      refine hK _ ?_
      clear hK K
      (try simp only [Act.put, List.setIfInBounds_toArray, List.set_cons_zero, List.set_cons_succ])
      refine wpQuiet_step_h hlq ?_
      clear hlq lq
      intro K lq hlq hK
      refine wanted_go (by rfl) ?_
      refine ⟨?_, fun W hW => ?_, ?_⟩
      rotate_left
      · obtain ⟨p1, p2, p3⟩ := BoxP.run hW.2.1.1 hp.out.1; obtain ⟨q1, q2, q3⟩ := BoxP.run hW.2.1.2.1 hq.out.1
        go_simp
        with_reducible rfl
      refine hK _ ?_
      clear hK K
      (try simp only [Act.put, List.setIfInBounds_toArray, List.set_cons_zero, List.set_cons_succ])
      refine wpQuiet_step_h hlq ?_
      clear hlq lq
      intro K lq hlq hK
      refine wanted_go (by rfl) ?_
      refine ⟨?_, fun W hW => ?_, ?_⟩
      rotate_left
      · obtain ⟨p1, p2, p3⟩ := BoxP.run hW.2.1.1 hp.out.1; obtain ⟨q1, q2, q3⟩ := BoxP.run hW.2.1.2.1 hq.out.1
        go_simp
        with_reducible rfl
      refine hK _ ?_
      clear hK K
      (try simp only [Act.put, List.setIfInBounds_toArray, List.set_cons_zero, List.set_cons_succ])
      refine wpQuiet_step_h hlq ?_
      clear hlq lq
      intro K lq hlq hK
      refine wanted_go (by rfl) ?_
      refine ⟨?_, fun W hW => ?_, ?_⟩
      rotate_left
      · obtain ⟨p1, p2, p3⟩ := BoxP.run hW.2.1.1 hp.out.1; obtain ⟨q1, q2, q3⟩ := BoxP.run hW.2.1.2.1 hq.out.1
        go_simp
        with_reducible rfl
      refine hK _ ?_
      clear hK K
      (try simp only [Act.put, List.setIfInBounds_toArray, List.set_cons_zero, List.set_cons_succ])
      refine wpQuiet_step_h hlq ?_
      clear hlq lq
      intro K lq hlq hK
      refine wanted_go (by rfl) ?_
      refine ⟨?_, fun W hW => ?_, ?_⟩
      rotate_left
      · obtain ⟨p1, p2, p3⟩ := BoxP.run hW.2.1.1 hp.out.1; obtain ⟨q1, q2, q3⟩ := BoxP.run hW.2.1.2.1 hq.out.1
        go_simp
        with_reducible rfl
      refine hK _ ?_
      clear hK K
      (try simp only [Act.put, List.setIfInBounds_toArray, List.set_cons_zero, List.set_cons_succ])
      refine wpQuiet_step_h hlq ?_
      clear hlq lq
      intro K lq hlq hK
      refine wanted_go (by rfl) ?_
      refine ⟨?_, fun W hW => ?_, ?_⟩
      rotate_left
      · obtain ⟨p1, p2, p3⟩ := BoxP.run hW.2.1.1 hp.out.1; obtain ⟨q1, q2, q3⟩ := BoxP.run hW.2.1.2.1 hq.out.1
        go_simp
        with_reducible rfl
      refine hK _ ?_
      clear hK K
      (try simp only [Act.put, List.setIfInBounds_toArray, List.set_cons_zero, List.set_cons_succ])
      refine wpQuiet_step_h hlq ?_
      clear hlq lq
      intro K lq hlq hK
      refine wanted_go (by rfl) ?_
      refine ⟨?_, fun W hW => ?_, ?_⟩
      rotate_left
      · obtain ⟨p1, p2, p3⟩ := BoxP.run hW.2.1.1 hp.out.1; obtain ⟨q1, q2, q3⟩ := BoxP.run hW.2.1.2.1 hq.out.1
        go_simp
        with_reducible rfl
      refine hK _ ?_
      clear hK K
      (try simp only [Act.put, List.setIfInBounds_toArray, List.set_cons_zero, List.set_cons_succ])
      refine wpQuiet_step_h hlq ?_
      clear hlq lq
      intro K lq hlq hK
      refine wanted_go (by rfl) ?_
      refine ⟨?_, fun W hW => ?_, ?_⟩
      rotate_left
      · obtain ⟨p1, p2, p3⟩ := BoxP.run hW.2.1.1 hp.out.1; obtain ⟨q1, q2, q3⟩ := BoxP.run hW.2.1.2.1 hq.out.1
        go_simp
        with_reducible rfl
      refine hK _ ?_
      clear hK K
      (try simp only [Act.put, List.setIfInBounds_toArray, List.set_cons_zero, List.set_cons_succ])
      refine wpQuiet_step_h hlq ?_
      clear hlq lq
      intro K lq hlq hK
      refine wanted_go (by rfl) ?_
      refine ⟨?_, fun W hW => ?_, ?_⟩
      rotate_left
      · obtain ⟨p1, p2, p3⟩ := BoxP.run hW.2.1.1 hp.out.1; obtain ⟨q1, q2, q3⟩ := BoxP.run hW.2.1.2.1 hq.out.1
        go_simp
        with_reducible rfl
      refine hK _ ?_
      clear hK K
      (try simp only [Act.put, List.setIfInBounds_toArray, List.set_cons_zero, List.set_cons_succ])
      refine wpQuiet_step_h hlq ?_
      clear hlq lq
      intro K lq hlq hK
      refine wanted_go (by rfl) ?_
      refine ⟨?_, fun W hW => ?_, ?_⟩
      rotate_left
      · obtain ⟨p1, p2, p3⟩ := BoxP.run hW.2.1.1 hp.out.1; obtain ⟨q1, q2, q3⟩ := BoxP.run hW.2.1.2.1 hq.out.1
        go_simp
        with_reducible rfl
      refine hK _ ?_
      clear hK K
      (try simp only [Act.put, List.setIfInBounds_toArray, List.set_cons_zero, List.set_cons_succ])
      refine wpQuiet_step_h hlq ?_
      clear hlq lq
      intro K lq hlq hK
      go_simp
      refine hK _ ?_
      clear hK K
      refine wpQuiet_step_h hlq ?_
      clear hlq lq
      intro K lq hlq hK
      go_simp
      refine hK _ ?_
      clear hK K
      refine wpQuiet_step_h hlq ?_
      clear hlq lq
      intro K lq hlq hK
      go_simp
      refine hK _ ?_
      clear hK K
      refine wpQuiet_step_h hlq ?_
      clear hlq lq
      intro K lq hlq hK
      go_simp
      refine hK _ ?_
      clear hK K
      refine wpQuiet_step_h hlq ?_
      clear hlq lq
      intro K lq hlq hK
      refine wanted_go (by rfl) ?_
      refine ⟨?_, fun W hW => ?_, ?_⟩
      rotate_left
      · obtain ⟨p1, p2, p3⟩ := BoxP.run hW.2.1.1 hp.out.1; obtain ⟨q1, q2, q3⟩ := BoxP.run hW.2.1.2.1 hq.out.1
        go_simp
        with_reducible rfl
      refine hK _ ?_
      clear hK K
      (try simp only [Act.put, List.setIfInBounds_toArray, List.set_cons_zero, List.set_cons_succ])
      refine wpQuiet_step_h hlq ?_
      clear hlq lq
      intro K lq hlq hK
      refine wanted_go (by rfl) ?_
      refine ⟨?_, fun W hW => ?_, ?_⟩
      rotate_left
      · obtain ⟨p1, p2, p3⟩ := BoxP.run hW.2.1.1 hp.out.1; obtain ⟨q1, q2, q3⟩ := BoxP.run hW.2.1.2.1 hq.out.1
        go_simp
        with_reducible rfl
      refine hK _ ?_
      clear hK K
      (try simp only [Act.put, List.setIfInBounds_toArray, List.set_cons_zero, List.set_cons_succ])
      refine wpQuiet_nil_h hlq ?_
      clear hlq lq
      intro w' hC'
      go_wp2_with fail
      go_ret
      exact ⟨rfl, hC'.1⟩
    · obtain ⟨b, hb⟩ : ∃ c, cont p q.a = c := ⟨_, rfl⟩
      have hr : cov p q = b := by simp [cov, hc, hle, hb]
      rw [hr]
      clear hr
      replace hp := Lib.hid hp
      replace hq := Lib.hid hq
      unfold vPf
      go_enter Tryz.func40, Tryz.ntmps40
      go_wp2_with (refine wpList_quiet (C := Bx w w.heap.size [(w.heap.size, oP p), (w.heap.size + 1, oP q)]) 17 (by rfl) (Bx.start2 w (oP p) (oP q)) ?_)
      refine wpQuiet_hide ?_
      intro lq hlq
      refine wpQuiet_step_h hlq ?_
      clear hlq lq
      intro K lq hlq hK
      refine wanted_go (by rfl) ?_
      refine ⟨vPf q, fun W hW => ?_, ?_⟩
      · obtain ⟨p1, p2, p3⟩ := BoxP.run hW.2.1.1 hp.out.1; obtain ⟨q1, q2, q3⟩ := BoxP.run hW.2.1.2.1 hq.out.1
        exact quiet_load 55 _ rfl rfl q3
      refine hK _ ?_
      clear hK K
      (try simp only [Act.put, List.setIfInBounds_toArray, List.set_cons_zero, List.set_cons_succ])
      refine wpQuiet_step_h hlq ?_
      clear hlq lq
      intro K lq hlq hK
      refine wanted_go (by rfl) ?_
      refine ⟨.int .i64 0, fun W hW => ?_, ?_⟩
      · go_simp
        refine (check_any hq.out).mono fun e W2 hc2 => ⟨by rw [hc2.1, hc]; rfl, hW.go hc2.2⟩
      refine hK _ ?_
      clear hK K
      (try simp only [Act.put, List.setIfInBounds_toArray, List.set_cons_zero, List.set_cons_succ])
      refine wpQuiet_step_h hlq ?_
      clear hlq lq
      intro K lq hlq hK
      refine wanted_go (by rfl) ?_
      refine ⟨?_, fun W hW => ?_, ?_⟩
      rotate_left
      · obtain ⟨p1, p2, p3⟩ := BoxP.run hW.2.1.1 hp.out.1; obtain ⟨q1, q2, q3⟩ := BoxP.run hW.2.1.2.1 hq.out.1
        go_simp
        with_reducible rfl
      refine hK _ ?_
      clear hK K
      (try simp only [Act.put, List.setIfInBounds_toArray, List.set_cons_zero, List.set_cons_succ])
      refine wpQuiet_step_h hlq ?_
      clear hlq lq
      intro K lq hlq hK
      refine wanted_go (by rfl) ?_
      refine ⟨?_, fun W hW => ?_, ?_⟩
      rotate_left
      · obtain ⟨p1, p2, p3⟩ := BoxP.run hW.2.1.1 hp.out.1; obtain ⟨q1, q2, q3⟩ := BoxP.run hW.2.1.2.1 hq.out.1
        go_simp
        with_reducible rfl
      refine hK _ ?_
      clear hK K
      (try simp only [Act.put, List.setIfInBounds_toArray, List.set_cons_zero, List.set_cons_succ])
      refine wpQuiet_step_h hlq ?_
      clear hlq lq
      intro K lq hlq hK
      refine wanted_go (by rfl) ?_
      refine ⟨?_, fun W hW => ?_, ?_⟩
      rotate_left
      · obtain ⟨p1, p2, p3⟩ := BoxP.run hW.2.1.1 hp.out.1; obtain ⟨q1, q2, q3⟩ := BoxP.run hW.2.1.2.1 hq.out.1
        go_simp
        with_reducible rfl
      refine hK _ ?_
      clear hK K
      (try simp only [Act.put, List.setIfInBounds_toArray, List.set_cons_zero, List.set_cons_succ])
      refine wpQuiet_step_h hlq ?_
      clear hlq lq
      intro K lq hlq hK
      refine wanted_go (by rfl) ?_
      refine ⟨?_, fun W hW => ?_, ?_⟩
      rotate_left
      · obtain ⟨p1, p2, p3⟩ := BoxP.run hW.2.1.1 hp.out.1; obtain ⟨q1, q2, q3⟩ := BoxP.run hW.2.1.2.1 hq.out.1
        go_simp
        with_reducible rfl
      refine hK _ ?_
      clear hK K
      (try simp only [Act.put, List.setIfInBounds_toArray, List.set_cons_zero, List.set_cons_succ])
      refine wpQuiet_step_h hlq ?_
      clear hlq lq
      intro K lq hlq hK
      refine wanted_go (by rfl) ?_
      refine ⟨?_, fun W hW => ?_, ?_⟩
      rotate_left
      · obtain ⟨p1, p2, p3⟩ := BoxP.run hW.2.1.1 hp.out.1; obtain ⟨q1, q2, q3⟩ := BoxP.run hW.2.1.2.1 hq.out.1
        go_simp
        with_reducible rfl
      refine hK _ ?_
      clear hK K
      (try simp only [Act.put, List.setIfInBounds_toArray, List.set_cons_zero, List.set_cons_succ])
      refine wpQuiet_step_h hlq ?_
      clear hlq lq
      intro K lq hlq hK
      refine wanted_go (by rfl) ?_
      refine ⟨?_, fun W hW => ?_, ?_⟩
      rotate_left
      · obtain ⟨p1, p2, p3⟩ := BoxP.run hW.2.1.1 hp.out.1; obtain ⟨q1, q2, q3⟩ := BoxP.run hW.2.1.2.1 hq.out.1
        go_simp
        with_reducible rfl
      refine hK _ ?_
      clear hK K
      (try simp only [Act.put, List.setIfInBounds_toArray, List.set_cons_zero, List.set_cons_succ])
      refine wpQuiet_step_h hlq ?_
      clear hlq lq
      intro K lq hlq hK
      refine wanted_go (by rfl) ?_
      refine ⟨?_, fun W hW => ?_, ?_⟩
      rotate_left
      · obtain ⟨p1, p2, p3⟩ := BoxP.run hW.2.1.1 hp.out.1; obtain ⟨q1, q2, q3⟩ := BoxP.run hW.2.1.2.1 hq.out.1
        go_simp
        with_reducible rfl
      refine hK _ ?_
      clear hK K
      (try simp only [Act.put, List.setIfInBounds_toArray, List.set_cons_zero, List.set_cons_succ])
      refine wpQuiet_step_h hlq ?_
      clear hlq lq
      intro K lq hlq hK
      refine wanted_go (by rfl) ?_
      refine ⟨?_, fun W hW => ?_, ?_⟩
      rotate_left
      · obtain ⟨p1, p2, p3⟩ := BoxP.run hW.2.1.1 hp.out.1; obtain ⟨q1, q2, q3⟩ := BoxP.run hW.2.1.2.1 hq.out.1
        go_simp
        with_reducible rfl
      refine hK _ ?_
      clear hK K
      (try simp only [Act.put, List.setIfInBounds_toArray, List.set_cons_zero, List.set_cons_succ])
      refine wpQuiet_step_h hlq ?_
      clear hlq lq
      intro K lq hlq hK
      refine wanted_go (by rfl) ?_
      refine ⟨?_, fun W hW => ?_, ?_⟩
      rotate_left
      · obtain ⟨p1, p2, p3⟩ := BoxP.run hW.2.1.1 hp.out.1; obtain ⟨q1, q2, q3⟩ := BoxP.run hW.2.1.2.1 hq.out.1
        go_simp
        with_reducible rfl
      refine hK _ ?_
      clear hK K
      (try simp only [Act.put, List.setIfInBounds_toArray, List.set_cons_zero, List.set_cons_succ])
      refine wpQuiet_step_h hlq ?_
      clear hlq lq
      intro K lq hlq hK
      refine wanted_go (by rfl) ?_
      refine ⟨vPf p, fun W hW => ?_, ?_⟩
      · obtain ⟨p1, p2, p3⟩ := BoxP.run hW.2.1.1 hp.out.1; obtain ⟨q1, q2, q3⟩ := BoxP.run hW.2.1.2.1 hq.out.1
        exact quiet_load 55 _ rfl rfl p3
      refine hK _ ?_
      clear hK K
      (try simp only [Act.put, List.setIfInBounds_toArray, List.set_cons_zero, List.set_cons_succ])
      refine wpQuiet_step_h hlq ?_
      clear hlq lq
      intro K lq hlq hK
      refine wanted_go (by rfl) ?_
      refine ⟨?_, fun W hW => ?_, ?_⟩
      rotate_left
      · obtain ⟨p1, p2, p3⟩ := BoxP.run hW.2.1.1 hp.out.1; obtain ⟨q1, q2, q3⟩ := BoxP.run hW.2.1.2.1 hq.out.1
        go_simp
        with_reducible rfl
      refine hK _ ?_
      clear hK K
      (try simp only [Act.put, List.setIfInBounds_toArray, List.set_cons_zero, List.set_cons_succ])
      refine wpQuiet_step_h hlq ?_
      clear hlq lq
      intro K lq hlq hK
      refine wanted_go (by rfl) ?_
      refine ⟨vA q.a, fun W hW => ?_, ?_⟩
      · obtain ⟨p1, p2, p3⟩ := BoxP.run hW.2.1.1 hp.out.1; obtain ⟨q1, q2, q3⟩ := BoxP.run hW.2.1.2.1 hq.out.1
        exact quiet_load 42 _ rfl rfl q1
      refine hK _ ?_
      clear hK K
      (try simp only [Act.put, List.setIfInBounds_toArray, List.set_cons_zero, List.set_cons_succ])
      refine wpQuiet_step_h hlq ?_
      clear hlq lq
      intro K lq hlq hK
      refine wanted_go (by rfl) ?_
      refine ⟨.bool b, fun W hW => ?_, ?_⟩
      · go_simp
        refine (cont_any hp.out hq.out.1).mono fun e W2 hc2 => ⟨by rw [hc2.1, hb], hW.go hc2.2⟩
      refine hK _ ?_
      clear hK K
      (try simp only [Act.put, List.setIfInBounds_toArray, List.set_cons_zero, List.set_cons_succ])
      refine wpQuiet_step_h hlq ?_
      clear hlq lq
      intro K lq hlq hK
      refine wanted_go (by rfl) ?_
      refine ⟨?_, fun W hW => ?_, ?_⟩
      rotate_left
      · obtain ⟨p1, p2, p3⟩ := BoxP.run hW.2.1.1 hp.out.1; obtain ⟨q1, q2, q3⟩ := BoxP.run hW.2.1.2.1 hq.out.1
        go_simp
        with_reducible rfl
      refine hK _ ?_
      clear hK K
      (try simp only [Act.put, List.setIfInBounds_toArray, List.set_cons_zero, List.set_cons_succ])
      refine wpQuiet_step_h hlq ?_
      clear hlq lq
      intro K lq hlq hK
      refine wanted_go (by rfl) ?_
      refine ⟨?_, fun W hW => ?_, ?_⟩
      rotate_left
      · obtain ⟨p1, p2, p3⟩ := BoxP.run hW.2.1.1 hp.out.1; obtain ⟨q1, q2, q3⟩ := BoxP.run hW.2.1.2.1 hq.out.1
        go_simp
        with_reducible rfl
      refine hK _ ?_
      clear hK K
      (try simp only [Act.put, List.setIfInBounds_toArray, List.set_cons_zero, List.set_cons_succ])
      refine wpQuiet_nil_h hlq ?_
      clear hlq lq
      intro w' hC'
      go_wp2_with fail
      go_ret
      exact ⟨rfl, hC'.1⟩
/-- The beginning of a plain region is quiet. -/
theorem wpList_quiet_take {P : Program} {ops : Array Oper} {C : World → Prop} {Q : Exit → Act → World → Prop} : ∀ (n k : Nat) {l : List Oper} {a : Act} {w : World}, l.length = n → C w → wpQuiet P ops C (fun a' => ∀ w', C w' → wpList P ops Q (l.drop k) a' w') (l.take k) a → wpList P ops Q l a w
  | _, 0, l, a, w, _, hC, h => by simpa using h w hC
  | _, k + 1, [], a, w, _, hC, h => by simpa using h w hC
  | _, k + 1, o :: rest, a, w, hn, hC, h => by
    unfold wpList
    rw [List.take_succ_cons] at h
    unfold wpQuiet at h
    split
    · rename_i hw
      rw [if_pos hw] at h
      exact .inl (Oper.wp_of_quiet hC (fun a' w' hw' hk => wpList_quiet_take rest.length k rfl hw' hk) h)
    · rename_i hw
      rw [if_neg hw] at h
      exact wpList_quiet_take rest.length k rfl hC h
theorem str_bytes {l m : List Int} (hl : ∀ x ∈ l, 0 ≤ x ∧ x < 256) (hm : ∀ x ∈ m, 0 ≤ x ∧ x < 256) (h : l.map (fun n => UInt8.ofNat n.toNat) = m.map (fun n => UInt8.ofNat n.toNat)) : l = m := by
  induction l generalizing m with
  | nil => cases m <;> simp_all
  | cons x l ih => cases m with
    | nil => simp at h
    | cons y m =>
      simp only [List.map_cons, List.cons.injEq] at h
      have h1 := congrArg UInt8.toNat h.1
      have hx := hl x (by simp)
      have hy := hm y (by simp)
      simp only [UInt8.toNat_ofNat'] at h1
      rw [Nat.mod_eq_of_lt (by omega), Nat.mod_eq_of_lt (by omega)] at h1
      rw [ih (fun z hz => hl z (by simp [hz])) (fun z hz => hm z (by simp [hz])) h.2, show x = y by omega]
theorem fam_str {a : List Int} (ha : isA a) : ((strOfNums (a.take 12)).toList == [0, 0, 0, 0, 0, 0, 0, 0, 0, 0, 255, 255]) = decide (a.take 12 = mapd) := by
  rw [ByteArray.toList_eq, strOfNums_data, Bool.eq_iff_iff, beq_iff_eq, decide_eq_true_eq]
  constructor
  · intro h
    exact str_bytes (fun x hx => ha.2 x (List.mem_of_mem_take hx)) (by decide) h
  · intro h; rw [h]; rfl
set_option maxRecDepth 100000 in
set_option maxHeartbeats 400000 in
/-- Family. -/
theorem fam_any {w : World} {a : List Int} (ha : isA a) : Calls Tryz.prog 32 #[vA a] w fun e w' => e = .returned (.int .i64 (fam a)) ∧ Below w.heap.size w w' := by
  have hcv : (convert 150 9 (.slice (some ⟨w.heap.size, 0, none⟩) 12 16)).run Tryz.prog (w.alloc (.cells (nums .u8 a).toArray 42)) = .ok (.string (strOfNums (a.take 12))) (w.alloc (.cells (nums .u8 a).toArray 42)) := by
    refine run_convert_bytes_arg _ 150 5 Tryz.underlying150 Tryz.underlying5 _ 0 12 16 (a.take 12) (by rw [List.length_take, ha.1]; rfl) (fun i hi => ?_) 9 Tryz.underlying9
    rw [Nat.zero_add, row_cell (box1 w (.cells (nums .u8 a).toArray 42)), List.getElem?_toArray]
    obtain ⟨x, hx⟩ := get_some (l := a) (j := i) (by rw [ha.1]; omega)
    rw [nums_get hx, List.getD_eq_getElem?_getD, List.getElem?_take, if_pos hi, hx]; rfl
  have hcmp := fam_str ha
  have bel : Below w.heap.size w (w.alloc (.cells (nums .u8 a).toArray 42)) := (Below.refl _ _).alloc (Nat.le_refl _) _
  obtain ⟨b, hb⟩ : ∃ b, decide (a.take 12 = mapd) = b := ⟨_, rfl⟩
  rw [hb] at hcmp
  have hf : fam a = if b then 4 else 6 := by unfold fam; rw [← hb]; simp
  rw [hf]
  clear hb hf
  replace ha := Lib.hid ha
  unfold vA
  go_enter Tryz.func32, Tryz.ntmps32
  cases b
  · go_wp2_with fail
    go_ret
    exact ⟨rfl, bel⟩
  · go_wp2_with fail
    go_ret
    exact ⟨rfl, bel⟩
set_option maxRecDepth 100000 in
set_option maxHeartbeats 400000 in
/-- PrefixFamily. -/
theorem pfam_any {w : World} {p : Pf} (hp : p.ok) : Calls Tryz.prog 54 #[vPf p] w fun e w' => e = .returned (.int .i64 (pfam p)) ∧ Below w.heap.size w w' := by
  obtain ⟨b, hb⟩ : ∃ b, decide (p.n < 96) = b := ⟨_, rfl⟩
  have hc : (w.alloc (oP p)).cell? ⟨w.heap.size, 16, none⟩ = some (.int .i64 p.n) := (BoxP.run (box1 w (oP p)) hp.1).2.1
  have bel : Below w.heap.size w (w.alloc (oP p)) := (Below.refl _ _).alloc (Nat.le_refl _) _
  unfold oP at hc
  unfold vPf
  cases b
  · have hf : pfam p = fam p.a := by unfold pfam; rw [if_neg (of_decide_eq_false hb)]
    rw [hf]
    clear hf
    replace hp := Lib.hid hp
    go_enter Tryz.func54, Tryz.ntmps54
    go_wp2_with (refine wpList_quiet (C := Bx w w.heap.size [(w.heap.size, oP p)]) 4 (by rfl) (Bx.start1 w (oP p)) ?_)
    refine wpQuiet_hide ?_
    intro lq hlq
    refine wpQuiet_step_h hlq ?_
    clear hlq lq
    intro K lq hlq hK
    refine wanted_go (by rfl) ?_
    refine ⟨?_, fun W hW => ?_, ?_⟩
    rotate_left
    · obtain ⟨q1, q2, q3⟩ := BoxP.run hW.2.1.1 hp.out.1
      go_simp
      with_reducible rfl
    refine hK _ ?_
    clear hK K
    (try simp only [Act.put, List.setIfInBounds_toArray, List.set_cons_zero, List.set_cons_succ])
    refine wpQuiet_step_h hlq ?_
    clear hlq lq
    intro K lq hlq hK
    refine wanted_go (by rfl) ?_
    refine ⟨vA p.a, fun W hW => ?_, ?_⟩
    · obtain ⟨q1, q2, q3⟩ := BoxP.run hW.2.1.1 hp.out.1
      exact quiet_load 42 _ rfl rfl q1
    refine hK _ ?_
    clear hK K
    (try simp only [Act.put, List.setIfInBounds_toArray, List.set_cons_zero, List.set_cons_succ])
    refine wpQuiet_step_h hlq ?_
    clear hlq lq
    intro K lq hlq hK
    refine wanted_go (by rfl) ?_
    refine ⟨.int .i64 (fam p.a), fun W hW => ?_, ?_⟩
    · go_simp
      refine (fam_any hp.out.1).mono fun e W2 hc2 => ⟨hc2.1, hW.go hc2.2⟩
    refine hK _ ?_
    clear hK K
    (try simp only [Act.put, List.setIfInBounds_toArray, List.set_cons_zero, List.set_cons_succ])
    refine wpQuiet_step_h hlq ?_
    clear hlq lq
    intro K lq hlq hK
    refine wanted_go (by rfl) ?_
    refine ⟨?_, fun W hW => ?_, ?_⟩
    rotate_left
    · obtain ⟨q1, q2, q3⟩ := BoxP.run hW.2.1.1 hp.out.1
      go_simp
      with_reducible rfl
    refine hK _ ?_
    clear hK K
    (try simp only [Act.put, List.setIfInBounds_toArray, List.set_cons_zero, List.set_cons_succ])
    refine wpQuiet_nil_h hlq ?_
    clear hlq lq
    intro w' hC'
    go_wp2_with fail
    go_ret
    exact ⟨rfl, hC'.1⟩
  · have hf : pfam p = 6 := by unfold pfam; rw [if_pos (of_decide_eq_true hb)]
    rw [hf]
    clear hf
    replace hp := Lib.hid hp
    go_enter Tryz.func54, Tryz.ntmps54
    go_wp2_with fail
    go_ret
    exact ⟨rfl, bel⟩
end Go.Proofs.YtnljjlaececnkaaGreatDoor
