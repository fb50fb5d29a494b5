/-
  Print of an address of sixteen bytes that is no mapped one. Condition: the variables hold what their initialisers laid; an address is sixteen bytes.
-/
import Derived.Test.YtnljjlaececnkaaGreatDoorXC
import Derived.Test.YtnljjlaececnkaaGreatDoorV
namespace Go.Proofs.YtnljjlaececnkaaGreatDoor
open Go.RowKit
set_option linter.unusedVariables false
set_option linter.unusedSimpArgs false
set_option maxRecDepth 100000 in
set_option maxHeartbeats 800000 in
theorem print6_any {w : World} (E : Env w) {a : List Int} (ha : isA a) (h6 : fam a = 6) : Calls Tryz.prog 34 #[vA a] w fun e w' => e = .returned (.string ⟨(groupedS a).toArray⟩) ∧ Below w.heap.size w w' := by
  have Ha := Lib.hid ha
  clear ha
  unfold vA
  go_enter Tryz.func34, Tryz.ntmps34
  go_wp2_with (refine wpList_quiet (C := Bx w w.heap.size [(w.heap.size, oA a)]) 3 (by rfl) (Bx.start1 w (oA a)) ?_)
  refine wpQuiet_hide ?_
  intro lq hlq
  refine wpQuiet_step_h hlq ?_
  clear hlq lq
  intro K lq hlq hK
  refine wanted_go (by rfl) ?_
  refine ⟨vA a, fun W hW => ?_, ?_⟩
  · have q1 := BoxA.run hW.2.1.1 Ha.out
    exact quiet_load 42 _ rfl rfl q1
  refine hK _ ?_
  clear hK K
  (try simp only [Act.put, List.setIfInBounds_toArray, List.set_cons_zero, List.set_cons_succ])
  refine wpQuiet_step_h hlq ?_
  clear hlq lq
  intro K lq hlq hK
  refine wanted_go (by rfl) ?_
  refine ⟨.int .i64 6, fun W hW => ?_, ?_⟩
  · go_simp
    refine (fam_any Ha.out).mono fun e W2 hc2 => ⟨by rw [hc2.1, h6], hW.go hc2.2⟩
  refine hK _ ?_
  clear hK K
  (try simp only [Act.put, List.setIfInBounds_toArray, List.set_cons_zero, List.set_cons_succ])
  refine wpQuiet_step_h hlq ?_
  clear hlq lq
  intro K lq hlq hK
  refine wanted_go (by rfl) ?_
  refine ⟨?_, fun W hW => ?_, ?_⟩
  rotate_left
  · have q1 := BoxA.run hW.2.1.1 Ha.out
    go_simp
    with_reducible rfl
  refine hK _ ?_
  clear hK K
  (try simp only [Act.put, List.setIfInBounds_toArray, List.set_cons_zero, List.set_cons_succ])
  refine wpQuiet_nil_h hlq ?_
  clear hlq lq
  intro w' hC'
  go_wp2_with (refine wpList_quiet (C := Bx w w.heap.size [(w.heap.size, oA a)]) 3 (by rfl) (hC') ?_)
  refine wpQuiet_hide ?_
  intro lq hlq
  refine wpQuiet_step_h hlq ?_
  clear hlq lq
  intro K lq hlq hK
  refine wanted_go (by rfl) ?_
  refine ⟨vA a, fun W hW => ?_, ?_⟩
  · have q1 := BoxA.run hW.2.1.1 Ha.out
    exact quiet_load 42 _ rfl rfl q1
  refine hK _ ?_
  clear hK K
  (try simp only [Act.put, List.setIfInBounds_toArray, List.set_cons_zero, List.set_cons_succ])
  refine wpQuiet_step_h hlq ?_
  clear hlq lq
  intro K lq hlq hK
  refine wanted_go (by rfl) ?_
  refine ⟨.string ⟨(groupedS a).toArray⟩, fun W hW => ?_, ?_⟩
  · go_simp
    refine (grouped_any (E.go hW.1).2 Ha.out).mono fun e W2 hc2 => ⟨hc2.1, hW.go hc2.2⟩
  refine hK _ ?_
  clear hK K
  (try simp only [Act.put, List.setIfInBounds_toArray, List.set_cons_zero, List.set_cons_succ])
  refine wpQuiet_step_h hlq ?_
  clear hlq lq
  intro K lq hlq hK
  refine wanted_go (by rfl) ?_
  refine ⟨?_, fun W hW => ?_, ?_⟩
  rotate_left
  · have q1 := BoxA.run hW.2.1.1 Ha.out
    go_simp
    with_reducible rfl
  refine hK _ ?_
  clear hK K
  (try simp only [Act.put, List.setIfInBounds_toArray, List.set_cons_zero, List.set_cons_succ])
  refine wpQuiet_nil_h hlq ?_
  clear hlq lq
  intro w' hC'
  go_wp2_with fail
  go_ret
  exact ⟨rfl, hC'.1⟩
end Go.Proofs.YtnljjlaececnkaaGreatDoor
