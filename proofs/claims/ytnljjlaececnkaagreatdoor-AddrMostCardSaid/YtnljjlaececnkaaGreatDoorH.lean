/-
  What the package variables hold; decimal. Condition: the variables hold what their initialisers laid; a text is no longer than memory has room for.
-/
import Derived.Test.YtnljjlaececnkaaGreatDoorG
import Derived.Test.YtnljjlaececnkaaGreatDoorS
import Derived.Lib.AppendIntMem
namespace Go.Proofs.YtnljjlaececnkaaGreatDoor
open Go.RowKit
set_option linter.unusedVariables false
set_option linter.unusedSimpArgs false
/-- What the variables hold that the code reads. -/
structure EnvC (W : World) : Prop where
  mx : ∃ m, W.cell? ⟨0, 0, none⟩ = some (.int .i64 m)
  es : ∃ ev, W.cell? ⟨1, 0, none⟩ = some ev ∧ (ev = .nilIface ∨ ∃ te pe, ev = .iface te pe)
  er : ∃ ev, W.cell? ⟨2, 0, none⟩ = some ev ∧ (ev = .nilIface ∨ ∃ te pe, ev = .iface te pe)
  pow : Lib.TabIs Tryz.prog W "internal/strconv.uint64pow10" .u64 Lib.pow10Tab
  tz : W.cell? ⟨7, 15, none⟩ = some (.int .u8 4)
abbrev Env (W : World) : Prop := Ev EnvC W
theorem atoi_bounds {l : List UInt8} {v : Int} (h : Lib.atoiAll l = .ok v) : -9223372036854775808 ≤ v ∧ v ≤ 9223372036854775807 := Lib.atoiAll_bounds h
/-- What decimal answers. -/
def DecR (s : ByteArray) (most : Int) (e : Ending) : Prop := ∃ n b, e = .returned (.tuple #[.int .i64 n, .bool b]) ∧ b = (decS s most).isSome ∧ ∀ v, decS s most = some v → n = v
theorem decS_ok {s : ByteArray} {most v : Int} (h : Lib.atoiAll s.data.toList = .ok v) : decS s most = if (s.size : Int) ≤ most ∧ Lib.itoa v = s.data.toList ∧ 0 ≤ v then some v else none := by unfold decS; rw [h]
theorem DecR.no {s : ByteArray} {most n : Int} (h : decS s most = none) : DecR s most (.returned (.tuple #[.int .i64 n, .bool false])) := ⟨n, false, rfl, by rw [h]; rfl, fun v hv => by rw [h] at hv; cases hv⟩
theorem belAtoi {w w' : World} {e : TypeId} (h : w' = w ∨ ∃ t, w' = Lib.bytesWorld w e t) : Below w.heap.size w w' := by
  rcases h with rfl | ⟨t, rfl⟩
  · exact Below.refl _ _
  · exact Lib.bytesWorld_below _ _ _
set_option maxRecDepth 100000 in
set_option maxHeartbeats 1600000 in
theorem dec_any {w : World} (E : Env w) (s : ByteArray) (hs : s.size ≤ 140737488351232) (most : Int) : Calls Tryz.prog 124 #[.string s, .int .i64 most] w fun e w' => DecR s most e ∧ Below w.heap.size w w' := by
  obtain ⟨ev1, hv1, he1⟩ := (E.go (Below.refl _ _)).1.es
  obtain ⟨ev2, hv2, he2⟩ := (E.go (Below.refl _ _)).1.er
  replace he1 := Lib.hid he1
  replace he2 := Lib.hid he2
  cases ha : Lib.atoiAll s.data.toList with
  | «syntax» =>
    have hr : decS s most = none := by unfold decS; rw [ha]
    go_enter Tryz.func124, Tryz.ntmps124
    go_wp2_with (go_at_call 116; refine (Tryz.strconv_Atoi_syntax s (by omega) ha ev1 w hv1 he1.out).mono ?_; rintro e w' ⟨N, rfl, -, -, bel⟩)
    go_ret2
    exact ⟨DecR.no hr, bel⟩
  | range =>
    have hr : decS s most = none := by unfold decS; rw [ha]
    go_enter Tryz.func124, Tryz.ntmps124
    go_wp2_with (go_at_call 116; refine (Tryz.strconv_Atoi_range s (by omega) ha ev2 w hv2 he2.out).mono ?_; rintro e w' ⟨N, rfl, -, -, bel⟩)
    go_ret2
    exact ⟨DecR.no hr, bel⟩
  | ok v =>
    obtain ⟨hv0, hv1⟩ := atoi_bounds ha
    have hd := decS_ok (most := most) ha
    obtain ⟨le, hle⟩ : ∃ c, decide ((s.size : Int) ≤ most) = c := ⟨_, rfl⟩
    obtain ⟨c, hc⟩ : ∃ c, ((⟨(Lib.itoa v).toArray⟩ : ByteArray).toList == s.toList) = c := ⟨_, rfl⟩
    have hcB : (Lib.itoa v == s.toList) = c := by rw [← hc, ByteArray.toList_eq (⟨(Lib.itoa v).toArray⟩ : ByteArray)]
    have hc2 : Lib.itoa v = s.data.toList ↔ c = true := by rw [← hc, beq_iff_eq, ByteArray.toList_eq, ByteArray.toList_eq]
    obtain ⟨p, hp⟩ : ∃ c, decide (0 ≤ v) = c := ⟨_, rfl⟩
    replace hc2 := Lib.hid hc2
    cases le
    · have hr : decS s most = none := by rw [hd, if_neg (fun h => of_decide_eq_false hle h.1)]
      go_enter Tryz.func124, Tryz.ntmps124
      go_wp2_with (go_at_call 116; refine (Tryz.strconv_Atoi_ok s (by omega) v ha w).mono ?_; rintro e w1 ⟨rfl, hw⟩; have bel : Below w.heap.size w w1 := belAtoi hw; clear hw)
      go_ret2
      exact ⟨DecR.no hr, bel⟩
    · cases c
      · have hr : decS s most = none := by rw [hd, if_neg (fun h => Bool.noConfusion (hc2.out.1 h.2.1))]
        go_enter Tryz.func124, Tryz.ntmps124
        go_wp2_with (first | (go_at_call 116; refine (Tryz.strconv_Atoi_ok s (by omega) v ha w).mono ?_; rintro e w1 ⟨rfl, hw⟩; have bel : Below w.heap.size w w1 := belAtoi hw; clear hw) | (refine wpList_quiet (C := Bx w w.heap.size []) 19 (by rfl) ⟨bel, trivial, bel.size⟩ ?_))
        refine wpQuiet_hide ?_
        intro lq hlq
        refine wpQuiet_step_h hlq ?_
        clear hlq lq
        intro K lq hlq hK
        refine wanted_go (by rfl) ?_
        refine ⟨?_, fun W hW => ?_, ?_⟩
        rotate_left
        · skip
          go_simp
          with_reducible rfl
        refine hK _ ?_
        clear hK K
        (try simp only [Act.put, List.setIfInBounds_toArray, List.set_cons_zero, List.set_cons_succ])
        refine wpQuiet_step_h hlq ?_
        clear hlq lq
        intro K lq hlq hK
        refine wanted_go (by rfl) ?_
        refine ⟨?_, fun W hW => ?_, ?_⟩
        rotate_left
        · skip
          go_simp
          with_reducible rfl
        refine hK _ ?_
        clear hK K
        (try simp only [Act.put, List.setIfInBounds_toArray, List.set_cons_zero, List.set_cons_succ])
        refine wpQuiet_step_h hlq ?_
        clear hlq lq
        intro K lq hlq hK
        refine wanted_go (by rfl) ?_
        refine ⟨?_, fun W hW => ?_, ?_⟩
        rotate_left
        · skip
          go_simp
          with_reducible rfl
        refine hK _ ?_
        clear hK K
        (try simp only [Act.put, List.setIfInBounds_toArray, List.set_cons_zero, List.set_cons_succ])
        refine wpQuiet_step_h hlq ?_
        clear hlq lq
        intro K lq hlq hK
        refine wanted_go (by rfl) ?_
        refine ⟨?_, fun W hW => ?_, ?_⟩
        rotate_left
        · skip
          go_simp
          with_reducible rfl
        refine hK _ ?_
        clear hK K
        (try simp only [Act.put, List.setIfInBounds_toArray, List.set_cons_zero, List.set_cons_succ])
        refine wpQuiet_step_h hlq ?_
        clear hlq lq
        intro K lq hlq hK
        refine wanted_go (by rfl) ?_
        refine ⟨?_, fun W hW => ?_, ?_⟩
        rotate_left
        · skip
          go_simp
          with_reducible rfl
        refine hK _ ?_
        clear hK K
        (try simp only [Act.put, List.setIfInBounds_toArray, List.set_cons_zero, List.set_cons_succ])
        refine wpQuiet_step_h hlq ?_
        clear hlq lq
        intro K lq hlq hK
        refine wanted_go (by rfl) ?_
        refine ⟨?_, fun W hW => ?_, ?_⟩
        rotate_left
        · skip
          go_simp
          with_reducible rfl
        refine hK _ ?_
        clear hK K
        (try simp only [Act.put, List.setIfInBounds_toArray, List.set_cons_zero, List.set_cons_succ])
        refine wpQuiet_step_h hlq ?_
        clear hlq lq
        intro K lq hlq hK
        refine wanted_go (by rfl) ?_
        refine ⟨?_, fun W hW => ?_, ?_⟩
        rotate_left
        · skip
          go_simp
          with_reducible rfl
        refine hK _ ?_
        clear hK K
        (try simp only [Act.put, List.setIfInBounds_toArray, List.set_cons_zero, List.set_cons_succ])
        refine wpQuiet_step_h hlq ?_
        clear hlq lq
        intro K lq hlq hK
        refine wanted_go (by rfl) ?_
        refine ⟨?_, fun W hW => ?_, ?_⟩
        rotate_left
        · skip
          go_simp
          with_reducible rfl
        refine hK _ ?_
        clear hK K
        (try simp only [Act.put, List.setIfInBounds_toArray, List.set_cons_zero, List.set_cons_succ])
        refine wpQuiet_step_h hlq ?_
        clear hlq lq
        intro K lq hlq hK
        refine wanted_go (by rfl) ?_
        refine ⟨?_, fun W hW => ?_, ?_⟩
        rotate_left
        · skip
          go_simp
          with_reducible rfl
        refine hK _ ?_
        clear hK K
        (try simp only [Act.put, List.setIfInBounds_toArray, List.set_cons_zero, List.set_cons_succ])
        refine wpQuiet_step_h hlq ?_
        clear hlq lq
        intro K lq hlq hK
        refine wanted_go (by rfl) ?_
        refine ⟨.string ⟨(Lib.itoa v).toArray⟩, fun W hW => ?_, ?_⟩
        · go_simp
          refine (Tryz.strconv_Itoa v hv0 hv1 W (E.go hW.1).1.pow).mono fun e W2 hc2 => ⟨hc2.1, ?_⟩
          obtain ⟨k, os, rfl⟩ := hc2.2
          exact hW.go (Lib.below_grow _ _ (Nat.le_refl _) k os)
        refine hK _ ?_
        clear hK K
        (try simp only [Act.put, List.setIfInBounds_toArray, List.set_cons_zero, List.set_cons_succ])
        refine wpQuiet_step_h hlq ?_
        clear hlq lq
        intro K lq hlq hK
        refine wanted_go (by rfl) ?_
        refine ⟨?_, fun W hW => ?_, ?_⟩
        rotate_left
        · skip
          go_simp
          with_reducible rfl
        refine hK _ ?_
        clear hK K
        (try simp only [Act.put, List.setIfInBounds_toArray, List.set_cons_zero, List.set_cons_succ])
        refine wpQuiet_step_h hlq ?_
        clear hlq lq
        intro K lq hlq hK
        refine wanted_go (by rfl) ?_
        refine ⟨?_, fun W hW => ?_, ?_⟩
        rotate_left
        · skip
          go_simp
          with_reducible rfl
        refine hK _ ?_
        clear hK K
        (try simp only [Act.put, List.setIfInBounds_toArray, List.set_cons_zero, List.set_cons_succ])
        refine wpQuiet_step_h hlq ?_
        clear hlq lq
        intro K lq hlq hK
        refine wanted_go (by rfl) ?_
        refine ⟨?_, fun W hW => ?_, ?_⟩
        rotate_left
        · skip
          go_simp
          with_reducible rfl
        refine hK _ ?_
        clear hK K
        (try simp only [Act.put, List.setIfInBounds_toArray, List.set_cons_zero, List.set_cons_succ])
        refine wpQuiet_step_h hlq ?_
        clear hlq lq
        intro K lq hlq hK
        refine wanted_go (by rfl) ?_
        refine ⟨?_, fun W hW => ?_, ?_⟩
        rotate_left
        · skip
          go_simp
          with_reducible rfl
        refine hK _ ?_
        clear hK K
        (try simp only [Act.put, List.setIfInBounds_toArray, List.set_cons_zero, List.set_cons_succ])
        refine wpQuiet_step_h hlq ?_
        clear hlq lq
        intro K lq hlq hK
        go_simp
        refine hK _ ?_
        clear hK K
        refine wpQuiet_step_h hlq ?_
        clear hlq lq
        intro K lq hlq hK
        go_simp
        refine hK _ ?_
        clear hK K
        refine wpQuiet_step_h hlq ?_
        clear hlq lq
        intro K lq hlq hK
        refine wanted_go (by rfl) ?_
        refine ⟨?_, fun W hW => ?_, ?_⟩
        rotate_left
        · skip
          go_simp
          with_reducible rfl
        refine hK _ ?_
        clear hK K
        (try simp only [Act.put, List.setIfInBounds_toArray, List.set_cons_zero, List.set_cons_succ])
        refine wpQuiet_step_h hlq ?_
        clear hlq lq
        intro K lq hlq hK
        refine wanted_go (by rfl) ?_
        refine ⟨?_, fun W hW => ?_, ?_⟩
        rotate_left
        · skip
          go_simp
          with_reducible rfl
        refine hK _ ?_
        clear hK K
        (try simp only [Act.put, List.setIfInBounds_toArray, List.set_cons_zero, List.set_cons_succ])
        refine wpQuiet_step_h hlq ?_
        clear hlq lq
        intro K lq hlq hK
        refine wanted_go (by rfl) ?_
        refine ⟨?_, fun W hW => ?_, ?_⟩
        rotate_left
        · skip
          go_simp
          with_reducible rfl
        refine hK _ ?_
        clear hK K
        (try simp only [Act.put, List.setIfInBounds_toArray, List.set_cons_zero, List.set_cons_succ])
        refine wpQuiet_nil_h hlq ?_
        clear hlq lq
        intro w' hC'
        go_wp2_with fail
        go_ret2
        exact ⟨DecR.no hr, hC'.1⟩
      · cases p
        · have hr : decS s most = none := by rw [hd, if_neg (fun h => of_decide_eq_false hp h.2.2)]
          go_enter Tryz.func124, Tryz.ntmps124
          go_wp2_with (first | (go_at_call 116; refine (Tryz.strconv_Atoi_ok s (by omega) v ha w).mono ?_; rintro e w1 ⟨rfl, hw⟩; have bel : Below w.heap.size w w1 := belAtoi hw; clear hw) | (refine wpList_quiet (C := Bx w w.heap.size []) 19 (by rfl) ⟨bel, trivial, bel.size⟩ ?_))
          refine wpQuiet_hide ?_
          intro lq hlq
          refine wpQuiet_step_h hlq ?_
          clear hlq lq
          intro K lq hlq hK
          refine wanted_go (by rfl) ?_
          refine ⟨?_, fun W hW => ?_, ?_⟩
          rotate_left
          · skip
            go_simp
            with_reducible rfl
          refine hK _ ?_
          clear hK K
          (try simp only [Act.put, List.setIfInBounds_toArray, List.set_cons_zero, List.set_cons_succ])
          refine wpQuiet_step_h hlq ?_
          clear hlq lq
          intro K lq hlq hK
          refine wanted_go (by rfl) ?_
          refine ⟨?_, fun W hW => ?_, ?_⟩
          rotate_left
          · skip
            go_simp
            with_reducible rfl
          refine hK _ ?_
          clear hK K
          (try simp only [Act.put, List.setIfInBounds_toArray, List.set_cons_zero, List.set_cons_succ])
          refine wpQuiet_step_h hlq ?_
          clear hlq lq
          intro K lq hlq hK
          refine wanted_go (by rfl) ?_
          refine ⟨?_, fun W hW => ?_, ?_⟩
          rotate_left
          · skip
            go_simp
            with_reducible rfl
          refine hK _ ?_
          clear hK K
          (try simp only [Act.put, List.setIfInBounds_toArray, List.set_cons_zero, List.set_cons_succ])
          refine wpQuiet_step_h hlq ?_
          clear hlq lq
          intro K lq hlq hK
          refine wanted_go (by rfl) ?_
          refine ⟨?_, fun W hW => ?_, ?_⟩
          rotate_left
          · skip
            go_simp
            with_reducible rfl
          refine hK _ ?_
          clear hK K
          (try simp only [Act.put, List.setIfInBounds_toArray, List.set_cons_zero, List.set_cons_succ])
          refine wpQuiet_step_h hlq ?_
          clear hlq lq
          intro K lq hlq hK
          refine wanted_go (by rfl) ?_
          refine ⟨?_, fun W hW => ?_, ?_⟩
          rotate_left
          · skip
            go_simp
            with_reducible rfl
          refine hK _ ?_
          clear hK K
          (try simp only [Act.put, List.setIfInBounds_toArray, List.set_cons_zero, List.set_cons_succ])
          refine wpQuiet_step_h hlq ?_
          clear hlq lq
          intro K lq hlq hK
          refine wanted_go (by rfl) ?_
          refine ⟨?_, fun W hW => ?_, ?_⟩
          rotate_left
          · skip
            go_simp
            with_reducible rfl
          refine hK _ ?_
          clear hK K
          (try simp only [Act.put, List.setIfInBounds_toArray, List.set_cons_zero, List.set_cons_succ])
          refine wpQuiet_step_h hlq ?_
          clear hlq lq
          intro K lq hlq hK
          refine wanted_go (by rfl) ?_
          refine ⟨?_, fun W hW => ?_, ?_⟩
          rotate_left
          · skip
            go_simp
            with_reducible rfl
          refine hK _ ?_
          clear hK K
          (try simp only [Act.put, List.setIfInBounds_toArray, List.set_cons_zero, List.set_cons_succ])
          refine wpQuiet_step_h hlq ?_
          clear hlq lq
          intro K lq hlq hK
          refine wanted_go (by rfl) ?_
          refine ⟨?_, fun W hW => ?_, ?_⟩
          rotate_left
          · skip
            go_simp
            with_reducible rfl
          refine hK _ ?_
          clear hK K
          (try simp only [Act.put, List.setIfInBounds_toArray, List.set_cons_zero, List.set_cons_succ])
          refine wpQuiet_step_h hlq ?_
          clear hlq lq
          intro K lq hlq hK
          refine wanted_go (by rfl) ?_
          refine ⟨?_, fun W hW => ?_, ?_⟩
          rotate_left
          · skip
            go_simp
            with_reducible rfl
          refine hK _ ?_
          clear hK K
          (try simp only [Act.put, List.setIfInBounds_toArray, List.set_cons_zero, List.set_cons_succ])
          refine wpQuiet_step_h hlq ?_
          clear hlq lq
          intro K lq hlq hK
          refine wanted_go (by rfl) ?_
          refine ⟨.string ⟨(Lib.itoa v).toArray⟩, fun W hW => ?_, ?_⟩
          · go_simp
            refine (Tryz.strconv_Itoa v hv0 hv1 W (E.go hW.1).1.pow).mono fun e W2 hc2 => ⟨hc2.1, ?_⟩
            obtain ⟨k, os, rfl⟩ := hc2.2
            exact hW.go (Lib.below_grow _ _ (Nat.le_refl _) k os)
          refine hK _ ?_
          clear hK K
          (try simp only [Act.put, List.setIfInBounds_toArray, List.set_cons_zero, List.set_cons_succ])
          refine wpQuiet_step_h hlq ?_
          clear hlq lq
          intro K lq hlq hK
          refine wanted_go (by rfl) ?_
          refine ⟨?_, fun W hW => ?_, ?_⟩
          rotate_left
          · skip
            go_simp
            with_reducible rfl
          refine hK _ ?_
          clear hK K
          (try simp only [Act.put, List.setIfInBounds_toArray, List.set_cons_zero, List.set_cons_succ])
          refine wpQuiet_step_h hlq ?_
          clear hlq lq
          intro K lq hlq hK
          refine wanted_go (by rfl) ?_
          refine ⟨?_, fun W hW => ?_, ?_⟩
          rotate_left
          · skip
            go_simp
            with_reducible rfl
          refine hK _ ?_
          clear hK K
          (try simp only [Act.put, List.setIfInBounds_toArray, List.set_cons_zero, List.set_cons_succ])
          refine wpQuiet_step_h hlq ?_
          clear hlq lq
          intro K lq hlq hK
          refine wanted_go (by rfl) ?_
          refine ⟨?_, fun W hW => ?_, ?_⟩
          rotate_left
          · skip
            go_simp
            with_reducible rfl
          refine hK _ ?_
          clear hK K
          (try simp only [Act.put, List.setIfInBounds_toArray, List.set_cons_zero, List.set_cons_succ])
          refine wpQuiet_step_h hlq ?_
          clear hlq lq
          intro K lq hlq hK
          refine wanted_go (by rfl) ?_
          refine ⟨?_, fun W hW => ?_, ?_⟩
          rotate_left
          · skip
            go_simp
            with_reducible rfl
          refine hK _ ?_
          clear hK K
          (try simp only [Act.put, List.setIfInBounds_toArray, List.set_cons_zero, List.set_cons_succ])
          refine wpQuiet_step_h hlq ?_
          clear hlq lq
          intro K lq hlq hK
          refine wanted_go (by rfl) ?_
          refine ⟨?_, fun W hW => ?_, ?_⟩
          rotate_left
          · skip
            go_simp
            with_reducible rfl
          refine hK _ ?_
          clear hK K
          (try simp only [Act.put, List.setIfInBounds_toArray, List.set_cons_zero, List.set_cons_succ])
          refine wpQuiet_step_h hlq ?_
          clear hlq lq
          intro K lq hlq hK
          refine wanted_go (by rfl) ?_
          refine ⟨?_, fun W hW => ?_, ?_⟩
          rotate_left
          · skip
            go_simp
            with_reducible rfl
          refine hK _ ?_
          clear hK K
          (try simp only [Act.put, List.setIfInBounds_toArray, List.set_cons_zero, List.set_cons_succ])
          refine wpQuiet_step_h hlq ?_
          clear hlq lq
          intro K lq hlq hK
          refine wanted_go (by rfl) ?_
          refine ⟨?_, fun W hW => ?_, ?_⟩
          rotate_left
          · skip
            go_simp
            with_reducible rfl
          refine hK _ ?_
          clear hK K
          (try simp only [Act.put, List.setIfInBounds_toArray, List.set_cons_zero, List.set_cons_succ])
          refine wpQuiet_step_h hlq ?_
          clear hlq lq
          intro K lq hlq hK
          refine wanted_go (by rfl) ?_
          refine ⟨?_, fun W hW => ?_, ?_⟩
          rotate_left
          · skip
            go_simp
            with_reducible rfl
          refine hK _ ?_
          clear hK K
          (try simp only [Act.put, List.setIfInBounds_toArray, List.set_cons_zero, List.set_cons_succ])
          refine wpQuiet_step_h hlq ?_
          clear hlq lq
          intro K lq hlq hK
          refine wanted_go (by rfl) ?_
          refine ⟨?_, fun W hW => ?_, ?_⟩
          rotate_left
          · skip
            go_simp
            with_reducible rfl
          refine hK _ ?_
          clear hK K
          (try simp only [Act.put, List.setIfInBounds_toArray, List.set_cons_zero, List.set_cons_succ])
          refine wpQuiet_nil_h hlq ?_
          clear hlq lq
          intro w' hC'
          go_wp2_with fail
          go_ret2
          exact ⟨DecR.no hr, hC'.1⟩
        · have hr : decS s most = some v := by rw [hd, if_pos ⟨of_decide_eq_true hle, hc2.out.2 rfl, of_decide_eq_true hp⟩]
          go_enter Tryz.func124, Tryz.ntmps124
          go_wp2_with (first | (go_at_call 116; refine (Tryz.strconv_Atoi_ok s (by omega) v ha w).mono ?_; rintro e w1 ⟨rfl, hw⟩; have bel : Below w.heap.size w w1 := belAtoi hw; clear hw) | (refine wpList_quiet (C := Bx w w.heap.size []) 19 (by rfl) ⟨bel, trivial, bel.size⟩ ?_))
          refine wpQuiet_hide ?_
          intro lq hlq
          refine wpQuiet_step_h hlq ?_
          clear hlq lq
          intro K lq hlq hK
          refine wanted_go (by rfl) ?_
          refine ⟨?_, fun W hW => ?_, ?_⟩
          rotate_left
          · skip
            go_simp
            with_reducible rfl
          refine hK _ ?_
          clear hK K
          (try simp only [Act.put, List.setIfInBounds_toArray, List.set_cons_zero, List.set_cons_succ])
          refine wpQuiet_step_h hlq ?_
          clear hlq lq
          intro K lq hlq hK
          refine wanted_go (by rfl) ?_
          refine ⟨?_, fun W hW => ?_, ?_⟩
          rotate_left
          · skip
            go_simp
            with_reducible rfl
          refine hK _ ?_
          clear hK K
          (try simp only [Act.put, List.setIfInBounds_toArray, List.set_cons_zero, List.set_cons_succ])
          refine wpQuiet_step_h hlq ?_
          clear hlq lq
          intro K lq hlq hK
          refine wanted_go (by rfl) ?_
          refine ⟨?_, fun W hW => ?_, ?_⟩
          rotate_left
          · skip
            go_simp
            with_reducible rfl
          refine hK _ ?_
          clear hK K
          (try simp only [Act.put, List.setIfInBounds_toArray, List.set_cons_zero, List.set_cons_succ])
          refine wpQuiet_step_h hlq ?_
          clear hlq lq
          intro K lq hlq hK
          refine wanted_go (by rfl) ?_
          refine ⟨?_, fun W hW => ?_, ?_⟩
          rotate_left
          · skip
            go_simp
            with_reducible rfl
          refine hK _ ?_
          clear hK K
          (try simp only [Act.put, List.setIfInBounds_toArray, List.set_cons_zero, List.set_cons_succ])
          refine wpQuiet_step_h hlq ?_
          clear hlq lq
          intro K lq hlq hK
          refine wanted_go (by rfl) ?_
          refine ⟨?_, fun W hW => ?_, ?_⟩
          rotate_left
          · skip
            go_simp
            with_reducible rfl
          refine hK _ ?_
          clear hK K
          (try simp only [Act.put, List.setIfInBounds_toArray, List.set_cons_zero, List.set_cons_succ])
          refine wpQuiet_step_h hlq ?_
          clear hlq lq
          intro K lq hlq hK
          refine wanted_go (by rfl) ?_
          refine ⟨?_, fun W hW => ?_, ?_⟩
          rotate_left
          · skip
            go_simp
            with_reducible rfl
          refine hK _ ?_
          clear hK K
          (try simp only [Act.put, List.setIfInBounds_toArray, List.set_cons_zero, List.set_cons_succ])
          refine wpQuiet_step_h hlq ?_
          clear hlq lq
          intro K lq hlq hK
          refine wanted_go (by rfl) ?_
          refine ⟨?_, fun W hW => ?_, ?_⟩
          rotate_left
          · skip
            go_simp
            with_reducible rfl
          refine hK _ ?_
          clear hK K
          (try simp only [Act.put, List.setIfInBounds_toArray, List.set_cons_zero, List.set_cons_succ])
          refine wpQuiet_step_h hlq ?_
          clear hlq lq
          intro K lq hlq hK
          refine wanted_go (by rfl) ?_
          refine ⟨?_, fun W hW => ?_, ?_⟩
          rotate_left
          · skip
            go_simp
            with_reducible rfl
          refine hK _ ?_
          clear hK K
          (try simp only [Act.put, List.setIfInBounds_toArray, List.set_cons_zero, List.set_cons_succ])
          refine wpQuiet_step_h hlq ?_
          clear hlq lq
          intro K lq hlq hK
          refine wanted_go (by rfl) ?_
          refine ⟨?_, fun W hW => ?_, ?_⟩
          rotate_left
          · skip
            go_simp
            with_reducible rfl
          refine hK _ ?_
          clear hK K
          (try simp only [Act.put, List.setIfInBounds_toArray, List.set_cons_zero, List.set_cons_succ])
          refine wpQuiet_step_h hlq ?_
          clear hlq lq
          intro K lq hlq hK
          refine wanted_go (by rfl) ?_
          refine ⟨.string ⟨(Lib.itoa v).toArray⟩, fun W hW => ?_, ?_⟩
          · go_simp
            refine (Tryz.strconv_Itoa v hv0 hv1 W (E.go hW.1).1.pow).mono fun e W2 hc2 => ⟨hc2.1, ?_⟩
            obtain ⟨k, os, rfl⟩ := hc2.2
            exact hW.go (Lib.below_grow _ _ (Nat.le_refl _) k os)
          refine hK _ ?_
          clear hK K
          (try simp only [Act.put, List.setIfInBounds_toArray, List.set_cons_zero, List.set_cons_succ])
          refine wpQuiet_step_h hlq ?_
          clear hlq lq
          intro K lq hlq hK
          refine wanted_go (by rfl) ?_
          refine ⟨?_, fun W hW => ?_, ?_⟩
          rotate_left
          · skip
            go_simp
            with_reducible rfl
          refine hK _ ?_
          clear hK K
          (try simp only [Act.put, List.setIfInBounds_toArray, List.set_cons_zero, List.set_cons_succ])
          refine wpQuiet_step_h hlq ?_
          clear hlq lq
          intro K lq hlq hK
          refine wanted_go (by rfl) ?_
          refine ⟨?_, fun W hW => ?_, ?_⟩
          rotate_left
          · skip
            go_simp
            with_reducible rfl
          refine hK _ ?_
          clear hK K
          (try simp only [Act.put, List.setIfInBounds_toArray, List.set_cons_zero, List.set_cons_succ])
          refine wpQuiet_step_h hlq ?_
          clear hlq lq
          intro K lq hlq hK
          refine wanted_go (by rfl) ?_
          refine ⟨?_, fun W hW => ?_, ?_⟩
          rotate_left
          · skip
            go_simp
            with_reducible rfl
          refine hK _ ?_
          clear hK K
          (try simp only [Act.put, List.setIfInBounds_toArray, List.set_cons_zero, List.set_cons_succ])
          refine wpQuiet_step_h hlq ?_
          clear hlq lq
          intro K lq hlq hK
          refine wanted_go (by rfl) ?_
          refine ⟨?_, fun W hW => ?_, ?_⟩
          rotate_left
          · skip
            go_simp
            with_reducible rfl
          refine hK _ ?_
          clear hK K
          (try simp only [Act.put, List.setIfInBounds_toArray, List.set_cons_zero, List.set_cons_succ])
          refine wpQuiet_step_h hlq ?_
          clear hlq lq
          intro K lq hlq hK
          refine wanted_go (by rfl) ?_
          refine ⟨?_, fun W hW => ?_, ?_⟩
          rotate_left
          · skip
            go_simp
            with_reducible rfl
          refine hK _ ?_
          clear hK K
          (try simp only [Act.put, List.setIfInBounds_toArray, List.set_cons_zero, List.set_cons_succ])
          refine wpQuiet_step_h hlq ?_
          clear hlq lq
          intro K lq hlq hK
          refine wanted_go (by rfl) ?_
          refine ⟨?_, fun W hW => ?_, ?_⟩
          rotate_left
          · skip
            go_simp
            with_reducible rfl
          refine hK _ ?_
          clear hK K
          (try simp only [Act.put, List.setIfInBounds_toArray, List.set_cons_zero, List.set_cons_succ])
          refine wpQuiet_step_h hlq ?_
          clear hlq lq
          intro K lq hlq hK
          refine wanted_go (by rfl) ?_
          refine ⟨?_, fun W hW => ?_, ?_⟩
          rotate_left
          · skip
            go_simp
            with_reducible rfl
          refine hK _ ?_
          clear hK K
          (try simp only [Act.put, List.setIfInBounds_toArray, List.set_cons_zero, List.set_cons_succ])
          refine wpQuiet_step_h hlq ?_
          clear hlq lq
          intro K lq hlq hK
          refine wanted_go (by rfl) ?_
          refine ⟨?_, fun W hW => ?_, ?_⟩
          rotate_left
          · skip
            go_simp
            with_reducible rfl
          refine hK _ ?_
          clear hK K
          (try simp only [Act.put, List.setIfInBounds_toArray, List.set_cons_zero, List.set_cons_succ])
          refine wpQuiet_step_h hlq ?_
          clear hlq lq
          intro K lq hlq hK
          refine wanted_go (by rfl) ?_
          refine ⟨?_, fun W hW => ?_, ?_⟩
          rotate_left
          · skip
            go_simp
            with_reducible rfl
          refine hK _ ?_
          clear hK K
          (try simp only [Act.put, List.setIfInBounds_toArray, List.set_cons_zero, List.set_cons_succ])
          refine wpQuiet_nil_h hlq ?_
          clear hlq lq
          intro w' hC'
          go_wp2_with fail
          go_ret2
          exact ⟨⟨v, true, rfl, by rw [hr]; rfl, fun u hu => by rw [hr] at hu; cases hu; rfl⟩, hC'.1⟩
end Go.Proofs.YtnljjlaececnkaaGreatDoor
