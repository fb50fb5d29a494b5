/-
  Merged texts (DA), part 10 of 12. Conditions: each part's own, told at its head.
-/
import Derived.Test.YtnljjlaececnkaaGreatDoorBMP1
import Derived.Test.YtnljjlaececnkaaGreatDoorBMP2
import Derived.Test.YtnljjlaececnkaaGreatDoorBMP3
import Derived.Test.YtnljjlaececnkaaGreatDoorBMP4
import Derived.Test.YtnljjlaececnkaaGreatDoorBMP5
import Derived.Test.YtnljjlaececnkaaGreatDoorBMP6
import Derived.Test.YtnljjlaececnkaaGreatDoorBMP7
import Derived.Test.YtnljjlaececnkaaGreatDoorBMP8
import Derived.Test.YtnljjlaececnkaaGreatDoorBMP9
/-
  PrintPrefix, Specific, PrintPair. Condition: the variables hold what their initialisers laid.
-/
namespace Go.Proofs.YtnljjlaececnkaaGreatDoor
open Go.RowKit
set_option linter.unusedVariables false
set_option linter.unusedSimpArgs false
theorem chk_call {w : World} {p : Pf} (hp : p.ok) {n : Int} (h : (if chk p then (0 : Int) else 21) = n) : Calls Tryz.prog 38 #[vPf p] w fun e w' => e = .returned (.int .i64 n) ∧ Below w.heap.size w w' := (check_any hp).mono fun e w' h' => ⟨by rw [h'.1, ← h]; rfl, h'.2⟩
theorem chkPP_call {w : World} {p : Pr} (hp : p.fit) {n : Int} (h : (if chkPP p then (0 : Int) else 21) = n) : Calls Tryz.prog 60 #[vPP p] w fun e w' => e = .returned (.int .i64 n) ∧ Below w.heap.size w w' := (chkPP_any hp).mono fun e w' h' => ⟨by rw [h'.1, ← h]; rfl, h'.2⟩
theorem pfam_call {w : World} {p : Pf} (hp : p.ok) {n : Int} (h : pfam p = n) : Calls Tryz.prog 54 #[vPf p] w fun e w' => e = .returned (.int .i64 n) ∧ Below w.heap.size w w' := (pfam_any hp).mono fun e w' h' => ⟨by rw [h'.1, h], h'.2⟩
theorem grouped_len {a : List Int} (ha : isA a) : (groupedS a).length ≤ 100 := by rw [← outAt_all]; exact groupedS_len ha 8 (Nat.le_refl _)
theorem dotted_len {a : List Int} (ha : isA a) : (dottedS a).length ≤ 100 := by
  rw [dotted_getD ha]
  obtain ⟨x, -, hx, x0, x1⟩ := isA_getD ha (j := 12) (by decide)
  obtain ⟨y, -, hy, y0, y1⟩ := isA_getD ha (j := 13) (by decide)
  obtain ⟨z, -, hz, z0, z1⟩ := isA_getD ha (j := 14) (by decide)
  obtain ⟨t, -, ht, t0, t1⟩ := isA_getD ha (j := 15) (by decide)
  rw [hx, hy, hz, ht]
  have lx := itoa_len x x0 (by omega)
  have ly := itoa_len y y0 (by omega)
  have lz := itoa_len z z0 (by omega)
  have lt := itoa_len t t0 (by omega)
  simp; omega
theorem pfx_len {p : Pf} (hp : isA p.a) : (pfxS p).length ≤ 130 := by
  cases h : chk p with
  | false => rw [pfx_no h]; simp
  | true =>
    obtain ⟨h0, h1⟩ := chk_rng h
    rw [pfx_yes h]
    split
    · rename_i h4
      have := dotted_len hp
      have := itoa_len (p.n - 96) (by have := (pfam4 h4).1; omega) (by omega)
      simp; omega
    · have := grouped_len hp
      have := itoa_len p.n h0 (by omega)
      simp; omega
theorem pfam_or (p : Pf) : pfam p = 4 ∨ pfam p = 6 := by
  unfold pfam
  split
  · exact .inr rfl
  · exact fam_or p.a
set_option maxRecDepth 100000 in
set_option maxHeartbeats 1600000 in
theorem pfx_4 {w : World} (E : Env w) {p : Pf} (hp : p.ok) (hc : chk p = true) (h4 : pfam p = 4) : Calls Tryz.prog 57 #[vPf p] w fun e w' => e = .returned (.string ⟨(pfxS p).toArray⟩) ∧ Below w.heap.size w w' := by
  have hr : pfxS p = dottedS p.a ++ [47] ++ Lib.itoa (p.n - 96) := by rw [pfx_yes hc, if_pos h4]; simp
  have B := ((Bz.start w).alloc (oP p) rfl : Bz w [(w.heap.size, oP p)] _)
  have Hp := Lib.hid hp
  have c1 : (if chk p then (0 : Int) else 21) = 0 := by rw [hc]; rfl
  obtain ⟨n0, n1⟩ := chk_rng hc
  have n2 := (pfam4 h4).1
  have l0 := dotted_len hp.1
  have l1 := itoa_len (p.n - 96) (by omega) (by omega)
  have s1 : (dottedS p.a).length + ([47] : List UInt8).length ≤ 9223372036854775807 := by simp; omega
  have s2 : (dottedS p.a ++ [47]).length + (Lib.itoa (p.n - 96)).length ≤ 9223372036854775807 := by simp; omega
  have w1 : IntKind.i64.wrap (p.n - 96) = p.n - 96 := IntWalk.i64_in _ (by omega)
  replace hr := Lib.hid hr
  replace c1 := Lib.hid c1
  replace h4 := Lib.hid h4
  replace s1 := Lib.hid s1
  replace s2 := Lib.hid s2
  clear hp hc l0 l1
  unfold vPf
  go_enter Tryz.func57, Tryz.ntmps57
  go_wp2_with (refine wpList_quiet (C := Bz w [(w.heap.size, oP p)]) 3 (by rfl) B ?_)
  refine wpQuiet_hide ?_
  intro lq hlq
  refine wpQuiet_step_h hlq ?_
  clear hlq lq
  intro K lq hlq hK
  refine wanted_go (by rfl) ?_
  refine ⟨vPf p, fun W hW => ?_, ?_⟩
  · skip
    exact quiet_load 55 _ rfl rfl (ldP (hW.all.get 0 (x := (w.heap.size, oP p)) rfl) Hp.out)
  refine hK _ ?_
  clear hK K
  (try simp only [Act.put, List.setIfInBounds_toArray, List.set_cons_zero, List.set_cons_succ])
  refine wpQuiet_step_h hlq ?_
  clear hlq lq
  intro K lq hlq hK
  refine wanted_go (by rfl) ?_
  refine ⟨.int .i64 0, fun W hW => ?_, ?_⟩
  · go_simp
    exact (chk_call Hp.out c1.out).mono fun e W2 hc2 => ⟨hc2.1, hW.go hc2.2⟩
  refine hK _ ?_
  clear hK K
  (try simp only [Act.put, List.setIfInBounds_toArray, List.set_cons_zero, List.set_cons_succ])
  refine wpQuiet_step_h hlq ?_
  clear hlq lq
  intro K lq hlq hK
  refine wanted_go (by rfl) ?_
  refine ⟨?_, fun W hW => ?_, ?_⟩
  rotate_left
  · skip
    go_simp
    with_reducible rfl
  refine hK _ ?_
  clear hK K
  (try simp only [Act.put, List.setIfInBounds_toArray, List.set_cons_zero, List.set_cons_succ])
  refine wpQuiet_nil_h hlq ?_
  clear hlq lq B
  intro V1 hV2
  go_wp2_with (refine wpList_quiet (C := Bz w [(w.heap.size, oP p)]) 3 (by rfl) hV2 ?_)
  refine wpQuiet_hide ?_
  intro lq hlq
  refine wpQuiet_step_h hlq ?_
  clear hlq lq
  intro K lq hlq hK
  refine wanted_go (by rfl) ?_
  refine ⟨vPf p, fun W hW => ?_, ?_⟩
  · skip
    exact quiet_load 55 _ rfl rfl (ldP (hW.all.get 0 (x := (w.heap.size, oP p)) rfl) Hp.out)
  refine hK _ ?_
  clear hK K
  (try simp only [Act.put, List.setIfInBounds_toArray, List.set_cons_zero, List.set_cons_succ])
  refine wpQuiet_step_h hlq ?_
  clear hlq lq
  intro K lq hlq hK
  refine wanted_go (by rfl) ?_
  refine ⟨.int .i64 4, fun W hW => ?_, ?_⟩
  · go_simp
    exact (pfam_call Hp.out h4.out).mono fun e W2 hc2 => ⟨hc2.1, hW.go hc2.2⟩
  refine hK _ ?_
  clear hK K
  (try simp only [Act.put, List.setIfInBounds_toArray, List.set_cons_zero, List.set_cons_succ])
  refine wpQuiet_step_h hlq ?_
  clear hlq lq
  intro K lq hlq hK
  refine wanted_go (by rfl) ?_
  refine ⟨?_, fun W hW => ?_, ?_⟩
  rotate_left
  · skip
    go_simp
    with_reducible rfl
  refine hK _ ?_
  clear hK K
  (try simp only [Act.put, List.setIfInBounds_toArray, List.set_cons_zero, List.set_cons_succ])
  refine wpQuiet_nil_h hlq ?_
  clear hlq lq hV2
  intro V3 hV4
  go_wp2_with fail
  refine wp_region_C (C := Bz w [(w.heap.size, oP p)]) (by kernel_rfl) (by kernel_rfl) (hV4.drew) ?_
  refine wpQuiet_hide ?_
  intro lq hlq
  refine wpQuiet_step_h hlq ?_
  clear hlq lq
  intro K lq hlq hK
  refine wanted_go (by rfl) ?_
  refine ⟨?_, fun W hW => ?_, ?_⟩
  rotate_left
  · skip
    go_simp
    with_reducible rfl
  refine hK _ ?_
  clear hK K
  (try simp only [Act.put, List.setIfInBounds_toArray, List.set_cons_zero, List.set_cons_succ])
  refine wpQuiet_step_h hlq ?_
  clear hlq lq
  intro K lq hlq hK
  refine wanted_go (by rfl) ?_
  refine ⟨vA p.a, fun W hW => ?_, ?_⟩
  · skip
    exact quiet_load 42 _ rfl rfl (ldPa (hW.all.get 0 (x := (w.heap.size, oP p)) rfl) Hp.out)
  refine hK _ ?_
  clear hK K
  (try simp only [Act.put, List.setIfInBounds_toArray, List.set_cons_zero, List.set_cons_succ])
  refine wpQuiet_step_h hlq ?_
  clear hlq lq
  intro K lq hlq hK
  refine wanted_go (by rfl) ?_
  refine ⟨.string ⟨(dottedS p.a).toArray⟩, fun W hW => ?_, ?_⟩
  · go_simp
    have E' := hW.env E
    exact (dotted_any E' Hp.out.1).mono fun e W2 hc2 => ⟨hc2.1, hW.go hc2.2⟩
  refine hK _ ?_
  clear hK K
  (try simp only [Act.put, List.setIfInBounds_toArray, List.set_cons_zero, List.set_cons_succ])
  refine wpQuiet_step_h hlq ?_
  clear hlq lq
  intro K lq hlq hK
  refine wanted_go (by rfl) ?_
  refine ⟨.string ⟨(dottedS p.a ++ [47]).toArray⟩, fun W hW => ?_, ?_⟩
  · skip
    exact quiet_add rfl rfl rfl (str_add W _ _ s1.out)
  refine hK _ ?_
  clear hK K
  (try simp only [Act.put, List.setIfInBounds_toArray, List.set_cons_zero, List.set_cons_succ])
  refine wpQuiet_step_h hlq ?_
  clear hlq lq
  intro K lq hlq hK
  refine wanted_go (by rfl) ?_
  refine ⟨?_, fun W hW => ?_, ?_⟩
  rotate_left
  · skip
    go_simp
    with_reducible rfl
  refine hK _ ?_
  clear hK K
  (try simp only [Act.put, List.setIfInBounds_toArray, List.set_cons_zero, List.set_cons_succ])
  refine wpQuiet_step_h hlq ?_
  clear hlq lq
  intro K lq hlq hK
  refine wanted_go (by rfl) ?_
  refine ⟨.int .i64 p.n, fun W hW => ?_, ?_⟩
  · skip
    exact quiet_load 3 _ rfl rfl (ldPn (hW.all.get 0 (x := (w.heap.size, oP p)) rfl) Hp.out)
  refine hK _ ?_
  clear hK K
  (try simp only [Act.put, List.setIfInBounds_toArray, List.set_cons_zero, List.set_cons_succ])
  refine wpQuiet_step_h hlq ?_
  clear hlq lq
  intro K lq hlq hK
  refine wanted_go (by rfl) ?_
  refine ⟨?_, fun W hW => ?_, ?_⟩
  rotate_left
  · skip
    go_simp
    with_reducible rfl
  refine hK _ ?_
  clear hK K
  (try simp only [Act.put, List.setIfInBounds_toArray, List.set_cons_zero, List.set_cons_succ])
  refine wpQuiet_step_h hlq ?_
  clear hlq lq
  intro K lq hlq hK
  refine wanted_go (by rfl) ?_
  refine ⟨.string ⟨(Lib.itoa (p.n - 96)).toArray⟩, fun W hW => ?_, ?_⟩
  · go_simp
    have E' := hW.env E
    exact (itoa_call E' (by omega) (by omega)).mono fun e W2 hc2 => ⟨hc2.1, hW.go hc2.2⟩
  refine hK _ ?_
  clear hK K
  (try simp only [Act.put, List.setIfInBounds_toArray, List.set_cons_zero, List.set_cons_succ])
  refine wpQuiet_step_h hlq ?_
  clear hlq lq
  intro K lq hlq hK
  refine wanted_go (by rfl) ?_
  refine ⟨.string ⟨(dottedS p.a ++ [47] ++ Lib.itoa (p.n - 96)).toArray⟩, fun W hW => ?_, ?_⟩
  · skip
    exact quiet_add rfl rfl rfl (str_add W _ _ s2.out)
  refine hK _ ?_
  clear hK K
  (try simp only [Act.put, List.setIfInBounds_toArray, List.set_cons_zero, List.set_cons_succ])
  refine wpQuiet_step_h hlq ?_
  clear hlq lq
  intro K lq hlq hK
  refine wanted_go (by rfl) ?_
  refine ⟨?_, fun W hW => ?_, ?_⟩
  rotate_left
  · skip
    go_simp
    with_reducible rfl
  refine hK _ ?_
  clear hK K
  (try simp only [Act.put, List.setIfInBounds_toArray, List.set_cons_zero, List.set_cons_succ])
  refine wpQuiet_nil_h hlq ?_
  clear hlq lq hV4
  intro V5 hV6
  go_wp2_with fail
  go_ret
  exact ⟨congrArg (fun l : List UInt8 => Ending.returned (.string ⟨l.toArray⟩)) (show dottedS p.a ++ 47 :: Lib.itoa (p.n - 96) = pfxS p by rw [hr.out]; simp), hV6.bel⟩
set_option maxRecDepth 100000 in
set_option maxHeartbeats 1600000 in
theorem pfx_6 {w : World} (E : Env w) {p : Pf} (hp : p.ok) (hc : chk p = true) (h6 : pfam p = 6) : Calls Tryz.prog 57 #[vPf p] w fun e w' => e = .returned (.string ⟨(pfxS p).toArray⟩) ∧ Below w.heap.size w w' := by
  have hr : pfxS p = groupedS p.a ++ [47] ++ Lib.itoa p.n := by rw [pfx_yes hc, if_neg (by omega)]; simp
  have B := ((Bz.start w).alloc (oP p) rfl : Bz w [(w.heap.size, oP p)] _)
  have Hp := Lib.hid hp
  have c1 : (if chk p then (0 : Int) else 21) = 0 := by rw [hc]; rfl
  obtain ⟨n0, n1⟩ := chk_rng hc
  have l0 := grouped_len hp.1
  have l1 := itoa_len p.n (by omega) (by omega)
  have s1 : (groupedS p.a).length + ([47] : List UInt8).length ≤ 9223372036854775807 := by simp; omega
  have s2 : (groupedS p.a ++ [47]).length + (Lib.itoa p.n).length ≤ 9223372036854775807 := by simp; omega
  replace hr := Lib.hid hr
  replace c1 := Lib.hid c1
  replace h6 := Lib.hid h6
  replace s1 := Lib.hid s1
  replace s2 := Lib.hid s2
  clear hp hc l0 l1
  unfold vPf
  go_enter Tryz.func57, Tryz.ntmps57
  go_wp2_with (refine wpList_quiet (C := Bz w [(w.heap.size, oP p)]) 3 (by rfl) B ?_)
  refine wpQuiet_hide ?_
  intro lq hlq
  refine wpQuiet_step_h hlq ?_
  clear hlq lq
  intro K lq hlq hK
  refine wanted_go (by rfl) ?_
  refine ⟨vPf p, fun W hW => ?_, ?_⟩
  · skip
    exact quiet_load 55 _ rfl rfl (ldP (hW.all.get 0 (x := (w.heap.size, oP p)) rfl) Hp.out)
  refine hK _ ?_
  clear hK K
  (try simp only [Act.put, List.setIfInBounds_toArray, List.set_cons_zero, List.set_cons_succ])
  refine wpQuiet_step_h hlq ?_
  clear hlq lq
  intro K lq hlq hK
  refine wanted_go (by rfl) ?_
  refine ⟨.int .i64 0, fun W hW => ?_, ?_⟩
  · go_simp
    exact (chk_call Hp.out c1.out).mono fun e W2 hc2 => ⟨hc2.1, hW.go hc2.2⟩
  refine hK _ ?_
  clear hK K
  (try simp only [Act.put, List.setIfInBounds_toArray, List.set_cons_zero, List.set_cons_succ])
  refine wpQuiet_step_h hlq ?_
  clear hlq lq
  intro K lq hlq hK
  refine wanted_go (by rfl) ?_
  refine ⟨?_, fun W hW => ?_, ?_⟩
  rotate_left
  · skip
    go_simp
    with_reducible rfl
  refine hK _ ?_
  clear hK K
  (try simp only [Act.put, List.setIfInBounds_toArray, List.set_cons_zero, List.set_cons_succ])
  refine wpQuiet_nil_h hlq ?_
  clear hlq lq B
  intro V1 hV2
  go_wp2_with (refine wpList_quiet (C := Bz w [(w.heap.size, oP p)]) 3 (by rfl) hV2 ?_)
  refine wpQuiet_hide ?_
  intro lq hlq
  refine wpQuiet_step_h hlq ?_
  clear hlq lq
  intro K lq hlq hK
  refine wanted_go (by rfl) ?_
  refine ⟨vPf p, fun W hW => ?_, ?_⟩
  · skip
    exact quiet_load 55 _ rfl rfl (ldP (hW.all.get 0 (x := (w.heap.size, oP p)) rfl) Hp.out)
  refine hK _ ?_
  clear hK K
  (try simp only [Act.put, List.setIfInBounds_toArray, List.set_cons_zero, List.set_cons_succ])
  refine wpQuiet_step_h hlq ?_
  clear hlq lq
  intro K lq hlq hK
  refine wanted_go (by rfl) ?_
  refine ⟨.int .i64 6, fun W hW => ?_, ?_⟩
  · go_simp
    exact (pfam_call Hp.out h6.out).mono fun e W2 hc2 => ⟨hc2.1, hW.go hc2.2⟩
  refine hK _ ?_
  clear hK K
  (try simp only [Act.put, List.setIfInBounds_toArray, List.set_cons_zero, List.set_cons_succ])
  refine wpQuiet_step_h hlq ?_
  clear hlq lq
  intro K lq hlq hK
  refine wanted_go (by rfl) ?_
  refine ⟨?_, fun W hW => ?_, ?_⟩
  rotate_left
  · skip
    go_simp
    with_reducible rfl
  refine hK _ ?_
  clear hK K
  (try simp only [Act.put, List.setIfInBounds_toArray, List.set_cons_zero, List.set_cons_succ])
  refine wpQuiet_nil_h hlq ?_
  clear hlq lq hV2
  intro V3 hV4
  go_wp2_with fail
  refine wp_region_C (C := Bz w [(w.heap.size, oP p)]) (by kernel_rfl) (by kernel_rfl) (hV4.drew) ?_
  refine wpQuiet_hide ?_
  intro lq hlq
  refine wpQuiet_step_h hlq ?_
  clear hlq lq
  intro K lq hlq hK
  refine wanted_go (by rfl) ?_
  refine ⟨?_, fun W hW => ?_, ?_⟩
  rotate_left
  · skip
    go_simp
    with_reducible rfl
  refine hK _ ?_
  clear hK K
  (try simp only [Act.put, List.setIfInBounds_toArray, List.set_cons_zero, List.set_cons_succ])
  refine wpQuiet_step_h hlq ?_
  clear hlq lq
  intro K lq hlq hK
  refine wanted_go (by rfl) ?_
  refine ⟨vA p.a, fun W hW => ?_, ?_⟩
  · skip
    exact quiet_load 42 _ rfl rfl (ldPa (hW.all.get 0 (x := (w.heap.size, oP p)) rfl) Hp.out)
  refine hK _ ?_
  clear hK K
  (try simp only [Act.put, List.setIfInBounds_toArray, List.set_cons_zero, List.set_cons_succ])
  refine wpQuiet_step_h hlq ?_
  clear hlq lq
  intro K lq hlq hK
  refine wanted_go (by rfl) ?_
  refine ⟨.string ⟨(groupedS p.a).toArray⟩, fun W hW => ?_, ?_⟩
  · go_simp
    have E' := hW.env E
    exact (grouped_any E' Hp.out.1).mono fun e W2 hc2 => ⟨hc2.1, hW.go hc2.2⟩
  refine hK _ ?_
  clear hK K
  (try simp only [Act.put, List.setIfInBounds_toArray, List.set_cons_zero, List.set_cons_succ])
  refine wpQuiet_step_h hlq ?_
  clear hlq lq
  intro K lq hlq hK
  refine wanted_go (by rfl) ?_
  refine ⟨.string ⟨(groupedS p.a ++ [47]).toArray⟩, fun W hW => ?_, ?_⟩
  · skip
    exact quiet_add rfl rfl rfl (str_add W _ _ s1.out)
  refine hK _ ?_
  clear hK K
  (try simp only [Act.put, List.setIfInBounds_toArray, List.set_cons_zero, List.set_cons_succ])
  refine wpQuiet_step_h hlq ?_
  clear hlq lq
  intro K lq hlq hK
  refine wanted_go (by rfl) ?_
  refine ⟨?_, fun W hW => ?_, ?_⟩
  rotate_left
  · skip
    go_simp
    with_reducible rfl
  refine hK _ ?_
  clear hK K
  (try simp only [Act.put, List.setIfInBounds_toArray, List.set_cons_zero, List.set_cons_succ])
  refine wpQuiet_step_h hlq ?_
  clear hlq lq
  intro K lq hlq hK
  refine wanted_go (by rfl) ?_
  refine ⟨.int .i64 p.n, fun W hW => ?_, ?_⟩
  · skip
    exact quiet_load 3 _ rfl rfl (ldPn (hW.all.get 0 (x := (w.heap.size, oP p)) rfl) Hp.out)
  refine hK _ ?_
  clear hK K
  (try simp only [Act.put, List.setIfInBounds_toArray, List.set_cons_zero, List.set_cons_succ])
  refine wpQuiet_step_h hlq ?_
  clear hlq lq
  intro K lq hlq hK
  refine wanted_go (by rfl) ?_
  refine ⟨.string ⟨(Lib.itoa p.n).toArray⟩, fun W hW => ?_, ?_⟩
  · go_simp
    have E' := hW.env E
    exact (itoa_call E' (by omega) (by omega)).mono fun e W2 hc2 => ⟨hc2.1, hW.go hc2.2⟩
  refine hK _ ?_
  clear hK K
  (try simp only [Act.put, List.setIfInBounds_toArray, List.set_cons_zero, List.set_cons_succ])
  refine wpQuiet_step_h hlq ?_
  clear hlq lq
  intro K lq hlq hK
  refine wanted_go (by rfl) ?_
  refine ⟨.string ⟨(groupedS p.a ++ [47] ++ Lib.itoa p.n).toArray⟩, fun W hW => ?_, ?_⟩
  · skip
    exact quiet_add rfl rfl rfl (str_add W _ _ s2.out)
  refine hK _ ?_
  clear hK K
  (try simp only [Act.put, List.setIfInBounds_toArray, List.set_cons_zero, List.set_cons_succ])
  refine wpQuiet_step_h hlq ?_
  clear hlq lq
  intro K lq hlq hK
  refine wanted_go (by rfl) ?_
  refine ⟨?_, fun W hW => ?_, ?_⟩
  rotate_left
  · skip
    go_simp
    with_reducible rfl
  refine hK _ ?_
  clear hK K
  (try simp only [Act.put, List.setIfInBounds_toArray, List.set_cons_zero, List.set_cons_succ])
  refine wpQuiet_nil_h hlq ?_
  clear hlq lq hV4
  intro V5 hV6
  go_wp2_with fail
  go_ret
  exact ⟨congrArg (fun l : List UInt8 => Ending.returned (.string ⟨l.toArray⟩)) (show groupedS p.a ++ 47 :: Lib.itoa p.n = pfxS p by rw [hr.out]; simp), hV6.bel⟩
set_option maxRecDepth 100000 in
set_option maxHeartbeats 1600000 in
theorem pfx_bad {w : World} {p : Pf} (hp : p.ok) (hc : chk p = false) : Calls Tryz.prog 57 #[vPf p] w fun e w' => e = .returned (.string ⟨(pfxS p).toArray⟩) ∧ Below w.heap.size w w' := by
  have hr := Lib.hid (pfx_no hc)
  have B := ((Bz.start w).alloc (oP p) rfl : Bz w [(w.heap.size, oP p)] _)
  have Hp := Lib.hid hp
  have c1 : (if chk p then (0 : Int) else 21) = 21 := by rw [hc]; rfl
  replace c1 := Lib.hid c1
  clear hp hc
  unfold vPf
  go_enter Tryz.func57, Tryz.ntmps57
  go_wp2_with (refine wpList_quiet (C := Bz w [(w.heap.size, oP p)]) 3 (by rfl) B ?_)
  refine wpQuiet_hide ?_
  intro lq hlq
  refine wpQuiet_step_h hlq ?_
  clear hlq lq
  intro K lq hlq hK
  refine wanted_go (by rfl) ?_
  refine ⟨vPf p, fun W hW => ?_, ?_⟩
  · skip
    exact quiet_load 55 _ rfl rfl (ldP (hW.all.get 0 (x := (w.heap.size, oP p)) rfl) Hp.out)
  refine hK _ ?_
  clear hK K
  (try simp only [Act.put, List.setIfInBounds_toArray, List.set_cons_zero, List.set_cons_succ])
  refine wpQuiet_step_h hlq ?_
  clear hlq lq
  intro K lq hlq hK
  refine wanted_go (by rfl) ?_
  refine ⟨.int .i64 21, fun W hW => ?_, ?_⟩
  · go_simp
    exact (chk_call Hp.out c1.out).mono fun e W2 hc2 => ⟨hc2.1, hW.go hc2.2⟩
  refine hK _ ?_
  clear hK K
  (try simp only [Act.put, List.setIfInBounds_toArray, List.set_cons_zero, List.set_cons_succ])
  refine wpQuiet_step_h hlq ?_
  clear hlq lq
  intro K lq hlq hK
  refine wanted_go (by rfl) ?_
  refine ⟨?_, fun W hW => ?_, ?_⟩
  rotate_left
  · skip
    go_simp
    with_reducible rfl
  refine hK _ ?_
  clear hK K
  (try simp only [Act.put, List.setIfInBounds_toArray, List.set_cons_zero, List.set_cons_succ])
  refine wpQuiet_nil_h hlq ?_
  clear hlq lq B
  intro V1 hV2
  go_wp2_with fail
  go_ret
  exact ⟨by rw [hr.out]; rfl, hV2.bel⟩
/-- PrintPrefix. -/
theorem pfx_any {w : World} (E : Env w) {p : Pf} (hp : p.ok) : Calls Tryz.prog 57 #[vPf p] w fun e w' => e = .returned (.string ⟨(pfxS p).toArray⟩) ∧ Below w.heap.size w w' := by
  cases hc : chk p with
  | false => exact pfx_bad hp hc
  | true =>
    rcases pfam_or p with h | h
    · exact pfx_4 E hp hc h
    · exact pfx_6 E hp hc h
/-- Does it matter where packets come from? -/
def spec (q : Pr) : Bool := !decide (q.s = anyP (pfam q.s))
set_option maxRecDepth 100000 in
set_option maxHeartbeats 1600000 in
theorem spec_any {w : World} {q : Pr} (hq : q.fit) : Calls Tryz.prog 125 #[vPP q] w fun e w' => e = .returned (.bool (spec q)) ∧ Below w.heap.size w w' := by
  have B := ((Bz.start w).alloc (oPP q) rfl : Bz w [(w.heap.size, oPP q)] _)
  obtain ⟨f, hf⟩ : ∃ f, pfam q.s = f := ⟨_, rfl⟩
  have hz := fun W => neq_P W hq.2 (any_ok f)
  obtain ⟨b, hb⟩ : ∃ b, spec q = b := ⟨_, rfl⟩
  have hb2 : (!decide (q.s = anyP f)) = b := by rw [← hb, ← hf]; rfl
  rw [hb2] at hz
  rw [hb]
  have Hq := Lib.hid hq
  replace hf := Lib.hid hf
  clear hb hb2 hq
  unfold vPP
  go_enter Tryz.func125, Tryz.ntmps125
  go_wp2_with fail
  refine wp_region_C (C := Bz w [(w.heap.size, oPP q)]) (by kernel_rfl) (by kernel_rfl) (B.drew) ?_
  refine wpQuiet_hide ?_
  intro lq hlq
  refine wpQuiet_step_h hlq ?_
  clear hlq lq
  intro K lq hlq hK
  refine wanted_go (by rfl) ?_
  refine ⟨?_, fun W hW => ?_, ?_⟩
  rotate_left
  · skip
    go_simp
    with_reducible rfl
  refine hK _ ?_
  clear hK K
  (try simp only [Act.put, List.setIfInBounds_toArray, List.set_cons_zero, List.set_cons_succ])
  refine wpQuiet_step_h hlq ?_
  clear hlq lq
  intro K lq hlq hK
  refine wanted_go (by rfl) ?_
  refine ⟨vPf q.s, fun W hW => ?_, ?_⟩
  · skip
    exact quiet_load 55 _ rfl rfl (ldPPs (hW.all.get 0 (x := (w.heap.size, oPP q)) rfl) Hq.out)
  refine hK _ ?_
  clear hK K
  (try simp only [Act.put, List.setIfInBounds_toArray, List.set_cons_zero, List.set_cons_succ])
  refine wpQuiet_step_h hlq ?_
  clear hlq lq
  intro K lq hlq hK
  refine wanted_go (by rfl) ?_
  refine ⟨?_, fun W hW => ?_, ?_⟩
  rotate_left
  · skip
    go_simp
    with_reducible rfl
  refine hK _ ?_
  clear hK K
  (try simp only [Act.put, List.setIfInBounds_toArray, List.set_cons_zero, List.set_cons_succ])
  refine wpQuiet_step_h hlq ?_
  clear hlq lq
  intro K lq hlq hK
  refine wanted_go (by rfl) ?_
  refine ⟨vPf q.s, fun W hW => ?_, ?_⟩
  · skip
    exact quiet_load 55 _ rfl rfl (ldPPs (hW.all.get 0 (x := (w.heap.size, oPP q)) rfl) Hq.out)
  refine hK _ ?_
  clear hK K
  (try simp only [Act.put, List.setIfInBounds_toArray, List.set_cons_zero, List.set_cons_succ])
  refine wpQuiet_step_h hlq ?_
  clear hlq lq
  intro K lq hlq hK
  refine wanted_go (by rfl) ?_
  refine ⟨.int .i64 f, fun W hW => ?_, ?_⟩
  · go_simp
    exact (pfam_call Hq.out.2 hf.out).mono fun e W2 hc2 => ⟨hc2.1, hW.go hc2.2⟩
  refine hK _ ?_
  clear hK K
  (try simp only [Act.put, List.setIfInBounds_toArray, List.set_cons_zero, List.set_cons_succ])
  refine wpQuiet_step_h hlq ?_
  clear hlq lq
  intro K lq hlq hK
  refine wanted_go (by rfl) ?_
  refine ⟨vPf (anyP f), fun W hW => ?_, ?_⟩
  · go_simp
    exact (any_any f).mono fun e W2 hc2 => ⟨hc2.1, hW.go hc2.2⟩
  refine hK _ ?_
  clear hK K
  (try simp only [Act.put, List.setIfInBounds_toArray, List.set_cons_zero, List.set_cons_succ])
  refine wpQuiet_step_h hlq ?_
  clear hlq lq
  intro K lq hlq hK
  refine wanted_go (by rfl) ?_
  refine ⟨.bool b, fun W hW => ?_, ?_⟩
  · skip
    exact quiet_eq (.inr rfl) (by rfl) (by rfl) (by rfl) guard55 (hz W)
  refine hK _ ?_
  clear hK K
  (try simp only [Act.put, List.setIfInBounds_toArray, List.set_cons_zero, List.set_cons_succ])
  refine wpQuiet_step_h hlq ?_
  clear hlq lq
  intro K lq hlq hK
  refine wanted_go (by rfl) ?_
  refine ⟨?_, fun W hW => ?_, ?_⟩
  rotate_left
  · skip
    go_simp
    with_reducible rfl
  refine hK _ ?_
  clear hK K
  (try simp only [Act.put, List.setIfInBounds_toArray, List.set_cons_zero, List.set_cons_succ])
  refine wpQuiet_nil_h hlq ?_
  clear hlq lq B
  intro V1 hV2
  go_wp2_with fail
  go_ret
  exact ⟨rfl, hV2.bel⟩
/-- A pair's text. -/
def pairS (q : Pr) : List UInt8 := if chkPP q then (if spec q then pfxS q.d ++ ([32, 102, 114, 111, 109, 32] ++ pfxS q.s) else pfxS q.d) else []
theorem spec_call {w : World} {q : Pr} (hq : q.fit) {b : Bool} (h : spec q = b) : Calls Tryz.prog 125 #[vPP q] w fun e w' => e = .returned (.bool b) ∧ Below w.heap.size w w' := by rw [← h]; exact spec_any hq
set_option maxRecDepth 100000 in
set_option maxHeartbeats 1600000 in
theorem pair_bad {w : World} {q : Pr} (hq : q.fit) (hc : chkPP q = false) : Calls Tryz.prog 59 #[vPP q] w fun e w' => e = .returned (.string ⟨(pairS q).toArray⟩) ∧ Below w.heap.size w w' := by
  have hr : pairS q = [] := by unfold pairS; rw [hc]; rfl
  have B := ((Bz.start w).alloc (oPP q) rfl : Bz w [(w.heap.size, oPP q)] _)
  have Hq := Lib.hid hq
  have c1 : (if chkPP q then (0 : Int) else 21) = 21 := by rw [hc]; rfl
  replace c1 := Lib.hid c1
  replace hr := Lib.hid hr
  clear hq hc
  unfold vPP
  go_enter Tryz.func59, Tryz.ntmps59
  go_wp2_with (refine wpList_quiet (C := Bz w [(w.heap.size, oPP q)]) 3 (by rfl) B ?_)
  refine wpQuiet_hide ?_
  intro lq hlq
  refine wpQuiet_step_h hlq ?_
  clear hlq lq
  intro K lq hlq hK
  refine wanted_go (by rfl) ?_
  refine ⟨vPP q, fun W hW => ?_, ?_⟩
  · skip
    exact quiet_load 57 _ rfl rfl (ldPP (hW.all.get 0 (x := (w.heap.size, oPP q)) rfl) Hq.out)
  refine hK _ ?_
  clear hK K
  (try simp only [Act.put, List.setIfInBounds_toArray, List.set_cons_zero, List.set_cons_succ])
  refine wpQuiet_step_h hlq ?_
  clear hlq lq
  intro K lq hlq hK
  refine wanted_go (by rfl) ?_
  refine ⟨.int .i64 21, fun W hW => ?_, ?_⟩
  · go_simp
    exact (chkPP_call Hq.out c1.out).mono fun e W2 hc2 => ⟨hc2.1, hW.go hc2.2⟩
  refine hK _ ?_
  clear hK K
  (try simp only [Act.put, List.setIfInBounds_toArray, List.set_cons_zero, List.set_cons_succ])
  refine wpQuiet_step_h hlq ?_
  clear hlq lq
  intro K lq hlq hK
  refine wanted_go (by rfl) ?_
  refine ⟨?_, fun W hW => ?_, ?_⟩
  rotate_left
  · skip
    go_simp
    with_reducible rfl
  refine hK _ ?_
  clear hK K
  (try simp only [Act.put, List.setIfInBounds_toArray, List.set_cons_zero, List.set_cons_succ])
  refine wpQuiet_nil_h hlq ?_
  clear hlq lq B
  intro V1 hV2
  go_wp2_with fail
  go_ret
  exact ⟨by rw [hr.out]; rfl, hV2.bel⟩
set_option maxRecDepth 100000 in
set_option maxHeartbeats 1600000 in
theorem pair_plain {w : World} (E : Env w) {q : Pr} (hq : q.fit) (hc : chkPP q = true) (hs : spec q = false) : Calls Tryz.prog 59 #[vPP q] w fun e w' => e = .returned (.string ⟨(pairS q).toArray⟩) ∧ Below w.heap.size w w' := by
  have hr : pairS q = pfxS q.d := by unfold pairS; rw [hc, hs]; rfl
  have B := ((Bz.start w).alloc (oPP q) rfl : Bz w [(w.heap.size, oPP q)] _)
  have Hq := Lib.hid hq
  have c1 : (if chkPP q then (0 : Int) else 21) = 0 := by rw [hc]; rfl
  replace c1 := Lib.hid c1
  replace hr := Lib.hid hr
  replace hs := Lib.hid hs
  clear hq hc
  unfold vPP
  go_enter Tryz.func59, Tryz.ntmps59
  go_wp2_with (refine wpList_quiet (C := Bz w [(w.heap.size, oPP q)]) 3 (by rfl) B ?_)
  refine wpQuiet_hide ?_
  intro lq hlq
  refine wpQuiet_step_h hlq ?_
  clear hlq lq
  intro K lq hlq hK
  refine wanted_go (by rfl) ?_
  refine ⟨vPP q, fun W hW => ?_, ?_⟩
  · skip
    exact quiet_load 57 _ rfl rfl (ldPP (hW.all.get 0 (x := (w.heap.size, oPP q)) rfl) Hq.out)
  refine hK _ ?_
  clear hK K
  (try simp only [Act.put, List.setIfInBounds_toArray, List.set_cons_zero, List.set_cons_succ])
  refine wpQuiet_step_h hlq ?_
  clear hlq lq
  intro K lq hlq hK
  refine wanted_go (by rfl) ?_
  refine ⟨.int .i64 0, fun W hW => ?_, ?_⟩
  · go_simp
    exact (chkPP_call Hq.out c1.out).mono fun e W2 hc2 => ⟨hc2.1, hW.go hc2.2⟩
  refine hK _ ?_
  clear hK K
  (try simp only [Act.put, List.setIfInBounds_toArray, List.set_cons_zero, List.set_cons_succ])
  refine wpQuiet_step_h hlq ?_
  clear hlq lq
  intro K lq hlq hK
  refine wanted_go (by rfl) ?_
  refine ⟨?_, fun W hW => ?_, ?_⟩
  rotate_left
  · skip
    go_simp
    with_reducible rfl
  refine hK _ ?_
  clear hK K
  (try simp only [Act.put, List.setIfInBounds_toArray, List.set_cons_zero, List.set_cons_succ])
  refine wpQuiet_nil_h hlq ?_
  clear hlq lq B
  intro V1 hV2
  go_wp2_with (refine wpList_quiet (C := Bz w [(w.heap.size, oPP q)]) 4 (by rfl) hV2 ?_)
  refine wpQuiet_hide ?_
  intro lq hlq
  refine wpQuiet_step_h hlq ?_
  clear hlq lq
  intro K lq hlq hK
  refine wanted_go (by rfl) ?_
  refine ⟨?_, fun W hW => ?_, ?_⟩
  rotate_left
  · skip
    go_simp
    with_reducible rfl
  refine hK _ ?_
  clear hK K
  (try simp only [Act.put, List.setIfInBounds_toArray, List.set_cons_zero, List.set_cons_succ])
  refine wpQuiet_step_h hlq ?_
  clear hlq lq
  intro K lq hlq hK
  refine wanted_go (by rfl) ?_
  refine ⟨vPf q.d, fun W hW => ?_, ?_⟩
  · skip
    exact quiet_load 55 _ rfl rfl (ldPPd (hW.all.get 0 (x := (w.heap.size, oPP q)) rfl) Hq.out)
  refine hK _ ?_
  clear hK K
  (try simp only [Act.put, List.setIfInBounds_toArray, List.set_cons_zero, List.set_cons_succ])
  refine wpQuiet_step_h hlq ?_
  clear hlq lq
  intro K lq hlq hK
  refine wanted_go (by rfl) ?_
  refine ⟨.string ⟨(pfxS q.d).toArray⟩, fun W hW => ?_, ?_⟩
  · go_simp
    have E' := hW.env E
    exact (pfx_any E' Hq.out.1).mono fun e W2 hc2 => ⟨hc2.1, hW.go hc2.2⟩
  refine hK _ ?_
  clear hK K
  (try simp only [Act.put, List.setIfInBounds_toArray, List.set_cons_zero, List.set_cons_succ])
  refine wpQuiet_step_h hlq ?_
  clear hlq lq
  intro K lq hlq hK
  refine wanted_go (by rfl) ?_
  refine ⟨?_, fun W hW => ?_, ?_⟩
  rotate_left
  · skip
    go_simp
    with_reducible rfl
  refine hK _ ?_
  clear hK K
  (try simp only [Act.put, List.setIfInBounds_toArray, List.set_cons_zero, List.set_cons_succ])
  refine wpQuiet_nil_h hlq ?_
  clear hlq lq hV2
  intro V3 hV4
  go_wp2_with (refine wpList_quiet (C := Bz w [(w.heap.size, oPP q)]) 2 (by rfl) hV4 ?_)
  refine wpQuiet_hide ?_
  intro lq hlq
  refine wpQuiet_step_h hlq ?_
  clear hlq lq
  intro K lq hlq hK
  refine wanted_go (by rfl) ?_
  refine ⟨vPP q, fun W hW => ?_, ?_⟩
  · skip
    exact quiet_load 57 _ rfl rfl (ldPP (hW.all.get 0 (x := (w.heap.size, oPP q)) rfl) Hq.out)
  refine hK _ ?_
  clear hK K
  (try simp only [Act.put, List.setIfInBounds_toArray, List.set_cons_zero, List.set_cons_succ])
  refine wpQuiet_step_h hlq ?_
  clear hlq lq
  intro K lq hlq hK
  refine wanted_go (by rfl) ?_
  refine ⟨.bool false, fun W hW => ?_, ?_⟩
  · go_simp
    exact (spec_call Hq.out hs.out).mono fun e W2 hc2 => ⟨hc2.1, hW.go hc2.2⟩
  refine hK _ ?_
  clear hK K
  (try simp only [Act.put, List.setIfInBounds_toArray, List.set_cons_zero, List.set_cons_succ])
  refine wpQuiet_nil_h hlq ?_
  clear hlq lq hV4
  intro V5 hV6
  go_wp2_with fail
  go_ret
  exact ⟨by rw [hr.out]; rfl, hV6.bel⟩
set_option maxRecDepth 100000 in
set_option maxHeartbeats 1600000 in
theorem pair_from {w : World} (E : Env w) {q : Pr} (hq : q.fit) (hc : chkPP q = true) (hs : spec q = true) : Calls Tryz.prog 59 #[vPP q] w fun e w' => e = .returned (.string ⟨(pairS q).toArray⟩) ∧ Below w.heap.size w w' := by
  have hr : pairS q = pfxS q.d ++ ([32, 102, 114, 111, 109, 32] ++ pfxS q.s) := by unfold pairS; rw [hc, hs]; rfl
  have B := ((Bz.start w).alloc (oPP q) rfl : Bz w [(w.heap.size, oPP q)] _)
  have Hq := Lib.hid hq
  have c1 : (if chkPP q then (0 : Int) else 21) = 0 := by rw [hc]; rfl
  have l1 := pfx_len hq.1.1
  have l2 := pfx_len hq.2.1
  have s1 : ([32, 102, 114, 111, 109, 32] : List UInt8).length + (pfxS q.s).length ≤ 9223372036854775807 := by simp; omega
  have s2 : (pfxS q.d).length + ([32, 102, 114, 111, 109, 32] ++ pfxS q.s).length ≤ 9223372036854775807 := by simp; omega
  replace c1 := Lib.hid c1
  replace hr := Lib.hid hr
  replace hs := Lib.hid hs
  replace s1 := Lib.hid s1
  replace s2 := Lib.hid s2
  clear hq hc l1 l2
  unfold vPP
  go_enter Tryz.func59, Tryz.ntmps59
  go_wp2_with (refine wpList_quiet (C := Bz w [(w.heap.size, oPP q)]) 3 (by rfl) B ?_)
  refine wpQuiet_hide ?_
  intro lq hlq
  refine wpQuiet_step_h hlq ?_
  clear hlq lq
  intro K lq hlq hK
  refine wanted_go (by rfl) ?_
  refine ⟨vPP q, fun W hW => ?_, ?_⟩
  · skip
    exact quiet_load 57 _ rfl rfl (ldPP (hW.all.get 0 (x := (w.heap.size, oPP q)) rfl) Hq.out)
  refine hK _ ?_
  clear hK K
  (try simp only [Act.put, List.setIfInBounds_toArray, List.set_cons_zero, List.set_cons_succ])
  refine wpQuiet_step_h hlq ?_
  clear hlq lq
  intro K lq hlq hK
  refine wanted_go (by rfl) ?_
  refine ⟨.int .i64 0, fun W hW => ?_, ?_⟩
  · go_simp
    exact (chkPP_call Hq.out c1.out).mono fun e W2 hc2 => ⟨hc2.1, hW.go hc2.2⟩
  refine hK _ ?_
  clear hK K
  (try simp only [Act.put, List.setIfInBounds_toArray, List.set_cons_zero, List.set_cons_succ])
  refine wpQuiet_step_h hlq ?_
  clear hlq lq
  intro K lq hlq hK
  refine wanted_go (by rfl) ?_
  refine ⟨?_, fun W hW => ?_, ?_⟩
  rotate_left
  · skip
    go_simp
    with_reducible rfl
  refine hK _ ?_
  clear hK K
  (try simp only [Act.put, List.setIfInBounds_toArray, List.set_cons_zero, List.set_cons_succ])
  refine wpQuiet_nil_h hlq ?_
  clear hlq lq B
  intro V1 hV2
  go_wp2_with (refine wpList_quiet (C := Bz w [(w.heap.size, oPP q)]) 4 (by rfl) hV2 ?_)
  refine wpQuiet_hide ?_
  intro lq hlq
  refine wpQuiet_step_h hlq ?_
  clear hlq lq
  intro K lq hlq hK
  refine wanted_go (by rfl) ?_
  refine ⟨?_, fun W hW => ?_, ?_⟩
  rotate_left
  · skip
    go_simp
    with_reducible rfl
  refine hK _ ?_
  clear hK K
  (try simp only [Act.put, List.setIfInBounds_toArray, List.set_cons_zero, List.set_cons_succ])
  refine wpQuiet_step_h hlq ?_
  clear hlq lq
  intro K lq hlq hK
  refine wanted_go (by rfl) ?_
  refine ⟨vPf q.d, fun W hW => ?_, ?_⟩
  · skip
    exact quiet_load 55 _ rfl rfl (ldPPd (hW.all.get 0 (x := (w.heap.size, oPP q)) rfl) Hq.out)
  refine hK _ ?_
  clear hK K
  (try simp only [Act.put, List.setIfInBounds_toArray, List.set_cons_zero, List.set_cons_succ])
  refine wpQuiet_step_h hlq ?_
  clear hlq lq
  intro K lq hlq hK
  refine wanted_go (by rfl) ?_
  refine ⟨.string ⟨(pfxS q.d).toArray⟩, fun W hW => ?_, ?_⟩
  · go_simp
    have E' := hW.env E
    exact (pfx_any E' Hq.out.1).mono fun e W2 hc2 => ⟨hc2.1, hW.go hc2.2⟩
  refine hK _ ?_
  clear hK K
  (try simp only [Act.put, List.setIfInBounds_toArray, List.set_cons_zero, List.set_cons_succ])
  refine wpQuiet_step_h hlq ?_
  clear hlq lq
  intro K lq hlq hK
  refine wanted_go (by rfl) ?_
  refine ⟨?_, fun W hW => ?_, ?_⟩
  rotate_left
  · skip
    go_simp
    with_reducible rfl
  refine hK _ ?_
  clear hK K
  (try simp only [Act.put, List.setIfInBounds_toArray, List.set_cons_zero, List.set_cons_succ])
  refine wpQuiet_nil_h hlq ?_
  clear hlq lq hV2
  intro V3 hV4
  go_wp2_with (refine wpList_quiet (C := Bz w [(w.heap.size, oPP q)]) 2 (by rfl) hV4 ?_)
  refine wpQuiet_hide ?_
  intro lq hlq
  refine wpQuiet_step_h hlq ?_
  clear hlq lq
  intro K lq hlq hK
  refine wanted_go (by rfl) ?_
  refine ⟨vPP q, fun W hW => ?_, ?_⟩
  · skip
    exact quiet_load 57 _ rfl rfl (ldPP (hW.all.get 0 (x := (w.heap.size, oPP q)) rfl) Hq.out)
  refine hK _ ?_
  clear hK K
  (try simp only [Act.put, List.setIfInBounds_toArray, List.set_cons_zero, List.set_cons_succ])
  refine wpQuiet_step_h hlq ?_
  clear hlq lq
  intro K lq hlq hK
  refine wanted_go (by rfl) ?_
  refine ⟨.bool true, fun W hW => ?_, ?_⟩
  · go_simp
    exact (spec_call Hq.out hs.out).mono fun e W2 hc2 => ⟨hc2.1, hW.go hc2.2⟩
  refine hK _ ?_
  clear hK K
  (try simp only [Act.put, List.setIfInBounds_toArray, List.set_cons_zero, List.set_cons_succ])
  refine wpQuiet_nil_h hlq ?_
  clear hlq lq hV4
  intro V5 hV6
  go_wp2_with (refine wpList_quiet (C := Bz w [(w.heap.size, oPP q)]) 6 (by rfl) hV6 ?_)
  refine wpQuiet_hide ?_
  intro lq hlq
  refine wpQuiet_step_h hlq ?_
  clear hlq lq
  intro K lq hlq hK
  refine wanted_go (by rfl) ?_
  refine ⟨?_, fun W hW => ?_, ?_⟩
  rotate_left
  · skip
    go_simp
    with_reducible rfl
  refine hK _ ?_
  clear hK K
  (try simp only [Act.put, List.setIfInBounds_toArray, List.set_cons_zero, List.set_cons_succ])
  refine wpQuiet_step_h hlq ?_
  clear hlq lq
  intro K lq hlq hK
  refine wanted_go (by rfl) ?_
  refine ⟨vPf q.s, fun W hW => ?_, ?_⟩
  · skip
    exact quiet_load 55 _ rfl rfl (ldPPs (hW.all.get 0 (x := (w.heap.size, oPP q)) rfl) Hq.out)
  refine hK _ ?_
  clear hK K
  (try simp only [Act.put, List.setIfInBounds_toArray, List.set_cons_zero, List.set_cons_succ])
  refine wpQuiet_step_h hlq ?_
  clear hlq lq
  intro K lq hlq hK
  refine wanted_go (by rfl) ?_
  refine ⟨.string ⟨(pfxS q.s).toArray⟩, fun W hW => ?_, ?_⟩
  · go_simp
    have E' := hW.env E
    exact (pfx_any E' Hq.out.2).mono fun e W2 hc2 => ⟨hc2.1, hW.go hc2.2⟩
  refine hK _ ?_
  clear hK K
  (try simp only [Act.put, List.setIfInBounds_toArray, List.set_cons_zero, List.set_cons_succ])
  refine wpQuiet_step_h hlq ?_
  clear hlq lq
  intro K lq hlq hK
  refine wanted_go (by rfl) ?_
  refine ⟨.string ⟨([32, 102, 114, 111, 109, 32] ++ pfxS q.s).toArray⟩, fun W hW => ?_, ?_⟩
  · skip
    exact quiet_add rfl rfl rfl (str_add W _ _ s1.out)
  refine hK _ ?_
  clear hK K
  (try simp only [Act.put, List.setIfInBounds_toArray, List.set_cons_zero, List.set_cons_succ])
  refine wpQuiet_step_h hlq ?_
  clear hlq lq
  intro K lq hlq hK
  refine wanted_go (by rfl) ?_
  refine ⟨.string ⟨(pfxS q.d ++ ([32, 102, 114, 111, 109, 32] ++ pfxS q.s)).toArray⟩, fun W hW => ?_, ?_⟩
  · skip
    exact quiet_add rfl rfl rfl (str_add W _ _ s2.out)
  refine hK _ ?_
  clear hK K
  (try simp only [Act.put, List.setIfInBounds_toArray, List.set_cons_zero, List.set_cons_succ])
  refine wpQuiet_step_h hlq ?_
  clear hlq lq
  intro K lq hlq hK
  refine wanted_go (by rfl) ?_
  refine ⟨?_, fun W hW => ?_, ?_⟩
  rotate_left
  · skip
    go_simp
    with_reducible rfl
  refine hK _ ?_
  clear hK K
  (try simp only [Act.put, List.setIfInBounds_toArray, List.set_cons_zero, List.set_cons_succ])
  refine wpQuiet_nil_h hlq ?_
  clear hlq lq hV6
  intro V7 hV8
  go_wp2_with fail
  go_ret
  exact ⟨by rw [hr.out]; rfl, hV8.bel⟩
/-- PrintPair. -/
theorem pairS_any {w : World} (E : Env w) {q : Pr} (hq : q.fit) : Calls Tryz.prog 59 #[vPP q] w fun e w' => e = .returned (.string ⟨(pairS q).toArray⟩) ∧ Below w.heap.size w w' := by
  cases hc : chkPP q with
  | false => exact pair_bad hq hc
  | true =>
    cases hs : spec q with
    | false => exact pair_plain E hq hc hs
    | true => exact pair_from E hq hc hs
end Go.Proofs.YtnljjlaececnkaaGreatDoor
