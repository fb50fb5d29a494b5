/-
  The stage's first line: an address of each family, a prefix, the best of two. Condition: the variables hold what their initialisers laid.
-/
import Derived.Test.YtnljjlaececnkaaGreatDoorBE
namespace Go.Proofs.YtnljjlaececnkaaGreatDoor
open Go.RowKit
set_option linter.unusedVariables false
set_option linter.unusedSimpArgs false
theorem parse_is {w : World} (E : Env w) {s : ByteArray} {a : List Int} (hs : s.size < 4294967281) (h : parseS s = some a) : Calls Tryz.prog 29 #[.string s] w fun e w' => e = .returned (.tuple #[vA a, .int .i64 0]) ∧ Below w.heap.size w w' :=
  (parse_any E hs).mono fun e w' he => ⟨by have := he.1; unfold ParseR at this; rw [this, h]; rfl, he.2⟩
theorem pp_is {w : World} (E : Env w) {s : ByteArray} {p : Pf} {n : Int} (hs : s.size < 4294967281) (h : parsePS s = (p, n)) : Calls Tryz.prog 56 #[.string s] w fun e w' => e = .returned (.tuple #[vPf p, .int .i64 n]) ∧ Below w.heap.size w w' :=
  (pp_any E hs).mono fun e w' he => ⟨by have := he.1; unfold PPR at this; rw [this, h], he.2⟩
set_option maxRecDepth 100000 in
set_option maxHeartbeats 3200000 in
theorem live02_any {w : World} (E : Env w) : Calls Tryz.prog 28 #[] w fun e w' => e = .returned (.bool true) ∧ Below w.heap.size w w' := by
  have c1 : ∀ {W : World}, Env W → Calls Tryz.prog 29 #[.string ⟨#[49, 48, 46, 49, 46, 50, 46, 51]⟩] W fun e w' => e = .returned (.tuple #[vA aV, .int .i64 0]) ∧ Below W.heap.size W w' := fun E => parse_is E (by decide) aV_parse
  have c2 : ∀ {W : World}, Env W → Calls Tryz.prog 29 #[.string ⟨#[50, 48, 48, 49, 58, 100, 98, 56, 58, 58, 49, 58, 48, 58, 48, 58, 49]⟩] W fun e w' => e = .returned (.tuple #[vA bV, .int .i64 0]) ∧ Below W.heap.size W w' := fun E => parse_is E (by decide) bV_parse
  have c3 : ∀ {W : World}, Env W → Calls Tryz.prog 58 #[.string ⟨#[49, 48, 46, 48, 46, 48, 46, 48, 47, 56]⟩] W fun e w' => e = .returned (.tuple #[vPP pP, .int .i64 0]) ∧ Below W.heap.size W w' := fun E => pair_one E (by decide) pV_one pV_ok pV_parse pP_chk
  have c4 : ∀ {W : World}, Env W → Calls Tryz.prog 58 #[.string ⟨#[49, 48, 46, 49, 46, 48, 46, 48, 47, 49, 54]⟩] W fun e w' => e = .returned (.tuple #[vPP qP, .int .i64 0]) ∧ Below W.heap.size W w' := fun E => pair_one E (by decide) qV_one qV_ok qV_parse qP_chk
  have c5 : ∀ {W : World}, Env W → Calls Tryz.prog 56 #[.string ⟨#[49, 48, 46, 48, 46, 48, 46, 49, 47, 56]⟩] W fun e w' => e = .returned (.tuple #[vPf zeroP, .int .i64 21]) ∧ Below W.heap.size W w' := fun E => pp_is E (by decide) cV_parse
  have c6 : ∀ {W : World} {g : Nat}, W.heap[g]? = some (.cells (prs [pP, qP]).toArray 57 (0, 0)) → Calls Tryz.prog 36 #[vA aV, vA aV, .slice (some ⟨g, 0, none⟩) 2 2] W fun e w' => e = .returned (.tuple #[.int .i64 1, .bool true]) ∧ Below W.heap.size W w' := fun {W g} hg => by
    have hf : ∀ p ∈ [pP, qP], p.fit := by intro p h; simp at h; exact h.elim (fun h => h ▸ pP_fit) (fun h => h ▸ qP_fit)
    refine (best_any aV_ok aV_ok hf (Row.box (n := 2) hg (prs_len hf) (by decide))).mono fun e w' ⟨⟨k, ok, he, hb⟩, bel⟩ => ⟨?_, bel⟩
    obtain ⟨rfl, rfl⟩ := best_V hb
    exact he
  have c7 : ∀ {W : World}, Calls Tryz.prog 32 #[vA aV] W fun e w' => e = .returned (.int .i64 4) ∧ Below W.heap.size W w' := (fam_any aV_ok).mono fun e w' h => ⟨by rw [h.1, aV_fam], h.2⟩
  have c8 : ∀ {W : World}, Env W → Calls Tryz.prog 34 #[vA bV] W fun e w' => e = .returned (.string ⟨#[50, 48, 48, 49, 58, 100, 98, 56, 58, 58, 49, 58, 48, 58, 48, 58, 49]⟩) ∧ Below W.heap.size W w' := fun E => (print6_any E bV_ok bV_fam).mono fun e w' h => ⟨by rw [h.1, bV_print], h.2⟩
  have c9 : ∀ {W : World}, Calls Tryz.prog 43 #[vA aV, vA bV] W fun e w' => e = .returned (.int .i64 (-1)) ∧ Below W.heap.size W w' := (cmp_any aV_ok bV_ok).mono fun e w' h => ⟨by rw [h.1, cmp_V], h.2⟩
  have hfill := fill_V
  have hn : pP.d.n = 104 := rfl
  have ha := Lib.hid aV_ok
  have hb := Lib.hid bV_ok
  have hp := Lib.hid pP_fit
  have hq := Lib.hid qP_fit
  generalize pP = p at *
  generalize qP = q at *
  generalize aV = a at *
  generalize bV = b at *
  have B := Bz.start w
  go_enter Tryz.func28, Tryz.ntmps28
  go_wp2_with (refine wpList_quiet_take (C := Bz w []) 7 4 (by rfl) B ?_)
  (try simp only [List.take_succ_cons, List.take_zero, List.drop_succ_cons, List.drop_zero])
  refine wpQuiet_hide ?_
  intro lq hlq
  refine wpQuiet_step_h hlq ?_
  clear hlq lq
  intro K lq hlq hK
  refine wanted_go (by rfl) ?_
  refine ⟨.tuple #[vA a, .int .i64 0], fun W hW => ?_, ?_⟩
  · go_simp
    have E' := hW.env E
    exact (c1 E').mono fun e W2 hc2 => ⟨hc2.1, hW.go hc2.2⟩
  refine hK _ ?_
  clear hK K
  (try simp only [Act.put, List.setIfInBounds_toArray, List.set_cons_zero, List.set_cons_succ])
  refine wpQuiet_step_h hlq ?_
  clear hlq lq
  intro K lq hlq hK
  refine wanted_go (by rfl) ?_
  refine ⟨?_, fun W hW => ?_, ?_⟩
  rotate_left
  · skip
    go_simp
    with_reducible rfl
  refine hK _ ?_
  clear hK K
  (try simp only [Act.put, List.setIfInBounds_toArray, List.set_cons_zero, List.set_cons_succ])
  refine wpQuiet_step_h hlq ?_
  clear hlq lq
  intro K lq hlq hK
  refine wanted_go (by rfl) ?_
  refine ⟨?_, fun W hW => ?_, ?_⟩
  rotate_left
  · skip
    go_simp
    with_reducible rfl
  refine hK _ ?_
  clear hK K
  (try simp only [Act.put, List.setIfInBounds_toArray, List.set_cons_zero, List.set_cons_succ])
  refine wpQuiet_step_h hlq ?_
  clear hlq lq
  intro K lq hlq hK
  refine wanted_go (by rfl) ?_
  refine ⟨?_, fun W hW => ?_, ?_⟩
  rotate_left
  · skip
    go_simp
    with_reducible rfl
  refine hK _ ?_
  clear hK K
  (try simp only [Act.put, List.setIfInBounds_toArray, List.set_cons_zero, List.set_cons_succ])
  refine wpQuiet_nil_h hlq ?_
  clear hlq lq B
  intro V1 hV2
  refine wpList_new rfl rfl rfl rfl z42 rfl (by rfl) (by rfl) (info42 ha.out) (sizeA' ha.out) (numsA_one _) ?_
  (try simp only [Act.put, List.setIfInBounds_toArray, List.set_cons_zero, List.set_cons_succ])
  have hB3 : Bz w [(V1.heap.size, oA a)] (V1.alloc (oA a)) := hV2.alloc (oA a) rfl
  clear hV2
  refine wpList_quiet (C := Bz w [(V1.heap.size, oA a)]) 1 (by rfl) hB3 ?_
  refine wpQuiet_hide ?_
  intro lq hlq
  refine wpQuiet_step_h hlq ?_
  clear hlq lq
  intro K lq hlq hK
  refine wanted_go (by rfl) ?_
  refine ⟨?_, fun W hW => ?_, ?_⟩
  rotate_left
  · skip
    go_simp
    with_reducible rfl
  refine hK _ ?_
  clear hK K
  (try simp only [Act.put, List.setIfInBounds_toArray, List.set_cons_zero, List.set_cons_succ])
  refine wpQuiet_nil_h hlq ?_
  clear hlq lq hB3
  intro V4 hV5
  go_wp2_with (refine wpList_quiet_take (C := Bz w [(V1.heap.size, oA a)]) 7 4 (by rfl) hV5 ?_)
  (try simp only [List.take_succ_cons, List.take_zero, List.drop_succ_cons, List.drop_zero])
  refine wpQuiet_hide ?_
  intro lq hlq
  refine wpQuiet_step_h hlq ?_
  clear hlq lq
  intro K lq hlq hK
  refine wanted_go (by rfl) ?_
  refine ⟨.tuple #[vA b, .int .i64 0], fun W hW => ?_, ?_⟩
  · go_simp
    have E' := hW.env E
    exact (c2 E').mono fun e W2 hc2 => ⟨hc2.1, hW.go hc2.2⟩
  refine hK _ ?_
  clear hK K
  (try simp only [Act.put, List.setIfInBounds_toArray, List.set_cons_zero, List.set_cons_succ])
  refine wpQuiet_step_h hlq ?_
  clear hlq lq
  intro K lq hlq hK
  refine wanted_go (by rfl) ?_
  refine ⟨?_, fun W hW => ?_, ?_⟩
  rotate_left
  · skip
    go_simp
    with_reducible rfl
  refine hK _ ?_
  clear hK K
  (try simp only [Act.put, List.setIfInBounds_toArray, List.set_cons_zero, List.set_cons_succ])
  refine wpQuiet_step_h hlq ?_
  clear hlq lq
  intro K lq hlq hK
  refine wanted_go (by rfl) ?_
  refine ⟨?_, fun W hW => ?_, ?_⟩
  rotate_left
  · skip
    go_simp
    with_reducible rfl
  refine hK _ ?_
  clear hK K
  (try simp only [Act.put, List.setIfInBounds_toArray, List.set_cons_zero, List.set_cons_succ])
  refine wpQuiet_step_h hlq ?_
  clear hlq lq
  intro K lq hlq hK
  refine wanted_go (by rfl) ?_
  refine ⟨?_, fun W hW => ?_, ?_⟩
  rotate_left
  · skip
    go_simp
    with_reducible rfl
  refine hK _ ?_
  clear hK K
  (try simp only [Act.put, List.setIfInBounds_toArray, List.set_cons_zero, List.set_cons_succ])
  refine wpQuiet_nil_h hlq ?_
  clear hlq lq hV5
  intro V6 hV7
  refine wpList_new rfl rfl rfl rfl z42 rfl (by rfl) (by rfl) (info42 hb.out) (sizeA' hb.out) (numsA_one _) ?_
  (try simp only [Act.put, List.setIfInBounds_toArray, List.set_cons_zero, List.set_cons_succ])
  have hB8 : Bz w [(V6.heap.size, oA b), (V1.heap.size, oA a)] (V6.alloc (oA b)) := hV7.alloc (oA b) rfl
  clear hV7
  refine wpList_quiet (C := Bz w [(V6.heap.size, oA b), (V1.heap.size, oA a)]) 1 (by rfl) hB8 ?_
  refine wpQuiet_hide ?_
  intro lq hlq
  refine wpQuiet_step_h hlq ?_
  clear hlq lq
  intro K lq hlq hK
  refine wanted_go (by rfl) ?_
  refine ⟨?_, fun W hW => ?_, ?_⟩
  rotate_left
  · skip
    go_simp
    with_reducible rfl
  refine hK _ ?_
  clear hK K
  (try simp only [Act.put, List.setIfInBounds_toArray, List.set_cons_zero, List.set_cons_succ])
  refine wpQuiet_nil_h hlq ?_
  clear hlq lq hB8
  intro V9 hV10
  go_wp2_with (refine wpList_quiet_take (C := Bz w [(V6.heap.size, oA b), (V1.heap.size, oA a)]) 7 4 (by rfl) hV10 ?_)
  (try simp only [List.take_succ_cons, List.take_zero, List.drop_succ_cons, List.drop_zero])
  refine wpQuiet_hide ?_
  intro lq hlq
  refine wpQuiet_step_h hlq ?_
  clear hlq lq
  intro K lq hlq hK
  refine wanted_go (by rfl) ?_
  refine ⟨.tuple #[vPP p, .int .i64 0], fun W hW => ?_, ?_⟩
  · go_simp
    have E' := hW.env E
    exact (c3 E').mono fun e W2 hc2 => ⟨hc2.1, hW.go hc2.2⟩
  refine hK _ ?_
  clear hK K
  (try simp only [Act.put, List.setIfInBounds_toArray, List.set_cons_zero, List.set_cons_succ])
  refine wpQuiet_step_h hlq ?_
  clear hlq lq
  intro K lq hlq hK
  refine wanted_go (by rfl) ?_
  refine ⟨?_, fun W hW => ?_, ?_⟩
  rotate_left
  · skip
    go_simp
    with_reducible rfl
  refine hK _ ?_
  clear hK K
  (try simp only [Act.put, List.setIfInBounds_toArray, List.set_cons_zero, List.set_cons_succ])
  refine wpQuiet_step_h hlq ?_
  clear hlq lq
  intro K lq hlq hK
  refine wanted_go (by rfl) ?_
  refine ⟨?_, fun W hW => ?_, ?_⟩
  rotate_left
  · skip
    go_simp
    with_reducible rfl
  refine hK _ ?_
  clear hK K
  (try simp only [Act.put, List.setIfInBounds_toArray, List.set_cons_zero, List.set_cons_succ])
  refine wpQuiet_step_h hlq ?_
  clear hlq lq
  intro K lq hlq hK
  refine wanted_go (by rfl) ?_
  refine ⟨?_, fun W hW => ?_, ?_⟩
  rotate_left
  · skip
    go_simp
    with_reducible rfl
  refine hK _ ?_
  clear hK K
  (try simp only [Act.put, List.setIfInBounds_toArray, List.set_cons_zero, List.set_cons_succ])
  refine wpQuiet_nil_h hlq ?_
  clear hlq lq hV10
  intro V11 hV12
  refine wpList_new rfl rfl rfl rfl z57 rfl (by rfl) (by rfl) (info57 hp.out) (sizePP' hp.out) (pp_one _) ?_
  (try simp only [Act.put, List.setIfInBounds_toArray, List.set_cons_zero, List.set_cons_succ])
  have hB13 : Bz w [(V11.heap.size, oPP p), (V6.heap.size, oA b), (V1.heap.size, oA a)] (V11.alloc (oPP p)) := hV12.alloc (oPP p) rfl
  clear hV12
  refine wpList_quiet (C := Bz w [(V11.heap.size, oPP p), (V6.heap.size, oA b), (V1.heap.size, oA a)]) 1 (by rfl) hB13 ?_
  refine wpQuiet_hide ?_
  intro lq hlq
  refine wpQuiet_step_h hlq ?_
  clear hlq lq
  intro K lq hlq hK
  refine wanted_go (by rfl) ?_
  refine ⟨?_, fun W hW => ?_, ?_⟩
  rotate_left
  · skip
    go_simp
    with_reducible rfl
  refine hK _ ?_
  clear hK K
  (try simp only [Act.put, List.setIfInBounds_toArray, List.set_cons_zero, List.set_cons_succ])
  refine wpQuiet_nil_h hlq ?_
  clear hlq lq hB13
  intro V14 hV15
  go_wp2_with (refine wpList_quiet_take (C := Bz w [(V11.heap.size, oPP p), (V6.heap.size, oA b), (V1.heap.size, oA a)]) 7 4 (by rfl) hV15 ?_)
  (try simp only [List.take_succ_cons, List.take_zero, List.drop_succ_cons, List.drop_zero])
  refine wpQuiet_hide ?_
  intro lq hlq
  refine wpQuiet_step_h hlq ?_
  clear hlq lq
  intro K lq hlq hK
  refine wanted_go (by rfl) ?_
  refine ⟨.tuple #[vPP q, .int .i64 0], fun W hW => ?_, ?_⟩
  · go_simp
    have E' := hW.env E
    exact (c4 E').mono fun e W2 hc2 => ⟨hc2.1, hW.go hc2.2⟩
  refine hK _ ?_
  clear hK K
  (try simp only [Act.put, List.setIfInBounds_toArray, List.set_cons_zero, List.set_cons_succ])
  refine wpQuiet_step_h hlq ?_
  clear hlq lq
  intro K lq hlq hK
  refine wanted_go (by rfl) ?_
  refine ⟨?_, fun W hW => ?_, ?_⟩
  rotate_left
  · skip
    go_simp
    with_reducible rfl
  refine hK _ ?_
  clear hK K
  (try simp only [Act.put, List.setIfInBounds_toArray, List.set_cons_zero, List.set_cons_succ])
  refine wpQuiet_step_h hlq ?_
  clear hlq lq
  intro K lq hlq hK
  refine wanted_go (by rfl) ?_
  refine ⟨?_, fun W hW => ?_, ?_⟩
  rotate_left
  · skip
    go_simp
    with_reducible rfl
  refine hK _ ?_
  clear hK K
  (try simp only [Act.put, List.setIfInBounds_toArray, List.set_cons_zero, List.set_cons_succ])
  refine wpQuiet_step_h hlq ?_
  clear hlq lq
  intro K lq hlq hK
  refine wanted_go (by rfl) ?_
  refine ⟨?_, fun W hW => ?_, ?_⟩
  rotate_left
  · skip
    go_simp
    with_reducible rfl
  refine hK _ ?_
  clear hK K
  (try simp only [Act.put, List.setIfInBounds_toArray, List.set_cons_zero, List.set_cons_succ])
  refine wpQuiet_nil_h hlq ?_
  clear hlq lq hV15
  intro V16 hV17
  refine wpList_new rfl rfl rfl rfl z57 rfl (by rfl) (by rfl) (info57 hq.out) (sizePP' hq.out) (pp_one _) ?_
  (try simp only [Act.put, List.setIfInBounds_toArray, List.set_cons_zero, List.set_cons_succ])
  have hB18 : Bz w [(V16.heap.size, oPP q), (V11.heap.size, oPP p), (V6.heap.size, oA b), (V1.heap.size, oA a)] (V16.alloc (oPP q)) := hV17.alloc (oPP q) rfl
  clear hV17
  refine wpList_quiet (C := Bz w [(V16.heap.size, oPP q), (V11.heap.size, oPP p), (V6.heap.size, oA b), (V1.heap.size, oA a)]) 1 (by rfl) hB18 ?_
  refine wpQuiet_hide ?_
  intro lq hlq
  refine wpQuiet_step_h hlq ?_
  clear hlq lq
  intro K lq hlq hK
  refine wanted_go (by rfl) ?_
  refine ⟨?_, fun W hW => ?_, ?_⟩
  rotate_left
  · skip
    go_simp
    with_reducible rfl
  refine hK _ ?_
  clear hK K
  (try simp only [Act.put, List.setIfInBounds_toArray, List.set_cons_zero, List.set_cons_succ])
  refine wpQuiet_nil_h hlq ?_
  clear hlq lq hB18
  intro V19 hV20
  go_wp2_with (refine wpList_quiet_take (C := Bz w [(V16.heap.size, oPP q), (V11.heap.size, oPP p), (V6.heap.size, oA b), (V1.heap.size, oA a)]) 11 4 (by rfl) hV20 ?_)
  (try simp only [List.take_succ_cons, List.take_zero, List.drop_succ_cons, List.drop_zero])
  refine wpQuiet_hide ?_
  intro lq hlq
  refine wpQuiet_step_h hlq ?_
  clear hlq lq
  intro K lq hlq hK
  refine wanted_go (by rfl) ?_
  refine ⟨vA a, fun W hW => ?_, ?_⟩
  · skip
    exact quiet_load 42 _ rfl rfl (ldA (hW.all.get 3 (x := (V1.heap.size, oA a)) rfl) ha.out)
  refine hK _ ?_
  clear hK K
  (try simp only [Act.put, List.setIfInBounds_toArray, List.set_cons_zero, List.set_cons_succ])
  refine wpQuiet_step_h hlq ?_
  clear hlq lq
  intro K lq hlq hK
  refine wanted_go (by rfl) ?_
  refine ⟨vA a, fun W hW => ?_, ?_⟩
  · skip
    exact quiet_load 42 _ rfl rfl (ldA (hW.all.get 3 (x := (V1.heap.size, oA a)) rfl) ha.out)
  refine hK _ ?_
  clear hK K
  (try simp only [Act.put, List.setIfInBounds_toArray, List.set_cons_zero, List.set_cons_succ])
  refine wpQuiet_step_h hlq ?_
  clear hlq lq
  intro K lq hlq hK
  refine wanted_go (by rfl) ?_
  refine ⟨vPP p, fun W hW => ?_, ?_⟩
  · skip
    exact quiet_load 57 _ rfl rfl (ldPP (hW.all.get 1 (x := (V11.heap.size, oPP p)) rfl) hp.out)
  refine hK _ ?_
  clear hK K
  (try simp only [Act.put, List.setIfInBounds_toArray, List.set_cons_zero, List.set_cons_succ])
  refine wpQuiet_step_h hlq ?_
  clear hlq lq
  intro K lq hlq hK
  refine wanted_go (by rfl) ?_
  refine ⟨vPP q, fun W hW => ?_, ?_⟩
  · skip
    exact quiet_load 57 _ rfl rfl (ldPP (hW.all.get 0 (x := (V16.heap.size, oPP q)) rfl) hq.out)
  refine hK _ ?_
  clear hK K
  (try simp only [Act.put, List.setIfInBounds_toArray, List.set_cons_zero, List.set_cons_succ])
  refine wpQuiet_nil_h hlq ?_
  clear hlq lq hV20
  intro V21 hV22
  refine wpList_slice2 rfl _ _ rfl rfl rfl hfill rfl ?_
  (try simp only [Act.put, List.setIfInBounds_toArray, List.set_cons_zero, List.set_cons_succ])
  have hB23 : Bz w [(V21.heap.size, .cells (prs [p, q]).toArray 57), (V16.heap.size, oPP q), (V11.heap.size, oPP p), (V6.heap.size, oA b), (V1.heap.size, oA a)] (V21.alloc (.cells (prs [p, q]).toArray 57)) := hV22.alloc (.cells (prs [p, q]).toArray 57) rfl
  clear hV22
  refine wpList_quiet (C := Bz w [(V21.heap.size, .cells (prs [p, q]).toArray 57), (V16.heap.size, oPP q), (V11.heap.size, oPP p), (V6.heap.size, oA b), (V1.heap.size, oA a)]) 6 (by rfl) hB23 ?_
  refine wpQuiet_hide ?_
  intro lq hlq
  refine wpQuiet_step_h hlq ?_
  clear hlq lq
  intro K lq hlq hK
  refine wanted_go (by rfl) ?_
  refine ⟨.tuple #[.int .i64 1, .bool true], fun W hW => ?_, ?_⟩
  · go_simp
    have E' := hW.env E
    exact (c6 (hW.all.get 0 (x := (V21.heap.size, .cells (prs [p, q]).toArray 57)) rfl)).mono fun e W2 hc2 => ⟨hc2.1, hW.go hc2.2⟩
  refine hK _ ?_
  clear hK K
  (try simp only [Act.put, List.setIfInBounds_toArray, List.set_cons_zero, List.set_cons_succ])
  refine wpQuiet_step_h hlq ?_
  clear hlq lq
  intro K lq hlq hK
  refine wanted_go (by rfl) ?_
  refine ⟨?_, fun W hW => ?_, ?_⟩
  rotate_left
  · skip
    go_simp
    with_reducible rfl
  refine hK _ ?_
  clear hK K
  (try simp only [Act.put, List.setIfInBounds_toArray, List.set_cons_zero, List.set_cons_succ])
  refine wpQuiet_step_h hlq ?_
  clear hlq lq
  intro K lq hlq hK
  refine wanted_go (by rfl) ?_
  refine ⟨?_, fun W hW => ?_, ?_⟩
  rotate_left
  · skip
    go_simp
    with_reducible rfl
  refine hK _ ?_
  clear hK K
  (try simp only [Act.put, List.setIfInBounds_toArray, List.set_cons_zero, List.set_cons_succ])
  refine wpQuiet_step_h hlq ?_
  clear hlq lq
  intro K lq hlq hK
  refine wanted_go (by rfl) ?_
  refine ⟨?_, fun W hW => ?_, ?_⟩
  rotate_left
  · skip
    go_simp
    with_reducible rfl
  refine hK _ ?_
  clear hK K
  (try simp only [Act.put, List.setIfInBounds_toArray, List.set_cons_zero, List.set_cons_succ])
  refine wpQuiet_step_h hlq ?_
  clear hlq lq
  intro K lq hlq hK
  refine wanted_go (by rfl) ?_
  refine ⟨?_, fun W hW => ?_, ?_⟩
  rotate_left
  · skip
    go_simp
    with_reducible rfl
  refine hK _ ?_
  clear hK K
  (try simp only [Act.put, List.setIfInBounds_toArray, List.set_cons_zero, List.set_cons_succ])
  refine wpQuiet_step_h hlq ?_
  clear hlq lq
  intro K lq hlq hK
  refine wanted_go (by rfl) ?_
  refine ⟨?_, fun W hW => ?_, ?_⟩
  rotate_left
  · skip
    go_simp
    with_reducible rfl
  refine hK _ ?_
  clear hK K
  (try simp only [Act.put, List.setIfInBounds_toArray, List.set_cons_zero, List.set_cons_succ])
  refine wpQuiet_nil_h hlq ?_
  clear hlq lq hB23
  intro V24 hV25
  go_wp2_with (refine wpList_quiet_take (C := Bz w [(V21.heap.size, .cells (prs [p, q]).toArray 57), (V16.heap.size, oPP q), (V11.heap.size, oPP p), (V6.heap.size, oA b), (V1.heap.size, oA a)]) 7 4 (by rfl) hV25 ?_)
  (try simp only [List.take_succ_cons, List.take_zero, List.drop_succ_cons, List.drop_zero])
  refine wpQuiet_hide ?_
  intro lq hlq
  refine wpQuiet_step_h hlq ?_
  clear hlq lq
  intro K lq hlq hK
  refine wanted_go (by rfl) ?_
  refine ⟨.tuple #[vPf zeroP, .int .i64 21], fun W hW => ?_, ?_⟩
  · go_simp
    have E' := hW.env E
    exact (c5 E').mono fun e W2 hc2 => ⟨hc2.1, hW.go hc2.2⟩
  refine hK _ ?_
  clear hK K
  (try simp only [Act.put, List.setIfInBounds_toArray, List.set_cons_zero, List.set_cons_succ])
  refine wpQuiet_step_h hlq ?_
  clear hlq lq
  intro K lq hlq hK
  refine wanted_go (by rfl) ?_
  refine ⟨?_, fun W hW => ?_, ?_⟩
  rotate_left
  · skip
    go_simp
    with_reducible rfl
  refine hK _ ?_
  clear hK K
  (try simp only [Act.put, List.setIfInBounds_toArray, List.set_cons_zero, List.set_cons_succ])
  refine wpQuiet_step_h hlq ?_
  clear hlq lq
  intro K lq hlq hK
  refine wanted_go (by rfl) ?_
  refine ⟨?_, fun W hW => ?_, ?_⟩
  rotate_left
  · skip
    go_simp
    with_reducible rfl
  refine hK _ ?_
  clear hK K
  (try simp only [Act.put, List.setIfInBounds_toArray, List.set_cons_zero, List.set_cons_succ])
  refine wpQuiet_step_h hlq ?_
  clear hlq lq
  intro K lq hlq hK
  refine wanted_go (by rfl) ?_
  refine ⟨?_, fun W hW => ?_, ?_⟩
  rotate_left
  · skip
    go_simp
    with_reducible rfl
  refine hK _ ?_
  clear hK K
  (try simp only [Act.put, List.setIfInBounds_toArray, List.set_cons_zero, List.set_cons_succ])
  refine wpQuiet_nil_h hlq ?_
  clear hlq lq hV25
  intro V26 hV27
  refine wpList_new rfl rfl rfl rfl z55 rfl (by rfl) (by rfl) (info55 zeroP_ok.1 _) (sizeP' zeroP_ok) (pCs_one _ _) ?_
  (try simp only [Act.put, List.setIfInBounds_toArray, List.set_cons_zero, List.set_cons_succ])
  have hB28 : Bz w [(V26.heap.size, oP zeroP), (V21.heap.size, .cells (prs [p, q]).toArray 57), (V16.heap.size, oPP q), (V11.heap.size, oPP p), (V6.heap.size, oA b), (V1.heap.size, oA a)] (V26.alloc (oP zeroP)) := hV27.alloc (oP zeroP) rfl
  clear hV27
  refine wpList_quiet (C := Bz w [(V26.heap.size, oP zeroP), (V21.heap.size, .cells (prs [p, q]).toArray 57), (V16.heap.size, oPP q), (V11.heap.size, oPP p), (V6.heap.size, oA b), (V1.heap.size, oA a)]) 1 (by rfl) hB28 ?_
  refine wpQuiet_hide ?_
  intro lq hlq
  refine wpQuiet_step_h hlq ?_
  clear hlq lq
  intro K lq hlq hK
  refine wanted_go (by rfl) ?_
  refine ⟨?_, fun W hW => ?_, ?_⟩
  rotate_left
  · skip
    go_simp
    with_reducible rfl
  refine hK _ ?_
  clear hK K
  (try simp only [Act.put, List.setIfInBounds_toArray, List.set_cons_zero, List.set_cons_succ])
  refine wpQuiet_nil_h hlq ?_
  clear hlq lq hB28
  intro V29 hV30
  go_wp2_with (refine wpList_quiet (C := Bz w [(V26.heap.size, oP zeroP), (V21.heap.size, .cells (prs [p, q]).toArray 57), (V16.heap.size, oPP q), (V11.heap.size, oPP p), (V6.heap.size, oA b), (V1.heap.size, oA a)]) 46 (by rfl) hV30 ?_)
  refine wpQuiet_hide ?_
  intro lq hlq
  refine wpQuiet_step_h hlq ?_
  clear hlq lq
  intro K lq hlq hK
  refine wanted_go (by rfl) ?_
  refine ⟨.int .i64 0, fun W hW => ?_, ?_⟩
  · go_simp
    have E' := hW.env E
    exact (num_lit _).mono fun e W2 hc2 => ⟨hc2.1, hW.go hc2.2⟩
  refine hK _ ?_
  clear hK K
  (try simp only [Act.put, List.setIfInBounds_toArray, List.set_cons_zero, List.set_cons_succ])
  refine wpQuiet_step_h hlq ?_
  clear hlq lq
  intro K lq hlq hK
  refine wanted_go (by rfl) ?_
  refine ⟨?_, fun W hW => ?_, ?_⟩
  rotate_left
  · skip
    go_simp
    with_reducible rfl
  refine hK _ ?_
  clear hK K
  (try simp only [Act.put, List.setIfInBounds_toArray, List.set_cons_zero, List.set_cons_succ])
  refine wpQuiet_step_h hlq ?_
  clear hlq lq
  intro K lq hlq hK
  refine wanted_go (by rfl) ?_
  refine ⟨.int .i64 0, fun W hW => ?_, ?_⟩
  · go_simp
    have E' := hW.env E
    exact (num_lit _).mono fun e W2 hc2 => ⟨hc2.1, hW.go hc2.2⟩
  refine hK _ ?_
  clear hK K
  (try simp only [Act.put, List.setIfInBounds_toArray, List.set_cons_zero, List.set_cons_succ])
  refine wpQuiet_step_h hlq ?_
  clear hlq lq
  intro K lq hlq hK
  refine wanted_go (by rfl) ?_
  refine ⟨?_, fun W hW => ?_, ?_⟩
  rotate_left
  · skip
    go_simp
    with_reducible rfl
  refine hK _ ?_
  clear hK K
  (try simp only [Act.put, List.setIfInBounds_toArray, List.set_cons_zero, List.set_cons_succ])
  refine wpQuiet_step_h hlq ?_
  clear hlq lq
  intro K lq hlq hK
  refine wanted_go (by rfl) ?_
  refine ⟨?_, fun W hW => ?_, ?_⟩
  rotate_left
  · skip
    go_simp
    with_reducible rfl
  refine hK _ ?_
  clear hK K
  (try simp only [Act.put, List.setIfInBounds_toArray, List.set_cons_zero, List.set_cons_succ])
  refine wpQuiet_step_h hlq ?_
  clear hlq lq
  intro K lq hlq hK
  refine wanted_go (by rfl) ?_
  refine ⟨.int .i64 0, fun W hW => ?_, ?_⟩
  · go_simp
    have E' := hW.env E
    exact (num_lit _).mono fun e W2 hc2 => ⟨hc2.1, hW.go hc2.2⟩
  refine hK _ ?_
  clear hK K
  (try simp only [Act.put, List.setIfInBounds_toArray, List.set_cons_zero, List.set_cons_succ])
  refine wpQuiet_step_h hlq ?_
  clear hlq lq
  intro K lq hlq hK
  refine wanted_go (by rfl) ?_
  refine ⟨?_, fun W hW => ?_, ?_⟩
  rotate_left
  · skip
    go_simp
    with_reducible rfl
  refine hK _ ?_
  clear hK K
  (try simp only [Act.put, List.setIfInBounds_toArray, List.set_cons_zero, List.set_cons_succ])
  refine wpQuiet_step_h hlq ?_
  clear hlq lq
  intro K lq hlq hK
  refine wanted_go (by rfl) ?_
  refine ⟨?_, fun W hW => ?_, ?_⟩
  rotate_left
  · skip
    go_simp
    with_reducible rfl
  refine hK _ ?_
  clear hK K
  (try simp only [Act.put, List.setIfInBounds_toArray, List.set_cons_zero, List.set_cons_succ])
  refine wpQuiet_step_h hlq ?_
  clear hlq lq
  intro K lq hlq hK
  refine wanted_go (by rfl) ?_
  refine ⟨.int .i64 0, fun W hW => ?_, ?_⟩
  · go_simp
    have E' := hW.env E
    exact (num_lit _).mono fun e W2 hc2 => ⟨hc2.1, hW.go hc2.2⟩
  refine hK _ ?_
  clear hK K
  (try simp only [Act.put, List.setIfInBounds_toArray, List.set_cons_zero, List.set_cons_succ])
  refine wpQuiet_step_h hlq ?_
  clear hlq lq
  intro K lq hlq hK
  refine wanted_go (by rfl) ?_
  refine ⟨?_, fun W hW => ?_, ?_⟩
  rotate_left
  · skip
    go_simp
    with_reducible rfl
  refine hK _ ?_
  clear hK K
  (try simp only [Act.put, List.setIfInBounds_toArray, List.set_cons_zero, List.set_cons_succ])
  refine wpQuiet_step_h hlq ?_
  clear hlq lq
  intro K lq hlq hK
  refine wanted_go (by rfl) ?_
  refine ⟨?_, fun W hW => ?_, ?_⟩
  rotate_left
  · skip
    go_simp
    with_reducible rfl
  refine hK _ ?_
  clear hK K
  (try simp only [Act.put, List.setIfInBounds_toArray, List.set_cons_zero, List.set_cons_succ])
  refine wpQuiet_step_h hlq ?_
  clear hlq lq
  intro K lq hlq hK
  refine wanted_go (by rfl) ?_
  refine ⟨?_, fun W hW => ?_, ?_⟩
  rotate_left
  · skip
    go_simp
    with_reducible rfl
  refine hK _ ?_
  clear hK K
  (try simp only [Act.put, List.setIfInBounds_toArray, List.set_cons_zero, List.set_cons_succ])
  refine wpQuiet_step_h hlq ?_
  clear hlq lq
  intro K lq hlq hK
  refine wanted_go (by rfl) ?_
  refine ⟨vA a, fun W hW => ?_, ?_⟩
  · skip
    exact quiet_load 42 _ rfl rfl (ldA (hW.all.get 5 (x := (V1.heap.size, oA a)) rfl) ha.out)
  refine hK _ ?_
  clear hK K
  (try simp only [Act.put, List.setIfInBounds_toArray, List.set_cons_zero, List.set_cons_succ])
  refine wpQuiet_step_h hlq ?_
  clear hlq lq
  intro K lq hlq hK
  refine wanted_go (by rfl) ?_
  refine ⟨.int .i64 4, fun W hW => ?_, ?_⟩
  · go_simp
    have E' := hW.env E
    exact (c7).mono fun e W2 hc2 => ⟨hc2.1, hW.go hc2.2⟩
  refine hK _ ?_
  clear hK K
  (try simp only [Act.put, List.setIfInBounds_toArray, List.set_cons_zero, List.set_cons_succ])
  refine wpQuiet_step_h hlq ?_
  clear hlq lq
  intro K lq hlq hK
  refine wanted_go (by rfl) ?_
  refine ⟨?_, fun W hW => ?_, ?_⟩
  rotate_left
  · skip
    go_simp
    with_reducible rfl
  refine hK _ ?_
  clear hK K
  (try simp only [Act.put, List.setIfInBounds_toArray, List.set_cons_zero, List.set_cons_succ])
  refine wpQuiet_step_h hlq ?_
  clear hlq lq
  intro K lq hlq hK
  refine wanted_go (by rfl) ?_
  refine ⟨?_, fun W hW => ?_, ?_⟩
  rotate_left
  · skip
    go_simp
    with_reducible rfl
  refine hK _ ?_
  clear hK K
  (try simp only [Act.put, List.setIfInBounds_toArray, List.set_cons_zero, List.set_cons_succ])
  refine wpQuiet_step_h hlq ?_
  clear hlq lq
  intro K lq hlq hK
  refine wanted_go (by rfl) ?_
  refine ⟨?_, fun W hW => ?_, ?_⟩
  rotate_left
  · skip
    go_simp
    with_reducible rfl
  refine hK _ ?_
  clear hK K
  (try simp only [Act.put, List.setIfInBounds_toArray, List.set_cons_zero, List.set_cons_succ])
  refine wpQuiet_step_h hlq ?_
  clear hlq lq
  intro K lq hlq hK
  refine wanted_go (by rfl) ?_
  refine ⟨vA b, fun W hW => ?_, ?_⟩
  · skip
    exact quiet_load 42 _ rfl rfl (ldA (hW.all.get 4 (x := (V6.heap.size, oA b)) rfl) hb.out)
  refine hK _ ?_
  clear hK K
  (try simp only [Act.put, List.setIfInBounds_toArray, List.set_cons_zero, List.set_cons_succ])
  refine wpQuiet_step_h hlq ?_
  clear hlq lq
  intro K lq hlq hK
  refine wanted_go (by rfl) ?_
  refine ⟨.string ⟨#[50, 48, 48, 49, 58, 100, 98, 56, 58, 58, 49, 58, 48, 58, 48, 58, 49]⟩, fun W hW => ?_, ?_⟩
  · go_simp
    have E' := hW.env E
    exact (c8 E').mono fun e W2 hc2 => ⟨hc2.1, hW.go hc2.2⟩
  refine hK _ ?_
  clear hK K
  (try simp only [Act.put, List.setIfInBounds_toArray, List.set_cons_zero, List.set_cons_succ])
  refine wpQuiet_step_h hlq ?_
  clear hlq lq
  intro K lq hlq hK
  refine wanted_go (by rfl) ?_
  refine ⟨?_, fun W hW => ?_, ?_⟩
  rotate_left
  · skip
    go_simp
    with_reducible rfl
  refine hK _ ?_
  clear hK K
  (try simp only [Act.put, List.setIfInBounds_toArray, List.set_cons_zero, List.set_cons_succ])
  refine wpQuiet_step_h hlq ?_
  clear hlq lq
  intro K lq hlq hK
  refine wanted_go (by rfl) ?_
  refine ⟨?_, fun W hW => ?_, ?_⟩
  rotate_left
  · skip
    go_simp
    with_reducible rfl
  refine hK _ ?_
  clear hK K
  (try simp only [Act.put, List.setIfInBounds_toArray, List.set_cons_zero, List.set_cons_succ])
  refine wpQuiet_step_h hlq ?_
  clear hlq lq
  intro K lq hlq hK
  refine wanted_go (by rfl) ?_
  refine ⟨?_, fun W hW => ?_, ?_⟩
  rotate_left
  · skip
    go_simp
    with_reducible rfl
  refine hK _ ?_
  clear hK K
  (try simp only [Act.put, List.setIfInBounds_toArray, List.set_cons_zero, List.set_cons_succ])
  refine wpQuiet_step_h hlq ?_
  clear hlq lq
  intro K lq hlq hK
  refine wanted_go (by rfl) ?_
  refine ⟨?_, fun W hW => ?_, ?_⟩
  rotate_left
  · skip
    go_simp
    with_reducible rfl
  refine hK _ ?_
  clear hK K
  (try simp only [Act.put, List.setIfInBounds_toArray, List.set_cons_zero, List.set_cons_succ])
  refine wpQuiet_step_h hlq ?_
  clear hlq lq
  intro K lq hlq hK
  refine wanted_go (by rfl) ?_
  refine ⟨?_, fun W hW => ?_, ?_⟩
  rotate_left
  · skip
    go_simp
    with_reducible rfl
  refine hK _ ?_
  clear hK K
  (try simp only [Act.put, List.setIfInBounds_toArray, List.set_cons_zero, List.set_cons_succ])
  refine wpQuiet_step_h hlq ?_
  clear hlq lq
  intro K lq hlq hK
  refine wanted_go (by rfl) ?_
  refine ⟨?_, fun W hW => ?_, ?_⟩
  rotate_left
  · skip
    go_simp
    with_reducible rfl
  refine hK _ ?_
  clear hK K
  (try simp only [Act.put, List.setIfInBounds_toArray, List.set_cons_zero, List.set_cons_succ])
  refine wpQuiet_step_h hlq ?_
  clear hlq lq
  intro K lq hlq hK
  refine wanted_go (by rfl) ?_
  refine ⟨?_, fun W hW => ?_, ?_⟩
  rotate_left
  · skip
    go_simp
    with_reducible rfl
  refine hK _ ?_
  clear hK K
  (try simp only [Act.put, List.setIfInBounds_toArray, List.set_cons_zero, List.set_cons_succ])
  refine wpQuiet_step_h hlq ?_
  clear hlq lq
  intro K lq hlq hK
  refine wanted_go (by rfl) ?_
  refine ⟨?_, fun W hW => ?_, ?_⟩
  rotate_left
  · skip
    go_simp
    with_reducible rfl
  refine hK _ ?_
  clear hK K
  (try simp only [Act.put, List.setIfInBounds_toArray, List.set_cons_zero, List.set_cons_succ])
  refine wpQuiet_step_h hlq ?_
  clear hlq lq
  intro K lq hlq hK
  refine wanted_go (by rfl) ?_
  refine ⟨?_, fun W hW => ?_, ?_⟩
  rotate_left
  · skip
    go_simp
    with_reducible rfl
  refine hK _ ?_
  clear hK K
  (try simp only [Act.put, List.setIfInBounds_toArray, List.set_cons_zero, List.set_cons_succ])
  refine wpQuiet_step_h hlq ?_
  clear hlq lq
  intro K lq hlq hK
  refine wanted_go (by rfl) ?_
  refine ⟨?_, fun W hW => ?_, ?_⟩
  rotate_left
  · skip
    go_simp
    with_reducible rfl
  refine hK _ ?_
  clear hK K
  (try simp only [Act.put, List.setIfInBounds_toArray, List.set_cons_zero, List.set_cons_succ])
  refine wpQuiet_step_h hlq ?_
  clear hlq lq
  intro K lq hlq hK
  refine wanted_go (by rfl) ?_
  refine ⟨?_, fun W hW => ?_, ?_⟩
  rotate_left
  · skip
    go_simp
    with_reducible rfl
  refine hK _ ?_
  clear hK K
  (try simp only [Act.put, List.setIfInBounds_toArray, List.set_cons_zero, List.set_cons_succ])
  refine wpQuiet_step_h hlq ?_
  clear hlq lq
  intro K lq hlq hK
  refine wanted_go (by rfl) ?_
  refine ⟨.int .i64 21, fun W hW => ?_, ?_⟩
  · go_simp
    have E' := hW.env E
    exact (num_lit _).mono fun e W2 hc2 => ⟨hc2.1, hW.go hc2.2⟩
  refine hK _ ?_
  clear hK K
  (try simp only [Act.put, List.setIfInBounds_toArray, List.set_cons_zero, List.set_cons_succ])
  refine wpQuiet_step_h hlq ?_
  clear hlq lq
  intro K lq hlq hK
  refine wanted_go (by rfl) ?_
  refine ⟨?_, fun W hW => ?_, ?_⟩
  rotate_left
  · skip
    go_simp
    with_reducible rfl
  refine hK _ ?_
  clear hK K
  (try simp only [Act.put, List.setIfInBounds_toArray, List.set_cons_zero, List.set_cons_succ])
  refine wpQuiet_step_h hlq ?_
  clear hlq lq
  intro K lq hlq hK
  refine wanted_go (by rfl) ?_
  refine ⟨?_, fun W hW => ?_, ?_⟩
  rotate_left
  · skip
    go_simp
    with_reducible rfl
  refine hK _ ?_
  clear hK K
  (try simp only [Act.put, List.setIfInBounds_toArray, List.set_cons_zero, List.set_cons_succ])
  refine wpQuiet_step_h hlq ?_
  clear hlq lq
  intro K lq hlq hK
  refine wanted_go (by rfl) ?_
  refine ⟨?_, fun W hW => ?_, ?_⟩
  rotate_left
  · skip
    go_simp
    with_reducible rfl
  refine hK _ ?_
  clear hK K
  (try simp only [Act.put, List.setIfInBounds_toArray, List.set_cons_zero, List.set_cons_succ])
  refine wpQuiet_step_h hlq ?_
  clear hlq lq
  intro K lq hlq hK
  refine wanted_go (by rfl) ?_
  refine ⟨?_, fun W hW => ?_, ?_⟩
  rotate_left
  · skip
    go_simp
    with_reducible rfl
  refine hK _ ?_
  clear hK K
  (try simp only [Act.put, List.setIfInBounds_toArray, List.set_cons_zero, List.set_cons_succ])
  refine wpQuiet_step_h hlq ?_
  clear hlq lq
  intro K lq hlq hK
  refine wanted_go (by rfl) ?_
  refine ⟨?_, fun W hW => ?_, ?_⟩
  rotate_left
  · skip
    go_simp
    with_reducible rfl
  refine hK _ ?_
  clear hK K
  (try simp only [Act.put, List.setIfInBounds_toArray, List.set_cons_zero, List.set_cons_succ])
  refine wpQuiet_step_h hlq ?_
  clear hlq lq
  intro K lq hlq hK
  refine wanted_go (by rfl) ?_
  refine ⟨.int .i64 p.d.n, fun W hW => ?_, ?_⟩
  · skip
    exact quiet_load 3 _ rfl rfl (ldPPdn (hW.all.get 3 (x := (V11.heap.size, oPP p)) rfl) hp.out)
  refine hK _ ?_
  clear hK K
  (try simp only [Act.put, List.setIfInBounds_toArray, List.set_cons_zero, List.set_cons_succ])
  refine wpQuiet_step_h hlq ?_
  clear hlq lq
  intro K lq hlq hK
  refine wanted_go (by rfl) ?_
  refine ⟨?_, fun W hW => ?_, ?_⟩
  rotate_left
  · skip
    go_simp
    with_reducible rfl
  refine hK _ ?_
  clear hK K
  (try simp only [Act.put, List.setIfInBounds_toArray, List.set_cons_zero, List.set_cons_succ])
  refine wpQuiet_step_h hlq ?_
  clear hlq lq
  intro K lq hlq hK
  refine wanted_go (by rfl) ?_
  refine ⟨?_, fun W hW => ?_, ?_⟩
  rotate_left
  · skip
    go_simp
    with_reducible rfl
  refine hK _ ?_
  clear hK K
  (try simp only [Act.put, List.setIfInBounds_toArray, List.set_cons_zero, List.set_cons_succ])
  refine wpQuiet_step_h hlq ?_
  clear hlq lq
  intro K lq hlq hK
  refine wanted_go (by rfl) ?_
  refine ⟨?_, fun W hW => ?_, ?_⟩
  rotate_left
  · skip
    go_simp
    with_reducible rfl
  refine hK _ ?_
  clear hK K
  (try simp only [Act.put, List.setIfInBounds_toArray, List.set_cons_zero, List.set_cons_succ])
  refine wpQuiet_step_h hlq ?_
  clear hlq lq
  intro K lq hlq hK
  refine wanted_go (by rfl) ?_
  refine ⟨vA a, fun W hW => ?_, ?_⟩
  · skip
    exact quiet_load 42 _ rfl rfl (ldA (hW.all.get 5 (x := (V1.heap.size, oA a)) rfl) ha.out)
  refine hK _ ?_
  clear hK K
  (try simp only [Act.put, List.setIfInBounds_toArray, List.set_cons_zero, List.set_cons_succ])
  refine wpQuiet_step_h hlq ?_
  clear hlq lq
  intro K lq hlq hK
  refine wanted_go (by rfl) ?_
  refine ⟨vA b, fun W hW => ?_, ?_⟩
  · skip
    exact quiet_load 42 _ rfl rfl (ldA (hW.all.get 4 (x := (V6.heap.size, oA b)) rfl) hb.out)
  refine hK _ ?_
  clear hK K
  (try simp only [Act.put, List.setIfInBounds_toArray, List.set_cons_zero, List.set_cons_succ])
  refine wpQuiet_step_h hlq ?_
  clear hlq lq
  intro K lq hlq hK
  refine wanted_go (by rfl) ?_
  refine ⟨.int .i64 (-1), fun W hW => ?_, ?_⟩
  · go_simp
    have E' := hW.env E
    exact (c9).mono fun e W2 hc2 => ⟨hc2.1, hW.go hc2.2⟩
  refine hK _ ?_
  clear hK K
  (try simp only [Act.put, List.setIfInBounds_toArray, List.set_cons_zero, List.set_cons_succ])
  refine wpQuiet_step_h hlq ?_
  clear hlq lq
  intro K lq hlq hK
  refine wanted_go (by rfl) ?_
  refine ⟨?_, fun W hW => ?_, ?_⟩
  rotate_left
  · skip
    go_simp
    with_reducible rfl
  refine hK _ ?_
  clear hK K
  (try simp only [Act.put, List.setIfInBounds_toArray, List.set_cons_zero, List.set_cons_succ])
  refine wpQuiet_step_h hlq ?_
  clear hlq lq
  intro K lq hlq hK
  refine wanted_go (by rfl) ?_
  refine ⟨?_, fun W hW => ?_, ?_⟩
  rotate_left
  · skip
    go_simp
    with_reducible rfl
  refine hK _ ?_
  clear hK K
  (try simp only [Act.put, List.setIfInBounds_toArray, List.set_cons_zero, List.set_cons_succ])
  refine wpQuiet_step_h hlq ?_
  clear hlq lq
  intro K lq hlq hK
  refine wanted_go (by rfl) ?_
  refine ⟨?_, fun W hW => ?_, ?_⟩
  rotate_left
  · skip
    go_simp
    with_reducible rfl
  refine hK _ ?_
  clear hK K
  (try simp only [Act.put, List.setIfInBounds_toArray, List.set_cons_zero, List.set_cons_succ])
  refine wpQuiet_nil_h hlq ?_
  clear hlq lq hV30
  intro V31 hV32
  go_wp2_with fail
  go_ret
  exact ⟨rfl, hV32.bel⟩
end Go.Proofs.YtnljjlaececnkaaGreatDoor
